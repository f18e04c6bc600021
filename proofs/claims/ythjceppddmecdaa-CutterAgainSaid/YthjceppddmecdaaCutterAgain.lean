/- CutterAgain: for all texts and numbers the law answers true. No condition. -/
import Derived.Test.YthjceppddmecdaaCut8b
set_option linter.unusedSimpArgs false
set_option linter.unusedVariables false
namespace Go.Proofs.Ythjceppddmecdaa
open Go.RowKit
attribute [local go_sem] extract_mid extract_drop bget bsize wrap64_u8 i64_u8 u64_u8 bappend
def cut200 (l : List UInt8) : List UInt8 := cutP l 200
theorem cut200_len (l : List UInt8) : (cut200 l).length ≤ 200 := by have := cutP_len l 200 (by omega); unfold cut200; omega
theorem cut200_any (l : List UInt8) (w : World) : Calls Try.prog 24 #[.string ⟨l.toArray⟩, .int .i64 200] w fun r w' => r = .returned (.string ⟨(cut200 l).toArray⟩) ∧ w = w' := cut_any l 200 (by omega) w
end Go.Proofs.Ythjceppddmecdaa
