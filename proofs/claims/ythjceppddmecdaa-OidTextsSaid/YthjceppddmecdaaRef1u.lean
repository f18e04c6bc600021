/- The reference's sum, handed a text as parts. No condition but that not too many bytes come. -/
import Derived.Test.YthjceppddmecdaaRef1o
set_option linter.unusedSimpArgs false
set_option linter.unusedVariables false
namespace Go.Proofs.Ythjceppddmecdaa
open Go.RowKit
attribute [local go_sem] extract_mid extract_drop bget bsize wrap64_u8 i64_u8 u64_u8 bappend
theorem rOf_cat {F : List SProp} (x : List UInt8) (hl : x.length ≤ 1000000000000) (w : World) (hM : Star F w) :
    Calls Try.prog 60 #[.string ⟨x.toArray⟩] w fun r w' => r = .returned (.string ⟨(sha (cat [x])).toArray⟩) ∧ Star F w' := by
  rw [cat_one]; exact rOf_star x hl w hM
end Go.Proofs.Ythjceppddmecdaa
