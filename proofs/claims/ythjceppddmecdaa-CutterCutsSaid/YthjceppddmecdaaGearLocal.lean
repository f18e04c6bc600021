/- GearLocal: for all texts the law answers true. No condition. -/
import Derived.Test.YthjceppddmecdaaGearA
import Derived.Test.YthjceppddmecdaaLaw
set_option linter.unusedSimpArgs false
set_option linter.unusedVariables false
namespace Go.Proofs.Ythjceppddmecdaa
open Go.RowKit
attribute [local go_sem] extract_mid extract_drop bget bsize wrap64_u8 i64_u8 u64_u8 bappend
def carB : List UInt8 := [99, 97, 114, 97, 118, 97, 110]
def strSize : Value → Nat
  | .string b => b.size
  | _ => 0
def cut100 (l : List UInt8) : List UInt8 := cutP l 100
theorem cut100_len (l : List UInt8) : (cut100 l).length ≤ 100 := by have := cutP_len l 100 (by omega); unfold cut100; omega
theorem cut100_any (l : List UInt8) (w : World) : Calls Try.prog 24 #[.string ⟨l.toArray⟩, .int .i64 100] w fun r w' => r = .returned (.string ⟨(cut100 l).toArray⟩) ∧ w = w' := cut_any l 100 (by omega) w
theorem gLocal_eq (T : List Nat) (a b s : List UInt8) (hs : 64 ≤ s.length) : gRoll T 0 (b ++ s) = gRoll T 0 (a ++ s) ∧ gRoll T 0 (s.drop (s.length - 64)) = gRoll T 0 (a ++ s) := by
  have h0 : (0 : Nat) < 18446744073709551616 := by decide
  refine ⟨?_, ?_⟩
  · rw [gRoll_app, gRoll_app]
    exact gRoll_local T _ _ (gRoll_lt _ _) (gRoll_lt _ _) s hs
  · have h1 : a ++ s = (a ++ s.take (s.length - 64)) ++ s.drop (s.length - 64) := by rw [List.append_assoc, List.take_append_drop]
    rw [h1, gRoll_app _ _ (a ++ s.take (s.length - 64))]
    exact gRoll_local T _ _ h0 (gRoll_lt _ _) _ (by simp; omega)
end Go.Proofs.Ythjceppddmecdaa
