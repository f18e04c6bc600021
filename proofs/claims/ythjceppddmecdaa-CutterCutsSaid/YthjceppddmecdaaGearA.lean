/- The walks of gear's All and of the reference's number, One, All; the law's awake of layer 7. No condition but sizes. -/
import Derived.Test.YthjceppddmecdaaGear
import Derived.Test.YthjceppddmecdaaRef4
set_option linter.unusedSimpArgs false
set_option linter.unusedVariables false
namespace Go.Proofs.Ythjceppddmecdaa
open Go.RowKit
attribute [local go_sem] extract_mid extract_drop bget bsize wrap64_u8 i64_u8 u64_u8 bappend
attribute [local go_sem] gStep_eq
theorem ret_u64 {a b : Nat} (h : a = b) : Ending.returned (Value.int .u64 (a : Int)) = .returned (.int .u64 (b : Int)) := by rw [h]
theorem awake_roll : gRoll (gTab []) 0 [120] = gOne [] 120 := by
  show gStep (gTab []) 0 120 = _
  rw [gStep, List.getD_eq_getElem?_getD, gTab_byte]
  have := gOne_lt [] 120
  simp only [Option.getD_some]
  omega
theorem clamp2 : clampN 2 = 2 := by decide
theorem msk2 : msk 2 = 10376293541461622784 := by decide +kernel
end Go.Proofs.Ythjceppddmecdaa
