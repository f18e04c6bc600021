/- The walks of package bale's methods that take, second half: Int, Str, ID, IDs. No condition but that the receiver is a bale. -/
import Derived.Test.YtbnencchfgnbjaaBaleW
import Derived.Test.YtbnencchfgnbjaaArr
set_option linter.unusedSimpArgs false
set_option linter.unusedVariables false
namespace Go.Proofs.Ytbnencchfgnbjaa
open Go.RowKit
attribute [local go_sem] extract_mid extract_drop bget bsize wrap64_u8 i64_u8 u64_u8 bappend
set_option maxRecDepth 100000 in
theorem int_err {b : Nat} {l u : List UInt8} {e f top : Int} {n : Nat} {w : World} (hB : Bal w b l e) (hm : mNum l e = (n, u, f)) (hf : (f != 0) = true) :
    Calls Try.prog 41 #[.pointer (some ⟨b, 0, none⟩), .int .i64 top] w fun r w' => r = .returned (.int .i64 0) ∧ Bal w' b u f ∧ Ch [b] w w' := by
  have HM := Lib.hid hm
  have hf2 : (f == 0) = false := by simpa using hf
  clear hm
  go_enter Try.func41, Try.ntmps41
  go_wp2_with fail
  refine (num_any hB).mono ?_
  rw [HM.out]
  rintro r w1 ⟨rfl, hB1, hC1⟩
  obtain ⟨d0, d1, g0, g1⟩ := hB1.facts
  go_wp2
  go_ret
  exact ⟨rfl, hB1, hC1⟩
set_option maxRecDepth 100000 in
theorem int_ok {b : Nat} {l u : List UInt8} {e top : Int} {n : Nat} {w : World} (hB : Bal w b l e) (hm : mNum l e = (n, u, 0)) (ht : top ≤ 9223372036854775807) (hn : (n : Int) ≤ max top 0) :
    Calls Try.prog 41 #[.pointer (some ⟨b, 0, none⟩), .int .i64 top] w fun r w' => r = .returned (.int .i64 n) ∧ Bal w' b u 0 ∧ Ch [b] w w' := by
  have HM := Lib.hid hm
  have h1 : max top 0 ≤ 9223372036854775807 := by omega
  have h2 : 0 ≤ max top 0 := by omega
  clear hm
  go_enter Try.func41, Try.ntmps41
  go_wp2_with fail
  refine (num_any hB).mono ?_
  rw [HM.out]
  rintro r w1 ⟨rfl, hB1, hC1⟩
  obtain ⟨d0, d1, g0, g1⟩ := hB1.facts
  go_wp2
  all_goals
    go_ret
    exact ⟨rfl, hB1, hC1⟩
set_option maxRecDepth 100000 in
theorem int_big {b : Nat} {l u : List UInt8} {e top : Int} {n : Nat} {w : World} (hB : Bal w b l e) (hm : mNum l e = (n, u, 0)) (ht : top ≤ 9223372036854775807) (hn : max top 0 < (n : Int)) :
    Calls Try.prog 41 #[.pointer (some ⟨b, 0, none⟩), .int .i64 top] w fun r w' => r = .returned (.int .i64 0) ∧ Bal w' b [] 5 ∧ Ch [b] w w' := by
  have HM := Lib.hid hm
  have h1 : max top 0 ≤ 9223372036854775807 := by omega
  have h2 : 0 ≤ max top 0 := by omega
  clear hm
  go_enter Try.func41, Try.ntmps41
  go_wp2_with fail
  refine (num_any hB).mono ?_
  rw [HM.out]
  rintro r w1 ⟨rfl, hB1, hC1⟩
  obtain ⟨d0, d1, g0, g1⟩ := hB1.facts
  go_wp2_with fail
  all_goals
    refine (fail_any hB1 5).mono ?_
    rintro r w2 ⟨rfl, hB2, hC2⟩
    have hB2 : Bal w2 b [] 5 := hB2
    obtain ⟨k0, k1, m0, m1⟩ := hB2.facts
    go_wp2
    go_ret
    exact ⟨rfl, hB2, hC1.trans hC2⟩
theorem int_any {b : Nat} {l : List UInt8} {e : Int} {w : World} (hB : Bal w b l e) (top : Int) (ht : top ≤ 9223372036854775807) :
    Calls Try.prog 41 #[.pointer (some ⟨b, 0, none⟩), .int .i64 top] w fun r w' => r = .returned (.int .i64 (mInt l e top).1) ∧ Bal w' b (mInt l e top).2.1 (mInt l e top).2.2 ∧ Ch [b] w w' := by
  obtain ⟨n, u, f, hm⟩ : ∃ n u f, mNum l e = (n, u, f) := ⟨_, _, _, rfl⟩
  unfold mInt
  rw [hm]
  simp only
  by_cases hf : f = 0
  · subst hf
    rw [if_pos rfl]
    by_cases hb : max top 0 < (n : Int)
    · rw [if_pos hb]; exact int_big hB hm ht hb
    · rw [if_neg hb]; exact int_ok hB hm ht (by omega)
  · rw [if_neg hf]
    exact int_err hB hm (by simpa using hf)
theorem str_any {b : Nat} {l : List UInt8} {e : Int} {w : World} (hB : Bal w b l e) (top : Int) (ht : top ≤ 9223372036854775807) :
    Calls Try.prog 42 #[.pointer (some ⟨b, 0, none⟩), .int .i64 top] w fun r w' => r = .returned (.string ⟨(mStr l e top).1.toArray⟩) ∧ Bal w' b (mStr l e top).2.1 (mStr l e top).2.2 ∧ Ch [b] w w' := by
  go_enter Try.func42, Try.ntmps42
  go_wp2_with fail
  refine (int_any hB top ht).mono ?_
  rintro r w1 ⟨rfl, hB1, hC1⟩
  go_wp2_with fail
  refine (bytes_any hB1 _).mono ?_
  rintro r w2 ⟨rfl, hB2, hC2⟩
  go_wp2
  go_ret
  exact ⟨rfl, hB2, hC1.trans hC2⟩
end Go.Proofs.Ytbnencchfgnbjaa
