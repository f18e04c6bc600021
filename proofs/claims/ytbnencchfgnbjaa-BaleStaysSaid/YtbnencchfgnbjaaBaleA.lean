/- The law's function awake of layer 4 answers true. No condition. -/
import Derived.Test.YtbnencchfgnbjaaBaleE
set_option linter.unusedSimpArgs false
set_option linter.unusedVariables false
namespace Go.Proofs.Ytbnencchfgnbjaa
open Go.RowKit
attribute [local go_sem] extract_mid extract_drop bget bsize wrap64_u8 i64_u8 u64_u8 bappend

theorem enc300 (w : World) : Calls Try.prog 21 #[.int .u64 300] w fun r w' => r = .returned (.string ⟨#[2, 1, 44]⟩) ∧ Ch [] w w' := by
  have h := encNum_any 300 (by omega) w
  have e : encNum 300 = [2, 1, 44] := by decide
  rw [e] at h
  exact h
theorem num201 {b : Nat} {w : World} (hB : Bal w b [2, 0, 1] 0) :
    Calls Try.prog 18 #[.pointer (some ⟨b, 0, none⟩)] w fun r w' => r = .returned (.int .u64 0) ∧ Bal w' b [] 2 ∧ Ch [b] w w' := num_any hB
theorem open201 (w : World) : Calls Try.prog 16 #[.string ⟨#[2, 0, 1]⟩] w fun r w' => ∃ b, r = .returned (.pointer (some ⟨b, 0, none⟩)) ∧ Bal w' b [2, 0, 1] 0 ∧ w.heap.size ≤ b ∧ Ch [] w w' :=
  (open_any [2, 0, 1] w).mono fun r w' ⟨h1, h2, h3⟩ => ⟨_, h1, h2, Nat.le_refl _, h3⟩
theorem strs2 (w : World) (g : Nat) (hB : Blk w g 9 #[.string ⟨#[97]⟩, .string ⟨#[]⟩]) :
    Calls Try.prog 26 #[.slice (some ⟨g, 0, none⟩) 2 2] w fun r w' => r = .returned (.string ⟨#[1, 1, 97, 0]⟩) ∧ Ch [] w w' := by
  have h := encStrs_any [[97], []] (some ⟨g, 0, none⟩) 2 2 (by simp) (by omega) w (Rd.of_blk (n := 2) hB rfl)
  have e : encStrs [[97], []] = [1, 1, 97, 0] := by decide
  rw [e] at h
  exact h
theorem awake04 (w : World) : Calls Try.prog 17 #[] w fun r w' => r = .returned (.bool true) ∧ Ch [] w w' := by
  go_enter Try.func17, Try.ntmps17
  go_wp2_with fail
  refine (open201 _).mono ?_
  rintro r w1 ⟨b, rfl, hB1, hlt, hC1⟩
  go_wp2_with fail
  refine (enc300 _).mono ?_
  rintro r w2 ⟨rfl, hC2⟩
  go_wp2_with fail
  refine (num201 (Blk.ch0 hB1 hC2)).mono ?_
  rintro r w3 ⟨rfl, hB3, hC3⟩
  go_wp2_with fail
  refine (err_any hB3).mono ?_
  rintro r w4 ⟨rfl, rfl⟩
  go_wp2_with fail
  refine (strs2 _ _ (Blk.new _ _ _)).mono ?_
  rintro r w4 ⟨rfl, hC4⟩
  go_wp2
  go_ret
  exact ⟨rfl, (((hC1.then_ hC2).one hC3 (.inr hlt)).alloc _).then_ hC4⟩
end Go.Proofs.Ytbnencchfgnbjaa
