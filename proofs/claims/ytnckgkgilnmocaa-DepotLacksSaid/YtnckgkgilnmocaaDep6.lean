/- What the laws share, part 6 (IdT). No condition but those that each theorem names. -/
import Derived.Test.YtnckgkgilnmocaaDep5
set_option linter.unusedSimpArgs false
set_option linter.unusedVariables false
namespace Go.Proofs.Ytnckgkgilnmocaa
open Go.RowKit
attribute [local go_sem] extract_mid extract_drop bget bsize wrap64_u8 i64_u8 u64_u8 bappend
section
variable {F L R : List SProp}
set_option maxRecDepth 100000 in
set_option maxHeartbeats 16000000 in
theorem pdq_ids {g n c : Nat} {lim : Int} {l : List (List UInt8)} {sp : List Value} (hl : ∀ x ∈ l, x.length = 32) (hn : l.length = n) (hn12 : n ≤ 12) (w : World) (hM : Star (cellsE g idT (idvs l ++ sp).toArray :: F) w) :
    Calls Try.prog 100 #[.slice (some ⟨g, 0, none⟩) n c, .int .i64 0, .int .i64 (n : Int), .int .i64 lim, cmpF] w fun r w' => r = .returned (.tuple #[]) ∧ ∃ l', l'.Perm l ∧ Star (cellsE g idT (idvs l' ++ sp).toArray :: F) w' := by
  have HI : Hid (∀ (w : World), Star (cellsE g idT (idvs l ++ sp).toArray :: F) w → Calls Try.prog 108 #[.slice (some ⟨g, 0, none⟩) n c, .int .i64 0, .int .i64 (n : Int), cmpF] w fun r w' => r = .returned (.tuple #[]) ∧ ∃ l', l'.Perm l ∧ Star (cellsE g idT (idvs l' ++ sp).toArray :: F) w') := fun w hM => insert_ids hl hn hn12 w hM
  clear hl hn
  have h12 : (n : Int) ≤ 12 := by omega
  go_enter Try.func100, Try.ntmps100
  go_wp2_with fail
  go_loopw [1, 2, 3] (fun a b m wr => a = .int .i64 0 ∧ b = .int .i64 (n : Int) ∧ m = .int .i64 lim ∧ Star (cellsE g idT (idvs l ++ sp).toArray :: F) wr) (fun _ _ _ _ => 0)
  case atStart => exact ⟨rfl, rfl, rfl, hM⟩
  case round =>
    clear hM
    obtain ⟨rfl, rfl, rfl, hM⟩ := hrel
    go_wp2_with (first | (go_at_call 108; have hM0 := hM; clear hM; (first | (with_reducible refine (HI.out _ hM0).mono ?_) | fail); clear hM0; rintro _ w ⟨rfl, l', hp, hM⟩))
    refine bodyPost_ret (results_none rfl _ _ _) rfl ?_
    exact ⟨rfl, l', hp, hM⟩
set_option maxRecDepth 100000 in
theorem len64_small (n : Nat) (hn : n ≤ 12) (w : World) : Calls Try.prog 117 #[.int .u64 (n : Int)] w fun r w' => ∃ v : Int, r = .returned (.int .i64 v) ∧ w = w' := by
  obtain rfl | rfl | rfl | rfl | rfl | rfl | rfl | rfl | rfl | rfl | rfl | rfl | rfl : n = 0 ∨ n = 1 ∨ n = 2 ∨ n = 3 ∨ n = 4 ∨ n = 5 ∨ n = 6 ∨ n = 7 ∨ n = 8 ∨ n = 9 ∨ n = 10 ∨ n = 11 ∨ n = 12 := by omega
  all_goals
    go_enter Try.func117, Try.ntmps117
    go_wp2_with fail
    go_ret
    exact ⟨_, rfl, rfl⟩
set_option maxRecDepth 100000 in
theorem len_small (n : Nat) (hn : n ≤ 12) (w : World) : Calls Try.prog 101 #[.int .u64 (n : Int)] w fun r w' => ∃ v : Int, r = .returned (.int .i64 v) ∧ w = w' := by
  have H := Lib.hid (len64_small n hn)
  go_enter Try.func101, Try.ntmps101
  go_wp2_with (first | (go_at_call 117; refine (H.out _).mono ?_; rintro _ _ ⟨v, rfl, rfl⟩))
  go_ret
  exact ⟨v, rfl, rfl⟩
set_option maxRecDepth 100000 in
theorem sort_ids {g n c : Nat} {l : List (List UInt8)} {sp : List Value} (hl : ∀ x ∈ l, x.length = 32) (hn : l.length = n) (hn12 : n ≤ 12) (w : World) (hM : Star (cellsE g idT (idvs l ++ sp).toArray :: F) w) :
    Calls Try.prog 86 #[.slice (some ⟨g, 0, none⟩) n c, cmpF] w fun r w' => r = .returned (.tuple #[]) ∧ ∃ l', l'.Perm l ∧ Star (cellsE g idT (idvs l' ++ sp).toArray :: F) w' := by
  have HI : Hid (∀ (lim : Int) (w : World), Star (cellsE g idT (idvs l ++ sp).toArray :: F) w → Calls Try.prog 100 #[.slice (some ⟨g, 0, none⟩) n c, .int .i64 0, .int .i64 (n : Int), .int .i64 lim, cmpF] w fun r w' => r = .returned (.tuple #[]) ∧ ∃ l', l'.Perm l ∧ Star (cellsE g idT (idvs l' ++ sp).toArray :: F) w') := fun lim w hM => pdq_ids hl hn hn12 w hM
  have HB := Lib.hid (len_small n hn12)
  have hw : IntKind.u64.wrap (n : Int) = (n : Int) := by rw [IntKind.wrap_u64]; omega
  clear hl hn
  go_enter Try.func86, Try.ntmps86
  go_wp2_with (first | (go_at_call 101; refine (HB.out _).mono ?_; rintro _ _ ⟨v, rfl, rfl⟩) | (go_at_call 100; have hM0 := hM; clear hM; (first | (with_reducible refine (HI.out _ _ hM0).mono ?_) | fail); clear hM0; rintro _ w ⟨rfl, l', hp, hM⟩))
  go_end0
  exact ⟨rfl, l', hp, hM⟩
end
end Go.Proofs.Ytnckgkgilnmocaa
