/- What the laws share, part 6 (MerS, MerT, MerU, Func, Round, MerV, MerX, MerY, MerB). No condition but those that each theorem names. -/
import Derived.Test.YtlhedbjjlomniaaW1
import Derived.Test.YtlhedbjjlomniaaW5
import Derived.BigFrameIn
import Derived.LoopIn
import Derived.OrdersIn
import Derived.OwnWalkIn
import Derived.RangeFuncIn
import Derived.RangeFuncLeaves
import Derived.RangeFuncSeq
import Derived.TacticsInMore
set_option linter.unusedSimpArgs false
set_option linter.unusedVariables false
namespace Go.Proofs.Ytlhedbjjlomniaa
open Go.RowKit
attribute [local go_sem] extract_mid extract_drop bget bsize wrap64_u8 i64_u8 u64_u8 bappend
def qcs (p : Pt) : List Value := [sv p.1, iv p.2]
def qvs (l : List Pt) : List Value := l.flatMap qcs
theorem qcs_len (p : Pt) : (qcs p).length = 2 := rfl
theorem qvs_app (a b : List Pt) : qvs (a ++ b) = qvs a ++ qvs b := by simp [qvs]
theorem qvs_cells (l : List Pt) : ∀ v ∈ qvs l, v.oneCell' = true := by
  intro u hu
  obtain ⟨c, _, h⟩ := List.mem_flatMap.1 hu
  simp only [qcs, List.mem_cons, List.not_mem_nil, or_false] at h
  rcases h with rfl | rfl <;> rfl
theorem qvs_row {w : World} {A : Option Addr} {n : Nat} {l : List Pt} (h : Rd w 2 A n (qvs l)) : l.length = n := by
  have := flat_len qcs 2 l fun x hx => qcs_len x
  have h2 := h.1
  unfold qvs at h2
  omega
abbrev qtC (id : List UInt8) (x : Int) : Array Value := #[.string ⟨id.toArray⟩, .int .i64 x]
theorem info_qt : (Try.prog.info? 69).map (fun i => i.zero) = some (some (.agg (qtC [] 0))) := by kernel_rfl
def pw : Nat → Int
  | 0 => 256
  | k + 1 => pw k * 8
theorem pw_le {k : Nat} (h : k ≤ 7) : 256 ≤ pw k ∧ pw k ≤ 536870912 := by
  rcases (by omega : k = 0 ∨ k = 1 ∨ k = 2 ∨ k = 3 ∨ k = 4 ∨ k = 5 ∨ k = 6 ∨ k = 7) with rfl | rfl | rfl | rfl | rfl | rfl | rfl | rfl <;> decide
theorem pw_most {k : Nat} (h : k ≤ 7) : (if pw k < 32768 then pw k else 32768) = mostN ((k : Int) + 1) := by
  rcases (by omega : k = 0 ∨ k = 1 ∨ k = 2 ∨ k = 3 ∨ k = 4 ∨ k = 5 ∨ k = 6 ∨ k = 7) with rfl | rfl | rfl | rfl | rfl | rfl | rfl | rfl <;> decide
theorem rmost_any (lv : Int) (h1 : 1 ≤ lv) (h2 : lv ≤ 8) (w : World) : Calls Try.prog 101 #[.int .i64 lv] w fun r w' => r = .returned (.int .i64 (mostN lv)) ∧ w = w' := by
  obtain ⟨m, rfl⟩ : ∃ m : Nat, lv = (m : Int) + 1 := ⟨(lv - 1).toNat, by omega⟩
  have hm : m ≤ 7 := by omega
  have HPM := Lib.hid (pw_most hm)
  have hpm := pw_le hm
  go_enter Try.func101, Try.ntmps101
  go_wp2
  go_loopw [3, 4] (fun v i wr => ∃ (k : Nat) (y : Int), k ≤ m ∧ i = .int .i64 ((k : Int) + 1) ∧ v = .int .i64 y ∧ Hid (y = pw k) ∧ 256 ≤ y ∧ y ≤ 536870912 ∧ w = wr) (fun _ i _ => m + 1 - (intOf i).toNat)
  case atStart => exact ⟨0, 256, by omega, rfl, rfl, by show _ = _; rfl, by omega, by omega, rfl⟩
  case round =>
    obtain ⟨k, y, hk, rfl, rfl, HY, hy1, hy2, rfl⟩ := hrel
    by_cases hlt : k < m
    · have hy4 := pw_le (show k + 1 ≤ 7 by omega)
      have HY3 : Hid (y * 8 = pw (k + 1)) := by show _ = _; rw [HY.out]; rfl
      have hy5 := HY3.out
      rw [← hy5] at hy4
      clear hy5
      go_wp2
      go_roundw
      case rel => exact ⟨k + 1, y * 8, by omega, by go_num, (by first | rfl | (congr 1; omega)), HY3.out, hy4.1, hy4.2, (by first | rfl | trivial)⟩
      case measure => simp [intOf]; omega
    · obtain rfl : k = m := by omega
      go_wp2
      all_goals
        go_ret
        exact ⟨ret_int (by rw [← HPM.out, ← HY.out]; split <;> omega), (by first | rfl | trivial)⟩
set_option maxRecDepth 100000 in
set_option maxHeartbeats 4000000 in
theorem rncheck_star {F : List SProp} (lv : Int) (A : Option Addr) (n c : Nat) (l : List Pt) (hb : ∀ p ∈ l, 0 ≤ p.2 ∧ p.2 ≤ 1000000) (hn : n ≤ 1000) (w : World) (hM : Star F w) (hF : rowE 2 A n (qvs l) ∈ F) :
    Calls Try.prog 75 #[.agg (ndC lv A n c)] w fun r w' => r = .returned (.int .i64 (checkN (lv, l))) ∧ Star F w' := by
  have hlen := qvs_row (hM.row hF)
  unfold checkN
  simp only
  rw [hlen]
  by_cases h1 : lv < 1
  · rw [if_pos (.inl h1)]
    have b1 : decide (lv < 1) = true := by simpa using h1
    clear hb hlen
    go_enter Try.func75, Try.ntmps75
    go_wp2_with (first | (first | ((with_reducible refine at_box' ?_); (have hM0 := hM; clear hM; refine BigFrame.wpList_want (by rfl) fun K hK => ws_box hM0 rfl rfl (cs := ndC lv A n c) rfl (fun gx w hM => hK _ _ ?_); clear hM0 hK K)) | fail) | (first | ((with_reducible refine at_load' ?_); (refine BigFrame.wpList_want (by rfl) fun K hK => ws_load1 hM rfl rfl (by (repeat (first | assumption | (with_reducible exact mZ) | apply mS)); first | done | fail) (by first | rfl | assumption) (by decide +kernel) (hK _ _ ?_); clear hK K)) | fail))
    go_ret
    exact ⟨rfl, hM.sel (by repeat (first | (with_reducible exact Sel.refl) | (with_reducible exact Take.head) | (with_reducible apply Take.tail) | (with_reducible apply Sel.cons) | (with_reducible apply Sel.drop)))⟩
  have b1 : decide (lv < 1) = false := by simpa using h1
  by_cases h2 : 8 < lv
  · rw [if_pos (.inr (.inl h2))]
    have b2 : decide (8 < lv) = true := by simpa using h2
    clear hb hlen
    go_enter Try.func75, Try.ntmps75
    go_wp2_with (first | (first | ((with_reducible refine at_box' ?_); (have hM0 := hM; clear hM; refine BigFrame.wpList_want (by rfl) fun K hK => ws_box hM0 rfl rfl (cs := ndC lv A n c) rfl (fun gx w hM => hK _ _ ?_); clear hM0 hK K)) | fail) | (first | ((with_reducible refine at_load' ?_); (refine BigFrame.wpList_want (by rfl) fun K hK => ws_load1 hM rfl rfl (by (repeat (first | assumption | (with_reducible exact mZ) | apply mS)); first | done | fail) (by first | rfl | assumption) (by decide +kernel) (hK _ _ ?_); clear hK K)) | fail))
    go_ret
    exact ⟨rfl, hM.sel (by repeat (first | (with_reducible exact Sel.refl) | (with_reducible exact Take.head) | (with_reducible apply Take.tail) | (with_reducible apply Sel.cons) | (with_reducible apply Sel.drop)))⟩
  have b2 : decide (8 < lv) = false := by simpa using h2
  by_cases h3 : n < 1
  · rw [if_pos (.inr (.inr h3))]
    obtain rfl : n = 0 := by omega
    clear hb hlen
    go_enter Try.func75, Try.ntmps75
    go_wp2_with (first | (first | ((with_reducible refine at_box' ?_); (have hM0 := hM; clear hM; refine BigFrame.wpList_want (by rfl) fun K hK => ws_box hM0 rfl rfl (cs := ndC lv A 0 c) rfl (fun gx w hM => hK _ _ ?_); clear hM0 hK K)) | fail) | (first | ((with_reducible refine at_load' ?_); (refine BigFrame.wpList_want (by rfl) fun K hK => ws_load1 hM rfl rfl (by (repeat (first | assumption | (with_reducible exact mZ) | apply mS)); first | done | fail) (by first | rfl | assumption) (by decide +kernel) (hK _ _ ?_); clear hK K)) | fail))
    go_ret
    exact ⟨rfl, hM.sel (by repeat (first | (with_reducible exact Sel.refl) | (with_reducible exact Take.head) | (with_reducible apply Take.tail) | (with_reducible apply Sel.cons) | (with_reducible apply Sel.drop)))⟩
  rw [if_neg (by omega)]
  have b3 : (n == 0) = false := by simp; omega
  have b3' : ¬ (n = 0) := by omega
  by_cases h4 : 8 < n
  · rw [if_pos h4]
    have b4 : decide (8 < (n : Int)) = true := by simp; omega
    clear hb hlen
    go_enter Try.func75, Try.ntmps75
    go_wp2_with (first | (first | ((with_reducible refine at_box' ?_); (have hM0 := hM; clear hM; refine BigFrame.wpList_want (by rfl) fun K hK => ws_box hM0 rfl rfl (cs := ndC lv A n c) rfl (fun gx w hM => hK _ _ ?_); clear hM0 hK K)) | fail) | (first | ((with_reducible refine at_load' ?_); (refine BigFrame.wpList_want (by rfl) fun K hK => ws_load1 hM rfl rfl (by (repeat (first | assumption | (with_reducible exact mZ) | apply mS)); first | done | fail) (by first | rfl | assumption) (by decide +kernel) (hK _ _ ?_); clear hK K)) | fail))
    go_ret
    exact ⟨rfl, hM.sel (by repeat (first | (with_reducible exact Sel.refl) | (with_reducible exact Take.head) | (with_reducible apply Take.tail) | (with_reducible apply Sel.cons) | (with_reducible apply Sel.drop)))⟩
  rw [if_neg h4]
  have b4 : decide (8 < (n : Int)) = false := by simp; omega
  have HL := Lib.hid hlen
  have HB := Lib.hid hb
  have HMO := Lib.hid (rmost_any lv (by omega) (by omega))
  have hmo := mostN_le lv
  generalize mostN lv = mo at HMO hmo ⊢
  obtain ⟨V, hV⟩ : ∃ V, (if firstBad mo l ≠ 0 then firstBad mo l else if 32768 < sumP l then 5 else 0) = V := ⟨_, rfl⟩
  rw [hV]
  have HV := Lib.hid hV
  clear hV hlen hb h1 h2 h3
  go_enter Try.func75, Try.ntmps75
  go_wp2_with (first | (first | ((with_reducible refine at_box' ?_); (have hM0 := hM; clear hM; refine BigFrame.wpList_want (by rfl) fun K hK => ws_box hM0 rfl rfl (cs := ndC lv A n c) rfl (fun gx w hM => hK _ _ ?_); clear hM0 hK K)) | fail) | (first | ((with_reducible refine at_load' ?_); (refine BigFrame.wpList_want (by rfl) fun K hK => ws_load1 hM rfl rfl (by (repeat (first | assumption | (with_reducible exact mZ) | apply mS)); first | done | fail) (by first | rfl | assumption) (by decide +kernel) (hK _ _ ?_); clear hK K)) | fail))
  go_loopw [2, 3, 27] (fun v s i wr => ∃ (k : Nat) (sm : Int), k ≤ n ∧ i = .int .i64 k ∧ v = .int .i64 0 ∧ s = .int .i64 sm ∧ Hid (sm = sumP (l.take k)) ∧ Hid (firstBad mo (l.drop k) = firstBad mo l) ∧ Star (cellsE gx 57 (ndC lv A n c) :: F) wr) (fun _ _ i _ => n - (intOf i).toNat)
  case atStart => exact ⟨0, 0, by omega, rfl, rfl, rfl, rfl, by show _ = _; rw [List.drop_zero], hM⟩
  case round =>
    clear hM
    obtain ⟨k, sm, hk, rfl, rfl, rfl, HSM, HS, hM⟩ := hrel
    by_cases hlt : k < n
    · obtain ⟨ad, d, rfl, hc, hg, ht⟩ := Rd.elems (f := qcs) (hM.row (List.mem_cons_of_mem _ hF)) (fun x hx => qcs_len x) (by omega) hlt
      have hdm := List.mem_of_getElem? hg
      have hd2 := HB.out d hdm
      have hfb := HS.out
      rw [drop_at hg, firstBad_cons] at hfb
      have hsb := sumP_le 1000000 (l.take k) fun p hp => HB.out p (List.mem_of_mem_take hp)
      have hlk : (l.take k).length ≤ 8 := by rw [List.length_take]; omega
      rw [← HSM.out] at hsb
      have HT : Hid (sm + d.2 = sumP (l.take (k + 1))) := by show _ = _; rw [ht, sumP_app, HSM.out]; simp [sumP]
      have hs1 : 0 ≤ sm := hsb.1
      have hs2 : sm ≤ 1000000 * 8 := by have := hsb.2; omega
      obtain ⟨di, x⟩ := d
      simp only at hd2 hfb HT
      clear ht hg hdm hsb hlk
      by_cases c1 : x < 1
      · rw [if_pos c1] at hfb
        have HF2 : Hid (V = 2) := by show _ = _; rw [← HV.out, ← hfb]; rfl
        have c1' : decide (x < 1) = true := by simpa using c1
        clear hfb
        go_wp2_with (first | ((with_reducible refine at_load' ?_); refine BigFrame.wpList_want (by rfl) fun K hK => ws_load_at rfl rfl [.string ⟨di.toArray⟩, .int .i64 x] hc (n := 2) rfl (by decide +kernel) (hK _ _ ?_); clear hK K) | (first | ((with_reducible refine at_alloc' ?_); (have hM0 := hM; clear hM; refine BigFrame.wpList_want (by rfl) fun K hK => ws_alloc hM0 (t := 69) rfl (qtC [] 0) info_qt (fun g5 w hM => hK _ _ ?_); clear hM0 hK K)) | fail) | (first | ((with_reducible refine at_store' ?_); (have hM0 := hM; clear hM; refine BigFrame.wpList_want (by rfl) fun K hK => ws_store hM0 rfl rfl rfl (by (repeat (first | (with_reducible exact Take.head) | apply Take.tail)); first | done | fail) (n := 2) (by rfl) (by rfl) (by kernel_rfl) (by simp [Value.oneCell']) (fun w hM => hK _ _ ?_); clear hM0 hK K)) | fail) | (first | ((with_reducible refine at_load' ?_); (refine BigFrame.wpList_want (by rfl) fun K hK => ws_load1 hM rfl rfl (by (repeat (first | assumption | (with_reducible exact mZ) | apply mS)); first | done | fail) (by first | rfl | assumption) (by decide +kernel) (hK _ _ ?_); clear hK K)) | fail))
        go_ret
        exact ⟨ret_int HF2.out.symm, hM.sel (by repeat (first | (with_reducible exact Sel.refl) | (with_reducible exact Take.head) | (with_reducible apply Take.tail) | (with_reducible apply Sel.cons) | (with_reducible apply Sel.drop)))⟩
      rw [if_neg c1] at hfb
      have c1' : decide (x < 1) = false := by simpa using c1
      by_cases c2 : mo < x
      · rw [if_pos c2] at hfb
        have HF2 : Hid (V = 5) := by show _ = _; rw [← HV.out, ← hfb]; rfl
        have c2' : decide (mo < x) = true := by simpa using c2
        clear hfb
        go_wp2_with (first | ((with_reducible refine at_load' ?_); refine BigFrame.wpList_want (by rfl) fun K hK => ws_load_at rfl rfl [.string ⟨di.toArray⟩, .int .i64 x] hc (n := 2) rfl (by decide +kernel) (hK _ _ ?_); clear hK K) | (first | ((with_reducible refine at_alloc' ?_); (have hM0 := hM; clear hM; refine BigFrame.wpList_want (by rfl) fun K hK => ws_alloc hM0 (t := 69) rfl (qtC [] 0) info_qt (fun g5 w hM => hK _ _ ?_); clear hM0 hK K)) | fail) | (first | ((with_reducible refine at_store' ?_); (have hM0 := hM; clear hM; refine BigFrame.wpList_want (by rfl) fun K hK => ws_store hM0 rfl rfl rfl (by (repeat (first | (with_reducible exact Take.head) | apply Take.tail)); first | done | fail) (n := 2) (by rfl) (by rfl) (by kernel_rfl) (by simp [Value.oneCell']) (fun w hM => hK _ _ ?_); clear hM0 hK K)) | fail) | (first | ((with_reducible refine at_load' ?_); (refine BigFrame.wpList_want (by rfl) fun K hK => ws_load1 hM rfl rfl (by (repeat (first | assumption | (with_reducible exact mZ) | apply mS)); first | done | fail) (by first | rfl | assumption) (by decide +kernel) (hK _ _ ?_); clear hK K)) | fail))
        (refine region_RS ([cellsE g5 69 (qtC di x), cellsE gx 57 (ndC lv (some ad) n c)]) [] (by kernel_rfl) hM ?_; clear hM; change RS _ _ _ _ _ _ 6 (Array.replicate 6 false) _ _; refine RS_take (i := 0) rfl (by decide +kernel) (fun _ _ _ h => h) (by first | (intro x hx; (repeat (first | exact hx | apply mS)); done) | ((repeat (refine List.forall_mem_cons.2 ⟨(by (repeat (first | assumption | (with_reducible exact mZ) | apply mS)); first | done | fail), ?_⟩)); intro x hx; first | (cases hx; done) | ((repeat (first | exact hx | apply mS)); done))) (stab_pure (by rfl) (fun w => (by go_simp; try with_reducible rfl))) ?_; simp only [Act.put, List.setIfInBounds_toArray, List.set_cons_zero, List.set_cons_succ]; refine RS_take (i := 1) rfl (by decide +kernel) (fun _ _ _ h => h) (by first | (intro x hx; (repeat (first | exact hx | apply mS)); done) | ((repeat (refine List.forall_mem_cons.2 ⟨(by (repeat (first | assumption | (with_reducible exact mZ) | apply mS)); first | done | fail), ?_⟩)); intro x hx; first | (cases hx; done) | ((repeat (first | exact hx | apply mS)); done))) (stab_read (by rfl) (fun L w hL hM => (by first | exact ex_load1 hM rfl rfl (hL _ (by (repeat (first | assumption | (with_reducible exact mZ) | apply mS)); first | done | fail)) rfl (by kernel_rfl) | exact ex_rowload rfl rfl (hM.row (hL _ (by (repeat (first | assumption | (with_reducible exact mZ) | apply mS)); first | done | fail))) (by assumption) (by kernel_rfl) | exact ex_rowload0 rfl rfl (hM.row (hL _ (by (repeat (first | assumption | (with_reducible exact mZ) | apply mS)); first | done | fail))) (by assumption) (by kernel_rfl)))) ?_; simp only [Act.put, List.setIfInBounds_toArray, List.set_cons_zero, List.set_cons_succ]; refine RS_take (i := 2) rfl (by decide +kernel) (fun _ _ _ h => h) (by first | (intro x hx; (repeat (first | exact hx | apply mS)); done) | ((repeat (refine List.forall_mem_cons.2 ⟨(by (repeat (first | assumption | (with_reducible exact mZ) | apply mS)); first | done | fail), ?_⟩)); intro x hx; first | (cases hx; done) | ((repeat (first | exact hx | apply mS)); done))) (stab_pure (by rfl) (fun w => (by go_simp; try with_reducible rfl))) ?_; simp only [Act.put, List.setIfInBounds_toArray, List.set_cons_zero, List.set_cons_succ]; refine RS_take (i := 3) rfl (by decide +kernel) (fun _ _ _ h => h) (by first | (intro x hx; (repeat (first | exact hx | apply mS)); done) | ((repeat (refine List.forall_mem_cons.2 ⟨(by (repeat (first | assumption | (with_reducible exact mZ) | apply mS)); first | done | fail), ?_⟩)); intro x hx; first | (cases hx; done) | ((repeat (first | exact hx | apply mS)); done))) (stab_read (by rfl) (fun L w hL hM => (by first | exact ex_load1 hM rfl rfl (hL _ (by (repeat (first | assumption | (with_reducible exact mZ) | apply mS)); first | done | fail)) rfl (by kernel_rfl) | exact ex_rowload rfl rfl (hM.row (hL _ (by (repeat (first | assumption | (with_reducible exact mZ) | apply mS)); first | done | fail))) (by assumption) (by kernel_rfl) | exact ex_rowload0 rfl rfl (hM.row (hL _ (by (repeat (first | assumption | (with_reducible exact mZ) | apply mS)); first | done | fail))) (by assumption) (by kernel_rfl)))) ?_; simp only [Act.put, List.setIfInBounds_toArray, List.set_cons_zero, List.set_cons_succ]; refine RS_take (i := 4) rfl (by decide +kernel) (fun _ _ _ h => h) (by first | (intro x hx; (repeat (first | exact hx | apply mS)); done) | ((repeat (refine List.forall_mem_cons.2 ⟨(by (repeat (first | assumption | (with_reducible exact mZ) | apply mS)); first | done | fail), ?_⟩)); intro x hx; first | (cases hx; done) | ((repeat (first | exact hx | apply mS)); done))) (stab_call (by rfl) (fun w => (by go_simp; try with_reducible rfl)) (fun L w hL hM => (starq (HMO.out w) hM))) ?_; simp only [Act.put, List.setIfInBounds_toArray, List.set_cons_zero, List.set_cons_succ]; refine RS_take (i := 5) rfl (by decide +kernel) (fun _ _ _ h => h) (by first | (intro x hx; (repeat (first | exact hx | apply mS)); done) | ((repeat (refine List.forall_mem_cons.2 ⟨(by (repeat (first | assumption | (with_reducible exact mZ) | apply mS)); first | done | fail), ?_⟩)); intro x hx; first | (cases hx; done) | ((repeat (first | exact hx | apply mS)); done))) (stab_pure (by rfl) (fun w => (by go_simp; try with_reducible rfl))) ?_; simp only [Act.put, List.setIfInBounds_toArray, List.set_cons_zero, List.set_cons_succ]; refine RS_done (by decide +kernel) (.inl (by first | (intro x hx; (repeat (first | exact hx | apply mS)); done) | ((repeat (refine List.forall_mem_cons.2 ⟨(by (repeat (first | assumption | (with_reducible exact mZ) | apply mS)); first | done | fail), ?_⟩)); intro x hx; first | (cases hx; done) | ((repeat (first | exact hx | apply mS)); done)))) (fun w hM => ?_))
        go_wp2
        go_ret
        exact ⟨ret_int HF2.out.symm, hM.sel (by repeat (first | (with_reducible exact Sel.refl) | (with_reducible exact Take.head) | (with_reducible apply Take.tail) | (with_reducible apply Sel.cons) | (with_reducible apply Sel.drop)))⟩
      · rw [if_neg c2] at hfb
        have HS2 := Lib.hid hfb
        have c2' : decide (mo < x) = false := by simpa using c2
        clear hfb
        go_wp2_with (first | ((with_reducible refine at_load' ?_); refine BigFrame.wpList_want (by rfl) fun K hK => ws_load_at rfl rfl [.string ⟨di.toArray⟩, .int .i64 x] hc (n := 2) rfl (by decide +kernel) (hK _ _ ?_); clear hK K) | (first | ((with_reducible refine at_alloc' ?_); (have hM0 := hM; clear hM; refine BigFrame.wpList_want (by rfl) fun K hK => ws_alloc hM0 (t := 69) rfl (qtC [] 0) info_qt (fun g5 w hM => hK _ _ ?_); clear hM0 hK K)) | fail) | (first | ((with_reducible refine at_store' ?_); (have hM0 := hM; clear hM; refine BigFrame.wpList_want (by rfl) fun K hK => ws_store hM0 rfl rfl rfl (by (repeat (first | (with_reducible exact Take.head) | apply Take.tail)); first | done | fail) (n := 2) (by rfl) (by rfl) (by kernel_rfl) (by simp [Value.oneCell']) (fun w hM => hK _ _ ?_); clear hM0 hK K)) | fail) | (first | ((with_reducible refine at_load' ?_); (refine BigFrame.wpList_want (by rfl) fun K hK => ws_load1 hM rfl rfl (by (repeat (first | assumption | (with_reducible exact mZ) | apply mS)); first | done | fail) (by first | rfl | assumption) (by decide +kernel) (hK _ _ ?_); clear hK K)) | fail))
        (refine region_RS ([cellsE g5 69 (qtC di x), cellsE gx 57 (ndC lv (some ad) n c)]) [] (by kernel_rfl) hM ?_; clear hM; change RS _ _ _ _ _ _ 6 (Array.replicate 6 false) _ _; refine RS_take (i := 0) rfl (by decide +kernel) (fun _ _ _ h => h) (by first | (intro x hx; (repeat (first | exact hx | apply mS)); done) | ((repeat (refine List.forall_mem_cons.2 ⟨(by (repeat (first | assumption | (with_reducible exact mZ) | apply mS)); first | done | fail), ?_⟩)); intro x hx; first | (cases hx; done) | ((repeat (first | exact hx | apply mS)); done))) (stab_pure (by rfl) (fun w => (by go_simp; try with_reducible rfl))) ?_; simp only [Act.put, List.setIfInBounds_toArray, List.set_cons_zero, List.set_cons_succ]; refine RS_take (i := 1) rfl (by decide +kernel) (fun _ _ _ h => h) (by first | (intro x hx; (repeat (first | exact hx | apply mS)); done) | ((repeat (refine List.forall_mem_cons.2 ⟨(by (repeat (first | assumption | (with_reducible exact mZ) | apply mS)); first | done | fail), ?_⟩)); intro x hx; first | (cases hx; done) | ((repeat (first | exact hx | apply mS)); done))) (stab_read (by rfl) (fun L w hL hM => (by first | exact ex_load1 hM rfl rfl (hL _ (by (repeat (first | assumption | (with_reducible exact mZ) | apply mS)); first | done | fail)) rfl (by kernel_rfl) | exact ex_rowload rfl rfl (hM.row (hL _ (by (repeat (first | assumption | (with_reducible exact mZ) | apply mS)); first | done | fail))) (by assumption) (by kernel_rfl) | exact ex_rowload0 rfl rfl (hM.row (hL _ (by (repeat (first | assumption | (with_reducible exact mZ) | apply mS)); first | done | fail))) (by assumption) (by kernel_rfl)))) ?_; simp only [Act.put, List.setIfInBounds_toArray, List.set_cons_zero, List.set_cons_succ]; refine RS_take (i := 2) rfl (by decide +kernel) (fun _ _ _ h => h) (by first | (intro x hx; (repeat (first | exact hx | apply mS)); done) | ((repeat (refine List.forall_mem_cons.2 ⟨(by (repeat (first | assumption | (with_reducible exact mZ) | apply mS)); first | done | fail), ?_⟩)); intro x hx; first | (cases hx; done) | ((repeat (first | exact hx | apply mS)); done))) (stab_pure (by rfl) (fun w => (by go_simp; try with_reducible rfl))) ?_; simp only [Act.put, List.setIfInBounds_toArray, List.set_cons_zero, List.set_cons_succ]; refine RS_take (i := 3) rfl (by decide +kernel) (fun _ _ _ h => h) (by first | (intro x hx; (repeat (first | exact hx | apply mS)); done) | ((repeat (refine List.forall_mem_cons.2 ⟨(by (repeat (first | assumption | (with_reducible exact mZ) | apply mS)); first | done | fail), ?_⟩)); intro x hx; first | (cases hx; done) | ((repeat (first | exact hx | apply mS)); done))) (stab_read (by rfl) (fun L w hL hM => (by first | exact ex_load1 hM rfl rfl (hL _ (by (repeat (first | assumption | (with_reducible exact mZ) | apply mS)); first | done | fail)) rfl (by kernel_rfl) | exact ex_rowload rfl rfl (hM.row (hL _ (by (repeat (first | assumption | (with_reducible exact mZ) | apply mS)); first | done | fail))) (by assumption) (by kernel_rfl) | exact ex_rowload0 rfl rfl (hM.row (hL _ (by (repeat (first | assumption | (with_reducible exact mZ) | apply mS)); first | done | fail))) (by assumption) (by kernel_rfl)))) ?_; simp only [Act.put, List.setIfInBounds_toArray, List.set_cons_zero, List.set_cons_succ]; refine RS_take (i := 4) rfl (by decide +kernel) (fun _ _ _ h => h) (by first | (intro x hx; (repeat (first | exact hx | apply mS)); done) | ((repeat (refine List.forall_mem_cons.2 ⟨(by (repeat (first | assumption | (with_reducible exact mZ) | apply mS)); first | done | fail), ?_⟩)); intro x hx; first | (cases hx; done) | ((repeat (first | exact hx | apply mS)); done))) (stab_call (by rfl) (fun w => (by go_simp; try with_reducible rfl)) (fun L w hL hM => (starq (HMO.out w) hM))) ?_; simp only [Act.put, List.setIfInBounds_toArray, List.set_cons_zero, List.set_cons_succ]; refine RS_take (i := 5) rfl (by decide +kernel) (fun _ _ _ h => h) (by first | (intro x hx; (repeat (first | exact hx | apply mS)); done) | ((repeat (refine List.forall_mem_cons.2 ⟨(by (repeat (first | assumption | (with_reducible exact mZ) | apply mS)); first | done | fail), ?_⟩)); intro x hx; first | (cases hx; done) | ((repeat (first | exact hx | apply mS)); done))) (stab_pure (by rfl) (fun w => (by go_simp; try with_reducible rfl))) ?_; simp only [Act.put, List.setIfInBounds_toArray, List.set_cons_zero, List.set_cons_succ]; refine RS_done (by decide +kernel) (.inl (by first | (intro x hx; (repeat (first | exact hx | apply mS)); done) | ((repeat (refine List.forall_mem_cons.2 ⟨(by (repeat (first | assumption | (with_reducible exact mZ) | apply mS)); first | done | fail), ?_⟩)); intro x hx; first | (cases hx; done) | ((repeat (first | exact hx | apply mS)); done)))) (fun w hM => ?_))
        go_wp2_with (first | (first | ((with_reducible refine at_load' ?_); (refine BigFrame.wpList_want (by rfl) fun K hK => ws_load1 hM rfl rfl (by (repeat (first | assumption | (with_reducible exact mZ) | apply mS)); first | done | fail) (by first | rfl | assumption) (by decide +kernel) (hK _ _ ?_); clear hK K)) | fail))
        go_roundw
        case rel => exact ⟨k + 1, sm + x, by omega, by go_num, rfl, rfl, HT.out, HS2.out, hM.sub (by repeat (first | exact List.Sublist.refl _ | apply List.Sublist.cons))⟩
        case measure => simp [intOf]; omega
    · have hfb := HS.out
      rw [List.drop_of_length_le (by rw [HL.out]; omega)] at hfb
      have hv2 := HV.out
      have hsm := HSM.out
      rw [List.take_of_length_le (by rw [HL.out]; omega)] at hsm
      rw [← hfb, ← hsm] at hv2
      simp only [firstBad, ne_eq, not_true_eq_false, if_false] at hv2
      have HSM2 : Hid ((if 32768 < sm then (5 : Int) else 0) = V) := hv2
      clear hfb hv2 hsm
      by_cases c3 : 32768 < sm
      · have c3' : decide (32768 < sm) = true := by simpa using c3
        go_wp2
        go_ret
        exact ⟨ret_int (by rw [← HSM2.out, if_pos c3]), hM.sel (by repeat (first | (with_reducible exact Sel.refl) | (with_reducible exact Take.head) | (with_reducible apply Take.tail) | (with_reducible apply Sel.cons) | (with_reducible apply Sel.drop)))⟩
      · have c3' : decide (32768 < sm) = false := by simpa using c3
        go_wp2
        go_ret
        exact ⟨ret_int (by rw [← HSM2.out, if_neg (by omega)]), hM.sel (by repeat (first | (with_reducible exact Sel.refl) | (with_reducible exact Take.head) | (with_reducible apply Take.tail) | (with_reducible apply Sel.cons) | (with_reducible apply Sel.drop)))⟩
end Go.Proofs.Ytlhedbjjlomniaa
set_option linter.unusedSimpArgs false
set_option linter.unusedVariables false
namespace Go.Proofs.Ytlhedbjjlomniaa
open Go.RowKit
attribute [local go_sem] extract_mid extract_drop bget bsize wrap64_u8 i64_u8 u64_u8 bappend
def RN (F : List SProp) (s : List UInt8) (r : Ending) (w' : World) : Prop := ∃ A c, r = .returned (.tuple #[.agg (ndC (parseN s).1.1 A (parseN s).1.2.length c), .int .i64 (parseN s).2]) ∧ Star (rowE 2 A (parseN s).1.2.length (qvs (parseN s).1.2) :: F) w'
theorem RN_none {F : List SProp} {s : List UInt8} {n : Int} {w : World} (h : parseN s = (noN, n)) (hM : Star F w) : RN F s (.returned (.tuple #[.agg (ndC 0 none 0 0), .int .i64 n])) w := by
  unfold RN
  rw [h]
  exact ⟨none, 0, rfl, hM.nilrow 2⟩
theorem info_rnd : (Try.prog.info? 57).map (fun i => i.zero) = some (some (.agg (ndC 0 none 0 0))) := by kernel_rfl
set_option maxRecDepth 100000 in
set_option maxHeartbeats 8000000 in
theorem rnparse_star {F : List SProp} (s : List UInt8) (hs : s.length ≤ 140737488352000) (w : World) (hM : Star F w) : Calls Try.prog 29 #[.string ⟨s.toArray⟩] w (RN F s) := by
  obtain ⟨lv, u1, e1, h1⟩ : ∃ n u f, mInt s 0 8 = (n, u, f) := ⟨_, _, _, rfl⟩
  obtain ⟨kk, u2, e2, h2⟩ : ∃ n u f, mInt u1 e1 8 = (n, u, f) := ⟨_, _, _, rfl⟩
  have hr := mInt_range u1 e1 8
  rw [h2] at hr
  have hr1 := mInt_range s 0 8
  rw [h1] at hr1
  simp only at hr hr1
  obtain ⟨N, rfl⟩ : ∃ N : Nat, kk = N := ⟨kk.toNat, by omega⟩
  have hN8 : N ≤ 8 := by omega
  obtain ⟨o, u, f, h3⟩ : ∃ n u f, mPts N [] u2 e2 = (n, u, f) := ⟨_, _, _, rfl⟩
  obtain ⟨uc, c, h4⟩ : ∃ u' c', mClose u f = (u', c') := ⟨_, _, rfl⟩
  have hv : parseN s = finN (lv, o) c := by
    have hp : pNode s 0 = ((lv, o), u, f) := by
      unfold pNode
      simp only [Par.bind, pInt_, h1, h2, Int.toNat_natCast, h3]
      rfl
    unfold parseN
    rw [hp]
    simp only [h4]
  have hg := pts_good h3
  have hcf : c = 0 → f = 0 := by
    intro hc
    subst hc
    unfold mClose mFail at h4
    split at h4
    · simp only [Prod.mk.injEq] at h4; exact h4.2
    · split at h4
      · simp at h4
      · simp only [Prod.mk.injEq] at h4; exact h4.2
  have HV := Lib.hid hv
  have H1 := rInt_any s 0 8 (by omega)
  rw [h1] at H1
  replace H1 := Lib.hid H1
  have H2 := rInt_any u1 e1 8 (by omega)
  rw [h2] at H2
  replace H2 := Lib.hid H2
  have H3 := Lib.hid h3
  have H4 := rClose_any u f
  rw [h4] at H4
  replace H4 := Lib.hid H4
  have HG := Lib.hid hg
  have HCF := Lib.hid hcf
  have hlv : 0 ≤ lv ∧ lv ≤ 8 := by omega
  clear hv h1 h2 h3 h4 hg hcf hr hr1
  have tok1 : True := trivial
  go_enter Try.func29, Try.ntmps29
  go_wp2_with (first | (have _t := tok1; (first | ((with_reducible refine at_alloc' ?_); (have hM0 := hM; clear hM; refine BigFrame.wpList_want (by rfl) fun K hK => ws_alloc hM0 (t := 57) rfl (ndC 0 none 0 0) info_rnd (fun g2 w hM => hK _ _ ?_); clear hM0 hK K)) | fail); clear tok1) | (first | ((with_reducible refine at_alloc' ?_); (have hM0 := hM; clear hM; refine BigFrame.wpList_want (by rfl) fun K hK => ws_alloc hM0 (t := 57) rfl (ndC 0 none 0 0) info_rnd (fun g7 w hM => hK _ _ ?_); clear hM0 hK K)) | fail) | (first | ((with_reducible refine at_alloc' ?_); (have hM0 := hM; clear hM; refine BigFrame.wpList_want (by rfl) fun K hK => ws_alloc hM0 (t := 111) rfl (balC [] 0) info_rb (fun g4 w hM => hK _ _ ?_); clear hM0 hK K)) | fail) | (first | ((with_reducible refine at_store' ?_); (have hM0 := hM; clear hM; refine BigFrame.wpList_want (by rfl) fun K hK => ws_store hM0 rfl rfl rfl (by (repeat (first | (with_reducible exact Take.head) | apply Take.tail)); first | done | fail) (n := 2) (by rfl) (by rfl) (by kernel_rfl) (by simp [Value.oneCell']) (fun w hM => hK _ _ ?_); clear hM0 hK K)) | fail) | (first | ((with_reducible refine at_load' ?_); (refine BigFrame.wpList_want (by rfl) fun K hK => ws_load hM rfl rfl (by (repeat (first | assumption | (with_reducible exact mZ) | apply mS)); first | done | fail) (n := 2) (by rfl) (by decide +kernel) (hK _ _ ?_); clear hK K)) | fail) | (go_at_call 68; have hM0 := hM; clear hM; (first | (with_reducible refine (star0 (H1.out _) hM0).mono ?_) | fail); clear hM0; rintro _ w ⟨rfl, hM⟩) | (go_at_call 68; have hM0 := hM; clear hM; (first | (with_reducible refine (star0 (H2.out _) hM0).mono ?_) | fail); clear hM0; rintro _ w ⟨rfl, hM⟩))
  replace hM := hM.nilown 69 2
  go_loopw [8] (fun i wr => ∃ (j m : Nat) (u3 : List UInt8) (f3 : Int) (o3 : List Pt) (A : Option Addr) (ca : Nat), j + m = N ∧ Hid (m = o3.length) ∧ i = .int .i64 m ∧ Hid (mPts j o3 u3 f3 = (o, u, f)) ∧ Star (ownE 69 2 A m ca (qvs o3) :: cellsE g7 57 (ndC lv A m ca) :: cellsE g4 111 (balC u3 f3) :: cellsE g2 57 (ndC 0 none 0 0) :: F) wr) (fun i _ => N - (intOf i).toNat)
  case atStart => exact ⟨N, 0, u2, e2, [], none, 0, by omega, rfl, rfl, H3.out, (hM.sel (by repeat (first | (with_reducible exact Sel.refl) | (with_reducible exact Take.head) | (with_reducible apply Take.tail) | (with_reducible apply Sel.cons) | (with_reducible apply Sel.drop))) : Star (ownE 69 2 none 0 0 [] :: cellsE g7 57 #[.int .i64 lv, .slice none 0 0] :: cellsE g4 111 (balC u2 e2) :: cellsE g2 57 (ndC 0 none 0 0) :: F) _)⟩
  case round =>
    clear hM
    obtain ⟨j, m, u3, f3, o3, A, ca, hj, hm3, rfl, hml, hM⟩ := hrel
    by_cases hgo : 0 < j ∧ f3 = 0
    · obtain ⟨hj0, rfl⟩ := hgo
      obtain ⟨i, rfl⟩ : ∃ i, j = i + 1 := ⟨j - 1, by omega⟩
      obtain ⟨id, u4, f4, hb4⟩ : ∃ s u f, mBytes u3 0 32 = (s, u, f) := ⟨_, _, _, rfl⟩
      obtain ⟨x, u5, f5, hb5⟩ : ∃ s u f, mInt u4 f4 32768 = (s, u, f) := ⟨_, _, _, rfl⟩
      have HB4 := rBytes_any u3 0 32
      rw [hb4] at HB4
      replace HB4 := Lib.hid HB4
      have HB5 := rInt_any u4 f4 32768 (by omega)
      rw [hb5] at HB5
      replace HB5 := Lib.hid HB5
      have HN : Hid (mPts i (o3 ++ [(id, x)]) u5 f5 = (o, u, f)) := by
        have := hml.out
        unfold mPts at this
        rw [if_pos rfl, hb4] at this
        simp only [hb5] at this
        exact this
      have HMP : Hid (qvs (o3 ++ [(id, x)]) = qvs o3 ++ qvs [(id, x)]) := qvs_app _ _
      have HON : Hid (∀ v ∈ qvs [(id, x)], v.oneCell' = true) := qvs_cells _
      have hlt : (m : Int) < (N : Int) := by omega
      have tok2 : True := trivial
      clear hb4 hb5
      go_wp2_with (first | (first | ((with_reducible refine at_load' ?_); (refine BigFrame.wpList_want (by rfl) fun K hK => ws_load1 hM rfl rfl (by (repeat (first | assumption | (with_reducible exact mZ) | apply mS)); first | done | fail) (by first | rfl | assumption) (by decide +kernel) (hK _ _ ?_); clear hK K)) | fail) | (first | ((with_reducible refine at_load' ?_); (refine BigFrame.wpList_want (by rfl) fun K hK => ws_load hM rfl rfl (by (repeat (first | assumption | (with_reducible exact mZ) | apply mS)); first | done | fail) (n := 2) (by rfl) (by decide +kernel) (hK _ _ ?_); clear hK K)) | fail) | (have _t := tok2; (first | ((with_reducible refine at_alloc' ?_); (have hM0 := hM; clear hM; refine BigFrame.wpList_want (by rfl) fun K hK => ws_alloc hM0 (t := 111) rfl (balC [] 0) info_rb (fun g9 w hM => hK _ _ ?_); clear hM0 hK K)) | fail); clear tok2) | (first | ((with_reducible refine at_alloc' ?_); (have hM0 := hM; clear hM; refine BigFrame.wpList_want (by rfl) fun K hK => ws_alloc hM0 (t := 111) rfl (balC [] 0) info_rb (fun g11 w hM => hK _ _ ?_); clear hM0 hK K)) | fail) | (first | ((with_reducible refine at_store' ?_); (have hM0 := hM; clear hM; refine BigFrame.wpList_want (by rfl) fun K hK => ws_store hM0 rfl rfl rfl (by (repeat (first | (with_reducible exact Take.head) | apply Take.tail)); first | done | fail) (n := 2) (by rfl) (by rfl) (by kernel_rfl) (by simp [Value.oneCell']) (fun w hM => hK _ _ ?_); clear hM0 hK K)) | fail) | (go_at_call 69; have hM0 := hM; clear hM; (first | (with_reducible refine (star0 (HB4.out _) hM0).mono ?_) | fail); clear hM0; rintro _ w ⟨rfl, hM⟩) | (go_at_call 68; have hM0 := hM; clear hM; (first | (with_reducible refine (star0 (HB5.out _) hM0).mono ?_) | fail); clear hM0; rintro _ w ⟨rfl, hM⟩) | (first | ((with_reducible refine at_slice' ?_); (have hM0 := hM; clear hM; refine BigFrame.wpList_want (by rfl) fun K hK => ws_slice_row hM0 (n := 1) rfl 69 2 (.agg (qtC [] 0)) [.agg (qtC id x)] Try.underlying55 (by kernel_rfl) rfl (by simp [Value.cells, iv, sv, bv]) (by rfl) (by decide) (cs := qvs [(id, x)]) (by rfl) (fun g52 w hM => hK _ _ ?_); clear hM0 hK K)) | fail) | (first | ((with_reducible refine at_call' ?_); (have hM0 := hM; clear hM; refine BigFrame.wpList_want (by rfl) fun K hK => ws_append hM0 rfl rfl rfl 69 ((.agg (qtC [] 0))) 2 24 Try.underlying55 (by kernel_rfl) (by rfl) (by decide) (by (repeat (first | (with_reducible exact Take.head) | apply Take.tail)); first | done | fail) (by first | (apply Star.row hM0; (repeat (first | assumption | (with_reducible exact mZ) | apply mS)); done) | (apply Star.own hM0; (repeat (first | assumption | (with_reducible exact mZ) | apply mS)); done) | (apply Star.arr hM0; (focus ((repeat (first | assumption | (with_reducible exact mZ) | apply mS)); done)); assumption)) (HON.out) ((by omega)) (fun A1 c1 w hM hnil => hK _ _ ?_); clear hM0 hK K)) | fail) | (first | ((with_reducible refine at_store' ?_); (have hM0 := hM; clear hM; refine BigFrame.wpList_want (by rfl) fun K hK => ws_store1 hM0 rfl rfl (by go_simp; rfl) (by first | rfl | assumption) (by (repeat (first | (with_reducible exact Take.head) | apply Take.tail)); first | done | fail) (by simp) (by kernel_rfl) (by simp only [List.setIfInBounds_toArray, List.set_cons_zero, List.set_cons_succ]; rfl) (fun w hM => hK _ _ ?_); clear hM0 hK K)) | fail))
      go_roundw
      case rel => exact ⟨i, m + 1, u5, f5, o3 ++ [(id, x)], A1, c1, by omega, (by show _ = _; rw [List.length_append, ← hm3.out]; rfl), by go_num, HN.out, by rw [HMP.out]; exact hM.sel (by repeat (first | (with_reducible exact Sel.refl) | (with_reducible exact Take.head) | (with_reducible apply Take.tail) | (with_reducible apply Sel.cons) | (with_reducible apply Sel.drop)))⟩
      case measure => simp [intOf]; omega
    · have hend : o3 = o ∧ u3 = u ∧ f3 = f := by
        have := hml.out
        cases j with
        | zero => simpa [mPts] using this
        | succ i =>
          have hf2 : f3 ≠ 0 := fun h => hgo ⟨by omega, h⟩
          simpa [mPts, hf2] using this
      obtain ⟨rfl, rfl, rfl⟩ := hend
      have hno := hm3.out
      replace hM := (hM.take (x := ownE 69 2 A m ca (qvs o3)) (by (repeat (first | (with_reducible exact Take.head) | apply Take.tail)); first | done | fail)).freeze
      by_cases hc : c ≠ 0
      · have hc1 : (c == 0) = false := by simpa using hc
        have hc2 : (c != 0) = true := by simpa using hc
        replace HV : Hid (parseN s = (noN, c)) := by show _ = _; rw [HV.out, finN, if_pos hc]
        clear hc hno
        by_cases hjj : j = 0
        · subst hjj
          have hlt : decide ((m : Int) < (N : Int)) = false := by simp; omega
          clear hgo
          go_wp2_with (first | (first | ((with_reducible refine at_load' ?_); (refine BigFrame.wpList_want (by rfl) fun K hK => ws_load1 hM rfl rfl (by (repeat (first | assumption | (with_reducible exact mZ) | apply mS)); first | done | fail) (by first | rfl | assumption) (by decide +kernel) (hK _ _ ?_); clear hK K)) | fail) | (first | ((with_reducible refine at_load' ?_); (refine BigFrame.wpList_want (by rfl) fun K hK => ws_load hM rfl rfl (by (repeat (first | assumption | (with_reducible exact mZ) | apply mS)); first | done | fail) (n := 2) (by rfl) (by decide +kernel) (hK _ _ ?_); clear hK K)) | fail) | (go_at_call 72; have hM0 := hM; clear hM; (first | (with_reducible refine (star0 (H4.out _) hM0).mono ?_) | fail); clear hM0; rintro _ w ⟨rfl, hM⟩) | (first | ((with_reducible refine at_store' ?_); (have hM0 := hM; clear hM; refine BigFrame.wpList_want (by rfl) fun K hK => ws_store hM0 rfl rfl rfl (by (repeat (first | (with_reducible exact Take.head) | apply Take.tail)); first | done | fail) (n := 2) (by rfl) (by rfl) (by kernel_rfl) (by simp [Value.oneCell']) (fun w hM => hK _ _ ?_); clear hM0 hK K)) | fail))
          refine bodyPost_ret (results_row_tmp (P := Try.prog) (ty := 57) rfl _ _ g2 57 (ndC 0 none 0 0) 2 _ rfl rfl (hM.blk (by (repeat (first | assumption | (with_reducible exact mZ) | apply mS)); first | done | fail)) rfl (by decide +kernel)) rfl ?_
          exact RN_none HV.out (hM.sel (R := F) (by repeat (first | (with_reducible exact Sel.refl) | (with_reducible exact Take.head) | (with_reducible apply Take.tail) | (with_reducible apply Sel.cons) | (with_reducible apply Sel.drop))))
        · have hlt : (m : Int) < (N : Int) := by omega
          have hf : f3 ≠ 0 := fun h => hgo ⟨by omega, h⟩
          have hfn : (f3 == 0) = false := by simpa using hf
          have hfn2 : (f3 != 0) = true := by simpa using hf
          clear hgo
          go_wp2_with (first | (first | ((with_reducible refine at_load' ?_); (refine BigFrame.wpList_want (by rfl) fun K hK => ws_load1 hM rfl rfl (by (repeat (first | assumption | (with_reducible exact mZ) | apply mS)); first | done | fail) (by first | rfl | assumption) (by decide +kernel) (hK _ _ ?_); clear hK K)) | fail) | (first | ((with_reducible refine at_load' ?_); (refine BigFrame.wpList_want (by rfl) fun K hK => ws_load hM rfl rfl (by (repeat (first | assumption | (with_reducible exact mZ) | apply mS)); first | done | fail) (n := 2) (by rfl) (by decide +kernel) (hK _ _ ?_); clear hK K)) | fail) | (go_at_call 72; have hM0 := hM; clear hM; (first | (with_reducible refine (star0 (H4.out _) hM0).mono ?_) | fail); clear hM0; rintro _ w ⟨rfl, hM⟩) | (first | ((with_reducible refine at_store' ?_); (have hM0 := hM; clear hM; refine BigFrame.wpList_want (by rfl) fun K hK => ws_store hM0 rfl rfl rfl (by (repeat (first | (with_reducible exact Take.head) | apply Take.tail)); first | done | fail) (n := 2) (by rfl) (by rfl) (by kernel_rfl) (by simp [Value.oneCell']) (fun w hM => hK _ _ ?_); clear hM0 hK K)) | fail))
          refine bodyPost_ret (results_row_tmp (P := Try.prog) (ty := 57) rfl _ _ g2 57 (ndC 0 none 0 0) 2 _ rfl rfl (hM.blk (by (repeat (first | assumption | (with_reducible exact mZ) | apply mS)); first | done | fail)) rfl (by decide +kernel)) rfl ?_
          exact RN_none HV.out (hM.sel (R := F) (by repeat (first | (with_reducible exact Sel.refl) | (with_reducible exact Take.head) | (with_reducible apply Take.tail) | (with_reducible apply Sel.cons) | (with_reducible apply Sel.drop))))
      obtain rfl : c = 0 := by simpa using hc
      clear hc
      obtain rfl := HCF.out rfl
      obtain ⟨h32, hb⟩ := HG.out.2 rfl
      rw [hno] at hM
      have hj0 : j = 0 := by omega
      subst hj0
      clear hgo
      have HK := fun (L : List SProp) (w : World) (hM : Star L w) (hF : rowE 2 A o3.length (qvs o3) ∈ L) => rncheck_star lv A o3.length ca o3 (fun p hp => by have := hb p hp; omega) (by omega) w hM hF
      obtain ⟨kv, hkv⟩ : ∃ kv, checkN (lv, o3) = kv := ⟨_, rfl⟩
      rw [hkv] at HK
      have HKV := Lib.hid hkv
      replace HK := Lib.hid HK
      clear hkv h32 hb
      rw [hno] at hj
      subst hno
      have hlt : decide ((o3.length : Int) < (N : Int)) = false := by simp; omega
      by_cases hk : kv ≠ 0
      · have hk1 : (kv == 0) = false := by simpa using hk
        have hk2 : (kv != 0) = true := by simpa using hk
        replace HV : Hid (parseN s = (noN, kv)) := by show _ = _; rw [HV.out, finN, if_neg (by simp), HKV.out, if_pos hk]
        clear hk
        go_wp2_with (first | (first | ((with_reducible refine at_load' ?_); (refine BigFrame.wpList_want (by rfl) fun K hK => ws_load1 hM rfl rfl (by (repeat (first | assumption | (with_reducible exact mZ) | apply mS)); first | done | fail) (by first | rfl | assumption) (by decide +kernel) (hK _ _ ?_); clear hK K)) | fail) | (first | ((with_reducible refine at_load' ?_); (refine BigFrame.wpList_want (by rfl) fun K hK => ws_load hM rfl rfl (by (repeat (first | assumption | (with_reducible exact mZ) | apply mS)); first | done | fail) (n := 2) (by rfl) (by decide +kernel) (hK _ _ ?_); clear hK K)) | fail) | (go_at_call 72; have hM0 := hM; clear hM; (first | (with_reducible refine (star0 (H4.out _) hM0).mono ?_) | fail); clear hM0; rintro _ w ⟨rfl, hM⟩) | (go_at_call 75; have hM0 := hM; clear hM; (first | (with_reducible refine (HK.out _ _ hM0 (by (repeat (first | assumption | (with_reducible exact mZ) | apply mS)); first | done | fail)).mono ?_) | fail); clear hM0; rintro _ w ⟨rfl, hM⟩) | (first | ((with_reducible refine at_store' ?_); (have hM0 := hM; clear hM; refine BigFrame.wpList_want (by rfl) fun K hK => ws_store hM0 rfl rfl rfl (by (repeat (first | (with_reducible exact Take.head) | apply Take.tail)); first | done | fail) (n := 2) (by rfl) (by rfl) (by kernel_rfl) (by simp [Value.oneCell']) (fun w hM => hK _ _ ?_); clear hM0 hK K)) | fail))
        refine bodyPost_ret (results_row_tmp (P := Try.prog) (ty := 57) rfl _ _ g2 57 (ndC 0 none 0 0) 2 _ rfl rfl (hM.blk (by (repeat (first | assumption | (with_reducible exact mZ) | apply mS)); first | done | fail)) rfl (by decide +kernel)) rfl ?_
        exact RN_none HV.out (hM.sel (R := F) (by repeat (first | (with_reducible exact Sel.refl) | (with_reducible exact Take.head) | (with_reducible apply Take.tail) | (with_reducible apply Sel.cons) | (with_reducible apply Sel.drop))))
      obtain rfl : kv = 0 := by simpa using hk
      clear hk
      replace HV : Hid (parseN s = ((lv, o3), 0)) := by show _ = _; rw [HV.out, finN, if_neg (by simp), HKV.out, if_neg (by simp)]
      go_wp2_with (first | (first | ((with_reducible refine at_load' ?_); (refine BigFrame.wpList_want (by rfl) fun K hK => ws_load1 hM rfl rfl (by (repeat (first | assumption | (with_reducible exact mZ) | apply mS)); first | done | fail) (by first | rfl | assumption) (by decide +kernel) (hK _ _ ?_); clear hK K)) | fail) | (first | ((with_reducible refine at_load' ?_); (refine BigFrame.wpList_want (by rfl) fun K hK => ws_load hM rfl rfl (by (repeat (first | assumption | (with_reducible exact mZ) | apply mS)); first | done | fail) (n := 2) (by rfl) (by decide +kernel) (hK _ _ ?_); clear hK K)) | fail) | (go_at_call 72; have hM0 := hM; clear hM; (first | (with_reducible refine (star0 (H4.out _) hM0).mono ?_) | fail); clear hM0; rintro _ w ⟨rfl, hM⟩) | (go_at_call 75; have hM0 := hM; clear hM; (first | (with_reducible refine (HK.out _ _ hM0 (by (repeat (first | assumption | (with_reducible exact mZ) | apply mS)); first | done | fail)).mono ?_) | fail); clear hM0; rintro _ w ⟨rfl, hM⟩) | (first | ((with_reducible refine at_store' ?_); (have hM0 := hM; clear hM; refine BigFrame.wpList_want (by rfl) fun K hK => ws_store hM0 rfl rfl rfl (by (repeat (first | (with_reducible exact Take.head) | apply Take.tail)); first | done | fail) (n := 2) (by rfl) (by rfl) (by kernel_rfl) (by simp [Value.oneCell']) (fun w hM => hK _ _ ?_); clear hM0 hK K)) | fail))
      refine bodyPost_ret (results_row_tmp (P := Try.prog) (ty := 57) rfl _ _ g2 57 (ndC lv A o3.length ca) 2 _ rfl rfl (hM.blk (by (repeat (first | assumption | (with_reducible exact mZ) | apply mS)); first | done | fail)) rfl (by decide +kernel)) rfl ?_
      unfold RN
      rw [HV.out]
      exact ⟨A, ca, rfl, hM.sel (R := rowE 2 A o3.length (qvs o3) :: F) (by repeat (first | (with_reducible exact Sel.refl) | (with_reducible exact Take.head) | (with_reducible apply Take.tail) | (with_reducible apply Sel.cons) | (with_reducible apply Sel.drop)))⟩
end Go.Proofs.Ytlhedbjjlomniaa
set_option linter.unusedSimpArgs false
set_option linter.unusedVariables false
namespace Go.Proofs.Ytlhedbjjlomniaa
open Go.RowKit
attribute [local go_sem] extract_mid extract_drop bget bsize wrap64_u8 i64_u8 u64_u8 bappend
abbrev Ob := Int × List UInt8 × List UInt8
@[irreducible] def ocs (o : Ob) : List Value := iv o.1 :: (bvs o.2.1 ++ [sv o.2.2])
def ovs (l : List Ob) : List Value := l.flatMap ocs
def ob32 (l : List Ob) : Prop := ∀ o ∈ l, o.2.1.length = 32
theorem ocs_len {o : Ob} (h : o.2.1.length = 32) : (ocs o).length = 34 := by unfold ocs; simp [bvs_len, h]
theorem ocs_sz {o : Ob} (h : o.2.1.length = 32) : (ocs o).toArray.size = 34 := by rw [List.size_toArray]; exact ocs_len h
theorem ocs_33 {o : Ob} (h : o.2.1.length = 32) : (ocs o).toArray[33]? = some (.string ⟨o.2.2.toArray⟩) := by
  unfold ocs
  rw [List.getElem?_toArray, List.getElem?_cons_succ, List.getElem?_append_right (by rw [bvs_len]; omega)]
  simp [bvs_len, h, sv]
theorem ocs_id (o : Ob) : ∀ j v, (bvs o.2.1)[j]? = some v → (ocs o).toArray[1 + j]? = some v := by
  intro j v hv
  have hj := (List.getElem?_eq_some_iff.1 hv).1
  unfold ocs
  rw [Nat.add_comm, List.getElem?_toArray, List.getElem?_cons_succ, List.getElem?_append_left hj]
  exact hv
theorem ocs_one (o : Ob) : ∀ v ∈ ocs o, v.oneCell' = true := by
  unfold ocs
  intro v hv
  simp only [List.mem_cons, List.mem_append, List.not_mem_nil, or_false] at hv
  rcases hv with rfl | hv | rfl
  · rfl
  · exact bvs_oneCell _ _ hv
  · rfl
theorem ocs_oneA (o : Ob) : ∀ v ∈ (ocs o).toArray.toList, v.oneCell' = true := by simpa using ocs_one o
theorem ovs_app (a b : List Ob) : ovs (a ++ b) = ovs a ++ ovs b := by simp [ovs]
theorem ovs_cells (l : List Ob) : ∀ v ∈ ovs l, v.oneCell' = true := by
  intro u hu
  obtain ⟨c, _, h⟩ := List.mem_flatMap.1 hu
  exact ocs_one c u h
theorem info_ob : (Try.prog.info? 76).map (fun i => i.zero) = some (some (.agg (ocs (0, z32, [])).toArray)) := by unfold ocs; kernel_rfl
theorem build_ob (k : Int) (id : List UInt8) (h : id.length = 32) (x : List UInt8) (w : World) : (Instr.build 76 #[(0, .int .i64 k), (1, .agg (bvs id).toArray), (2, .string ⟨x.toArray⟩)]).run Try.prog w = .ok (.agg (ocs (k, id, x)).toArray) w := by
  obtain ⟨f, rfl⟩ := list32 h
  unfold ocs
  kernel_rfl
theorem oz32 : ((0, z32, []) : Ob).2.1.length = 32 := z32_len
set_option maxRecDepth 100000 in
theorem make_star {F : List SProp} (k : Int) (kd : UInt8) (hk : k = kd.toNat) (x : List UInt8) (hx : x.length ≤ 1000000) (w : World) (hM : Star F w) :
    Calls Try.prog 76 #[.int .i64 k, .string ⟨x.toArray⟩] w fun r w' => r = .returned (.agg (ocs (k, onm kd x, x)).toArray) ∧ Star F w' := by
  have HO : Hid (∀ (L : List SProp) (g : Nat) (w : World), Star L w → rowE 1 (some ⟨g, 0, none⟩) 1 (svs [x]) ∈ L → Calls Try.prog 37 #[.int .i64 k, .slice (some ⟨g, 0, none⟩) 1 1] w fun r w' => r = .returned (.agg (bvs (onm kd x)).toArray) ∧ Star L w') := fun L g w hM hx2 => by
    have := oof_star kd [x] (some ⟨g, 0, none⟩) 1 1 (by simpa using hx) (by omega) w hM hx2
    rwa [cat_one, ← hk] at this
  have hid := onm_len kd x
  have HB := Lib.hid (build_ob k (onm kd x) hid x)
  have HI : Hid ((onm kd x).length = 32) := hid
  have HS : Hid ((ocs (k, onm kd x, x)).toArray.size = 34) := ocs_sz hid
  have HS0 : Hid ((ocs (0, z32, [])).toArray.size = 34) := ocs_sz oz32
  clear hid hk
  generalize onm kd x = id at HO HB HI HS ⊢
  go_enter Try.func76, Try.ntmps76
  go_wp2_with (first | (first | ((with_reducible refine at_alloc' ?_); (have hM0 := hM; clear hM; refine BigFrame.wpList_want (by rfl) fun K hK => ws_alloc hM0 (t := 76) rfl (ocs (0, z32, [])).toArray info_ob (fun g4 w hM => hK _ _ ?_); clear hM0 hK K)) | fail) | (first | ((with_reducible refine at_slice' ?_); (have hM0 := hM; clear hM; refine BigFrame.wpList_want (by rfl) fun K hK => ws_slice_row hM0 (n := 1) rfl 9 1 (.string ByteArray.empty) [sv x] Try.underlying61 (by kernel_rfl) rfl (by simp [Value.cells, iv, sv, bv]) (by rfl) (by decide) (cs := svs [x]) (by rfl) (fun g8 w hM => hK _ _ ?_); clear hM0 hK K)) | fail) | (go_at_call 37; have hM0 := hM; clear hM; (first | (with_reducible refine (HO.out _ g8 _ hM0 (by (repeat (first | assumption | (with_reducible exact mZ) | apply mS)); first | done | fail)).mono ?_) | fail); clear hM0; rintro _ w ⟨rfl, hM⟩) | ((with_reducible refine at_build' ?_); refine BigFrame.wpList_want (by rfl) fun K hK => ws_build rfl (.agg (ocs (k, id, x)).toArray) (by simp only [List.map_toArray, List.map_cons, List.map_nil]; exact HB.out _) (hK _ _ ?_); clear hK K) | (first | ((with_reducible refine at_store' ?_); (have hM0 := hM; clear hM; refine BigFrame.wpList_want (by rfl) fun K hK => ws_store hM0 rfl rfl rfl (by (repeat (first | (with_reducible exact Take.head) | apply Take.tail)); first | done | fail) (n := 34) (by exact HS.out) (by exact HS0.out) (by kernel_rfl) (by exact ocs_oneA _) (fun w hM => hK _ _ ?_); clear hM0 hK K)) | fail))
  refine bodyPost_ret (results_row (P := Try.prog) (ty := 76) rfl _ _ g4 76 _ 34 rfl (hM.blk (by (repeat (first | assumption | (with_reducible exact mZ) | apply mS)); first | done | fail)) HS.out (by decide +kernel)) rfl ?_
  exact ⟨rfl, hM.sel (by repeat (first | (with_reducible exact Sel.refl) | (with_reducible exact Take.head) | (with_reducible apply Take.tail) | (with_reducible apply Sel.cons) | (with_reducible apply Sel.drop)))⟩
/-- Groups of eight. -/
def grp (l : List Pt) : List (List Pt) := (List.range ((l.length + 7) / 8)).map fun i => (l.drop (8 * i)).take 8
def upO (k : Int) (l : List Pt) : List Ob := (grp l).map fun g => (2, onm 2 (textN (k, g)), textN (k, g))
def upP (k : Int) (l : List Pt) : List Pt := (grp l).map fun g => (onm 2 (textN (k, g)), sumP g)
theorem upP_len (k : Int) (l : List Pt) : (upP k l).length = (l.length + 7) / 8 := by simp [upP, grp]
theorem upO_len (k : Int) (l : List Pt) : (upO k l).length = (l.length + 7) / 8 := by simp [upO, grp]
theorem upP_32 (k : Int) (l : List Pt) : ok32 (upP k l) := by
  intro p hp
  obtain ⟨g, _, rfl⟩ := List.mem_map.1 hp
  exact onm_len _ _
theorem upO_32 (k : Int) (l : List Pt) : ob32 (upO k l) := by
  intro p hp
  obtain ⟨g, _, rfl⟩ := List.mem_map.1 hp
  exact onm_len _ _
end Go.Proofs.Ytlhedbjjlomniaa
set_option linter.unusedSimpArgs false
set_option linter.unusedVariables false
namespace Go.Proofs.Ytlhedbjjlomniaa
open Go.RowKit
/-- A block that is no cells. -/
def objE (k : Nat) (o : Obj) : SProp where
  fp j := j = k
  ro := false
  holds w := w.heap[k]? = some o
  lt w h j hj := by subst hj; exact (Array.getElem?_eq_some_iff.1 h).1
  stable w w' ho h := (ho.block k rfl).trans h
/-- Many parts as one. -/
def starE (I : List SProp) : SProp where
  fp k := ∃ x ∈ I, x.fp k
  ro := false
  holds w := Star I w
  lt w h k hk := by obtain ⟨x, hx, hk⟩ := hk; exact h.mem_lt hx k hk
  stable w w' ho h := ⟨fun x hx => x.stable w w' ⟨ho.os, ho.tape, ho.output, ho.size, fun k hk => ho.block k ⟨x, hx, hk⟩⟩ (h.all x hx), h.pair⟩
namespace Star
variable {I L R : List SProp} {x y : SProp} {w w' : World}
theorem fold (h : Star (I ++ R) w) (hro : ∀ x ∈ I, x.ro = false) : Star (starE I :: R) w := by
  obtain ⟨hI, hR, hX⟩ := List.pairwise_append.1 h.pair
  refine ⟨fun z hz => ?_, List.pairwise_cons.2 ⟨fun z hz => .inr fun k hk hk2 => ?_, hR⟩⟩
  · rcases List.mem_cons.1 hz with rfl | hz
    · exact ⟨fun x hx => h.all x (List.mem_append.2 (.inl hx)), hI⟩
    · exact h.all z (List.mem_append.2 (.inr hz))
  · obtain ⟨x, hx, hk⟩ := hk
    rcases hX x hx z hz with h1 | h1
    · rw [hro x hx] at h1; cases h1.1
    · exact h1 k hk hk2
theorem unfold (h : Star (starE I :: R) w) : Star (I ++ R) w := by
  obtain ⟨hX, hR⟩ := List.pairwise_cons.1 h.pair
  have hI : Star I w := h.head
  refine ⟨fun z hz => ?_, List.pairwise_append.2 ⟨hI.pair, hR, fun x hx z hz => .inr fun k hk hk2 => ?_⟩⟩
  · rcases List.mem_append.1 hz with hz | hz
    · exact hI.all z hz
    · exact h.tail.all z hz
  · rcases hX z hz with h1 | h1
    · cases h1.1
    · exact h1 k ⟨x, hx, hk⟩ hk2
theorem new_obj (h : Star L w) (o : Obj) : Star (objE w.heap.size o :: L) (w.alloc o) :=
  h.new_ ((Ch.refl _ _).alloc _) (World.alloc_heap_new w o) fun k hk => by cases (show k = w.heap.size from hk); exact Nat.le_refl _
theorem put_obj {k : Nat} {o : Obj} (h : Star (objE k o :: L) w) (o' : Obj) : Star (objE k o' :: L) (w.putObj k o') :=
  h.put (bs := [k]) rfl ⟨rfl, rfl, rfl, by simp, fun j _ hj => World.putObj_heap_other (by simpa using hj)⟩ (fun b hb => .inl (List.mem_singleton.1 hb))
    (World.putObj_heap_same (Array.getElem?_eq_some_iff.1 (show w.heap[k]? = some o from h.head)).1) fun j hj => .inl hj
theorem app_perm {A B C : List SProp} (h : Star (A ++ (B ++ C)) w) : Star (B ++ (A ++ C)) w :=
  h.perm (by rw [← List.append_assoc, ← List.append_assoc]; exact List.perm_append_comm.append_right _)
end Star
/-! ### The fenced walk out of the plain one, an operation at a time -/
section
variable {P : Program} {w : World} {o : Oper} {a : Act} {Q : Exit → Act → World → Prop} {K : Act → World → Prop} {n : Nat}
theorem rowsIn_wide {row : String} {args : Array Value} {R : Value → World → Prop} (h : Rows P row args w R) : RowsIn Fence.wide n P row args w R :=
  fun c cs _ => let ⟨v, w', r, s⟩ := h c cs; ⟨v, w', r, stepsIn_wide.2 s⟩
theorem upon_wide {r : Result Next} (h : o.upon P a K Q r) : o.uponIn Fence.wide n P a K Q r := by
  unfold Oper.upon at h
  unfold Oper.uponIn
  split at h
  · exact h
  · exact h
  · exact h
  · exact ⟨fun h => (by simp [Fence.wide] at h), callsIn_wide.2 h⟩
  · exact ⟨fun h => (by simp [Fence.wide] at h), rowsIn_wide h⟩
  · exact h
  · exact h.elim
/-- Outside a round. -/
theorem wpIn_of_wp (hnd : ∀ c, o.op ≠ .defer c) (h : o.wp P a w K Q) : o.wpIn Fence.wide n P a w K Q := by
  refine ⟨fun _ _ => trivial, ?_⟩
  rw [Oper.semAt_plain _ _ _ hnd]
  exact upon_wide h
/-- In a round. -/
theorem wpIn_of_wp_round {l : Nat} (hnd : ∀ c, o.op ≠ .defer c) (h : o.wp P a w K Q) : o.wpIn (Fence.wide.inRound l) n P a w K Q := by
  refine ⟨fun _ _ => trivial, ?_⟩
  rw [Oper.semAt_plain _ _ _ hnd]
  exact upon_wide (n := n) h
end
theorem enters_at {P : Program} {f : FuncId} {fn : Func} {c : Code} (hf : P.funcs[f]? = some fn) (hname : (fn.name == "runtime.NumGoroutine") = false) (hb : fn.body = some c) (args : Array Value) (w : World) : (callFunc f args).run P w = .ok (.enter f args) w := by
  have h1 : fn.name ≠ "runtime.NumGoroutine" := by simpa using hname
  simp [callFunc, hf, h1, hb, mark]
/-! ### The statement -/
/-- What a round hands back. -/
def roundSays {α σ : Type} (J : σ → List α → SProp) (Jx : Code → σ → List α → SProp) (pre : List α) (L : List SProp) (e : Ending) (W' : World) : Prop :=
  (e = .returned (.bool true) ∧ ∃ s, Star (J s pre :: L) W') ∨ (e = .returned (.bool false) ∧ ∃ c s, Star (Jx c s pre :: L) W')
/-- The iterator's contract: it hands xs out, one by one, and keeps what it does not know of (F, and whatever J says). -/
def SeqStar {α : Type} (P : Program) (gf : Nat) (lb : Array Value) (enc : α → Value) (xs : List α) (F : List SProp) : Prop :=
  ∀ (σ : Type) (l : Nat) (J : σ → List α → SProp) (Jx : Code → σ → List α → SProp) (s0 : σ) (W : World),
    (∀ s pre x L W1, pre ++ [x] <+: xs → (∀ y ∈ F, y ∈ L) → Star (J s pre :: L) W1 → YieldAt Fence.wide 0 P l #[enc x] W1 (roundSays J Jx (pre ++ [x]) L)) →
    Star (J s0 [] :: F) W →
    CallsIn Fence.wide 0 P gf (#[.func (.yield l) #[] #[]] ++ lb) W fun e W' => (∃ v, e = .returned v) ∧ ((∃ s, Star (J s xs :: F) W') ∨ ∃ c s pre, pre <+: xs ∧ pre ≠ [] ∧ Star (Jx c s pre :: F) W')
/-- How the body of a round may be left. -/
def starPost {α σ : Type} (I : σ → List α → List SProp) (Ix : Code → σ → List α → List SProp) (xs : List α) (L : List SProp) : Exit → Act → World → Prop
  | .normal, _, W' => ∃ s, Star (I s xs ++ L) W'
  | .ret, _, W' => ∃ s, Star (Ix .ret s xs ++ L) W'
  | .exit id, _, W' => ∃ s, Star (Ix (.exit id) s xs ++ L) W'
  | .goto t, _, W' => ∃ s, Star (Ix (.goto t) s xs ++ L) W'
  | .panic _, _, _ => False
  | .outgrown, _, _ => False
/-- What never holds. -/
def falseE : SProp where
  fp _ := False
  ro := false
  holds _ := False
  lt _ h := h.elim
  stable _ _ _ h := h.elim
theorem wpIn_rangeFunc_star {α σ : Type} {P : Program} {g : Operand} {t : Tmp} {assign body : Code} {Q : Exit → Act → World → Prop} {a : Act} {w : World} {gf : Nat} {lb : Array Value}
    (hg : a.eval g = .func (.func gf) #[] lb) (eg : ∀ args w, (callFunc gf args).run P w = .ok (.enter gf args) w)
    {enc : α → Value} {xs : List α} {F : List SProp} (hseq : SeqStar P gf lb enc xs F) {I : σ → List α → List SProp} {Ix : Code → σ → List α → List SProp} {s0 : σ}
    (hI : ∀ s pre, ∀ x ∈ I s pre, x.ro = false) (hIx : ∀ c s pre, ∀ x ∈ Ix c s pre, x.ro = false) (h0 : Star (I s0 [] ++ F) w) (a₁ : α → Act)
    (hassign : ∀ (l : Nat) (x : α) (W : World) (K : Act → World → Prop), K (a₁ x) W →
      assign.wpIn (Fence.wide.inRound l) 0 P (Exit.then K (fun _ _ _ => False)) { tmps := a.tmps.setIfInBounds t (enc x), defers := [] } W)
    (hbody : ∀ (l : Nat) (s : σ) (pre : List α) (x : α) (L : List SProp) (W : World), pre ++ [x] <+: xs → (∀ y ∈ F, y ∈ L) → Star (I s pre ++ L) W →
      body.wpIn (Fence.wide.inRound l) 0 P (starPost I Ix (pre ++ [x]) L) (a₁ x) W)
    (hdone : ∀ (D : Nat) (s : σ) (W : World), Star (I s xs ++ (objE D (.deferred (some [])) :: F)) W → Q .normal { a with defers := { target := .collected D, args := #[] } :: a.defers } W)
    (hstop : ∀ (D : Nat) (c : Code) (s : σ) (pre : List α) (W : World), pre <+: xs → pre ≠ [] → Star (Ix c s pre ++ (objE D (.deferred (some [])) :: F)) W →
      c.wpIn Fence.wide 0 P Q { a with defers := { target := .collected D, args := #[] } :: a.defers } W) :
    (Code.rangeFunc g #[t] assign body).wpIn Fence.wide 0 P Q a w := by
  refine wpIn_rangeFunc ?_
  intro fn hfn
  obtain ⟨rec, hrec⟩ : ∃ rec : LoopState → Option Code → Loop, rec = fun st pe => { state := st, pending := pe, fn, tmps := a.tmps, params := #[t], assign, body, defers := w.heap.size } := ⟨_, rfl⟩
  have hM1 := (h0.new_obj (.deferred (some []))).new_obj (.loop (rec .ready none))
  rw [World.size_alloc] at hM1
  generalize hD : w.heap.size = D at hM1 hrec
  obtain ⟨l, hl⟩ : ∃ l, l = D + 1 := ⟨_, rfl⟩
  have henter : (Instr.enterLoop fn a.tmps #[t] assign body none).run P w = .ok (l, [{ target := .collected D, args := #[] }]) ((w.alloc (.deferred (some []))).alloc (.loop (rec .ready none))) := by
    rw [hrec, hl, ← hD]; exact run_enterLoop_outer _ _ _ _ _
  rw [← hl] at hM1
  clear hl hD
  generalize (w.alloc (.deferred (some []))).alloc (.loop (rec .ready none)) = W1 at hM1 henter
  obtain ⟨J, hJ⟩ : ∃ J : σ → List α → SProp, J = fun s pre => starE (objE l (.loop (rec .ready none)) :: objE D (.deferred (some [])) :: I s pre) := ⟨_, rfl⟩
  obtain ⟨Jx, hJx⟩ : ∃ Jx : Code → σ → List α → SProp, Jx = fun c s pre => starE (objE l (.loop (rec .done (some c))) :: objE D (.deferred (some [])) :: Ix c s pre) := ⟨_, rfl⟩
  have hro : ∀ (o o' : Obj) (M : List SProp), (∀ x ∈ M, x.ro = false) → ∀ x ∈ objE l o :: objE D o' :: M, x.ro = false := fun o o' M h x hx => by
    rcases List.mem_cons.1 hx with rfl | hx
    · rfl
    · rcases List.mem_cons.1 hx with rfl | hx
      · rfl
      · exact h x hx
  have hpar : ∀ st pe, (rec st pe).params = #[t] ∧ (rec st pe).fn = fn ∧ (rec st pe).tmps = a.tmps ∧ (rec st pe).assign = assign ∧ (rec st pe).body = body ∧ (rec st pe).state = st ∧ (rec st pe).pending = pe := fun st pe => by rw [hrec]; exact ⟨rfl, rfl, rfl, rfl, rfl, rfl, rfl⟩
  have hbusy : ∀ st pe st', { rec st pe with state := st' } = rec st' pe := fun st pe st' => by rw [hrec]
  have hboth : ∀ st pe st' pe', { rec st pe with state := st', pending := pe' } = rec st' pe' := fun st pe st' pe' => by rw [hrec]
  refine ⟨l, [{ target := .collected D, args := #[] }], W1, { target := .fn (.func gf) lb, args := #[.func (.yield l) #[] #[]] }, W1, gf,
    #[.func (.yield l) #[] #[]] ++ lb, W1, henter, ?_, fun _ _ => trivial, ?_, fun h => (by simp [Fence.wide] at h), ?_⟩
  · simp only [resolve, hg]
    simp [go_sem]
  · simp [invoke, go_sem, eg]
  · have hj0 : Star (J s0 [] :: F) W1 := by rw [hJ]; exact Star.fold (I := objE l _ :: objE D _ :: I s0 []) hM1 (hro _ _ _ (hI s0 []))
    refine (hseq σ l J Jx s0 W1 ?_ hj0).mono ?_
    · intro s pre x L W hpre hF hS
      rw [hJ] at hS
      have hS1 := hS.unfold
      have hl1 : W.heap[l]? = some (.loop (rec .ready none)) := hS1.all _ List.mem_cons_self
      have hy := run_yield (P := P) (args := #[enc x]) hl1 (by rw [(hpar _ _).1]; rfl)
      rw [(hpar _ _).1, (hpar _ _).2.1, (hpar _ _).2.2.1, (hpar _ _).2.2.2.1, (hpar _ _).2.2.2.2.1] at hy
      refine ⟨fn, _, assign, body, hy, roundIn_of_wpIn trivial ?_⟩
      have hz : (Array.zip #[t] #[enc x]).foldl (fun tmps (t, a) => tmps.setIfInBounds t a) a.tmps = a.tmps.setIfInBounds t (enc x) := by simp
      rw [hz]
      refine hassign l x W _ ⟨_, run_beginRound hl1 (hpar _ _).2.2.2.2.2.1, ?_⟩
      rw [hbusy]
      have hS2 : Star (objE l (.loop (rec .busy none)) :: (objE D (.deferred (some [])) :: (I s pre ++ L))) (W.putObj l (.loop (rec .busy none))) := Star.put_obj hS1 _
      have hS3 : Star (I s pre ++ (objE l (.loop (rec .busy none)) :: objE D (.deferred (some [])) :: L)) (W.putObj l (.loop (rec .busy none))) := Star.app_perm (A := [objE l _, objE D _]) hS2
      refine wpIn_mono (hbody l s pre x _ _ hpre (fun y hy => List.mem_cons_of_mem _ (List.mem_cons_of_mem _ (hF y hy))) hS3) ?_
      have fin : ∀ (jump : Option Code) (M : List SProp) (W3 : World), (∀ x ∈ M, x.ro = false) → Star (M ++ (objE l (.loop (rec .busy none)) :: objE D (.deferred (some [])) :: L)) W3 →
          ∃ w', (Instr.endRound l jump).run P W3 = .ok (.bool jump.isNone) w' ∧ Star (starE (objE l (.loop (rec (if jump.isNone then .ready else .done) jump)) :: objE D (.deferred (some [])) :: M) :: L) w' := fun jump M W3 hM h3 => by
        have h4 : Star (objE l (.loop (rec .busy none)) :: (objE D (.deferred (some [])) :: (M ++ L))) W3 := Star.app_perm (B := [objE l _, objE D _]) h3
        have hr := run_endRound (P := P) jump (show W3.heap[l]? = some (.loop (rec .busy none)) from h4.head)
        rw [hboth] at hr
        exact ⟨_, hr, Star.fold (I := objE l _ :: objE D _ :: M) (h4.put_obj _) (hro _ _ _ hM)⟩
      rintro e a3 W3 hp
      cases e with
      | normal => obtain ⟨s', hp⟩ := hp; obtain ⟨w', h1, h2⟩ := fin none _ W3 (hI _ _) hp; exact ⟨_, w', h1, .inl ⟨rfl, s', by rw [hJ]; exact h2⟩⟩
      | ret => obtain ⟨s', hp⟩ := hp; obtain ⟨w', h1, h2⟩ := fin (some .ret) _ W3 (hIx _ _ _) hp; exact ⟨_, w', h1, .inr ⟨rfl, .ret, s', by rw [hJx]; exact h2⟩⟩
      | exit id => obtain ⟨s', hp⟩ := hp; obtain ⟨w', h1, h2⟩ := fin (some (.exit id)) _ W3 (hIx _ _ _) hp; exact ⟨_, w', h1, .inr ⟨rfl, .exit id, s', by rw [hJx]; exact h2⟩⟩
      | goto t => obtain ⟨s', hp⟩ := hp; obtain ⟨w', h1, h2⟩ := fin (some (.goto t)) _ W3 (hIx _ _ _) hp; exact ⟨_, w', h1, .inr ⟨rfl, .goto t, s', by rw [hJx]; exact h2⟩⟩
      | panic ch => exact hp.elim
      | outgrown => exact hp.elim
    · rintro e W2 ⟨⟨v, rfl⟩, ⟨s, hS⟩ | ⟨c, s, pre, hp1, hp2, hS⟩⟩
      · rw [hJ] at hS
        have h1 := hS.unfold
        have hr := run_endLoop (P := P) (show W2.heap[l]? = some (.loop (rec .ready none)) from h1.head) (by rw [(hpar _ _).2.2.2.2.2.1]; simp)
        rw [(hpar _ _).2.2.2.2.2.2] at hr
        refine ⟨none, _, hr, hdone D s _ ?_⟩
        exact Star.app_perm (A := [objE D _]) (h1.put_obj _).tail
      · rw [hJx] at hS
        have h1 := hS.unfold
        have hr := run_endLoop (P := P) (show W2.heap[l]? = some (.loop (rec .done (some c))) from h1.head) (by rw [(hpar _ _).2.2.2.2.2.1]; simp)
        rw [(hpar _ _).2.2.2.2.2.2] at hr
        refine ⟨some c, _, hr, hstop D c s pre _ hp1 hp2 ?_⟩
        exact Star.app_perm (A := [objE D _]) (h1.put_obj _).tail
end Go.Proofs.Ytlhedbjjlomniaa
set_option linter.unusedSimpArgs false
set_option linter.unusedVariables false
namespace Go.Proofs.Ytlhedbjjlomniaa
open Go.RowKit
section
variable {P : Program} {ops : Array Oper} {Q : Exit → Act → World → Prop} {md : Region.Mode} {n l : Nat}
def noDefer (ops : Array Oper) : Bool := ops.toList.all fun o => match o.op with | .defer _ => false | _ => true
theorem noDefer_at (h : noDefer ops = true) {i : Nat} {o : Oper} (ho : ops[i]? = some o) : ∀ c, o.op ≠ .defer c := by
  intro c e
  unfold noDefer at h
  have hm : o ∈ ops.toList := by
    have := (Array.getElem?_eq_some_iff.1 ho)
    obtain ⟨h1, h2⟩ := this
    rw [← h2]
    simp
  have := List.all_eq_true.1 h o hm
  rw [e] at this
  cases this
theorem wpAny_round (hnd : noDefer ops = true) (hout : ¬ LetsOut Q) : ∀ (fuel : Nat) (listed : Array Bool) (a : Act) (w : World), wpAny P md ops Q fuel listed a w → wpAnyIn (Fence.wide.inRound l) n P md ops Q fuel listed a w
  | 0, _, _, _, h => h
  | fuel + 1, listed, a, w, h => ⟨h.1, fun i hi => by
      have h1 := h.2 i hi
      unfold wpOp at h1
      unfold wpOpIn
      cases ho : ops[i]? with
      | none => rw [ho] at h1; exact wpAny_round hnd hout _ _ _ _ h1
      | some o =>
        rw [ho] at h1
        simp only at h1 ⊢
        split
        · rename_i hw
          rw [if_pos hw] at h1
          rcases h1 with h1 | h1
          · exact Oper.wpIn_mono (fun a w => wpAny_round hnd hout _ _ _ _) (wpIn_of_wp_round (noDefer_at hnd ho) h1)
          · exact absurd h1.2 hout
        · rename_i hw
          rw [if_neg hw] at h1
          exact ⟨fun _ _ => trivial, wpAny_round hnd hout _ _ _ _ h1⟩⟩
theorem region_RS_round (L0 : List SProp) (Z : List Nat) {id : Nat} {a : Act} {L : List SProp} {w : World} (hm : P.follows .mixedOrders = true) (hnd : noDefer ops = true) (hout : ¬ LetsOut Q) (hM : Star L w) (h : RS P .any ops Q L0 Z ops.size (Array.replicate ops.size false) a L) :
    (Code.region id ops true).wpIn (Fence.wide.inRound l) n P Q a w := wpIn_region_any hm (wpAny_round hnd hout _ _ _ _ (wpAny_of_RS _ _ _ L _ (hM.drew) h))
theorem callsIn_round {l n : Nat} {P : Program} {f : FuncId} {args : Array Value} {w : World} {R : Ending → World → Prop} (h : Calls P f args w R) : CallsIn (Fence.wide.inRound l) n P f args w R := (show CallsIn Fence.wide n P f args w R from callsIn_wide.2 h)
end
end Go.Proofs.Ytlhedbjjlomniaa
set_option linter.unusedSimpArgs false
set_option linter.unusedVariables false
namespace Go.Proofs.Ytlhedbjjlomniaa
open Go.RowKit
attribute [local go_sem] extract_mid extract_drop bget bsize wrap64_u8 i64_u8 u64_u8 bappend
attribute [local go_sem] Oper.semAt_some
/-- Group i of n parts that begin at ad. -/
def encG (ad : Addr) (n i : Nat) : Value := .slice (some (ad.add (8 * i * 33))) (min 8 (n - 8 * i)) (min 8 (n - 8 * i))
theorem ex_slice8 {w : World} {o : Oper} {a : Act} {x lo : Operand} {ad : Addr} {n c k : Nat} (ho : o.op = .slice 50 x (some lo) none none) (hx : a.eval x = .slice (some ad) n c) (hlo : a.eval lo = .int .i64 ((8 * k : Nat) : Int)) (h1 : 8 * k ≤ n) (h2 : 8 * k < c) :
    (execOp a.eval o).run Try.prog w = .ok (.value (.slice (some (ad.add (8 * k * 33))) (n - 8 * k) (c - 8 * k))) w := by
  unfold execOp
  simp only [ho, hx, hlo, Option.map_some, Option.map_none]
  have q1 : (0 : Int) ≤ 8 * (k : Int) ∧ 8 * (k : Int) ≤ (n : Int) := by omega
  have q2 : (8 * (k : Int)).toNat = 8 * k := by omega
  have q3 : ¬ (c = 8 * k) := by omega
  go_simp
theorem ex_min {P : Program} {w : World} {o : Oper} {a : Act} {x y : Operand} {t t' : TypeId} (ho : o.op = .call { callee := .builtin .min, args := #[x, y], argTypes := #[t, t'] }) {i j m : Int} (hx : a.eval x = .int .i64 i) (hy : a.eval y = .int .i64 j) (hm : (if j < i then j else i) = m) : (execOp a.eval o).run P w = .ok (.value (.int .i64 m)) w := by
  subst hm
  unfold execOp
  simp only [ho, resolve, Sem.run_bind, Sem.run_pure, Result.andThen_ok, invoke, builtin, List.map_toArray, List.map_cons, List.map_nil, hx, hy]
  go_simp
set_option maxRecDepth 100000 in
theorem chunk_star {F : List SProp} (A : Option Addr) (n c : Nat) (w : World) (hM : Star F w) :
    Calls Try.prog 102 #[.slice A n c, .int .i64 8] w fun r w' => ∃ b1 b2, r = .returned (.func (.func 111) #[] #[.pointer (some ⟨b1, 0, none⟩), .pointer (some ⟨b2, 0, none⟩)]) ∧
      Star (cellsE b1 50 #[.slice A n c] :: cellsE b2 3 #[.int .i64 8] :: F) w' := by
  go_enter Try.func102, Try.ntmps102
  go_wp2_with (first | (first | (have hM0 := hM; clear hM; refine BigFrame.wpList_want (by rfl) fun K hK => ws_box hM0 rfl rfl (cs := #[.slice A n c]) rfl (fun g1 w hM => hK _ _ ?_); clear hM0 hK K) | fail) | (first | (have hM0 := hM; clear hM; refine BigFrame.wpList_want (by rfl) fun K hK => ws_box hM0 rfl rfl (cs := #[.int .i64 8]) rfl (fun g2 w hM => hK _ _ ?_); clear hM0 hK K) | fail) | (first | (refine BigFrame.wpList_want (by rfl) fun K hK => ws_load1 hM rfl rfl (by (repeat (first | assumption | (with_reducible exact mZ) | apply mS)); first | done | fail) (by first | rfl | assumption) (by decide +kernel) (hK _ _ ?_); clear hK K) | fail))
  go_ret
  exact ⟨_, _, rfl, hM.sel (by repeat (first | (with_reducible exact Sel.refl) | (with_reducible exact Take.head) | (with_reducible apply Take.tail) | (with_reducible apply Sel.cons) | (with_reducible apply Sel.drop)))⟩
set_option maxRecDepth 100000 in
set_option maxHeartbeats 4000000 in
theorem chunk_seq {F : List SProp} {b1 b2 : Nat} (ad : Addr) (n c : Nat) (hn0 : 0 < n) (hn : n ≤ 1000) (hc : n ≤ c) (hcm : c ≤ 9223372036854775807)
    (h1 : cellsE b1 50 #[.slice (some ad) n c] ∈ F) (h2 : cellsE b2 3 #[.int .i64 8] ∈ F) :
    SeqStar Try.prog 111 #[.pointer (some ⟨b1, 0, none⟩), .pointer (some ⟨b2, 0, none⟩)] (encG ad n) (List.range ((n + 7) / 8)) F := by
  intro σ l J Jx s0 W hY hM
  have HY := Lib.hid hY
  clear hY
  obtain ⟨G, hG⟩ : ∃ G, (n + 7) / 8 = G := ⟨_, rfl⟩
  rw [hG] at HY ⊢
  have HG := Lib.hid hG
  clear hG
  refine callsIn_of_wp Try.func111 rfl trivial ?_; simp only [Try.ntmps111, List.size_toArray, List.length_cons, List.length_nil, Nat.reduceAdd, Nat.reduceSub, Array.replicate_succ, Array.replicate_zero, List.push_toArray, List.append_toArray, List.nil_append, List.cons_append]
  gi_wp2
  obtain ⟨wq, rfl⟩ : ∃ wq : World, wq = W := ⟨_, rfl⟩
  gi_loopw [4] (fun i wr => ∃ (k : Nat) (s1 : σ), k ≤ G ∧ i = .int .i64 (8 * k : Nat) ∧ Star (J s1 (List.range k) :: F) wr) (fun i _ => n - (intOf i).toNat)
  case atStart => exact ⟨0, s0, by omega, rfl, hM⟩
  case round =>
    clear hM
    obtain ⟨k, s1, hk, rfl, hM⟩ := hrel
    have hGv := HG.out
    by_cases hlt : k < G
    · have hlt2 : ((8 * k : Nat) : Int) < (n : Int) := by omega
      have e1 : (List.range (k + 1)) = List.range k ++ [k] := List.range_succ
      have hpre : List.range k ++ [k] <+: List.range G := by
        rw [← e1]
        exact ⟨(List.range G).drop (k + 1), by
          have := List.take_append_drop (k + 1) (List.range G)
          rwa [List.take_range, Nat.min_eq_left (by omega)] at this⟩
      have HPRE := Lib.hid hpre
      have HE1 := Lib.hid e1
      obtain ⟨g, hg⟩ : ∃ g, min 8 (n - 8 * k) = g := ⟨_, rfl⟩
      have hg1 : 0 < g ∧ g ≤ 8 ∧ 8 * k + g ≤ n := by omega
      have HMN : Hid ((if ((n - 8 * k : Nat) : Int) < 8 then ((n - 8 * k : Nat) : Int) else 8) = (g : Int)) := by show _ = _; split <;> omega
      have HGN : Hid (encG ad n k = .slice (some (ad.add (8 * k * 33))) g g) := by show _ = _; unfold encG; rw [hg]
      clear hpre e1 hGv hg
      gi_wp2_with (first | (first | (refine BigFrame.wpListIn_want (by rfl) fun K hK => wpIn_of_wp (fun _ h => by cases h) (ws_load1 hM rfl rfl (by (repeat (first | assumption | (with_reducible exact mZ) | apply mS)); first | done | fail) (by first | rfl | assumption) (by decide +kernel) (hK _ _ ?_)); clear hK K) | fail))
      refine wpIn_wide.2 ?_
      (refine region_RS ([cellsE b1 50 #[.slice (some ad) n c], cellsE b2 3 #[.int .i64 8]]) [] (by kernel_rfl) hM ?_; clear hM; change RS _ _ _ _ _ _ 7 (Array.replicate 7 false) _ _; refine RS_take (i := 0) rfl (by decide +kernel) (fun _ _ _ h => h) (by first | (intro x hx; (repeat (first | exact hx | apply mS)); done) | ((repeat (refine List.forall_mem_cons.2 ⟨(by (repeat (first | assumption | (with_reducible exact mZ) | apply mS)); first | done | fail), ?_⟩)); intro x hx; first | (cases hx; done) | ((repeat (first | exact hx | apply mS)); done))) (stab_read (by rfl) (fun L w hL hM => (by first | exact ex_load1 hM rfl rfl (hL _ (by (repeat (first | assumption | (with_reducible exact mZ) | apply mS)); first | done | fail)) rfl (by kernel_rfl) | exact ex_rowload rfl rfl (hM.row (hL _ (by (repeat (first | assumption | (with_reducible exact mZ) | apply mS)); first | done | fail))) (by assumption) (by kernel_rfl) | exact ex_rowload0 rfl rfl (hM.row (hL _ (by (repeat (first | assumption | (with_reducible exact mZ) | apply mS)); first | done | fail))) (by assumption) (by kernel_rfl)))) ?_; simp only [Act.put, List.setIfInBounds_toArray, List.set_cons_zero, List.set_cons_succ]; refine RS_take (i := 1) rfl (by decide +kernel) (fun _ _ _ h => h) (by first | (intro x hx; (repeat (first | exact hx | apply mS)); done) | ((repeat (refine List.forall_mem_cons.2 ⟨(by (repeat (first | assumption | (with_reducible exact mZ) | apply mS)); first | done | fail), ?_⟩)); intro x hx; first | (cases hx; done) | ((repeat (first | exact hx | apply mS)); done))) (stab_read (by rfl) (fun L w hL hM => (by first | exact ex_load1 hM rfl rfl (hL _ (by (repeat (first | assumption | (with_reducible exact mZ) | apply mS)); first | done | fail)) rfl (by kernel_rfl) | exact ex_rowload rfl rfl (hM.row (hL _ (by (repeat (first | assumption | (with_reducible exact mZ) | apply mS)); first | done | fail))) (by assumption) (by kernel_rfl) | exact ex_rowload0 rfl rfl (hM.row (hL _ (by (repeat (first | assumption | (with_reducible exact mZ) | apply mS)); first | done | fail))) (by assumption) (by kernel_rfl)))) ?_; simp only [Act.put, List.setIfInBounds_toArray, List.set_cons_zero, List.set_cons_succ]; refine RS_take (i := 2) rfl (by decide +kernel) (fun _ _ _ h => h) (by first | (intro x hx; (repeat (first | exact hx | apply mS)); done) | ((repeat (refine List.forall_mem_cons.2 ⟨(by (repeat (first | assumption | (with_reducible exact mZ) | apply mS)); first | done | fail), ?_⟩)); intro x hx; first | (cases hx; done) | ((repeat (first | exact hx | apply mS)); done))) (stab_pure (by rfl) (fun w => (by go_simp; try with_reducible rfl))) ?_; simp only [Act.put, List.setIfInBounds_toArray, List.set_cons_zero, List.set_cons_succ]; refine RS_take (i := 3) rfl (by decide +kernel) (fun _ _ _ h => h) (by first | (intro x hx; (repeat (first | exact hx | apply mS)); done) | ((repeat (refine List.forall_mem_cons.2 ⟨(by (repeat (first | assumption | (with_reducible exact mZ) | apply mS)); first | done | fail), ?_⟩)); intro x hx; first | (cases hx; done) | ((repeat (first | exact hx | apply mS)); done))) (stab_read (by rfl) (fun L w hL hM => (ex_slice8 rfl rfl rfl (by omega) (by omega)))) ?_; simp only [Act.put, List.setIfInBounds_toArray, List.set_cons_zero, List.set_cons_succ]; refine RS_take (i := 4) rfl (by decide +kernel) (fun _ _ _ h => h) (by first | (intro x hx; (repeat (first | exact hx | apply mS)); done) | ((repeat (refine List.forall_mem_cons.2 ⟨(by (repeat (first | assumption | (with_reducible exact mZ) | apply mS)); first | done | fail), ?_⟩)); intro x hx; first | (cases hx; done) | ((repeat (first | exact hx | apply mS)); done))) (stab_pure (by rfl) (fun w => (by go_simp; try with_reducible rfl))) ?_; simp only [Act.put, List.setIfInBounds_toArray, List.set_cons_zero, List.set_cons_succ]; refine RS_take (i := 5) rfl (by decide +kernel) (fun _ _ _ h => h) (by first | (intro x hx; (repeat (first | exact hx | apply mS)); done) | ((repeat (refine List.forall_mem_cons.2 ⟨(by (repeat (first | assumption | (with_reducible exact mZ) | apply mS)); first | done | fail), ?_⟩)); intro x hx; first | (cases hx; done) | ((repeat (first | exact hx | apply mS)); done))) (stab_read (by rfl) (fun L w hL hM => (ex_min rfl rfl rfl HMN.out))) ?_; simp only [Act.put, List.setIfInBounds_toArray, List.set_cons_zero, List.set_cons_succ]; refine RS_take (i := 6) rfl (by decide +kernel) (fun _ _ _ h => h) (by first | (intro x hx; (repeat (first | exact hx | apply mS)); done) | ((repeat (refine List.forall_mem_cons.2 ⟨(by (repeat (first | assumption | (with_reducible exact mZ) | apply mS)); first | done | fail), ?_⟩)); intro x hx; first | (cases hx; done) | ((repeat (first | exact hx | apply mS)); done))) (stab_pure (by rfl) (fun w => (by go_simp; try with_reducible rfl))) ?_; simp only [Act.put, List.setIfInBounds_toArray, List.set_cons_zero, List.set_cons_succ]; refine RS_done (by decide +kernel) (.inl (by first | (intro x hx; (repeat (first | exact hx | apply mS)); done) | ((repeat (refine List.forall_mem_cons.2 ⟨(by (repeat (first | assumption | (with_reducible exact mZ) | apply mS)); first | done | fail), ?_⟩)); intro x hx; first | (cases hx; done) | ((repeat (first | exact hx | apply mS)); done)))) (fun w hM => ?_))
      obtain ⟨fn, tmps, assign, body, hy, hR⟩ := HY.out s1 (List.range k) k _ _ HPRE.out (fun y hy => hy) hM
      rw [HGN.out] at hy
      have HR := Lib.hid hR
      clear hR
      gi_wp2_with (first | (first | (refine BigFrame.wpListIn_want (by rfl) fun K hK => wpIn_of_wp (fun _ h => by cases h) (ws_load1 hM rfl rfl (by (repeat (first | assumption | (with_reducible exact mZ) | apply mS)); first | done | fail) (by first | rfl | assumption) (by decide +kernel) (hK _ _ ?_)); clear hK K) | fail))
      refine ⟨rfl, RoundIn.mono HR.out ?_⟩
      rintro e W3 (⟨rfl, s2, hS⟩ | ⟨rfl, c2, s2, hS⟩)
      · clear hM HR hy
        have hM := hS
        clear hS
        gi_wp2_with (first | (first | (refine BigFrame.wpListIn_want (by rfl) fun K hK => wpIn_of_wp (fun _ h => by cases h) (ws_load1 hM rfl rfl (by (repeat (first | assumption | (with_reducible exact mZ) | apply mS)); first | done | fail) (by first | rfl | assumption) (by decide +kernel) (hK _ _ ?_)); clear hK K) | fail))
        go_roundw
        case rel => exact ⟨k + 1, s2, by omega, by go_num, by rw [HE1.out]; exact hM⟩
        case measure => simp [intOf]; omega
      · clear hM HR hy
        gi_wp2
        refine bodyPost_ret (results_none rfl _ _ _) rfl ?_
        exact ⟨⟨_, rfl⟩, .inr ⟨c2, s2, List.range k ++ [k], HPRE.out, by simp, hS⟩⟩
    · obtain rfl : k = G := by omega
      have hge : decide (8 * (k : Int) < (n : Int)) = false := by simp; omega
      have hge2 : ¬ (8 * (k : Int) < (n : Int)) := by omega
      gi_wp2_with (first | (first | (refine BigFrame.wpListIn_want (by rfl) fun K hK => wpIn_of_wp (fun _ h => by cases h) (ws_load1 hM rfl rfl (by (repeat (first | assumption | (with_reducible exact mZ) | apply mS)); first | done | fail) (by first | rfl | assumption) (by decide +kernel) (hK _ _ ?_)); clear hK K) | fail))
      go_end0
      exact ⟨⟨_, rfl⟩, .inl ⟨s1, hM⟩⟩
end Go.Proofs.Ytlhedbjjlomniaa
set_option linter.unusedSimpArgs false
set_option linter.unusedVariables false
namespace Go.Proofs.Ytlhedbjjlomniaa
open Go.RowKit
attribute [local go_sem] extract_mid extract_drop bget bsize wrap64_u8 i64_u8 u64_u8 bappend
attribute [local go_sem] Oper.semAt_some
theorem drop_pre' {L : List SProp} {w : World} {D : Nat} (h : Star (objE D (.deferred (some [])) :: L) w) (P : Program) : (Instr.takeDeferred D).run P w = .ok [] (w.putObj D (.deferred none)) :=
  run_takeDeferred (show w.heap[D]? = some (.deferred (some [])) from h.head)
theorem Star.row_mid {L : List SProp} {w : World} {ad : Addr} {n : Nat} {l : List Pt} (h : Star L w) (hx : rowE 33 (some ad) n (pvs l) ∈ L) (hl : ok32 l) {i g : Nat} (hg : i + g ≤ n) : Star (rowE 33 (some (ad.add (i * 33))) g (pvs ((l.drop i).take g)) :: L) w := by
  have hr := h.row hx
  have hlen := pvs_row hr hl
  have h2 : ok32 ((l.drop i).take g) := fun p hp => hl p (List.mem_of_mem_drop (List.mem_of_mem_take hp))
  have hgl : ((l.drop i).take g).length = g := by rw [List.length_take, List.length_drop]; omega
  refine h.view hx rfl rfl (fun k ⟨ad', e, hn, hk⟩ => ?_) ?_
  · injection e with e
    subst e
    rw [block_of_add] at hk
    exact ⟨ad, rfl, by omega, hk⟩
  · refine ⟨?_, fun hn => ⟨_, rfl, ?_, fun j u hu => ?_⟩⟩
    · unfold pvs
      rw [flat_len pcs 33 _ fun x hx => pcs_len (h2 x hx), hgl]
    · obtain ⟨ad', e, hb, _⟩ := hr.2 (by omega)
      injection e with e
      subst e
      rw [block_of_add]
      exact hb
    · obtain ⟨ad', e, _, hc⟩ := hr.2 (by omega)
      injection e with e
      subst e
      rw [add_of_add]
      have hjl := (List.getElem?_eq_some_iff.1 hu).1
      unfold pvs at hjl hu
      rw [flat_len pcs 33 _ fun x hx => pcs_len (h2 x hx), hgl] at hjl
      obtain ⟨a, b, hb, rfl⟩ : ∃ a b, b < 33 ∧ j = a * 33 + b := ⟨j / 33, j % 33, Nat.mod_lt _ (by omega), by omega⟩
      have ha : a < g := by omega
      have hq : ((l.drop i).take g)[a]? = some ((l.drop i).take g)[a] := List.getElem?_eq_getElem (by omega)
      generalize ((l.drop i).take g)[a] = d at hq
      have hd : l[i + a]? = some d := by
        rw [List.getElem?_take, if_pos ha, List.getElem?_drop] at hq
        exact hq
      have hd32 := hl d (List.mem_of_getElem? hd)
      obtain ⟨v, hv⟩ : ∃ v, (pcs d)[b]? = some v := ⟨_, List.getElem?_eq_getElem (by rw [pcs_len hd32]; exact hb)⟩
      have e1 := flat_get pcs 33 _ (fun x hx => pcs_len (h2 x hx)) a d hq b v hv
      rw [e1] at hu
      injection hu with hu
      subst hu
      have e2 := flat_get pcs 33 l (fun x hx => pcs_len (hl x hx)) (i + a) d hd b v hv
      refine hc _ v ?_
      rw [show i * 33 + (a * 33 + b) = (i + a) * 33 + b by rw [Nat.add_mul]; omega]
      exact e2
theorem own_cap {L : List SProp} {w : World} {e : TypeId} {size : Nat} {A : Option Addr} {n c : Nat} {xs : List Value} (h : Star L w) (hx : ownE e size A n c xs ∈ L) : n ≤ c ∧ c ≤ 9223372036854775807 := by
  have h1 : w.ownsRow 0 e size (.slice A n c) n xs := h.all _ hx
  rcases h1.2 with ⟨hv, rfl⟩ | ⟨g, cap, cur, hv, _, _, h2, h3, _⟩
  · injection hv with _ _ hc
    subst hc
    omega
  · injection hv with _ _ hc
    subst hc
    unfold maxLen at h3
    omega
theorem prefix_range {pre : List Nat} {x G : Nat} (h : pre ++ [x] <+: List.range G) : x = pre.length ∧ pre.length < G := by
  obtain ⟨r, hr⟩ := h
  have h1 : (List.range G)[pre.length]? = some x := by
    rw [← hr, List.append_assoc, List.getElem?_append_right (Nat.le_refl _), Nat.sub_self]
    rfl
  obtain ⟨h2, h3⟩ := List.getElem?_eq_some_iff.1 h1
  simp at h2 h3
  exact ⟨h3.symm, h2⟩
theorem grp_at (l : List Pt) {j : Nat} (h : j < (l.length + 7) / 8) : (grp l)[j]? = some ((l.drop (8 * j)).take 8) := by
  unfold grp
  simp [h]
theorem upP_snoc (k : Int) (l : List Pt) {j : Nat} (h : j < (l.length + 7) / 8) {gl : List Pt} (hg : (l.drop (8 * j)).take 8 = gl) : (upP k l).take (j + 1) = (upP k l).take j ++ [(onm 2 (textN (k, gl)), sumP gl)] := by
  refine take_snoc_at _ _ _ ?_
  unfold upP
  rw [List.getElem?_map, grp_at l h, hg]
  rfl
theorem upO_snoc (k : Int) (l : List Pt) {j : Nat} (h : j < (l.length + 7) / 8) {gl : List Pt} (hg : (l.drop (8 * j)).take 8 = gl) : (upO k l).take (j + 1) = (upO k l).take j ++ [(2, onm 2 (textN (k, gl)), textN (k, gl))] := by
  refine take_snoc_at _ _ _ ?_
  unfold upO
  rw [List.getElem?_map, grp_at l h, hg]
  rfl
theorem textN_len (n : Int × List Pt) (h : ok32 n.2) (h8 : n.2.length ≤ 8) : (textN n).length ≤ 346 := by
  have h1 := encN_len n.1
  have h2 := encN_len n.2.length
  have h3 := encPs_len n.2 fun p hp => by rw [h p hp]; omega
  unfold textN
  simp only [List.length_append]
  omega
theorem sumP_sub (l : List Pt) (h : ∀ p ∈ l, 0 ≤ p.2) (i g : Nat) : 0 ≤ sumP ((l.drop i).take g) ∧ sumP ((l.drop i).take g) ≤ sumP l := by
  have nn : ∀ m : List Pt, (∀ p ∈ m, 0 ≤ p.2) → 0 ≤ sumP m := by
    intro m
    induction m with
    | nil => intro _; simp [sumP]
    | cons p m ih => intro hm; have h1 := hm p List.mem_cons_self; have h2 := ih fun q hq => hm q (List.mem_cons_of_mem _ hq); simp only [sumP]; omega
  have h1 := nn ((l.drop i).take g) fun p hp => h p (List.mem_of_mem_drop (List.mem_of_mem_take hp))
  have h2 := nn ((l.drop i).drop g) fun p hp => h p (List.mem_of_mem_drop (List.mem_of_mem_drop hp))
  have h3 := nn (l.take i) fun p hp => h p (List.mem_of_mem_take hp)
  have e : sumP l = sumP (l.take i) + (sumP ((l.drop i).take g) + sumP ((l.drop i).drop g)) := by
    rw [← sumP_app, List.take_append_drop, ← sumP_app, List.take_append_drop]
  omega
theorem le_app {j G : Nat} (h : j < G) (h2 : G ≤ 130) : (j + 1) * (56 + 1) ≤ 140737488355328 := by omega
def noPanic' (Q : Exit → Act → World → Prop) : Exit → Act → World → Prop
  | .panic _, _, _ => False
  | e, a, w => Q e a w
theorem noPanic'_wp {P : Program} {Q : Exit → Act → World → Prop} {c : Code} {a : Act} {w : World} (h : c.wp P (noPanic' Q) a w) : c.wp P Q a w :=
  wp_mono h fun e a w h => by cases e <;> first | exact h | exact h.elim
set_option maxRecDepth 100000 in
set_option maxHeartbeats 8000000 in
theorem level_star {F : List SProp} (k : Int) (hk : 1 ≤ k ∧ k ≤ 8) (A : Option Addr) (n c : Nat) (l : List Pt) (h32 : ok32 l) (hb : ∀ p ∈ l, 0 ≤ p.2 ∧ p.2 ≤ 1000000) (hs : sumP l ≤ 1000000) (hn0 : 0 < n) (hn : n ≤ 1000) (hc : n ≤ c) (hcm : c ≤ 9223372036854775807) (w : World) (hM : Star F w) (hF : rowE 33 A n (pvs l) ∈ F) :
    Calls Try.prog 77 #[.int .i64 k, .slice A n c] w fun r w' => ∃ B cb U cu, r = .returned (.tuple #[.slice B (upP k l).length cb, .slice U (upO k l).length cu]) ∧
      Star (ownE 64 33 B (upP k l).length cb (pvs (upP k l)) :: ownE 76 34 U (upO k l).length cu (ovs (upO k l)) :: F) w' := by
  have hlen := pvs_row (hM.row hF) h32
  obtain ⟨ad, rfl, _, _⟩ := (hM.row hF).2 hn0
  obtain ⟨G, hG⟩ : ∃ G, (n + 7) / 8 = G := ⟨_, rfl⟩
  have hPl : (upP k l).length = G := by rw [upP_len, hlen, hG]
  have hOl : (upO k l).length = G := by rw [upO_len, hlen, hG]
  have HQ : Hid (∀ (L : List SProp) (b1 b2 : Nat), cellsE b1 50 #[.slice (some ad) n c] ∈ L → cellsE b2 3 #[.int .i64 8] ∈ L → SeqStar Try.prog 111 #[.pointer (some ⟨b1, 0, none⟩), .pointer (some ⟨b2, 0, none⟩)] (encG ad n) (List.range G) L) := fun L b1 b2 h1 h2 => by
    have := chunk_seq (F := L) ad n c hn0 hn hc hcm h1 h2
    rwa [hG] at this
  have HBODY : Hid (∀ j, j < G → ∃ (g : Nat) (gl : List Pt) (tx id : List UInt8) (sm : Int), g ≤ 8 ∧ 0 < g ∧ encG ad n j = .slice (some (ad.add (8 * j * 33))) g g ∧ tx.length ≤ 346 ∧ id.length = 32 ∧ 0 ≤ sm ∧ sm ≤ 1000000 ∧
      (∀ (L : List SProp) (w : World), Star L w → rowE 33 (some ad) n (pvs l) ∈ L → Star (rowE 33 (some (ad.add (8 * j * 33))) g (pvs gl) :: L) w) ∧
      (∀ (L : List SProp) (w : World), Star L w → rowE 33 (some (ad.add (8 * j * 33))) g (pvs gl) ∈ L → Calls Try.prog 32 #[.agg (ndC k (some (ad.add (8 * j * 33))) g g)] w fun r w' => r = .returned (.string ⟨tx.toArray⟩) ∧ Star L w') ∧
      (∀ (L : List SProp) (w : World), Star L w → rowE 33 (some (ad.add (8 * j * 33))) g (pvs gl) ∈ L → Calls Try.prog 100 #[.agg (ndC k (some (ad.add (8 * j * 33))) g g)] w fun r w' => r = .returned (.int .i64 sm) ∧ Star L w') ∧
      (∀ (L : List SProp) (w : World), Star L w → Calls Try.prog 76 #[.int .i64 2, .string ⟨tx.toArray⟩] w fun r w' => r = .returned (.agg (ocs (2, id, tx)).toArray) ∧ Star L w') ∧
      pvs ((upP k l).take (j + 1)) = pvs ((upP k l).take j) ++ pvs [(id, sm)] ∧ ovs ((upO k l).take (j + 1)) = ovs ((upO k l).take j) ++ ovs [(2, id, tx)]) := fun j hj => by
    have hj2 : j < (l.length + 7) / 8 := by omega
    have hgl : ((l.drop (8 * j)).take 8).length = min 8 (n - 8 * j) := by rw [List.length_take, List.length_drop]; omega
    have h32g : ok32 ((l.drop (8 * j)).take 8) := fun p hp => h32 p (List.mem_of_mem_drop (List.mem_of_mem_take hp))
    have hbg : ∀ p ∈ (l.drop (8 * j)).take 8, 0 ≤ p.2 ∧ p.2 ≤ 1000000 := fun p hp => hb p (List.mem_of_mem_drop (List.mem_of_mem_take hp))
    have hsg := sumP_sub l (fun p hp => (hb p hp).1) (8 * j) 8
    have htk : (l.drop (8 * j)).take (min 8 (n - 8 * j)) = (l.drop (8 * j)).take 8 := by
      rcases Nat.lt_or_ge (n - 8 * j) 8 with h | h
      · rw [Nat.min_eq_right (by omega), List.take_of_length_le (by rw [List.length_drop]; omega), List.take_of_length_le (by rw [List.length_drop]; omega)]
      · rw [Nat.min_eq_left (by omega)]
    refine ⟨min 8 (n - 8 * j), (l.drop (8 * j)).take 8, textN (k, (l.drop (8 * j)).take 8), onm 2 (textN (k, (l.drop (8 * j)).take 8)), sumP ((l.drop (8 * j)).take 8), by omega, by omega, rfl, textN_len _ h32g (by simp only; omega), onm_len _ _, hsg.1, by omega, ?_, ?_, ?_, ?_, ?_, ?_⟩
    · intro L w hM hx
      have := hM.row_mid hx h32 (i := 8 * j) (g := min 8 (n - 8 * j)) (by omega)
      rwa [htk] at this
    · intro L w hM hx
      exact ntext_star k _ _ _ _ h32g (by omega) (fun p hp => (hbg p hp).2) (by omega) w hM hx
    · intro L w hM hx
      exact size_star k _ _ _ _ h32g hbg (by omega) w hM hx
    · intro L w hM
      exact make_star 2 2 rfl _ (by have := textN_len (k, (l.drop (8 * j)).take 8) h32g (by simp only; omega); omega) w hM
    · rw [upP_snoc k l hj2 rfl, pvs_app]
    · rw [upO_snoc k l hj2 rfl, ovs_app]
  rw [hPl, hOl]
  have hPt : (upP k l).take G = upP k l := List.take_of_length_le (by omega)
  have hOt : (upO k l).take G = upO k l := List.take_of_length_le (by omega)
  have HPT := Lib.hid hPt
  have HOT := Lib.hid hOt
  have hGb : G ≤ 130 := by omega
  generalize upP k l = up at HBODY HPT ⊢
  generalize upO k l = uo at HBODY HOT ⊢
  clear hb hs hlen hG hPl hOl hPt hOt hn0 h32
  refine (callsIn_wide (n := 0)).1 (callsIn_of_wp_marks Try.func77 rfl trivial (wpIn_wide.2 ?_)); simp only [Try.ntmps77, List.size_toArray, List.length_cons, List.length_nil, Nat.reduceAdd, Nat.reduceSub, Array.replicate_succ, Array.replicate_zero, List.push_toArray, List.append_toArray, List.nil_append, List.cons_append]
  go_wp2_with (first | (first | (have hM0 := hM; clear hM; refine BigFrame.wpList_want (by rfl) fun K hK => ws_box hM0 rfl rfl (cs := #[.int .i64 k]) rfl (fun g2 w hM => hK _ _ ?_); clear hM0 hK K) | fail) | (have _t := tok1; (first | (have hM0 := hM; clear hM; refine BigFrame.wpList_want (by rfl) fun K hK => ws_alloc1 hM0 (t := 50) rfl (.slice none 0 0) (by kernel_rfl) rfl (fun g6 w hM => hK _ _ ?_); clear hM0 hK K) | fail); clear tok1) | (first | (have hM0 := hM; clear hM; refine BigFrame.wpList_want (by rfl) fun K hK => ws_alloc1 hM0 (t := 50) rfl (.slice none 0 0) (by kernel_rfl) rfl (fun g6 w hM => hK _ _ ?_); clear hM0 hK K) | fail) | (first | (have hM0 := hM; clear hM; refine BigFrame.wpList_want (by rfl) fun K hK => ws_alloc1 hM0 (t := 65) rfl (.slice none 0 0) (by kernel_rfl) rfl (fun g7 w hM => hK _ _ ?_); clear hM0 hK K) | fail) | (go_at_call 102; have hM0 := hM; clear hM; (first | (with_reducible refine (chunk_star _ n c _ hM0).mono ?_) | fail); clear hM0; rintro _ w ⟨b1, b2, rfl, hM⟩))
  refine (wpIn_wide (n := 0)).1 ?_
  have hM2 : Star (cellsE g6 50 #[.slice none 0 0] :: ownE 64 33 none 0 0 [] :: cellsE g7 65 #[.slice none 0 0] :: ownE 76 34 none 0 0 [] :: cellsE b1 50 #[.slice (some ad) n c] :: cellsE b2 3 #[.int .i64 8] :: cellsE g2 3 #[.int .i64 k] :: F) w := ((hM.nilown 64 33).nilown 76 34).sel (by repeat (first | (with_reducible exact Sel.refl) | (with_reducible exact Take.head) | (with_reducible apply Take.tail) | (with_reducible apply Sel.cons) | (with_reducible apply Sel.drop)))
  replace hM : Star ([cellsE g6 50 #[.slice none 0 0], ownE 64 33 none 0 0 (pvs (up.take 0)), cellsE g7 65 #[.slice none 0 0], ownE 76 34 none 0 0 (ovs (uo.take 0))] ++ (cellsE b1 50 #[.slice (some ad) n c] :: cellsE b2 3 #[.int .i64 8] :: cellsE g2 3 #[.int .i64 k] :: F)) w := by
    rw [List.take_zero, List.take_zero]
    exact hM2
  clear hM2
  refine wpIn_rangeFunc_star (gf := 111) (lb := #[.pointer (some ⟨b1, 0, none⟩), .pointer (some ⟨b2, 0, none⟩)]) (σ := (Option Addr × Nat) × (Option Addr × Nat)) rfl (enters_at Try.func111 (by kernel_rfl) rfl) (HQ.out _ _ _ (by (repeat (first | assumption | (with_reducible exact mZ) | apply mS)); first | done | fail) (by (repeat (first | assumption | (with_reducible exact mZ) | apply mS)); first | done | fail))
    (I := fun q pre => [cellsE g6 50 #[.slice q.1.1 pre.length q.1.2], ownE 64 33 q.1.1 pre.length q.1.2 (pvs (up.take pre.length)), cellsE g7 65 #[.slice q.2.1 pre.length q.2.2], ownE 76 34 q.2.1 pre.length q.2.2 (ovs (uo.take pre.length))]) (Ix := fun _ _ _ => [falseE]) (s0 := ((none, 0), (none, 0))) (by simp [cellsE, ownE]) (by simp [falseE]) hM
    (fun x => { tmps := #[.int .i64 k, .slice (some ad) n c, .pointer (some ⟨g2, 0, none⟩), undef, .slice none 0 0, .slice none 0 0, .pointer (some ⟨g6, 0, none⟩), .pointer (some ⟨g7, 0, none⟩), encG ad n x, undef, undef, .slice (some ad) n c, .func (.func 111) #[] #[.pointer (some ⟨b1, 0, none⟩), .pointer (some ⟨b2, 0, none⟩)], encG ad n x, undef, undef, undef, undef, undef, undef, undef, undef, undef, undef, undef, undef, undef, undef, undef, undef, undef, undef, undef, undef], defers := [] }) ?assign ?body ?done ?stop
  case assign =>
    intro l x W K hK
    gi_wp2
    exact hK
  case body =>
    clear hM
    rintro lp ⟨⟨B, cb⟩, ⟨U, cu⟩⟩ pre x L W hpre hsub hM
    obtain ⟨rfl, hjG⟩ := prefix_range hpre
    obtain ⟨g, gl, tx, id, sm, hg8, hg0, hen, htx, hid, hsm0, hsm1, HR, HT, HS, HMK, HP, HO⟩ := HBODY.out _ hjG
    have m1 : cellsE g2 3 #[.int .i64 k] ∈ L := hsub _ (by simp)
    have m2 : rowE 33 (some ad) n (pvs l) ∈ L := hsub _ (by simp [hF])
    have hpl : (pre ++ [pre.length]).length = pre.length + 1 := by simp
    simp only [List.cons_append, List.nil_append] at hM
    replace hM := HR _ _ hM (by (repeat (first | assumption | (with_reducible exact mZ) | apply mS)); first | done | fail)
    rw [hen]
    have HID := Lib.hid hid
    have HBLD := Lib.hid (build_pt id hid sm)
    have HOS : Hid ((ocs (2, id, tx)).toArray.size = 34) := ocs_sz hid
    have HOL : Hid ((ocs (2, id, tx)).length = 34) := ocs_len hid
    have HOS0 : Hid ((ocs (0, z32, [])).toArray.size = 34) := ocs_sz oz32
    have HPL : Hid ((pcs (id, sm)).length = 33) := pcs_len hid
    have HPO : Hid (∀ v ∈ pvs [(id, sm)], v.oneCell' = true) := pvs_cells _
    have HOO : Hid (∀ v ∈ ovs [(2, id, tx)], v.oneCell' = true) := ovs_cells _
    replace HT := Lib.hid HT
    replace HS := Lib.hid HS
    replace HMK := Lib.hid HMK
    replace HP := Lib.hid HP
    replace HO := Lib.hid HO
    have HPREL := Lib.hid hpl
    generalize pre.length = j at *
    clear HR hpre hsub hen hid hpl
    gi_wp2_with (first | (first | (refine BigFrame.wpListIn_want (by rfl) fun K hK => wpIn_of_wp_round (fun _ h => by cases h) (ws_load1 hM rfl rfl (by (repeat (first | assumption | (with_reducible exact mZ) | apply mS)); first | done | fail) (by first | rfl | assumption) (by decide +kernel) (hK _ _ ?_)); clear hK K) | fail) | (first | (refine BigFrame.wpListIn_want (by rfl) fun K hK => wpIn_of_wp_round (fun _ h => by cases h) (ws_load hM rfl rfl (by (repeat (first | assumption | (with_reducible exact mZ) | apply mS)); first | done | fail) (n := 2) (by rfl) (by decide +kernel) (hK _ _ ?_)); clear hK K) | fail) | (first | (have hM0 := hM; clear hM; refine BigFrame.wpListIn_want (by rfl) fun K hK => wpIn_of_wp_round (fun _ h => by cases h) (ws_alloc hM0 (t := 52) rfl (ndC 0 none 0 0) info_nd (fun g9 w hM => hK _ _ ?_)); clear hM0 hK K) | fail) | (first | (have hM0 := hM; clear hM; refine BigFrame.wpListIn_want (by rfl) fun K hK => wpIn_of_wp_round (fun _ h => by cases h) (ws_store hM0 rfl rfl rfl (by (repeat (first | (with_reducible exact Take.head) | apply Take.tail)); first | done | fail) (n := 2) (by rfl) (by rfl) (by kernel_rfl) (by simp [Value.oneCell']) (fun w hM => hK _ _ ?_)); clear hM0 hK K) | fail) | ((refine ⟨trivial, rfl, ?_⟩); (with_reducible change CallsIn (Fence.wide.inRound _) _ _ 32 _ _ _); have hM0 := hM; clear hM; (first | (refine (callsIn_round (HT.out _ _ hM0 (by (repeat (first | assumption | (with_reducible exact mZ) | apply mS)); first | done | fail))).mono ?_) | fail); clear hM0; rintro _ w ⟨rfl, hM⟩) | ((refine ⟨trivial, rfl, ?_⟩); (with_reducible change CallsIn (Fence.wide.inRound _) _ _ 76 _ _ _); have hM0 := hM; clear hM; (first | (refine (callsIn_round (HMK.out _ _ hM0)).mono ?_) | fail); clear hM0; rintro _ w ⟨rfl, hM⟩) | (first | (have hM0 := hM; clear hM; refine BigFrame.wpListIn_want (by rfl) fun K hK => wpIn_of_wp_round (fun _ h => by cases h) (ws_alloc hM0 (t := 76) rfl (ocs (0, z32, [])).toArray info_ob (fun g10 w hM => hK _ _ ?_)); clear hM0 hK K) | fail) | (first | (have hM0 := hM; clear hM; refine BigFrame.wpListIn_want (by rfl) fun K hK => wpIn_of_wp_round (fun _ h => by cases h) (ws_store hM0 rfl rfl rfl (by (repeat (first | (with_reducible exact Take.head) | apply Take.tail)); first | done | fail) (n := 34) (by exact HOS.out) (by exact HOS0.out) (by kernel_rfl) (by exact ocs_oneA _) (fun w hM => hK _ _ ?_)); clear hM0 hK K) | fail))
    (refine region_RS_round ([cellsE g6 50 #[.slice B j cb], cellsE g10 76 (ocs (2, id, tx)).toArray, cellsE g9 52 #[.int .i64 k, .slice (some (ad.add (8 * j * 33))) g g], rowE 33 (some (ad.add (8 * j * 33))) g (pvs gl)]) [8] (by kernel_rfl) (by decide +kernel) (by rintro ⟨_, _, h⟩; exact h) hM ?_; clear hM; change RS _ _ _ _ _ _ 9 (Array.replicate 9 false) _ _; refine RS_take (i := 0) rfl (by decide +kernel) (fun _ _ _ h => h) (by first | (intro x hx; (repeat (first | exact hx | apply mS)); done) | ((repeat (refine List.forall_mem_cons.2 ⟨(by (repeat (first | assumption | (with_reducible exact mZ) | apply mS)); first | done | fail), ?_⟩)); intro x hx; first | (cases hx; done) | ((repeat (first | exact hx | apply mS)); done))) (stab_read (by rfl) (fun L w hL hM => (ex_load1 (v := .slice B j cb) hM rfl rfl (hL _ (by (repeat (first | assumption | (with_reducible exact mZ) | apply mS)); first | done | fail)) rfl (by decide +kernel)))) ?_; simp only [Act.put, List.setIfInBounds_toArray, List.set_cons_zero, List.set_cons_succ]; refine RS_take (i := 1) rfl (by decide +kernel) (fun _ _ _ h => h) (by first | (intro x hx; (repeat (first | exact hx | apply mS)); done) | ((repeat (refine List.forall_mem_cons.2 ⟨(by (repeat (first | assumption | (with_reducible exact mZ) | apply mS)); first | done | fail), ?_⟩)); intro x hx; first | (cases hx; done) | ((repeat (first | exact hx | apply mS)); done))) (stab_pure (by rfl) (fun w => (by go_simp; try with_reducible rfl))) ?_; simp only [Act.put, List.setIfInBounds_toArray, List.set_cons_zero, List.set_cons_succ]; refine RS_take (i := 2) rfl (by decide +kernel) (fun _ _ _ h => h) (by first | (intro x hx; (repeat (first | exact hx | apply mS)); done) | ((repeat (refine List.forall_mem_cons.2 ⟨(by (repeat (first | assumption | (with_reducible exact mZ) | apply mS)); first | done | fail), ?_⟩)); intro x hx; first | (cases hx; done) | ((repeat (first | exact hx | apply mS)); done))) (stab_read (by rfl) (fun L w hL hM => (ex_load_mid hM rfl rfl (hL _ (by (repeat (first | assumption | (with_reducible exact mZ) | apply mS)); first | done | fail)) (bvs id) (ocs_id (2, id, tx)) (n := 32) (by rw [bvs_len]; exact HID.out) (by decide +kernel)))) ?_; simp only [Act.put, List.setIfInBounds_toArray, List.set_cons_zero, List.set_cons_succ]; refine RS_take (i := 3) rfl (by decide +kernel) (fun _ _ _ h => h) (by first | (intro x hx; (repeat (first | exact hx | apply mS)); done) | ((repeat (refine List.forall_mem_cons.2 ⟨(by (repeat (first | assumption | (with_reducible exact mZ) | apply mS)); first | done | fail), ?_⟩)); intro x hx; first | (cases hx; done) | ((repeat (first | exact hx | apply mS)); done))) (stab_read (by rfl) (fun L w hL hM => (ex_load hM rfl rfl (hL _ (by (repeat (first | assumption | (with_reducible exact mZ) | apply mS)); first | done | fail)) (n := 2) rfl (by decide +kernel)))) ?_; simp only [Act.put, List.setIfInBounds_toArray, List.set_cons_zero, List.set_cons_succ]; refine RS_take (i := 4) rfl (by decide +kernel) (fun _ _ _ h => h) (by first | (intro x hx; (repeat (first | exact hx | apply mS)); done) | ((repeat (refine List.forall_mem_cons.2 ⟨(by (repeat (first | assumption | (with_reducible exact mZ) | apply mS)); first | done | fail), ?_⟩)); intro x hx; first | (cases hx; done) | ((repeat (first | exact hx | apply mS)); done))) (stab_call (by rfl) (fun w => (by go_simp; try with_reducible rfl)) (fun L w hL hM => (HS.out _ w hM (hL _ (by (repeat (first | assumption | (with_reducible exact mZ) | apply mS)); first | done | fail))))) ?_; simp only [Act.put, List.setIfInBounds_toArray, List.set_cons_zero, List.set_cons_succ]; refine RS_take (i := 5) rfl (by decide +kernel) (fun _ _ _ h => h) (by first | (intro x hx; (repeat (first | exact hx | apply mS)); done) | ((repeat (refine List.forall_mem_cons.2 ⟨(by (repeat (first | assumption | (with_reducible exact mZ) | apply mS)); first | done | fail), ?_⟩)); intro x hx; first | (cases hx; done) | ((repeat (first | exact hx | apply mS)); done))) (stab_read (by rfl) (fun L w hL hM => (ex_build rfl (v := .agg (pcs (id, sm)).toArray) (by simp only [List.map_toArray, List.map_cons, List.map_nil]; exact HBLD.out _)))) ?_; simp only [Act.put, List.setIfInBounds_toArray, List.set_cons_zero, List.set_cons_succ]; refine RS_one (i := 6) (by decide +kernel) rfl (by rfl) (.inl (by first | (intro x hx; (repeat (first | exact hx | apply mS)); done) | ((repeat (refine List.forall_mem_cons.2 ⟨(by (repeat (first | assumption | (with_reducible exact mZ) | apply mS)); first | done | fail), ?_⟩)); intro x hx; first | (cases hx; done) | ((repeat (first | exact hx | apply mS)); done)))) (fun w K hM0 hK => ?_); refine ws_slice_row hM0 (n := 1) rfl 64 33 (.agg (pcs (z32, 0)).toArray) [.agg (pcs (id, sm)).toArray] Try.underlying50 (by kernel_rfl) rfl (by simp [Value.cells, iv, sv, bv, HPL.out]) (by rfl) (by decide) (cs := pvs [(id, sm)]) (by rfl) (fun g26 w hM => hK _ _ _ hM ?_); clear hM hM0 hK K; simp only [Act.put, List.setIfInBounds_toArray, List.set_cons_zero, List.set_cons_succ]; refine RS_one (i := 7) (by decide +kernel) rfl (by rfl) (.inl (by first | (intro x hx; (repeat (first | exact hx | apply mS)); done) | ((repeat (refine List.forall_mem_cons.2 ⟨(by (repeat (first | assumption | (with_reducible exact mZ) | apply mS)); first | done | fail), ?_⟩)); intro x hx; first | (cases hx; done) | ((repeat (first | exact hx | apply mS)); done)))) (fun w K hM0 hK => ?_); refine ws_append hM0 rfl rfl rfl 64 ((.agg (pcs (z32, 0)).toArray)) 33 40 Try.underlying50 (by kernel_rfl) (by exact pcs_sz z32_32) (by decide) (by (repeat (first | (with_reducible exact Take.head) | apply Take.tail)); first | done | fail) (by first | (apply Star.row hM0; (repeat (first | assumption | (with_reducible exact mZ) | apply mS)); done) | (apply Star.own hM0; (repeat (first | assumption | (with_reducible exact mZ) | apply mS)); done) | (apply Star.arr hM0; (focus ((repeat (first | assumption | (with_reducible exact mZ) | apply mS)); done)); assumption)) (HPO.out) ((by omega)) (fun A1 c1 w hM hnil => hK _ _ _ hM ?_); clear hM hM0 hK K; simp only [Act.put, List.setIfInBounds_toArray, List.set_cons_zero, List.set_cons_succ]; refine RS_one (i := 8) (by decide +kernel) rfl (by rfl) (.inl (by first | (intro x hx; (repeat (first | exact hx | apply mS)); done) | ((repeat (refine List.forall_mem_cons.2 ⟨(by (repeat (first | assumption | (with_reducible exact mZ) | apply mS)); first | done | fail), ?_⟩)); intro x hx; first | (cases hx; done) | ((repeat (first | exact hx | apply mS)); done)))) (fun w K hM0 hK => ?_); refine ws_store1 hM0 rfl rfl (by go_simp; rfl) (by first | rfl | assumption) (by (repeat (first | (with_reducible exact Take.head) | apply Take.tail)); first | done | fail) (by simp) (by kernel_rfl) (by rfl) (fun w hM => hK _ _ _ hM ?_); clear hM hM0 hK K; simp only [Act.put, List.setIfInBounds_toArray, List.set_cons_zero, List.set_cons_succ]; refine RS_done (by decide +kernel) (.inr (by decide +kernel)) (fun w hM => ?_))
    gi_wp2_with (first | (first | (refine BigFrame.wpListIn_want (by rfl) fun K hK => wpIn_of_wp_round (fun _ h => by cases h) (ws_load hM rfl rfl (by (repeat (first | assumption | (with_reducible exact mZ) | apply mS)); first | done | fail) (n := 34) (by exact HOS.out) (by decide +kernel) (hK _ _ ?_)); clear hK K) | fail) | (first | (refine BigFrame.wpListIn_want (by rfl) fun K hK => wpIn_of_wp_round (fun _ h => by cases h) (ws_load1 hM rfl rfl (by (repeat (first | assumption | (with_reducible exact mZ) | apply mS)); first | done | fail) (by first | rfl | assumption) (by decide +kernel) (hK _ _ ?_)); clear hK K) | fail) | (first | (have hM0 := hM; clear hM; refine BigFrame.wpListIn_want (by rfl) fun K hK => wpIn_of_wp_round (fun _ h => by cases h) (ws_slice_row hM0 (n := 1) rfl 76 34 (.agg (ocs (0, z32, [])).toArray) [.agg (ocs (2, id, tx)).toArray] Try.underlying65 (by kernel_rfl) rfl (by simp [Value.cells, iv, sv, bv, HOL.out]) (by rfl) (by decide) (cs := ovs [(2, id, tx)]) (by rfl) (fun g30 w hM => hK _ _ ?_)); clear hM0 hK K) | fail) | ((first | (have hM0 := hM; clear hM; refine BigFrame.wpListIn_want (by rfl) fun K hK => wpIn_of_wp_round (fun _ h => by cases h) (ws_append hM0 rfl rfl rfl 76 ((.agg (ocs (0, z32, [])).toArray)) 34 56 Try.underlying65 (by kernel_rfl) (by exact HOS0.out) (by decide) (by (repeat (first | (with_reducible exact Take.head) | apply Take.tail)); first | done | fail) (by first | (apply Star.row hM0; (repeat (first | assumption | (with_reducible exact mZ) | apply mS)); done) | (apply Star.own hM0; (repeat (first | assumption | (with_reducible exact mZ) | apply mS)); done) | (apply Star.arr hM0; (focus ((repeat (first | assumption | (with_reducible exact mZ) | apply mS)); done)); assumption)) (HOO.out) ((le_app hjG hGb)) (fun A2 c2 w hM hnil => hK _ _ ?_)); clear hM0 hK K) | fail); simp only [Act.put, List.setIfInBounds_toArray, List.set_cons_zero, List.set_cons_succ]) | (first | (have hM0 := hM; clear hM; refine BigFrame.wpListIn_want (by rfl) fun K hK => wpIn_of_wp_round (fun _ h => by cases h) (ws_store1 hM0 rfl rfl (by go_simp; rfl) (by first | rfl | assumption) (by (repeat (first | (with_reducible exact Take.head) | apply Take.tail)); first | done | fail) (by simp) (by kernel_rfl) (by simp only [List.setIfInBounds_toArray, List.set_cons_zero, List.set_cons_succ]; rfl) (fun w hM => hK _ _ ?_)); clear hM0 hK K) | fail))
    refine ⟨((A1, c1), (A2, c2)), ?_⟩
    simp only [List.cons_append, List.nil_append]
    rw [HPREL.out, HP.out, HO.out]
    exact hM.sel (by repeat (first | (with_reducible exact Sel.refl) | (with_reducible exact Take.head) | (with_reducible apply Take.tail) | (with_reducible apply Sel.cons) | (with_reducible apply Sel.drop)))
  case done =>
    clear hM
    rintro D ⟨⟨B, cb⟩, ⟨U, cu⟩⟩ W hM
    simp only [List.cons_append, List.nil_append, List.length_range] at hM
    rw [HPT.out, HOT.out] at hM
    go_wp2_with fail
    refine noPanic'_wp ?_
    (refine region_RS ([cellsE g6 50 #[.slice B G cb], cellsE g7 65 #[.slice U G cu]]) [] (by kernel_rfl) hM ?_; clear hM; change RS _ _ _ _ _ _ 4 (Array.replicate 4 false) _ _; refine RS_take (i := 0) rfl (by decide +kernel) (fun _ _ _ h => h) (by first | (intro x hx; (repeat (first | exact hx | apply mS)); done) | ((repeat (refine List.forall_mem_cons.2 ⟨(by (repeat (first | assumption | (with_reducible exact mZ) | apply mS)); first | done | fail), ?_⟩)); intro x hx; first | (cases hx; done) | ((repeat (first | exact hx | apply mS)); done))) (stab_read (by rfl) (fun L w hL hM => (ex_load1 (v := .slice B G cb) hM rfl rfl (hL _ (by (repeat (first | assumption | (with_reducible exact mZ) | apply mS)); first | done | fail)) rfl (by decide +kernel)))) ?_; simp only [Act.put, List.setIfInBounds_toArray, List.set_cons_zero, List.set_cons_succ]; refine RS_take (i := 1) rfl (by decide +kernel) (fun _ _ _ h => h) (by first | (intro x hx; (repeat (first | exact hx | apply mS)); done) | ((repeat (refine List.forall_mem_cons.2 ⟨(by (repeat (first | assumption | (with_reducible exact mZ) | apply mS)); first | done | fail), ?_⟩)); intro x hx; first | (cases hx; done) | ((repeat (first | exact hx | apply mS)); done))) (stab_read (by rfl) (fun L w hL hM => (ex_load1 (v := .slice U G cu) hM rfl rfl (hL _ (by (repeat (first | assumption | (with_reducible exact mZ) | apply mS)); first | done | fail)) rfl (by decide +kernel)))) ?_; simp only [Act.put, List.setIfInBounds_toArray, List.set_cons_zero, List.set_cons_succ]; refine RS_take (i := 2) rfl (by decide +kernel) (fun _ _ _ h => h) (by first | (intro x hx; (repeat (first | exact hx | apply mS)); done) | ((repeat (refine List.forall_mem_cons.2 ⟨(by (repeat (first | assumption | (with_reducible exact mZ) | apply mS)); first | done | fail), ?_⟩)); intro x hx; first | (cases hx; done) | ((repeat (first | exact hx | apply mS)); done))) (stab_pure (by rfl) (fun w => (by go_simp; try with_reducible rfl))) ?_; simp only [Act.put, List.setIfInBounds_toArray, List.set_cons_zero, List.set_cons_succ]; refine RS_take (i := 3) rfl (by decide +kernel) (fun _ _ _ h => h) (by first | (intro x hx; (repeat (first | exact hx | apply mS)); done) | ((repeat (refine List.forall_mem_cons.2 ⟨(by (repeat (first | assumption | (with_reducible exact mZ) | apply mS)); first | done | fail), ?_⟩)); intro x hx; first | (cases hx; done) | ((repeat (first | exact hx | apply mS)); done))) (stab_pure (by rfl) (fun w => (by go_simp; try with_reducible rfl))) ?_; simp only [Act.put, List.setIfInBounds_toArray, List.set_cons_zero, List.set_cons_succ]; refine RS_done (by decide +kernel) (.inl (by first | (intro x hx; (repeat (first | exact hx | apply mS)); done) | ((repeat (refine List.forall_mem_cons.2 ⟨(by (repeat (first | assumption | (with_reducible exact mZ) | apply mS)); first | done | fail), ?_⟩)); intro x hx; first | (cases hx; done) | ((repeat (first | exact hx | apply mS)); done)))) (fun w hM => ?_))
    simp only [noPanic']
    go_wp2_with fail
    have hMD := hM.take (x := objE D (.deferred (some []))) (by (repeat (first | (with_reducible exact Take.head) | apply Take.tail)); first | done | fail)
    refine ⟨by simp, .inl ⟨_, _, rfl, drop_pre' hMD _, ?_⟩⟩
    replace hMD := (hMD.put_obj (.deferred none)).tail
    exact ⟨_, results_tmp2 rfl _ _ _, ⟨_, _, _, _, rfl, hMD.sel (by repeat (first | (with_reducible exact Sel.refl) | (with_reducible exact Take.head) | (with_reducible apply Take.tail) | (with_reducible apply Sel.cons) | (with_reducible apply Sel.drop)))⟩⟩
  case stop =>
    rintro D c ⟨B, cb⟩ pre W _ _ hM
    exact (show False from hM.all falseE (by simp)).elim
end Go.Proofs.Ytlhedbjjlomniaa
set_option linter.unusedSimpArgs false
set_option linter.unusedVariables false
namespace Go.Proofs.Ytlhedbjjlomniaa
open Go.RowKit
attribute [local go_sem] extract_mid extract_drop bget bsize wrap64_u8 i64_u8 u64_u8 bappend
theorem Star.row_midG {α : Type} {L : List SProp} {w : World} {ad : Addr} {n size : Nat} {l : List α} {f : α → List Value} (h : Star L w) (hx : rowE size (some ad) n (l.flatMap f) ∈ L) (hs : 0 < size) (hf : ∀ x, (f x).length = size) {i g : Nat} (hg : i + g ≤ n) : Star (rowE size (some (ad.add (i * size))) g (((l.drop i).take g).flatMap f) :: L) w := by
  have hr := h.row hx
  have hlen : l.length = n := by
    have h1 := flat_len f size l fun x _ => hf x
    rw [hr.1] at h1
    exact (Nat.eq_of_mul_eq_mul_right hs h1).symm
  have hgl : ((l.drop i).take g).length = g := by rw [List.length_take, List.length_drop]; omega
  refine h.view hx rfl rfl (fun k ⟨ad', e, hn, hk⟩ => ?_) ?_
  · injection e with e
    subst e
    rw [block_of_add] at hk
    exact ⟨ad, rfl, by omega, hk⟩
  · refine ⟨?_, fun hn => ⟨_, rfl, ?_, fun j u hu => ?_⟩⟩
    · rw [flat_len f size _ fun x _ => hf x, hgl]
    · obtain ⟨ad', e, hb, _⟩ := hr.2 (by omega)
      injection e with e
      subst e
      rw [block_of_add]
      exact hb
    · obtain ⟨ad', e, _, hc⟩ := hr.2 (by omega)
      injection e with e
      subst e
      rw [add_of_add]
      have hjl := (List.getElem?_eq_some_iff.1 hu).1
      rw [flat_len f size _ fun x _ => hf x, hgl] at hjl
      obtain ⟨a, b, hb, rfl⟩ : ∃ a b, b < size ∧ j = a * size + b := ⟨j / size, j % size, Nat.mod_lt _ hs, by rw [Nat.mul_comm]; exact (Nat.div_add_mod j size).symm⟩
      have ha : a < g := by
        rcases Nat.lt_or_ge a g with h | h
        · exact h
        · have := Nat.mul_le_mul_right size h
          omega
      have hq : ((l.drop i).take g)[a]? = some ((l.drop i).take g)[a] := List.getElem?_eq_getElem (by omega)
      generalize ((l.drop i).take g)[a] = d at hq
      have hd : l[i + a]? = some d := by
        rw [List.getElem?_take, if_pos ha, List.getElem?_drop] at hq
        exact hq
      obtain ⟨v, hv⟩ : ∃ v, (f d)[b]? = some v := ⟨_, List.getElem?_eq_getElem (by rw [hf]; exact hb)⟩
      have e1 := flat_get f size _ (fun x _ => hf x) a d hq b v hv
      rw [e1] at hu
      injection hu with hu
      subst hu
      have e2 := flat_get f size l (fun x _ => hf x) (i + a) d hd b v hv
      refine hc _ v ?_
      rw [show i * size + (a * size + b) = (i + a) * size + b by rw [Nat.add_mul]; omega]
      exact e2
end Go.Proofs.Ytlhedbjjlomniaa
set_option linter.unusedSimpArgs false
set_option linter.unusedVariables false
namespace Go.Proofs.Ytlhedbjjlomniaa
def okCh (c : List UInt8) : Bool := decide (1 ≤ c.length ∧ c.length ≤ 256)
def leafP (cs : List (List UInt8)) : List Pt := cs.map fun c => (onm 1 c, (c.length : Int))
def leafO (cs : List (List UInt8)) : List Ob := cs.map fun c => (1, onm 1 c, c)
/-- Level by level. -/
def climb : Nat → Int → List Pt → List Ob → List Pt × List Ob
  | 0, _, l, o => (l, o)
  | f + 1, k, l, o => if k = 1 ∨ 1 < l.length then climb f (k + 1) (upP k l) (o ++ upO k l) else (l, o)
def noPt : Pt := (z32, 0)
/-- The root, the objects, the error. -/
def buildB (cs : List (List UInt8)) : Pt × List Ob × Int :=
  if cs.all okCh = false then (noPt, [], 10)
  else if cs = [] then (noPt, [], 10)
  else if 32768 < sumP (leafP cs) then (noPt, [], 5)
  else ((climb 4 1 (leafP cs) (leafO cs)).1.headD noPt, (climb 4 1 (leafP cs) (leafO cs)).2, 0)
theorem leafP_len (cs : List (List UInt8)) : (leafP cs).length = cs.length := by simp [leafP]
theorem leafO_len (cs : List (List UInt8)) : (leafO cs).length = cs.length := by simp [leafO]
theorem leafP_32 (cs : List (List UInt8)) : ok32 (leafP cs) := by
  intro p hp
  obtain ⟨g, _, rfl⟩ := List.mem_map.1 hp
  exact onm_len _ _
theorem leafO_32 (cs : List (List UInt8)) : ob32 (leafO cs) := by
  intro p hp
  obtain ⟨g, _, rfl⟩ := List.mem_map.1 hp
  exact onm_len _ _
theorem leafP_pos (cs : List (List UInt8)) : ∀ p ∈ leafP cs, 0 ≤ p.2 := by
  intro p hp
  obtain ⟨g, _, rfl⟩ := List.mem_map.1 hp
  simp only
  omega
/-- The sum over groups is the sum. -/
theorem sum_groups (l : List Pt) : ∀ G, sumP ((List.range G).map fun i => (([], sumP ((l.drop (8 * i)).take 8)) : Pt)) = sumP (l.take (8 * G)) := by
  intro G
  induction G with
  | zero => simp [sumP]
  | succ G ih =>
    rw [List.range_succ, List.map_append, sumP_app, ih]
    simp only [List.map_cons, List.map_nil, sumP]
    rw [show 8 * (G + 1) = 8 * G + 8 by omega, List.take_add, sumP_app]
    omega
theorem sumP_congr : ∀ (a b : List Pt), a.map (·.2) = b.map (·.2) → sumP a = sumP b
  | [], [], _ => rfl
  | [], _ :: _, h => by cases h
  | _ :: _, [], h => by cases h
  | p :: a, q :: b, h => by
    simp only [List.map_cons, List.cons.injEq] at h
    simp only [sumP, h.1, sumP_congr a b h.2]
theorem upP_sum (k : Int) (l : List Pt) : sumP (upP k l) = sumP l := by
  rw [sumP_congr (upP k l) ((List.range ((l.length + 7) / 8)).map fun i => (([], sumP ((l.drop (8 * i)).take 8)) : Pt)) (by unfold upP grp; simp), sum_groups, List.take_of_length_le (by omega)]
theorem nn_sum : ∀ l : List Pt, (∀ p ∈ l, 0 ≤ p.2) → 0 ≤ sumP l
  | [], _ => by simp [sumP]
  | p :: l, h => by have h1 := h p List.mem_cons_self; have h2 := nn_sum l fun q hq => h q (List.mem_cons_of_mem _ hq); simp only [sumP]; omega
theorem le_sum : ∀ l : List Pt, (∀ p ∈ l, 0 ≤ p.2) → ∀ p ∈ l, p.2 ≤ sumP l
  | [], _ => by simp
  | q :: l, h => by
    intro p hp
    have h1 := h q List.mem_cons_self
    have h2 := nn_sum l fun q hq => h q (List.mem_cons_of_mem _ hq)
    rcases List.mem_cons.1 hp with rfl | hp
    · simp only [sumP]; omega
    · have := le_sum l (fun q hq => h q (List.mem_cons_of_mem _ hq)) p hp
      simp only [sumP]; omega
theorem upP_pos (k : Int) (l : List Pt) (h : ∀ p ∈ l, 0 ≤ p.2) : ∀ p ∈ upP k l, 0 ≤ p.2 := by
  intro p hp
  obtain ⟨g, hg, rfl⟩ := List.mem_map.1 hp
  unfold grp at hg
  obtain ⟨i, _, rfl⟩ := List.mem_map.1 hg
  exact nn_sum _ fun q hq => h q (List.mem_of_mem_drop (List.mem_of_mem_take hq))
/-- What holds level by level. -/
structure Lvl (k : Nat) (l : List Pt) (o : List Ob) : Prop where
  k1 : 1 ≤ k
  k4 : k ≤ 4
  one : 1 ≤ l.length
  len : l.length ≤ (if k = 1 then 512 else if k = 2 then 64 else if k = 3 then 8 else 1)
  o32 : ob32 o
  l32 : ok32 l
  pos : ∀ p ∈ l, 0 ≤ p.2
  sum : sumP l ≤ 32768
  olen : o.length ≤ 512 + 64 * (k - 1)
theorem Lvl.up {k : Nat} {l : List Pt} {o : List Ob} (h : Lvl k l o) (hk : k = 1 ∨ 1 < l.length) : Lvl (k + 1) (upP k l) (o ++ upO k l) := by
  obtain ⟨h1, h2, h3, h4, h5, h6, h7, h8, h9⟩ := h
  have hk3 : k ≤ 3 := by
    rcases hk with rfl | hk
    · omega
    · rcases (by omega : k ≤ 3 ∨ k = 4) with h | rfl
      · exact h
      · simp at h4; omega
  refine ⟨by omega, by omega, by rw [upP_len]; omega, ?_, ?_, upP_32 _ _, upP_pos _ _ h7, by rw [upP_sum]; exact h8, ?_⟩
  · rw [upP_len]
    rcases (by omega : k = 1 ∨ k = 2 ∨ k = 3) with rfl | rfl | rfl <;> simp at h4 ⊢ <;> omega
  · intro x hx
    rcases List.mem_append.1 hx with hx | hx
    · exact h5 x hx
    · exact upO_32 _ _ x hx
  · rw [List.length_append, upO_len]
    have : l.length ≤ 512 := by split at h4 <;> (try split at h4) <;> (try split at h4) <;> omega
    have : (l.length + 7) / 8 ≤ 64 := by omega
    omega
end Go.Proofs.Ytlhedbjjlomniaa
