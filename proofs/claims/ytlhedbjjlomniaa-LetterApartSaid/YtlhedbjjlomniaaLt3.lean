/- What the laws share, part 3 (LetS). No condition but those that each theorem names. -/
import Derived.Test.YtlhedbjjlomniaaLt2
set_option linter.unusedSimpArgs false
set_option linter.unusedVariables false
namespace Go.Proofs.Ytlhedbjjlomniaa
open Go.RowKit
attribute [local go_sem] extract_mid extract_drop bget bsize wrap64_u8 i64_u8 u64_u8 bappend
abbrev rbE (g : Nat) (l : List UInt8) (e : Int) : SProp := cellsE g 111 (balC l e)
set_option maxRecDepth 100000 in
theorem rlist_star {F : List SProp} (l : List Int) (A : Option Addr) (n c : Nat) (hl : ∀ x ∈ l, i63 x) (hn : n ≤ 1000000) (w : World) (hM : Star F w) (hF : rowE 1 A n (ivs l) ∈ F) :
    Calls Try.prog 67 #[.slice A n c] w fun r w' => r = .returned (.string ⟨(encL l).toArray⟩) ∧ Star F w' := by
  have hlen := ivs_row (hM.row hF)
  have HL := Lib.hid hlen
  have HE : Hid (encN (n : Int) ++ encNums l = encL l) := by show _ = _; rw [encL, hlen]
  have q0 := encN_len (n : Int)
  have H1 := Lib.hid (fun (L : List SProp) (w : World) (hM : Star L w) => rnum_star (n : Int) (by omega) w hM)
  generalize encN (n : Int) = s0 at HE q0 H1
  clear hlen
  go_enter Try.func67, Try.ntmps67
  go_wp2_with (first | (go_at_call 65; have hM0 := hM; clear hM; (first | (with_reducible refine (H1.out _ _ hM0).mono ?_) | fail); clear hM0; rintro _ w ⟨rfl, hM⟩))
  go_loopw [3, 5, 11] (fun v _ i wr => ∃ k : Nat, k ≤ n ∧ i = .int .i64 k ∧ v = .string ⟨(s0 ++ encNums (l.take k)).toArray⟩ ∧ Star F wr) (fun _ _ i _ => n - (intOf i).toNat)
  case atStart => exact ⟨0, Nat.zero_le _, rfl, by simp [encNums], hM⟩
  case round =>
    clear hM
    obtain ⟨k, hk, rfl, rfl, hM⟩ := hrel
    by_cases hlt : k < n
    · obtain ⟨ad, d, rfl, hc, hg, ht⟩ := hM.elemI hF hlt
      have hd := hl d (List.mem_of_getElem? hg)
      have hb := encNums_len (l.take k)
      have hb2 := List.length_take_le k l
      have hq := encN_len d
      have HR := Lib.hid (fun (L : List SProp) (w : World) (hM : Star L w) => rnum_star d hd w hM)
      have HT : Hid (encNums (l.take (k + 1)) = encNums (l.take k) ++ encN d) := by show _ = _; rw [ht, encNums_snoc]; rfl
      generalize encN d = s1 at HR HT hq
      clear ht hg hl hd
      go_wp2_with (first | (first | ((with_reducible refine at_load' ?_); (refine BigFrame.wpList_want (by rfl) fun K hK => ws_rowload rfl rfl (by first | (apply Star.row hM; (repeat (first | assumption | (with_reducible exact List.mem_cons_self) | apply List.mem_cons_of_mem)); done) | (apply Star.own hM; (repeat (first | assumption | (with_reducible exact List.mem_cons_self) | apply List.mem_cons_of_mem)); done) | (apply Star.arr hM; (focus ((repeat (first | assumption | (with_reducible exact List.mem_cons_self) | apply List.mem_cons_of_mem)); done)); assumption)) (by assumption) (by kernel_rfl) (hK _ _ ?_); clear hK K)) | fail) | (go_at_call 65; have hM0 := hM; clear hM; (first | (with_reducible refine (HR.out _ _ hM0).mono ?_) | fail); clear hM0; rintro _ w ⟨rfl, hM⟩))
      go_roundw
      case rel => exact ⟨k + 1, by omega, by go_num, by rw [HT.out], hM⟩
      case measure => simp [intOf]; omega
    · go_wp2
      go_ret
      exact ⟨ret_str (by rw [List.take_of_length_le (by rw [HL.out]; omega)]; exact HE.out), hM⟩
set_option maxRecDepth 100000 in
theorem rClose_any (l : List UInt8) (e : Int) (w : World) : Calls Try.prog 72 #[.agg (balC l e)] w fun r w' => r = .returned (.int .i64 (mClose l e).2) ∧ Ch [] w w' := by
  refine unstar fun L hM => ?_
  by_cases he : e = 0
  · subst he
    rcases l with _ | ⟨a, l⟩
    · go_enter Try.func72, Try.ntmps72
      go_wp2_with (first | (first | ((with_reducible refine at_box' ?_); (have hM0 := hM; clear hM; refine BigFrame.wpList_want (by rfl) fun K hK => ws_box hM0 rfl rfl (cs := balC _ _) rfl (fun gx w hM => hK _ _ ?_); clear hM0 hK K)) | fail) | (first | ((with_reducible refine at_load' ?_); (refine BigFrame.wpList_want (by rfl) fun K hK => ws_load1 hM rfl rfl (by (repeat (first | assumption | (with_reducible exact List.mem_cons_self) | apply List.mem_cons_of_mem)); first | done | fail) (by first | rfl | assumption) (by decide +kernel) (hK _ _ ?_); clear hK K)) | fail))
      go_ret
      exact ⟨rfl, hM.sel (by repeat (first | (with_reducible exact Sel.refl) | (with_reducible exact Take.head) | (with_reducible apply Take.tail) | (with_reducible apply Sel.cons) | (with_reducible apply Sel.drop)))⟩
    · go_enter Try.func72, Try.ntmps72
      go_wp2_with (first | (first | ((with_reducible refine at_box' ?_); (have hM0 := hM; clear hM; refine BigFrame.wpList_want (by rfl) fun K hK => ws_box hM0 rfl rfl (cs := balC _ _) rfl (fun gx w hM => hK _ _ ?_); clear hM0 hK K)) | fail) | (first | ((with_reducible refine at_load' ?_); (refine BigFrame.wpList_want (by rfl) fun K hK => ws_load1 hM rfl rfl (by (repeat (first | assumption | (with_reducible exact List.mem_cons_self) | apply List.mem_cons_of_mem)); first | done | fail) (by first | rfl | assumption) (by decide +kernel) (hK _ _ ?_); clear hK K)) | fail))
      go_ret
      exact ⟨rfl, hM.sel (by repeat (first | (with_reducible exact Sel.refl) | (with_reducible exact Take.head) | (with_reducible apply Take.tail) | (with_reducible apply Sel.cons) | (with_reducible apply Sel.drop)))⟩
  · have hc : (mClose l e).2 = e := by unfold mClose mFail; split <;> simp [he]
    rw [hc]
    have h1 : (e == 0) = false := by simpa using he
    clear hc
    go_enter Try.func72, Try.ntmps72
    go_wp2_with (first | (first | ((with_reducible refine at_box' ?_); (have hM0 := hM; clear hM; refine BigFrame.wpList_want (by rfl) fun K hK => ws_box hM0 rfl rfl (cs := balC _ _) rfl (fun gx w hM => hK _ _ ?_); clear hM0 hK K)) | fail) | (first | ((with_reducible refine at_load' ?_); (refine BigFrame.wpList_want (by rfl) fun K hK => ws_load1 hM rfl rfl (by (repeat (first | assumption | (with_reducible exact List.mem_cons_self) | apply List.mem_cons_of_mem)); first | done | fail) (by first | rfl | assumption) (by decide +kernel) (hK _ _ ?_); clear hK K)) | fail))
    go_ret
    exact ⟨rfl, hM.sel (by repeat (first | (with_reducible exact Sel.refl) | (with_reducible exact Take.head) | (with_reducible apply Take.tail) | (with_reducible apply Sel.cons) | (with_reducible apply Sel.drop)))⟩
set_option maxRecDepth 100000 in
set_option maxHeartbeats 4000000 in
theorem rtakeList_star {F : List SProp} {l u : List UInt8} {e f : Int} {o : List Int} (hm : mList l e = (o, u, f)) (w : World) (hM : Star F w) :
    Calls Try.prog 71 #[.agg (balC l e)] w fun r w' => ∃ A c, r = .returned (.tuple #[.agg (balC u f), .slice A o.length c]) ∧ Star (rowE 1 A o.length (ivs o) :: F) w' := by
  obtain ⟨n, u1, f1, h1⟩ : ∃ n u f, mInt l e 8 = (n, u, f) := ⟨_, _, _, rfl⟩
  have hr := mInt_range l e 8
  rw [h1] at hr
  obtain ⟨N, hN⟩ : ∃ N : Nat, n = N := ⟨n.toNat, by omega⟩
  subst hN
  have hN8 : N ≤ 8 := by have := hr.2; simp only at this; omega
  have H1 := rInt_any l e 8 (by omega)
  rw [h1] at H1
  replace H1 := Lib.hid H1
  have h2 : mAdr N [] u1 f1 = (o, u, f) := by unfold mList at hm; rw [h1] at hm; simpa using hm
  have H2 := Lib.hid h2
  clear h1 hm h2 hr
  have tok1 : True := trivial
  go_enter Try.func71, Try.ntmps71
  go_wp2_with (first | (first | ((with_reducible refine at_box' ?_); (have hM0 := hM; clear hM; refine BigFrame.wpList_want (by rfl) fun K hK => ws_box hM0 rfl rfl (cs := balC l e) rfl (fun gx w hM => hK _ _ ?_); clear hM0 hK K)) | fail) | (first | ((with_reducible refine at_alloc' ?_); (have hM0 := hM; clear hM; refine BigFrame.wpList_want (by rfl) fun K hK => ws_alloc hM0 (t := 111) rfl (balC [] 0) info_rb (fun g2 w hM => hK _ _ ?_); clear hM0 hK K)) | fail) | (first | ((with_reducible refine at_load' ?_); (refine BigFrame.wpList_want (by rfl) fun K hK => ws_load hM rfl rfl (by (repeat (first | assumption | (with_reducible exact List.mem_cons_self) | apply List.mem_cons_of_mem)); first | done | fail) (n := 2) (by rfl) (by decide +kernel) (hK _ _ ?_); clear hK K)) | fail) | (go_at_call 68; have hM0 := hM; clear hM; (first | (with_reducible refine (star0 (H1.out _) hM0).mono ?_) | fail); clear hM0; rintro _ w ⟨rfl, hM⟩) | (first | ((with_reducible refine at_store' ?_); (have hM0 := hM; clear hM; refine BigFrame.wpList_want (by rfl) fun K hK => ws_store hM0 rfl rfl rfl (by (repeat (first | (with_reducible exact Take.head) | apply Take.tail)); first | done | fail) (n := 2) (by rfl) (by rfl) (by kernel_rfl) (by simp [Value.oneCell']) (fun w hM => hK _ _ ?_); clear hM0 hK K)) | fail) | (first | ((with_reducible refine at_slice' ?_); (have hM0 := hM; clear hM; refine BigFrame.wpList_want (by rfl) fun K hK => ws_slice_own hM0 (n := 0) rfl 3 1 (.int .i64 0) [] Try.underlying24 (by kernel_rfl) rfl (by simp [Value.cells, iv, sv, bv]) (by rfl) (by decide) (by decide) (cs := ivs []) (by rfl) (fun g14 w hM => hK _ _ ?_); clear hM0 hK K)) | fail))
  go_loopw [5, 6, 7, 8] (fun out i _ _ wr => ∃ (j m : Nat) (u2 : List UInt8) (f2 : Int) (o2 : List Int) (A : Option Addr) (c : Nat), j + m = N ∧ Hid (m = o2.length) ∧ i = .int .i64 m ∧ out = .slice A m c ∧ Hid (mAdr j o2 u2 f2 = (o, u, f)) ∧ Star (ownE 3 1 A m c (ivs o2) :: rbE gx u2 f2 :: rbE g2 [] 0 :: F) wr) (fun _ i _ _ _ => N - (intOf i).toNat)
  case atStart => exact ⟨N, 0, u1, f1, [], _, 0, by omega, rfl, rfl, rfl, H2.out, hM.sel (by repeat (first | (with_reducible exact Sel.refl) | (with_reducible exact Take.head) | (with_reducible apply Take.tail) | (with_reducible apply Sel.cons) | (with_reducible apply Sel.drop)))⟩
  case round =>
    clear hM
    obtain ⟨j, m, u2, f2, o2, A, c, hj, hm2, rfl, rfl, hml, hM⟩ := hrel
    by_cases hgo : 0 < j ∧ f2 = 0
    · obtain ⟨hj0, rfl⟩ := hgo
      obtain ⟨i, rfl⟩ : ∃ i, j = i + 1 := ⟨j - 1, by omega⟩
      obtain ⟨s, u3, f3, hb3⟩ : ∃ s u f, mInt u2 0 63 = (s, u, f) := ⟨_, _, _, rfl⟩
      have HB := rInt_any u2 0 63 (by omega)
      rw [hb3] at HB
      replace HB := Lib.hid HB
      have HN : Hid (mAdr i (o2 ++ [s]) u3 f3 = (o, u, f)) := by
        have := hml.out
        unfold mAdr at this
        rw [if_pos rfl, hb3] at this
        exact this
      clear hb3
      have hlt : (m : Int) < (N : Int) := by omega
      go_wp2_with (first | (first | ((with_reducible refine at_load' ?_); (refine BigFrame.wpList_want (by rfl) fun K hK => ws_load1 hM rfl rfl (by (repeat (first | assumption | (with_reducible exact List.mem_cons_self) | apply List.mem_cons_of_mem)); first | done | fail) (by first | rfl | assumption) (by decide +kernel) (hK _ _ ?_); clear hK K)) | fail) | (first | ((with_reducible refine at_load' ?_); (refine BigFrame.wpList_want (by rfl) fun K hK => ws_load hM rfl rfl (by (repeat (first | assumption | (with_reducible exact List.mem_cons_self) | apply List.mem_cons_of_mem)); first | done | fail) (n := 2) (by rfl) (by decide +kernel) (hK _ _ ?_); clear hK K)) | fail) | (go_at_call 68; have hM0 := hM; clear hM; (first | (with_reducible refine (star0 (HB.out _) hM0).mono ?_) | fail); clear hM0; rintro _ w ⟨rfl, hM⟩) | (first | ((with_reducible refine at_alloc' ?_); (have hM0 := hM; clear hM; refine BigFrame.wpList_want (by rfl) fun K hK => ws_alloc hM0 (t := 111) rfl (balC [] 0) info_rb (fun g7 w hM => hK _ _ ?_); clear hM0 hK K)) | fail) | (first | ((with_reducible refine at_store' ?_); (have hM0 := hM; clear hM; refine BigFrame.wpList_want (by rfl) fun K hK => ws_store hM0 rfl rfl rfl (by (repeat (first | (with_reducible exact Take.head) | apply Take.tail)); first | done | fail) (n := 2) (by rfl) (by rfl) (by kernel_rfl) (by simp [Value.oneCell']) (fun w hM => hK _ _ ?_); clear hM0 hK K)) | fail) | (first | ((with_reducible refine at_slice' ?_); (have hM0 := hM; clear hM; refine BigFrame.wpList_want (by rfl) fun K hK => ws_slice_row hM0 (n := 1) rfl 3 1 (.int .i64 0) [iv s] Try.underlying24 (by kernel_rfl) rfl (by simp [Value.cells, iv, sv, bv]) (by rfl) (by decide) (cs := ivs [s]) (by rfl) (fun g w hM => hK _ _ ?_); clear hM0 hK K)) | fail) | (first | ((with_reducible refine at_call' ?_); (have hM0 := hM; clear hM; refine BigFrame.wpList_want (by rfl) fun K hK => ws_append hM0 rfl rfl rfl 3 ((.int .i64 0)) 1 8 Try.underlying24 (by kernel_rfl) (by rfl) (by decide) (by (repeat (first | (with_reducible exact Take.head) | apply Take.tail)); first | done | fail) (by first | (apply Star.row hM0; (repeat (first | assumption | (with_reducible exact List.mem_cons_self) | apply List.mem_cons_of_mem)); done) | (apply Star.own hM0; (repeat (first | assumption | (with_reducible exact List.mem_cons_self) | apply List.mem_cons_of_mem)); done) | (apply Star.arr hM0; (focus ((repeat (first | assumption | (with_reducible exact List.mem_cons_self) | apply List.mem_cons_of_mem)); done)); assumption)) (ivs_one [s]) ((by omega)) (fun A1 c1 w hM hnil => hK _ _ ?_); clear hM0 hK K)) | fail))
      go_roundw
      case rel => exact ⟨i, m + 1, u3, f3, o2 ++ [s], A1, c1, by omega, (by show _ = _; rw [List.length_append, ← hm2.out]; rfl), by go_num, rfl, HN.out, by rw [ivs_app]; exact hM.sel (by repeat (first | (with_reducible exact Sel.refl) | (with_reducible exact Take.head) | (with_reducible apply Take.tail) | (with_reducible apply Sel.cons) | (with_reducible apply Sel.drop)))⟩
      case measure => simp [intOf]; omega
    · have hend : o2 = o ∧ u2 = u ∧ f2 = f := by
        have := hml.out
        cases j with
        | zero => simpa [mAdr] using this
        | succ i =>
          have hf2 : f2 ≠ 0 := fun h => hgo ⟨by omega, h⟩
          simpa [mAdr, hf2] using this
      obtain ⟨rfl, rfl, rfl⟩ := hend
      by_cases hj0 : j = 0
      · subst hj0
        have hnl : ¬ (m : Int) < (N : Int) := by omega
        have hnl2 : decide ((m : Int) < (N : Int)) = false := by simpa using hnl
        clear hgo
        go_wp2_with (first | (first | ((with_reducible refine at_load' ?_); (refine BigFrame.wpList_want (by rfl) fun K hK => ws_load1 hM rfl rfl (by (repeat (first | assumption | (with_reducible exact List.mem_cons_self) | apply List.mem_cons_of_mem)); first | done | fail) (by first | rfl | assumption) (by decide +kernel) (hK _ _ ?_); clear hK K)) | fail) | (first | ((with_reducible refine at_load' ?_); (refine BigFrame.wpList_want (by rfl) fun K hK => ws_load hM rfl rfl (by (repeat (first | assumption | (with_reducible exact List.mem_cons_self) | apply List.mem_cons_of_mem)); first | done | fail) (n := 2) (by rfl) (by decide +kernel) (hK _ _ ?_); clear hK K)) | fail) | (first | ((with_reducible refine at_store' ?_); (have hM0 := hM; clear hM; refine BigFrame.wpList_want (by rfl) fun K hK => ws_store hM0 rfl rfl rfl (by (repeat (first | (with_reducible exact Take.head) | apply Take.tail)); first | done | fail) (n := 2) (by rfl) (by rfl) (by kernel_rfl) (by simp [Value.oneCell']) (fun w hM => hK _ _ ?_); clear hM0 hK K)) | fail))
        have hno := hm2.out
        replace hM := (hM.take (x := ownE 3 1 A m c (ivs o2)) (by (repeat (first | (with_reducible exact Take.head) | apply Take.tail)); first | done | fail)).freeze
        refine bodyPost_ret (results_row_tmp (P := Try.prog) (ty := 111) rfl _ _ g2 111 (balC u2 f2) 2 _ rfl rfl (hM.blk (by (repeat (first | assumption | (with_reducible exact List.mem_cons_self) | apply List.mem_cons_of_mem)); first | done | fail)) rfl (by decide +kernel)) rfl ?_
        rw [← hno]
        have hfin := hM.sel (R := rowE 1 A m (ivs o2) :: F) (by repeat (first | (with_reducible exact Sel.refl) | (with_reducible exact Take.head) | (with_reducible apply Take.tail) | (with_reducible apply Sel.cons) | (with_reducible apply Sel.drop)))
        first | exact ⟨A, c, rfl, hfin⟩ | exact ⟨A, ⟨c, rfl⟩, hfin⟩
      · have hf : f2 ≠ 0 := fun h => hgo ⟨by omega, h⟩
        have hlt : (m : Int) < (N : Int) := by omega
        have hfn : (f2 == 0) = false := by simpa using hf
        clear hgo
        go_wp2_with (first | (first | ((with_reducible refine at_load' ?_); (refine BigFrame.wpList_want (by rfl) fun K hK => ws_load1 hM rfl rfl (by (repeat (first | assumption | (with_reducible exact List.mem_cons_self) | apply List.mem_cons_of_mem)); first | done | fail) (by first | rfl | assumption) (by decide +kernel) (hK _ _ ?_); clear hK K)) | fail) | (first | ((with_reducible refine at_load' ?_); (refine BigFrame.wpList_want (by rfl) fun K hK => ws_load hM rfl rfl (by (repeat (first | assumption | (with_reducible exact List.mem_cons_self) | apply List.mem_cons_of_mem)); first | done | fail) (n := 2) (by rfl) (by decide +kernel) (hK _ _ ?_); clear hK K)) | fail) | (first | ((with_reducible refine at_store' ?_); (have hM0 := hM; clear hM; refine BigFrame.wpList_want (by rfl) fun K hK => ws_store hM0 rfl rfl rfl (by (repeat (first | (with_reducible exact Take.head) | apply Take.tail)); first | done | fail) (n := 2) (by rfl) (by rfl) (by kernel_rfl) (by simp [Value.oneCell']) (fun w hM => hK _ _ ?_); clear hM0 hK K)) | fail))
        have hno := hm2.out
        replace hM := (hM.take (x := ownE 3 1 A m c (ivs o2)) (by (repeat (first | (with_reducible exact Take.head) | apply Take.tail)); first | done | fail)).freeze
        refine bodyPost_ret (results_row_tmp (P := Try.prog) (ty := 111) rfl _ _ g2 111 (balC u2 f2) 2 _ rfl rfl (hM.blk (by (repeat (first | assumption | (with_reducible exact List.mem_cons_self) | apply List.mem_cons_of_mem)); first | done | fail)) rfl (by decide +kernel)) rfl ?_
        rw [← hno]
        have hfin := hM.sel (R := rowE 1 A m (ivs o2) :: F) (by repeat (first | (with_reducible exact Sel.refl) | (with_reducible exact Take.head) | (with_reducible apply Take.tail) | (with_reducible apply Sel.cons) | (with_reducible apply Sel.drop)))
        first | exact ⟨A, c, rfl, hfin⟩ | exact ⟨A, ⟨c, rfl⟩, hfin⟩
end Go.Proofs.Ytlhedbjjlomniaa
