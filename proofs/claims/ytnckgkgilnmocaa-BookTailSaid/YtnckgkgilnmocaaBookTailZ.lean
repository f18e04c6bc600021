/- The statement BookTail, from its walk. No condition but those that each theorem names. -/
import Derived.Test.YtnckgkgilnmocaaU1
import Derived.Test.YtnckgkgilnmocaaU3
import Derived.Test.YtnckgkgilnmocaaU8
set_option linter.unusedSimpArgs false
set_option linter.unusedVariables false
namespace Go.Proofs.Ytnckgkgilnmocaa
open Go.RowKit
attribute [local go_sem] extract_mid extract_drop bget bsize wrap64_u8 i64_u8 u64_u8 bappend
set_option maxRecDepth 100000 in
set_option maxHeartbeats 32000000 in
theorem bookTail_core {F : List SProp} (A : Option Addr) (n c : Nat) (l : List Rq) (hq : ∀ p ∈ l, QOk p) (hn : n ≤ 9223372036854775807) (lost : Int) (ht1 : -9223372036854775808 ≤ lost) (ht2 : lost ≤ 9223372036854775807) (w : World) (hM : Star F w) (hF : rowE 2 A n (qlvs l) ∈ F) :
    Calls Try.prog 5 #[.slice A n c, .int .i64 lost] w fun r w' => r = .returned (.bool true) ∧ Star F w' := by
  have HAW : Hid (∀ (L : List SProp) (w : World), Star L w → Calls Try.prog 8 #[] w fun r w' => r = .returned (.bool true) ∧ Star L w') := fun L w hM => awake12 w hM
  have HBG : Hid (∀ (L : List SProp) (w : World), Star L w → Calls Try.prog 9 #[.int .i64 60] w fun r w' => ∃ (B : BA) (D : Dsk), Hid (Live 60 D 29 1 0 []) ∧ r = .returned (.tuple #[.agg (st12C B.a B.b none 0 0 29 1), .bool true]) ∧ Star (bookE B D 1 29 [] :: L) w') := fun L w hM => begin_l w hM
  have HFW : Hid (∀ (k : Int) (d : List UInt8) (L : List SProp) (w : World), Star L w → Calls Try.prog 10 #[.agg (qcC k d)] w fun r w' => r = .returned (.agg (qcC k (cutP d 200))) ∧ Star L w') := fun k d L w hM => few_l k d w hM
  have HQ := Lib.hid hq
  have HLN := Lib.hid (qlvs_row (hM.row hF))
  clear hq
  have tok1 : True := trivial
  go_enter Try.func5, Try.ntmps5
  go_wp2_with (first | (go_at_call 8; have hM0 := hM; clear hM; (first | (with_reducible refine (HAW.out _ _ hM0).mono ?_) | fail); clear hM0; rintro _ w ⟨rfl, hM⟩) | (go_at_call 9; have hM0 := hM; clear hM; (first | (with_reducible refine (HBG.out _ _ hM0).mono ?_) | fail); clear hM0; rintro _ w ⟨B, D0, h0, rfl, hM⟩) | (first | ((with_reducible refine at_alloc' ?_); (have hM0 := hM; clear hM; refine BigFrame.wpList_want (by rfl) fun K hK => ws_alloc hM0 (t := 29) rfl _ info_st12 (fun g5 w hM => hK _ _ ?_); clear hM0 hK K)) | fail) | (first | ((with_reducible refine at_store' ?_); (have hM0 := hM; clear hM; refine BigFrame.wpList_want (by rfl) fun K hK => ws_store hM0 rfl rfl rfl (by (repeat (first | (with_reducible exact Take.head) | apply Take.tail)); first | done | fail) (n := 8) (by rfl) (by rfl) (by kernel_rfl) (by simp [Value.oneCell']) (fun w hM => hK _ _ ?_); clear hM0 hK K)) | fail) | (first | ((with_reducible refine at_slice' ?_); (have hM0 := hM; clear hM; refine BigFrame.wpList_want (by rfl) fun K hK => ws_slice_own hM0 (n := 0) rfl 33 2 (.agg qc0) [] Try.underlying22 (by kernel_rfl) rfl (by simp [Value.cells, iv, sv, bv]) (by rfl) (by decide) (by decide) (cs := []) (by rfl) (fun ga w hM => hK _ _ ?_); clear hM0 hK K)) | fail) | (first | ((with_reducible refine at_slice' ?_); (have hM0 := hM; clear hM; refine BigFrame.wpList_want (by rfl) fun K hK => ws_slice_own hM0 (n := 0) rfl 3 1 (.int .i64 0) [] Try.underlying57 (by kernel_rfl) rfl (by simp [Value.cells, iv, sv, bv]) (by rfl) (by decide) (by decide) (cs := ivs []) (by rfl) (fun gc w hM => hK _ _ ?_); clear hM0 hK K)) | fail))
  go_loopw [7, 8, 9] (fun al co i wr => ∃ (j : Nat) (C G : Option Addr) (e f : Nat) (D : Dsk), j ≤ 6 ∧ j ≤ n ∧ i = .int .i64 j ∧ al = .slice C j e ∧ co = .slice G j f ∧ Hid (Live 60 D 29 1 0 ((l.take j).map mkR)) ∧ Star (bookE B D 1 29 ((l.take j).map mkR) :: cellsE g5 29 (st12C B.a B.b none 0 0 29 1) :: ownE 33 2 C j e (qvs ((l.take j).map mkR)) :: ownE 3 1 G j f (ivs ((costsOf ((l.take j).map mkR)).map fun x : Nat => (x : Int))) :: F) wr) (fun _ _ i _ => 6 - (intOf i).toNat)
  case atStart =>
    refine ⟨0, _, _, _, _, D0, by omega, by omega, rfl, rfl, rfl, h0, ?_⟩
    have hM2 : Star (bookE B D0 1 29 [] :: cellsE g5 29 (st12C B.a B.b none 0 0 29 1) :: ownE 33 2 (some ⟨ga, 0, none⟩) 0 0 [] :: ownE 3 1 (some ⟨gc, 0, none⟩) 0 0 (ivs []) :: F) _ := hM.sel (by repeat (first | (with_reducible exact Sel.refl) | (with_reducible exact Take.head) | (with_reducible apply Take.tail) | (with_reducible apply Sel.cons) | (with_reducible apply Sel.drop)))
    exact hM2
  case round =>
    clear hM
    obtain ⟨j, C, G, e, f, D, hj6, hjn, rfl, rfl, rfl, hV, hM⟩ := hrel
    by_cases hgo : j < n ∧ j < 6
    · obtain ⟨hlt, hlt6⟩ := hgo
      obtain ⟨ad, ⟨k, d⟩, rfl, hc, hgx, hta⟩ := hM.elemQ (A := A) (n := n) (l := l) (by repeat (first | exact hF | apply mS)) hlt
      have hqo := HQ.out (k, d) (List.mem_of_getElem? hgx)
      have hnum := mkR_num (p := (k, d)) hqo.b1 hqo.b2
      obtain ⟨k6, hk6⟩ : ∃ k6 : Nat, (k % 64).toNat = k6 := ⟨_, rfl⟩
      obtain ⟨kd, hkd⟩ : ∃ kd : Nat, (mkR (k, d)).1 = kd := ⟨_, rfl⟩
      have hn1 := hnum.1
      have hn2 := hnum.2
      simp only at hn1 hn2
      rw [hk6] at hn1 hn2
      rw [hkd] at hn2
      have hrs : (l.take (j + 1)).map mkR = (l.take j).map mkR ++ [(kd, cutP d 200)] := by rw [hta, List.map_append]; simp only [List.map_cons, List.map_nil]; rw [← hkd]; rfl
      have hgood : rcGood (kd, cutP d 200) := by have := mkR_good (k, d); rw [← hkd]; exact this
      have htot := mkRs_tot (l.take j)
      have htl : (l.take j).length = j := by rw [List.length_take, HLN.out]; omega
      have hcst := (mkR_cost (k, d)).1
      have HAP : Hid (∀ (L R : List SProp) (w : World), Star L w → Take (bookE B D 1 29 ((l.take j).map mkR)) L R → Calls Try.prog 12 #[bptr B.b, .int .i64 (kd : Int), .string ⟨(cutP d 200).toArray⟩] w fun r w' => ∃ (D' : Dsk) (at_ : Nat), Hid (Live 60 D' 29 1 0 ((l.take (j + 1)).map mkR)) ∧ r = .returned (.tuple #[.agg (rcC kd (cutP d 200) at_), .int .i64 0]) ∧ Star (bookE B D' 1 29 ((l.take (j + 1)).map mkR) :: R) w') := fun L R w hM hx => by
        refine (append_u hV hgood (by omega) (by change bcost (cutP d 200).length ≤ 4 at hcst; omega) w hM hx).mono ?_
        rintro r w' ⟨D', v, e, hM⟩
        rw [← hrs] at v hM
        exact ⟨D', _, v, e, hM⟩
      have hcl := cutQ_len d
      have HRC : Hid (∀ (L : List SProp) (w : World), Star L w → Calls Try.prog 22 #[.int .i64 ((cutP d 200).length : Int)] w fun r w' => r = .returned (.int .i64 (bcost (cutP d 200).length : Nat)) ∧ Star L w') := fun L w hM => cost_r _ (by omega) w hM
      have HFE : Hid (∀ (L : List SProp) (w : World), Star L w → Calls Try.prog 10 #[.agg (qcC k d)] w fun r w' => r = .returned (.agg (qcC k (cutP d 200))) ∧ Star L w') := HFW.out k d
      have HRW : Hid (qvs ((l.take (j + 1)).map mkR) = qvs ((l.take j).map mkR) ++ (qcC kd (cutP d 200)).toList) := by show _ = _; rw [hrs, qvs_app]; simp [qvs]
      have HCW : Hid (ivs ((costsOf ((l.take (j + 1)).map mkR)).map fun x : Nat => (x : Int)) = ivs ((costsOf ((l.take j).map mkR)).map fun x : Nat => (x : Int)) ++ ivs [(bcost (cutP d 200).length : Int)]) := by show _ = _; rw [hrs]; simp [costsOf, ivs, rcost]
      generalize bcost (cutP d 200).length = cb at HRC HCW
      generalize cutP d 200 = u at HAP HRC HFE HRW
      have hk6b : k6 < 64 := by rw [← hk6]; omega
      have hkb : kd ≤ 64 := by omega
      have hb3 : wrap64 (kd : Int) = kd := by unfold wrap64; omega
      clear hnum hk6 hkd hrs hgood htot htl hcst hta hgx hqo hcl
      go_wp2_with (first | (refine wpList_plain rfl fun K hK => ws_load_at rfl rfl (qcC k d).toList hc (n := 2) rfl (by kernel_rfl) (hK _ _ ?_); clear hK K) | (go_at_call 10; have hM0 := hM; clear hM; (first | (with_reducible refine (HFE.out _ _ hM0).mono ?_) | fail); clear hM0; rintro _ w ⟨rfl, hM⟩) | (have _t := tok1; (first | ((with_reducible refine at_alloc' ?_); (have hM0 := hM; clear hM; refine BigFrame.wpList_want (by rfl) fun K hK => ws_alloc hM0 (t := 33) rfl qc0 info_qc (fun g10 w hM => hK _ _ ?_); clear hM0 hK K)) | fail); clear tok1) | (first | ((with_reducible refine at_store' ?_); (have hM0 := hM; clear hM; refine BigFrame.wpList_want (by rfl) fun K hK => ws_store hM0 rfl rfl rfl (by (repeat (first | (with_reducible exact Take.head) | apply Take.tail)); first | done | fail) (n := 2) (by rfl) (by rfl) (by kernel_rfl) (by simp [Value.oneCell']) (fun w hM => hK _ _ ?_); clear hM0 hK K)) | fail) | (first | ((with_reducible refine at_load' ?_); (refine BigFrame.wpList_want (by rfl) fun K hK => ws_load1 hM rfl rfl (by (repeat (first | assumption | (with_reducible exact mZ) | apply mS)); first | done | fail) (by first | rfl | assumption) (by decide +kernel) (hK _ _ ?_); clear hK K)) | fail) | (first | ((with_reducible refine at_store' ?_); (have hM0 := hM; clear hM; refine BigFrame.wpList_want (by rfl) fun K hK => ws_store1 hM0 rfl rfl (by go_simp; rfl) (by first | rfl | assumption) (by (repeat (first | (with_reducible exact Take.head) | apply Take.tail)); first | done | fail) (by simp) (by kernel_rfl) (by simp only [List.setIfInBounds_toArray, List.set_cons_zero, List.set_cons_succ]; rfl) (fun w hM => hK _ _ ?_); clear hM0 hK K)) | fail) | (first | ((with_reducible refine at_load' ?_); (refine BigFrame.wpList_want (by rfl) fun K hK => ws_load hM rfl rfl (by (repeat (first | assumption | (with_reducible exact mZ) | apply mS)); first | done | fail) (n := 2) (by rfl) (by decide +kernel) (hK _ _ ?_); clear hK K)) | fail) | (go_at_call 12; have hM0 := hM; clear hM; (first | (with_reducible refine (HAP.out _ _ _ hM0 (by (repeat (first | (with_reducible exact Take.head) | apply Take.tail)); first | done | fail)).mono ?_) | fail); clear hM0; rintro _ w ⟨D2, at2, hV2, rfl, hM⟩) | (first | ((with_reducible refine at_alloc' ?_); (have hM0 := hM; clear hM; refine BigFrame.wpList_want (by rfl) fun K hK => ws_alloc hM0 (t := 38) rfl rc0 info_rc (fun g11 w hM => hK _ _ ?_); clear hM0 hK K)) | fail) | (first | ((with_reducible refine at_store' ?_); (have hM0 := hM; clear hM; refine BigFrame.wpList_want (by rfl) fun K hK => ws_store hM0 rfl rfl rfl (by (repeat (first | (with_reducible exact Take.head) | apply Take.tail)); first | done | fail) (n := 3) (by rfl) (by rfl) (by kernel_rfl) (by simp [Value.oneCell']) (fun w hM => hK _ _ ?_); clear hM0 hK K)) | fail) | (first | ((with_reducible refine at_slice' ?_); (have hM0 := hM; clear hM; refine BigFrame.wpList_want (by rfl) fun K hK => ws_slice_row hM0 (n := 1) rfl 33 2 (.agg qc0) [.agg (qcC kd u)] Try.underlying22 (by kernel_rfl) rfl (by simp [Value.cells, iv, sv, bv]) (by rfl) (by decide) (cs := (qcC kd u).toList) (by rfl) (fun gr w hM => hK _ _ ?_); clear hM0 hK K)) | fail) | (first | ((with_reducible refine at_call' ?_); (have hM0 := hM; clear hM; refine BigFrame.wpList_want (by rfl) fun K hK => ws_append hM0 rfl rfl rfl 33 ((.agg qc0)) 2 24 Try.underlying22 (by kernel_rfl) (by rfl) (by decide) (by (repeat (first | (with_reducible exact Take.head) | apply Take.tail)); first | done | fail) (by first | (apply Star.row hM0; (repeat (first | assumption | (with_reducible exact mZ) | apply mS)); done) | (apply Star.own hM0; (repeat (first | assumption | (with_reducible exact mZ) | apply mS)); done) | (apply Star.arr hM0; (focus ((repeat (first | assumption | (with_reducible exact mZ) | apply mS)); done)); assumption)) ((by simp [Value.oneCell'])) ((by omega)) (fun C1 e1 w hM hnil => hK _ _ ?_); clear hM0 hK K)) | fail) | (go_at_call 22; have hM0 := hM; clear hM; (first | (with_reducible refine (HRC.out _ _ hM0).mono ?_) | fail); clear hM0; rintro _ w ⟨rfl, hM⟩) | (first | ((with_reducible refine at_slice' ?_); (have hM0 := hM; clear hM; refine BigFrame.wpList_want (by rfl) fun K hK => ws_slice_row hM0 (n := 1) rfl 3 1 (.int .i64 0) [iv (cb : Int)] Try.underlying57 (by kernel_rfl) rfl (by simp [Value.cells, iv, sv, bv]) (by rfl) (by decide) (cs := ivs [(cb : Int)]) (by rfl) (fun gs w hM => hK _ _ ?_); clear hM0 hK K)) | fail) | (first | ((with_reducible refine at_call' ?_); (have hM0 := hM; clear hM; refine BigFrame.wpList_want (by rfl) fun K hK => ws_append hM0 rfl rfl rfl 3 ((.int .i64 0)) 1 8 Try.underlying57 (by kernel_rfl) (by rfl) (by decide) (by (repeat (first | (with_reducible exact Take.head) | apply Take.tail)); first | done | fail) (by first | (apply Star.row hM0; (repeat (first | assumption | (with_reducible exact mZ) | apply mS)); done) | (apply Star.own hM0; (repeat (first | assumption | (with_reducible exact mZ) | apply mS)); done) | (apply Star.arr hM0; (focus ((repeat (first | assumption | (with_reducible exact mZ) | apply mS)); done)); assumption)) (ivs_one [(cb : Int)]) ((by omega)) (fun G1 f1 w hM hnil => hK _ _ ?_); clear hM0 hK K)) | fail))
      go_roundw
      case rel =>
        refine ⟨j + 1, C1, G1, e1, f1, D2, by omega, by omega, by go_num, rfl, rfl, hV2, ?_⟩
        rw [HRW.out, HCW.out]
        exact hM.sel (by repeat (first | (with_reducible exact Sel.refl) | (with_reducible exact Take.head) | (with_reducible apply Take.tail) | (with_reducible apply Sel.cons) | (with_reducible apply Sel.drop)))
      case measure => simp [intOf]; omega
    · obtain ⟨rs, hrs⟩ : ∃ rs, (l.take j).map mkR = rs := ⟨_, rfl⟩
      have htot := mkRs_tot (l.take j)
      have htl : (l.take j).length = j := by rw [List.length_take, HLN.out]; omega
      have hrl : rs.length = j := by rw [← hrs, List.length_map, htl]
      rw [hrs] at hV hM htot
      have hcap := own_capB hM (e := 33) (size := 2) (A := C) (n := j) (c := e) (xs := qvs rs) (by (repeat (first | assumption | (with_reducible exact mZ) | apply mS)); first | done | fail)
      replace hM := (hM.take (x := ownE 33 2 C j e (qvs rs)) (by (repeat (first | (with_reducible exact Take.head) | apply Take.tail)); first | done | fail)).freeze
      replace hM := (hM.take (x := ownE 3 1 G j f (ivs ((costsOf rs).map fun x : Nat => (x : Int)))) (by (repeat (first | (with_reducible exact Take.head) | apply Take.tail)); first | done | fail)).freeze
      have g0 : (¬ j < n ∧ decide ((j : Int) < n) = false ∧ decide (j < n) = false) ∨ (j < n ∧ decide ((j : Int) < n) = true ∧ decide (j < n) = true ∧ ¬ j < 6 ∧ decide ((j : Int) < 6) = false ∧ decide (j < 6) = false) := by
        by_cases h : j < n
        · right
          have h6 : ¬ j < 6 := fun h6 => hgo ⟨h, h6⟩
          exact ⟨h, decide_eq_true (by omega), decide_eq_true h, h6, decide_eq_false (by omega), decide_eq_false h6⟩
        · left; exact ⟨h, decide_eq_false (by omega), decide_eq_false h⟩
      clear hgo
      by_cases hj0 : j = 0
      · subst hj0
        rcases g0 with ⟨g1, g2, g3⟩ | ⟨g1, g2, g3, g4, g5b, g6⟩
        · go_wp2_with fail
          go_ret
          exact ⟨rfl, hM.sel (by repeat (first | (with_reducible exact Sel.refl) | (with_reducible exact Take.head) | (with_reducible apply Take.tail) | (with_reducible apply Sel.cons) | (with_reducible apply Sel.drop)))⟩
        · omega
      · obtain ⟨r1, hr1⟩ : ∃ r1, Int.tmod lost (j : Int) = r1 := ⟨_, rfl⟩
        have hb1 : -(j : Int) < r1 ∧ r1 < j := by
          rw [← hr1]
          rcases Int.le_total 0 lost with h | h
          · rw [Int.tmod_eq_emod_of_nonneg h]
            have := Int.emod_nonneg lost (show (j : Int) ≠ 0 by omega)
            have := Int.emod_lt_of_pos lost (show (0 : Int) < j by omega)
            omega
          · have h2 : Int.tmod lost (j : Int) = -Int.tmod (-lost) j := by rw [Int.neg_tmod, Int.neg_neg]
            rw [h2, Int.tmod_eq_emod_of_nonneg (by omega)]
            have := Int.emod_nonneg (-lost) (show (j : Int) ≠ 0 by omega)
            have := Int.emod_lt_of_pos (-lost) (show (0 : Int) < j by omega)
            omega
        obtain ⟨q, hq⟩ : ∃ q : Nat, Int.tmod (r1 + (j : Int)) (j : Int) = (q : Int) := by
          refine ⟨(Int.tmod (r1 + (j : Int)) (j : Int)).toNat, ?_⟩
          rw [Int.toNat_of_nonneg]
          rw [Int.tmod_eq_emod_of_nonneg (by omega)]
          exact Int.emod_nonneg _ (by omega)
        have hqj : q < j := by
          have : (q : Int) < j := by
            rw [← hq, Int.tmod_eq_emod_of_nonneg (by omega)]
            exact Int.emod_lt_of_pos _ (by omega)
          omega
        have hw2 : wrap64 (r1 + (j : Int)) = r1 + (j : Int) := by unfold wrap64; omega
        have hjI : ¬ ((j : Int) = 0) := by omega
        have hpp : rs = rs.take q ++ rs[q]'(by omega) :: rs.drop (q + 1) := by rw [← List.drop_eq_getElem_cons (by omega), List.take_append_drop]
        obtain ⟨r0, hr0⟩ : ∃ r0, rs[q]'(by omega) = r0 := ⟨_, rfl⟩
        rw [hr0] at hpp
        obtain ⟨pre, hpre⟩ : ∃ pre, rs.take q = pre := ⟨_, rfl⟩
        have hpl : pre.length = q := by rw [← hpre, List.length_take]; omega
        rw [hpre] at hpp
        have hcl : (costsOf rs).length = j := by rw [costsOf, List.length_map, hrl]
        have hcs : (costsOf rs).sum = tot rs := rfl
        have HCR : Hid (∀ (CA : Option Addr) (cn cc : Nat), cn = tot rs → ∀ (L R : List SProp) (w : World), Star L w → Take (bookE B D 1 29 rs) L R → rowE 1 CA cn (ivs (chq q 0 (costsOf rs))) ∈ R → Calls Try.prog 23 #[dptr B.a, .slice CA cn cc] w fun r w' => ∃ D', Hid (OpenPre D' 29 1 pre) ∧ Hid (D'.sure.length = 60) ∧ r = .returned (.tuple #[]) ∧ Star (diskE B.a D' :: R) w') := fun CA cn cc hcn L R w hM hx hr => by
          have h64 := fun j hj => chq_64 (rs := rs) (pre := pre) (post := rs.drop (q + 1)) (r := r0) hpp j hj
          have h00 := chq_0 (rs := rs) (pre := pre) (post := rs.drop (q + 1)) (r := r0) hpp
          rw [hpl] at h64 h00
          exact crash_bu hV hpp (Nat.zero_le _) (by simpa using h64) (fun _ => by simpa using h00) (by omega) (by omega) (fun x hx => by rcases chq_vals _ _ _ x hx with rfl | rfl <;> omega) w hM hx hr
        have HOP : Hid (∀ (D2 : Dsk), Hid (OpenPre D2 29 1 pre) → Hid (D2.sure.length = 60) → ∀ (L R : List SProp) (w : World), Star L w → Take (diskE B.a D2) L R → Calls Try.prog 14 #[dptr B.a] w fun r w' => ∃ (b : Nat) (A3 : Option Addr) (c3 : Nat), r = .returned (.tuple #[bptr b, .slice A3 q c3, .int .i64 0]) ∧ Star (rowE 3 A3 q (rvs (ats (frT 29 2) pre)) :: R) w') := fun D2 P hN L R w hM hx => by
          refine (open_u P.out hN.out w hM hx).mono ?_
          rintro r w' ⟨B3, D3, A3, c3, e, v, q2, hM⟩
          rw [hpl] at q2 hM
          exact ⟨B3.b, A3, c3, q2, hM.sel (.cons (.head) (.drop .refl))⟩
        have HTO : Hid (∀ (A3 : Option Addr) (c3 z : Nat) (L : List SProp) (w : World), Star L w → rowE 3 A3 q (rvs (ats z pre)) ∈ L → Calls Try.prog 17 #[.slice A3 q c3] w fun r w' => ∃ C4 e4, r = .returned (.slice C4 q e4) ∧ Star (rowE 2 C4 q (qvs pre) :: L) w') := fun A3 c3 z L w hM hx => by
          have := told_l (c := c3) (ats z pre) (by omega) w hM hx
          rwa [ats_fst] at this
        have HSM : Hid (∀ (C4 : Option Addr) (e4 : Nat) (L : List SProp) (w : World), Star L w → rowE 2 C4 q (qvs pre) ∈ L → rowE 2 C j (qvs rs) ∈ L → Calls Try.prog 16 #[.slice C4 q e4, .slice C q e] w fun r w' => r = .returned (.bool true) ∧ Star L w') := fun C4 e4 L w hM h1 h2 => by
          have h3 := hM.qpre h2 (k := q) (by omega)
          rw [hpre] at h3
          exact (same_r pre (by omega) w h3 (List.mem_cons_of_mem _ h1) List.mem_cons_self).mono fun r w' ⟨x, y⟩ => ⟨x, y.sel (.drop .refl)⟩
        obtain ⟨cs, hcsd⟩ : ∃ cs, costsOf rs = cs := ⟨_, rfl⟩
        rw [hcsd] at HCR hM hcl hcs
        have HCSL := Lib.hid hcl
        have HCSS := Lib.hid hcs
        have hqe : (q : Int) ≤ (e : Int) := by omega
        have ht24 : tot rs ≤ 24 := by omega
        have HT24 := Lib.hid ht24
        clear htot htl hrl hrs hpp hr0 hpre hpl hcl hcs hcsd hb1 ht24 hcap
        rcases g0 with ⟨g1, g2, g3⟩ | ⟨g1, g2, g3, g4, g5b, g6⟩
        all_goals
          go_wp2_with (first | (first | ((with_reducible refine at_slice' ?_); (have hM0 := hM; clear hM; refine BigFrame.wpList_want (by rfl) fun K hK => ws_slice_own hM0 (n := 0) rfl 3 1 (.int .i64 0) [] Try.underlying57 (by kernel_rfl) rfl (by simp [Value.cells, iv, sv, bv]) (by rfl) (by decide) (by decide) (cs := ivs []) (by rfl) (fun gch w hM => hK _ _ ?_); clear hM0 hK K)) | fail))
          go_loopw [13, 88] (fun ch i wr => ∃ (y cnt : Nat) (H : Option Addr) (d : Nat), y ≤ j ∧ i = .int .i64 y ∧ ch = .slice H cnt d ∧ Hid (cnt = (cs.take y).sum) ∧ Star (ownE 3 1 H cnt d (ivs (chq q 0 (cs.take y))) :: bookE B D 1 29 rs :: cellsE g5 29 (st12C B.a B.b none 0 0 29 1) :: rowE 2 C j (qvs rs) :: rowE 1 G j (ivs (cs.map fun x : Nat => (x : Int))) :: F) wr) (fun _ i _ => j - (intOf i).toNat)
          case atStart =>
            refine ⟨0, _, _, _, Nat.zero_le _, rfl, rfl, rfl, ?_⟩
            have hM2 : Star (ownE 3 1 (some ⟨gch, 0, none⟩) 0 0 (ivs []) :: bookE B D 1 29 rs :: cellsE g5 29 (st12C B.a B.b none 0 0 29 1) :: rowE 2 C j (qvs rs) :: rowE 1 G j (ivs (cs.map fun x : Nat => (x : Int))) :: F) _ := hM.sel (by repeat (first | (with_reducible exact Sel.refl) | (with_reducible exact Take.head) | (with_reducible apply Take.tail) | (with_reducible apply Sel.cons) | (with_reducible apply Sel.drop)))
            exact hM2
          case round =>
            clear hM
            obtain ⟨y, cnt, H, d, hy, rfl, rfl, hcnt, hM⟩ := hrel
            by_cases hyj : y < j
            · obtain ⟨ad, hG, -⟩ := (hM.row (A := G) (n := j) (xs := ivs (cs.map fun x : Nat => (x : Int))) (by (repeat (first | assumption | (with_reducible exact mZ) | apply mS)); first | done | fail)).2 (by omega)
              subst hG
              obtain ⟨ci, hci⟩ : ∃ ci, cs[y]? = some ci := ⟨cs[y]'(by rw [HCSL.out]; exact hyj), List.getElem?_eq_getElem _⟩
              have hv : (ivs (cs.map fun x : Nat => (x : Int)))[y]? = some (.int .i64 (ci : Int)) := by simp [ivs, hci, iv]
              have htk : cs.take (y + 1) = cs.take y ++ [ci] := take_snoc_at cs y ci hci
              have hsum : (cs.take (y + 1)).sum = cnt + ci := by rw [htk, hcnt.out]; simp
              have hle : (cs.take (y + 1)).sum ≤ cs.sum := by
                have := congrArg List.sum (List.take_append_drop (y + 1) cs)
                rw [List.sum_append] at this
                omega
              have hbnd : cnt + ci ≤ 24 := by have := HCSS.out; have := HT24.out; omega
              have HSUM := Lib.hid hsum
              have HCHQ : Hid (chq q 0 (cs.take (y + 1)) = chq q 0 (cs.take y) ++ List.replicate ci (if y = q then 0 else 64)) := by
                show _ = _
                rw [htk, chq_snoc, List.length_take, HCSL.out, Nat.min_eq_left hy]
              obtain ⟨vv, hvv⟩ : ∃ vv : Int, (if y = q then (0 : Int) else 64) = vv := ⟨_, rfl⟩
              obtain ⟨bs, hbs⟩ : ∃ bs, chq q 0 (cs.take y) = bs := ⟨_, rfl⟩
              rw [hvv, hbs] at HCHQ
              rw [hbs] at hM
              have HVV := Lib.hid hvv
              clear htk hsum hle hci hvv hbs
              go_wp2_with (first | (first | ((with_reducible refine at_load' ?_); (refine BigFrame.wpList_want (by rfl) fun K hK => ws_rowload rfl rfl (by first | (apply Star.row hM; (repeat (first | assumption | (with_reducible exact mZ) | apply mS)); done) | (apply Star.own hM; (repeat (first | assumption | (with_reducible exact mZ) | apply mS)); done) | (apply Star.arr hM; (focus ((repeat (first | assumption | (with_reducible exact mZ) | apply mS)); done)); assumption)) (by assumption) (by kernel_rfl) (hK _ _ ?_); clear hK K)) | fail))
              clear hv
              go_loopw [13, 94] (fun ch i wr => ∃ (k : Nat) (H : Option Addr) (d : Nat), k ≤ ci ∧ i = .int .i64 k ∧ ch = .slice H (cnt + k) d ∧ Star (ownE 3 1 H (cnt + k) d (ivs (bs ++ List.replicate k vv)) :: bookE B D 1 29 rs :: cellsE g5 29 (st12C B.a B.b none 0 0 29 1) :: rowE 2 C j (qvs rs) :: rowE 1 (some ad) j (ivs (cs.map fun x : Nat => (x : Int))) :: F) wr) (fun _ i _ => ci - (intOf i).toNat)
              case atStart => exact ⟨0, H, d, Nat.zero_le _, rfl, rfl, by rw [List.replicate_zero, List.append_nil]; exact hM⟩
              case round =>
                clear hM
                obtain ⟨k, H, d, hk, rfl, rfl, hM⟩ := hrel
                by_cases hkc : k < ci
                · by_cases hyq : y = q
                  · have hyI : decide ((y : Int) = (q : Int)) = true := decide_eq_true (by omega)
                    have hyN : decide (y = q) = true := decide_eq_true hyq
                    have hyB : ((y : Int) == (q : Int)) = true := beq_iff_eq.2 (by omega)
                    have HR : Hid (ivs (bs ++ List.replicate (k + 1) vv) = ivs (bs ++ List.replicate k vv) ++ ivs [0]) := by show _ = _; rw [← HVV.out, if_pos hyq, List.replicate_succ']; simp [ivs]
                    clear hyq
                    go_wp2_with (first | (first | ((with_reducible refine at_slice' ?_); (have hM0 := hM; clear hM; refine BigFrame.wpList_want (by rfl) fun K hK => ws_slice_row hM0 (n := 1) rfl 3 1 (.int .i64 0) [.int .i64 0] Try.underlying57 (by kernel_rfl) rfl (by simp [Value.cells, iv, sv, bv]) (by rfl) (by decide) (cs := ivs [0]) (by rfl) (fun gq w hM => hK _ _ ?_); clear hM0 hK K)) | fail) | (first | ((with_reducible refine at_call' ?_); (have hM0 := hM; clear hM; refine BigFrame.wpList_want (by rfl) fun K hK => ws_append hM0 rfl rfl rfl 3 ((.int .i64 0)) 1 8 Try.underlying57 (by kernel_rfl) (by rfl) (by decide) (by (repeat (first | (with_reducible exact Take.head) | apply Take.tail)); first | done | fail) (by first | (apply Star.row hM0; (repeat (first | assumption | (with_reducible exact mZ) | apply mS)); done) | (apply Star.own hM0; (repeat (first | assumption | (with_reducible exact mZ) | apply mS)); done) | (apply Star.arr hM0; (focus ((repeat (first | assumption | (with_reducible exact mZ) | apply mS)); done)); assumption)) (ivs_one [0]) ((by omega)) (fun H1 d1 w hM hnil => hK _ _ ?_); clear hM0 hK K)) | fail))
                    (try go_frame)
                    go_roundw
                    case rel =>
                      refine ⟨k + 1, H1, d1, by omega, by go_num, by first | rfl | (rw [Nat.add_assoc]) | simp [Nat.add_assoc], ?_⟩
                      rw [HR.out, ← Nat.add_assoc]
                      exact hM.sel (by repeat (first | (with_reducible exact Sel.refl) | (with_reducible exact Take.head) | (with_reducible apply Take.tail) | (with_reducible apply Sel.cons) | (with_reducible apply Sel.drop)))
                    case measure => simp [intOf]; omega
                  · have hyI : ¬ ((y : Int) = (q : Int)) := by omega
                    have HR : Hid (ivs (bs ++ List.replicate (k + 1) vv) = ivs (bs ++ List.replicate k vv) ++ ivs [64]) := by show _ = _; rw [← HVV.out, if_neg hyq, List.replicate_succ']; simp [ivs]
                    clear hyq
                    go_wp2_with (first | (first | ((with_reducible refine at_slice' ?_); (have hM0 := hM; clear hM; refine BigFrame.wpList_want (by rfl) fun K hK => ws_slice_row hM0 (n := 1) rfl 3 1 (.int .i64 0) [.int .i64 64] Try.underlying57 (by kernel_rfl) rfl (by simp [Value.cells, iv, sv, bv]) (by rfl) (by decide) (cs := ivs [64]) (by rfl) (fun gq w hM => hK _ _ ?_); clear hM0 hK K)) | fail) | (first | ((with_reducible refine at_call' ?_); (have hM0 := hM; clear hM; refine BigFrame.wpList_want (by rfl) fun K hK => ws_append hM0 rfl rfl rfl 3 ((.int .i64 0)) 1 8 Try.underlying57 (by kernel_rfl) (by rfl) (by decide) (by (repeat (first | (with_reducible exact Take.head) | apply Take.tail)); first | done | fail) (by first | (apply Star.row hM0; (repeat (first | assumption | (with_reducible exact mZ) | apply mS)); done) | (apply Star.own hM0; (repeat (first | assumption | (with_reducible exact mZ) | apply mS)); done) | (apply Star.arr hM0; (focus ((repeat (first | assumption | (with_reducible exact mZ) | apply mS)); done)); assumption)) (ivs_one [64]) ((by omega)) (fun H1 d1 w hM hnil => hK _ _ ?_); clear hM0 hK K)) | fail))
                    (try go_frame)
                    go_roundw
                    case rel =>
                      refine ⟨k + 1, H1, d1, by omega, by go_num, by first | rfl | (rw [Nat.add_assoc]) | simp [Nat.add_assoc], ?_⟩
                      rw [HR.out, ← Nat.add_assoc]
                      exact hM.sel (by repeat (first | (with_reducible exact Sel.refl) | (with_reducible exact Take.head) | (with_reducible apply Take.tail) | (with_reducible apply Sel.cons) | (with_reducible apply Sel.drop)))
                    case measure => simp [intOf]; omega
                · obtain rfl : ci = k := by omega
                  go_wp2_with fail
                  go_roundw
                  case rel =>
                    refine ⟨y + 1, cnt + ci, H, d, by omega, by go_num, rfl, HSUM.out.symm, ?_⟩
                    rw [HCHQ.out]
                    exact hM.sel (by repeat (first | (with_reducible exact Sel.refl) | (with_reducible exact Take.head) | (with_reducible apply Take.tail) | (with_reducible apply Sel.cons) | (with_reducible apply Sel.drop)))
                  case measure => simp [intOf]; omega
            · obtain rfl : j = y := by omega
              have hcc : cs.take j = cs := List.take_of_length_le (by rw [HCSL.out]; omega)
              have hcnt2 : cnt = tot rs := by rw [hcnt.out, hcc]; exact HCSS.out
              have HCN := Lib.hid hcnt2
              rw [hcc] at hM
              replace hM := hM.freeze
              clear hcc hcnt2
              go_wp2_with (first | (first | ((with_reducible refine at_load' ?_); (refine BigFrame.wpList_want (by rfl) fun K hK => ws_load1 hM rfl rfl (by (repeat (first | assumption | (with_reducible exact mZ) | apply mS)); first | done | fail) (by first | rfl | assumption) (by decide +kernel) (hK _ _ ?_); clear hK K)) | fail) | (go_at_call 23; have hM0 := hM; clear hM; (first | (with_reducible refine (HCR.out H cnt d HCN.out _ _ _ hM0 (by (repeat (first | (with_reducible exact Take.head) | apply Take.tail)); first | done | fail) (by (repeat (first | assumption | (with_reducible exact mZ) | apply mS)); first | done | fail)).mono ?_) | fail); clear hM0; rintro _ w ⟨D2, hP2, hN2, rfl, hM⟩) | (go_at_call 14; have hM0 := hM; clear hM; (first | (with_reducible refine (HOP.out D2 hP2 hN2 _ _ _ hM0 (by (repeat (first | (with_reducible exact Take.head) | apply Take.tail)); first | done | fail)).mono ?_) | fail); clear hM0; rintro _ w ⟨b3, A3, c3, rfl, hM⟩))
              (refine region_RS ([rowE 2 C j (qvs rs), rowE 3 A3 q (rvs (ats (frT 29 2) pre))]) [] (by kernel_rfl) hM ?_; clear hM; change RS _ _ _ _ _ _ 11 (Array.replicate 11 false) _ _; refine RS_take (i := 0) rfl (by decide +kernel) (fun _ _ _ h => h) (by first | (intro x hx; (repeat (first | exact hx | apply mS)); done) | ((repeat (refine List.forall_mem_cons.2 ⟨(by (repeat (first | assumption | (with_reducible exact mZ) | apply mS)); first | done | fail), ?_⟩)); intro x hx; first | (cases hx; done) | ((repeat (first | exact hx | apply mS)); done))) (stab_pure (by rfl) (fun w => (by go_simp; try with_reducible rfl))) ?_; simp only [Act.put, List.setIfInBounds_toArray, List.set_cons_zero, List.set_cons_succ]; refine RS_take (i := 1) rfl (by decide +kernel) (fun _ _ _ h => h) (by first | (intro x hx; (repeat (first | exact hx | apply mS)); done) | ((repeat (refine List.forall_mem_cons.2 ⟨(by (repeat (first | assumption | (with_reducible exact mZ) | apply mS)); first | done | fail), ?_⟩)); intro x hx; first | (cases hx; done) | ((repeat (first | exact hx | apply mS)); done))) (stab_pure (by rfl) (fun w => (by go_simp; try with_reducible rfl))) ?_; simp only [Act.put, List.setIfInBounds_toArray, List.set_cons_zero, List.set_cons_succ]; refine RS_take (i := 2) rfl (by decide +kernel) (fun _ _ _ h => h) (by first | (intro x hx; (repeat (first | exact hx | apply mS)); done) | ((repeat (refine List.forall_mem_cons.2 ⟨(by (repeat (first | assumption | (with_reducible exact mZ) | apply mS)); first | done | fail), ?_⟩)); intro x hx; first | (cases hx; done) | ((repeat (first | exact hx | apply mS)); done))) (stab_pure (by rfl) (fun w => (by go_simp; try with_reducible rfl))) ?_; simp only [Act.put, List.setIfInBounds_toArray, List.set_cons_zero, List.set_cons_succ]; refine RS_take (i := 3) rfl (by decide +kernel) (fun _ _ _ h => h) (by first | (intro x hx; (repeat (first | exact hx | apply mS)); done) | ((repeat (refine List.forall_mem_cons.2 ⟨(by (repeat (first | assumption | (with_reducible exact mZ) | apply mS)); first | done | fail), ?_⟩)); intro x hx; first | (cases hx; done) | ((repeat (first | exact hx | apply mS)); done))) (stab_pure (by rfl) (fun w => (by go_simp; try with_reducible rfl))) ?_; simp only [Act.put, List.setIfInBounds_toArray, List.set_cons_zero, List.set_cons_succ]; refine RS_take (i := 5) rfl (by decide +kernel) (fun _ _ _ h => h) (by first | (intro x hx; (repeat (first | exact hx | apply mS)); done) | ((repeat (refine List.forall_mem_cons.2 ⟨(by (repeat (first | assumption | (with_reducible exact mZ) | apply mS)); first | done | fail), ?_⟩)); intro x hx; first | (cases hx; done) | ((repeat (first | exact hx | apply mS)); done))) (stab_pure (by rfl) (fun w => (by go_simp; try with_reducible rfl))) ?_; simp only [Act.put, List.setIfInBounds_toArray, List.set_cons_zero, List.set_cons_succ]; refine RS_take (i := 6) rfl (by decide +kernel) (fun _ _ _ h => h) (by first | (intro x hx; (repeat (first | exact hx | apply mS)); done) | ((repeat (refine List.forall_mem_cons.2 ⟨(by (repeat (first | assumption | (with_reducible exact mZ) | apply mS)); first | done | fail), ?_⟩)); intro x hx; first | (cases hx; done) | ((repeat (first | exact hx | apply mS)); done))) (stab_pure (by rfl) (fun w => (by go_simp; try with_reducible rfl))) ?_; simp only [Act.put, List.setIfInBounds_toArray, List.set_cons_zero, List.set_cons_succ]; refine RS_take (i := 7) rfl (by decide +kernel) (fun _ _ _ h => h) (by first | (intro x hx; (repeat (first | exact hx | apply mS)); done) | ((repeat (refine List.forall_mem_cons.2 ⟨(by (repeat (first | assumption | (with_reducible exact mZ) | apply mS)); first | done | fail), ?_⟩)); intro x hx; first | (cases hx; done) | ((repeat (first | exact hx | apply mS)); done))) (stab_pure (by rfl) (fun w => (by go_simp; try with_reducible rfl))) ?_; simp only [Act.put, List.setIfInBounds_toArray, List.set_cons_zero, List.set_cons_succ]; refine RS_one (i := 4) (by decide +kernel) rfl (by rfl) (.inl (by first | (intro x hx; (repeat (first | exact hx | apply mS)); done) | ((repeat (refine List.forall_mem_cons.2 ⟨(by (repeat (first | assumption | (with_reducible exact mZ) | apply mS)); first | done | fail), ?_⟩)); intro x hx; first | (cases hx; done) | ((repeat (first | exact hx | apply mS)); done)))) (fun w K hM0 hK => ?_); refine ws_call (by go_simp; try with_reducible rfl) (HTO.out A3 c3 _ _ w hM0 (by (repeat (first | assumption | (with_reducible exact mZ) | apply mS)); first | done | fail)) (fun r w2 hR => ?_); obtain ⟨C4, e4, rfl, hM⟩ := hR; refine ⟨_, rfl, hK _ _ _ hM ?_⟩; clear hM hM0 hK K; simp only [Act.put, List.setIfInBounds_toArray, List.set_cons_zero, List.set_cons_succ]; refine RS_one (i := 8) (by decide +kernel) rfl (by rfl) (.inl (by first | (intro x hx; (repeat (first | exact hx | apply mS)); done) | ((repeat (refine List.forall_mem_cons.2 ⟨(by (repeat (first | assumption | (with_reducible exact mZ) | apply mS)); first | done | fail), ?_⟩)); intro x hx; first | (cases hx; done) | ((repeat (first | exact hx | apply mS)); done)))) (fun w K hM0 hK => ?_); refine ws_call (by go_simp; try with_reducible rfl) (HSM.out C4 e4 _ w hM0 (by (repeat (first | assumption | (with_reducible exact mZ) | apply mS)); first | done | fail) (by (repeat (first | assumption | (with_reducible exact mZ) | apply mS)); first | done | fail)) (fun r w2 hR => ?_); obtain ⟨rfl, hM⟩ := hR; refine ⟨_, rfl, hK _ _ _ hM ?_⟩; clear hM hM0 hK K; simp only [Act.put, List.setIfInBounds_toArray, List.set_cons_zero, List.set_cons_succ]; refine RS_take (i := 9) rfl (by decide +kernel) (fun _ _ _ h => h) (by first | (intro x hx; (repeat (first | exact hx | apply mS)); done) | ((repeat (refine List.forall_mem_cons.2 ⟨(by (repeat (first | assumption | (with_reducible exact mZ) | apply mS)); first | done | fail), ?_⟩)); intro x hx; first | (cases hx; done) | ((repeat (first | exact hx | apply mS)); done))) (stab_pure (by rfl) (fun w => (by go_simp; try with_reducible rfl))) ?_; simp only [Act.put, List.setIfInBounds_toArray, List.set_cons_zero, List.set_cons_succ]; refine RS_take (i := 10) rfl (by decide +kernel) (fun _ _ _ h => h) (by first | (intro x hx; (repeat (first | exact hx | apply mS)); done) | ((repeat (refine List.forall_mem_cons.2 ⟨(by (repeat (first | assumption | (with_reducible exact mZ) | apply mS)); first | done | fail), ?_⟩)); intro x hx; first | (cases hx; done) | ((repeat (first | exact hx | apply mS)); done))) (stab_pure (by rfl) (fun w => (by go_simp; try with_reducible rfl))) ?_; simp only [Act.put, List.setIfInBounds_toArray, List.set_cons_zero, List.set_cons_succ]; refine RS_done (by decide +kernel) (.inl (by first | (intro x hx; (repeat (first | exact hx | apply mS)); done) | ((repeat (refine List.forall_mem_cons.2 ⟨(by (repeat (first | assumption | (with_reducible exact mZ) | apply mS)); first | done | fail), ?_⟩)); intro x hx; first | (cases hx; done) | ((repeat (first | exact hx | apply mS)); done)))) (fun w hM => ?_))
              go_wp2_with fail
              go_ret
              exact ⟨rfl, hM.sel (by repeat (first | (with_reducible exact Sel.refl) | (with_reducible exact Take.head) | (with_reducible apply Take.tail) | (with_reducible apply Sel.cons) | (with_reducible apply Sel.drop)))⟩
theorem bookTail_walk (A0 : Option Addr) (n0 c0 : Nat) (l0 : List Rq) (y0 : n0 ≤ 9223372036854775807) (z0 : ∀ x ∈ l0, QOk x) (l1 : Int) (w1 : -9223372036854775808 ≤ l1) (y1 : l1 ≤ 9223372036854775807) {F : List SProp} (w : World) (hM : Star F w) (hF : rowE 2 A0 n0 (qlvs l0) ∈ F) :
    Calls Try.prog 5 #[.slice A0 n0 c0, .int .i64 l1] w fun r w' => r = .returned (.bool true) ∧ Star F w' :=
  bookTail_core A0 n0 c0 l0 z0 y0 l1 w1 y1 w hM hF
end Go.Proofs.Ytnckgkgilnmocaa
set_option linter.unusedSimpArgs false
set_option linter.unusedVariables false
namespace Go.Proofs.Ytnckgkgilnmocaa
open Go.RowKit Go.WideShapes Go.ChangeShapes Go.ChangeAt
theorem bookTail_law (A0 : Option Addr) (n0 c0 : Nat) (l0 : List Rq) (y0 : n0 ≤ 9223372036854775807) (z0 : ∀ x ∈ l0, QOk x) (l1 : Int) (w1 : -9223372036854775808 ≤ l1) (y1 : l1 ≤ 9223372036854775807) (W : World) (w0 : Rd W 2 A0 n0 (qlvs l0)) :
    Calls Try.prog 5 #[.slice A0 n0 c0, .int .i64 l1] W fun r w' => r = .returned (.bool true) ∧ Ch [] W w' :=
  (bookTail_walk A0 n0 c0 l0 y0 z0 l1 w1 y1 W ((Star.start W).of_old (by (repeat (first | assumption | (with_reducible exact mZ) | apply mS)); first | done | fail) w0) (by (repeat (first | assumption | (with_reducible exact mZ) | apply mS)); first | done | fail)).mono fun _ _ ⟨h1, h2⟩ => ⟨h1, h2.old (by (repeat (first | assumption | (with_reducible exact mZ) | apply mS)); first | done | fail)⟩
theorem bookTail_own : ownKnob Try.prog.godebug = none := by kernel_rfl
set_option maxRecDepth 100000 in
theorem bookTail_lifted (os : Os) (started : os.Started) (H : Type) (enc : TypeId × Value → H) :
    ReturnsInHanded {} Try.checked os 5 .any (Rows.bookTailSpec.pre6 enc Try.prog Try.f5 Rows.bookTailRow.domain false) (Rows.bookTailSpec.post enc Try.prog Try.f5 false true false false) := by
  refine returnsInHanded_of_change (C := Try.checked) bookTail_own started (by kernel_rfl) Try.func5
    (ChangeSpec.witness6 (enc := enc) (C := Try.checked) false ⟨#[], #[.slice none 0 0, .int .i64 0], []⟩ 8 (by kernel_rfl) (by kernel_rfl) (by kernel_rfl) (by kernel_rfl)) ?_
  intro W base args ds gs before hval0 hW hcnd _
  have hval : ∀ (j : Nat) t v, Try.f5.params[j]? = some t → args[j]? = some v → Value.okWide Try.prog W .any base t v := hval0
  have hW' := hW
  obtain ⟨p, q, hA0, hV, rfl, hfz, hnd⟩ := hW
  have hA : DataW.TrodAll enc Try.prog W 0 (fun _ => true) true Try.f5.params.toList args.toList ds p := hA0
  have hA1 := hA
  rw [Try.params5] at hA hval
  obtain ⟨v0, vs0, d0, ds0, p0, q0, hargs, rfl, rfl, h0, r0⟩ := trodAll_cons hA
  obtain ⟨v1, vs1, d1, ds1, p1, q1, rfl, rfl, rfl, h1, r1⟩ := trodAll_cons r0
  obtain ⟨rfl, rfl, rfl⟩ := trodAll_nil r1
  obtain rfl : args = #[v0, v1] := by cases args; simp_all
  obtain ⟨rfl, rfl⟩ := trodVars_none hV
  obtain ⟨A0, n0, c0, l0, rfl, w0, y0, z0⟩ := open_actQ (hval 0 22 v0 rfl rfl) h0
  obtain ⟨l1, rfl, w1, y1⟩ := open_i64 Try.underlying3 (hval 1 3 v1 rfl rfl) h1
  clear hA0 hval0
  refine (bookTail_law A0 n0 c0 l0 y0 z0 l1 w1 y1 W w0).mono fun e W' ⟨he, hg⟩ => ?_
  subst he
  have hlt := fun x hx => hW'.lt x hx
  exact ⟨_, rfl, post_of_below hW' (fun _ _ _ => (trodAll_cons_mk (shut_bool Try.underlying4 _) trodAll_mk0))
    (fun sp hsp => args_stay (by kernel_rfl) hg.below sp _ _ _ _ (by kernel_rfl) hA1 (fun x hx => hlt x (List.mem_append.2 (.inl hx))) (fun x hx => hsp x (List.mem_append.2 (.inl hx)))) (fun _ _ => rfl) rfl
    hg.below (ok_one (by kernel_rfl) rfl (okWide_bool_mk Try.underlying4 _))⟩
theorem bookTail_over : Rows.bookTailRow.holds Try.pinned (OpenSpec.ofChange Rows.bookTailSpec) :=
  OpenClaim.holds_of_wide 5 Try.f5 rfl rfl rfl rfl rfl rfl rfl ⟨rfl, rfl, rfl, rfl, rfl⟩ rfl rfl rfl rfl rfl (by kernel_rfl) Try.func5 (by kernel_rfl)
    (of_decide_eq_true (by kernel_rfl)) (by unfold Func.isWrapper; first | (rw [if_pos (by decide +kernel)]; kernel_rfl) | (rw [if_neg (by decide +kernel)]; exact ⟨rfl, rfl⟩))
    (fun os started H enc _ => bookTail_lifted os started H enc)
/-- THE STATEMENT -/
theorem bookTail_holds : Rows.BookTailSaid := bookTail_over
end Go.Proofs.Ytnckgkgilnmocaa
