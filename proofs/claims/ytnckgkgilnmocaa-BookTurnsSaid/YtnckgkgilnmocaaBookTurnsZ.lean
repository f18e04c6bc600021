/- The statement BookTurns, from its walk. No condition but those that each theorem names. -/
import Derived.Test.YtnckgkgilnmocaaT1
import Derived.Test.YtnckgkgilnmocaaT3
import Derived.Test.YtnckgkgilnmocaaT8
set_option linter.unusedSimpArgs false
set_option linter.unusedVariables false
namespace Go.Proofs.Ytnckgkgilnmocaa
open Go.RowKit
attribute [local go_sem] extract_mid extract_drop bget bsize wrap64_u8 i64_u8 u64_u8 bappend
set_option maxRecDepth 100000 in
set_option maxHeartbeats 32000000 in
theorem bookTurns_core {F : List SProp} (A : Option Addr) (n c : Nat) (l : List Rq) (hq : ∀ p ∈ l, QOk p) (hn : n ≤ 9223372036854775807) (times : Int) (ht1 : -9223372036854775808 ≤ times) (ht2 : times ≤ 9223372036854775807) (w : World) (hM : Star F w) (hF : rowE 2 A n (qlvs l) ∈ F) :
    Calls Try.prog 3 #[.slice A n c, .int .i64 times] w fun r w' => r = .returned (.bool true) ∧ Star F w' := by
  have HAW : Hid (∀ (L : List SProp) (w : World), Star L w → Calls Try.prog 8 #[] w fun r w' => r = .returned (.bool true) ∧ Star L w') := fun L w hM => awake12 w hM
  have HBG : Hid (∀ (L : List SProp) (w : World), Star L w → Calls Try.prog 9 #[.int .i64 60] w fun r w' => ∃ (B : BA) (D : Dsk), Hid (Live 60 D 29 1 0 []) ∧ r = .returned (.tuple #[.agg (st12C B.a B.b none 0 0 29 1), .bool true]) ∧ Star (bookE B D 1 29 [] :: L) w') := fun L w hM => begin_l w hM
  have HFW : Hid (∀ (k : Int) (d : List UInt8) (L : List SProp) (w : World), Star L w → Calls Try.prog 10 #[.agg (qcC k d)] w fun r w' => r = .returned (.agg (qcC k (cutP d 200))) ∧ Star L w') := fun k d L w hM => few_l k d w hM
  have HQ := Lib.hid hq
  have HLN := Lib.hid (qlvs_row (hM.row hF))
  obtain ⟨T, hT⟩ : ∃ T : Nat, min (max times 0) 6 = T := ⟨(min (max times 0) 6).toNat, by omega⟩
  have hT2 : (if (6 : Int) < (if times < 0 then 0 else times) then 6 else (if times < 0 then (0 : Int) else times)) = T := by rw [← hT]; split <;> split at * <;> omega
  have hT6 : T ≤ 6 := by omega
  clear hq ht1 ht2
  have tok1 : True := trivial
  have tok2 : True := trivial
  go_enter Try.func3, Try.ntmps3
  go_wp2_with (first | (go_at_call 8; have hM0 := hM; clear hM; (first | (with_reducible refine (HAW.out _ _ hM0).mono ?_) | fail); clear hM0; rintro _ w ⟨rfl, hM⟩) | (go_at_call 9; have hM0 := hM; clear hM; (first | (with_reducible refine (HBG.out _ _ hM0).mono ?_) | fail); clear hM0; rintro _ w ⟨B, D0, h0, rfl, hM⟩) | (first | ((with_reducible refine at_alloc' ?_); (have hM0 := hM; clear hM; refine BigFrame.wpList_want (by rfl) fun K hK => ws_alloc hM0 (t := 29) rfl _ info_st12 (fun g5 w hM => hK _ _ ?_); clear hM0 hK K)) | fail) | (first | ((with_reducible refine at_store' ?_); (have hM0 := hM; clear hM; refine BigFrame.wpList_want (by rfl) fun K hK => ws_store hM0 rfl rfl rfl (by (repeat (first | (with_reducible exact Take.head) | apply Take.tail)); first | done | fail) (n := 8) (by rfl) (by rfl) (by kernel_rfl) (by simp [Value.oneCell']) (fun w hM => hK _ _ ?_); clear hM0 hK K)) | fail))
  obtain ⟨a0, ha0⟩ : ∃ a0, B.a = a0 := ⟨_, rfl⟩
  have HA0 := Lib.hid ha0
  replace hM := hM.nilrow 2
  rw [ha0] at hM
  clear ha0
  go_loopw [7] (fun i wr => ∃ (j : Nat) (C : Option Addr) (e : Nat) (D : Dsk), j ≤ 6 ∧ j ≤ n ∧ i = .int .i64 j ∧ Hid (Live 60 D 29 1 0 ((l.take j).map mkR)) ∧ Star (bookE B D 1 29 ((l.take j).map mkR) :: cellsE g5 29 (st12C a0 B.b C j e 29 1) :: rowE 2 C j (qvs ((l.take j).map mkR)) :: rowE 2 none 0 [] :: F) wr) (fun i _ => 6 - (intOf i).toNat)
  case atStart =>
    have hM := hM.nilrow 2
    refine ⟨0, none, 0, D0, by omega, by omega, rfl, h0, ?_⟩
    have hM2 : Star (bookE B D0 1 29 [] :: cellsE g5 29 (st12C a0 B.b none 0 0 29 1) :: rowE 2 none 0 [] :: rowE 2 none 0 [] :: F) _ := hM.sel (by repeat (first | (with_reducible exact Sel.refl) | (with_reducible exact Take.head) | (with_reducible apply Take.tail) | (with_reducible apply Sel.cons) | (with_reducible apply Sel.drop)))
    exact hM2
  case round =>
    clear hM
    obtain ⟨j, C, e, D, hj6, hjn, rfl, hV, hM⟩ := hrel
    by_cases hgo : j < n ∧ j < 6
    · obtain ⟨hlt, hlt6⟩ := hgo
      obtain ⟨ad, ⟨k, d⟩, rfl, hc, hgx, hta⟩ := hM.elemQ (A := A) (n := n) (l := l) (by repeat (first | exact hF | apply mS)) hlt
      have hqo := HQ.out (k, d) (List.mem_of_getElem? hgx)
      have hnum := mkR_num (p := (k, d)) hqo.b1 hqo.b2
      obtain ⟨k6, hk6⟩ : ∃ k6 : Nat, (k % 64).toNat = k6 := ⟨_, rfl⟩
      obtain ⟨kd, hkd⟩ : ∃ kd : Nat, (mkR (k, d)).1 = kd := ⟨_, rfl⟩
      have hn1 := hnum.1
      have hn2 := hnum.2
      simp only at hn1 hn2
      rw [hk6] at hn1 hn2
      rw [hkd] at hn2
      have hrs : (l.take (j + 1)).map mkR = (l.take j).map mkR ++ [(kd, cutP d 200)] := by rw [hta, List.map_append]; simp only [List.map_cons, List.map_nil]; rw [← hkd]; rfl
      have hgood : rcGood (kd, cutP d 200) := by have := mkR_good (k, d); rw [← hkd]; exact this
      have htot := mkRs_tot (l.take j)
      have htl : (l.take j).length = j := by rw [List.length_take, HLN.out]; omega
      have hcst := (mkR_cost (k, d)).1
      have HAP : Hid (∀ (L R : List SProp) (w : World), Star L w → Take (bookE B D 1 29 ((l.take j).map mkR)) L R → Calls Try.prog 12 #[bptr B.b, .int .i64 (kd : Int), .string ⟨(cutP d 200).toArray⟩] w fun r w' => ∃ (D' : Dsk) (at_ : Nat), Hid (Live 60 D' 29 1 0 ((l.take (j + 1)).map mkR)) ∧ r = .returned (.tuple #[.agg (rcC kd (cutP d 200) at_), .int .i64 0]) ∧ Star (bookE B D' 1 29 ((l.take (j + 1)).map mkR) :: R) w') := fun L R w hM hx => by
        refine (append_u hV hgood (by omega) (by change bcost (cutP d 200).length ≤ 4 at hcst; omega) w hM hx).mono ?_
        rintro r w' ⟨D', v, e, hM⟩
        rw [← hrs] at v hM
        exact ⟨D', _, v, e, hM⟩
      have HRA : Hid (∀ (L : List SProp) (w : World), Star L w → rowE 2 none 0 [] ∈ L → rowE 2 C j (qvs ((l.take j).map mkR)) ∈ L → Calls Try.prog 11 #[.agg #[.slice none 0 0, .slice C j e, .int .i64 29, .int .i64 1], .agg (qcC kd (cutP d 200))] w fun r w' => ∃ C2 f, r = .returned (.tuple #[.agg #[.slice none 0 0, .slice C2 (j + 1) f, .int .i64 29, .int .i64 1], .int .i64 0]) ∧ Star (rowE 2 C2 (j + 1) (qvs ((l.take (j + 1)).map mkR)) :: L) w') := fun L w hM h1 h2 => by
        have := append_r (e := e) (c := 0) (t := 1) (h := 29) [] ((l.take j).map mkR) hgood (fun r hr => (mkRs_good (l.take j) r (by rw [List.nil_append] at hr; exact hr)).2.2) (by change bcost (cutP d 200).length ≤ 4 at hcst; rw [List.nil_append]; omega) (by omega) w hM h1 h2
        rw [← hrs] at this
        exact this
      have HFE : Hid (∀ (L : List SProp) (w : World), Star L w → Calls Try.prog 10 #[.agg (qcC k d)] w fun r w' => r = .returned (.agg (qcC k (cutP d 200))) ∧ Star L w') := HFW.out k d
      generalize cutP d 200 = u at HAP HRA HFE
      have hk6b : k6 < 64 := by rw [← hk6]; omega
      have hkb : kd ≤ 64 := by omega
      have hb3 : wrap64 (kd : Int) = kd := by unfold wrap64; omega
      clear hnum hk6 hkd hrs hgood htot htl hcst hta hgx hqo
      go_wp2_with (first | (refine wpList_plain rfl fun K hK => ws_load_at rfl rfl (qcC k d).toList hc (n := 2) rfl (by kernel_rfl) (hK _ _ ?_); clear hK K) | (go_at_call 10; have hM0 := hM; clear hM; (first | (with_reducible refine (HFE.out _ _ hM0).mono ?_) | fail); clear hM0; rintro _ w ⟨rfl, hM⟩) | (have _t := tok1; (first | ((with_reducible refine at_alloc' ?_); (have hM0 := hM; clear hM; refine BigFrame.wpList_want (by rfl) fun K hK => ws_alloc hM0 (t := 33) rfl qc0 info_qc (fun g8 w hM => hK _ _ ?_); clear hM0 hK K)) | fail); clear tok1) | (first | ((with_reducible refine at_store' ?_); (have hM0 := hM; clear hM; refine BigFrame.wpList_want (by rfl) fun K hK => ws_store hM0 rfl rfl rfl (by (repeat (first | (with_reducible exact Take.head) | apply Take.tail)); first | done | fail) (n := 2) (by rfl) (by rfl) (by kernel_rfl) (by simp [Value.oneCell']) (fun w hM => hK _ _ ?_); clear hM0 hK K)) | fail) | (first | ((with_reducible refine at_load' ?_); (refine BigFrame.wpList_want (by rfl) fun K hK => ws_load1 hM rfl rfl (by (repeat (first | assumption | (with_reducible exact mZ) | apply mS)); first | done | fail) (by first | rfl | assumption) (by decide +kernel) (hK _ _ ?_); clear hK K)) | fail) | (first | ((with_reducible refine at_store' ?_); (have hM0 := hM; clear hM; refine BigFrame.wpList_want (by rfl) fun K hK => ws_store1 hM0 rfl rfl (by go_simp; rfl) (by first | rfl | assumption) (by (repeat (first | (with_reducible exact Take.head) | apply Take.tail)); first | done | fail) (by simp) (by kernel_rfl) (by simp only [List.setIfInBounds_toArray, List.set_cons_zero, List.set_cons_succ]; rfl) (fun w hM => hK _ _ ?_); clear hM0 hK K)) | fail) | ((with_reducible refine at_load' ?_); refine BigFrame.wpList_want (by rfl) fun K hK => ws_load_mid hM rfl (i := 2) rfl (t := 29) (cs := st12C a0 B.b C j e 29 1) (by (repeat (first | assumption | (with_reducible exact mZ) | apply mS)); first | done | fail) (bqC none 0 0 C j e 29 1).toList (fun i v hv => by rcases i with _ | _ | _ | _ | i <;> first | exact hv | simp at hv) (n := 4) rfl (by kernel_rfl) (hK _ _ ?_); clear hK K) | (first | ((with_reducible refine at_load' ?_); (refine BigFrame.wpList_want (by rfl) fun K hK => ws_load hM rfl rfl (by (repeat (first | assumption | (with_reducible exact mZ) | apply mS)); first | done | fail) (n := 2) (by rfl) (by decide +kernel) (hK _ _ ?_); clear hK K)) | fail) | (go_at_call 11; have hM0 := hM; clear hM; (first | (with_reducible refine (HRA.out _ _ hM0 (by (repeat (first | assumption | (with_reducible exact mZ) | apply mS)); first | done | fail) (by (repeat (first | assumption | (with_reducible exact mZ) | apply mS)); first | done | fail)).mono ?_) | fail); clear hM0; rintro _ w ⟨C2, e2, rfl, hM⟩) | (first | ((with_reducible refine at_alloc' ?_); (have hM0 := hM; clear hM; refine BigFrame.wpList_want (by rfl) fun K hK => ws_alloc hM0 (t := 27) rfl #[.slice none 0 0, .slice none 0 0, .int .i64 0, .int .i64 0] info_bq (fun g9 w hM => hK _ _ ?_); clear hM0 hK K)) | fail) | (first | ((with_reducible refine at_store' ?_); (have hM0 := hM; clear hM; refine BigFrame.wpList_want (by rfl) fun K hK => ws_store hM0 rfl rfl rfl (by (repeat (first | (with_reducible exact Take.head) | apply Take.tail)); first | done | fail) (n := 4) (by rfl) (by rfl) (by kernel_rfl) (by simp [Value.oneCell']) (fun w hM => hK _ _ ?_); clear hM0 hK K)) | fail) | (first | ((with_reducible refine at_load' ?_); (refine BigFrame.wpList_want (by rfl) fun K hK => ws_load hM rfl rfl (by (repeat (first | assumption | (with_reducible exact mZ) | apply mS)); first | done | fail) (n := 4) (by rfl) (by decide +kernel) (hK _ _ ?_); clear hK K)) | fail) | ((with_reducible refine at_store' ?_); (have hM0 := hM; clear hM; refine BigFrame.wpList_want (by rfl) fun K hK => ws_store_at hM0 rfl (i := 2) rfl (v := .agg #[.slice none 0 0, .slice C2 (j + 1) e2, .int .i64 29, .int .i64 1]) rfl (by (repeat (first | (with_reducible exact Take.head) | apply Take.tail)); first | done | fail) 4 (by first | rfl | simp [Value.cells]) (by first | (simp; done) | decide) (by kernel_rfl) (by simp [Value.cells, Value.oneCell']) (cs := st12C a0 B.b C2 (j + 1) e2 29 1) (by first | rfl | simp [Value.cells]) (fun w hM => hK _ _ ?_); clear hM0 hK K)) | (go_at_call 12; have hM0 := hM; clear hM; (first | (with_reducible refine (HAP.out _ _ _ hM0 (by (repeat (first | (with_reducible exact Take.head) | apply Take.tail)); first | done | fail)).mono ?_) | fail); clear hM0; rintro _ w ⟨D2, at2, hV2, rfl, hM⟩) | (first | ((with_reducible refine at_alloc' ?_); (have hM0 := hM; clear hM; refine BigFrame.wpList_want (by rfl) fun K hK => ws_alloc hM0 (t := 38) rfl rc0 info_rc (fun g11 w hM => hK _ _ ?_); clear hM0 hK K)) | fail) | (first | ((with_reducible refine at_store' ?_); (have hM0 := hM; clear hM; refine BigFrame.wpList_want (by rfl) fun K hK => ws_store hM0 rfl rfl rfl (by (repeat (first | (with_reducible exact Take.head) | apply Take.tail)); first | done | fail) (n := 3) (by rfl) (by rfl) (by kernel_rfl) (by simp [Value.oneCell']) (fun w hM => hK _ _ ?_); clear hM0 hK K)) | fail))
      go_roundw
      case rel => exact ⟨j + 1, C2, e2, D2, by omega, by omega, by go_num, hV2, hM.sel (by repeat (first | (with_reducible exact Sel.refl) | (with_reducible exact Take.head) | (with_reducible apply Take.tail) | (with_reducible apply Sel.cons) | (with_reducible apply Sel.drop)))⟩
      case measure => simp [intOf]; omega
    · obtain ⟨rs, hrs⟩ : ∃ rs, (l.take j).map mkR = rs := ⟨_, rfl⟩
      have htot := mkRs_tot (l.take j)
      have htl : (l.take j).length = j := by rw [List.length_take, HLN.out]; omega
      have hrl : rs.length = j := by rw [← hrs, List.length_map, htl]
      rw [hrs] at hV hM htot
      have HSY : Hid (∀ (L R : List SProp) (w : World), Star L w → Take (bookE B D 1 29 rs) L R → Calls Try.prog 13 #[dptr B.a] w fun r w' => ∃ D', Hid (Live 60 D' 29 1 (tot rs) rs) ∧ r = .returned (.int .i64 0) ∧ Star (bookE B D' 1 29 rs :: R) w') := fun L R w hM hx => sync_bu hV w hM hx
      have HOP : Hid (∀ (B2 : BA) (D2 : Dsk) (j2 m2 : Nat), B2.a = a0 → j2 ≤ 6 → Hid (Live 60 D2 29 (1 + j2) m2 rs) → ∀ (L R : List SProp) (w : World), Star L w → Take (bookE B2 D2 (1 + j2) 29 rs) L R → Calls Try.prog 14 #[dptr a0] w fun r w' => ∃ (B3 : BA) (D3 : Dsk) (A3 : Option Addr) (c3 : Nat), B3.a = a0 ∧ Hid (Live 60 D3 29 (1 + (j2 + 1)) (tot rs) rs) ∧ r = .returned (.tuple #[bptr B3.b, .slice A3 j c3, .int .i64 0]) ∧ Star (rowE 3 A3 j (rvs (ats (frT 29 (1 + (j2 + 1))) rs)) :: bookE B3 D3 (1 + (j2 + 1)) 29 rs :: R) w') := fun B2 D2 j2 m2 hB hj2 V L R w hN hx => by
        subst hB
        refine (reopen_u (V.out.pre (by omega)) V.out.dk.len w hN hx).mono ?_
        rintro r w' ⟨B3, D3, A3, c3, e, v, q, hM⟩
        rw [hrl] at q hM
        exact ⟨B3, D3, A3, c3, e, v, q, hM⟩
      have HTU : Hid (∀ (B3 : BA) (D3 : Dsk) (j2 : Nat) (L : List SProp) (w : World), Star L w → bookE B3 D3 (1 + (j2 + 1)) 29 rs ∈ L → Calls Try.prog 15 #[bptr B3.b] w fun r w' => r = .returned (.int .i64 ((j2 : Int) + 2)) ∧ Star L w') := fun B3 D3 j2 L w hM hx => by
        have := turn_u w hM hx
        rwa [show ((1 + (j2 + 1) : Nat) : Int) = (j2 : Int) + 2 by omega] at this
      have HTO : Hid (∀ (A3 : Option Addr) (c3 z : Nat) (L : List SProp) (w : World), Star L w → rowE 3 A3 j (rvs (ats z rs)) ∈ L → Calls Try.prog 17 #[.slice A3 j c3] w fun r w' => ∃ C4 e4, r = .returned (.slice C4 j e4) ∧ Star (rowE 2 C4 j (qvs rs) :: L) w') := fun A3 c3 z L w hM hx => by
        have := told_l (c := c3) (ats z rs) (by omega) w hM hx
        rwa [ats_fst] at this
      have HALL : Hid (∀ (L : List SProp) (w : World), Star L w → rowE 2 none 0 [] ∈ L → rowE 2 C j (qvs rs) ∈ L → Calls Try.prog 18 #[.agg #[.slice none 0 0, .slice C j e, .int .i64 29, .int .i64 1]] w fun r w' => ∃ C5 e5, r = .returned (.slice C5 j e5) ∧ Star (rowE 2 C5 j (qvs rs) :: L) w') := fun L w hM h1 h2 => by
        have := all_r (c := 0) (d := e) (h := 29) (t := 1) [] rs (by omega) (by omega) w hM h1 h2
        rw [List.nil_append, Nat.zero_add] at this
        exact this
      have HSM : Hid (∀ (C4 C5 : Option Addr) (e4 e5 : Nat) (L : List SProp) (w : World), Star L w → rowE 2 C4 j (qvs rs) ∈ L → rowE 2 C5 j (qvs rs) ∈ L → Calls Try.prog 16 #[.slice C4 j e4, .slice C5 j e5] w fun r w' => r = .returned (.bool true) ∧ Star L w') := fun C4 C5 e4 e5 L w hM h1 h2 => same_r rs (by omega) w hM h1 h2
      clear htot htl hrl hrs
      have g0 : (¬ j < n ∧ decide ((j : Int) < n) = false ∧ decide (j < n) = false) ∨ (j < n ∧ decide ((j : Int) < n) = true ∧ decide (j < n) = true ∧ ¬ j < 6 ∧ decide ((j : Int) < 6) = false ∧ decide (j < 6) = false) := by
        by_cases h : j < n
        · right
          have h6 : ¬ j < 6 := fun h6 => hgo ⟨h, h6⟩
          exact ⟨h, decide_eq_true (by omega), decide_eq_true h, h6, decide_eq_false (by omega), decide_eq_false h6⟩
        · left; exact ⟨h, decide_eq_false (by omega), decide_eq_false h⟩
      clear hgo
      rcases g0 with ⟨g1, g2, g3⟩ | ⟨g1, g2, g3, g4, g5b, g6⟩
      all_goals
        go_wp2_with (first | (first | ((with_reducible refine at_load' ?_); (refine BigFrame.wpList_want (by rfl) fun K hK => ws_load1 hM rfl rfl (by (repeat (first | assumption | (with_reducible exact mZ) | apply mS)); first | done | fail) (by first | rfl | assumption) (by decide +kernel) (hK _ _ ?_); clear hK K)) | fail) | ((with_reducible refine at_load' ?_); refine BigFrame.wpList_want (by rfl) fun K hK => ws_of_ex (ex_load1 (v := dptr B.a) (book_cells (B := B) hM (by (repeat (first | assumption | (with_reducible exact mZ) | apply mS)); first | done | fail)) rfl rfl List.mem_cons_self rfl (by kernel_rfl)) (hK _ _ ?_); clear hK K) | (go_at_call 13; have hM0 := hM; clear hM; (first | (with_reducible refine (HSY.out _ _ _ hM0 (by (repeat (first | (with_reducible exact Take.head) | apply Take.tail)); first | done | fail)).mono ?_) | fail); clear hM0; rintro _ w ⟨D1, hV1, rfl, hM⟩))
        go_loopw [78] (fun i wr => ∃ (j2 m2 : Nat) (B2 : BA) (D2 : Dsk), j2 ≤ T ∧ i = .int .i64 j2 ∧ B2.a = a0 ∧ Hid (Live 60 D2 29 (1 + j2) m2 rs) ∧ Star (bookE B2 D2 (1 + j2) 29 rs :: cellsE g5 29 (st12C a0 B.b C j e 29 1) :: rowE 2 C j (qvs rs) :: rowE 2 none 0 [] :: F) wr) (fun i _ => T - (intOf i).toNat)
        case atStart => exact ⟨0, _, B, D1, Nat.zero_le _, rfl, HA0.out, hV1, hM⟩
        case round =>
          clear hM
          obtain ⟨j2, m2, B2, D2, hj2, rfl, hB2, hV2, hM⟩ := hrel
          by_cases hlt2 : j2 < T
          · have hj26 : j2 ≤ 6 := by omega
            have HO := Lib.hid (HOP.out B2 D2 j2 m2 hB2 hj26 hV2)
            obtain ⟨jt, hjt⟩ : ∃ jt : Nat, j2 + 2 = jt := ⟨_, rfl⟩
            have hwj : IntKind.i64.wrap ((j2 : Int) + 2) = (jt : Int) := by rw [IntKind.wrap_i64]; omega
            have HTV : Hid (∀ (B3 : BA) (D3 : Dsk) (L : List SProp) (w : World), Star L w → bookE B3 D3 (1 + (j2 + 1)) 29 rs ∈ L → Calls Try.prog 15 #[bptr B3.b] w fun r w' => r = .returned (.int .i64 (jt : Int)) ∧ Star L w') := fun B3 D3 L w hM hx => by
              have := HTU.out B3 D3 j2 L w hM hx
              rwa [show (j2 : Int) + 2 = (jt : Int) by omega] at this
            clear hjt
            go_wp2_with (first | (first | ((with_reducible refine at_load' ?_); (refine BigFrame.wpList_want (by rfl) fun K hK => ws_load1 hM rfl rfl (by (repeat (first | assumption | (with_reducible exact mZ) | apply mS)); first | done | fail) (by first | rfl | assumption) (by decide +kernel) (hK _ _ ?_); clear hK K)) | fail) | (go_at_call 14; have hM0 := hM; clear hM; (first | (with_reducible refine (HO.out _ _ _ hM0 (by (repeat (first | (with_reducible exact Take.head) | apply Take.tail)); first | done | fail)).mono ?_) | fail); clear hM0; rintro _ w ⟨B3, D3, A3, c3, hB3, hV3, rfl, hM⟩))
            (refine region_RS ([bookE B3 D3 (1 + (j2 + 1)) 29 rs, cellsE g5 29 (st12C a0 B.b C j e 29 1), rowE 2 C j (qvs rs), rowE 2 none 0 [], rowE 3 A3 j (rvs (ats (frT 29 (1 + (j2 + 1))) rs))]) [] (by kernel_rfl) hM ?_; clear hM; change RS _ _ _ _ _ _ 18 (Array.replicate 18 false) _ _; refine RS_take (i := 0) rfl (by decide +kernel) (fun _ _ _ h => h) (by first | (intro x hx; (repeat (first | exact hx | apply mS)); done) | ((repeat (refine List.forall_mem_cons.2 ⟨(by (repeat (first | assumption | (with_reducible exact mZ) | apply mS)); first | done | fail), ?_⟩)); intro x hx; first | (cases hx; done) | ((repeat (first | exact hx | apply mS)); done))) (stab_pure (by rfl) (fun w => (by go_simp; try with_reducible rfl))) ?_; simp only [Act.put, List.setIfInBounds_toArray, List.set_cons_zero, List.set_cons_succ]; refine RS_take (i := 1) rfl (by decide +kernel) (fun _ _ _ h => h) (by first | (intro x hx; (repeat (first | exact hx | apply mS)); done) | ((repeat (refine List.forall_mem_cons.2 ⟨(by (repeat (first | assumption | (with_reducible exact mZ) | apply mS)); first | done | fail), ?_⟩)); intro x hx; first | (cases hx; done) | ((repeat (first | exact hx | apply mS)); done))) (stab_pure (by rfl) (fun w => (by go_simp; try with_reducible rfl))) ?_; simp only [Act.put, List.setIfInBounds_toArray, List.set_cons_zero, List.set_cons_succ]; refine RS_take (i := 2) rfl (by decide +kernel) (fun _ _ _ h => h) (by first | (intro x hx; (repeat (first | exact hx | apply mS)); done) | ((repeat (refine List.forall_mem_cons.2 ⟨(by (repeat (first | assumption | (with_reducible exact mZ) | apply mS)); first | done | fail), ?_⟩)); intro x hx; first | (cases hx; done) | ((repeat (first | exact hx | apply mS)); done))) (stab_pure (by rfl) (fun w => (by go_simp; try with_reducible rfl))) ?_; simp only [Act.put, List.setIfInBounds_toArray, List.set_cons_zero, List.set_cons_succ]; refine RS_take (i := 3) rfl (by decide +kernel) (fun _ _ _ h => h) (by first | (intro x hx; (repeat (first | exact hx | apply mS)); done) | ((repeat (refine List.forall_mem_cons.2 ⟨(by (repeat (first | assumption | (with_reducible exact mZ) | apply mS)); first | done | fail), ?_⟩)); intro x hx; first | (cases hx; done) | ((repeat (first | exact hx | apply mS)); done))) (stab_pure (by rfl) (fun w => (by go_simp; try with_reducible rfl))) ?_; simp only [Act.put, List.setIfInBounds_toArray, List.set_cons_zero, List.set_cons_succ]; refine RS_take (i := 4) rfl (by decide +kernel) (fun _ _ _ h => h) (by first | (intro x hx; (repeat (first | exact hx | apply mS)); done) | ((repeat (refine List.forall_mem_cons.2 ⟨(by (repeat (first | assumption | (with_reducible exact mZ) | apply mS)); first | done | fail), ?_⟩)); intro x hx; first | (cases hx; done) | ((repeat (first | exact hx | apply mS)); done))) (stab_call (by rfl) (fun w => (by go_simp; try with_reducible rfl)) (fun L w hL hM => (HTV.out B3 D3 _ w hM (hL _ (by (repeat (first | assumption | (with_reducible exact mZ) | apply mS)); first | done | fail))))) ?_; simp only [Act.put, List.setIfInBounds_toArray, List.set_cons_zero, List.set_cons_succ]; refine RS_take (i := 5) rfl (by decide +kernel) (fun _ _ _ h => h) (by first | (intro x hx; (repeat (first | exact hx | apply mS)); done) | ((repeat (refine List.forall_mem_cons.2 ⟨(by (repeat (first | assumption | (with_reducible exact mZ) | apply mS)); first | done | fail), ?_⟩)); intro x hx; first | (cases hx; done) | ((repeat (first | exact hx | apply mS)); done))) (stab_pure (by rfl) (fun w => (by go_simp; try with_reducible rfl))) ?_; simp only [Act.put, List.setIfInBounds_toArray, List.set_cons_zero, List.set_cons_succ]; refine RS_take (i := 6) rfl (by decide +kernel) (fun _ _ _ h => h) (by first | (intro x hx; (repeat (first | exact hx | apply mS)); done) | ((repeat (refine List.forall_mem_cons.2 ⟨(by (repeat (first | assumption | (with_reducible exact mZ) | apply mS)); first | done | fail), ?_⟩)); intro x hx; first | (cases hx; done) | ((repeat (first | exact hx | apply mS)); done))) (stab_pure (by rfl) (fun w => (by go_simp; try with_reducible rfl))) ?_; simp only [Act.put, List.setIfInBounds_toArray, List.set_cons_zero, List.set_cons_succ]; refine RS_take (i := 7) rfl (by decide +kernel) (fun _ _ _ h => h) (by first | (intro x hx; (repeat (first | exact hx | apply mS)); done) | ((repeat (refine List.forall_mem_cons.2 ⟨(by (repeat (first | assumption | (with_reducible exact mZ) | apply mS)); first | done | fail), ?_⟩)); intro x hx; first | (cases hx; done) | ((repeat (first | exact hx | apply mS)); done))) (stab_pure (by rfl) (fun w => (by go_simp; try with_reducible rfl))) ?_; simp only [Act.put, List.setIfInBounds_toArray, List.set_cons_zero, List.set_cons_succ]; refine RS_take (i := 8) rfl (by decide +kernel) (fun _ _ _ h => h) (by first | (intro x hx; (repeat (first | exact hx | apply mS)); done) | ((repeat (refine List.forall_mem_cons.2 ⟨(by (repeat (first | assumption | (with_reducible exact mZ) | apply mS)); first | done | fail), ?_⟩)); intro x hx; first | (cases hx; done) | ((repeat (first | exact hx | apply mS)); done))) (stab_pure (by rfl) (fun w => (by go_simp; try with_reducible rfl))) ?_; simp only [Act.put, List.setIfInBounds_toArray, List.set_cons_zero, List.set_cons_succ]; refine RS_take (i := 9) rfl (by decide +kernel) (fun _ _ _ h => h) (by first | (intro x hx; (repeat (first | exact hx | apply mS)); done) | ((repeat (refine List.forall_mem_cons.2 ⟨(by (repeat (first | assumption | (with_reducible exact mZ) | apply mS)); first | done | fail), ?_⟩)); intro x hx; first | (cases hx; done) | ((repeat (first | exact hx | apply mS)); done))) (stab_pure (by rfl) (fun w => (by go_simp; try with_reducible rfl))) ?_; simp only [Act.put, List.setIfInBounds_toArray, List.set_cons_zero, List.set_cons_succ]; refine RS_take (i := 10) rfl (by decide +kernel) (fun _ _ _ h => h) (by first | (intro x hx; (repeat (first | exact hx | apply mS)); done) | ((repeat (refine List.forall_mem_cons.2 ⟨(by (repeat (first | assumption | (with_reducible exact mZ) | apply mS)); first | done | fail), ?_⟩)); intro x hx; first | (cases hx; done) | ((repeat (first | exact hx | apply mS)); done))) (stab_pure (by rfl) (fun w => (by go_simp; try with_reducible rfl))) ?_; simp only [Act.put, List.setIfInBounds_toArray, List.set_cons_zero, List.set_cons_succ]; refine RS_take (i := 12) rfl (by decide +kernel) (fun _ _ _ h => h) (by first | (intro x hx; (repeat (first | exact hx | apply mS)); done) | ((repeat (refine List.forall_mem_cons.2 ⟨(by (repeat (first | assumption | (with_reducible exact mZ) | apply mS)); first | done | fail), ?_⟩)); intro x hx; first | (cases hx; done) | ((repeat (first | exact hx | apply mS)); done))) (stab_pure (by rfl) (fun w => (by go_simp; try with_reducible rfl))) ?_; simp only [Act.put, List.setIfInBounds_toArray, List.set_cons_zero, List.set_cons_succ]; refine RS_take (i := 13) rfl (by decide +kernel) (fun _ _ _ h => h) (by first | (intro x hx; (repeat (first | exact hx | apply mS)); done) | ((repeat (refine List.forall_mem_cons.2 ⟨(by (repeat (first | assumption | (with_reducible exact mZ) | apply mS)); first | done | fail), ?_⟩)); intro x hx; first | (cases hx; done) | ((repeat (first | exact hx | apply mS)); done))) (stab_read (by rfl) (fun L w hL hM => (ex_load_mid hM rfl (i := 2) rfl (t := 29) (cs := st12C a0 B.b C j e 29 1) (hL _ (by (repeat (first | assumption | (with_reducible exact mZ) | apply mS)); first | done | fail)) (bqC none 0 0 C j e 29 1).toList (fun i v hv => by rcases i with _ | _ | _ | _ | i <;> first | exact hv | simp at hv) (n := 4) rfl (by kernel_rfl)))) ?_; simp only [Act.put, List.setIfInBounds_toArray, List.set_cons_zero, List.set_cons_succ]; refine RS_one (i := 11) (by decide +kernel) rfl (by rfl) (.inl (by first | (intro x hx; (repeat (first | exact hx | apply mS)); done) | ((repeat (refine List.forall_mem_cons.2 ⟨(by (repeat (first | assumption | (with_reducible exact mZ) | apply mS)); first | done | fail), ?_⟩)); intro x hx; first | (cases hx; done) | ((repeat (first | exact hx | apply mS)); done)))) (fun w K hM0 hK => ?_); refine ws_call (by go_simp; try with_reducible rfl) (HTO.out A3 c3 _ _ w hM0 (by (repeat (first | assumption | (with_reducible exact mZ) | apply mS)); first | done | fail)) (fun r w2 hR => ?_); obtain ⟨C4, e4, rfl, hM⟩ := hR; refine ⟨_, rfl, hK _ _ _ hM ?_⟩; clear hM hM0 hK K; simp only [Act.put, List.setIfInBounds_toArray, List.set_cons_zero, List.set_cons_succ]; refine RS_one (i := 14) (by decide +kernel) rfl (by rfl) (.inl (by first | (intro x hx; (repeat (first | exact hx | apply mS)); done) | ((repeat (refine List.forall_mem_cons.2 ⟨(by (repeat (first | assumption | (with_reducible exact mZ) | apply mS)); first | done | fail), ?_⟩)); intro x hx; first | (cases hx; done) | ((repeat (first | exact hx | apply mS)); done)))) (fun w K hM0 hK => ?_); refine ws_call (by go_simp; try with_reducible rfl) (HALL.out _ w hM0 (by (repeat (first | assumption | (with_reducible exact mZ) | apply mS)); first | done | fail) (by (repeat (first | assumption | (with_reducible exact mZ) | apply mS)); first | done | fail)) (fun r w2 hR => ?_); obtain ⟨C5, e5, rfl, hM⟩ := hR; refine ⟨_, rfl, hK _ _ _ hM ?_⟩; clear hM hM0 hK K; simp only [Act.put, List.setIfInBounds_toArray, List.set_cons_zero, List.set_cons_succ]; refine RS_one (i := 15) (by decide +kernel) rfl (by rfl) (.inl (by first | (intro x hx; (repeat (first | exact hx | apply mS)); done) | ((repeat (refine List.forall_mem_cons.2 ⟨(by (repeat (first | assumption | (with_reducible exact mZ) | apply mS)); first | done | fail), ?_⟩)); intro x hx; first | (cases hx; done) | ((repeat (first | exact hx | apply mS)); done)))) (fun w K hM0 hK => ?_); refine ws_call (by go_simp; try with_reducible rfl) (HSM.out C4 C5 e4 e5 _ w hM0 (by (repeat (first | assumption | (with_reducible exact mZ) | apply mS)); first | done | fail) (by (repeat (first | assumption | (with_reducible exact mZ) | apply mS)); first | done | fail)) (fun r w2 hR => ?_); obtain ⟨rfl, hM⟩ := hR; refine ⟨_, rfl, hK _ _ _ hM ?_⟩; clear hM hM0 hK K; simp only [Act.put, List.setIfInBounds_toArray, List.set_cons_zero, List.set_cons_succ]; refine RS_take (i := 16) rfl (by decide +kernel) (fun _ _ _ h => h) (by first | (intro x hx; (repeat (first | exact hx | apply mS)); done) | ((repeat (refine List.forall_mem_cons.2 ⟨(by (repeat (first | assumption | (with_reducible exact mZ) | apply mS)); first | done | fail), ?_⟩)); intro x hx; first | (cases hx; done) | ((repeat (first | exact hx | apply mS)); done))) (stab_pure (by rfl) (fun w => (by go_simp; try with_reducible rfl))) ?_; simp only [Act.put, List.setIfInBounds_toArray, List.set_cons_zero, List.set_cons_succ]; refine RS_take (i := 17) rfl (by decide +kernel) (fun _ _ _ h => h) (by first | (intro x hx; (repeat (first | exact hx | apply mS)); done) | ((repeat (refine List.forall_mem_cons.2 ⟨(by (repeat (first | assumption | (with_reducible exact mZ) | apply mS)); first | done | fail), ?_⟩)); intro x hx; first | (cases hx; done) | ((repeat (first | exact hx | apply mS)); done))) (stab_pure (by rfl) (fun w => (by go_simp; try with_reducible rfl))) ?_; simp only [Act.put, List.setIfInBounds_toArray, List.set_cons_zero, List.set_cons_succ]; refine RS_done (by decide +kernel) (.inl (by first | (intro x hx; (repeat (first | exact hx | apply mS)); done) | ((repeat (refine List.forall_mem_cons.2 ⟨(by (repeat (first | assumption | (with_reducible exact mZ) | apply mS)); first | done | fail), ?_⟩)); intro x hx; first | (cases hx; done) | ((repeat (first | exact hx | apply mS)); done)))) (fun w hM => ?_))
            all_goals
              go_wp2_with fail
              go_roundw
              case rel => exact ⟨j2 + 1, _, B3, D3, by omega, by go_num, hB3, hV3, hM.sel (by repeat (first | (with_reducible exact Sel.refl) | (with_reducible exact Take.head) | (with_reducible apply Take.tail) | (with_reducible apply Sel.cons) | (with_reducible apply Sel.drop)))⟩
              case measure => simp [intOf]; omega
          · obtain rfl : T = j2 := by omega
            go_wp2_with fail
            go_ret
            exact ⟨rfl, hM.sel (by repeat (first | (with_reducible exact Sel.refl) | (with_reducible exact Take.head) | (with_reducible apply Take.tail) | (with_reducible apply Sel.cons) | (with_reducible apply Sel.drop)))⟩
theorem bookTurns_walk (A0 : Option Addr) (n0 c0 : Nat) (l0 : List Rq) (y0 : n0 ≤ 9223372036854775807) (z0 : ∀ x ∈ l0, QOk x) (l1 : Int) (w1 : -9223372036854775808 ≤ l1) (y1 : l1 ≤ 9223372036854775807) {F : List SProp} (w : World) (hM : Star F w) (hF : rowE 2 A0 n0 (qlvs l0) ∈ F) :
    Calls Try.prog 3 #[.slice A0 n0 c0, .int .i64 l1] w fun r w' => r = .returned (.bool true) ∧ Star F w' :=
  bookTurns_core A0 n0 c0 l0 z0 y0 l1 w1 y1 w hM hF
end Go.Proofs.Ytnckgkgilnmocaa
set_option linter.unusedSimpArgs false
set_option linter.unusedVariables false
namespace Go.Proofs.Ytnckgkgilnmocaa
open Go.RowKit Go.WideShapes Go.ChangeShapes Go.ChangeAt
theorem bookTurns_law (A0 : Option Addr) (n0 c0 : Nat) (l0 : List Rq) (y0 : n0 ≤ 9223372036854775807) (z0 : ∀ x ∈ l0, QOk x) (l1 : Int) (w1 : -9223372036854775808 ≤ l1) (y1 : l1 ≤ 9223372036854775807) (W : World) (w0 : Rd W 2 A0 n0 (qlvs l0)) :
    Calls Try.prog 3 #[.slice A0 n0 c0, .int .i64 l1] W fun r w' => r = .returned (.bool true) ∧ Ch [] W w' :=
  (bookTurns_walk A0 n0 c0 l0 y0 z0 l1 w1 y1 W ((Star.start W).of_old (by (repeat (first | assumption | (with_reducible exact mZ) | apply mS)); first | done | fail) w0) (by (repeat (first | assumption | (with_reducible exact mZ) | apply mS)); first | done | fail)).mono fun _ _ ⟨h1, h2⟩ => ⟨h1, h2.old (by (repeat (first | assumption | (with_reducible exact mZ) | apply mS)); first | done | fail)⟩
theorem bookTurns_own : ownKnob Try.prog.godebug = none := by kernel_rfl
set_option maxRecDepth 100000 in
theorem bookTurns_lifted (os : Os) (started : os.Started) (H : Type) (enc : TypeId × Value → H) :
    ReturnsInHanded {} Try.checked os 3 .any (Rows.bookTurnsSpec.pre6 enc Try.prog Try.f3 Rows.bookTurnsRow.domain false) (Rows.bookTurnsSpec.post enc Try.prog Try.f3 false true false false) := by
  refine returnsInHanded_of_change (C := Try.checked) bookTurns_own started (by kernel_rfl) Try.func3
    (ChangeSpec.witness6 (enc := enc) (C := Try.checked) false ⟨#[], #[.slice none 0 0, .int .i64 0], []⟩ 8 (by kernel_rfl) (by kernel_rfl) (by kernel_rfl) (by kernel_rfl)) ?_
  intro W base args ds gs before hval0 hW hcnd _
  have hval : ∀ (j : Nat) t v, Try.f3.params[j]? = some t → args[j]? = some v → Value.okWide Try.prog W .any base t v := hval0
  have hW' := hW
  obtain ⟨p, q, hA0, hV, rfl, hfz, hnd⟩ := hW
  have hA : DataW.TrodAll enc Try.prog W 0 (fun _ => true) true Try.f3.params.toList args.toList ds p := hA0
  have hA1 := hA
  rw [Try.params3] at hA hval
  obtain ⟨v0, vs0, d0, ds0, p0, q0, hargs, rfl, rfl, h0, r0⟩ := trodAll_cons hA
  obtain ⟨v1, vs1, d1, ds1, p1, q1, rfl, rfl, rfl, h1, r1⟩ := trodAll_cons r0
  obtain ⟨rfl, rfl, rfl⟩ := trodAll_nil r1
  obtain rfl : args = #[v0, v1] := by cases args; simp_all
  obtain ⟨rfl, rfl⟩ := trodVars_none hV
  obtain ⟨A0, n0, c0, l0, rfl, w0, y0, z0⟩ := open_actQ (hval 0 22 v0 rfl rfl) h0
  obtain ⟨l1, rfl, w1, y1⟩ := open_i64 Try.underlying3 (hval 1 3 v1 rfl rfl) h1
  clear hA0 hval0
  refine (bookTurns_law A0 n0 c0 l0 y0 z0 l1 w1 y1 W w0).mono fun e W' ⟨he, hg⟩ => ?_
  subst he
  have hlt := fun x hx => hW'.lt x hx
  exact ⟨_, rfl, post_of_below hW' (fun _ _ _ => (trodAll_cons_mk (shut_bool Try.underlying4 _) trodAll_mk0))
    (fun sp hsp => args_stay (by kernel_rfl) hg.below sp _ _ _ _ (by kernel_rfl) hA1 (fun x hx => hlt x (List.mem_append.2 (.inl hx))) (fun x hx => hsp x (List.mem_append.2 (.inl hx)))) (fun _ _ => rfl) rfl
    hg.below (ok_one (by kernel_rfl) rfl (okWide_bool_mk Try.underlying4 _))⟩
theorem bookTurns_over : Rows.bookTurnsRow.holds Try.pinned (OpenSpec.ofChange Rows.bookTurnsSpec) :=
  OpenClaim.holds_of_wide 3 Try.f3 rfl rfl rfl rfl rfl rfl rfl ⟨rfl, rfl, rfl, rfl, rfl⟩ rfl rfl rfl rfl rfl (by kernel_rfl) Try.func3 (by kernel_rfl)
    (of_decide_eq_true (by kernel_rfl)) (by unfold Func.isWrapper; first | (rw [if_pos (by decide +kernel)]; kernel_rfl) | (rw [if_neg (by decide +kernel)]; exact ⟨rfl, rfl⟩))
    (fun os started H enc _ => bookTurns_lifted os started H enc)
/-- THE STATEMENT -/
theorem bookTurns_holds : Rows.BookTurnsSaid := bookTurns_over
end Go.Proofs.Ytnckgkgilnmocaa
