/- The statement DepotLacks, from its walk. No condition but those that each theorem names. -/
import Derived.Test.YtnckgkgilnmocaaDep1
import Derived.Test.YtnckgkgilnmocaaDep16
import Derived.Test.YtnckgkgilnmocaaDep8
import Derived.Deep.CutBlock
import Derived.Deep.DeepCutAuto
set_option linter.unusedSimpArgs false
set_option linter.unusedVariables false
namespace Go.Proofs.Ytnckgkgilnmocaa
open Go.RowKit
attribute [local go_sem] extract_mid extract_drop bget bsize wrap64_u8 i64_u8 u64_u8 bappend
/-- Names asked for. -/
def askN (x : Tx) : Tx := onm 1 (cut150 x)
theorem askN_32 (l : List Tx) : ∀ x ∈ l.map askN, x.length = 32 := fun x hx => by
  obtain ⟨y, -, rfl⟩ := List.mem_map.1 hx
  exact onm_len _ _
theorem lackL_ne (ns : List Tx) : ∀ (xs out : List Tx), out ≠ [] → xs.foldl (lackS ns) out ≠ [] := by
  intro xs
  induction xs with
  | nil => intro out h; exact h
  | cons x l ih =>
    intro out h
    refine ih (lackS ns out x) ?_
    unfold lackS
    split
    · exact h
    · simp
theorem lackL_all (ns : List Tx) (xs : List Tx) : (xs.all fun x => decide (x ∈ ns)) = decide ((lackL ns xs).length = 0) := by
  unfold lackL
  induction xs with
  | nil => simp
  | cons x l ih =>
    by_cases hx : x ∈ ns
    · rw [List.all_cons, decide_eq_true hx, Bool.true_and, ih, List.foldl_cons, show lackS ns [] x = [] from if_pos (.inl hx)]
    · rw [List.all_cons, decide_eq_false hx, Bool.false_and, List.foldl_cons, show lackS ns [] x = [x] from if_neg (by simp [hx])]
      have := lackL_ne ns l [x] (by simp)
      symm
      rw [decide_eq_false_iff_not]
      intro h
      exact this (List.length_eq_zero_iff.1 h)
theorem and3D (n : Int) : bits .and .i64 n 3 = n % 4 := and_i64B n 2 (by decide)
theorem kindL (l : Int) : ∃ v k : Nat, v ≤ 3 ∧ bits .and .i64 l 3 = (v : Int) ∧ (4 : Int) + (v : Int) = (k : Int) ∧ Hid (((k : Int) = 4 ∨ (k : Int) = 5 ∨ (k : Int) = 6 ∨ (k : Int) = 7) ∧ (k : Int) = (UInt8.ofNat k).toNat) := by
  have h4 : l % 4 = 0 ∨ l % 4 = 1 ∨ l % 4 = 2 ∨ l % 4 = 3 := by omega
  have ha := and3D l
  rcases h4 with h | h | h | h <;> rw [h] at ha
  · exact ⟨0, 4, by decide, ha, rfl, by decide, rfl⟩
  · exact ⟨1, 5, by decide, ha, rfl, by decide, rfl⟩
  · exact ⟨2, 6, by decide, ha, rfl, by decide, rfl⟩
  · exact ⟨3, 7, by decide, ha, rfl, by decide, rfl⟩
theorem mkz {g : Nat} {t : TypeId} {z : List UInt8} {L : List SProp} {w : World} (hz : Hid ((List.replicate 4096 (Value.int .u8 0)).toArray.toList = bvs z)) (h : Star (cellsE g t (List.replicate 4096 (Value.int .u8 0)).toArray :: L) w) : Star (rowE 1 (some ⟨g, 0, none⟩) 4096 (bvs z) :: L) w := by
  have h1 := h.row_of_blk (n := 4096) (size := 1) (by rw [List.size_toArray, List.length_replicate])
  rwa [hz.out] at h1
section
variable {F L R : List SProp}
set_option maxRecDepth 100000 in
set_option maxHeartbeats 32000000 in
theorem depotLacks_walk (A : Option Addr) (n c : Nat) (l : List (List UInt8)) (y : n ≤ 9223372036854775807) (z : ∀ x ∈ l, x.length ≤ 9223372036854775807) (A1 : Option Addr) (n1 c1 : Nat) (l1 : List (List UInt8)) (y1 : n1 ≤ 9223372036854775807) (z1 : ∀ x ∈ l1, x.length ≤ 9223372036854775807) (l2 : Int) (_w2 : -9223372036854775808 ≤ l2) (_y2 : l2 ≤ 9223372036854775807) (w : World) (hM : Star F w) (h0 : rowE 1 A n (svs l) ∈ F) (h1 : rowE 1 A1 n1 (svs l1) ∈ F) :
    Calls Try.prog 7 #[.slice A n c, .slice A1 n1 c1, .int .i64 l2] w fun r w' => r = .returned (.bool true) ∧ Star F w' := by
  have HAW : Hid (∀ (L : List SProp) (w : World), Star L w → Calls Try.prog 24 #[] w fun r w' => r = .returned (.bool true) ∧ Star L w') := fun L w hM => awake13 w hM
  have HNEW : Hid (∀ (L : List SProp) (w : World), Star L w → Calls Try.prog 25 #[.int .i64 120] w fun r w' => ∃ (B : BA) (d gm : Nat) (D : Dsk), Hid (Live 120 D 59 1 0 []) ∧ r = .returned (.tuple #[dptr B.a, bptr d]) ∧ Star (dpE B d gm D 59 [] :: L) w') := fun L w hM => new_13 120 59 (by omega) (by omega) (by omega) w hM
  have HMK : Hid (∀ (L : List SProp) (w : World), Star L w → rowE 1 A n (svs l) ∈ L → Calls Try.prog 26 #[.agg (actC A n c)] w fun r w' => ∃ C e, r = .returned (.slice C (mts l).length e) ∧ Star (rowE 34 C (mts l).length (ovs (obL (mts l))) :: L) w') := fun L w hM hr => made_d l w hM hr
  have hx := mts_150 l
  have hm := mts_len l
  generalize mts l = xs at HMK hx hm
  obtain ⟨us, hus⟩ : ∃ us, us = putL [] xs := ⟨_, rfl⟩
  have hul : us.length ≤ 5 := by have := putL_len [] xs; rw [hus]; simp only [List.length_nil] at this; omega
  have HP1 : Hid (∀ (B : BA) (d gm : Nat) (D : Dsk), Hid (Live 120 D 59 1 0 []) → ∀ (C : Option Addr) (e : Nat) (L R : List SProp) (w : World), Star L w → Take (dpE B d gm D 59 []) L R → rowE 34 C xs.length (ovs (obL xs)) ∈ R → Calls Try.prog 28 #[bptr d, .slice C xs.length e] w fun r w' => ∃ D', Hid (Live 120 D' 59 1 0 (recs us)) ∧ r = .returned (.int .i64 0) ∧ Star (dpE B d gm D' 59 us :: R) w') := fun B d gm D V C e L R w hM hd hr => by
    have := put_d (c := e) (ts := []) V hx (by omega) (by rw [show tot (recs []) = 0 from rfl]; omega) w hM hd hr
    rwa [← hus] at this
  have HLI : Hid (∀ (B : BA) (d gm : Nat) (D : Dsk) (L R : List SProp) (w : World), Star L w → Take (dpE B d gm D 59 us) L R → Calls Try.prog 29 #[bptr d] w fun r w' => ∃ A c, r = .returned (.slice A us.length c) ∧ Star (dpE B d gm D 59 us :: R) w') := fun B d gm D L R w hM hd => by
    refine (list_u (by omega) w hM hd).mono ?_
    rintro r w' ⟨A, c, xs, -, e, hM⟩
    exact ⟨A, c, e, hM.sel (.drop .refl)⟩
  obtain ⟨ns, hns⟩ : ∃ ns, ns = us.map (onm 1) := ⟨_, rfl⟩
  have HHA : Hid (∀ (x : List UInt8) (hx : x.length = 32) (B : BA) (d gm g : Nat) (D : Dsk) (L R : List SProp) (w : World), Star L w → Take (dpE B d gm D 59 us) L R → rowE 32 (some ⟨g, 0, none⟩) 1 (idvs [x]) ∈ R → Calls Try.prog 33 #[bptr d, .slice (some ⟨g, 0, none⟩) 1 1] w fun r w' => r = .returned (.bool (decide (x ∈ ns))) ∧ Star (dpE B d gm D 59 us :: R) w') := fun x hx B d gm g D L R w hM hd hr => by
    refine (has_u (xs := [x]) (fun y hy => by rw [List.mem_singleton.1 hy]; exact hx) (by omega) w hM hd hr).mono ?_
    rintro r w' ⟨rfl, hM⟩
    refine ⟨?_, hM⟩
    simp only [List.all_cons, List.all_nil, Bool.and_true, hns]
  have HHB : Hid (∀ (ids : List (List UInt8)) (h32 : ∀ x ∈ ids, x.length = 32) (B : BA) (d gm : Nat) (D : Dsk) (O : Option Addr) (q oc : Nat) (hq : q ≤ 8) (L R : List SProp) (w : World), Star L w → Take (dpE B d gm D 59 us) L R → rowE 32 O q (idvs ids) ∈ R → Calls Try.prog 33 #[bptr d, .slice O q oc] w fun r w' => r = .returned (.bool (decide ((lackL ns ids).length = 0))) ∧ Star (dpE B d gm D 59 us :: R) w') := fun ids h32 B d gm D O q oc hq L R w hM hd hr => by
    refine (has_u (xs := ids) h32 (by omega) w hM hd hr).mono ?_
    rintro r w' ⟨rfl, hM⟩
    exact ⟨by rw [← lackL_all, hns], hM⟩
  have HLK : Hid (∀ (ids : List (List UInt8)) (h32 : ∀ x ∈ ids, x.length = 32) (B : BA) (d gm : Nat) (D : Dsk) (O : Option Addr) (q oc : Nat) (hq : q ≤ 8) (L R : List SProp) (w : World), Star L w → Take (dpE B d gm D 59 us) L R → rowE 32 O q (idvs ids) ∈ R → Calls Try.prog 34 #[bptr d, .slice O q oc] w fun r w' => ∃ P pc, r = .returned (.slice P (lackL ns ids).length pc) ∧ Star (rowE 32 P (lackL ns ids).length (idvs (lackL ns ids)) :: dpE B d gm D 59 us :: R) w') := fun ids h32 B d gm D O q oc hq L R w hM hd hr => by
    have := lacks_u (c := oc) h32 (by omega) w hM hd hr
    rwa [← hns] at this
  have HXL := Lib.hid (svs_row (hM.row h1))
  obtain ⟨m, hmm⟩ : ∃ m, xs.length = m := ⟨_, rfl⟩
  rw [hmm] at HMK HP1 hm
  obtain ⟨ul, hul2⟩ : ∃ ul, us.length = ul := ⟨_, rfl⟩
  rw [hul2] at HLI hul
  clear hx hus hns hmm hul2 z y z1 y1
  have tok1 : True := trivial
  have tok2 : True := trivial
  go_enter Try.func7, Try.ntmps7
  go_upto_block 0 with (first | (go_at_call 24; have hM0 := hM; clear hM; (first | (with_reducible refine (HAW.out _ _ hM0).mono ?_) | fail); clear hM0; rintro _ w ⟨rfl, hM⟩) | (go_at_call 25; have hM0 := hM; clear hM; (first | (with_reducible refine (HNEW.out _ _ hM0).mono ?_) | fail); clear hM0; rintro _ w ⟨B, d, gm, D0, h0', rfl, hM⟩) | (go_at_call 26; have hM0 := hM; clear hM; (first | (with_reducible refine (HMK.out _ _ hM0 (by (repeat (first | assumption | (with_reducible exact mZ) | apply mS)); first | done | fail)).mono ?_) | fail); clear hM0; rintro _ w ⟨C, e, rfl, hM⟩) | (go_at_call 28; have hM0 := hM; clear hM; (first | (with_reducible refine (HP1.out B d gm D0 h0' C e _ _ _ hM0 (by (repeat (first | (with_reducible exact Take.head) | apply Take.tail)); first | done | fail) (by (repeat (first | assumption | (with_reducible exact mZ) | apply mS)); first | done | fail)).mono ?_) | fail); clear hM0; rintro _ w ⟨D1, h1', rfl, hM⟩) | (have _t := tok1; (first | ((with_reducible refine at_slice' ?_); (have hM0 := hM; clear hM; refine BigFrame.wpList_want (by rfl) fun K hK => ws_slice_own hM0 (n := 0) rfl 73 32 (.agg (bvs z32).toArray) [] Try.underlying76 (by kernel_rfl) rfl (by simp [Value.cells, iv, sv, bv]) (by rfl) (by decide) (by decide) (cs := idvs []) (by rfl) (fun g9 w hM => hK _ _ ?_); clear hM0 hK K)) | fail); clear tok1) | (have _t := tok2; (first | ((with_reducible refine at_slice' ?_); (have hM0 := hM; clear hM; refine BigFrame.wpList_want (by rfl) fun K hK => ws_slice_own hM0 (n := 0) rfl 73 32 (.agg (bvs z32).toArray) [] Try.underlying76 (by kernel_rfl) rfl (by simp [Value.cells, iv, sv, bv]) (by rfl) (by decide) (by decide) (cs := idvs []) (by rfl) (fun g10 w hM => hK _ _ ?_); clear hM0 hK K)) | fail); clear tok2))
  replace hM := hM.sel (R := ownE idT 32 (some ⟨g9, 0, none⟩) 0 0 (idvs []) :: ownE idT 32 (some ⟨g10, 0, none⟩) 0 0 (idvs []) :: dpE B d gm D1 59 us :: F) (by repeat (first | (with_reducible exact Sel.refl) | (with_reducible exact Take.head) | (with_reducible apply Take.tail) | (with_reducible apply Sel.cons) | (with_reducible apply Sel.drop)))
  clear HP1 HMK HNEW HAW h0'
  go_cut [9, 10] (fun s v wx => ∃ (q m2 : Nat) (P Q : Option Addr) (pc qc : Nat) (ids W : List (List UInt8)), q ≤ 8 ∧ m2 ≤ 8 ∧ s = .slice P q pc ∧ v = .slice Q m2 qc ∧ Hid (∀ x ∈ ids, x.length = 32) ∧ Hid (lackL ns ids = W) ∧ Hid (W.length = m2) ∧ Star (ownE idT 32 P q pc (idvs ids) :: ownE idT 32 Q m2 qc (idvs W) :: dpE B d gm D1 59 us :: F) wx)
  case first =>
    go_wp2_with fail
    go_loopw [11, 9, 10] (fun i s v wr => ∃ (k m2 : Nat) (P Q : Option Addr) (pc qc : Nat), k ≤ n1 ∧ k ≤ 8 ∧ m2 ≤ k ∧ Hid ((lackL ns ((l1.take k).map askN)).length = m2) ∧ i = .int .i64 k ∧ s = .slice P k pc ∧ v = .slice Q m2 qc ∧ Star (ownE idT 32 P k pc (idvs ((l1.take k).map askN)) :: ownE idT 32 Q m2 qc (idvs (lackL ns ((l1.take k).map askN))) :: dpE B d gm D1 59 us :: F) wr) (fun i _ _ _ => n1 - (intOf i).toNat)
    case atStart => exact ⟨0, 0, _, _, 0, 0, Nat.zero_le _, Nat.zero_le _, Nat.le_refl _, rfl, rfl, rfl, rfl, hM⟩
    case round =>
      clear hM
      obtain ⟨k, m2, P, Q, pc, qc, hk, hk8, hm2, hml, rfl, rfl, rfl, hM⟩ := hrel
      by_cases hgo : k < n1 ∧ k < 8
      · obtain ⟨hlt, hk7⟩ := hgo
        obtain ⟨ad, d0, rfl, hv, hg, ht⟩ := hM.elemS (A := A1) (n := n1) (l := l1) (by (repeat (first | assumption | (with_reducible exact mZ) | apply mS)); first | done | fail) hlt
        have HT : Hid ((l1.take (k + 1)).map askN = (l1.take k).map askN ++ [askN d0]) := by show _ = _; rw [ht, List.map_append]; rfl
        have HC : Hid (∀ (L : List SProp) (w : World), Star L w → Calls Try.prog 32 #[.string ⟨d0.toArray⟩, .int .i64 150] w fun r w' => r = .returned (.string ⟨(cut150 d0).toArray⟩) ∧ Star L w') := fun L w hM => (cut_any d0 150 (by omega) w).mono fun r w' ⟨e, h⟩ => ⟨e, h ▸ hM⟩
        have hel := cut150_len d0
        have HAK : Hid (askN d0 = onm 1 (cut150 d0)) := rfl
        generalize cut150 d0 = tx at HC hel HAK
        have HO : Hid (∀ (L : List SProp) (g : Nat) (w : World), Star L w → rowE 1 (some ⟨g, 0, none⟩) 1 (svs [tx]) ∈ L → Calls Try.prog 31 #[.int .i64 1, .slice (some ⟨g, 0, none⟩) 1 1] w fun r w' => r = .returned (.agg (bvs (onm 1 tx)).toArray) ∧ Star L w') := fun L g w hM hx2 => by
          have := oof_star 1 [tx] (some ⟨g, 0, none⟩) 1 1 (by simpa using (by omega : tx.length ≤ 1000000)) (by omega) w hM hx2
          rwa [cat_one] at this
        have hil := onm_len 1 tx
        rw [HAK.out] at HT
        generalize onm 1 tx = id at HT HO hil
        have HX := Lib.hid hil
        have HHAS := Lib.hid (HHA.out id hil)
        have hos : ∀ y ∈ lackL ns ((l1.take k).map askN), y.length = 32 := fun y hy => by
          rcases lackL_sub ns _ _ y hy with h | h
          · cases h
          · exact askN_32 _ y h
        have HT2 : Hid (lackL ns ((l1.take k).map askN ++ [id]) = lackS ns (lackL ns ((l1.take k).map askN)) id) := lackL_snoc ns _ id
        generalize (l1.take k).map askN = ids at hM HT hml hos HT2
        generalize lackL ns ids = W at hM hml hos HT2
        have HOS := Lib.hid hos
        have tok1 : True := trivial
        clear ht hg hil hos
        go_wp2_with (first | (first | ((with_reducible refine at_load' ?_); (refine BigFrame.wpList_want (by rfl) fun K hK => ws_rowload rfl rfl (by first | (apply Star.row hM; (repeat (first | assumption | (with_reducible exact mZ) | apply mS)); done) | (apply Star.own hM; (repeat (first | assumption | (with_reducible exact mZ) | apply mS)); done) | (apply Star.arr hM; (focus ((repeat (first | assumption | (with_reducible exact mZ) | apply mS)); done)); assumption)) (by assumption) (by kernel_rfl) (hK _ _ ?_); clear hK K)) | fail) | (go_at_call 32; have hM0 := hM; clear hM; (first | (with_reducible refine (HC.out _ _ hM0).mono ?_) | fail); clear hM0; rintro _ w ⟨rfl, hM⟩) | (first | ((with_reducible refine at_slice' ?_); (have hM0 := hM; clear hM; refine BigFrame.wpList_want (by rfl) fun K hK => ws_slice_row hM0 (n := 1) rfl 9 1 (.string ByteArray.empty) [sv tx] Try.underlying59 (by kernel_rfl) rfl (by simp [Value.cells, iv, sv, bv]) (by rfl) (by decide) (cs := svs [tx]) (by rfl) (fun g56 w hM => hK _ _ ?_); clear hM0 hK K)) | fail) | (go_at_call 31; have hM0 := hM; clear hM; (first | (with_reducible refine (HO.out _ g56 _ hM0 (by (repeat (first | assumption | (with_reducible exact mZ) | apply mS)); first | done | fail)).mono ?_) | fail); clear hM0; rintro _ w ⟨rfl, hM⟩) | (first | ((with_reducible refine at_alloc' ?_); (have hM0 := hM; clear hM; refine BigFrame.wpList_want (by rfl) fun K hK => ws_alloc hM0 (t := 73) rfl (bvs z32).toArray info_idB (fun g12 w hM => hK _ _ ?_); clear hM0 hK K)) | fail) | (first | ((with_reducible refine at_store' ?_); (have hM0 := hM; clear hM; refine BigFrame.wpList_want (by rfl) fun K hK => ws_store hM0 rfl rfl rfl (by (repeat (first | (with_reducible exact Take.head) | apply Take.tail)); first | done | fail) (n := 32) (by (show (bvs id).toArray.size = 32; simp [bvs_len, HX.out])) (by simp [bvs_len, z32_len]) (by kernel_rfl) (by (show ∀ v ∈ (bvs id).toArray.toList, v.oneCell' = true; simpa using bvs_oneCell id)) (fun w hM => hK _ _ ?_); clear hM0 hK K)) | fail) | ((with_reducible refine at_load' ?_); refine BigFrame.wpList_want (by rfl) fun K hK => ws_load hM rfl rfl (by (repeat (first | assumption | (with_reducible exact mZ) | apply mS)); first | done | fail) (n := 32) (by show (bvs id).toArray.size = 32; simp [bvs_len, HX.out]) (by decide +kernel) (hK _ _ ?_); clear hK K) | (first | ((with_reducible refine at_slice' ?_); (have hM0 := hM; clear hM; refine BigFrame.wpList_want (by rfl) fun K hK => ws_slice_row hM0 (n := 1) rfl 73 32 (.agg (bvs z32).toArray) [.agg (bvs id).toArray] Try.underlying76 (by kernel_rfl) rfl (by simp [Value.cells, iv, sv, bv, bvs_len, HX.out]) (by rfl) (by decide) (cs := idvs [id]) (by rfl) (fun g60 w hM => hK _ _ ?_); clear hM0 hK K)) | fail) | (have _t := tok1; (first | ((with_reducible refine at_call' ?_); (have hM0 := hM; clear hM; refine BigFrame.wpList_want (by rfl) fun K hK => ws_append hM0 rfl rfl rfl 73 ((.agg (bvs z32).toArray)) 32 32 Try.underlying76 (by kernel_rfl) (by simp [Value.cells, bvs_len, z32_len]) (by decide) (by (repeat (first | (with_reducible exact Take.head) | apply Take.tail)); first | done | fail) (by first | (apply Star.row hM0; (repeat (first | assumption | (with_reducible exact mZ) | apply mS)); done) | (apply Star.own hM0; (repeat (first | assumption | (with_reducible exact mZ) | apply mS)); done) | (apply Star.arr hM0; (focus ((repeat (first | assumption | (with_reducible exact mZ) | apply mS)); done)); assumption)) (idvs_one [id]) ((by omega)) (fun A3 c3 w hM hnil => hK _ _ ?_); clear hM0 hK K)) | fail); simp only [Act.put, List.setIfInBounds_toArray, List.set_cons_zero, List.set_cons_succ]; clear tok1) | (go_at_call 33; have hM0 := hM; clear hM; (first | (with_reducible refine (HHAS.out B d gm g60 D1 _ _ _ hM0 (by (repeat (first | (with_reducible exact Take.head) | apply Take.tail)); first | done | fail) (by (repeat (first | assumption | (with_reducible exact mZ) | apply mS)); first | done | fail)).mono ?_) | fail); clear hM0; rintro _ w ⟨rfl, hM⟩))
        replace hM : Star (ownE idT 32 A3 (k + 1) c3 (idvs (ids ++ [id])) :: ownE idT 32 Q m2 qc (idvs W) :: cellsE g12 idT (bvs id).toArray :: dpE B d gm D1 59 us :: F) w := by rw [idvs_app]; exact hM.sel (by repeat (first | (with_reducible exact Sel.refl) | (with_reducible exact Take.head) | (with_reducible apply Take.tail) | (with_reducible apply Sel.cons) | (with_reducible apply Sel.drop)))
        clear HC HO HHAS
        go_loopw [68, 13] (fun i s wr => ∃ (j : Nat) (b : Bool), j ≤ m2 ∧ i = .int .i64 j ∧ s = .bool b ∧ Hid (b = (decide (id ∈ ns) || decide (id ∈ W.take j))) ∧ Star (ownE idT 32 A3 (k + 1) c3 (idvs (ids ++ [id])) :: ownE idT 32 Q m2 qc (idvs W) :: cellsE g12 idT (bvs id).toArray :: dpE B d gm D1 59 us :: F) wr) (fun i _ _ => m2 - (intOf i).toNat)
        case atStart => exact ⟨0, _, Nat.zero_le _, rfl, rfl, (by show _ = _; simp), hM⟩
        case round =>
          clear hM
          obtain ⟨j, b, hj, rfl, rfl, hb, hM⟩ := hrel
          by_cases hjl : j < m2
          · obtain ⟨ad2, x, rfl, hc, hgx, hta⟩ := Rd.elems (f := bvs) (hM.own (A := Q) (n := m2) (xs := idvs W) (by (repeat (first | assumption | (with_reducible exact mZ) | apply mS)); first | done | fail)) (fun x hx => by rw [bvs_len, HOS.out x hx]) (by omega) hjl
            have hyl := HOS.out x (List.mem_of_getElem? hgx)
            have HY := Lib.hid hyl
            have HTA := Lib.hid hta
            clear hgx hta
            rcases b with _ | _
            · by_cases hxi : x = id
              · subst hxi
                have heq : ∀ w, (Op.equalIn 10000 73 (.agg (bvs x).toArray) (.agg (bvs x).toArray)).run Try.prog w = .ok true w := fun w => by
                  have h := run_eql_bytes (P := Try.prog) w 73 5 32 Try.underlying73 Try.underlying5 (by kernel_rfl) x x HY.out HY.out 9998
                  rw [decide_eq_true rfl] at h
                  exact h
                clear hyl
                go_wp2_with (first | ((with_reducible refine at_load' ?_); refine wpList_plain rfl fun K hK => ws_load_at rfl rfl (bvs x) hc (n := 32) (by rw [bvs_len]; exact HY.out) (by kernel_rfl) (hK _ _ ?_); clear hK K) | (first | ((with_reducible refine at_alloc' ?_); (have hM0 := hM; clear hM; refine BigFrame.wpList_want (by rfl) fun K hK => ws_alloc hM0 (t := 73) rfl (bvs z32).toArray info_idB (fun g15 w hM => hK _ _ ?_); clear hM0 hK K)) | fail) | (first | ((with_reducible refine at_store' ?_); (have hM0 := hM; clear hM; refine BigFrame.wpList_want (by rfl) fun K hK => ws_store hM0 rfl rfl rfl (by (repeat (first | (with_reducible exact Take.head) | apply Take.tail)); first | done | fail) (n := 32) (by (show (bvs x).toArray.size = 32; simp [bvs_len, HY.out])) (by simp [bvs_len, z32_len]) (by kernel_rfl) (by (show ∀ v ∈ (bvs x).toArray.toList, v.oneCell' = true; simpa using bvs_oneCell x)) (fun w hM => hK _ _ ?_); clear hM0 hK K)) | fail) | ((with_reducible refine at_load' ?_); refine BigFrame.wpList_want (by rfl) fun K hK => ws_load hM rfl rfl (by (repeat (first | assumption | (with_reducible exact mZ) | apply mS)); first | done | fail) (n := 32) (by show (bvs x).toArray.size = 32; simp [bvs_len, HY.out]) (by decide +kernel) (hK _ _ ?_); clear hK K))
                go_roundw
                case rel => exact ⟨j + 1, true, by omega, by go_num, rfl, (by show _ = _; rw [HTA.out]; simp), hM.sel (by repeat (first | (with_reducible exact Sel.refl) | (with_reducible exact Take.head) | (with_reducible apply Take.tail) | (with_reducible apply Sel.cons) | (with_reducible apply Sel.drop)))⟩
                case measure => simp [intOf]; omega
              · have heq : ∀ w, (Op.equalIn 10000 73 (.agg (bvs x).toArray) (.agg (bvs id).toArray)).run Try.prog w = .ok false w := fun w => by
                  have h := run_eql_bytes (P := Try.prog) w 73 5 32 Try.underlying73 Try.underlying5 (by kernel_rfl) x id HY.out HX.out 9998
                  rw [decide_eq_false hxi] at h
                  exact h
                have HB2 : Hid (false = (decide (id ∈ ns) || decide (id ∈ W.take (j + 1)))) := by
                  show _ = _
                  have h1 := hb.out
                  rw [HTA.out]
                  simp only [List.mem_append, List.mem_singleton, Ne.symm hxi, or_false]
                  exact h1
                clear hyl hxi
                go_wp2_with (first | ((with_reducible refine at_load' ?_); refine wpList_plain rfl fun K hK => ws_load_at rfl rfl (bvs x) hc (n := 32) (by rw [bvs_len]; exact HY.out) (by kernel_rfl) (hK _ _ ?_); clear hK K) | (first | ((with_reducible refine at_alloc' ?_); (have hM0 := hM; clear hM; refine BigFrame.wpList_want (by rfl) fun K hK => ws_alloc hM0 (t := 73) rfl (bvs z32).toArray info_idB (fun g15 w hM => hK _ _ ?_); clear hM0 hK K)) | fail) | (first | ((with_reducible refine at_store' ?_); (have hM0 := hM; clear hM; refine BigFrame.wpList_want (by rfl) fun K hK => ws_store hM0 rfl rfl rfl (by (repeat (first | (with_reducible exact Take.head) | apply Take.tail)); first | done | fail) (n := 32) (by (show (bvs x).toArray.size = 32; simp [bvs_len, HY.out])) (by simp [bvs_len, z32_len]) (by kernel_rfl) (by (show ∀ v ∈ (bvs x).toArray.toList, v.oneCell' = true; simpa using bvs_oneCell x)) (fun w hM => hK _ _ ?_); clear hM0 hK K)) | fail) | ((with_reducible refine at_load' ?_); refine BigFrame.wpList_want (by rfl) fun K hK => ws_load hM rfl rfl (by (repeat (first | assumption | (with_reducible exact mZ) | apply mS)); first | done | fail) (n := 32) (by show (bvs x).toArray.size = 32; simp [bvs_len, HY.out]) (by decide +kernel) (hK _ _ ?_); clear hK K) | ((with_reducible refine at_load' ?_); refine BigFrame.wpList_want (by rfl) fun K hK => ws_load hM rfl rfl (by (repeat (first | assumption | (with_reducible exact mZ) | apply mS)); first | done | fail) (n := 32) (by show (bvs id).toArray.size = 32; simp [bvs_len, HX.out]) (by decide +kernel) (hK _ _ ?_); clear hK K))
                go_roundw
                case rel => exact ⟨j + 1, false, by omega, by go_num, rfl, HB2, hM.sel (by repeat (first | (with_reducible exact Sel.refl) | (with_reducible exact Take.head) | (with_reducible apply Take.tail) | (with_reducible apply Sel.cons) | (with_reducible apply Sel.drop)))⟩
                case measure => simp [intOf]; omega
            · have HB2 : Hid (true = (decide (id ∈ ns) || decide (id ∈ W.take (j + 1)))) := by
                show _ = _
                have h1 := hb.out
                rw [HTA.out]
                rcases Bool.or_eq_true_iff.1 h1.symm with h | h
                · rw [h]; rfl
                · rw [decide_eq_true (List.mem_append_left _ (of_decide_eq_true h)), Bool.or_true]
              clear hyl
              go_wp2_with (first | ((with_reducible refine at_load' ?_); refine wpList_plain rfl fun K hK => ws_load_at rfl rfl (bvs x) hc (n := 32) (by rw [bvs_len]; exact HY.out) (by kernel_rfl) (hK _ _ ?_); clear hK K) | (first | ((with_reducible refine at_alloc' ?_); (have hM0 := hM; clear hM; refine BigFrame.wpList_want (by rfl) fun K hK => ws_alloc hM0 (t := 73) rfl (bvs z32).toArray info_idB (fun g15 w hM => hK _ _ ?_); clear hM0 hK K)) | fail) | (first | ((with_reducible refine at_store' ?_); (have hM0 := hM; clear hM; refine BigFrame.wpList_want (by rfl) fun K hK => ws_store hM0 rfl rfl rfl (by (repeat (first | (with_reducible exact Take.head) | apply Take.tail)); first | done | fail) (n := 32) (by (show (bvs x).toArray.size = 32; simp [bvs_len, HY.out])) (by simp [bvs_len, z32_len]) (by kernel_rfl) (by (show ∀ v ∈ (bvs x).toArray.toList, v.oneCell' = true; simpa using bvs_oneCell x)) (fun w hM => hK _ _ ?_); clear hM0 hK K)) | fail))
              go_roundw
              case rel => exact ⟨j + 1, true, by omega, by go_num, rfl, HB2, hM.sel (by repeat (first | (with_reducible exact Sel.refl) | (with_reducible exact Take.head) | (with_reducible apply Take.tail) | (with_reducible apply Sel.cons) | (with_reducible apply Sel.drop)))⟩
              case measure => simp [intOf]; omega
          · obtain rfl : m2 = j := by omega
            rw [List.take_of_length_le (by rw [hml.out]; omega)] at hb
            have hbb := hb.out
            rcases b with _ | _
            · have HPS : Hid (lackS ns W id = W ++ [id]) := if_neg (by
                intro h
                rcases h with h | h
                · rw [decide_eq_true h] at hbb; simp at hbb
                · rw [decide_eq_true h] at hbb; simp at hbb)
              clear hbb
              go_wp2_with (first | ((with_reducible refine at_load' ?_); refine BigFrame.wpList_want (by rfl) fun K hK => ws_load hM rfl rfl (by (repeat (first | assumption | (with_reducible exact mZ) | apply mS)); first | done | fail) (n := 32) (by show (bvs id).toArray.size = 32; simp [bvs_len, HX.out]) (by decide +kernel) (hK _ _ ?_); clear hK K) | (first | ((with_reducible refine at_slice' ?_); (have hM0 := hM; clear hM; refine BigFrame.wpList_want (by rfl) fun K hK => ws_slice_row hM0 (n := 1) rfl 73 32 (.agg (bvs z32).toArray) [.agg (bvs id).toArray] Try.underlying76 (by kernel_rfl) rfl (by simp [Value.cells, iv, sv, bv, bvs_len, HX.out]) (by rfl) (by decide) (cs := idvs [id]) (by rfl) (fun g60 w hM => hK _ _ ?_); clear hM0 hK K)) | fail) | ((first | ((with_reducible refine at_call' ?_); (have hM0 := hM; clear hM; refine BigFrame.wpList_want (by rfl) fun K hK => ws_append hM0 rfl rfl rfl 73 ((.agg (bvs z32).toArray)) 32 32 Try.underlying76 (by kernel_rfl) (by simp [Value.cells, bvs_len, z32_len]) (by decide) (by (repeat (first | (with_reducible exact Take.head) | apply Take.tail)); first | done | fail) (by first | (apply Star.row hM0; (repeat (first | assumption | (with_reducible exact mZ) | apply mS)); done) | (apply Star.own hM0; (repeat (first | assumption | (with_reducible exact mZ) | apply mS)); done) | (apply Star.arr hM0; (focus ((repeat (first | assumption | (with_reducible exact mZ) | apply mS)); done)); assumption)) (idvs_one [id]) ((by omega)) (fun A3 c3 w hM hnil => hK _ _ ?_); clear hM0 hK K)) | fail); simp only [Act.put, List.setIfInBounds_toArray, List.set_cons_zero, List.set_cons_succ]))
              go_roundw
              case rel => exact ⟨k + 1, m2 + 1, _, A3, _, c3, by omega, by omega, by omega, (by rw [HT.out, HT2.out, HPS.out]; show _ = _; rw [List.length_append, hml.out]; rfl), by go_num, rfl, rfl, (by rw [HT.out, HT2.out, HPS.out, idvs_app W]; exact hM.sel (by repeat (first | (with_reducible exact Sel.refl) | (with_reducible exact Take.head) | (with_reducible apply Take.tail) | (with_reducible apply Sel.cons) | (with_reducible apply Sel.drop))))⟩
              case measure => simp [intOf]; omega
            · have HPS : Hid (lackS ns W id = W) := if_pos (by
                rcases Bool.or_eq_true_iff.1 hbb.symm with h | h
                · exact .inl (of_decide_eq_true h)
                · exact .inr (of_decide_eq_true h))
              clear hbb
              go_wp2_with fail
              go_roundw
              case rel => exact ⟨k + 1, m2, _, Q, _, qc, by omega, by omega, by omega, (by rw [HT.out, HT2.out, HPS.out]; exact hml), by go_num, rfl, rfl, (by rw [HT.out, HT2.out, HPS.out]; exact hM.sel (by repeat (first | (with_reducible exact Sel.refl) | (with_reducible exact Take.head) | (with_reducible apply Take.tail) | (with_reducible apply Sel.cons) | (with_reducible apply Sel.drop))))⟩
              case measure => simp [intOf]; omega
      · clear HHA HHB HLK HLI
        go_wp2_with fail
        all_goals
          go_meet
          exact ⟨k, m2, P, Q, pc, qc, _, _, by omega, by omega, rfl, rfl, askN_32 _, rfl, hml, hM⟩
  case rest =>
    clear hM
    obtain ⟨q, m2, P, Q, pc, qc, ids, W, hq, hm2, rfl, rfl, H32, HW, HWL, hM⟩ := hcut
    replace hM := (hM.take (x := ownE idT 32 P q pc (idvs ids)) (by (repeat (first | (with_reducible exact Take.head) | apply Take.tail)); first | done | fail)).freeze
    replace hM := (hM.take (x := ownE idT 32 Q m2 qc (idvs W)) (by (repeat (first | (with_reducible exact Take.head) | apply Take.tail)); first | done | fail)).freeze
    have HW32 : Hid (∀ x ∈ W, x.length = 32) := fun x hx => by
      rw [← HW.out] at hx
      rcases lackL_sub ns _ _ x hx with h | h
      · cases h
      · exact H32.out x h
    have HLK2 : Hid (∀ (L R : List SProp) (w : World), Star L w → Take (dpE B d gm D1 59 us) L R → rowE 32 P q (idvs ids) ∈ R → Calls Try.prog 34 #[bptr d, .slice P q pc] w fun r w' => ∃ P2 pc2, r = .returned (.slice P2 m2 pc2) ∧ Star (rowE 32 P2 m2 (idvs W) :: dpE B d gm D1 59 us :: R) w') := fun L R w hM hd hr => by
      have := HLK.out ids H32.out B d gm D1 P q pc hq L R w hM hd hr
      rwa [HW.out, HWL.out] at this
    obtain ⟨bz, hbz⟩ : ∃ bz : Bool, decide (m2 = 0) = bz := ⟨_, rfl⟩
    have hbz2 : ((m2 : Int) == 0) = bz := by rw [← hbz]; exact decide_eq_decide.2 (by omega)
    have HHB2 : Hid (∀ (L R : List SProp) (w : World), Star L w → Take (dpE B d gm D1 59 us) L R → rowE 32 P q (idvs ids) ∈ R → Calls Try.prog 33 #[bptr d, .slice P q pc] w fun r w' => r = .returned (.bool bz) ∧ Star (dpE B d gm D1 59 us :: R) w') := fun L R w hM hd hr => by
      have := HHB.out ids H32.out B d gm D1 P q pc hq L R w hM hd hr
      rwa [HW.out, HWL.out, hbz] at this
    clear HHA HHB HLK hbz
    go_upto_block 4 with (first | (go_at_call 34; have hM0 := hM; clear hM; (first | (with_reducible refine (HLK2.out _ _ _ hM0 (by (repeat (first | (with_reducible exact Take.head) | apply Take.tail)); first | done | fail) (by (repeat (first | assumption | (with_reducible exact mZ) | apply mS)); first | done | fail)).mono ?_) | fail); clear hM0; rintro _ w ⟨P2, pc2, rfl, hM⟩) | (go_at_call 33; have hM0 := hM; clear hM; (first | (with_reducible refine (HHB2.out _ _ _ hM0 (by (repeat (first | (with_reducible exact Take.head) | apply Take.tail)); first | done | fail) (by (repeat (first | assumption | (with_reducible exact mZ) | apply mS)); first | done | fail)).mono ?_) | fail); clear hM0; rintro _ w ⟨rfl, hM⟩))
    clear HLK2 HHB2 hbz2
    replace hM := hM.sel (R := rowE 32 P2 m2 (idvs W) :: rowE 32 Q m2 (idvs W) :: dpE B d gm D1 59 us :: F) (by repeat (first | (with_reducible exact Sel.refl) | (with_reducible exact Take.head) | (with_reducible apply Take.tail) | (with_reducible apply Sel.cons) | (with_reducible apply Sel.drop)))
    go_cut [9] (fun s wx => Star (dpE B d gm D1 59 us :: F) wx)
    case first =>
      go_wp2_with fail
      go_loopw [104] (fun i wr => ∃ (j : Nat), j ≤ m2 ∧ i = .int .i64 j ∧ Star (rowE 32 P2 m2 (idvs W) :: rowE 32 Q m2 (idvs W) :: dpE B d gm D1 59 us :: F) wr) (fun i _ => m2 - (intOf i).toNat)
      case atStart => exact ⟨0, Nat.zero_le _, rfl, hM⟩
      case round =>
        clear hM
        obtain ⟨j, hj, rfl, hM⟩ := hrel
        by_cases hlt : j < m2
        · obtain ⟨ad, y, rfl, -, hg, -⟩ := Rd.elems (f := bvs) (hM.row (A := P2) (n := m2) (xs := idvs W) (by (repeat (first | assumption | (with_reducible exact mZ) | apply mS)); first | done | fail)) (fun y hy => by rw [bvs_len, HW32.out y hy]) (by omega) hlt
          obtain ⟨ad2, -, rfl, -⟩ := Rd.elems (f := bvs) (hM.row (A := Q) (n := m2) (xs := idvs W) (by (repeat (first | assumption | (with_reducible exact mZ) | apply mS)); first | done | fail)) (fun y hy => by rw [bvs_len, HW32.out y hy]) (by omega) hlt
          have hv : ∀ i v, (bvs y)[i]? = some v → (idvs W)[j * 32 + i]? = some v := fun i v hv => flat_get bvs 32 W (fun x hx => by rw [bvs_len, HW32.out x hx]) j y hg i v hv
          have hy32 := HW32.out y (List.mem_of_getElem? hg)
          have y32 : (bvs y).length = 32 := by rw [bvs_len]; exact hy32
          have HY := Lib.hid hy32
          have HV := Lib.hid hv
          have HY2 := Lib.hid y32
          clear hg hv hy32 y32
          go_wp2_with fail
          (refine region_RS ([rowE 32 (some ad) m2 (idvs W), rowE 32 (some ad2) m2 (idvs W)]) [] (by kernel_rfl) hM ?_; clear hM; change RS _ _ _ _ _ _ 9 (Array.replicate 9 false) _ _; refine RS_take (i := 0) rfl (by decide +kernel) (fun _ _ _ h => h) (by first | (intro x hx; (repeat (first | exact hx | apply mS)); done) | ((repeat (refine List.forall_mem_cons.2 ⟨(by (repeat (first | assumption | (with_reducible exact mZ) | apply mS)); first | done | fail), ?_⟩)); intro x hx; first | (cases hx; done) | ((repeat (first | exact hx | apply mS)); done))) (stab_pure (by rfl) (fun w => (by go_simp; try with_reducible rfl))) ?_; simp only [Act.put, List.setIfInBounds_toArray, List.set_cons_zero, List.set_cons_succ]; refine RS_take (i := 1) rfl (by decide +kernel) (fun _ _ _ h => h) (by first | (intro x hx; (repeat (first | exact hx | apply mS)); done) | ((repeat (refine List.forall_mem_cons.2 ⟨(by (repeat (first | assumption | (with_reducible exact mZ) | apply mS)); first | done | fail), ?_⟩)); intro x hx; first | (cases hx; done) | ((repeat (first | exact hx | apply mS)); done))) (stab_pure (by rfl) (fun w => (by go_simp; try with_reducible rfl))) ?_; simp only [Act.put, List.setIfInBounds_toArray, List.set_cons_zero, List.set_cons_succ]; refine RS_take (i := 2) rfl (by decide +kernel) (fun _ _ _ h => h) (by first | (intro x hx; (repeat (first | exact hx | apply mS)); done) | ((repeat (refine List.forall_mem_cons.2 ⟨(by (repeat (first | assumption | (with_reducible exact mZ) | apply mS)); first | done | fail), ?_⟩)); intro x hx; first | (cases hx; done) | ((repeat (first | exact hx | apply mS)); done))) (stab_pure (by rfl) (fun w => (by go_simp; try with_reducible rfl))) ?_; simp only [Act.put, List.setIfInBounds_toArray, List.set_cons_zero, List.set_cons_succ]; refine RS_take (i := 3) rfl (by decide +kernel) (fun _ _ _ h => h) (by first | (intro x hx; (repeat (first | exact hx | apply mS)); done) | ((repeat (refine List.forall_mem_cons.2 ⟨(by (repeat (first | assumption | (with_reducible exact mZ) | apply mS)); first | done | fail), ?_⟩)); intro x hx; first | (cases hx; done) | ((repeat (first | exact hx | apply mS)); done))) (stab_read (by rfl) (fun L w hL hM => (ex_rowload_row (k := j) rfl rfl (hM.row (A := some ad) (hL _ (by (repeat (first | assumption | (with_reducible exact mZ) | apply mS)); first | done | fail))) (bvs y) HV.out HY2.out hlt (by kernel_rfl)))) ?_; simp only [Act.put, List.setIfInBounds_toArray, List.set_cons_zero, List.set_cons_succ]; refine RS_take (i := 4) rfl (by decide +kernel) (fun _ _ _ h => h) (by first | (intro x hx; (repeat (first | exact hx | apply mS)); done) | ((repeat (refine List.forall_mem_cons.2 ⟨(by (repeat (first | assumption | (with_reducible exact mZ) | apply mS)); first | done | fail), ?_⟩)); intro x hx; first | (cases hx; done) | ((repeat (first | exact hx | apply mS)); done))) (stab_pure (by rfl) (fun w => (by go_simp; try with_reducible rfl))) ?_; simp only [Act.put, List.setIfInBounds_toArray, List.set_cons_zero, List.set_cons_succ]; refine RS_take (i := 5) rfl (by decide +kernel) (fun _ _ _ h => h) (by first | (intro x hx; (repeat (first | exact hx | apply mS)); done) | ((repeat (refine List.forall_mem_cons.2 ⟨(by (repeat (first | assumption | (with_reducible exact mZ) | apply mS)); first | done | fail), ?_⟩)); intro x hx; first | (cases hx; done) | ((repeat (first | exact hx | apply mS)); done))) (stab_pure (by rfl) (fun w => (by go_simp; try with_reducible rfl))) ?_; simp only [Act.put, List.setIfInBounds_toArray, List.set_cons_zero, List.set_cons_succ]; refine RS_take (i := 6) rfl (by decide +kernel) (fun _ _ _ h => h) (by first | (intro x hx; (repeat (first | exact hx | apply mS)); done) | ((repeat (refine List.forall_mem_cons.2 ⟨(by (repeat (first | assumption | (with_reducible exact mZ) | apply mS)); first | done | fail), ?_⟩)); intro x hx; first | (cases hx; done) | ((repeat (first | exact hx | apply mS)); done))) (stab_pure (by rfl) (fun w => (by go_simp; try with_reducible rfl))) ?_; simp only [Act.put, List.setIfInBounds_toArray, List.set_cons_zero, List.set_cons_succ]; refine RS_take (i := 7) rfl (by decide +kernel) (fun _ _ _ h => h) (by first | (intro x hx; (repeat (first | exact hx | apply mS)); done) | ((repeat (refine List.forall_mem_cons.2 ⟨(by (repeat (first | assumption | (with_reducible exact mZ) | apply mS)); first | done | fail), ?_⟩)); intro x hx; first | (cases hx; done) | ((repeat (first | exact hx | apply mS)); done))) (stab_read (by rfl) (fun L w hL hM => (ex_rowload_row (k := j) rfl rfl (hM.row (A := some ad2) (hL _ (by (repeat (first | assumption | (with_reducible exact mZ) | apply mS)); first | done | fail))) (bvs y) HV.out HY2.out hlt (by kernel_rfl)))) ?_; simp only [Act.put, List.setIfInBounds_toArray, List.set_cons_zero, List.set_cons_succ]; refine RS_take (i := 8) rfl (by decide +kernel) (fun _ _ _ h => h) (by first | (intro x hx; (repeat (first | exact hx | apply mS)); done) | ((repeat (refine List.forall_mem_cons.2 ⟨(by (repeat (first | assumption | (with_reducible exact mZ) | apply mS)); first | done | fail), ?_⟩)); intro x hx; first | (cases hx; done) | ((repeat (first | exact hx | apply mS)); done))) (stab_read (by rfl) (fun L w hL hM => (ex_neq_arr rfl rfl rfl Try.underlying73 Try.underlying5 (by kernel_rfl) HY.out HY.out (by kernel_rfl) (b := false) (by simp)))) ?_; simp only [Act.put, List.setIfInBounds_toArray, List.set_cons_zero, List.set_cons_succ]; refine RS_done (by decide +kernel) (.inl (by first | (intro x hx; (repeat (first | exact hx | apply mS)); done) | ((repeat (refine List.forall_mem_cons.2 ⟨(by (repeat (first | assumption | (with_reducible exact mZ) | apply mS)); first | done | fail), ?_⟩)); intro x hx; first | (cases hx; done) | ((repeat (first | exact hx | apply mS)); done)))) (fun w hM => ?_))
          go_wp2_with fail
          go_roundw
          case rel => exact ⟨j + 1, by omega, by go_num, hM.sel (by repeat (first | (with_reducible exact Sel.refl) | (with_reducible exact Take.head) | (with_reducible apply Take.tail) | (with_reducible apply Sel.cons) | (with_reducible apply Sel.drop)))⟩
          case measure => simp [intOf]; omega
        · go_wp2_with fail
          go_meet
          exact hM.sel (by repeat (first | (with_reducible exact Sel.refl) | (with_reducible exact Take.head) | (with_reducible apply Take.tail) | (with_reducible apply Sel.cons) | (with_reducible apply Sel.drop)))
    case rest =>
      clear hM
      replace hM := hcut
      clear hcut HW HWL H32 HW32 hq hm2
      obtain ⟨v, k, hv3, ha, hk, HKD⟩ := kindL l2
      clear _w2 _y2
      have HM1 : Hid (∀ (L : List SProp) (w : World), Star L w → Calls Try.prog 35 #[.int .i64 (k : Int), .string ⟨#[120]⟩] w fun r w' => r = .returned (.agg (ocs ((k : Int), onm (UInt8.ofNat k) [120], [120])).toArray) ∧ Star L w') := fun L w hM => make_star k (UInt8.ofNat k) HKD.out.2 [120] (by decide) w hM
      have HO2 : Hid (∀ (L : List SProp) (g : Nat) (w : World), Star L w → rowE 1 (some ⟨g, 0, none⟩) 1 (svs [[121]]) ∈ L → Calls Try.prog 31 #[.int .i64 2, .slice (some ⟨g, 0, none⟩) 1 1] w fun r w' => r = .returned (.agg (bvs (onm 2 [121])).toArray) ∧ Star L w') := fun L g w hM hx2 => by
        have := oof_star 2 [[121]] (some ⟨g, 0, none⟩) 1 1 (by decide) (by omega) w hM hx2
        rwa [cat_one] at this
      obtain ⟨z, hz⟩ : ∃ z : List UInt8, z = List.replicate 4096 0 := ⟨_, rfl⟩
      have HZ : Hid ((List.replicate 4096 (Value.int .u8 0)).toArray.toList = bvs z) := by show _ = _; rw [hz]; simp [bvs, bv]
      have hzl : z.length = 4096 := by rw [hz]; simp
      have HM3 : Hid (∀ (L : List SProp) (w : World), Star L w → Calls Try.prog 35 #[.int .i64 1, .string ⟨z.toArray⟩] w fun r w' => r = .returned (.agg (ocs (1, onm 1 z, z)).toArray) ∧ Star L w') := fun L w hM => make_star 1 1 rfl z (by omega) w hM
      have hi1 := onm_len (UInt8.ofNat k) [120]
      have hi2 := onm_len 2 [121]
      have hi3 := onm_len 1 z
      have hne := onm_y
      have HP1 : Hid (∀ (L : List SProp) (g : Nat) (w : World), Star L w → rowE 34 (some ⟨g, 0, none⟩) 1 (ovs [((k : Int), onm (UInt8.ofNat k) [120], [120])]) ∈ L → Calls Try.prog 28 #[bptr d, .slice (some ⟨g, 0, none⟩) 1 1] w fun r w' => r = .returned (.int .i64 3) ∧ Star L w') := fun L g w hM hr => put_kind1 (o := ((k : Int), onm (UInt8.ofNat k) [120], [120])) hi1 (show ([120] : List UInt8).length ≤ 4095 by decide) HKD.out.1 w hM hr
      have HP2 : Hid (∀ (L : List SProp) (g : Nat) (w : World), Star L w → rowE 34 (some ⟨g, 0, none⟩) 1 (ovs [(1, onm 2 [121], [121])]) ∈ L → Calls Try.prog 28 #[bptr d, .slice (some ⟨g, 0, none⟩) 1 1] w fun r w' => r = .returned (.int .i64 3) ∧ Star L w') := fun L g w hM hr => put_name1 hi2 (by decide) hne w hM hr
      have HP3 : Hid (∀ (L : List SProp) (g : Nat) (w : World), Star L w → rowE 34 (some ⟨g, 0, none⟩) 1 (ovs [(1, onm 1 z, z)]) ∈ L → Calls Try.prog 28 #[bptr d, .slice (some ⟨g, 0, none⟩) 1 1] w fun r w' => r = .returned (.int .i64 5) ∧ Star L w') := fun L g w hM hr => put_big (o := (1, onm 1 z, z)) hi3 (by rw [hzl]; decide) w hM hr
      have HB := Lib.hid (build_ob 1 (onm 2 [121]) hi2 [121])
      have HI2 := Lib.hid hi2
      have HS1 : Hid ((ocs ((k : Int), onm (UInt8.ofNat k) [120], [120])).toArray.size = 34) := ocs_sz hi1
      have HS2 : Hid ((ocs (1, onm 2 [121], [121])).toArray.size = 34) := ocs_sz hi2
      have HL1 : Hid ((ocs ((k : Int), onm (UInt8.ofNat k) [120], [120])).length = 34) := ocs_len hi1
      have HL2 : Hid ((ocs (1, onm 2 [121], [121])).length = 34) := ocs_len hi2
      have HL3 : Hid ((ocs (1, onm 1 z, z)).length = 34) := ocs_len hi3
      have HO1A : Hid (∀ v ∈ (ocs ((k : Int), onm (UInt8.ofNat k) [120], [120])).toArray.toList, v.oneCell' = true) := ocs_oneA _
      have HO2A : Hid (∀ v ∈ (ocs (1, onm 2 [121], [121])).toArray.toList, v.oneCell' = true) := ocs_oneA _
      have HOS0 : Hid ((ocs (0, z32, [])).toArray.size = 34) := ocs_sz oz32
      obtain ⟨o1, ho1⟩ : ∃ o : Ob, o = ((k : Int), onm (UInt8.ofNat k) [120], [120]) := ⟨_, rfl⟩
      obtain ⟨o2, ho2⟩ : ∃ o : Ob, o = (1, onm 2 [121], [121]) := ⟨_, rfl⟩
      obtain ⟨o3, ho3⟩ : ∃ o : Ob, o = (1, onm 1 z, z) := ⟨_, rfl⟩
      rw [← ho1] at HM1 HP1 HS1 HL1 HO1A
      rw [← ho2] at HP2 HS2 HL2 HO2A HB
      rw [← ho3] at HM3 HP3 HL3
      generalize onm 2 [121] = id2 at HO2 HI2 HB
      clear ho1 ho2 ho3 hz hzl hi1 hi2 hi3 hne HKD
      have tok1 : True := trivial
      have tok2 : True := trivial
      go_wp2_with (first | (go_at_call 29; have hM0 := hM; clear hM; (first | (with_reducible refine (HLI.out B d gm D1 _ _ _ hM0 (by (repeat (first | (with_reducible exact Take.head) | apply Take.tail)); first | done | fail)).mono ?_) | fail); clear hM0; rintro _ w ⟨A4, c4, rfl, hM⟩) | (go_at_call 35; have hM0 := hM; clear hM; (first | (with_reducible refine (HM1.out _ _ hM0).mono ?_) | fail); clear hM0; rintro _ w ⟨rfl, hM⟩) | (have _t := tok1; (first | ((with_reducible refine at_alloc' ?_); (have hM0 := hM; clear hM; refine BigFrame.wpList_want (by rfl) fun K hK => ws_alloc hM0 (t := 75) rfl (ocs (0, z32, [])).toArray info_ob (fun g19 w hM => hK _ _ ?_); clear hM0 hK K)) | fail); clear tok1) | (have _t := tok2; (first | ((with_reducible refine at_alloc' ?_); (have hM0 := hM; clear hM; refine BigFrame.wpList_want (by rfl) fun K hK => ws_alloc hM0 (t := 75) rfl (ocs (0, z32, [])).toArray info_ob (fun g20 w hM => hK _ _ ?_); clear hM0 hK K)) | fail); clear tok2) | (first | ((with_reducible refine at_store' ?_); (have hM0 := hM; clear hM; refine BigFrame.wpList_want (by rfl) fun K hK => ws_store hM0 rfl rfl rfl (by (repeat (first | (with_reducible exact Take.head) | apply Take.tail)); first | done | fail) (n := 34) (by exact HS1.out) (by exact HOS0.out) (by kernel_rfl) (by exact HO1A.out) (fun w hM => hK _ _ ?_); clear hM0 hK K)) | fail) | (first | ((with_reducible refine at_store' ?_); (have hM0 := hM; clear hM; refine BigFrame.wpList_want (by rfl) fun K hK => ws_store hM0 rfl rfl rfl (by (repeat (first | (with_reducible exact Take.head) | apply Take.tail)); first | done | fail) (n := 34) (by exact HS2.out) (by exact HOS0.out) (by kernel_rfl) (by exact HO2A.out) (fun w hM => hK _ _ ?_); clear hM0 hK K)) | fail) | (first | ((with_reducible refine at_slice' ?_); (have hM0 := hM; clear hM; refine BigFrame.wpList_want (by rfl) fun K hK => ws_slice_row hM0 (n := 1) rfl 9 1 (.string ByteArray.empty) [sv [121]] Try.underlying59 (by kernel_rfl) rfl (by simp [Value.cells, iv, sv, bv]) (by rfl) (by decide) (cs := svs [[121]]) (by rfl) (fun g124 w hM => hK _ _ ?_); clear hM0 hK K)) | fail) | (go_at_call 31; have hM0 := hM; clear hM; (first | (with_reducible refine (HO2.out _ g124 _ hM0 (by (repeat (first | assumption | (with_reducible exact mZ) | apply mS)); first | done | fail)).mono ?_) | fail); clear hM0; rintro _ w ⟨rfl, hM⟩) | ((with_reducible refine at_build' ?_); refine BigFrame.wpList_want (by rfl) fun K hK => ws_build rfl (.agg (ocs o2).toArray) (by simp only [List.map_toArray, List.map_cons, List.map_nil]; exact HB.out _) (hK _ _ ?_); clear hK K) | (first | ((with_reducible refine at_load' ?_); (refine BigFrame.wpList_want (by rfl) fun K hK => ws_load hM rfl rfl (by (repeat (first | assumption | (with_reducible exact mZ) | apply mS)); first | done | fail) (n := 34) (by exact HS1.out) (by decide +kernel) (hK _ _ ?_); clear hK K)) | fail) | (first | ((with_reducible refine at_load' ?_); (refine BigFrame.wpList_want (by rfl) fun K hK => ws_load hM rfl rfl (by (repeat (first | assumption | (with_reducible exact mZ) | apply mS)); first | done | fail) (n := 34) (by exact HS2.out) (by decide +kernel) (hK _ _ ?_); clear hK K)) | fail) | (first | ((with_reducible refine at_slice' ?_); (have hM0 := hM; clear hM; refine BigFrame.wpList_want (by rfl) fun K hK => ws_slice_row hM0 (n := 1) rfl 75 34 (.agg (ocs (0, z32, [])).toArray) [.agg (ocs o1).toArray] Try.underlying63 (by kernel_rfl) rfl (by simp [Value.cells, iv, sv, bv, HL1.out]) (by rfl) (by decide) (cs := ovs [o1]) (by rfl) (fun g129 w hM => hK _ _ ?_); clear hM0 hK K)) | fail) | (go_at_call 28; have hM0 := hM; clear hM; (first | (with_reducible refine (HP1.out _ g129 _ hM0 (by (repeat (first | assumption | (with_reducible exact mZ) | apply mS)); first | done | fail)).mono ?_) | fail); clear hM0; rintro _ w ⟨rfl, hM⟩) | (first | ((with_reducible refine at_slice' ?_); (have hM0 := hM; clear hM; refine BigFrame.wpList_want (by rfl) fun K hK => ws_slice_row hM0 (n := 1) rfl 75 34 (.agg (ocs (0, z32, [])).toArray) [.agg (ocs o2).toArray] Try.underlying63 (by kernel_rfl) rfl (by simp [Value.cells, iv, sv, bv, HL2.out]) (by rfl) (by decide) (cs := ovs [o2]) (by rfl) (fun g135 w hM => hK _ _ ?_); clear hM0 hK K)) | fail) | (go_at_call 28; have hM0 := hM; clear hM; (first | (with_reducible refine (HP2.out _ g135 _ hM0 (by (repeat (first | assumption | (with_reducible exact mZ) | apply mS)); first | done | fail)).mono ?_) | fail); clear hM0; rintro _ w ⟨rfl, hM⟩) | ((first | ((with_reducible refine at_make' ?_); (have hM0 := hM; clear hM; refine BigFrame.wpList_want (by rfl) fun K hK => ws_make8 hM0 rfl 5 (.int .u8 0) 1 Try.underlying84 (by kernel_rfl) rfl (by decide) (n := 4096) rfl rfl (by omega) (fun g141 w hM => hK _ _ ?_); clear hM0 hK K)) | fail); replace hM := mkz HZ hM) | (first | ((with_reducible refine at_convert' ?_); (refine BigFrame.wpList_want (by rfl) fun K hK => ws_string (l := z) rfl 5 Try.underlying84 Try.underlying9 Try.underlying5 rfl (by first | (apply Star.row hM; (repeat (first | assumption | (with_reducible exact mZ) | apply mS)); done) | (apply Star.own hM; (repeat (first | assumption | (with_reducible exact mZ) | apply mS)); done) | (apply Star.arr hM; (focus ((repeat (first | assumption | (with_reducible exact mZ) | apply mS)); done)); assumption)) (hK _ _ ?_); clear hK K)) | fail) | (go_at_call 35; have hM0 := hM; clear hM; (first | (with_reducible refine (HM3.out _ _ hM0).mono ?_) | fail); clear hM0; rintro _ w ⟨rfl, hM⟩) | (first | ((with_reducible refine at_slice' ?_); (have hM0 := hM; clear hM; refine BigFrame.wpList_want (by rfl) fun K hK => ws_slice_row hM0 (n := 1) rfl 75 34 (.agg (ocs (0, z32, [])).toArray) [.agg (ocs o3).toArray] Try.underlying63 (by kernel_rfl) rfl (by simp [Value.cells, iv, sv, bv, HL3.out]) (by rfl) (by decide) (cs := ovs [o3]) (by rfl) (fun g144 w hM => hK _ _ ?_); clear hM0 hK K)) | fail) | (go_at_call 28; have hM0 := hM; clear hM; (first | (with_reducible refine (HP3.out _ g144 _ hM0 (by (repeat (first | assumption | (with_reducible exact mZ) | apply mS)); first | done | fail)).mono ?_) | fail); clear hM0; rintro _ w ⟨rfl, hM⟩))
      go_ret
      exact ⟨rfl, hM.sel (by repeat (first | (with_reducible exact Sel.refl) | (with_reducible exact Take.head) | (with_reducible apply Take.tail) | (with_reducible apply Sel.cons) | (with_reducible apply Sel.drop)))⟩
end
end Go.Proofs.Ytnckgkgilnmocaa
set_option linter.unusedSimpArgs false
set_option linter.unusedVariables false
namespace Go.Proofs.Ytnckgkgilnmocaa
open Go.RowKit Go.WideShapes Go.ChangeShapes Go.ChangeAt
theorem depotLacks_law (A0 : Option Addr) (n0 c0 : Nat) (l0 : List (List UInt8)) (y0 : n0 ≤ 9223372036854775807) (z0 : ∀ x ∈ l0, x.length ≤ 9223372036854775807) (A1 : Option Addr) (n1 c1 : Nat) (l1 : List (List UInt8)) (y1 : n1 ≤ 9223372036854775807) (z1 : ∀ x ∈ l1, x.length ≤ 9223372036854775807) (l2 : Int) (w2 : -9223372036854775808 ≤ l2) (y2 : l2 ≤ 9223372036854775807) (W : World) (w0 : Rd W 1 A0 n0 (svs l0)) (w1 : Rd W 1 A1 n1 (svs l1)) :
    Calls Try.prog 7 #[.slice A0 n0 c0, .slice A1 n1 c1, .int .i64 l2] W fun r w' => r = .returned (.bool true) ∧ Ch [] W w' :=
  (depotLacks_walk A0 n0 c0 l0 y0 z0 A1 n1 c1 l1 y1 z1 l2 w2 y2 W (((Star.start W).of_old (by (repeat (first | assumption | (with_reducible exact mZ) | apply mS)); first | done | fail) w0).of_old (by (repeat (first | assumption | (with_reducible exact mZ) | apply mS)); first | done | fail) w1) (by (repeat (first | assumption | (with_reducible exact mZ) | apply mS)); first | done | fail) (by (repeat (first | assumption | (with_reducible exact mZ) | apply mS)); first | done | fail)).mono fun _ _ ⟨h1, h2⟩ => ⟨h1, h2.old (by (repeat (first | assumption | (with_reducible exact mZ) | apply mS)); first | done | fail)⟩
theorem depotLacks_own : ownKnob Try.prog.godebug = none := by kernel_rfl
set_option maxRecDepth 100000 in
theorem depotLacks_lifted (os : Os) (started : os.Started) (H : Type) (enc : TypeId × Value → H) :
    ReturnsInHanded {} Try.checked os 7 .any (Rows.depotLacksSpec.pre6 enc Try.prog Try.f7 Rows.depotLacksRow.domain false) (Rows.depotLacksSpec.post enc Try.prog Try.f7 false true false false) := by
  refine returnsInHanded_of_change (C := Try.checked) depotLacks_own started (by kernel_rfl) Try.func7
    (ChangeSpec.witness6 (enc := enc) (C := Try.checked) false ⟨#[], #[.slice none 0 0, .slice none 0 0, .int .i64 0], []⟩ 8 (by kernel_rfl) (by kernel_rfl) (by kernel_rfl) (by kernel_rfl)) ?_
  intro W base args ds gs before hval0 hW hcnd _
  have hval : ∀ (j : Nat) t v, Try.f7.params[j]? = some t → args[j]? = some v → Value.okWide Try.prog W .any base t v := hval0
  have hW' := hW
  obtain ⟨p, q, hA0, hV, rfl, hfz, hnd⟩ := hW
  have hA : DataW.TrodAll enc Try.prog W 0 (fun _ => true) true Try.f7.params.toList args.toList ds p := hA0
  have hA1 := hA
  rw [Try.params7] at hA hval
  obtain ⟨v0, vs0, d0, ds0, p0, q0, hargs, rfl, rfl, h0, r0⟩ := trodAll_cons hA
  obtain ⟨v1, vs1, d1, ds1, p1, q1, rfl, rfl, rfl, h1, r1⟩ := trodAll_cons r0
  obtain ⟨v2, vs2, d2, ds2, p2, q2, rfl, rfl, rfl, h2, r2⟩ := trodAll_cons r1
  obtain ⟨rfl, rfl, rfl⟩ := trodAll_nil r2
  obtain rfl : args = #[v0, v1, v2] := by cases args; simp_all
  obtain ⟨rfl, rfl⟩ := trodVars_none hV
  obtain ⟨A0, n0, c0, l0, rfl, w0, y0, z0⟩ := open_strl Try.underlying59 Try.underlying9 (by kernel_rfl) (hval 0 59 v0 rfl rfl) h0
  obtain ⟨A1, n1, c1, l1, rfl, w1, y1, z1⟩ := open_strl Try.underlying59 Try.underlying9 (by kernel_rfl) (hval 1 59 v1 rfl rfl) h1
  obtain ⟨l2, rfl, w2, y2⟩ := open_i64 Try.underlying3 (hval 2 3 v2 rfl rfl) h2
  clear hA0 hval0
  refine (depotLacks_law A0 n0 c0 l0 y0 z0 A1 n1 c1 l1 y1 z1 l2 w2 y2 W w0 w1).mono fun e W' ⟨he, hg⟩ => ?_
  subst he
  have hlt := fun x hx => hW'.lt x hx
  exact ⟨_, rfl, post_of_below hW' (fun _ _ _ => (trodAll_cons_mk (shut_bool Try.underlying4 _) trodAll_mk0))
    (fun sp hsp => args_stay (by kernel_rfl) hg.below sp _ _ _ _ (by kernel_rfl) hA1 (fun x hx => hlt x (List.mem_append.2 (.inl hx))) (fun x hx => hsp x (List.mem_append.2 (.inl hx)))) (fun _ _ => rfl) rfl
    hg.below (ok_one (by kernel_rfl) rfl (okWide_bool_mk Try.underlying4 _))⟩
theorem depotLacks_over : Rows.depotLacksRow.holds Try.pinned (OpenSpec.ofChange Rows.depotLacksSpec) :=
  OpenClaim.holds_of_wide 7 Try.f7 rfl rfl rfl rfl rfl rfl rfl ⟨rfl, rfl, rfl, rfl, rfl⟩ rfl rfl rfl rfl rfl (by kernel_rfl) Try.func7 (by kernel_rfl)
    (of_decide_eq_true (by kernel_rfl)) (by unfold Func.isWrapper; first | (rw [if_pos (by decide +kernel)]; kernel_rfl) | (rw [if_neg (by decide +kernel)]; exact ⟨rfl, rfl⟩))
    (fun os started H enc _ => depotLacks_lifted os started H enc)
/-- THE STATEMENT -/
theorem depotLacks_holds : Rows.DepotLacksSaid := depotLacks_over
end Go.Proofs.Ytnckgkgilnmocaa
