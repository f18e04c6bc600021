/- What the laws share, part 6 (SecL, SrG, SrH, BaleE, SectorSure, SdA). No condition but those that each theorem names. -/
import Derived.Test.YtbejifbiffeamaaV1
import Derived.Test.YtbejifbiffeamaaV3
import Derived.Test.YtbejifbiffeamaaV5
import Derived.BigQuiet
import Derived.Deep.QuietTactic
import Derived.RowKit
import Derived.Test.YtbejifbiffeamaaRows
import Derived.WalkKit
import Derived.WalkLawsBesides
import Derived.WalkSpells
set_option linter.unusedSimpArgs false
set_option linter.unusedVariables false
namespace Go.Proofs.Ytbejifbiffeamaa
open Go.RowKit
attribute [local go_sem] extract_mid extract_drop bget bsize wrap64_u8 i64_u8 u64_u8 bappend
attribute [local go_sem] bxor8S
def spD (D : Dsk) (i k : Nat) (y : UInt8) : Dsk := { D with sure := D.sure.set i (spB (D.su i) k y), now := D.now.set i (spB (D.nw i) k y) }
theorem spD_len (D : Dsk) (i k : Nat) (y : UInt8) : (spD D i k y).sure.length = D.sure.length := List.length_set
theorem spD_nw {D : Dsk} (h : D.ok) {i : Nat} (hi : i < D.sure.length) (k : Nat) (y : UInt8) (j : Nat) : (spD D i k y).nw j = if j = i then spB (D.nw i) k y else D.nw j := getD_set _ _ _ _ _ (by rw [h.ln]; exact hi)
theorem spD_su {D : Dsk} {i : Nat} (hi : i < D.sure.length) (k : Nat) (y : UInt8) (j : Nat) : (spD D i k y).su j = if j = i then spB (D.su i) k y else D.su j := getD_set _ _ _ _ _ hi
theorem spD_ok {D : Dsk} (h : D.ok) {i : Nat} (hi : i < D.sure.length) (k : Nat) (y : UInt8) : (spD D i k y).ok where
  ln := by simp [spD, h.ln]
  ll := by simp [spD, h.ll]
  s64 x hx := by
    rcases List.mem_or_eq_of_mem_set hx with hx | rfl
    · exact h.s64 x hx
    · rw [spB_len]; exact su_len h hi
  n64 x hx := by
    rcases List.mem_or_eq_of_mem_set hx with hx | rfl
    · exact h.n64 x hx
    · rw [spB_len]; exact nw_len h hi
  same j hj hl := by
    rw [spD_len] at hj
    have h1 := h.same j hj hl
    rw [spD_nw h hi, spD_su hi]
    by_cases e : j = i
    · rw [if_pos e, if_pos e]; subst e; rw [h1]
    · rw [if_neg e, if_neg e]; exact h1
  size := by rw [spD_len]; exact h.size
  i64a := h.i64a
  i64b := h.i64b
  arm := h.arm
theorem lmv_congr {D E : Dsk} (h1 : D.sure.length = E.sure.length) (h2 : D.l = E.l) (h3 : ∀ i ∈ D.keys, D.nw i = E.nw i) : lmv D = lmv E := by
  have hk : D.keys = E.keys := by unfold Dsk.keys; rw [h1, h2]
  unfold lmv
  rw [← hk]
  exact List.map_congr_left fun i hi => by rw [h3 i hi]
theorem lmv_sp_old {D : Dsk} (h : D.ok) {i : Nat} (hi : i < D.sure.length) (k : Nat) (y : UInt8) (hl : D.l i = true) : ∃ r, (lmv D).Perm ((iv64 i, avb (D.nw i)) :: r) ∧ ((iv64 i, avb (spB (D.nw i) k y)) :: r).Perm (lmv (spD D i k y)) := by
  obtain ⟨r, h1, h2⟩ := lmv_put_old h hi (spB (D.nw i) k y) hl
  refine ⟨r, h1, h2.trans (List.Perm.of_eq (lmv_congr (spD_len D i k y).symm ?_ fun j _ => ?_))⟩
  · funext j
    rw [put_l h hi]
    split
    · rename_i e; rw [e]; exact hl.symm
    · rfl
  · rw [put_nw h hi, spD_nw h hi]
theorem lmv_sp_new {D : Dsk} (h : D.ok) {i : Nat} (hi : i < D.sure.length) (k : Nat) (y : UInt8) (hl : D.l i = false) : lmv D = lmv (spD D i k y) :=
  lmv_congr (spD_len D i k y).symm rfl fun j hj => by
    rw [spD_nw h hi, if_neg (fun e => by have := ((mem_keys D j).1 hj).2; rw [e, hl] at this; cases this)]
theorem bvs_setB (l : List UInt8) (k : Nat) (x y : UInt8) : (bvs l).toArray.setIfInBounds k (.int .u8 ((x.toNat ^^^ y.toNat : Nat) : Int)) = (bvs (l.set k (x ^^^ y))).toArray := by
  rw [List.setIfInBounds_toArray, ← UInt8.toNat_xor]
  unfold bvs
  rw [List.map_set]
  rfl
theorem flat_set1 {S : List (List UInt8)} (h : ∀ b ∈ S, b.length = 64) {i : Nat} (hi : i < S.length) {k : Nat} (hk : k < 64) (z : UInt8) : S.flatten.set (i * 64 + k) z = (S.set i (S[i].set k z)).flatten := by
  obtain ⟨e, hl⟩ := flat_cut h hi
  have h64 : S[i].length = 64 := h _ (List.getElem_mem hi)
  have e1 : S.flatten.set (i * 64 + k) z = (S.take i).flatten ++ (S[i].set k z ++ (S.drop (i + 1)).flatten) := by
    conv => lhs; rw [e, List.append_assoc]
    rw [List.set_append_right _ _ (by omega), List.set_append_left _ _ (by omega)]
    congr 3
    omega
  rw [e1]
  generalize S[i].set k z = b
  rw [List.set_eq_take_append_cons_drop, if_pos hi]
  simp
section
variable {F : List SProp} {a : DA} {D : Dsk}
set_option maxRecDepth 100000 in
set_option maxHeartbeats 4000000 in
theorem spoil_d10 (h : D.ok) (x k : Int) (y : UInt8) (hi : ¬ (inP D.sure.length x 1 ∧ 0 ≤ k ∧ k < 64)) (w : World) (hM : Star (diskE a D :: F) w) :
    Calls Try.prog 59 #[dptr a, .int .i64 x, .int .i64 k, .int .u8 (y.toNat : Int)] w fun r w' => r = .returned (.int .i64 10) ∧ Star (diskE a D :: F) w' := by
  by_cases h0 : inP D.sure.length x 1
  · have HI : Hid (∀ (L : List SProp) (w : World), Star (diskE a D :: L) w → Calls Try.prog 49 #[dptr a, .int .i64 x, .int .i64 1] w fun r w' => r = .returned (.bool true) ∧ Star (diskE a D :: L) w') := fun L w hM => by
      have := in_d h x 1 (by decide) w hM
      have e : inD D.sure.length x 1 = true := by
        obtain ⟨h1, _, h3, h4⟩ := h0
        unfold inD
        simp only [Bool.and_eq_true, decide_eq_true_eq]
        exact ⟨h1, h3, h4⟩
      rwa [e] at this
    by_cases h1 : k < 0
    · clear hi h0
      go_enter Try.func59, Try.ntmps59
      go_wp2_with (first | (go_at_call 49; have hM0 := hM; clear hM; (first | (with_reducible refine (HI.out _ _ hM0).mono ?_) | fail); clear hM0; rintro _ w ⟨rfl, hM⟩))
      go_ret
      exact ⟨rfl, hM⟩
    · have h2 : 64 ≤ k := by
        by_cases h : k < 64
        · exact absurd ⟨h0, by omega, h⟩ hi
        · omega
      have h3 : decide (k < 0) = false := by simp; omega
      clear hi h0
      go_enter Try.func59, Try.ntmps59
      go_wp2_with (first | (go_at_call 49; have hM0 := hM; clear hM; (first | (with_reducible refine (HI.out _ _ hM0).mono ?_) | fail); clear hM0; rintro _ w ⟨rfl, hM⟩))
      go_ret
      exact ⟨rfl, hM⟩
  · have HI : Hid (∀ (L : List SProp) (w : World), Star (diskE a D :: L) w → Calls Try.prog 49 #[dptr a, .int .i64 x, .int .i64 1] w fun r w' => r = .returned (.bool false) ∧ Star (diskE a D :: L) w') := fun L w hM => by
      have := in_d h x 1 (by decide) w hM
      have e : inD D.sure.length x 1 = false := by
        cases hc : inD D.sure.length x 1 with
        | false => rfl
        | true =>
          unfold inD at hc
          simp only [Bool.and_eq_true, decide_eq_true_eq] at hc
          exact absurd ⟨hc.1, by decide, hc.2.1, hc.2.2⟩ h0
      rwa [e] at this
    clear hi h0
    go_enter Try.func59, Try.ntmps59
    go_wp2_with (first | (go_at_call 49; have hM0 := hM; clear hM; (first | (with_reducible refine (HI.out _ _ hM0).mono ?_) | fail); clear hM0; rintro _ w ⟨rfl, hM⟩))
    go_ret
    exact ⟨rfl, hM⟩
set_option maxRecDepth 100000 in
set_option maxHeartbeats 8000000 in
theorem spoil_d (h : D.ok) (i k : Nat) (y : UInt8) (hi : i < D.sure.length) (hk : k < 64) (w : World) (hM : Star (diskE a D :: F) w) :
    Calls Try.prog 59 #[dptr a, .int .i64 i, .int .i64 k, .int .u8 (y.toNat : Int)] w fun r w' => r = .returned (.int .i64 0) ∧ Star (diskE a (spD D i k y) :: F) w' := by
  have HI : Hid (∀ (L : List SProp) (w : World), Star (diskE a D :: L) w → Calls Try.prog 49 #[dptr a, .int .i64 i, .int .i64 1] w fun r w' => r = .returned (.bool true) ∧ Star (dE a D.sure.length :: fE a D.armed D.left :: sE a D.sure :: mE a (lmv D) :: L) w') := in_yes (a := a) h i 1 (by omega)
  have hsz := h.size
  have HH := Lib.hid h
  have hl1 := su_len h hi
  have hl2 := nw_len h hi
  have HK := Lib.hid (int_key i (by omega))
  have hse : D.sure[i] = D.su i := by unfold Dsk.su; rw [List.getD_eq_getElem?_getD, List.getElem?_eq_getElem hi]; rfl
  obtain ⟨x1, hx1⟩ : ∃ x, (D.su i)[k]? = some x := ⟨_, List.getElem?_eq_getElem (by omega)⟩
  obtain ⟨x2, hx2⟩ : ∃ x, (D.nw i)[k]? = some x := ⟨_, List.getElem?_eq_getElem (by omega)⟩
  have hg1 : (D.su i).getD k 0 = x1 := by rw [List.getD_eq_getElem?_getD, hx1]; rfl
  have hg2 : (D.nw i).getD k 0 = x2 := by rw [List.getD_eq_getElem?_getD, hx2]; rfl
  have HVS : Hid ((bvs D.sure.flatten).toArray[i * 64 + k]? = some (.int .u8 (x1.toNat : Int))) := by
    show _ = _
    rw [List.getElem?_toArray, bvs, List.getElem?_map, show i * 64 + k = 64 * i + k by omega, flat_at h.s64 hi hk, hse, hx1]
    rfl
  have HVB : Hid ((bvs (D.nw i)).toArray[k]? = some (.int .u8 (x2.toNat : Int))) := by
    show _ = _
    rw [List.getElem?_toArray, bvs, List.getElem?_map, hx2]
    rfl
  have HSS : Hid ((bvs D.sure.flatten).toArray.setIfInBounds (i * 64 + k) (.int .u8 ((x1.toNat ^^^ y.toNat : Nat) : Int)) = (bvs (spD D i k y).sure.flatten).toArray) := by
    show _ = _
    rw [bvs_setB, flat_set1 h.s64 hi hk, hse]
    unfold spD spB
    rw [hg1]
  have HSB : Hid ((bvs (D.nw i)).toArray.setIfInBounds k (.int .u8 ((x2.toNat ^^^ y.toNat : Nat) : Int)) = (bvs (spB (D.nw i) k y)).toArray) := by
    show _ = _
    rw [bvs_setB]
    unfold spB
    rw [hg2]
  have HNL := Lib.hid hl2
  have HBL : Hid ((spB (D.nw i) k y).length = 64) := by show _ = _; rw [spB_len]; exact hl2
  have HZS : Hid (i * 64 + k < (bvs D.sure.flatten).toArray.size) := by show _ < _; rw [List.size_toArray, bvs_len, flat_64 h.s64]; omega
  have HZB : Hid (k < (bvs (D.nw i)).toArray.size) := by show _ < _; rw [List.size_toArray, bvs_len]; omega
  have HSN := Lib.hid (spD_len D i k y)
  have hiI : (i : Int) < (D.sure.length : Int) := by omega
  have hkI : (k : Int) < 64 := by omega
  cases hl : D.l i with
  | true =>
    have HHIT := Lib.hid (lmv_hit hi hl)
    obtain ⟨r, hp1, hp2⟩ := lmv_sp_old h hi k y hl
    have HP1 := Lib.hid hp1
    have HP2 := Lib.hid hp2
    clear h hl1 hl2 hse hx1 hx2 hg1 hg2 hl hp1 hp2
    go_enter Try.func59, Try.ntmps59
    go_wp2_with (first | (go_at_call 49; have hM0 := hM; clear hM; (first | (with_reducible refine (HI.out _ _ hM0).mono ?_) | fail); clear hM0; rintro _ w ⟨rfl, hM⟩) | (first | ((with_reducible refine at_load' ?_); (refine BigFrame.wpList_want (by rfl) fun K hK => ws_load1 hM rfl rfl (by (repeat (first | assumption | (with_reducible exact mZ) | apply mS)); first | done | fail) (by first | rfl | assumption) (by decide +kernel) (hK _ _ ?_); clear hK K)) | fail) | (first | ((with_reducible refine at_load' ?_); (refine BigFrame.wpList_want (by rfl) fun K hK => ws_load1 hM rfl rfl (by (repeat (first | assumption | (with_reducible exact mZ) | apply mS)); first | done | fail) (by exact HVB.out) (by decide +kernel) (hK _ _ ?_); clear hK K)) | fail) | (first | ((with_reducible refine at_lookup' ?_); (refine BigFrame.wpList_want (by rfl) fun K hK => ws_of_ex (ex_hit2 (key := iv64 i) hM rfl Try.underlying54 rfl rfl (by (repeat (first | assumption | (with_reducible exact mZ) | apply mS)); first | done | fail) keyed_i HK.out HHIT.out) (hK _ _ ?_); clear hK K)) | fail) | (first | ((with_reducible refine at_alloc' ?_); (have hM0 := hM; clear hM; refine BigFrame.wpList_want (by rfl) fun K hK => ws_alloc hM0 (t := 106) rfl (bvs z64).toArray info_blkz (fun g9 w hM => hK _ _ ?_); clear hM0 hK K)) | fail) | (first | ((with_reducible refine at_store' ?_); (have hM0 := hM; clear hM; refine BigFrame.wpList_want (by rfl) fun K hK => ws_store hM0 rfl rfl rfl (by (repeat (first | (with_reducible exact Take.head) | apply Take.tail)); first | done | fail) (n := 64) (by simp [bvs_len, HNL.out]) (by rfl) (by kernel_rfl) (by simpa using bvs_oneCell _) (fun w hM => hK _ _ ?_); clear hM0 hK K)) | fail) | (first | ((with_reducible refine at_store' ?_); (have hM0 := hM; clear hM; refine BigFrame.wpList_want (by rfl) fun K hK => ws_store1 hM0 rfl rfl (by go_simp; rfl) (by first | rfl | assumption) (by (repeat (first | (with_reducible exact Take.head) | apply Take.tail)); first | done | fail) (by exact HZB.out) (by kernel_rfl) (by exact HSB.out) (fun w hM => hK _ _ ?_); clear hM0 hK K)) | fail))
    (refine region_RS ([dE a D.sure.length, cellsE g9 106 (bvs (spB (D.nw i) k y)).toArray]) [6] (by kernel_rfl) hM ?_; clear hM; change RS _ _ _ _ _ _ 7 (Array.replicate 7 false) _ _; refine RS_take (i := 0) rfl (by decide +kernel) (fun _ _ _ h => h) (by first | (intro x hx; (repeat (first | exact hx | apply mS)); done) | ((repeat (refine List.forall_mem_cons.2 ⟨(by (repeat (first | assumption | (with_reducible exact mZ) | apply mS)); first | done | fail), ?_⟩)); intro x hx; first | (cases hx; done) | ((repeat (first | exact hx | apply mS)); done))) (stab_pure (by rfl) (fun w => (by go_simp; try with_reducible rfl))) ?_; simp only [Act.put, List.setIfInBounds_toArray, List.set_cons_zero, List.set_cons_succ]; refine RS_take (i := 1) rfl (by decide +kernel) (fun _ _ _ h => h) (by first | (intro x hx; (repeat (first | exact hx | apply mS)); done) | ((repeat (refine List.forall_mem_cons.2 ⟨(by (repeat (first | assumption | (with_reducible exact mZ) | apply mS)); first | done | fail), ?_⟩)); intro x hx; first | (cases hx; done) | ((repeat (first | exact hx | apply mS)); done))) (stab_pure (by rfl) (fun w => (by go_simp; try with_reducible rfl))) ?_; simp only [Act.put, List.setIfInBounds_toArray, List.set_cons_zero, List.set_cons_succ]; refine RS_take (i := 2) rfl (by decide +kernel) (fun _ _ _ h => h) (by first | (intro x hx; (repeat (first | exact hx | apply mS)); done) | ((repeat (refine List.forall_mem_cons.2 ⟨(by (repeat (first | assumption | (with_reducible exact mZ) | apply mS)); first | done | fail), ?_⟩)); intro x hx; first | (cases hx; done) | ((repeat (first | exact hx | apply mS)); done))) (stab_pure (by rfl) (fun w => (by go_simp; try with_reducible rfl))) ?_; simp only [Act.put, List.setIfInBounds_toArray, List.set_cons_zero, List.set_cons_succ]; refine RS_take (i := 3) rfl (by decide +kernel) (fun _ _ _ h => h) (by first | (intro x hx; (repeat (first | exact hx | apply mS)); done) | ((repeat (refine List.forall_mem_cons.2 ⟨(by (repeat (first | assumption | (with_reducible exact mZ) | apply mS)); first | done | fail), ?_⟩)); intro x hx; first | (cases hx; done) | ((repeat (first | exact hx | apply mS)); done))) (stab_read (by rfl) (fun L w hL hM => (ex_load1 (v := .map (some a.m)) hM rfl rfl (hL _ (by (repeat (first | assumption | (with_reducible exact mZ) | apply mS)); first | done | fail)) rfl (by decide +kernel)))) ?_; simp only [Act.put, List.setIfInBounds_toArray, List.set_cons_zero, List.set_cons_succ]; refine RS_take (i := 4) rfl (by decide +kernel) (fun _ _ _ h => h) (by first | (intro x hx; (repeat (first | exact hx | apply mS)); done) | ((repeat (refine List.forall_mem_cons.2 ⟨(by (repeat (first | assumption | (with_reducible exact mZ) | apply mS)); first | done | fail), ?_⟩)); intro x hx; first | (cases hx; done) | ((repeat (first | exact hx | apply mS)); done))) (stab_pure (by rfl) (fun w => (by go_simp; try with_reducible rfl))) ?_; simp only [Act.put, List.setIfInBounds_toArray, List.set_cons_zero, List.set_cons_succ]; refine RS_take (i := 5) rfl (by decide +kernel) (fun _ _ _ h => h) (by first | (intro x hx; (repeat (first | exact hx | apply mS)); done) | ((repeat (refine List.forall_mem_cons.2 ⟨(by (repeat (first | assumption | (with_reducible exact mZ) | apply mS)); first | done | fail), ?_⟩)); intro x hx; first | (cases hx; done) | ((repeat (first | exact hx | apply mS)); done))) (stab_read (by rfl) (fun L w hL hM => (ex_load hM rfl rfl (hL _ (by (repeat (first | assumption | (with_reducible exact mZ) | apply mS)); first | done | fail)) (n := 64) (by simp [bvs_len, HBL.out]) (by decide +kernel)))) ?_; simp only [Act.put, List.setIfInBounds_toArray, List.set_cons_zero, List.set_cons_succ]; refine RS_one (i := 6) (by decide +kernel) rfl (by rfl) (.inl (by first | (intro x hx; (repeat (first | exact hx | apply mS)); done) | ((repeat (refine List.forall_mem_cons.2 ⟨(by (repeat (first | assumption | (with_reducible exact mZ) | apply mS)); first | done | fail), ?_⟩)); intro x hx; first | (cases hx; done) | ((repeat (first | exact hx | apply mS)); done)))) (fun w K hM0 hK => ?_); refine ws_update_old (key := iv64 i) (v := avb (spB (D.nw i) k y)) hM0 rfl Try.underlying54 rfl rfl rfl (by (repeat (first | (with_reducible exact Take.head) | apply Take.tail)); first | done | fail) keyed_i HK.out HP1.out (fun w hM => hK _ _ _ hM ?_); clear hM hM0 hK K; simp only [Act.put, List.setIfInBounds_toArray, List.set_cons_zero, List.set_cons_succ]; refine RS_done (by decide +kernel) (.inr (by decide +kernel)) (fun w hM => ?_))
    all_goals (
      go_wp2_with fail
      (refine region_RS ([dE a D.sure.length, sE a D.sure]) [13] (by kernel_rfl) hM ?_; clear hM; change RS _ _ _ _ _ _ 14 (Array.replicate 14 false) _ _; refine RS_take (i := 0) rfl (by decide +kernel) (fun _ _ _ h => h) (by first | (intro x hx; (repeat (first | exact hx | apply mS)); done) | ((repeat (refine List.forall_mem_cons.2 ⟨(by (repeat (first | assumption | (with_reducible exact mZ) | apply mS)); first | done | fail), ?_⟩)); intro x hx; first | (cases hx; done) | ((repeat (first | exact hx | apply mS)); done))) (stab_pure (by rfl) (fun w => (by go_simp; try with_reducible rfl))) ?_; simp only [Act.put, List.setIfInBounds_toArray, List.set_cons_zero, List.set_cons_succ]; refine RS_take (i := 1) rfl (by decide +kernel) (fun _ _ _ h => h) (by first | (intro x hx; (repeat (first | exact hx | apply mS)); done) | ((repeat (refine List.forall_mem_cons.2 ⟨(by (repeat (first | assumption | (with_reducible exact mZ) | apply mS)); first | done | fail), ?_⟩)); intro x hx; first | (cases hx; done) | ((repeat (first | exact hx | apply mS)); done))) (stab_pure (by rfl) (fun w => (by go_simp; try with_reducible rfl))) ?_; simp only [Act.put, List.setIfInBounds_toArray, List.set_cons_zero, List.set_cons_succ]; refine RS_take (i := 2) rfl (by decide +kernel) (fun _ _ _ h => h) (by first | (intro x hx; (repeat (first | exact hx | apply mS)); done) | ((repeat (refine List.forall_mem_cons.2 ⟨(by (repeat (first | assumption | (with_reducible exact mZ) | apply mS)); first | done | fail), ?_⟩)); intro x hx; first | (cases hx; done) | ((repeat (first | exact hx | apply mS)); done))) (stab_pure (by rfl) (fun w => (by go_simp; try with_reducible rfl))) ?_; simp only [Act.put, List.setIfInBounds_toArray, List.set_cons_zero, List.set_cons_succ]; refine RS_take (i := 3) rfl (by decide +kernel) (fun _ _ _ h => h) (by first | (intro x hx; (repeat (first | exact hx | apply mS)); done) | ((repeat (refine List.forall_mem_cons.2 ⟨(by (repeat (first | assumption | (with_reducible exact mZ) | apply mS)); first | done | fail), ?_⟩)); intro x hx; first | (cases hx; done) | ((repeat (first | exact hx | apply mS)); done))) (stab_read (by rfl) (fun L w hL hM => (ex_load1 (v := .slice (some ⟨a.g, 0, none⟩) D.sure.length D.sure.length) hM rfl rfl (hL _ (by (repeat (first | assumption | (with_reducible exact mZ) | apply mS)); first | done | fail)) rfl (by decide +kernel)))) ?_; simp only [Act.put, List.setIfInBounds_toArray, List.set_cons_zero, List.set_cons_succ]; refine RS_take (i := 4) rfl (by decide +kernel) (fun _ _ _ h => h) (by first | (intro x hx; (repeat (first | exact hx | apply mS)); done) | ((repeat (refine List.forall_mem_cons.2 ⟨(by (repeat (first | assumption | (with_reducible exact mZ) | apply mS)); first | done | fail), ?_⟩)); intro x hx; first | (cases hx; done) | ((repeat (first | exact hx | apply mS)); done))) (stab_pure (by rfl) (fun w => (by go_simp; try with_reducible rfl))) ?_; simp only [Act.put, List.setIfInBounds_toArray, List.set_cons_zero, List.set_cons_succ]; refine RS_take (i := 5) rfl (by decide +kernel) (fun _ _ _ h => h) (by first | (intro x hx; (repeat (first | exact hx | apply mS)); done) | ((repeat (refine List.forall_mem_cons.2 ⟨(by (repeat (first | assumption | (with_reducible exact mZ) | apply mS)); first | done | fail), ?_⟩)); intro x hx; first | (cases hx; done) | ((repeat (first | exact hx | apply mS)); done))) (stab_pure (by rfl) (fun w => (by go_simp; try with_reducible rfl))) ?_; simp only [Act.put, List.setIfInBounds_toArray, List.set_cons_zero, List.set_cons_succ]; refine RS_take (i := 6) rfl (by decide +kernel) (fun _ _ _ h => h) (by first | (intro x hx; (repeat (first | exact hx | apply mS)); done) | ((repeat (refine List.forall_mem_cons.2 ⟨(by (repeat (first | assumption | (with_reducible exact mZ) | apply mS)); first | done | fail), ?_⟩)); intro x hx; first | (cases hx; done) | ((repeat (first | exact hx | apply mS)); done))) (stab_pure (by rfl) (fun w => (by go_simp; try with_reducible rfl))) ?_; simp only [Act.put, List.setIfInBounds_toArray, List.set_cons_zero, List.set_cons_succ]; refine RS_take (i := 7) rfl (by decide +kernel) (fun _ _ _ h => h) (by first | (intro x hx; (repeat (first | exact hx | apply mS)); done) | ((repeat (refine List.forall_mem_cons.2 ⟨(by (repeat (first | assumption | (with_reducible exact mZ) | apply mS)); first | done | fail), ?_⟩)); intro x hx; first | (cases hx; done) | ((repeat (first | exact hx | apply mS)); done))) (stab_pure (by rfl) (fun w => (by go_simp; try with_reducible rfl))) ?_; simp only [Act.put, List.setIfInBounds_toArray, List.set_cons_zero, List.set_cons_succ]; refine RS_take (i := 8) rfl (by decide +kernel) (fun _ _ _ h => h) (by first | (intro x hx; (repeat (first | exact hx | apply mS)); done) | ((repeat (refine List.forall_mem_cons.2 ⟨(by (repeat (first | assumption | (with_reducible exact mZ) | apply mS)); first | done | fail), ?_⟩)); intro x hx; first | (cases hx; done) | ((repeat (first | exact hx | apply mS)); done))) (stab_read (by rfl) (fun L w hL hM => (ex_load1 (v := .int .u8 (x1.toNat : Int)) hM rfl rfl (hL (sE a D.sure) (by (repeat (first | assumption | (with_reducible exact mZ) | apply mS)); first | done | fail)) HVS.out (by decide +kernel)))) ?_; simp only [Act.put, List.setIfInBounds_toArray, List.set_cons_zero, List.set_cons_succ]; refine RS_take (i := 9) rfl (by decide +kernel) (fun _ _ _ h => h) (by first | (intro x hx; (repeat (first | exact hx | apply mS)); done) | ((repeat (refine List.forall_mem_cons.2 ⟨(by (repeat (first | assumption | (with_reducible exact mZ) | apply mS)); first | done | fail), ?_⟩)); intro x hx; first | (cases hx; done) | ((repeat (first | exact hx | apply mS)); done))) (stab_pure (by rfl) (fun w => (by go_simp; try with_reducible rfl))) ?_; simp only [Act.put, List.setIfInBounds_toArray, List.set_cons_zero, List.set_cons_succ]; refine RS_take (i := 10) rfl (by decide +kernel) (fun _ _ _ h => h) (by first | (intro x hx; (repeat (first | exact hx | apply mS)); done) | ((repeat (refine List.forall_mem_cons.2 ⟨(by (repeat (first | assumption | (with_reducible exact mZ) | apply mS)); first | done | fail), ?_⟩)); intro x hx; first | (cases hx; done) | ((repeat (first | exact hx | apply mS)); done))) (stab_pure (by rfl) (fun w => (by go_simp; try with_reducible rfl))) ?_; simp only [Act.put, List.setIfInBounds_toArray, List.set_cons_zero, List.set_cons_succ]; refine RS_take (i := 11) rfl (by decide +kernel) (fun _ _ _ h => h) (by first | (intro x hx; (repeat (first | exact hx | apply mS)); done) | ((repeat (refine List.forall_mem_cons.2 ⟨(by (repeat (first | assumption | (with_reducible exact mZ) | apply mS)); first | done | fail), ?_⟩)); intro x hx; first | (cases hx; done) | ((repeat (first | exact hx | apply mS)); done))) (stab_pure (by rfl) (fun w => (by go_simp; try with_reducible rfl))) ?_; simp only [Act.put, List.setIfInBounds_toArray, List.set_cons_zero, List.set_cons_succ]; refine RS_take (i := 12) rfl (by decide +kernel) (fun _ _ _ h => h) (by first | (intro x hx; (repeat (first | exact hx | apply mS)); done) | ((repeat (refine List.forall_mem_cons.2 ⟨(by (repeat (first | assumption | (with_reducible exact mZ) | apply mS)); first | done | fail), ?_⟩)); intro x hx; first | (cases hx; done) | ((repeat (first | exact hx | apply mS)); done))) (stab_pure (by rfl) (fun w => (by go_simp; try with_reducible rfl))) ?_; simp only [Act.put, List.setIfInBounds_toArray, List.set_cons_zero, List.set_cons_succ]; refine RS_one (i := 13) (by decide +kernel) rfl (by rfl) (.inl (by first | (intro x hx; (repeat (first | exact hx | apply mS)); done) | ((repeat (refine List.forall_mem_cons.2 ⟨(by (repeat (first | assumption | (with_reducible exact mZ) | apply mS)); first | done | fail), ?_⟩)); intro x hx; first | (cases hx; done) | ((repeat (first | exact hx | apply mS)); done)))) (fun w K hM0 hK => ?_); refine ws_store1 hM0 rfl rfl (by go_simp; rfl) (by first | rfl | assumption) (by (repeat (first | (with_reducible exact Take.head) | apply Take.tail)); first | done | fail) (by exact HZS.out) (by kernel_rfl) (by exact HSS.out) (fun w hM => hK _ _ _ hM ?_); clear hM hM0 hK K; simp only [Act.put, List.setIfInBounds_toArray, List.set_cons_zero, List.set_cons_succ]; refine RS_done (by decide +kernel) (.inr (by decide +kernel)) (fun w hM => ?_))
      all_goals (
        go_wp2_with fail
        go_ret
        refine ⟨rfl, Star.djoin (D := spD D i k y) ?_⟩
        have hM2 : Star (dE a D.sure.length :: fE a D.armed D.left :: sE a (spD D i k y).sure :: mE a ((iv64 i, avb (spB (D.nw i) k y)) :: r) :: F) _ := (hM.sel (by repeat (first | (with_reducible exact Sel.refl) | (with_reducible exact Take.head) | (with_reducible apply Take.tail) | (with_reducible apply Sel.cons) | (with_reducible apply Sel.drop))) : Star (sE a (spD D i k y).sure :: mE a ((iv64 i, avb (spB (D.nw i) k y)) :: r) :: dE a D.sure.length :: fE a D.armed D.left :: F) _).perm (List.perm_append_comm (l₁ := [sE a (spD D i k y).sure, mE a ((iv64 i, avb (spB (D.nw i) k y)) :: r)]) (l₂ := [dE a D.sure.length, fE a D.armed D.left]) |>.append_right F)
        have hM3 := (hM2.take (x := mE a ((iv64 i, avb (spB (D.nw i) k y)) :: r)) (by (repeat (first | (with_reducible exact Take.head) | apply Take.tail)); first | done | fail)).map_perm HP2.out
        rw [HSN.out]
        exact hM3.perm (List.perm_append_comm (l₁ := [mE a (lmv (spD D i k y))]) (l₂ := [dE a D.sure.length, fE a D.armed D.left, sE a (spD D i k y).sure]) |>.append_right F)))
  | false =>
    have HMS : Hid (∀ p ∈ lmv D, p.1 ≠ iv64 i) := lmv_miss hi hl
    have HLM := Lib.hid (lmv_sp_new h hi k y hl)
    have HZ : Hid (∀ w, (zeroValue 106).run Try.prog w = .ok (.agg (bvs (List.replicate 64 0)).toArray) w) := fun w => by kernel_rfl
    clear h hl1 hl2 hse hx1 hx2 hg1 hg2 hl
    go_enter Try.func59, Try.ntmps59
    go_wp2_with (first | (go_at_call 49; have hM0 := hM; clear hM; (first | (with_reducible refine (HI.out _ _ hM0).mono ?_) | fail); clear hM0; rintro _ w ⟨rfl, hM⟩) | (first | ((with_reducible refine at_load' ?_); (refine BigFrame.wpList_want (by rfl) fun K hK => ws_load1 hM rfl rfl (by (repeat (first | assumption | (with_reducible exact mZ) | apply mS)); first | done | fail) (by first | rfl | assumption) (by decide +kernel) (hK _ _ ?_); clear hK K)) | fail) | (first | ((with_reducible refine at_lookup' ?_); (refine BigFrame.wpList_want (by rfl) fun K hK => ws_of_ex (ex_miss2 (key := iv64 i) hM rfl Try.underlying54 HZ.out rfl rfl (by (repeat (first | assumption | (with_reducible exact mZ) | apply mS)); first | done | fail) keyed_i HK.out HMS.out) (hK _ _ ?_); clear hK K)) | fail) | (first | ((with_reducible refine at_alloc' ?_); (have hM0 := hM; clear hM; refine BigFrame.wpList_want (by rfl) fun K hK => ws_alloc hM0 (t := 106) rfl (bvs z64).toArray info_blkz (fun g9 w hM => hK _ _ ?_); clear hM0 hK K)) | fail) | (first | ((with_reducible refine at_store' ?_); (have hM0 := hM; clear hM; refine BigFrame.wpList_want (by rfl) fun K hK => ws_store hM0 rfl rfl rfl (by (repeat (first | (with_reducible exact Take.head) | apply Take.tail)); first | done | fail) (n := 64) (by first | rfl | (simp [bvs_len]; done)) (by first | rfl | (simp [bvs_len]; done)) (by kernel_rfl) (by simpa using bvs_oneCell _) (fun w hM => hK _ _ ?_); clear hM0 hK K)) | fail))
    (refine region_RS ([dE a D.sure.length, sE a D.sure]) [13] (by kernel_rfl) hM ?_; clear hM; change RS _ _ _ _ _ _ 14 (Array.replicate 14 false) _ _; refine RS_take (i := 0) rfl (by decide +kernel) (fun _ _ _ h => h) (by first | (intro x hx; (repeat (first | exact hx | apply mS)); done) | ((repeat (refine List.forall_mem_cons.2 ⟨(by (repeat (first | assumption | (with_reducible exact mZ) | apply mS)); first | done | fail), ?_⟩)); intro x hx; first | (cases hx; done) | ((repeat (first | exact hx | apply mS)); done))) (stab_pure (by rfl) (fun w => (by go_simp; try with_reducible rfl))) ?_; simp only [Act.put, List.setIfInBounds_toArray, List.set_cons_zero, List.set_cons_succ]; refine RS_take (i := 1) rfl (by decide +kernel) (fun _ _ _ h => h) (by first | (intro x hx; (repeat (first | exact hx | apply mS)); done) | ((repeat (refine List.forall_mem_cons.2 ⟨(by (repeat (first | assumption | (with_reducible exact mZ) | apply mS)); first | done | fail), ?_⟩)); intro x hx; first | (cases hx; done) | ((repeat (first | exact hx | apply mS)); done))) (stab_pure (by rfl) (fun w => (by go_simp; try with_reducible rfl))) ?_; simp only [Act.put, List.setIfInBounds_toArray, List.set_cons_zero, List.set_cons_succ]; refine RS_take (i := 2) rfl (by decide +kernel) (fun _ _ _ h => h) (by first | (intro x hx; (repeat (first | exact hx | apply mS)); done) | ((repeat (refine List.forall_mem_cons.2 ⟨(by (repeat (first | assumption | (with_reducible exact mZ) | apply mS)); first | done | fail), ?_⟩)); intro x hx; first | (cases hx; done) | ((repeat (first | exact hx | apply mS)); done))) (stab_pure (by rfl) (fun w => (by go_simp; try with_reducible rfl))) ?_; simp only [Act.put, List.setIfInBounds_toArray, List.set_cons_zero, List.set_cons_succ]; refine RS_take (i := 3) rfl (by decide +kernel) (fun _ _ _ h => h) (by first | (intro x hx; (repeat (first | exact hx | apply mS)); done) | ((repeat (refine List.forall_mem_cons.2 ⟨(by (repeat (first | assumption | (with_reducible exact mZ) | apply mS)); first | done | fail), ?_⟩)); intro x hx; first | (cases hx; done) | ((repeat (first | exact hx | apply mS)); done))) (stab_read (by rfl) (fun L w hL hM => (ex_load1 (v := .slice (some ⟨a.g, 0, none⟩) D.sure.length D.sure.length) hM rfl rfl (hL _ (by (repeat (first | assumption | (with_reducible exact mZ) | apply mS)); first | done | fail)) rfl (by decide +kernel)))) ?_; simp only [Act.put, List.setIfInBounds_toArray, List.set_cons_zero, List.set_cons_succ]; refine RS_take (i := 4) rfl (by decide +kernel) (fun _ _ _ h => h) (by first | (intro x hx; (repeat (first | exact hx | apply mS)); done) | ((repeat (refine List.forall_mem_cons.2 ⟨(by (repeat (first | assumption | (with_reducible exact mZ) | apply mS)); first | done | fail), ?_⟩)); intro x hx; first | (cases hx; done) | ((repeat (first | exact hx | apply mS)); done))) (stab_pure (by rfl) (fun w => (by go_simp; try with_reducible rfl))) ?_; simp only [Act.put, List.setIfInBounds_toArray, List.set_cons_zero, List.set_cons_succ]; refine RS_take (i := 5) rfl (by decide +kernel) (fun _ _ _ h => h) (by first | (intro x hx; (repeat (first | exact hx | apply mS)); done) | ((repeat (refine List.forall_mem_cons.2 ⟨(by (repeat (first | assumption | (with_reducible exact mZ) | apply mS)); first | done | fail), ?_⟩)); intro x hx; first | (cases hx; done) | ((repeat (first | exact hx | apply mS)); done))) (stab_pure (by rfl) (fun w => (by go_simp; try with_reducible rfl))) ?_; simp only [Act.put, List.setIfInBounds_toArray, List.set_cons_zero, List.set_cons_succ]; refine RS_take (i := 6) rfl (by decide +kernel) (fun _ _ _ h => h) (by first | (intro x hx; (repeat (first | exact hx | apply mS)); done) | ((repeat (refine List.forall_mem_cons.2 ⟨(by (repeat (first | assumption | (with_reducible exact mZ) | apply mS)); first | done | fail), ?_⟩)); intro x hx; first | (cases hx; done) | ((repeat (first | exact hx | apply mS)); done))) (stab_pure (by rfl) (fun w => (by go_simp; try with_reducible rfl))) ?_; simp only [Act.put, List.setIfInBounds_toArray, List.set_cons_zero, List.set_cons_succ]; refine RS_take (i := 7) rfl (by decide +kernel) (fun _ _ _ h => h) (by first | (intro x hx; (repeat (first | exact hx | apply mS)); done) | ((repeat (refine List.forall_mem_cons.2 ⟨(by (repeat (first | assumption | (with_reducible exact mZ) | apply mS)); first | done | fail), ?_⟩)); intro x hx; first | (cases hx; done) | ((repeat (first | exact hx | apply mS)); done))) (stab_pure (by rfl) (fun w => (by go_simp; try with_reducible rfl))) ?_; simp only [Act.put, List.setIfInBounds_toArray, List.set_cons_zero, List.set_cons_succ]; refine RS_take (i := 8) rfl (by decide +kernel) (fun _ _ _ h => h) (by first | (intro x hx; (repeat (first | exact hx | apply mS)); done) | ((repeat (refine List.forall_mem_cons.2 ⟨(by (repeat (first | assumption | (with_reducible exact mZ) | apply mS)); first | done | fail), ?_⟩)); intro x hx; first | (cases hx; done) | ((repeat (first | exact hx | apply mS)); done))) (stab_read (by rfl) (fun L w hL hM => (ex_load1 (v := .int .u8 (x1.toNat : Int)) hM rfl rfl (hL (sE a D.sure) (by (repeat (first | assumption | (with_reducible exact mZ) | apply mS)); first | done | fail)) HVS.out (by decide +kernel)))) ?_; simp only [Act.put, List.setIfInBounds_toArray, List.set_cons_zero, List.set_cons_succ]; refine RS_take (i := 9) rfl (by decide +kernel) (fun _ _ _ h => h) (by first | (intro x hx; (repeat (first | exact hx | apply mS)); done) | ((repeat (refine List.forall_mem_cons.2 ⟨(by (repeat (first | assumption | (with_reducible exact mZ) | apply mS)); first | done | fail), ?_⟩)); intro x hx; first | (cases hx; done) | ((repeat (first | exact hx | apply mS)); done))) (stab_pure (by rfl) (fun w => (by go_simp; try with_reducible rfl))) ?_; simp only [Act.put, List.setIfInBounds_toArray, List.set_cons_zero, List.set_cons_succ]; refine RS_take (i := 10) rfl (by decide +kernel) (fun _ _ _ h => h) (by first | (intro x hx; (repeat (first | exact hx | apply mS)); done) | ((repeat (refine List.forall_mem_cons.2 ⟨(by (repeat (first | assumption | (with_reducible exact mZ) | apply mS)); first | done | fail), ?_⟩)); intro x hx; first | (cases hx; done) | ((repeat (first | exact hx | apply mS)); done))) (stab_pure (by rfl) (fun w => (by go_simp; try with_reducible rfl))) ?_; simp only [Act.put, List.setIfInBounds_toArray, List.set_cons_zero, List.set_cons_succ]; refine RS_take (i := 11) rfl (by decide +kernel) (fun _ _ _ h => h) (by first | (intro x hx; (repeat (first | exact hx | apply mS)); done) | ((repeat (refine List.forall_mem_cons.2 ⟨(by (repeat (first | assumption | (with_reducible exact mZ) | apply mS)); first | done | fail), ?_⟩)); intro x hx; first | (cases hx; done) | ((repeat (first | exact hx | apply mS)); done))) (stab_pure (by rfl) (fun w => (by go_simp; try with_reducible rfl))) ?_; simp only [Act.put, List.setIfInBounds_toArray, List.set_cons_zero, List.set_cons_succ]; refine RS_take (i := 12) rfl (by decide +kernel) (fun _ _ _ h => h) (by first | (intro x hx; (repeat (first | exact hx | apply mS)); done) | ((repeat (refine List.forall_mem_cons.2 ⟨(by (repeat (first | assumption | (with_reducible exact mZ) | apply mS)); first | done | fail), ?_⟩)); intro x hx; first | (cases hx; done) | ((repeat (first | exact hx | apply mS)); done))) (stab_pure (by rfl) (fun w => (by go_simp; try with_reducible rfl))) ?_; simp only [Act.put, List.setIfInBounds_toArray, List.set_cons_zero, List.set_cons_succ]; refine RS_one (i := 13) (by decide +kernel) rfl (by rfl) (.inl (by first | (intro x hx; (repeat (first | exact hx | apply mS)); done) | ((repeat (refine List.forall_mem_cons.2 ⟨(by (repeat (first | assumption | (with_reducible exact mZ) | apply mS)); first | done | fail), ?_⟩)); intro x hx; first | (cases hx; done) | ((repeat (first | exact hx | apply mS)); done)))) (fun w K hM0 hK => ?_); refine ws_store1 hM0 rfl rfl (by go_simp; rfl) (by first | rfl | assumption) (by (repeat (first | (with_reducible exact Take.head) | apply Take.tail)); first | done | fail) (by exact HZS.out) (by kernel_rfl) (by exact HSS.out) (fun w hM => hK _ _ _ hM ?_); clear hM hM0 hK K; simp only [Act.put, List.setIfInBounds_toArray, List.set_cons_zero, List.set_cons_succ]; refine RS_done (by decide +kernel) (.inr (by decide +kernel)) (fun w hM => ?_))
    all_goals (
      go_wp2_with fail
      go_ret
      refine ⟨rfl, Star.djoin (D := spD D i k y) ?_⟩
      rw [HSN.out, ← HLM.out]
      exact (hM.sel (by repeat (first | (with_reducible exact Sel.refl) | (with_reducible exact Take.head) | (with_reducible apply Take.tail) | (with_reducible apply Sel.cons) | (with_reducible apply Sel.drop))) : Star (sE a (spD D i k y).sure :: dE a D.sure.length :: fE a D.armed D.left :: mE a (lmv D) :: F) _).perm (List.perm_append_comm (l₁ := [sE a (spD D i k y).sure]) (l₂ := [dE a D.sure.length, fE a D.armed D.left]) |>.append_right (mE a (lmv D) :: F)))
end
end Go.Proofs.Ytbejifbiffeamaa
set_option linter.unusedSimpArgs false
set_option linter.unusedVariables false
namespace Go.Proofs.Ytbejifbiffeamaa
open Go.RowKit
attribute [local go_sem] extract_mid extract_drop bget bsize wrap64_u8 i64_u8 u64_u8 bappend
instance (N : Nat) (x n : Int) : Decidable (inP N x n) := inferInstanceAs (Decidable (_ ∧ _ ∧ _ ∧ _))
def readO (D : Dsk) (x n : Int) : Prop := inP D.sure.length x n
instance (D : Dsk) (x n : Int) : Decidable (readO D x n) := inferInstanceAs (Decidable (inP _ _ _))
def readE3 (D : Dsk) (x n : Int) : Int := if readO D x n then (if failD D then 13 else 0) else 10
def readB3 (D : Dsk) (x n : Int) : List UInt8 := if readO D x n then (if failD D then [] else rdD D x.toNat n.toNat) else []
def readG3 (D : Dsk) (x n : Int) : Dsk := if readO D x n then (if failD D then D else D.dec) else D
def wrO (D : Dsk) (x : Int) (ts : List (List UInt8)) : Prop := inP D.sure.length x ts.length ∧ anyBig ts = false
instance (D : Dsk) (x : Int) (ts : List (List UInt8)) : Decidable (wrO D x ts) := inferInstanceAs (Decidable (_ ∧ _))
def wrE3 (D : Dsk) (x : Int) (ts : List (List UInt8)) : Int := if wrO D x ts then (if failD D then 13 else 0) else 10
def wrG3 (D : Dsk) (x : Int) (ts : List (List UInt8)) : Dsk := if wrO D x ts then (if failD D then D else wrD D.dec x.toNat ts ts.length) else D
def syE3 (D : Dsk) : Int := if failD D then 13 else 0
def syG3 (D : Dsk) : Dsk := if failD D then D else D.dec.calm D.now
def spO (D : Dsk) (x k : Int) : Prop := inP D.sure.length x 1 ∧ 0 ≤ k ∧ k < 64
instance (D : Dsk) (x k : Int) : Decidable (spO D x k) := inferInstanceAs (Decidable (_ ∧ _ ∧ _))
def spE3 (D : Dsk) (x k : Int) : Int := if spO D x k then 0 else 10
def spG3 (D : Dsk) (x k : Int) (y : UInt8) : Dsk := if spO D x k then spD D x.toNat k.toNat y else D
def armG (D : Dsk) (n : Int) : Dsk := { D with armed := true, left := max n 0 }
def clrG (D : Dsk) : Dsk := { D with armed := false }
theorem fail_no {D : Dsk} (hf : failD D = false) : D.armed = true → D.left ≠ 0 := by
  unfold failD at hf
  intro h e
  rw [h, e] at hf
  exact absurd hf (by decide)
theorem fail_yes {D : Dsk} (hf : failD D = true) : D.armed = true ∧ D.left = 0 := by
  unfold failD at hf
  simpa using hf
theorem readG3_ok {D : Dsk} (h : D.ok) (x n : Int) : (readG3 D x n).ok ∧ (readG3 D x n).sure.length = D.sure.length := by
  unfold readG3
  split
  · split
    · exact ⟨h, rfl⟩
    · rename_i hf
      exact ⟨dec_ok h (fail_no (by simpa using hf)), rfl⟩
  · exact ⟨h, rfl⟩
theorem inP_nat {N : Nat} {x n : Int} (h : inP N x n) : x = (x.toNat : Int) ∧ n = (n.toNat : Int) ∧ x.toNat + n.toNat ≤ N := by
  obtain ⟨h1, h2, h3, h4⟩ := h
  omega
theorem wrG3_ok {D : Dsk} (h : D.ok) (x : Int) (ts : List (List UInt8)) : (wrG3 D x ts).ok ∧ (wrG3 D x ts).sure.length = D.sure.length := by
  unfold wrG3
  split
  · rename_i ho
    split
    · exact ⟨h, rfl⟩
    · rename_i hf
      obtain ⟨_, _, h3⟩ := inP_nat ho.1
      exact ⟨wrD_ok (dec_ok h (fail_no (by simpa using hf))) _ _ _ (by show _ ≤ D.sure.length; omega), by rw [(wrD_sure _ _ _ _).1]; rfl⟩
  · exact ⟨h, rfl⟩
theorem syG3_ok {D : Dsk} (h : D.ok) : (syG3 D).ok ∧ (syG3 D).sure.length = D.sure.length := by
  unfold syG3
  split
  · exact ⟨h, rfl⟩
  · rename_i hf
    exact ⟨calm_ok (dec_ok h (fail_no (by simpa using hf))) h.n64 h.ln, h.ln⟩
theorem spG3_ok {D : Dsk} (h : D.ok) (x k : Int) (y : UInt8) : (spG3 D x k y).ok ∧ (spG3 D x k y).sure.length = D.sure.length := by
  unfold spG3
  split
  · rename_i ho
    obtain ⟨_, _, h3⟩ := inP_nat ho.1
    exact ⟨spD_ok h (by omega) _ _, spD_len _ _ _ _⟩
  · exact ⟨h, rfl⟩
theorem armG_ok {D : Dsk} (h : D.ok) (n : Int) (hn : n ≤ 9223372036854775807) : (armG D n).ok := ⟨h.ln, h.ll, h.s64, h.n64, h.same, h.size, by show _ ≤ max n 0; omega, by show max n 0 ≤ _; omega, fun _ => by show 0 ≤ max n 0; omega⟩
theorem clrG_ok {D : Dsk} (h : D.ok) : (clrG D).ok := ⟨h.ln, h.ll, h.s64, h.n64, h.same, h.size, h.i64a, h.i64b, fun e => by cases e⟩
section
variable {F L R : List SProp} {a : DA} {D : Dsk} {A B C T : Option Addr} {c d e n t : Nat} {ts : List (List UInt8)}
theorem inD_inP {N : Nat} {x n : Int} (hn : 0 ≤ n) : inD N x n = decide (inP N x n) := by
  unfold inD
  by_cases h : inP N x n
  · obtain ⟨h1, _, h3, h4⟩ := h
    rw [decide_eq_true (show inP N x n from ⟨h1, hn, h3, h4⟩), decide_eq_true h1, decide_eq_true h3, decide_eq_true h4]
    rfl
  · rw [decide_eq_false h]
    cases hc : (decide (0 ≤ x) && (decide (n ≤ (N : Int)) && decide (x ≤ (N : Int) - n)) : Bool) with
    | false => rfl
    | true =>
      simp only [Bool.and_eq_true, decide_eq_true_eq] at hc
      exact absurd ⟨hc.1, hn, hc.2.1, hc.2.2⟩ h
/-- Reads: the disk's, the reference's. -/
theorem readU (h : D.ok) (x n : Int) (w : World) (hM : Star L w) (hm : Take (diskE a D) L R) :
    Calls Try.prog 24 #[dptr a, .int .i64 x, .int .i64 n] w fun r w' => r = .returned (.tuple #[.string ⟨(readB3 D x n).toArray⟩, .int .i64 (readE3 D x n)]) ∧ Star (diskE a (readG3 D x n) :: R) w' := by
  have hM := hM.take hm
  by_cases ho : readO D x n
  · obtain ⟨e1, e2, h3⟩ := inP_nat ho
    unfold readB3 readE3 readG3
    rw [if_pos ho, if_pos ho, if_pos ho]
    cases hf : failD D with
    | true =>
      rw [if_pos rfl, if_pos rfl, if_pos rfl, e1, e2]
      exact read_fail h x.toNat n.toNat h3 (fail_yes hf).1 (fail_yes hf).2 w hM
    | false =>
      rw [if_neg (by decide), if_neg (by decide), if_neg (by decide)]
      have := read_ok h x.toNat n.toNat h3 (fail_no hf) w hM
      rwa [← e1, ← e2] at this
  · unfold readB3 readE3 readG3
    rw [if_neg ho, if_neg ho, if_neg ho]
    by_cases hn : 0 ≤ n
    · exact read_out h x n hn (by rw [inD_inP hn]; exact decide_eq_false ho) w hM
    · exact read_neg x n (by omega) w hM
theorem readS (h : D.ok) (hN : D.sure.length ≤ 100000) (x n : Int) (w : World) (hM : Star F w) (hB : rowE 1 B D.sure.length (svs D.now) ∈ F) :
    Calls Try.prog 37 #[.agg (srV A c B d C e D.sure.length (fuD D)), .int .i64 x, .int .i64 n] w fun r w' => r = .returned (.tuple #[.agg (srV A c B d C e D.sure.length (fuD (readG3 D x n))), .string ⟨(readB3 D x n).toArray⟩, .int .i64 (readE3 D x n)]) ∧ Star F w' := by
  have hg := fuD_ge h
  by_cases ho : readO D x n
  · obtain ⟨e1, e2, h3⟩ := inP_nat ho
    unfold readB3 readE3 readG3
    rw [if_pos ho, if_pos ho, if_pos ho]
    cases hf : failD D with
    | true =>
      rw [if_pos rfl, if_pos rfl, if_pos rfl]
      exact read_s13 x n hN ho ((fuD_fail h).2 hf) w hM
    | false =>
      rw [if_neg (by decide), if_neg (by decide), if_neg (by decide), fuD_dec h hf]
      have := read_s0 (A := A) (c := c) (B := B) (d := d) (C := C) (e := e) h rfl hN x.toNat n.toNat h3 hg.1 hg.2 (fun e => by have := (fuD_fail h).1 e; rw [hf] at this; cases this) w hM hB
      rwa [← e1, ← e2] at this
  · unfold readB3 readE3 readG3
    rw [if_neg ho, if_neg ho, if_neg ho]
    exact read_s10 x n hN ho w hM
theorem writeU (h : D.ok) (x : Int) (w : World) (hM : Star L w) (hm : Take (diskE a D) L R) (hF : rowE 1 T ts.length (svs ts) ∈ R) :
    Calls Try.prog 22 #[dptr a, .int .i64 x, .slice T ts.length t] w fun r w' => r = .returned (.int .i64 (wrE3 D x ts)) ∧ Star (diskE a (wrG3 D x ts) :: R) w' := by
  have hM := hM.take hm
  unfold wrE3 wrG3
  by_cases ho : inP D.sure.length x ts.length
  · obtain ⟨e1, e2, h3⟩ := inP_nat ho
    rw [Int.toNat_natCast] at h3
    cases hb : anyBig ts with
    | true =>
      rw [if_neg (fun hh : wrO D x ts => by have := hh.2; rw [hb] at this; cases this), if_neg (fun hh : wrO D x ts => by have := hh.2; rw [hb] at this; cases this)]
      have := write_big (c := t) h x.toNat h3 hb w hM hF
      rwa [← e1] at this
    | false =>
      have ho2 : wrO D x ts := ⟨ho, hb⟩
      rw [if_pos ho2, if_pos ho2]
      cases hf : failD D with
      | true =>
        rw [if_pos rfl, if_pos rfl]
        have := write_fail (c := t) h x.toNat h3 hb (fail_yes hf).1 (fail_yes hf).2 w hM hF
        rwa [← e1] at this
      | false =>
        rw [if_neg (by decide), if_neg (by decide)]
        have := write_ok (c := t) h x.toNat h3 hb (fail_no hf) w hM hF
        rwa [← e1] at this
  · rw [if_neg (fun hh : wrO D x ts => ho hh.1), if_neg (fun hh : wrO D x ts => ho hh.1)]
    exact write_out (ts := ts) h x (by rw [inD_inP (by omega)]; exact decide_eq_false ho) w hM
/-- What a call of the reference's leaves. -/
abbrev SRow (D : Dsk) (A B C : Option Addr) (N : Nat) (F : List SProp) : List SProp := rowE 1 A N (svs D.sure) :: rowE 1 B N (svs D.now) :: rowE 1 C N (lovs D.lo) :: F
theorem Star.srow {N : Nat} {w : World} (hM : Star F w) (hA : rowE 1 A N (svs D.sure) ∈ F) (hB : rowE 1 B N (svs D.now) ∈ F) (hC : rowE 1 C N (lovs D.lo) ∈ F) : Star (SRow D A B C N F) w :=
  ((hM.dup_rowS hC).dup_rowS (List.mem_cons_of_mem _ hB)).dup_rowS (List.mem_cons_of_mem _ (List.mem_cons_of_mem _ hA))
theorem wrD_dec (D : Dsk) (i : Nat) (ts : List (List UInt8)) (k : Nat) : (wrD D.dec i ts k).now = (wrD D i ts k).now ∧ (wrD D.dec i ts k).lo = (wrD D i ts k).lo := by
  induction k with
  | zero => exact ⟨rfl, rfl⟩
  | succ k ih =>
    rw [wrD_succ, wrD_succ]
    simp only [Dsk.put]
    rw [ih.1, ih.2]
    exact ⟨rfl, rfl⟩
theorem writeS (h : D.ok) (hN : D.sure.length ≤ 100000) (x : Int) (w : World) (hM : Star F w) (hF : rowE 1 T ts.length (svs ts) ∈ F) (hA : rowE 1 A D.sure.length (svs D.sure) ∈ F) (hB : rowE 1 B D.sure.length (svs D.now) ∈ F) (hC : rowE 1 C D.sure.length (lovs D.lo) ∈ F) :
    Calls Try.prog 57 #[.agg (srV A c B d C e D.sure.length (fuD D)), .int .i64 x, .slice T ts.length t] w fun r w' => ∃ B' d' C' e', r = .returned (.tuple #[.agg (srV A c B' d' C' e' D.sure.length (fuD (wrG3 D x ts))), .int .i64 (wrE3 D x ts)]) ∧ Star (SRow (wrG3 D x ts) A B' C' D.sure.length F) w' := by
  have hg := fuD_ge h
  unfold wrE3 wrG3
  by_cases ho : inP D.sure.length x ts.length
  · obtain ⟨e1, e2, h3⟩ := inP_nat ho
    rw [Int.toNat_natCast] at h3
    cases hb : anyBig ts with
    | true =>
      rw [if_neg (fun hh : wrO D x ts => by have := hh.2; rw [hb] at this; cases this), if_neg (fun hh : wrO D x ts => by have := hh.2; rw [hb] at this; cases this)]
      exact (write_sbig x hN ho hb w hM hF).mono fun _ _ ⟨e, hM⟩ => ⟨B, d, C, _, e, hM.srow hA hB hC⟩
    | false =>
      have ho2 : wrO D x ts := ⟨ho, hb⟩
      rw [if_pos ho2, if_pos ho2]
      cases hf : failD D with
      | true =>
        rw [if_pos rfl, if_pos rfl]
        exact (write_s13 x hN ho hb ((fuD_fail h).2 hf) w hM hF).mono fun _ _ ⟨e, hM⟩ => ⟨B, d, C, _, e, hM.srow hA hB hC⟩
      | false =>
        rw [if_neg (by decide), if_neg (by decide)]
        have h0 := write_s0 (A := A) (c := c) (d := d) (e := e) (t := t) h rfl hN x.toNat h3 hb hg.1 hg.2 (fun e => by have := (fuD_fail h).1 e; rw [hf] at this; cases this) w hM hF hB hC
        rw [← e1, ← fuD_dec h hf] at h0
        refine h0.mono fun _ _ ⟨B', d', C', e', e, hM⟩ => ⟨B', d', C', e', ?_, ?_⟩
        · rw [e]
          congr 6
          unfold fuD
          rw [(wrD_sure _ _ _ _).2.1, (wrD_sure _ _ _ _).2.2]
        · rw [← (wrD_dec D x.toNat ts ts.length).1, ← (wrD_dec D x.toNat ts ts.length).2] at hM
          have e3 : (wrD D.dec x.toNat ts ts.length).sure = D.sure := (wrD_sure _ _ _ _).1
          have h9 := hM.dup_rowS (size := 1) (n := D.sure.length) (A := A) (xs := svs D.sure) (List.mem_cons_of_mem _ (List.mem_cons_of_mem _ hA))
          show Star (rowE 1 A D.sure.length (svs (wrD D.dec x.toNat ts ts.length).sure) :: _) _
          rw [e3]
          exact h9
  · rw [if_neg (fun hh : wrO D x ts => ho hh.1), if_neg (fun hh : wrO D x ts => ho hh.1)]
    exact (write_s10 x hN ho w hM).mono fun _ _ ⟨e, hM⟩ => ⟨B, d, C, _, e, hM.srow hA hB hC⟩
theorem syncU (h : D.ok) (w : World) (hM : Star L w) (hm : Take (diskE a D) L R) :
    Calls Try.prog 23 #[dptr a] w fun r w' => r = .returned (.int .i64 (syE3 D)) ∧ Star (diskE a (syG3 D) :: R) w' := by
  have hM := hM.take hm
  unfold syE3 syG3
  cases hf : failD D with
  | true => rw [if_pos rfl, if_pos rfl]; exact sync_fail (fail_yes hf).1 (fail_yes hf).2 w hM
  | false => rw [if_neg (by decide), if_neg (by decide)]; exact sync_ok h (fail_no hf) w hM
theorem syncS (h : D.ok) (hN : D.sure.length ≤ 100000) (w : World) (hM : Star F w) (hA : rowE 1 A D.sure.length (svs D.sure) ∈ F) (hB : rowE 1 B D.sure.length (svs D.now) ∈ F) (hC : rowE 1 C D.sure.length (lovs D.lo) ∈ F) :
    Calls Try.prog 58 #[.agg (srV A c B d C e D.sure.length (fuD D))] w fun r w' => ∃ A' c' B' d' C' e', r = .returned (.tuple #[.agg (srV A' c' B' d' C' e' D.sure.length (fuD (syG3 D))), .int .i64 (syE3 D)]) ∧ Star (SRow (syG3 D) A' B' C' D.sure.length F) w' := by
  have hg := fuD_ge h
  unfold syE3 syG3
  cases hf : failD D with
  | true =>
    rw [if_pos rfl, if_pos rfl, (fuD_fail h).2 hf]
    exact (sync_s0 w hM).mono fun _ _ ⟨e, hM⟩ => ⟨A, c, B, d, C, _, e, hM.srow hA hB hC⟩
  | false =>
    rw [if_neg (by decide), if_neg (by decide)]
    have e0 : fuD (D.dec.calm D.now) = if 0 < fuD D then fuD D - 1 else fuD D := (fuD_dec h hf : fuD D.dec = _)
    rw [e0]
    refine (sync_s1 hN hg.1 hg.2 (fun e => by have := (fuD_fail h).1 e; rw [hf] at this; cases this) w hM hB).mono fun _ _ ⟨A', c', B', d', C', e', e, hM⟩ => ⟨A', c', B', d', C', e', e, ?_⟩
    have e1 : (D.dec.calm D.now).lo = List.replicate D.sure.length false := by show List.replicate D.now.length false = _; rw [h.ln]
    show Star (rowE 1 A' _ (svs D.now) :: rowE 1 B' _ (svs D.now) :: rowE 1 C' _ (lovs (D.dec.calm D.now).lo) :: F) _
    rw [e1]
    exact hM
theorem spoilU (h : D.ok) (x k : Int) (y : UInt8) (w : World) (hM : Star L w) (hm : Take (diskE a D) L R) :
    Calls Try.prog 59 #[dptr a, .int .i64 x, .int .i64 k, .int .u8 (y.toNat : Int)] w fun r w' => r = .returned (.int .i64 (spE3 D x k)) ∧ Star (diskE a (spG3 D x k y) :: R) w' := by
  have hM := hM.take hm
  unfold spE3 spG3
  by_cases ho : spO D x k
  · obtain ⟨e1, _, h3⟩ := inP_nat ho.1
    rw [if_pos ho, if_pos ho]
    have := spoil_d h x.toNat k.toNat y (by omega) (by have := ho.2; omega) w hM
    have e2 : (k.toNat : Int) = k := by have := ho.2; omega
    rwa [← e1, e2] at this
  · rw [if_neg ho, if_neg ho]
    exact spoil_d10 h x k y ho w hM
theorem spoilS (h : D.ok) (hN : D.sure.length ≤ 100000) (x k : Int) (y : UInt8) (w : World) (hM : Star F w) (hA : rowE 1 A D.sure.length (svs D.sure) ∈ F) (hB : rowE 1 B D.sure.length (svs D.now) ∈ F) (hC : rowE 1 C D.sure.length (lovs D.lo) ∈ F) :
    Calls Try.prog 60 #[.agg (srV A c B d C e D.sure.length (fuD D)), .int .i64 x, .int .i64 k, .int .u8 (y.toNat : Int)] w fun r w' => ∃ A' c' B' d', r = .returned (.tuple #[.agg (srV A' c' B' d' C e D.sure.length (fuD (spG3 D x k y))), .int .i64 (spE3 D x k)]) ∧ Star (SRow (spG3 D x k y) A' B' C D.sure.length F) w' := by
  unfold spE3 spG3
  by_cases ho : spO D x k
  · obtain ⟨e1, _, h3⟩ := inP_nat ho.1
    rw [if_pos ho, if_pos ho]
    have h0 := spoil_s0 (A := A) (c := c) (B := B) (d := d) (C := C) (e := e) (fu := fuD D) h rfl hN x.toNat k.toNat y (by omega) (by have := ho.2; omega) w hM hA hB
    have e2 : (k.toNat : Int) = k := by have := ho.2; omega
    rw [← e1, e2] at h0
    refine h0.mono fun _ _ ⟨A', c', B', d', e, hM⟩ => ⟨A', c', B', d', e, ?_⟩
    have h9 := hM.dup_rowS (size := 1) (n := D.sure.length) (A := C) (xs := lovs D.lo) (List.mem_cons_of_mem _ (List.mem_cons_of_mem _ hC))
    exact h9.perm (List.perm_append_comm (l₁ := [rowE 1 C D.sure.length (lovs D.lo)]) (l₂ := [rowE 1 A' D.sure.length _, rowE 1 B' D.sure.length _]) |>.append_right F)
  · rw [if_neg ho, if_neg ho]
    exact (spoil_s10 x k y hN ho w hM).mono fun _ _ ⟨e, hM⟩ => ⟨A, c, B, d, e, hM.srow hA hB hC⟩
theorem crashS {ch : List Int} {cn cc : Nat} (h : D.ok) (hN : D.sure.length ≤ 100000) (hcn : cn ≤ 9223372036854775807) (w : World) (hM : Star F w) (hF : rowE 1 T cn (ivs ch) ∈ F) (hA : rowE 1 A D.sure.length (svs D.sure) ∈ F) (hB : rowE 1 B D.sure.length (svs D.now) ∈ F) (hC : rowE 1 C D.sure.length (lovs D.lo) ∈ F) :
    Calls Try.prog 38 #[.agg (srV A c B d C e D.sure.length (fuD D)), .slice T cn cc] w fun r w' => ∃ A' c' B' d' C' e', r = .returned (.agg (srV A' c' B' d' C' e' D.sure.length (fuD (crD D ch)))) ∧ Star (SRow (crD D ch) A' B' C' D.sure.length F) w' := by
  refine (crash_s h rfl hN hcn w hM hF hA hB hC).mono fun _ _ ⟨A', c', B', d', C', e', e, hM⟩ => ⟨A', c', B', d', C', e', e, ?_⟩
  have e1 : (crD D ch).lo = List.replicate D.sure.length false := by show List.replicate (upd D.sure (crL D ch)).length false = _; rw [upd_len]
  show Star (rowE 1 A' _ (svs (upd D.sure (crL D ch))) :: rowE 1 B' _ (svs (upd D.sure (crL D ch))) :: rowE 1 C' _ (lovs (crD D ch).lo) :: F) _
  rw [e1]
  exact hM
end
end Go.Proofs.Ytbejifbiffeamaa
set_option linter.unusedSimpArgs false
set_option linter.unusedVariables false
namespace Go.Proofs.Ytbejifbiffeamaa
open Go.RowKit
attribute [local go_sem] extract_mid extract_drop bget bsize wrap64_u8 i64_u8 u64_u8 bappend
section
variable {F L R : List SProp} {a : DA} {D : Dsk} {A B C T : Option Addr} {c d e n t : Nat}
set_option maxRecDepth 100000 in
set_option maxHeartbeats 4000000 in
theorem fuse_l (h : D.ok) (N : Nat) (w : World) (hM : Star L w) (hm : Take (diskE a D) L R) :
    Calls Try.prog 35 #[dptr a, .agg (srV A c B d C e N (fuD D))] w fun r w' => r = .returned (.bool true) ∧ Star (diskE a D :: R) w' := by
  have hM := (hM.take hm).dopen
  obtain ⟨b, hb⟩ : ∃ b, D.armed = b := ⟨_, rfl⟩
  obtain ⟨q, hq⟩ : ∃ q, (if D.armed then D.left else 0) = q := ⟨_, rfl⟩
  obtain ⟨fu, hfu⟩ : ∃ fu, fuD D = fu := ⟨_, rfl⟩
  have h1 : decide (0 ≤ fu) = b := by
    rw [← hfu, ← hb]
    unfold fuD
    cases ha : D.armed with
    | true => have := h.arm ha; rw [if_pos rfl]; simpa using this
    | false => rfl
  have h2 : max fu 0 = q := by
    rw [← hfu, ← hq]
    unfold fuD
    cases ha : D.armed with
    | true => have := h.arm ha; rw [if_pos rfl, if_pos rfl]; omega
    | false => rfl
  have HA : Hid (∀ (w : World) (L R : List SProp), Star L w → Take (fE a D.armed D.left) L R → Calls Try.prog 61 #[fptr a] w fun r w' => r = .returned (.tuple #[.int .i64 q, .bool b]) ∧ Star (fE a D.armed D.left :: R) w') := fun w L R hM hx => by
    have := armed_f D.armed D.left w (hM.take hx)
    rw [hq] at this
    exact this.mono fun _ _ ⟨e, h⟩ => ⟨by rw [e, hb], h⟩
  rw [hfu]
  clear hb hq hfu
  have h3 : (b == b) = true := by simp
  go_enter Try.func35, Try.ntmps35
  go_wp2_with (first | (first | ((with_reducible refine at_box' ?_); (have hM0 := hM; clear hM; refine BigFrame.wpList_want (by rfl) fun K hK => ws_box hM0 rfl rfl (cs := srV A c B d C e N fu) rfl (fun g3 w hM => hK _ _ ?_); clear hM0 hK K)) | fail) | (first | ((with_reducible refine at_load' ?_); (refine BigFrame.wpList_want (by rfl) fun K hK => ws_load1 hM rfl rfl (by (repeat (first | assumption | (with_reducible exact mZ) | apply mS)); first | done | fail) (by first | rfl | assumption) (by decide +kernel) (hK _ _ ?_); clear hK K)) | fail) | (go_at_call 61; have hM0 := hM; clear hM; (first | (with_reducible refine (HA.out _ _ _ hM0 (by (repeat (first | (with_reducible exact Take.head) | apply Take.tail)); first | done | fail)).mono ?_) | fail); clear hM0; rintro _ w ⟨rfl, hM⟩))
  go_ret
  refine ⟨rfl, Star.djoin ?_⟩
  exact (hM.sel (by repeat (first | (with_reducible exact Sel.refl) | (with_reducible exact Take.head) | (with_reducible apply Take.tail) | (with_reducible apply Sel.cons) | (with_reducible apply Sel.drop))) : Star (fE a D.armed D.left :: dE a D.sure.length :: sE a D.sure :: mE a (lmv D) :: R) _).perm (List.Perm.swap _ _ _)
theorem kb_at {D : Dsk} {j : Nat} (hl : D.l j = true) : ∀ N, j < N → (kbD D N)[(kbD D j).length]? = some j
  | 0, h => by omega
  | N + 1, h => by
    rw [kbD_succ]
    by_cases e : j = N
    · subst e
      rw [if_pos hl, List.getElem?_append_right (Nat.le_refl _), Nat.sub_self]
      rfl
    · have ih := kb_at hl N (by omega)
      rw [List.getElem?_append_left (List.getElem?_eq_some_iff.1 ih).1]
      exact ih
set_option maxRecDepth 100000 in
set_option maxHeartbeats 4000000 in
theorem loose_l (h : D.ok) (N : Nat) (hN : D.sure.length = N) (fu : Int) (w : World) (hM : Star L w) (hm : Take (diskE a D) L R) (hC : rowE 1 C N (lovs D.lo) ∈ R) :
    Calls Try.prog 36 #[dptr a, .agg (srV A c B d C e N fu)] w fun r w' => r = .returned (.bool true) ∧ Star (diskE a D :: R) w' := by
  have hM := hM.take hm
  have hsz := h.size
  have hkl := keys_le D
  have HL := Lib.hid (fun (L R : List SProp) (w : World) (hM : Star L w) (hx : Take (diskE a D) L R) => loose_d h w (hM.take hx))
  have HK : Hid (D.keys = kbD D N) := by show _ = _; unfold Dsk.keys kbD; rw [hN]
  have HKI : Hid (∀ (k j : Nat), D.keys[k]? = some j → (ivs (ksI D))[k]? = some (.int .i64 j)) := fun k j hj => by
    unfold ksI ivs
    rw [List.getElem?_map, List.getElem?_map, hj]
    rfl
  have HKA : Hid (∀ j, j < N → D.l j = true → D.keys[(kbD D j).length]? = some j) := fun j hj hl => by rw [HK.out]; exact kb_at hl N hj
  rw [hN] at hkl hsz
  obtain ⟨q, hq⟩ : ∃ q, D.keys.length = q := ⟨_, rfl⟩
  have HQ : Hid (q = (kbD D N).length) := by show _ = _; rw [← hq, HK.out]
  have HQ2 := Lib.hid hq
  rw [hq] at hkl HL
  clear h hN hq
  go_enter Try.func36, Try.ntmps36
  go_wp2_with (first | (first | ((with_reducible refine at_box' ?_); (have hM0 := hM; clear hM; refine BigFrame.wpList_want (by rfl) fun K hK => ws_box hM0 rfl rfl (cs := srV A c B d C e N fu) rfl (fun g3 w hM => hK _ _ ?_); clear hM0 hK K)) | fail) | (first | ((with_reducible refine at_load' ?_); (refine BigFrame.wpList_want (by rfl) fun K hK => ws_load1 hM rfl rfl (by (repeat (first | assumption | (with_reducible exact mZ) | apply mS)); first | done | fail) (by first | rfl | assumption) (by decide +kernel) (hK _ _ ?_); clear hK K)) | fail) | (go_at_call 26; have hM0 := hM; clear hM; (first | (with_reducible refine (HL.out _ _ _ hM0 (by (repeat (first | (with_reducible exact Take.head) | apply Take.tail)); first | done | fail)).mono ?_) | fail); clear hM0; rintro _ w ⟨AL, cl, rfl, hM⟩))
  go_loopw [6, 14] (fun kv i wr => ∃ j k : Nat, i = .int .i64 j ∧ kv = .int .i64 k ∧ j ≤ N ∧ k ≤ j ∧ Hid (k = (kbD D j).length) ∧ Star (rowE 1 AL q (ivs (ksI D)) :: diskE a D :: cellsE g3 63 (srV A c B d C e N fu) :: R) wr) (fun _ i _ => N - (intOf i).toNat)
  case atStart => exact ⟨0, 0, rfl, rfl, by omega, by omega, rfl, hM.sel (by repeat (first | (with_reducible exact Sel.refl) | (with_reducible exact Take.head) | (with_reducible apply Take.tail) | (with_reducible apply Sel.cons) | (with_reducible apply Sel.drop)))⟩
  case round =>
    clear hM
    obtain ⟨j, k, rfl, rfl, hj, hkj, HKJ, hM⟩ := hrel
    by_cases hlt : j < N
    · have hjI : (j : Int) < (N : Int) := by omega
      obtain ⟨adC, rfl, hvC⟩ := hM.elemBo (A := C) (n := N) (l := D.lo) (List.mem_cons_of_mem _ (List.mem_cons_of_mem _ (List.mem_cons_of_mem _ hC))) hlt
      cases hl : D.l j with
      | false =>
        have hl2 : D.lo.getD j false = false := hl
        rw [hl2] at hvC
        have HK2 : Hid (k = (kbD D (j + 1)).length) := by show _ = _; rw [kbD_succ, hl, HKJ.out]; simp
        clear hl hl2
        go_wp2_with (first | (first | ((with_reducible refine at_load' ?_); (refine BigFrame.wpList_want (by rfl) fun K hK => ws_rowload rfl rfl (by first | (apply Star.row hM; (repeat (first | assumption | (with_reducible exact mZ) | apply mS)); done) | (apply Star.own hM; (repeat (first | assumption | (with_reducible exact mZ) | apply mS)); done) | (apply Star.arr hM; (focus ((repeat (first | assumption | (with_reducible exact mZ) | apply mS)); done)); assumption)) (by assumption) (by kernel_rfl) (hK _ _ ?_); clear hK K)) | fail) | (first | ((with_reducible refine at_load' ?_); (refine BigFrame.wpList_want (by rfl) fun K hK => ws_load1 hM rfl rfl (by (repeat (first | assumption | (with_reducible exact mZ) | apply mS)); first | done | fail) (by first | rfl | assumption) (by decide +kernel) (hK _ _ ?_); clear hK K)) | fail))
        go_roundw
        case rel => exact ⟨j + 1, k, rfl, rfl, by omega, by omega, HK2, hM⟩
        case measure => simp [intOf]; omega
      | true =>
        have hl2 : D.lo.getD j false = true := hl
        rw [hl2] at hvC
        have HK2 : Hid (k + 1 = (kbD D (j + 1)).length) := by show _ = _; rw [kbD_succ, hl, HKJ.out]; simp
        have hka := HKA.out j hlt hl
        rw [← HKJ.out] at hka
        have hkq : k < q := by have := (List.getElem?_eq_some_iff.1 hka).1; rw [HQ2.out] at this; exact this
        have hkqI : (k : Int) < (q : Int) := by omega
        have hd : decide ((q : Int) ≤ (k : Int)) = false := by simp; omega
        have hd2 : decide (q ≤ k) = false := by simp; omega
        have hvk := HKI.out k j hka
        obtain ⟨adL, rfl⟩ : ∃ ad, AL = some ad := by
          obtain ⟨ad, e, _⟩ := (hM.row (A := AL) (n := q) (xs := ivs (ksI D)) (by (repeat (first | assumption | (with_reducible exact mZ) | apply mS)); first | done | fail)).2 (by omega)
          exact ⟨ad, e⟩
        clear hl hl2 hka
        go_wp2_with (first | (first | ((with_reducible refine at_load' ?_); (refine BigFrame.wpList_want (by rfl) fun K hK => ws_rowload rfl rfl (by first | (apply Star.row hM; (repeat (first | assumption | (with_reducible exact mZ) | apply mS)); done) | (apply Star.own hM; (repeat (first | assumption | (with_reducible exact mZ) | apply mS)); done) | (apply Star.arr hM; (focus ((repeat (first | assumption | (with_reducible exact mZ) | apply mS)); done)); assumption)) (by assumption) (by kernel_rfl) (hK _ _ ?_); clear hK K)) | fail) | (first | ((with_reducible refine at_load' ?_); (refine BigFrame.wpList_want (by rfl) fun K hK => ws_load1 hM rfl rfl (by (repeat (first | assumption | (with_reducible exact mZ) | apply mS)); first | done | fail) (by first | rfl | assumption) (by decide +kernel) (hK _ _ ?_); clear hK K)) | fail))
        go_roundw
        case rel => exact ⟨j + 1, k + 1, rfl, rfl, by omega, by omega, HK2, hM⟩
        case measure => simp [intOf]; omega
    · obtain rfl : N = j := by omega
      obtain rfl : q = k := by rw [HQ.out, HKJ.out]
      go_wp2_with fail
      go_ret
      exact ⟨rfl, hM.sel (by repeat (first | (with_reducible exact Sel.refl) | (with_reducible exact Take.head) | (with_reducible apply Take.tail) | (with_reducible apply Sel.cons) | (with_reducible apply Sel.drop)))⟩
end
end Go.Proofs.Ytbejifbiffeamaa
set_option linter.unusedSimpArgs false
set_option linter.unusedVariables false
namespace Go.Proofs.Ytbejifbiffeamaa
open Go.RowKit
attribute [local go_sem] extract_mid extract_drop bget bsize wrap64_u8 i64_u8 u64_u8 bappend
def cutP (l : List UInt8) (n : Int) : List UInt8 := if n < l.length then l.take n.toNat else l
theorem cut_any (l : List UInt8) (n : Int) (hn : 0 ≤ n) (w : World) :
    Calls Try.prog 16 #[.string ⟨l.toArray⟩, .int .i64 n] w fun r w' => r = .returned (.string ⟨(cutP l n).toArray⟩) ∧ w = w' := by
  obtain ⟨k, rfl⟩ := Int.eq_ofNat_of_zero_le hn
  by_cases h : k < l.length
  · go_enter Try.func16, Try.ntmps16
    go_wp2
    go_ret
    exact ⟨ret_str (by simp [cutP, h]), rfl⟩
  · go_enter Try.func16, Try.ntmps16
    go_wp2
    go_ret
    exact ⟨ret_str (by simp [cutP, h]), rfl⟩
end Go.Proofs.Ytbejifbiffeamaa
set_option linter.unusedSimpArgs false
set_option linter.unusedVariables false
namespace Go.Proofs.Ytbejifbiffeamaa
open Go.RowKit
attribute [local go_sem] extract_mid extract_drop bget bsize wrap64_u8 i64_u8 u64_u8 bappend
/-- At most 6 texts of at most 70 bytes. -/
def fewL (l : List (List UInt8)) : List (List UInt8) := (l.take 6).map fun s => cutP s 70
theorem fewL_len (l : List (List UInt8)) : (fewL l).length ≤ 6 := by unfold fewL; simp; omega
theorem fewL_at {l : List (List UInt8)} {k : Nat} {d : List UInt8} (hk : k < 6) (h : l[k]? = some d) : (fewL l)[k]? = some (cutP d 70) := by
  unfold fewL
  rw [List.getElem?_map, List.getElem?_take, if_pos hk, h]
  rfl
theorem cut70 (l : List UInt8) (w : World) : Calls Try.prog 16 #[.string ⟨l.toArray⟩, .int .i64 70] w fun r w' => r = .returned (.string ⟨(cutP l 70).toArray⟩) ∧ w = w' := cut_any l 70 (by omega) w
set_option maxRecDepth 100000 in
set_option maxHeartbeats 4000000 in
theorem few_star {F : List SProp} (l : List (List UInt8)) (A : Option Addr) (n c : Nat) (hn : n ≤ 9223372036854775807) (w : World) (hM : Star F w) (hF : rowE 1 A n (svs l) ∈ F) :
    Calls Try.prog 21 #[.slice A n c] w fun r w' => ∃ A' c', r = .returned (.slice A' (fewL l).length c') ∧ Star (rowE 1 A' (fewL l).length (svs (fewL l)) :: F) w' := by
  have hl := svs_row (hM.row hF)
  have HL := Lib.hid hl
  have hN : (fewL l).length = min 6 n := by unfold fewL; simp [hl]
  obtain ⟨N, hNN⟩ : ∃ N, (fewL l).length = N := ⟨_, rfl⟩
  rw [hNN] at hN ⊢
  have HNN := Lib.hid hNN
  clear hl hNN
  go_enter Try.func21, Try.ntmps21
  go_wp2_with (first | (first | ((with_reducible refine at_slice' ?_); (have hM0 := hM; clear hM; refine BigFrame.wpList_want (by rfl) fun K hK => ws_slice_own hM0 (n := 0) rfl 9 1 (.string ByteArray.empty) [] Try.underlying22 (by kernel_rfl) rfl (by simp [Value.cells, iv, sv, bv]) (by rfl) (by decide) (by decide) (cs := svs []) (by rfl) (fun g5 w hM => hK _ _ ?_); clear hM0 hK K)) | fail))
  go_loopw [3, 4] (fun o i wr => ∃ (k : Nat) (B : Option Addr) (cb : Nat), k ≤ N ∧ i = .int .i64 k ∧ o = .slice B k cb ∧ Star (ownE 9 1 B k cb (svs ((fewL l).take k)) :: F) wr) (fun _ i _ => N - (intOf i).toNat)
  case atStart => exact ⟨0, _, _, by omega, rfl, rfl, hM⟩
  case round =>
    clear hM
    obtain ⟨k, B, cb, hk, rfl, rfl, hM⟩ := hrel
    by_cases hkn : k < n
    · by_cases hk6 : k < 6
      · obtain ⟨ad, d, rfl, hv, hg, _⟩ := hM.elemS (A := A) (n := n) (l := l) (List.mem_cons_of_mem _ hF) hkn
        have HT := Lib.hid (take_snoc_at _ _ _ (fewL_at hk6 hg))
        have HC := Lib.hid (cut70 d)
        clear hg
        go_wp2_with (first | (first | ((with_reducible refine at_load' ?_); (refine BigFrame.wpList_want (by rfl) fun K hK => ws_rowload rfl rfl (by first | (apply Star.row hM; (repeat (first | assumption | (with_reducible exact mZ) | apply mS)); done) | (apply Star.own hM; (repeat (first | assumption | (with_reducible exact mZ) | apply mS)); done) | (apply Star.arr hM; (focus ((repeat (first | assumption | (with_reducible exact mZ) | apply mS)); done)); assumption)) (by assumption) (by kernel_rfl) (hK _ _ ?_); clear hK K)) | fail) | (go_at_call 16; have hM0 := hM; clear hM; (first | (with_reducible refine (starq (HC.out _) hM0).mono ?_) | fail); clear hM0; rintro _ w ⟨rfl, hM⟩) | (first | ((with_reducible refine at_slice' ?_); (have hM0 := hM; clear hM; refine BigFrame.wpList_want (by rfl) fun K hK => ws_slice_row hM0 (n := 1) rfl 9 1 (.string ByteArray.empty) [sv (cutP d 70)] Try.underlying22 (by kernel_rfl) rfl (by simp [Value.cells, iv, sv, bv]) (by rfl) (by decide) (cs := svs [cutP d 70]) (by rfl) (fun g22 w hM => hK _ _ ?_); clear hM0 hK K)) | fail) | (first | ((with_reducible refine at_call' ?_); (have hM0 := hM; clear hM; refine BigFrame.wpList_want (by rfl) fun K hK => ws_append hM0 rfl rfl rfl 9 ((.string ByteArray.empty)) 1 16 Try.underlying22 (by kernel_rfl) (by rfl) (by decide) (by (repeat (first | (with_reducible exact Take.head) | apply Take.tail)); first | done | fail) (by first | (apply Star.row hM0; (repeat (first | assumption | (with_reducible exact mZ) | apply mS)); done) | (apply Star.own hM0; (repeat (first | assumption | (with_reducible exact mZ) | apply mS)); done) | (apply Star.arr hM0; (focus ((repeat (first | assumption | (with_reducible exact mZ) | apply mS)); done)); assumption)) ((fun u hu => by obtain ⟨s, _, rfl⟩ := List.mem_map.1 hu; rfl)) ((by omega)) (fun A1 c1 w hM hnil => hK _ _ ?_); clear hM0 hK K)) | fail))
        go_roundw
        case rel => exact ⟨k + 1, A1, c1, by omega, by go_num, rfl, by rw [HT.out, svs_app]; exact hM.sel (by repeat (first | (with_reducible exact Sel.refl) | (with_reducible exact Take.head) | (with_reducible apply Take.tail) | (with_reducible apply Sel.cons) | (with_reducible apply Sel.drop)))⟩
        case measure => simp [intOf]; omega
      · obtain rfl : k = 6 := by omega
        obtain rfl : N = 6 := by omega
        clear hN
        go_wp2_with fail
        go_ret
        have h2 := hM.freeze
        rw [List.take_of_length_le (by rw [HNN.out]; omega)] at h2
        exact ⟨_, _, rfl, h2⟩
    · obtain rfl : k = n := by omega
      obtain rfl : N = k := by omega
      clear hN
      go_wp2_with fail
      go_ret
      have h2 := hM.freeze
      rw [List.take_of_length_le (by rw [HNN.out]; omega)] at h2
      exact ⟨_, _, rfl, h2⟩
end Go.Proofs.Ytbejifbiffeamaa
set_option linter.unusedSimpArgs false
set_option linter.unusedVariables false
namespace Go.Proofs.Ytbejifbiffeamaa
open Go.RowKit
attribute [local go_sem] extract_mid extract_drop bget bsize wrap64_u8 i64_u8 u64_u8 bappend
/-- An act. -/
structure Ac3 where
  kk : Int
  at_ : Int
  n : Int
  TA : Option Addr
  tn : Nat
  tc : Nat
  ts : List (List UInt8)
  CA : Option Addr
  cn : Nat
  cc : Nat
  ch : List Int
  y : UInt8
abbrev ac3C (p : Ac3) : List Value := [.int .i64 p.kk, .int .i64 p.at_, .int .i64 p.n, .slice p.TA p.tn p.tc, .slice p.CA p.cn p.cc, .int .u8 (p.y.toNat : Int)]
structure Ac3Ok (p : Ac3) : Prop where
  n1 : -9223372036854775808 ≤ p.n
  n2 : p.n ≤ 9223372036854775807
  tn : p.tn ≤ 9223372036854775807
  cn : p.cn ≤ 9223372036854775807
  ch : ∀ x ∈ p.ch, -9223372036854775808 ≤ x ∧ x ≤ 9223372036854775807
/-- What Does leaves. -/
def DoesD (a : DA) (N : Nat) (F : List SProp) (r : Ending) (w' : World) : Prop := ∃ D' A' c' B' d' C' e', r = .returned (.tuple #[.agg (srV A' c' B' d' C' e' N (fuD D')), .bool true]) ∧ Hid D'.ok ∧ Hid (D'.sure.length = N) ∧ Star (diskE a D' :: SRow D' A' B' C' N F) w'
section
variable {F : List SProp} {a : DA} {D : Dsk} {A B C : Option Addr} {c d e N : Nat} {p : Ac3}
set_option maxRecDepth 100000 in
set_option maxHeartbeats 8000000 in
theorem does3_1 (h : Hid D.ok) (hN : Hid (D.sure.length = N)) (hN2 : N ≤ 12) (hk : p.kk = 1) (hp : Ac3Ok p) (w : World) (hM : Star (diskE a D :: SRow D A B C N F) w) (hT : rowE 1 p.TA p.tn (svs p.ts) ∈ F) (hCh : rowE 1 p.CA p.cn (ivs p.ch) ∈ F) :
    Calls Try.prog 34 #[dptr a, .agg (srV A c B d C e N (fuD D)), .agg (ac3C p).toArray] w (DoesD a N F) := by
  obtain ⟨kk, at_, n, TA, tn, tc, ts, CA, cn, cc, ch, y⟩ := p
  simp only at hk hT hCh
  obtain ⟨hn1, hn2, htn, hcn, hch⟩ := hp
  simp only at hn1 hn2 htn hcn hch
  subst hk
  have hNo := hN.out
  subst hNo
  have hG := readG3_ok h.out at_ n
  obtain ⟨bb, hbb⟩ : ∃ bb, readB3 D at_ n = bb := ⟨_, rfl⟩
  obtain ⟨ee, hee⟩ : ∃ ee, readE3 D at_ n = ee := ⟨_, rfl⟩
  have hGs : (readG3 D at_ n).sure = D.sure ∧ (readG3 D at_ n).now = D.now ∧ (readG3 D at_ n).lo = D.lo := by
    unfold readG3
    split
    · split
      · exact ⟨rfl, rfl, rfl⟩
      · exact ⟨rfl, rfl, rfl⟩
    · exact ⟨rfl, rfl, rfl⟩
  obtain ⟨E, hE⟩ : ∃ E, readG3 D at_ n = E := ⟨_, rfl⟩
  have HU : Hid (∀ (w : World) (L R : List SProp), Star L w → Take (diskE a D) L R → Calls Try.prog 24 #[dptr a, .int .i64 at_, .int .i64 n] w fun r w' => r = .returned (.tuple #[.string ⟨bb.toArray⟩, .int .i64 ee]) ∧ Star (diskE a E :: R) w') := fun w L R hM hx => by
    have := readU h.out at_ n w hM hx
    rwa [hbb, hee, hE] at this
  have HS : Hid (∀ (w : World) (L : List SProp), Star L w → rowE 1 B D.sure.length (svs D.now) ∈ L → Calls Try.prog 37 #[.agg (srV A c B d C e D.sure.length (fuD D)), .int .i64 at_, .int .i64 n] w fun r w' => r = .returned (.tuple #[.agg (srV A c B d C e D.sure.length (fuD E)), .string ⟨bb.toArray⟩, .int .i64 ee]) ∧ Star L w') := fun w L hM hx => by
    have := readS (A := A) (c := c) (d := d) (C := C) (e := e) h.out (by omega) at_ n w hM hx
    rwa [hbb, hee, hE] at this
  rw [hE] at hG hGs
  have HGS := Lib.hid hGs
  have HG := Lib.hid hG
  obtain ⟨fu, hfu⟩ : ∃ fu, fuD D = fu := ⟨_, rfl⟩
  obtain ⟨fv, hfv⟩ : ∃ fv, fuD E = fv := ⟨_, rfl⟩
  rw [hfu, hfv] at HS
  rw [hfu]
  have HV := Lib.hid hfv
  generalize hq : D.sure.length = N at hM HS hN2 hN ⊢
  have HQ := Lib.hid hq
  have tok1 : Hid True := trivial
  clear hfu hfv hE hG hq hbb hee hGs
  go_enter Try.func34, Try.ntmps34
  go_wp2_with (first | (first | ((with_reducible refine at_box' ?_); (have hM0 := hM; clear hM; refine BigFrame.wpList_want (by rfl) fun K hK => ws_box hM0 rfl rfl (cs := srV A c B d C e N fu) rfl (fun g4 w hM => hK _ _ ?_); clear hM0 hK K)) | fail) | (first | ((with_reducible refine at_box' ?_); (have hM0 := hM; clear hM; refine BigFrame.wpList_want (by rfl) fun K hK => ws_box hM0 rfl rfl (cs := #[.int .i64 1, .int .i64 at_, .int .i64 n, .slice TA tn tc, .slice CA cn cc, .int .u8 (y.toNat : Int)]) rfl (fun g5 w hM => hK _ _ ?_); clear hM0 hK K)) | fail) | (have _t := tok1; (first | ((with_reducible refine at_alloc' ?_); (have hM0 := hM; clear hM; refine BigFrame.wpList_want (by rfl) fun K hK => ws_alloc hM0 (t := 63) rfl #[.slice none 0 0, .slice none 0 0, .slice none 0 0, .int .i64 0] info_srz (fun g6 w hM => hK _ _ ?_); clear hM0 hK K)) | fail); clear tok1) | (first | ((with_reducible refine at_alloc' ?_); (have hM0 := hM; clear hM; refine BigFrame.wpList_want (by rfl) fun K hK => ws_alloc hM0 (t := 63) rfl #[.slice none 0 0, .slice none 0 0, .slice none 0 0, .int .i64 0] info_srz (fun g10 w hM => hK _ _ ?_); clear hM0 hK K)) | fail) | (first | ((with_reducible refine at_load' ?_); (refine BigFrame.wpList_want (by rfl) fun K hK => ws_load1 hM rfl rfl (by (repeat (first | assumption | (with_reducible exact mZ) | apply mS)); first | done | fail) (by first | rfl | assumption) (by decide +kernel) (hK _ _ ?_); clear hK K)) | fail) | (first | ((with_reducible refine at_load' ?_); (refine BigFrame.wpList_want (by rfl) fun K hK => ws_load hM rfl rfl (by (repeat (first | assumption | (with_reducible exact mZ) | apply mS)); first | done | fail) (n := 4) (by rfl) (by decide +kernel) (hK _ _ ?_); clear hK K)) | fail) | (first | ((with_reducible refine at_store' ?_); (have hM0 := hM; clear hM; refine BigFrame.wpList_want (by rfl) fun K hK => ws_store hM0 rfl rfl rfl (by (repeat (first | (with_reducible exact Take.head) | apply Take.tail)); first | done | fail) (n := 4) (by rfl) (by rfl) (by kernel_rfl) (by simp [Value.oneCell']) (fun w hM => hK _ _ ?_); clear hM0 hK K)) | fail) | (go_at_call 24; have hM0 := hM; clear hM; (first | (with_reducible refine (HU.out _ _ _ hM0 (by (repeat (first | (with_reducible exact Take.head) | apply Take.tail)); first | done | fail)).mono ?_) | fail); clear hM0; rintro _ w ⟨rfl, hM⟩) | (go_at_call 37; have hM0 := hM; clear hM; (first | (with_reducible refine (HS.out _ _ hM0 (by (repeat (first | assumption | (with_reducible exact mZ) | apply mS)); first | done | fail)).mono ?_) | fail); clear hM0; rintro _ w ⟨rfl, hM⟩))
  refine bodyPost_ret (results_row_tmp (P := Try.prog) (ty := 63) rfl _ _ g6 63 (srV A c B d C e N fv) 4 (.bool true) rfl (by first | rfl | simp) (hM.blk (by (repeat (first | assumption | (with_reducible exact mZ) | apply mS)); first | done | fail)) rfl (by decide +kernel)) rfl ?_
  refine ⟨E, A, c, B, d, C, e, by rw [HV.out], HG.out.1, by show _ = _; rw [HG.out.2, HQ.out], ?_⟩
  show Star (diskE a E :: rowE 1 A N (svs E.sure) :: rowE 1 B N (svs E.now) :: rowE 1 C N (lovs E.lo) :: F) _
  rw [HGS.out.1, HGS.out.2.1, HGS.out.2.2]
  exact hM.sel (by repeat (first | (with_reducible exact Sel.refl) | (with_reducible exact Take.head) | (with_reducible apply Take.tail) | (with_reducible apply Sel.cons) | (with_reducible apply Sel.drop)))
set_option maxRecDepth 100000 in
set_option maxHeartbeats 8000000 in
theorem does3_2 (h : Hid D.ok) (hN : Hid (D.sure.length = N)) (hN2 : N ≤ 12) (hk : p.kk = 2) (hp : Ac3Ok p) (w : World) (hM : Star (diskE a D :: SRow D A B C N F) w) (hT : rowE 1 p.TA p.tn (svs p.ts) ∈ F) (hCh : rowE 1 p.CA p.cn (ivs p.ch) ∈ F) :
    Calls Try.prog 34 #[dptr a, .agg (srV A c B d C e N (fuD D)), .agg (ac3C p).toArray] w (DoesD a N F) := by
  obtain ⟨kk, at_, n, TA, tn, tc, ts, CA, cn, cc, ch, y⟩ := p
  simp only at hk hT hCh
  obtain ⟨hn1, hn2, htn, hcn, hch⟩ := hp
  simp only at hn1 hn2 htn hcn hch
  subst hk
  have hNo := hN.out
  subst hNo
  have hfl := fewL_len ts
  have HF0 := Lib.hid (fun (L : List SProp) (w : World) (hM : Star L w) (hx : rowE 1 TA tn (svs ts) ∈ L) => few_star ts TA tn tc htn w hM hx)
  obtain ⟨ls, hls⟩ : ∃ ls, fewL ts = ls := ⟨_, rfl⟩
  rw [hls] at HF0 hfl
  have hG := wrG3_ok h.out at_ ls
  obtain ⟨ee, hee⟩ : ∃ ee, wrE3 D at_ ls = ee := ⟨_, rfl⟩
  have hGs : (wrG3 D at_ ls).sure = D.sure := by
    unfold wrG3
    split
    · split
      · rfl
      · rw [(wrD_sure _ _ _ _).1]; rfl
    · rfl
  obtain ⟨E, hE⟩ : ∃ E, wrG3 D at_ ls = E := ⟨_, rfl⟩
  have HU : Hid (∀ (T : Option Addr) (t : Nat) (w : World) (L R : List SProp), Star L w → Take (diskE a D) L R → rowE 1 T ls.length (svs ls) ∈ R → Calls Try.prog 22 #[dptr a, .int .i64 at_, .slice T ls.length t] w fun r w' => r = .returned (.int .i64 ee) ∧ Star (diskE a E :: R) w') := fun T t w L R hM hx hF => by
    have := writeU (t := t) h.out at_ w hM hx hF
    rwa [hee, hE] at this
  have HS : Hid (∀ (T : Option Addr) (t : Nat) (w : World) (L : List SProp), Star L w → rowE 1 T ls.length (svs ls) ∈ L → rowE 1 A D.sure.length (svs D.sure) ∈ L → rowE 1 B D.sure.length (svs D.now) ∈ L → rowE 1 C D.sure.length (lovs D.lo) ∈ L → Calls Try.prog 57 #[.agg (srV A c B d C e D.sure.length (fuD D)), .int .i64 at_, .slice T ls.length t] w fun r w' => ∃ B' d' C' e', r = .returned (.tuple #[.agg (srV A c B' d' C' e' D.sure.length (fuD E)), .int .i64 ee]) ∧ Star (SRow E A B' C' D.sure.length L) w') := fun T t w L hM hF hA hB hC => by
    have := writeS (c := c) (d := d) (e := e) (t := t) h.out (by omega) at_ w hM hF hA hB hC
    rwa [hee, hE] at this
  rw [hE] at hG hGs
  have HGS := Lib.hid hGs
  generalize ls.length = m at HF0 HU HS hfl
  have HG := Lib.hid hG
  obtain ⟨fu, hfu⟩ : ∃ fu, fuD D = fu := ⟨_, rfl⟩
  obtain ⟨fv, hfv⟩ : ∃ fv, fuD E = fv := ⟨_, rfl⟩
  rw [hfu, hfv] at HS
  rw [hfu]
  have HV := Lib.hid hfv
  generalize hq : D.sure.length = N at hM HS hN2 hN ⊢
  have HQ := Lib.hid hq
  have tok1 : Hid True := trivial
  clear hfu hfv hE hG hq hee hGs hls
  go_enter Try.func34, Try.ntmps34
  go_wp2_with (first | (first | ((with_reducible refine at_box' ?_); (have hM0 := hM; clear hM; refine BigFrame.wpList_want (by rfl) fun K hK => ws_box hM0 rfl rfl (cs := srV A c B d C e N fu) rfl (fun g4 w hM => hK _ _ ?_); clear hM0 hK K)) | fail) | (first | ((with_reducible refine at_box' ?_); (have hM0 := hM; clear hM; refine BigFrame.wpList_want (by rfl) fun K hK => ws_box hM0 rfl rfl (cs := #[.int .i64 2, .int .i64 at_, .int .i64 n, .slice TA tn tc, .slice CA cn cc, .int .u8 (y.toNat : Int)]) rfl (fun g5 w hM => hK _ _ ?_); clear hM0 hK K)) | fail) | (have _t := tok1; (first | ((with_reducible refine at_alloc' ?_); (have hM0 := hM; clear hM; refine BigFrame.wpList_want (by rfl) fun K hK => ws_alloc hM0 (t := 63) rfl #[.slice none 0 0, .slice none 0 0, .slice none 0 0, .int .i64 0] info_srz (fun g6 w hM => hK _ _ ?_); clear hM0 hK K)) | fail); clear tok1) | (first | ((with_reducible refine at_alloc' ?_); (have hM0 := hM; clear hM; refine BigFrame.wpList_want (by rfl) fun K hK => ws_alloc hM0 (t := 63) rfl #[.slice none 0 0, .slice none 0 0, .slice none 0 0, .int .i64 0] info_srz (fun g10 w hM => hK _ _ ?_); clear hM0 hK K)) | fail) | (first | ((with_reducible refine at_load' ?_); (refine BigFrame.wpList_want (by rfl) fun K hK => ws_load1 hM rfl rfl (by (repeat (first | assumption | (with_reducible exact mZ) | apply mS)); first | done | fail) (by first | rfl | assumption) (by decide +kernel) (hK _ _ ?_); clear hK K)) | fail) | (first | ((with_reducible refine at_load' ?_); (refine BigFrame.wpList_want (by rfl) fun K hK => ws_load hM rfl rfl (by (repeat (first | assumption | (with_reducible exact mZ) | apply mS)); first | done | fail) (n := 4) (by rfl) (by decide +kernel) (hK _ _ ?_); clear hK K)) | fail) | (first | ((with_reducible refine at_store' ?_); (have hM0 := hM; clear hM; refine BigFrame.wpList_want (by rfl) fun K hK => ws_store hM0 rfl rfl rfl (by (repeat (first | (with_reducible exact Take.head) | apply Take.tail)); first | done | fail) (n := 4) (by rfl) (by rfl) (by kernel_rfl) (by simp [Value.oneCell']) (fun w hM => hK _ _ ?_); clear hM0 hK K)) | fail) | (go_at_call 21; have hM0 := hM; clear hM; (first | (with_reducible refine (HF0.out _ _ hM0 (by exact List.mem_cons_of_mem _ (List.mem_cons_of_mem _ (List.mem_cons_of_mem _ (List.mem_cons_of_mem _ (List.mem_cons_of_mem _ (List.mem_cons_of_mem _ (List.mem_cons_of_mem _ hT)))))))).mono ?_) | fail); clear hM0; rintro _ w ⟨TB, tb, rfl, hM⟩) | (go_at_call 22; have hM0 := hM; clear hM; (first | (with_reducible refine (HU.out _ _ _ _ _ hM0 (by (repeat (first | (with_reducible exact Take.head) | apply Take.tail)); first | done | fail) (by (repeat (first | assumption | (with_reducible exact mZ) | apply mS)); first | done | fail)).mono ?_) | fail); clear hM0; rintro _ w ⟨rfl, hM⟩) | (go_at_call 57; have hM0 := hM; clear hM; (first | (with_reducible refine (HS.out _ _ _ _ hM0 (by (repeat (first | assumption | (with_reducible exact mZ) | apply mS)); first | done | fail) (by (repeat (first | assumption | (with_reducible exact mZ) | apply mS)); first | done | fail) (by (repeat (first | assumption | (with_reducible exact mZ) | apply mS)); first | done | fail) (by (repeat (first | assumption | (with_reducible exact mZ) | apply mS)); first | done | fail)).mono ?_) | fail); clear hM0; rintro _ w ⟨B', d', C', e', rfl, hM⟩))
  refine bodyPost_ret (results_row_tmp (P := Try.prog) (ty := 63) rfl _ _ g6 63 (srV A c B' d' C' e' N fv) 4 (.bool true) rfl (by first | rfl | simp) (hM.blk (by (repeat (first | assumption | (with_reducible exact mZ) | apply mS)); first | done | fail)) rfl (by decide +kernel)) rfl ?_
  exact ⟨E, A, c, B', d', C', e', by rw [HV.out], HG.out.1, by show _ = _; rw [HG.out.2, HQ.out], (hM.sel (by repeat (first | (with_reducible exact Sel.refl) | (with_reducible exact Take.head) | (with_reducible apply Take.tail) | (with_reducible apply Sel.cons) | (with_reducible apply Sel.drop))) : Star (rowE 1 A N (svs E.sure) :: rowE 1 B' N (svs E.now) :: rowE 1 C' N (lovs E.lo) :: diskE a E :: F) _).perm (List.perm_append_comm (l₁ := [rowE 1 A N (svs E.sure), rowE 1 B' N (svs E.now), rowE 1 C' N (lovs E.lo)]) (l₂ := [diskE a E]) |>.append_right F)⟩
set_option maxRecDepth 100000 in
set_option maxHeartbeats 8000000 in
theorem does3_3 (h : Hid D.ok) (hN : Hid (D.sure.length = N)) (hN2 : N ≤ 12) (hk : p.kk = 3) (hp : Ac3Ok p) (w : World) (hM : Star (diskE a D :: SRow D A B C N F) w) (hT : rowE 1 p.TA p.tn (svs p.ts) ∈ F) (hCh : rowE 1 p.CA p.cn (ivs p.ch) ∈ F) :
    Calls Try.prog 34 #[dptr a, .agg (srV A c B d C e N (fuD D)), .agg (ac3C p).toArray] w (DoesD a N F) := by
  obtain ⟨kk, at_, n, TA, tn, tc, ts, CA, cn, cc, ch, y⟩ := p
  simp only at hk hT hCh
  obtain ⟨hn1, hn2, htn, hcn, hch⟩ := hp
  simp only at hn1 hn2 htn hcn hch
  subst hk
  have hNo := hN.out
  subst hNo
  have hG := syG3_ok h.out
  obtain ⟨ee, hee⟩ : ∃ ee, syE3 D = ee := ⟨_, rfl⟩
  obtain ⟨E, hE⟩ : ∃ E, syG3 D = E := ⟨_, rfl⟩
  have HU : Hid (∀ (w : World) (L R : List SProp), Star L w → Take (diskE a D) L R → Calls Try.prog 23 #[dptr a] w fun r w' => r = .returned (.int .i64 ee) ∧ Star (diskE a E :: R) w') := fun w L R hM hx => by
    have := syncU h.out w hM hx
    rwa [hee, hE] at this
  have HS : Hid (∀ (w : World) (L : List SProp), Star L w → rowE 1 A D.sure.length (svs D.sure) ∈ L → rowE 1 B D.sure.length (svs D.now) ∈ L → rowE 1 C D.sure.length (lovs D.lo) ∈ L → Calls Try.prog 58 #[.agg (srV A c B d C e D.sure.length (fuD D))] w fun r w' => ∃ A' c' B' d' C' e', r = .returned (.tuple #[.agg (srV A' c' B' d' C' e' D.sure.length (fuD E)), .int .i64 ee]) ∧ Star (SRow E A' B' C' D.sure.length L) w') := fun w L hM hA hB hC => by
    have := syncS (c := c) (d := d) (e := e) h.out (by omega) w hM hA hB hC
    rwa [hee, hE] at this
  rw [hE] at hG
  have HG := Lib.hid hG
  obtain ⟨fu, hfu⟩ : ∃ fu, fuD D = fu := ⟨_, rfl⟩
  obtain ⟨fv, hfv⟩ : ∃ fv, fuD E = fv := ⟨_, rfl⟩
  rw [hfu, hfv] at HS
  rw [hfu]
  have HV := Lib.hid hfv
  generalize hq : D.sure.length = N at hM HS hN2 hN ⊢
  have HQ := Lib.hid hq
  have tok1 : Hid True := trivial
  clear hfu hfv hE hG hq hee
  go_enter Try.func34, Try.ntmps34
  go_wp2_with (first | (first | ((with_reducible refine at_box' ?_); (have hM0 := hM; clear hM; refine BigFrame.wpList_want (by rfl) fun K hK => ws_box hM0 rfl rfl (cs := srV A c B d C e N fu) rfl (fun g4 w hM => hK _ _ ?_); clear hM0 hK K)) | fail) | (first | ((with_reducible refine at_box' ?_); (have hM0 := hM; clear hM; refine BigFrame.wpList_want (by rfl) fun K hK => ws_box hM0 rfl rfl (cs := #[.int .i64 3, .int .i64 at_, .int .i64 n, .slice TA tn tc, .slice CA cn cc, .int .u8 (y.toNat : Int)]) rfl (fun g5 w hM => hK _ _ ?_); clear hM0 hK K)) | fail) | (have _t := tok1; (first | ((with_reducible refine at_alloc' ?_); (have hM0 := hM; clear hM; refine BigFrame.wpList_want (by rfl) fun K hK => ws_alloc hM0 (t := 63) rfl #[.slice none 0 0, .slice none 0 0, .slice none 0 0, .int .i64 0] info_srz (fun g6 w hM => hK _ _ ?_); clear hM0 hK K)) | fail); clear tok1) | (first | ((with_reducible refine at_alloc' ?_); (have hM0 := hM; clear hM; refine BigFrame.wpList_want (by rfl) fun K hK => ws_alloc hM0 (t := 63) rfl #[.slice none 0 0, .slice none 0 0, .slice none 0 0, .int .i64 0] info_srz (fun g10 w hM => hK _ _ ?_); clear hM0 hK K)) | fail) | (first | ((with_reducible refine at_load' ?_); (refine BigFrame.wpList_want (by rfl) fun K hK => ws_load1 hM rfl rfl (by (repeat (first | assumption | (with_reducible exact mZ) | apply mS)); first | done | fail) (by first | rfl | assumption) (by decide +kernel) (hK _ _ ?_); clear hK K)) | fail) | (first | ((with_reducible refine at_load' ?_); (refine BigFrame.wpList_want (by rfl) fun K hK => ws_load hM rfl rfl (by (repeat (first | assumption | (with_reducible exact mZ) | apply mS)); first | done | fail) (n := 4) (by rfl) (by decide +kernel) (hK _ _ ?_); clear hK K)) | fail) | (first | ((with_reducible refine at_store' ?_); (have hM0 := hM; clear hM; refine BigFrame.wpList_want (by rfl) fun K hK => ws_store hM0 rfl rfl rfl (by (repeat (first | (with_reducible exact Take.head) | apply Take.tail)); first | done | fail) (n := 4) (by rfl) (by rfl) (by kernel_rfl) (by simp [Value.oneCell']) (fun w hM => hK _ _ ?_); clear hM0 hK K)) | fail) | (go_at_call 23; have hM0 := hM; clear hM; (first | (with_reducible refine (HU.out _ _ _ hM0 (by (repeat (first | (with_reducible exact Take.head) | apply Take.tail)); first | done | fail)).mono ?_) | fail); clear hM0; rintro _ w ⟨rfl, hM⟩) | (go_at_call 58; have hM0 := hM; clear hM; (first | (with_reducible refine (HS.out _ _ hM0 (by (repeat (first | assumption | (with_reducible exact mZ) | apply mS)); first | done | fail) (by (repeat (first | assumption | (with_reducible exact mZ) | apply mS)); first | done | fail) (by (repeat (first | assumption | (with_reducible exact mZ) | apply mS)); first | done | fail)).mono ?_) | fail); clear hM0; rintro _ w ⟨A', c', B', d', C', e', rfl, hM⟩))
  refine bodyPost_ret (results_row_tmp (P := Try.prog) (ty := 63) rfl _ _ g6 63 (srV A' c' B' d' C' e' N fv) 4 (.bool true) rfl (by first | rfl | simp) (hM.blk (by (repeat (first | assumption | (with_reducible exact mZ) | apply mS)); first | done | fail)) rfl (by decide +kernel)) rfl ?_
  exact ⟨E, A', c', B', d', C', e', by rw [HV.out], HG.out.1, by show _ = _; rw [HG.out.2, HQ.out], (hM.sel (by repeat (first | (with_reducible exact Sel.refl) | (with_reducible exact Take.head) | (with_reducible apply Take.tail) | (with_reducible apply Sel.cons) | (with_reducible apply Sel.drop))) : Star (rowE 1 A' N (svs E.sure) :: rowE 1 B' N (svs E.now) :: rowE 1 C' N (lovs E.lo) :: diskE a E :: F) _).perm (List.perm_append_comm (l₁ := [rowE 1 A' N (svs E.sure), rowE 1 B' N (svs E.now), rowE 1 C' N (lovs E.lo)]) (l₂ := [diskE a E]) |>.append_right F)⟩
set_option maxRecDepth 100000 in
set_option maxHeartbeats 8000000 in
theorem does3_4 (h : Hid D.ok) (hN : Hid (D.sure.length = N)) (hN2 : N ≤ 12) (hk : p.kk = 4) (hp : Ac3Ok p) (w : World) (hM : Star (diskE a D :: SRow D A B C N F) w) (hT : rowE 1 p.TA p.tn (svs p.ts) ∈ F) (hCh : rowE 1 p.CA p.cn (ivs p.ch) ∈ F) :
    Calls Try.prog 34 #[dptr a, .agg (srV A c B d C e N (fuD D)), .agg (ac3C p).toArray] w (DoesD a N F) := by
  obtain ⟨kk, at_, n, TA, tn, tc, ts, CA, cn, cc, ch, y⟩ := p
  simp only at hk hT hCh
  obtain ⟨hn1, hn2, htn, hcn, hch⟩ := hp
  simp only at hn1 hn2 htn hcn hch
  subst hk
  have hNo := hN.out
  subst hNo
  have hG : (crD D ch).ok ∧ (crD D ch).sure.length = D.sure.length := ⟨crD_ok h.out ch, upd_len _ _⟩
  obtain ⟨E, hE⟩ : ∃ E, crD D ch = E := ⟨_, rfl⟩
  have HU : Hid (∀ (w : World) (L R : List SProp), Star L w → Take (diskE a D) L R → rowE 1 CA cn (ivs ch) ∈ R → Calls Try.prog 25 #[dptr a, .slice CA cn cc] w fun r w' => r = .returned (.tuple #[]) ∧ Star (diskE a E :: R) w') := fun w L R hM hx hF => by
    have := crash_d (cc := cc) h.out hcn hch w (hM.take hx) hF
    rwa [hE] at this
  have HS : Hid (∀ (w : World) (L : List SProp), Star L w → rowE 1 CA cn (ivs ch) ∈ L → rowE 1 A D.sure.length (svs D.sure) ∈ L → rowE 1 B D.sure.length (svs D.now) ∈ L → rowE 1 C D.sure.length (lovs D.lo) ∈ L → Calls Try.prog 38 #[.agg (srV A c B d C e D.sure.length (fuD D)), .slice CA cn cc] w fun r w' => ∃ A' c' B' d' C' e', r = .returned (.agg (srV A' c' B' d' C' e' D.sure.length (fuD E))) ∧ Star (SRow E A' B' C' D.sure.length L) w') := fun w L hM hF hA hB hC => by
    have := crashS (c := c) (d := d) (e := e) (cc := cc) h.out (by omega) hcn w hM hF hA hB hC
    rwa [hE] at this
  rw [hE] at hG
  have HG := Lib.hid hG
  obtain ⟨fu, hfu⟩ : ∃ fu, fuD D = fu := ⟨_, rfl⟩
  obtain ⟨fv, hfv⟩ : ∃ fv, fuD E = fv := ⟨_, rfl⟩
  rw [hfu, hfv] at HS
  rw [hfu]
  have HV := Lib.hid hfv
  generalize hq : D.sure.length = N at hM HS hN2 hN ⊢
  have HQ := Lib.hid hq
  have tok1 : Hid True := trivial
  clear hfu hfv hE hG hq 
  go_enter Try.func34, Try.ntmps34
  go_wp2_with (first | (first | ((with_reducible refine at_box' ?_); (have hM0 := hM; clear hM; refine BigFrame.wpList_want (by rfl) fun K hK => ws_box hM0 rfl rfl (cs := srV A c B d C e N fu) rfl (fun g4 w hM => hK _ _ ?_); clear hM0 hK K)) | fail) | (first | ((with_reducible refine at_box' ?_); (have hM0 := hM; clear hM; refine BigFrame.wpList_want (by rfl) fun K hK => ws_box hM0 rfl rfl (cs := #[.int .i64 4, .int .i64 at_, .int .i64 n, .slice TA tn tc, .slice CA cn cc, .int .u8 (y.toNat : Int)]) rfl (fun g5 w hM => hK _ _ ?_); clear hM0 hK K)) | fail) | (have _t := tok1; (first | ((with_reducible refine at_alloc' ?_); (have hM0 := hM; clear hM; refine BigFrame.wpList_want (by rfl) fun K hK => ws_alloc hM0 (t := 63) rfl #[.slice none 0 0, .slice none 0 0, .slice none 0 0, .int .i64 0] info_srz (fun g6 w hM => hK _ _ ?_); clear hM0 hK K)) | fail); clear tok1) | (first | ((with_reducible refine at_alloc' ?_); (have hM0 := hM; clear hM; refine BigFrame.wpList_want (by rfl) fun K hK => ws_alloc hM0 (t := 63) rfl #[.slice none 0 0, .slice none 0 0, .slice none 0 0, .int .i64 0] info_srz (fun g10 w hM => hK _ _ ?_); clear hM0 hK K)) | fail) | (first | ((with_reducible refine at_load' ?_); (refine BigFrame.wpList_want (by rfl) fun K hK => ws_load1 hM rfl rfl (by (repeat (first | assumption | (with_reducible exact mZ) | apply mS)); first | done | fail) (by first | rfl | assumption) (by decide +kernel) (hK _ _ ?_); clear hK K)) | fail) | (first | ((with_reducible refine at_load' ?_); (refine BigFrame.wpList_want (by rfl) fun K hK => ws_load hM rfl rfl (by (repeat (first | assumption | (with_reducible exact mZ) | apply mS)); first | done | fail) (n := 4) (by rfl) (by decide +kernel) (hK _ _ ?_); clear hK K)) | fail) | (first | ((with_reducible refine at_store' ?_); (have hM0 := hM; clear hM; refine BigFrame.wpList_want (by rfl) fun K hK => ws_store hM0 rfl rfl rfl (by (repeat (first | (with_reducible exact Take.head) | apply Take.tail)); first | done | fail) (n := 4) (by rfl) (by rfl) (by kernel_rfl) (by simp [Value.oneCell']) (fun w hM => hK _ _ ?_); clear hM0 hK K)) | fail) | (go_at_call 25; have hM0 := hM; clear hM; (first | (with_reducible refine (HU.out _ _ _ hM0 (by (repeat (first | (with_reducible exact Take.head) | apply Take.tail)); first | done | fail) (by (repeat (first | assumption | (with_reducible exact mZ) | apply mS)); first | done | fail)).mono ?_) | fail); clear hM0; rintro _ w ⟨rfl, hM⟩) | (go_at_call 38; have hM0 := hM; clear hM; (first | (with_reducible refine (HS.out _ _ hM0 (by (repeat (first | assumption | (with_reducible exact mZ) | apply mS)); first | done | fail) (by (repeat (first | assumption | (with_reducible exact mZ) | apply mS)); first | done | fail) (by (repeat (first | assumption | (with_reducible exact mZ) | apply mS)); first | done | fail) (by (repeat (first | assumption | (with_reducible exact mZ) | apply mS)); first | done | fail)).mono ?_) | fail); clear hM0; rintro _ w ⟨A', c', B', d', C', e', rfl, hM⟩))
  refine bodyPost_ret (results_row_tmp (P := Try.prog) (ty := 63) rfl _ _ g6 63 (srV A' c' B' d' C' e' N fv) 4 (.bool true) rfl (by first | rfl | simp) (hM.blk (by (repeat (first | assumption | (with_reducible exact mZ) | apply mS)); first | done | fail)) rfl (by decide +kernel)) rfl ?_
  exact ⟨E, A', c', B', d', C', e', by rw [HV.out], HG.out.1, by show _ = _; rw [HG.out.2, HQ.out], (hM.sel (by repeat (first | (with_reducible exact Sel.refl) | (with_reducible exact Take.head) | (with_reducible apply Take.tail) | (with_reducible apply Sel.cons) | (with_reducible apply Sel.drop))) : Star (rowE 1 A' N (svs E.sure) :: rowE 1 B' N (svs E.now) :: rowE 1 C' N (lovs E.lo) :: diskE a E :: F) _).perm (List.perm_append_comm (l₁ := [rowE 1 A' N (svs E.sure), rowE 1 B' N (svs E.now), rowE 1 C' N (lovs E.lo)]) (l₂ := [diskE a E]) |>.append_right F)⟩
set_option maxRecDepth 100000 in
set_option maxHeartbeats 8000000 in
theorem does3_5 (h : Hid D.ok) (hN : Hid (D.sure.length = N)) (hN2 : N ≤ 12) (hk : p.kk = 5) (hp : Ac3Ok p) (w : World) (hM : Star (diskE a D :: SRow D A B C N F) w) (hT : rowE 1 p.TA p.tn (svs p.ts) ∈ F) (hCh : rowE 1 p.CA p.cn (ivs p.ch) ∈ F) :
    Calls Try.prog 34 #[dptr a, .agg (srV A c B d C e N (fuD D)), .agg (ac3C p).toArray] w (DoesD a N F) := by
  obtain ⟨kk, at_, n, TA, tn, tc, ts, CA, cn, cc, ch, y⟩ := p
  simp only at hk hT hCh
  obtain ⟨hn1, hn2, htn, hcn, hch⟩ := hp
  simp only at hn1 hn2 htn hcn hch
  subst hk
  have hNo := hN.out
  subst hNo
  have hG := spG3_ok h.out at_ n y
  obtain ⟨ee, hee⟩ : ∃ ee, spE3 D at_ n = ee := ⟨_, rfl⟩
  obtain ⟨E, hE⟩ : ∃ E, spG3 D at_ n y = E := ⟨_, rfl⟩
  have HU : Hid (∀ (w : World) (L R : List SProp), Star L w → Take (diskE a D) L R → Calls Try.prog 59 #[dptr a, .int .i64 at_, .int .i64 n, .int .u8 (y.toNat : Int)] w fun r w' => r = .returned (.int .i64 ee) ∧ Star (diskE a E :: R) w') := fun w L R hM hx => by
    have := spoilU h.out at_ n y w hM hx
    rwa [hee, hE] at this
  have HS : Hid (∀ (w : World) (L : List SProp), Star L w → rowE 1 A D.sure.length (svs D.sure) ∈ L → rowE 1 B D.sure.length (svs D.now) ∈ L → rowE 1 C D.sure.length (lovs D.lo) ∈ L → Calls Try.prog 60 #[.agg (srV A c B d C e D.sure.length (fuD D)), .int .i64 at_, .int .i64 n, .int .u8 (y.toNat : Int)] w fun r w' => ∃ A' c' B' d', r = .returned (.tuple #[.agg (srV A' c' B' d' C e D.sure.length (fuD E)), .int .i64 ee]) ∧ Star (SRow E A' B' C D.sure.length L) w') := fun w L hM hA hB hC => by
    have := spoilS (c := c) (d := d) (e := e) h.out (by omega) at_ n y w hM hA hB hC
    rwa [hee, hE] at this
  rw [hE] at hG
  have HG := Lib.hid hG
  obtain ⟨fu, hfu⟩ : ∃ fu, fuD D = fu := ⟨_, rfl⟩
  obtain ⟨fv, hfv⟩ : ∃ fv, fuD E = fv := ⟨_, rfl⟩
  rw [hfu, hfv] at HS
  rw [hfu]
  have HV := Lib.hid hfv
  generalize hq : D.sure.length = N at hM HS hN2 hN ⊢
  have HQ := Lib.hid hq
  have tok1 : Hid True := trivial
  clear hfu hfv hE hG hq hee
  go_enter Try.func34, Try.ntmps34
  go_wp2_with (first | (first | ((with_reducible refine at_box' ?_); (have hM0 := hM; clear hM; refine BigFrame.wpList_want (by rfl) fun K hK => ws_box hM0 rfl rfl (cs := srV A c B d C e N fu) rfl (fun g4 w hM => hK _ _ ?_); clear hM0 hK K)) | fail) | (first | ((with_reducible refine at_box' ?_); (have hM0 := hM; clear hM; refine BigFrame.wpList_want (by rfl) fun K hK => ws_box hM0 rfl rfl (cs := #[.int .i64 5, .int .i64 at_, .int .i64 n, .slice TA tn tc, .slice CA cn cc, .int .u8 (y.toNat : Int)]) rfl (fun g5 w hM => hK _ _ ?_); clear hM0 hK K)) | fail) | (have _t := tok1; (first | ((with_reducible refine at_alloc' ?_); (have hM0 := hM; clear hM; refine BigFrame.wpList_want (by rfl) fun K hK => ws_alloc hM0 (t := 63) rfl #[.slice none 0 0, .slice none 0 0, .slice none 0 0, .int .i64 0] info_srz (fun g6 w hM => hK _ _ ?_); clear hM0 hK K)) | fail); clear tok1) | (first | ((with_reducible refine at_alloc' ?_); (have hM0 := hM; clear hM; refine BigFrame.wpList_want (by rfl) fun K hK => ws_alloc hM0 (t := 63) rfl #[.slice none 0 0, .slice none 0 0, .slice none 0 0, .int .i64 0] info_srz (fun g10 w hM => hK _ _ ?_); clear hM0 hK K)) | fail) | (first | ((with_reducible refine at_load' ?_); (refine BigFrame.wpList_want (by rfl) fun K hK => ws_load1 hM rfl rfl (by (repeat (first | assumption | (with_reducible exact mZ) | apply mS)); first | done | fail) (by first | rfl | assumption) (by decide +kernel) (hK _ _ ?_); clear hK K)) | fail) | (first | ((with_reducible refine at_load' ?_); (refine BigFrame.wpList_want (by rfl) fun K hK => ws_load hM rfl rfl (by (repeat (first | assumption | (with_reducible exact mZ) | apply mS)); first | done | fail) (n := 4) (by rfl) (by decide +kernel) (hK _ _ ?_); clear hK K)) | fail) | (first | ((with_reducible refine at_store' ?_); (have hM0 := hM; clear hM; refine BigFrame.wpList_want (by rfl) fun K hK => ws_store hM0 rfl rfl rfl (by (repeat (first | (with_reducible exact Take.head) | apply Take.tail)); first | done | fail) (n := 4) (by rfl) (by rfl) (by kernel_rfl) (by simp [Value.oneCell']) (fun w hM => hK _ _ ?_); clear hM0 hK K)) | fail) | (go_at_call 59; have hM0 := hM; clear hM; (first | (with_reducible refine (HU.out _ _ _ hM0 (by (repeat (first | (with_reducible exact Take.head) | apply Take.tail)); first | done | fail)).mono ?_) | fail); clear hM0; rintro _ w ⟨rfl, hM⟩) | (go_at_call 60; have hM0 := hM; clear hM; (first | (with_reducible refine (HS.out _ _ hM0 (by (repeat (first | assumption | (with_reducible exact mZ) | apply mS)); first | done | fail) (by (repeat (first | assumption | (with_reducible exact mZ) | apply mS)); first | done | fail) (by (repeat (first | assumption | (with_reducible exact mZ) | apply mS)); first | done | fail)).mono ?_) | fail); clear hM0; rintro _ w ⟨A', c', B', d', rfl, hM⟩))
  refine bodyPost_ret (results_row_tmp (P := Try.prog) (ty := 63) rfl _ _ g6 63 (srV A' c' B' d' C e N fv) 4 (.bool true) rfl (by first | rfl | simp) (hM.blk (by (repeat (first | assumption | (with_reducible exact mZ) | apply mS)); first | done | fail)) rfl (by decide +kernel)) rfl ?_
  exact ⟨E, A', c', B', d', C, e, by rw [HV.out], HG.out.1, by show _ = _; rw [HG.out.2, HQ.out], (hM.sel (by repeat (first | (with_reducible exact Sel.refl) | (with_reducible exact Take.head) | (with_reducible apply Take.tail) | (with_reducible apply Sel.cons) | (with_reducible apply Sel.drop))) : Star (rowE 1 A' N (svs E.sure) :: rowE 1 B' N (svs E.now) :: rowE 1 C N (lovs E.lo) :: diskE a E :: F) _).perm (List.perm_append_comm (l₁ := [rowE 1 A' N (svs E.sure), rowE 1 B' N (svs E.now), rowE 1 C N (lovs E.lo)]) (l₂ := [diskE a E]) |>.append_right F)⟩
set_option maxRecDepth 100000 in
set_option maxHeartbeats 8000000 in
theorem does3_6 (h : Hid D.ok) (hN : Hid (D.sure.length = N)) (hN2 : N ≤ 12) (hk : p.kk = 6) (hp : Ac3Ok p) (w : World) (hM : Star (diskE a D :: SRow D A B C N F) w) (hT : rowE 1 p.TA p.tn (svs p.ts) ∈ F) (hCh : rowE 1 p.CA p.cn (ivs p.ch) ∈ F) :
    Calls Try.prog 34 #[dptr a, .agg (srV A c B d C e N (fuD D)), .agg (ac3C p).toArray] w (DoesD a N F) := by
  obtain ⟨kk, at_, n, TA, tn, tc, ts, CA, cn, cc, ch, y⟩ := p
  simp only at hk hT hCh
  obtain ⟨hn1, hn2, htn, hcn, hch⟩ := hp
  simp only at hn1 hn2 htn hcn hch
  subst hk
  have hNo := hN.out
  subst hNo
  have hG : (armG D n).ok ∧ (armG D n).sure.length = D.sure.length := ⟨armG_ok h.out n hn2, rfl⟩
  obtain ⟨m, hm⟩ : ∃ m, max n 0 = m := ⟨_, rfl⟩
  have hm2 : (if n < 0 then 0 else n) = m := by rw [← hm]; split <;> omega
  have HU : Hid (∀ (w : World) (L R : List SProp), Star L w → Take (fE a D.armed D.left) L R → Calls Try.prog 28 #[fptr a, .int .i64 n] w fun r w' => r = .returned (.tuple #[]) ∧ Star (fE a true m :: R) w') := fun w L R hM hx => by
    have := arm_f D.armed D.left n w (hM.take hx)
    rwa [hm2] at this
  have HDJ : Hid (∀ (w : World) (L : List SProp), Star (dE a D.sure.length :: fE a true m :: sE a D.sure :: mE a (lmv D) :: L) w → Star (diskE a (armG D n) :: L) w) := fun w L hM => Star.djoin (D := armG D n) (by show Star (dE a D.sure.length :: fE a true (max n 0) :: sE a D.sure :: mE a (lmv D) :: L) w; rw [hm]; exact hM)
  have hfv : fuD (armG D n) = m := hm
  have HV := Lib.hid hfv
  have HG := Lib.hid hG
  obtain ⟨fu, hfu⟩ : ∃ fu, fuD D = fu := ⟨_, rfl⟩
  rw [hfu]
  have hM2 := hM.dopen
  clear hM
  have hM := hM2
  clear hM2
  have tok1 : Hid True := trivial
  generalize hq : D.sure.length = N at hM HDJ hN2 hN ⊢
  have HQ := Lib.hid hq
  clear hfu hfv hG hq hm2
  go_enter Try.func34, Try.ntmps34
  go_wp2_with (first | (first | ((with_reducible refine at_box' ?_); (have hM0 := hM; clear hM; refine BigFrame.wpList_want (by rfl) fun K hK => ws_box hM0 rfl rfl (cs := srV A c B d C e N fu) rfl (fun g4 w hM => hK _ _ ?_); clear hM0 hK K)) | fail) | (first | ((with_reducible refine at_box' ?_); (have hM0 := hM; clear hM; refine BigFrame.wpList_want (by rfl) fun K hK => ws_box hM0 rfl rfl (cs := #[.int .i64 6, .int .i64 at_, .int .i64 n, .slice TA tn tc, .slice CA cn cc, .int .u8 (y.toNat : Int)]) rfl (fun g5 w hM => hK _ _ ?_); clear hM0 hK K)) | fail) | (have _t := tok1; (first | ((with_reducible refine at_alloc' ?_); (have hM0 := hM; clear hM; refine BigFrame.wpList_want (by rfl) fun K hK => ws_alloc hM0 (t := 63) rfl #[.slice none 0 0, .slice none 0 0, .slice none 0 0, .int .i64 0] info_srz (fun g6 w hM => hK _ _ ?_); clear hM0 hK K)) | fail); clear tok1) | (first | ((with_reducible refine at_alloc' ?_); (have hM0 := hM; clear hM; refine BigFrame.wpList_want (by rfl) fun K hK => ws_alloc hM0 (t := 63) rfl #[.slice none 0 0, .slice none 0 0, .slice none 0 0, .int .i64 0] info_srz (fun g10 w hM => hK _ _ ?_); clear hM0 hK K)) | fail) | (first | ((with_reducible refine at_load' ?_); (refine BigFrame.wpList_want (by rfl) fun K hK => ws_load1 hM rfl rfl (by (repeat (first | assumption | (with_reducible exact mZ) | apply mS)); first | done | fail) (by first | rfl | assumption) (by decide +kernel) (hK _ _ ?_); clear hK K)) | fail) | (first | ((with_reducible refine at_load' ?_); (refine BigFrame.wpList_want (by rfl) fun K hK => ws_load hM rfl rfl (by (repeat (first | assumption | (with_reducible exact mZ) | apply mS)); first | done | fail) (n := 4) (by rfl) (by decide +kernel) (hK _ _ ?_); clear hK K)) | fail) | (first | ((with_reducible refine at_store' ?_); (have hM0 := hM; clear hM; refine BigFrame.wpList_want (by rfl) fun K hK => ws_store hM0 rfl rfl rfl (by (repeat (first | (with_reducible exact Take.head) | apply Take.tail)); first | done | fail) (n := 4) (by rfl) (by rfl) (by kernel_rfl) (by simp [Value.oneCell']) (fun w hM => hK _ _ ?_); clear hM0 hK K)) | fail) | (first | ((with_reducible refine at_store' ?_); (have hM0 := hM; clear hM; refine BigFrame.wpList_want (by rfl) fun K hK => ws_store1 hM0 rfl rfl (by go_simp; rfl) (by first | rfl | assumption) (by (repeat (first | (with_reducible exact Take.head) | apply Take.tail)); first | done | fail) (by simp) (by kernel_rfl) (by simp only [List.setIfInBounds_toArray, List.set_cons_zero, List.set_cons_succ]; rfl) (fun w hM => hK _ _ ?_); clear hM0 hK K)) | fail))
  (refine region_RS ([dE a N, cellsE g5 68 #[.int .i64 6, .int .i64 at_, .int .i64 n, .slice TA tn tc, .slice CA cn cc, .int .u8 (y.toNat : Int)]]) [] (by kernel_rfl) hM ?_; clear hM; change RS _ _ _ _ _ _ 7 (Array.replicate 7 false) _ _; refine RS_take (i := 0) rfl (by decide +kernel) (fun _ _ _ h => h) (by first | (intro x hx; (repeat (first | exact hx | apply mS)); done) | ((repeat (refine List.forall_mem_cons.2 ⟨(by (repeat (first | assumption | (with_reducible exact mZ) | apply mS)); first | done | fail), ?_⟩)); intro x hx; first | (cases hx; done) | ((repeat (first | exact hx | apply mS)); done))) (stab_pure (by rfl) (fun w => (by go_simp; try with_reducible rfl))) ?_; simp only [Act.put, List.setIfInBounds_toArray, List.set_cons_zero, List.set_cons_succ]; refine RS_take (i := 1) rfl (by decide +kernel) (fun _ _ _ h => h) (by first | (intro x hx; (repeat (first | exact hx | apply mS)); done) | ((repeat (refine List.forall_mem_cons.2 ⟨(by (repeat (first | assumption | (with_reducible exact mZ) | apply mS)); first | done | fail), ?_⟩)); intro x hx; first | (cases hx; done) | ((repeat (first | exact hx | apply mS)); done))) (stab_pure (by rfl) (fun w => (by go_simp; try with_reducible rfl))) ?_; simp only [Act.put, List.setIfInBounds_toArray, List.set_cons_zero, List.set_cons_succ]; refine RS_take (i := 2) rfl (by decide +kernel) (fun _ _ _ h => h) (by first | (intro x hx; (repeat (first | exact hx | apply mS)); done) | ((repeat (refine List.forall_mem_cons.2 ⟨(by (repeat (first | assumption | (with_reducible exact mZ) | apply mS)); first | done | fail), ?_⟩)); intro x hx; first | (cases hx; done) | ((repeat (first | exact hx | apply mS)); done))) (stab_pure (by rfl) (fun w => (by go_simp; try with_reducible rfl))) ?_; simp only [Act.put, List.setIfInBounds_toArray, List.set_cons_zero, List.set_cons_succ]; refine RS_take (i := 3) rfl (by decide +kernel) (fun _ _ _ h => h) (by first | (intro x hx; (repeat (first | exact hx | apply mS)); done) | ((repeat (refine List.forall_mem_cons.2 ⟨(by (repeat (first | assumption | (with_reducible exact mZ) | apply mS)); first | done | fail), ?_⟩)); intro x hx; first | (cases hx; done) | ((repeat (first | exact hx | apply mS)); done))) (stab_read (by rfl) (fun L w hL hM => (ex_load1 (v := fptr a) hM rfl rfl (hL _ (by (repeat (first | assumption | (with_reducible exact mZ) | apply mS)); first | done | fail)) rfl (by decide +kernel)))) ?_; simp only [Act.put, List.setIfInBounds_toArray, List.set_cons_zero, List.set_cons_succ]; refine RS_take (i := 4) rfl (by decide +kernel) (fun _ _ _ h => h) (by first | (intro x hx; (repeat (first | exact hx | apply mS)); done) | ((repeat (refine List.forall_mem_cons.2 ⟨(by (repeat (first | assumption | (with_reducible exact mZ) | apply mS)); first | done | fail), ?_⟩)); intro x hx; first | (cases hx; done) | ((repeat (first | exact hx | apply mS)); done))) (stab_pure (by rfl) (fun w => (by go_simp; try with_reducible rfl))) ?_; simp only [Act.put, List.setIfInBounds_toArray, List.set_cons_zero, List.set_cons_succ]; refine RS_take (i := 5) rfl (by decide +kernel) (fun _ _ _ h => h) (by first | (intro x hx; (repeat (first | exact hx | apply mS)); done) | ((repeat (refine List.forall_mem_cons.2 ⟨(by (repeat (first | assumption | (with_reducible exact mZ) | apply mS)); first | done | fail), ?_⟩)); intro x hx; first | (cases hx; done) | ((repeat (first | exact hx | apply mS)); done))) (stab_read (by rfl) (fun L w hL hM => (ex_load1 (v := .int .i64 n) hM rfl rfl (hL _ (by (repeat (first | assumption | (with_reducible exact mZ) | apply mS)); first | done | fail)) rfl (by decide +kernel)))) ?_; simp only [Act.put, List.setIfInBounds_toArray, List.set_cons_zero, List.set_cons_succ]; refine RS_one (i := 6) (by decide +kernel) rfl (by rfl) (.inl (by first | (intro x hx; (repeat (first | exact hx | apply mS)); done) | ((repeat (refine List.forall_mem_cons.2 ⟨(by (repeat (first | assumption | (with_reducible exact mZ) | apply mS)); first | done | fail), ?_⟩)); intro x hx; first | (cases hx; done) | ((repeat (first | exact hx | apply mS)); done)))) (fun w K hM0 hK => ?_); refine ws_call (by go_simp; try with_reducible rfl) (HU.out _ _ _ hM0 (by (repeat (first | (with_reducible exact Take.head) | apply Take.tail)); first | done | fail)) (fun r w2 hR => ?_); obtain ⟨rfl, hM⟩ := hR; refine ⟨_, rfl, hK _ _ _ hM ?_⟩; clear hM hM0 hK K; simp only [Act.put, List.setIfInBounds_toArray, List.set_cons_zero, List.set_cons_succ]; refine RS_done (by decide +kernel) (.inl (by first | (intro x hx; (repeat (first | exact hx | apply mS)); done) | ((repeat (refine List.forall_mem_cons.2 ⟨(by (repeat (first | assumption | (with_reducible exact mZ) | apply mS)); first | done | fail), ?_⟩)); intro x hx; first | (cases hx; done) | ((repeat (first | exact hx | apply mS)); done)))) (fun w hM => ?_))
  all_goals (
    go_wp2_with (first | (first | ((with_reducible refine at_box' ?_); (have hM0 := hM; clear hM; refine BigFrame.wpList_want (by rfl) fun K hK => ws_box hM0 rfl rfl (cs := srV A c B d C e N fu) rfl (fun g4 w hM => hK _ _ ?_); clear hM0 hK K)) | fail) | (first | ((with_reducible refine at_box' ?_); (have hM0 := hM; clear hM; refine BigFrame.wpList_want (by rfl) fun K hK => ws_box hM0 rfl rfl (cs := #[.int .i64 6, .int .i64 at_, .int .i64 n, .slice TA tn tc, .slice CA cn cc, .int .u8 (y.toNat : Int)]) rfl (fun g5 w hM => hK _ _ ?_); clear hM0 hK K)) | fail) | (have _t := tok1; (first | ((with_reducible refine at_alloc' ?_); (have hM0 := hM; clear hM; refine BigFrame.wpList_want (by rfl) fun K hK => ws_alloc hM0 (t := 63) rfl #[.slice none 0 0, .slice none 0 0, .slice none 0 0, .int .i64 0] info_srz (fun g6 w hM => hK _ _ ?_); clear hM0 hK K)) | fail); clear tok1) | (first | ((with_reducible refine at_alloc' ?_); (have hM0 := hM; clear hM; refine BigFrame.wpList_want (by rfl) fun K hK => ws_alloc hM0 (t := 63) rfl #[.slice none 0 0, .slice none 0 0, .slice none 0 0, .int .i64 0] info_srz (fun g10 w hM => hK _ _ ?_); clear hM0 hK K)) | fail) | (first | ((with_reducible refine at_load' ?_); (refine BigFrame.wpList_want (by rfl) fun K hK => ws_load1 hM rfl rfl (by (repeat (first | assumption | (with_reducible exact mZ) | apply mS)); first | done | fail) (by first | rfl | assumption) (by decide +kernel) (hK _ _ ?_); clear hK K)) | fail) | (first | ((with_reducible refine at_load' ?_); (refine BigFrame.wpList_want (by rfl) fun K hK => ws_load hM rfl rfl (by (repeat (first | assumption | (with_reducible exact mZ) | apply mS)); first | done | fail) (n := 4) (by rfl) (by decide +kernel) (hK _ _ ?_); clear hK K)) | fail) | (first | ((with_reducible refine at_store' ?_); (have hM0 := hM; clear hM; refine BigFrame.wpList_want (by rfl) fun K hK => ws_store hM0 rfl rfl rfl (by (repeat (first | (with_reducible exact Take.head) | apply Take.tail)); first | done | fail) (n := 4) (by rfl) (by rfl) (by kernel_rfl) (by simp [Value.oneCell']) (fun w hM => hK _ _ ?_); clear hM0 hK K)) | fail) | (first | ((with_reducible refine at_store' ?_); (have hM0 := hM; clear hM; refine BigFrame.wpList_want (by rfl) fun K hK => ws_store1 hM0 rfl rfl (by go_simp; rfl) (by first | rfl | assumption) (by (repeat (first | (with_reducible exact Take.head) | apply Take.tail)); first | done | fail) (by simp) (by kernel_rfl) (by simp only [List.setIfInBounds_toArray, List.set_cons_zero, List.set_cons_succ]; rfl) (fun w hM => hK _ _ ?_); clear hM0 hK K)) | fail))
    refine bodyPost_ret (results_row_tmp (P := Try.prog) (ty := 63) rfl _ _ g6 63 (srV A c B d C e N m) 4 (.bool true) rfl (by first | rfl | simp) (hM.blk (by (repeat (first | assumption | (with_reducible exact mZ) | apply mS)); first | done | fail)) rfl (by decide +kernel)) rfl ?_
    have hM3 : Star (fE a true m :: dE a N :: sE a D.sure :: mE a (lmv D) :: SRow D A B C N F) _ := hM.sel (by repeat (first | (with_reducible exact Sel.refl) | (with_reducible exact Take.head) | (with_reducible apply Take.tail) | (with_reducible apply Sel.cons) | (with_reducible apply Sel.drop)))
    exact ⟨armG D n, A, c, B, d, C, e, by rw [HV.out], HG.out.1, by show _ = _; rw [HG.out.2, HQ.out], HDJ.out _ _ (hM3.perm (List.Perm.swap _ _ _))⟩)
set_option maxRecDepth 100000 in
set_option maxHeartbeats 8000000 in
theorem does3_7 (h : Hid D.ok) (hN : Hid (D.sure.length = N)) (hN2 : N ≤ 12) (hk : p.kk = 7) (hp : Ac3Ok p) (w : World) (hM : Star (diskE a D :: SRow D A B C N F) w) (hT : rowE 1 p.TA p.tn (svs p.ts) ∈ F) (hCh : rowE 1 p.CA p.cn (ivs p.ch) ∈ F) :
    Calls Try.prog 34 #[dptr a, .agg (srV A c B d C e N (fuD D)), .agg (ac3C p).toArray] w (DoesD a N F) := by
  obtain ⟨kk, at_, n, TA, tn, tc, ts, CA, cn, cc, ch, y⟩ := p
  simp only at hk hT hCh
  obtain ⟨hn1, hn2, htn, hcn, hch⟩ := hp
  simp only at hn1 hn2 htn hcn hch
  subst hk
  have hNo := hN.out
  subst hNo
  have hG : (clrG D).ok ∧ (clrG D).sure.length = D.sure.length := ⟨clrG_ok h.out, rfl⟩
  have HU : Hid (∀ (w : World) (L R : List SProp), Star L w → Take (fE a D.armed D.left) L R → Calls Try.prog 29 #[fptr a] w fun r w' => r = .returned (.tuple #[]) ∧ Star (fE a false D.left :: R) w') := fun w L R hM hx => clear_f D.armed D.left w (hM.take hx)
  have HDJ : Hid (∀ (w : World) (L : List SProp), Star (dE a D.sure.length :: fE a false D.left :: sE a D.sure :: mE a (lmv D) :: L) w → Star (diskE a (clrG D) :: L) w) := fun w L hM => Star.djoin (D := clrG D) hM
  have hfv : fuD (clrG D) = -1 := rfl
  have HV := Lib.hid hfv
  have HG := Lib.hid hG
  obtain ⟨fu, hfu⟩ : ∃ fu, fuD D = fu := ⟨_, rfl⟩
  rw [hfu]
  have hM2 := hM.dopen
  clear hM
  have hM := hM2
  clear hM2
  have tok1 : Hid True := trivial
  generalize hq : D.sure.length = N at hM HDJ hN2 hN ⊢
  have HQ := Lib.hid hq
  clear hfu hfv hG hq
  go_enter Try.func34, Try.ntmps34
  go_wp2_with (first | (first | ((with_reducible refine at_box' ?_); (have hM0 := hM; clear hM; refine BigFrame.wpList_want (by rfl) fun K hK => ws_box hM0 rfl rfl (cs := srV A c B d C e N fu) rfl (fun g4 w hM => hK _ _ ?_); clear hM0 hK K)) | fail) | (first | ((with_reducible refine at_box' ?_); (have hM0 := hM; clear hM; refine BigFrame.wpList_want (by rfl) fun K hK => ws_box hM0 rfl rfl (cs := #[.int .i64 7, .int .i64 at_, .int .i64 n, .slice TA tn tc, .slice CA cn cc, .int .u8 (y.toNat : Int)]) rfl (fun g5 w hM => hK _ _ ?_); clear hM0 hK K)) | fail) | (have _t := tok1; (first | ((with_reducible refine at_alloc' ?_); (have hM0 := hM; clear hM; refine BigFrame.wpList_want (by rfl) fun K hK => ws_alloc hM0 (t := 63) rfl #[.slice none 0 0, .slice none 0 0, .slice none 0 0, .int .i64 0] info_srz (fun g6 w hM => hK _ _ ?_); clear hM0 hK K)) | fail); clear tok1) | (first | ((with_reducible refine at_alloc' ?_); (have hM0 := hM; clear hM; refine BigFrame.wpList_want (by rfl) fun K hK => ws_alloc hM0 (t := 63) rfl #[.slice none 0 0, .slice none 0 0, .slice none 0 0, .int .i64 0] info_srz (fun g10 w hM => hK _ _ ?_); clear hM0 hK K)) | fail) | (first | ((with_reducible refine at_load' ?_); (refine BigFrame.wpList_want (by rfl) fun K hK => ws_load1 hM rfl rfl (by (repeat (first | assumption | (with_reducible exact mZ) | apply mS)); first | done | fail) (by first | rfl | assumption) (by decide +kernel) (hK _ _ ?_); clear hK K)) | fail) | (first | ((with_reducible refine at_load' ?_); (refine BigFrame.wpList_want (by rfl) fun K hK => ws_load hM rfl rfl (by (repeat (first | assumption | (with_reducible exact mZ) | apply mS)); first | done | fail) (n := 4) (by rfl) (by decide +kernel) (hK _ _ ?_); clear hK K)) | fail) | (first | ((with_reducible refine at_store' ?_); (have hM0 := hM; clear hM; refine BigFrame.wpList_want (by rfl) fun K hK => ws_store hM0 rfl rfl rfl (by (repeat (first | (with_reducible exact Take.head) | apply Take.tail)); first | done | fail) (n := 4) (by rfl) (by rfl) (by kernel_rfl) (by simp [Value.oneCell']) (fun w hM => hK _ _ ?_); clear hM0 hK K)) | fail) | (first | ((with_reducible refine at_store' ?_); (have hM0 := hM; clear hM; refine BigFrame.wpList_want (by rfl) fun K hK => ws_store1 hM0 rfl rfl (by go_simp; rfl) (by first | rfl | assumption) (by (repeat (first | (with_reducible exact Take.head) | apply Take.tail)); first | done | fail) (by simp) (by kernel_rfl) (by simp only [List.setIfInBounds_toArray, List.set_cons_zero, List.set_cons_succ]; rfl) (fun w hM => hK _ _ ?_); clear hM0 hK K)) | fail) | (go_at_call 29; have hM0 := hM; clear hM; (first | (with_reducible refine (HU.out _ _ _ hM0 (by (repeat (first | (with_reducible exact Take.head) | apply Take.tail)); first | done | fail)).mono ?_) | fail); clear hM0; rintro _ w ⟨rfl, hM⟩))
  refine bodyPost_ret (results_row_tmp (P := Try.prog) (ty := 63) rfl _ _ g6 63 (srV A c B d C e N (-1)) 4 (.bool true) rfl (by first | rfl | simp) (hM.blk (by (repeat (first | assumption | (with_reducible exact mZ) | apply mS)); first | done | fail)) rfl (by decide +kernel)) rfl ?_
  have hM3 : Star (fE a false D.left :: dE a N :: sE a D.sure :: mE a (lmv D) :: SRow D A B C N F) _ := hM.sel (by repeat (first | (with_reducible exact Sel.refl) | (with_reducible exact Take.head) | (with_reducible apply Take.tail) | (with_reducible apply Sel.cons) | (with_reducible apply Sel.drop)))
  exact ⟨clrG D, A, c, B, d, C, e, by rw [HV.out], HG.out.1, by show _ = _; rw [HG.out.2, HQ.out], HDJ.out _ _ (hM3.perm (List.Perm.swap _ _ _))⟩
set_option maxRecDepth 100000 in
set_option maxHeartbeats 8000000 in
theorem does3_0 (h : Hid D.ok) (hN : Hid (D.sure.length = N)) (hN2 : N ≤ 12) (hk : p.kk < 1 ∨ 7 < p.kk) (hp : Ac3Ok p) (w : World) (hM : Star (diskE a D :: SRow D A B C N F) w) (hT : rowE 1 p.TA p.tn (svs p.ts) ∈ F) (hCh : rowE 1 p.CA p.cn (ivs p.ch) ∈ F) :
    Calls Try.prog 34 #[dptr a, .agg (srV A c B d C e N (fuD D)), .agg (ac3C p).toArray] w (DoesD a N F) := by
  obtain ⟨kk, at_, n, TA, tn, tc, ts, CA, cn, cc, ch, y⟩ := p
  simp only at hk hT hCh
  obtain ⟨hn1, hn2, htn, hcn, hch⟩ := hp
  simp only at hn1 hn2 htn hcn hch
  have hNo := hN.out
  subst hNo
  have e1 : (kk == 1) = false := by simp; omega
  have e2 : (kk == 2) = false := by simp; omega
  have e3 : (kk == 3) = false := by simp; omega
  have e4 : (kk == 4) = false := by simp; omega
  have e5 : (kk == 5) = false := by simp; omega
  have e6 : (kk == 6) = false := by simp; omega
  have e7 : (kk == 7) = false := by simp; omega
  have d1 : decide (kk = 1) = false := by simp; omega
  have d2 : decide (kk = 2) = false := by simp; omega
  have d3 : decide (kk = 3) = false := by simp; omega
  have d4 : decide (kk = 4) = false := by simp; omega
  have d5 : decide (kk = 5) = false := by simp; omega
  have d6 : decide (kk = 6) = false := by simp; omega
  have d7 : decide (kk = 7) = false := by simp; omega
  obtain ⟨fu, hfu⟩ : ∃ fu, fuD D = fu := ⟨_, rfl⟩
  rw [hfu]
  have HV := Lib.hid hfu
  have tok1 : Hid True := trivial
  generalize hq : D.sure.length = N at hM hN2 hN ⊢
  have HQ := Lib.hid hq
  clear hfu hq hk
  go_enter Try.func34, Try.ntmps34
  go_wp2_with (first | (first | ((with_reducible refine at_box' ?_); (have hM0 := hM; clear hM; refine BigFrame.wpList_want (by rfl) fun K hK => ws_box hM0 rfl rfl (cs := srV A c B d C e N fu) rfl (fun g4 w hM => hK _ _ ?_); clear hM0 hK K)) | fail) | (first | ((with_reducible refine at_box' ?_); (have hM0 := hM; clear hM; refine BigFrame.wpList_want (by rfl) fun K hK => ws_box hM0 rfl rfl (cs := #[.int .i64 kk, .int .i64 at_, .int .i64 n, .slice TA tn tc, .slice CA cn cc, .int .u8 (y.toNat : Int)]) rfl (fun g5 w hM => hK _ _ ?_); clear hM0 hK K)) | fail) | (have _t := tok1; (first | ((with_reducible refine at_alloc' ?_); (have hM0 := hM; clear hM; refine BigFrame.wpList_want (by rfl) fun K hK => ws_alloc hM0 (t := 63) rfl #[.slice none 0 0, .slice none 0 0, .slice none 0 0, .int .i64 0] info_srz (fun g6 w hM => hK _ _ ?_); clear hM0 hK K)) | fail); clear tok1) | (first | ((with_reducible refine at_alloc' ?_); (have hM0 := hM; clear hM; refine BigFrame.wpList_want (by rfl) fun K hK => ws_alloc hM0 (t := 63) rfl #[.slice none 0 0, .slice none 0 0, .slice none 0 0, .int .i64 0] info_srz (fun g10 w hM => hK _ _ ?_); clear hM0 hK K)) | fail) | (first | ((with_reducible refine at_load' ?_); (refine BigFrame.wpList_want (by rfl) fun K hK => ws_load1 hM rfl rfl (by (repeat (first | assumption | (with_reducible exact mZ) | apply mS)); first | done | fail) (by first | rfl | assumption) (by decide +kernel) (hK _ _ ?_); clear hK K)) | fail) | (first | ((with_reducible refine at_load' ?_); (refine BigFrame.wpList_want (by rfl) fun K hK => ws_load hM rfl rfl (by (repeat (first | assumption | (with_reducible exact mZ) | apply mS)); first | done | fail) (n := 4) (by rfl) (by decide +kernel) (hK _ _ ?_); clear hK K)) | fail) | (first | ((with_reducible refine at_store' ?_); (have hM0 := hM; clear hM; refine BigFrame.wpList_want (by rfl) fun K hK => ws_store hM0 rfl rfl rfl (by (repeat (first | (with_reducible exact Take.head) | apply Take.tail)); first | done | fail) (n := 4) (by rfl) (by rfl) (by kernel_rfl) (by simp [Value.oneCell']) (fun w hM => hK _ _ ?_); clear hM0 hK K)) | fail))
  refine bodyPost_ret (results_row_tmp (P := Try.prog) (ty := 63) rfl _ _ g6 63 (srV A c B d C e N fu) 4 (.bool true) rfl (by first | rfl | simp) (hM.blk (by (repeat (first | assumption | (with_reducible exact mZ) | apply mS)); first | done | fail)) rfl (by decide +kernel)) rfl ?_
  exact ⟨D, A, c, B, d, C, e, by rw [HV.out], h, HQ, hM.sel (by repeat (first | (with_reducible exact Sel.refl) | (with_reducible exact Take.head) | (with_reducible apply Take.tail) | (with_reducible apply Sel.cons) | (with_reducible apply Sel.drop)))⟩
end
end Go.Proofs.Ytbejifbiffeamaa
