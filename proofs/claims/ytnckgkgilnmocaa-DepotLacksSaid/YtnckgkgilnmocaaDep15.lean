/- What the laws share, part 15 (DpQ, DpR, DpU, DpV, MapN, DpW, DpX). No condition but those that each theorem names. -/
import Derived.Test.YtnckgkgilnmocaaDep14
import Derived.Test.YtnckgkgilnmocaaDep4
set_option linter.unusedSimpArgs false
set_option linter.unusedVariables false
namespace Go.Proofs.Ytnckgkgilnmocaa
open Go.RowKit
attribute [local go_sem] extract_mid extract_drop bget bsize wrap64_u8 i64_u8 u64_u8 bappend
section
variable {F L R : List SProp}
set_option maxRecDepth 100000 in
set_option maxHeartbeats 16000000 in
theorem put_big {A : Option Addr} {d c : Nat} {o : Ob} (hid : o.2.1.length = 32) (hx : 4095 < o.2.2.length) (w : World) (hM : Star L w) (hr : rowE 34 A 1 (ovs [o]) ∈ L) :
    Calls Try.prog 28 #[bptr d, .slice A 1 c] w fun r w' => r = .returned (.int .i64 5) ∧ Star L w' := by
  have HSZ : Hid ((ocs o).length = 34) := ocs_len hid
  have H33 : Hid ((ocs o).toArray[33]? = some (.string ⟨o.2.2.toArray⟩)) := ocs_33 hid
  have HOS : Hid ((ocs o).toArray.size = 34) := ocs_sz hid
  have HO1 : Hid (∀ v ∈ (ocs o).toArray.toList, v.oneCell' = true) := ocs_oneA _
  have HOS0 : Hid ((ocs (0, z32, [])).toArray.size = 34) := ocs_sz oz32
  go_enter Try.func28, Try.ntmps28; go_wp2_with fail; go_loopw [12] (fun i wr => i = .int .i64 0 ∧ Star L wr) (fun _ _ => 0)
  case atStart => exact ⟨rfl, hM⟩
  case round =>
    clear hM
    obtain ⟨rfl, hM⟩ := hrel
    obtain ⟨ad, o', rfl, hc, hgx, -⟩ := Rd.elems (f := ocs) (hM.row (A := A) (n := 1) (xs := ovs [o]) (by (repeat (first | assumption | (with_reducible exact mZ) | apply mS)); first | done | fail)) (fun y hy => by rw [List.mem_singleton.1 hy]; exact HSZ.out) (by omega) (k := 0) (by omega)
    obtain rfl : o' = o := by simpa using hgx.symm
    clear hgx
    replace hc : ∀ j v, (ocs o')[j]? = some v → wr.cell? (ad.add j) = some v := fun j v h => hc j v h
    generalize ho : o'.2.2 = x at H33 hx
    clear ho
    go_wp2_with (first | ((with_reducible refine at_load' ?_); refine wpList_plain rfl fun K hK => ws_load_at rfl rfl (ocs o') hc (n := 34) HSZ.out (by decide +kernel) (hK _ _ ?_); clear hK K) | (first | ((with_reducible refine at_alloc' ?_); (have hM0 := hM; clear hM; refine BigFrame.wpList_want (by rfl) fun K hK => ws_alloc hM0 (t := 75) rfl (ocs (0, z32, [])).toArray info_ob (fun g6 w hM => hK _ _ ?_); clear hM0 hK K)) | fail) | (first | ((with_reducible refine at_store' ?_); (have hM0 := hM; clear hM; refine BigFrame.wpList_want (by rfl) fun K hK => ws_store hM0 rfl rfl rfl (by (repeat (first | (with_reducible exact Take.head) | apply Take.tail)); first | done | fail) (n := 34) (by exact HOS.out) (by exact HOS0.out) (by kernel_rfl) (by exact HO1.out) (fun w hM => hK _ _ ?_); clear hM0 hK K)) | fail) | (first | ((with_reducible refine at_load' ?_); (refine BigFrame.wpList_want (by rfl) fun K hK => ws_load1 hM rfl rfl (by (repeat (first | assumption | (with_reducible exact mZ) | apply mS)); first | done | fail) (by exact H33.out) (by decide +kernel) (hK _ _ ?_); clear hK K)) | fail))
    go_ret
    exact ⟨rfl, hM.sel (by repeat (first | (with_reducible exact Sel.refl) | (with_reducible exact Take.head) | (with_reducible apply Take.tail) | (with_reducible apply Sel.cons) | (with_reducible apply Sel.drop)))⟩
set_option maxRecDepth 100000 in
set_option maxHeartbeats 16000000 in
theorem put_kind1 {A : Option Addr} {d c : Nat} {o : Ob} (hid : o.2.1.length = 32) (hx : o.2.2.length ≤ 4095) (hk : o.1 = 4 ∨ o.1 = 5 ∨ o.1 = 6 ∨ o.1 = 7) (w : World) (hM : Star L w) (hr : rowE 34 A 1 (ovs [o]) ∈ L) :
    Calls Try.prog 28 #[bptr d, .slice A 1 c] w fun r w' => r = .returned (.int .i64 3) ∧ Star L w' := by
  have HSZ : Hid ((ocs o).length = 34) := ocs_len hid
  have H0 : Hid ((ocs o).toArray[0]? = some (.int .i64 o.1)) := ocs_0 o
  have H33 : Hid ((ocs o).toArray[33]? = some (.string ⟨o.2.2.toArray⟩)) := ocs_33 hid
  have HOS : Hid ((ocs o).toArray.size = 34) := ocs_sz hid
  have HO1 : Hid (∀ v ∈ (ocs o).toArray.toList, v.oneCell' = true) := ocs_oneA _
  have HOS0 : Hid ((ocs (0, z32, [])).toArray.size = 34) := ocs_sz oz32
  go_enter Try.func28, Try.ntmps28; go_wp2_with fail; go_loopw [12] (fun i wr => i = .int .i64 0 ∧ Star L wr) (fun _ _ => 0)
  case atStart => exact ⟨rfl, hM⟩
  case round =>
    clear hM
    obtain ⟨rfl, hM⟩ := hrel
    obtain ⟨ad, o', rfl, hc, hgx, -⟩ := Rd.elems (f := ocs) (hM.row (A := A) (n := 1) (xs := ovs [o]) (by (repeat (first | assumption | (with_reducible exact mZ) | apply mS)); first | done | fail)) (fun y hy => by rw [List.mem_singleton.1 hy]; exact HSZ.out) (by omega) (k := 0) (by omega)
    obtain rfl : o' = o := by simpa using hgx.symm
    clear hgx
    replace hc : ∀ j v, (ocs o')[j]? = some v → wr.cell? (ad.add j) = some v := fun j v h => hc j v h
    generalize ho : o'.2.2 = x at H33 hx
    generalize hkk : o'.1 = k at H0 hk
    clear ho hkk
    rcases hk with rfl | rfl | rfl | rfl
    all_goals
      go_wp2_with (first | ((with_reducible refine at_load' ?_); refine wpList_plain rfl fun K hK => ws_load_at rfl rfl (ocs o') hc (n := 34) HSZ.out (by decide +kernel) (hK _ _ ?_); clear hK K) | (first | ((with_reducible refine at_alloc' ?_); (have hM0 := hM; clear hM; refine BigFrame.wpList_want (by rfl) fun K hK => ws_alloc hM0 (t := 75) rfl (ocs (0, z32, [])).toArray info_ob (fun g6 w hM => hK _ _ ?_); clear hM0 hK K)) | fail) | (first | ((with_reducible refine at_store' ?_); (have hM0 := hM; clear hM; refine BigFrame.wpList_want (by rfl) fun K hK => ws_store hM0 rfl rfl rfl (by (repeat (first | (with_reducible exact Take.head) | apply Take.tail)); first | done | fail) (n := 34) (by exact HOS.out) (by exact HOS0.out) (by kernel_rfl) (by exact HO1.out) (fun w hM => hK _ _ ?_); clear hM0 hK K)) | fail) | (first | ((with_reducible refine at_load' ?_); (refine BigFrame.wpList_want (by rfl) fun K hK => ws_load1 hM rfl rfl (by (repeat (first | assumption | (with_reducible exact mZ) | apply mS)); first | done | fail) (by exact H33.out) (by decide +kernel) (hK _ _ ?_); clear hK K)) | fail))
      (refine region_RS ([cellsE g6 75 (ocs o').toArray]) [] (by kernel_rfl) hM ?_; clear hM; change RS _ _ _ _ _ _ 20 (Array.replicate 20 false) _ _; refine RS_take (i := 0) rfl (by decide +kernel) (fun _ _ _ h => h) (by first | (intro x hx; (repeat (first | exact hx | apply mS)); done) | ((repeat (refine List.forall_mem_cons.2 ⟨(by (repeat (first | assumption | (with_reducible exact mZ) | apply mS)); first | done | fail), ?_⟩)); intro x hx; first | (cases hx; done) | ((repeat (first | exact hx | apply mS)); done))) (stab_pure (by rfl) (fun w => (by go_simp; try with_reducible rfl))) ?_; simp only [Act.put, List.setIfInBounds_toArray, List.set_cons_zero, List.set_cons_succ]; refine RS_take (i := 1) rfl (by decide +kernel) (fun _ _ _ h => h) (by first | (intro x hx; (repeat (first | exact hx | apply mS)); done) | ((repeat (refine List.forall_mem_cons.2 ⟨(by (repeat (first | assumption | (with_reducible exact mZ) | apply mS)); first | done | fail), ?_⟩)); intro x hx; first | (cases hx; done) | ((repeat (first | exact hx | apply mS)); done))) (stab_read (by rfl) (fun L w hL hM => (by first | exact ex_load1 hM rfl rfl (hL _ (by (repeat (first | assumption | (with_reducible exact mZ) | apply mS)); first | done | fail)) (by exact H0.out) (by kernel_rfl) | exact ex_rowload rfl rfl (hM.row (hL _ (by (repeat (first | assumption | (with_reducible exact mZ) | apply mS)); first | done | fail))) (by assumption) (by kernel_rfl) | exact ex_rowload0 rfl rfl (hM.row (hL _ (by (repeat (first | assumption | (with_reducible exact mZ) | apply mS)); first | done | fail))) (by assumption) (by kernel_rfl)))) ?_; simp only [Act.put, List.setIfInBounds_toArray, List.set_cons_zero, List.set_cons_succ]; refine RS_take (i := 2) rfl (by decide +kernel) (fun _ _ _ h => h) (by first | (intro x hx; (repeat (first | exact hx | apply mS)); done) | ((repeat (refine List.forall_mem_cons.2 ⟨(by (repeat (first | assumption | (with_reducible exact mZ) | apply mS)); first | done | fail), ?_⟩)); intro x hx; first | (cases hx; done) | ((repeat (first | exact hx | apply mS)); done))) (stab_pure (by rfl) (fun w => (by go_simp; try with_reducible rfl))) ?_; simp only [Act.put, List.setIfInBounds_toArray, List.set_cons_zero, List.set_cons_succ]; refine RS_take (i := 3) rfl (by decide +kernel) (fun _ _ _ h => h) (by first | (intro x hx; (repeat (first | exact hx | apply mS)); done) | ((repeat (refine List.forall_mem_cons.2 ⟨(by (repeat (first | assumption | (with_reducible exact mZ) | apply mS)); first | done | fail), ?_⟩)); intro x hx; first | (cases hx; done) | ((repeat (first | exact hx | apply mS)); done))) (stab_pure (by rfl) (fun w => (by go_simp; try with_reducible rfl))) ?_; simp only [Act.put, List.setIfInBounds_toArray, List.set_cons_zero, List.set_cons_succ]; refine RS_take (i := 4) rfl (by decide +kernel) (fun _ _ _ h => h) (by first | (intro x hx; (repeat (first | exact hx | apply mS)); done) | ((repeat (refine List.forall_mem_cons.2 ⟨(by (repeat (first | assumption | (with_reducible exact mZ) | apply mS)); first | done | fail), ?_⟩)); intro x hx; first | (cases hx; done) | ((repeat (first | exact hx | apply mS)); done))) (stab_pure (by rfl) (fun w => (by go_simp; try with_reducible rfl))) ?_; simp only [Act.put, List.setIfInBounds_toArray, List.set_cons_zero, List.set_cons_succ]; refine RS_take (i := 5) rfl (by decide +kernel) (fun _ _ _ h => h) (by first | (intro x hx; (repeat (first | exact hx | apply mS)); done) | ((repeat (refine List.forall_mem_cons.2 ⟨(by (repeat (first | assumption | (with_reducible exact mZ) | apply mS)); first | done | fail), ?_⟩)); intro x hx; first | (cases hx; done) | ((repeat (first | exact hx | apply mS)); done))) (stab_read (by rfl) (fun L w hL hM => (by first | exact ex_load1 hM rfl rfl (hL _ (by (repeat (first | assumption | (with_reducible exact mZ) | apply mS)); first | done | fail)) (by exact H0.out) (by kernel_rfl) | exact ex_rowload rfl rfl (hM.row (hL _ (by (repeat (first | assumption | (with_reducible exact mZ) | apply mS)); first | done | fail))) (by assumption) (by kernel_rfl) | exact ex_rowload0 rfl rfl (hM.row (hL _ (by (repeat (first | assumption | (with_reducible exact mZ) | apply mS)); first | done | fail))) (by assumption) (by kernel_rfl)))) ?_; simp only [Act.put, List.setIfInBounds_toArray, List.set_cons_zero, List.set_cons_succ]; refine RS_take (i := 6) rfl (by decide +kernel) (fun _ _ _ h => h) (by first | (intro x hx; (repeat (first | exact hx | apply mS)); done) | ((repeat (refine List.forall_mem_cons.2 ⟨(by (repeat (first | assumption | (with_reducible exact mZ) | apply mS)); first | done | fail), ?_⟩)); intro x hx; first | (cases hx; done) | ((repeat (first | exact hx | apply mS)); done))) (stab_pure (by rfl) (fun w => (by go_simp; try with_reducible rfl))) ?_; simp only [Act.put, List.setIfInBounds_toArray, List.set_cons_zero, List.set_cons_succ]; refine RS_take (i := 7) rfl (by decide +kernel) (fun _ _ _ h => h) (by first | (intro x hx; (repeat (first | exact hx | apply mS)); done) | ((repeat (refine List.forall_mem_cons.2 ⟨(by (repeat (first | assumption | (with_reducible exact mZ) | apply mS)); first | done | fail), ?_⟩)); intro x hx; first | (cases hx; done) | ((repeat (first | exact hx | apply mS)); done))) (stab_pure (by rfl) (fun w => (by go_simp; try with_reducible rfl))) ?_; simp only [Act.put, List.setIfInBounds_toArray, List.set_cons_zero, List.set_cons_succ]; refine RS_take (i := 8) rfl (by decide +kernel) (fun _ _ _ h => h) (by first | (intro x hx; (repeat (first | exact hx | apply mS)); done) | ((repeat (refine List.forall_mem_cons.2 ⟨(by (repeat (first | assumption | (with_reducible exact mZ) | apply mS)); first | done | fail), ?_⟩)); intro x hx; first | (cases hx; done) | ((repeat (first | exact hx | apply mS)); done))) (stab_pure (by rfl) (fun w => (by go_simp; try with_reducible rfl))) ?_; simp only [Act.put, List.setIfInBounds_toArray, List.set_cons_zero, List.set_cons_succ]; refine RS_take (i := 9) rfl (by decide +kernel) (fun _ _ _ h => h) (by first | (intro x hx; (repeat (first | exact hx | apply mS)); done) | ((repeat (refine List.forall_mem_cons.2 ⟨(by (repeat (first | assumption | (with_reducible exact mZ) | apply mS)); first | done | fail), ?_⟩)); intro x hx; first | (cases hx; done) | ((repeat (first | exact hx | apply mS)); done))) (stab_skip (by rfl)) ?_; simp only [Act.put, List.setIfInBounds_toArray, List.set_cons_zero, List.set_cons_succ]; refine RS_take (i := 10) rfl (by decide +kernel) (fun _ _ _ h => h) (by first | (intro x hx; (repeat (first | exact hx | apply mS)); done) | ((repeat (refine List.forall_mem_cons.2 ⟨(by (repeat (first | assumption | (with_reducible exact mZ) | apply mS)); first | done | fail), ?_⟩)); intro x hx; first | (cases hx; done) | ((repeat (first | exact hx | apply mS)); done))) (stab_skip (by rfl)) ?_; simp only [Act.put, List.setIfInBounds_toArray, List.set_cons_zero, List.set_cons_succ]; refine RS_take (i := 11) rfl (by decide +kernel) (fun _ _ _ h => h) (by first | (intro x hx; (repeat (first | exact hx | apply mS)); done) | ((repeat (refine List.forall_mem_cons.2 ⟨(by (repeat (first | assumption | (with_reducible exact mZ) | apply mS)); first | done | fail), ?_⟩)); intro x hx; first | (cases hx; done) | ((repeat (first | exact hx | apply mS)); done))) (stab_skip (by rfl)) ?_; simp only [Act.put, List.setIfInBounds_toArray, List.set_cons_zero, List.set_cons_succ]; refine RS_take (i := 12) rfl (by decide +kernel) (fun _ _ _ h => h) (by first | (intro x hx; (repeat (first | exact hx | apply mS)); done) | ((repeat (refine List.forall_mem_cons.2 ⟨(by (repeat (first | assumption | (with_reducible exact mZ) | apply mS)); first | done | fail), ?_⟩)); intro x hx; first | (cases hx; done) | ((repeat (first | exact hx | apply mS)); done))) (stab_skip (by rfl)) ?_; simp only [Act.put, List.setIfInBounds_toArray, List.set_cons_zero, List.set_cons_succ]; refine RS_take (i := 13) rfl (by decide +kernel) (fun _ _ _ h => h) (by first | (intro x hx; (repeat (first | exact hx | apply mS)); done) | ((repeat (refine List.forall_mem_cons.2 ⟨(by (repeat (first | assumption | (with_reducible exact mZ) | apply mS)); first | done | fail), ?_⟩)); intro x hx; first | (cases hx; done) | ((repeat (first | exact hx | apply mS)); done))) (stab_skip (by rfl)) ?_; simp only [Act.put, List.setIfInBounds_toArray, List.set_cons_zero, List.set_cons_succ]; refine RS_take (i := 14) rfl (by decide +kernel) (fun _ _ _ h => h) (by first | (intro x hx; (repeat (first | exact hx | apply mS)); done) | ((repeat (refine List.forall_mem_cons.2 ⟨(by (repeat (first | assumption | (with_reducible exact mZ) | apply mS)); first | done | fail), ?_⟩)); intro x hx; first | (cases hx; done) | ((repeat (first | exact hx | apply mS)); done))) (stab_skip (by rfl)) ?_; simp only [Act.put, List.setIfInBounds_toArray, List.set_cons_zero, List.set_cons_succ]; refine RS_take (i := 15) rfl (by decide +kernel) (fun _ _ _ h => h) (by first | (intro x hx; (repeat (first | exact hx | apply mS)); done) | ((repeat (refine List.forall_mem_cons.2 ⟨(by (repeat (first | assumption | (with_reducible exact mZ) | apply mS)); first | done | fail), ?_⟩)); intro x hx; first | (cases hx; done) | ((repeat (first | exact hx | apply mS)); done))) (stab_skip (by rfl)) ?_; simp only [Act.put, List.setIfInBounds_toArray, List.set_cons_zero, List.set_cons_succ]; refine RS_take (i := 16) rfl (by decide +kernel) (fun _ _ _ h => h) (by first | (intro x hx; (repeat (first | exact hx | apply mS)); done) | ((repeat (refine List.forall_mem_cons.2 ⟨(by (repeat (first | assumption | (with_reducible exact mZ) | apply mS)); first | done | fail), ?_⟩)); intro x hx; first | (cases hx; done) | ((repeat (first | exact hx | apply mS)); done))) (stab_skip (by rfl)) ?_; simp only [Act.put, List.setIfInBounds_toArray, List.set_cons_zero, List.set_cons_succ]; refine RS_take (i := 17) rfl (by decide +kernel) (fun _ _ _ h => h) (by first | (intro x hx; (repeat (first | exact hx | apply mS)); done) | ((repeat (refine List.forall_mem_cons.2 ⟨(by (repeat (first | assumption | (with_reducible exact mZ) | apply mS)); first | done | fail), ?_⟩)); intro x hx; first | (cases hx; done) | ((repeat (first | exact hx | apply mS)); done))) (stab_skip (by rfl)) ?_; simp only [Act.put, List.setIfInBounds_toArray, List.set_cons_zero, List.set_cons_succ]; refine RS_take (i := 18) rfl (by decide +kernel) (fun _ _ _ h => h) (by first | (intro x hx; (repeat (first | exact hx | apply mS)); done) | ((repeat (refine List.forall_mem_cons.2 ⟨(by (repeat (first | assumption | (with_reducible exact mZ) | apply mS)); first | done | fail), ?_⟩)); intro x hx; first | (cases hx; done) | ((repeat (first | exact hx | apply mS)); done))) (stab_pure (by rfl) (fun w => (by go_simp; try with_reducible rfl))) ?_; simp only [Act.put, List.setIfInBounds_toArray, List.set_cons_zero, List.set_cons_succ]; refine RS_take (i := 19) rfl (by decide +kernel) (fun _ _ _ h => h) (by first | (intro x hx; (repeat (first | exact hx | apply mS)); done) | ((repeat (refine List.forall_mem_cons.2 ⟨(by (repeat (first | assumption | (with_reducible exact mZ) | apply mS)); first | done | fail), ?_⟩)); intro x hx; first | (cases hx; done) | ((repeat (first | exact hx | apply mS)); done))) (stab_pure (by rfl) (fun w => (by go_simp; try with_reducible rfl))) ?_; simp only [Act.put, List.setIfInBounds_toArray, List.set_cons_zero, List.set_cons_succ]; refine RS_done (by decide +kernel) (.inl (by first | (intro x hx; (repeat (first | exact hx | apply mS)); done) | ((repeat (refine List.forall_mem_cons.2 ⟨(by (repeat (first | assumption | (with_reducible exact mZ) | apply mS)); first | done | fail), ?_⟩)); intro x hx; first | (cases hx; done) | ((repeat (first | exact hx | apply mS)); done)))) (fun w hM => ?_))
      go_wp2_with fail
      go_ret
      exact ⟨rfl, hM.sel (by repeat (first | (with_reducible exact Sel.refl) | (with_reducible exact Take.head) | (with_reducible apply Take.tail) | (with_reducible apply Sel.cons) | (with_reducible apply Sel.drop)))⟩
set_option maxRecDepth 100000 in
set_option maxHeartbeats 16000000 in
theorem put_name1 {A : Option Addr} {d c : Nat} {id x : List UInt8} (hid : id.length = 32) (hx : x.length ≤ 4095) (hne : onm 1 x ≠ id) (w : World) (hM : Star L w) (hr : rowE 34 A 1 (ovs [(1, id, x)]) ∈ L) :
    Calls Try.prog 28 #[bptr d, .slice A 1 c] w fun r w' => r = .returned (.int .i64 3) ∧ Star L w' := by
  have HO : Hid (∀ (L : List SProp) (g : Nat) (w : World), Star L w → rowE 1 (some ⟨g, 0, none⟩) 1 (svs [x]) ∈ L → Calls Try.prog 31 #[.int .i64 1, .slice (some ⟨g, 0, none⟩) 1 1] w fun r w' => r = .returned (.agg (bvs (onm 1 x)).toArray) ∧ Star L w') := fun L g w hM hx2 => by
    have := oof_star 1 [x] (some ⟨g, 0, none⟩) 1 1 (by simpa using (by omega : x.length ≤ 1000000)) (by omega) w hM hx2
    rwa [cat_one] at this
  have HIL := Lib.hid (onm_len 1 x)
  have HNE := Lib.hid hne
  have HIL2 := Lib.hid hid
  have HID : Hid (∀ j v, (bvs id)[j]? = some v → (ocs (1, id, x)).toArray[1 + j]? = some v) := ocs_id (1, id, x)
  have H33 : Hid ((ocs (1, id, x)).toArray[33]? = some (.string ⟨x.toArray⟩)) := ocs_33 (o := (1, id, x)) hid
  have H0 : Hid ((ocs (1, id, x)).toArray[0]? = some (.int .i64 1)) := ocs_0 (1, id, x)
  have HSZ : Hid ((ocs (1, id, x)).length = 34) := ocs_len hid
  have HOS : Hid ((ocs (1, id, x)).toArray.size = 34) := ocs_sz hid
  have HO1 : Hid (∀ v ∈ (ocs (1, id, x)).toArray.toList, v.oneCell' = true) := ocs_oneA _
  have HOS0 : Hid ((ocs (0, z32, [])).toArray.size = 34) := ocs_sz oz32
  obtain ⟨o, ho⟩ : ∃ o : Ob, o = (1, id, x) := ⟨_, rfl⟩
  rw [← ho] at hr HID H33 H0 HSZ HOS HO1
  generalize onm 1 x = id1 at HO HIL HNE
  clear ho hne hid
  go_enter Try.func28, Try.ntmps28; go_wp2_with fail; go_loopw [12] (fun i wr => i = .int .i64 0 ∧ Star L wr) (fun _ _ => 0)
  case atStart => exact ⟨rfl, hM⟩
  case round =>
    clear hM
    obtain ⟨rfl, hM⟩ := hrel
    obtain ⟨ad, o', rfl, hc, hgx, -⟩ := Rd.elems (f := ocs) (hM.row (A := A) (n := 1) (xs := ovs [o]) (by (repeat (first | assumption | (with_reducible exact mZ) | apply mS)); first | done | fail)) (fun y hy => by rw [List.mem_singleton.1 hy]; exact HSZ.out) (by omega) (k := 0) (by omega)
    obtain rfl : o' = o := by simpa using hgx.symm
    clear hgx
    replace hc : ∀ j v, (ocs o')[j]? = some v → wr.cell? (ad.add j) = some v := fun j v h => hc j v h
    go_wp2_with (first | ((with_reducible refine at_load' ?_); refine wpList_plain rfl fun K hK => ws_load_at rfl rfl (ocs o') hc (n := 34) HSZ.out (by decide +kernel) (hK _ _ ?_); clear hK K) | (first | ((with_reducible refine at_alloc' ?_); (have hM0 := hM; clear hM; refine BigFrame.wpList_want (by rfl) fun K hK => ws_alloc hM0 (t := 75) rfl (ocs (0, z32, [])).toArray info_ob (fun g6 w hM => hK _ _ ?_); clear hM0 hK K)) | fail) | (first | ((with_reducible refine at_store' ?_); (have hM0 := hM; clear hM; refine BigFrame.wpList_want (by rfl) fun K hK => ws_store hM0 rfl rfl rfl (by (repeat (first | (with_reducible exact Take.head) | apply Take.tail)); first | done | fail) (n := 34) (by exact HOS.out) (by exact HOS0.out) (by kernel_rfl) (by exact HO1.out) (fun w hM => hK _ _ ?_); clear hM0 hK K)) | fail) | (first | ((with_reducible refine at_load' ?_); (refine BigFrame.wpList_want (by rfl) fun K hK => ws_load1 hM rfl rfl (by (repeat (first | assumption | (with_reducible exact mZ) | apply mS)); first | done | fail) (by exact H33.out) (by decide +kernel) (hK _ _ ?_); clear hK K)) | fail))
    (refine region_RS ([cellsE g6 75 (ocs o').toArray]) [] (by kernel_rfl) hM ?_; clear hM; change RS _ _ _ _ _ _ 20 (Array.replicate 20 false) _ _; refine RS_take (i := 0) rfl (by decide +kernel) (fun _ _ _ h => h) (by first | (intro x hx; (repeat (first | exact hx | apply mS)); done) | ((repeat (refine List.forall_mem_cons.2 ⟨(by (repeat (first | assumption | (with_reducible exact mZ) | apply mS)); first | done | fail), ?_⟩)); intro x hx; first | (cases hx; done) | ((repeat (first | exact hx | apply mS)); done))) (stab_pure (by rfl) (fun w => (by go_simp; try with_reducible rfl))) ?_; simp only [Act.put, List.setIfInBounds_toArray, List.set_cons_zero, List.set_cons_succ]; refine RS_take (i := 1) rfl (by decide +kernel) (fun _ _ _ h => h) (by first | (intro x hx; (repeat (first | exact hx | apply mS)); done) | ((repeat (refine List.forall_mem_cons.2 ⟨(by (repeat (first | assumption | (with_reducible exact mZ) | apply mS)); first | done | fail), ?_⟩)); intro x hx; first | (cases hx; done) | ((repeat (first | exact hx | apply mS)); done))) (stab_read (by rfl) (fun L w hL hM => (by first | exact ex_load1 hM rfl rfl (hL _ (by (repeat (first | assumption | (with_reducible exact mZ) | apply mS)); first | done | fail)) (by exact H0.out) (by kernel_rfl) | exact ex_rowload rfl rfl (hM.row (hL _ (by (repeat (first | assumption | (with_reducible exact mZ) | apply mS)); first | done | fail))) (by assumption) (by kernel_rfl) | exact ex_rowload0 rfl rfl (hM.row (hL _ (by (repeat (first | assumption | (with_reducible exact mZ) | apply mS)); first | done | fail))) (by assumption) (by kernel_rfl)))) ?_; simp only [Act.put, List.setIfInBounds_toArray, List.set_cons_zero, List.set_cons_succ]; refine RS_take (i := 2) rfl (by decide +kernel) (fun _ _ _ h => h) (by first | (intro x hx; (repeat (first | exact hx | apply mS)); done) | ((repeat (refine List.forall_mem_cons.2 ⟨(by (repeat (first | assumption | (with_reducible exact mZ) | apply mS)); first | done | fail), ?_⟩)); intro x hx; first | (cases hx; done) | ((repeat (first | exact hx | apply mS)); done))) (stab_pure (by rfl) (fun w => (by go_simp; try with_reducible rfl))) ?_; simp only [Act.put, List.setIfInBounds_toArray, List.set_cons_zero, List.set_cons_succ]; refine RS_take (i := 3) rfl (by decide +kernel) (fun _ _ _ h => h) (by first | (intro x hx; (repeat (first | exact hx | apply mS)); done) | ((repeat (refine List.forall_mem_cons.2 ⟨(by (repeat (first | assumption | (with_reducible exact mZ) | apply mS)); first | done | fail), ?_⟩)); intro x hx; first | (cases hx; done) | ((repeat (first | exact hx | apply mS)); done))) (stab_pure (by rfl) (fun w => (by go_simp; try with_reducible rfl))) ?_; simp only [Act.put, List.setIfInBounds_toArray, List.set_cons_zero, List.set_cons_succ]; refine RS_take (i := 4) rfl (by decide +kernel) (fun _ _ _ h => h) (by first | (intro x hx; (repeat (first | exact hx | apply mS)); done) | ((repeat (refine List.forall_mem_cons.2 ⟨(by (repeat (first | assumption | (with_reducible exact mZ) | apply mS)); first | done | fail), ?_⟩)); intro x hx; first | (cases hx; done) | ((repeat (first | exact hx | apply mS)); done))) (stab_pure (by rfl) (fun w => (by go_simp; try with_reducible rfl))) ?_; simp only [Act.put, List.setIfInBounds_toArray, List.set_cons_zero, List.set_cons_succ]; refine RS_take (i := 5) rfl (by decide +kernel) (fun _ _ _ h => h) (by first | (intro x hx; (repeat (first | exact hx | apply mS)); done) | ((repeat (refine List.forall_mem_cons.2 ⟨(by (repeat (first | assumption | (with_reducible exact mZ) | apply mS)); first | done | fail), ?_⟩)); intro x hx; first | (cases hx; done) | ((repeat (first | exact hx | apply mS)); done))) (stab_read (by rfl) (fun L w hL hM => (by first | exact ex_load1 hM rfl rfl (hL _ (by (repeat (first | assumption | (with_reducible exact mZ) | apply mS)); first | done | fail)) (by exact H0.out) (by kernel_rfl) | exact ex_rowload rfl rfl (hM.row (hL _ (by (repeat (first | assumption | (with_reducible exact mZ) | apply mS)); first | done | fail))) (by assumption) (by kernel_rfl) | exact ex_rowload0 rfl rfl (hM.row (hL _ (by (repeat (first | assumption | (with_reducible exact mZ) | apply mS)); first | done | fail))) (by assumption) (by kernel_rfl)))) ?_; simp only [Act.put, List.setIfInBounds_toArray, List.set_cons_zero, List.set_cons_succ]; refine RS_take (i := 6) rfl (by decide +kernel) (fun _ _ _ h => h) (by first | (intro x hx; (repeat (first | exact hx | apply mS)); done) | ((repeat (refine List.forall_mem_cons.2 ⟨(by (repeat (first | assumption | (with_reducible exact mZ) | apply mS)); first | done | fail), ?_⟩)); intro x hx; first | (cases hx; done) | ((repeat (first | exact hx | apply mS)); done))) (stab_pure (by rfl) (fun w => (by go_simp; try with_reducible rfl))) ?_; simp only [Act.put, List.setIfInBounds_toArray, List.set_cons_zero, List.set_cons_succ]; refine RS_take (i := 7) rfl (by decide +kernel) (fun _ _ _ h => h) (by first | (intro x hx; (repeat (first | exact hx | apply mS)); done) | ((repeat (refine List.forall_mem_cons.2 ⟨(by (repeat (first | assumption | (with_reducible exact mZ) | apply mS)); first | done | fail), ?_⟩)); intro x hx; first | (cases hx; done) | ((repeat (first | exact hx | apply mS)); done))) (stab_pure (by rfl) (fun w => (by go_simp; try with_reducible rfl))) ?_; simp only [Act.put, List.setIfInBounds_toArray, List.set_cons_zero, List.set_cons_succ]; refine RS_take (i := 8) rfl (by decide +kernel) (fun _ _ _ h => h) (by first | (intro x hx; (repeat (first | exact hx | apply mS)); done) | ((repeat (refine List.forall_mem_cons.2 ⟨(by (repeat (first | assumption | (with_reducible exact mZ) | apply mS)); first | done | fail), ?_⟩)); intro x hx; first | (cases hx; done) | ((repeat (first | exact hx | apply mS)); done))) (stab_pure (by rfl) (fun w => (by go_simp; try with_reducible rfl))) ?_; simp only [Act.put, List.setIfInBounds_toArray, List.set_cons_zero, List.set_cons_succ]; refine RS_take (i := 9) rfl (by decide +kernel) (fun _ _ _ h => h) (by first | (intro x hx; (repeat (first | exact hx | apply mS)); done) | ((repeat (refine List.forall_mem_cons.2 ⟨(by (repeat (first | assumption | (with_reducible exact mZ) | apply mS)); first | done | fail), ?_⟩)); intro x hx; first | (cases hx; done) | ((repeat (first | exact hx | apply mS)); done))) (stab_pure (by rfl) (fun w => (by go_simp; try with_reducible rfl))) ?_; simp only [Act.put, List.setIfInBounds_toArray, List.set_cons_zero, List.set_cons_succ]; refine RS_take (i := 10) rfl (by decide +kernel) (fun _ _ _ h => h) (by first | (intro x hx; (repeat (first | exact hx | apply mS)); done) | ((repeat (refine List.forall_mem_cons.2 ⟨(by (repeat (first | assumption | (with_reducible exact mZ) | apply mS)); first | done | fail), ?_⟩)); intro x hx; first | (cases hx; done) | ((repeat (first | exact hx | apply mS)); done))) (stab_read (by rfl) (fun L w hL hM => (by first | exact ex_load1 hM rfl rfl (hL _ (by (repeat (first | assumption | (with_reducible exact mZ) | apply mS)); first | done | fail)) (by exact H0.out) (by kernel_rfl) | exact ex_rowload rfl rfl (hM.row (hL _ (by (repeat (first | assumption | (with_reducible exact mZ) | apply mS)); first | done | fail))) (by assumption) (by kernel_rfl) | exact ex_rowload0 rfl rfl (hM.row (hL _ (by (repeat (first | assumption | (with_reducible exact mZ) | apply mS)); first | done | fail))) (by assumption) (by kernel_rfl)))) ?_; simp only [Act.put, List.setIfInBounds_toArray, List.set_cons_zero, List.set_cons_succ]; refine RS_take (i := 11) rfl (by decide +kernel) (fun _ _ _ h => h) (by first | (intro x hx; (repeat (first | exact hx | apply mS)); done) | ((repeat (refine List.forall_mem_cons.2 ⟨(by (repeat (first | assumption | (with_reducible exact mZ) | apply mS)); first | done | fail), ?_⟩)); intro x hx; first | (cases hx; done) | ((repeat (first | exact hx | apply mS)); done))) (stab_pure (by rfl) (fun w => (by go_simp; try with_reducible rfl))) ?_; simp only [Act.put, List.setIfInBounds_toArray, List.set_cons_zero, List.set_cons_succ]; refine RS_take (i := 12) rfl (by decide +kernel) (fun _ _ _ h => h) (by first | (intro x hx; (repeat (first | exact hx | apply mS)); done) | ((repeat (refine List.forall_mem_cons.2 ⟨(by (repeat (first | assumption | (with_reducible exact mZ) | apply mS)); first | done | fail), ?_⟩)); intro x hx; first | (cases hx; done) | ((repeat (first | exact hx | apply mS)); done))) (stab_read (by rfl) (fun L w hL hM => (by first | exact ex_load1 hM rfl rfl (hL _ (by (repeat (first | assumption | (with_reducible exact mZ) | apply mS)); first | done | fail)) (by exact H33.out) (by kernel_rfl) | exact ex_rowload rfl rfl (hM.row (hL _ (by (repeat (first | assumption | (with_reducible exact mZ) | apply mS)); first | done | fail))) (by assumption) (by kernel_rfl) | exact ex_rowload0 rfl rfl (hM.row (hL _ (by (repeat (first | assumption | (with_reducible exact mZ) | apply mS)); first | done | fail))) (by assumption) (by kernel_rfl)))) ?_; simp only [Act.put, List.setIfInBounds_toArray, List.set_cons_zero, List.set_cons_succ]; refine RS_take (i := 15) rfl (by decide +kernel) (fun _ _ _ h => h) (by first | (intro x hx; (repeat (first | exact hx | apply mS)); done) | ((repeat (refine List.forall_mem_cons.2 ⟨(by (repeat (first | assumption | (with_reducible exact mZ) | apply mS)); first | done | fail), ?_⟩)); intro x hx; first | (cases hx; done) | ((repeat (first | exact hx | apply mS)); done))) (stab_pure (by rfl) (fun w => (by go_simp; try with_reducible rfl))) ?_; simp only [Act.put, List.setIfInBounds_toArray, List.set_cons_zero, List.set_cons_succ]; refine RS_take (i := 16) rfl (by decide +kernel) (fun _ _ _ h => h) (by first | (intro x hx; (repeat (first | exact hx | apply mS)); done) | ((repeat (refine List.forall_mem_cons.2 ⟨(by (repeat (first | assumption | (with_reducible exact mZ) | apply mS)); first | done | fail), ?_⟩)); intro x hx; first | (cases hx; done) | ((repeat (first | exact hx | apply mS)); done))) (stab_read (by rfl) (fun L w hL hM => (ex_load_mid hM rfl rfl (hL _ (by (repeat (first | assumption | (with_reducible exact mZ) | apply mS)); first | done | fail)) (bvs id) HID.out (n := 32) (by rw [bvs_len]; exact HIL2.out) (by decide +kernel)))) ?_; simp only [Act.put, List.setIfInBounds_toArray, List.set_cons_zero, List.set_cons_succ]; refine RS_one (i := 13) (by decide +kernel) rfl (by rfl) (.inl (by first | (intro x hx; (repeat (first | exact hx | apply mS)); done) | ((repeat (refine List.forall_mem_cons.2 ⟨(by (repeat (first | assumption | (with_reducible exact mZ) | apply mS)); first | done | fail), ?_⟩)); intro x hx; first | (cases hx; done) | ((repeat (first | exact hx | apply mS)); done)))) (fun w K hM0 hK => ?_); refine ws_slice_row hM0 (n := 1) rfl 9 1 (.string ByteArray.empty) [sv x] Try.underlying59 (by kernel_rfl) rfl (by simp [Value.cells, iv, sv, bv]) (by rfl) (by decide) (cs := svs [x]) (by rfl) (fun g35 w hM => hK _ _ _ hM ?_); clear hM hM0 hK K; simp only [Act.put, List.setIfInBounds_toArray, List.set_cons_zero, List.set_cons_succ]; refine RS_one (i := 14) (by decide +kernel) rfl (by rfl) (.inl (by first | (intro x hx; (repeat (first | exact hx | apply mS)); done) | ((repeat (refine List.forall_mem_cons.2 ⟨(by (repeat (first | assumption | (with_reducible exact mZ) | apply mS)); first | done | fail), ?_⟩)); intro x hx; first | (cases hx; done) | ((repeat (first | exact hx | apply mS)); done)))) (fun w K hM0 hK => ?_); refine ws_call (by go_simp; try with_reducible rfl) (HO.out _ g35 _ hM0 (by (repeat (first | assumption | (with_reducible exact mZ) | apply mS)); first | done | fail)) (fun r w2 hR => ?_); obtain ⟨rfl, hM⟩ := hR; refine ⟨_, rfl, hK _ _ _ hM ?_⟩; clear hM hM0 hK K; simp only [Act.put, List.setIfInBounds_toArray, List.set_cons_zero, List.set_cons_succ]; refine RS_take (i := 17) rfl (by decide +kernel) (fun _ _ _ h => h) (by first | (intro x hx; (repeat (first | exact hx | apply mS)); done) | ((repeat (refine List.forall_mem_cons.2 ⟨(by (repeat (first | assumption | (with_reducible exact mZ) | apply mS)); first | done | fail), ?_⟩)); intro x hx; first | (cases hx; done) | ((repeat (first | exact hx | apply mS)); done))) (stab_read (by rfl) (fun L w hL hM => (ex_neq_arr rfl rfl rfl Try.underlying73 Try.underlying5 (by kernel_rfl) HIL.out HIL2.out (by kernel_rfl) (b := true) (by simp [HNE.out])))) ?_; simp only [Act.put, List.setIfInBounds_toArray, List.set_cons_zero, List.set_cons_succ]; refine RS_take (i := 18) rfl (by decide +kernel) (fun _ _ _ h => h) (by first | (intro x hx; (repeat (first | exact hx | apply mS)); done) | ((repeat (refine List.forall_mem_cons.2 ⟨(by (repeat (first | assumption | (with_reducible exact mZ) | apply mS)); first | done | fail), ?_⟩)); intro x hx; first | (cases hx; done) | ((repeat (first | exact hx | apply mS)); done))) (stab_pure (by rfl) (fun w => (by go_simp; try with_reducible rfl))) ?_; simp only [Act.put, List.setIfInBounds_toArray, List.set_cons_zero, List.set_cons_succ]; refine RS_take (i := 19) rfl (by decide +kernel) (fun _ _ _ h => h) (by first | (intro x hx; (repeat (first | exact hx | apply mS)); done) | ((repeat (refine List.forall_mem_cons.2 ⟨(by (repeat (first | assumption | (with_reducible exact mZ) | apply mS)); first | done | fail), ?_⟩)); intro x hx; first | (cases hx; done) | ((repeat (first | exact hx | apply mS)); done))) (stab_pure (by rfl) (fun w => (by go_simp; try with_reducible rfl))) ?_; simp only [Act.put, List.setIfInBounds_toArray, List.set_cons_zero, List.set_cons_succ]; refine RS_done (by decide +kernel) (.inl (by first | (intro x hx; (repeat (first | exact hx | apply mS)); done) | ((repeat (refine List.forall_mem_cons.2 ⟨(by (repeat (first | assumption | (with_reducible exact mZ) | apply mS)); first | done | fail), ?_⟩)); intro x hx; first | (cases hx; done) | ((repeat (first | exact hx | apply mS)); done)))) (fun w hM => ?_))
    go_wp2_with fail
    go_ret
    exact ⟨rfl, hM.sel (by repeat (first | (with_reducible exact Sel.refl) | (with_reducible exact Take.head) | (with_reducible apply Take.tail) | (with_reducible apply Sel.cons) | (with_reducible apply Sel.drop)))⟩
end
end Go.Proofs.Ytnckgkgilnmocaa
set_option linter.unusedSimpArgs false
set_option linter.unusedVariables false
namespace Go.Proofs.Ytnckgkgilnmocaa
open Go.RowKit
attribute [local go_sem] extract_mid extract_drop bget bsize wrap64_u8 i64_u8 u64_u8 bappend
section
variable {F L R : List SProp}
set_option maxRecDepth 100000 in
set_option maxHeartbeats 8000000 in
theorem index_ids {A : Option Addr} {n c : Nat} {xs : List (List UInt8)} {x : List UInt8} {E : SProp} (h32 : ∀ y ∈ xs, y.length = 32) (hx : x.length = 32) (hn : n ≤ 1000000) (hln : xs.length = n) (HR : Hid (∀ (L : List SProp) (w : World), Star L w → E ∈ L → Rd w 32 A n (idvs xs))) (w : World) (hM : Star L w) (hE : E ∈ L) :
    Calls Try.prog 90 #[.slice A n c, .agg (bvs x).toArray] w fun r w' => ∃ k : Int, (decide (0 ≤ k) = decide (x ∈ xs)) ∧ r = .returned (.int .i64 k) ∧ Star L w' := by
  have H32 := Lib.hid h32
  have HX := Lib.hid hx
  have HLN := Lib.hid hln
  clear h32 hx hln
  go_enter Try.func90, Try.ntmps90
  go_wp2_with (first | (first | ((with_reducible refine at_box' ?_); (have hM0 := hM; clear hM; refine BigFrame.wpList_want (by rfl) fun K hK => ws_box hM0 rfl rfl (cs := (bvs x).toArray) rfl (fun g3 w hM => hK _ _ ?_); clear hM0 hK K)) | fail))
  go_loopw [8] (fun i wr => ∃ (j : Nat), j ≤ n ∧ i = .int .i64 j ∧ Hid (x ∉ xs.take j) ∧ Star (cellsE g3 idT (bvs x).toArray :: L) wr) (fun i _ => n - (intOf i).toNat)
  case atStart => exact ⟨0, Nat.zero_le _, rfl, (fun h => by cases h), hM⟩
  case round =>
    clear hM
    obtain ⟨j, hj, rfl, hnin, hM⟩ := hrel
    by_cases hlt : j < n
    · obtain ⟨ad, y, rfl, -, hg, ht⟩ := Rd.elems (f := bvs) (HR.out _ _ hM (List.mem_cons_of_mem _ hE)) (fun y hy => by rw [bvs_len, H32.out y hy]) (by omega) hlt
      have hv : ∀ i v, (bvs y)[i]? = some v → (idvs xs)[j * 32 + i]? = some v := fun i v hv => flat_get bvs 32 xs (fun x hx => by rw [bvs_len, H32.out x hx]) j y hg i v hv
      have hy32 := H32.out y (List.mem_of_getElem? hg)
      have y32 : (bvs y).length = 32 := by rw [bvs_len]; exact hy32
      have HG := Lib.hid hg
      have HT := Lib.hid ht
      clear hg ht
      by_cases hxy : x = y
      · subst hxy
        go_wp2_with fail
        (refine region_RS ([E, cellsE g3 idT (bvs x).toArray]) [] (by kernel_rfl) hM ?_; clear hM; change RS _ _ _ _ _ _ 6 (Array.replicate 6 false) _ _; refine RS_take (i := 0) rfl (by decide +kernel) (fun _ _ _ h => h) (by first | (intro x hx; (repeat (first | exact hx | apply mS)); done) | ((repeat (refine List.forall_mem_cons.2 ⟨(by (repeat (first | assumption | (with_reducible exact mZ) | apply mS)); first | done | fail), ?_⟩)); intro x hx; first | (cases hx; done) | ((repeat (first | exact hx | apply mS)); done))) (stab_read (by rfl) (fun L w hL hM => (ex_load hM rfl rfl (hL _ (by (repeat (first | assumption | (with_reducible exact mZ) | apply mS)); first | done | fail)) (n := 32) (by simp [bvs_len, HX.out]) (by decide +kernel)))) ?_; simp only [Act.put, List.setIfInBounds_toArray, List.set_cons_zero, List.set_cons_succ]; refine RS_take (i := 1) rfl (by decide +kernel) (fun _ _ _ h => h) (by first | (intro x hx; (repeat (first | exact hx | apply mS)); done) | ((repeat (refine List.forall_mem_cons.2 ⟨(by (repeat (first | assumption | (with_reducible exact mZ) | apply mS)); first | done | fail), ?_⟩)); intro x hx; first | (cases hx; done) | ((repeat (first | exact hx | apply mS)); done))) (stab_pure (by rfl) (fun w => (by go_simp; try with_reducible rfl))) ?_; simp only [Act.put, List.setIfInBounds_toArray, List.set_cons_zero, List.set_cons_succ]; refine RS_take (i := 2) rfl (by decide +kernel) (fun _ _ _ h => h) (by first | (intro x hx; (repeat (first | exact hx | apply mS)); done) | ((repeat (refine List.forall_mem_cons.2 ⟨(by (repeat (first | assumption | (with_reducible exact mZ) | apply mS)); first | done | fail), ?_⟩)); intro x hx; first | (cases hx; done) | ((repeat (first | exact hx | apply mS)); done))) (stab_pure (by rfl) (fun w => (by go_simp; try with_reducible rfl))) ?_; simp only [Act.put, List.setIfInBounds_toArray, List.set_cons_zero, List.set_cons_succ]; refine RS_take (i := 3) rfl (by decide +kernel) (fun _ _ _ h => h) (by first | (intro x hx; (repeat (first | exact hx | apply mS)); done) | ((repeat (refine List.forall_mem_cons.2 ⟨(by (repeat (first | assumption | (with_reducible exact mZ) | apply mS)); first | done | fail), ?_⟩)); intro x hx; first | (cases hx; done) | ((repeat (first | exact hx | apply mS)); done))) (stab_pure (by rfl) (fun w => (by go_simp; try with_reducible rfl))) ?_; simp only [Act.put, List.setIfInBounds_toArray, List.set_cons_zero, List.set_cons_succ]; refine RS_take (i := 4) rfl (by decide +kernel) (fun _ _ _ h => h) (by first | (intro x hx; (repeat (first | exact hx | apply mS)); done) | ((repeat (refine List.forall_mem_cons.2 ⟨(by (repeat (first | assumption | (with_reducible exact mZ) | apply mS)); first | done | fail), ?_⟩)); intro x hx; first | (cases hx; done) | ((repeat (first | exact hx | apply mS)); done))) (stab_read (by rfl) (fun L w hL hM => (ex_rowload_row (k := j) rfl rfl (HR.out _ _ hM (hL _ (by (repeat (first | assumption | (with_reducible exact mZ) | apply mS)); first | done | fail))) (bvs x) hv y32 hlt (by kernel_rfl)))) ?_; simp only [Act.put, List.setIfInBounds_toArray, List.set_cons_zero, List.set_cons_succ]; refine RS_take (i := 5) rfl (by decide +kernel) (fun _ _ _ h => h) (by first | (intro x hx; (repeat (first | exact hx | apply mS)); done) | ((repeat (refine List.forall_mem_cons.2 ⟨(by (repeat (first | assumption | (with_reducible exact mZ) | apply mS)); first | done | fail), ?_⟩)); intro x hx; first | (cases hx; done) | ((repeat (first | exact hx | apply mS)); done))) (stab_read (by rfl) (fun L w hL hM => (ex_eql_arr rfl rfl rfl Try.underlying73 Try.underlying5 (by kernel_rfl) HX.out HX.out (by kernel_rfl) (b := true) (by simp)))) ?_; simp only [Act.put, List.setIfInBounds_toArray, List.set_cons_zero, List.set_cons_succ]; refine RS_done (by decide +kernel) (.inl (by first | (intro x hx; (repeat (first | exact hx | apply mS)); done) | ((repeat (refine List.forall_mem_cons.2 ⟨(by (repeat (first | assumption | (with_reducible exact mZ) | apply mS)); first | done | fail), ?_⟩)); intro x hx; first | (cases hx; done) | ((repeat (first | exact hx | apply mS)); done)))) (fun w hM => ?_))
        go_wp2_with fail
        go_ret
        refine ⟨j, ?_, rfl, hM.sel (by repeat (first | (with_reducible exact Sel.refl) | (with_reducible exact Take.head) | (with_reducible apply Take.tail) | (with_reducible apply Sel.cons) | (with_reducible apply Sel.drop)))⟩
        rw [decide_eq_true (List.mem_of_getElem? HG.out), decide_eq_true (by omega)]
      · have HNE := Lib.hid hxy
        go_wp2_with fail
        (refine region_RS ([E, cellsE g3 idT (bvs x).toArray]) [] (by kernel_rfl) hM ?_; clear hM; change RS _ _ _ _ _ _ 6 (Array.replicate 6 false) _ _; refine RS_take (i := 0) rfl (by decide +kernel) (fun _ _ _ h => h) (by first | (intro x hx; (repeat (first | exact hx | apply mS)); done) | ((repeat (refine List.forall_mem_cons.2 ⟨(by (repeat (first | assumption | (with_reducible exact mZ) | apply mS)); first | done | fail), ?_⟩)); intro x hx; first | (cases hx; done) | ((repeat (first | exact hx | apply mS)); done))) (stab_read (by rfl) (fun L w hL hM => (ex_load hM rfl rfl (hL _ (by (repeat (first | assumption | (with_reducible exact mZ) | apply mS)); first | done | fail)) (n := 32) (by simp [bvs_len, HX.out]) (by decide +kernel)))) ?_; simp only [Act.put, List.setIfInBounds_toArray, List.set_cons_zero, List.set_cons_succ]; refine RS_take (i := 1) rfl (by decide +kernel) (fun _ _ _ h => h) (by first | (intro x hx; (repeat (first | exact hx | apply mS)); done) | ((repeat (refine List.forall_mem_cons.2 ⟨(by (repeat (first | assumption | (with_reducible exact mZ) | apply mS)); first | done | fail), ?_⟩)); intro x hx; first | (cases hx; done) | ((repeat (first | exact hx | apply mS)); done))) (stab_pure (by rfl) (fun w => (by go_simp; try with_reducible rfl))) ?_; simp only [Act.put, List.setIfInBounds_toArray, List.set_cons_zero, List.set_cons_succ]; refine RS_take (i := 2) rfl (by decide +kernel) (fun _ _ _ h => h) (by first | (intro x hx; (repeat (first | exact hx | apply mS)); done) | ((repeat (refine List.forall_mem_cons.2 ⟨(by (repeat (first | assumption | (with_reducible exact mZ) | apply mS)); first | done | fail), ?_⟩)); intro x hx; first | (cases hx; done) | ((repeat (first | exact hx | apply mS)); done))) (stab_pure (by rfl) (fun w => (by go_simp; try with_reducible rfl))) ?_; simp only [Act.put, List.setIfInBounds_toArray, List.set_cons_zero, List.set_cons_succ]; refine RS_take (i := 3) rfl (by decide +kernel) (fun _ _ _ h => h) (by first | (intro x hx; (repeat (first | exact hx | apply mS)); done) | ((repeat (refine List.forall_mem_cons.2 ⟨(by (repeat (first | assumption | (with_reducible exact mZ) | apply mS)); first | done | fail), ?_⟩)); intro x hx; first | (cases hx; done) | ((repeat (first | exact hx | apply mS)); done))) (stab_pure (by rfl) (fun w => (by go_simp; try with_reducible rfl))) ?_; simp only [Act.put, List.setIfInBounds_toArray, List.set_cons_zero, List.set_cons_succ]; refine RS_take (i := 4) rfl (by decide +kernel) (fun _ _ _ h => h) (by first | (intro x hx; (repeat (first | exact hx | apply mS)); done) | ((repeat (refine List.forall_mem_cons.2 ⟨(by (repeat (first | assumption | (with_reducible exact mZ) | apply mS)); first | done | fail), ?_⟩)); intro x hx; first | (cases hx; done) | ((repeat (first | exact hx | apply mS)); done))) (stab_read (by rfl) (fun L w hL hM => (ex_rowload_row (k := j) rfl rfl (HR.out _ _ hM (hL _ (by (repeat (first | assumption | (with_reducible exact mZ) | apply mS)); first | done | fail))) (bvs y) hv y32 hlt (by kernel_rfl)))) ?_; simp only [Act.put, List.setIfInBounds_toArray, List.set_cons_zero, List.set_cons_succ]; refine RS_take (i := 5) rfl (by decide +kernel) (fun _ _ _ h => h) (by first | (intro x hx; (repeat (first | exact hx | apply mS)); done) | ((repeat (refine List.forall_mem_cons.2 ⟨(by (repeat (first | assumption | (with_reducible exact mZ) | apply mS)); first | done | fail), ?_⟩)); intro x hx; first | (cases hx; done) | ((repeat (first | exact hx | apply mS)); done))) (stab_read (by rfl) (fun L w hL hM => (ex_eql_arr rfl rfl rfl Try.underlying73 Try.underlying5 (by kernel_rfl) HX.out hy32 (by kernel_rfl) (b := false) (by simp [HNE.out])))) ?_; simp only [Act.put, List.setIfInBounds_toArray, List.set_cons_zero, List.set_cons_succ]; refine RS_done (by decide +kernel) (.inl (by first | (intro x hx; (repeat (first | exact hx | apply mS)); done) | ((repeat (refine List.forall_mem_cons.2 ⟨(by (repeat (first | assumption | (with_reducible exact mZ) | apply mS)); first | done | fail), ?_⟩)); intro x hx; first | (cases hx; done) | ((repeat (first | exact hx | apply mS)); done)))) (fun w hM => ?_))
        go_wp2_with fail
        go_roundw
        case rel => exact ⟨j + 1, by omega, by go_num, (fun h => by rw [HT.out] at h; rcases List.mem_append.1 h with h | h; exact hnin.out h; exact HNE.out (List.mem_singleton.1 h)), hM⟩
        case measure => simp [intOf]; omega
    · obtain rfl : n = j := by omega
      go_wp2_with fail
      go_ret
      refine ⟨-1, ?_, rfl, hM.sel (by repeat (first | (with_reducible exact Sel.refl) | (with_reducible exact Take.head) | (with_reducible apply Take.tail) | (with_reducible apply Sel.cons) | (with_reducible apply Sel.drop)))⟩
      have h1 := hnin.out
      rw [List.take_of_length_le (by rw [HLN.out]; omega)] at h1
      rw [decide_eq_false h1]
      rfl
set_option maxRecDepth 100000 in
theorem contains_ids {A : Option Addr} {n c : Nat} {xs : List (List UInt8)} {x : List UInt8} {E : SProp} (h32 : ∀ y ∈ xs, y.length = 32) (hx : x.length = 32) (hn : n ≤ 1000000) (hln : xs.length = n) (HR : Hid (∀ (L : List SProp) (w : World), Star L w → E ∈ L → Rd w 32 A n (idvs xs))) (w : World) (hM : Star L w) (hE : E ∈ L) :
    Calls Try.prog 62 #[.slice A n c, .agg (bvs x).toArray] w fun r w' => r = .returned (.bool (decide (x ∈ xs))) ∧ Star L w' := by
  have HI : Hid (∀ (L : List SProp) (w : World), Star L w → E ∈ L → Calls Try.prog 90 #[.slice A n c, .agg (bvs x).toArray] w fun r w' => ∃ k : Int, (decide (0 ≤ k) = decide (x ∈ xs)) ∧ r = .returned (.int .i64 k) ∧ Star L w') := fun L w hM hE => index_ids h32 hx hn hln HR w hM hE
  have HX := Lib.hid hx
  clear h32 hx hln HR
  go_enter Try.func62, Try.ntmps62
  go_wp2_with (first | (first | ((with_reducible refine at_box' ?_); (have hM0 := hM; clear hM; refine BigFrame.wpList_want (by rfl) fun K hK => ws_box hM0 rfl rfl (cs := (bvs x).toArray) rfl (fun g3 w hM => hK _ _ ?_); clear hM0 hK K)) | fail) | ((with_reducible refine at_load' ?_); refine BigFrame.wpList_want (by rfl) fun K hK => ws_load hM rfl rfl (by (repeat (first | assumption | (with_reducible exact mZ) | apply mS)); first | done | fail) (n := 32) (by show (bvs x).toArray.size = 32; simp [bvs_len, HX.out]) (by decide +kernel) (hK _ _ ?_); clear hK K) | (go_at_call 90; have hM0 := hM; clear hM; (first | (with_reducible refine (HI.out _ _ hM0 (by (repeat (first | assumption | (with_reducible exact mZ) | apply mS)); first | done | fail)).mono ?_) | fail); clear hM0; rintro _ w ⟨k, hk, rfl, hM⟩))
  go_ret
  exact ⟨by rw [← hk]; rfl, hM.sel (by repeat (first | (with_reducible exact Sel.refl) | (with_reducible exact Take.head) | (with_reducible apply Take.tail) | (with_reducible apply Sel.cons) | (with_reducible apply Sel.drop)))⟩
end
end Go.Proofs.Ytnckgkgilnmocaa
set_option linter.unusedSimpArgs false
set_option linter.unusedVariables false
namespace Go.Proofs.Ytnckgkgilnmocaa
open Go.RowKit
attribute [local go_sem] extract_mid extract_drop bget bsize wrap64_u8 i64_u8 u64_u8 bappend
section
variable {F L R : List SProp} {B : BA} {d gm h N : Nat} {D : Dsk} {ts : List Tx}
theorem dp_cells {w : World} (hM : Star L w) (hx : dpE B d gm D h ts ∈ L) : Star [dpc d B.b gm] w := by
  obtain ⟨R, hp⟩ := List.split_mem hx
  exact (hM.perm hp).dpopen.sub (.cons_cons _ (List.nil_sublist _))
theorem has_u {A : Option Addr} {n c : Nat} {xs : List (List UInt8)} (h32 : ∀ x ∈ xs, x.length = 32) (hn : n ≤ 100000) (w : World) (hM : Star L w) (hd : Take (dpE B d gm D h ts) L R) (hr : rowE 32 A n (idvs xs) ∈ R) :
    Calls Try.prog 33 #[bptr d, .slice A n c] w fun r w' => r = .returned (.bool (xs.all fun x => decide (x ∈ ts.map (onm 1)))) ∧ Star (dpE B d gm D h ts :: R) w' := by
  refine (has_d h32 w (hM.take hd).dpopen hn List.mem_cons_self (List.mem_cons_of_mem _ List.mem_cons_self) (List.mem_cons_of_mem _ (List.mem_cons_of_mem _ (List.mem_cons_of_mem _ hr)))).mono ?_
  rintro r w' ⟨rfl, hM⟩
  refine ⟨?_, hM.dpjoin⟩
  simp only [alT_mem]
theorem alT_perm (h : Nat) (ts : List Tx) : ((alT h ts).map (·.1)).Perm (ts.map (onm 1)) := by
  unfold alT
  rw [List.map_reverse, alA_names]
  exact List.reverse_perm _
theorem list_u (hl : ts.length ≤ 12) (w : World) (hM : Star L w) (hd : Take (dpE B d gm D h ts) L R) :
    Calls Try.prog 29 #[bptr d] w fun r w' => ∃ A c xs, xs.Perm (ts.map (onm 1)) ∧ r = .returned (.slice A ts.length c) ∧ Star (rowE 32 A ts.length (idvs xs) :: dpE B d gm D h ts :: R) w' := by
  have h1 := (hM.take hd).dpopen
  refine (list_d (alT_32 h ts) (by rw [alT_len]; exact hl) w h1 (.tail .head) List.mem_cons_self).mono ?_
  rintro r w' ⟨A, c, xs, hp, e, hM⟩
  rw [alT_len] at e hM
  refine ⟨A, c, xs, hp.trans (alT_perm h ts), e, ?_⟩
  have h2 : Star (dpE B d gm D h ts :: rowE 32 A ts.length (idvs xs) :: R) w' := Star.dpjoin (hM.sel (by repeat (first | (with_reducible exact Sel.refl) | (with_reducible exact Take.head) | (with_reducible apply Take.tail) | (with_reducible apply Sel.cons) | (with_reducible apply Sel.drop))))
  exact h2.sel (by repeat (first | (with_reducible exact Sel.refl) | (with_reducible exact Take.head) | (with_reducible apply Take.tail) | (with_reducible apply Sel.cons) | (with_reducible apply Sel.drop)))
theorem left_p (V : Hid (Live N D h 1 0 (recs ts))) (w : World) (hM : Star L w) (hd : Take (dpE B d gm D h ts) L R) :
    Calls Try.prog 20 #[bptr B.b] w fun r w' => r = .returned (.int .i64 ((h - tot (recs ts) : Nat) : Int)) ∧ Star (dpE B d gm D h ts :: R) w' := by
  refine (left_u V (by omega) w (hM.take hd).dpopen (List.mem_cons_of_mem _ (List.mem_cons_of_mem _ List.mem_cons_self))).mono ?_
  rintro r w' ⟨e, hM⟩
  exact ⟨e, hM.dpjoin⟩
theorem get_p {x : Tx} (V : Hid (Live N D h 1 0 (recs ts))) (h150 : ∀ x ∈ ts, x.length ≤ 150) {n : List UInt8} (hn : n ∈ ts.map (onm 1)) (w : World) (hM : Star L w) (hd : Take (dpE B d gm D h ts) L R) :
    Calls Try.prog 53 #[bptr d, .agg (bvs n).toArray] w fun r w' => ∃ D' x, Hid (Live N D' h 1 0 (recs ts)) ∧ Hid (x ∈ ts ∧ onm 1 x = n) ∧ r = .returned (.tuple #[.agg (ocs (mo x)).toArray, .int .i64 0]) ∧ Star (dpE B d gm D' h ts :: R) w' := by
  have h1 := (hM.take hd).dpopen
  rw [← alT_mem (h := h)] at hn
  obtain ⟨at_, -, hin⟩ := atv_hit hn
  obtain ⟨a, y, b, hts, rfl, hat⟩ := alA_mem ts _ _ _ (List.mem_reverse.1 hin)
  have hy : y ∈ ts := by rw [hts]; simp
  refine (get_d (x := y) (pre := recs a) (post := recs b) V (by omega) (by rw [hts, recs_app, recs_cons]) hat (by have := h150 y hy; omega) hin w h1 (.tail (.tail .head)) List.mem_cons_self (List.mem_cons_of_mem _ List.mem_cons_self)).mono ?_
  rintro r w' ⟨D', V', e, hM⟩
  exact ⟨D', y, V', ⟨hy, rfl⟩, e, Star.dpjoin (hM.sel (by repeat (first | (with_reducible exact Sel.refl) | (with_reducible exact Take.head) | (with_reducible apply Take.tail) | (with_reducible apply Sel.cons) | (with_reducible apply Sel.drop))))⟩
/-- Those that aren't there, each once. -/
def lackS (ns : List Tx) (out : List Tx) (x : Tx) : List Tx := if x ∈ ns ∨ x ∈ out then out else out ++ [x]
def lackL (ns xs : List Tx) : List Tx := xs.foldl (lackS ns) []
theorem lackL_snoc (ns a : List Tx) (x : Tx) : lackL ns (a ++ [x]) = lackS ns (lackL ns a) x := by simp [lackL]
theorem lackS_sub (ns out : List Tx) (x y : Tx) : y ∈ lackS ns out x → y ∈ out ∨ y = x := by
  unfold lackS
  split
  · exact .inl
  · intro h
    rcases List.mem_append.1 h with h | h
    · exact .inl h
    · exact .inr (List.mem_singleton.1 h)
theorem lackL_sub (ns : List Tx) : ∀ (xs : List Tx) (out : List Tx) (y : Tx), y ∈ xs.foldl (lackS ns) out → y ∈ out ∨ y ∈ xs := by
  intro xs
  induction xs with
  | nil => intro out y h; exact .inl h
  | cons x l ih =>
    intro out y h
    rcases ih _ _ h with h | h
    · rcases lackS_sub ns out x y h with h | rfl
      · exact .inl h
      · exact .inr List.mem_cons_self
    · exact .inr (List.mem_cons_of_mem _ h)
end
end Go.Proofs.Ytnckgkgilnmocaa
set_option linter.unusedSimpArgs false
set_option linter.unusedVariables false
namespace Go.Proofs.Ytnckgkgilnmocaa
open Go.RowKit
attribute [local go_sem] extract_mid extract_drop bget bsize wrap64_u8 i64_u8 u64_u8 bappend
section
variable {F L R : List SProp} {B : BA} {d gm h N : Nat} {D : Dsk} {ts : List Tx}
set_option maxRecDepth 100000 in
set_option maxHeartbeats 16000000 in
theorem lacks_u {A : Option Addr} {n c : Nat} {xs : List (List UInt8)} (h32 : ∀ x ∈ xs, x.length = 32) (hn : n ≤ 100000) (w : World) (hM : Star L w) (hd : Take (dpE B d gm D h ts) L R) (hr : rowE 32 A n (idvs xs) ∈ R) :
    Calls Try.prog 34 #[bptr d, .slice A n c] w fun r w' => ∃ O oc, r = .returned (.slice O (lackL (ts.map (onm 1)) xs).length oc) ∧ Star (rowE 32 O (lackL (ts.map (onm 1)) xs).length (idvs (lackL (ts.map (onm 1)) xs)) :: dpE B d gm D h ts :: R) w' := by
  have HHA : Hid (∀ (x : List UInt8) (hx : x.length = 32) (L R : List SProp) (g : Nat) (w : World), Star L w → Take (dpE B d gm D h ts) L R → rowE 32 (some ⟨g, 0, none⟩) 1 (idvs [x]) ∈ R → Calls Try.prog 33 #[bptr d, .slice (some ⟨g, 0, none⟩) 1 1] w fun r w' => r = .returned (.bool (decide (x ∈ ts.map (onm 1)))) ∧ Star (dpE B d gm D h ts :: R) w') := fun x hx L R g w hM hd hr => by
    refine (has_u (xs := [x]) (fun y hy => by rw [List.mem_singleton.1 hy]; exact hx) (by omega) w hM hd hr).mono ?_
    rintro r w' ⟨rfl, hM⟩
    refine ⟨?_, hM⟩
    simp only [List.all_cons, List.all_nil, Bool.and_true]
  generalize ts.map (onm 1) = ns at HHA ⊢
  replace hM := hM.take hd
  have HLN := Lib.hid (idvs_row (hM.row (List.mem_cons_of_mem _ hr)) h32)
  have H32 := Lib.hid h32
  clear h32 hd
  replace hM := hM.nilown idT 32
  go_enter Try.func34, Try.ntmps34
  go_wp2_with fail
  go_loopw [10, 5] (fun i s wr => ∃ (j m : Nat) (O : Option Addr) (oc : Nat), j ≤ n ∧ m ≤ j ∧ Hid ((lackL ns (xs.take j)).length = m) ∧ i = .int .i64 j ∧ s = .slice O m oc ∧ Star (ownE idT 32 O m oc (idvs (lackL ns (xs.take j))) :: dpE B d gm D h ts :: R) wr) (fun i _ _ => n - (intOf i).toNat)
  case atStart => exact ⟨0, 0, none, 0, Nat.zero_le _, Nat.le_refl _, rfl, rfl, rfl, hM⟩
  case round =>
    clear hM
    obtain ⟨j, m, O, oc, hj, hmj, hml, rfl, rfl, hM⟩ := hrel
    by_cases hlt : j < n
    · obtain ⟨ad, x, rfl, hc, hgx, hta⟩ := Rd.elems (f := bvs) (hM.row (A := A) (n := n) (xs := idvs xs) (by (repeat (first | assumption | (with_reducible exact mZ) | apply mS)); first | done | fail)) (fun x hx => by rw [bvs_len, H32.out x hx]) (by omega) hlt
      have hx32 := H32.out x (List.mem_of_getElem? hgx)
      have HX := Lib.hid hx32
      have HHAS := Lib.hid (HHA.out x hx32)
      have HT : Hid (lackL ns (xs.take (j + 1)) = lackS ns (lackL ns (xs.take j)) x) := by show _ = _; rw [hta, lackL_snoc]
      have hos : ∀ y ∈ lackL ns (xs.take j), y.length = 32 := fun y hy => by
        rcases lackL_sub ns _ _ y hy with h | h
        · cases h
        · exact H32.out y (List.mem_of_mem_take h)
      generalize lackL ns (xs.take j) = out at hml hM HT hos
      have HCON : Hid (∀ (L : List SProp) (w : World), Star L w → ownE idT 32 O m oc (idvs out) ∈ L → Calls Try.prog 62 #[.slice O m oc, .agg (bvs x).toArray] w fun r w' => r = .returned (.bool (decide (x ∈ out))) ∧ Star L w') := fun L w hM hE => contains_ids hos hx32 (by omega) hml.out (fun L w hM hE => hM.own hE) w hM hE
      clear hgx hta hx32 hos
      by_cases hin : x ∈ ns
      · rw [decide_eq_true hin] at HHAS
        have HPS : Hid (lackS ns out x = out) := if_pos (.inl hin)
        clear hin
        go_wp2_with (first | ((with_reducible refine at_load' ?_); refine wpList_plain rfl fun K hK => ws_load_at rfl rfl (bvs x) hc (n := 32) (by rw [bvs_len]; exact HX.out) (by kernel_rfl) (hK _ _ ?_); clear hK K) | (first | ((with_reducible refine at_alloc' ?_); (have hM0 := hM; clear hM; refine BigFrame.wpList_want (by rfl) fun K hK => ws_alloc hM0 (t := 73) rfl (bvs z32).toArray info_idB (fun g7 w hM => hK _ _ ?_); clear hM0 hK K)) | fail) | (first | ((with_reducible refine at_store' ?_); (have hM0 := hM; clear hM; refine BigFrame.wpList_want (by rfl) fun K hK => ws_store hM0 rfl rfl rfl (by (repeat (first | (with_reducible exact Take.head) | apply Take.tail)); first | done | fail) (n := 32) (by (show (bvs x).toArray.size = 32; simp [bvs_len, HX.out])) (by simp [bvs_len, z32_len]) (by kernel_rfl) (by (show ∀ v ∈ (bvs x).toArray.toList, v.oneCell' = true; simpa using bvs_oneCell x)) (fun w hM => hK _ _ ?_); clear hM0 hK K)) | fail) | ((with_reducible refine at_load' ?_); refine BigFrame.wpList_want (by rfl) fun K hK => ws_load hM rfl rfl (by (repeat (first | assumption | (with_reducible exact mZ) | apply mS)); first | done | fail) (n := 32) (by show (bvs x).toArray.size = 32; simp [bvs_len, HX.out]) (by decide +kernel) (hK _ _ ?_); clear hK K) | (first | ((with_reducible refine at_slice' ?_); (have hM0 := hM; clear hM; refine BigFrame.wpList_want (by rfl) fun K hK => ws_slice_row hM0 (n := 1) rfl 73 32 (.agg (bvs z32).toArray) [.agg (bvs x).toArray] Try.underlying76 (by kernel_rfl) rfl (by simp [Value.cells, iv, sv, bv, bvs_len, HX.out]) (by rfl) (by decide) (cs := idvs [x]) (by rfl) (fun g16 w hM => hK _ _ ?_); clear hM0 hK K)) | fail) | (go_at_call 33; have hM0 := hM; clear hM; (first | (with_reducible refine (HHAS.out _ _ g16 _ hM0 (by (repeat (first | (with_reducible exact Take.head) | apply Take.tail)); first | done | fail) (by (repeat (first | assumption | (with_reducible exact mZ) | apply mS)); first | done | fail)).mono ?_) | fail); clear hM0; rintro _ w ⟨rfl, hM⟩) | (go_at_call 62; have hM0 := hM; clear hM; (first | (with_reducible refine (HCON.out _ _ hM0 (by (repeat (first | assumption | (with_reducible exact mZ) | apply mS)); first | done | fail)).mono ?_) | fail); clear hM0; rintro _ w ⟨rfl, hM⟩) | ((first | ((with_reducible refine at_call' ?_); (have hM0 := hM; clear hM; refine BigFrame.wpList_want (by rfl) fun K hK => ws_append hM0 rfl rfl rfl 73 ((.agg (bvs z32).toArray)) 32 32 Try.underlying76 (by kernel_rfl) (by simp [Value.cells, bvs_len, z32_len]) (by decide) (by (repeat (first | (with_reducible exact Take.head) | apply Take.tail)); first | done | fail) (by first | (apply Star.row hM0; (repeat (first | assumption | (with_reducible exact mZ) | apply mS)); done) | (apply Star.own hM0; (repeat (first | assumption | (with_reducible exact mZ) | apply mS)); done) | (apply Star.arr hM0; (focus ((repeat (first | assumption | (with_reducible exact mZ) | apply mS)); done)); assumption)) (idvs_one [x]) ((by omega)) (fun A1 c1 w hM hnil => hK _ _ ?_); clear hM0 hK K)) | fail); simp only [Act.put, List.setIfInBounds_toArray, List.set_cons_zero, List.set_cons_succ]))
        go_roundw
        case rel => exact ⟨j + 1, m, O, oc, by omega, by omega, by rw [HT.out, HPS.out]; exact hml, by go_num, rfl, by rw [HT.out, HPS.out]; exact hM.sel (by repeat (first | (with_reducible exact Sel.refl) | (with_reducible exact Take.head) | (with_reducible apply Take.tail) | (with_reducible apply Sel.cons) | (with_reducible apply Sel.drop)))⟩
        case measure => simp [intOf]; omega
      · rw [decide_eq_false hin] at HHAS
        by_cases hio : x ∈ out
        · rw [decide_eq_true hio] at HCON
          have HPS : Hid (lackS ns out x = out) := if_pos (.inr hio)
          clear hin hio
          go_wp2_with (first | ((with_reducible refine at_load' ?_); refine wpList_plain rfl fun K hK => ws_load_at rfl rfl (bvs x) hc (n := 32) (by rw [bvs_len]; exact HX.out) (by kernel_rfl) (hK _ _ ?_); clear hK K) | (first | ((with_reducible refine at_alloc' ?_); (have hM0 := hM; clear hM; refine BigFrame.wpList_want (by rfl) fun K hK => ws_alloc hM0 (t := 73) rfl (bvs z32).toArray info_idB (fun g7 w hM => hK _ _ ?_); clear hM0 hK K)) | fail) | (first | ((with_reducible refine at_store' ?_); (have hM0 := hM; clear hM; refine BigFrame.wpList_want (by rfl) fun K hK => ws_store hM0 rfl rfl rfl (by (repeat (first | (with_reducible exact Take.head) | apply Take.tail)); first | done | fail) (n := 32) (by (show (bvs x).toArray.size = 32; simp [bvs_len, HX.out])) (by simp [bvs_len, z32_len]) (by kernel_rfl) (by (show ∀ v ∈ (bvs x).toArray.toList, v.oneCell' = true; simpa using bvs_oneCell x)) (fun w hM => hK _ _ ?_); clear hM0 hK K)) | fail) | ((with_reducible refine at_load' ?_); refine BigFrame.wpList_want (by rfl) fun K hK => ws_load hM rfl rfl (by (repeat (first | assumption | (with_reducible exact mZ) | apply mS)); first | done | fail) (n := 32) (by show (bvs x).toArray.size = 32; simp [bvs_len, HX.out]) (by decide +kernel) (hK _ _ ?_); clear hK K) | (first | ((with_reducible refine at_slice' ?_); (have hM0 := hM; clear hM; refine BigFrame.wpList_want (by rfl) fun K hK => ws_slice_row hM0 (n := 1) rfl 73 32 (.agg (bvs z32).toArray) [.agg (bvs x).toArray] Try.underlying76 (by kernel_rfl) rfl (by simp [Value.cells, iv, sv, bv, bvs_len, HX.out]) (by rfl) (by decide) (cs := idvs [x]) (by rfl) (fun g16 w hM => hK _ _ ?_); clear hM0 hK K)) | fail) | (go_at_call 33; have hM0 := hM; clear hM; (first | (with_reducible refine (HHAS.out _ _ g16 _ hM0 (by (repeat (first | (with_reducible exact Take.head) | apply Take.tail)); first | done | fail) (by (repeat (first | assumption | (with_reducible exact mZ) | apply mS)); first | done | fail)).mono ?_) | fail); clear hM0; rintro _ w ⟨rfl, hM⟩) | (go_at_call 62; have hM0 := hM; clear hM; (first | (with_reducible refine (HCON.out _ _ hM0 (by (repeat (first | assumption | (with_reducible exact mZ) | apply mS)); first | done | fail)).mono ?_) | fail); clear hM0; rintro _ w ⟨rfl, hM⟩) | ((first | ((with_reducible refine at_call' ?_); (have hM0 := hM; clear hM; refine BigFrame.wpList_want (by rfl) fun K hK => ws_append hM0 rfl rfl rfl 73 ((.agg (bvs z32).toArray)) 32 32 Try.underlying76 (by kernel_rfl) (by simp [Value.cells, bvs_len, z32_len]) (by decide) (by (repeat (first | (with_reducible exact Take.head) | apply Take.tail)); first | done | fail) (by first | (apply Star.row hM0; (repeat (first | assumption | (with_reducible exact mZ) | apply mS)); done) | (apply Star.own hM0; (repeat (first | assumption | (with_reducible exact mZ) | apply mS)); done) | (apply Star.arr hM0; (focus ((repeat (first | assumption | (with_reducible exact mZ) | apply mS)); done)); assumption)) (idvs_one [x]) ((by omega)) (fun A1 c1 w hM hnil => hK _ _ ?_); clear hM0 hK K)) | fail); simp only [Act.put, List.setIfInBounds_toArray, List.set_cons_zero, List.set_cons_succ]))
          go_roundw
          case rel => exact ⟨j + 1, m, O, oc, by omega, by omega, by rw [HT.out, HPS.out]; exact hml, by go_num, rfl, by rw [HT.out, HPS.out]; exact hM.sel (by repeat (first | (with_reducible exact Sel.refl) | (with_reducible exact Take.head) | (with_reducible apply Take.tail) | (with_reducible apply Sel.cons) | (with_reducible apply Sel.drop)))⟩
          case measure => simp [intOf]; omega
        · rw [decide_eq_false hio] at HCON
          have HPS : Hid (lackS ns out x = out ++ [x]) := if_neg (by rintro (h | h); exact hin h; exact hio h)
          clear hin hio
          go_wp2_with (first | ((with_reducible refine at_load' ?_); refine wpList_plain rfl fun K hK => ws_load_at rfl rfl (bvs x) hc (n := 32) (by rw [bvs_len]; exact HX.out) (by kernel_rfl) (hK _ _ ?_); clear hK K) | (first | ((with_reducible refine at_alloc' ?_); (have hM0 := hM; clear hM; refine BigFrame.wpList_want (by rfl) fun K hK => ws_alloc hM0 (t := 73) rfl (bvs z32).toArray info_idB (fun g7 w hM => hK _ _ ?_); clear hM0 hK K)) | fail) | (first | ((with_reducible refine at_store' ?_); (have hM0 := hM; clear hM; refine BigFrame.wpList_want (by rfl) fun K hK => ws_store hM0 rfl rfl rfl (by (repeat (first | (with_reducible exact Take.head) | apply Take.tail)); first | done | fail) (n := 32) (by (show (bvs x).toArray.size = 32; simp [bvs_len, HX.out])) (by simp [bvs_len, z32_len]) (by kernel_rfl) (by (show ∀ v ∈ (bvs x).toArray.toList, v.oneCell' = true; simpa using bvs_oneCell x)) (fun w hM => hK _ _ ?_); clear hM0 hK K)) | fail) | ((with_reducible refine at_load' ?_); refine BigFrame.wpList_want (by rfl) fun K hK => ws_load hM rfl rfl (by (repeat (first | assumption | (with_reducible exact mZ) | apply mS)); first | done | fail) (n := 32) (by show (bvs x).toArray.size = 32; simp [bvs_len, HX.out]) (by decide +kernel) (hK _ _ ?_); clear hK K) | (first | ((with_reducible refine at_slice' ?_); (have hM0 := hM; clear hM; refine BigFrame.wpList_want (by rfl) fun K hK => ws_slice_row hM0 (n := 1) rfl 73 32 (.agg (bvs z32).toArray) [.agg (bvs x).toArray] Try.underlying76 (by kernel_rfl) rfl (by simp [Value.cells, iv, sv, bv, bvs_len, HX.out]) (by rfl) (by decide) (cs := idvs [x]) (by rfl) (fun g16 w hM => hK _ _ ?_); clear hM0 hK K)) | fail) | (go_at_call 33; have hM0 := hM; clear hM; (first | (with_reducible refine (HHAS.out _ _ g16 _ hM0 (by (repeat (first | (with_reducible exact Take.head) | apply Take.tail)); first | done | fail) (by (repeat (first | assumption | (with_reducible exact mZ) | apply mS)); first | done | fail)).mono ?_) | fail); clear hM0; rintro _ w ⟨rfl, hM⟩) | (go_at_call 62; have hM0 := hM; clear hM; (first | (with_reducible refine (HCON.out _ _ hM0 (by (repeat (first | assumption | (with_reducible exact mZ) | apply mS)); first | done | fail)).mono ?_) | fail); clear hM0; rintro _ w ⟨rfl, hM⟩) | ((first | ((with_reducible refine at_call' ?_); (have hM0 := hM; clear hM; refine BigFrame.wpList_want (by rfl) fun K hK => ws_append hM0 rfl rfl rfl 73 ((.agg (bvs z32).toArray)) 32 32 Try.underlying76 (by kernel_rfl) (by simp [Value.cells, bvs_len, z32_len]) (by decide) (by (repeat (first | (with_reducible exact Take.head) | apply Take.tail)); first | done | fail) (by first | (apply Star.row hM0; (repeat (first | assumption | (with_reducible exact mZ) | apply mS)); done) | (apply Star.own hM0; (repeat (first | assumption | (with_reducible exact mZ) | apply mS)); done) | (apply Star.arr hM0; (focus ((repeat (first | assumption | (with_reducible exact mZ) | apply mS)); done)); assumption)) (idvs_one [x]) ((by omega)) (fun A1 c1 w hM hnil => hK _ _ ?_); clear hM0 hK K)) | fail); simp only [Act.put, List.setIfInBounds_toArray, List.set_cons_zero, List.set_cons_succ]))
          go_roundw
          case rel => exact ⟨j + 1, m + 1, A1, c1, by omega, by omega, by rw [HT.out, HPS.out]; show _ = _; rw [List.length_append, hml.out]; rfl, by go_num, rfl, by rw [HT.out, HPS.out, idvs_app]; exact hM.sel (by repeat (first | (with_reducible exact Sel.refl) | (with_reducible exact Take.head) | (with_reducible apply Take.tail) | (with_reducible apply Sel.cons) | (with_reducible apply Sel.drop)))⟩
          case measure => simp [intOf]; omega
    · obtain rfl : n = j := by omega
      go_wp2_with fail
      go_ret
      have ht : xs.take n = xs := List.take_of_length_le (by rw [HLN.out]; omega)
      rw [ht] at hml hM
      have h2 := hM.freeze
      rw [hml.out]
      exact ⟨O, oc, rfl, h2⟩
end
end Go.Proofs.Ytnckgkgilnmocaa
set_option linter.unusedSimpArgs false
set_option linter.unusedVariables false
namespace Go.Proofs.Ytnckgkgilnmocaa
open Go.RowKit Go.MapKept
open Go.Maps (Keyed)
open Go.ChangeMaps (setBlock heap_setBlock_same heap_setBlock_other)
theorem born_idx {l : List MapEntry} (hn : (l.map (·.born)).Nodup) {j : Nat} {e0 : MapEntry} (h : l[j]? = some e0) : l.findIdx? (fun e => (e.born : Int) == (e0.born : Int)) = some j := by
  induction l generalizing j with
  | nil => simp at h
  | cons a r ih =>
    simp only [List.map_cons, List.nodup_cons] at hn
    rcases j with _ | j
    · simp only [List.getElem?_cons_zero, Option.some.injEq] at h
      rw [List.findIdx?_cons, h]
      simp
    · simp only [List.getElem?_cons_succ] at h
      have hne : ((a.born : Int) == (e0.born : Int)) = false := by
        have : a.born ≠ e0.born := fun e => hn.1 (List.mem_map.2 ⟨e0, List.mem_of_getElem? h, e.symm⟩)
        simp only [beq_eq_false_iff_ne, ne_eq]
        omega
      rw [List.findIdx?_cons, hne, ih hn.2 h]
      rfl
/-- A map with an entry under way. -/
def pendE (P : Program) (k : TypeId) (b : Nat) (key old : Value) (m : List (Value × Value)) (st : Nat) : SProp where
  fp j := j = b
  ro := false
  holds w := ∃ es clock, w.heap[b]? = some (.map es clock) ∧ MapKV P k es clock ((key, old) :: m) ∧ ∃ (j : Nat) (e0 : MapEntry), es[j]? = some e0 ∧ e0.key = key ∧ e0.born = st
  lt w h j hj := by
    subst hj
    obtain ⟨es, clock, h, _⟩ := h
    exact (Array.getElem?_eq_some_iff.1 h).1
  stable w w' ho h := by
    obtain ⟨es, clock, h, h2⟩ := h
    exact ⟨es, clock, (ho.block b rfl).trans h, h2⟩
section
variable {P : Program} {w : World} {ops : Array Oper} {o : Oper} {a : Act} {Q : Exit → Act → World → Prop} {L R : List SProp} {K : Act → World → Prop} {k e : TypeId} {b : Nat} {m : List (Value × Value)}
theorem pend_map (hM : Star L w) {key old : Value} {st : Nat} (hx : pendE P k b key old m st ∈ L) : Star [mapE P k b ((key, old) :: m)] w := by
  obtain ⟨es, clock, h1, h2, _⟩ := hM.all _ hx
  exact ⟨fun y hy => by rw [List.mem_singleton.1 hy]; exact ⟨es, clock, h1, h2⟩, List.pairwise_singleton _ _⟩
/-- The first operation: a new key. -/
theorem ws_entry_new (hM : Star L w) {t : TypeId} {x ix : Operand} (ho : o.op = .mapEntry t x ix) (ht : P.underlying t = some (.map k e)) {z : Value} (hz : ∀ w, (zeroValue e).run P w = .ok z w) (hx : a.eval x = .map (some b)) {key : Value} (hi : a.eval ix = key) (hb : Take (mapE P k b m) L R) (KK : Keyed P k) {kl : Lit} (hkey : keyOf P k key = some kl) (hm : ∀ p ∈ m, p.1 ≠ key)
    (h : ∀ (st : Nat) w1, Star (pendE P k b key z m st :: R) w1 → K (a.put o.dst (.tuple #[z, .int .i64 (st : Int)])) w1) : Oper.wp P o a w K Q := by
  obtain ⟨es, clock, h1, h2⟩ := (hM.take hb).head
  have hr : (Instr.mapEntry t (.map (some b)) key).run P w = .ok (.tuple #[z, .int .i64 (clock : Int)]) (setBlock w b (.map (es.push { key := key, val := z, born := clock }) (clock + 1))) := by
    unfold Instr.mapEntry
    simp only [Sem.run_bind, run_underlying ht, Result.andThen_ok, MapKept.run_getObj_map h1, Sem.run_pure, KK.check w false hkey]
    rcases KK.find w hkey es.toList h2.2.1 with ⟨hf, hno⟩ | ⟨j, e0, hf, he, hk⟩
    · rw [hf]
      simp only [Sem.run_bind, hz, Result.andThen_ok, MapKept.run_setObj_map _ h1, Sem.run_pure]
      rfl
    · exfalso
      have h3 : (key, e0.val) ∈ m := h2.2.2.mem_iff.1 (List.mem_map.2 ⟨e0, List.mem_of_getElem? he, by rw [hk]⟩)
      exact hm _ h3 rfl
  unfold Oper.wp execOp
  simp only [ho, hx, hi, Sem.run_bind, hr, Result.andThen_ok, Sem.run_pure]
  refine h clock _ ((hM.take hb).put (bs := [b]) rfl (setBlock_ch w b _) (fun j hj => .inl (List.mem_singleton.1 hj)) ⟨_, _, heap_setBlock_same h1 _, ⟨stamped_push h2.1 fun x hx hxk => ?_, fun x hx => ?_, ?_⟩, es.size, { key := key, val := z, born := clock }, by simp, rfl, rfl⟩ fun j hj => .inl hj)
  · exact hm (x.key, x.val) (h2.2.2.mem_iff.1 (List.mem_map.2 ⟨x, hx, rfl⟩)) hxk
  · simp only [Array.toList_push, List.mem_append, List.mem_singleton] at hx
    rcases hx with hx | rfl
    · exact h2.2.1 x hx
    · exact ⟨_, hkey⟩
  · simp only [Array.toList_push, List.map_append, List.map_cons, List.map_nil]
    exact (List.perm_append_singleton _ _).trans (h2.2.2.cons _)
/-- The first operation: an old key. -/
theorem ws_entry_old (hM : Star L w) {t : TypeId} {x ix : Operand} (ho : o.op = .mapEntry t x ix) (ht : P.underlying t = some (.map k e)) (hx : a.eval x = .map (some b)) {key old : Value} {m' : List (Value × Value)} (hi : a.eval ix = key) (hb : Take (mapE P k b m) L R) (KK : Keyed P k) {kl : Lit} (hkey : keyOf P k key = some kl) (hm : m.Perm ((key, old) :: m'))
    (h : ∀ (st : Nat) w1, Star (pendE P k b key old m' st :: R) w1 → K (a.put o.dst (.tuple #[old, .int .i64 (st : Int)])) w1) : Oper.wp P o a w K Q := by
  obtain ⟨es, clock, h1, h2⟩ := (hM.take hb).head
  have hnd := h2.nodup
  rcases KK.find w hkey es.toList h2.2.1 with ⟨hf, hno⟩ | ⟨j, e0, hf, he, hk⟩
  · exfalso
    obtain ⟨e1, he1, h⟩ := List.mem_map.1 (h2.2.2.mem_iff.2 (hm.mem_iff.2 List.mem_cons_self))
    injection h with h3 _
    exact hno e1 he1 h3
  · have he' : es[j]? = some e0 := by simpa using he
    have h4 : (key, e0.val) ∈ m := h2.2.2.mem_iff.1 (List.mem_map.2 ⟨e0, List.mem_of_getElem? he, by rw [hk]⟩)
    have h5 : e0.val = old := nodup_val hnd h4 (hm.mem_iff.2 List.mem_cons_self)
    have hr : (Instr.mapEntry t (.map (some b)) key).run P w = .ok (.tuple #[old, .int .i64 (e0.born : Int)]) (setBlock w b (.map (es.modify j fun e => { e with key := key }) clock)) := by
      unfold Instr.mapEntry
      simp only [Sem.run_bind, run_underlying ht, Result.andThen_ok, MapKept.run_getObj_map h1, Sem.run_pure, KK.check w false hkey, hf, he', Option.map_some, Option.getD_some, hk, KK.stays w hkey, MapKept.run_setObj_map _ h1, h5]
      rfl
    have hsame : (es.modify j fun e => { e with key := key }) = es.modify j fun e => { e with key := key, val := e0.val } := by
      apply Array.ext'
      apply List.ext_getElem?
      intro i
      simp only [Array.getElem?_toList, Array.getElem?_modify]
      by_cases hij : j = i
      · subst hij
        rw [he']
        simp
      · simp [hij]
    rw [hsame] at hr
    obtain ⟨r, q1, q2, _⟩ := modify_kv es j e0 key e0.val he' hk
    have hp : r.Perm m' := by
      have h3 := q1.symm.trans (h2.2.2.trans hm)
      rw [h5] at h3
      exact h3.cons_inv
    have hst : Stamped (es.modify j fun e => { e with key := key, val := e0.val }) clock := stamped_modify h2.1 j _ (fun _ _ => rfl) (fun x _ hx => by
      rw [he'] at hx
      injection hx with hx
      subst hx
      exact hk.symm)
    unfold Oper.wp execOp
    simp only [ho, hx, hi, Sem.run_bind, hr, Result.andThen_ok, Sem.run_pure]
    refine h e0.born _ ((hM.take hb).put (bs := [b]) rfl (setBlock_ch w b _) (fun j hj => .inl (List.mem_singleton.1 hj)) ⟨_, _, heap_setBlock_same h1 _, ⟨hst, fun x hx => ?_, (by rw [← h5]; exact q2.trans (hp.cons _))⟩, j, { e0 with key := key, val := e0.val }, by rw [Array.getElem?_modify, if_pos rfl, he']; rfl, rfl, rfl⟩ fun j hj => .inl hj)
    · have h6 : (x.key, x.val) ∈ (key, e0.val) :: r := q2.mem_iff.1 (List.mem_map.2 ⟨x, hx, rfl⟩)
      rcases List.mem_cons.1 h6 with h7 | h7
      · injection h7 with h7 _; rw [h7]; exact ⟨_, hkey⟩
      · obtain ⟨y, hy, h8⟩ := List.mem_map.1 (q1.mem_iff.2 (List.mem_cons_of_mem _ h7))
        injection h8 with h8 _; rw [← h8]; exact h2.2.1 y hy
/-- The second operation. -/
theorem ws_entry_store (hM : Star L w) {t : TypeId} {x s y : Operand} (ho : o.op = .entryStore t x s y) (hx : a.eval x = .map (some b)) {st : Nat} (hs : a.eval s = .int .i64 (st : Int)) {key old v : Value} (hy : a.eval y = v) (hb : Take (pendE P k b key old m st) L R)
    (h : ∀ w1, Star (mapE P k b ((key, v) :: m) :: R) w1 → K (a.put o.dst undef) w1) : Oper.wp P o a w K Q := by
  obtain ⟨es, clock, h1, h2, j, e0, he', hk, rfl⟩ := (hM.take hb).head
  have hidx : es.findIdx? (fun e => (e.born : Int) == (e0.born : Int)) = some j := by
    have h3 : es.findIdx? (fun e => (e.born : Int) == (e0.born : Int)) = es.toList.findIdx? (fun e => (e.born : Int) == (e0.born : Int)) := by cases es; simp
    rw [h3]
    exact born_idx h2.1.2.1 (by simpa using he')
  have hsame : (es.modify j fun e => { e with val := v }) = es.modify j fun e => { e with key := key, val := v } := by
    apply Array.ext'
    apply List.ext_getElem?
    intro i
    simp only [Array.getElem?_toList, Array.getElem?_modify]
    by_cases hij : j = i
    · subst hij
      rw [he']
      simp [hk]
    · simp [hij]
  have hr : (Instr.entryStore t (.map (some b)) (.int .i64 (e0.born : Int)) v).run P w = .ok () (setBlock w b (.map (es.modify j fun e => { e with key := key, val := v }) clock)) := by
    rw [← hsame]
    simp [Instr.entryStore, MapKept.run_getObj_map h1, asInt, asIntOf, hidx, MapKept.run_setObj_map _ h1, Result.andThen, setBlock]
  obtain ⟨r, q1, q2, _⟩ := modify_kv es j e0 key v he' hk
  have hp : r.Perm m := by
    have h3 := q1.symm.trans h2.2.2
    have h5 : e0.val = old := nodup_val h2.nodup (h2.2.2.mem_iff.1 (List.mem_map.2 ⟨e0, List.mem_of_getElem? (by simpa using he'), by rw [hk]⟩)) List.mem_cons_self
    rw [h5] at h3
    exact h3.cons_inv
  unfold Oper.wp execOp
  simp only [ho, hx, hs, hy, Sem.run_bind, hr, Result.andThen_ok, Sem.run_pure]
  refine h _ ((hM.take hb).put (bs := [b]) rfl (setBlock_ch w b _) (fun j hj => .inl (List.mem_singleton.1 hj)) ⟨_, _, heap_setBlock_same h1 _, stamped_modify h2.1 j _ (fun _ _ => rfl) (fun x _ hx => ?_), fun x hx => ?_, q2.trans (hp.cons _)⟩ fun j hj => .inl hj)
  · rw [he'] at hx
    injection hx with hx
    subst hx
    exact hk.symm
  · have h6 : (x.key, x.val) ∈ (key, v) :: r := q2.mem_iff.1 (List.mem_map.2 ⟨x, hx, rfl⟩)
    rcases List.mem_cons.1 h6 with h7 | h7
    · injection h7 with h7 _
      rw [h7, ← hk]
      exact h2.2.1 e0 (List.mem_of_getElem? (by simpa using he'))
    · obtain ⟨y, hy, h8⟩ := List.mem_map.1 (q1.mem_iff.2 (List.mem_cons_of_mem _ h7))
      injection h8 with h8 _; rw [← h8]; exact h2.2.1 y hy
end
end Go.Proofs.Ytnckgkgilnmocaa
set_option linter.unusedSimpArgs false
set_option linter.unusedVariables false
namespace Go.Proofs.Ytnckgkgilnmocaa
open Go.RowKit
attribute [local go_sem] extract_mid extract_drop bget bsize wrap64_u8 i64_u8 u64_u8 bappend
theorem putL_names (ts : List Tx) : ∀ (l : List Tx) (n : List UInt8), n ∈ (putL ts l).map (onm 1) ↔ n ∈ ts.map (onm 1) ∨ n ∈ l.map (onm 1) := by
  intro l
  induction l generalizing ts with
  | nil => intro n; simp [putL]
  | cons x l ih =>
    intro n
    have h1 := ih (putS ts x) n
    rw [show putL ts (x :: l) = putL (putS ts x) l from rfl, h1, List.map_cons, List.mem_cons]
    unfold putS
    split
    · rename_i hin
      constructor
      · rintro (h | h)
        · exact .inl h
        · exact .inr (.inr h)
      · rintro (h | h | h)
        · exact .inl h
        · exact .inl (h ▸ hin)
        · exact .inr h
    · rw [List.map_append, List.mem_append, List.map_cons, List.map_nil, List.mem_singleton, or_assoc]
theorem atv_split {sm : List (Tx × Nat)} {x : Tx} (h : x ∈ sm.map (·.1)) : ∃ c sm', (x, c) ∈ sm ∧ sm.Perm ((x, c) :: sm') ∧ (atv sm).Perm ((idv x, iv64 c) :: atv sm') := by
  obtain ⟨⟨y, c⟩, hy, rfl⟩ := List.mem_map.1 h
  obtain ⟨s, t, rfl⟩ := List.append_of_mem hy
  refine ⟨c, s ++ t, hy, List.perm_middle, ?_⟩
  have h2 := (List.perm_middle (a := (y, c)) (l₁ := s) (l₂ := t)).map fun x : Tx × Nat => (idv x.1, iv64 x.2)
  exact h2
theorem new_iff {sm : List (Tx × Nat)} {id : Tx} {S : Tx → Prop} {c : Nat} (h : ∀ n, S n ↔ n = id ∨ n ∈ sm.map (·.1)) : Hid (∀ n, n ∈ ((id, c) :: sm).map (·.1) ↔ S n) := fun n => by
  rw [h n, List.map_cons, List.mem_cons]
theorem new_ct {sm : List (Tx × Nat)} {id : Tx} {j : Nat} (h : ∀ p ∈ sm, 1 ≤ p.2 ∧ p.2 ≤ j) : Hid (∀ p ∈ (id, 1) :: sm, 1 ≤ p.2 ∧ p.2 ≤ j + 1) := fun p hp => by
  rcases List.mem_cons.1 hp with rfl | hp
  · exact ⟨Nat.le_refl _, by show 1 ≤ j + 1; omega⟩
  · have := h p hp
    omega
theorem old_iff {sm sm2 : List (Tx × Nat)} {id : Tx} {S : Tx → Prop} {c k : Nat} (hp : sm.Perm ((id, c) :: sm2)) (h : ∀ n, S n ↔ n = id ∨ n ∈ sm.map (·.1)) : Hid (∀ n, n ∈ ((id, k) :: sm2).map (·.1) ↔ S n) := fun n => by
  rw [h n, (hp.map (·.1)).mem_iff]
  simp only [List.map_cons, List.mem_cons, or_self_left]
theorem old_ct {sm sm2 : List (Tx × Nat)} {id : Tx} {j c : Nat} (hp : sm.Perm ((id, c) :: sm2)) (h : ∀ p ∈ sm, 1 ≤ p.2 ∧ p.2 ≤ j) : Hid (∀ p ∈ (id, c + 1) :: sm2, 1 ≤ p.2 ∧ p.2 ≤ j + 1) := fun p hq => by
  rcases List.mem_cons.1 hq with rfl | hq
  · have := h (id, c) (hp.mem_iff.2 List.mem_cons_self)
    exact ⟨by show 1 ≤ c + 1; omega, by show c + 1 ≤ j + 1; have := this.2; simp only at this; omega⟩
  · have := h p (hp.mem_iff.2 (List.mem_cons_of_mem _ hq))
    omega
section
variable {F L R : List SProp} {B : BA} {d gm h N : Nat} {D : Dsk} {ts : List Tx}
set_option maxRecDepth 100000 in
set_option maxHeartbeats 16000000 in
theorem cost_u {A : Option Addr} {n c : Nat} {xs : List Tx} (hx : ∀ x ∈ xs, x.length ≤ 150) (hn : xs.length ≤ 100) (w : World) (hM : Star L w) (hd : Take (dpE B d gm D h ts) L R) (hr : rowE 34 A n (ovs (obL xs)) ∈ R) :
    Calls Try.prog 27 #[bptr d, .slice A n c] w fun r w' => ∃ q : Nat, Hid (q + tot (recs ts) = tot (recs (putL ts xs))) ∧ r = .returned (.int .i64 (q : Int)) ∧ Star (dpE B d gm D h ts :: R) w' := by
  have HHA : Hid (∀ (x : List UInt8) (hx : x.length = 32) (L R : List SProp) (g : Nat) (w : World), Star L w → Take (dpE B d gm D h ts) L R → rowE 32 (some ⟨g, 0, none⟩) 1 (idvs [x]) ∈ R → Calls Try.prog 33 #[bptr d, .slice (some ⟨g, 0, none⟩) 1 1] w fun r w' => r = .returned (.bool (decide (x ∈ ts.map (onm 1)))) ∧ Star (dpE B d gm D h ts :: R) w') := fun x hx L R g w hM hd hr => by
    refine (has_u (xs := [x]) (fun y hy => by rw [List.mem_singleton.1 hy]; exact hx) (by omega) w hM hd hr).mono ?_
    rintro r w' ⟨rfl, hM⟩
    refine ⟨?_, hM⟩
    simp only [List.all_cons, List.all_nil, Bool.and_true]
  replace hM := hM.take hd
  have hl : xs.length = n := by have := ovs_row (hM.row (List.mem_cons_of_mem _ hr)) (obL_32 xs); simpa using this
  have HX := Lib.hid hx
  have HL := Lib.hid hl
  have hnb : n ≤ 100 := by omega
  clear hx hl hn hd
  go_enter Try.func27, Try.ntmps27
  go_wp2_with (first | (first | ((with_reducible refine at_makemap' ?_); (have hM0 := hM; clear hM; refine BigFrame.wpList_want (by rfl) fun K hK => ws_makemap hM0 rfl idT (fun gs w hM => hK _ _ ?_); clear hM0 hK K)) | fail))
  go_loopw [12, 5] (fun i s wr => ∃ (j q : Nat) (sm : List (Tx × Nat)), j ≤ n ∧ q ≤ 4 * j ∧ i = .int .i64 j ∧ s = .int .i64 q ∧ Hid (q + tot (recs ts) = tot (recs (putL ts (xs.take j)))) ∧ Hid (∀ n, n ∈ sm.map (·.1) ↔ n ∈ (xs.take j).map (onm 1)) ∧ Hid (∀ p ∈ sm, 1 ≤ p.2 ∧ p.2 ≤ j) ∧ Star (amE gs sm :: dpE B d gm D h ts :: R) wr) (fun i _ _ => n - (intOf i).toNat)
  case atStart => exact ⟨0, 0, [], Nat.zero_le _, Nat.zero_le _, rfl, rfl, (by show _ = _; simp [putL]), (by show ∀ n, _; simp), (by show ∀ p ∈ _, _; simp), hM⟩
  case round =>
    clear hM
    obtain ⟨j, q, sm, hj, hq, rfl, rfl, HQ, HSM, HCT, hM⟩ := hrel
    by_cases hlt : j < n
    · obtain ⟨ad, o, rfl, hc, hgx, -⟩ := Rd.elems (f := ocs) (hM.row (A := A) (n := n) (xs := ovs (obL xs)) (by (repeat (first | assumption | (with_reducible exact mZ) | apply mS)); first | done | fail)) (fun o ho => ocs_len (obL_32 xs o ho)) (by omega) hlt
      rw [List.getElem?_map] at hgx
      obtain ⟨x, hg, rfl⟩ := Option.map_eq_some_iff.1 hgx
      have htk : xs.take (j + 1) = xs.take j ++ [x] := by rw [List.take_add_one, hg]; rfl
      have HT : Hid (putL ts (xs.take (j + 1)) = putS (putL ts (xs.take j)) x) := by
        show _ = _
        rw [htk]
        exact putL_snoc _ _ _
      have hxl : x.length ≤ 150 := HX.out x (List.mem_of_getElem? hg)
      have HPN := putL_names ts (xs.take j) (onm 1 x)
      have HSM2 : Hid (∀ n, n ∈ (xs.take (j + 1)).map (onm 1) ↔ n = onm 1 x ∨ n ∈ sm.map (·.1)) := by
        show ∀ n, _
        intro n
        rw [htk, List.map_append, List.mem_append, List.map_cons, List.map_nil, List.mem_singleton, ← HSM.out n, or_comm]
      have hsx := HSM.out (onm 1 x)
      have hbc : bcost (x.length + 1) ≤ 4 := by have := nlen_le (x.length + 1); unfold bcost; omega
      have HCO : Hid (∀ (L : List SProp) (w : World), Star L w → Calls Try.prog 21 #[.int .i64 ((x.length : Int) + 1)] w fun r w' => r = .returned (.int .i64 (bcost (x.length + 1) : Nat)) ∧ Star L w') := fun L w hM => by
        have := cost_b (x.length + 1) (by omega) w hM
        rwa [show ((x.length + 1 : Nat) : Int) = (x.length : Int) + 1 by omega] at this
      clear hgx hg htk
      generalize putL ts (xs.take j) = us at HQ HT HPN
      have hil := onm_len 1 x
      obtain ⟨kl, hkl⟩ := id_key hil
      have HK := Lib.hid hkl
      have HIL := Lib.hid hil
      have HSZ : Hid ((ocs (mo x)).length = 34) := ocs_len hil
      have H33 : Hid ((ocs (mo x)).toArray[33]? = some (.string ⟨x.toArray⟩)) := ocs_33 (o := mo x) hil
      have HID : Hid (∀ j v, (bvs (onm 1 x))[j]? = some v → (ocs (mo x)).toArray[1 + j]? = some v) := ocs_id (mo x)
      have HOS : Hid ((ocs (mo x)).toArray.size = 34) := ocs_sz hil
      have HO1 : Hid (∀ v ∈ (ocs (mo x)).toArray.toList, v.oneCell' = true) := ocs_oneA _
      have HOS0 : Hid ((ocs (0, z32, [])).toArray.size = 34) := ocs_sz oz32
      have HHAS := Lib.hid (HHA.out (onm 1 x) hil)
      generalize ocs (mo x) = o at hc HSZ H33 HID HOS HO1
      by_cases hs : onm 1 x ∈ sm.map (·.1)
      · obtain ⟨k0, sm2, hmm, hp0, hp1⟩ := atv_split hs
        have hk0 := HCT.out _ hmm
        have HHIT : Hid ((idv (onm 1 x), iv64 k0) ∈ atv sm) := List.mem_map.2 ⟨_, hmm, rfl⟩
        have HPM := Lib.hid hp1
        have HP0 := Lib.hid hp0
        have HPS : Hid (putS us x = us) := if_pos (HPN.2 (.inr (hsx.1 hs)))
        have hk1 : 1 ≤ k0 := hk0.1
        have hk2 : k0 ≤ 100 := by have := hk0.2; simp only at this; omega
        generalize onm 1 x = id at HK HIL HID HHAS HHIT HPM HP0 HSM2
        obtain ⟨sm3, hsm3⟩ : ∃ s, s = (id, k0 + 1) :: sm2 := ⟨_, rfl⟩
        have HH2 : Hid ((idv id, iv64 (k0 + 1)) ∈ atv sm3) := by show _ ∈ _; rw [hsm3]; exact List.mem_cons_self
        have HS3 := Lib.hid hsm3
        have HWR : Hid (Value.int .i64 (IntKind.i64.wrap ((k0 : Int) + 1)) = iv64 (k0 + 1)) := by
          show _ = _
          rw [show IntKind.i64.wrap ((k0 : Int) + 1) = ((k0 + 1 : Nat) : Int) by rw [IntKind.wrap_i64]; omega]
        have g1 : ¬ (((k0 + 1 : Nat) : Int) = 1) := by omega
        clear hs HPN hil hkl hsx hmm hp0 hp1 hk0 hsm3
        go_wp2_with (first | ((with_reducible refine at_load' ?_); refine wpList_plain rfl fun K hK => ws_load_at rfl rfl o hc (n := 34) HSZ.out (by decide +kernel) (hK _ _ ?_); clear hK K) | (first | ((with_reducible refine at_alloc' ?_); (have hM0 := hM; clear hM; refine BigFrame.wpList_want (by rfl) fun K hK => ws_alloc hM0 (t := 75) rfl (ocs (0, z32, [])).toArray info_ob (fun g8 w hM => hK _ _ ?_); clear hM0 hK K)) | fail) | (first | ((with_reducible refine at_store' ?_); (have hM0 := hM; clear hM; refine BigFrame.wpList_want (by rfl) fun K hK => ws_store hM0 rfl rfl rfl (by (repeat (first | (with_reducible exact Take.head) | apply Take.tail)); first | done | fail) (n := 34) (by exact HOS.out) (by exact HOS0.out) (by kernel_rfl) (by exact HO1.out) (fun w hM => hK _ _ ?_); clear hM0 hK K)) | fail))
        (refine region_RS ([cellsE g8 75 o.toArray]) [] (by kernel_rfl) hM ?_; clear hM; change RS _ _ _ _ _ _ 8 (Array.replicate 8 false) _ _; refine RS_take (i := 0) rfl (by decide +kernel) (fun _ _ _ h => h) (by first | (intro x hx; (repeat (first | exact hx | apply mS)); done) | ((repeat (refine List.forall_mem_cons.2 ⟨(by (repeat (first | assumption | (with_reducible exact mZ) | apply mS)); first | done | fail), ?_⟩)); intro x hx; first | (cases hx; done) | ((repeat (first | exact hx | apply mS)); done))) (stab_pure (by rfl) (fun w => (by go_simp; try with_reducible rfl))) ?_; simp only [Act.put, List.setIfInBounds_toArray, List.set_cons_zero, List.set_cons_succ]; refine RS_take (i := 1) rfl (by decide +kernel) (fun _ _ _ h => h) (by first | (intro x hx; (repeat (first | exact hx | apply mS)); done) | ((repeat (refine List.forall_mem_cons.2 ⟨(by (repeat (first | assumption | (with_reducible exact mZ) | apply mS)); first | done | fail), ?_⟩)); intro x hx; first | (cases hx; done) | ((repeat (first | exact hx | apply mS)); done))) (stab_pure (by rfl) (fun w => (by go_simp; try with_reducible rfl))) ?_; simp only [Act.put, List.setIfInBounds_toArray, List.set_cons_zero, List.set_cons_succ]; refine RS_take (i := 2) rfl (by decide +kernel) (fun _ _ _ h => h) (by first | (intro x hx; (repeat (first | exact hx | apply mS)); done) | ((repeat (refine List.forall_mem_cons.2 ⟨(by (repeat (first | assumption | (with_reducible exact mZ) | apply mS)); first | done | fail), ?_⟩)); intro x hx; first | (cases hx; done) | ((repeat (first | exact hx | apply mS)); done))) (stab_read (by rfl) (fun L w hL hM => (ex_load_mid hM rfl rfl (hL _ (by (repeat (first | assumption | (with_reducible exact mZ) | apply mS)); first | done | fail)) (bvs id) HID.out (n := 32) (by rw [bvs_len]; exact HIL.out) (by decide +kernel)))) ?_; simp only [Act.put, List.setIfInBounds_toArray, List.set_cons_zero, List.set_cons_succ]; refine RS_ready (rs := [3, 5]) (by decide +kernel) (by simp) (.inl (by first | (intro x hx; (repeat (first | exact hx | apply mS)); done) | ((repeat (refine List.forall_mem_cons.2 ⟨(by (repeat (first | assumption | (with_reducible exact mZ) | apply mS)); first | done | fail), ?_⟩)); intro x hx; first | (cases hx; done) | ((repeat (first | exact hx | apply mS)); done)))) ?_; refine (List.forall_mem_cons.2 ⟨?_, (List.forall_mem_cons.2 ⟨?_, (fun _ h => by cases h)⟩)⟩); rotate_right 1; (focus (refine RS_way (i := 5) rfl (by rfl) (fun w K hM0 hK => ?_); refine ws_entry_old (key := idv id) (old := iv64 k0) hM0 rfl Try.underlying68 rfl rfl (by (repeat (first | (with_reducible exact Take.head) | apply Take.tail)); first | done | fail) keyed_id HK.out HPM.out (fun st w hM => hK _ _ _ hM ?_); clear hM hM0 hK K; simp only [Act.put, List.setIfInBounds_toArray, List.set_cons_zero, List.set_cons_succ]; refine RS_take (i := 6) rfl (by decide +kernel) (fun _ _ _ h => h) (by first | (intro x hx; (repeat (first | exact hx | apply mS)); done) | ((repeat (refine List.forall_mem_cons.2 ⟨(by (repeat (first | assumption | (with_reducible exact mZ) | apply mS)); first | done | fail), ?_⟩)); intro x hx; first | (cases hx; done) | ((repeat (first | exact hx | apply mS)); done))) (stab_pure (by rfl) (fun w => (by go_simp; try with_reducible rfl))) ?_; simp only [Act.put, List.setIfInBounds_toArray, List.set_cons_zero, List.set_cons_succ]; refine RS_one (i := 3) (by decide +kernel) rfl (by rfl) (.inl (by first | (intro x hx; (repeat (first | exact hx | apply mS)); done) | ((repeat (refine List.forall_mem_cons.2 ⟨(by (repeat (first | assumption | (with_reducible exact mZ) | apply mS)); first | done | fail), ?_⟩)); intro x hx; first | (cases hx; done) | ((repeat (first | exact hx | apply mS)); done)))) (fun w K hM0 hK => ?_); refine ws_of_ex (by first | exact ex_hit1 (key := idv id) (v := iv64 k0) hM0 rfl Try.underlying68 rfl rfl (by (repeat (first | assumption | (with_reducible exact mZ) | apply mS)); first | done | fail) keyed_id HK.out HHIT.out | exact ex_hit1 (key := idv id) (v := iv64 k0) (pend_map (key := idv id) (old := iv64 k0) (m := atv sm2) hM0 (by (repeat (first | assumption | (with_reducible exact mZ) | apply mS)); first | done | fail)) rfl Try.underlying68 rfl rfl List.mem_cons_self keyed_id HK.out List.mem_cons_self) (hK _ _ _ hM0 ?_); clear hM0 hK K; simp only [Act.put, List.setIfInBounds_toArray, List.set_cons_zero, List.set_cons_succ]; refine RS_take (i := 4) rfl (by decide +kernel) (fun _ _ _ h => h) (by first | (intro x hx; (repeat (first | exact hx | apply mS)); done) | ((repeat (refine List.forall_mem_cons.2 ⟨(by (repeat (first | assumption | (with_reducible exact mZ) | apply mS)); first | done | fail), ?_⟩)); intro x hx; first | (cases hx; done) | ((repeat (first | exact hx | apply mS)); done))) (stab_pure (by rfl) (fun w => (by go_simp; try with_reducible rfl))) ?_; simp only [Act.put, List.setIfInBounds_toArray, List.set_cons_zero, List.set_cons_succ]; refine RS_one (i := 7) (by decide +kernel) rfl (by rfl) (.inl (by first | (intro x hx; (repeat (first | exact hx | apply mS)); done) | ((repeat (refine List.forall_mem_cons.2 ⟨(by (repeat (first | assumption | (with_reducible exact mZ) | apply mS)); first | done | fail), ?_⟩)); intro x hx; first | (cases hx; done) | ((repeat (first | exact hx | apply mS)); done)))) (fun w K hM0 hK => ?_); refine ws_entry_store (key := idv id) (v := .int .i64 (IntKind.i64.wrap ((k0 : Int) + 1))) hM0 rfl rfl rfl rfl (by (repeat (first | (with_reducible exact Take.head) | apply Take.tail)); first | done | fail) (fun w hM => hK _ _ _ hM ?_); clear hM hM0 hK K; simp only [Act.put, List.setIfInBounds_toArray, List.set_cons_zero, List.set_cons_succ]; refine RS_done (by decide +kernel) (.inl (by first | (intro x hx; (repeat (first | exact hx | apply mS)); done) | ((repeat (refine List.forall_mem_cons.2 ⟨(by (repeat (first | assumption | (with_reducible exact mZ) | apply mS)); first | done | fail), ?_⟩)); intro x hx; first | (cases hx; done) | ((repeat (first | exact hx | apply mS)); done)))) (fun w hM => ?_))); rotate_right 1; (focus (refine RS_way (i := 3) rfl (by rfl) (fun w K hM0 hK => ?_); refine ws_of_ex (by first | exact ex_hit1 (key := idv id) (v := iv64 k0) hM0 rfl Try.underlying68 rfl rfl (by (repeat (first | assumption | (with_reducible exact mZ) | apply mS)); first | done | fail) keyed_id HK.out HHIT.out | exact ex_hit1 (key := idv id) (v := iv64 k0) (pend_map (key := idv id) (old := iv64 k0) (m := atv sm2) hM0 (by (repeat (first | assumption | (with_reducible exact mZ) | apply mS)); first | done | fail)) rfl Try.underlying68 rfl rfl List.mem_cons_self keyed_id HK.out List.mem_cons_self) (hK _ _ _ hM0 ?_); clear hM0 hK K; simp only [Act.put, List.setIfInBounds_toArray, List.set_cons_zero, List.set_cons_succ]; refine RS_take (i := 4) rfl (by decide +kernel) (fun _ _ _ h => h) (by first | (intro x hx; (repeat (first | exact hx | apply mS)); done) | ((repeat (refine List.forall_mem_cons.2 ⟨(by (repeat (first | assumption | (with_reducible exact mZ) | apply mS)); first | done | fail), ?_⟩)); intro x hx; first | (cases hx; done) | ((repeat (first | exact hx | apply mS)); done))) (stab_pure (by rfl) (fun w => (by go_simp; try with_reducible rfl))) ?_; simp only [Act.put, List.setIfInBounds_toArray, List.set_cons_zero, List.set_cons_succ]; refine RS_one (i := 5) (by decide +kernel) rfl (by rfl) (.inl (by first | (intro x hx; (repeat (first | exact hx | apply mS)); done) | ((repeat (refine List.forall_mem_cons.2 ⟨(by (repeat (first | assumption | (with_reducible exact mZ) | apply mS)); first | done | fail), ?_⟩)); intro x hx; first | (cases hx; done) | ((repeat (first | exact hx | apply mS)); done)))) (fun w K hM0 hK => ?_); refine ws_entry_old (key := idv id) (old := iv64 k0) hM0 rfl Try.underlying68 rfl rfl (by (repeat (first | (with_reducible exact Take.head) | apply Take.tail)); first | done | fail) keyed_id HK.out HPM.out (fun st w hM => hK _ _ _ hM ?_); clear hM hM0 hK K; simp only [Act.put, List.setIfInBounds_toArray, List.set_cons_zero, List.set_cons_succ]; refine RS_take (i := 6) rfl (by decide +kernel) (fun _ _ _ h => h) (by first | (intro x hx; (repeat (first | exact hx | apply mS)); done) | ((repeat (refine List.forall_mem_cons.2 ⟨(by (repeat (first | assumption | (with_reducible exact mZ) | apply mS)); first | done | fail), ?_⟩)); intro x hx; first | (cases hx; done) | ((repeat (first | exact hx | apply mS)); done))) (stab_pure (by rfl) (fun w => (by go_simp; try with_reducible rfl))) ?_; simp only [Act.put, List.setIfInBounds_toArray, List.set_cons_zero, List.set_cons_succ]; refine RS_one (i := 7) (by decide +kernel) rfl (by rfl) (.inl (by first | (intro x hx; (repeat (first | exact hx | apply mS)); done) | ((repeat (refine List.forall_mem_cons.2 ⟨(by (repeat (first | assumption | (with_reducible exact mZ) | apply mS)); first | done | fail), ?_⟩)); intro x hx; first | (cases hx; done) | ((repeat (first | exact hx | apply mS)); done)))) (fun w K hM0 hK => ?_); refine ws_entry_store (key := idv id) (v := .int .i64 (IntKind.i64.wrap ((k0 : Int) + 1))) hM0 rfl rfl rfl rfl (by (repeat (first | (with_reducible exact Take.head) | apply Take.tail)); first | done | fail) (fun w hM => hK _ _ _ hM ?_); clear hM hM0 hK K; simp only [Act.put, List.setIfInBounds_toArray, List.set_cons_zero, List.set_cons_succ]; refine RS_done (by decide +kernel) (.inl (by first | (intro x hx; (repeat (first | exact hx | apply mS)); done) | ((repeat (refine List.forall_mem_cons.2 ⟨(by (repeat (first | assumption | (with_reducible exact mZ) | apply mS)); first | done | fail), ?_⟩)); intro x hx; first | (cases hx; done) | ((repeat (first | exact hx | apply mS)); done)))) (fun w hM => ?_))))
        all_goals
          rw [HWR.out] at hM
          replace hM : Star (amE gs sm3 :: cellsE g8 75 o.toArray :: dpE B d gm D h ts :: R) w := by rw [HS3.out]; exact hM
          go_wp2_with (first | ((with_reducible refine at_load' ?_); refine BigFrame.wpList_want (by rfl) fun K hK => ws_load_mid hM rfl rfl (by (repeat (first | assumption | (with_reducible exact mZ) | apply mS)); first | done | fail) (bvs id) HID.out (n := 32) (by rw [bvs_len]; exact HIL.out) (by decide +kernel) (hK _ _ ?_); clear hK K) | ((with_reducible refine at_lookup' ?_); refine BigFrame.wpList_want (by rfl) fun K hK => ws_of_ex (ex_hit1 (key := idv id) hM rfl Try.underlying68 rfl rfl (by (repeat (first | assumption | (with_reducible exact mZ) | apply mS)); first | done | fail) keyed_id HK.out HH2.out) (hK _ _ ?_); clear hK K) | (first | ((with_reducible refine at_slice' ?_); (have hM0 := hM; clear hM; refine BigFrame.wpList_want (by rfl) fun K hK => ws_slice_row hM0 (n := 1) rfl 73 32 (.agg (bvs z32).toArray) [.agg (bvs id).toArray] Try.underlying76 (by kernel_rfl) rfl (by simp [Value.cells, iv, sv, bv, bvs_len, HIL.out]) (by rfl) (by decide) (cs := idvs [id]) (by rfl) (fun g45 w hM => hK _ _ ?_); clear hM0 hK K)) | fail) | (go_at_call 33; have hM0 := hM; clear hM; (first | (with_reducible refine (HHAS.out _ _ g45 _ hM0 (by (repeat (first | (with_reducible exact Take.head) | apply Take.tail)); first | done | fail) (by (repeat (first | assumption | (with_reducible exact mZ) | apply mS)); first | done | fail)).mono ?_) | fail); clear hM0; rintro _ w ⟨rfl, hM⟩) | (first | ((with_reducible refine at_load' ?_); (refine BigFrame.wpList_want (by rfl) fun K hK => ws_load1 hM rfl rfl (by (repeat (first | assumption | (with_reducible exact mZ) | apply mS)); first | done | fail) (by exact H33.out) (by decide +kernel) (hK _ _ ?_); clear hK K)) | fail) | (go_at_call 21; have hM0 := hM; clear hM; (first | (with_reducible refine (HCO.out _ _ hM0).mono ?_) | fail); clear hM0; rintro _ w ⟨rfl, hM⟩))
          go_roundw
          case rel => exact ⟨j + 1, q, sm3, by omega, by omega, by go_num, rfl, by rw [HT.out, HPS.out]; exact HQ, by rw [HS3.out]; exact old_iff HP0.out HSM2.out, by rw [HS3.out]; exact old_ct HP0.out HCT.out, hM.sel (by repeat (first | (with_reducible exact Sel.refl) | (with_reducible exact Take.head) | (with_reducible apply Take.tail) | (with_reducible apply Sel.cons) | (with_reducible apply Sel.drop)))⟩
          case measure => simp [intOf]; omega
      · have HMS := Lib.hid (atv_miss hs)
        by_cases hin : onm 1 x ∈ ts.map (onm 1)
        · have HPS : Hid (putS us x = us) := if_pos (HPN.2 (.inl hin))
          have HIN := Lib.hid hin
          rw [decide_eq_true hin] at HHAS
          generalize onm 1 x = id at HK HIL HID HHAS HMS HSM2
          clear hin hs HPN hil hkl hsx
          obtain ⟨sm3, hsm3⟩ : ∃ s, s = (id, 1) :: sm := ⟨_, rfl⟩
          have HH2 : Hid ((idv id, .int .i64 1) ∈ atv sm3) := by show _ ∈ _; rw [hsm3]; exact List.mem_cons_self
          have HS3 := Lib.hid hsm3
          clear hsm3
          go_wp2_with (first | ((with_reducible refine at_load' ?_); refine wpList_plain rfl fun K hK => ws_load_at rfl rfl o hc (n := 34) HSZ.out (by decide +kernel) (hK _ _ ?_); clear hK K) | (first | ((with_reducible refine at_alloc' ?_); (have hM0 := hM; clear hM; refine BigFrame.wpList_want (by rfl) fun K hK => ws_alloc hM0 (t := 75) rfl (ocs (0, z32, [])).toArray info_ob (fun g8 w hM => hK _ _ ?_); clear hM0 hK K)) | fail) | (first | ((with_reducible refine at_store' ?_); (have hM0 := hM; clear hM; refine BigFrame.wpList_want (by rfl) fun K hK => ws_store hM0 rfl rfl rfl (by (repeat (first | (with_reducible exact Take.head) | apply Take.tail)); first | done | fail) (n := 34) (by exact HOS.out) (by exact HOS0.out) (by kernel_rfl) (by exact HO1.out) (fun w hM => hK _ _ ?_); clear hM0 hK K)) | fail))
          (refine region_RS ([cellsE g8 75 o.toArray]) [] (by kernel_rfl) hM ?_; clear hM; change RS _ _ _ _ _ _ 8 (Array.replicate 8 false) _ _; refine RS_take (i := 0) rfl (by decide +kernel) (fun _ _ _ h => h) (by first | (intro x hx; (repeat (first | exact hx | apply mS)); done) | ((repeat (refine List.forall_mem_cons.2 ⟨(by (repeat (first | assumption | (with_reducible exact mZ) | apply mS)); first | done | fail), ?_⟩)); intro x hx; first | (cases hx; done) | ((repeat (first | exact hx | apply mS)); done))) (stab_pure (by rfl) (fun w => (by go_simp; try with_reducible rfl))) ?_; simp only [Act.put, List.setIfInBounds_toArray, List.set_cons_zero, List.set_cons_succ]; refine RS_take (i := 1) rfl (by decide +kernel) (fun _ _ _ h => h) (by first | (intro x hx; (repeat (first | exact hx | apply mS)); done) | ((repeat (refine List.forall_mem_cons.2 ⟨(by (repeat (first | assumption | (with_reducible exact mZ) | apply mS)); first | done | fail), ?_⟩)); intro x hx; first | (cases hx; done) | ((repeat (first | exact hx | apply mS)); done))) (stab_pure (by rfl) (fun w => (by go_simp; try with_reducible rfl))) ?_; simp only [Act.put, List.setIfInBounds_toArray, List.set_cons_zero, List.set_cons_succ]; refine RS_take (i := 2) rfl (by decide +kernel) (fun _ _ _ h => h) (by first | (intro x hx; (repeat (first | exact hx | apply mS)); done) | ((repeat (refine List.forall_mem_cons.2 ⟨(by (repeat (first | assumption | (with_reducible exact mZ) | apply mS)); first | done | fail), ?_⟩)); intro x hx; first | (cases hx; done) | ((repeat (first | exact hx | apply mS)); done))) (stab_read (by rfl) (fun L w hL hM => (ex_load_mid hM rfl rfl (hL _ (by (repeat (first | assumption | (with_reducible exact mZ) | apply mS)); first | done | fail)) (bvs id) HID.out (n := 32) (by rw [bvs_len]; exact HIL.out) (by decide +kernel)))) ?_; simp only [Act.put, List.setIfInBounds_toArray, List.set_cons_zero, List.set_cons_succ]; refine RS_ready (rs := [3, 5]) (by decide +kernel) (by simp) (.inl (by first | (intro x hx; (repeat (first | exact hx | apply mS)); done) | ((repeat (refine List.forall_mem_cons.2 ⟨(by (repeat (first | assumption | (with_reducible exact mZ) | apply mS)); first | done | fail), ?_⟩)); intro x hx; first | (cases hx; done) | ((repeat (first | exact hx | apply mS)); done)))) ?_; refine (List.forall_mem_cons.2 ⟨?_, (List.forall_mem_cons.2 ⟨?_, (fun _ h => by cases h)⟩)⟩); rotate_right 1; (focus (refine RS_way (i := 5) rfl (by rfl) (fun w K hM0 hK => ?_); refine ws_entry_new (key := idv id) hM0 rfl Try.underlying68 zero_intD rfl rfl (by (repeat (first | (with_reducible exact Take.head) | apply Take.tail)); first | done | fail) keyed_id HK.out HMS.out (fun st w hM => hK _ _ _ hM ?_); clear hM hM0 hK K; simp only [Act.put, List.setIfInBounds_toArray, List.set_cons_zero, List.set_cons_succ]; refine RS_take (i := 6) rfl (by decide +kernel) (fun _ _ _ h => h) (by first | (intro x hx; (repeat (first | exact hx | apply mS)); done) | ((repeat (refine List.forall_mem_cons.2 ⟨(by (repeat (first | assumption | (with_reducible exact mZ) | apply mS)); first | done | fail), ?_⟩)); intro x hx; first | (cases hx; done) | ((repeat (first | exact hx | apply mS)); done))) (stab_pure (by rfl) (fun w => (by go_simp; try with_reducible rfl))) ?_; simp only [Act.put, List.setIfInBounds_toArray, List.set_cons_zero, List.set_cons_succ]; refine RS_one (i := 3) (by decide +kernel) rfl (by rfl) (.inl (by first | (intro x hx; (repeat (first | exact hx | apply mS)); done) | ((repeat (refine List.forall_mem_cons.2 ⟨(by (repeat (first | assumption | (with_reducible exact mZ) | apply mS)); first | done | fail), ?_⟩)); intro x hx; first | (cases hx; done) | ((repeat (first | exact hx | apply mS)); done)))) (fun w K hM0 hK => ?_); refine ws_of_ex (by first | exact ex_miss1 (key := idv id) hM0 rfl Try.underlying68 zero_intD rfl rfl (by (repeat (first | assumption | (with_reducible exact mZ) | apply mS)); first | done | fail) keyed_id HK.out HMS.out | exact ex_hit1 (key := idv id) (pend_map (key := idv id) (old := .int .i64 0) (m := atv sm) hM0 (by (repeat (first | assumption | (with_reducible exact mZ) | apply mS)); first | done | fail)) rfl Try.underlying68 rfl rfl List.mem_cons_self keyed_id HK.out List.mem_cons_self) (hK _ _ _ hM0 ?_); clear hM0 hK K; simp only [Act.put, List.setIfInBounds_toArray, List.set_cons_zero, List.set_cons_succ]; refine RS_take (i := 4) rfl (by decide +kernel) (fun _ _ _ h => h) (by first | (intro x hx; (repeat (first | exact hx | apply mS)); done) | ((repeat (refine List.forall_mem_cons.2 ⟨(by (repeat (first | assumption | (with_reducible exact mZ) | apply mS)); first | done | fail), ?_⟩)); intro x hx; first | (cases hx; done) | ((repeat (first | exact hx | apply mS)); done))) (stab_pure (by rfl) (fun w => (by go_simp; try with_reducible rfl))) ?_; simp only [Act.put, List.setIfInBounds_toArray, List.set_cons_zero, List.set_cons_succ]; refine RS_one (i := 7) (by decide +kernel) rfl (by rfl) (.inl (by first | (intro x hx; (repeat (first | exact hx | apply mS)); done) | ((repeat (refine List.forall_mem_cons.2 ⟨(by (repeat (first | assumption | (with_reducible exact mZ) | apply mS)); first | done | fail), ?_⟩)); intro x hx; first | (cases hx; done) | ((repeat (first | exact hx | apply mS)); done)))) (fun w K hM0 hK => ?_); refine ws_entry_store (key := idv id) (v := iv64 1) hM0 rfl rfl rfl rfl (by (repeat (first | (with_reducible exact Take.head) | apply Take.tail)); first | done | fail) (fun w hM => hK _ _ _ hM ?_); clear hM hM0 hK K; simp only [Act.put, List.setIfInBounds_toArray, List.set_cons_zero, List.set_cons_succ]; refine RS_done (by decide +kernel) (.inl (by first | (intro x hx; (repeat (first | exact hx | apply mS)); done) | ((repeat (refine List.forall_mem_cons.2 ⟨(by (repeat (first | assumption | (with_reducible exact mZ) | apply mS)); first | done | fail), ?_⟩)); intro x hx; first | (cases hx; done) | ((repeat (first | exact hx | apply mS)); done)))) (fun w hM => ?_))); rotate_right 1; (focus (refine RS_way (i := 3) rfl (by rfl) (fun w K hM0 hK => ?_); refine ws_of_ex (by first | exact ex_miss1 (key := idv id) hM0 rfl Try.underlying68 zero_intD rfl rfl (by (repeat (first | assumption | (with_reducible exact mZ) | apply mS)); first | done | fail) keyed_id HK.out HMS.out | exact ex_hit1 (key := idv id) (pend_map (key := idv id) (old := .int .i64 0) (m := atv sm) hM0 (by (repeat (first | assumption | (with_reducible exact mZ) | apply mS)); first | done | fail)) rfl Try.underlying68 rfl rfl List.mem_cons_self keyed_id HK.out List.mem_cons_self) (hK _ _ _ hM0 ?_); clear hM0 hK K; simp only [Act.put, List.setIfInBounds_toArray, List.set_cons_zero, List.set_cons_succ]; refine RS_take (i := 4) rfl (by decide +kernel) (fun _ _ _ h => h) (by first | (intro x hx; (repeat (first | exact hx | apply mS)); done) | ((repeat (refine List.forall_mem_cons.2 ⟨(by (repeat (first | assumption | (with_reducible exact mZ) | apply mS)); first | done | fail), ?_⟩)); intro x hx; first | (cases hx; done) | ((repeat (first | exact hx | apply mS)); done))) (stab_pure (by rfl) (fun w => (by go_simp; try with_reducible rfl))) ?_; simp only [Act.put, List.setIfInBounds_toArray, List.set_cons_zero, List.set_cons_succ]; refine RS_one (i := 5) (by decide +kernel) rfl (by rfl) (.inl (by first | (intro x hx; (repeat (first | exact hx | apply mS)); done) | ((repeat (refine List.forall_mem_cons.2 ⟨(by (repeat (first | assumption | (with_reducible exact mZ) | apply mS)); first | done | fail), ?_⟩)); intro x hx; first | (cases hx; done) | ((repeat (first | exact hx | apply mS)); done)))) (fun w K hM0 hK => ?_); refine ws_entry_new (key := idv id) hM0 rfl Try.underlying68 zero_intD rfl rfl (by (repeat (first | (with_reducible exact Take.head) | apply Take.tail)); first | done | fail) keyed_id HK.out HMS.out (fun st w hM => hK _ _ _ hM ?_); clear hM hM0 hK K; simp only [Act.put, List.setIfInBounds_toArray, List.set_cons_zero, List.set_cons_succ]; refine RS_take (i := 6) rfl (by decide +kernel) (fun _ _ _ h => h) (by first | (intro x hx; (repeat (first | exact hx | apply mS)); done) | ((repeat (refine List.forall_mem_cons.2 ⟨(by (repeat (first | assumption | (with_reducible exact mZ) | apply mS)); first | done | fail), ?_⟩)); intro x hx; first | (cases hx; done) | ((repeat (first | exact hx | apply mS)); done))) (stab_pure (by rfl) (fun w => (by go_simp; try with_reducible rfl))) ?_; simp only [Act.put, List.setIfInBounds_toArray, List.set_cons_zero, List.set_cons_succ]; refine RS_one (i := 7) (by decide +kernel) rfl (by rfl) (.inl (by first | (intro x hx; (repeat (first | exact hx | apply mS)); done) | ((repeat (refine List.forall_mem_cons.2 ⟨(by (repeat (first | assumption | (with_reducible exact mZ) | apply mS)); first | done | fail), ?_⟩)); intro x hx; first | (cases hx; done) | ((repeat (first | exact hx | apply mS)); done)))) (fun w K hM0 hK => ?_); refine ws_entry_store (key := idv id) (v := iv64 1) hM0 rfl rfl rfl rfl (by (repeat (first | (with_reducible exact Take.head) | apply Take.tail)); first | done | fail) (fun w hM => hK _ _ _ hM ?_); clear hM hM0 hK K; simp only [Act.put, List.setIfInBounds_toArray, List.set_cons_zero, List.set_cons_succ]; refine RS_done (by decide +kernel) (.inl (by first | (intro x hx; (repeat (first | exact hx | apply mS)); done) | ((repeat (refine List.forall_mem_cons.2 ⟨(by (repeat (first | assumption | (with_reducible exact mZ) | apply mS)); first | done | fail), ?_⟩)); intro x hx; first | (cases hx; done) | ((repeat (first | exact hx | apply mS)); done)))) (fun w hM => ?_))))
          all_goals
            replace hM : Star (amE gs sm3 :: cellsE g8 75 o.toArray :: dpE B d gm D h ts :: R) w := by rw [HS3.out]; exact hM
            go_wp2_with (first | ((with_reducible refine at_load' ?_); refine BigFrame.wpList_want (by rfl) fun K hK => ws_load_mid hM rfl rfl (by (repeat (first | assumption | (with_reducible exact mZ) | apply mS)); first | done | fail) (bvs id) HID.out (n := 32) (by rw [bvs_len]; exact HIL.out) (by decide +kernel) (hK _ _ ?_); clear hK K) | ((with_reducible refine at_lookup' ?_); refine BigFrame.wpList_want (by rfl) fun K hK => ws_of_ex (ex_hit1 (key := idv id) hM rfl Try.underlying68 rfl rfl (by (repeat (first | assumption | (with_reducible exact mZ) | apply mS)); first | done | fail) keyed_id HK.out HH2.out) (hK _ _ ?_); clear hK K) | (first | ((with_reducible refine at_slice' ?_); (have hM0 := hM; clear hM; refine BigFrame.wpList_want (by rfl) fun K hK => ws_slice_row hM0 (n := 1) rfl 73 32 (.agg (bvs z32).toArray) [.agg (bvs id).toArray] Try.underlying76 (by kernel_rfl) rfl (by simp [Value.cells, iv, sv, bv, bvs_len, HIL.out]) (by rfl) (by decide) (cs := idvs [id]) (by rfl) (fun g45 w hM => hK _ _ ?_); clear hM0 hK K)) | fail) | (go_at_call 33; have hM0 := hM; clear hM; (first | (with_reducible refine (HHAS.out _ _ g45 _ hM0 (by (repeat (first | (with_reducible exact Take.head) | apply Take.tail)); first | done | fail) (by (repeat (first | assumption | (with_reducible exact mZ) | apply mS)); first | done | fail)).mono ?_) | fail); clear hM0; rintro _ w ⟨rfl, hM⟩) | (first | ((with_reducible refine at_load' ?_); (refine BigFrame.wpList_want (by rfl) fun K hK => ws_load1 hM rfl rfl (by (repeat (first | assumption | (with_reducible exact mZ) | apply mS)); first | done | fail) (by exact H33.out) (by decide +kernel) (hK _ _ ?_); clear hK K)) | fail) | (go_at_call 21; have hM0 := hM; clear hM; (first | (with_reducible refine (HCO.out _ _ hM0).mono ?_) | fail); clear hM0; rintro _ w ⟨rfl, hM⟩))
            go_roundw
            case rel => exact ⟨j + 1, q, sm3, by omega, by omega, by go_num, rfl, by rw [HT.out, HPS.out]; exact HQ, by rw [HS3.out]; exact new_iff HSM2.out, by rw [HS3.out]; exact new_ct HCT.out, hM.sel (by repeat (first | (with_reducible exact Sel.refl) | (with_reducible exact Take.head) | (with_reducible apply Take.tail) | (with_reducible apply Sel.cons) | (with_reducible apply Sel.drop)))⟩
            case measure => simp [intOf]; omega
        · have HPS : Hid (putS us x = us ++ [x]) := if_neg fun hh => by
            rcases HPN.1 hh with h1 | h1
            · exact hin h1
            · exact hs (hsx.2 h1)
          have HQ2 : Hid (q + bcost (x.length + 1) + tot (recs ts) = tot (recs (us ++ [x]))) := by
            show _ = _
            have := HQ.out
            rw [recs_app, tot_app, show tot (recs [x]) = bcost (x.length + 1) by show bcost (x.length + 1) + 0 = _; rfl]
            omega
          rw [decide_eq_false hin] at HHAS
          generalize onm 1 x = id at HK HIL HID HHAS HMS HSM2
          generalize bcost (x.length + 1) = cc at HQ2 HCO hbc
          clear hin hs HPN hil hkl hsx
          obtain ⟨sm3, hsm3⟩ : ∃ s, s = (id, 1) :: sm := ⟨_, rfl⟩
          have HH2 : Hid ((idv id, .int .i64 1) ∈ atv sm3) := by show _ ∈ _; rw [hsm3]; exact List.mem_cons_self
          have HS3 := Lib.hid hsm3
          clear hsm3
          go_wp2_with (first | ((with_reducible refine at_load' ?_); refine wpList_plain rfl fun K hK => ws_load_at rfl rfl o hc (n := 34) HSZ.out (by decide +kernel) (hK _ _ ?_); clear hK K) | (first | ((with_reducible refine at_alloc' ?_); (have hM0 := hM; clear hM; refine BigFrame.wpList_want (by rfl) fun K hK => ws_alloc hM0 (t := 75) rfl (ocs (0, z32, [])).toArray info_ob (fun g8 w hM => hK _ _ ?_); clear hM0 hK K)) | fail) | (first | ((with_reducible refine at_store' ?_); (have hM0 := hM; clear hM; refine BigFrame.wpList_want (by rfl) fun K hK => ws_store hM0 rfl rfl rfl (by (repeat (first | (with_reducible exact Take.head) | apply Take.tail)); first | done | fail) (n := 34) (by exact HOS.out) (by exact HOS0.out) (by kernel_rfl) (by exact HO1.out) (fun w hM => hK _ _ ?_); clear hM0 hK K)) | fail))
          (refine region_RS ([cellsE g8 75 o.toArray]) [] (by kernel_rfl) hM ?_; clear hM; change RS _ _ _ _ _ _ 8 (Array.replicate 8 false) _ _; refine RS_take (i := 0) rfl (by decide +kernel) (fun _ _ _ h => h) (by first | (intro x hx; (repeat (first | exact hx | apply mS)); done) | ((repeat (refine List.forall_mem_cons.2 ⟨(by (repeat (first | assumption | (with_reducible exact mZ) | apply mS)); first | done | fail), ?_⟩)); intro x hx; first | (cases hx; done) | ((repeat (first | exact hx | apply mS)); done))) (stab_pure (by rfl) (fun w => (by go_simp; try with_reducible rfl))) ?_; simp only [Act.put, List.setIfInBounds_toArray, List.set_cons_zero, List.set_cons_succ]; refine RS_take (i := 1) rfl (by decide +kernel) (fun _ _ _ h => h) (by first | (intro x hx; (repeat (first | exact hx | apply mS)); done) | ((repeat (refine List.forall_mem_cons.2 ⟨(by (repeat (first | assumption | (with_reducible exact mZ) | apply mS)); first | done | fail), ?_⟩)); intro x hx; first | (cases hx; done) | ((repeat (first | exact hx | apply mS)); done))) (stab_pure (by rfl) (fun w => (by go_simp; try with_reducible rfl))) ?_; simp only [Act.put, List.setIfInBounds_toArray, List.set_cons_zero, List.set_cons_succ]; refine RS_take (i := 2) rfl (by decide +kernel) (fun _ _ _ h => h) (by first | (intro x hx; (repeat (first | exact hx | apply mS)); done) | ((repeat (refine List.forall_mem_cons.2 ⟨(by (repeat (first | assumption | (with_reducible exact mZ) | apply mS)); first | done | fail), ?_⟩)); intro x hx; first | (cases hx; done) | ((repeat (first | exact hx | apply mS)); done))) (stab_read (by rfl) (fun L w hL hM => (ex_load_mid hM rfl rfl (hL _ (by (repeat (first | assumption | (with_reducible exact mZ) | apply mS)); first | done | fail)) (bvs id) HID.out (n := 32) (by rw [bvs_len]; exact HIL.out) (by decide +kernel)))) ?_; simp only [Act.put, List.setIfInBounds_toArray, List.set_cons_zero, List.set_cons_succ]; refine RS_ready (rs := [3, 5]) (by decide +kernel) (by simp) (.inl (by first | (intro x hx; (repeat (first | exact hx | apply mS)); done) | ((repeat (refine List.forall_mem_cons.2 ⟨(by (repeat (first | assumption | (with_reducible exact mZ) | apply mS)); first | done | fail), ?_⟩)); intro x hx; first | (cases hx; done) | ((repeat (first | exact hx | apply mS)); done)))) ?_; refine (List.forall_mem_cons.2 ⟨?_, (List.forall_mem_cons.2 ⟨?_, (fun _ h => by cases h)⟩)⟩); rotate_right 1; (focus (refine RS_way (i := 5) rfl (by rfl) (fun w K hM0 hK => ?_); refine ws_entry_new (key := idv id) hM0 rfl Try.underlying68 zero_intD rfl rfl (by (repeat (first | (with_reducible exact Take.head) | apply Take.tail)); first | done | fail) keyed_id HK.out HMS.out (fun st w hM => hK _ _ _ hM ?_); clear hM hM0 hK K; simp only [Act.put, List.setIfInBounds_toArray, List.set_cons_zero, List.set_cons_succ]; refine RS_take (i := 6) rfl (by decide +kernel) (fun _ _ _ h => h) (by first | (intro x hx; (repeat (first | exact hx | apply mS)); done) | ((repeat (refine List.forall_mem_cons.2 ⟨(by (repeat (first | assumption | (with_reducible exact mZ) | apply mS)); first | done | fail), ?_⟩)); intro x hx; first | (cases hx; done) | ((repeat (first | exact hx | apply mS)); done))) (stab_pure (by rfl) (fun w => (by go_simp; try with_reducible rfl))) ?_; simp only [Act.put, List.setIfInBounds_toArray, List.set_cons_zero, List.set_cons_succ]; refine RS_one (i := 3) (by decide +kernel) rfl (by rfl) (.inl (by first | (intro x hx; (repeat (first | exact hx | apply mS)); done) | ((repeat (refine List.forall_mem_cons.2 ⟨(by (repeat (first | assumption | (with_reducible exact mZ) | apply mS)); first | done | fail), ?_⟩)); intro x hx; first | (cases hx; done) | ((repeat (first | exact hx | apply mS)); done)))) (fun w K hM0 hK => ?_); refine ws_of_ex (by first | exact ex_miss1 (key := idv id) hM0 rfl Try.underlying68 zero_intD rfl rfl (by (repeat (first | assumption | (with_reducible exact mZ) | apply mS)); first | done | fail) keyed_id HK.out HMS.out | exact ex_hit1 (key := idv id) (pend_map (key := idv id) (old := .int .i64 0) (m := atv sm) hM0 (by (repeat (first | assumption | (with_reducible exact mZ) | apply mS)); first | done | fail)) rfl Try.underlying68 rfl rfl List.mem_cons_self keyed_id HK.out List.mem_cons_self) (hK _ _ _ hM0 ?_); clear hM0 hK K; simp only [Act.put, List.setIfInBounds_toArray, List.set_cons_zero, List.set_cons_succ]; refine RS_take (i := 4) rfl (by decide +kernel) (fun _ _ _ h => h) (by first | (intro x hx; (repeat (first | exact hx | apply mS)); done) | ((repeat (refine List.forall_mem_cons.2 ⟨(by (repeat (first | assumption | (with_reducible exact mZ) | apply mS)); first | done | fail), ?_⟩)); intro x hx; first | (cases hx; done) | ((repeat (first | exact hx | apply mS)); done))) (stab_pure (by rfl) (fun w => (by go_simp; try with_reducible rfl))) ?_; simp only [Act.put, List.setIfInBounds_toArray, List.set_cons_zero, List.set_cons_succ]; refine RS_one (i := 7) (by decide +kernel) rfl (by rfl) (.inl (by first | (intro x hx; (repeat (first | exact hx | apply mS)); done) | ((repeat (refine List.forall_mem_cons.2 ⟨(by (repeat (first | assumption | (with_reducible exact mZ) | apply mS)); first | done | fail), ?_⟩)); intro x hx; first | (cases hx; done) | ((repeat (first | exact hx | apply mS)); done)))) (fun w K hM0 hK => ?_); refine ws_entry_store (key := idv id) (v := iv64 1) hM0 rfl rfl rfl rfl (by (repeat (first | (with_reducible exact Take.head) | apply Take.tail)); first | done | fail) (fun w hM => hK _ _ _ hM ?_); clear hM hM0 hK K; simp only [Act.put, List.setIfInBounds_toArray, List.set_cons_zero, List.set_cons_succ]; refine RS_done (by decide +kernel) (.inl (by first | (intro x hx; (repeat (first | exact hx | apply mS)); done) | ((repeat (refine List.forall_mem_cons.2 ⟨(by (repeat (first | assumption | (with_reducible exact mZ) | apply mS)); first | done | fail), ?_⟩)); intro x hx; first | (cases hx; done) | ((repeat (first | exact hx | apply mS)); done)))) (fun w hM => ?_))); rotate_right 1; (focus (refine RS_way (i := 3) rfl (by rfl) (fun w K hM0 hK => ?_); refine ws_of_ex (by first | exact ex_miss1 (key := idv id) hM0 rfl Try.underlying68 zero_intD rfl rfl (by (repeat (first | assumption | (with_reducible exact mZ) | apply mS)); first | done | fail) keyed_id HK.out HMS.out | exact ex_hit1 (key := idv id) (pend_map (key := idv id) (old := .int .i64 0) (m := atv sm) hM0 (by (repeat (first | assumption | (with_reducible exact mZ) | apply mS)); first | done | fail)) rfl Try.underlying68 rfl rfl List.mem_cons_self keyed_id HK.out List.mem_cons_self) (hK _ _ _ hM0 ?_); clear hM0 hK K; simp only [Act.put, List.setIfInBounds_toArray, List.set_cons_zero, List.set_cons_succ]; refine RS_take (i := 4) rfl (by decide +kernel) (fun _ _ _ h => h) (by first | (intro x hx; (repeat (first | exact hx | apply mS)); done) | ((repeat (refine List.forall_mem_cons.2 ⟨(by (repeat (first | assumption | (with_reducible exact mZ) | apply mS)); first | done | fail), ?_⟩)); intro x hx; first | (cases hx; done) | ((repeat (first | exact hx | apply mS)); done))) (stab_pure (by rfl) (fun w => (by go_simp; try with_reducible rfl))) ?_; simp only [Act.put, List.setIfInBounds_toArray, List.set_cons_zero, List.set_cons_succ]; refine RS_one (i := 5) (by decide +kernel) rfl (by rfl) (.inl (by first | (intro x hx; (repeat (first | exact hx | apply mS)); done) | ((repeat (refine List.forall_mem_cons.2 ⟨(by (repeat (first | assumption | (with_reducible exact mZ) | apply mS)); first | done | fail), ?_⟩)); intro x hx; first | (cases hx; done) | ((repeat (first | exact hx | apply mS)); done)))) (fun w K hM0 hK => ?_); refine ws_entry_new (key := idv id) hM0 rfl Try.underlying68 zero_intD rfl rfl (by (repeat (first | (with_reducible exact Take.head) | apply Take.tail)); first | done | fail) keyed_id HK.out HMS.out (fun st w hM => hK _ _ _ hM ?_); clear hM hM0 hK K; simp only [Act.put, List.setIfInBounds_toArray, List.set_cons_zero, List.set_cons_succ]; refine RS_take (i := 6) rfl (by decide +kernel) (fun _ _ _ h => h) (by first | (intro x hx; (repeat (first | exact hx | apply mS)); done) | ((repeat (refine List.forall_mem_cons.2 ⟨(by (repeat (first | assumption | (with_reducible exact mZ) | apply mS)); first | done | fail), ?_⟩)); intro x hx; first | (cases hx; done) | ((repeat (first | exact hx | apply mS)); done))) (stab_pure (by rfl) (fun w => (by go_simp; try with_reducible rfl))) ?_; simp only [Act.put, List.setIfInBounds_toArray, List.set_cons_zero, List.set_cons_succ]; refine RS_one (i := 7) (by decide +kernel) rfl (by rfl) (.inl (by first | (intro x hx; (repeat (first | exact hx | apply mS)); done) | ((repeat (refine List.forall_mem_cons.2 ⟨(by (repeat (first | assumption | (with_reducible exact mZ) | apply mS)); first | done | fail), ?_⟩)); intro x hx; first | (cases hx; done) | ((repeat (first | exact hx | apply mS)); done)))) (fun w K hM0 hK => ?_); refine ws_entry_store (key := idv id) (v := iv64 1) hM0 rfl rfl rfl rfl (by (repeat (first | (with_reducible exact Take.head) | apply Take.tail)); first | done | fail) (fun w hM => hK _ _ _ hM ?_); clear hM hM0 hK K; simp only [Act.put, List.setIfInBounds_toArray, List.set_cons_zero, List.set_cons_succ]; refine RS_done (by decide +kernel) (.inl (by first | (intro x hx; (repeat (first | exact hx | apply mS)); done) | ((repeat (refine List.forall_mem_cons.2 ⟨(by (repeat (first | assumption | (with_reducible exact mZ) | apply mS)); first | done | fail), ?_⟩)); intro x hx; first | (cases hx; done) | ((repeat (first | exact hx | apply mS)); done)))) (fun w hM => ?_))))
          all_goals
            replace hM : Star (amE gs sm3 :: cellsE g8 75 o.toArray :: dpE B d gm D h ts :: R) w := by rw [HS3.out]; exact hM
            go_wp2_with (first | ((with_reducible refine at_load' ?_); refine BigFrame.wpList_want (by rfl) fun K hK => ws_load_mid hM rfl rfl (by (repeat (first | assumption | (with_reducible exact mZ) | apply mS)); first | done | fail) (bvs id) HID.out (n := 32) (by rw [bvs_len]; exact HIL.out) (by decide +kernel) (hK _ _ ?_); clear hK K) | ((with_reducible refine at_lookup' ?_); refine BigFrame.wpList_want (by rfl) fun K hK => ws_of_ex (ex_hit1 (key := idv id) hM rfl Try.underlying68 rfl rfl (by (repeat (first | assumption | (with_reducible exact mZ) | apply mS)); first | done | fail) keyed_id HK.out HH2.out) (hK _ _ ?_); clear hK K) | (first | ((with_reducible refine at_slice' ?_); (have hM0 := hM; clear hM; refine BigFrame.wpList_want (by rfl) fun K hK => ws_slice_row hM0 (n := 1) rfl 73 32 (.agg (bvs z32).toArray) [.agg (bvs id).toArray] Try.underlying76 (by kernel_rfl) rfl (by simp [Value.cells, iv, sv, bv, bvs_len, HIL.out]) (by rfl) (by decide) (cs := idvs [id]) (by rfl) (fun g45 w hM => hK _ _ ?_); clear hM0 hK K)) | fail) | (go_at_call 33; have hM0 := hM; clear hM; (first | (with_reducible refine (HHAS.out _ _ g45 _ hM0 (by (repeat (first | (with_reducible exact Take.head) | apply Take.tail)); first | done | fail) (by (repeat (first | assumption | (with_reducible exact mZ) | apply mS)); first | done | fail)).mono ?_) | fail); clear hM0; rintro _ w ⟨rfl, hM⟩) | (first | ((with_reducible refine at_load' ?_); (refine BigFrame.wpList_want (by rfl) fun K hK => ws_load1 hM rfl rfl (by (repeat (first | assumption | (with_reducible exact mZ) | apply mS)); first | done | fail) (by exact H33.out) (by decide +kernel) (hK _ _ ?_); clear hK K)) | fail) | (go_at_call 21; have hM0 := hM; clear hM; (first | (with_reducible refine (HCO.out _ _ hM0).mono ?_) | fail); clear hM0; rintro _ w ⟨rfl, hM⟩))
            go_roundw
            case rel => exact ⟨j + 1, q + cc, sm3, by omega, by omega, by go_num, by go_num, by rw [HT.out, HPS.out]; exact HQ2, by rw [HS3.out]; exact new_iff HSM2.out, by rw [HS3.out]; exact new_ct HCT.out, hM.sel (by repeat (first | (with_reducible exact Sel.refl) | (with_reducible exact Take.head) | (with_reducible apply Take.tail) | (with_reducible apply Sel.cons) | (with_reducible apply Sel.drop)))⟩
            case measure => simp [intOf]; omega
    · obtain rfl : n = j := by omega
      go_wp2_with fail
      go_ret
      have ht : xs.take n = xs := List.take_of_length_le (by rw [HL.out]; omega)
      rw [ht] at HQ
      exact ⟨q, HQ, rfl, hM.sel (by repeat (first | (with_reducible exact Sel.refl) | (with_reducible exact Take.head) | (with_reducible apply Take.tail) | (with_reducible apply Sel.cons) | (with_reducible apply Sel.drop)))⟩
end
end Go.Proofs.Ytnckgkgilnmocaa
set_option linter.unusedSimpArgs false
set_option linter.unusedVariables false
namespace Go.Proofs.Ytnckgkgilnmocaa
open Go.RowKit
attribute [local go_sem] extract_mid extract_drop bget bsize wrap64_u8 i64_u8 u64_u8 bappend
section
variable {F L R : List SProp} {B : BA} {d gm h N : Nat} {D : Dsk} {ts : List Tx}
set_option maxRecDepth 100000 in
set_option maxHeartbeats 16000000 in
theorem spoilt_u (V : Hid (Live N D h 1 0 (recs ts))) (h150 : ∀ x ∈ ts, x.length ≤ 150) (hl : ts.length ≤ 12) (w : World) (hM : Star L w) (hd : Take (dpE B d gm D h ts) L R) :
    Calls Try.prog 30 #[bptr d] w fun r w' => ∃ D', Hid (Live N D' h 1 0 (recs ts)) ∧ r = .returned (.slice none 0 0) ∧ Star (dpE B d gm D' h ts :: R) w' := by
  have HLI : Hid (∀ (L R : List SProp) (w : World), Star L w → Take (dpE B d gm D h ts) L R → Calls Try.prog 29 #[bptr d] w fun r w' => ∃ A c xs, xs.Perm (ts.map (onm 1)) ∧ r = .returned (.slice A ts.length c) ∧ Star (rowE 32 A ts.length (idvs xs) :: dpE B d gm D h ts :: R) w') := fun L R w hM hd => list_u hl w hM hd
  have HGE : Hid (∀ (D : Dsk) (V : Hid (Live N D h 1 0 (recs ts))) (n : List UInt8) (hn : Hid (n ∈ ts.map (onm 1))) (L R : List SProp) (w : World), Star L w → Take (dpE B d gm D h ts) L R → Calls Try.prog 53 #[bptr d, .agg (bvs n).toArray] w fun r w' => ∃ D' x, Hid (Live N D' h 1 0 (recs ts)) ∧ Hid (x ∈ ts ∧ onm 1 x = n) ∧ r = .returned (.tuple #[.agg (ocs (mo x)).toArray, .int .i64 0]) ∧ Star (dpE B d gm D' h ts :: R) w') := fun D V n hn L R w hM hd => get_p (x := []) V h150 hn.out w hM hd
  replace hM := hM.take hd
  generalize hq : ts.length = q at HLI hl
  have HOS0 : Hid ((ocs (0, z32, [])).toArray.size = 34) := ocs_sz oz32
  have HTS := Lib.hid hq
  clear hd h150 hq
  go_enter Try.func30, Try.ntmps30
  go_wp2_with (first | (go_at_call 29; have hM0 := hM; clear hM; (first | (with_reducible refine (HLI.out _ _ _ hM0 (by (repeat (first | (with_reducible exact Take.head) | apply Take.tail)); first | done | fail)).mono ?_) | fail); clear hM0; rintro _ w ⟨A, c, xs, hp, rfl, hM⟩))
  have hperm := Lib.hid hp
  have h32 : ∀ x ∈ xs, x.length = 32 := fun x hx => by
    obtain ⟨y, -, rfl⟩ := List.mem_map.1 (hp.mem_iff.1 hx)
    exact onm_len 1 y
  have H32 := Lib.hid h32
  clear hp h32
  go_loopw [11, 3] (fun i s wr => ∃ (j : Nat) (D' : Dsk), j ≤ q ∧ i = .int .i64 j ∧ s = .slice none 0 0 ∧ Hid (Live N D' h 1 0 (recs ts)) ∧ Star (rowE 32 A q (idvs xs) :: dpE B d gm D' h ts :: R) wr) (fun i _ _ => q - (intOf i).toNat)
  case atStart => exact ⟨0, D, Nat.zero_le _, rfl, rfl, V, hM⟩
  case round =>
    clear hM V
    obtain ⟨j, D1, hj, rfl, rfl, V, hM⟩ := hrel
    by_cases hlt : j < q
    · obtain ⟨ad, x, rfl, hc, hgx, -⟩ := Rd.elems (f := bvs) (hM.row (A := A) (n := q) (xs := idvs xs) (by (repeat (first | assumption | (with_reducible exact mZ) | apply mS)); first | done | fail)) (fun x hx => by rw [bvs_len, H32.out x hx]) (by omega) hlt
      have hxm := List.mem_of_getElem? hgx
      have HX := Lib.hid (H32.out x hxm)
      have HXM := Lib.hid (hperm.out.mem_iff.1 hxm)
      clear hgx hxm
      go_wp2_with (first | ((with_reducible refine at_load' ?_); refine wpList_plain rfl fun K hK => ws_load_at rfl rfl (bvs x) hc (n := 32) (by rw [bvs_len]; exact HX.out) (by kernel_rfl) (hK _ _ ?_); clear hK K) | (first | ((with_reducible refine at_alloc' ?_); (have hM0 := hM; clear hM; refine BigFrame.wpList_want (by rfl) fun K hK => ws_alloc hM0 (t := 73) rfl (bvs z32).toArray info_idB (fun g5 w hM => hK _ _ ?_); clear hM0 hK K)) | fail) | (first | ((with_reducible refine at_store' ?_); (have hM0 := hM; clear hM; refine BigFrame.wpList_want (by rfl) fun K hK => ws_store hM0 rfl rfl rfl (by (repeat (first | (with_reducible exact Take.head) | apply Take.tail)); first | done | fail) (n := 32) (by (show (bvs x).toArray.size = 32; simp [bvs_len, HX.out])) (by simp [bvs_len, z32_len]) (by kernel_rfl) (by (show ∀ v ∈ (bvs x).toArray.toList, v.oneCell' = true; simpa using bvs_oneCell x)) (fun w hM => hK _ _ ?_); clear hM0 hK K)) | fail) | ((with_reducible refine at_load' ?_); refine BigFrame.wpList_want (by rfl) fun K hK => ws_load hM rfl rfl (by (repeat (first | assumption | (with_reducible exact mZ) | apply mS)); first | done | fail) (n := 32) (by show (bvs x).toArray.size = 32; simp [bvs_len, HX.out]) (by decide +kernel) (hK _ _ ?_); clear hK K) | (go_at_call 53; have hM0 := hM; clear hM; (first | (with_reducible refine (HGE.out D1 V x HXM _ _ _ hM0 (by (repeat (first | (with_reducible exact Take.head) | apply Take.tail)); first | done | fail)).mono ?_) | fail); clear hM0; rintro _ w ⟨D2, y, V2, hy, rfl, hM⟩) | (first | ((with_reducible refine at_alloc' ?_); (have hM0 := hM; clear hM; refine BigFrame.wpList_want (by rfl) fun K hK => ws_alloc hM0 (t := 75) rfl (ocs (0, z32, [])).toArray info_ob (fun g6 w hM => hK _ _ ?_); clear hM0 hK K)) | fail) | (first | ((with_reducible refine at_store' ?_); (have hM0 := hM; clear hM; refine BigFrame.wpList_want (by rfl) fun K hK => ws_store hM0 rfl rfl rfl (by (repeat (first | (with_reducible exact Take.head) | apply Take.tail)); first | done | fail) (n := 34) (by (exact ocs_sz (onm_len 1 y))) (by exact HOS0.out) (by kernel_rfl) (by exact ocs_oneA _) (fun w hM => hK _ _ ?_); clear hM0 hK K)) | fail))
      go_roundw
      case rel => exact ⟨j + 1, D2, by omega, by go_num, rfl, V2, hM.sel (by repeat (first | (with_reducible exact Sel.refl) | (with_reducible exact Take.head) | (with_reducible apply Take.tail) | (with_reducible apply Sel.cons) | (with_reducible apply Sel.drop)))⟩
      case measure => simp [intOf]; omega
    · obtain rfl : q = j := by omega
      go_wp2_with fail
      go_ret
      exact ⟨D1, V, rfl, hM.sel (by repeat (first | (with_reducible exact Sel.refl) | (with_reducible exact Take.head) | (with_reducible apply Take.tail) | (with_reducible apply Sel.cons) | (with_reducible apply Sel.drop)))⟩
end
end Go.Proofs.Ytnckgkgilnmocaa
