/- The walks of package oid's Bytes, Xor, Shared, Compare, Closer. No condition but that names have 32 bytes. -/
import Derived.Test.YthjceppddmecdaaOidP
set_option linter.unusedSimpArgs false
set_option linter.unusedVariables false
namespace Go.Proofs.Ythjceppddmecdaa
open Go.RowKit
attribute [local go_sem] extract_mid extract_drop bget bsize wrap64_u8 i64_u8 u64_u8 bappend
theorem bxor8 (x y : UInt8) : bits BinOp.xor IntKind.u8 (x.toNat : Int) (y.toNat : Int) = ((x ^^^ y).toNat : Int) := by
  have h1 := x.toNat_lt
  have h2 := y.toNat_lt
  rw [u8_xor_nat x.toNat y.toNat (by omega) (by omega), UInt8.toNat_xor]
attribute [local go_sem] bxor8
theorem row_set (X a : List UInt8) (k : Nat) (d : UInt8) (hl : X.length = a.length) (hk : k < a.length) (hd : X[k]? = some d) :
    (bvs (X.take k ++ a.drop k)).toArray.setIfInBounds k (.int .u8 (d.toNat : Int)) = (bvs (X.take (k + 1) ++ a.drop (k + 1))).toArray := by
  rw [List.drop_eq_getElem_cons hk, take_snoc_at _ _ _ hd, List.setIfInBounds_toArray]
  congr 1
  have hlk : (X.take k).length = k := by simp; omega
  simp only [bvs, List.map_append, List.map_cons, List.map_nil, List.append_assoc, List.cons_append, List.nil_append]
  rw [List.set_append, if_neg (by simp; omega), List.length_map, hlk, Nat.sub_self]
  rfl
theorem row_at (X a : List UInt8) (k : Nat) (x : UInt8) (hl : X.length = a.length) (hx : a[k]? = some x) : (bvs (X.take k ++ a.drop k)).toArray[k]? = some (.int .u8 (x.toNat : Int)) := by
  have hk := (List.getElem?_eq_some_iff.1 hx).1
  have hlk : (X.take k).length = k := by simp; omega
  have h : (X.take k ++ a.drop k)[k]? = some x := by rw [List.getElem?_append_right (by omega), hlk, Nat.sub_self, List.getElem?_drop]; simpa using hx
  simpa using bvs_at h
set_option maxRecDepth 100000 in
theorem obytes_star {F : List SProp} (l : List UInt8) (hl : l.length = 32) (w : World) (hM : Star F w) :
    Calls Try.prog 14 #[.agg (bvs l).toArray] w fun r w' => r = .returned (.string ⟨l.toArray⟩) ∧ Star F w' := by
  go_enter Try.func14, Try.ntmps14
  go_wp2_with (first | (first | (have hM0 := hM; clear hM; refine BigFrame.wpList_want (by rfl) fun K hK => ws_box hM0 rfl rfl (cs := (bvs l).toArray) rfl (fun g1 w hM => hK _ _ ?_); clear hM0 hK K) | fail) | (first | (refine BigFrame.wpList_want (by rfl) fun K hK => ws_string (l := l) rfl 5 Try.underlying63 Try.underlying9 Try.underlying5 rfl (by first | (apply Star.row hM; (repeat (first | assumption | (with_reducible exact List.mem_cons_self) | apply List.mem_cons_of_mem)); done) | (apply Star.own hM; (repeat (first | assumption | (with_reducible exact List.mem_cons_self) | apply List.mem_cons_of_mem)); done) | (apply Star.arr hM; (focus ((repeat (first | assumption | (with_reducible exact List.mem_cons_self) | apply List.mem_cons_of_mem)); done)); assumption)) (hK _ _ ?_); clear hK K) | fail))
  go_ret
  exact ⟨rfl, hM.sel (by repeat (first | (with_reducible exact Sel.refl) | (with_reducible exact Take.head) | (with_reducible apply Take.tail) | (with_reducible apply Sel.cons) | (with_reducible apply Sel.drop)))⟩
set_option maxRecDepth 100000 in
set_option maxHeartbeats 2000000 in
theorem xor_star {F : List SProp} (a b : List UInt8) (ha : a.length = 32) (hb : b.length = 32) (w : World) (hM : Star F w) :
    Calls Try.prog 16 #[.agg (bvs a).toArray, .agg (bvs b).toArray] w fun r w' => r = .returned (.agg (bvs (xorL a b)).toArray) ∧ Star F w' := by
  obtain ⟨X, hX⟩ : ∃ X, X = xorL a b := ⟨_, rfl⟩
  have HX := Lib.hid hX
  have HXL : Hid (X.length = a.length) := by show _ = _; rw [hX, xorL_len a b (by omega)]
  have HA := Lib.hid ha
  have HB := Lib.hid hb
  have HX32 : Hid (X.length = 32) := by show _ = _; rw [HXL.out, ha]
  rw [← hX]
  clear hX ha hb
  go_enter Try.func16, Try.ntmps16
  go_wp2_with (first | (first | (have hM0 := hM; clear hM; refine BigFrame.wpList_want (by rfl) fun K hK => ws_box hM0 rfl rfl (cs := (bvs a).toArray) rfl (fun g2 w hM => hK _ _ ?_); clear hM0 hK K) | fail) | (first | (have hM0 := hM; clear hM; refine BigFrame.wpList_want (by rfl) fun K hK => ws_box hM0 rfl rfl (cs := (bvs b).toArray) rfl (fun g3 w hM => hK _ _ ?_); clear hM0 hK K) | fail) | (first | (have hM0 := hM; clear hM; refine BigFrame.wpList_want (by rfl) fun K hK => ws_alloc hM0 (t := 23) rfl (bvs z32).toArray info_id (fun g4 w hM => hK _ _ ?_); clear hM0 hK K) | fail))
  go_loopw [6] (fun i wr => ∃ k : Nat, k ≤ 32 ∧ i = .int .i64 k ∧ Star (cellsE g2 23 (bvs (X.take k ++ a.drop k)).toArray :: cellsE g3 23 (bvs b).toArray :: cellsE g4 23 (bvs z32).toArray :: F) wr) (fun i _ => 32 - (intOf i).toNat)
  case atStart => exact ⟨0, by omega, rfl, by rw [List.take_zero, List.drop_zero, List.nil_append]; exact hM.sel (by repeat (first | (with_reducible exact Sel.refl) | (with_reducible exact Take.head) | (with_reducible apply Take.tail) | (with_reducible apply Sel.cons) | (with_reducible apply Sel.drop)))⟩
  case round =>
    clear hM
    obtain ⟨k, hk, rfl, hM⟩ := hrel
    by_cases hlt : k < 32
    · obtain ⟨x, hx⟩ : ∃ x, a[k]? = some x := ⟨_, List.getElem?_eq_getElem (by rw [HA.out]; exact hlt)⟩
      obtain ⟨y, hy⟩ : ∃ y, b[k]? = some y := ⟨_, List.getElem?_eq_getElem (by rw [HB.out]; exact hlt)⟩
      have hva := row_at X a k x HXL.out hx
      have hvb : (bvs b).toArray[k]? = some (.int .u8 (y.toNat : Int)) := by simpa using bvs_at hy
      have HS := Lib.hid (row_set X a k (x ^^^ y) HXL.out (by rw [HA.out]; exact hlt) (by rw [HX.out]; exact xorL_at hx hy))
      have hsz : k < (bvs (X.take k ++ a.drop k)).toArray.size := by simp [bvs_len, HXL.out, HA.out]; omega
      clear hx hy
      go_wp2_with fail
      (refine region_RS ([cellsE g2 23 (bvs (X.take k ++ a.drop k)).toArray, cellsE g3 23 (bvs b).toArray]) [8] (by kernel_rfl) hM ?_; clear hM; change RS _ _ _ _ _ _ 9 (Array.replicate 9 false) _ _; refine RS_take (i := 0) rfl (by decide +kernel) (fun _ _ _ h => h) (by first | (intro x hx; (repeat (first | exact hx | apply List.mem_cons_of_mem)); done) | ((repeat (refine List.forall_mem_cons.2 ⟨(by (repeat (first | assumption | (with_reducible exact List.mem_cons_self) | apply List.mem_cons_of_mem)); first | done | fail), ?_⟩)); intro x hx; first | (cases hx; done) | ((repeat (first | exact hx | apply List.mem_cons_of_mem)); done))) (stab_pure (by rfl) (fun w => (by go_simp; try with_reducible rfl))) ?_; simp only [Act.put, List.setIfInBounds_toArray, List.set_cons_zero, List.set_cons_succ]; refine RS_take (i := 1) rfl (by decide +kernel) (fun _ _ _ h => h) (by first | (intro x hx; (repeat (first | exact hx | apply List.mem_cons_of_mem)); done) | ((repeat (refine List.forall_mem_cons.2 ⟨(by (repeat (first | assumption | (with_reducible exact List.mem_cons_self) | apply List.mem_cons_of_mem)); first | done | fail), ?_⟩)); intro x hx; first | (cases hx; done) | ((repeat (first | exact hx | apply List.mem_cons_of_mem)); done))) (stab_pure (by rfl) (fun w => (by go_simp; try with_reducible rfl))) ?_; simp only [Act.put, List.setIfInBounds_toArray, List.set_cons_zero, List.set_cons_succ]; refine RS_take (i := 2) rfl (by decide +kernel) (fun _ _ _ h => h) (by first | (intro x hx; (repeat (first | exact hx | apply List.mem_cons_of_mem)); done) | ((repeat (refine List.forall_mem_cons.2 ⟨(by (repeat (first | assumption | (with_reducible exact List.mem_cons_self) | apply List.mem_cons_of_mem)); first | done | fail), ?_⟩)); intro x hx; first | (cases hx; done) | ((repeat (first | exact hx | apply List.mem_cons_of_mem)); done))) (stab_read (by rfl) (fun L w hL hM => (ex_load1 hM rfl rfl (hL _ (by (repeat (first | assumption | (with_reducible exact List.mem_cons_self) | apply List.mem_cons_of_mem)); first | done | fail)) hva (by decide +kernel)))) ?_; simp only [Act.put, List.setIfInBounds_toArray, List.set_cons_zero, List.set_cons_succ]; refine RS_take (i := 3) rfl (by decide +kernel) (fun _ _ _ h => h) (by first | (intro x hx; (repeat (first | exact hx | apply List.mem_cons_of_mem)); done) | ((repeat (refine List.forall_mem_cons.2 ⟨(by (repeat (first | assumption | (with_reducible exact List.mem_cons_self) | apply List.mem_cons_of_mem)); first | done | fail), ?_⟩)); intro x hx; first | (cases hx; done) | ((repeat (first | exact hx | apply List.mem_cons_of_mem)); done))) (stab_pure (by rfl) (fun w => (by go_simp; try with_reducible rfl))) ?_; simp only [Act.put, List.setIfInBounds_toArray, List.set_cons_zero, List.set_cons_succ]; refine RS_take (i := 4) rfl (by decide +kernel) (fun _ _ _ h => h) (by first | (intro x hx; (repeat (first | exact hx | apply List.mem_cons_of_mem)); done) | ((repeat (refine List.forall_mem_cons.2 ⟨(by (repeat (first | assumption | (with_reducible exact List.mem_cons_self) | apply List.mem_cons_of_mem)); first | done | fail), ?_⟩)); intro x hx; first | (cases hx; done) | ((repeat (first | exact hx | apply List.mem_cons_of_mem)); done))) (stab_pure (by rfl) (fun w => (by go_simp; try with_reducible rfl))) ?_; simp only [Act.put, List.setIfInBounds_toArray, List.set_cons_zero, List.set_cons_succ]; refine RS_take (i := 5) rfl (by decide +kernel) (fun _ _ _ h => h) (by first | (intro x hx; (repeat (first | exact hx | apply List.mem_cons_of_mem)); done) | ((repeat (refine List.forall_mem_cons.2 ⟨(by (repeat (first | assumption | (with_reducible exact List.mem_cons_self) | apply List.mem_cons_of_mem)); first | done | fail), ?_⟩)); intro x hx; first | (cases hx; done) | ((repeat (first | exact hx | apply List.mem_cons_of_mem)); done))) (stab_read (by rfl) (fun L w hL hM => (ex_load1 hM rfl rfl (hL _ (by (repeat (first | assumption | (with_reducible exact List.mem_cons_self) | apply List.mem_cons_of_mem)); first | done | fail)) hvb (by decide +kernel)))) ?_; simp only [Act.put, List.setIfInBounds_toArray, List.set_cons_zero, List.set_cons_succ]; refine RS_take (i := 6) rfl (by decide +kernel) (fun _ _ _ h => h) (by first | (intro x hx; (repeat (first | exact hx | apply List.mem_cons_of_mem)); done) | ((repeat (refine List.forall_mem_cons.2 ⟨(by (repeat (first | assumption | (with_reducible exact List.mem_cons_self) | apply List.mem_cons_of_mem)); first | done | fail), ?_⟩)); intro x hx; first | (cases hx; done) | ((repeat (first | exact hx | apply List.mem_cons_of_mem)); done))) (stab_pure (by rfl) (fun w => (by go_simp; try with_reducible rfl))) ?_; simp only [Act.put, List.setIfInBounds_toArray, List.set_cons_zero, List.set_cons_succ]; refine RS_take (i := 7) rfl (by decide +kernel) (fun _ _ _ h => h) (by first | (intro x hx; (repeat (first | exact hx | apply List.mem_cons_of_mem)); done) | ((repeat (refine List.forall_mem_cons.2 ⟨(by (repeat (first | assumption | (with_reducible exact List.mem_cons_self) | apply List.mem_cons_of_mem)); first | done | fail), ?_⟩)); intro x hx; first | (cases hx; done) | ((repeat (first | exact hx | apply List.mem_cons_of_mem)); done))) (stab_pure (by rfl) (fun w => (by go_simp; try with_reducible rfl))) ?_; simp only [Act.put, List.setIfInBounds_toArray, List.set_cons_zero, List.set_cons_succ]; refine RS_one (i := 8) (by decide +kernel) rfl (by rfl) (.inl (by first | (intro x hx; (repeat (first | exact hx | apply List.mem_cons_of_mem)); done) | ((repeat (refine List.forall_mem_cons.2 ⟨(by (repeat (first | assumption | (with_reducible exact List.mem_cons_self) | apply List.mem_cons_of_mem)); first | done | fail), ?_⟩)); intro x hx; first | (cases hx; done) | ((repeat (first | exact hx | apply List.mem_cons_of_mem)); done)))) (fun w K hM0 hK => ?_); refine ws_store1 hM0 rfl rfl (by go_simp; rfl) (by first | rfl | assumption) (by (repeat (first | (with_reducible exact Take.head) | apply Take.tail)); first | done | fail) (by exact hsz) (by kernel_rfl) (by exact HS.out) (fun w hM => hK _ _ _ hM ?_); clear hM hM0 hK K; simp only [Act.put, List.setIfInBounds_toArray, List.set_cons_zero, List.set_cons_succ]; refine RS_done (by decide +kernel) (.inr (by decide +kernel)) (fun w hM => ?_))
      go_wp2
      go_roundw
      case rel => exact ⟨k + 1, by omega, by go_num, hM⟩
      case measure => simp [intOf]; omega
    · obtain rfl : k = 32 := by omega
      rw [List.take_of_length_le (by rw [HX32.out]; omega), List.drop_of_length_le (by rw [HA.out]; omega), List.append_nil] at hM
      go_wp2_with (first | (first | (refine BigFrame.wpList_want (by rfl) fun K hK => ws_load hM rfl rfl (by (repeat (first | assumption | (with_reducible exact List.mem_cons_self) | apply List.mem_cons_of_mem)); first | done | fail) (n := 32) (by simp [bvs_len, HX32.out]) (by decide +kernel) (hK _ _ ?_); clear hK K) | fail) | (first | (have hM0 := hM; clear hM; refine BigFrame.wpList_want (by rfl) fun K hK => ws_store hM0 rfl rfl rfl (by (repeat (first | (with_reducible exact Take.head) | apply Take.tail)); first | done | fail) (n := 32) (by simp [bvs_len, HX32.out]) (by simp [bvs_len, z32_len]) (by kernel_rfl) (by simpa using bvs_oneCell _) (fun w hM => hK _ _ ?_); clear hM0 hK K) | fail))
      exact bodyPost_ret (results_cell_row rfl _ _ g4 23 (bvs X).toArray (0, 0) _ rfl (hM.blk (by (repeat (first | assumption | (with_reducible exact List.mem_cons_self) | apply List.mem_cons_of_mem)); first | done | fail)) Try.underlying23 rfl (by rw [info_idn]; simp [bvs_len, HX32.out])) rfl ⟨rfl, hM.sel (by repeat (first | (with_reducible exact Sel.refl) | (with_reducible exact Take.head) | (with_reducible apply Take.tail) | (with_reducible apply Sel.cons) | (with_reducible apply Sel.drop)))⟩
end Go.Proofs.Ythjceppddmecdaa
