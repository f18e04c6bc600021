/- The law's functions same and names of layer 4. No condition but sizes. -/
import Derived.Test.YtbnencchfgnbjaaBaleS
import Derived.Test.YtbnencchfgnbjaaArrEq
set_option linter.unusedSimpArgs false
set_option linter.unusedVariables false
namespace Go.Proofs.Ytbnencchfgnbjaa
open Go.RowKit
attribute [local go_sem] extract_mid extract_drop bget bsize wrap64_u8 i64_u8 u64_u8 bappend
theorem take_all_eq {α : Type} {l m : List α} (h : l.take l.length = m.take l.length) (hl : l.length = m.length) : l = m := by
  rw [List.take_length, hl, List.take_length] at h; exact h
set_option maxRecDepth 100000 in
set_option maxHeartbeats 2000000 in
theorem same_star {F : List SProp} (xs ys : List (List UInt8)) (hx : ids32 xs) (hy : ids32 ys) (A B : Option Addr) (n c m d : Nat) (hn : n ≤ 1000000000) (hm : m ≤ 1000000000) (w : World) (hM : Star F w) (h1 : rowE 32 A n (idvs xs) ∈ F) (h2 : rowE 32 B m (idvs ys) ∈ F) :
    Calls Try.prog 43 #[.slice A n c, .slice B m d] w fun r w' => r = .returned (.bool (decide (xs = ys))) ∧ Star F w' := by
  have k1 := idvs_row (hM.row h1) hx
  have k2 := idvs_row (hM.row h2) hy
  have K1 := Lib.hid k1
  have K2 := Lib.hid k2
  have X32 := Lib.hid hx
  have Y32 := Lib.hid hy
  clear k1 k2 hx hy
  by_cases hnm : n = m
  · subst hnm
    go_enter Try.func43, Try.ntmps43
    go_wp2_with fail
    go_loopw [13] (fun i wr => ∃ k : Nat, k ≤ n ∧ i = .int .i64 k ∧ Hid (xs.take k = ys.take k) ∧ Star F wr) (fun i _ => n - (intOf i).toNat)
    case atStart => exact ⟨0, by omega, rfl, rfl, hM⟩
    case round =>
      clear hM
      obtain ⟨k, hk, rfl, hT, hM⟩ := hrel
      by_cases hlt : k < n
      · obtain ⟨ad, x, rfl, hv, hg, ht⟩ := hM.elemIDs h1 X32.out hlt
        obtain ⟨ad2, y, rfl, hv2, hg2, ht2⟩ := hM.elemIDs h2 Y32.out hlt
        have x32 : (bvs x).length = 32 := by rw [bvs_len]; exact X32.out x (List.mem_of_getElem? hg)
        have y32 : (bvs y).length = 32 := by rw [bvs_len]; exact Y32.out y (List.mem_of_getElem? hg2)
        have x32b : x.length = 32 := X32.out x (List.mem_of_getElem? hg)
        have y32b : y.length = 32 := Y32.out y (List.mem_of_getElem? hg2)
        have HG := Lib.hid hg
        have HG2 := Lib.hid hg2
        have HT := Lib.hid ht
        have HT2 := Lib.hid ht2
        clear ht ht2 hg hg2
        by_cases hxy : x = y
        · subst hxy
          go_wp2_with fail
          (refine region_RS ([rowE 32 (some ad) n (idvs xs), rowE 32 (some ad2) n (idvs ys)]) [] (by kernel_rfl) hM ?_; clear hM; change RS _ _ _ _ _ _ 9 (Array.replicate 9 false) _ _; refine RS_take (i := 0) rfl (by decide +kernel) (fun _ _ _ h => h) (by first | (intro x hx; (repeat (first | exact hx | apply List.mem_cons_of_mem)); done) | ((repeat (refine List.forall_mem_cons.2 ⟨(by (repeat (first | assumption | (with_reducible exact List.mem_cons_self) | apply List.mem_cons_of_mem)); first | done | fail), ?_⟩)); intro x hx; first | (cases hx; done) | ((repeat (first | exact hx | apply List.mem_cons_of_mem)); done))) (stab_pure (by rfl) (fun w => (by go_simp; try with_reducible rfl))) ?_; simp only [Act.put, List.setIfInBounds_toArray, List.set_cons_zero, List.set_cons_succ]; refine RS_take (i := 1) rfl (by decide +kernel) (fun _ _ _ h => h) (by first | (intro x hx; (repeat (first | exact hx | apply List.mem_cons_of_mem)); done) | ((repeat (refine List.forall_mem_cons.2 ⟨(by (repeat (first | assumption | (with_reducible exact List.mem_cons_self) | apply List.mem_cons_of_mem)); first | done | fail), ?_⟩)); intro x hx; first | (cases hx; done) | ((repeat (first | exact hx | apply List.mem_cons_of_mem)); done))) (stab_pure (by rfl) (fun w => (by go_simp; try with_reducible rfl))) ?_; simp only [Act.put, List.setIfInBounds_toArray, List.set_cons_zero, List.set_cons_succ]; refine RS_take (i := 2) rfl (by decide +kernel) (fun _ _ _ h => h) (by first | (intro x hx; (repeat (first | exact hx | apply List.mem_cons_of_mem)); done) | ((repeat (refine List.forall_mem_cons.2 ⟨(by (repeat (first | assumption | (with_reducible exact List.mem_cons_self) | apply List.mem_cons_of_mem)); first | done | fail), ?_⟩)); intro x hx; first | (cases hx; done) | ((repeat (first | exact hx | apply List.mem_cons_of_mem)); done))) (stab_pure (by rfl) (fun w => (by go_simp; try with_reducible rfl))) ?_; simp only [Act.put, List.setIfInBounds_toArray, List.set_cons_zero, List.set_cons_succ]; refine RS_take (i := 3) rfl (by decide +kernel) (fun _ _ _ h => h) (by first | (intro x hx; (repeat (first | exact hx | apply List.mem_cons_of_mem)); done) | ((repeat (refine List.forall_mem_cons.2 ⟨(by (repeat (first | assumption | (with_reducible exact List.mem_cons_self) | apply List.mem_cons_of_mem)); first | done | fail), ?_⟩)); intro x hx; first | (cases hx; done) | ((repeat (first | exact hx | apply List.mem_cons_of_mem)); done))) (stab_read (by rfl) (fun L w hL hM => (ex_rowload_row (k := k) rfl rfl (hM.row (hL _ (by (repeat (first | assumption | (with_reducible exact List.mem_cons_self) | apply List.mem_cons_of_mem)); first | done | fail))) (bvs x) hv x32 hlt (by kernel_rfl)))) ?_; simp only [Act.put, List.setIfInBounds_toArray, List.set_cons_zero, List.set_cons_succ]; refine RS_take (i := 4) rfl (by decide +kernel) (fun _ _ _ h => h) (by first | (intro x hx; (repeat (first | exact hx | apply List.mem_cons_of_mem)); done) | ((repeat (refine List.forall_mem_cons.2 ⟨(by (repeat (first | assumption | (with_reducible exact List.mem_cons_self) | apply List.mem_cons_of_mem)); first | done | fail), ?_⟩)); intro x hx; first | (cases hx; done) | ((repeat (first | exact hx | apply List.mem_cons_of_mem)); done))) (stab_pure (by rfl) (fun w => (by go_simp; try with_reducible rfl))) ?_; simp only [Act.put, List.setIfInBounds_toArray, List.set_cons_zero, List.set_cons_succ]; refine RS_take (i := 5) rfl (by decide +kernel) (fun _ _ _ h => h) (by first | (intro x hx; (repeat (first | exact hx | apply List.mem_cons_of_mem)); done) | ((repeat (refine List.forall_mem_cons.2 ⟨(by (repeat (first | assumption | (with_reducible exact List.mem_cons_self) | apply List.mem_cons_of_mem)); first | done | fail), ?_⟩)); intro x hx; first | (cases hx; done) | ((repeat (first | exact hx | apply List.mem_cons_of_mem)); done))) (stab_pure (by rfl) (fun w => (by go_simp; try with_reducible rfl))) ?_; simp only [Act.put, List.setIfInBounds_toArray, List.set_cons_zero, List.set_cons_succ]; refine RS_take (i := 6) rfl (by decide +kernel) (fun _ _ _ h => h) (by first | (intro x hx; (repeat (first | exact hx | apply List.mem_cons_of_mem)); done) | ((repeat (refine List.forall_mem_cons.2 ⟨(by (repeat (first | assumption | (with_reducible exact List.mem_cons_self) | apply List.mem_cons_of_mem)); first | done | fail), ?_⟩)); intro x hx; first | (cases hx; done) | ((repeat (first | exact hx | apply List.mem_cons_of_mem)); done))) (stab_pure (by rfl) (fun w => (by go_simp; try with_reducible rfl))) ?_; simp only [Act.put, List.setIfInBounds_toArray, List.set_cons_zero, List.set_cons_succ]; refine RS_take (i := 7) rfl (by decide +kernel) (fun _ _ _ h => h) (by first | (intro x hx; (repeat (first | exact hx | apply List.mem_cons_of_mem)); done) | ((repeat (refine List.forall_mem_cons.2 ⟨(by (repeat (first | assumption | (with_reducible exact List.mem_cons_self) | apply List.mem_cons_of_mem)); first | done | fail), ?_⟩)); intro x hx; first | (cases hx; done) | ((repeat (first | exact hx | apply List.mem_cons_of_mem)); done))) (stab_read (by rfl) (fun L w hL hM => (ex_rowload_row (k := k) rfl rfl (hM.row (hL _ (by (repeat (first | assumption | (with_reducible exact List.mem_cons_self) | apply List.mem_cons_of_mem)); first | done | fail))) (bvs x) hv2 x32 hlt (by kernel_rfl)))) ?_; simp only [Act.put, List.setIfInBounds_toArray, List.set_cons_zero, List.set_cons_succ]; refine RS_take (i := 8) rfl (by decide +kernel) (fun _ _ _ h => h) (by first | (intro x hx; (repeat (first | exact hx | apply List.mem_cons_of_mem)); done) | ((repeat (refine List.forall_mem_cons.2 ⟨(by (repeat (first | assumption | (with_reducible exact List.mem_cons_self) | apply List.mem_cons_of_mem)); first | done | fail), ?_⟩)); intro x hx; first | (cases hx; done) | ((repeat (first | exact hx | apply List.mem_cons_of_mem)); done))) (stab_read (by rfl) (fun L w hL hM => (ex_neq_arr rfl rfl rfl Try.underlying38 Try.underlying5 (by kernel_rfl) x32b x32b (by kernel_rfl) (b := false) (by simp)))) ?_; simp only [Act.put, List.setIfInBounds_toArray, List.set_cons_zero, List.set_cons_succ]; refine RS_done (by decide +kernel) (.inl (by first | (intro x hx; (repeat (first | exact hx | apply List.mem_cons_of_mem)); done) | ((repeat (refine List.forall_mem_cons.2 ⟨(by (repeat (first | assumption | (with_reducible exact List.mem_cons_self) | apply List.mem_cons_of_mem)); first | done | fail), ?_⟩)); intro x hx; first | (cases hx; done) | ((repeat (first | exact hx | apply List.mem_cons_of_mem)); done)))) (fun w hM => ?_))
          go_wp2
          go_roundw
          case rel => exact ⟨k + 1, by omega, by go_num, (by show _ = _; rw [HT.out, HT2.out, hT.out]), hM⟩
          case measure => simp [intOf]; omega
        · have hne : xs ≠ ys := fun h => by
            have e1 := HG.out
            rw [h, HG2.out] at e1
            exact hxy (by injection e1 with e1; exact e1.symm)
          have HNE := Lib.hid hne
          clear hne
          go_wp2_with fail
          (refine region_RS ([rowE 32 (some ad) n (idvs xs), rowE 32 (some ad2) n (idvs ys)]) [] (by kernel_rfl) hM ?_; clear hM; change RS _ _ _ _ _ _ 9 (Array.replicate 9 false) _ _; refine RS_take (i := 0) rfl (by decide +kernel) (fun _ _ _ h => h) (by first | (intro x hx; (repeat (first | exact hx | apply List.mem_cons_of_mem)); done) | ((repeat (refine List.forall_mem_cons.2 ⟨(by (repeat (first | assumption | (with_reducible exact List.mem_cons_self) | apply List.mem_cons_of_mem)); first | done | fail), ?_⟩)); intro x hx; first | (cases hx; done) | ((repeat (first | exact hx | apply List.mem_cons_of_mem)); done))) (stab_pure (by rfl) (fun w => (by go_simp; try with_reducible rfl))) ?_; simp only [Act.put, List.setIfInBounds_toArray, List.set_cons_zero, List.set_cons_succ]; refine RS_take (i := 1) rfl (by decide +kernel) (fun _ _ _ h => h) (by first | (intro x hx; (repeat (first | exact hx | apply List.mem_cons_of_mem)); done) | ((repeat (refine List.forall_mem_cons.2 ⟨(by (repeat (first | assumption | (with_reducible exact List.mem_cons_self) | apply List.mem_cons_of_mem)); first | done | fail), ?_⟩)); intro x hx; first | (cases hx; done) | ((repeat (first | exact hx | apply List.mem_cons_of_mem)); done))) (stab_pure (by rfl) (fun w => (by go_simp; try with_reducible rfl))) ?_; simp only [Act.put, List.setIfInBounds_toArray, List.set_cons_zero, List.set_cons_succ]; refine RS_take (i := 2) rfl (by decide +kernel) (fun _ _ _ h => h) (by first | (intro x hx; (repeat (first | exact hx | apply List.mem_cons_of_mem)); done) | ((repeat (refine List.forall_mem_cons.2 ⟨(by (repeat (first | assumption | (with_reducible exact List.mem_cons_self) | apply List.mem_cons_of_mem)); first | done | fail), ?_⟩)); intro x hx; first | (cases hx; done) | ((repeat (first | exact hx | apply List.mem_cons_of_mem)); done))) (stab_pure (by rfl) (fun w => (by go_simp; try with_reducible rfl))) ?_; simp only [Act.put, List.setIfInBounds_toArray, List.set_cons_zero, List.set_cons_succ]; refine RS_take (i := 3) rfl (by decide +kernel) (fun _ _ _ h => h) (by first | (intro x hx; (repeat (first | exact hx | apply List.mem_cons_of_mem)); done) | ((repeat (refine List.forall_mem_cons.2 ⟨(by (repeat (first | assumption | (with_reducible exact List.mem_cons_self) | apply List.mem_cons_of_mem)); first | done | fail), ?_⟩)); intro x hx; first | (cases hx; done) | ((repeat (first | exact hx | apply List.mem_cons_of_mem)); done))) (stab_read (by rfl) (fun L w hL hM => (ex_rowload_row (k := k) rfl rfl (hM.row (hL _ (by (repeat (first | assumption | (with_reducible exact List.mem_cons_self) | apply List.mem_cons_of_mem)); first | done | fail))) (bvs x) hv x32 hlt (by kernel_rfl)))) ?_; simp only [Act.put, List.setIfInBounds_toArray, List.set_cons_zero, List.set_cons_succ]; refine RS_take (i := 4) rfl (by decide +kernel) (fun _ _ _ h => h) (by first | (intro x hx; (repeat (first | exact hx | apply List.mem_cons_of_mem)); done) | ((repeat (refine List.forall_mem_cons.2 ⟨(by (repeat (first | assumption | (with_reducible exact List.mem_cons_self) | apply List.mem_cons_of_mem)); first | done | fail), ?_⟩)); intro x hx; first | (cases hx; done) | ((repeat (first | exact hx | apply List.mem_cons_of_mem)); done))) (stab_pure (by rfl) (fun w => (by go_simp; try with_reducible rfl))) ?_; simp only [Act.put, List.setIfInBounds_toArray, List.set_cons_zero, List.set_cons_succ]; refine RS_take (i := 5) rfl (by decide +kernel) (fun _ _ _ h => h) (by first | (intro x hx; (repeat (first | exact hx | apply List.mem_cons_of_mem)); done) | ((repeat (refine List.forall_mem_cons.2 ⟨(by (repeat (first | assumption | (with_reducible exact List.mem_cons_self) | apply List.mem_cons_of_mem)); first | done | fail), ?_⟩)); intro x hx; first | (cases hx; done) | ((repeat (first | exact hx | apply List.mem_cons_of_mem)); done))) (stab_pure (by rfl) (fun w => (by go_simp; try with_reducible rfl))) ?_; simp only [Act.put, List.setIfInBounds_toArray, List.set_cons_zero, List.set_cons_succ]; refine RS_take (i := 6) rfl (by decide +kernel) (fun _ _ _ h => h) (by first | (intro x hx; (repeat (first | exact hx | apply List.mem_cons_of_mem)); done) | ((repeat (refine List.forall_mem_cons.2 ⟨(by (repeat (first | assumption | (with_reducible exact List.mem_cons_self) | apply List.mem_cons_of_mem)); first | done | fail), ?_⟩)); intro x hx; first | (cases hx; done) | ((repeat (first | exact hx | apply List.mem_cons_of_mem)); done))) (stab_pure (by rfl) (fun w => (by go_simp; try with_reducible rfl))) ?_; simp only [Act.put, List.setIfInBounds_toArray, List.set_cons_zero, List.set_cons_succ]; refine RS_take (i := 7) rfl (by decide +kernel) (fun _ _ _ h => h) (by first | (intro x hx; (repeat (first | exact hx | apply List.mem_cons_of_mem)); done) | ((repeat (refine List.forall_mem_cons.2 ⟨(by (repeat (first | assumption | (with_reducible exact List.mem_cons_self) | apply List.mem_cons_of_mem)); first | done | fail), ?_⟩)); intro x hx; first | (cases hx; done) | ((repeat (first | exact hx | apply List.mem_cons_of_mem)); done))) (stab_read (by rfl) (fun L w hL hM => (ex_rowload_row (k := k) rfl rfl (hM.row (hL _ (by (repeat (first | assumption | (with_reducible exact List.mem_cons_self) | apply List.mem_cons_of_mem)); first | done | fail))) (bvs y) hv2 y32 hlt (by kernel_rfl)))) ?_; simp only [Act.put, List.setIfInBounds_toArray, List.set_cons_zero, List.set_cons_succ]; refine RS_take (i := 8) rfl (by decide +kernel) (fun _ _ _ h => h) (by first | (intro x hx; (repeat (first | exact hx | apply List.mem_cons_of_mem)); done) | ((repeat (refine List.forall_mem_cons.2 ⟨(by (repeat (first | assumption | (with_reducible exact List.mem_cons_self) | apply List.mem_cons_of_mem)); first | done | fail), ?_⟩)); intro x hx; first | (cases hx; done) | ((repeat (first | exact hx | apply List.mem_cons_of_mem)); done))) (stab_read (by rfl) (fun L w hL hM => (ex_neq_arr rfl rfl rfl Try.underlying38 Try.underlying5 (by kernel_rfl) x32b y32b (by kernel_rfl) (b := true) (by simp [hxy])))) ?_; simp only [Act.put, List.setIfInBounds_toArray, List.set_cons_zero, List.set_cons_succ]; refine RS_done (by decide +kernel) (.inl (by first | (intro x hx; (repeat (first | exact hx | apply List.mem_cons_of_mem)); done) | ((repeat (refine List.forall_mem_cons.2 ⟨(by (repeat (first | assumption | (with_reducible exact List.mem_cons_self) | apply List.mem_cons_of_mem)); first | done | fail), ?_⟩)); intro x hx; first | (cases hx; done) | ((repeat (first | exact hx | apply List.mem_cons_of_mem)); done)))) (fun w hM => ?_))
          go_wp2
          go_ret
          exact ⟨ret_bool (decide_eq_false HNE.out).symm, hM⟩
      · obtain rfl : k = n := by omega
        have heq : xs = ys := take_all_eq (by rw [K1.out]; exact hT.out) (by rw [K1.out, K2.out])
        have HEQ := Lib.hid heq
        clear heq
        go_wp2
        go_ret
        exact ⟨ret_bool (decide_eq_true HEQ.out).symm, hM⟩
  · have hne : xs ≠ ys := fun h => hnm (by rw [← K1.out, ← K2.out, h])
    have HNE := Lib.hid hne
    clear hne
    go_enter Try.func43, Try.ntmps43
    go_wp2_with fail
    all_goals
      go_ret
      exact ⟨ret_bool (decide_eq_false HNE.out).symm, hM⟩
theorem info_idz' : (Try.prog.info? 38).map (fun i => (i.zero, i.size, i.bytes)) = some (some (.agg (bvs z32).toArray), 32, 32) := by kernel_rfl
set_option maxRecDepth 100000 in
set_option maxHeartbeats 2000000 in
theorem names_star {F : List SProp} (ss : List (List UInt8)) (A : Option Addr) (n c : Nat) (hn : n ≤ 1000000) (w : World) (hM : Star F w) (h1 : rowE 1 A n (svs ss) ∈ F) :
    Calls Try.prog 64 #[.slice A n c] w fun r w' => ∃ B d, r = .returned (.slice B n d) ∧ Star (rowE 32 B n (idvs (ss.map idOf)) :: F) w' := by
  have k1 := svs_row (hM.row h1)
  have K1 := Lib.hid k1
  clear k1
  go_enter Try.func64, Try.ntmps64
  go_wp2_with (first | (first | (have hM0 := hM; clear hM; refine BigFrame.wpList_want (by rfl) fun K hK => ws_slice_own hM0 (n := 0) rfl 38 32 (.agg (bvs z32).toArray) [] Try.underlying36 (by kernel_rfl) rfl (by simp [Value.cells, iv, sv, bv]) (by rfl) (by decide) (by decide) (cs := idvs []) (by rfl) (fun g4 w hM => hK _ _ ?_); clear hM0 hK K) | fail))
  go_loopw [3, 9] (fun out i wr => ∃ (k : Nat) (B : Option Addr) (d : Nat), k ≤ n ∧ i = .int .i64 k ∧ out = .slice B k d ∧ Star (ownE 38 32 B k d (idvs ((ss.take k).map idOf)) :: F) wr) (fun _ i _ => n - (intOf i).toNat)
  case atStart => exact ⟨0, _, _, by omega, rfl, rfl, hM⟩
  case round =>
    clear hM
    obtain ⟨k, B, d, hk, rfl, rfl, hM⟩ := hrel
    by_cases hlt : k < n
    · obtain ⟨ad, s, rfl, hv, hg, ht⟩ := hM.elemS (A := A) (n := n) (l := ss) (by (repeat (first | assumption | (with_reducible exact List.mem_cons_self) | apply List.mem_cons_of_mem)); first | done | fail) hlt
      obtain ⟨e, he⟩ : ∃ e, e = idOf s := ⟨_, rfl⟩
      have he32 : e.length = 32 := by rw [he]; exact idOf_len s
      have HE := Lib.hid he
      have HT := Lib.hid ht
      clear he ht hg
      go_wp2_with (first | (first | (refine BigFrame.wpList_want (by rfl) fun K hK => ws_rowload rfl rfl (by first | (apply Star.row hM; (repeat (first | assumption | (with_reducible exact List.mem_cons_self) | apply List.mem_cons_of_mem)); done) | (apply Star.own hM; (repeat (first | assumption | (with_reducible exact List.mem_cons_self) | apply List.mem_cons_of_mem)); done) | (apply Star.arr hM; (focus ((repeat (first | assumption | (with_reducible exact List.mem_cons_self) | apply List.mem_cons_of_mem)); done)); assumption)) (by assumption) (by kernel_rfl) (hK _ _ ?_); clear hK K) | fail) | (go_at_call 24; have hM0 := hM; clear hM; (first | (with_reducible refine (star0 (HE.out ▸ name_any s _) hM0).mono ?_) | fail); clear hM0; rintro _ w ⟨rfl, hM⟩) | (first | (have hM0 := hM; clear hM; refine BigFrame.wpList_want (by rfl) fun K hK => ws_slice_row hM0 (n := 1) rfl 38 32 (.agg (bvs z32).toArray) [idv e] Try.underlying36 (by kernel_rfl) rfl (by simp [Value.cells, iv, sv, bv, idv, bvs_len, he32]) (by rfl) (by decide) (cs := idvs [e]) (by rfl) (fun g w hM => hK _ _ ?_); clear hM0 hK K) | fail) | (first | (have hM0 := hM; clear hM; refine BigFrame.wpList_want (by rfl) fun K hK => ws_append hM0 rfl rfl rfl 38 ((.agg (bvs z32).toArray)) 32 32 Try.underlying36 (by kernel_rfl) (by simp [Value.cells, bvs_len, z32_len]) (by decide) (by (repeat (first | (with_reducible exact Take.head) | apply Take.tail)); first | done | fail) (by first | (apply Star.row hM0; (repeat (first | assumption | (with_reducible exact List.mem_cons_self) | apply List.mem_cons_of_mem)); done) | (apply Star.own hM0; (repeat (first | assumption | (with_reducible exact List.mem_cons_self) | apply List.mem_cons_of_mem)); done) | (apply Star.arr hM0; (focus ((repeat (first | assumption | (with_reducible exact List.mem_cons_self) | apply List.mem_cons_of_mem)); done)); assumption)) (idvs_one [e]) ((by omega)) (fun A1 c1 w hM hnil => hK _ _ ?_); clear hM0 hK K) | fail))
      go_roundw
      case rel => exact ⟨k + 1, A1, c1, by omega, by go_num, rfl, by rw [HT.out, List.map_append, List.map_cons, List.map_nil, ← HE.out, idvs_app]; exact hM.sel (by repeat (first | (with_reducible exact Sel.refl) | (with_reducible exact Take.head) | (with_reducible apply Take.tail) | (with_reducible apply Sel.cons) | (with_reducible apply Sel.drop)))⟩
      case measure => simp [intOf]; omega
    · obtain rfl : k = n := by omega
      rw [List.take_of_length_le (by rw [K1.out]; omega)] at hM
      go_wp2
      go_ret
      exact ⟨B, d, rfl, hM.freeze⟩
end Go.Proofs.Ytbnencchfgnbjaa
