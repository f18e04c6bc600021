/- What the laws share, part 3 (SectorTorn, SectorPads, SectorFails). No condition but those that each theorem names. -/
import Derived.Test.YtbejifbiffeamaaS2
set_option linter.unusedSimpArgs false
set_option linter.unusedVariables false
namespace Go.Proofs.Ytbejifbiffeamaa
open Go.RowKit
attribute [local go_sem] extract_mid extract_drop bget bsize wrap64_u8 i64_u8 u64_u8 bappend
theorem cut64 (l : List UInt8) (w : World) : Calls Try.prog 16 #[.string ⟨l.toArray⟩, .int .i64 64] w fun r w' => r = .returned (.string ⟨(cutP l 64).toArray⟩) ∧ w = w' := cut_any l 64 (by omega) w
theorem cut64_le (l : List UInt8) : (cutP l 64).length ≤ 64 := by have := cutP_len l 64 (by decide); omega
theorem nobig1 (s : List UInt8) (h : s.length ≤ 64) : anyBig [s] = false := by
  unfold anyBig
  simpa using h
set_option maxRecDepth 100000 in
set_option maxHeartbeats 8000000 in
theorem sectorTorn_walk {F : List SProp} (l0 : List UInt8) (_w0 : l0.length ≤ 9223372036854775807) (l1 : List UInt8) (_w1 : l1.length ≤ 9223372036854775807) (n : Int) (hn1 : -9223372036854775808 ≤ n) (hn2 : n ≤ 9223372036854775807) (w : World) (hM : Star F w) :
    Calls Try.prog 5 #[.string ⟨l0.toArray⟩, .string ⟨l1.toArray⟩, .int .i64 n] w fun r w' => r = .returned (.bool true) ∧ Star F w' := by
  have HC0 := Lib.hid (cut64 l0)
  have HC1 := Lib.hid (cut64 l1)
  have hs0 := cut64_le l0
  have hs1 := cut64_le l1
  obtain ⟨s, hs⟩ : ∃ s, cutP l0 64 = s := ⟨_, rfl⟩
  obtain ⟨f, hf⟩ : ∃ f, cutP l1 64 = f := ⟨_, rfl⟩
  rw [hs] at HC0 hs0
  rw [hf] at HC1 hs1
  have HNS := Lib.hid (nobig1 s hs0)
  have HNF := Lib.hid (nobig1 f hs1)
  have HCH : Hid (∀ x ∈ [n], -9223372036854775808 ≤ x ∧ x ≤ 9223372036854775807) := by intro x hx; simp at hx; subst hx; exact ⟨hn1, hn2⟩
  obtain ⟨k, hk⟩ : ∃ k, chN [n] 0 = k := ⟨_, rfl⟩
  have hk64 : k ≤ 64 := by rw [← hk]; exact chN_le _ _
  have hkm : min (max n 0) 64 = (k : Int) := by
    rw [← hk]
    unfold chN
    simp only [List.getElem?_cons_zero]
    split <;> split <;> omega
  have HK := Lib.hid hk
  have tok1 : True := trivial
  have tok2 : True := trivial
  have tok3 : True := trivial
  clear hs hf hs0 hs1 hk
  go_enter Try.func5, Try.ntmps5
  go_wp2_with (first | (go_at_call 16; have hM0 := hM; clear hM; (first | (with_reducible refine (starq (HC0.out _) hM0).mono ?_) | fail); clear hM0; rintro _ w ⟨rfl, hM⟩) | (go_at_call 16; have hM0 := hM; clear hM; (first | (with_reducible refine (starq (HC1.out _) hM0).mono ?_) | fail); clear hM0; rintro _ w ⟨rfl, hM⟩) | (go_at_call 19; have hM0 := hM; clear hM; (first | (with_reducible refine (awake03 _ hM0).mono ?_) | fail); clear hM0; rintro _ w ⟨rfl, hM⟩) | (have _t := tok1; (go_at_call 20; have hM0 := hM; clear hM; (first | (with_reducible refine (new_u (N := 1) (by decide) _ hM0).mono ?_) | fail); clear hM0; rintro _ w ⟨a, A0, a0, rfl, hM⟩); clear tok1) | (go_at_call 20; have hM0 := hM; clear hM; (first | (with_reducible refine (new_u (N := 1) (by decide) _ hM0).mono ?_) | fail); clear hM0; rintro _ w ⟨b, B0, b0, rfl, hM⟩) | (have _t := tok2; (first | ((with_reducible refine at_slice' ?_); (have hM0 := hM; clear hM; refine BigFrame.wpList_want (by rfl) fun K hK => ws_slice_row hM0 (n := 1) rfl 9 1 (.string ByteArray.empty) [sv s] Try.underlying22 (by kernel_rfl) rfl (by simp [Value.cells, iv, sv, bv]) (by rfl) (by decide) (cs := svs [s]) (by rfl) (fun g26 w hM => hK _ _ ?_); clear hM0 hK K)) | fail); clear tok2) | (go_at_call 22; have hM0 := hM; clear hM; (first | (with_reducible refine (write_u (x := 0) (ts := [s]) 0 rfl a0.out.ok (by rw [a0.out.len]; decide) HNS.out a0.out.armed _ (hM0.take (x := diskE a A0) (by (repeat (first | (with_reducible exact Take.head) | apply Take.tail)); first | done | fail)) (by (repeat (first | assumption | (with_reducible exact mZ) | apply mS)); first | done | fail)).mono ?_) | fail); clear hM0; rintro _ w ⟨A1, a1, rfl, hM⟩) | (go_at_call 23; have hM0 := hM; clear hM; (first | (with_reducible refine (sync_u a1.out.ok (a1.out.armed.trans a0.out.armed) _ (hM0.take (x := diskE a A1) (by (repeat (first | (with_reducible exact Take.head) | apply Take.tail)); first | done | fail))).mono ?_) | fail); clear hM0; rintro _ w ⟨A2, a2, rfl, hM⟩) | (first | ((with_reducible refine at_slice' ?_); (have hM0 := hM; clear hM; refine BigFrame.wpList_want (by rfl) fun K hK => ws_slice_row hM0 (n := 1) rfl 9 1 (.string ByteArray.empty) [sv f] Try.underlying22 (by kernel_rfl) rfl (by simp [Value.cells, iv, sv, bv]) (by rfl) (by decide) (cs := svs [f]) (by rfl) (fun g32 w hM => hK _ _ ?_); clear hM0 hK K)) | fail) | (go_at_call 22; have hM0 := hM; clear hM; (first | (with_reducible refine (write_u (x := 0) (ts := [f]) 0 rfl b0.out.ok (by rw [b0.out.len]; decide) HNF.out b0.out.armed _ (hM0.take (x := diskE b B0) (by (repeat (first | (with_reducible exact Take.head) | apply Take.tail)); first | done | fail)) (by (repeat (first | assumption | (with_reducible exact mZ) | apply mS)); first | done | fail)).mono ?_) | fail); clear hM0; rintro _ w ⟨B1, b1, rfl, hM⟩) | (go_at_call 24; have hM0 := hM; clear hM; (first | (with_reducible refine (read_u (x := 0) (y := 1) 0 1 rfl rfl a2.out.ok (by rw [a2.out.len, a1.out.sure, a0.out.len]; decide) (a2.out.armed.trans (a1.out.armed.trans a0.out.armed)) _ (hM0.take (x := diskE a A2) (by (repeat (first | (with_reducible exact Take.head) | apply Take.tail)); first | done | fail))).mono ?_) | fail); clear hM0; rintro _ w ⟨A3, a3, rfl, hM⟩) | (go_at_call 24; have hM0 := hM; clear hM; (first | (with_reducible refine (read_u (x := 0) (y := 1) 0 1 rfl rfl b1.out.ok (by rw [b1.out.sure, b0.out.len]; decide) (b1.out.armed.trans b0.out.armed) _ (hM0.take (x := diskE b B1) (by (repeat (first | (with_reducible exact Take.head) | apply Take.tail)); first | done | fail))).mono ?_) | fail); clear hM0; rintro _ w ⟨B2, b2, rfl, hM⟩) | (go_at_call 22; have hM0 := hM; clear hM; (first | (with_reducible refine (write_u (x := 0) (ts := [f]) 0 rfl a3.out.ok (by rw [a3.out.sure, a2.out.len, a1.out.sure, a0.out.len]; decide) HNF.out (a3.out.armed.trans (a2.out.armed.trans (a1.out.armed.trans a0.out.armed))) _ (hM0.take (x := diskE a A3) (by (repeat (first | (with_reducible exact Take.head) | apply Take.tail)); first | done | fail)) (by (repeat (first | assumption | (with_reducible exact mZ) | apply mS)); first | done | fail)).mono ?_) | fail); clear hM0; rintro _ w ⟨A4, a4, rfl, hM⟩) | (first | ((with_reducible refine at_slice' ?_); (have hM0 := hM; clear hM; refine BigFrame.wpList_want (by rfl) fun K hK => ws_slice_row hM0 (n := 1) rfl 3 1 (.int .i64 0) [.int .i64 n] Try.underlying23 (by kernel_rfl) rfl (by simp [Value.cells, iv, sv, bv]) (by rfl) (by decide) (cs := ivs [n]) (by rfl) (fun g50 w hM => hK _ _ ?_); clear hM0 hK K)) | fail) | (go_at_call 25; have hM0 := hM; clear hM; (first | (with_reducible refine (crash_u (ch := [n]) a4.out.ok (by decide) HCH.out _ (hM0.take (x := diskE a A4) (by (repeat (first | (with_reducible exact Take.head) | apply Take.tail)); first | done | fail)) (by (repeat (first | assumption | (with_reducible exact mZ) | apply mS)); first | done | fail)).mono ?_) | fail); clear hM0; rintro _ w ⟨A5, a5, rfl, hM⟩) | (go_at_call 24; have hM0 := hM; clear hM; (first | (with_reducible refine (read_u (x := 0) (y := 1) 0 1 rfl rfl a5.out.ok (by rw [a5.out.len, a4.out.sure, a3.out.sure, a2.out.len, a1.out.sure, a0.out.len]; decide) a5.out.armed _ (hM0.take (x := diskE a A5) (by (repeat (first | (with_reducible exact Take.head) | apply Take.tail)); first | done | fail))).mono ?_) | fail); clear hM0; rintro _ w ⟨A6, a6, rfl, hM⟩))
  have e4 : A4.sure.length = 1 := by rw [a4.out.sure, a3.out.sure, a2.out.len, a1.out.sure, a0.out.len]
  have hX : rdD A2 0 1 = pad64 s := by rw [rdD_one, a2.out.nw, a1.out.nw, if_pos (by simp)]; rfl
  have hY : rdD B1 0 1 = pad64 f := by rw [rdD_one, b1.out.nw, if_pos (by simp)]; rfl
  have hsu : A4.su 0 = pad64 s := by
    show A4.sure.getD 0 [] = _
    rw [a4.out.sure, a3.out.sure]
    show A2.su 0 = _
    rw [a2.out.su, a1.out.nw, if_pos (by simp)]
    rfl
  have hZ : rdD A5 0 1 = (pad64 f).take k ++ (pad64 s).drop k := by
    rw [rdD_one, a5.out.nw, a5.out.torn 0 0 (keys_one (by rw [e4]; decide) (by rw [a4.out.l]; simp))]
    unfold crB
    rw [hsu, a4.out.nw, if_pos (by simp), HK.out]
    rfl
  have hxl := pad64_len s
  have hyl := pad64_len f
  rw [hX, hY, hZ]
  obtain ⟨X, hXX⟩ : ∃ X, pad64 s = X := ⟨_, rfl⟩
  obtain ⟨Y, hYY⟩ : ∃ Y, pad64 f = Y := ⟨_, rfl⟩
  rw [hXX] at hxl ⊢
  rw [hYY] at hyl ⊢
  clear hX hY hZ hsu e4 hXX hYY
  have hsum : ¬ (9223372036854775807 < (Y.take k).length + (X.drop k).length) := by simp; omega
  have hk64I : (k : Int) ≤ 64 := by omega
  have hXt : List.take 64 X = X := List.take_of_length_le (by omega)
  have hkx : (k : Int) ≤ (X.length : Int) := by omega
  have hky : (k : Int) ≤ (Y.length : Int) := by omega
  (refine region_RS ([]) [] (by kernel_rfl) hM ?_; clear hM; change RS _ _ _ _ _ _ 14 (Array.replicate 14 false) _ _; refine RS_take (i := 0) rfl (by decide +kernel) (fun _ _ _ h => h) (by first | (intro x hx; (repeat (first | exact hx | apply mS)); done) | ((repeat (refine List.forall_mem_cons.2 ⟨(by (repeat (first | assumption | (with_reducible exact mZ) | apply mS)); first | done | fail), ?_⟩)); intro x hx; first | (cases hx; done) | ((repeat (first | exact hx | apply mS)); done))) (stab_pure (by rfl) (fun w => (by go_simp; try with_reducible rfl))) ?_; simp only [Act.put, List.setIfInBounds_toArray, List.set_cons_zero, List.set_cons_succ]; refine RS_take (i := 1) rfl (by decide +kernel) (fun _ _ _ h => h) (by first | (intro x hx; (repeat (first | exact hx | apply mS)); done) | ((repeat (refine List.forall_mem_cons.2 ⟨(by (repeat (first | assumption | (with_reducible exact mZ) | apply mS)); first | done | fail), ?_⟩)); intro x hx; first | (cases hx; done) | ((repeat (first | exact hx | apply mS)); done))) (stab_pure (by rfl) (fun w => (by go_simp; try with_reducible rfl))) ?_; simp only [Act.put, List.setIfInBounds_toArray, List.set_cons_zero, List.set_cons_succ]; refine RS_take (i := 2) rfl (by decide +kernel) (fun _ _ _ h => h) (by first | (intro x hx; (repeat (first | exact hx | apply mS)); done) | ((repeat (refine List.forall_mem_cons.2 ⟨(by (repeat (first | assumption | (with_reducible exact mZ) | apply mS)); first | done | fail), ?_⟩)); intro x hx; first | (cases hx; done) | ((repeat (first | exact hx | apply mS)); done))) (stab_pure (by rfl) (fun w => (by go_simp; try with_reducible rfl))) ?_; simp only [Act.put, List.setIfInBounds_toArray, List.set_cons_zero, List.set_cons_succ]; refine RS_take (i := 3) rfl (by decide +kernel) (fun _ _ _ h => h) (by first | (intro x hx; (repeat (first | exact hx | apply mS)); done) | ((repeat (refine List.forall_mem_cons.2 ⟨(by (repeat (first | assumption | (with_reducible exact mZ) | apply mS)); first | done | fail), ?_⟩)); intro x hx; first | (cases hx; done) | ((repeat (first | exact hx | apply mS)); done))) (stab_pure (by rfl) (fun w => (by go_simp; try with_reducible rfl))) ?_; simp only [Act.put, List.setIfInBounds_toArray, List.set_cons_zero, List.set_cons_succ]; refine RS_take (i := 4) rfl (by decide +kernel) (fun _ _ _ h => h) (by first | (intro x hx; (repeat (first | exact hx | apply mS)); done) | ((repeat (refine List.forall_mem_cons.2 ⟨(by (repeat (first | assumption | (with_reducible exact mZ) | apply mS)); first | done | fail), ?_⟩)); intro x hx; first | (cases hx; done) | ((repeat (first | exact hx | apply mS)); done))) (stab_pure (by rfl) (fun w => (by go_simp; try with_reducible rfl))) ?_; simp only [Act.put, List.setIfInBounds_toArray, List.set_cons_zero, List.set_cons_succ]; refine RS_take (i := 5) rfl (by decide +kernel) (fun _ _ _ h => h) (by first | (intro x hx; (repeat (first | exact hx | apply mS)); done) | ((repeat (refine List.forall_mem_cons.2 ⟨(by (repeat (first | assumption | (with_reducible exact mZ) | apply mS)); first | done | fail), ?_⟩)); intro x hx; first | (cases hx; done) | ((repeat (first | exact hx | apply mS)); done))) (stab_pure (by rfl) (fun w => (by go_simp; try with_reducible rfl))) ?_; simp only [Act.put, List.setIfInBounds_toArray, List.set_cons_zero, List.set_cons_succ]; refine RS_take (i := 6) rfl (by decide +kernel) (fun _ _ _ h => h) (by first | (intro x hx; (repeat (first | exact hx | apply mS)); done) | ((repeat (refine List.forall_mem_cons.2 ⟨(by (repeat (first | assumption | (with_reducible exact mZ) | apply mS)); first | done | fail), ?_⟩)); intro x hx; first | (cases hx; done) | ((repeat (first | exact hx | apply mS)); done))) (stab_pure (by rfl) (fun w => (by go_simp; try with_reducible rfl))) ?_; simp only [Act.put, List.setIfInBounds_toArray, List.set_cons_zero, List.set_cons_succ]; refine RS_take (i := 7) rfl (by decide +kernel) (fun _ _ _ h => h) (by first | (intro x hx; (repeat (first | exact hx | apply mS)); done) | ((repeat (refine List.forall_mem_cons.2 ⟨(by (repeat (first | assumption | (with_reducible exact mZ) | apply mS)); first | done | fail), ?_⟩)); intro x hx; first | (cases hx; done) | ((repeat (first | exact hx | apply mS)); done))) (stab_pure (by rfl) (fun w => (by go_simp; try with_reducible rfl))) ?_; simp only [Act.put, List.setIfInBounds_toArray, List.set_cons_zero, List.set_cons_succ]; refine RS_take (i := 8) rfl (by decide +kernel) (fun _ _ _ h => h) (by first | (intro x hx; (repeat (first | exact hx | apply mS)); done) | ((repeat (refine List.forall_mem_cons.2 ⟨(by (repeat (first | assumption | (with_reducible exact mZ) | apply mS)); first | done | fail), ?_⟩)); intro x hx; first | (cases hx; done) | ((repeat (first | exact hx | apply mS)); done))) (stab_pure (by rfl) (fun w => (by go_simp; try with_reducible rfl))) ?_; simp only [Act.put, List.setIfInBounds_toArray, List.set_cons_zero, List.set_cons_succ]; refine RS_take (i := 9) rfl (by decide +kernel) (fun _ _ _ h => h) (by first | (intro x hx; (repeat (first | exact hx | apply mS)); done) | ((repeat (refine List.forall_mem_cons.2 ⟨(by (repeat (first | assumption | (with_reducible exact mZ) | apply mS)); first | done | fail), ?_⟩)); intro x hx; first | (cases hx; done) | ((repeat (first | exact hx | apply mS)); done))) (stab_pure (by rfl) (fun w => (by go_simp; try with_reducible rfl))) ?_; simp only [Act.put, List.setIfInBounds_toArray, List.set_cons_zero, List.set_cons_succ]; refine RS_take (i := 10) rfl (by decide +kernel) (fun _ _ _ h => h) (by first | (intro x hx; (repeat (first | exact hx | apply mS)); done) | ((repeat (refine List.forall_mem_cons.2 ⟨(by (repeat (first | assumption | (with_reducible exact mZ) | apply mS)); first | done | fail), ?_⟩)); intro x hx; first | (cases hx; done) | ((repeat (first | exact hx | apply mS)); done))) (stab_pure (by rfl) (fun w => (by go_simp; try with_reducible rfl))) ?_; simp only [Act.put, List.setIfInBounds_toArray, List.set_cons_zero, List.set_cons_succ]; refine RS_take (i := 11) rfl (by decide +kernel) (fun _ _ _ h => h) (by first | (intro x hx; (repeat (first | exact hx | apply mS)); done) | ((repeat (refine List.forall_mem_cons.2 ⟨(by (repeat (first | assumption | (with_reducible exact mZ) | apply mS)); first | done | fail), ?_⟩)); intro x hx; first | (cases hx; done) | ((repeat (first | exact hx | apply mS)); done))) (stab_pure (by rfl) (fun w => (by go_simp; try with_reducible rfl))) ?_; simp only [Act.put, List.setIfInBounds_toArray, List.set_cons_zero, List.set_cons_succ]; refine RS_take (i := 12) rfl (by decide +kernel) (fun _ _ _ h => h) (by first | (intro x hx; (repeat (first | exact hx | apply mS)); done) | ((repeat (refine List.forall_mem_cons.2 ⟨(by (repeat (first | assumption | (with_reducible exact mZ) | apply mS)); first | done | fail), ?_⟩)); intro x hx; first | (cases hx; done) | ((repeat (first | exact hx | apply mS)); done))) (stab_pure (by rfl) (fun w => (by go_simp; try with_reducible rfl))) ?_; simp only [Act.put, List.setIfInBounds_toArray, List.set_cons_zero, List.set_cons_succ]; refine RS_take (i := 13) rfl (by decide +kernel) (fun _ _ _ h => h) (by first | (intro x hx; (repeat (first | exact hx | apply mS)); done) | ((repeat (refine List.forall_mem_cons.2 ⟨(by (repeat (first | assumption | (with_reducible exact mZ) | apply mS)); first | done | fail), ?_⟩)); intro x hx; first | (cases hx; done) | ((repeat (first | exact hx | apply mS)); done))) (stab_pure (by rfl) (fun w => (by go_simp; try with_reducible rfl))) ?_; simp only [Act.put, List.setIfInBounds_toArray, List.set_cons_zero, List.set_cons_succ]; refine RS_done (by decide +kernel) (.inl (by first | (intro x hx; (repeat (first | exact hx | apply mS)); done) | ((repeat (refine List.forall_mem_cons.2 ⟨(by (repeat (first | assumption | (with_reducible exact mZ) | apply mS)); first | done | fail), ?_⟩)); intro x hx; first | (cases hx; done) | ((repeat (first | exact hx | apply mS)); done)))) (fun w hM => ?_))
  go_wp2
  go_ret
  exact ⟨rfl, hM.sel (by repeat (first | (with_reducible exact Sel.refl) | (with_reducible exact Take.head) | (with_reducible apply Take.tail) | (with_reducible apply Sel.cons) | (with_reducible apply Sel.drop)))⟩
end Go.Proofs.Ytbejifbiffeamaa
set_option linter.unusedSimpArgs false
set_option linter.unusedVariables false
namespace Go.Proofs.Ytbejifbiffeamaa
open Go.RowKit
attribute [local go_sem] extract_mid extract_drop bget bsize wrap64_u8 i64_u8 u64_u8 bappend
theorem pad64_eq (b : List UInt8) (h : b.length ≤ 64) : pad64 b = b ++ List.replicate (64 - b.length) 0 := by
  unfold pad64 over
  rw [z64_len, List.take_of_length_le h]
  unfold z64
  rw [List.drop_replicate]
theorem nobig5 (s : List UInt8) (h : s.length ≤ 64) : anyBig [s, s, s, s, s] = false := by
  unfold anyBig
  simpa using h
theorem keys_full {D : Dsk} {N : Nat} (hn : D.sure.length = N) (h : ∀ i, i < N → D.l i = true) : D.keys = List.range N := by
  unfold Dsk.keys
  rw [hn]
  exact List.filter_eq_self.2 fun i hi => h i (List.mem_range.1 hi)
set_option maxRecDepth 100000 in
set_option maxHeartbeats 8000000 in
theorem sectorPads_walk {F : List SProp} (l0 : List UInt8) (_w0 : l0.length ≤ 9223372036854775807) (l1 : List UInt8) (_w1 : l1.length ≤ 9223372036854775807) (n : Int) (hn1 : -9223372036854775808 ≤ n) (hn2 : n ≤ 9223372036854775807) (w : World) (hM : Star F w) :
    Calls Try.prog 6 #[.string ⟨l0.toArray⟩, .string ⟨l1.toArray⟩, .int .i64 n] w fun r w' => r = .returned (.bool true) ∧ Star F w' := by
  have HC0 := Lib.hid (cut64 l0)
  have HC1 := Lib.hid (cut64 l1)
  have hs0 := cut64_le l0
  have hs1 := cut64_le l1
  obtain ⟨s, hs⟩ : ∃ s, cutP l0 64 = s := ⟨_, rfl⟩
  obtain ⟨f, hf⟩ : ∃ f, cutP l1 64 = f := ⟨_, rfl⟩
  rw [hs] at HC0 hs0
  rw [hf] at HC1 hs1
  have HNS := Lib.hid (nobig5 s hs0)
  have HNF := Lib.hid (nobig1 f hs1)
  obtain ⟨p, hp⟩ : ∃ p : Nat, min (max n 0) 4 = (p : Int) := ⟨(min (max n 0) 4).toNat, by omega⟩
  have hp4 : p ≤ 4 := by omega
  clear hs hf
  go_enter Try.func6, Try.ntmps6
  go_wp2_with (first | (go_at_call 16; have hM0 := hM; clear hM; (first | (with_reducible refine (starq (HC0.out _) hM0).mono ?_) | fail); clear hM0; rintro _ w ⟨rfl, hM⟩) | (go_at_call 16; have hM0 := hM; clear hM; (first | (with_reducible refine (starq (HC1.out _) hM0).mono ?_) | fail); clear hM0; rintro _ w ⟨rfl, hM⟩) | (go_at_call 19; have hM0 := hM; clear hM; (first | (with_reducible refine (awake03 _ hM0).mono ?_) | fail); clear hM0; rintro _ w ⟨rfl, hM⟩) | (go_at_call 20; have hM0 := hM; clear hM; (first | (with_reducible refine (new_u (N := 5) (by decide) _ hM0).mono ?_) | fail); clear hM0; rintro _ w ⟨a, D0, h0, rfl, hM⟩) | (first | ((with_reducible refine at_slice' ?_); (have hM0 := hM; clear hM; refine BigFrame.wpList_want (by rfl) fun K hK => ws_slice_row hM0 (n := 5) rfl 9 1 (.string ByteArray.empty) [sv s, sv s, sv s, sv s, sv s] Try.underlying22 (by kernel_rfl) rfl (by simp [Value.cells, iv, sv, bv]) (by rfl) (by decide) (cs := svs [s, s, s, s, s]) (by rfl) (fun g28 w hM => hK _ _ ?_); clear hM0 hK K)) | fail) | (go_at_call 22; have hM0 := hM; clear hM; (first | (with_reducible refine (write_u (x := 0) (ts := [s, s, s, s, s]) 0 rfl h0.out.ok (by rw [h0.out.len]; decide) HNS.out h0.out.armed _ (hM0.take (x := diskE a D0) (by (repeat (first | (with_reducible exact Take.head) | apply Take.tail)); first | done | fail)) (by (repeat (first | assumption | (with_reducible exact mZ) | apply mS)); first | done | fail)).mono ?_) | fail); clear hM0; rintro _ w ⟨D1, h1, rfl, hM⟩) | (first | ((with_reducible refine at_slice' ?_); (have hM0 := hM; clear hM; refine BigFrame.wpList_want (by rfl) fun K hK => ws_slice_row hM0 (n := 1) rfl 9 1 (.string ByteArray.empty) [sv f] Try.underlying22 (by kernel_rfl) rfl (by simp [Value.cells, iv, sv, bv]) (by rfl) (by decide) (cs := svs [f]) (by rfl) (fun g33 w hM => hK _ _ ?_); clear hM0 hK K)) | fail) | (go_at_call 22; have hM0 := hM; clear hM; (first | (with_reducible refine (write_u (x := (p : Int)) (ts := [f]) p rfl h1.out.ok (by rw [h1.out.sure, h0.out.len]; omega) HNF.out (h1.out.armed.trans h0.out.armed) _ (hM0.take (x := diskE a D1) (by (repeat (first | (with_reducible exact Take.head) | apply Take.tail)); first | done | fail)) (by (repeat (first | assumption | (with_reducible exact mZ) | apply mS)); first | done | fail)).mono ?_) | fail); clear hM0; rintro _ w ⟨D2, h2, rfl, hM⟩) | ((go_at_call 24; have hM0 := hM; clear hM; (first | (with_reducible refine (read_u (x := 0) (y := 5) 0 5 rfl rfl h2.out.ok (by rw [h2.out.sure, h1.out.sure, h0.out.len]; decide) (h2.out.armed.trans (h1.out.armed.trans h0.out.armed)) _ (hM0.take (x := diskE a D2) (by (repeat (first | (with_reducible exact Take.head) | apply Take.tail)); first | done | fail))).mono ?_) | fail); clear hM0; rintro _ w ⟨D3, h3, rfl, hM⟩); have e2 : D2.sure.length = 5 := (by rw [h2.out.sure, h1.out.sure, h0.out.len]); have hlen := rdD_len h2.out.ok 0 5 (by rw [e2]; decide); have hat := fun i (hi : i < 5) => rdD_at h2.out.ok 0 5 i (by rw [e2]; decide) hi; obtain ⟨z, hz⟩ : ∃ z, rdD D2 0 5 = z := ⟨_, rfl⟩; rw [hz] at hlen hat ⊢; have HAT := Lib.hid hat; have E2 := Lib.hid e2; clear hz hat e2))
  have HNW : Hid (∀ i, i < 5 → D2.nw (0 + i) = pad64 (if i = p then f else s)) := fun i hi => by
    rw [Nat.zero_add, h2.out.nw]
    by_cases e : i = p
    · rw [if_pos e, if_pos (by simp; omega), e, Nat.sub_self]; rfl
    · rw [if_neg e, if_neg (by simp; omega), h1.out.nw, if_pos (by simp; omega)]
      rcases (by omega : i = 0 ∨ i = 1 ∨ i = 2 ∨ i = 3 ∨ i = 4) with rfl | rfl | rfl | rfl | rfl <;> rfl
  have hM3 : Star (diskE a D3 :: F) w := hM.sel (by repeat (first | (with_reducible exact Sel.refl) | (with_reducible exact Take.head) | (with_reducible apply Take.tail) | (with_reducible apply Sel.cons) | (with_reducible apply Sel.drop)))
  clear hM
  have hM := hM3
  clear hM3
  obtain ⟨wq, rfl⟩ : ∃ wq : World, wq = w := ⟨_, rfl⟩
  go_loopw [47] (fun i wr => ∃ k : Nat, k ≤ 5 ∧ i = .int .i64 k ∧ Star (diskE a D3 :: F) wr) (fun i _ => 5 - (intOf i).toNat)
  case atStart => exact ⟨0, by omega, rfl, hM⟩
  case round =>
    clear hM
    obtain ⟨k, hk, rfl, hM⟩ := hrel
    by_cases hlt : k < 5
    · obtain ⟨b, hb⟩ : ∃ b, (if k = p then f else s) = b := ⟨_, rfl⟩
      have hbl : b.length ≤ 64 := by rw [← hb]; split <;> omega
      have HZ : Hid ((z.take (k * 64 + 64)).drop (k * 64) = b ++ List.replicate (64 - b.length) 0) := by
        show _ = _
        rw [← pad64_eq b hbl, ← hb, ← HNW.out k hlt, ← HAT.out k hlt, List.drop_take, Nat.mul_comm k 64, Nat.add_sub_cancel_left]
      have hb1 : (k : Int) * 64 ≤ (k : Int) * 64 + 64 := by omega
      by_cases hkp : k = p
      · rw [if_pos hkp] at hb
        subst hb
        subst hkp
        go_wp2_with fail
        (try go_frame)
        obtain ⟨wq2, rfl⟩ : ∃ wq : World, wq = wr := ⟨_, rfl⟩
        go_loopg [11] (64 - f.length) (fun gk v wx => ∃ (j : Nat) (X : List UInt8), gk = 64 - f.length - j ∧ j ≤ 64 - f.length ∧ v = .string ⟨X.toArray⟩ ∧ Hid (X = f ++ List.replicate j 0) ∧ Star (diskE a D3 :: F) wx)
        case atStart => exact ⟨0, f, by omega, by omega, rfl, (by show _ = _; simp), hM⟩
        case round =>
          clear hM
          obtain ⟨j, X, hgk, hj, rfl, hX, hM⟩ := hrel
          have hXl : X.length = f.length + j := by rw [hX.out]; simp
          by_cases hj2 : j < 64 - f.length
          · have hXl2 : X.length < 64 := by omega
            clear hXl
            go_wp2_with fail
            go_roundg (64 - f.length - (j + 1))
            case measure => omega
            case rel => exact ⟨j + 1, X ++ [0], by omega, by omega, rfl, (by show _ = _; rw [hX.out, List.replicate_succ', List.append_assoc]), hM⟩
          · obtain rfl : j = 64 - f.length := by omega
            have hXl2 : X.length = 64 := by omega
            have hz := HZ.out
            rw [← hX.out] at hz
            have hk1 : (k : Int) * 64 + 64 ≤ 320 := by omega
            have hk2 : (k : Int) * 64 ≤ (k : Int) * 64 + 64 := by omega
            clear hXl
            go_wp2_with fail
            go_roundw
            case rel => exact ⟨k + 1, by omega, by go_num, hM⟩
            case measure => simp [intOf]; omega
      · rw [if_neg hkp] at hb
        subst hb
        have hkp2 : ((k : Int) == (p : Int)) = false := by simp; omega
        have hkp3 : ¬ ((k : Int) = (p : Int)) := by omega
        go_wp2_with fail
        (try go_frame)
        obtain ⟨wq2, rfl⟩ : ∃ wq : World, wq = wr := ⟨_, rfl⟩
        go_loopg [11] (64 - s.length) (fun gk v wx => ∃ (j : Nat) (X : List UInt8), gk = 64 - s.length - j ∧ j ≤ 64 - s.length ∧ v = .string ⟨X.toArray⟩ ∧ Hid (X = s ++ List.replicate j 0) ∧ Star (diskE a D3 :: F) wx)
        case atStart => exact ⟨0, s, by omega, by omega, rfl, (by show _ = _; simp), hM⟩
        case round =>
          clear hM
          obtain ⟨j, X, hgk, hj, rfl, hX, hM⟩ := hrel
          have hXl : X.length = s.length + j := by rw [hX.out]; simp
          by_cases hj2 : j < 64 - s.length
          · have hXl2 : X.length < 64 := by omega
            clear hXl
            go_wp2_with fail
            go_roundg (64 - s.length - (j + 1))
            case measure => omega
            case rel => exact ⟨j + 1, X ++ [0], by omega, by omega, rfl, (by show _ = _; rw [hX.out, List.replicate_succ', List.append_assoc]), hM⟩
          · obtain rfl : j = 64 - s.length := by omega
            have hXl2 : X.length = 64 := by omega
            have hz := HZ.out
            rw [← hX.out] at hz
            have hk1 : (k : Int) * 64 + 64 ≤ 320 := by omega
            have hk2 : (k : Int) * 64 ≤ (k : Int) * 64 + 64 := by omega
            clear hXl
            go_wp2_with fail
            go_roundw
            case rel => exact ⟨k + 1, by omega, by go_num, hM⟩
            case measure => simp [intOf]; omega
    · obtain rfl : k = 5 := by omega
      have hkeys : D3.keys = List.range 5 := keys_full (by rw [h3.out.sure, E2.out]) fun i hi => by
        rw [h3.out.l, h2.out.l, h1.out.l]
        rw [decide_eq_true (by simp; omega : 0 ≤ i ∧ i < 0 + [s, s, s, s, s].length)]
        simp
      have HL : Hid (∀ (L : List SProp) (w : World), Star (diskE a D3 :: L) w → Calls Try.prog 26 #[dptr a] w fun r w' => ∃ A c, r = .returned (.slice A 5 c) ∧ Star (rowE 1 A 5 (ivs (ksI D3)) :: diskE a D3 :: L) w') := fun L w hM => by
        have := loose_d h3.out.ok w hM
        rwa [show D3.keys.length = 5 by rw [hkeys]; rfl] at this
      go_wp2_with (first | (go_at_call 26; have hM0 := hM; clear hM; (first | (with_reducible refine (HL.out _ _ hM0).mono ?_) | fail); clear hM0; rintro _ w ⟨A, c, rfl, hM⟩))
      go_ret
      exact ⟨rfl, hM.sel (by repeat (first | (with_reducible exact Sel.refl) | (with_reducible exact Take.head) | (with_reducible apply Take.tail) | (with_reducible apply Sel.cons) | (with_reducible apply Sel.drop)))⟩
end Go.Proofs.Ytbejifbiffeamaa
set_option linter.unusedSimpArgs false
set_option linter.unusedVariables false
namespace Go.Proofs.Ytbejifbiffeamaa
open Go.RowKit
attribute [local go_sem] extract_mid extract_drop bget bsize wrap64_u8 i64_u8 u64_u8 bappend
abbrev fuse_ (D : Dsk) (b : Bool) (l : Int) : Dsk := { D with armed := b, left := l }
theorem fuse_ok {D : Dsk} (h : D.ok) (b : Bool) (l : Int) (h1 : -9223372036854775808 ≤ l) (h2 : l ≤ 9223372036854775807) (h3 : b = true → 0 ≤ l) : (fuse_ D b l).ok := ⟨h.ln, h.ll, h.s64, h.n64, h.same, h.size, h1, h2, h3⟩
theorem pad_take {s : List UInt8} (h : s.length ≤ 64) : (pad64 s).take s.length = s := by
  rw [pad64_eq s h, List.take_left]
theorem keys_second {D : Dsk} (hn : D.sure.length = 3) (h : ∀ i, D.l i = decide (1 ≤ i ∧ i < 2)) : D.keys.length = 1 := by
  have hl : D.l = fun i => decide (1 ≤ i ∧ i < 2) := funext h
  unfold Dsk.keys
  rw [hn, hl]
  rfl
set_option maxRecDepth 100000 in
set_option maxHeartbeats 8000000 in
theorem sectorFails_walk {F : List SProp} (n : Int) (hn1 : -9223372036854775808 ≤ n) (hn2 : n ≤ 9223372036854775807) (l1 : List UInt8) (_w1 : l1.length ≤ 9223372036854775807) (w : World) (hM : Star F w) :
    Calls Try.prog 10 #[.int .i64 n, .string ⟨l1.toArray⟩] w fun r w' => r = .returned (.bool true) ∧ Star F w' := by
  have HC1 := Lib.hid (cut64 l1)
  have hs1 := cut64_le l1
  obtain ⟨s, hs⟩ : ∃ s, cutP l1 64 = s := ⟨_, rfl⟩
  rw [hs] at HC1 hs1
  clear hs
  by_cases hlo : n < 0
  · go_enter Try.func10, Try.ntmps10
    go_wp2_with (first | (go_at_call 16; have hM0 := hM; clear hM; (first | (with_reducible refine (starq (HC1.out _) hM0).mono ?_) | fail); clear hM0; rintro _ w ⟨rfl, hM⟩) | (go_at_call 19; have hM0 := hM; clear hM; (first | (with_reducible refine (awake03 _ hM0).mono ?_) | fail); clear hM0; rintro _ w ⟨rfl, hM⟩))
    go_ret
    exact ⟨rfl, hM⟩
  by_cases hhi : 30 < n
  · go_enter Try.func10, Try.ntmps10
    go_wp2_with (first | (go_at_call 16; have hM0 := hM; clear hM; (first | (with_reducible refine (starq (HC1.out _) hM0).mono ?_) | fail); clear hM0; rintro _ w ⟨rfl, hM⟩) | (go_at_call 19; have hM0 := hM; clear hM; (first | (with_reducible refine (awake03 _ hM0).mono ?_) | fail); clear hM0; rintro _ w ⟨rfl, hM⟩))
    go_ret
    exact ⟨rfl, hM⟩
  obtain ⟨m, rfl⟩ : ∃ m : Nat, n = m := ⟨n.toNat, by omega⟩
  have hm30 : m ≤ 30 := by omega
  have hlo2 : ¬ ((m : Int) < 0) := by omega
  have hhi2 : ¬ ((30 : Int) < (m : Int)) := by omega
  have hmx : (if (m : Int) < 0 then (0 : Int) else (m : Int)) = (m : Int) := if_neg hlo2
  have HNF := Lib.hid (nobig1 s hs1)
  clear hlo hhi hn1 hn2
  go_enter Try.func10, Try.ntmps10
  go_wp2_with (first | (go_at_call 16; have hM0 := hM; clear hM; (first | (with_reducible refine (starq (HC1.out _) hM0).mono ?_) | fail); clear hM0; rintro _ w ⟨rfl, hM⟩) | (go_at_call 19; have hM0 := hM; clear hM; (first | (with_reducible refine (awake03 _ hM0).mono ?_) | fail); clear hM0; rintro _ w ⟨rfl, hM⟩) | (go_at_call 20; have hM0 := hM; clear hM; (first | (with_reducible refine (new_u (N := 3) (by decide) _ hM0).mono ?_) | fail); clear hM0; rintro _ w ⟨a, D0, h0, rfl, hM⟩) | (first | ((with_reducible refine at_slice' ?_); (have hM0 := hM; clear hM; refine BigFrame.wpList_want (by rfl) fun K hK => ws_slice_row hM0 (n := 1) rfl 9 1 (.string ByteArray.empty) [sv s] Try.underlying22 (by kernel_rfl) rfl (by simp [Value.cells, iv, sv, bv]) (by rfl) (by decide) (cs := svs [s]) (by rfl) (fun g29 w hM => hK _ _ ?_); clear hM0 hK K)) | fail) | ((go_at_call 22; have hM0 := hM; clear hM; (first | (with_reducible refine (write_u (x := 1) (ts := [s]) 1 rfl h0.out.ok (by rw [h0.out.len]; decide) HNF.out h0.out.armed _ (hM0.take (x := diskE a D0) (by (repeat (first | (with_reducible exact Take.head) | apply Take.tail)); first | done | fail)) (by (repeat (first | assumption | (with_reducible exact mZ) | apply mS)); first | done | fail)).mono ?_) | fail); clear hM0; rintro _ w ⟨D1, h1, rfl, hM⟩); replace hM := hM.dopen) | (first | ((with_reducible refine at_load' ?_); (refine BigFrame.wpList_want (by rfl) fun K hK => ws_load1 hM rfl rfl (by (repeat (first | assumption | (with_reducible exact mZ) | apply mS)); first | done | fail) (by first | rfl | assumption) (by decide +kernel) (hK _ _ ?_); clear hK K)) | fail) | ((go_at_call 28; have hM0 := hM; clear hM; (first | (with_reducible refine (arm_f D1.armed D1.left (m : Int) _ (hM0.take (x := fE a D1.armed D1.left) (by (repeat (first | (with_reducible exact Take.head) | apply Take.tail)); first | done | fail))).mono ?_) | fail); clear hM0; rintro _ w ⟨rfl, hM⟩); rw [hmx] at hM))
  have hM3 : Star (diskE a (fuse_ D1 true (m : Int)) :: F) w := Star.djoin (D := fuse_ D1 true (m : Int)) (hM.sel (by repeat (first | (with_reducible exact Sel.refl) | (with_reducible exact Take.head) | (with_reducible apply Take.tail) | (with_reducible apply Sel.cons) | (with_reducible apply Sel.drop))) : Star (dE a D1.sure.length :: fE a true (m : Int) :: sE a D1.sure :: mE a (lmv D1) :: F) w)
  clear hM
  have hM := hM3
  clear hM3
  have hD1 := h1.out.ok
  have hl1 : D1.sure.length = 3 := by rw [h1.out.sure, h0.out.len]
  obtain ⟨wq, rfl⟩ : ∃ wq : World, wq = w := ⟨_, rfl⟩
  go_loopw [6] (fun i wr => ∃ k : Nat, k ≤ m ∧ i = .int .i64 k ∧ Star (diskE a (fuse_ D1 true ((m : Int) - (k : Int))) :: F) wr) (fun i _ => m - (intOf i).toNat)
  case atStart => exact ⟨0, by omega, rfl, by simpa using hM⟩
  case round =>
    clear hM
    obtain ⟨k, hk, rfl, hM⟩ := hrel
    by_cases hlt : k < m
    · have hok := fuse_ok hD1 true ((m : Int) - (k : Int)) (by omega) (by omega) (fun _ => by omega)
      have HR : Hid (∀ (L : List SProp) (w : World), Star (diskE a (fuse_ D1 true ((m : Int) - (k : Int))) :: L) w → Calls Try.prog 24 #[dptr a, .int .i64 0, .int .i64 3] w fun r w' => ∃ z : List UInt8, r = .returned (.tuple #[.string ⟨z.toArray⟩, .int .i64 0]) ∧ Star (diskE a (fuse_ D1 true ((m : Int) - ((k + 1 : Nat) : Int))) :: L) w') := fun L w hM => by
        have := read_ok hok 0 3 (by show 3 ≤ D1.sure.length; omega) (fun _ => by show (m : Int) - (k : Int) ≠ 0; omega) w hM
        refine this.mono fun r w' ⟨e, h⟩ => ⟨_, e, ?_⟩
        have e2 : (fuse_ D1 true ((m : Int) - (k : Int))).dec = fuse_ D1 true ((m : Int) - ((k + 1 : Nat) : Int)) := by
          show ({ D1 with armed := true, left := IntKind.i64.wrap ((m : Int) - (k : Int) - 1) } : Dsk) = _
          rw [IntWalk.i64_in _ (by omega)]
          have : (m : Int) - (k : Int) - 1 = (m : Int) - ((k + 1 : Nat) : Int) := by omega
          rw [this]
        rw [← e2]
        exact h
      go_wp2_with (first | (go_at_call 24; have hM0 := hM; clear hM; (first | (with_reducible refine (HR.out _ _ hM0).mono ?_) | fail); clear hM0; rintro _ w ⟨z, rfl, hM⟩))
      go_roundw
      case rel => exact ⟨k + 1, by omega, by go_num, hM⟩
      case measure => simp [intOf]; omega
    · obtain rfl : k = m := by omega
      rw [Int.sub_self] at hM
      have hok := fuse_ok hD1 true 0 (by omega) (by omega) (fun _ => by omega)
      have hokc := fuse_ok hD1 false 0 (by omega) (by omega) (fun _ => by omega)
      have HRF : Hid (∀ (L : List SProp) (w : World), Star (diskE a (fuse_ D1 true 0) :: L) w → Calls Try.prog 24 #[dptr a, .int .i64 1, .int .i64 1] w fun r w' => r = .returned (.tuple #[.string ⟨([] : List UInt8).toArray⟩, .int .i64 13]) ∧ Star (diskE a (fuse_ D1 true 0) :: L) w') := fun L w hM => read_fail hok 1 1 (by show 2 ≤ D1.sure.length; omega) rfl rfl w hM
      have HWF : Hid (∀ (L : List SProp) (g : Nat) (w : World), Star (diskE a (fuse_ D1 true 0) :: L) w → rowE 1 (some ⟨g, 0, none⟩) 1 (svs [[101, 108, 115, 101]]) ∈ L → Calls Try.prog 22 #[dptr a, .int .i64 1, .slice (some ⟨g, 0, none⟩) 1 1] w fun r w' => r = .returned (.int .i64 13) ∧ Star (diskE a (fuse_ D1 true 0) :: L) w') := fun L g w hM hx => write_fail (ts := [[101, 108, 115, 101]]) hok 1 (by show 2 ≤ D1.sure.length; omega) (by decide) rfl rfl w hM hx
      have HWO : Hid (∀ (L : List SProp) (g : Nat) (w : World), Star (diskE a (fuse_ D1 true 0) :: L) w → Calls Try.prog 22 #[dptr a, .int .i64 9, .slice (some ⟨g, 0, none⟩) 1 1] w fun r w' => r = .returned (.int .i64 10) ∧ Star (diskE a (fuse_ D1 true 0) :: L) w') := fun L g w hM => write_out (ts := [[120]]) (n := 1) hok 9 (by show inD D1.sure.length 9 1 = false; rw [hl1]; rfl) w hM
      have HSF : Hid (∀ (L : List SProp) (w : World), Star (diskE a (fuse_ D1 true 0) :: L) w → Calls Try.prog 23 #[dptr a] w fun r w' => r = .returned (.int .i64 13) ∧ Star (diskE a (fuse_ D1 true 0) :: L) w') := fun L w hM => sync_fail rfl rfl w hM
      have HL : Hid (∀ (L : List SProp) (w : World), Star (diskE a (fuse_ D1 true 0) :: L) w → Calls Try.prog 26 #[dptr a] w fun r w' => ∃ A c, r = .returned (.slice A 1 c) ∧ Star (dE a D1.sure.length :: fE a true 0 :: sE a D1.sure :: mE a (lmv D1) :: L) w') := fun L w hM => by
        have := loose_d hok w hM
        rw [show (fuse_ D1 true 0).keys.length = 1 from keys_second hl1 fun i => by
          show D1.l i = _
          rw [h1.out.l, h0.out.l]
          simp] at this
        exact this.mono fun _ _ ⟨A, c, e, h⟩ => ⟨A, c, e, (h.tail : Star (diskE a (fuse_ D1 true 0) :: L) _).dopen⟩
      have tok1 : True := trivial
      have HW := h1
      clear hok
      go_wp2_with (first | (go_at_call 24; have hM0 := hM; clear hM; (first | (with_reducible refine (HRF.out _ _ (hM0.take (x := diskE a (fuse_ D1 true 0)) (by (repeat (first | (with_reducible exact Take.head) | apply Take.tail)); first | done | fail))).mono ?_) | fail); clear hM0; rintro _ w ⟨rfl, hM⟩) | (have _t := tok1; (first | ((with_reducible refine at_slice' ?_); (have hM0 := hM; clear hM; refine BigFrame.wpList_want (by rfl) fun K hK => ws_slice_row hM0 (n := 1) rfl 9 1 (.string ByteArray.empty) [sv [101, 108, 115, 101]] Try.underlying22 (by kernel_rfl) rfl (by simp [Value.cells, iv, sv, bv]) (by rfl) (by decide) (cs := svs [[101, 108, 115, 101]]) (by rfl) (fun g58 w hM => hK _ _ ?_); clear hM0 hK K)) | fail); clear tok1) | (first | ((with_reducible refine at_slice' ?_); (have hM0 := hM; clear hM; refine BigFrame.wpList_want (by rfl) fun K hK => ws_slice_row hM0 (n := 1) rfl 9 1 (.string ByteArray.empty) [sv [120]] Try.underlying22 (by kernel_rfl) rfl (by simp [Value.cells, iv, sv, bv]) (by rfl) (by decide) (cs := svs [[120]]) (by rfl) (fun g69 w hM => hK _ _ ?_); clear hM0 hK K)) | fail) | (go_at_call 22; have hM0 := hM; clear hM; (first | (with_reducible refine (HWF.out _ _ _ (hM0.take (x := diskE a (fuse_ D1 true 0)) (by (repeat (first | (with_reducible exact Take.head) | apply Take.tail)); first | done | fail)) (by (repeat (first | assumption | (with_reducible exact mZ) | apply mS)); first | done | fail)).mono ?_) | fail); clear hM0; rintro _ w ⟨rfl, hM⟩) | (go_at_call 22; have hM0 := hM; clear hM; (first | (with_reducible refine (HWO.out _ _ _ (hM0.take (x := diskE a (fuse_ D1 true 0)) (by (repeat (first | (with_reducible exact Take.head) | apply Take.tail)); first | done | fail))).mono ?_) | fail); clear hM0; rintro _ w ⟨rfl, hM⟩) | (go_at_call 23; have hM0 := hM; clear hM; (first | (with_reducible refine (HSF.out _ _ (hM0.take (x := diskE a (fuse_ D1 true 0)) (by (repeat (first | (with_reducible exact Take.head) | apply Take.tail)); first | done | fail))).mono ?_) | fail); clear hM0; rintro _ w ⟨rfl, hM⟩) | (go_at_call 26; have hM0 := hM; clear hM; (first | (with_reducible refine (HL.out _ _ (hM0.take (x := diskE a (fuse_ D1 true 0)) (by (repeat (first | (with_reducible exact Take.head) | apply Take.tail)); first | done | fail))).mono ?_) | fail); clear hM0; rintro _ w ⟨A, c, rfl, hM⟩) | (first | ((with_reducible refine at_load' ?_); (refine BigFrame.wpList_want (by rfl) fun K hK => ws_load1 hM rfl rfl (by (repeat (first | assumption | (with_reducible exact mZ) | apply mS)); first | done | fail) (by first | rfl | assumption) (by decide +kernel) (hK _ _ ?_); clear hK K)) | fail) | (go_at_call 29; have hM0 := hM; clear hM; (first | (with_reducible refine (clear_f true 0 _ (hM0.take (x := fE a true 0) (by (repeat (first | (with_reducible exact Take.head) | apply Take.tail)); first | done | fail))).mono ?_) | fail); clear hM0; rintro _ w ⟨rfl, hM⟩))
      have hM3 : Star (diskE a (fuse_ D1 false 0) :: F) w := Star.djoin (D := fuse_ D1 false 0) (hM.sel (by repeat (first | (with_reducible exact Sel.refl) | (with_reducible exact Take.head) | (with_reducible apply Take.tail) | (with_reducible apply Sel.cons) | (with_reducible apply Sel.drop))) : Star (dE a D1.sure.length :: fE a false 0 :: sE a D1.sure :: mE a (lmv D1) :: F) w)
      clear hM
      have hM := hM3
      clear hM3
      have hnw : rdD (fuse_ D1 false 0) 1 1 = pad64 s := by
        rw [rdD_one]
        show D1.nw 1 = _
        rw [h1.out.nw, if_pos (by simp)]
        rfl
      have hpl := pad64_len s
      have hpt := pad_take hs1
      have HR2 : Hid (∀ (L : List SProp) (w : World), Star (diskE a (fuse_ D1 false 0) :: L) w → Calls Try.prog 24 #[dptr a, .int .i64 1, .int .i64 1] w fun r w' => ∃ D', Hid (RPost (fuse_ D1 false 0) D') ∧ r = .returned (.tuple #[.string ⟨(pad64 s).toArray⟩, .int .i64 0]) ∧ Star (diskE a D' :: L) w') := fun L w hM => by
        have := read_u (x := 1) (y := 1) 1 1 rfl rfl hokc (by show 2 ≤ D1.sure.length; omega) rfl w hM
        rwa [hnw] at this
      obtain ⟨y, hy⟩ : ∃ y, pad64 s = y := ⟨_, rfl⟩
      rw [hy] at HR2 hpl hpt
      clear hy hnw hokc
      have hsI : (s.length : Int) ≤ 64 := by omega
      go_wp2_with (first | (go_at_call 24; have hM0 := hM; clear hM; (first | (with_reducible refine (HR2.out _ _ hM0).mono ?_) | fail); clear hM0; rintro _ w ⟨D3, h3, rfl, hM⟩) | (go_at_call 23; have hM0 := hM; clear hM; (first | (with_reducible refine (sync_u h3.out.ok h3.out.armed _ (hM0.take (x := diskE a D3) (by (repeat (first | (with_reducible exact Take.head) | apply Take.tail)); first | done | fail))).mono ?_) | fail); clear hM0; rintro _ w ⟨D4, h4, rfl, hM⟩))
      go_ret
      exact ⟨rfl, hM.sel (by repeat (first | (with_reducible exact Sel.refl) | (with_reducible exact Take.head) | (with_reducible apply Take.tail) | (with_reducible apply Sel.cons) | (with_reducible apply Sel.drop)))⟩
end Go.Proofs.Ytbejifbiffeamaa
