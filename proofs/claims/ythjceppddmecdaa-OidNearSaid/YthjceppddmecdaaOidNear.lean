/- OidNear: for all texts the law answers true. No condition. -/
import Derived.Test.YthjceppddmecdaaOidA
import Derived.Test.YthjceppddmecdaaLaw
set_option linter.unusedSimpArgs false
set_option linter.unusedVariables false
namespace Go.Proofs.Ythjceppddmecdaa
open Go.RowKit
attribute [local go_sem] extract_mid extract_drop bget bsize wrap64_u8 i64_u8 u64_u8 bappend
section
variable {P : Program} {w : World} {o : Oper} {a : Act} {t ty : TypeId} {x y : Operand} {s u : List UInt8}
theorem ex_str_lss (ho : o.op = .binOp .lss t x y ty) (hx : a.eval x = .string ⟨s.toArray⟩) (hy : a.eval y = .string ⟨u.toArray⟩) {b : Bool} (hb : Op.bytesLess s u = b) : (execOp a.eval o).run P w = .ok (.value (.bool b)) w := by
  subst hb
  unfold execOp
  simp only [ho, hx, hy]
  simp [go_sem]
theorem ex_str_gtr (ho : o.op = .binOp .gtr t x y ty) (hx : a.eval x = .string ⟨s.toArray⟩) (hy : a.eval y = .string ⟨u.toArray⟩) {b : Bool} (hb : (!(Op.bytesLess s u || s == u)) = b) : (execOp a.eval o).run P w = .ok (.value (.bool b)) w := by
  subst hb
  unfold execOp
  simp only [ho, hx, hy]
  simp [go_sem, binOp, Op.stringOp]
end
theorem gtr_num (a b : List UInt8) (h : a.length = b.length) : (!(Op.bytesLess a b || a == b)) = decide (numOf b < numOf a) := by
  rw [less_num a b h, Bool.eq_iff_iff]
  simp only [Bool.not_eq_true', Bool.or_eq_false_iff, decide_eq_false_iff_not, beq_eq_false_iff_ne, ne_eq, decide_eq_true_eq]
  constructor
  · rintro ⟨h1, h2⟩
    have : numOf a ≠ numOf b := fun e => h2 (numOf_inj h e)
    omega
  · intro h1
    exact ⟨by omega, fun e => by subst e; omega⟩
theorem cmpN_range (A B : Nat) : -1 ≤ cmpN A B ∧ cmpN A B ≤ 1 := by unfold cmpN; split <;> (try split) <;> omega
set_option maxRecDepth 100000 in
set_option maxHeartbeats 8000000 in
theorem oidNear_walk {F : List SProp} (a0 : List UInt8) (_w0 : a0.length ≤ 9223372036854775807) (b0' : List UInt8) (_w1 : b0'.length ≤ 9223372036854775807) (c0 : List UInt8) (_w2 : c0.length ≤ 9223372036854775807) (w : World) (hM : Star F w) :
    Calls Try.prog 3 #[.string ⟨a0.toArray⟩, .string ⟨b0'.toArray⟩, .string ⟨c0.toArray⟩] w fun r w' => r = .returned (.bool true) ∧ Star F w' := by
  have N1 := name_any a0
  have N2 := name_any b0'
  have N3 := name_any c0
  have hx := idOf_len a0
  have hy := idOf_len b0'
  have hz := idOf_len c0
  generalize idOf a0 = x at N1 hx
  generalize idOf b0' = y at N2 hy
  generalize idOf c0 = z at N3 hz
  have X1 := numOf_lt x
  have X2 := numOf_lt y
  rw [hx, pow256] at X1
  rw [hy, pow256] at X2
  obtain ⟨s, hs⟩ := IsShared.exists_ (numOf x ^^^ numOf y) (Nat.xor_lt_two_pow X1 X2)
  clear X1 X2
  have hxl : (xorL x y).length = 32 := by rw [xorL_len x y (by omega), hx]
  have CX : ∀ {L : List SProp} (w : World), Star L w → Calls Try.prog 16 #[.agg (bvs x).toArray, .agg (bvs y).toArray] w fun r w' => r = .returned (.agg (bvs (xorL x y)).toArray) ∧ Star L w' := fun w hM => xor_star x y hx hy w hM
  have CB : ∀ {L : List SProp} (w : World), Star L w → Calls Try.prog 14 #[.agg (bvs (xorL x y)).toArray] w fun r w' => r = .returned (.string ⟨(xorL x y).toArray⟩) ∧ Star L w' := fun w hM => obytes_star _ hxl w hM
  have RX : ∀ {L : List SProp} (w : World), Star L w → Calls Try.prog 17 #[.string ⟨x.toArray⟩, .string ⟨y.toArray⟩] w fun r w' => r = .returned (.string ⟨(xorL x y).toArray⟩) ∧ Star L w' := fun w hM => rXor_star x y hx hy w hM
  generalize xorL x y = xy at CX CB RX hxl
  have CS : ∀ {L : List SProp} (w : World), Star L w → Calls Try.prog 18 #[.agg (bvs x).toArray, .agg (bvs y).toArray] w fun r w' => r = .returned (.int .i64 s) ∧ Star L w' := fun w hM => shared_star x y hx hy s hs w hM
  have RSH : ∀ {L : List SProp} (w : World), Star L w → Calls Try.prog 19 #[.string ⟨x.toArray⟩, .string ⟨y.toArray⟩] w fun r w' => r = .returned (.int .i64 s) ∧ Star L w' := fun w hM => rShared_star x y hx hy s hs w hM
  have CC : ∀ {L : List SProp} (w : World), Star L w → Calls Try.prog 20 #[.agg (bvs x).toArray, .agg (bvs y).toArray, .agg (bvs z).toArray] w fun r w' => r = .returned (.bool (decide (numOf x ^^^ numOf y < numOf x ^^^ numOf z))) ∧ Star L w' := fun w hM => closer_star x y z hx hy hz w hM
  have RC : ∀ {L : List SProp} (w : World), Star L w → Calls Try.prog 21 #[.string ⟨x.toArray⟩, .string ⟨y.toArray⟩, .string ⟨z.toArray⟩] w fun r w' => r = .returned (.bool (decide (numOf x ^^^ numOf y < numOf x ^^^ numOf z))) ∧ Star L w' := fun w hM => rCloser_star x y z hx hy hz w hM
  generalize decide (numOf x ^^^ numOf y < numOf x ^^^ numOf z) = near at CC RC
  have CO : ∀ {L : List SProp} (w : World), Star L w → Calls Try.prog 22 #[.agg (bvs x).toArray, .agg (bvs y).toArray] w fun r w' => r = .returned (.int .i64 (cmpN (numOf x) (numOf y))) ∧ Star L w' := fun w hM => compare_star x y hx hy w hM
  have hless : Op.bytesLess x y = decide (cmpN (numOf x) (numOf y) < 0) := by rw [less_num x y (by omega)]; simp only [cmpN_lt]
  have hgtr : (!(Op.bytesLess x y || x == y)) = decide (0 < cmpN (numOf x) (numOf y)) := by rw [gtr_num x y (by omega)]; simp only [cmpN_gt]
  obtain ⟨hr1, hr2⟩ := cmpN_range (numOf x) (numOf y)
  generalize cmpN (numOf x) (numOf y) = cm at CO hless hgtr hr1 hr2
  clear hs
  have HLS := Lib.hid hless
  have HGT := Lib.hid hgtr
  have HX := Lib.hid hx
  have HY := Lib.hid hy
  have HZ := Lib.hid hz
  clear hless hgtr hxl
  have tok1 : True := trivial
  have tok2 : True := trivial
  have t1 : True := trivial
  have t2 : True := trivial
  go_enter Try.func3, Try.ntmps3
  go_wp2_with (first | (go_at_call 13; have hM0 := hM; clear hM; (first | (with_reducible refine (star0 (N1 _) hM0).mono ?_) | fail); clear hM0; rintro _ w ⟨rfl, hM⟩) | (go_at_call 13; have hM0 := hM; clear hM; (first | (with_reducible refine (star0 (N2 _) hM0).mono ?_) | fail); clear hM0; rintro _ w ⟨rfl, hM⟩) | (go_at_call 13; have hM0 := hM; clear hM; (first | (with_reducible refine (star0 (N3 _) hM0).mono ?_) | fail); clear hM0; rintro _ w ⟨rfl, hM⟩) | (have _t := tok1; (first | (have hM0 := hM; clear hM; refine BigFrame.wpList_want (by rfl) fun K hK => ws_alloc hM0 (t := 23) rfl (bvs z32).toArray info_id (fun g7 w hM => hK _ _ ?_); clear hM0 hK K) | fail); clear tok1) | (have _t := tok2; (first | (have hM0 := hM; clear hM; refine BigFrame.wpList_want (by rfl) fun K hK => ws_alloc hM0 (t := 23) rfl (bvs z32).toArray info_id (fun g8 w hM => hK _ _ ?_); clear hM0 hK K) | fail); clear tok2) | (first | (have hM0 := hM; clear hM; refine BigFrame.wpList_want (by rfl) fun K hK => ws_alloc hM0 (t := 23) rfl (bvs z32).toArray info_id (fun g9 w hM => hK _ _ ?_); clear hM0 hK K) | fail) | (first | (have hM0 := hM; clear hM; refine BigFrame.wpList_want (by rfl) fun K hK => ws_store hM0 rfl rfl rfl (by (repeat (first | (with_reducible exact Take.head) | apply Take.tail)); first | done | fail) (n := 32) (by simp [bvs_len, HX.out, HY.out, HZ.out]) (by simp [bvs_len, z32_len]) (by kernel_rfl) (by simpa using bvs_oneCell _) (fun w hM => hK _ _ ?_); clear hM0 hK K) | fail))
  (refine region_RS ([cellsE g7 23 (bvs x).toArray, cellsE g8 23 (bvs y).toArray, cellsE g9 23 (bvs z).toArray]) [] (by kernel_rfl) hM ?_; clear hM; change RS _ _ _ _ _ _ 9 (Array.replicate 9 false) _ _; refine RS_take (i := 0) rfl (by decide +kernel) (fun _ _ _ h => h) (by first | (intro x hx; (repeat (first | exact hx | apply List.mem_cons_of_mem)); done) | ((repeat (refine List.forall_mem_cons.2 ⟨(by (repeat (first | assumption | (with_reducible exact List.mem_cons_self) | apply List.mem_cons_of_mem)); first | done | fail), ?_⟩)); intro x hx; first | (cases hx; done) | ((repeat (first | exact hx | apply List.mem_cons_of_mem)); done))) (stab_read (by rfl) (fun L w hL hM => (ex_load hM rfl rfl (hL _ (by (repeat (first | assumption | (with_reducible exact List.mem_cons_self) | apply List.mem_cons_of_mem)); first | done | fail)) (n := 32) (by simp [bvs_len, HX.out]) (by decide +kernel)))) ?_; simp only [Act.put, List.setIfInBounds_toArray, List.set_cons_zero, List.set_cons_succ]; refine RS_take (i := 1) rfl (by decide +kernel) (fun _ _ _ h => h) (by first | (intro x hx; (repeat (first | exact hx | apply List.mem_cons_of_mem)); done) | ((repeat (refine List.forall_mem_cons.2 ⟨(by (repeat (first | assumption | (with_reducible exact List.mem_cons_self) | apply List.mem_cons_of_mem)); first | done | fail), ?_⟩)); intro x hx; first | (cases hx; done) | ((repeat (first | exact hx | apply List.mem_cons_of_mem)); done))) (stab_call (by rfl) (fun w => (by go_simp; try with_reducible rfl)) (fun L w hL hM => (obytes_star x HX.out w hM))) ?_; simp only [Act.put, List.setIfInBounds_toArray, List.set_cons_zero, List.set_cons_succ]; refine RS_take (i := 2) rfl (by decide +kernel) (fun _ _ _ h => h) (by first | (intro x hx; (repeat (first | exact hx | apply List.mem_cons_of_mem)); done) | ((repeat (refine List.forall_mem_cons.2 ⟨(by (repeat (first | assumption | (with_reducible exact List.mem_cons_self) | apply List.mem_cons_of_mem)); first | done | fail), ?_⟩)); intro x hx; first | (cases hx; done) | ((repeat (first | exact hx | apply List.mem_cons_of_mem)); done))) (stab_read (by rfl) (fun L w hL hM => (ex_load hM rfl rfl (hL _ (by (repeat (first | assumption | (with_reducible exact List.mem_cons_self) | apply List.mem_cons_of_mem)); first | done | fail)) (n := 32) (by simp [bvs_len, HY.out]) (by decide +kernel)))) ?_; simp only [Act.put, List.setIfInBounds_toArray, List.set_cons_zero, List.set_cons_succ]; refine RS_take (i := 3) rfl (by decide +kernel) (fun _ _ _ h => h) (by first | (intro x hx; (repeat (first | exact hx | apply List.mem_cons_of_mem)); done) | ((repeat (refine List.forall_mem_cons.2 ⟨(by (repeat (first | assumption | (with_reducible exact List.mem_cons_self) | apply List.mem_cons_of_mem)); first | done | fail), ?_⟩)); intro x hx; first | (cases hx; done) | ((repeat (first | exact hx | apply List.mem_cons_of_mem)); done))) (stab_call (by rfl) (fun w => (by go_simp; try with_reducible rfl)) (fun L w hL hM => (obytes_star y HY.out w hM))) ?_; simp only [Act.put, List.setIfInBounds_toArray, List.set_cons_zero, List.set_cons_succ]; refine RS_take (i := 4) rfl (by decide +kernel) (fun _ _ _ h => h) (by first | (intro x hx; (repeat (first | exact hx | apply List.mem_cons_of_mem)); done) | ((repeat (refine List.forall_mem_cons.2 ⟨(by (repeat (first | assumption | (with_reducible exact List.mem_cons_self) | apply List.mem_cons_of_mem)); first | done | fail), ?_⟩)); intro x hx; first | (cases hx; done) | ((repeat (first | exact hx | apply List.mem_cons_of_mem)); done))) (stab_read (by rfl) (fun L w hL hM => (ex_load hM rfl rfl (hL _ (by (repeat (first | assumption | (with_reducible exact List.mem_cons_self) | apply List.mem_cons_of_mem)); first | done | fail)) (n := 32) (by simp [bvs_len, HZ.out]) (by decide +kernel)))) ?_; simp only [Act.put, List.setIfInBounds_toArray, List.set_cons_zero, List.set_cons_succ]; refine RS_take (i := 5) rfl (by decide +kernel) (fun _ _ _ h => h) (by first | (intro x hx; (repeat (first | exact hx | apply List.mem_cons_of_mem)); done) | ((repeat (refine List.forall_mem_cons.2 ⟨(by (repeat (first | assumption | (with_reducible exact List.mem_cons_self) | apply List.mem_cons_of_mem)); first | done | fail), ?_⟩)); intro x hx; first | (cases hx; done) | ((repeat (first | exact hx | apply List.mem_cons_of_mem)); done))) (stab_call (by rfl) (fun w => (by go_simp; try with_reducible rfl)) (fun L w hL hM => (obytes_star z HZ.out w hM))) ?_; simp only [Act.put, List.setIfInBounds_toArray, List.set_cons_zero, List.set_cons_succ]; refine RS_take (i := 6) rfl (by decide +kernel) (fun _ _ _ h => h) (by first | (intro x hx; (repeat (first | exact hx | apply List.mem_cons_of_mem)); done) | ((repeat (refine List.forall_mem_cons.2 ⟨(by (repeat (first | assumption | (with_reducible exact List.mem_cons_self) | apply List.mem_cons_of_mem)); first | done | fail), ?_⟩)); intro x hx; first | (cases hx; done) | ((repeat (first | exact hx | apply List.mem_cons_of_mem)); done))) (stab_pure (by rfl) (fun w => (by go_simp; try with_reducible rfl))) ?_; simp only [Act.put, List.setIfInBounds_toArray, List.set_cons_zero, List.set_cons_succ]; refine RS_take (i := 7) rfl (by decide +kernel) (fun _ _ _ h => h) (by first | (intro x hx; (repeat (first | exact hx | apply List.mem_cons_of_mem)); done) | ((repeat (refine List.forall_mem_cons.2 ⟨(by (repeat (first | assumption | (with_reducible exact List.mem_cons_self) | apply List.mem_cons_of_mem)); first | done | fail), ?_⟩)); intro x hx; first | (cases hx; done) | ((repeat (first | exact hx | apply List.mem_cons_of_mem)); done))) (stab_pure (by rfl) (fun w => (by go_simp; try with_reducible rfl))) ?_; simp only [Act.put, List.setIfInBounds_toArray, List.set_cons_zero, List.set_cons_succ]; refine RS_take (i := 8) rfl (by decide +kernel) (fun _ _ _ h => h) (by first | (intro x hx; (repeat (first | exact hx | apply List.mem_cons_of_mem)); done) | ((repeat (refine List.forall_mem_cons.2 ⟨(by (repeat (first | assumption | (with_reducible exact List.mem_cons_self) | apply List.mem_cons_of_mem)); first | done | fail), ?_⟩)); intro x hx; first | (cases hx; done) | ((repeat (first | exact hx | apply List.mem_cons_of_mem)); done))) (stab_pure (by rfl) (fun w => (by go_simp; try with_reducible rfl))) ?_; simp only [Act.put, List.setIfInBounds_toArray, List.set_cons_zero, List.set_cons_succ]; refine RS_done (by decide +kernel) (.inl (by first | (intro x hx; (repeat (first | exact hx | apply List.mem_cons_of_mem)); done) | ((repeat (refine List.forall_mem_cons.2 ⟨(by (repeat (first | assumption | (with_reducible exact List.mem_cons_self) | apply List.mem_cons_of_mem)); first | done | fail), ?_⟩)); intro x hx; first | (cases hx; done) | ((repeat (first | exact hx | apply List.mem_cons_of_mem)); done)))) (fun w hM => ?_))
  go_wp2_with (first | (go_at_call 15; have hM0 := hM; clear hM; (first | (with_reducible refine (awake02 _ hM0).mono ?_) | fail); clear hM0; rintro _ w ⟨rfl, hM⟩) | (first | (refine BigFrame.wpList_want (by rfl) fun K hK => ws_load hM rfl rfl (by (repeat (first | assumption | (with_reducible exact List.mem_cons_self) | apply List.mem_cons_of_mem)); first | done | fail) (n := 32) (by simp [bvs_len, HX.out, HY.out, HZ.out]) (by decide +kernel) (hK _ _ ?_); clear hK K) | fail) | (go_at_call 16; have hM0 := hM; clear hM; (first | (with_reducible refine (CX _ hM0).mono ?_) | fail); clear hM0; rintro _ w ⟨rfl, hM⟩) | (go_at_call 14; have hM0 := hM; clear hM; (first | (with_reducible refine (CB _ hM0).mono ?_) | fail); clear hM0; rintro _ w ⟨rfl, hM⟩) | (go_at_call 17; have hM0 := hM; clear hM; (first | (with_reducible refine (RX _ hM0).mono ?_) | fail); clear hM0; rintro _ w ⟨rfl, hM⟩) | (go_at_call 18; have hM0 := hM; clear hM; (first | (with_reducible refine (CS _ hM0).mono ?_) | fail); clear hM0; rintro _ w ⟨rfl, hM⟩) | (go_at_call 19; have hM0 := hM; clear hM; (first | (with_reducible refine (RSH _ hM0).mono ?_) | fail); clear hM0; rintro _ w ⟨rfl, hM⟩) | (go_at_call 20; have hM0 := hM; clear hM; (first | (with_reducible refine (CC _ hM0).mono ?_) | fail); clear hM0; rintro _ w ⟨rfl, hM⟩) | (go_at_call 21; have hM0 := hM; clear hM; (first | (with_reducible refine (RC _ hM0).mono ?_) | fail); clear hM0; rintro _ w ⟨rfl, hM⟩) | (go_at_call 22; have hM0 := hM; clear hM; (first | (with_reducible refine (CO _ hM0).mono ?_) | fail); clear hM0; rintro _ w ⟨rfl, hM⟩) | (refine BigFrame.wpList_want (by rfl) fun K hK => ws_of_ex (ex_str_lss rfl rfl rfl HLS.out) (hK _ _ ?_); clear hK K) | (refine BigFrame.wpList_want (by rfl) fun K hK => ws_of_ex (ex_str_gtr rfl rfl rfl HGT.out) (hK _ _ ?_); clear hK K))
  go_ret
  exact ⟨rfl, hM.sel (by repeat (first | (with_reducible exact Sel.refl) | (with_reducible exact Take.head) | (with_reducible apply Take.tail) | (with_reducible apply Sel.cons) | (with_reducible apply Sel.drop)))⟩
end Go.Proofs.Ythjceppddmecdaa
