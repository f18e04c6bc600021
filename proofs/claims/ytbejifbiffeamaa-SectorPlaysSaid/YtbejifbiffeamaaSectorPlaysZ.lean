/- The statement SectorPlays, from its walk. No condition but those that each theorem names. -/
import Derived.Test.YtbejifbiffeamaaV1
import Derived.Test.YtbejifbiffeamaaV6
set_option linter.unusedSimpArgs false
set_option linter.unusedVariables false
namespace Go.Proofs.Ytbejifbiffeamaa
open Go.RowKit
attribute [local go_sem] extract_mid extract_drop bget bsize wrap64_u8 i64_u8 u64_u8 bappend
def a3vs (l : List Ac3) : List Value := l.flatMap ac3C
theorem ac3C_len (p : Ac3) : (ac3C p).length = 6 := rfl
theorem Star.elemA3 {L : List SProp} {w : World} {A : Option Addr} {n k : Nat} {l : List Ac3} (h : Star L w) (hx : rowE 6 A n (a3vs l) ∈ L) (hk : k < n) :
    ∃ ad p, A = some ad ∧ Hid (∀ q v, (ac3C p)[q]? = some v → (a3vs l)[k * 6 + q]? = some v) ∧ l[k]? = some p := by
  obtain ⟨ad, d, h1, _, h3, _⟩ := Rd.elems (f := ac3C) (h.row hx) (fun x _ => ac3C_len x) (by omega) hk
  exact ⟨ad, d, h1, fun j v hv => flat_get ac3C 6 l (fun x _ => ac3C_len x) k d h3 j v hv, h3⟩
section
variable {F L R : List SProp} {a : DA} {D : Dsk} {A B C : Option Addr} {c d e N : Nat} {p : Ac3}
theorem does3_any (h : Hid D.ok) (hN : Hid (D.sure.length = N)) (hN2 : N ≤ 12) (hp : Ac3Ok p) (w : World) (hM0 : Star L w) (hx : Take (diskE a D) L R) (hA : rowE 1 A N (svs D.sure) ∈ R) (hB : rowE 1 B N (svs D.now) ∈ R) (hC : rowE 1 C N (lovs D.lo) ∈ R) (hT : rowE 1 p.TA p.tn (svs p.ts) ∈ R) (hCh : rowE 1 p.CA p.cn (ivs p.ch) ∈ R) :
    Calls Try.prog 34 #[dptr a, .agg (srV A c B d C e N (fuD D)), .agg (ac3C p).toArray] w (DoesD a N R) := by
  have hM : Star (diskE a D :: SRow D A B C N R) w := by
    have g0 : Star (diskE a D :: R) w := hM0.take hx
    have g1 := ((g0.dup_rowS (List.mem_cons_of_mem _ hC)).dup_rowS (List.mem_cons_of_mem _ (List.mem_cons_of_mem _ hB))).dup_rowS (List.mem_cons_of_mem _ (List.mem_cons_of_mem _ (List.mem_cons_of_mem _ hA)))
    exact g1.perm (List.perm_append_comm (l₁ := [rowE 1 A N (svs D.sure), rowE 1 B N (svs D.now), rowE 1 C N (lovs D.lo)]) (l₂ := [diskE a D]) |>.append_right R)
  by_cases e1 : p.kk = 1
  · exact does3_1 h hN hN2 e1 hp w hM hT hCh
  by_cases e2 : p.kk = 2
  · exact does3_2 h hN hN2 e2 hp w hM hT hCh
  by_cases e3 : p.kk = 3
  · exact does3_3 h hN hN2 e3 hp w hM hT hCh
  by_cases e4 : p.kk = 4
  · exact does3_4 h hN hN2 e4 hp w hM hT hCh
  by_cases e5 : p.kk = 5
  · exact does3_5 h hN hN2 e5 hp w hM hT hCh
  by_cases e6 : p.kk = 6
  · exact does3_6 h hN hN2 e6 hp w hM hT hCh
  by_cases e7 : p.kk = 7
  · exact does3_7 h hN hN2 e7 hp w hM hT hCh
  exact does3_0 h hN hN2 (by omega) hp w hM hT hCh
theorem Star.cl_join {G fe de se me X : SProp} {w : World} (hM : Star (G :: fe :: de :: se :: me :: R) w) (hj : ∀ L, Star (de :: fe :: se :: me :: L) w → Star (X :: L) w) : Star (G :: X :: R) w :=
  (hj _ ((hM.perm (List.perm_append_comm (l₁ := [G]) (l₂ := [fe, de, se, me]) |>.append_right R)).perm (List.Perm.swap _ _ _))).perm (List.Perm.swap _ _ _)
theorem fuD_off {D : Dsk} (h : D.armed = false) : fuD D = -1 := by unfold fuD; rw [h]; rfl
theorem cr_keys (D : Dsk) (ch : List Int) : (crD D ch).dec.keys = [] := calm_keys D (upd D.sure (crL D ch))
theorem Star.nilints {w : World} (hM : Star L w) : Star (rowE 1 none 0 (ivs []) :: L) w := hM.free (fun k ⟨ad, e, _⟩ => by cases e) Rd.none_
theorem calm_fail {D : Dsk} (h : D.armed = false) : failD D = false := by unfold failD; rw [h]; rfl
theorem read_all {D : Dsk} (hN : D.sure.length = N) (hf : D.armed = false) : readE3 D 0 N = 0 ∧ readB3 D 0 N = rdD D 0 N ∧ readG3 D 0 N = D.dec := by
  have ho : readO D 0 N := ⟨by omega, by omega, by rw [hN]; omega, by rw [hN]; omega⟩
  unfold readE3 readB3 readG3
  rw [if_pos ho, if_pos ho, if_pos ho, calm_fail hf, if_neg (by decide), if_neg (by decide), if_neg (by decide)]
  exact ⟨rfl, rfl, rfl⟩
set_option maxRecDepth 100000 in
set_option maxHeartbeats 16000000 in
theorem sectorPlays_core {F : List SProp} (n : Int) (PA : Option Addr) (pn pc : Nat) (acts : List Ac3) (hacts : ∀ p ∈ acts, Ac3Ok p) (hpn : pn ≤ 9223372036854775807) (w : World) (hM : Star F w) (hF : rowE 6 PA pn (a3vs acts) ∈ F) (hT : ∀ p ∈ acts, rowE 1 p.TA p.tn (svs p.ts) ∈ F) (hCh : ∀ p ∈ acts, rowE 1 p.CA p.cn (ivs p.ch) ∈ F) :
    Calls Try.prog 12 #[.int .i64 n, .slice PA pn pc] w fun r w' => r = .returned (.bool true) ∧ Star F w' := by
  obtain ⟨N, hN⟩ : ∃ N : Nat, min (max n 0) 12 = N := ⟨(min (max n 0) 12).toNat, by omega⟩
  have hN12 : N ≤ 12 := by omega
  have HNW : Hid (∀ (L : List SProp) (w : World), Star L w → Calls Try.prog 20 #[.int .i64 N] w fun r w' => ∃ a : DA, r = .returned (dptr a) ∧ Star (diskE a (newD N) :: L) w') := fun L w hM => new_d (by omega) w hM
  have HRN : Hid (∀ (L : List SProp) (w : World), Star L w → Calls Try.prog 33 #[.int .i64 N] w fun r w' => ∃ A c B d C e, r = .returned (.agg (srV A c B d C e N (-1))) ∧ Star (SRow (newD N) A B C N L) w') := fun L w hM => new_s N rfl (by omega) w hM
  have HO0 : Hid ((newD N).ok) := newD_ok (by omega)
  have HL0 : Hid ((newD N).sure.length = N) := newD_len N
  have HAC := Lib.hid hacts
  have HPF := Lib.hid hF
  have HTT := Lib.hid hT
  have HCC := Lib.hid hCh
  clear hacts hF hT hCh
  go_enter Try.func12, Try.ntmps12
  go_wp2_with (first | (go_at_call 19; have hM0 := hM; clear hM; (first | (with_reducible refine (awake03 _ hM0).mono ?_) | fail); clear hM0; rintro _ w ⟨rfl, hM⟩) | (go_at_call 20; have hM0 := hM; clear hM; (first | (with_reducible refine (HNW.out _ _ hM0).mono ?_) | fail); clear hM0; rintro _ w ⟨a, rfl, hM⟩) | (go_at_call 33; have hM0 := hM; clear hM; (first | (with_reducible refine (HRN.out _ _ hM0).mono ?_) | fail); clear hM0; rintro _ w ⟨A, c, B, d, C, e, rfl, hM⟩) | (first | ((with_reducible refine at_alloc' ?_); (have hM0 := hM; clear hM; refine BigFrame.wpList_want (by rfl) fun K hK => ws_alloc hM0 (t := 63) rfl #[.slice none 0 0, .slice none 0 0, .slice none 0 0, .int .i64 0] info_srz (fun g6 w hM => hK _ _ ?_); clear hM0 hK K)) | fail) | (first | ((with_reducible refine at_store' ?_); (have hM0 := hM; clear hM; refine BigFrame.wpList_want (by rfl) fun K hK => ws_store hM0 rfl rfl rfl (by (repeat (first | (with_reducible exact Take.head) | apply Take.tail)); first | done | fail) (n := 4) (by rfl) (by rfl) (by kernel_rfl) (by simp [Value.oneCell']) (fun w hM => hK _ _ ?_); clear hM0 hK K)) | fail))
  clear hN
  go_loopw [7] (fun I wr => ∃ (i : Nat) (D : Dsk) (A : Option Addr) (c : Nat) (B : Option Addr) (d : Nat) (C : Option Addr) (e : Nat), I = .int .i64 i ∧ i ≤ 40 ∧ i ≤ pn ∧ Hid D.ok ∧ Hid (D.sure.length = N) ∧ Star (cellsE g6 63 (srV A c B d C e N (fuD D)) :: diskE a D :: SRow D A B C N F) wr) (fun I _ => 40 - (intOf I).toNat)
  case atStart => exact ⟨0, newD N, A, c, B, d, C, e, rfl, by omega, by omega, HO0, HL0, (hM.sel (by repeat (first | (with_reducible exact Sel.refl) | (with_reducible exact Take.head) | (with_reducible apply Take.tail) | (with_reducible apply Sel.cons) | (with_reducible apply Sel.drop))) : Star (cellsE g6 63 (srV A c B d C e N (-1)) :: SRow (newD N) A B C N (diskE a (newD N) :: F)) _).perm (List.Perm.cons _ (List.perm_append_comm (l₁ := [rowE 1 A N (svs (newD N).sure), rowE 1 B N (svs (newD N).now), rowE 1 C N (lovs (newD N).lo)]) (l₂ := [diskE a (newD N)]) |>.append_right F))⟩
  case round =>
    clear hM HO0 HL0
    obtain ⟨i, D, A, c, B, d, C, e, rfl, hi40, hipn, HO, HL, hM⟩ := hrel
    by_cases hi : i < pn ∧ i < 40
    · obtain ⟨hi1, hi2⟩ := hi
      have hi1I : (i : Int) < (pn : Int) := by omega
      have hi2I : (i : Int) < 40 := by omega
      obtain ⟨ad, p, rfl, HAD, hat⟩ := hM.elemA3 (A := PA) (l := acts) (by (repeat (first | exact HPF.out | apply mS)); done) hi1
      have hpm := List.mem_of_getElem? hat
      have HD1 : Hid (∀ (w : World) (L R : List SProp), Star L w → Take (diskE a D) L R → rowE 1 A N (svs D.sure) ∈ R → rowE 1 B N (svs D.now) ∈ R → rowE 1 C N (lovs D.lo) ∈ R → rowE 1 p.TA p.tn (svs p.ts) ∈ R → rowE 1 p.CA p.cn (ivs p.ch) ∈ R → Calls Try.prog 34 #[dptr a, .agg (srV A c B d C e N (fuD D)), .agg #[.int .i64 p.kk, .int .i64 p.at_, .int .i64 p.n, .slice p.TA p.tn p.tc, .slice p.CA p.cn p.cc, .int .u8 (p.y.toNat : Int)]] w (DoesD a N R)) := fun w L R hM hx h1 h2 h3 h4 h5 => does3_any HO HL hN12 (HAC.out p hpm) w hM hx h1 h2 h3 h4 h5
      have HTP := Lib.hid (HTT.out p hpm)
      have HCP := Lib.hid (HCC.out p hpm)
      obtain ⟨fu, hfu⟩ : ∃ fu, fuD D = fu := ⟨_, rfl⟩
      rw [hfu] at hM HD1
      clear hat hfu
      go_wp2_with fail
      (refine region_RS ([cellsE g6 63 (srV A c B d C e N fu), rowE 6 (some ad) pn (a3vs acts)]) [] (by kernel_rfl) hM ?_; clear hM; change RS _ _ _ _ _ _ 13 (Array.replicate 13 false) _ _; refine RS_take (i := 0) rfl (by decide +kernel) (fun _ _ _ h => h) (by first | (intro x hx; (repeat (first | exact hx | apply mS)); done) | ((repeat (refine List.forall_mem_cons.2 ⟨(by (repeat (first | assumption | (with_reducible exact mZ) | apply mS)); first | done | fail), ?_⟩)); intro x hx; first | (cases hx; done) | ((repeat (first | exact hx | apply mS)); done))) (stab_pure (by rfl) (fun w => (by go_simp; try with_reducible rfl))) ?_; simp only [Act.put, List.setIfInBounds_toArray, List.set_cons_zero, List.set_cons_succ]; refine RS_take (i := 1) rfl (by decide +kernel) (fun _ _ _ h => h) (by first | (intro x hx; (repeat (first | exact hx | apply mS)); done) | ((repeat (refine List.forall_mem_cons.2 ⟨(by (repeat (first | assumption | (with_reducible exact mZ) | apply mS)); first | done | fail), ?_⟩)); intro x hx; first | (cases hx; done) | ((repeat (first | exact hx | apply mS)); done))) (stab_read (by rfl) (fun L w hL hM => (ex_load hM rfl rfl (hL _ (by (repeat (first | assumption | (with_reducible exact mZ) | apply mS)); first | done | fail)) (n := 4) rfl (by decide +kernel)))) ?_; simp only [Act.put, List.setIfInBounds_toArray, List.set_cons_zero, List.set_cons_succ]; refine RS_take (i := 2) rfl (by decide +kernel) (fun _ _ _ h => h) (by first | (intro x hx; (repeat (first | exact hx | apply mS)); done) | ((repeat (refine List.forall_mem_cons.2 ⟨(by (repeat (first | assumption | (with_reducible exact mZ) | apply mS)); first | done | fail), ?_⟩)); intro x hx; first | (cases hx; done) | ((repeat (first | exact hx | apply mS)); done))) (stab_pure (by rfl) (fun w => (by go_simp; try with_reducible rfl))) ?_; simp only [Act.put, List.setIfInBounds_toArray, List.set_cons_zero, List.set_cons_succ]; refine RS_take (i := 3) rfl (by decide +kernel) (fun _ _ _ h => h) (by first | (intro x hx; (repeat (first | exact hx | apply mS)); done) | ((repeat (refine List.forall_mem_cons.2 ⟨(by (repeat (first | assumption | (with_reducible exact mZ) | apply mS)); first | done | fail), ?_⟩)); intro x hx; first | (cases hx; done) | ((repeat (first | exact hx | apply mS)); done))) (stab_pure (by rfl) (fun w => (by go_simp; try with_reducible rfl))) ?_; simp only [Act.put, List.setIfInBounds_toArray, List.set_cons_zero, List.set_cons_succ]; refine RS_take (i := 4) rfl (by decide +kernel) (fun _ _ _ h => h) (by first | (intro x hx; (repeat (first | exact hx | apply mS)); done) | ((repeat (refine List.forall_mem_cons.2 ⟨(by (repeat (first | assumption | (with_reducible exact mZ) | apply mS)); first | done | fail), ?_⟩)); intro x hx; first | (cases hx; done) | ((repeat (first | exact hx | apply mS)); done))) (stab_pure (by rfl) (fun w => (by go_simp; try with_reducible rfl))) ?_; simp only [Act.put, List.setIfInBounds_toArray, List.set_cons_zero, List.set_cons_succ]; refine RS_take (i := 5) rfl (by decide +kernel) (fun _ _ _ h => h) (by first | (intro x hx; (repeat (first | exact hx | apply mS)); done) | ((repeat (refine List.forall_mem_cons.2 ⟨(by (repeat (first | assumption | (with_reducible exact mZ) | apply mS)); first | done | fail), ?_⟩)); intro x hx; first | (cases hx; done) | ((repeat (first | exact hx | apply mS)); done))) (stab_read (by rfl) (fun L w hL hM => (ex_rowload_row (k := i) rfl rfl (hM.row (A := some ad) (n := pn) (xs := a3vs acts) (hL _ (by (repeat (first | assumption | (with_reducible exact mZ) | apply mS)); first | done | fail))) [.int .i64 p.kk, .int .i64 p.at_, .int .i64 p.n, .slice p.TA p.tn p.tc, .slice p.CA p.cn p.cc, .int .u8 (p.y.toNat : Int)] HAD.out rfl hi1 (by decide +kernel)))) ?_; simp only [Act.put, List.setIfInBounds_toArray, List.set_cons_zero, List.set_cons_succ]; refine RS_ready (rs := [6, 10]) (by decide +kernel) (by simp) (.inl (by first | (intro x hx; (repeat (first | exact hx | apply mS)); done) | ((repeat (refine List.forall_mem_cons.2 ⟨(by (repeat (first | assumption | (with_reducible exact mZ) | apply mS)); first | done | fail), ?_⟩)); intro x hx; first | (cases hx; done) | ((repeat (first | exact hx | apply mS)); done)))) ?_; refine (List.forall_mem_cons.2 ⟨?_, (List.forall_mem_cons.2 ⟨?_, (fun _ h => by cases h)⟩)⟩); rotate_right 1; (focus (refine RS_way (i := 10) rfl (by rfl) (fun w K hM0 hK => ?_); refine ws_alloc hM0 (t := 63) rfl #[.slice none 0 0, .slice none 0 0, .slice none 0 0, .int .i64 0] info_srz (fun g8 w hM => hK _ _ _ hM ?_); clear hM hM0 hK K; simp only [Act.put, List.setIfInBounds_toArray, List.set_cons_zero, List.set_cons_succ]; refine RS_one (i := 6) (by decide +kernel) rfl (by rfl) (.inl (by first | (intro x hx; (repeat (first | exact hx | apply mS)); done) | ((repeat (refine List.forall_mem_cons.2 ⟨(by (repeat (first | assumption | (with_reducible exact mZ) | apply mS)); first | done | fail), ?_⟩)); intro x hx; first | (cases hx; done) | ((repeat (first | exact hx | apply mS)); done)))) (fun w K hM0 hK => ?_); refine ws_call (by go_simp; try with_reducible rfl) (HD1.out _ _ _ hM0 (by (repeat (first | (with_reducible exact Take.head) | apply Take.tail)); first | done | fail) (by (repeat (first | assumption | (with_reducible exact mZ) | apply mS)); first | done | fail) (by (repeat (first | assumption | (with_reducible exact mZ) | apply mS)); first | done | fail) (by (repeat (first | assumption | (with_reducible exact mZ) | apply mS)); first | done | fail) (by (repeat (first | exact HTP.out | apply mS)); done) (by (repeat (first | exact HCP.out | apply mS)); done)) (fun r w2 hR => ?_); obtain ⟨D2, A2, c2, B2, d2, C2, e2, rfl, HO2, HL2, hM⟩ := hR; refine ⟨_, rfl, hK _ _ _ hM ?_⟩; clear hM hM0 hK K; simp only [Act.put, List.setIfInBounds_toArray, List.set_cons_zero, List.set_cons_succ]; refine RS_take (i := 7) rfl (by decide +kernel) (fun _ _ _ h => h) (by first | (intro x hx; (repeat (first | exact hx | apply mS)); done) | ((repeat (refine List.forall_mem_cons.2 ⟨(by (repeat (first | assumption | (with_reducible exact mZ) | apply mS)); first | done | fail), ?_⟩)); intro x hx; first | (cases hx; done) | ((repeat (first | exact hx | apply mS)); done))) (stab_pure (by rfl) (fun w => (by go_simp; try with_reducible rfl))) ?_; simp only [Act.put, List.setIfInBounds_toArray, List.set_cons_zero, List.set_cons_succ]; refine RS_take (i := 8) rfl (by decide +kernel) (fun _ _ _ h => h) (by first | (intro x hx; (repeat (first | exact hx | apply mS)); done) | ((repeat (refine List.forall_mem_cons.2 ⟨(by (repeat (first | assumption | (with_reducible exact mZ) | apply mS)); first | done | fail), ?_⟩)); intro x hx; first | (cases hx; done) | ((repeat (first | exact hx | apply mS)); done))) (stab_pure (by rfl) (fun w => (by go_simp; try with_reducible rfl))) ?_; simp only [Act.put, List.setIfInBounds_toArray, List.set_cons_zero, List.set_cons_succ]; refine RS_take (i := 9) rfl (by decide +kernel) (fun _ _ _ h => h) (by first | (intro x hx; (repeat (first | exact hx | apply mS)); done) | ((repeat (refine List.forall_mem_cons.2 ⟨(by (repeat (first | assumption | (with_reducible exact mZ) | apply mS)); first | done | fail), ?_⟩)); intro x hx; first | (cases hx; done) | ((repeat (first | exact hx | apply mS)); done))) (stab_pure (by rfl) (fun w => (by go_simp; try with_reducible rfl))) ?_; simp only [Act.put, List.setIfInBounds_toArray, List.set_cons_zero, List.set_cons_succ]; refine RS_one (i := 11) (by decide +kernel) rfl (by rfl) (.inl (by first | (intro x hx; (repeat (first | exact hx | apply mS)); done) | ((repeat (refine List.forall_mem_cons.2 ⟨(by (repeat (first | assumption | (with_reducible exact mZ) | apply mS)); first | done | fail), ?_⟩)); intro x hx; first | (cases hx; done) | ((repeat (first | exact hx | apply mS)); done)))) (fun w K hM0 hK => ?_); refine ws_store hM0 rfl rfl rfl (by (repeat (first | (with_reducible exact Take.head) | apply Take.tail)); first | done | fail) (n := 4) (by rfl) (by rfl) (by kernel_rfl) (by simp [Value.oneCell']) (fun w hM => hK _ _ _ hM ?_); clear hM hM0 hK K; simp only [Act.put, List.setIfInBounds_toArray, List.set_cons_zero, List.set_cons_succ]; refine RS_take (i := 12) rfl (by decide +kernel) (fun _ _ _ h => h) (by first | (intro x hx; (repeat (first | exact hx | apply mS)); done) | ((repeat (refine List.forall_mem_cons.2 ⟨(by (repeat (first | assumption | (with_reducible exact mZ) | apply mS)); first | done | fail), ?_⟩)); intro x hx; first | (cases hx; done) | ((repeat (first | exact hx | apply mS)); done))) (stab_pure (by rfl) (fun w => (by go_simp; try with_reducible rfl))) ?_; simp only [Act.put, List.setIfInBounds_toArray, List.set_cons_zero, List.set_cons_succ]; refine RS_done (by decide +kernel) (.inl (by first | (intro x hx; (repeat (first | exact hx | apply mS)); done) | ((repeat (refine List.forall_mem_cons.2 ⟨(by (repeat (first | assumption | (with_reducible exact mZ) | apply mS)); first | done | fail), ?_⟩)); intro x hx; first | (cases hx; done) | ((repeat (first | exact hx | apply mS)); done)))) (fun w hM => ?_))); rotate_right 1; (focus (refine RS_way (i := 6) rfl (by rfl) (fun w K hM0 hK => ?_); refine ws_call (by go_simp; try with_reducible rfl) (HD1.out _ _ _ hM0 (by (repeat (first | (with_reducible exact Take.head) | apply Take.tail)); first | done | fail) (by (repeat (first | assumption | (with_reducible exact mZ) | apply mS)); first | done | fail) (by (repeat (first | assumption | (with_reducible exact mZ) | apply mS)); first | done | fail) (by (repeat (first | assumption | (with_reducible exact mZ) | apply mS)); first | done | fail) (by (repeat (first | exact HTP.out | apply mS)); done) (by (repeat (first | exact HCP.out | apply mS)); done)) (fun r w2 hR => ?_); obtain ⟨D2, A2, c2, B2, d2, C2, e2, rfl, HO2, HL2, hM⟩ := hR; refine ⟨_, rfl, hK _ _ _ hM ?_⟩; clear hM hM0 hK K; simp only [Act.put, List.setIfInBounds_toArray, List.set_cons_zero, List.set_cons_succ]; refine RS_take (i := 7) rfl (by decide +kernel) (fun _ _ _ h => h) (by first | (intro x hx; (repeat (first | exact hx | apply mS)); done) | ((repeat (refine List.forall_mem_cons.2 ⟨(by (repeat (first | assumption | (with_reducible exact mZ) | apply mS)); first | done | fail), ?_⟩)); intro x hx; first | (cases hx; done) | ((repeat (first | exact hx | apply mS)); done))) (stab_pure (by rfl) (fun w => (by go_simp; try with_reducible rfl))) ?_; simp only [Act.put, List.setIfInBounds_toArray, List.set_cons_zero, List.set_cons_succ]; refine RS_take (i := 8) rfl (by decide +kernel) (fun _ _ _ h => h) (by first | (intro x hx; (repeat (first | exact hx | apply mS)); done) | ((repeat (refine List.forall_mem_cons.2 ⟨(by (repeat (first | assumption | (with_reducible exact mZ) | apply mS)); first | done | fail), ?_⟩)); intro x hx; first | (cases hx; done) | ((repeat (first | exact hx | apply mS)); done))) (stab_pure (by rfl) (fun w => (by go_simp; try with_reducible rfl))) ?_; simp only [Act.put, List.setIfInBounds_toArray, List.set_cons_zero, List.set_cons_succ]; refine RS_take (i := 9) rfl (by decide +kernel) (fun _ _ _ h => h) (by first | (intro x hx; (repeat (first | exact hx | apply mS)); done) | ((repeat (refine List.forall_mem_cons.2 ⟨(by (repeat (first | assumption | (with_reducible exact mZ) | apply mS)); first | done | fail), ?_⟩)); intro x hx; first | (cases hx; done) | ((repeat (first | exact hx | apply mS)); done))) (stab_pure (by rfl) (fun w => (by go_simp; try with_reducible rfl))) ?_; simp only [Act.put, List.setIfInBounds_toArray, List.set_cons_zero, List.set_cons_succ]; refine RS_one (i := 10) (by decide +kernel) rfl (by rfl) (.inl (by first | (intro x hx; (repeat (first | exact hx | apply mS)); done) | ((repeat (refine List.forall_mem_cons.2 ⟨(by (repeat (first | assumption | (with_reducible exact mZ) | apply mS)); first | done | fail), ?_⟩)); intro x hx; first | (cases hx; done) | ((repeat (first | exact hx | apply mS)); done)))) (fun w K hM0 hK => ?_); refine ws_alloc hM0 (t := 63) rfl #[.slice none 0 0, .slice none 0 0, .slice none 0 0, .int .i64 0] info_srz (fun g8 w hM => hK _ _ _ hM ?_); clear hM hM0 hK K; simp only [Act.put, List.setIfInBounds_toArray, List.set_cons_zero, List.set_cons_succ]; refine RS_one (i := 11) (by decide +kernel) rfl (by rfl) (.inl (by first | (intro x hx; (repeat (first | exact hx | apply mS)); done) | ((repeat (refine List.forall_mem_cons.2 ⟨(by (repeat (first | assumption | (with_reducible exact mZ) | apply mS)); first | done | fail), ?_⟩)); intro x hx; first | (cases hx; done) | ((repeat (first | exact hx | apply mS)); done)))) (fun w K hM0 hK => ?_); refine ws_store hM0 rfl rfl rfl (by (repeat (first | (with_reducible exact Take.head) | apply Take.tail)); first | done | fail) (n := 4) (by rfl) (by rfl) (by kernel_rfl) (by simp [Value.oneCell']) (fun w hM => hK _ _ _ hM ?_); clear hM hM0 hK K; simp only [Act.put, List.setIfInBounds_toArray, List.set_cons_zero, List.set_cons_succ]; refine RS_take (i := 12) rfl (by decide +kernel) (fun _ _ _ h => h) (by first | (intro x hx; (repeat (first | exact hx | apply mS)); done) | ((repeat (refine List.forall_mem_cons.2 ⟨(by (repeat (first | assumption | (with_reducible exact mZ) | apply mS)); first | done | fail), ?_⟩)); intro x hx; first | (cases hx; done) | ((repeat (first | exact hx | apply mS)); done))) (stab_pure (by rfl) (fun w => (by go_simp; try with_reducible rfl))) ?_; simp only [Act.put, List.setIfInBounds_toArray, List.set_cons_zero, List.set_cons_succ]; refine RS_done (by decide +kernel) (.inl (by first | (intro x hx; (repeat (first | exact hx | apply mS)); done) | ((repeat (refine List.forall_mem_cons.2 ⟨(by (repeat (first | assumption | (with_reducible exact mZ) | apply mS)); first | done | fail), ?_⟩)); intro x hx; first | (cases hx; done) | ((repeat (first | exact hx | apply mS)); done)))) (fun w hM => ?_))))
      all_goals (
        have HFU : Hid (∀ (w : World) (L R : List SProp), Star L w → Take (diskE a D2) L R → Calls Try.prog 35 #[dptr a, .agg (srV A2 c2 B2 d2 C2 e2 N (fuD D2))] w fun r w' => r = .returned (.bool true) ∧ Star (diskE a D2 :: R) w') := fun w L R hM hx => fuse_l HO2.out N w hM hx
        have HLO : Hid (∀ (w : World) (L R : List SProp), Star L w → Take (diskE a D2) L R → rowE 1 C2 N (lovs D2.lo) ∈ R → Calls Try.prog 36 #[dptr a, .agg (srV A2 c2 B2 d2 C2 e2 N (fuD D2))] w fun r w' => r = .returned (.bool true) ∧ Star (diskE a D2 :: R) w') := fun w L R hM hx hC => loose_l HO2.out N HL2.out _ w hM hx hC
        go_wp2_with (first | (first | ((with_reducible refine at_load' ?_); (refine BigFrame.wpList_want (by rfl) fun K hK => ws_load hM rfl rfl (by (repeat (first | assumption | (with_reducible exact mZ) | apply mS)); first | done | fail) (n := 4) (by rfl) (by decide +kernel) (hK _ _ ?_); clear hK K)) | fail) | (first | ((with_reducible refine at_store' ?_); (have hM0 := hM; clear hM; refine BigFrame.wpList_want (by rfl) fun K hK => ws_store hM0 rfl rfl rfl (by (repeat (first | (with_reducible exact Take.head) | apply Take.tail)); first | done | fail) (n := 4) (by rfl) (by rfl) (by kernel_rfl) (by simp [Value.oneCell']) (fun w hM => hK _ _ ?_); clear hM0 hK K)) | fail) | (go_at_call 35; have hM0 := hM; clear hM; (first | (with_reducible refine (HFU.out _ _ _ hM0 (by (repeat (first | (with_reducible exact Take.head) | apply Take.tail)); first | done | fail)).mono ?_) | fail); clear hM0; rintro _ w ⟨rfl, hM⟩) | (go_at_call 36; have hM0 := hM; clear hM; (first | (with_reducible refine (HLO.out _ _ _ hM0 (by (repeat (first | (with_reducible exact Take.head) | apply Take.tail)); first | done | fail) (by (repeat (first | assumption | (with_reducible exact mZ) | apply mS)); first | done | fail)).mono ?_) | fail); clear hM0; rintro _ w ⟨rfl, hM⟩))
        go_roundw
        case rel => exact ⟨i + 1, D2, A2, c2, B2, d2, C2, e2, rfl, by omega, by omega, HO2, HL2, (hM.sel (by repeat (first | (with_reducible exact Sel.refl) | (with_reducible exact Take.head) | (with_reducible apply Take.tail) | (with_reducible apply Sel.cons) | (with_reducible apply Sel.drop))) : Star (diskE a D2 :: cellsE g6 63 (srV A2 c2 B2 d2 C2 e2 N (fuD D2)) :: SRow D2 A2 B2 C2 N F) _).perm (List.Perm.swap _ _ _)⟩
        case measure => simp [intOf]; omega)
    · have HD3 : Hid ((clrG D).ok ∧ (clrG D).sure.length = N ∧ (clrG D).armed = false) := ⟨clrG_ok HO.out, HL.out, rfl⟩
      have HCL : Hid (∀ (w : World) (L R : List SProp), Star L w → Take (fE a D.armed D.left) L R → Calls Try.prog 29 #[fptr a] w fun r w' => r = .returned (.tuple #[]) ∧ Star (fE a false D.left :: R) w') := fun w L R hM hx => clear_f D.armed D.left w (hM.take hx)
      have HDJ : Hid (∀ (w : World) (L : List SProp), Star (dE a D.sure.length :: fE a false D.left :: sE a D.sure :: mE a (lmv D) :: L) w → Star (diskE a (clrG D) :: L) w) := fun w L hM => Star.djoin (D := clrG D) hM
      clear HAC HPF HTT HCC
      have hM2 := (hM.perm (List.Perm.swap _ _ _)).dopen
      clear hM
      have hM := hM2
      clear hM2
      rcases (by omega : pn = i ∨ (i < pn ∧ i = 40)) with rfl | ⟨hi1, rfl⟩
      · clear hi
        have HNL : Hid (D.sure.length = N) := HL
        generalize hq : D.sure.length = m at hM HDJ
        have HQ := Lib.hid hq
        clear hq
        go_wp2_with (first | (first | ((with_reducible refine at_load' ?_); (refine BigFrame.wpList_want (by rfl) fun K hK => ws_load1 hM rfl rfl (by (repeat (first | assumption | (with_reducible exact mZ) | apply mS)); first | done | fail) (by first | rfl | assumption) (by decide +kernel) (hK _ _ ?_); clear hK K)) | fail) | (first | ((with_reducible refine at_store' ?_); (have hM0 := hM; clear hM; refine BigFrame.wpList_want (by rfl) fun K hK => ws_store1 hM0 rfl rfl (by go_simp; rfl) (by first | rfl | assumption) (by (repeat (first | (with_reducible exact Take.head) | apply Take.tail)); first | done | fail) (by simp) (by kernel_rfl) (by simp only [List.setIfInBounds_toArray, List.set_cons_zero, List.set_cons_succ]; rfl) (fun w hM => hK _ _ ?_); clear hM0 hK K)) | fail) | (go_at_call 29; have hM0 := hM; clear hM; (first | (with_reducible refine (HCL.out _ _ _ hM0 (by (repeat (first | (with_reducible exact Take.head) | apply Take.tail)); first | done | fail)).mono ?_) | fail); clear hM0; rintro _ w ⟨rfl, hM⟩))
        have hM2 : Star (cellsE g6 63 (srV A c B d C e N (-1)) :: diskE a (clrG D) :: SRow (clrG D) A B C N F) _ := Star.cl_join hM fun L hM => HDJ.out _ L hM
        clear hM
        have hM := hM2
        clear hM2 HDJ HCL HQ HNL HO HL
        generalize clrG D = D1 at hM HD3
        obtain ⟨r1, r2, r3⟩ := read_all HD3.out.2.1 HD3.out.2.2
        obtain ⟨bb, hbb⟩ : ∃ bb, rdD D1 0 N = bb := ⟨_, rfl⟩
        rw [hbb] at r2
        have hE1 : D1.dec.ok ∧ D1.dec.sure.length = N ∧ D1.dec.armed = false := ⟨dec_ok HD3.out.1 (fun e => by have := HD3.out.2.2; rw [this] at e; cases e), HD3.out.2.1, HD3.out.2.2⟩
        have HR1 : Hid (∀ (w : World) (L R : List SProp), Star L w → Take (diskE a D1) L R → Calls Try.prog 24 #[dptr a, .int .i64 0, .int .i64 N] w fun r w' => r = .returned (.tuple #[.string ⟨bb.toArray⟩, .int .i64 0]) ∧ Star (diskE a D1.dec :: R) w') := fun w L R hM hx => by
          have := readU HD3.out.1 0 N w hM hx
          rwa [r1, r2, r3] at this
        have HS1 : Hid (∀ (w : World) (L : List SProp), Star L w → rowE 1 B N (svs D1.now) ∈ L → Calls Try.prog 37 #[.agg (srV A c B d C e N (-1)), .int .i64 0, .int .i64 N] w fun r w' => r = .returned (.tuple #[.agg (srV A c B d C e N (-1)), .string ⟨bb.toArray⟩, .int .i64 0]) ∧ Star L w') := fun w L hM hx => by
          have := readS (A := A) (c := c) (d := d) (C := C) (e := e) HD3.out.1 (by rw [HD3.out.2.1]; omega) 0 N w hM (by rw [HD3.out.2.1]; exact hx)
          rwa [r1, r2, r3, fuD_off HD3.out.2.2, fuD_off (D := D1.dec) HD3.out.2.2, HD3.out.2.1] at this
        obtain ⟨D2, hD2⟩ : ∃ D2, crD D1.dec [] = D2 := ⟨_, rfl⟩
        have hK2 : D2.dec.keys = [] := by rw [← hD2]; exact cr_keys _ _
        have hD22 : D2.ok ∧ D2.sure.length = N ∧ D2.armed = false := by rw [← hD2]; exact ⟨crD_ok hE1.1 _, by show (upd _ _).length = N; rw [upd_len]; exact hE1.2.1, rfl⟩
        have HC2 : Hid (∀ (w : World) (L R : List SProp), Star L w → Take (diskE a D1.dec) L R → Calls Try.prog 25 #[dptr a, .slice none 0 0] w fun r w' => r = .returned (.tuple #[]) ∧ Star (diskE a D2 :: R) w') := fun w L R hM hx => by
          have h9 : Star (diskE a D1.dec :: rowE 1 none 0 (ivs []) :: R) w := ((hM.take hx).nilints).perm (List.Perm.swap _ _ _)
          have := crash_d (ch := []) (cn := 0) (cc := 0) hE1.1 (by decide) (by intro x hx; cases hx) w h9 List.mem_cons_self
          rw [hD2] at this
          exact this.mono fun _ _ ⟨e, hM⟩ => ⟨e, hM.sel (by repeat (first | (with_reducible exact Sel.refl) | (with_reducible exact Take.head) | (with_reducible apply Take.tail) | (with_reducible apply Sel.cons) | (with_reducible apply Sel.drop)))⟩
        have HCS2 : Hid (∀ (w : World) (L : List SProp), Star L w → rowE 1 A N (svs D1.sure) ∈ L → rowE 1 B N (svs D1.now) ∈ L → rowE 1 C N (lovs D1.lo) ∈ L → Calls Try.prog 38 #[.agg (srV A c B d C e N (-1)), .slice none 0 0] w fun r w' => ∃ A' c' B' d' C' e', r = .returned (.agg (srV A' c' B' d' C' e' N (-1))) ∧ Star (SRow D2 A' B' C' N L) w') := fun w L hM hA hB hC => by
          have h9 := crashS (D := D1.dec) (T := none) (ch := []) (cn := 0) (cc := 0) (A := A) (B := B) (C := C) (c := c) (d := d) (e := e) hE1.1 (by rw [hE1.2.1]; omega) (by decide) w hM.nilints List.mem_cons_self (by rw [hE1.2.1]; exact List.mem_cons_of_mem _ hA) (by rw [hE1.2.1]; exact List.mem_cons_of_mem _ hB) (by rw [hE1.2.1]; exact List.mem_cons_of_mem _ hC)
          rw [hD2, fuD_off (D := D1.dec) HD3.out.2.2, fuD_off hD22.2.2, hE1.2.1] at h9
          exact h9.mono fun _ _ ⟨A', c', B', d', C', e', h, hM⟩ => ⟨A', c', B', d', C', e', h, hM.sel (by repeat (first | (with_reducible exact Sel.refl) | (with_reducible exact Take.head) | (with_reducible apply Take.tail) | (with_reducible apply Sel.cons) | (with_reducible apply Sel.drop)))⟩
        obtain ⟨q1, q2, q3⟩ := read_all hD22.2.1 hD22.2.2
        obtain ⟨b2, hb2⟩ : ∃ b2, rdD D2 0 N = b2 := ⟨_, rfl⟩
        rw [hb2] at q2
        have HR2 : Hid (∀ (w : World) (L R : List SProp), Star L w → Take (diskE a D2) L R → Calls Try.prog 24 #[dptr a, .int .i64 0, .int .i64 N] w fun r w' => r = .returned (.tuple #[.string ⟨b2.toArray⟩, .int .i64 0]) ∧ Star (diskE a D2.dec :: R) w') := fun w L R hM hx => by
          have := readU hD22.1 0 N w hM hx
          rwa [q1, q2, q3] at this
        have HS2 : Hid (∀ (A : Option Addr) (c : Nat) (B : Option Addr) (d : Nat) (C : Option Addr) (e : Nat) (w : World) (L : List SProp), Star L w → rowE 1 B N (svs D2.now) ∈ L → Calls Try.prog 37 #[.agg (srV A c B d C e N (-1)), .int .i64 0, .int .i64 N] w fun r w' => r = .returned (.tuple #[.agg (srV A c B d C e N (-1)), .string ⟨b2.toArray⟩, .int .i64 0]) ∧ Star L w') := fun A c B d C e w L hM hx => by
          have := readS (A := A) (c := c) (d := d) (C := C) (e := e) hD22.1 (by rw [hD22.2.1]; omega) 0 N w hM (by rw [hD22.2.1]; exact hx)
          rwa [q1, q2, q3, fuD_off hD22.2.2, fuD_off (D := D2.dec) hD22.2.2, hD22.2.1] at this
        have HLS : Hid (∀ (w : World) (L R : List SProp), Star L w → Take (diskE a D2.dec) L R → Calls Try.prog 26 #[dptr a] w fun r w' => ∃ A c, r = .returned (.slice A 0 c) ∧ Star (diskE a D2.dec :: R) w') := fun w L R hM hx => by
          have hok : D2.dec.ok := dec_ok hD22.1 (fun e => by have := hD22.2.2; rw [this] at e; cases e)
          have := loose_d hok w (hM.take hx)
          rw [hK2] at this
          exact this.mono fun _ _ ⟨A, c, e, hM⟩ => ⟨A, c, e, hM.tail⟩
        have tok1 : Hid True := trivial
        clear r1 r2 r3 hbb hE1 hD2 hK2 hD22 q1 q2 q3 hb2
        go_wp2_with (first | (have _t := tok1; (go_at_call 24; have hM0 := hM; clear hM; (first | (with_reducible refine (HR1.out _ _ _ hM0 (by (repeat (first | (with_reducible exact Take.head) | apply Take.tail)); first | done | fail)).mono ?_) | fail); clear hM0; rintro _ w ⟨rfl, hM⟩); clear tok1) | (go_at_call 24; have hM0 := hM; clear hM; (first | (with_reducible refine (HR2.out _ _ _ hM0 (by (repeat (first | (with_reducible exact Take.head) | apply Take.tail)); first | done | fail)).mono ?_) | fail); clear hM0; rintro _ w ⟨rfl, hM⟩) | (go_at_call 37; have hM0 := hM; clear hM; (first | (with_reducible refine (HS1.out _ _ hM0 (by (repeat (first | assumption | (with_reducible exact mZ) | apply mS)); first | done | fail)).mono ?_) | fail); clear hM0; rintro _ w ⟨rfl, hM⟩) | (go_at_call 37; have hM0 := hM; clear hM; (first | (with_reducible refine (HS2.out _ _ _ _ _ _ _ _ hM0 (by (repeat (first | assumption | (with_reducible exact mZ) | apply mS)); first | done | fail)).mono ?_) | fail); clear hM0; rintro _ w ⟨rfl, hM⟩) | (go_at_call 25; have hM0 := hM; clear hM; (first | (with_reducible refine (HC2.out _ _ _ hM0 (by (repeat (first | (with_reducible exact Take.head) | apply Take.tail)); first | done | fail)).mono ?_) | fail); clear hM0; rintro _ w ⟨rfl, hM⟩) | (go_at_call 38; have hM0 := hM; clear hM; (first | (with_reducible refine (HCS2.out _ _ hM0 (by (repeat (first | assumption | (with_reducible exact mZ) | apply mS)); first | done | fail) (by (repeat (first | assumption | (with_reducible exact mZ) | apply mS)); first | done | fail) (by (repeat (first | assumption | (with_reducible exact mZ) | apply mS)); first | done | fail)).mono ?_) | fail); clear hM0; rintro _ w ⟨A', c', B', d', C', e', rfl, hM⟩) | (go_at_call 26; have hM0 := hM; clear hM; (first | (with_reducible refine (HLS.out _ _ _ hM0 (by (repeat (first | (with_reducible exact Take.head) | apply Take.tail)); first | done | fail)).mono ?_) | fail); clear hM0; rintro _ w ⟨A9, c9, rfl, hM⟩) | (first | ((with_reducible refine at_load' ?_); (refine BigFrame.wpList_want (by rfl) fun K hK => ws_load hM rfl rfl (by (repeat (first | assumption | (with_reducible exact mZ) | apply mS)); first | done | fail) (n := 4) (by rfl) (by decide +kernel) (hK _ _ ?_); clear hK K)) | fail) | (first | ((with_reducible refine at_store' ?_); (have hM0 := hM; clear hM; refine BigFrame.wpList_want (by rfl) fun K hK => ws_store hM0 rfl rfl rfl (by (repeat (first | (with_reducible exact Take.head) | apply Take.tail)); first | done | fail) (n := 4) (by rfl) (by rfl) (by kernel_rfl) (by simp [Value.oneCell']) (fun w hM => hK _ _ ?_); clear hM0 hK K)) | fail))
        go_ret
        exact ⟨rfl, hM.sel (by repeat (first | (with_reducible exact Sel.refl) | (with_reducible exact Take.head) | (with_reducible apply Take.tail) | (with_reducible apply Sel.cons) | (with_reducible apply Sel.drop)))⟩
      · clear hi
        have HNL : Hid (D.sure.length = N) := HL
        generalize hq : D.sure.length = m at hM HDJ
        have HQ := Lib.hid hq
        clear hq
        go_wp2_with (first | (first | ((with_reducible refine at_load' ?_); (refine BigFrame.wpList_want (by rfl) fun K hK => ws_load1 hM rfl rfl (by (repeat (first | assumption | (with_reducible exact mZ) | apply mS)); first | done | fail) (by first | rfl | assumption) (by decide +kernel) (hK _ _ ?_); clear hK K)) | fail) | (first | ((with_reducible refine at_store' ?_); (have hM0 := hM; clear hM; refine BigFrame.wpList_want (by rfl) fun K hK => ws_store1 hM0 rfl rfl (by go_simp; rfl) (by first | rfl | assumption) (by (repeat (first | (with_reducible exact Take.head) | apply Take.tail)); first | done | fail) (by simp) (by kernel_rfl) (by simp only [List.setIfInBounds_toArray, List.set_cons_zero, List.set_cons_succ]; rfl) (fun w hM => hK _ _ ?_); clear hM0 hK K)) | fail) | (go_at_call 29; have hM0 := hM; clear hM; (first | (with_reducible refine (HCL.out _ _ _ hM0 (by (repeat (first | (with_reducible exact Take.head) | apply Take.tail)); first | done | fail)).mono ?_) | fail); clear hM0; rintro _ w ⟨rfl, hM⟩))
        have hM2 : Star (cellsE g6 63 (srV A c B d C e N (-1)) :: diskE a (clrG D) :: SRow (clrG D) A B C N F) _ := Star.cl_join hM fun L hM => HDJ.out _ L hM
        clear hM
        have hM := hM2
        clear hM2 HDJ HCL HQ HNL HO HL
        generalize clrG D = D1 at hM HD3
        obtain ⟨r1, r2, r3⟩ := read_all HD3.out.2.1 HD3.out.2.2
        obtain ⟨bb, hbb⟩ : ∃ bb, rdD D1 0 N = bb := ⟨_, rfl⟩
        rw [hbb] at r2
        have hE1 : D1.dec.ok ∧ D1.dec.sure.length = N ∧ D1.dec.armed = false := ⟨dec_ok HD3.out.1 (fun e => by have := HD3.out.2.2; rw [this] at e; cases e), HD3.out.2.1, HD3.out.2.2⟩
        have HR1 : Hid (∀ (w : World) (L R : List SProp), Star L w → Take (diskE a D1) L R → Calls Try.prog 24 #[dptr a, .int .i64 0, .int .i64 N] w fun r w' => r = .returned (.tuple #[.string ⟨bb.toArray⟩, .int .i64 0]) ∧ Star (diskE a D1.dec :: R) w') := fun w L R hM hx => by
          have := readU HD3.out.1 0 N w hM hx
          rwa [r1, r2, r3] at this
        have HS1 : Hid (∀ (w : World) (L : List SProp), Star L w → rowE 1 B N (svs D1.now) ∈ L → Calls Try.prog 37 #[.agg (srV A c B d C e N (-1)), .int .i64 0, .int .i64 N] w fun r w' => r = .returned (.tuple #[.agg (srV A c B d C e N (-1)), .string ⟨bb.toArray⟩, .int .i64 0]) ∧ Star L w') := fun w L hM hx => by
          have := readS (A := A) (c := c) (d := d) (C := C) (e := e) HD3.out.1 (by rw [HD3.out.2.1]; omega) 0 N w hM (by rw [HD3.out.2.1]; exact hx)
          rwa [r1, r2, r3, fuD_off HD3.out.2.2, fuD_off (D := D1.dec) HD3.out.2.2, HD3.out.2.1] at this
        obtain ⟨D2, hD2⟩ : ∃ D2, crD D1.dec [] = D2 := ⟨_, rfl⟩
        have hK2 : D2.dec.keys = [] := by rw [← hD2]; exact cr_keys _ _
        have hD22 : D2.ok ∧ D2.sure.length = N ∧ D2.armed = false := by rw [← hD2]; exact ⟨crD_ok hE1.1 _, by show (upd _ _).length = N; rw [upd_len]; exact hE1.2.1, rfl⟩
        have HC2 : Hid (∀ (w : World) (L R : List SProp), Star L w → Take (diskE a D1.dec) L R → Calls Try.prog 25 #[dptr a, .slice none 0 0] w fun r w' => r = .returned (.tuple #[]) ∧ Star (diskE a D2 :: R) w') := fun w L R hM hx => by
          have h9 : Star (diskE a D1.dec :: rowE 1 none 0 (ivs []) :: R) w := ((hM.take hx).nilints).perm (List.Perm.swap _ _ _)
          have := crash_d (ch := []) (cn := 0) (cc := 0) hE1.1 (by decide) (by intro x hx; cases hx) w h9 List.mem_cons_self
          rw [hD2] at this
          exact this.mono fun _ _ ⟨e, hM⟩ => ⟨e, hM.sel (by repeat (first | (with_reducible exact Sel.refl) | (with_reducible exact Take.head) | (with_reducible apply Take.tail) | (with_reducible apply Sel.cons) | (with_reducible apply Sel.drop)))⟩
        have HCS2 : Hid (∀ (w : World) (L : List SProp), Star L w → rowE 1 A N (svs D1.sure) ∈ L → rowE 1 B N (svs D1.now) ∈ L → rowE 1 C N (lovs D1.lo) ∈ L → Calls Try.prog 38 #[.agg (srV A c B d C e N (-1)), .slice none 0 0] w fun r w' => ∃ A' c' B' d' C' e', r = .returned (.agg (srV A' c' B' d' C' e' N (-1))) ∧ Star (SRow D2 A' B' C' N L) w') := fun w L hM hA hB hC => by
          have h9 := crashS (D := D1.dec) (T := none) (ch := []) (cn := 0) (cc := 0) (A := A) (B := B) (C := C) (c := c) (d := d) (e := e) hE1.1 (by rw [hE1.2.1]; omega) (by decide) w hM.nilints List.mem_cons_self (by rw [hE1.2.1]; exact List.mem_cons_of_mem _ hA) (by rw [hE1.2.1]; exact List.mem_cons_of_mem _ hB) (by rw [hE1.2.1]; exact List.mem_cons_of_mem _ hC)
          rw [hD2, fuD_off (D := D1.dec) HD3.out.2.2, fuD_off hD22.2.2, hE1.2.1] at h9
          exact h9.mono fun _ _ ⟨A', c', B', d', C', e', h, hM⟩ => ⟨A', c', B', d', C', e', h, hM.sel (by repeat (first | (with_reducible exact Sel.refl) | (with_reducible exact Take.head) | (with_reducible apply Take.tail) | (with_reducible apply Sel.cons) | (with_reducible apply Sel.drop)))⟩
        obtain ⟨q1, q2, q3⟩ := read_all hD22.2.1 hD22.2.2
        obtain ⟨b2, hb2⟩ : ∃ b2, rdD D2 0 N = b2 := ⟨_, rfl⟩
        rw [hb2] at q2
        have HR2 : Hid (∀ (w : World) (L R : List SProp), Star L w → Take (diskE a D2) L R → Calls Try.prog 24 #[dptr a, .int .i64 0, .int .i64 N] w fun r w' => r = .returned (.tuple #[.string ⟨b2.toArray⟩, .int .i64 0]) ∧ Star (diskE a D2.dec :: R) w') := fun w L R hM hx => by
          have := readU hD22.1 0 N w hM hx
          rwa [q1, q2, q3] at this
        have HS2 : Hid (∀ (A : Option Addr) (c : Nat) (B : Option Addr) (d : Nat) (C : Option Addr) (e : Nat) (w : World) (L : List SProp), Star L w → rowE 1 B N (svs D2.now) ∈ L → Calls Try.prog 37 #[.agg (srV A c B d C e N (-1)), .int .i64 0, .int .i64 N] w fun r w' => r = .returned (.tuple #[.agg (srV A c B d C e N (-1)), .string ⟨b2.toArray⟩, .int .i64 0]) ∧ Star L w') := fun A c B d C e w L hM hx => by
          have := readS (A := A) (c := c) (d := d) (C := C) (e := e) hD22.1 (by rw [hD22.2.1]; omega) 0 N w hM (by rw [hD22.2.1]; exact hx)
          rwa [q1, q2, q3, fuD_off hD22.2.2, fuD_off (D := D2.dec) hD22.2.2, hD22.2.1] at this
        have HLS : Hid (∀ (w : World) (L R : List SProp), Star L w → Take (diskE a D2.dec) L R → Calls Try.prog 26 #[dptr a] w fun r w' => ∃ A c, r = .returned (.slice A 0 c) ∧ Star (diskE a D2.dec :: R) w') := fun w L R hM hx => by
          have hok : D2.dec.ok := dec_ok hD22.1 (fun e => by have := hD22.2.2; rw [this] at e; cases e)
          have := loose_d hok w (hM.take hx)
          rw [hK2] at this
          exact this.mono fun _ _ ⟨A, c, e, hM⟩ => ⟨A, c, e, hM.tail⟩
        have tok1 : Hid True := trivial
        clear r1 r2 r3 hbb hE1 hD2 hK2 hD22 q1 q2 q3 hb2
        go_wp2_with (first | (have _t := tok1; (go_at_call 24; have hM0 := hM; clear hM; (first | (with_reducible refine (HR1.out _ _ _ hM0 (by (repeat (first | (with_reducible exact Take.head) | apply Take.tail)); first | done | fail)).mono ?_) | fail); clear hM0; rintro _ w ⟨rfl, hM⟩); clear tok1) | (go_at_call 24; have hM0 := hM; clear hM; (first | (with_reducible refine (HR2.out _ _ _ hM0 (by (repeat (first | (with_reducible exact Take.head) | apply Take.tail)); first | done | fail)).mono ?_) | fail); clear hM0; rintro _ w ⟨rfl, hM⟩) | (go_at_call 37; have hM0 := hM; clear hM; (first | (with_reducible refine (HS1.out _ _ hM0 (by (repeat (first | assumption | (with_reducible exact mZ) | apply mS)); first | done | fail)).mono ?_) | fail); clear hM0; rintro _ w ⟨rfl, hM⟩) | (go_at_call 37; have hM0 := hM; clear hM; (first | (with_reducible refine (HS2.out _ _ _ _ _ _ _ _ hM0 (by (repeat (first | assumption | (with_reducible exact mZ) | apply mS)); first | done | fail)).mono ?_) | fail); clear hM0; rintro _ w ⟨rfl, hM⟩) | (go_at_call 25; have hM0 := hM; clear hM; (first | (with_reducible refine (HC2.out _ _ _ hM0 (by (repeat (first | (with_reducible exact Take.head) | apply Take.tail)); first | done | fail)).mono ?_) | fail); clear hM0; rintro _ w ⟨rfl, hM⟩) | (go_at_call 38; have hM0 := hM; clear hM; (first | (with_reducible refine (HCS2.out _ _ hM0 (by (repeat (first | assumption | (with_reducible exact mZ) | apply mS)); first | done | fail) (by (repeat (first | assumption | (with_reducible exact mZ) | apply mS)); first | done | fail) (by (repeat (first | assumption | (with_reducible exact mZ) | apply mS)); first | done | fail)).mono ?_) | fail); clear hM0; rintro _ w ⟨A', c', B', d', C', e', rfl, hM⟩) | (go_at_call 26; have hM0 := hM; clear hM; (first | (with_reducible refine (HLS.out _ _ _ hM0 (by (repeat (first | (with_reducible exact Take.head) | apply Take.tail)); first | done | fail)).mono ?_) | fail); clear hM0; rintro _ w ⟨A9, c9, rfl, hM⟩) | (first | ((with_reducible refine at_load' ?_); (refine BigFrame.wpList_want (by rfl) fun K hK => ws_load hM rfl rfl (by (repeat (first | assumption | (with_reducible exact mZ) | apply mS)); first | done | fail) (n := 4) (by rfl) (by decide +kernel) (hK _ _ ?_); clear hK K)) | fail) | (first | ((with_reducible refine at_store' ?_); (have hM0 := hM; clear hM; refine BigFrame.wpList_want (by rfl) fun K hK => ws_store hM0 rfl rfl rfl (by (repeat (first | (with_reducible exact Take.head) | apply Take.tail)); first | done | fail) (n := 4) (by rfl) (by rfl) (by kernel_rfl) (by simp [Value.oneCell']) (fun w hM => hK _ _ ?_); clear hM0 hK K)) | fail))
        go_ret
        exact ⟨rfl, hM.sel (by repeat (first | (with_reducible exact Sel.refl) | (with_reducible exact Take.head) | (with_reducible apply Take.tail) | (with_reducible apply Sel.cons) | (with_reducible apply Sel.drop)))⟩
end
end Go.Proofs.Ytbejifbiffeamaa
set_option linter.unusedSimpArgs false
set_option linter.unusedVariables false
namespace Go.Proofs.Ytbejifbiffeamaa
open Go.RowKit Go.WideShapes Go.ChangeShapes Go.ChangeAt
section
variable {H : Type} {enc : TypeId × Value → H} {P : Program} {w : World} {base : Nat} {spare : Nat → Bool} {held : Bool}
theorem fieldA_strs {fuel : Nat} {t e : TypeId} {cs : List Value} {j : Nat} {x : Option (DataW H × List MemPlace)} (ht : P.underlying t = some (.slice e)) (he : P.underlying e = some .string) (hc : P.cellsOf t = 1) (hce : P.cellsOf e = 1)
    (h : DataW.trod enc P w base spare held fuel t ((cs.drop j).take (P.cellsOf t)) = x) (hx : x ≠ none) :
    ∃ (A : Option Addr) (n c : Nat) (l : List (List UInt8)), cs[j]? = some (.slice A n c) ∧ Rd w 1 A n (svs l) ∧ n ≤ 9223372036854775807 := by
  cases x with
  | none => exact absurd rfl hx
  | some x =>
    rcases Go.Deep.open_strs ht he hce h with ⟨hcs, _⟩ | ⟨a, len, cap, m, Sx, hcs, _, hl, hm, hmm, _, hcell⟩
    · rw [hc] at hcs
      exact ⟨none, 0, 0, [], get_of_cutA hcs, Rd.none_, by omega⟩
    · rw [hc] at hcs
      have hlm : len ≤ m := by rw [hmm]; split <;> omega
      unfold maxLen at hm hcell
      refine ⟨some a, len, cap, (List.range len).map fun i => (Sx i).data.toList, get_of_cutA hcs, ⟨by simp [svs], fun hn => ⟨a, rfl, ?_, ?_⟩⟩, by omega⟩
      · have h1 := (hcell 0 (by omega)).1
        have := World.block_lt_of_cell? w _ h1
        rwa [block_of_add] at this
      · intro j u hu
        simp only [svs, List.map_map, List.getElem?_map] at hu
        obtain ⟨i, hi, rfl⟩ := Option.map_eq_some_iff.1 hu
        obtain ⟨hj, rfl⟩ : j < len ∧ j = i := by
          have := List.getElem?_eq_some_iff.1 hi
          simpa using this
        rw [(hcell j (by omega)).1]
        rfl
theorem fieldA_ints {fuel : Nat} {t e : TypeId} {cs : List Value} {j : Nat} {x : Option (DataW H × List MemPlace)} (ht : P.underlying t = some (.slice e)) (he : P.underlying e = some (.int .i64)) (hc : P.cellsOf t = 1) (hce : P.cellsOf e = 1)
    (h : DataW.trod enc P w base spare held fuel t ((cs.drop j).take (P.cellsOf t)) = x) (hx : x ≠ none) :
    ∃ (A : Option Addr) (n c : Nat) (l : List Int), cs[j]? = some (.slice A n c) ∧ Rd w 1 A n (ivs l) ∧ n ≤ 9223372036854775807 ∧ ∀ x ∈ l, -9223372036854775808 ≤ x ∧ x ≤ 9223372036854775807 := by
  cases x with
  | none => exact absurd rfl hx
  | some x =>
    rcases open_ints ht he hce h with ⟨hcs, _⟩ | ⟨a, len, cap, zs, hcs, _, hl, hm, hmm, _, hcell, hwf⟩
    · rw [hc] at hcs
      exact ⟨none, 0, 0, [], get_of_cutA hcs, Rd.none_, by omega, by simp⟩
    · rw [hc] at hcs
      have hlm : len ≤ zs.length := by rw [hmm]; split <;> omega
      unfold maxLen at hm
      refine ⟨some a, len, cap, zs.take len, get_of_cutA hcs, ⟨by simp [ivs_len]; omega, fun hn => ⟨a, rfl, ?_, ?_⟩⟩, by omega, ?_⟩
      · have h1 := hcell 0 (by omega)
        have := World.block_lt_of_cell? w _ h1
        rwa [block_of_add] at this
      · intro j u hu
        simp only [ivs, List.getElem?_map] at hu
        obtain ⟨i, hi, rfl⟩ := Option.map_eq_some_iff.1 hu
        obtain ⟨hj, h2⟩ := List.getElem?_eq_some_iff.1 hi
        simp only [List.length_take] at hj
        rw [hcell j (by omega)]
        simp only [List.getElem_take] at h2
        rw [← h2]
        simp [iv, List.getD_eq_getElem?_getD, List.getElem?_eq_getElem (show j < zs.length by omega)]
      · exact fun x hx => wf_i64 (hwf x (List.mem_of_mem_take hx))
end
section
variable {H : Type} {enc : TypeId × Value → H} {w : World} {base : Nat} {spare : Nat → Bool} {held : Bool}
set_option maxRecDepth 100000 in
theorem act3_elem (fuel : Nat) (cs : List Value) (y : DataW H × List MemPlace) (h : DataW.trod enc Try.prog w base spare held fuel 68 cs = some y) : ∃ x, cs = ac3C x ∧ Ac3Ok x ∧ Rd w 1 x.TA x.tn (svs x.ts) ∧ Rd w 1 x.CA x.cn (ivs x.ch) := by
  obtain ⟨xs, k, _, _, hl, hn, hf⟩ := DataW.trod_struct Try.underlying68 h
  have hns : ∀ i, i < 6 → xs[i]? ≠ none := fun i hi h => by
    have := List.getElem?_eq_none_iff.1 h
    rw [hn] at this
    simp at this
    omega
  obtain ⟨vk, k0, k1⟩ := fieldA_i64 (j := 0) Try.underlying3 (by kernel_rfl) (hf 0 _ rfl) (hns 0 (by omega))
  obtain ⟨va, a0, a1⟩ := fieldA_i64 (j := 1) Try.underlying3 (by kernel_rfl) (hf 1 _ rfl) (hns 1 (by omega))
  obtain ⟨vn, n0, n1⟩ := fieldA_i64 (j := 2) Try.underlying3 (by kernel_rfl) (hf 2 _ rfl) (hns 2 (by omega))
  obtain ⟨TA, tn, tc, ts, t0, t1, t2⟩ := fieldA_strs (j := 3) Try.underlying22 Try.underlying9 (by kernel_rfl) (by kernel_rfl) (hf 3 _ rfl) (hns 3 (by omega))
  obtain ⟨CA, cn, cc, ch, c0, c1, c2, c3⟩ := fieldA_ints (j := 4) Try.underlying23 Try.underlying3 (by kernel_rfl) (by kernel_rfl) (hf 4 _ rfl) (hns 4 (by omega))
  obtain ⟨vy, y0⟩ := fieldA_u8 (j := 5) Try.underlying5 (by kernel_rfl) (hf 5 _ rfl) (hns 5 (by omega))
  refine ⟨⟨vk, va, vn, TA, tn, tc, ts, CA, cn, cc, ch, vy⟩, cells_ext (hl.trans (by kernel_rfl)) (fun j hj => ?_), ⟨n1.1, n1.2, t2, c2, c3⟩, t1, c1⟩
  rcases (by rw [ac3C_len] at hj; omega : j = 0 ∨ j = 1 ∨ j = 2 ∨ j = 3 ∨ j = 4 ∨ j = 5) with rfl | rfl | rfl | rfl | rfl | rfl
  · exact k0
  · exact a0
  · exact n0
  · exact t0
  · exact c0
  · exact y0
set_option maxRecDepth 100000 in
theorem open_act3 {r : Reach} {b0 : Nat} {v : Value} {d : DataW H} {p : List MemPlace} (hv : Value.okWide Try.prog w r b0 60 v) (h : DataW.Trod enc Try.prog w base spare held 60 v d p) :
    ∃ (A : Option Addr) (n c : Nat) (l : List Ac3), v = .slice A n c ∧ Rd w 6 A n (a3vs l) ∧ n ≤ 9223372036854775807 ∧ ∀ x ∈ l, Ac3Ok x ∧ Rd w 1 x.TA x.tn (svs x.ts) ∧ Rd w 1 x.CA x.cn (ivs x.ch) :=
  open_recs ac3C 6 (by decide) ac3C_len Try.underlying60 (by kernel_rfl) act3_elem hv h
end
end Go.Proofs.Ytbejifbiffeamaa
set_option linter.unusedSimpArgs false
set_option linter.unusedVariables false
namespace Go.Proofs.Ytbejifbiffeamaa
open Go.RowKit Go.WideShapes Go.ChangeShapes Go.ChangeAt
theorem acts_star {W : World} : ∀ (l : List Ac3) (F0 : List SProp), Star F0 W → oldE W ∈ F0 → (∀ x ∈ l, Rd W 1 x.TA x.tn (svs x.ts) ∧ Rd W 1 x.CA x.cn (ivs x.ch)) → ∃ F, Star F W ∧ (∀ y ∈ F0, y ∈ F) ∧ ∀ x ∈ l, rowE 1 x.TA x.tn (svs x.ts) ∈ F ∧ rowE 1 x.CA x.cn (ivs x.ch) ∈ F
  | [], F0, h, _, _ => ⟨F0, h, fun _ h => h, fun x hx => by cases hx⟩
  | x :: l, F0, h, ho, hz => by
    obtain ⟨h1, h2⟩ := hz x List.mem_cons_self
    obtain ⟨F, hF, hs, hl⟩ := acts_star l _ ((h.of_old ho h1).of_old (List.mem_cons_of_mem _ ho) h2) (List.mem_cons_of_mem _ (List.mem_cons_of_mem _ ho)) fun y hy => hz y (List.mem_cons_of_mem _ hy)
    refine ⟨F, hF, fun y hy => hs y (List.mem_cons_of_mem _ (List.mem_cons_of_mem _ hy)), fun y hy => ?_⟩
    rcases List.mem_cons.1 hy with rfl | hy
    · exact ⟨hs _ (List.mem_cons_of_mem _ List.mem_cons_self), hs _ List.mem_cons_self⟩
    · exact hl y hy
theorem sectorPlays_law (l0 : Int) (w0 : -9223372036854775808 ≤ l0) (y0 : l0 ≤ 9223372036854775807) (A1 : Option Addr) (n1 c1 : Nat) (l1 : List Ac3) (y1 : n1 ≤ 9223372036854775807) (W : World) (z1 : ∀ x ∈ l1, Ac3Ok x ∧ Rd W 1 x.TA x.tn (svs x.ts) ∧ Rd W 1 x.CA x.cn (ivs x.ch)) (w1 : Rd W 6 A1 n1 (a3vs l1)) :
    Calls Try.prog 12 #[.int .i64 l0, .slice A1 n1 c1] W fun r w' => r = .returned (.bool true) ∧ Ch [] W w' := by
  obtain ⟨F, hF, hs, hl⟩ := acts_star l1 _ ((Star.start W).of_old (by (repeat (first | assumption | (with_reducible exact mZ) | apply mS)); first | done | fail) w1) (List.mem_cons_of_mem _ List.mem_cons_self) fun x hx => (z1 x hx).2
  exact (sectorPlays_core l0 A1 n1 c1 l1 (fun x hx => (z1 x hx).1) y1 W hF (hs _ List.mem_cons_self) (fun x hx => (hl x hx).1) (fun x hx => (hl x hx).2)).mono fun _ _ ⟨h1, h2⟩ => ⟨h1, h2.old (hs _ (List.mem_cons_of_mem _ List.mem_cons_self))⟩
theorem sectorPlays_own : ownKnob Try.prog.godebug = none := by kernel_rfl
set_option maxRecDepth 100000 in
theorem sectorPlays_lifted (os : Os) (started : os.Started) (H : Type) (enc : TypeId × Value → H) :
    ReturnsInHanded {} Try.checked os 12 .any (Rows.sectorPlaysSpec.pre6 enc Try.prog Try.f12 Rows.sectorPlaysRow.domain false) (Rows.sectorPlaysSpec.post enc Try.prog Try.f12 false true false false) := by
  refine returnsInHanded_of_change (C := Try.checked) sectorPlays_own started (by kernel_rfl) Try.func12
    (ChangeSpec.witness6 (enc := enc) (C := Try.checked) false ⟨#[], #[.int .i64 0, .slice none 0 0], []⟩ 8 (by kernel_rfl) (by kernel_rfl) (by kernel_rfl) (by kernel_rfl)) ?_
  intro W base args ds gs before hval0 hW hcnd _
  have hval : ∀ (j : Nat) t v, Try.f12.params[j]? = some t → args[j]? = some v → Value.okWide Try.prog W .any base t v := hval0
  have hW' := hW
  obtain ⟨p, q, hA0, hV, rfl, hfz, hnd⟩ := hW
  have hA : DataW.TrodAll enc Try.prog W 0 (fun _ => true) true Try.f12.params.toList args.toList ds p := hA0
  have hA1 := hA
  rw [Try.params12] at hA hval
  obtain ⟨v0, vs0, d0, ds0, p0, q0, hargs, rfl, rfl, h0, r0⟩ := trodAll_cons hA
  obtain ⟨v1, vs1, d1, ds1, p1, q1, rfl, rfl, rfl, h1, r1⟩ := trodAll_cons r0
  obtain ⟨rfl, rfl, rfl⟩ := trodAll_nil r1
  obtain rfl : args = #[v0, v1] := by cases args; simp_all
  obtain ⟨rfl, rfl⟩ := trodVars_none hV
  obtain ⟨l0, rfl, w0, y0⟩ := open_i64 Try.underlying3 (hval 0 3 v0 rfl rfl) h0
  obtain ⟨A1, n1, c1, l1, rfl, w1, y1, z1⟩ := open_act3 (hval 1 60 v1 rfl rfl) h1
  clear hA0 hval0
  refine (sectorPlays_law l0 w0 y0 A1 n1 c1 l1 y1 W z1 w1).mono fun e W' ⟨he, hg⟩ => ?_
  subst he
  have hlt := fun x hx => hW'.lt x hx
  exact ⟨_, rfl, post_of_below hW' (fun _ _ _ => (trodAll_cons_mk (shut_bool Try.underlying4 _) trodAll_mk0))
    (fun sp hsp => args_stay (by kernel_rfl) hg.below sp _ _ _ _ (by kernel_rfl) hA1 (fun x hx => hlt x (List.mem_append.2 (.inl hx))) (fun x hx => hsp x (List.mem_append.2 (.inl hx)))) (fun _ _ => rfl) rfl
    hg.below (ok_one (by kernel_rfl) rfl (okWide_bool_mk Try.underlying4 _))⟩
theorem sectorPlays_over : Rows.sectorPlaysRow.holds Try.pinned (OpenSpec.ofChange Rows.sectorPlaysSpec) :=
  OpenClaim.holds_of_wide 12 Try.f12 rfl rfl rfl rfl rfl rfl rfl ⟨rfl, rfl, rfl, rfl, rfl⟩ rfl rfl rfl rfl rfl (by kernel_rfl) Try.func12 (by kernel_rfl)
    (of_decide_eq_true (by kernel_rfl)) (by unfold Func.isWrapper; first | (rw [if_pos (by decide +kernel)]; kernel_rfl) | (rw [if_neg (by decide +kernel)]; exact ⟨rfl, rfl⟩))
    (fun os started H enc _ => sectorPlays_lifted os started H enc)
/-- THE STATEMENT -/
theorem sectorPlays_holds : Rows.SectorPlaysSaid := sectorPlays_over
end Go.Proofs.Ytbejifbiffeamaa
