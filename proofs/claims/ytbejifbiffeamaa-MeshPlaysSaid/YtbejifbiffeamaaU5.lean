/- What the laws share, part 5 (MdB, MdC, MdD, MdE). No condition but those that each theorem names. -/
import Derived.Test.YtbejifbiffeamaaU4
set_option linter.unusedSimpArgs false
set_option linter.unusedVariables false
namespace Go.Proofs.Ytbejifbiffeamaa
open Go.RowKit
attribute [local go_sem] extract_mid extract_drop bget bsize wrap64_u8 i64_u8 u64_u8 bappend
theorem takeX_n (M : Msh) (t : Int) : (takeX M t).n = M.n := by
  unfold takeX
  split
  · split <;> rfl
  · rfl
theorem takeX_lost (M : Msh) (t : Int) : (takeX M t).lost = M.lost := by
  unfold takeX
  split
  · split <;> rfl
  · rfl
theorem dropX_lost (M : Msh) (t k i : Int) : (dropX M t k i).lost = M.lost := by unfold dropX; split <;> rfl
theorem rdrop_len (X : RM) (t k i : Int) : (rdrop X t k i).L.length ≤ X.L.length := by
  unfold rdrop
  split
  · exact eraseIdx_le _ _
  · exact Nat.le_refl _
theorem rdrop_la (X : RM) (t k i : Int) : (rdrop X t k i).la = X.la := by unfold rdrop; split <;> rfl
section
variable {F : List SProp} {A B : Option Addr} {c d : Nat} {X : RM} {M : Msh} {a : MA} {f : Sls} {l : List (Option Addr × List (List UInt8))}
set_option maxRecDepth 100000 in
set_option maxHeartbeats 8000000 in
theorem does_3 (hN : Hid (Net M)) (hT : Hid (Tied M f l)) (hR : Hid (Rel M X)) (hl : M.lost ≤ 50000) (hL : X.L.length ≤ 50000) (hc : X.L.length ≤ c) (hd : X.la.length ≤ d) (ka kb kn : Int) (x : List UInt8) (hx : x.length ≤ 9223372036854775807) (w : World) (hM : Star (netE a M f :: rowsE l :: rowE 1 B X.la.length (ivs X.la) :: rowE 3 A X.L.length (rps X.L) :: F) w) :
    Calls Try.prog 40 #[mptr a, refV X A c B d, .agg (actV 3 ka kb kn x)] w (DoesR a M X F) := by
  obtain ⟨y, hy⟩ : ∃ y, cutT x = y := ⟨_, rfl⟩
  obtain ⟨⟨k0, x0, b0⟩, hP⟩ : ∃ p, takeP M ka = p := ⟨_, rfl⟩
  obtain ⟨M2, hM2⟩ : ∃ M2, takeX M ka = M2 := ⟨_, rfl⟩
  have HS : Hid (∀ (w : World) (L R1 F : List SProp), Star L w → Take (netE a M f) L R1 → Take (rowsE l) R1 F → Calls Try.prog 18 #[mptr a, .int .i64 ka] w fun r w' => ∃ f' l', Hid (Tied M2 f' l') ∧ r = .returned (.tuple #[pktV k0 x0, .bool b0]) ∧ Star (netE a M2 f' :: rowsE l' :: F) w') := fun w L R1 F hM h1 h2 => by
    have := takeY hN.out hT ka w hM h1 h2
    rwa [hM2, hP] at this
  have HRS : Hid (∀ (w : World) (L : List SProp), Star L w → rowE 3 A X.L.length (rps X.L) ∈ L → rowE 1 B X.la.length (ivs X.la) ∈ L → Calls Try.prog 42 #[refV X A c B d, .int .i64 ka] w fun r w' => ∃ A' c' B' d' X' p1, r = .returned (.tuple #[refV X' A' c' B' d', rpA (p1, k0, x0), .bool b0]) ∧ Hid (Rel M2 X') ∧ X'.L.length ≤ c' ∧ X'.la.length ≤ d' ∧ Hid (X'.L.length ≤ X.L.length) ∧ Star (rowE 1 B' X'.la.length (ivs X'.la) :: rowE 3 A' X'.L.length (rps X'.L) :: L) w') := fun w L hM h1 h2 => by
    refine (rtakeY hN.out hR.out (by omega) hc hd ka w hM h1 h2).mono ?_
    rw [hP, hM2]
    rintro _ _ ⟨A', c', B', d', X', ⟨p1, p2, p3⟩, e, h1, h2, h3, h4, h5, h6, h7⟩
    simp only at h2 h3
    subst h2 h3
    exact ⟨A', c', B', d', X', p1, e, h1, h4, h5, h6, h7⟩
  have HN2 : Hid (Net M2) := by rw [← hM2]; exact net_takeX hN.out _
  have HB : Hid (M2.n = M.n ∧ M2.lost ≤ M.lost + 64) := by
    rw [← hM2]
    have := takeX_lost M ka
    exact ⟨takeX_n _ _, by omega⟩
  clear hM2 hP
  unfold refV at HRS ⊢
  generalize hn : X.L.length = n at hM hL hc HRS ⊢
  generalize hm : X.la.length = m at hM hd HRS ⊢
  generalize hlq : X.lo = lo at HRS ⊢
  have Hn := Lib.hid hn
  have Hm := Lib.hid hm
  clear hn hm hlq
  unfold cutT at hy
  have tok1 : Hid True := trivial
  by_cases hxc : 1024 < x.length
  · rw [if_pos hxc] at hy
    have h1 : (1024 : Int) < (x.length : Int) := by omega
    go_enter Try.func40, Try.ntmps40
    go_wp2_with (first | (first | ((with_reducible refine at_box' ?_); (have hM0 := hM; clear hM; refine BigFrame.wpList_want (by rfl) fun K hK => ws_box hM0 rfl rfl (cs := rmV A n c B m d lo) rfl (fun g4 w hM => hK _ _ ?_); clear hM0 hK K)) | fail) | (first | ((with_reducible refine at_box' ?_); (have hM0 := hM; clear hM; refine BigFrame.wpList_want (by rfl) fun K hK => ws_box hM0 rfl rfl (cs := actV 3 ka kb kn x) rfl (fun g5 w hM => hK _ _ ?_); clear hM0 hK K)) | fail) | (have _t := tok1; (first | ((with_reducible refine at_alloc' ?_); (have hM0 := hM; clear hM; refine BigFrame.wpList_want (by rfl) fun K hK => ws_alloc hM0 (t := 77) rfl #[.slice none 0 0, .slice none 0 0, .int .i64 0] info_rmz (fun g6 w hM => hK _ _ ?_); clear hM0 hK K)) | fail); clear tok1) | (first | ((with_reducible refine at_alloc' ?_); (have hM0 := hM; clear hM; refine BigFrame.wpList_want (by rfl) fun K hK => ws_alloc hM0 (t := 77) rfl #[.slice none 0 0, .slice none 0 0, .int .i64 0] info_rmz (fun g10 w hM => hK _ _ ?_); clear hM0 hK K)) | fail) | (first | ((with_reducible refine at_alloc' ?_); (have hM0 := hM; clear hM; refine BigFrame.wpList_want (by rfl) fun K hK => ws_alloc hM0 (t := 85) rfl #[.int .i64 0, .int .i64 0, .string ByteArray.empty] info_rp (fun g11 w hM => hK _ _ ?_); clear hM0 hK K)) | fail) | (first | ((with_reducible refine at_alloc' ?_); (have hM0 := hM; clear hM; refine BigFrame.wpList_want (by rfl) fun K hK => ws_alloc hM0 (t := 31) rfl #[.int .i64 0, .string ByteArray.empty] info_pkt (fun g12 w hM => hK _ _ ?_); clear hM0 hK K)) | fail) | (first | ((with_reducible refine at_load' ?_); (refine BigFrame.wpList_want (by rfl) fun K hK => ws_load1 hM rfl rfl (by (repeat (first | assumption | (with_reducible exact mZ) | apply mS)); first | done | fail) (by first | rfl | assumption) (by decide +kernel) (hK _ _ ?_); clear hK K)) | fail) | (go_at_call 18; have hM0 := hM; clear hM; (first | (with_reducible refine (HS.out _ _ _ _ hM0 (by (repeat (first | (with_reducible exact Take.head) | apply Take.tail)); first | done | fail) (by (repeat (first | (with_reducible exact Take.head) | apply Take.tail)); first | done | fail)).mono ?_) | fail); clear hM0; rintro _ w ⟨f', l', HT', rfl, hM⟩) | (go_at_call 42; have hM0 := hM; clear hM; (first | (with_reducible refine (HRS.out _ _ hM0 (by (repeat (first | assumption | (with_reducible exact mZ) | apply mS)); first | done | fail) (by (repeat (first | assumption | (with_reducible exact mZ) | apply mS)); first | done | fail)).mono ?_) | fail); clear hM0; rintro _ w ⟨A', c', B', d', X2, p1, rfl, HR2, hcc, hdd, hle, hM⟩) | (first | ((with_reducible refine at_load' ?_); (refine BigFrame.wpList_want (by rfl) fun K hK => ws_load hM rfl rfl (by (repeat (first | assumption | (with_reducible exact mZ) | apply mS)); first | done | fail) (n := 3) (by rfl) (by decide +kernel) (hK _ _ ?_); clear hK K)) | fail) | (first | ((with_reducible refine at_store' ?_); (have hM0 := hM; clear hM; refine BigFrame.wpList_want (by rfl) fun K hK => ws_store hM0 rfl rfl rfl (by (repeat (first | (with_reducible exact Take.head) | apply Take.tail)); first | done | fail) (n := 3) (by rfl) (by rfl) (by kernel_rfl) (by simp [Value.oneCell']) (fun w hM => hK _ _ ?_); clear hM0 hK K)) | fail) | (first | ((with_reducible refine at_store' ?_); (have hM0 := hM; clear hM; refine BigFrame.wpList_want (by rfl) fun K hK => ws_store hM0 rfl rfl rfl (by (repeat (first | (with_reducible exact Take.head) | apply Take.tail)); first | done | fail) (n := 2) (by rfl) (by rfl) (by kernel_rfl) (by simp [Value.oneCell']) (fun w hM => hK _ _ ?_); clear hM0 hK K)) | fail))
    (refine region_RS ([cellsE g10 77 (rmV A' X2.L.length c' B' X2.la.length d' X2.lo), cellsE g11 85 #[.int .i64 p1, .int .i64 k0, .string ⟨x0.toArray⟩], cellsE g12 31 #[.int .i64 k0, .string ⟨x0.toArray⟩]]) [] (by kernel_rfl) hM ?_; clear hM; change RS _ _ _ _ _ _ 20 (Array.replicate 20 false) _ _; refine RS_take (i := 0) rfl (by decide +kernel) (fun _ _ _ h => h) (by first | (intro x hx; (repeat (first | exact hx | apply mS)); done) | ((repeat (refine List.forall_mem_cons.2 ⟨(by (repeat (first | assumption | (with_reducible exact mZ) | apply mS)); first | done | fail), ?_⟩)); intro x hx; first | (cases hx; done) | ((repeat (first | exact hx | apply mS)); done))) (stab_read (by rfl) (fun L w hL hM => (ex_load hM rfl rfl (hL _ (by (repeat (first | assumption | (with_reducible exact mZ) | apply mS)); first | done | fail)) (n := 3) rfl (by decide +kernel)))) ?_; simp only [Act.put, List.setIfInBounds_toArray, List.set_cons_zero, List.set_cons_succ]; refine RS_take (i := 1) rfl (by decide +kernel) (fun _ _ _ h => h) (by first | (intro x hx; (repeat (first | exact hx | apply mS)); done) | ((repeat (refine List.forall_mem_cons.2 ⟨(by (repeat (first | assumption | (with_reducible exact mZ) | apply mS)); first | done | fail), ?_⟩)); intro x hx; first | (cases hx; done) | ((repeat (first | exact hx | apply mS)); done))) (stab_pure (by rfl) (fun w => (by go_simp; try with_reducible rfl))) ?_; simp only [Act.put, List.setIfInBounds_toArray, List.set_cons_zero, List.set_cons_succ]; refine RS_take (i := 2) rfl (by decide +kernel) (fun _ _ _ h => h) (by first | (intro x hx; (repeat (first | exact hx | apply mS)); done) | ((repeat (refine List.forall_mem_cons.2 ⟨(by (repeat (first | assumption | (with_reducible exact mZ) | apply mS)); first | done | fail), ?_⟩)); intro x hx; first | (cases hx; done) | ((repeat (first | exact hx | apply mS)); done))) (stab_pure (by rfl) (fun w => (by go_simp; try with_reducible rfl))) ?_; simp only [Act.put, List.setIfInBounds_toArray, List.set_cons_zero, List.set_cons_succ]; refine RS_take (i := 3) rfl (by decide +kernel) (fun _ _ _ h => h) (by first | (intro x hx; (repeat (first | exact hx | apply mS)); done) | ((repeat (refine List.forall_mem_cons.2 ⟨(by (repeat (first | assumption | (with_reducible exact mZ) | apply mS)); first | done | fail), ?_⟩)); intro x hx; first | (cases hx; done) | ((repeat (first | exact hx | apply mS)); done))) (stab_pure (by rfl) (fun w => (by go_simp; try with_reducible rfl))) ?_; simp only [Act.put, List.setIfInBounds_toArray, List.set_cons_zero, List.set_cons_succ]; refine RS_take (i := 4) rfl (by decide +kernel) (fun _ _ _ h => h) (by first | (intro x hx; (repeat (first | exact hx | apply mS)); done) | ((repeat (refine List.forall_mem_cons.2 ⟨(by (repeat (first | assumption | (with_reducible exact mZ) | apply mS)); first | done | fail), ?_⟩)); intro x hx; first | (cases hx; done) | ((repeat (first | exact hx | apply mS)); done))) (stab_pure (by rfl) (fun w => (by go_simp; try with_reducible rfl))) ?_; simp only [Act.put, List.setIfInBounds_toArray, List.set_cons_zero, List.set_cons_succ]; refine RS_take (i := 5) rfl (by decide +kernel) (fun _ _ _ h => h) (by first | (intro x hx; (repeat (first | exact hx | apply mS)); done) | ((repeat (refine List.forall_mem_cons.2 ⟨(by (repeat (first | assumption | (with_reducible exact mZ) | apply mS)); first | done | fail), ?_⟩)); intro x hx; first | (cases hx; done) | ((repeat (first | exact hx | apply mS)); done))) (stab_pure (by rfl) (fun w => (by go_simp; try with_reducible rfl))) ?_; simp only [Act.put, List.setIfInBounds_toArray, List.set_cons_zero, List.set_cons_succ]; refine RS_take (i := 6) rfl (by decide +kernel) (fun _ _ _ h => h) (by first | (intro x hx; (repeat (first | exact hx | apply mS)); done) | ((repeat (refine List.forall_mem_cons.2 ⟨(by (repeat (first | assumption | (with_reducible exact mZ) | apply mS)); first | done | fail), ?_⟩)); intro x hx; first | (cases hx; done) | ((repeat (first | exact hx | apply mS)); done))) (stab_read (by rfl) (fun L w hL hM => (ex_load1 hM rfl rfl (hL _ (by (repeat (first | assumption | (with_reducible exact mZ) | apply mS)); first | done | fail)) rfl (by decide +kernel)))) ?_; simp only [Act.put, List.setIfInBounds_toArray, List.set_cons_zero, List.set_cons_succ]; refine RS_take (i := 7) rfl (by decide +kernel) (fun _ _ _ h => h) (by first | (intro x hx; (repeat (first | exact hx | apply mS)); done) | ((repeat (refine List.forall_mem_cons.2 ⟨(by (repeat (first | assumption | (with_reducible exact mZ) | apply mS)); first | done | fail), ?_⟩)); intro x hx; first | (cases hx; done) | ((repeat (first | exact hx | apply mS)); done))) (stab_pure (by rfl) (fun w => (by go_simp; try with_reducible rfl))) ?_; simp only [Act.put, List.setIfInBounds_toArray, List.set_cons_zero, List.set_cons_succ]; refine RS_take (i := 8) rfl (by decide +kernel) (fun _ _ _ h => h) (by first | (intro x hx; (repeat (first | exact hx | apply mS)); done) | ((repeat (refine List.forall_mem_cons.2 ⟨(by (repeat (first | assumption | (with_reducible exact mZ) | apply mS)); first | done | fail), ?_⟩)); intro x hx; first | (cases hx; done) | ((repeat (first | exact hx | apply mS)); done))) (stab_read (by rfl) (fun L w hL hM => (ex_load1 hM rfl rfl (hL _ (by (repeat (first | assumption | (with_reducible exact mZ) | apply mS)); first | done | fail)) rfl (by decide +kernel)))) ?_; simp only [Act.put, List.setIfInBounds_toArray, List.set_cons_zero, List.set_cons_succ]; refine RS_take (i := 9) rfl (by decide +kernel) (fun _ _ _ h => h) (by first | (intro x hx; (repeat (first | exact hx | apply mS)); done) | ((repeat (refine List.forall_mem_cons.2 ⟨(by (repeat (first | assumption | (with_reducible exact mZ) | apply mS)); first | done | fail), ?_⟩)); intro x hx; first | (cases hx; done) | ((repeat (first | exact hx | apply mS)); done))) (stab_pure (by rfl) (fun w => (by go_simp; try with_reducible rfl))) ?_; simp only [Act.put, List.setIfInBounds_toArray, List.set_cons_zero, List.set_cons_succ]; refine RS_take (i := 10) rfl (by decide +kernel) (fun _ _ _ h => h) (by first | (intro x hx; (repeat (first | exact hx | apply mS)); done) | ((repeat (refine List.forall_mem_cons.2 ⟨(by (repeat (first | assumption | (with_reducible exact mZ) | apply mS)); first | done | fail), ?_⟩)); intro x hx; first | (cases hx; done) | ((repeat (first | exact hx | apply mS)); done))) (stab_pure (by rfl) (fun w => (by go_simp; try with_reducible rfl))) ?_; simp only [Act.put, List.setIfInBounds_toArray, List.set_cons_zero, List.set_cons_succ]; refine RS_take (i := 11) rfl (by decide +kernel) (fun _ _ _ h => h) (by first | (intro x hx; (repeat (first | exact hx | apply mS)); done) | ((repeat (refine List.forall_mem_cons.2 ⟨(by (repeat (first | assumption | (with_reducible exact mZ) | apply mS)); first | done | fail), ?_⟩)); intro x hx; first | (cases hx; done) | ((repeat (first | exact hx | apply mS)); done))) (stab_pure (by rfl) (fun w => (by go_simp; try with_reducible rfl))) ?_; simp only [Act.put, List.setIfInBounds_toArray, List.set_cons_zero, List.set_cons_succ]; refine RS_take (i := 12) rfl (by decide +kernel) (fun _ _ _ h => h) (by first | (intro x hx; (repeat (first | exact hx | apply mS)); done) | ((repeat (refine List.forall_mem_cons.2 ⟨(by (repeat (first | assumption | (with_reducible exact mZ) | apply mS)); first | done | fail), ?_⟩)); intro x hx; first | (cases hx; done) | ((repeat (first | exact hx | apply mS)); done))) (stab_pure (by rfl) (fun w => (by go_simp; try with_reducible rfl))) ?_; simp only [Act.put, List.setIfInBounds_toArray, List.set_cons_zero, List.set_cons_succ]; refine RS_take (i := 13) rfl (by decide +kernel) (fun _ _ _ h => h) (by first | (intro x hx; (repeat (first | exact hx | apply mS)); done) | ((repeat (refine List.forall_mem_cons.2 ⟨(by (repeat (first | assumption | (with_reducible exact mZ) | apply mS)); first | done | fail), ?_⟩)); intro x hx; first | (cases hx; done) | ((repeat (first | exact hx | apply mS)); done))) (stab_read (by rfl) (fun L w hL hM => (ex_load1 hM rfl rfl (hL _ (by (repeat (first | assumption | (with_reducible exact mZ) | apply mS)); first | done | fail)) rfl (by decide +kernel)))) ?_; simp only [Act.put, List.setIfInBounds_toArray, List.set_cons_zero, List.set_cons_succ]; refine RS_take (i := 14) rfl (by decide +kernel) (fun _ _ _ h => h) (by first | (intro x hx; (repeat (first | exact hx | apply mS)); done) | ((repeat (refine List.forall_mem_cons.2 ⟨(by (repeat (first | assumption | (with_reducible exact mZ) | apply mS)); first | done | fail), ?_⟩)); intro x hx; first | (cases hx; done) | ((repeat (first | exact hx | apply mS)); done))) (stab_pure (by rfl) (fun w => (by go_simp; try with_reducible rfl))) ?_; simp only [Act.put, List.setIfInBounds_toArray, List.set_cons_zero, List.set_cons_succ]; refine RS_take (i := 15) rfl (by decide +kernel) (fun _ _ _ h => h) (by first | (intro x hx; (repeat (first | exact hx | apply mS)); done) | ((repeat (refine List.forall_mem_cons.2 ⟨(by (repeat (first | assumption | (with_reducible exact mZ) | apply mS)); first | done | fail), ?_⟩)); intro x hx; first | (cases hx; done) | ((repeat (first | exact hx | apply mS)); done))) (stab_read (by rfl) (fun L w hL hM => (ex_load1 hM rfl rfl (hL _ (by (repeat (first | assumption | (with_reducible exact mZ) | apply mS)); first | done | fail)) rfl (by decide +kernel)))) ?_; simp only [Act.put, List.setIfInBounds_toArray, List.set_cons_zero, List.set_cons_succ]; refine RS_take (i := 16) rfl (by decide +kernel) (fun _ _ _ h => h) (by first | (intro x hx; (repeat (first | exact hx | apply mS)); done) | ((repeat (refine List.forall_mem_cons.2 ⟨(by (repeat (first | assumption | (with_reducible exact mZ) | apply mS)); first | done | fail), ?_⟩)); intro x hx; first | (cases hx; done) | ((repeat (first | exact hx | apply mS)); done))) (stab_pure (by rfl) (fun w => (by go_simp; try with_reducible rfl))) ?_; simp only [Act.put, List.setIfInBounds_toArray, List.set_cons_zero, List.set_cons_succ]; refine RS_take (i := 17) rfl (by decide +kernel) (fun _ _ _ h => h) (by first | (intro x hx; (repeat (first | exact hx | apply mS)); done) | ((repeat (refine List.forall_mem_cons.2 ⟨(by (repeat (first | assumption | (with_reducible exact mZ) | apply mS)); first | done | fail), ?_⟩)); intro x hx; first | (cases hx; done) | ((repeat (first | exact hx | apply mS)); done))) (stab_pure (by rfl) (fun w => (by go_simp; try with_reducible rfl))) ?_; simp only [Act.put, List.setIfInBounds_toArray, List.set_cons_zero, List.set_cons_succ]; refine RS_one (i := 18) (by decide +kernel) rfl (by rfl) (.inl (by first | (intro x hx; (repeat (first | exact hx | apply mS)); done) | ((repeat (refine List.forall_mem_cons.2 ⟨(by (repeat (first | assumption | (with_reducible exact mZ) | apply mS)); first | done | fail), ?_⟩)); intro x hx; first | (cases hx; done) | ((repeat (first | exact hx | apply mS)); done)))) (fun w K hM0 hK => ?_); refine ws_store hM0 rfl rfl rfl (by (repeat (first | (with_reducible exact Take.head) | apply Take.tail)); first | done | fail) (n := 3) (by rfl) (by rfl) (by kernel_rfl) (by simp [Value.oneCell']) (fun w hM => hK _ _ _ hM ?_); clear hM hM0 hK K; simp only [Act.put, List.setIfInBounds_toArray, List.set_cons_zero, List.set_cons_succ]; refine RS_take (i := 19) rfl (by decide +kernel) (fun _ _ _ h => h) (by first | (intro x hx; (repeat (first | exact hx | apply mS)); done) | ((repeat (refine List.forall_mem_cons.2 ⟨(by (repeat (first | assumption | (with_reducible exact mZ) | apply mS)); first | done | fail), ?_⟩)); intro x hx; first | (cases hx; done) | ((repeat (first | exact hx | apply mS)); done))) (stab_pure (by rfl) (fun w => (by go_simp; try with_reducible rfl))) ?_; simp only [Act.put, List.setIfInBounds_toArray, List.set_cons_zero, List.set_cons_succ]; refine RS_done (by decide +kernel) (.inl (by first | (intro x hx; (repeat (first | exact hx | apply mS)); done) | ((repeat (refine List.forall_mem_cons.2 ⟨(by (repeat (first | assumption | (with_reducible exact mZ) | apply mS)); first | done | fail), ?_⟩)); intro x hx; first | (cases hx; done) | ((repeat (first | exact hx | apply mS)); done)))) (fun w hM => ?_))
    all_goals (
      go_wp2_with fail
      refine bodyPost_ret (results_row_tmp (P := Try.prog) (ty := 77) rfl _ _ g6 77 (rmV A' X2.L.length c' B' X2.la.length d' X2.lo) 3 (.bool true) rfl (by simp) (hM.blk (by (repeat (first | assumption | (with_reducible exact mZ) | apply mS)); first | done | fail)) rfl (by decide +kernel)) rfl ?_
      exact ⟨M2, f', l', X2, A', c', B', d', rfl, HT', HN2, HR2, HB.out.1, HB.out.2, by have := hle.out; have := Hn.out; omega, hcc, hdd, hM.sel (by repeat (first | (with_reducible exact Sel.refl) | (with_reducible exact Take.head) | (with_reducible apply Take.tail) | (with_reducible apply Sel.cons) | (with_reducible apply Sel.drop)))⟩)
  · rw [if_neg hxc] at hy
    subst hy
    have h1 : (x.length : Int) ≤ 1024 := by omega
    go_enter Try.func40, Try.ntmps40
    go_wp2_with (first | (first | ((with_reducible refine at_box' ?_); (have hM0 := hM; clear hM; refine BigFrame.wpList_want (by rfl) fun K hK => ws_box hM0 rfl rfl (cs := rmV A n c B m d lo) rfl (fun g4 w hM => hK _ _ ?_); clear hM0 hK K)) | fail) | (first | ((with_reducible refine at_box' ?_); (have hM0 := hM; clear hM; refine BigFrame.wpList_want (by rfl) fun K hK => ws_box hM0 rfl rfl (cs := actV 3 ka kb kn x) rfl (fun g5 w hM => hK _ _ ?_); clear hM0 hK K)) | fail) | (have _t := tok1; (first | ((with_reducible refine at_alloc' ?_); (have hM0 := hM; clear hM; refine BigFrame.wpList_want (by rfl) fun K hK => ws_alloc hM0 (t := 77) rfl #[.slice none 0 0, .slice none 0 0, .int .i64 0] info_rmz (fun g6 w hM => hK _ _ ?_); clear hM0 hK K)) | fail); clear tok1) | (first | ((with_reducible refine at_alloc' ?_); (have hM0 := hM; clear hM; refine BigFrame.wpList_want (by rfl) fun K hK => ws_alloc hM0 (t := 77) rfl #[.slice none 0 0, .slice none 0 0, .int .i64 0] info_rmz (fun g10 w hM => hK _ _ ?_); clear hM0 hK K)) | fail) | (first | ((with_reducible refine at_alloc' ?_); (have hM0 := hM; clear hM; refine BigFrame.wpList_want (by rfl) fun K hK => ws_alloc hM0 (t := 85) rfl #[.int .i64 0, .int .i64 0, .string ByteArray.empty] info_rp (fun g11 w hM => hK _ _ ?_); clear hM0 hK K)) | fail) | (first | ((with_reducible refine at_alloc' ?_); (have hM0 := hM; clear hM; refine BigFrame.wpList_want (by rfl) fun K hK => ws_alloc hM0 (t := 31) rfl #[.int .i64 0, .string ByteArray.empty] info_pkt (fun g12 w hM => hK _ _ ?_); clear hM0 hK K)) | fail) | (first | ((with_reducible refine at_load' ?_); (refine BigFrame.wpList_want (by rfl) fun K hK => ws_load1 hM rfl rfl (by (repeat (first | assumption | (with_reducible exact mZ) | apply mS)); first | done | fail) (by first | rfl | assumption) (by decide +kernel) (hK _ _ ?_); clear hK K)) | fail) | (go_at_call 18; have hM0 := hM; clear hM; (first | (with_reducible refine (HS.out _ _ _ _ hM0 (by (repeat (first | (with_reducible exact Take.head) | apply Take.tail)); first | done | fail) (by (repeat (first | (with_reducible exact Take.head) | apply Take.tail)); first | done | fail)).mono ?_) | fail); clear hM0; rintro _ w ⟨f', l', HT', rfl, hM⟩) | (go_at_call 42; have hM0 := hM; clear hM; (first | (with_reducible refine (HRS.out _ _ hM0 (by (repeat (first | assumption | (with_reducible exact mZ) | apply mS)); first | done | fail) (by (repeat (first | assumption | (with_reducible exact mZ) | apply mS)); first | done | fail)).mono ?_) | fail); clear hM0; rintro _ w ⟨A', c', B', d', X2, p1, rfl, HR2, hcc, hdd, hle, hM⟩) | (first | ((with_reducible refine at_load' ?_); (refine BigFrame.wpList_want (by rfl) fun K hK => ws_load hM rfl rfl (by (repeat (first | assumption | (with_reducible exact mZ) | apply mS)); first | done | fail) (n := 3) (by rfl) (by decide +kernel) (hK _ _ ?_); clear hK K)) | fail) | (first | ((with_reducible refine at_store' ?_); (have hM0 := hM; clear hM; refine BigFrame.wpList_want (by rfl) fun K hK => ws_store hM0 rfl rfl rfl (by (repeat (first | (with_reducible exact Take.head) | apply Take.tail)); first | done | fail) (n := 3) (by rfl) (by rfl) (by kernel_rfl) (by simp [Value.oneCell']) (fun w hM => hK _ _ ?_); clear hM0 hK K)) | fail) | (first | ((with_reducible refine at_store' ?_); (have hM0 := hM; clear hM; refine BigFrame.wpList_want (by rfl) fun K hK => ws_store hM0 rfl rfl rfl (by (repeat (first | (with_reducible exact Take.head) | apply Take.tail)); first | done | fail) (n := 2) (by rfl) (by rfl) (by kernel_rfl) (by simp [Value.oneCell']) (fun w hM => hK _ _ ?_); clear hM0 hK K)) | fail))
    (refine region_RS ([cellsE g10 77 (rmV A' X2.L.length c' B' X2.la.length d' X2.lo), cellsE g11 85 #[.int .i64 p1, .int .i64 k0, .string ⟨x0.toArray⟩], cellsE g12 31 #[.int .i64 k0, .string ⟨x0.toArray⟩]]) [] (by kernel_rfl) hM ?_; clear hM; change RS _ _ _ _ _ _ 20 (Array.replicate 20 false) _ _; refine RS_take (i := 0) rfl (by decide +kernel) (fun _ _ _ h => h) (by first | (intro x hx; (repeat (first | exact hx | apply mS)); done) | ((repeat (refine List.forall_mem_cons.2 ⟨(by (repeat (first | assumption | (with_reducible exact mZ) | apply mS)); first | done | fail), ?_⟩)); intro x hx; first | (cases hx; done) | ((repeat (first | exact hx | apply mS)); done))) (stab_read (by rfl) (fun L w hL hM => (ex_load hM rfl rfl (hL _ (by (repeat (first | assumption | (with_reducible exact mZ) | apply mS)); first | done | fail)) (n := 3) rfl (by decide +kernel)))) ?_; simp only [Act.put, List.setIfInBounds_toArray, List.set_cons_zero, List.set_cons_succ]; refine RS_take (i := 1) rfl (by decide +kernel) (fun _ _ _ h => h) (by first | (intro x hx; (repeat (first | exact hx | apply mS)); done) | ((repeat (refine List.forall_mem_cons.2 ⟨(by (repeat (first | assumption | (with_reducible exact mZ) | apply mS)); first | done | fail), ?_⟩)); intro x hx; first | (cases hx; done) | ((repeat (first | exact hx | apply mS)); done))) (stab_pure (by rfl) (fun w => (by go_simp; try with_reducible rfl))) ?_; simp only [Act.put, List.setIfInBounds_toArray, List.set_cons_zero, List.set_cons_succ]; refine RS_take (i := 2) rfl (by decide +kernel) (fun _ _ _ h => h) (by first | (intro x hx; (repeat (first | exact hx | apply mS)); done) | ((repeat (refine List.forall_mem_cons.2 ⟨(by (repeat (first | assumption | (with_reducible exact mZ) | apply mS)); first | done | fail), ?_⟩)); intro x hx; first | (cases hx; done) | ((repeat (first | exact hx | apply mS)); done))) (stab_pure (by rfl) (fun w => (by go_simp; try with_reducible rfl))) ?_; simp only [Act.put, List.setIfInBounds_toArray, List.set_cons_zero, List.set_cons_succ]; refine RS_take (i := 3) rfl (by decide +kernel) (fun _ _ _ h => h) (by first | (intro x hx; (repeat (first | exact hx | apply mS)); done) | ((repeat (refine List.forall_mem_cons.2 ⟨(by (repeat (first | assumption | (with_reducible exact mZ) | apply mS)); first | done | fail), ?_⟩)); intro x hx; first | (cases hx; done) | ((repeat (first | exact hx | apply mS)); done))) (stab_pure (by rfl) (fun w => (by go_simp; try with_reducible rfl))) ?_; simp only [Act.put, List.setIfInBounds_toArray, List.set_cons_zero, List.set_cons_succ]; refine RS_take (i := 4) rfl (by decide +kernel) (fun _ _ _ h => h) (by first | (intro x hx; (repeat (first | exact hx | apply mS)); done) | ((repeat (refine List.forall_mem_cons.2 ⟨(by (repeat (first | assumption | (with_reducible exact mZ) | apply mS)); first | done | fail), ?_⟩)); intro x hx; first | (cases hx; done) | ((repeat (first | exact hx | apply mS)); done))) (stab_pure (by rfl) (fun w => (by go_simp; try with_reducible rfl))) ?_; simp only [Act.put, List.setIfInBounds_toArray, List.set_cons_zero, List.set_cons_succ]; refine RS_take (i := 5) rfl (by decide +kernel) (fun _ _ _ h => h) (by first | (intro x hx; (repeat (first | exact hx | apply mS)); done) | ((repeat (refine List.forall_mem_cons.2 ⟨(by (repeat (first | assumption | (with_reducible exact mZ) | apply mS)); first | done | fail), ?_⟩)); intro x hx; first | (cases hx; done) | ((repeat (first | exact hx | apply mS)); done))) (stab_pure (by rfl) (fun w => (by go_simp; try with_reducible rfl))) ?_; simp only [Act.put, List.setIfInBounds_toArray, List.set_cons_zero, List.set_cons_succ]; refine RS_take (i := 6) rfl (by decide +kernel) (fun _ _ _ h => h) (by first | (intro x hx; (repeat (first | exact hx | apply mS)); done) | ((repeat (refine List.forall_mem_cons.2 ⟨(by (repeat (first | assumption | (with_reducible exact mZ) | apply mS)); first | done | fail), ?_⟩)); intro x hx; first | (cases hx; done) | ((repeat (first | exact hx | apply mS)); done))) (stab_read (by rfl) (fun L w hL hM => (ex_load1 hM rfl rfl (hL _ (by (repeat (first | assumption | (with_reducible exact mZ) | apply mS)); first | done | fail)) rfl (by decide +kernel)))) ?_; simp only [Act.put, List.setIfInBounds_toArray, List.set_cons_zero, List.set_cons_succ]; refine RS_take (i := 7) rfl (by decide +kernel) (fun _ _ _ h => h) (by first | (intro x hx; (repeat (first | exact hx | apply mS)); done) | ((repeat (refine List.forall_mem_cons.2 ⟨(by (repeat (first | assumption | (with_reducible exact mZ) | apply mS)); first | done | fail), ?_⟩)); intro x hx; first | (cases hx; done) | ((repeat (first | exact hx | apply mS)); done))) (stab_pure (by rfl) (fun w => (by go_simp; try with_reducible rfl))) ?_; simp only [Act.put, List.setIfInBounds_toArray, List.set_cons_zero, List.set_cons_succ]; refine RS_take (i := 8) rfl (by decide +kernel) (fun _ _ _ h => h) (by first | (intro x hx; (repeat (first | exact hx | apply mS)); done) | ((repeat (refine List.forall_mem_cons.2 ⟨(by (repeat (first | assumption | (with_reducible exact mZ) | apply mS)); first | done | fail), ?_⟩)); intro x hx; first | (cases hx; done) | ((repeat (first | exact hx | apply mS)); done))) (stab_read (by rfl) (fun L w hL hM => (ex_load1 hM rfl rfl (hL _ (by (repeat (first | assumption | (with_reducible exact mZ) | apply mS)); first | done | fail)) rfl (by decide +kernel)))) ?_; simp only [Act.put, List.setIfInBounds_toArray, List.set_cons_zero, List.set_cons_succ]; refine RS_take (i := 9) rfl (by decide +kernel) (fun _ _ _ h => h) (by first | (intro x hx; (repeat (first | exact hx | apply mS)); done) | ((repeat (refine List.forall_mem_cons.2 ⟨(by (repeat (first | assumption | (with_reducible exact mZ) | apply mS)); first | done | fail), ?_⟩)); intro x hx; first | (cases hx; done) | ((repeat (first | exact hx | apply mS)); done))) (stab_pure (by rfl) (fun w => (by go_simp; try with_reducible rfl))) ?_; simp only [Act.put, List.setIfInBounds_toArray, List.set_cons_zero, List.set_cons_succ]; refine RS_take (i := 10) rfl (by decide +kernel) (fun _ _ _ h => h) (by first | (intro x hx; (repeat (first | exact hx | apply mS)); done) | ((repeat (refine List.forall_mem_cons.2 ⟨(by (repeat (first | assumption | (with_reducible exact mZ) | apply mS)); first | done | fail), ?_⟩)); intro x hx; first | (cases hx; done) | ((repeat (first | exact hx | apply mS)); done))) (stab_pure (by rfl) (fun w => (by go_simp; try with_reducible rfl))) ?_; simp only [Act.put, List.setIfInBounds_toArray, List.set_cons_zero, List.set_cons_succ]; refine RS_take (i := 11) rfl (by decide +kernel) (fun _ _ _ h => h) (by first | (intro x hx; (repeat (first | exact hx | apply mS)); done) | ((repeat (refine List.forall_mem_cons.2 ⟨(by (repeat (first | assumption | (with_reducible exact mZ) | apply mS)); first | done | fail), ?_⟩)); intro x hx; first | (cases hx; done) | ((repeat (first | exact hx | apply mS)); done))) (stab_pure (by rfl) (fun w => (by go_simp; try with_reducible rfl))) ?_; simp only [Act.put, List.setIfInBounds_toArray, List.set_cons_zero, List.set_cons_succ]; refine RS_take (i := 12) rfl (by decide +kernel) (fun _ _ _ h => h) (by first | (intro x hx; (repeat (first | exact hx | apply mS)); done) | ((repeat (refine List.forall_mem_cons.2 ⟨(by (repeat (first | assumption | (with_reducible exact mZ) | apply mS)); first | done | fail), ?_⟩)); intro x hx; first | (cases hx; done) | ((repeat (first | exact hx | apply mS)); done))) (stab_pure (by rfl) (fun w => (by go_simp; try with_reducible rfl))) ?_; simp only [Act.put, List.setIfInBounds_toArray, List.set_cons_zero, List.set_cons_succ]; refine RS_take (i := 13) rfl (by decide +kernel) (fun _ _ _ h => h) (by first | (intro x hx; (repeat (first | exact hx | apply mS)); done) | ((repeat (refine List.forall_mem_cons.2 ⟨(by (repeat (first | assumption | (with_reducible exact mZ) | apply mS)); first | done | fail), ?_⟩)); intro x hx; first | (cases hx; done) | ((repeat (first | exact hx | apply mS)); done))) (stab_read (by rfl) (fun L w hL hM => (ex_load1 hM rfl rfl (hL _ (by (repeat (first | assumption | (with_reducible exact mZ) | apply mS)); first | done | fail)) rfl (by decide +kernel)))) ?_; simp only [Act.put, List.setIfInBounds_toArray, List.set_cons_zero, List.set_cons_succ]; refine RS_take (i := 14) rfl (by decide +kernel) (fun _ _ _ h => h) (by first | (intro x hx; (repeat (first | exact hx | apply mS)); done) | ((repeat (refine List.forall_mem_cons.2 ⟨(by (repeat (first | assumption | (with_reducible exact mZ) | apply mS)); first | done | fail), ?_⟩)); intro x hx; first | (cases hx; done) | ((repeat (first | exact hx | apply mS)); done))) (stab_pure (by rfl) (fun w => (by go_simp; try with_reducible rfl))) ?_; simp only [Act.put, List.setIfInBounds_toArray, List.set_cons_zero, List.set_cons_succ]; refine RS_take (i := 15) rfl (by decide +kernel) (fun _ _ _ h => h) (by first | (intro x hx; (repeat (first | exact hx | apply mS)); done) | ((repeat (refine List.forall_mem_cons.2 ⟨(by (repeat (first | assumption | (with_reducible exact mZ) | apply mS)); first | done | fail), ?_⟩)); intro x hx; first | (cases hx; done) | ((repeat (first | exact hx | apply mS)); done))) (stab_read (by rfl) (fun L w hL hM => (ex_load1 hM rfl rfl (hL _ (by (repeat (first | assumption | (with_reducible exact mZ) | apply mS)); first | done | fail)) rfl (by decide +kernel)))) ?_; simp only [Act.put, List.setIfInBounds_toArray, List.set_cons_zero, List.set_cons_succ]; refine RS_take (i := 16) rfl (by decide +kernel) (fun _ _ _ h => h) (by first | (intro x hx; (repeat (first | exact hx | apply mS)); done) | ((repeat (refine List.forall_mem_cons.2 ⟨(by (repeat (first | assumption | (with_reducible exact mZ) | apply mS)); first | done | fail), ?_⟩)); intro x hx; first | (cases hx; done) | ((repeat (first | exact hx | apply mS)); done))) (stab_pure (by rfl) (fun w => (by go_simp; try with_reducible rfl))) ?_; simp only [Act.put, List.setIfInBounds_toArray, List.set_cons_zero, List.set_cons_succ]; refine RS_take (i := 17) rfl (by decide +kernel) (fun _ _ _ h => h) (by first | (intro x hx; (repeat (first | exact hx | apply mS)); done) | ((repeat (refine List.forall_mem_cons.2 ⟨(by (repeat (first | assumption | (with_reducible exact mZ) | apply mS)); first | done | fail), ?_⟩)); intro x hx; first | (cases hx; done) | ((repeat (first | exact hx | apply mS)); done))) (stab_pure (by rfl) (fun w => (by go_simp; try with_reducible rfl))) ?_; simp only [Act.put, List.setIfInBounds_toArray, List.set_cons_zero, List.set_cons_succ]; refine RS_one (i := 18) (by decide +kernel) rfl (by rfl) (.inl (by first | (intro x hx; (repeat (first | exact hx | apply mS)); done) | ((repeat (refine List.forall_mem_cons.2 ⟨(by (repeat (first | assumption | (with_reducible exact mZ) | apply mS)); first | done | fail), ?_⟩)); intro x hx; first | (cases hx; done) | ((repeat (first | exact hx | apply mS)); done)))) (fun w K hM0 hK => ?_); refine ws_store hM0 rfl rfl rfl (by (repeat (first | (with_reducible exact Take.head) | apply Take.tail)); first | done | fail) (n := 3) (by rfl) (by rfl) (by kernel_rfl) (by simp [Value.oneCell']) (fun w hM => hK _ _ _ hM ?_); clear hM hM0 hK K; simp only [Act.put, List.setIfInBounds_toArray, List.set_cons_zero, List.set_cons_succ]; refine RS_take (i := 19) rfl (by decide +kernel) (fun _ _ _ h => h) (by first | (intro x hx; (repeat (first | exact hx | apply mS)); done) | ((repeat (refine List.forall_mem_cons.2 ⟨(by (repeat (first | assumption | (with_reducible exact mZ) | apply mS)); first | done | fail), ?_⟩)); intro x hx; first | (cases hx; done) | ((repeat (first | exact hx | apply mS)); done))) (stab_pure (by rfl) (fun w => (by go_simp; try with_reducible rfl))) ?_; simp only [Act.put, List.setIfInBounds_toArray, List.set_cons_zero, List.set_cons_succ]; refine RS_done (by decide +kernel) (.inl (by first | (intro x hx; (repeat (first | exact hx | apply mS)); done) | ((repeat (refine List.forall_mem_cons.2 ⟨(by (repeat (first | assumption | (with_reducible exact mZ) | apply mS)); first | done | fail), ?_⟩)); intro x hx; first | (cases hx; done) | ((repeat (first | exact hx | apply mS)); done)))) (fun w hM => ?_))
    all_goals (
      go_wp2_with fail
      refine bodyPost_ret (results_row_tmp (P := Try.prog) (ty := 77) rfl _ _ g6 77 (rmV A' X2.L.length c' B' X2.la.length d' X2.lo) 3 (.bool true) rfl (by simp) (hM.blk (by (repeat (first | assumption | (with_reducible exact mZ) | apply mS)); first | done | fail)) rfl (by decide +kernel)) rfl ?_
      exact ⟨M2, f', l', X2, A', c', B', d', rfl, HT', HN2, HR2, HB.out.1, HB.out.2, by have := hle.out; have := Hn.out; omega, hcc, hdd, hM.sel (by repeat (first | (with_reducible exact Sel.refl) | (with_reducible exact Take.head) | (with_reducible apply Take.tail) | (with_reducible apply Sel.cons) | (with_reducible apply Sel.drop)))⟩)
set_option maxRecDepth 100000 in
set_option maxHeartbeats 8000000 in
theorem does_4 (hN : Hid (Net M)) (hT : Hid (Tied M f l)) (hR : Hid (Rel M X)) (hl : M.lost ≤ 50000) (hL : X.L.length ≤ 50000) (hc : X.L.length ≤ c) (hd : X.la.length ≤ d) (ka kb kn : Int) (k1 : -9223372036854775808 ≤ kb) (k2 : kb ≤ 9223372036854775807) (x : List UInt8) (hx : x.length ≤ 9223372036854775807) (w : World) (hM : Star (netE a M f :: rowsE l :: rowE 1 B X.la.length (ivs X.la) :: rowE 3 A X.L.length (rps X.L) :: F) w) :
    Calls Try.prog 40 #[mptr a, refV X A c B d, .agg (actV 4 ka kb kn x)] w (DoesR a M X F) := by
  obtain ⟨y, hy⟩ : ∃ y, cutT x = y := ⟨_, rfl⟩
  obtain ⟨M2, hM2⟩ : ∃ M2, dropX M ka kb kn = M2 := ⟨_, rfl⟩
  obtain ⟨X2, hX2⟩ : ∃ X2, rdrop X ka kb kn = X2 := ⟨_, rfl⟩
  obtain ⟨⟨p1, p2, p3⟩, hP⟩ : ∃ p, rdropP X ka kb kn = p := ⟨_, rfl⟩
  obtain ⟨b0, hb0⟩ : ∃ b0, decide (M.there ka kb kn) = b0 := ⟨_, rfl⟩
  have hbb : decide (0 ≤ kn ∧ 0 ≤ rfind ka kb kn 0 X.L) = b0 := by
    rw [← hb0, decide_eq_decide]
    exact ⟨fun h => (rel_find hR.out ka kb kn h.1).1 h.2, fun h => ⟨h.2.1, (rel_find hR.out ka kb kn h.2.1).2 h⟩⟩
  have HS : Hid (∀ (w : World) (L R1 F : List SProp), Star L w → Take (netE a M f) L R1 → Take (rowsE l) R1 F → Calls Try.prog 66 #[mptr a, .int .i64 ka, .int .i64 kb, .int .i64 kn] w fun r w' => ∃ f' l', Hid (Tied M2 f' l') ∧ r = .returned (.bool b0) ∧ Star (netE a M2 f' :: rowsE l' :: F) w') := fun w L R1 F hM h1 h2 => by
    have := dropY hN.out hT ka kb kn k1 k2 w hM h1 h2
    rwa [hM2, hb0] at this
  have HRS : Hid (∀ (w : World) (L : List SProp), Star L w → rowE 3 A X.L.length (rps X.L) ∈ L → Calls Try.prog 67 #[refV X A c B d, .int .i64 ka, .int .i64 kb, .int .i64 kn] w fun r w' => ∃ A' c', r = .returned (.tuple #[refV X2 A' c' B d, rpA (p1, p2, p3), .bool b0]) ∧ X2.L.length ≤ c' ∧ Star (rowE 3 A' X2.L.length (rps X2.L) :: L) w') := fun w L hM h1 => by
    have := rdropY (B := B) (d := d) (by omega) hc ka kb kn w hM h1
    rwa [hX2, hbb, hP] at this
  have HN2 : Hid (Net M2) := by rw [← hM2]; exact net_dropX hN.out _ _ _
  have HR2 : Hid (Rel M2 X2) := by rw [← hM2, ← hX2]; exact rel_drop hR.out _ _ _
  have HB : Hid (M2.n = M.n ∧ M2.lost ≤ M.lost + 64 ∧ X2.L.length ≤ X.L.length + 64) := by
    rw [← hM2, ← hX2]
    have := dropX_lost M ka kb kn
    have := rdrop_len X ka kb kn
    exact ⟨dropX_n _ _ _ _, by omega, by omega⟩
  have HLA : Hid (X2.la = X.la) := by rw [← hX2]; exact rdrop_la _ _ _ _
  have HD := Lib.hid hd
  clear hM2 hX2 hP hb0 hbb
  unfold refV at HRS ⊢
  generalize hn : X.L.length = n at hM hL hc HRS ⊢
  generalize hm : X.la.length = m at hM hd HRS ⊢
  generalize hlq : X.lo = lo at HRS ⊢
  have Hn := Lib.hid hn
  have Hm := Lib.hid hm
  clear hn hm hlq
  unfold cutT at hy
  have tok1 : Hid True := trivial
  by_cases hxc : 1024 < x.length
  · rw [if_pos hxc] at hy
    have h1 : (1024 : Int) < (x.length : Int) := by omega
    go_enter Try.func40, Try.ntmps40
    go_wp2_with (first | (first | ((with_reducible refine at_box' ?_); (have hM0 := hM; clear hM; refine BigFrame.wpList_want (by rfl) fun K hK => ws_box hM0 rfl rfl (cs := rmV A n c B m d lo) rfl (fun g4 w hM => hK _ _ ?_); clear hM0 hK K)) | fail) | (first | ((with_reducible refine at_box' ?_); (have hM0 := hM; clear hM; refine BigFrame.wpList_want (by rfl) fun K hK => ws_box hM0 rfl rfl (cs := actV 4 ka kb kn x) rfl (fun g5 w hM => hK _ _ ?_); clear hM0 hK K)) | fail) | (have _t := tok1; (first | ((with_reducible refine at_alloc' ?_); (have hM0 := hM; clear hM; refine BigFrame.wpList_want (by rfl) fun K hK => ws_alloc hM0 (t := 77) rfl #[.slice none 0 0, .slice none 0 0, .int .i64 0] info_rmz (fun g6 w hM => hK _ _ ?_); clear hM0 hK K)) | fail); clear tok1) | (first | ((with_reducible refine at_alloc' ?_); (have hM0 := hM; clear hM; refine BigFrame.wpList_want (by rfl) fun K hK => ws_alloc hM0 (t := 77) rfl #[.slice none 0 0, .slice none 0 0, .int .i64 0] info_rmz (fun g10 w hM => hK _ _ ?_); clear hM0 hK K)) | fail) | (first | ((with_reducible refine at_alloc' ?_); (have hM0 := hM; clear hM; refine BigFrame.wpList_want (by rfl) fun K hK => ws_alloc hM0 (t := 85) rfl #[.int .i64 0, .int .i64 0, .string ByteArray.empty] info_rp (fun g11 w hM => hK _ _ ?_); clear hM0 hK K)) | fail) | (first | ((with_reducible refine at_load' ?_); (refine BigFrame.wpList_want (by rfl) fun K hK => ws_load1 hM rfl rfl (by (repeat (first | assumption | (with_reducible exact mZ) | apply mS)); first | done | fail) (by first | rfl | assumption) (by decide +kernel) (hK _ _ ?_); clear hK K)) | fail) | (go_at_call 66; have hM0 := hM; clear hM; (first | (with_reducible refine (HS.out _ _ _ _ hM0 (by (repeat (first | (with_reducible exact Take.head) | apply Take.tail)); first | done | fail) (by (repeat (first | (with_reducible exact Take.head) | apply Take.tail)); first | done | fail)).mono ?_) | fail); clear hM0; rintro _ w ⟨f', l', HT', rfl, hM⟩) | (go_at_call 67; have hM0 := hM; clear hM; (first | (with_reducible refine (HRS.out _ _ hM0 (by (repeat (first | assumption | (with_reducible exact mZ) | apply mS)); first | done | fail)).mono ?_) | fail); clear hM0; rintro _ w ⟨A', c', rfl, hcc, hM⟩) | (first | ((with_reducible refine at_load' ?_); (refine BigFrame.wpList_want (by rfl) fun K hK => ws_load hM rfl rfl (by (repeat (first | assumption | (with_reducible exact mZ) | apply mS)); first | done | fail) (n := 3) (by rfl) (by decide +kernel) (hK _ _ ?_); clear hK K)) | fail) | (first | ((with_reducible refine at_store' ?_); (have hM0 := hM; clear hM; refine BigFrame.wpList_want (by rfl) fun K hK => ws_store hM0 rfl rfl rfl (by (repeat (first | (with_reducible exact Take.head) | apply Take.tail)); first | done | fail) (n := 3) (by rfl) (by rfl) (by kernel_rfl) (by simp [Value.oneCell']) (fun w hM => hK _ _ ?_); clear hM0 hK K)) | fail))
    refine bodyPost_ret (results_row_tmp (P := Try.prog) (ty := 77) rfl _ _ g6 77 (rmV A' X2.L.length c' B X2.la.length d X2.lo) 3 (.bool true) rfl (by simp) (hM.blk (by (repeat (first | assumption | (with_reducible exact mZ) | apply mS)); first | done | fail)) rfl (by decide +kernel)) rfl ?_
    exact ⟨M2, f', l', X2, A', c', B, d, rfl, HT', HN2, HR2, HB.out.1, HB.out.2.1, by have := HB.out.2.2; have := Hn.out; omega, hcc, by rw [HLA.out]; exact HD.out, by rw [HLA.out, Hm.out]; exact hM.sel (by repeat (first | (with_reducible exact Sel.refl) | (with_reducible exact Take.head) | (with_reducible apply Take.tail) | (with_reducible apply Sel.cons) | (with_reducible apply Sel.drop)))⟩
  · rw [if_neg hxc] at hy
    subst hy
    have h1 : (x.length : Int) ≤ 1024 := by omega
    go_enter Try.func40, Try.ntmps40
    go_wp2_with (first | (first | ((with_reducible refine at_box' ?_); (have hM0 := hM; clear hM; refine BigFrame.wpList_want (by rfl) fun K hK => ws_box hM0 rfl rfl (cs := rmV A n c B m d lo) rfl (fun g4 w hM => hK _ _ ?_); clear hM0 hK K)) | fail) | (first | ((with_reducible refine at_box' ?_); (have hM0 := hM; clear hM; refine BigFrame.wpList_want (by rfl) fun K hK => ws_box hM0 rfl rfl (cs := actV 4 ka kb kn x) rfl (fun g5 w hM => hK _ _ ?_); clear hM0 hK K)) | fail) | (have _t := tok1; (first | ((with_reducible refine at_alloc' ?_); (have hM0 := hM; clear hM; refine BigFrame.wpList_want (by rfl) fun K hK => ws_alloc hM0 (t := 77) rfl #[.slice none 0 0, .slice none 0 0, .int .i64 0] info_rmz (fun g6 w hM => hK _ _ ?_); clear hM0 hK K)) | fail); clear tok1) | (first | ((with_reducible refine at_alloc' ?_); (have hM0 := hM; clear hM; refine BigFrame.wpList_want (by rfl) fun K hK => ws_alloc hM0 (t := 77) rfl #[.slice none 0 0, .slice none 0 0, .int .i64 0] info_rmz (fun g10 w hM => hK _ _ ?_); clear hM0 hK K)) | fail) | (first | ((with_reducible refine at_alloc' ?_); (have hM0 := hM; clear hM; refine BigFrame.wpList_want (by rfl) fun K hK => ws_alloc hM0 (t := 85) rfl #[.int .i64 0, .int .i64 0, .string ByteArray.empty] info_rp (fun g11 w hM => hK _ _ ?_); clear hM0 hK K)) | fail) | (first | ((with_reducible refine at_load' ?_); (refine BigFrame.wpList_want (by rfl) fun K hK => ws_load1 hM rfl rfl (by (repeat (first | assumption | (with_reducible exact mZ) | apply mS)); first | done | fail) (by first | rfl | assumption) (by decide +kernel) (hK _ _ ?_); clear hK K)) | fail) | (go_at_call 66; have hM0 := hM; clear hM; (first | (with_reducible refine (HS.out _ _ _ _ hM0 (by (repeat (first | (with_reducible exact Take.head) | apply Take.tail)); first | done | fail) (by (repeat (first | (with_reducible exact Take.head) | apply Take.tail)); first | done | fail)).mono ?_) | fail); clear hM0; rintro _ w ⟨f', l', HT', rfl, hM⟩) | (go_at_call 67; have hM0 := hM; clear hM; (first | (with_reducible refine (HRS.out _ _ hM0 (by (repeat (first | assumption | (with_reducible exact mZ) | apply mS)); first | done | fail)).mono ?_) | fail); clear hM0; rintro _ w ⟨A', c', rfl, hcc, hM⟩) | (first | ((with_reducible refine at_load' ?_); (refine BigFrame.wpList_want (by rfl) fun K hK => ws_load hM rfl rfl (by (repeat (first | assumption | (with_reducible exact mZ) | apply mS)); first | done | fail) (n := 3) (by rfl) (by decide +kernel) (hK _ _ ?_); clear hK K)) | fail) | (first | ((with_reducible refine at_store' ?_); (have hM0 := hM; clear hM; refine BigFrame.wpList_want (by rfl) fun K hK => ws_store hM0 rfl rfl rfl (by (repeat (first | (with_reducible exact Take.head) | apply Take.tail)); first | done | fail) (n := 3) (by rfl) (by rfl) (by kernel_rfl) (by simp [Value.oneCell']) (fun w hM => hK _ _ ?_); clear hM0 hK K)) | fail))
    refine bodyPost_ret (results_row_tmp (P := Try.prog) (ty := 77) rfl _ _ g6 77 (rmV A' X2.L.length c' B X2.la.length d X2.lo) 3 (.bool true) rfl (by simp) (hM.blk (by (repeat (first | assumption | (with_reducible exact mZ) | apply mS)); first | done | fail)) rfl (by decide +kernel)) rfl ?_
    exact ⟨M2, f', l', X2, A', c', B, d, rfl, HT', HN2, HR2, HB.out.1, HB.out.2.1, by have := HB.out.2.2; have := Hn.out; omega, hcc, by rw [HLA.out]; exact HD.out, by rw [HLA.out, Hm.out]; exact hM.sel (by repeat (first | (with_reducible exact Sel.refl) | (with_reducible exact Take.head) | (with_reducible apply Take.tail) | (with_reducible apply Sel.cons) | (with_reducible apply Sel.drop)))⟩
set_option maxRecDepth 100000 in
set_option maxHeartbeats 8000000 in
theorem does_0 (hN : Hid (Net M)) (hT : Hid (Tied M f l)) (hR : Hid (Rel M X)) (hc : X.L.length ≤ c) (hd : X.la.length ≤ d) (kk ka kb kn : Int) (hkk : kk < 1 ∨ 6 < kk) (x : List UInt8) (hx : x.length ≤ 9223372036854775807) (w : World) (hM : Star (netE a M f :: rowsE l :: rowE 1 B X.la.length (ivs X.la) :: rowE 3 A X.L.length (rps X.L) :: F) w) :
    Calls Try.prog 40 #[mptr a, refV X A c B d, .agg (actV kk ka kb kn x)] w (DoesR a M X F) := by
  obtain ⟨y, hy⟩ : ∃ y, cutT x = y := ⟨_, rfl⟩
  have HD := Lib.hid hd
  unfold refV
  generalize hn : X.L.length = n at hM hc ⊢
  generalize hm : X.la.length = m at hM hd ⊢
  generalize hlq : X.lo = lo
  have Hn := Lib.hid hn
  have Hm := Lib.hid hm
  have Hlo := Lib.hid hlq
  clear hn hm hlq
  have e1 : (kk == 1) = false := by simp; omega
  have e2 : (kk == 2) = false := by simp; omega
  have e3 : (kk == 3) = false := by simp; omega
  have e4 : (kk == 4) = false := by simp; omega
  have e5 : (kk == 5) = false := by simp; omega
  have e6 : (kk == 6) = false := by simp; omega
  have d1 : decide (kk = 1) = false := by simp; omega
  have d2 : decide (kk = 2) = false := by simp; omega
  have d3 : decide (kk = 3) = false := by simp; omega
  have d4 : decide (kk = 4) = false := by simp; omega
  have d5 : decide (kk = 5) = false := by simp; omega
  have d6 : decide (kk = 6) = false := by simp; omega
  clear hkk
  unfold cutT at hy
  by_cases hxc : 1024 < x.length
  · rw [if_pos hxc] at hy
    have h1 : (1024 : Int) < (x.length : Int) := by omega
    go_enter Try.func40, Try.ntmps40
    go_wp2_with (first | (first | ((with_reducible refine at_box' ?_); (have hM0 := hM; clear hM; refine BigFrame.wpList_want (by rfl) fun K hK => ws_box hM0 rfl rfl (cs := rmV A n c B m d lo) rfl (fun g4 w hM => hK _ _ ?_); clear hM0 hK K)) | fail) | (first | ((with_reducible refine at_box' ?_); (have hM0 := hM; clear hM; refine BigFrame.wpList_want (by rfl) fun K hK => ws_box hM0 rfl rfl (cs := actV kk ka kb kn x) rfl (fun g5 w hM => hK _ _ ?_); clear hM0 hK K)) | fail) | (first | ((with_reducible refine at_alloc' ?_); (have hM0 := hM; clear hM; refine BigFrame.wpList_want (by rfl) fun K hK => ws_alloc hM0 (t := 77) rfl #[.slice none 0 0, .slice none 0 0, .int .i64 0] info_rmz (fun g6 w hM => hK _ _ ?_); clear hM0 hK K)) | fail) | (first | ((with_reducible refine at_load' ?_); (refine BigFrame.wpList_want (by rfl) fun K hK => ws_load1 hM rfl rfl (by (repeat (first | assumption | (with_reducible exact mZ) | apply mS)); first | done | fail) (by first | rfl | assumption) (by decide +kernel) (hK _ _ ?_); clear hK K)) | fail) | (first | ((with_reducible refine at_load' ?_); (refine BigFrame.wpList_want (by rfl) fun K hK => ws_load hM rfl rfl (by (repeat (first | assumption | (with_reducible exact mZ) | apply mS)); first | done | fail) (n := 3) (by rfl) (by decide +kernel) (hK _ _ ?_); clear hK K)) | fail) | (first | ((with_reducible refine at_store' ?_); (have hM0 := hM; clear hM; refine BigFrame.wpList_want (by rfl) fun K hK => ws_store hM0 rfl rfl rfl (by (repeat (first | (with_reducible exact Take.head) | apply Take.tail)); first | done | fail) (n := 3) (by rfl) (by rfl) (by kernel_rfl) (by simp [Value.oneCell']) (fun w hM => hK _ _ ?_); clear hM0 hK K)) | fail))
    refine bodyPost_ret (results_row_tmp (P := Try.prog) (ty := 77) rfl _ _ g6 77 (rmV A n c B m d lo) 3 (.bool true) rfl (by simp) (hM.blk (by (repeat (first | assumption | (with_reducible exact mZ) | apply mS)); first | done | fail)) rfl (by decide +kernel)) rfl ?_
    exact ⟨M, f, l, X, A, c, B, d, by unfold refV; rw [Hn.out, Hm.out, Hlo.out], hT, hN, hR, rfl, by omega, by omega, by rw [Hn.out]; exact hc, HD.out, by rw [Hn.out, Hm.out]; exact hM.sel (by repeat (first | (with_reducible exact Sel.refl) | (with_reducible exact Take.head) | (with_reducible apply Take.tail) | (with_reducible apply Sel.cons) | (with_reducible apply Sel.drop)))⟩
  · rw [if_neg hxc] at hy
    subst hy
    have h1 : (x.length : Int) ≤ 1024 := by omega
    go_enter Try.func40, Try.ntmps40
    go_wp2_with (first | (first | ((with_reducible refine at_box' ?_); (have hM0 := hM; clear hM; refine BigFrame.wpList_want (by rfl) fun K hK => ws_box hM0 rfl rfl (cs := rmV A n c B m d lo) rfl (fun g4 w hM => hK _ _ ?_); clear hM0 hK K)) | fail) | (first | ((with_reducible refine at_box' ?_); (have hM0 := hM; clear hM; refine BigFrame.wpList_want (by rfl) fun K hK => ws_box hM0 rfl rfl (cs := actV kk ka kb kn x) rfl (fun g5 w hM => hK _ _ ?_); clear hM0 hK K)) | fail) | (first | ((with_reducible refine at_alloc' ?_); (have hM0 := hM; clear hM; refine BigFrame.wpList_want (by rfl) fun K hK => ws_alloc hM0 (t := 77) rfl #[.slice none 0 0, .slice none 0 0, .int .i64 0] info_rmz (fun g6 w hM => hK _ _ ?_); clear hM0 hK K)) | fail) | (first | ((with_reducible refine at_load' ?_); (refine BigFrame.wpList_want (by rfl) fun K hK => ws_load1 hM rfl rfl (by (repeat (first | assumption | (with_reducible exact mZ) | apply mS)); first | done | fail) (by first | rfl | assumption) (by decide +kernel) (hK _ _ ?_); clear hK K)) | fail) | (first | ((with_reducible refine at_load' ?_); (refine BigFrame.wpList_want (by rfl) fun K hK => ws_load hM rfl rfl (by (repeat (first | assumption | (with_reducible exact mZ) | apply mS)); first | done | fail) (n := 3) (by rfl) (by decide +kernel) (hK _ _ ?_); clear hK K)) | fail) | (first | ((with_reducible refine at_store' ?_); (have hM0 := hM; clear hM; refine BigFrame.wpList_want (by rfl) fun K hK => ws_store hM0 rfl rfl rfl (by (repeat (first | (with_reducible exact Take.head) | apply Take.tail)); first | done | fail) (n := 3) (by rfl) (by rfl) (by kernel_rfl) (by simp [Value.oneCell']) (fun w hM => hK _ _ ?_); clear hM0 hK K)) | fail))
    refine bodyPost_ret (results_row_tmp (P := Try.prog) (ty := 77) rfl _ _ g6 77 (rmV A n c B m d lo) 3 (.bool true) rfl (by simp) (hM.blk (by (repeat (first | assumption | (with_reducible exact mZ) | apply mS)); first | done | fail)) rfl (by decide +kernel)) rfl ?_
    exact ⟨M, f, l, X, A, c, B, d, by unfold refV; rw [Hn.out, Hm.out, Hlo.out], hT, hN, hR, rfl, by omega, by omega, by rw [Hn.out]; exact hc, HD.out, by rw [Hn.out, Hm.out]; exact hM.sel (by repeat (first | (with_reducible exact Sel.refl) | (with_reducible exact Take.head) | (with_reducible apply Take.tail) | (with_reducible apply Sel.cons) | (with_reducible apply Sel.drop)))⟩
end
end Go.Proofs.Ytbejifbiffeamaa
set_option linter.unusedSimpArgs false
set_option linter.unusedVariables false
namespace Go.Proofs.Ytbejifbiffeamaa
open Go.RowKit
attribute [local go_sem] extract_mid extract_drop bget bsize wrap64_u8 i64_u8 u64_u8 bappend
theorem againX_lost (M : Msh) (t k i : Int) : (againX M t k i).lost ≤ M.lost + 1 := by
  unfold againX
  split
  · exact sendG_lost _ _ _ _
  · omega
theorem againX_n (M : Msh) (t k i : Int) : (againX M t k i).n = M.n := by unfold againX; split; exact sendG_n _ _ _ _; rfl
theorem lateX_lost (M : Msh) (t k i : Int) : (lateX M t k i).lost ≤ M.lost + 1 := by
  unfold lateX
  split
  · have := sendG_lost (dropX M t k i) t.toNat k (M.text t k i)
    rw [dropX_lost] at this
    exact this
  · omega
theorem lateX_n (M : Msh) (t k i : Int) : (lateX M t k i).n = M.n := by unfold lateX; split; rw [sendG_n, dropX_n]; rfl
section
variable {F : List SProp} {A B : Option Addr} {c d : Nat} {X : RM} {M : Msh} {a : MA} {f : Sls} {l : List (Option Addr × List (List UInt8))}
set_option maxRecDepth 100000 in
set_option maxHeartbeats 8000000 in
theorem does_5 (hN : Hid (Net M)) (hT : Hid (Tied M f l)) (hR : Hid (Rel M X)) (hl : M.lost ≤ 50000) (hL : X.L.length ≤ 50000) (hc : X.L.length ≤ c) (hd : X.la.length ≤ d) (ka kb kn : Int) (k1 : -9223372036854775808 ≤ kb) (k2 : kb ≤ 9223372036854775807) (x : List UInt8) (hx : x.length ≤ 9223372036854775807) (w : World) (hM : Star (netE a M f :: rowsE l :: rowE 1 B X.la.length (ivs X.la) :: rowE 3 A X.L.length (rps X.L) :: F) w) :
    Calls Try.prog 40 #[mptr a, refV X A c B d, .agg (actV 5 ka kb kn x)] w (DoesR a M X F) := by
  have hlo := hR.out.lo
  have hl0 := hN.out.l0
  obtain ⟨y, hy⟩ : ∃ y, cutT x = y := ⟨_, rfl⟩
  obtain ⟨M2, hM2⟩ : ∃ M2, againX M ka kb kn = M2 := ⟨_, rfl⟩
  obtain ⟨X1, hX1⟩ : ∃ X1, rdrop X ka kb kn = X1 := ⟨_, rfl⟩
  obtain ⟨⟨p1, p2, p3⟩, hP⟩ : ∃ p, rdropP X ka kb kn = p := ⟨_, rfl⟩
  have hth : (0 ≤ kn ∧ 0 ≤ rfind ka kb kn 0 X.L) ↔ M.there ka kb kn :=
    ⟨fun h => (rel_find hR.out ka kb kn h.1).1 h.2, fun h => ⟨h.2.1, (rel_find hR.out ka kb kn h.2.1).2 h⟩⟩
  obtain ⟨b2, hb2⟩ : ∃ b2, againE M ka kb kn = b2 := ⟨_, rfl⟩
  have HS : Hid (∀ (w : World) (L R1 F : List SProp), Star L w → Take (netE a M f) L R1 → Take (rowsE l) R1 F → Calls Try.prog 68 #[mptr a, .int .i64 ka, .int .i64 kb, .int .i64 kn] w fun r w' => ∃ f' l', Hid (Tied M2 f' l') ∧ r = .returned (.bool b2) ∧ Star (netE a M2 f' :: rowsE l' :: F) w') := fun w L R1 F hM h1 h2 => by
    have := againY hN.out hT (by omega) ka kb kn k1 k2 w hM h1 h2
    rwa [hM2, hb2] at this
  have HN2 : Hid (Net M2) := by rw [← hM2]; exact net_againX hN.out _ _ _
  have HMB : Hid (M2.n = M.n ∧ M2.lost ≤ M.lost + 64) := by
    rw [← hM2]
    have := againX_lost M ka kb kn
    exact ⟨againX_n _ _ _ _, by omega⟩
  have hX1l := rdrop_len X ka kb kn
  have hX1a := rdrop_la X ka kb kn
  have hX1lo : (rdrop X ka kb kn).lo = X.lo := by unfold rdrop; split <;> rfl
  rw [hX1] at hX1l hX1a hX1lo
  have HD := Lib.hid hd
  unfold cutT at hy
  have tok1 : Hid True := trivial
  have tok2 : Hid True := trivial
  by_cases hb : M.there ka kb kn
  · have hrr := rel_again hN.out hR.out hb
    rw [hM2, hb2, hP] at hrr
    simp only at hrr
    obtain ⟨X2, hX2⟩ : ∃ X2, rsend X kb p3 ka = X2 := ⟨_, rfl⟩
    obtain ⟨e2, he2⟩ : ∃ e2, rsendE X kb p3 ka = e2 := ⟨_, rfl⟩
    rw [hX2, he2] at hrr
    have HR2 := Lib.hid hrr.1
    have hbe := hrr.2
    have hbd : decide (e2 = 0) = b2 := by rw [← hbe]; rfl
    have HDR : Hid (∀ (w : World) (L : List SProp), Star L w → rowE 3 A X.L.length (rps X.L) ∈ L → Calls Try.prog 67 #[refV X A c B d, .int .i64 ka, .int .i64 kb, .int .i64 kn] w fun r w' => ∃ A' c', r = .returned (.tuple #[refV X1 A' c' B d, rpA (p1, p2, p3), .bool true]) ∧ Hid (X1.L.length ≤ c') ∧ Star (rowE 3 A' X1.L.length (rps X1.L) :: L) w') := fun w L hM h1 => by
      have := rdropY (B := B) (d := d) (by omega) hc ka kb kn w hM h1
      rwa [hX1, decide_eq_true (hth.2 hb), hP] at this
    have HRS : Hid (∀ (w : World) (L : List SProp), Star L w → rowE 3 A X.L.length (rps X.L) ∈ L → Calls Try.prog 65 #[refV X A c B d, .int .i64 kb, .string ⟨p3.toArray⟩, .int .i64 ka] w fun r w' => ∃ A' c', r = .returned (.tuple #[refV X2 A' c' B d, .int .i64 e2]) ∧ X2.L.length ≤ c' ∧ Star (rowE 3 A' X2.L.length (rps X2.L) :: L) w') := fun w L hM h1 => by
      have := rsendY (B := B) (d := d) (by omega) (by omega) (by omega) hc kb p3 ka w hM h1
      rwa [hX2, he2] at this
    have HB : Hid (X2.L.length ≤ X.L.length + 64) := by
      rw [← hX2]
      have := rsend_len X kb p3 ka
      show _ ≤ _
      omega
    have HLA : Hid (X2.la = X.la) := by rw [← hX2]; exact rsend_la X kb p3 ka
    clear hrr hM2 hX1 hX2 hP hth hb2 he2 hX1l hlo hl0 hb hX1lo
    unfold refV at HDR HRS ⊢
    generalize hm1 : X1.la.length = m1 at HDR HRS
    generalize hlq1 : X1.lo = lo1 at HDR HRS
    generalize hn : X.L.length = n at hM hL hc HDR HRS ⊢
    generalize hm : X.la.length = m at hM hd HDR HRS ⊢
    generalize hlq : X.lo = lo at HDR HRS ⊢
    have Hn := Lib.hid hn
    have Hm := Lib.hid hm
    clear hn hm hlq hm1 hlq1 hX1a
    by_cases hxc : 1024 < x.length
    · rw [if_pos hxc] at hy
      have h1 : (1024 : Int) < (x.length : Int) := by omega
      go_enter Try.func40, Try.ntmps40
      go_wp2_with (first | (first | ((with_reducible refine at_box' ?_); (have hM0 := hM; clear hM; refine BigFrame.wpList_want (by rfl) fun K hK => ws_box hM0 rfl rfl (cs := rmV A n c B m d lo) rfl (fun g4 w hM => hK _ _ ?_); clear hM0 hK K)) | fail) | (first | ((with_reducible refine at_box' ?_); (have hM0 := hM; clear hM; refine BigFrame.wpList_want (by rfl) fun K hK => ws_box hM0 rfl rfl (cs := actV 5 ka kb kn x) rfl (fun g5 w hM => hK _ _ ?_); clear hM0 hK K)) | fail) | (have _t := tok1; (first | ((with_reducible refine at_alloc' ?_); (have hM0 := hM; clear hM; refine BigFrame.wpList_want (by rfl) fun K hK => ws_alloc hM0 (t := 77) rfl #[.slice none 0 0, .slice none 0 0, .int .i64 0] info_rmz (fun g6 w hM => hK _ _ ?_); clear hM0 hK K)) | fail); clear tok1) | (have _t := tok2; (first | ((with_reducible refine at_alloc' ?_); (have hM0 := hM; clear hM; refine BigFrame.wpList_want (by rfl) fun K hK => ws_alloc hM0 (t := 77) rfl #[.slice none 0 0, .slice none 0 0, .int .i64 0] info_rmz (fun g10 w hM => hK _ _ ?_); clear hM0 hK K)) | fail); clear tok2) | (first | ((with_reducible refine at_alloc' ?_); (have hM0 := hM; clear hM; refine BigFrame.wpList_want (by rfl) fun K hK => ws_alloc hM0 (t := 77) rfl #[.slice none 0 0, .slice none 0 0, .int .i64 0] info_rmz (fun g12 w hM => hK _ _ ?_); clear hM0 hK K)) | fail) | (first | ((with_reducible refine at_alloc' ?_); (have hM0 := hM; clear hM; refine BigFrame.wpList_want (by rfl) fun K hK => ws_alloc hM0 (t := 85) rfl #[.int .i64 0, .int .i64 0, .string ByteArray.empty] info_rp (fun g11 w hM => hK _ _ ?_); clear hM0 hK K)) | fail) | (first | ((with_reducible refine at_load' ?_); (refine BigFrame.wpList_want (by rfl) fun K hK => ws_load1 hM rfl rfl (by (repeat (first | assumption | (with_reducible exact mZ) | apply mS)); first | done | fail) (by first | rfl | assumption) (by decide +kernel) (hK _ _ ?_); clear hK K)) | fail) | (go_at_call 68; have hM0 := hM; clear hM; (first | (with_reducible refine (HS.out _ _ _ _ hM0 (by (repeat (first | (with_reducible exact Take.head) | apply Take.tail)); first | done | fail) (by (repeat (first | (with_reducible exact Take.head) | apply Take.tail)); first | done | fail)).mono ?_) | fail); clear hM0; rintro _ w ⟨f', l', HT', rfl, hM⟩) | (go_at_call 67; have hM0 := hM; clear hM; (first | (with_reducible refine (HDR.out _ _ hM0 (by (repeat (first | assumption | (with_reducible exact mZ) | apply mS)); first | done | fail)).mono ?_) | fail); clear hM0; rintro _ w ⟨A1, c1, rfl, HC1, hM⟩) | (go_at_call 65; have hM0 := hM; clear hM; (first | (with_reducible refine (HRS.out _ _ hM0 (by (repeat (first | assumption | (with_reducible exact mZ) | apply mS)); first | done | fail)).mono ?_) | fail); clear hM0; rintro _ w ⟨A', c', rfl, hcc, hM⟩) | (first | ((with_reducible refine at_load' ?_); (refine BigFrame.wpList_want (by rfl) fun K hK => ws_load hM rfl rfl (by (repeat (first | assumption | (with_reducible exact mZ) | apply mS)); first | done | fail) (n := 3) (by rfl) (by decide +kernel) (hK _ _ ?_); clear hK K)) | fail) | (first | ((with_reducible refine at_store' ?_); (have hM0 := hM; clear hM; refine BigFrame.wpList_want (by rfl) fun K hK => ws_store hM0 rfl rfl rfl (by (repeat (first | (with_reducible exact Take.head) | apply Take.tail)); first | done | fail) (n := 3) (by rfl) (by rfl) (by kernel_rfl) (by simp [Value.oneCell']) (fun w hM => hK _ _ ?_); clear hM0 hK K)) | fail))
      refine bodyPost_ret (results_row_tmp (P := Try.prog) (ty := 77) rfl _ _ g6 77 (rmV A' X2.L.length c' B X2.la.length d X2.lo) 3 (.bool true) rfl (by simp) (hM.blk (by (repeat (first | assumption | (with_reducible exact mZ) | apply mS)); first | done | fail)) rfl (by decide +kernel)) rfl ?_
      exact ⟨M2, f', l', X2, A', c', B, d, rfl, HT', HN2, HR2, HMB.out.1, HMB.out.2, by have := HB.out; have := Hn.out; omega, hcc, by rw [HLA.out]; exact HD.out, by rw [HLA.out, Hm.out]; exact hM.sel (by repeat (first | (with_reducible exact Sel.refl) | (with_reducible exact Take.head) | (with_reducible apply Take.tail) | (with_reducible apply Sel.cons) | (with_reducible apply Sel.drop)))⟩
    · rw [if_neg hxc] at hy
      subst hy
      have h1 : (x.length : Int) ≤ 1024 := by omega
      go_enter Try.func40, Try.ntmps40
      go_wp2_with (first | (first | ((with_reducible refine at_box' ?_); (have hM0 := hM; clear hM; refine BigFrame.wpList_want (by rfl) fun K hK => ws_box hM0 rfl rfl (cs := rmV A n c B m d lo) rfl (fun g4 w hM => hK _ _ ?_); clear hM0 hK K)) | fail) | (first | ((with_reducible refine at_box' ?_); (have hM0 := hM; clear hM; refine BigFrame.wpList_want (by rfl) fun K hK => ws_box hM0 rfl rfl (cs := actV 5 ka kb kn x) rfl (fun g5 w hM => hK _ _ ?_); clear hM0 hK K)) | fail) | (have _t := tok1; (first | ((with_reducible refine at_alloc' ?_); (have hM0 := hM; clear hM; refine BigFrame.wpList_want (by rfl) fun K hK => ws_alloc hM0 (t := 77) rfl #[.slice none 0 0, .slice none 0 0, .int .i64 0] info_rmz (fun g6 w hM => hK _ _ ?_); clear hM0 hK K)) | fail); clear tok1) | (have _t := tok2; (first | ((with_reducible refine at_alloc' ?_); (have hM0 := hM; clear hM; refine BigFrame.wpList_want (by rfl) fun K hK => ws_alloc hM0 (t := 77) rfl #[.slice none 0 0, .slice none 0 0, .int .i64 0] info_rmz (fun g10 w hM => hK _ _ ?_); clear hM0 hK K)) | fail); clear tok2) | (first | ((with_reducible refine at_alloc' ?_); (have hM0 := hM; clear hM; refine BigFrame.wpList_want (by rfl) fun K hK => ws_alloc hM0 (t := 77) rfl #[.slice none 0 0, .slice none 0 0, .int .i64 0] info_rmz (fun g12 w hM => hK _ _ ?_); clear hM0 hK K)) | fail) | (first | ((with_reducible refine at_alloc' ?_); (have hM0 := hM; clear hM; refine BigFrame.wpList_want (by rfl) fun K hK => ws_alloc hM0 (t := 85) rfl #[.int .i64 0, .int .i64 0, .string ByteArray.empty] info_rp (fun g11 w hM => hK _ _ ?_); clear hM0 hK K)) | fail) | (first | ((with_reducible refine at_load' ?_); (refine BigFrame.wpList_want (by rfl) fun K hK => ws_load1 hM rfl rfl (by (repeat (first | assumption | (with_reducible exact mZ) | apply mS)); first | done | fail) (by first | rfl | assumption) (by decide +kernel) (hK _ _ ?_); clear hK K)) | fail) | (go_at_call 68; have hM0 := hM; clear hM; (first | (with_reducible refine (HS.out _ _ _ _ hM0 (by (repeat (first | (with_reducible exact Take.head) | apply Take.tail)); first | done | fail) (by (repeat (first | (with_reducible exact Take.head) | apply Take.tail)); first | done | fail)).mono ?_) | fail); clear hM0; rintro _ w ⟨f', l', HT', rfl, hM⟩) | (go_at_call 67; have hM0 := hM; clear hM; (first | (with_reducible refine (HDR.out _ _ hM0 (by (repeat (first | assumption | (with_reducible exact mZ) | apply mS)); first | done | fail)).mono ?_) | fail); clear hM0; rintro _ w ⟨A1, c1, rfl, HC1, hM⟩) | (go_at_call 65; have hM0 := hM; clear hM; (first | (with_reducible refine (HRS.out _ _ hM0 (by (repeat (first | assumption | (with_reducible exact mZ) | apply mS)); first | done | fail)).mono ?_) | fail); clear hM0; rintro _ w ⟨A', c', rfl, hcc, hM⟩) | (first | ((with_reducible refine at_load' ?_); (refine BigFrame.wpList_want (by rfl) fun K hK => ws_load hM rfl rfl (by (repeat (first | assumption | (with_reducible exact mZ) | apply mS)); first | done | fail) (n := 3) (by rfl) (by decide +kernel) (hK _ _ ?_); clear hK K)) | fail) | (first | ((with_reducible refine at_store' ?_); (have hM0 := hM; clear hM; refine BigFrame.wpList_want (by rfl) fun K hK => ws_store hM0 rfl rfl rfl (by (repeat (first | (with_reducible exact Take.head) | apply Take.tail)); first | done | fail) (n := 3) (by rfl) (by rfl) (by kernel_rfl) (by simp [Value.oneCell']) (fun w hM => hK _ _ ?_); clear hM0 hK K)) | fail))
      refine bodyPost_ret (results_row_tmp (P := Try.prog) (ty := 77) rfl _ _ g6 77 (rmV A' X2.L.length c' B X2.la.length d X2.lo) 3 (.bool true) rfl (by simp) (hM.blk (by (repeat (first | assumption | (with_reducible exact mZ) | apply mS)); first | done | fail)) rfl (by decide +kernel)) rfl ?_
      exact ⟨M2, f', l', X2, A', c', B, d, rfl, HT', HN2, HR2, HMB.out.1, HMB.out.2, by have := HB.out; have := Hn.out; omega, hcc, by rw [HLA.out]; exact HD.out, by rw [HLA.out, Hm.out]; exact hM.sel (by repeat (first | (with_reducible exact Sel.refl) | (with_reducible exact Take.head) | (with_reducible apply Take.tail) | (with_reducible apply Sel.cons) | (with_reducible apply Sel.drop)))⟩
  · have em : againX M ka kb kn = M := if_neg hb
    have ee : againE M ka kb kn = false := if_neg hb
    have HR2 : Hid (Rel M2 X) := by rw [← hM2, em]; exact hR
    rw [ee] at hb2
    subst hb2
    have HDR : Hid (∀ (w : World) (L : List SProp), Star L w → rowE 3 A X.L.length (rps X.L) ∈ L → Calls Try.prog 67 #[refV X A c B d, .int .i64 ka, .int .i64 kb, .int .i64 kn] w fun r w' => ∃ A' c', r = .returned (.tuple #[refV X1 A' c' B d, rpA (p1, p2, p3), .bool false]) ∧ Hid (X1.L.length ≤ c') ∧ Star (rowE 3 A' X1.L.length (rps X1.L) :: L) w') := fun w L hM h1 => by
      have := rdropY (B := B) (d := d) (by omega) hc ka kb kn w hM h1
      rwa [hX1, decide_eq_false (fun h => hb (hth.1 h)), hP] at this
    have HRS : Hid True := trivial
    clear hM2 hX1 hP hth hX1l hlo hl0 hb hX1lo em ee
    unfold refV at HDR ⊢
    generalize hm1 : X1.la.length = m1 at HDR
    generalize hlq1 : X1.lo = lo1 at HDR
    generalize hn : X.L.length = n at hM hL hc HDR ⊢
    generalize hm : X.la.length = m at hM hd HDR ⊢
    generalize hlq : X.lo = lo at HDR ⊢
    have Hn := Lib.hid hn
    have Hm := Lib.hid hm
    have Hlo := Lib.hid hlq
    clear hn hm hlq hm1 hlq1 hX1a
    by_cases hxc : 1024 < x.length
    · rw [if_pos hxc] at hy
      have h1 : (1024 : Int) < (x.length : Int) := by omega
      go_enter Try.func40, Try.ntmps40
      go_wp2_with (first | (first | ((with_reducible refine at_box' ?_); (have hM0 := hM; clear hM; refine BigFrame.wpList_want (by rfl) fun K hK => ws_box hM0 rfl rfl (cs := rmV A n c B m d lo) rfl (fun g4 w hM => hK _ _ ?_); clear hM0 hK K)) | fail) | (first | ((with_reducible refine at_box' ?_); (have hM0 := hM; clear hM; refine BigFrame.wpList_want (by rfl) fun K hK => ws_box hM0 rfl rfl (cs := actV 5 ka kb kn x) rfl (fun g5 w hM => hK _ _ ?_); clear hM0 hK K)) | fail) | (have _t := tok1; (first | ((with_reducible refine at_alloc' ?_); (have hM0 := hM; clear hM; refine BigFrame.wpList_want (by rfl) fun K hK => ws_alloc hM0 (t := 77) rfl #[.slice none 0 0, .slice none 0 0, .int .i64 0] info_rmz (fun g6 w hM => hK _ _ ?_); clear hM0 hK K)) | fail); clear tok1) | (have _t := tok2; (first | ((with_reducible refine at_alloc' ?_); (have hM0 := hM; clear hM; refine BigFrame.wpList_want (by rfl) fun K hK => ws_alloc hM0 (t := 77) rfl #[.slice none 0 0, .slice none 0 0, .int .i64 0] info_rmz (fun g10 w hM => hK _ _ ?_); clear hM0 hK K)) | fail); clear tok2) | (first | ((with_reducible refine at_alloc' ?_); (have hM0 := hM; clear hM; refine BigFrame.wpList_want (by rfl) fun K hK => ws_alloc hM0 (t := 77) rfl #[.slice none 0 0, .slice none 0 0, .int .i64 0] info_rmz (fun g12 w hM => hK _ _ ?_); clear hM0 hK K)) | fail) | (first | ((with_reducible refine at_alloc' ?_); (have hM0 := hM; clear hM; refine BigFrame.wpList_want (by rfl) fun K hK => ws_alloc hM0 (t := 85) rfl #[.int .i64 0, .int .i64 0, .string ByteArray.empty] info_rp (fun g11 w hM => hK _ _ ?_); clear hM0 hK K)) | fail) | (first | ((with_reducible refine at_load' ?_); (refine BigFrame.wpList_want (by rfl) fun K hK => ws_load1 hM rfl rfl (by (repeat (first | assumption | (with_reducible exact mZ) | apply mS)); first | done | fail) (by first | rfl | assumption) (by decide +kernel) (hK _ _ ?_); clear hK K)) | fail) | (go_at_call 68; have hM0 := hM; clear hM; (first | (with_reducible refine (HS.out _ _ _ _ hM0 (by (repeat (first | (with_reducible exact Take.head) | apply Take.tail)); first | done | fail) (by (repeat (first | (with_reducible exact Take.head) | apply Take.tail)); first | done | fail)).mono ?_) | fail); clear hM0; rintro _ w ⟨f', l', HT', rfl, hM⟩) | (go_at_call 67; have hM0 := hM; clear hM; (first | (with_reducible refine (HDR.out _ _ hM0 (by (repeat (first | assumption | (with_reducible exact mZ) | apply mS)); first | done | fail)).mono ?_) | fail); clear hM0; rintro _ w ⟨A1, c1, rfl, HC1, hM⟩) | (first | ((with_reducible refine at_load' ?_); (refine BigFrame.wpList_want (by rfl) fun K hK => ws_load hM rfl rfl (by (repeat (first | assumption | (with_reducible exact mZ) | apply mS)); first | done | fail) (n := 3) (by rfl) (by decide +kernel) (hK _ _ ?_); clear hK K)) | fail) | (first | ((with_reducible refine at_store' ?_); (have hM0 := hM; clear hM; refine BigFrame.wpList_want (by rfl) fun K hK => ws_store hM0 rfl rfl rfl (by (repeat (first | (with_reducible exact Take.head) | apply Take.tail)); first | done | fail) (n := 3) (by rfl) (by rfl) (by kernel_rfl) (by simp [Value.oneCell']) (fun w hM => hK _ _ ?_); clear hM0 hK K)) | fail))
      refine bodyPost_ret (results_row_tmp (P := Try.prog) (ty := 77) rfl _ _ g6 77 (rmV A n c B m d lo) 3 (.bool true) rfl (by simp) (hM.blk (by (repeat (first | assumption | (with_reducible exact mZ) | apply mS)); first | done | fail)) rfl (by decide +kernel)) rfl ?_
      exact ⟨M2, f', l', X, A, c, B, d, by unfold refV; rw [Hn.out, Hm.out, Hlo.out], HT', HN2, HR2, HMB.out.1, HMB.out.2, by omega, by rw [Hn.out]; exact hc, HD.out, by rw [Hn.out, Hm.out]; exact hM.sel (by repeat (first | (with_reducible exact Sel.refl) | (with_reducible exact Take.head) | (with_reducible apply Take.tail) | (with_reducible apply Sel.cons) | (with_reducible apply Sel.drop)))⟩
    · rw [if_neg hxc] at hy
      subst hy
      have h1 : (x.length : Int) ≤ 1024 := by omega
      go_enter Try.func40, Try.ntmps40
      go_wp2_with (first | (first | ((with_reducible refine at_box' ?_); (have hM0 := hM; clear hM; refine BigFrame.wpList_want (by rfl) fun K hK => ws_box hM0 rfl rfl (cs := rmV A n c B m d lo) rfl (fun g4 w hM => hK _ _ ?_); clear hM0 hK K)) | fail) | (first | ((with_reducible refine at_box' ?_); (have hM0 := hM; clear hM; refine BigFrame.wpList_want (by rfl) fun K hK => ws_box hM0 rfl rfl (cs := actV 5 ka kb kn x) rfl (fun g5 w hM => hK _ _ ?_); clear hM0 hK K)) | fail) | (have _t := tok1; (first | ((with_reducible refine at_alloc' ?_); (have hM0 := hM; clear hM; refine BigFrame.wpList_want (by rfl) fun K hK => ws_alloc hM0 (t := 77) rfl #[.slice none 0 0, .slice none 0 0, .int .i64 0] info_rmz (fun g6 w hM => hK _ _ ?_); clear hM0 hK K)) | fail); clear tok1) | (have _t := tok2; (first | ((with_reducible refine at_alloc' ?_); (have hM0 := hM; clear hM; refine BigFrame.wpList_want (by rfl) fun K hK => ws_alloc hM0 (t := 77) rfl #[.slice none 0 0, .slice none 0 0, .int .i64 0] info_rmz (fun g10 w hM => hK _ _ ?_); clear hM0 hK K)) | fail); clear tok2) | (first | ((with_reducible refine at_alloc' ?_); (have hM0 := hM; clear hM; refine BigFrame.wpList_want (by rfl) fun K hK => ws_alloc hM0 (t := 77) rfl #[.slice none 0 0, .slice none 0 0, .int .i64 0] info_rmz (fun g12 w hM => hK _ _ ?_); clear hM0 hK K)) | fail) | (first | ((with_reducible refine at_alloc' ?_); (have hM0 := hM; clear hM; refine BigFrame.wpList_want (by rfl) fun K hK => ws_alloc hM0 (t := 85) rfl #[.int .i64 0, .int .i64 0, .string ByteArray.empty] info_rp (fun g11 w hM => hK _ _ ?_); clear hM0 hK K)) | fail) | (first | ((with_reducible refine at_load' ?_); (refine BigFrame.wpList_want (by rfl) fun K hK => ws_load1 hM rfl rfl (by (repeat (first | assumption | (with_reducible exact mZ) | apply mS)); first | done | fail) (by first | rfl | assumption) (by decide +kernel) (hK _ _ ?_); clear hK K)) | fail) | (go_at_call 68; have hM0 := hM; clear hM; (first | (with_reducible refine (HS.out _ _ _ _ hM0 (by (repeat (first | (with_reducible exact Take.head) | apply Take.tail)); first | done | fail) (by (repeat (first | (with_reducible exact Take.head) | apply Take.tail)); first | done | fail)).mono ?_) | fail); clear hM0; rintro _ w ⟨f', l', HT', rfl, hM⟩) | (go_at_call 67; have hM0 := hM; clear hM; (first | (with_reducible refine (HDR.out _ _ hM0 (by (repeat (first | assumption | (with_reducible exact mZ) | apply mS)); first | done | fail)).mono ?_) | fail); clear hM0; rintro _ w ⟨A1, c1, rfl, HC1, hM⟩) | (first | ((with_reducible refine at_load' ?_); (refine BigFrame.wpList_want (by rfl) fun K hK => ws_load hM rfl rfl (by (repeat (first | assumption | (with_reducible exact mZ) | apply mS)); first | done | fail) (n := 3) (by rfl) (by decide +kernel) (hK _ _ ?_); clear hK K)) | fail) | (first | ((with_reducible refine at_store' ?_); (have hM0 := hM; clear hM; refine BigFrame.wpList_want (by rfl) fun K hK => ws_store hM0 rfl rfl rfl (by (repeat (first | (with_reducible exact Take.head) | apply Take.tail)); first | done | fail) (n := 3) (by rfl) (by rfl) (by kernel_rfl) (by simp [Value.oneCell']) (fun w hM => hK _ _ ?_); clear hM0 hK K)) | fail))
      refine bodyPost_ret (results_row_tmp (P := Try.prog) (ty := 77) rfl _ _ g6 77 (rmV A n c B m d lo) 3 (.bool true) rfl (by simp) (hM.blk (by (repeat (first | assumption | (with_reducible exact mZ) | apply mS)); first | done | fail)) rfl (by decide +kernel)) rfl ?_
      exact ⟨M2, f', l', X, A, c, B, d, by unfold refV; rw [Hn.out, Hm.out, Hlo.out], HT', HN2, HR2, HMB.out.1, HMB.out.2, by omega, by rw [Hn.out]; exact hc, HD.out, by rw [Hn.out, Hm.out]; exact hM.sel (by repeat (first | (with_reducible exact Sel.refl) | (with_reducible exact Take.head) | (with_reducible apply Take.tail) | (with_reducible apply Sel.cons) | (with_reducible apply Sel.drop)))⟩
end
end Go.Proofs.Ytbejifbiffeamaa
set_option linter.unusedSimpArgs false
set_option linter.unusedVariables false
namespace Go.Proofs.Ytbejifbiffeamaa
open Go.RowKit
attribute [local go_sem] extract_mid extract_drop bget bsize wrap64_u8 i64_u8 u64_u8 bappend
section
variable {F : List SProp} {A B : Option Addr} {c d : Nat} {X : RM} {M : Msh} {a : MA} {f : Sls} {l : List (Option Addr × List (List UInt8))}
set_option maxRecDepth 100000 in
set_option maxHeartbeats 8000000 in
theorem does_6 (hN : Hid (Net M)) (hT : Hid (Tied M f l)) (hR : Hid (Rel M X)) (hl : M.lost ≤ 50000) (hL : X.L.length ≤ 50000) (hc : X.L.length ≤ c) (hd : X.la.length ≤ d) (ka kb kn : Int) (k1 : -9223372036854775808 ≤ kb) (k2 : kb ≤ 9223372036854775807) (x : List UInt8) (hx : x.length ≤ 9223372036854775807) (w : World) (hM : Star (netE a M f :: rowsE l :: rowE 1 B X.la.length (ivs X.la) :: rowE 3 A X.L.length (rps X.L) :: F) w) :
    Calls Try.prog 40 #[mptr a, refV X A c B d, .agg (actV 6 ka kb kn x)] w (DoesR a M X F) := by
  have hlo := hR.out.lo
  have hl0 := hN.out.l0
  obtain ⟨y, hy⟩ : ∃ y, cutT x = y := ⟨_, rfl⟩
  obtain ⟨M2, hM2⟩ : ∃ M2, lateX M ka kb kn = M2 := ⟨_, rfl⟩
  obtain ⟨X1, hX1⟩ : ∃ X1, rdrop X ka kb kn = X1 := ⟨_, rfl⟩
  obtain ⟨⟨p1, p2, p3⟩, hP⟩ : ∃ p, rdropP X ka kb kn = p := ⟨_, rfl⟩
  have hth : (0 ≤ kn ∧ 0 ≤ rfind ka kb kn 0 X.L) ↔ M.there ka kb kn :=
    ⟨fun h => (rel_find hR.out ka kb kn h.1).1 h.2, fun h => ⟨h.2.1, (rel_find hR.out ka kb kn h.2.1).2 h⟩⟩
  obtain ⟨b2, hb2⟩ : ∃ b2, lateE M ka kb kn = b2 := ⟨_, rfl⟩
  have HS : Hid (∀ (w : World) (L R1 F : List SProp), Star L w → Take (netE a M f) L R1 → Take (rowsE l) R1 F → Calls Try.prog 69 #[mptr a, .int .i64 ka, .int .i64 kb, .int .i64 kn] w fun r w' => ∃ f' l', Hid (Tied M2 f' l') ∧ r = .returned (.bool b2) ∧ Star (netE a M2 f' :: rowsE l' :: F) w') := fun w L R1 F hM h1 h2 => by
    have := lateY hN.out hT (by omega) ka kb kn k1 k2 w hM h1 h2
    rwa [hM2, hb2] at this
  have HN2 : Hid (Net M2) := by rw [← hM2]; exact net_lateX hN.out _ _ _
  have HMB : Hid (M2.n = M.n ∧ M2.lost ≤ M.lost + 64) := by
    rw [← hM2]
    have := lateX_lost M ka kb kn
    exact ⟨lateX_n _ _ _ _, by omega⟩
  have hX1l := rdrop_len X ka kb kn
  have hX1a := rdrop_la X ka kb kn
  have hX1lo : (rdrop X ka kb kn).lo = X.lo := by unfold rdrop; split <;> rfl
  rw [hX1] at hX1l hX1a hX1lo
  have HD := Lib.hid hd
  unfold cutT at hy
  have tok1 : Hid True := trivial
  have tok2 : Hid True := trivial
  by_cases hb : M.there ka kb kn
  · have hrr := rel_late hN.out hR.out hb
    rw [hM2, hb2, hP, hX1] at hrr
    simp only at hrr
    obtain ⟨X2, hX2⟩ : ∃ X2, rsend X1 kb p3 ka = X2 := ⟨_, rfl⟩
    obtain ⟨e2, he2⟩ : ∃ e2, rsendE X1 kb p3 ka = e2 := ⟨_, rfl⟩
    rw [hX2, he2] at hrr
    have HR2 := Lib.hid hrr.1
    have hbe := hrr.2
    have hbd : decide (e2 = 0) = b2 := by rw [← hbe]; rfl
    have HDR : Hid (∀ (w : World) (L : List SProp), Star L w → rowE 3 A X.L.length (rps X.L) ∈ L → Calls Try.prog 67 #[refV X A c B d, .int .i64 ka, .int .i64 kb, .int .i64 kn] w fun r w' => ∃ A' c', r = .returned (.tuple #[refV X1 A' c' B d, rpA (p1, p2, p3), .bool true]) ∧ Hid (X1.L.length ≤ c') ∧ Star (rowE 3 A' X1.L.length (rps X1.L) :: L) w') := fun w L hM h1 => by
      have := rdropY (B := B) (d := d) (by omega) hc ka kb kn w hM h1
      rwa [hX1, decide_eq_true (hth.2 hb), hP] at this
    have HRS : Hid (∀ (A1 : Option Addr) (c1 : Nat) (w : World) (L : List SProp), Star L w → Hid (X1.L.length ≤ c1) → rowE 3 A1 X1.L.length (rps X1.L) ∈ L → Calls Try.prog 65 #[refV X1 A1 c1 B d, .int .i64 kb, .string ⟨p3.toArray⟩, .int .i64 ka] w fun r w' => ∃ A' c', r = .returned (.tuple #[refV X2 A' c' B d, .int .i64 e2]) ∧ X2.L.length ≤ c' ∧ Star (rowE 3 A' X2.L.length (rps X2.L) :: L) w') := fun A1 c1 w L hM hc1 h1 => by
      have := rsendY (B := B) (d := d) (by omega) (by omega) (by omega) hc1.out kb p3 ka w hM h1
      rwa [hX2, he2] at this
    have HB : Hid (X2.L.length ≤ X.L.length + 64) := by
      rw [← hX2]
      have := rsend_len X1 kb p3 ka
      show _ ≤ _
      omega
    have HLA : Hid (X2.la = X.la) := by rw [← hX2]; rw [rsend_la]; exact hX1a
    clear hrr hM2 hX1 hX2 hP hth hb2 he2 hX1l hlo hl0 hb hX1lo
    unfold refV at HDR HRS ⊢
    generalize hm1 : X1.la.length = m1 at HDR HRS
    generalize hlq1 : X1.lo = lo1 at HDR HRS
    generalize hn : X.L.length = n at hM hL hc HDR HRS ⊢
    generalize hm : X.la.length = m at hM hd HDR HRS ⊢
    generalize hlq : X.lo = lo at HDR HRS ⊢
    have Hn := Lib.hid hn
    have Hm := Lib.hid hm
    clear hn hm hlq hm1 hlq1 hX1a
    by_cases hxc : 1024 < x.length
    · rw [if_pos hxc] at hy
      have h1 : (1024 : Int) < (x.length : Int) := by omega
      go_enter Try.func40, Try.ntmps40
      go_wp2_with (first | (first | ((with_reducible refine at_box' ?_); (have hM0 := hM; clear hM; refine BigFrame.wpList_want (by rfl) fun K hK => ws_box hM0 rfl rfl (cs := rmV A n c B m d lo) rfl (fun g4 w hM => hK _ _ ?_); clear hM0 hK K)) | fail) | (first | ((with_reducible refine at_box' ?_); (have hM0 := hM; clear hM; refine BigFrame.wpList_want (by rfl) fun K hK => ws_box hM0 rfl rfl (cs := actV 6 ka kb kn x) rfl (fun g5 w hM => hK _ _ ?_); clear hM0 hK K)) | fail) | (have _t := tok1; (first | ((with_reducible refine at_alloc' ?_); (have hM0 := hM; clear hM; refine BigFrame.wpList_want (by rfl) fun K hK => ws_alloc hM0 (t := 77) rfl #[.slice none 0 0, .slice none 0 0, .int .i64 0] info_rmz (fun g6 w hM => hK _ _ ?_); clear hM0 hK K)) | fail); clear tok1) | (have _t := tok2; (first | ((with_reducible refine at_alloc' ?_); (have hM0 := hM; clear hM; refine BigFrame.wpList_want (by rfl) fun K hK => ws_alloc hM0 (t := 77) rfl #[.slice none 0 0, .slice none 0 0, .int .i64 0] info_rmz (fun g10 w hM => hK _ _ ?_); clear hM0 hK K)) | fail); clear tok2) | (first | ((with_reducible refine at_alloc' ?_); (have hM0 := hM; clear hM; refine BigFrame.wpList_want (by rfl) fun K hK => ws_alloc hM0 (t := 77) rfl #[.slice none 0 0, .slice none 0 0, .int .i64 0] info_rmz (fun g12 w hM => hK _ _ ?_); clear hM0 hK K)) | fail) | (first | ((with_reducible refine at_alloc' ?_); (have hM0 := hM; clear hM; refine BigFrame.wpList_want (by rfl) fun K hK => ws_alloc hM0 (t := 85) rfl #[.int .i64 0, .int .i64 0, .string ByteArray.empty] info_rp (fun g11 w hM => hK _ _ ?_); clear hM0 hK K)) | fail) | (first | ((with_reducible refine at_load' ?_); (refine BigFrame.wpList_want (by rfl) fun K hK => ws_load1 hM rfl rfl (by (repeat (first | assumption | (with_reducible exact mZ) | apply mS)); first | done | fail) (by first | rfl | assumption) (by decide +kernel) (hK _ _ ?_); clear hK K)) | fail) | (go_at_call 69; have hM0 := hM; clear hM; (first | (with_reducible refine (HS.out _ _ _ _ hM0 (by (repeat (first | (with_reducible exact Take.head) | apply Take.tail)); first | done | fail) (by (repeat (first | (with_reducible exact Take.head) | apply Take.tail)); first | done | fail)).mono ?_) | fail); clear hM0; rintro _ w ⟨f', l', HT', rfl, hM⟩) | (go_at_call 67; have hM0 := hM; clear hM; (first | (with_reducible refine (HDR.out _ _ hM0 (by (repeat (first | assumption | (with_reducible exact mZ) | apply mS)); first | done | fail)).mono ?_) | fail); clear hM0; rintro _ w ⟨A1, c1, rfl, HC1, hM⟩) | (go_at_call 65; have hM0 := hM; clear hM; (first | (with_reducible refine (HRS.out _ _ _ _ hM0 HC1 (by (repeat (first | assumption | (with_reducible exact mZ) | apply mS)); first | done | fail)).mono ?_) | fail); clear hM0; rintro _ w ⟨A', c', rfl, hcc, hM⟩) | (first | ((with_reducible refine at_load' ?_); (refine BigFrame.wpList_want (by rfl) fun K hK => ws_load hM rfl rfl (by (repeat (first | assumption | (with_reducible exact mZ) | apply mS)); first | done | fail) (n := 3) (by rfl) (by decide +kernel) (hK _ _ ?_); clear hK K)) | fail) | (first | ((with_reducible refine at_store' ?_); (have hM0 := hM; clear hM; refine BigFrame.wpList_want (by rfl) fun K hK => ws_store hM0 rfl rfl rfl (by (repeat (first | (with_reducible exact Take.head) | apply Take.tail)); first | done | fail) (n := 3) (by rfl) (by rfl) (by kernel_rfl) (by simp [Value.oneCell']) (fun w hM => hK _ _ ?_); clear hM0 hK K)) | fail))
      refine bodyPost_ret (results_row_tmp (P := Try.prog) (ty := 77) rfl _ _ g6 77 (rmV A' X2.L.length c' B X2.la.length d X2.lo) 3 (.bool true) rfl (by simp) (hM.blk (by (repeat (first | assumption | (with_reducible exact mZ) | apply mS)); first | done | fail)) rfl (by decide +kernel)) rfl ?_
      exact ⟨M2, f', l', X2, A', c', B, d, rfl, HT', HN2, HR2, HMB.out.1, HMB.out.2, by have := HB.out; have := Hn.out; omega, hcc, by rw [HLA.out]; exact HD.out, by rw [HLA.out, Hm.out]; exact hM.sel (by repeat (first | (with_reducible exact Sel.refl) | (with_reducible exact Take.head) | (with_reducible apply Take.tail) | (with_reducible apply Sel.cons) | (with_reducible apply Sel.drop)))⟩
    · rw [if_neg hxc] at hy
      subst hy
      have h1 : (x.length : Int) ≤ 1024 := by omega
      go_enter Try.func40, Try.ntmps40
      go_wp2_with (first | (first | ((with_reducible refine at_box' ?_); (have hM0 := hM; clear hM; refine BigFrame.wpList_want (by rfl) fun K hK => ws_box hM0 rfl rfl (cs := rmV A n c B m d lo) rfl (fun g4 w hM => hK _ _ ?_); clear hM0 hK K)) | fail) | (first | ((with_reducible refine at_box' ?_); (have hM0 := hM; clear hM; refine BigFrame.wpList_want (by rfl) fun K hK => ws_box hM0 rfl rfl (cs := actV 6 ka kb kn x) rfl (fun g5 w hM => hK _ _ ?_); clear hM0 hK K)) | fail) | (have _t := tok1; (first | ((with_reducible refine at_alloc' ?_); (have hM0 := hM; clear hM; refine BigFrame.wpList_want (by rfl) fun K hK => ws_alloc hM0 (t := 77) rfl #[.slice none 0 0, .slice none 0 0, .int .i64 0] info_rmz (fun g6 w hM => hK _ _ ?_); clear hM0 hK K)) | fail); clear tok1) | (have _t := tok2; (first | ((with_reducible refine at_alloc' ?_); (have hM0 := hM; clear hM; refine BigFrame.wpList_want (by rfl) fun K hK => ws_alloc hM0 (t := 77) rfl #[.slice none 0 0, .slice none 0 0, .int .i64 0] info_rmz (fun g10 w hM => hK _ _ ?_); clear hM0 hK K)) | fail); clear tok2) | (first | ((with_reducible refine at_alloc' ?_); (have hM0 := hM; clear hM; refine BigFrame.wpList_want (by rfl) fun K hK => ws_alloc hM0 (t := 77) rfl #[.slice none 0 0, .slice none 0 0, .int .i64 0] info_rmz (fun g12 w hM => hK _ _ ?_); clear hM0 hK K)) | fail) | (first | ((with_reducible refine at_alloc' ?_); (have hM0 := hM; clear hM; refine BigFrame.wpList_want (by rfl) fun K hK => ws_alloc hM0 (t := 85) rfl #[.int .i64 0, .int .i64 0, .string ByteArray.empty] info_rp (fun g11 w hM => hK _ _ ?_); clear hM0 hK K)) | fail) | (first | ((with_reducible refine at_load' ?_); (refine BigFrame.wpList_want (by rfl) fun K hK => ws_load1 hM rfl rfl (by (repeat (first | assumption | (with_reducible exact mZ) | apply mS)); first | done | fail) (by first | rfl | assumption) (by decide +kernel) (hK _ _ ?_); clear hK K)) | fail) | (go_at_call 69; have hM0 := hM; clear hM; (first | (with_reducible refine (HS.out _ _ _ _ hM0 (by (repeat (first | (with_reducible exact Take.head) | apply Take.tail)); first | done | fail) (by (repeat (first | (with_reducible exact Take.head) | apply Take.tail)); first | done | fail)).mono ?_) | fail); clear hM0; rintro _ w ⟨f', l', HT', rfl, hM⟩) | (go_at_call 67; have hM0 := hM; clear hM; (first | (with_reducible refine (HDR.out _ _ hM0 (by (repeat (first | assumption | (with_reducible exact mZ) | apply mS)); first | done | fail)).mono ?_) | fail); clear hM0; rintro _ w ⟨A1, c1, rfl, HC1, hM⟩) | (go_at_call 65; have hM0 := hM; clear hM; (first | (with_reducible refine (HRS.out _ _ _ _ hM0 HC1 (by (repeat (first | assumption | (with_reducible exact mZ) | apply mS)); first | done | fail)).mono ?_) | fail); clear hM0; rintro _ w ⟨A', c', rfl, hcc, hM⟩) | (first | ((with_reducible refine at_load' ?_); (refine BigFrame.wpList_want (by rfl) fun K hK => ws_load hM rfl rfl (by (repeat (first | assumption | (with_reducible exact mZ) | apply mS)); first | done | fail) (n := 3) (by rfl) (by decide +kernel) (hK _ _ ?_); clear hK K)) | fail) | (first | ((with_reducible refine at_store' ?_); (have hM0 := hM; clear hM; refine BigFrame.wpList_want (by rfl) fun K hK => ws_store hM0 rfl rfl rfl (by (repeat (first | (with_reducible exact Take.head) | apply Take.tail)); first | done | fail) (n := 3) (by rfl) (by rfl) (by kernel_rfl) (by simp [Value.oneCell']) (fun w hM => hK _ _ ?_); clear hM0 hK K)) | fail))
      refine bodyPost_ret (results_row_tmp (P := Try.prog) (ty := 77) rfl _ _ g6 77 (rmV A' X2.L.length c' B X2.la.length d X2.lo) 3 (.bool true) rfl (by simp) (hM.blk (by (repeat (first | assumption | (with_reducible exact mZ) | apply mS)); first | done | fail)) rfl (by decide +kernel)) rfl ?_
      exact ⟨M2, f', l', X2, A', c', B, d, rfl, HT', HN2, HR2, HMB.out.1, HMB.out.2, by have := HB.out; have := Hn.out; omega, hcc, by rw [HLA.out]; exact HD.out, by rw [HLA.out, Hm.out]; exact hM.sel (by repeat (first | (with_reducible exact Sel.refl) | (with_reducible exact Take.head) | (with_reducible apply Take.tail) | (with_reducible apply Sel.cons) | (with_reducible apply Sel.drop)))⟩
  · have em : lateX M ka kb kn = M := if_neg hb
    have ee : lateE M ka kb kn = false := if_neg hb
    have HR2 : Hid (Rel M2 X) := by rw [← hM2, em]; exact hR
    rw [ee] at hb2
    subst hb2
    have HDR : Hid (∀ (w : World) (L : List SProp), Star L w → rowE 3 A X.L.length (rps X.L) ∈ L → Calls Try.prog 67 #[refV X A c B d, .int .i64 ka, .int .i64 kb, .int .i64 kn] w fun r w' => ∃ A' c', r = .returned (.tuple #[refV X1 A' c' B d, rpA (p1, p2, p3), .bool false]) ∧ Hid (X1.L.length ≤ c') ∧ Star (rowE 3 A' X1.L.length (rps X1.L) :: L) w') := fun w L hM h1 => by
      have := rdropY (B := B) (d := d) (by omega) hc ka kb kn w hM h1
      rwa [hX1, decide_eq_false (fun h => hb (hth.1 h)), hP] at this
    have HRS : Hid True := trivial
    clear hM2 hX1 hP hth hX1l hlo hl0 hb hX1lo em ee
    unfold refV at HDR ⊢
    generalize hm1 : X1.la.length = m1 at HDR
    generalize hlq1 : X1.lo = lo1 at HDR
    generalize hn : X.L.length = n at hM hL hc HDR ⊢
    generalize hm : X.la.length = m at hM hd HDR ⊢
    generalize hlq : X.lo = lo at HDR ⊢
    have Hn := Lib.hid hn
    have Hm := Lib.hid hm
    have Hlo := Lib.hid hlq
    clear hn hm hlq hm1 hlq1 hX1a
    by_cases hxc : 1024 < x.length
    · rw [if_pos hxc] at hy
      have h1 : (1024 : Int) < (x.length : Int) := by omega
      go_enter Try.func40, Try.ntmps40
      go_wp2_with (first | (first | ((with_reducible refine at_box' ?_); (have hM0 := hM; clear hM; refine BigFrame.wpList_want (by rfl) fun K hK => ws_box hM0 rfl rfl (cs := rmV A n c B m d lo) rfl (fun g4 w hM => hK _ _ ?_); clear hM0 hK K)) | fail) | (first | ((with_reducible refine at_box' ?_); (have hM0 := hM; clear hM; refine BigFrame.wpList_want (by rfl) fun K hK => ws_box hM0 rfl rfl (cs := actV 6 ka kb kn x) rfl (fun g5 w hM => hK _ _ ?_); clear hM0 hK K)) | fail) | (have _t := tok1; (first | ((with_reducible refine at_alloc' ?_); (have hM0 := hM; clear hM; refine BigFrame.wpList_want (by rfl) fun K hK => ws_alloc hM0 (t := 77) rfl #[.slice none 0 0, .slice none 0 0, .int .i64 0] info_rmz (fun g6 w hM => hK _ _ ?_); clear hM0 hK K)) | fail); clear tok1) | (have _t := tok2; (first | ((with_reducible refine at_alloc' ?_); (have hM0 := hM; clear hM; refine BigFrame.wpList_want (by rfl) fun K hK => ws_alloc hM0 (t := 77) rfl #[.slice none 0 0, .slice none 0 0, .int .i64 0] info_rmz (fun g10 w hM => hK _ _ ?_); clear hM0 hK K)) | fail); clear tok2) | (first | ((with_reducible refine at_alloc' ?_); (have hM0 := hM; clear hM; refine BigFrame.wpList_want (by rfl) fun K hK => ws_alloc hM0 (t := 77) rfl #[.slice none 0 0, .slice none 0 0, .int .i64 0] info_rmz (fun g12 w hM => hK _ _ ?_); clear hM0 hK K)) | fail) | (first | ((with_reducible refine at_alloc' ?_); (have hM0 := hM; clear hM; refine BigFrame.wpList_want (by rfl) fun K hK => ws_alloc hM0 (t := 85) rfl #[.int .i64 0, .int .i64 0, .string ByteArray.empty] info_rp (fun g11 w hM => hK _ _ ?_); clear hM0 hK K)) | fail) | (first | ((with_reducible refine at_load' ?_); (refine BigFrame.wpList_want (by rfl) fun K hK => ws_load1 hM rfl rfl (by (repeat (first | assumption | (with_reducible exact mZ) | apply mS)); first | done | fail) (by first | rfl | assumption) (by decide +kernel) (hK _ _ ?_); clear hK K)) | fail) | (go_at_call 69; have hM0 := hM; clear hM; (first | (with_reducible refine (HS.out _ _ _ _ hM0 (by (repeat (first | (with_reducible exact Take.head) | apply Take.tail)); first | done | fail) (by (repeat (first | (with_reducible exact Take.head) | apply Take.tail)); first | done | fail)).mono ?_) | fail); clear hM0; rintro _ w ⟨f', l', HT', rfl, hM⟩) | (go_at_call 67; have hM0 := hM; clear hM; (first | (with_reducible refine (HDR.out _ _ hM0 (by (repeat (first | assumption | (with_reducible exact mZ) | apply mS)); first | done | fail)).mono ?_) | fail); clear hM0; rintro _ w ⟨A1, c1, rfl, HC1, hM⟩) | (first | ((with_reducible refine at_load' ?_); (refine BigFrame.wpList_want (by rfl) fun K hK => ws_load hM rfl rfl (by (repeat (first | assumption | (with_reducible exact mZ) | apply mS)); first | done | fail) (n := 3) (by rfl) (by decide +kernel) (hK _ _ ?_); clear hK K)) | fail) | (first | ((with_reducible refine at_store' ?_); (have hM0 := hM; clear hM; refine BigFrame.wpList_want (by rfl) fun K hK => ws_store hM0 rfl rfl rfl (by (repeat (first | (with_reducible exact Take.head) | apply Take.tail)); first | done | fail) (n := 3) (by rfl) (by rfl) (by kernel_rfl) (by simp [Value.oneCell']) (fun w hM => hK _ _ ?_); clear hM0 hK K)) | fail))
      refine bodyPost_ret (results_row_tmp (P := Try.prog) (ty := 77) rfl _ _ g6 77 (rmV A n c B m d lo) 3 (.bool true) rfl (by simp) (hM.blk (by (repeat (first | assumption | (with_reducible exact mZ) | apply mS)); first | done | fail)) rfl (by decide +kernel)) rfl ?_
      exact ⟨M2, f', l', X, A, c, B, d, by unfold refV; rw [Hn.out, Hm.out, Hlo.out], HT', HN2, HR2, HMB.out.1, HMB.out.2, by omega, by rw [Hn.out]; exact hc, HD.out, by rw [Hn.out, Hm.out]; exact hM.sel (by repeat (first | (with_reducible exact Sel.refl) | (with_reducible exact Take.head) | (with_reducible apply Take.tail) | (with_reducible apply Sel.cons) | (with_reducible apply Sel.drop)))⟩
    · rw [if_neg hxc] at hy
      subst hy
      have h1 : (x.length : Int) ≤ 1024 := by omega
      go_enter Try.func40, Try.ntmps40
      go_wp2_with (first | (first | ((with_reducible refine at_box' ?_); (have hM0 := hM; clear hM; refine BigFrame.wpList_want (by rfl) fun K hK => ws_box hM0 rfl rfl (cs := rmV A n c B m d lo) rfl (fun g4 w hM => hK _ _ ?_); clear hM0 hK K)) | fail) | (first | ((with_reducible refine at_box' ?_); (have hM0 := hM; clear hM; refine BigFrame.wpList_want (by rfl) fun K hK => ws_box hM0 rfl rfl (cs := actV 6 ka kb kn x) rfl (fun g5 w hM => hK _ _ ?_); clear hM0 hK K)) | fail) | (have _t := tok1; (first | ((with_reducible refine at_alloc' ?_); (have hM0 := hM; clear hM; refine BigFrame.wpList_want (by rfl) fun K hK => ws_alloc hM0 (t := 77) rfl #[.slice none 0 0, .slice none 0 0, .int .i64 0] info_rmz (fun g6 w hM => hK _ _ ?_); clear hM0 hK K)) | fail); clear tok1) | (have _t := tok2; (first | ((with_reducible refine at_alloc' ?_); (have hM0 := hM; clear hM; refine BigFrame.wpList_want (by rfl) fun K hK => ws_alloc hM0 (t := 77) rfl #[.slice none 0 0, .slice none 0 0, .int .i64 0] info_rmz (fun g10 w hM => hK _ _ ?_); clear hM0 hK K)) | fail); clear tok2) | (first | ((with_reducible refine at_alloc' ?_); (have hM0 := hM; clear hM; refine BigFrame.wpList_want (by rfl) fun K hK => ws_alloc hM0 (t := 77) rfl #[.slice none 0 0, .slice none 0 0, .int .i64 0] info_rmz (fun g12 w hM => hK _ _ ?_); clear hM0 hK K)) | fail) | (first | ((with_reducible refine at_alloc' ?_); (have hM0 := hM; clear hM; refine BigFrame.wpList_want (by rfl) fun K hK => ws_alloc hM0 (t := 85) rfl #[.int .i64 0, .int .i64 0, .string ByteArray.empty] info_rp (fun g11 w hM => hK _ _ ?_); clear hM0 hK K)) | fail) | (first | ((with_reducible refine at_load' ?_); (refine BigFrame.wpList_want (by rfl) fun K hK => ws_load1 hM rfl rfl (by (repeat (first | assumption | (with_reducible exact mZ) | apply mS)); first | done | fail) (by first | rfl | assumption) (by decide +kernel) (hK _ _ ?_); clear hK K)) | fail) | (go_at_call 69; have hM0 := hM; clear hM; (first | (with_reducible refine (HS.out _ _ _ _ hM0 (by (repeat (first | (with_reducible exact Take.head) | apply Take.tail)); first | done | fail) (by (repeat (first | (with_reducible exact Take.head) | apply Take.tail)); first | done | fail)).mono ?_) | fail); clear hM0; rintro _ w ⟨f', l', HT', rfl, hM⟩) | (go_at_call 67; have hM0 := hM; clear hM; (first | (with_reducible refine (HDR.out _ _ hM0 (by (repeat (first | assumption | (with_reducible exact mZ) | apply mS)); first | done | fail)).mono ?_) | fail); clear hM0; rintro _ w ⟨A1, c1, rfl, HC1, hM⟩) | (first | ((with_reducible refine at_load' ?_); (refine BigFrame.wpList_want (by rfl) fun K hK => ws_load hM rfl rfl (by (repeat (first | assumption | (with_reducible exact mZ) | apply mS)); first | done | fail) (n := 3) (by rfl) (by decide +kernel) (hK _ _ ?_); clear hK K)) | fail) | (first | ((with_reducible refine at_store' ?_); (have hM0 := hM; clear hM; refine BigFrame.wpList_want (by rfl) fun K hK => ws_store hM0 rfl rfl rfl (by (repeat (first | (with_reducible exact Take.head) | apply Take.tail)); first | done | fail) (n := 3) (by rfl) (by rfl) (by kernel_rfl) (by simp [Value.oneCell']) (fun w hM => hK _ _ ?_); clear hM0 hK K)) | fail))
      refine bodyPost_ret (results_row_tmp (P := Try.prog) (ty := 77) rfl _ _ g6 77 (rmV A n c B m d lo) 3 (.bool true) rfl (by simp) (hM.blk (by (repeat (first | assumption | (with_reducible exact mZ) | apply mS)); first | done | fail)) rfl (by decide +kernel)) rfl ?_
      exact ⟨M2, f', l', X, A, c, B, d, by unfold refV; rw [Hn.out, Hm.out, Hlo.out], HT', HN2, HR2, HMB.out.1, HMB.out.2, by omega, by rw [Hn.out]; exact hc, HD.out, by rw [Hn.out, Hm.out]; exact hM.sel (by repeat (first | (with_reducible exact Sel.refl) | (with_reducible exact Take.head) | (with_reducible apply Take.tail) | (with_reducible apply Sel.cons) | (with_reducible apply Sel.drop)))⟩
end
end Go.Proofs.Ytbejifbiffeamaa
set_option linter.unusedSimpArgs false
set_option linter.unusedVariables false
namespace Go.Proofs.Ytbejifbiffeamaa
open Go.RowKit
attribute [local go_sem] extract_mid extract_drop bget bsize wrap64_u8 i64_u8 u64_u8 bappend
theorem castM_n (M : Msh) (k : Int) (x : List UInt8) (j : Nat) : (castM M k x j).n = M.n := by
  induction j with
  | zero => rfl
  | succ j ih =>
    unfold castM
    split
    · exact ih
    · rw [sendG_n, ih]
theorem castM_lost (M : Msh) (k : Int) (x : List UInt8) (j : Nat) : (castM M k x j).lost ≤ M.lost + j := by
  induction j with
  | zero => show M.lost ≤ _; omega
  | succ j ih =>
    unfold castM
    split
    · omega
    · have := sendG_lost (castM M k x j) j k x
      omega
theorem castX_n (M : Msh) (k : Int) (x : List UInt8) : (castX M k x).n = M.n := by unfold castX; split; exact castM_n _ _ _ _; rfl
theorem castX_lost {M : Msh} (h : M.n ≤ 64) (k : Int) (x : List UInt8) : (castX M k x).lost ≤ M.lost + 64 := by
  unfold castX
  split
  · have := castM_lost M k x M.n; omega
  · omega
theorem rsend_lo (X : RM) (k : Int) (x : List UInt8) (t : Int) : X.lo ≤ (rsend X k x t).lo ∧ (rsend X k x t).lo ≤ X.lo + 1 := by
  unfold rsend
  split
  · split
    · show X.lo ≤ X.lo ∧ X.lo ≤ X.lo + 1; omega
    · show X.lo ≤ X.lo + 1 ∧ X.lo + 1 ≤ X.lo + 1; omega
  · omega
structure RB (X X' : RM) (j : Nat) : Prop where
  len : X'.L.length ≤ X.L.length + j
  la : X'.la = X.la
  lo0 : X.lo ≤ X'.lo
  lo1 : X'.lo ≤ X.lo + j
theorem rcast_b (X : RM) (k : Int) (x : List UInt8) (j : Nat) : RB X (rcast X k x j) j := by
  induction j with
  | zero => exact ⟨Nat.le_refl _, rfl, Int.le_refl _, by show X.lo ≤ _; omega⟩
  | succ j ih =>
    obtain ⟨h1, h2, h3, h4⟩ := ih
    unfold rcast
    split
    · exact ⟨by omega, h2, h3, by omega⟩
    · have g1 := rsend_len (rcast X k x j) k x j
      have g2 := rsend_la (rcast X k x j) k x j
      have g3 := rsend_lo (rcast X k x j) k x j
      exact ⟨by omega, by rw [g2, h2], by omega, by omega⟩
section
variable {F : List SProp} {A B : Option Addr} {c d : Nat} {X : RM} {M : Msh} {a : MA} {f : Sls} {l : List (Option Addr × List (List UInt8))}
set_option maxRecDepth 100000 in
set_option maxHeartbeats 8000000 in
theorem does_2 (hN : Hid (Net M)) (hT : Hid (Tied M f l)) (hR : Hid (Rel M X)) (hl : M.lost ≤ 50000) (hL : X.L.length ≤ 50000) (hc : X.L.length ≤ c) (hd : X.la.length ≤ d) (ka kb kn : Int) (x : List UInt8) (hx : x.length ≤ 9223372036854775807) (w : World) (hM : Star (netE a M f :: rowsE l :: rowE 1 B X.la.length (ivs X.la) :: rowE 3 A X.L.length (rps X.L) :: F) w) :
    Calls Try.prog 40 #[mptr a, refV X A c B d, .agg (actV 2 ka kb kn x)] w (DoesR a M X F) := by
  have hlo := hR.out.lo
  have hl0 := hN.out.l0
  obtain ⟨y, hy⟩ : ∃ y, cutT x = y := ⟨_, rfl⟩
  obtain ⟨M2, hM2⟩ : ∃ M2, castX M ka y = M2 := ⟨_, rfl⟩
  have HS : Hid (∀ (w : World) (L R1 F : List SProp), Star L w → Take (netE a M f) L R1 → Take (rowsE l) R1 F → Calls Try.prog 30 #[mptr a, .int .i64 ka, .string ⟨y.toArray⟩] w fun r w' => ∃ f' l', Hid (Tied M2 f' l') ∧ r = .returned (.tuple #[]) ∧ Star (netE a M2 f' :: rowsE l' :: F) w') := fun w L R1 F hM h1 h2 => by
    have := castY hN.out hT (by omega) ka y w hM h1 h2
    rwa [hM2] at this
  have hn64 := hN.out.n64
  have hla := hR.out.la
  have HN2 : Hid (Net M2) := by rw [← hM2]; exact net_castX hN.out _ _
  have HB : Hid (M2.n = M.n ∧ M2.lost ≤ M.lost + 64) := by
    rw [← hM2]
    exact ⟨castX_n _ _ _, castX_lost hn64 _ _⟩
  have HD := Lib.hid hd
  obtain ⟨m, hm⟩ : ∃ m, X.la.length = m := ⟨_, rfl⟩
  have hm64 : m ≤ 64 := by omega
  have HR2 : Hid (Rel M2 (rcast X ka y m)) := by
    have := rel_cast hN.out hR.out ka y
    rw [hM2, ← hla, hm] at this
    exact this
  have HRS : Hid (∀ (j : Nat) (A1 : Option Addr) (c1 : Nat), j < m → (rcast X ka y j).L.length ≤ c1 → ¬ ((j : Int) = ka) → ∀ (w : World) (L : List SProp), Star L w → rowE 3 A1 (rcast X ka y j).L.length (rps (rcast X ka y j).L) ∈ L → Calls Try.prog 65 #[refV (rcast X ka y j) A1 c1 B d, .int .i64 ka, .string ⟨y.toArray⟩, .int .i64 j] w fun r w' => ∃ A' c' e, r = .returned (.tuple #[refV (rcast X ka y (j + 1)) A' c' B d, .int .i64 e]) ∧ (rcast X ka y (j + 1)).L.length ≤ c' ∧ Star (rowE 3 A' (rcast X ka y (j + 1)).L.length (rps (rcast X ka y (j + 1)).L) :: L) w') := fun j A1 c1 hj hc1 hjk w L hM h1 => by
    have hb := rcast_b X ka y j
    have h2 := hb.len
    have h3 := hb.lo0
    have h4 := hb.lo1
    have := rsendY (B := B) (d := d) (by omega) (by omega) (by omega) hc1 ka y j w hM h1
    have e : rcast X ka y (j + 1) = rsend (rcast X ka y j) ka y j := by show (if (j : Int) = ka then _ else _) = _; rw [if_neg hjk]
    rw [← e] at this
    exact this.mono fun _ _ ⟨A', c', h⟩ => ⟨A', c', _, h⟩
  have HLA : Hid (∀ j, (rcast X ka y j).la = X.la) := fun j => (rcast_b X ka y j).la
  have HLN : Hid (∀ j, (rcast X ka y j).la.length = m) := fun j => by rw [HLA.out]; exact hm
  have HLL : Hid ((rcast X ka y m).L.length ≤ X.L.length + 64) := by have := (rcast_b X ka y m).len; show _ ≤ _; omega
  have HSK : Hid (∀ j : Nat, (j : Int) = ka → rcast X ka y (j + 1) = rcast X ka y j) := fun j e => by show (if (j : Int) = ka then _ else _) = _; rw [if_pos e]
  have h00 : rcast X ka y 0 = X := rfl
  have HX0 := Lib.hid h00
  rw [hm] at hM hd
  unfold refV at HRS ⊢
  rw [hm]
  generalize hlq : X.lo = lo
  have Hlo := Lib.hid hlq
  obtain ⟨n, hn⟩ : ∃ n, X.L.length = n := ⟨_, rfl⟩
  rw [hn] at hM hc hL ⊢
  have Hn := Lib.hid hn
  have Hm := Lib.hid hm
  clear hn hm hlq hM2 hla hlo hl0 hn64 h00
  unfold cutT at hy
  have tok1 : Hid True := trivial
  by_cases hxc : 1024 < x.length
  · rw [if_pos hxc] at hy
    have h1 : (1024 : Int) < (x.length : Int) := by omega
    go_enter Try.func40, Try.ntmps40
    go_wp2_with (first | (first | ((with_reducible refine at_box' ?_); (have hM0 := hM; clear hM; refine BigFrame.wpList_want (by rfl) fun K hK => ws_box hM0 rfl rfl (cs := rmV A n c B m d lo) rfl (fun g4 w hM => hK _ _ ?_); clear hM0 hK K)) | fail) | (first | ((with_reducible refine at_box' ?_); (have hM0 := hM; clear hM; refine BigFrame.wpList_want (by rfl) fun K hK => ws_box hM0 rfl rfl (cs := actV 2 ka kb kn x) rfl (fun g5 w hM => hK _ _ ?_); clear hM0 hK K)) | fail) | (first | ((with_reducible refine at_alloc' ?_); (have hM0 := hM; clear hM; refine BigFrame.wpList_want (by rfl) fun K hK => ws_alloc hM0 (t := 77) rfl #[.slice none 0 0, .slice none 0 0, .int .i64 0] info_rmz (fun g6 w hM => hK _ _ ?_); clear hM0 hK K)) | fail) | (first | ((with_reducible refine at_load' ?_); (refine BigFrame.wpList_want (by rfl) fun K hK => ws_load1 hM rfl rfl (by (repeat (first | assumption | (with_reducible exact mZ) | apply mS)); first | done | fail) (by first | rfl | assumption) (by decide +kernel) (hK _ _ ?_); clear hK K)) | fail) | (go_at_call 30; have hM0 := hM; clear hM; (first | (with_reducible refine (HS.out _ _ _ _ hM0 (by (repeat (first | (with_reducible exact Take.head) | apply Take.tail)); first | done | fail) (by (repeat (first | (with_reducible exact Take.head) | apply Take.tail)); first | done | fail)).mono ?_) | fail); clear hM0; rintro _ w ⟨f', l', HT', rfl, hM⟩))
    go_loopw [71] (fun i wr => ∃ (j : Nat) (A1 : Option Addr) (c1 : Nat), i = .int .i64 j ∧ j ≤ m ∧ Hid ((rcast X ka y j).L.length ≤ c1) ∧ Star (cellsE g4 77 (rmV A1 (rcast X ka y j).L.length c1 B m d (rcast X ka y j).lo) :: netE a M2 f' :: rowsE l' :: cellsE g6 77 #[.slice none 0 0, .slice none 0 0, .int .i64 0] :: cellsE g5 82 (actV 2 ka kb kn x) :: rowE 3 A1 (rcast X ka y j).L.length (rps (rcast X ka y j).L) :: rowE 1 B m (ivs X.la) :: F) wr) (fun i _ => m - (intOf i).toNat)
    case atStart =>
      refine ⟨0, A, c, rfl, by omega, ?_, ?_⟩
      · show _ ≤ _
        rw [HX0.out, Hn.out]; exact hc
      · rw [HX0.out, Hn.out, Hlo.out]; exact hM.sel (by repeat (first | (with_reducible exact Sel.refl) | (with_reducible exact Take.head) | (with_reducible apply Take.tail) | (with_reducible apply Sel.cons) | (with_reducible apply Sel.drop)))
    case round =>
      clear hM
      obtain ⟨j, A1, c1, rfl, hj, hc1, hM⟩ := hrel
      by_cases hjm : j < m
      · have hjI : (j : Int) < (m : Int) := by omega
        by_cases hjk : (j : Int) = ka
        · have HSJ := Lib.hid (HSK.out j hjk)
          have e1 : ((j : Int) != ka) = false := by simp [hjk]
          have e2 : decide ((j : Int) = ka) = true := by simp [hjk]
          have e3 : ((j : Int) == ka) = true := by simp [hjk]
          have HJK := Lib.hid hjk
          clear hjk
          go_wp2_with (first | (first | ((with_reducible refine at_load' ?_); (refine BigFrame.wpList_want (by rfl) fun K hK => ws_load1 hM rfl rfl (by (repeat (first | assumption | (with_reducible exact mZ) | apply mS)); first | done | fail) (by first | rfl | assumption) (by decide +kernel) (hK _ _ ?_); clear hK K)) | fail))
          go_roundw
          case rel =>
            refine ⟨j + 1, A1, c1, rfl, by omega, ?_, ?_⟩
            · show _ ≤ _
              rw [HSJ.out]; exact hc1.out
            · rw [HSJ.out]; exact hM.sel (by repeat (first | (with_reducible exact Sel.refl) | (with_reducible exact Take.head) | (with_reducible apply Take.tail) | (with_reducible apply Sel.cons) | (with_reducible apply Sel.drop)))
          case measure => simp [intOf]; omega
        · have e1 : ((j : Int) != ka) = true := by simp [hjk]
          have e2 : decide ((j : Int) = ka) = false := by simp [hjk]
          have e3 : ((j : Int) == ka) = false := by simp [hjk]
          have HJ := Lib.hid (HRS.out j A1 c1 hjm hc1.out hjk)
          rw [HLN.out, HLN.out] at HJ
          clear hjk
          go_wp2_with (first | (go_at_call 65; have hM0 := hM; clear hM; (first | (with_reducible refine (HJ.out _ _ hM0 (by (repeat (first | assumption | (with_reducible exact mZ) | apply mS)); first | done | fail)).mono ?_) | fail); clear hM0; rintro _ w ⟨A', c', e, rfl, hcc, hM⟩) | (first | ((with_reducible refine at_load' ?_); (refine BigFrame.wpList_want (by rfl) fun K hK => ws_load hM rfl rfl (by (repeat (first | assumption | (with_reducible exact mZ) | apply mS)); first | done | fail) (n := 3) (by rfl) (by decide +kernel) (hK _ _ ?_); clear hK K)) | fail) | (first | ((with_reducible refine at_store' ?_); (have hM0 := hM; clear hM; refine BigFrame.wpList_want (by rfl) fun K hK => ws_store hM0 rfl rfl rfl (by (repeat (first | (with_reducible exact Take.head) | apply Take.tail)); first | done | fail) (n := 3) (by rfl) (by rfl) (by kernel_rfl) (by simp [Value.oneCell']) (fun w hM => hK _ _ ?_); clear hM0 hK K)) | fail) | (first | ((with_reducible refine at_load' ?_); (refine BigFrame.wpList_want (by rfl) fun K hK => ws_load1 hM rfl rfl (by (repeat (first | assumption | (with_reducible exact mZ) | apply mS)); first | done | fail) (by first | rfl | assumption) (by decide +kernel) (hK _ _ ?_); clear hK K)) | fail))
          go_roundw
          case rel => exact ⟨j + 1, A', c', rfl, by omega, hcc, hM.sel (by repeat (first | (with_reducible exact Sel.refl) | (with_reducible exact Take.head) | (with_reducible apply Take.tail) | (with_reducible apply Sel.cons) | (with_reducible apply Sel.drop)))⟩
          case measure => simp [intOf]; omega
      · obtain rfl : m = j := by omega
        go_wp2_with (first | (first | ((with_reducible refine at_load' ?_); (refine BigFrame.wpList_want (by rfl) fun K hK => ws_load hM rfl rfl (by (repeat (first | assumption | (with_reducible exact mZ) | apply mS)); first | done | fail) (n := 3) (by rfl) (by decide +kernel) (hK _ _ ?_); clear hK K)) | fail) | (first | ((with_reducible refine at_store' ?_); (have hM0 := hM; clear hM; refine BigFrame.wpList_want (by rfl) fun K hK => ws_store hM0 rfl rfl rfl (by (repeat (first | (with_reducible exact Take.head) | apply Take.tail)); first | done | fail) (n := 3) (by rfl) (by rfl) (by kernel_rfl) (by simp [Value.oneCell']) (fun w hM => hK _ _ ?_); clear hM0 hK K)) | fail))
        refine bodyPost_ret (results_row_tmp (P := Try.prog) (ty := 77) rfl _ _ g6 77 (rmV A1 (rcast X ka y m).L.length c1 B m d (rcast X ka y m).lo) 3 (.bool true) rfl (by simp) (hM.blk (by (repeat (first | assumption | (with_reducible exact mZ) | apply mS)); first | done | fail)) rfl (by decide +kernel)) rfl ?_
        exact ⟨M2, f', l', rcast X ka y m, A1, c1, B, d, by unfold refV; rw [HLN.out], HT', HN2, HR2, HB.out.1, HB.out.2, HLL.out, hc1.out, by rw [HLA.out]; exact HD.out, by rw [HLA.out, Hm.out]; exact hM.sel (by repeat (first | (with_reducible exact Sel.refl) | (with_reducible exact Take.head) | (with_reducible apply Take.tail) | (with_reducible apply Sel.cons) | (with_reducible apply Sel.drop)))⟩
  · rw [if_neg hxc] at hy
    subst hy
    have h1 : (x.length : Int) ≤ 1024 := by omega
    go_enter Try.func40, Try.ntmps40
    go_wp2_with (first | (first | ((with_reducible refine at_box' ?_); (have hM0 := hM; clear hM; refine BigFrame.wpList_want (by rfl) fun K hK => ws_box hM0 rfl rfl (cs := rmV A n c B m d lo) rfl (fun g4 w hM => hK _ _ ?_); clear hM0 hK K)) | fail) | (first | ((with_reducible refine at_box' ?_); (have hM0 := hM; clear hM; refine BigFrame.wpList_want (by rfl) fun K hK => ws_box hM0 rfl rfl (cs := actV 2 ka kb kn x) rfl (fun g5 w hM => hK _ _ ?_); clear hM0 hK K)) | fail) | (first | ((with_reducible refine at_alloc' ?_); (have hM0 := hM; clear hM; refine BigFrame.wpList_want (by rfl) fun K hK => ws_alloc hM0 (t := 77) rfl #[.slice none 0 0, .slice none 0 0, .int .i64 0] info_rmz (fun g6 w hM => hK _ _ ?_); clear hM0 hK K)) | fail) | (first | ((with_reducible refine at_load' ?_); (refine BigFrame.wpList_want (by rfl) fun K hK => ws_load1 hM rfl rfl (by (repeat (first | assumption | (with_reducible exact mZ) | apply mS)); first | done | fail) (by first | rfl | assumption) (by decide +kernel) (hK _ _ ?_); clear hK K)) | fail) | (go_at_call 30; have hM0 := hM; clear hM; (first | (with_reducible refine (HS.out _ _ _ _ hM0 (by (repeat (first | (with_reducible exact Take.head) | apply Take.tail)); first | done | fail) (by (repeat (first | (with_reducible exact Take.head) | apply Take.tail)); first | done | fail)).mono ?_) | fail); clear hM0; rintro _ w ⟨f', l', HT', rfl, hM⟩))
    go_loopw [71] (fun i wr => ∃ (j : Nat) (A1 : Option Addr) (c1 : Nat), i = .int .i64 j ∧ j ≤ m ∧ Hid ((rcast X ka x j).L.length ≤ c1) ∧ Star (cellsE g4 77 (rmV A1 (rcast X ka x j).L.length c1 B m d (rcast X ka x j).lo) :: netE a M2 f' :: rowsE l' :: cellsE g6 77 #[.slice none 0 0, .slice none 0 0, .int .i64 0] :: cellsE g5 82 (actV 2 ka kb kn x) :: rowE 3 A1 (rcast X ka x j).L.length (rps (rcast X ka x j).L) :: rowE 1 B m (ivs X.la) :: F) wr) (fun i _ => m - (intOf i).toNat)
    case atStart =>
      refine ⟨0, A, c, rfl, by omega, ?_, ?_⟩
      · show _ ≤ _
        rw [HX0.out, Hn.out]; exact hc
      · rw [HX0.out, Hn.out, Hlo.out]; exact hM.sel (by repeat (first | (with_reducible exact Sel.refl) | (with_reducible exact Take.head) | (with_reducible apply Take.tail) | (with_reducible apply Sel.cons) | (with_reducible apply Sel.drop)))
    case round =>
      clear hM
      obtain ⟨j, A1, c1, rfl, hj, hc1, hM⟩ := hrel
      by_cases hjm : j < m
      · have hjI : (j : Int) < (m : Int) := by omega
        by_cases hjk : (j : Int) = ka
        · have HSJ := Lib.hid (HSK.out j hjk)
          have e1 : ((j : Int) != ka) = false := by simp [hjk]
          have e2 : decide ((j : Int) = ka) = true := by simp [hjk]
          have e3 : ((j : Int) == ka) = true := by simp [hjk]
          have HJK := Lib.hid hjk
          clear hjk
          go_wp2_with (first | (first | ((with_reducible refine at_load' ?_); (refine BigFrame.wpList_want (by rfl) fun K hK => ws_load1 hM rfl rfl (by (repeat (first | assumption | (with_reducible exact mZ) | apply mS)); first | done | fail) (by first | rfl | assumption) (by decide +kernel) (hK _ _ ?_); clear hK K)) | fail))
          go_roundw
          case rel =>
            refine ⟨j + 1, A1, c1, rfl, by omega, ?_, ?_⟩
            · show _ ≤ _
              rw [HSJ.out]; exact hc1.out
            · rw [HSJ.out]; exact hM.sel (by repeat (first | (with_reducible exact Sel.refl) | (with_reducible exact Take.head) | (with_reducible apply Take.tail) | (with_reducible apply Sel.cons) | (with_reducible apply Sel.drop)))
          case measure => simp [intOf]; omega
        · have e1 : ((j : Int) != ka) = true := by simp [hjk]
          have e2 : decide ((j : Int) = ka) = false := by simp [hjk]
          have e3 : ((j : Int) == ka) = false := by simp [hjk]
          have HJ := Lib.hid (HRS.out j A1 c1 hjm hc1.out hjk)
          rw [HLN.out, HLN.out] at HJ
          clear hjk
          go_wp2_with (first | (go_at_call 65; have hM0 := hM; clear hM; (first | (with_reducible refine (HJ.out _ _ hM0 (by (repeat (first | assumption | (with_reducible exact mZ) | apply mS)); first | done | fail)).mono ?_) | fail); clear hM0; rintro _ w ⟨A', c', e, rfl, hcc, hM⟩) | (first | ((with_reducible refine at_load' ?_); (refine BigFrame.wpList_want (by rfl) fun K hK => ws_load hM rfl rfl (by (repeat (first | assumption | (with_reducible exact mZ) | apply mS)); first | done | fail) (n := 3) (by rfl) (by decide +kernel) (hK _ _ ?_); clear hK K)) | fail) | (first | ((with_reducible refine at_store' ?_); (have hM0 := hM; clear hM; refine BigFrame.wpList_want (by rfl) fun K hK => ws_store hM0 rfl rfl rfl (by (repeat (first | (with_reducible exact Take.head) | apply Take.tail)); first | done | fail) (n := 3) (by rfl) (by rfl) (by kernel_rfl) (by simp [Value.oneCell']) (fun w hM => hK _ _ ?_); clear hM0 hK K)) | fail) | (first | ((with_reducible refine at_load' ?_); (refine BigFrame.wpList_want (by rfl) fun K hK => ws_load1 hM rfl rfl (by (repeat (first | assumption | (with_reducible exact mZ) | apply mS)); first | done | fail) (by first | rfl | assumption) (by decide +kernel) (hK _ _ ?_); clear hK K)) | fail))
          go_roundw
          case rel => exact ⟨j + 1, A', c', rfl, by omega, hcc, hM.sel (by repeat (first | (with_reducible exact Sel.refl) | (with_reducible exact Take.head) | (with_reducible apply Take.tail) | (with_reducible apply Sel.cons) | (with_reducible apply Sel.drop)))⟩
          case measure => simp [intOf]; omega
      · obtain rfl : m = j := by omega
        go_wp2_with (first | (first | ((with_reducible refine at_load' ?_); (refine BigFrame.wpList_want (by rfl) fun K hK => ws_load hM rfl rfl (by (repeat (first | assumption | (with_reducible exact mZ) | apply mS)); first | done | fail) (n := 3) (by rfl) (by decide +kernel) (hK _ _ ?_); clear hK K)) | fail) | (first | ((with_reducible refine at_store' ?_); (have hM0 := hM; clear hM; refine BigFrame.wpList_want (by rfl) fun K hK => ws_store hM0 rfl rfl rfl (by (repeat (first | (with_reducible exact Take.head) | apply Take.tail)); first | done | fail) (n := 3) (by rfl) (by rfl) (by kernel_rfl) (by simp [Value.oneCell']) (fun w hM => hK _ _ ?_); clear hM0 hK K)) | fail))
        refine bodyPost_ret (results_row_tmp (P := Try.prog) (ty := 77) rfl _ _ g6 77 (rmV A1 (rcast X ka x m).L.length c1 B m d (rcast X ka x m).lo) 3 (.bool true) rfl (by simp) (hM.blk (by (repeat (first | assumption | (with_reducible exact mZ) | apply mS)); first | done | fail)) rfl (by decide +kernel)) rfl ?_
        exact ⟨M2, f', l', rcast X ka x m, A1, c1, B, d, by unfold refV; rw [HLN.out], HT', HN2, HR2, HB.out.1, HB.out.2, HLL.out, hc1.out, by rw [HLA.out]; exact HD.out, by rw [HLA.out, Hm.out]; exact hM.sel (by repeat (first | (with_reducible exact Sel.refl) | (with_reducible exact Take.head) | (with_reducible apply Take.tail) | (with_reducible apply Sel.cons) | (with_reducible apply Sel.drop)))⟩
end
end Go.Proofs.Ytbejifbiffeamaa
