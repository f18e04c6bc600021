/- The statement LetterChecks, from its walk. No condition but those that each theorem names. -/
import Derived.Test.YtlhedbjjlomniaaLt1
import Derived.Test.YtlhedbjjlomniaaLt14
set_option linter.unusedSimpArgs false
set_option linter.unusedVariables false
namespace Go.Proofs.Ytlhedbjjlomniaa
open Go.RowKit
attribute [local go_sem] extract_mid extract_drop bget bsize wrap64_u8 i64_u8 u64_u8 bappend
set_option maxRecDepth 100000 in
set_option maxHeartbeats 8000000 in
theorem letterChecks_core {F : List SProp} {k f t q : Int} {id : List UInt8} {wh : Int} {x y : List UInt8} {A : Option Addr} {n0 n c : Nat} {ps : List Int} {B : Option Addr} {m0 m d : Nat} {hs : List Int} (h : FewL k f t q id wh y ps n hs m)
    (HF : Hid (∀ (L : List SProp) (w : World), Star L w → Calls Try.prog 13 #[.agg (ltC k f t q id wh x A n0 c B m0 d)] w fun r w' => r = .returned (.agg (ltC k f t q id wh y A n c B m d)) ∧ Star L w'))
    (w : World) (hM : Star F w) (h1 : rowE 1 A n (ivs ps) ∈ F) (h2 : rowE 1 B m (ivs hs) ∈ F) :
    Calls Try.prog 3 #[.agg (ltC k f t q id wh x A n0 c B m0 d)] w fun r w' => r = .returned (.bool true) ∧ Star F w' := by
  have HI := Lib.hid h.gid
  have HC := h.check A c B d
  have HRC := h.rcheck A c B d
  have tok1 : True := trivial
  by_cases hc : checkL ⟨k, f, t, q, id, wh, y, ps, hs⟩ = 0
  · have HB := Lib.hid (h.bytes A c B d)
    have HRB := Lib.hid (h.rbytes A c B d)
    have HP := Lib.hid (h.back hc)
    have HS := Lib.hid (fun A1 c1 B1 d1 => h.is A1 c1 B1 d1 A c B d)
    have hl := bytes_len (checkL_ok hc) (by simp [h.gid])
    rw [hc] at HC HRC
    generalize bytesL ⟨k, f, t, q, id, wh, y, ps, hs⟩ = s at HB HRB HP hl
    replace HC := Lib.hid HC
    replace HRC := Lib.hid HRC
    have b1 : decide ((s.length : Int) ≤ 1024) = true := by simp; omega
    clear h hc
    go_enter Try.func3, Try.ntmps3
    go_wp2_with (first | (first | ((with_reducible refine at_box' ?_); (have hM0 := hM; clear hM; refine BigFrame.wpList_want (by rfl) fun K hK => ws_box hM0 rfl rfl (cs := ltC k f t q id wh x A n0 c B m0 d) rfl (fun gx w hM => hK _ _ ?_); clear hM0 hK K)) | fail) | (have _t := tok1; (first | ((with_reducible refine at_alloc' ?_); (have hM0 := hM; clear hM; refine BigFrame.wpList_want (by rfl) fun K hK => ws_alloc hM0 (t := 29) rfl (rtC 0 0 0 0 [] 0 [] none 0 0 none 0 0) info_rt0 (fun g3 w hM => hK _ _ ?_); clear hM0 hK K)) | fail); clear tok1) | (first | ((with_reducible refine at_alloc' ?_); (have hM0 := hM; clear hM; refine BigFrame.wpList_want (by rfl) fun K hK => ws_alloc hM0 (t := 26) rfl (ltC 0 0 0 0 z32 0 [] none 0 0 none 0 0) info_lt (fun g6 w hM => hK _ _ ?_); clear hM0 hK K)) | fail) | (first | ((with_reducible refine at_load' ?_); (refine BigFrame.wpList_want (by rfl) fun K hK => ws_load hM rfl rfl (by (repeat (first | assumption | (with_reducible exact List.mem_cons_self) | apply List.mem_cons_of_mem)); first | done | fail) (n := 40) (by exact ltC_size HI.out) (by decide +kernel) (hK _ _ ?_); clear hK K)) | fail) | (first | ((with_reducible refine at_load' ?_); (refine BigFrame.wpList_want (by rfl) fun K hK => ws_load hM rfl rfl (by (repeat (first | assumption | (with_reducible exact List.mem_cons_self) | apply List.mem_cons_of_mem)); first | done | fail) (n := 9) (by rfl) (by decide +kernel) (hK _ _ ?_); clear hK K)) | fail) | (first | ((with_reducible refine at_store' ?_); (have hM0 := hM; clear hM; refine BigFrame.wpList_want (by rfl) fun K hK => ws_store hM0 rfl rfl rfl (by (repeat (first | (with_reducible exact Take.head) | apply Take.tail)); first | done | fail) (n := 40) (by exact ltC_size (by first | exact z32_len | exact HI.out)) (by exact ltC_size (by first | exact z32_len | exact HI.out)) (by kernel_rfl) (by exact ltC_one) (fun w hM => hK _ _ ?_); clear hM0 hK K)) | fail) | (first | ((with_reducible refine at_store' ?_); (have hM0 := hM; clear hM; refine BigFrame.wpList_want (by rfl) fun K hK => ws_store hM0 rfl rfl rfl (by (repeat (first | (with_reducible exact Take.head) | apply Take.tail)); first | done | fail) (n := 9) (by rfl) (by rfl) (by kernel_rfl) (by simp [Value.oneCell']) (fun w hM => hK _ _ ?_); clear hM0 hK K)) | fail) | (go_at_call 13; have hM0 := hM; clear hM; (first | (with_reducible refine (HF.out _ _ hM0).mono ?_) | fail); clear hM0; rintro _ w ⟨rfl, hM⟩) | (go_at_call 14; have hM0 := hM; clear hM; (first | (with_reducible refine (told_star _ _ _ _ _ HI.out _ _ _ _ _ _ _ _ _ hM0).mono ?_) | fail); clear hM0; rintro _ w ⟨rfl, hM⟩) | (go_at_call 15; have hM0 := hM; clear hM; (first | (with_reducible refine (HC.out _ _ hM0 (by (repeat (first | assumption | (with_reducible exact List.mem_cons_self) | apply List.mem_cons_of_mem)); first | done | fail) (by (repeat (first | assumption | (with_reducible exact List.mem_cons_self) | apply List.mem_cons_of_mem)); first | done | fail)).mono ?_) | fail); clear hM0; rintro _ w ⟨rfl, hM⟩) | (go_at_call 16; have hM0 := hM; clear hM; (first | (with_reducible refine (awake17 _ hM0).mono ?_) | fail); clear hM0; rintro _ w ⟨rfl, hM⟩) | (go_at_call 17; have hM0 := hM; clear hM; (first | (with_reducible refine (HRC.out _ _ hM0 (by (repeat (first | assumption | (with_reducible exact List.mem_cons_self) | apply List.mem_cons_of_mem)); first | done | fail) (by (repeat (first | assumption | (with_reducible exact List.mem_cons_self) | apply List.mem_cons_of_mem)); first | done | fail)).mono ?_) | fail); clear hM0; rintro _ w ⟨rfl, hM⟩) | (go_at_call 18; have hM0 := hM; clear hM; (first | (with_reducible refine (HB.out _ _ hM0 (by (repeat (first | assumption | (with_reducible exact List.mem_cons_self) | apply List.mem_cons_of_mem)); first | done | fail) (by (repeat (first | assumption | (with_reducible exact List.mem_cons_self) | apply List.mem_cons_of_mem)); first | done | fail)).mono ?_) | fail); clear hM0; rintro _ w ⟨rfl, hM⟩) | (go_at_call 19; have hM0 := hM; clear hM; (first | (with_reducible refine (HP.out _ _ hM0).mono ?_) | fail); clear hM0; rintro _ w ⟨A', c', B', d', rfl, hM⟩) | (go_at_call 20; have hM0 := hM; clear hM; (first | (with_reducible refine (HRB.out _ _ hM0 (by (repeat (first | assumption | (with_reducible exact List.mem_cons_self) | apply List.mem_cons_of_mem)); first | done | fail) (by (repeat (first | assumption | (with_reducible exact List.mem_cons_self) | apply List.mem_cons_of_mem)); first | done | fail)).mono ?_) | fail); clear hM0; rintro _ w ⟨rfl, hM⟩) | (go_at_call 21; have hM0 := hM; clear hM; (first | (with_reducible refine (HS.out _ _ _ _ _ _ hM0 (by (repeat (first | assumption | (with_reducible exact List.mem_cons_self) | apply List.mem_cons_of_mem)); first | done | fail) (by (repeat (first | assumption | (with_reducible exact List.mem_cons_self) | apply List.mem_cons_of_mem)); first | done | fail) (by (repeat (first | assumption | (with_reducible exact List.mem_cons_self) | apply List.mem_cons_of_mem)); first | done | fail) (by (repeat (first | assumption | (with_reducible exact List.mem_cons_self) | apply List.mem_cons_of_mem)); first | done | fail)).mono ?_) | fail); clear hM0; rintro _ w ⟨rfl, hM⟩))
    go_ret
    exact ⟨rfl, hM.sel (by repeat (first | (with_reducible exact Sel.refl) | (with_reducible exact Take.head) | (with_reducible apply Take.tail) | (with_reducible apply Sel.cons) | (with_reducible apply Sel.drop)))⟩
  · generalize checkL ⟨k, f, t, q, id, wh, y, ps, hs⟩ = cv at HC HRC hc
    replace HC := Lib.hid HC
    replace HRC := Lib.hid HRC
    have hc1 : (cv == 0) = false := by simpa using hc
    have hc2 : (cv != 0) = true := by simpa using hc
    clear h
    go_enter Try.func3, Try.ntmps3
    go_wp2_with (first | (first | ((with_reducible refine at_box' ?_); (have hM0 := hM; clear hM; refine BigFrame.wpList_want (by rfl) fun K hK => ws_box hM0 rfl rfl (cs := ltC k f t q id wh x A n0 c B m0 d) rfl (fun gx w hM => hK _ _ ?_); clear hM0 hK K)) | fail) | (have _t := tok1; (first | ((with_reducible refine at_alloc' ?_); (have hM0 := hM; clear hM; refine BigFrame.wpList_want (by rfl) fun K hK => ws_alloc hM0 (t := 29) rfl (rtC 0 0 0 0 [] 0 [] none 0 0 none 0 0) info_rt0 (fun g3 w hM => hK _ _ ?_); clear hM0 hK K)) | fail); clear tok1) | (first | ((with_reducible refine at_alloc' ?_); (have hM0 := hM; clear hM; refine BigFrame.wpList_want (by rfl) fun K hK => ws_alloc hM0 (t := 26) rfl (ltC 0 0 0 0 z32 0 [] none 0 0 none 0 0) info_lt (fun g6 w hM => hK _ _ ?_); clear hM0 hK K)) | fail) | (first | ((with_reducible refine at_load' ?_); (refine BigFrame.wpList_want (by rfl) fun K hK => ws_load hM rfl rfl (by (repeat (first | assumption | (with_reducible exact List.mem_cons_self) | apply List.mem_cons_of_mem)); first | done | fail) (n := 40) (by exact ltC_size HI.out) (by decide +kernel) (hK _ _ ?_); clear hK K)) | fail) | (first | ((with_reducible refine at_load' ?_); (refine BigFrame.wpList_want (by rfl) fun K hK => ws_load hM rfl rfl (by (repeat (first | assumption | (with_reducible exact List.mem_cons_self) | apply List.mem_cons_of_mem)); first | done | fail) (n := 9) (by rfl) (by decide +kernel) (hK _ _ ?_); clear hK K)) | fail) | (first | ((with_reducible refine at_store' ?_); (have hM0 := hM; clear hM; refine BigFrame.wpList_want (by rfl) fun K hK => ws_store hM0 rfl rfl rfl (by (repeat (first | (with_reducible exact Take.head) | apply Take.tail)); first | done | fail) (n := 40) (by exact ltC_size (by first | exact z32_len | exact HI.out)) (by exact ltC_size (by first | exact z32_len | exact HI.out)) (by kernel_rfl) (by exact ltC_one) (fun w hM => hK _ _ ?_); clear hM0 hK K)) | fail) | (first | ((with_reducible refine at_store' ?_); (have hM0 := hM; clear hM; refine BigFrame.wpList_want (by rfl) fun K hK => ws_store hM0 rfl rfl rfl (by (repeat (first | (with_reducible exact Take.head) | apply Take.tail)); first | done | fail) (n := 9) (by rfl) (by rfl) (by kernel_rfl) (by simp [Value.oneCell']) (fun w hM => hK _ _ ?_); clear hM0 hK K)) | fail) | (go_at_call 13; have hM0 := hM; clear hM; (first | (with_reducible refine (HF.out _ _ hM0).mono ?_) | fail); clear hM0; rintro _ w ⟨rfl, hM⟩) | (go_at_call 14; have hM0 := hM; clear hM; (first | (with_reducible refine (told_star _ _ _ _ _ HI.out _ _ _ _ _ _ _ _ _ hM0).mono ?_) | fail); clear hM0; rintro _ w ⟨rfl, hM⟩) | (go_at_call 15; have hM0 := hM; clear hM; (first | (with_reducible refine (HC.out _ _ hM0 (by (repeat (first | assumption | (with_reducible exact List.mem_cons_self) | apply List.mem_cons_of_mem)); first | done | fail) (by (repeat (first | assumption | (with_reducible exact List.mem_cons_self) | apply List.mem_cons_of_mem)); first | done | fail)).mono ?_) | fail); clear hM0; rintro _ w ⟨rfl, hM⟩) | (go_at_call 16; have hM0 := hM; clear hM; (first | (with_reducible refine (awake17 _ hM0).mono ?_) | fail); clear hM0; rintro _ w ⟨rfl, hM⟩) | (go_at_call 17; have hM0 := hM; clear hM; (first | (with_reducible refine (HRC.out _ _ hM0 (by (repeat (first | assumption | (with_reducible exact List.mem_cons_self) | apply List.mem_cons_of_mem)); first | done | fail) (by (repeat (first | assumption | (with_reducible exact List.mem_cons_self) | apply List.mem_cons_of_mem)); first | done | fail)).mono ?_) | fail); clear hM0; rintro _ w ⟨rfl, hM⟩))
    go_ret
    exact ⟨rfl, hM.sel (by repeat (first | (with_reducible exact Sel.refl) | (with_reducible exact Take.head) | (with_reducible apply Take.tail) | (with_reducible apply Sel.cons) | (with_reducible apply Sel.drop)))⟩
theorem letterChecks_walk {F : List SProp} (a : LA) (o : a.ok) (w : World) (hM : Star F w) (h1 : rowE 1 a.A a.n (ivs a.ps) ∈ F) (h2 : rowE 1 a.B a.m (ivs a.hs) ∈ F) :
    Calls Try.prog 3 #[.agg a.cs] w fun r w' => r = .returned (.bool true) ∧ Star F w' := by
  obtain ⟨n', m', ps', hs', y, hfl, hM2, hfew⟩ := few_la o hM h1 h2
  exact (letterChecks_core hfl (Lib.hid hfew) w hM2 (by (repeat (first | assumption | (with_reducible exact List.mem_cons_self) | apply List.mem_cons_of_mem)); first | done | fail) (by (repeat (first | assumption | (with_reducible exact List.mem_cons_self) | apply List.mem_cons_of_mem)); first | done | fail)).mono fun _ _ ⟨h1, h2⟩ => ⟨h1, h2.sel (by repeat (first | (with_reducible exact Sel.refl) | (with_reducible exact Take.head) | (with_reducible apply Take.tail) | (with_reducible apply Sel.cons) | (with_reducible apply Sel.drop)))⟩
end Go.Proofs.Ytlhedbjjlomniaa
set_option linter.unusedSimpArgs false
set_option linter.unusedVariables false
namespace Go.Proofs.Ytlhedbjjlomniaa
open Go.RowKit Go.WideShapes Go.ChangeShapes Go.ChangeAt
theorem letterChecks_law (l0 : LA) (o0 : l0.ok) (W : World) (w0 : Rd W 1 l0.A l0.n (ivs l0.ps)) (u0 : Rd W 1 l0.B l0.m (ivs l0.hs)) :
    Calls Try.prog 3 #[.agg l0.cs] W fun r w' => r = .returned (.bool true) ∧ Ch [] W w' :=
  (letterChecks_walk l0 o0 W (((Star.start W).of_old (by (repeat (first | assumption | (with_reducible exact List.mem_cons_self) | apply List.mem_cons_of_mem)); first | done | fail) w0).of_old (by (repeat (first | assumption | (with_reducible exact List.mem_cons_self) | apply List.mem_cons_of_mem)); first | done | fail) u0) (by (repeat (first | assumption | (with_reducible exact List.mem_cons_self) | apply List.mem_cons_of_mem)); first | done | fail) (by (repeat (first | assumption | (with_reducible exact List.mem_cons_self) | apply List.mem_cons_of_mem)); first | done | fail)).mono fun _ _ ⟨h1, h2⟩ => ⟨h1, h2.old (by (repeat (first | assumption | (with_reducible exact List.mem_cons_self) | apply List.mem_cons_of_mem)); first | done | fail)⟩
theorem letterChecks_own : ownKnob Try.prog.godebug = none := by kernel_rfl
set_option maxRecDepth 100000 in
theorem letterChecks_lifted (os : Os) (started : os.Started) (H : Type) (enc : TypeId × Value → H) :
    ReturnsInHanded {} Try.checked os 3 .any (Rows.letterChecksSpec.pre6 enc Try.prog Try.f3 Rows.letterChecksRow.domain false) (Rows.letterChecksSpec.post enc Try.prog Try.f3 false true false false) := by
  refine returnsInHanded_of_change (C := Try.checked) letterChecks_own started (by kernel_rfl) Try.func3
    (ChangeSpec.witness6 (enc := enc) (C := Try.checked) false ⟨#[], #[.agg (#[.int .i64 0, .int .i64 0, .int .i64 0, .int .i64 0] ++ Array.replicate 32 (.int .u8 0) ++ #[.int .i64 0, .string ByteArray.empty, .slice none 0 0, .slice none 0 0])], []⟩ 8 (by kernel_rfl) (by kernel_rfl) (by kernel_rfl) (by kernel_rfl)) ?_
  intro W base args ds gs before hval0 hW hcnd _
  have hval : ∀ (j : Nat) t v, Try.f3.params[j]? = some t → args[j]? = some v → Value.okWide Try.prog W .any base t v := hval0
  have hW' := hW
  obtain ⟨p, q, hA0, hV, rfl, hfz, hnd⟩ := hW
  have hA : DataW.TrodAll enc Try.prog W 0 (fun _ => true) true Try.f3.params.toList args.toList ds p := hA0
  have hA1 := hA
  rw [Try.params3] at hA hval
  obtain ⟨v0, vs0, d0, ds0, p0, q0, hargs, rfl, rfl, h0, r0⟩ := trodAll_cons hA
  obtain ⟨rfl, rfl, rfl⟩ := trodAll_nil r0
  obtain rfl : args = #[v0] := by cases args; simp_all
  obtain ⟨rfl, rfl⟩ := trodVars_none hV
  obtain ⟨l0, rfl, o0, w0, u0⟩ := open_la (hval 0 26 v0 rfl rfl) h0
  clear hA0 hval0
  refine (letterChecks_law l0 o0 W w0 u0).mono fun e W' ⟨he, hg⟩ => ?_
  subst he
  have hlt := fun x hx => hW'.lt x hx
  exact ⟨_, rfl, post_of_below hW' (fun _ _ _ => (trodAll_cons_mk (shut_bool Try.underlying4 _) trodAll_mk0))
    (fun sp hsp => args_stay (by kernel_rfl) hg.below sp _ _ _ _ (by kernel_rfl) hA1 (fun x hx => hlt x (List.mem_append.2 (.inl hx))) (fun x hx => hsp x (List.mem_append.2 (.inl hx)))) (fun _ _ => rfl) rfl
    hg.below (ok_one (by kernel_rfl) rfl (okWide_bool_mk Try.underlying4 _))⟩
theorem letterChecks_over : Rows.letterChecksRow.holds Try.pinned (OpenSpec.ofChange Rows.letterChecksSpec) :=
  OpenClaim.holds_of_wide 3 Try.f3 rfl rfl rfl rfl rfl rfl rfl ⟨rfl, rfl, rfl, rfl, rfl⟩ rfl rfl rfl rfl rfl (by kernel_rfl) Try.func3 (by kernel_rfl)
    (of_decide_eq_true (by kernel_rfl)) (by unfold Func.isWrapper; first | (rw [if_pos (by decide +kernel)]; kernel_rfl) | (rw [if_neg (by decide +kernel)]; exact ⟨rfl, rfl⟩))
    (fun os started H enc _ => letterChecks_lifted os started H enc)
/-- THE STATEMENT -/
theorem letterChecks_holds : Rows.LetterChecksSaid := letterChecks_over
end Go.Proofs.Ytlhedbjjlomniaa
