/- The statement LetterReplies, from its walk. No condition but those that each theorem names. -/
import Derived.Test.YtlhedbjjlomniaaLt1
import Derived.Test.YtlhedbjjlomniaaLt14
set_option linter.unusedSimpArgs false
set_option linter.unusedVariables false
namespace Go.Proofs.Ytlhedbjjlomniaa
open Go.RowKit
attribute [local go_sem] extract_mid extract_drop bget bsize wrap64_u8 i64_u8 u64_u8 bappend
theorem kind_in (n : Int) (h1 : -9223372036854775808 ≤ n) (h2 : n ≤ 9223372036854775807) : ∃ r1 : Int, n.tmod 10 = r1 ∧ -10 < r1 ∧ r1 < 10 ∧ ∃ j : Int, (r1 + 10).tmod 10 = j ∧ 0 ≤ j ∧ j < 10 := by
  obtain ⟨r1, a, b, c, j, d, e⟩ := rem_in n 10 (by omega)
  exact ⟨r1, a, by omega, by omega, j, d, by omega, by omega⟩
set_option maxRecDepth 100000 in
set_option maxHeartbeats 8000000 in
theorem letterReplies_core {F : List SProp} {k f t q : Int} {id : List UInt8} {wh : Int} {x y : List UInt8} {A : Option Addr} {n0 n c : Nat} {ps : List Int} {B : Option Addr} {m0 m d : Nat} {hs : List Int} (h : FewL k f t q id wh y ps n hs m) (N : Int) (y1 : -9223372036854775808 ≤ N) (y2 : N ≤ 9223372036854775807)
    (HF : Hid (∀ (L : List SProp) (w : World), Star L w → Calls Try.prog 13 #[.agg (ltC k f t q id wh x A n0 c B m0 d)] w fun r w' => r = .returned (.agg (ltC k f t q id wh y A n c B m d)) ∧ Star L w'))
    (w : World) (hM : Star F w) (h1 : rowE 1 A n (ivs ps) ∈ F) (h2 : rowE 1 B m (ivs hs) ∈ F) :
    Calls Try.prog 5 #[.agg (ltC k f t q id wh x A n0 c B m0 d), .int .i64 N] w fun r w' => r = .returned (.bool true) ∧ Star F w' := by
  have HI := Lib.hid h.gid
  have hid := h.gid
  have HC := h.check A c B d
  by_cases hc : checkL ⟨k, f, t, q, id, wh, y, ps, hs⟩ = 0
  · rw [hc] at HC
    clear h hc
    obtain ⟨r1, hr1, b1, b2, j, hr2, hj0, hj⟩ := kind_in N y1 y2
    have HR := fun (L : List SProp) (w : World) (hM : Star L w) => reply_star k f t q id hid wh y A n c B m d (1 + j) w hM
    have HN := rName_any (1 + j)
    have HW := rWhat_any (1 + j)
    have HR1 := Lib.hid hr1
    have HR2 := Lib.hid hr2
    have HA1 : Hid (IntKind.i64.wrap (r1 + 10) = r1 + 10) := by show _ = _; exact IntWalk.i64_in _ (by omega)
    have HA2 : Hid (IntKind.i64.wrap (1 + j) = 1 + j) := by show _ = _; exact IntWalk.i64_in _ (by omega)
    clear hr1 hr2 hid
    replace HC := Lib.hid HC
    generalize hasName (1 + j) = bn at HR HN
    generalize hasWhat (1 + j) = bw at HR HW
    rcases bn with _ | _ <;> rcases bw with _ | _
    all_goals
      simp only [if_true, Bool.false_eq_true, if_false] at HR
      replace HR := Lib.hid HR
      replace HN := Lib.hid HN
      replace HW := Lib.hid HW
      go_enter Try.func5, Try.ntmps5
      go_wp2_with (first | (first | ((with_reducible refine at_box' ?_); (have hM0 := hM; clear hM; refine BigFrame.wpList_want (by rfl) fun K hK => ws_box hM0 rfl rfl (cs := ltC k f t q id wh x A n0 c B m0 d) rfl (fun gx w hM => hK _ _ ?_); clear hM0 hK K)) | fail) | (first | ((with_reducible refine at_load' ?_); (refine BigFrame.wpList_want (by rfl) fun K hK => ws_load1 hM rfl rfl (by (repeat (first | assumption | (with_reducible exact List.mem_cons_self) | apply List.mem_cons_of_mem)); first | done | fail) (by with_reducible (first | exact ltC_0 | exact ltC_1 | exact ltC_2 | exact ltC_3 | exact ltC_36 (by first | exact HI.out | exact z32_len) | exact ltC_37 (by first | exact HI.out | exact z32_len) | exact ltC_38 (by first | exact HI.out | exact z32_len) | exact ltC_39 (by first | exact HI.out | exact z32_len))) (by decide +kernel) (hK _ _ ?_); clear hK K)) | fail) | ((with_reducible refine at_load' ?_); refine BigFrame.wpList_want (by rfl) fun K hK => ws_load_mid hM rfl rfl (by (repeat (first | assumption | (with_reducible exact List.mem_cons_self) | apply List.mem_cons_of_mem)); first | done | fail) (bvs _) (fun j v hj => ltC_id j v hj) (n := 32) (by rw [bvs_len]; exact (by first | exact HI.out | exact z32_len)) (by decide +kernel) (hK _ _ ?_); clear hK K) | (first | ((with_reducible refine at_load' ?_); (refine BigFrame.wpList_want (by rfl) fun K hK => ws_load hM rfl rfl (by (repeat (first | assumption | (with_reducible exact List.mem_cons_self) | apply List.mem_cons_of_mem)); first | done | fail) (n := 40) (by exact ltC_size (by first | exact HI.out | exact z32_len)) (by decide +kernel) (hK _ _ ?_); clear hK K)) | fail) | (first | ((with_reducible refine at_store' ?_); (have hM0 := hM; clear hM; refine BigFrame.wpList_want (by rfl) fun K hK => ws_store hM0 rfl rfl rfl (by (repeat (first | (with_reducible exact Take.head) | apply Take.tail)); first | done | fail) (n := 40) (by exact ltC_size (by first | exact HI.out | exact z32_len)) (by exact ltC_size (by first | exact HI.out | exact z32_len)) (by kernel_rfl) (by exact ltC_one) (fun w hM => hK _ _ ?_); clear hM0 hK K)) | fail) | (go_at_call 13; have hM0 := hM; clear hM; (first | (with_reducible refine (HF.out _ _ hM0).mono ?_) | fail); clear hM0; rintro _ w ⟨rfl, hM⟩) | (go_at_call 15; have hM0 := hM; clear hM; (first | (with_reducible refine (HC.out _ _ hM0 (by (repeat (first | assumption | (with_reducible exact List.mem_cons_self) | apply List.mem_cons_of_mem)); first | done | fail) (by (repeat (first | assumption | (with_reducible exact List.mem_cons_self) | apply List.mem_cons_of_mem)); first | done | fail)).mono ?_) | fail); clear hM0; rintro _ w ⟨rfl, hM⟩) | (go_at_call 16; have hM0 := hM; clear hM; (first | (with_reducible refine (awake17 _ hM0).mono ?_) | fail); clear hM0; rintro _ w ⟨rfl, hM⟩) | (first | ((with_reducible refine at_alloc' ?_); (have hM0 := hM; clear hM; refine BigFrame.wpList_want (by rfl) fun K hK => ws_alloc hM0 (t := 26) rfl (ltC 0 0 0 0 z32 0 [] none 0 0 none 0 0) info_lt (fun g5 w hM => hK _ _ ?_); clear hM0 hK K)) | fail) | ((with_reducible refine at_bin' (op := .rem) ?_); refine BigFrame.wpList_want (by rfl) fun K hK => ws_of_ex (ex_rem rfl rfl rfl (by decide) (by first | exact HR1.out | exact HR2.out)) (hK _ _ ?_); clear hK K) | ((with_reducible refine at_bin' (op := .add) (x := .tmp 17) ?_); refine BigFrame.wpList_want (by rfl) fun K hK => ws_of_ex (ex_add rfl rfl rfl HA1.out) (hK _ _ ?_); clear hK K) | ((with_reducible refine at_bin' (op := .add) (y := .tmp 19) ?_); refine BigFrame.wpList_want (by rfl) fun K hK => ws_of_ex (ex_add rfl rfl rfl HA2.out) (hK _ _ ?_); clear hK K) | ((with_reducible refine at_build' ?_); refine BigFrame.wpList_want (by rfl) fun K hK => ws_build (parts := #[]) rfl (.agg (bvs z32).toArray) (by as_aux_lemma => kernel_rfl) (hK _ _ ?_); clear hK K) | ((with_reducible refine at_bin' (op := .neq) ?_); refine BigFrame.wpList_want (by rfl) fun K hK => ws_of_ex (ex_neq_arr (b := false) rfl rfl rfl Try.underlying23 Try.underlying5 (by kernel_rfl) (by first | exact HI.out | exact z32_len) (by first | exact HI.out | exact z32_len) (by kernel_rfl) (by rw [decide_eq_true rfl]; rfl)) (hK _ _ ?_); clear hK K) | (go_at_call 24; have hM0 := hM; clear hM; (first | (with_reducible refine (HR.out _ _ hM0).mono ?_) | fail); clear hM0; rintro _ w ⟨rfl, hM⟩) | (go_at_call 25; have hM0 := hM; clear hM; (first | (with_reducible refine (starq (HN.out _) hM0).mono ?_) | fail); clear hM0; rintro _ w ⟨rfl, hM⟩) | (go_at_call 26; have hM0 := hM; clear hM; (first | (with_reducible refine (starq (HW.out _) hM0).mono ?_) | fail); clear hM0; rintro _ w ⟨rfl, hM⟩))
      go_ret
      exact ⟨rfl, hM.sel (by repeat (first | (with_reducible exact Sel.refl) | (with_reducible exact Take.head) | (with_reducible apply Take.tail) | (with_reducible apply Sel.cons) | (with_reducible apply Sel.drop)))⟩
  · generalize checkL ⟨k, f, t, q, id, wh, y, ps, hs⟩ = cv at HC hc
    replace HC := Lib.hid HC
    have hc1 : (cv == 0) = false := by simpa using hc
    have hc2 : (cv != 0) = true := by simpa using hc
    clear h hid
    go_enter Try.func5, Try.ntmps5
    go_wp2_with (first | (first | ((with_reducible refine at_box' ?_); (have hM0 := hM; clear hM; refine BigFrame.wpList_want (by rfl) fun K hK => ws_box hM0 rfl rfl (cs := ltC k f t q id wh x A n0 c B m0 d) rfl (fun gx w hM => hK _ _ ?_); clear hM0 hK K)) | fail) | (first | ((with_reducible refine at_load' ?_); (refine BigFrame.wpList_want (by rfl) fun K hK => ws_load1 hM rfl rfl (by (repeat (first | assumption | (with_reducible exact List.mem_cons_self) | apply List.mem_cons_of_mem)); first | done | fail) (by with_reducible (first | exact ltC_0 | exact ltC_1 | exact ltC_2 | exact ltC_3 | exact ltC_36 (by first | exact HI.out | exact z32_len) | exact ltC_37 (by first | exact HI.out | exact z32_len) | exact ltC_38 (by first | exact HI.out | exact z32_len) | exact ltC_39 (by first | exact HI.out | exact z32_len))) (by decide +kernel) (hK _ _ ?_); clear hK K)) | fail) | ((with_reducible refine at_load' ?_); refine BigFrame.wpList_want (by rfl) fun K hK => ws_load_mid hM rfl rfl (by (repeat (first | assumption | (with_reducible exact List.mem_cons_self) | apply List.mem_cons_of_mem)); first | done | fail) (bvs _) (fun j v hj => ltC_id j v hj) (n := 32) (by rw [bvs_len]; exact (by first | exact HI.out | exact z32_len)) (by decide +kernel) (hK _ _ ?_); clear hK K) | (first | ((with_reducible refine at_load' ?_); (refine BigFrame.wpList_want (by rfl) fun K hK => ws_load hM rfl rfl (by (repeat (first | assumption | (with_reducible exact List.mem_cons_self) | apply List.mem_cons_of_mem)); first | done | fail) (n := 40) (by exact ltC_size (by first | exact HI.out | exact z32_len)) (by decide +kernel) (hK _ _ ?_); clear hK K)) | fail) | (first | ((with_reducible refine at_store' ?_); (have hM0 := hM; clear hM; refine BigFrame.wpList_want (by rfl) fun K hK => ws_store hM0 rfl rfl rfl (by (repeat (first | (with_reducible exact Take.head) | apply Take.tail)); first | done | fail) (n := 40) (by exact ltC_size (by first | exact HI.out | exact z32_len)) (by exact ltC_size (by first | exact HI.out | exact z32_len)) (by kernel_rfl) (by exact ltC_one) (fun w hM => hK _ _ ?_); clear hM0 hK K)) | fail) | (go_at_call 13; have hM0 := hM; clear hM; (first | (with_reducible refine (HF.out _ _ hM0).mono ?_) | fail); clear hM0; rintro _ w ⟨rfl, hM⟩) | (go_at_call 15; have hM0 := hM; clear hM; (first | (with_reducible refine (HC.out _ _ hM0 (by (repeat (first | assumption | (with_reducible exact List.mem_cons_self) | apply List.mem_cons_of_mem)); first | done | fail) (by (repeat (first | assumption | (with_reducible exact List.mem_cons_self) | apply List.mem_cons_of_mem)); first | done | fail)).mono ?_) | fail); clear hM0; rintro _ w ⟨rfl, hM⟩) | (go_at_call 16; have hM0 := hM; clear hM; (first | (with_reducible refine (awake17 _ hM0).mono ?_) | fail); clear hM0; rintro _ w ⟨rfl, hM⟩))
    go_ret
    exact ⟨rfl, hM.sel (by repeat (first | (with_reducible exact Sel.refl) | (with_reducible exact Take.head) | (with_reducible apply Take.tail) | (with_reducible apply Sel.cons) | (with_reducible apply Sel.drop)))⟩
theorem letterReplies_walk {F : List SProp} (a : LA) (o : a.ok) (N : Int) (y1 : -9223372036854775808 ≤ N) (y2 : N ≤ 9223372036854775807) (w : World) (hM : Star F w) (h1 : rowE 1 a.A a.n (ivs a.ps) ∈ F) (h2 : rowE 1 a.B a.m (ivs a.hs) ∈ F) :
    Calls Try.prog 5 #[.agg a.cs, .int .i64 N] w fun r w' => r = .returned (.bool true) ∧ Star F w' := by
  obtain ⟨n', m', ps', hs', y, hfl, hM2, hfew⟩ := few_la o hM h1 h2
  exact (letterReplies_core hfl N y1 y2 (Lib.hid hfew) w hM2 (by (repeat (first | assumption | (with_reducible exact List.mem_cons_self) | apply List.mem_cons_of_mem)); first | done | fail) (by (repeat (first | assumption | (with_reducible exact List.mem_cons_self) | apply List.mem_cons_of_mem)); first | done | fail)).mono fun _ _ ⟨h1, h2⟩ => ⟨h1, h2.sel (by repeat (first | (with_reducible exact Sel.refl) | (with_reducible exact Take.head) | (with_reducible apply Take.tail) | (with_reducible apply Sel.cons) | (with_reducible apply Sel.drop)))⟩
end Go.Proofs.Ytlhedbjjlomniaa
set_option linter.unusedSimpArgs false
set_option linter.unusedVariables false
namespace Go.Proofs.Ytlhedbjjlomniaa
open Go.RowKit Go.WideShapes Go.ChangeShapes Go.ChangeAt
theorem letterReplies_law (l0 : LA) (o0 : l0.ok) (l1 : Int) (w1 : -9223372036854775808 ≤ l1) (y1 : l1 ≤ 9223372036854775807) (W : World) (w0 : Rd W 1 l0.A l0.n (ivs l0.ps)) (u0 : Rd W 1 l0.B l0.m (ivs l0.hs)) :
    Calls Try.prog 5 #[.agg l0.cs, .int .i64 l1] W fun r w' => r = .returned (.bool true) ∧ Ch [] W w' :=
  (letterReplies_walk l0 o0 l1 w1 y1 W (((Star.start W).of_old (by (repeat (first | assumption | (with_reducible exact List.mem_cons_self) | apply List.mem_cons_of_mem)); first | done | fail) w0).of_old (by (repeat (first | assumption | (with_reducible exact List.mem_cons_self) | apply List.mem_cons_of_mem)); first | done | fail) u0) (by (repeat (first | assumption | (with_reducible exact List.mem_cons_self) | apply List.mem_cons_of_mem)); first | done | fail) (by (repeat (first | assumption | (with_reducible exact List.mem_cons_self) | apply List.mem_cons_of_mem)); first | done | fail)).mono fun _ _ ⟨h1, h2⟩ => ⟨h1, h2.old (by (repeat (first | assumption | (with_reducible exact List.mem_cons_self) | apply List.mem_cons_of_mem)); first | done | fail)⟩
theorem letterReplies_own : ownKnob Try.prog.godebug = none := by kernel_rfl
set_option maxRecDepth 100000 in
theorem letterReplies_lifted (os : Os) (started : os.Started) (H : Type) (enc : TypeId × Value → H) :
    ReturnsInHanded {} Try.checked os 5 .any (Rows.letterRepliesSpec.pre6 enc Try.prog Try.f5 Rows.letterRepliesRow.domain false) (Rows.letterRepliesSpec.post enc Try.prog Try.f5 false true false false) := by
  refine returnsInHanded_of_change (C := Try.checked) letterReplies_own started (by kernel_rfl) Try.func5
    (ChangeSpec.witness6 (enc := enc) (C := Try.checked) false ⟨#[], #[.agg (#[.int .i64 0, .int .i64 0, .int .i64 0, .int .i64 0] ++ Array.replicate 32 (.int .u8 0) ++ #[.int .i64 0, .string ByteArray.empty, .slice none 0 0, .slice none 0 0]), .int .i64 0], []⟩ 8 (by kernel_rfl) (by kernel_rfl) (by kernel_rfl) (by kernel_rfl)) ?_
  intro W base args ds gs before hval0 hW hcnd _
  have hval : ∀ (j : Nat) t v, Try.f5.params[j]? = some t → args[j]? = some v → Value.okWide Try.prog W .any base t v := hval0
  have hW' := hW
  obtain ⟨p, q, hA0, hV, rfl, hfz, hnd⟩ := hW
  have hA : DataW.TrodAll enc Try.prog W 0 (fun _ => true) true Try.f5.params.toList args.toList ds p := hA0
  have hA1 := hA
  rw [Try.params5] at hA hval
  obtain ⟨v0, vs0, d0, ds0, p0, q0, hargs, rfl, rfl, h0, r0⟩ := trodAll_cons hA
  obtain ⟨v1, vs1, d1, ds1, p1, q1, rfl, rfl, rfl, h1, r1⟩ := trodAll_cons r0
  obtain ⟨rfl, rfl, rfl⟩ := trodAll_nil r1
  obtain rfl : args = #[v0, v1] := by cases args; simp_all
  obtain ⟨rfl, rfl⟩ := trodVars_none hV
  obtain ⟨l0, rfl, o0, w0, u0⟩ := open_la (hval 0 26 v0 rfl rfl) h0
  obtain ⟨l1, rfl, w1, y1⟩ := open_i64 Try.underlying3 (hval 1 3 v1 rfl rfl) h1
  clear hA0 hval0
  refine (letterReplies_law l0 o0 l1 w1 y1 W w0 u0).mono fun e W' ⟨he, hg⟩ => ?_
  subst he
  have hlt := fun x hx => hW'.lt x hx
  exact ⟨_, rfl, post_of_below hW' (fun _ _ _ => (trodAll_cons_mk (shut_bool Try.underlying4 _) trodAll_mk0))
    (fun sp hsp => args_stay (by kernel_rfl) hg.below sp _ _ _ _ (by kernel_rfl) hA1 (fun x hx => hlt x (List.mem_append.2 (.inl hx))) (fun x hx => hsp x (List.mem_append.2 (.inl hx)))) (fun _ _ => rfl) rfl
    hg.below (ok_one (by kernel_rfl) rfl (okWide_bool_mk Try.underlying4 _))⟩
theorem letterReplies_over : Rows.letterRepliesRow.holds Try.pinned (OpenSpec.ofChange Rows.letterRepliesSpec) :=
  OpenClaim.holds_of_wide 5 Try.f5 rfl rfl rfl rfl rfl rfl rfl ⟨rfl, rfl, rfl, rfl, rfl⟩ rfl rfl rfl rfl rfl (by kernel_rfl) Try.func5 (by kernel_rfl)
    (of_decide_eq_true (by kernel_rfl)) (by unfold Func.isWrapper; first | (rw [if_pos (by decide +kernel)]; kernel_rfl) | (rw [if_neg (by decide +kernel)]; exact ⟨rfl, rfl⟩))
    (fun os started H enc _ => letterReplies_lifted os started H enc)
/-- THE STATEMENT -/
theorem letterReplies_holds : Rows.LetterRepliesSaid := letterReplies_over
end Go.Proofs.Ytlhedbjjlomniaa
