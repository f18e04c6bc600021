/- The statement MerkleReads, from its walk. No condition but those that each theorem names. -/
import Derived.Test.YtlhedbjjlomniaaM1
import Derived.Test.YtlhedbjjlomniaaM7
import Derived.Test.YtlhedbjjlomniaaM8
set_option linter.unusedSimpArgs false
set_option linter.unusedVariables false
namespace Go.Proofs.Ytlhedbjjlomniaa
open Go.RowKit
attribute [local go_sem] extract_mid extract_drop bget bsize wrap64_u8 i64_u8 u64_u8 bappend
theorem parseN_lv (s : List UInt8) : (parseN s).1.2.length ≤ 8 ∧ (parseN s).1.1 ≤ 8 := by
  rcases parseN_good s with ⟨h, _⟩ | ⟨_, h, _, _⟩
  · rw [h]; simp [noN]
  · have := checkN_ok h
    omega
set_option maxRecDepth 100000 in
set_option maxHeartbeats 8000000 in
theorem merkleReads_walk {F : List SProp} (l : List UInt8) (hl : l.length ≤ 9223372036854775807) (w : World) (hM : Star F w) :
    Calls Try.prog 8 #[.string ⟨l.toArray⟩] w fun r w' => r = .returned (.bool true) ∧ Star F w' := by
  have HC := cut_any l 400 (by omega)
  have hsl := cutP_len l 400 (by omega)
  generalize cutP l 400 = s at HC hsl
  have HP := fun (L : List SProp) (w : World) (hM : Star L w) => nparse_star s (by omega) w hM
  have HR := fun (L : List SProp) (w : World) (hM : Star L w) => rnparse_star s (by omega) w hM
  have hg := parseN_good s
  have hlen := parseN_lv s
  unfold PN at HP
  unfold RN at HR
  generalize parseN s = Z at HP HR hg hlen
  obtain ⟨⟨lv, ps⟩, e⟩ := Z
  simp only at HP HR hg hlen
  have h32 : ok32 ps := by
    rcases hg with ⟨h, _⟩ | ⟨_, _, _, h⟩
    · injection h with _ h; subst h; intro p hp; cases hp
    · exact fun p hp => (h p hp).1
  have HS : ∀ (A : Option Addr) (c : Nat) (B : Option Addr) (d : Nat) (L : List SProp) (w : World), Star L w → rowE 33 A ps.length (pvs ps) ∈ L → rowE 2 B ps.length (qvs ps) ∈ L →
      Calls Try.prog 31 #[.agg (ndC lv A ps.length c), .agg (ndC lv B ps.length d)] w fun r w' => r = .returned (.bool true) ∧ Star L w' :=
    fun A c B d L w hM h1 h2 => is09_star lv ps h32 A ps.length c B d (by omega) w hM h1 h2
  have HB : e = 0 → ∀ (A : Option Addr) (c : Nat) (L : List SProp) (w : World), Star L w → rowE 33 A ps.length (pvs ps) ∈ L →
      Calls Try.prog 32 #[.agg (ndC lv A ps.length c)] w fun r w' => r = .returned (.string ⟨s.toArray⟩) ∧ Star L w' := fun he A c L w hM h1 => by
    rcases hg with ⟨_, h⟩ | ⟨_, _, ht, hp⟩
    · exact absurd he h
    · have := ntext_star lv A ps.length c ps h32 (by omega) (fun p hp2 => by have := hp p hp2; omega) (by omega) w hM h1
      rwa [ht] at this
  clear hg hlen
  replace HC := Lib.hid HC
  replace HP := Lib.hid HP
  replace HR := Lib.hid HR
  replace HS := Lib.hid HS
  have tok1 : True := trivial
  by_cases he : e = 0
  · subst he
    replace HB := Lib.hid (HB rfl)
    go_enter Try.func8, Try.ntmps8
    go_wp2_with (first | (have _t := tok1; (first | ((with_reducible refine at_alloc' ?_); (have hM0 := hM; clear hM; refine BigFrame.wpList_want (by rfl) fun K hK => ws_alloc hM0 (t := 52) rfl (ndC 0 none 0 0) info_nd (fun g3 w hM => hK _ _ ?_); clear hM0 hK K)) | fail); clear tok1) | (first | ((with_reducible refine at_alloc' ?_); (have hM0 := hM; clear hM; refine BigFrame.wpList_want (by rfl) fun K hK => ws_alloc hM0 (t := 57) rfl (ndC 0 none 0 0) info_rnd (fun g5 w hM => hK _ _ ?_); clear hM0 hK K)) | fail) | (first | ((with_reducible refine at_load' ?_); (refine BigFrame.wpList_want (by rfl) fun K hK => ws_load hM rfl rfl (by (repeat (first | assumption | (with_reducible exact List.mem_cons_self) | apply List.mem_cons_of_mem)); first | done | fail) (n := 2) (by rfl) (by decide +kernel) (hK _ _ ?_); clear hK K)) | fail) | (first | ((with_reducible refine at_store' ?_); (have hM0 := hM; clear hM; refine BigFrame.wpList_want (by rfl) fun K hK => ws_store hM0 rfl rfl rfl (by (repeat (first | (with_reducible exact Take.head) | apply Take.tail)); first | done | fail) (n := 2) (by rfl) (by rfl) (by kernel_rfl) (by simp [Value.oneCell']) (fun w hM => hK _ _ ?_); clear hM0 hK K)) | fail) | (go_at_call 22; have hM0 := hM; clear hM; (first | (with_reducible refine (starq (HC.out _) hM0).mono ?_) | fail); clear hM0; rintro _ w ⟨rfl, hM⟩) | (go_at_call 28; have hM0 := hM; clear hM; (first | (with_reducible refine (HP.out _ _ hM0).mono ?_) | fail); clear hM0; rintro _ w ⟨A, c, rfl, hM⟩) | (go_at_call 29; have hM0 := hM; clear hM; (first | (with_reducible refine (HR.out _ _ hM0).mono ?_) | fail); clear hM0; rintro _ w ⟨B, d, rfl, hM⟩) | (go_at_call 30; have hM0 := hM; clear hM; (first | (with_reducible refine (awake09 _ hM0).mono ?_) | fail); clear hM0; rintro _ w ⟨rfl, hM⟩) | (go_at_call 31; have hM0 := hM; clear hM; (first | (with_reducible refine (HS.out _ _ _ _ _ _ hM0 (by (repeat (first | assumption | (with_reducible exact List.mem_cons_self) | apply List.mem_cons_of_mem)); first | done | fail) (by (repeat (first | assumption | (with_reducible exact List.mem_cons_self) | apply List.mem_cons_of_mem)); first | done | fail)).mono ?_) | fail); clear hM0; rintro _ w ⟨rfl, hM⟩) | (go_at_call 32; have hM0 := hM; clear hM; (first | (with_reducible refine (HB.out _ _ _ _ hM0 (by (repeat (first | assumption | (with_reducible exact List.mem_cons_self) | apply List.mem_cons_of_mem)); first | done | fail)).mono ?_) | fail); clear hM0; rintro _ w ⟨rfl, hM⟩))
    go_ret
    exact ⟨rfl, hM.sel (by repeat (first | (with_reducible exact Sel.refl) | (with_reducible exact Take.head) | (with_reducible apply Take.tail) | (with_reducible apply Sel.cons) | (with_reducible apply Sel.drop)))⟩
  · clear HB
    have hc1 : (e == 0) = false := by simpa using he
    have hc2 : (e != 0) = true := by simpa using he
    clear he
    go_enter Try.func8, Try.ntmps8
    go_wp2_with (first | (have _t := tok1; (first | ((with_reducible refine at_alloc' ?_); (have hM0 := hM; clear hM; refine BigFrame.wpList_want (by rfl) fun K hK => ws_alloc hM0 (t := 52) rfl (ndC 0 none 0 0) info_nd (fun g3 w hM => hK _ _ ?_); clear hM0 hK K)) | fail); clear tok1) | (first | ((with_reducible refine at_alloc' ?_); (have hM0 := hM; clear hM; refine BigFrame.wpList_want (by rfl) fun K hK => ws_alloc hM0 (t := 57) rfl (ndC 0 none 0 0) info_rnd (fun g5 w hM => hK _ _ ?_); clear hM0 hK K)) | fail) | (first | ((with_reducible refine at_load' ?_); (refine BigFrame.wpList_want (by rfl) fun K hK => ws_load hM rfl rfl (by (repeat (first | assumption | (with_reducible exact List.mem_cons_self) | apply List.mem_cons_of_mem)); first | done | fail) (n := 2) (by rfl) (by decide +kernel) (hK _ _ ?_); clear hK K)) | fail) | (first | ((with_reducible refine at_store' ?_); (have hM0 := hM; clear hM; refine BigFrame.wpList_want (by rfl) fun K hK => ws_store hM0 rfl rfl rfl (by (repeat (first | (with_reducible exact Take.head) | apply Take.tail)); first | done | fail) (n := 2) (by rfl) (by rfl) (by kernel_rfl) (by simp [Value.oneCell']) (fun w hM => hK _ _ ?_); clear hM0 hK K)) | fail) | (go_at_call 22; have hM0 := hM; clear hM; (first | (with_reducible refine (starq (HC.out _) hM0).mono ?_) | fail); clear hM0; rintro _ w ⟨rfl, hM⟩) | (go_at_call 28; have hM0 := hM; clear hM; (first | (with_reducible refine (HP.out _ _ hM0).mono ?_) | fail); clear hM0; rintro _ w ⟨A, c, rfl, hM⟩) | (go_at_call 29; have hM0 := hM; clear hM; (first | (with_reducible refine (HR.out _ _ hM0).mono ?_) | fail); clear hM0; rintro _ w ⟨B, d, rfl, hM⟩) | (go_at_call 30; have hM0 := hM; clear hM; (first | (with_reducible refine (awake09 _ hM0).mono ?_) | fail); clear hM0; rintro _ w ⟨rfl, hM⟩) | (go_at_call 31; have hM0 := hM; clear hM; (first | (with_reducible refine (HS.out _ _ _ _ _ _ hM0 (by (repeat (first | assumption | (with_reducible exact List.mem_cons_self) | apply List.mem_cons_of_mem)); first | done | fail) (by (repeat (first | assumption | (with_reducible exact List.mem_cons_self) | apply List.mem_cons_of_mem)); first | done | fail)).mono ?_) | fail); clear hM0; rintro _ w ⟨rfl, hM⟩))
    go_ret
    exact ⟨rfl, hM.sel (by repeat (first | (with_reducible exact Sel.refl) | (with_reducible exact Take.head) | (with_reducible apply Take.tail) | (with_reducible apply Sel.cons) | (with_reducible apply Sel.drop)))⟩
end Go.Proofs.Ytlhedbjjlomniaa
set_option linter.unusedSimpArgs false
set_option linter.unusedVariables false
namespace Go.Proofs.Ytlhedbjjlomniaa
open Go.RowKit Go.WideShapes Go.ChangeShapes Go.ChangeAt
theorem merkleReads_law (l0 : List UInt8) (w0 : l0.length ≤ 9223372036854775807) (W : World)  :
    Calls Try.prog 8 #[.string ⟨l0.toArray⟩] W fun r w' => r = .returned (.bool true) ∧ Ch [] W w' :=
  (merkleReads_walk l0 w0 W (Star.start W) ).mono fun _ _ ⟨h1, h2⟩ => ⟨h1, h2.old (by (repeat (first | assumption | (with_reducible exact List.mem_cons_self) | apply List.mem_cons_of_mem)); first | done | fail)⟩
theorem merkleReads_own : ownKnob Try.prog.godebug = none := by kernel_rfl
set_option maxRecDepth 100000 in
theorem merkleReads_lifted (os : Os) (started : os.Started) (H : Type) (enc : TypeId × Value → H) :
    ReturnsInHanded {} Try.checked os 8 .any (Rows.merkleReadsSpec.pre6 enc Try.prog Try.f8 Rows.merkleReadsRow.domain false) (Rows.merkleReadsSpec.post enc Try.prog Try.f8 false true false false) := by
  refine returnsInHanded_of_change (C := Try.checked) merkleReads_own started (by kernel_rfl) Try.func8
    (ChangeSpec.witness6 (enc := enc) (C := Try.checked) false ⟨#[], #[.string ByteArray.empty], []⟩ 8 (by kernel_rfl) (by kernel_rfl) (by kernel_rfl) (by kernel_rfl)) ?_
  intro W base args ds gs before hval0 hW hcnd _
  have hval : ∀ (j : Nat) t v, Try.f8.params[j]? = some t → args[j]? = some v → Value.okWide Try.prog W .any base t v := hval0
  have hW' := hW
  obtain ⟨p, q, hA0, hV, rfl, hfz, hnd⟩ := hW
  have hA : DataW.TrodAll enc Try.prog W 0 (fun _ => true) true Try.f8.params.toList args.toList ds p := hA0
  have hA1 := hA
  rw [Try.params8] at hA hval
  obtain ⟨v0, vs0, d0, ds0, p0, q0, hargs, rfl, rfl, h0, r0⟩ := trodAll_cons hA
  obtain ⟨rfl, rfl, rfl⟩ := trodAll_nil r0
  obtain rfl : args = #[v0] := by cases args; simp_all
  obtain ⟨rfl, rfl⟩ := trodVars_none hV
  obtain ⟨l0, rfl, w0⟩ := open_str Try.underlying9 (hval 0 9 v0 rfl rfl) h0
  clear hA0 hval0
  refine (merkleReads_law l0 w0 W).mono fun e W' ⟨he, hg⟩ => ?_
  subst he
  have hlt := fun x hx => hW'.lt x hx
  exact ⟨_, rfl, post_of_below hW' (fun _ _ _ => (trodAll_cons_mk (shut_bool Try.underlying4 _) trodAll_mk0))
    (fun sp hsp => args_stay (by kernel_rfl) hg.below sp _ _ _ _ (by kernel_rfl) hA1 (fun x hx => hlt x (List.mem_append.2 (.inl hx))) (fun x hx => hsp x (List.mem_append.2 (.inl hx)))) (fun _ _ => rfl) rfl
    hg.below (ok_one (by kernel_rfl) rfl (okWide_bool_mk Try.underlying4 _))⟩
theorem merkleReads_over : Rows.merkleReadsRow.holds Try.pinned (OpenSpec.ofChange Rows.merkleReadsSpec) :=
  OpenClaim.holds_of_wide 8 Try.f8 rfl rfl rfl rfl rfl rfl rfl ⟨rfl, rfl, rfl, rfl, rfl⟩ rfl rfl rfl rfl rfl (by kernel_rfl) Try.func8 (by kernel_rfl)
    (of_decide_eq_true (by kernel_rfl)) (by unfold Func.isWrapper; first | (rw [if_pos (by decide +kernel)]; kernel_rfl) | (rw [if_neg (by decide +kernel)]; exact ⟨rfl, rfl⟩))
    (fun os started H enc _ => merkleReads_lifted os started H enc)
/-- THE STATEMENT -/
theorem merkleReads_holds : Rows.MerkleReadsSaid := merkleReads_over
end Go.Proofs.Ytlhedbjjlomniaa
