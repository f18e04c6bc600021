/- The statement LetterReads, from its walk. No condition but those that each theorem names. -/
import Derived.Test.YtlhedbjjlomniaaLt1
import Derived.Test.YtlhedbjjlomniaaLt14
set_option linter.unusedSimpArgs false
set_option linter.unusedVariables false
namespace Go.Proofs.Ytlhedbjjlomniaa
open Go.RowKit
attribute [local go_sem] extract_mid extract_drop bget bsize wrap64_u8 i64_u8 u64_u8 bappend
/-- What a letter that was read must be. -/
theorem parse_good (s : List UInt8) : ((parseL s).1 = noL ∧ (parseL s).2 ≠ 0) ∨ ((parseL s).2 = 0 ∧ checkL (parseL s).1 = 0 ∧ (parseL s).1.id = (rawL (parseL s).1).id ∧ (hasName (parseL s).1.k = true → (parseL s).1.id.length = 32)) := by
  unfold parseL
  by_cases h1 : 1024 < s.length
  · rw [if_pos h1]; exact .inl ⟨rfl, by decide⟩
  rw [if_neg h1]
  by_cases h2 : s.take 2 ≠ [99, 118]
  · rw [if_pos h2]; exact .inl ⟨rfl, by decide⟩
  rw [if_neg h2]
  rcases hq : pLtr (s.drop 2) 0 with ⟨l, u, e⟩
  simp only
  by_cases h3 : (mClose u e).2 ≠ 0
  · rw [if_pos h3]; exact .inl ⟨rfl, h3⟩
  rw [if_neg h3]
  by_cases h4 : checkL l ≠ 0
  · rw [if_pos h4]; exact .inl ⟨rfl, h4⟩
  rw [if_neg h4]
  have hu : e = 0 := by
    have h5 : (mClose u e).2 = 0 := by simpa using h3
    unfold mClose mFail at h5
    by_cases hu : u = []
    · rw [if_pos hu] at h5; exact h5
    · rw [if_neg hu] at h5
      split at h5
      · simp at h5
      · rename_i he; exact absurd h5 he
  subst hu
  refine .inr ⟨rfl, by simpa using h4, ?_⟩
  unfold pLtr at hq
  obtain ⟨k, m1, a1, hq⟩ := Par.bind_ok (fun _ => by repeat' first | exact Stay.ret _ | exact stay_int _ | exact stay_list | exact stay_bytes _ | exact stay_str _ | refine Stay.bind ?_ fun _ => ?_ | refine Stay.ite ?_ ?_) hq
  obtain ⟨f, m2, a2, hq⟩ := Par.bind_ok (fun _ => by repeat' first | exact Stay.ret _ | exact stay_int _ | exact stay_list | exact stay_bytes _ | exact stay_str _ | refine Stay.bind ?_ fun _ => ?_ | refine Stay.ite ?_ ?_) hq
  obtain ⟨t, m3, a3, hq⟩ := Par.bind_ok (fun _ => by repeat' first | exact Stay.ret _ | exact stay_int _ | exact stay_list | exact stay_bytes _ | exact stay_str _ | refine Stay.bind ?_ fun _ => ?_ | refine Stay.ite ?_ ?_) hq
  obtain ⟨q, m4, a4, hq⟩ := Par.bind_ok (fun _ => by repeat' first | exact Stay.ret _ | exact stay_int _ | exact stay_list | exact stay_bytes _ | exact stay_str _ | refine Stay.bind ?_ fun _ => ?_ | refine Stay.ite ?_ ?_) hq
  obtain ⟨id, m5, a5, hq⟩ := Par.bind_ok (fun _ => by repeat' first | exact Stay.ret _ | exact stay_int _ | exact stay_list | exact stay_bytes _ | exact stay_str _ | refine Stay.bind ?_ fun _ => ?_ | refine Stay.ite ?_ ?_) hq
  obtain ⟨wh, m6, a6, hq⟩ := Par.bind_ok (fun _ => by repeat' first | exact Stay.ret _ | exact stay_int _ | exact stay_list | exact stay_bytes _ | exact stay_str _ | refine Stay.bind ?_ fun _ => ?_ | refine Stay.ite ?_ ?_) hq
  obtain ⟨x, m7, a7, hq⟩ := Par.bind_ok (fun _ => by repeat' first | exact Stay.ret _ | exact stay_int _ | exact stay_list | exact stay_bytes _ | exact stay_str _ | refine Stay.bind ?_ fun _ => ?_ | refine Stay.ite ?_ ?_) hq
  obtain ⟨ps, m8, a8, hq⟩ := Par.bind_ok (fun _ => by repeat' first | exact Stay.ret _ | exact stay_int _ | exact stay_list | exact stay_bytes _ | exact stay_str _ | refine Stay.bind ?_ fun _ => ?_ | refine Stay.ite ?_ ?_) hq
  obtain ⟨hs', m9, a9, hq⟩ := Par.bind_ok (fun _ => Stay.ret _) hq
  simp only [Par.ret, Prod.mk.injEq] at hq
  obtain ⟨rfl, rfl, _⟩ := hq
  simp only [rawL]
  by_cases hn : hasName k = true
  · rw [if_pos hn] at a5
    have := (iBytes a5).2
    refine ⟨by rw [if_pos hn], fun _ => by omega⟩
  · rw [if_neg hn] at a5
    simp only [Par.ret, Prod.mk.injEq] at a5
    refine ⟨by rw [if_neg hn, a5.1], fun h => absurd h hn⟩
theorem parse_fit {s : List UInt8} (h : (parseL s).2 = 0) : bytesL { (parseL s).1 with id := idOf (parseL s).1.id } = s := by
  have h1 := parse_one h
  rcases parse_good s with ⟨_, h2⟩ | ⟨_, _, _, h4⟩
  · exact absurd h h2
  · refine Eq.trans ?_ h1
    unfold bytesL
    simp only
    by_cases hn : hasName (parseL s).1.k = true
    · rw [idOf_full (h4 hn)]
    · rw [if_neg hn, if_neg hn]
theorem parse_id (s : List UInt8) : (parseL s).1.id = idOf (parseL s).1.id ∨ ((parseL s).1.id = [] ∧ idOf (parseL s).1.id = z32) := by
  rcases parse_good s with ⟨h, _⟩ | ⟨_, _, h3, h4⟩
  · rw [h]; exact .inr ⟨rfl, idOf_nil⟩
  · by_cases hn : hasName (parseL s).1.k = true
    · exact .inl (idOf_full (h4 hn)).symm
    · have h5 : (parseL s).1.id = [] := by rw [h3]; unfold rawL; simp only; rw [if_neg hn]
      exact .inr ⟨h5, by rw [h5, idOf_nil]⟩
theorem parse_lens (s : List UInt8) : (parseL s).1.ps.length ≤ 8 ∧ (parseL s).1.hs.length ≤ 8 := by
  rcases parse_good s with ⟨h, _⟩ | ⟨_, h2, _, _⟩
  · rw [h]; simp [noL]
  · have := checkL_ok h2
    exact ⟨this.ps, this.hs⟩
set_option maxRecDepth 100000 in
set_option maxHeartbeats 8000000 in
theorem letterReads_walk {F : List SProp} (l : List UInt8) (hl : l.length ≤ 9223372036854775807) (w : World) (hM : Star F w) :
    Calls Try.prog 4 #[.string ⟨l.toArray⟩] w fun r w' => r = .returned (.bool true) ∧ Star F w' := by
  have HC := cut_any l 1100 (by omega)
  have hsl := cutP_len l 1100 (by omega)
  generalize cutP l 1100 = s at HC hsl
  have HP := fun (L : List SProp) (w : World) (hM : Star L w) => parse_star s (by omega) w hM
  have HR := fun (L : List SProp) (w : World) (hM : Star L w) => rparse_star s (by omega) w hM
  have hg := parse_good s
  have hf := @parse_fit s
  have hi := parse_id s
  have hlen := parse_lens s
  unfold PP at HP
  unfold RP at HR
  generalize parseL s = Z at HP HR hg hf hi hlen
  obtain ⟨⟨k, f, t, q, mid, wh, x, ps, hs⟩, e⟩ := Z
  simp only at HP HR hg hf hi hlen
  have hid := idOf_len mid
  have HS : ∀ (A : Option Addr) (c : Nat) (B : Option Addr) (d : Nat) (A' : Option Addr) (c' : Nat) (B' : Option Addr) (d' : Nat) (L : List SProp) (w : World), Star L w → rowE 1 A ps.length (ivs ps) ∈ L → rowE 1 B hs.length (ivs hs) ∈ L → rowE 1 A' ps.length (ivs ps) ∈ L → rowE 1 B' hs.length (ivs hs) ∈ L →
      Calls Try.prog 21 #[.agg (ltC k f t q (idOf mid) wh x A ps.length c B hs.length d), .agg (rtC k f t q mid wh x A' ps.length c' B' hs.length d')] w fun r w' => r = .returned (.bool true) ∧ Star L w' :=
    fun A c B d A' c' B' d' L w hM h1 h2 h3 h4 => is_star k f t q (idOf mid) mid hid hi wh x A ps _ c B hs _ d A' c' B' d' (by omega) (by omega) w hM h1 h2 h3 h4
  have HB : e = 0 → ∀ (A : Option Addr) (c : Nat) (B : Option Addr) (d : Nat) (L : List SProp) (w : World), Star L w → rowE 1 A ps.length (ivs ps) ∈ L → rowE 1 B hs.length (ivs hs) ∈ L →
      Calls Try.prog 18 #[.agg (ltC k f t q (idOf mid) wh x A ps.length c B hs.length d)] w fun r w' => r = .returned (.string ⟨s.toArray⟩) ∧ Star L w' := fun he A c B d L w hM h1 h2 => by
    have ho : Okay ⟨k, f, t, q, mid, wh, x, ps, hs⟩ := by
      rcases hg with ⟨_, h⟩ | ⟨_, h, _⟩
      · exact absurd he h
      · exact checkL_ok h
    obtain ⟨o1, o2, o3, o4, o5, o6, o7, o8, o9, o10, o11, o12, o13, o14, o15, o16⟩ := ho
    simp only at o1 o2 o3 o4 o5 o6 o7 o8 o9 o13 o14 o15 o16
    have a3 := addr_iff.1 o3
    have a4 := addr_iff.1 o4
    have hwb : i63 wh := by
      rcases hw : hasWhat k with _ | _
      · rw [o14 hw]; decide
      · have := o13 hw; show wh ≤ _; omega
    have := lbytes_star k f t q (idOf mid) hid wh x A ps _ c B hs _ d (by show k ≤ _; omega) (by show f ≤ _; omega) (by show t ≤ _; omega) (by show q ≤ _; omega) hwb (fun n hn => by have := addr_iff.1 (o15 n hn); show n ≤ _; omega) (fun n hn => by have := addr_iff.1 (o16 n hn); show n ≤ _; omega) (by omega) (by omega) (by omega) w hM h1 h2
    rwa [hf he] at this
  clear hg hf hi hlen
  have HI := Lib.hid hid
  clear hid
  replace HC := Lib.hid HC
  replace HP := Lib.hid HP
  replace HR := Lib.hid HR
  replace HS := Lib.hid HS
  have tok1 : True := trivial
  by_cases he : e = 0
  · subst he
    replace HB := Lib.hid (HB rfl)
    go_enter Try.func4, Try.ntmps4
    go_wp2_with (first | (have _t := tok1; (first | ((with_reducible refine at_alloc' ?_); (have hM0 := hM; clear hM; refine BigFrame.wpList_want (by rfl) fun K hK => ws_alloc hM0 (t := 26) rfl (ltC 0 0 0 0 z32 0 [] none 0 0 none 0 0) info_lt (fun g3 w hM => hK _ _ ?_); clear hM0 hK K)) | fail); clear tok1) | (first | ((with_reducible refine at_alloc' ?_); (have hM0 := hM; clear hM; refine BigFrame.wpList_want (by rfl) fun K hK => ws_alloc hM0 (t := 29) rfl (rtC 0 0 0 0 [] 0 [] none 0 0 none 0 0) info_rt0 (fun g5 w hM => hK _ _ ?_); clear hM0 hK K)) | fail) | (first | ((with_reducible refine at_load' ?_); (refine BigFrame.wpList_want (by rfl) fun K hK => ws_load hM rfl rfl (by (repeat (first | assumption | (with_reducible exact List.mem_cons_self) | apply List.mem_cons_of_mem)); first | done | fail) (n := 40) (by exact ltC_size HI.out) (by decide +kernel) (hK _ _ ?_); clear hK K)) | fail) | (first | ((with_reducible refine at_load' ?_); (refine BigFrame.wpList_want (by rfl) fun K hK => ws_load hM rfl rfl (by (repeat (first | assumption | (with_reducible exact List.mem_cons_self) | apply List.mem_cons_of_mem)); first | done | fail) (n := 9) (by rfl) (by decide +kernel) (hK _ _ ?_); clear hK K)) | fail) | (first | ((with_reducible refine at_store' ?_); (have hM0 := hM; clear hM; refine BigFrame.wpList_want (by rfl) fun K hK => ws_store hM0 rfl rfl rfl (by (repeat (first | (with_reducible exact Take.head) | apply Take.tail)); first | done | fail) (n := 40) (by exact ltC_size (by first | exact z32_len | exact HI.out)) (by exact ltC_size (by first | exact z32_len | exact HI.out)) (by kernel_rfl) (by exact ltC_one) (fun w hM => hK _ _ ?_); clear hM0 hK K)) | fail) | (first | ((with_reducible refine at_store' ?_); (have hM0 := hM; clear hM; refine BigFrame.wpList_want (by rfl) fun K hK => ws_store hM0 rfl rfl rfl (by (repeat (first | (with_reducible exact Take.head) | apply Take.tail)); first | done | fail) (n := 9) (by rfl) (by rfl) (by kernel_rfl) (by simp [Value.oneCell']) (fun w hM => hK _ _ ?_); clear hM0 hK K)) | fail) | (go_at_call 22; have hM0 := hM; clear hM; (first | (with_reducible refine (starq (HC.out _) hM0).mono ?_) | fail); clear hM0; rintro _ w ⟨rfl, hM⟩) | (go_at_call 19; have hM0 := hM; clear hM; (first | (with_reducible refine (HP.out _ _ hM0).mono ?_) | fail); clear hM0; rintro _ w ⟨A, c, B, d, rfl, hM⟩) | (go_at_call 23; have hM0 := hM; clear hM; (first | (with_reducible refine (HR.out _ _ hM0).mono ?_) | fail); clear hM0; rintro _ w ⟨A', c', B', d', rfl, hM⟩) | (go_at_call 16; have hM0 := hM; clear hM; (first | (with_reducible refine (awake17 _ hM0).mono ?_) | fail); clear hM0; rintro _ w ⟨rfl, hM⟩) | (go_at_call 21; have hM0 := hM; clear hM; (first | (with_reducible refine (HS.out _ _ _ _ _ _ _ _ _ _ hM0 (by (repeat (first | assumption | (with_reducible exact List.mem_cons_self) | apply List.mem_cons_of_mem)); first | done | fail) (by (repeat (first | assumption | (with_reducible exact List.mem_cons_self) | apply List.mem_cons_of_mem)); first | done | fail) (by (repeat (first | assumption | (with_reducible exact List.mem_cons_self) | apply List.mem_cons_of_mem)); first | done | fail) (by (repeat (first | assumption | (with_reducible exact List.mem_cons_self) | apply List.mem_cons_of_mem)); first | done | fail)).mono ?_) | fail); clear hM0; rintro _ w ⟨rfl, hM⟩) | (go_at_call 18; have hM0 := hM; clear hM; (first | (with_reducible refine (HB.out _ _ _ _ _ _ hM0 (by (repeat (first | assumption | (with_reducible exact List.mem_cons_self) | apply List.mem_cons_of_mem)); first | done | fail) (by (repeat (first | assumption | (with_reducible exact List.mem_cons_self) | apply List.mem_cons_of_mem)); first | done | fail)).mono ?_) | fail); clear hM0; rintro _ w ⟨rfl, hM⟩))
    go_ret
    exact ⟨rfl, hM.sel (by repeat (first | (with_reducible exact Sel.refl) | (with_reducible exact Take.head) | (with_reducible apply Take.tail) | (with_reducible apply Sel.cons) | (with_reducible apply Sel.drop)))⟩
  · clear HB
    have hc1 : (e == 0) = false := by simpa using he
    have hc2 : (e != 0) = true := by simpa using he
    clear he
    go_enter Try.func4, Try.ntmps4
    go_wp2_with (first | (have _t := tok1; (first | ((with_reducible refine at_alloc' ?_); (have hM0 := hM; clear hM; refine BigFrame.wpList_want (by rfl) fun K hK => ws_alloc hM0 (t := 26) rfl (ltC 0 0 0 0 z32 0 [] none 0 0 none 0 0) info_lt (fun g3 w hM => hK _ _ ?_); clear hM0 hK K)) | fail); clear tok1) | (first | ((with_reducible refine at_alloc' ?_); (have hM0 := hM; clear hM; refine BigFrame.wpList_want (by rfl) fun K hK => ws_alloc hM0 (t := 29) rfl (rtC 0 0 0 0 [] 0 [] none 0 0 none 0 0) info_rt0 (fun g5 w hM => hK _ _ ?_); clear hM0 hK K)) | fail) | (first | ((with_reducible refine at_load' ?_); (refine BigFrame.wpList_want (by rfl) fun K hK => ws_load hM rfl rfl (by (repeat (first | assumption | (with_reducible exact List.mem_cons_self) | apply List.mem_cons_of_mem)); first | done | fail) (n := 40) (by exact ltC_size HI.out) (by decide +kernel) (hK _ _ ?_); clear hK K)) | fail) | (first | ((with_reducible refine at_load' ?_); (refine BigFrame.wpList_want (by rfl) fun K hK => ws_load hM rfl rfl (by (repeat (first | assumption | (with_reducible exact List.mem_cons_self) | apply List.mem_cons_of_mem)); first | done | fail) (n := 9) (by rfl) (by decide +kernel) (hK _ _ ?_); clear hK K)) | fail) | (first | ((with_reducible refine at_store' ?_); (have hM0 := hM; clear hM; refine BigFrame.wpList_want (by rfl) fun K hK => ws_store hM0 rfl rfl rfl (by (repeat (first | (with_reducible exact Take.head) | apply Take.tail)); first | done | fail) (n := 40) (by exact ltC_size (by first | exact z32_len | exact HI.out)) (by exact ltC_size (by first | exact z32_len | exact HI.out)) (by kernel_rfl) (by exact ltC_one) (fun w hM => hK _ _ ?_); clear hM0 hK K)) | fail) | (first | ((with_reducible refine at_store' ?_); (have hM0 := hM; clear hM; refine BigFrame.wpList_want (by rfl) fun K hK => ws_store hM0 rfl rfl rfl (by (repeat (first | (with_reducible exact Take.head) | apply Take.tail)); first | done | fail) (n := 9) (by rfl) (by rfl) (by kernel_rfl) (by simp [Value.oneCell']) (fun w hM => hK _ _ ?_); clear hM0 hK K)) | fail) | (go_at_call 22; have hM0 := hM; clear hM; (first | (with_reducible refine (starq (HC.out _) hM0).mono ?_) | fail); clear hM0; rintro _ w ⟨rfl, hM⟩) | (go_at_call 19; have hM0 := hM; clear hM; (first | (with_reducible refine (HP.out _ _ hM0).mono ?_) | fail); clear hM0; rintro _ w ⟨A, c, B, d, rfl, hM⟩) | (go_at_call 23; have hM0 := hM; clear hM; (first | (with_reducible refine (HR.out _ _ hM0).mono ?_) | fail); clear hM0; rintro _ w ⟨A', c', B', d', rfl, hM⟩) | (go_at_call 16; have hM0 := hM; clear hM; (first | (with_reducible refine (awake17 _ hM0).mono ?_) | fail); clear hM0; rintro _ w ⟨rfl, hM⟩) | (go_at_call 21; have hM0 := hM; clear hM; (first | (with_reducible refine (HS.out _ _ _ _ _ _ _ _ _ _ hM0 (by (repeat (first | assumption | (with_reducible exact List.mem_cons_self) | apply List.mem_cons_of_mem)); first | done | fail) (by (repeat (first | assumption | (with_reducible exact List.mem_cons_self) | apply List.mem_cons_of_mem)); first | done | fail) (by (repeat (first | assumption | (with_reducible exact List.mem_cons_self) | apply List.mem_cons_of_mem)); first | done | fail) (by (repeat (first | assumption | (with_reducible exact List.mem_cons_self) | apply List.mem_cons_of_mem)); first | done | fail)).mono ?_) | fail); clear hM0; rintro _ w ⟨rfl, hM⟩))
    go_ret
    exact ⟨rfl, hM.sel (by repeat (first | (with_reducible exact Sel.refl) | (with_reducible exact Take.head) | (with_reducible apply Take.tail) | (with_reducible apply Sel.cons) | (with_reducible apply Sel.drop)))⟩
end Go.Proofs.Ytlhedbjjlomniaa
set_option linter.unusedSimpArgs false
set_option linter.unusedVariables false
namespace Go.Proofs.Ytlhedbjjlomniaa
open Go.RowKit Go.WideShapes Go.ChangeShapes Go.ChangeAt
theorem letterReads_law (l0 : List UInt8) (w0 : l0.length ≤ 9223372036854775807) (W : World)  :
    Calls Try.prog 4 #[.string ⟨l0.toArray⟩] W fun r w' => r = .returned (.bool true) ∧ Ch [] W w' :=
  (letterReads_walk l0 w0 W (Star.start W) ).mono fun _ _ ⟨h1, h2⟩ => ⟨h1, h2.old (by (repeat (first | assumption | (with_reducible exact List.mem_cons_self) | apply List.mem_cons_of_mem)); first | done | fail)⟩
theorem letterReads_own : ownKnob Try.prog.godebug = none := by kernel_rfl
set_option maxRecDepth 100000 in
theorem letterReads_lifted (os : Os) (started : os.Started) (H : Type) (enc : TypeId × Value → H) :
    ReturnsInHanded {} Try.checked os 4 .any (Rows.letterReadsSpec.pre6 enc Try.prog Try.f4 Rows.letterReadsRow.domain false) (Rows.letterReadsSpec.post enc Try.prog Try.f4 false true false false) := by
  refine returnsInHanded_of_change (C := Try.checked) letterReads_own started (by kernel_rfl) Try.func4
    (ChangeSpec.witness6 (enc := enc) (C := Try.checked) false ⟨#[], #[.string ByteArray.empty], []⟩ 8 (by kernel_rfl) (by kernel_rfl) (by kernel_rfl) (by kernel_rfl)) ?_
  intro W base args ds gs before hval0 hW hcnd _
  have hval : ∀ (j : Nat) t v, Try.f4.params[j]? = some t → args[j]? = some v → Value.okWide Try.prog W .any base t v := hval0
  have hW' := hW
  obtain ⟨p, q, hA0, hV, rfl, hfz, hnd⟩ := hW
  have hA : DataW.TrodAll enc Try.prog W 0 (fun _ => true) true Try.f4.params.toList args.toList ds p := hA0
  have hA1 := hA
  rw [Try.params4] at hA hval
  obtain ⟨v0, vs0, d0, ds0, p0, q0, hargs, rfl, rfl, h0, r0⟩ := trodAll_cons hA
  obtain ⟨rfl, rfl, rfl⟩ := trodAll_nil r0
  obtain rfl : args = #[v0] := by cases args; simp_all
  obtain ⟨rfl, rfl⟩ := trodVars_none hV
  obtain ⟨l0, rfl, w0⟩ := open_str Try.underlying9 (hval 0 9 v0 rfl rfl) h0
  clear hA0 hval0
  refine (letterReads_law l0 w0 W).mono fun e W' ⟨he, hg⟩ => ?_
  subst he
  have hlt := fun x hx => hW'.lt x hx
  exact ⟨_, rfl, post_of_below hW' (fun _ _ _ => (trodAll_cons_mk (shut_bool Try.underlying4 _) trodAll_mk0))
    (fun sp hsp => args_stay (by kernel_rfl) hg.below sp _ _ _ _ (by kernel_rfl) hA1 (fun x hx => hlt x (List.mem_append.2 (.inl hx))) (fun x hx => hsp x (List.mem_append.2 (.inl hx)))) (fun _ _ => rfl) rfl
    hg.below (ok_one (by kernel_rfl) rfl (okWide_bool_mk Try.underlying4 _))⟩
theorem letterReads_over : Rows.letterReadsRow.holds Try.pinned (OpenSpec.ofChange Rows.letterReadsSpec) :=
  OpenClaim.holds_of_wide 4 Try.f4 rfl rfl rfl rfl rfl rfl rfl ⟨rfl, rfl, rfl, rfl, rfl⟩ rfl rfl rfl rfl rfl (by kernel_rfl) Try.func4 (by kernel_rfl)
    (of_decide_eq_true (by kernel_rfl)) (by unfold Func.isWrapper; first | (rw [if_pos (by decide +kernel)]; kernel_rfl) | (rw [if_neg (by decide +kernel)]; exact ⟨rfl, rfl⟩))
    (fun os started H enc _ => letterReads_lifted os started H enc)
/-- THE STATEMENT -/
theorem letterReads_holds : Rows.LetterReadsSaid := letterReads_over
end Go.Proofs.Ytlhedbjjlomniaa
