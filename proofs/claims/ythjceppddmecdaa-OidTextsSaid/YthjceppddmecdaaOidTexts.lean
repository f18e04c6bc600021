/- OidTexts: for all texts the law answers true. No condition. -/
import Derived.Test.YthjceppddmecdaaParse
set_option linter.unusedSimpArgs false
set_option linter.unusedVariables false
namespace Go.Proofs.Ythjceppddmecdaa
open Go.RowKit
attribute [local go_sem] extract_mid extract_drop bget bsize wrap64_u8 i64_u8 u64_u8 bappend
theorem parse_back {F : List SProp} (x : List UInt8) (hx : x.length = 32) (w : World) (hM : Star F w) :
    Calls Try.prog 38 #[.string ⟨(textOf x).toArray⟩] w fun r w' => r = .returned (.tuple #[.agg (bvs x).toArray, .int .i64 0]) ∧ Star F w' :=
  (parse_star (textOf x) w hM).mono fun _ _ ⟨z, e, hz, h, hr, hM⟩ => by
    rcases h with ⟨rfl, ht⟩ | ⟨_, _, hno⟩
    · rw [textOf_inj hz hx ht] at hr
      exact ⟨hr, hM⟩
    · exact absurd rfl (hno x hx)
set_option maxRecDepth 100000 in
set_option maxHeartbeats 4000000 in
theorem oidTexts_walk {F : List SProp} (a0 : List UInt8) (_w0 : a0.length ≤ 9223372036854775807) (b0 : List UInt8) (_w1 : b0.length ≤ 9223372036854775807) (w : World) (hM : Star F w) :
    Calls Try.prog 12 #[.string ⟨a0.toArray⟩, .string ⟨b0.toArray⟩] w fun r w' => r = .returned (.bool true) ∧ Star F w' := by
  have hX := idOf_len a0
  have HN := Lib.hid (name_any a0)
  generalize idOf a0 = x at hX HN
  have HX := Lib.hid hX
  have HT : Hid (∀ {L : List SProp} (w : World), Star L w → Calls Try.prog 37 #[.agg (bvs x).toArray] w fun r w' => r = .returned (.string ⟨(textOf x).toArray⟩) ∧ Star L w') := fun w hM => text_star x HX.out w hM
  have HP : Hid (∀ {L : List SProp} (w : World), Star L w → Calls Try.prog 38 #[.string ⟨(textOf x).toArray⟩] w fun r w' => r = .returned (.tuple #[.agg (bvs x).toArray, .int .i64 0]) ∧ Star L w') := fun w hM => parse_back x HX.out w hM
  have HR : Hid (∀ {L : List SProp} (w : World), Star L w → Calls Try.prog 39 #[.string ⟨x.toArray⟩] w fun r w' => r = .returned (.string ⟨(textOf x).toArray⟩) ∧ Star L w') := fun w hM => rText_star x HX.out w hM
  generalize textOf x = t at HT HP HR
  clear hX
  have tok1 : True := trivial
  go_enter Try.func12, Try.ntmps12
  go_wp2_with (first | (go_at_call 13; have hM0 := hM; clear hM; (first | (with_reducible refine (star0 (HN.out _) hM0).mono ?_) | fail); clear hM0; rintro _ w ⟨rfl, hM⟩) | (first | (have hM0 := hM; clear hM; refine BigFrame.wpList_want (by rfl) fun K hK => ws_alloc hM0 (t := 23) rfl (bvs z32).toArray info_id (fun g3 w hM => hK _ _ ?_); clear hM0 hK K) | fail) | (first | (have hM0 := hM; clear hM; refine BigFrame.wpList_want (by rfl) fun K hK => ws_store hM0 rfl rfl rfl (by (repeat (first | (with_reducible exact Take.head) | apply Take.tail)); first | done | fail) (n := 32) (by first | (simp [bvs_len, HX.out]; done) | (simp [bvs_len, hz]; done) | (simp [bvs_len, z32_len]; done)) (by simp [bvs_len, z32_len]) (by kernel_rfl) (by simpa using bvs_oneCell _) (fun w hM => hK _ _ ?_); clear hM0 hK K) | fail) | (first | (refine BigFrame.wpList_want (by rfl) fun K hK => ws_load hM rfl rfl (by (repeat (first | assumption | (with_reducible exact List.mem_cons_self) | apply List.mem_cons_of_mem)); first | done | fail) (n := 32) (by first | (simp [bvs_len, HX.out]; done) | (simp [bvs_len, hz]; done) | (simp [bvs_len, z32_len]; done)) (by decide +kernel) (hK _ _ ?_); clear hK K) | fail) | (go_at_call 37; have hM0 := hM; clear hM; (first | (with_reducible refine (HT.out _ hM0).mono ?_) | fail); clear hM0; rintro _ w ⟨rfl, hM⟩) | (go_at_call 38; have hM0 := hM; clear hM; (first | (with_reducible refine (HP.out _ hM0).mono ?_) | fail); clear hM0; rintro _ w ⟨rfl, hM⟩) | (go_at_call 15; have hM0 := hM; clear hM; (first | (with_reducible refine (awake02 _ hM0).mono ?_) | fail); clear hM0; rintro _ w ⟨rfl, hM⟩) | (go_at_call 14; have hM0 := hM; clear hM; (first | (with_reducible refine (obytes_star x HX.out _ hM0).mono ?_) | fail); clear hM0; rintro _ w ⟨rfl, hM⟩) | (go_at_call 39; have hM0 := hM; clear hM; (first | (with_reducible refine (HR.out _ hM0).mono ?_) | fail); clear hM0; rintro _ w ⟨rfl, hM⟩) | (go_at_call 38; have hM0 := hM; clear hM; (first | (with_reducible refine (parse_star b0 _ hM0).mono ?_) | fail); clear hM0; rintro _ w ⟨z, e, hz, (⟨rfl, ht⟩ | ⟨rfl, rfl, hno⟩), rfl, hM⟩) | (refine BigFrame.wpList_want (by rfl) fun K hK => ws_of_ex (ex_neq_arr rfl rfl rfl Try.underlying23 Try.underlying5 (by kernel_rfl) HX.out HX.out (by kernel_rfl) (b := false) (by simp)) (hK _ _ ?_); clear hK K) | (go_at_call 37; have hM0 := hM; clear hM; (first | (with_reducible refine ((ht ▸ text_star z hz _ hM0)).mono ?_) | fail); clear hM0; rintro _ w ⟨rfl, hM⟩) | (refine BigFrame.wpList_want (by rfl) fun K hK => ws_build (parts := #[]) rfl (.agg (bvs z32).toArray) (by as_aux_lemma => kernel_rfl) (hK _ _ ?_); clear hK K) | (refine BigFrame.wpList_want (by rfl) fun K hK => ws_of_ex (ex_eql_arr rfl rfl rfl Try.underlying23 Try.underlying5 (by kernel_rfl) z32_len z32_len (by kernel_rfl) (b := true) (by simp)) (hK _ _ ?_); clear hK K))
  all_goals
    go_ret
    exact ⟨rfl, hM.sel (by repeat (first | (with_reducible exact Sel.refl) | (with_reducible exact Take.head) | (with_reducible apply Take.tail) | (with_reducible apply Sel.cons) | (with_reducible apply Sel.drop)))⟩
end Go.Proofs.Ythjceppddmecdaa
