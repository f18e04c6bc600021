/- What the laws share, part 16 (DpY, DpZ). No condition but those that each theorem names. -/
import Derived.Test.YtnckgkgilnmocaaDep15
set_option linter.unusedSimpArgs false
set_option linter.unusedVariables false
namespace Go.Proofs.Ytnckgkgilnmocaa
open Go.RowKit
attribute [local go_sem] extract_mid extract_drop bget bsize wrap64_u8 i64_u8 u64_u8 bappend
theorem onm_a : onm 1 [97] ≠ z32 := by decide +kernel
theorem onm_y : onm 1 [121] ≠ onm 2 [121] := by decide +kernel
theorem build_z (w : World) : (Instr.build idT #[]).run Try.prog w = .ok (.agg (bvs z32).toArray) w := by kernel_rfl
theorem putL_aa : putL [] [[97], [97]] = [[97]] := by simp [putL, putS]
section
variable {F L R : List SProp}
set_option maxRecDepth 100000 in
set_option maxHeartbeats 16000000 in
theorem awake13 (w : World) (hM : Star F w) : Calls Try.prog 24 #[] w fun r w' => r = .returned (.bool true) ∧ Star F w' := by
  have HNEW : Hid (∀ (L : List SProp) (w : World), Star L w → Calls Try.prog 25 #[.int .i64 40] w fun r w' => ∃ (B : BA) (d gm : Nat) (D : Dsk), Hid (Live 40 D 19 1 0 []) ∧ r = .returned (.tuple #[dptr B.a, bptr d]) ∧ Star (dpE B d gm D 19 [] :: L) w') := fun L w hM => new_13 40 19 (by omega) (by omega) (by omega) w hM
  have HMK : Hid (∀ (L : List SProp) (w : World), Star L w → Calls Try.prog 35 #[.int .i64 1, .string ⟨#[97]⟩] w fun r w' => r = .returned (.agg (ocs (mo [97])).toArray) ∧ Star L w') := fun L w hM => make_star 1 1 rfl [97] (by decide) w hM
  have HPUT : Hid (∀ (B : BA) (d gm g : Nat) (D : Dsk), Hid (Live 40 D 19 1 0 []) → ∀ (L R : List SProp) (w : World), Star L w → Take (dpE B d gm D 19 []) L R → rowE 34 (some ⟨g, 0, none⟩) 2 (ovs [mo [97], mo [97]]) ∈ R → Calls Try.prog 28 #[bptr d, .slice (some ⟨g, 0, none⟩) 2 2] w fun r w' => ∃ D', Hid (Live 40 D' 19 1 0 (recs [[97]])) ∧ r = .returned (.int .i64 0) ∧ Star (dpE B d gm D' 19 [[97]] :: R) w') := fun B d gm g D V L R w hM hd hr => by
    have := put_d (c := 2) (ts := []) (xs := [[97], [97]]) V (fun x hx => by simp at hx; subst hx; decide) (by decide) (by decide) w hM hd hr
    rwa [putL_aa] at this
  have HGET : Hid (∀ (B : BA) (d gm : Nat) (D : Dsk), Hid (Live 40 D 19 1 0 (recs [[97]])) → ∀ (L R : List SProp) (w : World), Star L w → Take (dpE B d gm D 19 [[97]]) L R → Calls Try.prog 53 #[bptr d, .agg (bvs (onm 1 [97])).toArray] w fun r w' => ∃ D', Hid (Live 40 D' 19 1 0 (recs [[97]])) ∧ r = .returned (.tuple #[.agg (ocs (mo [97])).toArray, .int .i64 0]) ∧ Star (dpE B d gm D' 19 [[97]] :: R) w') := fun B d gm D V L R w hM hd => by
    refine (get_p (x := []) V (fun x hx => by simp at hx; subst hx; decide) (n := onm 1 [97]) (by simp) w hM hd).mono ?_
    rintro r w' ⟨D', x, V', hx, e, hM⟩
    obtain rfl : x = [97] := by simpa using hx.out.1
    exact ⟨D', V', e, hM⟩
  have HLI : Hid (∀ (B : BA) (d gm : Nat) (D : Dsk) (L R : List SProp) (w : World), Star L w → Take (dpE B d gm D 19 [[97]]) L R → Calls Try.prog 29 #[bptr d] w fun r w' => ∃ A c, r = .returned (.slice A 1 c) ∧ Star (dpE B d gm D 19 [[97]] :: R) w') := fun B d gm D L R w hM hd => by
    refine (list_u (by decide) w hM hd).mono ?_
    rintro r w' ⟨A, c, xs, -, e, hM⟩
    exact ⟨A, c, e, hM.sel (.drop .refl)⟩
  have ht1 : tot (recs [[97]]) = 1 := by decide +kernel
  have HLF : Hid (∀ (B : BA) (d gm : Nat) (D : Dsk), Hid (Live 40 D 19 1 0 (recs [[97]])) → ∀ (L R : List SProp) (w : World), Star L w → Take (dpE B d gm D 19 [[97]]) L R → Calls Try.prog 20 #[bptr B.b] w fun r w' => r = .returned (.int .i64 18) ∧ Star (dpE B d gm D 19 [[97]] :: R) w') := fun B d gm D V L R w hM hd => by
    have := left_p V w hM hd
    rwa [ht1] at this
  have HH1 : Hid (∀ (B : BA) (d gm g : Nat) (D : Dsk) (L R : List SProp) (w : World), Star L w → Take (dpE B d gm D 19 [[97]]) L R → rowE 32 (some ⟨g, 0, none⟩) 1 (idvs [onm 1 [97]]) ∈ R → Calls Try.prog 33 #[bptr d, .slice (some ⟨g, 0, none⟩) 1 1] w fun r w' => r = .returned (.bool true) ∧ Star (dpE B d gm D 19 [[97]] :: R) w') := fun B d gm g D L R w hM hd hr => by
    refine (has_u (xs := [onm 1 [97]]) (fun y hy => by rw [List.mem_singleton.1 hy]; exact onm_len _ _) (by omega) w hM hd hr).mono ?_
    rintro r w' ⟨rfl, hM⟩
    exact ⟨by simp, hM⟩
  have HH2 : Hid (∀ (B : BA) (d gm g : Nat) (D : Dsk) (L R : List SProp) (w : World), Star L w → Take (dpE B d gm D 19 [[97]]) L R → rowE 32 (some ⟨g, 0, none⟩) 2 (idvs [onm 1 [97], z32]) ∈ R → Calls Try.prog 33 #[bptr d, .slice (some ⟨g, 0, none⟩) 2 2] w fun r w' => r = .returned (.bool false) ∧ Star (dpE B d gm D 19 [[97]] :: R) w') := fun B d gm g D L R w hM hd hr => by
    refine (has_u (xs := [onm 1 [97], z32]) (fun y hy => by
      simp only [List.mem_cons, List.not_mem_nil, or_false] at hy
      rcases hy with rfl | rfl
      · exact onm_len _ _
      · exact z32_len) (by omega) w hM hd hr).mono ?_
    rintro r w' ⟨rfl, hM⟩
    exact ⟨by simp [onm_a.symm], hM⟩
  have HIL := Lib.hid (onm_len 1 [97])
  have HSZ : Hid ((ocs (mo [97])).length = 34) := ocs_len HIL.out
  have H33 : Hid ((ocs (mo [97])).toArray[33]? = some (.string ⟨#[97]⟩)) := ocs_33 (o := mo [97]) HIL.out
  have HID : Hid (∀ j v, (bvs (onm 1 [97]))[j]? = some v → (ocs (mo [97])).toArray[1 + j]? = some v) := ocs_id (mo [97])
  have HOS : Hid ((ocs (mo [97])).toArray.size = 34) := ocs_sz HIL.out
  have HO1 : Hid (∀ v ∈ (ocs (mo [97])).toArray.toList, v.oneCell' = true) := ocs_oneA _
  have HOS0 : Hid ((ocs (0, z32, [])).toArray.size = 34) := ocs_sz oz32
  obtain ⟨oo, hoo⟩ : ∃ o : Ob, o = mo [97] := ⟨_, rfl⟩
  rw [← hoo] at HMK HPUT HGET HSZ H33 HID HOS HO1
  generalize onm 1 [97] = id at HGET HH1 HH2 HIL HID
  clear ht1 hoo
  have tok1 : True := trivial
  have tok2 : True := trivial
  go_enter Try.func24, Try.ntmps24
  go_wp2_with (first | (go_at_call 25; have hM0 := hM; clear hM; (first | (with_reducible refine (HNEW.out _ _ hM0).mono ?_) | fail); clear hM0; rintro _ w ⟨B, d, gm, D0, h0, rfl, hM⟩) | (go_at_call 35; have hM0 := hM; clear hM; (first | (with_reducible refine (HMK.out _ _ hM0).mono ?_) | fail); clear hM0; rintro _ w ⟨rfl, hM⟩) | (have _t := tok1; (first | ((with_reducible refine at_alloc' ?_); (have hM0 := hM; clear hM; refine BigFrame.wpList_want (by rfl) fun K hK => ws_alloc hM0 (t := 75) rfl (ocs (0, z32, [])).toArray info_ob (fun g3 w hM => hK _ _ ?_); clear hM0 hK K)) | fail); clear tok1) | (have _t := tok2; (first | ((with_reducible refine at_alloc' ?_); (have hM0 := hM; clear hM; refine BigFrame.wpList_want (by rfl) fun K hK => ws_alloc hM0 (t := 75) rfl (ocs (0, z32, [])).toArray info_ob (fun g5 w hM => hK _ _ ?_); clear hM0 hK K)) | fail); clear tok2) | (first | ((with_reducible refine at_store' ?_); (have hM0 := hM; clear hM; refine BigFrame.wpList_want (by rfl) fun K hK => ws_store hM0 rfl rfl rfl (by (repeat (first | (with_reducible exact Take.head) | apply Take.tail)); first | done | fail) (n := 34) (by exact HOS.out) (by exact HOS0.out) (by kernel_rfl) (by exact HO1.out) (fun w hM => hK _ _ ?_); clear hM0 hK K)) | fail) | (first | ((with_reducible refine at_load' ?_); (refine BigFrame.wpList_want (by rfl) fun K hK => ws_load hM rfl rfl (by (repeat (first | assumption | (with_reducible exact mZ) | apply mS)); first | done | fail) (n := 34) (by exact HOS.out) (by decide +kernel) (hK _ _ ?_); clear hK K)) | fail) | (first | ((with_reducible refine at_slice' ?_); (have hM0 := hM; clear hM; refine BigFrame.wpList_want (by rfl) fun K hK => ws_slice_row hM0 (n := 2) rfl 75 34 (.agg (ocs (0, z32, [])).toArray) [.agg (ocs oo).toArray, .agg (ocs oo).toArray] Try.underlying63 (by kernel_rfl) rfl (by simp [Value.cells, iv, sv, bv, HSZ.out]) (by rfl) (by decide) (cs := ovs [oo, oo]) (by rfl) (fun g17 w hM => hK _ _ ?_); clear hM0 hK K)) | fail) | (go_at_call 28; have hM0 := hM; clear hM; (first | (with_reducible refine (HPUT.out B d gm g17 D0 h0 _ _ _ hM0 (by (repeat (first | (with_reducible exact Take.head) | apply Take.tail)); first | done | fail) (by (repeat (first | assumption | (with_reducible exact mZ) | apply mS)); first | done | fail)).mono ?_) | fail); clear hM0; rintro _ w ⟨D1, h1, rfl, hM⟩) | ((with_reducible refine at_load' ?_); refine BigFrame.wpList_want (by rfl) fun K hK => ws_load_mid hM rfl rfl (by (repeat (first | assumption | (with_reducible exact mZ) | apply mS)); first | done | fail) (bvs id) HID.out (n := 32) (by rw [bvs_len]; exact HIL.out) (by decide +kernel) (hK _ _ ?_); clear hK K) | (go_at_call 53; have hM0 := hM; clear hM; (first | (with_reducible refine (HGET.out B d gm D1 h1 _ _ _ hM0 (by (repeat (first | (with_reducible exact Take.head) | apply Take.tail)); first | done | fail)).mono ?_) | fail); clear hM0; rintro _ w ⟨D2, h2, rfl, hM⟩) | (first | ((with_reducible refine at_load' ?_); (refine BigFrame.wpList_want (by rfl) fun K hK => ws_load1 hM rfl rfl (by (repeat (first | assumption | (with_reducible exact mZ) | apply mS)); first | done | fail) (by exact H33.out) (by decide +kernel) (hK _ _ ?_); clear hK K)) | fail) | (go_at_call 29; have hM0 := hM; clear hM; (first | (with_reducible refine (HLI.out B d gm D2 _ _ _ hM0 (by (repeat (first | (with_reducible exact Take.head) | apply Take.tail)); first | done | fail)).mono ?_) | fail); clear hM0; rintro _ w ⟨A4, c4, rfl, hM⟩) | ((with_reducible refine at_load' ?_); refine BigFrame.wpList_want (by rfl) fun K hK => ws_of_ex (ex_load1 (v := bptr B.b) (dp_cells (B := B) hM (by (repeat (first | assumption | (with_reducible exact mZ) | apply mS)); first | done | fail)) rfl rfl List.mem_cons_self rfl (by kernel_rfl)) (hK _ _ ?_); clear hK K) | (go_at_call 20; have hM0 := hM; clear hM; (first | (with_reducible refine (HLF.out B d gm D2 h2 _ _ _ hM0 (by (repeat (first | (with_reducible exact Take.head) | apply Take.tail)); first | done | fail)).mono ?_) | fail); clear hM0; rintro _ w ⟨rfl, hM⟩) | (first | ((with_reducible refine at_slice' ?_); (have hM0 := hM; clear hM; refine BigFrame.wpList_want (by rfl) fun K hK => ws_slice_row hM0 (n := 1) rfl 73 32 (.agg (bvs z32).toArray) [.agg (bvs id).toArray] Try.underlying76 (by kernel_rfl) rfl (by simp [Value.cells, iv, sv, bv, bvs_len, HIL.out]) (by rfl) (by decide) (cs := idvs [id]) (by rfl) (fun g55 w hM => hK _ _ ?_); clear hM0 hK K)) | fail) | (go_at_call 33; have hM0 := hM; clear hM; (first | (with_reducible refine (HH1.out B d gm g55 D2 _ _ _ hM0 (by (repeat (first | (with_reducible exact Take.head) | apply Take.tail)); first | done | fail) (by (repeat (first | assumption | (with_reducible exact mZ) | apply mS)); first | done | fail)).mono ?_) | fail); clear hM0; rintro _ w ⟨rfl, hM⟩) | ((with_reducible refine at_build' ?_); refine BigFrame.wpList_want (by rfl) fun K hK => ws_build rfl (.agg (bvs z32).toArray) (by simp only [List.map_toArray, List.map_cons, List.map_nil]; exact build_z _) (hK _ _ ?_); clear hK K) | (first | ((with_reducible refine at_slice' ?_); (have hM0 := hM; clear hM; refine BigFrame.wpList_want (by rfl) fun K hK => ws_slice_row hM0 (n := 2) rfl 73 32 (.agg (bvs z32).toArray) [.agg (bvs id).toArray, .agg (bvs z32).toArray] Try.underlying76 (by kernel_rfl) rfl (by simp [Value.cells, iv, sv, bv, bvs_len, HIL.out, z32_len]) (by rfl) (by decide) (cs := idvs [id, z32]) (by rfl) (fun g63 w hM => hK _ _ ?_); clear hM0 hK K)) | fail) | (go_at_call 33; have hM0 := hM; clear hM; (first | (with_reducible refine (HH2.out B d gm g63 D2 _ _ _ hM0 (by (repeat (first | (with_reducible exact Take.head) | apply Take.tail)); first | done | fail) (by (repeat (first | assumption | (with_reducible exact mZ) | apply mS)); first | done | fail)).mono ?_) | fail); clear hM0; rintro _ w ⟨rfl, hM⟩))
  go_ret
  exact ⟨rfl, hM.sel (by repeat (first | (with_reducible exact Sel.refl) | (with_reducible exact Take.head) | (with_reducible apply Take.tail) | (with_reducible apply Sel.cons) | (with_reducible apply Sel.drop)))⟩
end
end Go.Proofs.Ytnckgkgilnmocaa
set_option linter.unusedSimpArgs false
set_option linter.unusedVariables false
namespace Go.Proofs.Ytnckgkgilnmocaa
open Go.RowKit
attribute [local go_sem] extract_mid extract_drop bget bsize wrap64_u8 i64_u8 u64_u8 bappend
theorem putL_self (us : List Tx) : ∀ (xs : List Tx), (∀ x ∈ xs, onm 1 x ∈ us.map (onm 1)) → putL us xs = us := by
  intro xs
  induction xs with
  | nil => intro _; rfl
  | cons x l ih =>
    intro h
    have h1 : putS us x = us := if_pos (h x List.mem_cons_self)
    show putL (putS us x) l = us
    rw [h1]
    exact ih fun y hy => h y (List.mem_cons_of_mem _ hy)
theorem putL_again (ts xs : List Tx) : putL (putL ts xs) xs = putL ts xs :=
  putL_self _ xs fun x hx => (putL_names ts xs (onm 1 x)).2 (.inr (List.mem_map.2 ⟨x, hx, rfl⟩))
theorem putL_nodup : ∀ (xs ts : List Tx), (ts.map (onm 1)).Nodup → ((putL ts xs).map (onm 1)).Nodup := by
  intro xs
  induction xs with
  | nil => intro ts h; exact h
  | cons x l ih =>
    intro ts h
    refine ih (putS ts x) ?_
    unfold putS
    split
    · exact h
    · rename_i hin
      rw [List.map_append, List.nodup_append]
      refine ⟨h, by simp, fun a ha b hb e => hin ?_⟩
      rw [List.map_cons, List.map_nil, List.mem_singleton] at hb
      rw [← hb, ← e]
      exact ha
theorem same_count {sm : List (Tx × Nat)} {us xs : List Tx} (hu : us = putL [] xs) (h1 : (sm.map (·.1)).Nodup) (h2 : ∀ n, n ∈ sm.map (·.1) ↔ n ∈ xs.map (onm 1)) : sm.length = us.length := by
  have h3 : (us.map (onm 1)).Nodup := by rw [hu]; exact putL_nodup xs [] (by simp)
  have h4 : (sm.map (·.1)).Perm (us.map (onm 1)) := by
    rw [List.perm_ext_iff_of_nodup h1 h3]
    intro n
    rw [h2, hu, putL_names]
    simp
  simpa using h4.length_eq
theorem mts_us (xs : List Tx) (h : ∀ x ∈ xs, x.length ≤ 150) : ∀ x ∈ putL [] xs, x.length ≤ 150 := by
  have : ∀ (xs ts : List Tx), (∀ x ∈ ts, x.length ≤ 150) → (∀ x ∈ xs, x.length ≤ 150) → ∀ x ∈ putL ts xs, x.length ≤ 150 := by
    intro xs
    induction xs with
    | nil => intro ts h1 _; exact h1
    | cons x l ih =>
      intro ts h1 h2
      refine ih (putS ts x) ?_ fun y hy => h2 y (List.mem_cons_of_mem _ hy)
      unfold putS
      split
      · exact h1
      · intro y hy
        rcases List.mem_append.1 hy with hy | hy
        · exact h1 y hy
        · rw [List.mem_singleton.1 hy]; exact h2 x List.mem_cons_self
  exact this xs [] (by simp) h
end Go.Proofs.Ytnckgkgilnmocaa
