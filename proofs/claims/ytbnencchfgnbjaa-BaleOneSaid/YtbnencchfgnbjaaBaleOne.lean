/- BaleOne: for every text the law answers true: a number has one spelling. No condition. -/
import Derived.Test.YtbnencchfgnbjaaBaleA
import Derived.Test.YtbnencchfgnbjaaLaw
set_option linter.unusedSimpArgs false
set_option linter.unusedVariables false
namespace Go.Proofs.Ytbnencchfgnbjaa
open Go.RowKit Go.WideShapes Go.ChangeShapes Go.ChangeAt
attribute [local go_sem] extract_mid extract_drop bget bsize wrap64_u8 i64_u8 u64_u8 bappend

theorem open_le (l : List UInt8) (w : World) :
    Calls Try.prog 16 #[.string ⟨l.toArray⟩] w fun r w' => ∃ b, r = .returned (.pointer (some ⟨b, 0, none⟩)) ∧ Bal w' b l 0 ∧ w.heap.size ≤ b ∧ Ch [] w w' :=
  (open_any l w).mono fun r w' ⟨h1, h2, h3⟩ => ⟨_, h1, h2, Nat.le_refl _, h3⟩
theorem baleOne_walk (l : List UInt8) (w : World) :
    Calls Try.prog 3 #[.string ⟨l.toArray⟩] w fun e w' => e = .returned (.bool true) ∧ Ch [] w w' := by
  obtain ⟨s, hs⟩ : ∃ s, s = cutP l 12 := ⟨_, rfl⟩
  have hl : s.length ≤ 12 := by have := cutP_len l 12 (by omega); rw [← hs] at this; omega
  have HS := Lib.hid hs
  clear hs
  go_enter Try.func3, Try.ntmps3
  go_wp2_with fail
  refine (cut_any l 12 (by omega) _).mono ?_
  rw [← HS.out]
  rintro r w1 ⟨rfl, rfl⟩
  go_wp2_with fail
  refine (open_le s _).mono ?_
  rintro r w1 ⟨b, rfl, hB1, hlt, hC1⟩
  go_wp2_with fail
  refine (awake04 _).mono ?_
  rintro r w2 ⟨rfl, hC2⟩
  go_wp2_with fail
  obtain ⟨n, u, e, hm⟩ : ∃ n u e, mNum s 0 = (n, u, e) := ⟨_, _, _, rfl⟩
  have hnle := mNum_le s 0
  have hone := mNum_one s
  have hbad := mNum_bad s
  have hule := mNum_left_le s 0
  refine (num_any (Blk.ch0 hB1 hC2)).mono ?_
  rw [hm] at hone hbad hnle hule ⊢
  simp only at hone hbad hnle hule ⊢
  have HM := Lib.hid hm
  clear hm
  rintro r w3 ⟨rfl, hB3, hC3⟩
  go_wp2_with fail
  refine (err_any hB3).mono ?_
  rintro r w4 ⟨rfl, rfl⟩
  have hC := (hC1.then_ hC2).one hC3 (.inr hlt)
  by_cases he : e = 0
  · subst he
    have HO := Lib.hid (hone rfl)
    clear hbad hone
    have hq := encNum_len n
    go_wp2_with (first | (go_at_call 21; refine (encNum_any n hnle _).mono ?_; rintro r w4 ⟨rfl, hC4⟩) | (go_at_call 20; refine (left_any (Blk.ch0 hB3 hC4)).mono ?_; rintro r w5 ⟨rfl, rfl⟩))
    go_ret
    exact ⟨by simp [HO.out], hC.then_ hC4⟩
  · have hb : (e != 0) = true := by simpa using he
    obtain ⟨rfl, rfl⟩ := hbad he
    clear hone
    go_wp2_with (go_at_call 20; refine (left_any hB3).mono ?_; rintro r w5 ⟨rfl, rfl⟩)
    go_ret
    exact ⟨rfl, hC⟩
theorem baleOne_law (l : List UInt8) (_hl : l.length ≤ 9223372036854775807) (w : World) :
    Calls Try.prog 3 #[.string ⟨l.toArray⟩] w fun e w' => e = .returned (.bool true) ∧ Ch [] w w' := baleOne_walk l w
theorem baleOne_own : ownKnob Try.prog.godebug = none := by kernel_rfl
set_option maxRecDepth 100000 in
theorem baleOne_lifted (os : Os) (started : os.Started) (H : Type) (enc : TypeId × Value → H) :
    ReturnsInHanded {} Try.checked os 3 .any (Rows.baleOneSpec.pre6 enc Try.prog Try.f3 Rows.baleOneRow.domain false) (Rows.baleOneSpec.post enc Try.prog Try.f3 false true false false) := by
  refine returnsInHanded_of_change (C := Try.checked) baleOne_own started (by kernel_rfl) Try.func3
    (ChangeSpec.witness6 (enc := enc) (C := Try.checked) false ⟨#[], #[.string ByteArray.empty], []⟩ 8 (by kernel_rfl) (by kernel_rfl) (by kernel_rfl) (by kernel_rfl)) ?_
  intro W base args ds gs before hval0 hW hcnd _
  have hval : ∀ (j : Nat) t v, Try.f3.params[j]? = some t → args[j]? = some v → Value.okWide Try.prog W .any base t v := hval0
  have hW' := hW
  obtain ⟨p, q, hA0, hV, rfl, hfz, hnd⟩ := hW
  have hA : DataW.TrodAll enc Try.prog W 0 (fun _ => true) true Try.f3.params.toList args.toList ds p := hA0
  have hA1 := hA
  rw [Try.params3] at hA hval
  obtain ⟨v0, vs0, d0, ds0, p0, q0, hargs, rfl, rfl, h0, r0⟩ := trodAll_cons hA
  obtain ⟨rfl, rfl, rfl⟩ := trodAll_nil r0
  obtain rfl : args = #[v0] := by cases args; simp_all
  obtain ⟨rfl, rfl⟩ := trodVars_none hV
  obtain ⟨l0, rfl, w0⟩ := open_str Try.underlying9 (hval 0 9 v0 rfl rfl) h0
  clear hA0 hval0
  refine (baleOne_law l0 w0 W).mono fun e W' ⟨he, hg⟩ => ?_
  subst he
  have hlt := fun x hx => hW'.lt x hx
  exact ⟨_, rfl, post_of_below hW' (fun _ _ _ => (trodAll_cons_mk (shut_bool Try.underlying4 _) trodAll_mk0))
    (fun sp hsp => args_stay (by kernel_rfl) hg.below sp _ _ _ _ (by kernel_rfl) hA1 (fun x hx => hlt x (List.mem_append.2 (.inl hx))) (fun x hx => hsp x (List.mem_append.2 (.inl hx)))) (fun _ _ => rfl) rfl
    hg.below (ok_one (by kernel_rfl) rfl (okWide_bool_mk Try.underlying4 _))⟩
theorem baleOne_over : Rows.baleOneRow.holds Try.pinned (OpenSpec.ofChange Rows.baleOneSpec) :=
  OpenClaim.holds_of_wide 3 Try.f3 rfl rfl rfl rfl rfl rfl rfl ⟨rfl, rfl, rfl, rfl, rfl⟩ rfl rfl rfl rfl rfl (by kernel_rfl) Try.func3 (by kernel_rfl)
    (of_decide_eq_true (by kernel_rfl)) (by unfold Func.isWrapper; first | (rw [if_pos (by decide +kernel)]; kernel_rfl) | (rw [if_neg (by decide +kernel)]; exact ⟨rfl, rfl⟩))
    (fun os started H enc _ => baleOne_lifted os started H enc)
/-- THE STATEMENT -/
theorem baleOne_holds : Rows.BaleOneSaid := baleOne_over
end Go.Proofs.Ytbnencchfgnbjaa
