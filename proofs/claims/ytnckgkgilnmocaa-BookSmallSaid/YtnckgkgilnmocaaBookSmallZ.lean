/- The statement BookSmall, from its walk. No condition but those that each theorem names. -/
import Derived.Test.YtnckgkgilnmocaaQ1
import Derived.Test.YtnckgkgilnmocaaQ3
import Derived.Test.YtnckgkgilnmocaaQ8
set_option linter.unusedSimpArgs false
set_option linter.unusedVariables false
namespace Go.Proofs.Ytnckgkgilnmocaa
open Go.RowKit Go.WideShapes Go.ChangeShapes Go.ChangeAt
theorem bookSmall_law (l0 : Int) (w0 : -9223372036854775808 ≤ l0) (y0 : l0 ≤ 9223372036854775807) (W : World)  :
    Calls Try.prog 4 #[.int .i64 l0] W fun r w' => r = .returned (.bool true) ∧ Ch [] W w' :=
  (bookSmall_walk l0 w0 y0 W (Star.start W) ).mono fun _ _ ⟨h1, h2⟩ => ⟨h1, h2.old (by (repeat (first | assumption | (with_reducible exact mZ) | apply mS)); first | done | fail)⟩
theorem bookSmall_own : ownKnob Try.prog.godebug = none := by kernel_rfl
set_option maxRecDepth 100000 in
theorem bookSmall_lifted (os : Os) (started : os.Started) (H : Type) (enc : TypeId × Value → H) :
    ReturnsInHanded {} Try.checked os 4 .any (Rows.bookSmallSpec.pre6 enc Try.prog Try.f4 Rows.bookSmallRow.domain false) (Rows.bookSmallSpec.post enc Try.prog Try.f4 false true false false) := by
  refine returnsInHanded_of_change (C := Try.checked) bookSmall_own started (by kernel_rfl) Try.func4
    (ChangeSpec.witness6 (enc := enc) (C := Try.checked) false ⟨#[], #[.int .i64 0], []⟩ 8 (by kernel_rfl) (by kernel_rfl) (by kernel_rfl) (by kernel_rfl)) ?_
  intro W base args ds gs before hval0 hW hcnd _
  have hval : ∀ (j : Nat) t v, Try.f4.params[j]? = some t → args[j]? = some v → Value.okWide Try.prog W .any base t v := hval0
  have hW' := hW
  obtain ⟨p, q, hA0, hV, rfl, hfz, hnd⟩ := hW
  have hA : DataW.TrodAll enc Try.prog W 0 (fun _ => true) true Try.f4.params.toList args.toList ds p := hA0
  have hA1 := hA
  rw [Try.params4] at hA hval
  obtain ⟨v0, vs0, d0, ds0, p0, q0, hargs, rfl, rfl, h0, r0⟩ := trodAll_cons hA
  obtain ⟨rfl, rfl, rfl⟩ := trodAll_nil r0
  obtain rfl : args = #[v0] := by cases args; simp_all
  obtain ⟨rfl, rfl⟩ := trodVars_none hV
  obtain ⟨l0, rfl, w0, y0⟩ := open_i64 Try.underlying3 (hval 0 3 v0 rfl rfl) h0
  clear hA0 hval0
  refine (bookSmall_law l0 w0 y0 W).mono fun e W' ⟨he, hg⟩ => ?_
  subst he
  have hlt := fun x hx => hW'.lt x hx
  exact ⟨_, rfl, post_of_below hW' (fun _ _ _ => (trodAll_cons_mk (shut_bool Try.underlying4 _) trodAll_mk0))
    (fun sp hsp => args_stay (by kernel_rfl) hg.below sp _ _ _ _ (by kernel_rfl) hA1 (fun x hx => hlt x (List.mem_append.2 (.inl hx))) (fun x hx => hsp x (List.mem_append.2 (.inl hx)))) (fun _ _ => rfl) rfl
    hg.below (ok_one (by kernel_rfl) rfl (okWide_bool_mk Try.underlying4 _))⟩
theorem bookSmall_over : Rows.bookSmallRow.holds Try.pinned (OpenSpec.ofChange Rows.bookSmallSpec) :=
  OpenClaim.holds_of_wide 4 Try.f4 rfl rfl rfl rfl rfl rfl rfl ⟨rfl, rfl, rfl, rfl, rfl⟩ rfl rfl rfl rfl rfl (by kernel_rfl) Try.func4 (by kernel_rfl)
    (of_decide_eq_true (by kernel_rfl)) (by unfold Func.isWrapper; first | (rw [if_pos (by decide +kernel)]; kernel_rfl) | (rw [if_neg (by decide +kernel)]; exact ⟨rfl, rfl⟩))
    (fun os started H enc _ => bookSmall_lifted os started H enc)
/-- THE STATEMENT -/
theorem bookSmall_holds : Rows.BookSmallSaid := bookSmall_over
end Go.Proofs.Ytnckgkgilnmocaa
