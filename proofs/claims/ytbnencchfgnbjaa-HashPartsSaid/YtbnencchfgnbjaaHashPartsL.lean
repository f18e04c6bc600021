/- The statement of caravanlaw01.HashParts, from its walk. No condition. -/
import Derived.Test.YtbnencchfgnbjaaHashParts
set_option linter.unusedSimpArgs false
set_option linter.unusedVariables false
namespace Go.Proofs.Ytbnencchfgnbjaa
open Go.RowKit Go.WideShapes Go.ChangeShapes Go.ChangeAt
theorem hashParts_law (A1 : Option Addr) (n1 c1 : Nat) (parts : List (List UInt8)) (y1 : n1 ≤ 9223372036854775807) (z1 : ∀ x ∈ parts, x.length ≤ 9223372036854775807) (A2 : Option Addr) (n2 c2 : Nat) (ask : List Bool) (y2 : n2 ≤ 9223372036854775807) (z2 : True) (W : World) (w1 : Rd W 1 A1 n1 (svs parts)) (w2 : Rd W 1 A2 n2 (bovs ask)) :
    Calls Try.prog 7 #[.slice A1 n1 c1, .slice A2 n2 c2] W fun r w' => r = .returned (.bool true) ∧ Ch [] W w' :=
  (hashParts_walk parts ask A1 A2 n1 n2 c1 c2 y1 y2 W (((Star.start W).of_old (by (repeat (first | assumption | (with_reducible exact List.mem_cons_self) | apply List.mem_cons_of_mem)); first | done | fail) w1).of_old (by (repeat (first | assumption | (with_reducible exact List.mem_cons_self) | apply List.mem_cons_of_mem)); first | done | fail) w2) (by (repeat (first | assumption | (with_reducible exact List.mem_cons_self) | apply List.mem_cons_of_mem)); first | done | fail) (by (repeat (first | assumption | (with_reducible exact List.mem_cons_self) | apply List.mem_cons_of_mem)); first | done | fail)).mono fun _ _ ⟨h1, h2⟩ => ⟨h1, h2.old (by (repeat (first | assumption | (with_reducible exact List.mem_cons_self) | apply List.mem_cons_of_mem)); first | done | fail)⟩
theorem hashParts_own : ownKnob Try.prog.godebug = none := by kernel_rfl
set_option maxRecDepth 100000 in
theorem hashParts_lifted (os : Os) (started : os.Started) (H : Type) (enc : TypeId × Value → H) :
    ReturnsInHanded {} Try.checked os 7 .any (Rows.hashPartsSpec.pre6 enc Try.prog Try.f7 Rows.hashPartsRow.domain false) (Rows.hashPartsSpec.post enc Try.prog Try.f7 false true false false) := by
  refine returnsInHanded_of_change (C := Try.checked) hashParts_own started (by kernel_rfl) Try.func7
    (ChangeSpec.witness6 (enc := enc) (C := Try.checked) false ⟨#[], #[.slice none 0 0, .slice none 0 0], []⟩ 8 (by kernel_rfl) (by kernel_rfl) (by kernel_rfl) (by kernel_rfl)) ?_
  intro W base args ds gs before hval0 hW hcnd _
  have hval : ∀ (j : Nat) t v, Try.f7.params[j]? = some t → args[j]? = some v → Value.okWide Try.prog W .any base t v := hval0
  have hW' := hW
  obtain ⟨p, q, hA0, hV, rfl, hfz, hnd⟩ := hW
  have hA : DataW.TrodAll enc Try.prog W 0 (fun _ => true) true Try.f7.params.toList args.toList ds p := hA0
  have hA1 := hA
  rw [Try.params7] at hA hval
  obtain ⟨v0, vs0, d0, ds0, p0, q0, hargs, rfl, rfl, h0, r0⟩ := trodAll_cons hA
  obtain ⟨v1, vs1, d1, ds1, p1, q1, rfl, rfl, rfl, h1, r1⟩ := trodAll_cons r0
  obtain ⟨rfl, rfl, rfl⟩ := trodAll_nil r1
  obtain rfl : args = #[v0, v1] := by cases args; simp_all
  obtain ⟨rfl, rfl⟩ := trodVars_none hV
  obtain ⟨A0, n0, c0, l0, rfl, w0, y0, z0⟩ := open_strl Try.underlying34 Try.underlying9 (by kernel_rfl) (hval 0 34 v0 rfl rfl) h0
  obtain ⟨A1, n1, c1, l1, rfl, w1, y1, z1⟩ := open_booll Try.underlying58 Try.underlying4 (by kernel_rfl) (hval 1 58 v1 rfl rfl) h1
  clear hA0 hval0
  refine (hashParts_law A0 n0 c0 l0 y0 z0 A1 n1 c1 l1 y1 z1 W w0 w1).mono fun e W' ⟨he, hg⟩ => ?_
  subst he
  have hlt := fun x hx => hW'.lt x hx
  exact ⟨_, rfl, post_of_below hW' (fun _ _ _ => (trodAll_cons_mk (shut_bool Try.underlying4 _) trodAll_mk0))
    (fun sp hsp => args_stay (by kernel_rfl) hg.below sp _ _ _ _ (by kernel_rfl) hA1 (fun x hx => hlt x (List.mem_append.2 (.inl hx))) (fun x hx => hsp x (List.mem_append.2 (.inl hx)))) (fun _ _ => rfl) rfl
    hg.below (ok_one (by kernel_rfl) rfl (okWide_bool_mk Try.underlying4 _))⟩
theorem hashParts_over : Rows.hashPartsRow.holds Try.pinned (OpenSpec.ofChange Rows.hashPartsSpec) :=
  OpenClaim.holds_of_wide 7 Try.f7 rfl rfl rfl rfl rfl rfl rfl ⟨rfl, rfl, rfl, rfl, rfl⟩ rfl rfl rfl rfl rfl (by kernel_rfl) Try.func7 (by kernel_rfl)
    (of_decide_eq_true (by kernel_rfl)) (by unfold Func.isWrapper; first | (rw [if_pos (by decide +kernel)]; kernel_rfl) | (rw [if_neg (by decide +kernel)]; exact ⟨rfl, rfl⟩))
    (fun os started H enc _ => hashParts_lifted os started H enc)
/-- THE STATEMENT -/
theorem hashParts_holds : Rows.HashPartsSaid := hashParts_over
end Go.Proofs.Ytbnencchfgnbjaa
