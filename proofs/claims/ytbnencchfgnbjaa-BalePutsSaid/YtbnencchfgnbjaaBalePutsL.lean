/- The statement of caravanlaw04.BalePuts, from its walk. No condition. -/
import Derived.Test.YtbnencchfgnbjaaBalePuts
import Derived.Test.YtbnencchfgnbjaaOpen
set_option linter.unusedSimpArgs false
set_option linter.unusedVariables false
namespace Go.Proofs.Ytbnencchfgnbjaa
open Go.RowKit Go.WideShapes Go.ChangeShapes Go.ChangeAt
theorem balePuts_law (m : Nat) (hm : m ≤ 18446744073709551615) (A1 : Option Addr) (n1 c1 : Nat) (l : List Int) (y1 : n1 ≤ 9223372036854775807) (z1 : ∀ x ∈ l, -9223372036854775808 ≤ x ∧ x ≤ 9223372036854775807) (A2 : Option Addr) (n2 c2 : Nat) (texts : List (List UInt8)) (y2 : n2 ≤ 9223372036854775807) (z2 : ∀ x ∈ texts, x.length ≤ 9223372036854775807) (A3 : Option Addr) (n3 c3 : Nat) (ids : List (List UInt8)) (y3 : n3 ≤ 9223372036854775807) (z3 : ∀ x ∈ ids, x.length ≤ 9223372036854775807) (W : World) (w1 : Rd W 1 A1 n1 (ivs l)) (w2 : Rd W 1 A2 n2 (svs texts)) (w3 : Rd W 1 A3 n3 (svs ids)) :
    Calls Try.prog 4 #[.int .u64 m, .slice A1 n1 c1, .slice A2 n2 c2, .slice A3 n3 c3] W fun r w' => r = .returned (.bool true) ∧ Ch [] W w' :=
  (balePuts_walk m hm l texts ids A1 A2 A3 n1 n2 n3 c1 c2 c3 (fun x hx => (z1 x hx).2) y1 y2 y3 W ((((Star.start W).of_old (by repeat (first | assumption | (with_reducible exact List.mem_cons_self) | apply List.mem_cons_of_mem)) w1).of_old (by repeat (first | assumption | (with_reducible exact List.mem_cons_self) | apply List.mem_cons_of_mem)) w2).of_old (by repeat (first | assumption | (with_reducible exact List.mem_cons_self) | apply List.mem_cons_of_mem)) w3) (by repeat (first | assumption | (with_reducible exact List.mem_cons_self) | apply List.mem_cons_of_mem)) (by repeat (first | assumption | (with_reducible exact List.mem_cons_self) | apply List.mem_cons_of_mem)) (by repeat (first | assumption | (with_reducible exact List.mem_cons_self) | apply List.mem_cons_of_mem))).mono fun _ _ ⟨h1, h2⟩ => ⟨h1, h2.old (by repeat (first | assumption | (with_reducible exact List.mem_cons_self) | apply List.mem_cons_of_mem))⟩
theorem balePuts_own : ownKnob Try.prog.godebug = none := by kernel_rfl
set_option maxRecDepth 100000 in
theorem balePuts_lifted (os : Os) (started : os.Started) (H : Type) (enc : TypeId × Value → H) :
    ReturnsInHanded {} Try.checked os 4 .any (Rows.balePutsSpec.pre6 enc Try.prog Try.f4 Rows.balePutsRow.domain false) (Rows.balePutsSpec.post enc Try.prog Try.f4 false true false false) := by
  refine returnsInHanded_of_change (C := Try.checked) balePuts_own started (by kernel_rfl) Try.func4
    (ChangeSpec.witness6 (enc := enc) (C := Try.checked) false ⟨#[], #[.int .u64 0, .slice none 0 0, .slice none 0 0, .slice none 0 0], []⟩ 8 (by kernel_rfl) (by kernel_rfl) (by kernel_rfl) (by kernel_rfl)) ?_
  intro W base args ds gs before hval0 hW hcnd _
  have hval : ∀ (j : Nat) t v, Try.f4.params[j]? = some t → args[j]? = some v → Value.okWide Try.prog W .any base t v := hval0
  have hW' := hW
  obtain ⟨p, q, hA0, hV, rfl, hfz, hnd⟩ := hW
  have hA : DataW.TrodAll enc Try.prog W 0 (fun _ => true) true Try.f4.params.toList args.toList ds p := hA0
  have hA1 := hA
  rw [Try.params4] at hA hval
  obtain ⟨v0, vs0, d0, ds0, p0, q0, hargs, rfl, rfl, h0, r0⟩ := trodAll_cons hA
  obtain ⟨v1, vs1, d1, ds1, p1, q1, rfl, rfl, rfl, h1, r1⟩ := trodAll_cons r0
  obtain ⟨v2, vs2, d2, ds2, p2, q2, rfl, rfl, rfl, h2, r2⟩ := trodAll_cons r1
  obtain ⟨v3, vs3, d3, ds3, p3, q3, rfl, rfl, rfl, h3, r3⟩ := trodAll_cons r2
  obtain ⟨rfl, rfl, rfl⟩ := trodAll_nil r3
  obtain rfl : args = #[v0, v1, v2, v3] := by cases args; simp_all
  obtain ⟨rfl, rfl⟩ := trodVars_none hV
  obtain ⟨l0, rfl, w0⟩ := open_u64 Try.underlying26 (hval 0 26 v0 rfl rfl) h0
  obtain ⟨A1, n1, c1, l1, rfl, w1, y1, z1⟩ := open_intl Try.underlying33 Try.underlying3 (by kernel_rfl) (hval 1 33 v1 rfl rfl) h1
  obtain ⟨A2, n2, c2, l2, rfl, w2, y2, z2⟩ := open_strl Try.underlying34 Try.underlying9 (by kernel_rfl) (hval 2 34 v2 rfl rfl) h2
  obtain ⟨A3, n3, c3, l3, rfl, w3, y3, z3⟩ := open_strl Try.underlying34 Try.underlying9 (by kernel_rfl) (hval 3 34 v3 rfl rfl) h3
  clear hA0 hval0
  refine (balePuts_law l0 w0 A1 n1 c1 l1 y1 z1 A2 n2 c2 l2 y2 z2 A3 n3 c3 l3 y3 z3 W w1 w2 w3).mono fun e W' ⟨he, hg⟩ => ?_
  subst he
  have hlt := fun x hx => hW'.lt x hx
  exact ⟨_, rfl, post_of_below hW' (fun _ _ _ => (trodAll_cons_mk (shut_bool Try.underlying4 _) trodAll_mk0))
    (fun sp hsp => args_stay (by kernel_rfl) hg.below sp _ _ _ _ (by kernel_rfl) hA1 (fun x hx => hlt x (List.mem_append.2 (.inl hx))) (fun x hx => hsp x (List.mem_append.2 (.inl hx)))) (fun _ _ => rfl) rfl
    hg.below (ok_one (by kernel_rfl) rfl (okWide_bool_mk Try.underlying4 _))⟩
theorem balePuts_over : Rows.balePutsRow.holds Try.pinned (OpenSpec.ofChange Rows.balePutsSpec) :=
  OpenClaim.holds_of_wide 4 Try.f4 rfl rfl rfl rfl rfl rfl rfl ⟨rfl, rfl, rfl, rfl, rfl⟩ rfl rfl rfl rfl rfl (by kernel_rfl) Try.func4 (by kernel_rfl)
    (of_decide_eq_true (by kernel_rfl)) (by unfold Func.isWrapper; first | (rw [if_pos (by decide +kernel)]; kernel_rfl) | (rw [if_neg (by decide +kernel)]; exact ⟨rfl, rfl⟩))
    (fun os started H enc _ => balePuts_lifted os started H enc)
/-- THE STATEMENT -/
theorem balePuts_holds : Rows.BalePutsSaid := balePuts_over
end Go.Proofs.Ytbnencchfgnbjaa
