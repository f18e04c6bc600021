/- The statement of caravan/caravanlaw04.BaleBack, from its walk. No condition. -/
import Derived.Test.YtbnencchfgnbjaaBaleBack
import Derived.Test.YtbnencchfgnbjaaOpen
set_option linter.unusedSimpArgs false
set_option linter.unusedVariables false
namespace Go.Proofs.Ytbnencchfgnbjaa
open Go.RowKit Go.WideShapes Go.ChangeShapes Go.ChangeAt
theorem baleBack_law (l0 : Nat) (w0 : l0 ≤ 18446744073709551615) (l1 : Int) (w1 : -9223372036854775808 ≤ l1) (y1 : l1 ≤ 9223372036854775807) (l2 : List UInt8) (w2 : l2.length ≤ 9223372036854775807) (A3 : Option Addr) (n3 c3 : Nat) (l3 : List (List UInt8)) (y3 : n3 ≤ 9223372036854775807) (z3 : ∀ x ∈ l3, x.length ≤ 9223372036854775807) (l4 : List UInt8) (w4 : l4.length ≤ 9223372036854775807) (W : World) (w3 : Rd W 1 A3 n3 (svs l3)) :
    Calls Try.prog 10 #[.int .u64 l0, .int .i64 l1, .string ⟨l2.toArray⟩, .slice A3 n3 c3, .string ⟨l4.toArray⟩] W fun r w' => r = .returned (.bool true) ∧ Ch [] W w' :=
  (baleBack_walk l0 w0 l1 w1 y1 l2 w2 A3 n3 c3 l3 y3 z3 l4 w4 W ((Star.start W).of_old (by (repeat (first | assumption | (with_reducible exact List.mem_cons_self) | apply List.mem_cons_of_mem)); first | done | fail) w3) (by (repeat (first | assumption | (with_reducible exact List.mem_cons_self) | apply List.mem_cons_of_mem)); first | done | fail)).mono fun _ _ ⟨h1, h2⟩ => ⟨h1, h2.old (by (repeat (first | assumption | (with_reducible exact List.mem_cons_self) | apply List.mem_cons_of_mem)); first | done | fail)⟩
theorem baleBack_own : ownKnob Try.prog.godebug = none := by kernel_rfl
set_option maxRecDepth 100000 in
theorem baleBack_lifted (os : Os) (started : os.Started) (H : Type) (enc : TypeId × Value → H) :
    ReturnsInHanded {} Try.checked os 10 .any (Rows.baleBackSpec.pre6 enc Try.prog Try.f10 Rows.baleBackRow.domain false) (Rows.baleBackSpec.post enc Try.prog Try.f10 false true false false) := by
  refine returnsInHanded_of_change (C := Try.checked) baleBack_own started (by kernel_rfl) Try.func10
    (ChangeSpec.witness6 (enc := enc) (C := Try.checked) false ⟨#[], #[.int .u64 0, .int .i64 0, .string ByteArray.empty, .slice none 0 0, .string ByteArray.empty], []⟩ 8 (by kernel_rfl) (by kernel_rfl) (by kernel_rfl) (by kernel_rfl)) ?_
  intro W base args ds gs before hval0 hW hcnd _
  have hval : ∀ (j : Nat) t v, Try.f10.params[j]? = some t → args[j]? = some v → Value.okWide Try.prog W .any base t v := hval0
  have hW' := hW
  obtain ⟨p, q, hA0, hV, rfl, hfz, hnd⟩ := hW
  have hA : DataW.TrodAll enc Try.prog W 0 (fun _ => true) true Try.f10.params.toList args.toList ds p := hA0
  have hA1 := hA
  rw [Try.params10] at hA hval
  obtain ⟨v0, vs0, d0, ds0, p0, q0, hargs, rfl, rfl, h0, r0⟩ := trodAll_cons hA
  obtain ⟨v1, vs1, d1, ds1, p1, q1, rfl, rfl, rfl, h1, r1⟩ := trodAll_cons r0
  obtain ⟨v2, vs2, d2, ds2, p2, q2, rfl, rfl, rfl, h2, r2⟩ := trodAll_cons r1
  obtain ⟨v3, vs3, d3, ds3, p3, q3, rfl, rfl, rfl, h3, r3⟩ := trodAll_cons r2
  obtain ⟨v4, vs4, d4, ds4, p4, q4, rfl, rfl, rfl, h4, r4⟩ := trodAll_cons r3
  obtain ⟨rfl, rfl, rfl⟩ := trodAll_nil r4
  obtain rfl : args = #[v0, v1, v2, v3, v4] := by cases args; simp_all
  obtain ⟨rfl, rfl⟩ := trodVars_none hV
  obtain ⟨l0, rfl, w0⟩ := open_u64 Try.underlying26 (hval 0 26 v0 rfl rfl) h0
  obtain ⟨l1, rfl, w1, y1⟩ := open_i64 Try.underlying3 (hval 1 3 v1 rfl rfl) h1
  obtain ⟨l2, rfl, w2⟩ := open_str Try.underlying9 (hval 2 9 v2 rfl rfl) h2
  obtain ⟨A3, n3, c3, l3, rfl, w3, y3, z3⟩ := open_strl Try.underlying34 Try.underlying9 (by kernel_rfl) (hval 3 34 v3 rfl rfl) h3
  obtain ⟨l4, rfl, w4⟩ := open_str Try.underlying9 (hval 4 9 v4 rfl rfl) h4
  clear hA0 hval0
  refine (baleBack_law l0 w0 l1 w1 y1 l2 w2 A3 n3 c3 l3 y3 z3 l4 w4 W w3).mono fun e W' ⟨he, hg⟩ => ?_
  subst he
  have hlt := fun x hx => hW'.lt x hx
  exact ⟨_, rfl, post_of_below hW' (fun _ _ _ => (trodAll_cons_mk (shut_bool Try.underlying4 _) trodAll_mk0))
    (fun sp hsp => args_stay (by kernel_rfl) hg.below sp _ _ _ _ (by kernel_rfl) hA1 (fun x hx => hlt x (List.mem_append.2 (.inl hx))) (fun x hx => hsp x (List.mem_append.2 (.inl hx)))) (fun _ _ => rfl) rfl
    hg.below (ok_one (by kernel_rfl) rfl (okWide_bool_mk Try.underlying4 _))⟩
theorem baleBack_over : Rows.baleBackRow.holds Try.pinned (OpenSpec.ofChange Rows.baleBackSpec) :=
  OpenClaim.holds_of_wide 10 Try.f10 rfl rfl rfl rfl rfl rfl rfl ⟨rfl, rfl, rfl, rfl, rfl⟩ rfl rfl rfl rfl rfl (by kernel_rfl) Try.func10 (by kernel_rfl)
    (of_decide_eq_true (by kernel_rfl)) (by unfold Func.isWrapper; first | (rw [if_pos (by decide +kernel)]; kernel_rfl) | (rw [if_neg (by decide +kernel)]; exact ⟨rfl, rfl⟩))
    (fun os started H enc _ => baleBack_lifted os started H enc)
/-- THE STATEMENT -/
theorem baleBack_holds : Rows.BaleBackSaid := baleBack_over
end Go.Proofs.Ytbnencchfgnbjaa
