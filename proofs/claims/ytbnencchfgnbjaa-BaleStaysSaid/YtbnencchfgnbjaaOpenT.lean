/- An argument that is a slice of pairs of numbers, opened. No condition. -/
import Derived.Test.YtbnencchfgnbjaaOpen
import Derived.Deep.SlicePairs
set_option linter.unusedSimpArgs false
set_option linter.unusedVariables false
namespace Go.Proofs.Ytbnencchfgnbjaa
open Go.RowKit Go.WideShapes Go.ChangeShapes Go.ChangeAt
def i64ok (x : Int) : Prop := -9223372036854775808 ≤ x ∧ x ≤ 9223372036854775807
theorem wf_i64 {x : Int} (h : (Lit.int .i64 x).wf = true) : i64ok x := by
  simp [Lit.wf, IntKind.min, IntKind.max, IntKind.signed, IntKind.bits] at h
  unfold i64ok
  omega
section
variable {H : Type} {enc : TypeId × Value → H} {P : Program} {w : World} {base : Nat} {spare : Nat → Bool} {held : Bool}
def prC (p : Int × Int) : List Value := [iv p.1, iv p.2]
def prvs (l : List (Int × Int)) : List Value := l.flatMap prC
theorem prC_len (p : Int × Int) : (prC p).length = 2 := rfl
theorem open_pairl {r : Reach} {b0 : Nat} {t e : TypeId} {f0 f1 : Field} {v : Value} {d : DataW H} {p : List MemPlace} (ht : P.underlying t = some (.slice e)) (he : P.underlying e = some (.struct #[f0, f1]))
    (ce : P.cellsOf e = 2) (o0 : f0.offset = 0) (o1 : f1.offset = 1) (c0 : P.cellsOf f0.type = 1) (c1 : P.cellsOf f1.type = 1) (t0 : P.underlying f0.type = some (.int .i64)) (t1 : P.underlying f1.type = some (.int .i64))
    (hv : Value.okWide P w r b0 t v) (h : DataW.Trod enc P w base spare held t v d p) :
    ∃ (A : Option Addr) (n c : Nat) (l : List (Int × Int)), v = .slice A n c ∧ Rd w 2 A n (prvs l) ∧ n ≤ 9223372036854775807 ∧ ∀ x ∈ l, i64ok x.1 ∧ i64ok x.2 := by
  obtain ⟨a0, len, cap, rfl⟩ := okWide_slice ht hv
  obtain ⟨fuel, hf⟩ := h
  rcases Go.Deep.open_slice_pairs ht he ce o0 o1 c0 c1 hf with ⟨hcs, hx⟩ | ⟨a, len', cap', m, n, V0, V1, D0, D1, P0, P1, hcs, _, hl, hm, hmm, hx, hcell⟩
  · simp only [Value.cells, List.cons.injEq, Value.slice.injEq, and_true] at hcs
    obtain ⟨rfl, rfl, rfl⟩ := hcs
    exact ⟨none, 0, 0, [], rfl, Rd.none_, by omega, by simp⟩
  · simp only [Value.cells, List.cons.injEq, Value.slice.injEq, and_true] at hcs
    obtain ⟨rfl, rfl, rfl⟩ := hcs
    have hlm : len ≤ m := by rw [hmm]; split <;> omega
    unfold maxLen at hm
    have each : ∀ i, i < len → ∃ q : Int × Int, w.cell? (a.add (i * 2)) = some (iv q.1) ∧ w.cell? (a.add (i * 2 + 1)) = some (iv q.2) ∧ i64ok q.1 ∧ i64ok q.2 := fun i hi => by
      obtain ⟨h0, h1, g0, g1⟩ := hcell i (by omega)
      obtain ⟨x, hx, _, hw⟩ := DataW.trod_int t0 g0
      obtain ⟨y, hy, _, hw2⟩ := DataW.trod_int t1 g1
      simp only [List.cons.injEq, and_true] at hx hy
      exact ⟨(x, y), by rw [h0, hx]; rfl, by rw [h1, hy]; rfl, wf_i64 hw, wf_i64 hw2⟩
    obtain ⟨q, hq⟩ := Go.Deep.choose_lt each
    refine ⟨some a, len, cap, (List.range len).map q, rfl, ⟨?_, fun hn => ⟨a, rfl, ?_, ?_⟩⟩, by omega, ?_⟩
    · rw [prvs, flat_len prC 2 _ fun x _ => prC_len x]; simp
    · have h1 := (hq 0 (by omega)).1
      have := World.block_lt_of_cell? w _ h1
      rwa [block_of_add] at this
    · intro j u hu
      obtain ⟨i, hi, k, hk, rfl⟩ : ∃ i, i < len ∧ ∃ k, k < 2 ∧ j = i * 2 + k := by
        have h1 := (List.getElem?_eq_some_iff.1 hu).1
        rw [prvs, flat_len prC 2 _ fun x _ => prC_len x] at h1
        simp at h1
        exact ⟨j / 2, by omega, j % 2, by omega, by omega⟩
      have hqi : ((List.range len).map q)[i]? = some (q i) := by simp [hi]
      have hu2 : ∀ v, (prC (q i))[k]? = some v → u = v := fun v hv => by
        have := flat_get prC 2 _ (fun x _ => prC_len x) i (q i) hqi k v hv
        unfold prvs at hu
        rw [hu] at this
        injection this
      rcases (by omega : k = 0 ∨ k = 1) with rfl | rfl
      · rw [hu2 _ rfl]; exact (hq i hi).1
      · rw [hu2 _ rfl]; exact (hq i hi).2.1
    · intro x hx
      obtain ⟨i, hi, rfl⟩ := List.mem_map.1 hx
      exact ⟨(hq i (List.mem_range.1 hi)).2.2.1, (hq i (List.mem_range.1 hi)).2.2.2⟩
end
theorem Star.elemPr {L : List SProp} {w : World} {A : Option Addr} {n k : Nat} {l : List (Int × Int)} (h : Star L w) (hx : rowE 2 A n (prvs l) ∈ L) (hk : k < n) :
    ∃ ad d, A = some ad ∧ (∀ j v, (prC d)[j]? = some v → (prvs l)[k * 2 + j]? = some v) ∧ l[k]? = some d := by
  obtain ⟨ad, d, h1, _, h3, _⟩ := Rd.elems (f := prC) (h.row hx) (fun x _ => prC_len x) (by omega) hk
  exact ⟨ad, d, h1, fun j v hv => flat_get prC 2 l (fun x _ => prC_len x) k d h3 j v hv, h3⟩
end Go.Proofs.Ytbnencchfgnbjaa
