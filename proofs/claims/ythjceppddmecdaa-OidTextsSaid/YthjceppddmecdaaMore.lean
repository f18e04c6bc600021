/- Laws that came later: a branch of a region that draws its order; make([]T, n) by the type's own words; parts of a row of bytes. No condition but those that each theorem names. -/
import Derived.Test.YthjceppddmecdaaTail
set_option linter.unusedSimpArgs false
set_option linter.unusedVariables false
namespace Go.Proofs.Ythjceppddmecdaa
open Go.RowKit
section
variable {P : Program} {ops : Array Oper} {Q : Exit → Act → World → Prop} {md : Region.Mode} {L0 : List SProp} {Z : List Nat}
/-- One of several that may come up. -/
theorem RS_way {i : Nat} {oi : Oper} {tl : List Oper} {fuel : Nat} {listed : Array Bool} {a : Act} {L : List SProp} (hi0 : ops.toList.drop i = oi :: tl) (hw : Region.wanted oi (yielded ops a.tmps) = true)
    (h : ∀ w (K : Act → World → Prop), Star L w → (∀ a' L' w', Star L' w' → RS P md ops Q L0 Z fuel (listed.setIfInBounds i true) a' L' → K a' w') → Oper.wp P oi a w K Q) :
    ∀ w, Star L w → wpOp P ops Q i (fun a' w' => ∃ L', Star L' w' ∧ RS P md ops Q L0 Z fuel (listed.setIfInBounds i true) a' L') a w := by
  intro w hM
  have hi := op_at hi0
  unfold wpOp
  simp only [hi, hw, if_true]
  exact .inl (h w _ hM fun a' L' w' hM' h' => ⟨L', hM', h'⟩)
end
section
variable {P : Program} {w : World} {o : Oper} {a : Act} {Q : Exit → Act → World → Prop} {K : Act → World → Prop} {L : List SProp}
/-- make([]T, n), T of one cell. -/
theorem ws_make8 (hM : Star L w) {t : TypeId} {x y : Operand} (ho : o.op = .makeSlice t x y) (e : TypeId) (z : Value) (bytes : Nat) (ht : P.underlying t = some (.slice e)) (hi : (P.info? e).map (fun i => (i.zero, i.size, i.bytes)) = some (some z, 1, bytes)) (hz1 : z.cells = #[z]) (hby : bytes ≤ 16)
    {n : Nat} (hx : a.eval x = .int .i64 (n : Int)) (hy : a.eval y = .int .i64 (n : Int)) (hsm : n ≤ 1000000000)
    (h : ∀ g w1, Star (cellsE g e (List.replicate n z).toArray :: L) w1 → K (a.put o.dst (.slice (some ⟨g, 0, none⟩) n n)) w1) : Oper.wp P o a w K Q := by
  obtain ⟨i, hi0, hz, hsize, hb⟩ := info_parts hi
  exact ws_make hM ho e i z ht hi0 hz hsize hz1 (by omega) hx hy hsm h
end
theorem ret_bool {a b : Bool} (h : a = b) : Ending.returned (Value.bool a) = .returned (.bool b) := by rw [h]
theorem Rd.takeB {w : World} {A : Option Addr} {n k : Nat} {l : List UInt8} (h : Rd w 1 A n (bvs l)) (hk : k ≤ n) : Rd w 1 A k (bvs (l.take k)) := by
  have := h.take_ hk
  rwa [show (bvs l).take k = bvs (l.take k) from (List.map_take).symm] at this
theorem Rd.cutB {w : World} {A : Option Addr} {n k cap : Nat} {l : List UInt8} (h : Rd w 1 A n (bvs l)) (hk : k ≤ n) (hc : n ≤ cap) : Rd w 1 (if cap = k then A else A.map (·.add k)) (n - k) (bvs (l.drop k)) := by
  have := h.cut hk hc
  rw [Nat.mul_one] at this
  rwa [show (bvs l).drop k = bvs (l.drop k) from (List.map_drop).symm] at this
theorem Rd.cutG {w : World} {g n k cap : Nat} {l : List UInt8} (h : Rd w 1 (some ⟨g, 0, none⟩) n (bvs l)) (hk : k ≤ n) (hc : n ≤ cap) : Rd w 1 (if cap = k then some ⟨g, 0, none⟩ else some ⟨g, k, none⟩) (n - k) (bvs (l.drop k)) := by
  have := h.cutB hk hc
  simpa [add_lit] using this
end Go.Proofs.Ythjceppddmecdaa
