/- Lists of values as cells: numbers, names; an element of a row of rows. No condition. -/
import Derived.Test.YthjceppddmecdaaStar
set_option linter.unusedSimpArgs false
set_option linter.unusedVariables false
namespace Go.Proofs.Ythjceppddmecdaa
open Go.RowKit
def iv (n : Int) : Value := .int .i64 n
def ivs (l : List Int) : List Value := l.map iv
theorem ivs_len (l : List Int) : (ivs l).length = l.length := by simp [ivs]
theorem ivs_one (l : List Int) : ∀ u ∈ ivs l, u.oneCell' = true := by
  intro u hu
  obtain ⟨c, _, rfl⟩ := List.mem_map.1 hu
  rfl
theorem ivs_app (l m : List Int) : ivs (l ++ m) = ivs l ++ ivs m := by simp [ivs]
theorem svs_app (l m : List (List UInt8)) : svs (l ++ m) = svs l ++ svs m := by simp [svs]
theorem svs_len (l : List (List UInt8)) : (svs l).length = l.length := by simp [svs]
theorem svs_one (l : List (List UInt8)) : ∀ u ∈ svs l, u.oneCell' = true := by
  intro u hu
  obtain ⟨c, _, rfl⟩ := List.mem_map.1 hu
  rfl
/-- Names one behind the other. -/
def idvs (l : List (List UInt8)) : List Value := l.flatMap bvs
theorem idvs_one (l : List (List UInt8)) : ∀ u ∈ idvs l, u.oneCell' = true := by
  intro u hu
  obtain ⟨c, _, h⟩ := List.mem_flatMap.1 hu
  exact bvs_oneCell c u h
theorem idvs_app (l m : List (List UInt8)) : idvs (l ++ m) = idvs l ++ idvs m := by simp [idvs]
theorem idvs_single (l : List UInt8) : idvs [l] = bvs l := by simp [idvs]
/-- Texts one behind the other. -/
def cat : List (List UInt8) → List UInt8
  | [] => []
  | l :: ls => l ++ cat ls
theorem cat_app (a b : List (List UInt8)) : cat (a ++ b) = cat a ++ cat b := by induction a with
  | nil => simp [cat]
  | cons x a ih => simp [cat, ih]
theorem cat_one (l : List UInt8) : cat [l] = l := by simp [cat]
theorem cat_snoc (a : List (List UInt8)) (l : List UInt8) : cat (a ++ [l]) = cat a ++ l := by rw [cat_app, cat_one]
theorem cat_le (m : Nat) (l : List (List UInt8)) (h : ∀ x ∈ l, x.length ≤ m) : (cat l).length ≤ m * l.length := by
  induction l with
  | nil => simp [cat]
  | cons a l ih =>
    have h1 := ih fun x hx => h x (List.mem_cons_of_mem _ hx)
    have h2 := h a List.mem_cons_self
    rw [cat, List.length_append, List.length_cons, Nat.mul_add]
    omega
theorem cat_take_le (m : Nat) (l : List (List UInt8)) (h : ∀ x ∈ l, x.length ≤ m) (k : Nat) : (cat (l.take k)).length ≤ m * l.length := by
  have h1 := cat_le m (l.take k) fun x hx => h x (List.mem_of_mem_take hx)
  have h2 : m * (l.take k).length ≤ m * l.length := Nat.mul_le_mul_left _ (by simp; omega)
  omega
theorem flat_get {α : Type} (f : α → List Value) (size : Nat) (l : List α) (h : ∀ x ∈ l, (f x).length = size) (k : Nat) (x : α) (hk : l[k]? = some x) (j : Nat) (v : Value) (hj : (f x)[j]? = some v) : (l.flatMap f)[k * size + j]? = some v := by
  induction l generalizing k with
  | nil => cases hk
  | cons y l ih =>
    have hy := h y List.mem_cons_self
    cases k with
    | zero =>
      simp at hk
      subst hk
      have hlt := (List.getElem?_eq_some_iff.1 hj).1
      rw [List.flatMap_cons, Nat.zero_mul, Nat.zero_add, List.getElem?_append_left hlt]
      exact hj
    | succ k =>
      rw [List.flatMap_cons, List.getElem?_append_right (by rw [hy, Nat.add_mul]; omega), hy, show (k + 1) * size + j - size = k * size + j by rw [Nat.add_mul]; omega]
      exact ih (fun z hz => h z (List.mem_cons_of_mem _ hz)) k (by simpa using hk)
theorem flat_len {α : Type} (f : α → List Value) (size : Nat) (l : List α) (h : ∀ x ∈ l, (f x).length = size) : (l.flatMap f).length = l.length * size := by
  induction l with
  | nil => simp
  | cons y l ih => rw [List.flatMap_cons, List.length_append, h y List.mem_cons_self, ih fun z hz => h z (List.mem_cons_of_mem _ hz), List.length_cons, Nat.add_mul]; omega
/-- Element k of a row of rows: where it lies, it, the beginnings. -/
theorem Rd.elems {α : Type} {w : World} {A : Option Addr} {n k size : Nat} {l : List α} {f : α → List Value} (h : Rd w size A n (l.flatMap f)) (hf : ∀ x ∈ l, (f x).length = size) (hs : 0 < size) (hk : k < n) :
    ∃ ad d, A = some ad ∧ (∀ j v, (f d)[j]? = some v → w.cell? ((ad.add (k * size)).add j) = some v) ∧ l[k]? = some d ∧ l.take (k + 1) = l.take k ++ [d] := by
  obtain ⟨ad, hA, _, hc⟩ := h.2 (by omega)
  have hl := flat_len f size l hf
  rw [h.1] at hl
  have hkl : k < l.length := by
    have := Nat.eq_of_mul_eq_mul_right hs hl
    omega
  have hg : l[k]? = some l[k] := List.getElem?_eq_getElem hkl
  exact ⟨ad, l[k], hA, fun j v hv => by rw [add_of_add]; exact hc _ v (flat_get f size l hf k _ hg j v hv), hg, take_snoc_at l k _ hg⟩
theorem Star.arr {L : List SProp} {w : World} {g n : Nat} {t : TypeId} {l : List UInt8} (h : Star L w) (hx : cellsE g t (bvs l).toArray ∈ L) (hl : l.length = n) : Rd w 1 (some ⟨g, 0, none⟩) n (bvs l) :=
  Rd.of_blk (h.blk hx) (by simp [bvs_len, hl])
theorem idvs_row {w : World} {A : Option Addr} {n : Nat} {l : List (List UInt8)} (h : Rd w 32 A n (idvs l)) (hf : ∀ x ∈ l, x.length = 32) : l.length = n := by
  have := flat_len bvs 32 l fun x hx => by rw [bvs_len, hf x hx]
  have h2 := h.1
  unfold idvs at h2
  omega
theorem svs_row {w : World} {A : Option Addr} {n : Nat} {l : List (List UInt8)} (h : Rd w 1 A n (svs l)) : l.length = n := by rw [← svs_len]; exact h.len
theorem ivs_row {w : World} {A : Option Addr} {n : Nat} {l : List Int} (h : Rd w 1 A n (ivs l)) : l.length = n := by rw [← ivs_len]; exact h.len
theorem bvs_row {w : World} {A : Option Addr} {n : Nat} {l : List UInt8} (h : Rd w 1 A n (bvs l)) : l.length = n := by rw [← bvs_len]; exact h.len
theorem u8_u8 (c : UInt8) : IntKind.u8.wrap (c.toNat : Int) = c.toNat := by have := c.toNat_lt; rw [IntKind.wrap_u8]; omega
/-- An element of a row is read. -/
theorem ws_rowload {P : Program} {w : World} {o : Oper} {a : Act} {Q : Exit → Act → World → Prop} {K : Act → World → Prop} {ty : TypeId} {x : Operand} (ho : o.op = .load ty x) {ad : Addr} {k : Nat} (hx : a.eval x = .pointer (some (ad.add k)))
    {n : Nat} {xs : List Value} (hr : Rd w 1 (some ad) n xs) {v : Value} (hv : xs[k]? = some v) (hp : plainTy P ty = true) (h : K (a.put o.dst v) w) : Oper.wp P o a w K Q := by
  have hk : k < n := by have h1 := (List.getElem?_eq_some_iff.1 hv).1; have h2 := hr.len; omega
  obtain ⟨ad', e, _, hc⟩ := hr.2 (by omega)
  injection e with e
  subst e
  have hrun := run_load1 (P := P) w ty _ v hp (hc k v hv)
  unfold Oper.wp execOp
  simp only [ho, hx, Instr.loadAt, Instr.sureAddr, Sem.run_bind, Sem.run_pure, Result.andThen_ok, hrun]
  exact h
/-- Element k: its address, it, the beginnings. -/
theorem Star.elem {α : Type} {L : List SProp} {w : World} {A : Option Addr} {n k : Nat} {l : List α} {f : α → Value} (h : Star L w) (hx : rowE 1 A n (l.map f) ∈ L) (hk : k < n) :
    ∃ ad d, A = some ad ∧ (l.map f)[k]? = some (f d) ∧ l[k]? = some d ∧ l.take (k + 1) = l.take k ++ [d] := by
  obtain ⟨ad, d, h1, _, h3, h4⟩ := (h.row hx).elem hk
  exact ⟨ad, d, h1, by rw [List.getElem?_map, h3]; rfl, h3, h4⟩
theorem Star.elemI {L : List SProp} {w : World} {A : Option Addr} {n k : Nat} {l : List Int} (h : Star L w) (hx : rowE 1 A n (ivs l) ∈ L) (hk : k < n) :
    ∃ ad d, A = some ad ∧ (ivs l)[k]? = some (.int .i64 d) ∧ l[k]? = some d ∧ l.take (k + 1) = l.take k ++ [d] := h.elem (f := iv) hx hk
theorem Star.elemS {L : List SProp} {w : World} {A : Option Addr} {n k : Nat} {l : List (List UInt8)} (h : Star L w) (hx : rowE 1 A n (svs l) ∈ L) (hk : k < n) :
    ∃ ad d, A = some ad ∧ (svs l)[k]? = some (.string ⟨d.toArray⟩) ∧ l[k]? = some d ∧ l.take (k + 1) = l.take k ++ [d] := h.elem (f := sv) hx hk
theorem Star.elemB {L : List SProp} {w : World} {A : Option Addr} {n k : Nat} {l : List UInt8} (h : Star L w) (hx : rowE 1 A n (bvs l) ∈ L) (hk : k < n) :
    ∃ (ad : Addr) (d : UInt8), A = some ad ∧ (bvs l)[k]? = some (.int .u8 (d.toNat : Int)) ∧ l[k]? = some d ∧ l.take (k + 1) = l.take k ++ [d] := h.elem (f := bv) hx hk
theorem Star.elemIDs {L : List SProp} {w : World} {A : Option Addr} {n k : Nat} {l : List (List UInt8)} (h : Star L w) (hx : rowE 32 A n (idvs l) ∈ L) (hl : ∀ x ∈ l, x.length = 32) (hk : k < n) :
    ∃ ad d, A = some ad ∧ (∀ j v, (bvs d)[j]? = some v → (idvs l)[k * 32 + j]? = some v) ∧ l[k]? = some d ∧ l.take (k + 1) = l.take k ++ [d] := by
  obtain ⟨ad, d, h1, _, h3, h4⟩ := Rd.elems (f := bvs) (h.row hx) (fun x hx => by rw [bvs_len, hl x hx]) (by omega) hk
  exact ⟨ad, d, h1, fun j v hv => flat_get bvs 32 l (fun x hx => by rw [bvs_len, hl x hx]) k d h3 j v hv, h3, h4⟩
end Go.Proofs.Ythjceppddmecdaa
