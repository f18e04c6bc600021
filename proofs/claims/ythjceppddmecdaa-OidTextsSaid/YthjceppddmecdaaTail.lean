/- A slice that is written at its end wherever it begins ('tailE'): append of a row or a string onto it, cutting its head off, reading it. No condition but those that each theorem names. -/
import Derived.Test.YthjceppddmecdaaReg
import Derived.Deep.AppendSrc
set_option linter.unusedSimpArgs false
set_option linter.unusedVariables false
namespace Go.Proofs.Ythjceppddmecdaa
open Go.RowKit
/-- The slice at A is the only way to its block; its n elements (size cells each) are xs. -/
def Tail (w : World) (e : TypeId) (size : Nat) (A : Option Addr) (n c : Nat) (xs : List Value) : Prop :=
  xs.length = n * size ∧ n ≤ c ∧ c ≤ maxLen ∧ ((A = none ∧ c = 0) ∨ ∃ g off cur, A = some ⟨g, off, none⟩ ∧ Blk w g e cur ∧ off + c * size ≤ cur.size ∧ (cur.toList.drop off).take (n * size) = xs)
theorem Tail.rd {w : World} {e : TypeId} {size : Nat} {A : Option Addr} {n c : Nat} {xs : List Value} (h : Tail w e size A n c xs) : Rd w size A n xs := by
  obtain ⟨h1, h2, h3, ⟨rfl, rfl⟩ | ⟨g, off, cur, rfl, hb, hs, hx⟩⟩ := h
  · exact ⟨h1, fun h => by omega⟩
  · refine ⟨h1, fun hn => ⟨_, rfl, hb.lt, fun j u hu => ?_⟩⟩
    rw [add_lit, hb.cell]
    rw [← hx, List.getElem?_take] at hu
    split at hu
    · rw [List.getElem?_drop] at hu; simpa using hu
    · cases hu
def tailE (e : TypeId) (size : Nat) (A : Option Addr) (n c : Nat) (xs : List Value) : SProp where
  fp k := ∃ ad, A = some ad ∧ k = ad.block
  ro := false
  holds w := Tail w e size A n c xs
  lt w h k hk := by
    obtain ⟨ad, rfl, rfl⟩ := hk
    obtain ⟨_, _, _, ⟨h, _⟩ | ⟨g, off, cur, h, hb, _⟩⟩ := h
    · cases h
    · injection h with h; subst h; exact hb.lt
  stable w w' ho h := by
    obtain ⟨h1, h2, h3, h | ⟨g, off, cur, rfl, hb, hs⟩⟩ := h
    · exact ⟨h1, h2, h3, .inl h⟩
    · exact ⟨h1, h2, h3, .inr ⟨g, off, cur, rfl, (ho.block g ⟨_, rfl, rfl⟩).trans hb, hs⟩⟩
namespace Star
variable {L R : List SProp} {w w' : World} {e : TypeId} {size n c : Nat} {A : Option Addr} {xs : List Value}
theorem niltail (e : TypeId) (size : Nat) (h : Star L w) : Star (tailE e size none 0 0 [] :: L) w := h.free (fun k ⟨_, e, _⟩ => by cases e) ⟨by simp, by omega, by unfold maxLen; omega, .inl ⟨rfl, rfl⟩⟩
theorem tail_of_own (h : Star (ownE e size A n c xs :: L) w) : Star (tailE e size A n c xs :: L) w :=
  h.as_ rfl (fun k hk => hk) fun h => by
    refine ⟨h.1, ?_⟩
    rcases h.2 with ⟨h1, h2⟩ | ⟨g, cap, cur, hv, _, hh, hnc, hcm, hcs, htk⟩
    · injection h1 with h1 h3 h4
      exact ⟨by omega, by unfold maxLen; omega, .inl ⟨h1, h4⟩⟩
    · injection hv with h1 h3 h4
      subst h4 h1
      exact ⟨by omega, hcm, .inr ⟨g, 0, cur, rfl, hh, by omega, by simpa using htk⟩⟩
theorem tail_row (h : Star L w) (hx : tailE e size A n c xs ∈ L) : Rd w size A n xs := Tail.rd (h.all _ hx)
theorem tail_freeze (h : Star (tailE e size A n c xs :: L) w) : Star (rowE size A n xs :: L) w :=
  h.as_ rfl (fun k ⟨ad, e, _, hk⟩ => ⟨ad, e, hk⟩) fun h => Tail.rd h
/-- The first k elements are cut off. -/
theorem tail_cut (h : Star (tailE e size A n c xs :: L) w) {k : Nat} (hk : k ≤ n) :
    Star (tailE e size (if c = k then A else A.map (·.add (k * size))) (n - k) (c - k) (xs.drop (k * size)) :: L) w :=
  h.as_ rfl (fun j ⟨ad, e, hj⟩ => by
    split at e
    · exact ⟨ad, e, hj⟩
    · cases A with
      | none => cases e
      | some ad2 => injection e with e; subst e; exact ⟨ad2, rfl, by rw [hj, block_of_add]⟩) fun h => by
    obtain ⟨h1, h2, h3, ⟨rfl, rfl⟩ | ⟨g, off, cur, rfl, hb, hs, hx⟩⟩ := h
    · exact ⟨by rw [List.length_drop, h1, Nat.sub_mul], by omega, by omega, .inl ⟨by split <;> rfl, by omega⟩⟩
    · refine ⟨by rw [List.length_drop, h1, Nat.sub_mul], by omega, by omega, .inr ?_⟩
      have hks : k * size ≤ c * size := Nat.mul_le_mul_right _ (by omega)
      by_cases hc : c = k
      · subst hc
        obtain rfl : n = c := by omega
        refine ⟨g, off, cur, by simp, hb, by simp; omega, ?_⟩
        rw [Nat.sub_self, Nat.zero_mul, List.take_zero, List.drop_of_length_le (by omega)]
      · refine ⟨g, off + k * size, cur, by rw [if_neg hc]; simp [add_lit], hb, by rw [Nat.sub_mul]; omega, ?_⟩
        rw [← hx, ← List.drop_drop, List.drop_take, Nat.sub_mul]
end Star
theorem Tail.first {w : World} {e : TypeId} {size : Nat} {A : Option Addr} {n c : Nat} {xs : List Value} (h : Tail w e size A n c xs) (P : Program) : (Builtin.firstCells size n (.slice A n c)).run P w = .ok xs.toArray w := by
  obtain ⟨h1, h2, h3, ⟨rfl, rfl⟩ | ⟨g, off, cur, rfl, hb, hs, hx⟩⟩ := h
  · obtain rfl : n = 0 := by omega
    obtain rfl : xs = [] := List.eq_nil_of_length_eq_zero (by simpa using h1)
    exact run_firstCells_none w size 0 0 0
  · have hn : n * size ≤ c * size := Nat.mul_le_mul_right _ h2
    exact run_firstCells_some w size n _ n c xs h1 fun j u hu => by
      rw [add_lit, hb.cell]
      rw [← hx, List.getElem?_take] at hu
      split at hu
      · rw [List.getElem?_drop] at hu; simpa using hu
      · cases hu
section
variable {P : Program} {w : World} {ops : Array Oper} {o : Oper} {a : Act} {Q : Exit → Act → World → Prop} {L R : List SProp} {K : Act → World → Prop}
theorem src_row {size : Nat} {tx e' : TypeId} (hk : P.underlying tx = some (.slice e')) {A : Option Addr} {n : Nat} (c : Nat) {xs : List Value} (h : Rd w size A n xs) (h1 : ∀ u ∈ xs, u.oneCell' = true) : Src P size tx (.slice A n c) n xs w := by
  rcases Nat.eq_zero_or_pos n with rfl | hn
  · obtain rfl : xs = [] := List.eq_nil_of_length_eq_zero (by simpa using h.1)
    cases A with
    | none => exact Src.ofNil w hk c
    | some ad => exact Src.ofSlice w hk ad 0 c [] (by simp) (fun j u hu => by cases hu) (fun _ h => by cases h)
  · obtain ⟨ad, rfl, _, hc⟩ := h.2 hn
    exact Src.ofSlice w hk ad n c xs h.1 hc h1
theorem src_str {tx : TypeId} (hk : P.underlying tx = some .string) (l : List UInt8) : Src P 1 tx (.string ⟨l.toArray⟩) l.length (bvs l) w := by
  have h := Src.ofString (P := P) w hk ⟨l.toArray⟩
  have e1 : byteCells ⟨l.toArray⟩ = bvs l := by simp [byteCells, bvs, bv]
  rw [e1] at h
  exact h
/-- append onto a tail. -/
theorem ws_app (hM : Star L w) {s x : Operand} {t tx : TypeId} (ho : o.op = .call { callee := .builtin .append, args := #[s, x], argTypes := #[t, tx] })
    {B : Option Addr} {n c0 : Nat} (hs : a.eval s = .slice B n c0)
    (e : TypeId) (z : Value) (size bytes : Nat) (ht : P.underlying t = some (.slice e)) (hi : (P.info? e).map (fun i => (i.zero, i.size, i.bytes)) = some (some z, size, bytes)) (hzs : z.cells.size = size)
    {xs : List Value} (hb : Take (tailE e size B n c0 xs) L R) {m : Nat} {news : List Value} (hr : Src P size tx (a.eval x) m news w) (hbytes : (n + m) * (bytes + 1) ≤ 140737488355328)
    (h : ∀ A' c' w1, Star (tailE e size A' (n + m) c' (xs ++ news) :: R) w1 → K (a.put o.dst (.slice A' (n + m) c')) w1) : Oper.wp P o a w K Q := by
  obtain ⟨i, hi0, hz, hsize, hby⟩ := info_parts hi
  have hb2 : (n + m) * bytes ≤ 140737488355328 := Nat.le_trans (Nat.mul_le_mul_left _ (Nat.le_succ _)) hbytes
  have h63 : n + m ≤ maxLen := by
    have : (n + m) * 1 ≤ (n + m) * (bytes + 1) := Nat.mul_le_mul_left _ (by omega)
    unfold maxLen; omega
  have hT : Tail w e size B n c0 xs := (hM.take hb).head
  have hT' : Tail w.drew e size B n c0 xs := hT
  have hfirst := hT'.first P
  subst hsize hby
  unfold Oper.wp execOp
  simp only [ho, resolve, invoke, builtin, Sem.run_bind, Sem.run_pure, Result.andThen_ok, List.map_toArray, List.map_cons, List.map_nil, hs]
  have hnl := hr.newsLen
  by_cases hroom : n + m ≤ c0
  · obtain ⟨h1, h2, h3, ⟨rfl, rfl⟩ | ⟨g, off, cur, rfl, hB, hS, hX⟩⟩ := hT
    · obtain ⟨rfl, rfl⟩ : n = 0 ∧ m = 0 := by omega
      obtain rfl : xs = [] := List.eq_nil_of_length_eq_zero (by simpa using h1)
      obtain rfl : news = [] := List.eq_nil_of_length_eq_zero (by simpa using hnl)
      have hrun : (Builtin.append_ #[t, tx] o.type #[.slice none 0 0, a.eval x]).run P w = .ok (.slice none 0 0) w := by
        rcases hr.kind with ⟨e', hk⟩ | hk <;> simp [Builtin.append_, run_underlying ht, run_underlying hk, sizeOf, typeInfo, hi0, hr.len, hr.cells]
      rw [hrun]
      exact h none 0 w (by simpa using hM.take hb)
    · have hmc : (n + m) * i.size ≤ c0 * i.size := Nat.mul_le_mul_right _ hroom
      rw [Nat.add_mul] at hmc
      have hrun : (Builtin.append_ #[t, tx] o.type #[.slice (some ⟨g, off, none⟩) n c0, a.eval x]).run P w = .ok (.slice (some ⟨g, off, none⟩) (n + m) c0) (w.setRow g (cur.toList.take (off + n * i.size) ++ news ++ cur.toList.drop (off + n * i.size + m * i.size)).toArray) := by
        have hst := run_storeCells_at P g (off + n * i.size) e news 0 cur w hB (by rw [hnl]; omega) hr.one
        simp only [Nat.add_zero, hnl] at hst
        rcases hr.kind with ⟨e', hk⟩ | hk <;> simp [Builtin.append_, run_underlying ht, run_underlying hk, sizeOf, typeInfo, hi0, hr.len, hroom, hr.cells, Addr.add_lit, hst]
      rw [hrun]
      refine h _ _ _ ((hM.take hb).put (bs := [g]) rfl (setRow_ch w g _) (fun b hb => .inl (by rcases List.mem_singleton.1 hb with rfl; exact ⟨_, rfl, rfl⟩)) ⟨?_, hroom, h3, .inr ⟨g, off, _, rfl, setRow_blk hB _, ?_, ?_⟩⟩ fun k hk => .inl hk)
      · rw [List.length_append, h1, hnl, Nat.add_mul]
      · simp only [List.size_toArray, List.length_append, List.length_take, List.length_drop, Array.length_toList, hnl]; omega
      · simp only [List.toList_toArray]
        have hto : (cur.toList.take (off + n * i.size)).drop off = xs := by rw [← hX, List.drop_take]; congr 1; omega
        have hl1 : off ≤ (cur.toList.take (off + n * i.size)).length := by simp; omega
        rw [List.append_assoc, List.drop_append_of_le_length hl1, hto, ← List.append_assoc]
        rw [List.take_append_of_le_length (by rw [List.length_append, h1, hnl, Nat.add_mul]; omega)]
        rw [List.take_of_length_le (by rw [List.length_append, h1, hnl, Nat.add_mul]; omega)]
  · have hrun := run_append_grow_src (P := P) w t tx o.type e i z ht hi0 hz B n c0 xs hfirst (a.eval x) m news hr (by omega) (by unfold maxLen at h63; omega) (growslice_fits (by omega) hb2)
    rw [hrun]
    have hge := grownCap_ge w (n + m) c0 e
    have hcm : grownCap w (n + m) c0 e ≤ maxLen := grownCap_le_maxLen w (n + m) c0 e h63
    obtain ⟨h1, h2, h3, _⟩ := hT
    have hlen : (xs ++ news).length = (n + m) * i.size := by rw [List.length_append, h1, hnl, Nat.add_mul]
    refine h _ _ _ ((hM.drop_ hb).new_ ((Ch.refl _ _).drew.alloc _) ⟨hlen, hge, hcm, .inr ⟨w.heap.size, 0, _, rfl, heap_alloc_new w.drew _, ?_, ?_⟩⟩ fun k ⟨ad, e, hk⟩ => by injection e with e; subst e; rw [hk]; exact Nat.le_refl _)
    · simp only [Array.size_append, List.size_toArray, size_zeroCells, hzs, hlen, ← Nat.add_mul, Nat.zero_add]
      rw [show n + m + (grownCap w (n + m) c0 e - (n + m)) = grownCap w (n + m) c0 e by omega]
      exact Nat.le_refl _
    · simp only [Array.toList_append, List.drop_zero]
      rw [← hlen]
      exact List.take_left
/-- []T{x, ..}, that is written at its end. -/
theorem ws_slice_tail (hM : Star L w) {t : TypeId} {n : Nat} {xs : Array (Nat × Operand)} (ho : o.op = .buildSlice t n xs) (e : TypeId) (size : Nat) (z : Value) (vs : List Value) (ht : P.underlying t = some (.slice e)) (hi : (P.info? e).map (fun i => (i.zero, i.size)) = some (some z, size))
    (hx : (xs.toList.map fun p => (p.1, a.eval p.2)) = vs.zipIdx.map fun p => (p.2, p.1)) (hv : ∀ v ∈ vs, v.cells.size = size) (hn : vs.length = n) (hsm : n * size ≤ 16777216) (hsm2 : n ≤ 16777216) {cs : List Value} (hcs : (vs.flatMap fun v => v.cells.toList) = cs)
    (h : ∀ g w1, Star (tailE e size (some ⟨g, 0, none⟩) n n cs :: L) w1 → K (a.put o.dst (.slice (some ⟨g, 0, none⟩) n n)) w1) : Oper.wp P o a w K Q :=
  ws_slice_own hM ho e size z vs ht hi hx hv hn hsm hsm2 hcs fun g w1 hM => h g w1 hM.tail_of_own
end
end Go.Proofs.Ythjceppddmecdaa
