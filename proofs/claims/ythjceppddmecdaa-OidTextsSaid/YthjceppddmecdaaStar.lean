/- What is known of memory as one list of parts that don't touch each other ('Star'); each operation turns the list. No condition but those that each theorem names. -/
import Derived.Test.YthjceppddmecdaaArr
set_option linter.unusedSimpArgs false
set_option linter.unusedVariables false
namespace Go.Proofs.Ythjceppddmecdaa
open Go.RowKit

/-- w' has what w has in the blocks of fp. -/
structure Off (fp : Nat → Prop) (w w' : World) : Prop where
  os : w'.os = w.os
  tape : w'.tape = w.tape
  output : w'.output = w.output
  size : w.heap.size ≤ w'.heap.size
  block : ∀ k, fp k → w'.heap[k]? = w.heap[k]?
/-- A part of memory: its blocks, may it be written, what holds of it. -/
structure SProp where
  fp : Nat → Prop
  ro : Bool
  holds : World → Prop
  lt : ∀ w, holds w → ∀ k, fp k → k < w.heap.size
  stable : ∀ w w', Off fp w w' → holds w → holds w'
def compat (x y : SProp) : Prop := (x.ro = true ∧ y.ro = true) ∨ ∀ k, x.fp k → ¬ y.fp k
theorem compat.symm {x y : SProp} (h : compat x y) : compat y x := h.elim (fun h => .inl ⟨h.2, h.1⟩) fun h => .inr fun k h1 h2 => h k h2 h1
structure Star (L : List SProp) (w : World) : Prop where
  all : ∀ x ∈ L, x.holds w
  pair : L.Pairwise compat
inductive Take (x : SProp) : List SProp → List SProp → Prop
  | head {L : List SProp} : Take x (x :: L) L
  | tail {y : SProp} {L R : List SProp} : Take x L R → Take x (y :: L) (y :: R)
theorem Take.perm {x : SProp} {L R : List SProp} (h : Take x L R) : L.Perm (x :: R) := by
  induction h with
  | head => exact List.Perm.refl _
  | tail _ ih => exact (List.Perm.cons _ ih).trans (List.Perm.swap _ _ _)
namespace Star
variable {L R : List SProp} {x y : SProp} {w w' : World} {bs : List Nat}
theorem perm (h : Star L w) (hp : L.Perm R) : Star R w := ⟨fun x hx => h.all x (hp.mem_iff.2 hx), (hp.pairwise_iff (fun h => compat.symm h)).1 h.pair⟩
theorem take (h : Star L w) (ht : Take x L R) : Star (x :: R) w := h.perm ht.perm
theorem mem_lt (h : Star L w) (hx : x ∈ L) (k : Nat) (hk : x.fp k) : k < w.heap.size := x.lt w (h.all x hx) k hk
theorem head (h : Star (x :: L) w) : x.holds w := h.all x List.mem_cons_self
theorem tail (h : Star (x :: L) w) : Star L w := ⟨fun y hy => h.all y (List.mem_cons_of_mem _ hy), (List.pairwise_cons.1 h.pair).2⟩
theorem drop_ (h : Star L w) (ht : Take x L R) : Star R w := (h.take ht).tail
theorem sub (h : Star L w) (hs : R.Sublist L) : Star R w := ⟨fun y hy => h.all y (hs.subset hy), h.pair.sublist hs⟩
theorem step (h : Star L w) (hc : Ch [] w w') : Star L w' :=
  ⟨fun y hy => y.stable w w' ⟨hc.os, hc.tape, hc.output, hc.size, fun k hk => hc.block k (h.mem_lt hy k hk) (by simp)⟩ (h.all y hy), h.pair⟩
theorem drew (h : Star L w) : Star L w.drew := h.step ((Ch.refl _ _).drew)
theorem drewN (h : Star L w) (n : Nat) : Star L (w.drewN n) := h.step ((Ch.refl _ _).drewN n)
/-- One part is written, or made anew. -/
theorem put (h : Star (x :: L) w) (hm : x.ro = false) (hc : Ch bs w w') (hb : ∀ b ∈ bs, x.fp b ∨ w.heap.size ≤ b) (hy : y.holds w') (hf : ∀ k, y.fp k → x.fp k ∨ w.heap.size ≤ k) : Star (y :: L) w' := by
  have hx := List.pairwise_cons.1 h.pair
  have hd : ∀ z ∈ L, ∀ k, x.fp k → ¬ z.fp k := fun z hz => by
    rcases hx.1 z hz with h1 | h1
    · rw [hm] at h1; cases h1.1
    · exact h1
  have hl : ∀ z ∈ L, ∀ k, z.fp k → k < w.heap.size := fun z hz k hk => h.mem_lt (List.mem_cons_of_mem _ hz) k hk
  refine ⟨fun z hz => ?_, List.pairwise_cons.2 ⟨fun z hz => .inr fun k hk hk2 => ?_, hx.2⟩⟩
  · rcases List.mem_cons.1 hz with rfl | hz
    · exact hy
    · refine z.stable w w' ⟨hc.os, hc.tape, hc.output, hc.size, fun k hk => hc.block k (hl z hz k hk) fun hb2 => ?_⟩ (h.tail.all z hz)
      rcases hb k hb2 with h1 | h1
      · exact hd z hz k h1 hk
      · have := hl z hz k hk; omega
  · have h2 := hl z hz k hk2
    rcases hf k hk with h1 | h1
    · exact hd z hz k h1 hk2
    · omega
theorem new_ (h : Star L w) (hc : Ch [] w w') (hy : y.holds w') (hf : ∀ k, y.fp k → w.heap.size ≤ k) : Star (y :: L) w' := by
  have h2 := h.step hc
  refine ⟨fun z hz => ?_, List.pairwise_cons.2 ⟨fun z hz => .inr fun k hk hk2 => ?_, h2.pair⟩⟩
  · rcases List.mem_cons.1 hz with rfl | hz
    · exact hy
    · exact h2.all z hz
  · have := h.mem_lt hz k hk2
    have := hf k hk
    omega
theorem pair_mem {L : List SProp} {x y : SProp} (h : L.Pairwise compat) (hx : x ∈ L) (hy : y ∈ L) (hne : x ≠ y) : compat x y := by
  induction L with
  | nil => cases hx
  | cons z L ih =>
    obtain ⟨h1, h2⟩ := List.pairwise_cons.1 h
    rcases List.mem_cons.1 hx with e | kx
    · rcases List.mem_cons.1 hy with e2 | ky
      · exact absurd (e.trans e2.symm) hne
      · rw [e]; exact h1 _ ky
    · rcases List.mem_cons.1 hy with e2 | ky
      · rw [e2]; exact (h1 _ kx).symm
      · exact ih h2 kx ky
/-- A part that is only read may be read in another way too. -/
theorem view (h : Star L w) (hx : x ∈ L) (hr : x.ro = true) (hry : y.ro = true) (hf : ∀ k, y.fp k → x.fp k) (hy : y.holds w) : Star (y :: L) w := by
  refine ⟨fun z hz => ?_, List.pairwise_cons.2 ⟨fun z hz => ?_, h.pair⟩⟩
  · rcases List.mem_cons.1 hz with rfl | hz
    · exact hy
    · exact h.all z hz
  · rcases hz2 : z.ro with _ | _
    · refine .inr fun k hk hk2 => ?_
      have hne : x ≠ z := fun e => by rw [e, hz2] at hr; cases hr
      have hc := pair_mem h.pair hx hz hne
      rcases hc with h1 | h1
      · rw [hz2] at h1; cases h1.2
      · exact h1 k (hf k hk) hk2
    · exact .inl ⟨hry, hz2⟩
/-- A part without blocks. -/
theorem free (h : Star L w) (hf : ∀ k, ¬ y.fp k) (hy : y.holds w) : Star (y :: L) w := h.new_ (Ch.refl _ _) hy fun k hk => absurd hk (hf k)
/-- A part is seen otherwise. -/
theorem as_ (h : Star (x :: L) w) (hm : x.ro = false) (hf : ∀ k, y.fp k → x.fp k) (hy : x.holds w → y.holds w) : Star (y :: L) w :=
  h.put hm (Ch.refl [] _) (by simp) (hy h.head) fun k hk => .inl (hf k hk)
end Star

/-- A block that is known whole. -/
def cellsE (g : Nat) (t : TypeId) (cs : Array Value) : SProp where
  fp k := k = g
  ro := false
  holds w := Blk w g t cs
  lt w h k hk := by subst hk; exact h.lt
  stable w w' ho h := (ho.block g rfl).trans h
/-- A slice that is only read. -/
def rowE (size : Nat) (A : Option Addr) (n : Nat) (xs : List Value) : SProp where
  fp k := ∃ ad, A = some ad ∧ 0 < n ∧ k = ad.block
  ro := true
  holds w := Rd w size A n xs
  lt w h k hk := by
    obtain ⟨ad, rfl, hn, rfl⟩ := hk
    obtain ⟨ad', e, h1, _⟩ := h.2 hn
    injection e with e
    subst e
    exact h1
  stable w w' ho h := h.keep ho.size fun ad e hn p hp => World.cell?_of_block (ho.block _ ⟨ad, e, hn, hp⟩)
/-- A slice of the call's own, to which is appended. -/
def ownE (e : TypeId) (size : Nat) (A : Option Addr) (n c : Nat) (xs : List Value) : SProp where
  fp k := ∃ ad, A = some ad ∧ k = ad.block
  ro := false
  holds w := w.ownsRow 0 e size (.slice A n c) n xs
  lt w h k hk := by
    obtain ⟨ad, rfl, rfl⟩ := hk
    exact (h.lt ad.block rfl).2
  stable w w' ho h := by
    refine ⟨h.1, ?_⟩
    rcases h.2 with h1 | ⟨g, cap, cur, hv, h2, h3, h4⟩
    · exact .inl h1
    · injection hv with hA hn hc
      refine .inr ⟨g, cap, cur, by rw [hA, hc], h2, (ho.block g ⟨_, hA, rfl⟩).trans h3, h4⟩
/-- All that was there when the call began. -/
def oldE (w0 : World) : SProp where
  fp k := k < w0.heap.size
  ro := true
  holds w := Ch [] w0 w
  lt w h k hk := Nat.lt_of_lt_of_le hk h.size
  stable w w' ho h := ⟨ho.os.trans h.os, ho.tape.trans h.tape, ho.output.trans h.output, Nat.le_trans h.size ho.size, fun k hk hb => (ho.block k hk).trans (h.block k hk hb)⟩
/-- R: some of L's parts, in any order. -/
inductive Sel : List SProp → List SProp → Prop
  | refl {L : List SProp} : Sel L L
  | cons {x : SProp} {L M R : List SProp} : Take x L M → Sel M R → Sel L (x :: R)
  | drop {y : SProp} {L R : List SProp} : Sel L R → Sel (y :: L) R
theorem Star.cons_sub {x : SProp} {L R : List SProp} {w : World} (h : Star (x :: L) w) (hR : Star R w) (hs : ∀ y ∈ R, y ∈ L) : Star (x :: R) w :=
  ⟨fun z hz => by
    rcases List.mem_cons.1 hz with rfl | hz
    · exact h.head
    · exact hR.all z hz, List.pairwise_cons.2 ⟨fun z hz => (List.pairwise_cons.1 h.pair).1 z (hs z hz), hR.pair⟩⟩
theorem Sel.mem {L R : List SProp} (h : Sel L R) : ∀ y ∈ R, y ∈ L := by
  induction h with
  | refl => exact fun y h => h
  | cons ht _ ih =>
    intro y hy
    rcases List.mem_cons.1 hy with e | hy
    · rw [e]; exact ht.perm.mem_iff.2 List.mem_cons_self
    · exact ht.perm.mem_iff.2 (List.mem_cons_of_mem _ (ih y hy))
  | drop _ ih => exact fun y hy => List.mem_cons_of_mem _ (ih y hy)
theorem Star.sel {L R : List SProp} {w : World} (h : Star L w) (hs : Sel L R) : Star R w := by
  induction hs with
  | refl => exact h
  | cons ht hs ih => exact (h.take ht).cons_sub (ih (h.take ht).tail) hs.mem
  | drop _ ih => exact ih h.tail
namespace Star
variable {L R : List SProp} {x y : SProp} {w w' : World} {bs : List Nat} {g : Nat} {t : TypeId} {cs : Array Value} {size n c : Nat} {A : Option Addr} {xs : List Value}
theorem start (w : World) : Star [oldE w] w := ⟨fun x hx => by rcases List.mem_singleton.1 hx with rfl; exact Ch.refl _ _, by simp⟩
theorem old {w0 : World} (h : Star L w) (hx : oldE w0 ∈ L) : Ch [] w0 w := h.all _ hx
theorem blk (h : Star L w) (hx : cellsE g t cs ∈ L) : Blk w g t cs := h.all _ hx
theorem row (h : Star L w) (hx : rowE size A n xs ∈ L) : Rd w size A n xs := h.all _ hx
theorem own {e : TypeId} (h : Star L w) (hx : ownE e size A n c xs ∈ L) : Rd w size A n xs := Rd.of_own (h.all (ownE e size A n c xs) hx)
theorem of_old {w0 : World} (h : Star L w) (hx : oldE w0 ∈ L) (hr : Rd w0 size A n xs) : Star (rowE size A n xs :: L) w :=
  h.view hx rfl rfl (fun k ⟨ad, e, hn, hk⟩ => by
    subst hk
    obtain ⟨ad', e', h1, _⟩ := hr.2 hn
    rw [e] at e'
    injection e' with e'
    rw [e']
    exact h1) (hr.ch0 (h.old hx))
theorem nilrow (size : Nat) (h : Star L w) : Star (rowE size none 0 [] :: L) w := h.free (fun k ⟨_, e, _⟩ => by cases e) Rd.none_
theorem nilown (e : TypeId) (size : Nat) (h : Star L w) : Star (ownE e size none 0 0 [] :: L) w := h.free (fun k ⟨_, e, _⟩ => by cases e) ⟨by simp, .inl ⟨rfl, rfl⟩⟩
/-- What is appended to no more. -/
theorem freeze {e : TypeId} (h : Star (ownE e size A n c xs :: L) w) : Star (rowE size A n xs :: L) w :=
  h.as_ rfl (fun k ⟨ad, e, _, hk⟩ => ⟨ad, e, hk⟩) fun h => Rd.of_own h
theorem row_take {k : Nat} (h : Star L w) (hx : rowE 1 A n xs ∈ L) (hk : k ≤ n) : Star (rowE 1 A k (xs.take k) :: L) w :=
  h.view hx rfl rfl (fun _ ⟨ad, e, h1, h2⟩ => ⟨ad, e, by omega, h2⟩) ((h.row hx).take_ hk)
theorem row_of_blk (h : Star (cellsE g t cs :: L) w) (hs : cs.size = n * size) : Star (rowE size (some ⟨g, 0, none⟩) n cs.toList :: L) w :=
  h.as_ rfl (fun k ⟨ad, e, _, hk⟩ => by injection e with e; subst e; exact hk) fun h => Rd.of_blk h hs
theorem mk_own {e : TypeId} (hc : Ch [] w w') (h : Star L w) (ho : w'.ownsRow w.heap.size e size (.slice A n c) n xs) : Star (ownE e size A n c xs :: L) w' :=
  h.new_ hc (by
    refine ⟨ho.1, ?_⟩
    rcases ho.2 with h1 | ⟨g, cap, cur, hv, h2, h3⟩
    · exact .inl h1
    · exact .inr ⟨g, cap, cur, hv, Nat.zero_le _, h3⟩) fun k ⟨ad, e, hk⟩ => by subst e; subst hk; exact (ho.lt ad.block rfl).1
end Star
/-- A contract of a call that makes memory alone, over a list. -/
theorem star0 {P : Program} {f : FuncId} {args : Array Value} {w : World} {v : Value} {L : List SProp} (h : Calls P f args w fun r w' => r = .returned v ∧ Ch [] w w') (hM : Star L w) :
    Calls P f args w fun r w' => r = .returned v ∧ Star L w' := h.mono fun _ _ ⟨h1, h2⟩ => ⟨h1, hM.step h2⟩
theorem starq {P : Program} {f : FuncId} {args : Array Value} {w : World} {v : Value} {L : List SProp} (h : Calls P f args w fun r w' => r = .returned v ∧ w = w') (hM : Star L w) :
    Calls P f args w fun r w' => r = .returned v ∧ Star L w' := h.mono fun _ _ ⟨h1, h2⟩ => ⟨h1, h2 ▸ hM⟩
/-- And back. -/
theorem unstar {P : Program} {f : FuncId} {args : Array Value} {w : World} {v : Value} (h : ∀ L, Star L w → Calls P f args w fun r w' => r = .returned v ∧ Star L w') :
    Calls P f args w fun r w' => r = .returned v ∧ Ch [] w w' := (h _ (Star.start w)).mono fun _ _ ⟨h1, h2⟩ => ⟨h1, h2.head⟩

/-- A type whose values are one cell. -/
def plainTy (P : Program) (t : TypeId) : Bool := match P.underlying t with | some (.struct _) | some (.array _ _) | none => false | _ => true
/-- A type of rows of so many cells. -/
def rowTy (P : Program) (t : TypeId) (n : Nat) : Bool := (match P.underlying t with | some (.struct _) | some (.array _ _) => true | _ => false) && (match P.info? t with | some i => i.size == n | none => false)
section
variable {P : Program} {w : World} {ops : Array Oper} {rest : List Oper} {o : Oper} {a : Act} {Q : Exit → Act → World → Prop} {L R : List SProp}
theorem rowTy_und {t : TypeId} {n : Nat} (h : rowTy P t n = true) : (∃ d, P.underlying t = some d ∧ (match d with | .struct _ | .array _ _ => true | _ => false) = true) ∧ (P.info? t).map (·.size) = some n := by
  unfold rowTy at h
  rw [Bool.and_eq_true] at h
  refine ⟨?_, ?_⟩
  · cases hq : P.underlying t with
    | none => rw [hq] at h; simp at h
    | some d => refine ⟨d, rfl, ?_⟩; rw [hq] at h; cases d <;> simp_all
  · cases hq : P.info? t with
    | none => rw [hq] at h; simp at h
    | some i => rw [hq] at h; simpa using h.2
variable {K : Act → World → Prop}
theorem ws_alloc (hM : Star L w) {t : TypeId} (ho : o.op = .alloc t) (zs : Array Value) (hz : (P.info? t).map (fun i => i.zero) = some (some (.agg zs)))
    (h : ∀ g w1, Star (cellsE g t zs :: L) w1 → K (a.put o.dst (.pointer (some ⟨g, 0, none⟩))) w1) : Oper.wp P o a w K Q := by
  cases hq : P.info? t with
  | none => simp [hq] at hz
  | some i =>
    have hz' : i.zero = some (.agg zs) := by simpa [hq] using hz
    unfold Oper.wp
    simp [execOp, ho, Instr.alloc, zeroValue, typeInfo, hq, hz', newVar, newRow, Value.cells]
    exact h _ _ (hM.new_ ((Ch.refl _ _).alloc _) (Blk.new w t zs) fun k hk => by rw [hk]; exact Nat.le_refl _)
theorem ws_alloc1 (hM : Star L w) {t : TypeId} (ho : o.op = .alloc t) (z : Value) (hz : (P.info? t).map (fun i => i.zero) = some (some z)) (h1 : z.cells = #[z])
    (h : ∀ g w1, Star (cellsE g t #[z] :: L) w1 → K (a.put o.dst (.pointer (some ⟨g, 0, none⟩))) w1) : Oper.wp P o a w K Q := by
  cases hq : P.info? t with
  | none => simp [hq] at hz
  | some i =>
    have hz' : i.zero = some z := by simpa [hq] using hz
    unfold Oper.wp
    simp [execOp, ho, Instr.alloc, zeroValue, typeInfo, hq, hz', newVar, newRow, h1]
    exact h _ _ (hM.new_ ((Ch.refl _ _).alloc _) (Blk.new w t #[z]) fun k hk => by rw [hk]; exact Nat.le_refl _)
theorem ws_box (hM : Star L w) {t : TypeId} {x : Operand} (ho : o.op = .box t x) {v : Value} (hx : a.eval x = v) {cs : Array Value} (hc : v.cells = cs)
    (h : ∀ g w1, Star (cellsE g t cs :: L) w1 → K (a.put o.dst (.pointer (some ⟨g, 0, none⟩))) w1) : Oper.wp P o a w K Q := by
  subst hc
  unfold Oper.wp
  simp [execOp, ho, hx, Instr.box, newVar, newRow]
  exact h _ _ (hM.new_ ((Ch.refl _ _).alloc _) (Blk.new w t v.cells) fun k hk => by rw [hk]; exact Nat.le_refl _)
theorem run_load1 (w : World) (ty : TypeId) (ad : Addr) (v : Value) (hp : plainTy P ty = true) (hc : w.cell? ad = some v) : (loadVar ty ad).run P w = .ok v w := by
  unfold plainTy at hp
  cases hq : P.underlying ty with
  | none => rw [hq] at hp; simp at hp
  | some d =>
    have hagg : (isAgg ty).run P w = .ok false w := by
      unfold isAgg
      rw [Sem.run_bind, run_underlying hq w]
      cases d <;> simp_all
    simp [loadVar, Sem.run_bind, hagg, hc, go_sem]
theorem ws_load1 (hM : Star L w) {ty : TypeId} {x : Operand} (ho : o.op = .load ty x) {g i : Nat} (hx : a.eval x = .pointer (some ⟨g, i, none⟩)) {t : TypeId} {cs : Array Value} (hb : cellsE g t cs ∈ L) {v : Value} (hv : cs[i]? = some v)
    (hp : plainTy P ty = true) (h : K (a.put o.dst v) w) : Oper.wp P o a w K Q := by
  have hr := run_load1 (P := P) w ty ⟨g, i, none⟩ v hp (((hM.blk hb).cell i).trans hv)
  unfold Oper.wp execOp
  simp only [ho, hx, Instr.loadAt, Instr.sureAddr, Sem.run_bind, Sem.run_pure, Result.andThen_ok, hr]
  exact h
theorem ws_load_at {ty : TypeId} {x : Operand} (ho : o.op = .load ty x) {ad : Addr} (hx : a.eval x = .pointer (some ad)) (cs : List Value) (hc : ∀ j v, cs[j]? = some v → w.cell? (ad.add j) = some v) {n : Nat} (hn : cs.length = n) (hp : rowTy P ty n = true)
    (h : K (a.put o.dst (.agg cs.toArray)) w) : Oper.wp P o a w K Q := by
  obtain ⟨⟨d, h1, h2⟩, h3⟩ := rowTy_und hp
  unfold Oper.wp execOp
  simp only [ho, hx, Instr.loadAt, Instr.sureAddr, Sem.run_bind, Sem.run_pure, Result.andThen_ok, run_loadVar_at w ad ty cs d hc h1 (by cases d <;> simp_all) (by rw [h3, hn])]
  exact h
/-- A block is read whole. -/
theorem ws_load (hM : Star L w) {ty : TypeId} {x : Operand} (ho : o.op = .load ty x) {g : Nat} (hx : a.eval x = .pointer (some ⟨g, 0, none⟩)) {t : TypeId} {cs : Array Value} (hb : cellsE g t cs ∈ L)
    {n : Nat} (hn : cs.size = n) (hp : rowTy P ty n = true) (h : K (a.put o.dst (.agg cs)) w) : Oper.wp P o a w K Q :=
  ws_load_at ho hx cs.toList (fun j v hj => by rw [add_lit, Nat.zero_add, (hM.blk hb).cell]; simpa using hj) (by simpa using hn) hp (by simpa using h)
/-- Cells in the midst of a block. -/
theorem ws_load_mid (hM : Star L w) {ty : TypeId} {x : Operand} (ho : o.op = .load ty x) {g i : Nat} (hx : a.eval x = .pointer (some ⟨g, i, none⟩)) {t : TypeId} {cs : Array Value} (hb : cellsE g t cs ∈ L)
    (vs : List Value) (hv : ∀ j v, vs[j]? = some v → cs[i + j]? = some v) {n : Nat} (hn : vs.length = n) (hp : rowTy P ty n = true) (h : K (a.put o.dst (.agg vs.toArray)) w) : Oper.wp P o a w K Q :=
  ws_load_at ho hx vs (fun j v hj => by rw [add_lit, (hM.blk hb).cell]; exact hv j v hj) hn hp h
/-- Cells are written, from i on. -/
theorem ws_store_at (hM : Star L w) {ty : TypeId} {x y : Operand} (ho : o.op = .store ty x y) {g i : Nat} (hx : a.eval x = .pointer (some ⟨g, i, none⟩)) {v : Value} (hy : a.eval y = v) {t : TypeId} {old : Array Value} (hb : Take (cellsE g t old) L R)
    (n : Nat) (hn : v.cells.size = n) (hi : i + n ≤ old.size) (hs : (P.info? ty).map (·.size) = some n) (h1 : ∀ u ∈ v.cells.toList, u.oneCell' = true)
    {cs : Array Value} (hcs : (old.toList.take i ++ v.cells.toList ++ old.toList.drop (i + n)).toArray = cs)
    (h : ∀ w1, Star (cellsE g t cs :: R) w1 → K (a.put o.dst undef) w1) : Oper.wp P o a w K Q := by
  subst hcs hn
  have hB : Blk w g t old := (hM.take hb).head
  have hst := run_storeCells_at P g i t v.cells.toList 0 old w hB (by simpa using hi) h1
  have hrun : (storeVar ty ⟨g, i, none⟩ v).run P w = .ok () (w.setRow g (old.toList.take i ++ v.cells.toList ++ old.toList.drop (i + v.cells.size)).toArray) := by
    cases hq : P.info? ty with
    | none => simp [hq] at hs
    | some j =>
      have hsz : j.size = v.cells.size := by simpa [hq] using hs
      simp only [Nat.add_zero, Array.length_toList] at hst
      simp [storeVar, sizeOf, typeInfo, hq, hsz, hst]
  unfold Oper.wp execOp
  simp only [ho, hx, hy, Instr.storeAt, Instr.sureAddr, Sem.run_bind, Sem.run_pure, Result.andThen_ok, hrun]
  exact h _ ((hM.take hb).put (bs := [g]) rfl (setRow_ch w g _) (fun b hb => .inl (List.mem_singleton.1 hb)) (setRow_blk hB _) fun k hk => .inl hk)
theorem ws_store (hM : Star L w) {ty : TypeId} {x y : Operand} (ho : o.op = .store ty x y) {g : Nat} (hx : a.eval x = .pointer (some ⟨g, 0, none⟩)) {cs : Array Value} (hy : a.eval y = .agg cs) {t : TypeId} {old : Array Value} (hb : Take (cellsE g t old) L R)
    {n : Nat} (hn : cs.size = n) (hn2 : old.size = n) (hp : (P.info? ty).map (·.size) = some n) (h1 : ∀ v ∈ cs.toList, v.oneCell' = true)
    (h : ∀ w1, Star (cellsE g t cs :: R) w1 → K (a.put o.dst undef) w1) : Oper.wp P o a w K Q :=
  ws_store_at hM ho hx hy hb n hn (by omega) hp h1 (by subst hn; simp only [Value.cells, List.take_zero, List.nil_append]; rw [List.drop_of_length_le (by simp; omega)]; simp) h
theorem ws_store1 (hM : Star L w) {ty : TypeId} {x y : Operand} (ho : o.op = .store ty x y) {g i : Nat} (hx : a.eval x = .pointer (some ⟨g, i, none⟩)) {v : Value} (hy : a.eval y = v) (hv1 : v.oneCell' = true) {t : TypeId} {old : Array Value} (hb : Take (cellsE g t old) L R)
    (hi : i < old.size) (hs : (P.info? ty).map (·.size) = some 1) {cs : Array Value} (hcs : old.setIfInBounds i v = cs)
    (h : ∀ w1, Star (cellsE g t cs :: R) w1 → K (a.put o.dst undef) w1) : Oper.wp P o a w K Q := by
  have hvc : v.cells = #[v] := by cases v <;> simp_all [Value.oneCell', Value.cells]
  refine ws_store_at hM ho hx hy hb 1 (by rw [hvc]; rfl) (by omega) hs (by rw [hvc]; simpa using hv1) ?_ h
  rw [← hcs, hvc]
  apply Array.toList_inj.1
  rw [Array.toList_setIfInBounds, List.set_eq_take_append_cons_drop, if_pos (by simpa using hi)]
  simp
/-- []byte(s). -/
theorem ws_bytes (hM : Star L w) {src dst : TypeId} {x : Operand} (ho : o.op = .convert src dst x) (e : TypeId)
    (hs : P.underlying src = some .string) (hd : P.underlying dst = some (.slice e)) (he : P.underlying e = some (.int .u8)) {l : List UInt8} (hx : a.eval x = .string ⟨l.toArray⟩)
    (h : ∀ g c w1, Star (rowE 1 (some ⟨g, 0, none⟩) l.length (bvs l) :: L) w1 → l.length ≤ c → K (a.put o.dst (.slice (some ⟨g, 0, none⟩) l.length c)) w1) : Oper.wp P o a w K Q := by
  have hr := run_bytes_of_string (P := P) w src dst e ⟨l.toArray⟩ hs hd he
  unfold Oper.wp
  simp only [execOp, ho, hx, Sem.run_bind, hr, Result.andThen_ok, Sem.run_pure]
  refine h _ _ _ (hM.new_ ((Ch.refl _ _).drew.alloc _) (y := rowE 1 (some ⟨w.heap.size, 0, none⟩) l.length (bvs l)) ⟨by simp [bvs_len], fun _ => ⟨_, rfl, ?_, fun j u hu => ?_⟩⟩ fun k ⟨ad, e, _, hk⟩ => by injection e with e; subst e; rw [hk]; exact Nat.le_refl _) (grownCap_ge _ _ _ _)
  · simp
  · rw [add_lit, Nat.zero_add]
    have hlt : j < l.length := by have := (List.getElem?_eq_some_iff.1 hu).1; simpa [bvs_len] using this
    show (w.drew.alloc _).cell? ⟨w.drew.heap.size, j, none⟩ = _
    rw [World.cell?_alloc_mark, bytesRow_at _ _ _ (by simpa using hlt)]
    rw [bvs_get l j hlt] at hu
    simpa using hu
/-- string(b). -/
theorem ws_string {src dst : TypeId} {x : Operand} (ho : o.op = .convert src dst x) (e : TypeId)
    (hs : P.underlying src = some (.slice e)) (hd : P.underlying dst = some .string) (he : P.underlying e = some (.int .u8)) {A : Option Addr} {n c : Nat} (hx : a.eval x = .slice A n c) {l : List UInt8} (hr : Rd w 1 A n (bvs l))
    (h : K (a.put o.dst (.string ⟨l.toArray⟩)) w) : Oper.wp P o a w K Q := by
  have hn : n = l.length := by have := hr.1; rw [bvs_len] at this; omega
  subst hn
  have hrun : (convert src dst (.slice A l.length c)).run P w = .ok (.string ⟨l.toArray⟩) w := by
    rcases Nat.eq_zero_or_pos l.length with h0 | h0
    · have hl : l = [] := List.eq_nil_of_length_eq_zero h0
      subst hl
      rw [run_convert_bytes_string w src dst e A _ c hs he hd]
      cases A with
      | none => rfl
      | some ad => simp [Conv.bytesToString, loadCells]; rfl
    · obtain ⟨ad, rfl, hb, hc⟩ := hr.2 h0
      exact run_convert_bytes_back w src dst e ad c l hs he hd fun j hj => hc j _ (bvs_get l j hj)
  unfold Oper.wp
  simp only [execOp, ho, hx, Sem.run_bind, hrun, Result.andThen_ok, Sem.run_pure]
  exact h
/-- append. -/
theorem ws_append (hM : Star L w) {s x : Operand} {t : TypeId} (ho : o.op = .call { callee := .builtin .append, args := #[s, x], argTypes := #[t, t] })
    {B : Option Addr} {n c0 : Nat} (hs : a.eval s = .slice B n c0) {A : Option Addr} {m c : Nat} (hx : a.eval x = .slice A m c)
    (e : TypeId) (z : Value) (size bytes : Nat) (ht : P.underlying t = some (.slice e)) (hi : (P.info? e).map (fun i => (i.zero, i.size, i.bytes)) = some (some z, size, bytes)) (hzs : z.cells.size = size) (hsz : 0 < size)
    {xs news : List Value} (hb : Take (ownE e size B n c0 xs) L R) (hr : Rd w size A m news) (h1 : ∀ u ∈ news, u.oneCell' = true) (hbytes : (n + m) * (bytes + 1) ≤ 140737488355328)
    (h : ∀ A' c' w1, Star (ownE e size A' (n + m) c' (xs ++ news) :: R) w1 → (A' = none → xs = [] ∧ m = 0) → K (a.put o.dst (.slice A' (n + m) c')) w1) : Oper.wp P o a w K Q := by
  obtain ⟨i, hi0, hz, hsize, hby⟩ := info_parts hi
  have hb2 : (n + m) * bytes ≤ 140737488355328 := Nat.le_trans (Nat.mul_le_mul_left _ (Nat.le_succ _)) hbytes
  have h63 : n + m ≤ maxLen := by
    have : (n + m) * 1 ≤ (n + m) * (bytes + 1) := Nat.mul_le_mul_left _ (by omega)
    unfold maxLen; omega
  have hown : w.ownsRow 0 e size (.slice B n c0) n xs := (hM.take hb).head
  obtain ⟨v', w', hrun, h2, h3, h4, h5⟩ := run_append_any (P := P) w 0 t o.type e i z size bytes ht hi0 hz hsize hby hzs hsz _ n xs hown A m c news hr h1 h63 hb2 (Nat.zero_le _)
  obtain ⟨A', c', rfl⟩ := own_form h2
  unfold Oper.wp execOp
  simp only [ho, resolve, invoke, builtin, Sem.run_bind, Sem.run_pure, Result.andThen_ok, List.map_toArray, List.map_cons, List.map_nil, hs, hx, hrun]
  have hC : Ch (obl B) w w' := Ch.of_grown h3 fun k hk => by rw [← obl_own B n c0, hk]; simp
  refine h A' c' w' ((hM.take hb).put (bs := obl B) rfl hC ?_ h2 ?_) ?_
  · intro b hb
    cases B with
    | none => cases hb
    | some ad => rcases List.mem_singleton.1 hb with rfl; exact .inl ⟨ad, rfl, rfl⟩
  · rintro k ⟨ad, rfl, rfl⟩
    rcases h4 with h4 | h4
    · cases B with
      | none => simp [Value.ownBlock] at h4
      | some ad2 => simp [Value.ownBlock] at h4; exact .inl ⟨ad2, rfl, h4⟩
    · simp [Value.ownBlock] at h4
      exact .inr (by omega)
  · intro hA
    subst hA
    rcases h2.2 with ⟨h6, h7⟩ | ⟨g, cap, cur, h6, _⟩
    · have hm : n = 0 ∧ m = 0 := by omega
      obtain ⟨rfl, rfl⟩ := hm
      exact ⟨List.eq_nil_of_length_eq_zero (by simpa using hown.1), rfl⟩
    · injection h6 with h6; cases h6
theorem fill_rows (size : Nat) : ∀ (vs : List Value) (k : Nat) (pre : List Value) (cells : Array Value), (∀ v ∈ vs, v.cells.size = size) → pre.length = k * size → cells.size = (k + vs.length) * size → cells.toList.take (k * size) = pre →
    Instr.fill (fun i => some (i * size, size)) cells ((vs.zipIdx k).map fun p => (p.2, p.1)) = some (pre ++ vs.flatMap fun v => v.cells.toList).toArray := by
  intro vs
  induction vs with
  | nil =>
    intro k pre cells _ hp hc ht
    simp only [List.zipIdx_nil, List.map_nil, Instr.fill, List.flatMap_nil, List.append_nil, Option.some.injEq]
    apply Array.toList_inj.1
    rw [← ht, List.take_of_length_le (by simp at hc ⊢; omega)]
  | cons v vs ih =>
    intro k pre cells hv hp hc ht
    have hsz := hv v List.mem_cons_self
    simp only [List.length_cons] at hc
    have hle : k * size + size ≤ cells.size := by rw [hc, show k + (vs.length + 1) = (k + 1) + vs.length by omega, Nat.add_mul, Nat.add_mul]; omega
    have hfold : ∀ (l : List Value) (j : Nat) (acc : Array Value), k * size + j + l.length ≤ acc.size → (l.zipIdx j).foldl (fun cs p => cs.setIfInBounds (k * size + p.2) p.1) acc = (acc.toList.take (k * size + j) ++ l ++ acc.toList.drop (k * size + j + l.length)).toArray := by
      intro l
      induction l with
      | nil => intro j acc hk; simp
      | cons u l ih2 =>
        intro j acc hk
        simp only [List.length_cons] at hk
        simp only [List.zipIdx_cons, List.foldl_cons]
        rw [ih2 (j + 1) _ (by simp; omega)]
        congr 1
        simp only [Array.toList_setIfInBounds, List.length_cons]
        rw [List.take_set, List.drop_set_of_lt (by omega), show k * size + (j + 1) = (k * size + j) + 1 by omega, List.take_succ_eq_append_getElem (by simp; omega), List.set_append]
        simp only [List.length_take, Array.length_toList]
        rw [Nat.min_eq_left (by omega), if_neg (by omega), Nat.sub_self]
        simp [show k * size + j + 1 + l.length = k * size + j + (l.length + 1) by omega]
    have hf := hfold v.cells.toList 0 cells (by simp; omega)
    simp only [List.zipIdx_cons, List.map_cons, Instr.fill, hsz, ne_eq, not_true_eq_false, decide_false, Bool.false_or]
    rw [if_neg (by simp; omega), ← Array.foldl_toList, Array.toList_zipIdx, hf]
    rw [ih (k + 1) (pre ++ v.cells.toList) _ (fun u hu => hv u (List.mem_cons_of_mem _ hu)) (by simp [hp, hsz, Nat.add_mul]) (by simp [hsz]; rw [Nat.min_eq_left (by omega), hc]; rw [show k + (vs.length + 1) = (k + 1) + vs.length by omega] at hc ⊢; rw [Nat.add_mul, Nat.add_mul]; rw [Nat.add_mul, Nat.add_mul] at hc; omega) ?_]
    · simp
    · simp only [Nat.add_zero, List.toList_toArray]
      rw [ht, List.take_append_of_le_length (by simp [hp, hsz, Nat.add_mul])]
      rw [List.take_of_length_le (by simp [hp, hsz, Nat.add_mul])]
/-- []T{x, ..}. -/
theorem run_slice (w : World) (t e : TypeId) (n size : Nat) (z : Value) (vs : List Value) (ht : P.underlying t = some (.slice e)) (hi : (P.info? e).map (fun i => (i.zero, i.size)) = some (some z, size)) (hv : ∀ v ∈ vs, v.cells.size = size) (hn : vs.length = n) (hsm : n * size ≤ 16777216)
    (ps : Array (Nat × Value)) (hps : ps.toList = vs.zipIdx.map fun p => (p.2, p.1)) :
    (Instr.buildSlice t n ps).run P w = .ok (.slice (some ⟨w.heap.size, 0, none⟩) n n) (w.alloc (.cells (vs.flatMap fun v => v.cells.toList).toArray e)) := by
  subst hn
  cases hq : P.info? e with
  | none => simp [hq] at hi
  | some i =>
    obtain ⟨hz0, hs0⟩ : i.zero = some z ∧ i.size = size := by simpa [hq] using hi
    have hfill : ∀ zero : Array Value, Instr.fill (fun i => some (i * size, size)) ((Array.range (vs.length * size)).map (zero[· % zero.size]!)) ps.toList = some (vs.flatMap fun v => v.cells.toList).toArray := fun zero => by
      rw [hps]
      exact fill_rows size vs 0 [] _ hv (by simp) (by simp) (by simp)
    have hsm' : ¬ (vs.length * size > 16777216) := by omega
    by_cases h0 : vs.length * size = 0
    · have h9 := hfill #[]
      rw [h0] at h9
      simp [Instr.buildSlice, run_underlying ht, sizeOf, typeInfo, hq, hs0, hsm', h0, newRow]
      have e9 : ∀ f : Nat → Value, Array.map f (Array.range 0) = #[] := fun f => by simp
      rw [e9] at h9 ⊢
      simp [h9]
    · simp [Instr.buildSlice, run_underlying ht, sizeOf, typeInfo, hq, hz0, hs0, zeroValue, hsm', h0, hfill, newRow]
theorem ws_slice (hM : Star L w) {t : TypeId} {n : Nat} {xs : Array (Nat × Operand)} (ho : o.op = .buildSlice t n xs) (e : TypeId) (size : Nat) (z : Value) (vs : List Value) (ht : P.underlying t = some (.slice e)) (hi : (P.info? e).map (fun i => (i.zero, i.size)) = some (some z, size))
    (hx : (xs.toList.map fun p => (p.1, a.eval p.2)) = vs.zipIdx.map fun p => (p.2, p.1)) (hv : ∀ v ∈ vs, v.cells.size = size) (hn : vs.length = n) (hsm : n * size ≤ 16777216) {cs : Array Value} (hcs : (vs.flatMap fun v => v.cells.toList).toArray = cs)
    (h : ∀ g w1, Star (cellsE g e cs :: L) w1 → K (a.put o.dst (.slice (some ⟨g, 0, none⟩) n n)) w1) : Oper.wp P o a w K Q := by
  subst hcs
  have hr := run_slice (P := P) w t e n size z vs ht hi hv hn hsm (xs.map fun p => (p.1, a.eval p.2)) (by rw [← hx]; simp)
  unfold Oper.wp
  simp only [execOp, ho, hr, Sem.run_bind, Sem.run_pure, Result.andThen_ok]
  exact h _ _ (hM.new_ ((Ch.refl _ _).alloc _) (Blk.new w e _) fun k hk => by rw [hk]; exact Nat.le_refl _)
/-- []T{x, ..}, only read from then on. -/
theorem ws_slice_row (hM : Star L w) {t : TypeId} {n : Nat} {xs : Array (Nat × Operand)} (ho : o.op = .buildSlice t n xs) (e : TypeId) (size : Nat) (z : Value) (vs : List Value) (ht : P.underlying t = some (.slice e)) (hi : (P.info? e).map (fun i => (i.zero, i.size)) = some (some z, size))
    (hx : (xs.toList.map fun p => (p.1, a.eval p.2)) = vs.zipIdx.map fun p => (p.2, p.1)) (hv : ∀ v ∈ vs, v.cells.size = size) (hn : vs.length = n) (hsm : n * size ≤ 16777216) {cs : List Value} (hcs : (vs.flatMap fun v => v.cells.toList) = cs)
    (h : ∀ g w1, Star (rowE size (some ⟨g, 0, none⟩) n cs :: L) w1 → K (a.put o.dst (.slice (some ⟨g, 0, none⟩) n n)) w1) : Oper.wp P o a w K Q := by
  have hl : cs.length = n * size := by
    subst hcs hn
    clear hx ho h hsm
    induction vs with
    | nil => simp
    | cons v vs ih => simp only [List.flatMap_cons, List.length_append, List.length_cons, Array.length_toList, hv v List.mem_cons_self, ih fun u hu => hv u (List.mem_cons_of_mem _ hu)]; rw [Nat.add_mul]; omega
  exact ws_slice hM ho e size z vs ht hi hx hv hn hsm (cs := cs.toArray) (by rw [hcs]) fun g w1 hM => h g w1 (by simpa using hM.row_of_blk (n := n) (size := size) (by simpa using hl))
/-- []T{x, ..}, to which is appended. -/
theorem ws_slice_own (hM : Star L w) {t : TypeId} {n : Nat} {xs : Array (Nat × Operand)} (ho : o.op = .buildSlice t n xs) (e : TypeId) (size : Nat) (z : Value) (vs : List Value) (ht : P.underlying t = some (.slice e)) (hi : (P.info? e).map (fun i => (i.zero, i.size)) = some (some z, size))
    (hx : (xs.toList.map fun p => (p.1, a.eval p.2)) = vs.zipIdx.map fun p => (p.2, p.1)) (hv : ∀ v ∈ vs, v.cells.size = size) (hn : vs.length = n) (hsm : n * size ≤ 16777216) (hsm2 : n ≤ 16777216) {cs : List Value} (hcs : (vs.flatMap fun v => v.cells.toList) = cs)
    (h : ∀ g w1, Star (ownE e size (some ⟨g, 0, none⟩) n n cs :: L) w1 → K (a.put o.dst (.slice (some ⟨g, 0, none⟩) n n)) w1) : Oper.wp P o a w K Q := by
  have hl : cs.length = n * size := by
    subst hcs hn
    clear hx ho h hsm hsm2
    induction vs with
    | nil => simp
    | cons v vs ih => simp only [List.flatMap_cons, List.length_append, List.length_cons, Array.length_toList, hv v List.mem_cons_self, ih fun u hu => hv u (List.mem_cons_of_mem _ hu)]; rw [Nat.add_mul]; omega
  exact ws_slice hM ho e size z vs ht hi hx hv hn hsm (cs := cs.toArray) (by rw [hcs]) fun g w1 hM => h g w1 (hM.as_ rfl (fun k ⟨ad, e, hk⟩ => by injection e with e; subst e; exact hk) fun hb => by
    have h9 := own_lit (base := 0) (size := size) (n := n) hb (Nat.zero_le _) (by unfold maxLen; omega) (by simpa using hl)
    rwa [List.toList_toArray] at h9)
/-- make([]T, n). -/
theorem ws_make (hM : Star L w) {t : TypeId} {x y : Operand} (ho : o.op = .makeSlice t x y) (e : TypeId) (i : TypeInfo) (z : Value) (ht : P.underlying t = some (.slice e)) (hi : P.info? e = some i) (hz : i.zero = some z) (hi1 : i.size = 1) (hz1 : z.cells = #[z]) (hby : i.bytes ≤ 16)
    {n : Nat} (hx : a.eval x = .int .i64 (n : Int)) (hy : a.eval y = .int .i64 (n : Int)) (hsm : n ≤ 1000000000)
    (h : ∀ g w1, Star (cellsE g e (List.replicate n z).toArray :: L) w1 → K (a.put o.dst (.slice (some ⟨g, 0, none⟩) n n)) w1) : Oper.wp P o a w K Q := by
  have hb : (i.bytes : Int) * (n : Int) ≤ 281474976710656 := by
    have h1 : i.bytes * n ≤ 16 * 1000000000 := Nat.mul_le_mul hby hsm
    have : ((i.bytes * n : Nat) : Int) ≤ 281474976710656 := by omega
    rwa [Int.natCast_mul] at this
  have hr := run_make (P := P) w t e i z ht hi hz .i64 .i64 n n (by omega) (by omega) hb (by omega)
  simp only [Int.toNat_natCast] at hr
  have hc : madeCells z.cells (n * i.size) = (List.replicate n z).toArray := by
    rw [hz1, hi1, Nat.mul_one]
    apply Array.ext
    · simp [madeCells]
    · intro j h1 h2
      simp [madeCells, Nat.mod_one]
  rw [hc] at hr
  unfold Oper.wp
  simp only [execOp, ho, hx, hy, hr, Sem.run_bind, Sem.run_pure, Result.andThen_ok]
  exact h _ _ (hM.new_ ((Ch.refl _ _).alloc _) (Blk.new w e _) fun k hk => by rw [hk]; exact Nat.le_refl _)
/-- copy(row[:], s). -/
theorem ws_copy_str (hM : Star L w) {d s : Operand} {dT sT : TypeId} (ho : o.op = .call { callee := .builtin .copy, args := #[d, s], argTypes := #[dT, sT] }) {g n c : Nat} (hd : a.eval d = .slice (some ⟨g, 0, none⟩) n c) {l : List UInt8} (hx : a.eval s = .string ⟨l.toArray⟩)
    (elem : TypeId) (hu : P.underlying dT = some (.slice elem)) (hs : (P.info? elem).map (·.size) = some 1) {t : TypeId} {old : List UInt8} (hb : Take (cellsE g t (bvs old).toArray) L R) (hn : n = old.length)
    (h : ∀ w1, Star (cellsE g t (bvs (over old l)).toArray :: R) w1 → K (a.put o.dst (goInt (Nat.min l.length n))) w1) : Oper.wp P o a w K Q := by
  have hg : Blk w g t (bvs old).toArray := (hM.take hb).head
  have hrun := run_copy_str (P := P) w dT sT o.type elem g n c t old l hu hs hg hn
  unfold Oper.wp
  simp only [execOp, ho, resolve, invoke, builtin, Sem.run_bind, Sem.run_pure, Result.andThen_ok, List.map_toArray, List.map_cons, List.map_nil, hd, hx, hrun]
  exact h _ ((hM.take hb).put (bs := [g]) rfl (setRow_ch w g _) (fun b hb => .inl (List.mem_singleton.1 hb)) (setRow_blk hg _) fun k hk => .inl hk)
/-- A step of a region. -/
theorem step_plain {E : Prop} (hgd : o.guard = none) (h : Oper.wp P o a w K Q) : if Region.wanted o (yielded ops a.tmps) = true then Oper.wp P o a w K Q else E := by
  have hw : Region.wanted o (yielded ops a.tmps) = true := by simp [Region.wanted, hgd]
  rw [if_pos hw]
  exact h
end
end Go.Proofs.Ythjceppddmecdaa
