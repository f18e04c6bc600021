/- What the laws share, part 1 (Base, Ops, Arr, Star, Lists, BaleP, BaleW, BaleE, BaleT, Id, BaleM, Reg, Tail, More, BaleS, Codec, LetP). No condition but those that each theorem names. -/
import Derived.Below
import Derived.BigQuiet
import Derived.BigRegion
import Derived.Deep.AppendLies
import Derived.Deep.AppendSrc
import Derived.Deep.Draws
import Derived.Deep.QuietTactic
import Derived.Deep.RegionLaw
import Derived.DeepKeys
import Derived.Laws.BitsAllLaws
import Derived.Laws.IdiomStrings
import Derived.Laws.OwnMore
import Derived.Laws.Rows
import Derived.Lib.Hide
import Derived.Maps.AppendAt
import Derived.OrdersHeld
import Derived.OwnWalk
import Derived.RegionTactic
import Derived.RowKit
import Derived.ShutString
import Derived.Test.YtnckgkgilnmocaaRows
import Derived.WalkKit
import Derived.WalkLawsBesides
import Derived.WalkSpells
set_option linter.unusedSimpArgs false
set_option linter.unusedVariables false
namespace Go.Proofs.Ytnckgkgilnmocaa
theorem mZ {α : Type _} {a : α} {l : List α} : a ∈ a :: l := List.mem_cons_self
theorem mS {α : Type _} {y a : α} {l : List α} : a ∈ l → a ∈ y :: l := List.mem_cons_of_mem y
open Go.RowKit
/-- Nothing that was there has turned but the blocks of the list. -/
structure Ch (bs : List Nat) (w w' : World) : Prop where
  os : w'.os = w.os
  tape : w'.tape = w.tape
  output : w'.output = w.output
  size : w.heap.size ≤ w'.heap.size
  block : ∀ k, k < w.heap.size → k ∉ bs → w'.heap[k]? = w.heap[k]?
namespace Ch
variable {bs cs : List Nat} {a w w' : World}
theorem refl (bs : List Nat) (w : World) : Ch bs w w := ⟨rfl, rfl, rfl, Nat.le_refl _, fun _ _ _ => rfl⟩
/-- The general step: what the second call turned was among the first's, or is new. -/
theorem step (h : Ch bs a w) (k : Ch cs w w') (hc : ∀ c ∈ cs, c ∈ bs ∨ a.heap.size ≤ c) : Ch bs a w' :=
  ⟨k.os.trans h.os, k.tape.trans h.tape, k.output.trans h.output, Nat.le_trans h.size k.size, fun i hi hb =>
    (k.block i (Nat.lt_of_lt_of_le hi h.size) (fun hm => by
      rcases hc i hm with h1 | h1
      · exact hb h1
      · omega)).trans (h.block i hi hb)⟩
theorem trans (h : Ch bs a w) (k : Ch bs w w') : Ch bs a w' := h.step k fun _ hc => .inl hc
theorem then_ (h : Ch bs a w) (k : Ch [] w w') : Ch bs a w' := h.step k fun _ hc => by cases hc
theorem one {b : Nat} (h : Ch bs a w) (k : Ch [b] w w') (hb : b ∈ bs ∨ a.heap.size ≤ b) : Ch bs a w' := h.step k fun c hc => by
  rcases List.mem_singleton.1 hc with rfl; exact hb
theorem mono (h : Ch bs a w) (hs : ∀ b ∈ bs, b ∈ cs) : Ch cs a w := ⟨h.os, h.tape, h.output, h.size, fun i hi hb => h.block i hi fun hm => hb (hs i hm)⟩
theorem more (h : Ch [] a w) : Ch bs a w := h.mono fun _ hb => by cases hb
theorem drew (h : Ch bs a w) : Ch bs a w.drew := ⟨h.os, h.tape, h.output, h.size, h.block⟩
theorem drewN (h : Ch bs a w) (n : Nat) : Ch bs a (w.drewN n) := ⟨h.os, h.tape, h.output, h.size, h.block⟩
theorem alloc (h : Ch bs a w) (o : Obj) : Ch bs a (w.alloc o) :=
  ⟨h.os, h.tape, h.output, Nat.le_trans h.size (by simp), fun i hi hb => (Below.heap_alloc w o i (Nat.lt_of_lt_of_le hi h.size)).trans (h.block i hi hb)⟩
theorem setCell (h : Ch bs a w) {p : Addr} (hp : p.block ∈ bs ∨ a.heap.size ≤ p.block) (u : Value) : Ch bs a (w.setCell p u) :=
  ⟨h.os, h.tape, h.output, by simpa [World.setCell] using h.size, fun i hi hb => (Below.heap_setCell w p u i (by
    rintro rfl
    rcases hp with h1 | h1
    · exact hb h1
    · omega)).trans (h.block i hi hb)⟩
theorem below (h : Ch [] a w) : Below a.heap.size a w := ⟨h.os, h.tape, h.output, h.size, fun i hi => h.block i hi (by simp)⟩
theorem of_grown {row : Option Nat} (h : a.grownBy w row) (hr : ∀ k, row = some k → k ∈ bs) : Ch bs a w :=
  ⟨h.os, h.tape, h.output, h.size, fun i hi hb => h.block i hi fun e => hb (hr i e.symm)⟩
theorem cell (h : Ch bs a w) {p : Addr} (hp : p.block < a.heap.size) (hb : p.block ∉ bs) : w.cell? p = a.cell? p := World.cell?_of_block (h.block _ hp hb)
theorem frozen (h : Ch bs a w) {p : Addr} (hp : p.block < a.heap.size) (hb : p.block ∉ bs) : w.frozen? p = a.frozen? p := World.frozen?_of_block (h.block _ hp hb)
end Ch
theorem block_of_add (a : Addr) (n : Nat) : (a.add n).block = a.block := by unfold Addr.add; split <;> rfl
theorem add_of_add (a : Addr) (i j : Nat) : (a.add i).add j = a.add (i + j) := by
  unfold Addr.add
  by_cases hi : i = 0 <;> by_cases hj : j = 0 <;> simp [hi, hj, Nat.add_assoc]
theorem add_zero (a : Addr) : a.add 0 = a := rfl
theorem add_lit (b o n : Nat) : (⟨b, o, none⟩ : Addr).add n = ⟨b, o + n, none⟩ := by unfold Addr.add; split <;> simp_all
/-- Block g is just the cells cs of type t, none frozen. -/
def Blk (w : World) (g : Nat) (t : TypeId) (cs : Array Value) : Prop := w.heap[g]? = some (.cells cs t (0, 0))
section
variable {w w' : World} {g : Nat} {t : TypeId} {cs : Array Value} {bs : List Nat}
theorem Blk.lt (h : Blk w g t cs) : g < w.heap.size := by
  rcases Nat.lt_or_ge g w.heap.size with hlt | hge
  · exact hlt
  · unfold Blk at h; rw [Array.getElem?_eq_none hge] at h; cases h
theorem Blk.cell (h : Blk w g t cs) (i : Nat) : w.cell? ⟨g, i, none⟩ = cs[i]? := cell_of_row w g i cs t (0, 0) h
theorem Blk.frozen (h : Blk w g t cs) (i : Nat) : w.frozen? ⟨g, i, none⟩ = false := by
  unfold Blk at h
  simp [World.frozen?, h]
theorem Blk.new (w : World) (t : TypeId) (cs : Array Value) : Blk (w.alloc (.cells cs t)) w.heap.size t cs := heap_alloc_new w _
theorem Blk.drew (h : Blk w g t cs) : Blk w.drew g t cs := h
theorem Blk.drewN (h : Blk w g t cs) (n : Nat) : Blk (w.drewN n) g t cs := h
theorem Blk.alloc (h : Blk w g t cs) (o : Obj) : Blk (w.alloc o) g t cs := (Below.heap_alloc w o g h.lt).trans h
theorem Blk.set_ (h : Blk w g t cs) (i : Nat) (u : Value) : Blk (w.setCell ⟨g, i, none⟩ u) g t (cs.setIfInBounds i u) := by
  unfold Blk at h ⊢
  simp [World.setCell, Array.getElem?_modify, h]
theorem Blk.far (h : Blk w g t cs) {p : Addr} (hp : g ≠ p.block) (u : Value) : Blk (w.setCell p u) g t cs := (Below.heap_setCell w p u g hp).trans h
theorem Blk.ch (h : Blk w g t cs) (hb : Ch bs w w') (hg : g ∉ bs) : Blk w' g t cs := (hb.block g h.lt hg).trans h
theorem Blk.ch0 (h : Blk w g t cs) (hb : Ch [] w w') : Blk w' g t cs := h.ch hb (by simp)
theorem Blk.ne_ {g' : Nat} {t' : TypeId} {cs' : Array Value} (h : Blk w g t cs) (h' : Blk w g' t' cs') (hne : t ≠ t') : g ≠ g' := by
  rintro rfl
  unfold Blk at h h'
  rw [h] at h'
  injection h' with h'
  injection h' with _ ht
  exact hne ht
end
/-- The slice at address A of n elements of so many cells holds the cells xs, in memory below block B. -/
def Rd (w : World) (size : Nat) (A : Option Addr) (n : Nat) (xs : List Value) : Prop :=
  xs.length = n * size ∧ (0 < n → ∃ ad, A = some ad ∧ ad.block < w.heap.size ∧ ∀ j u, xs[j]? = some u → w.cell? (ad.add j) = some u)
section
variable {w w' : World} {size n : Nat} {A : Option Addr} {xs : List Value} {bs : List Nat}
theorem Rd.none_ : Rd w size A 0 [] := ⟨by simp, fun h => absurd h (by omega)⟩
theorem Rd.len (h : Rd w 1 A n xs) : xs.length = n := by simpa using h.1
theorem Rd.at_ {k : Nat} (h : Rd w 1 A n xs) (hk : k < n) : ∃ ad u, A = some ad ∧ ad.block < w.heap.size ∧ xs[k]? = some u ∧ w.cell? (ad.add k) = some u := by
  obtain ⟨ad, e, hb, hc⟩ := h.2 (by omega)
  have hl : k < xs.length := by have := h.1; omega
  exact ⟨ad, xs[k], e, hb, List.getElem?_eq_getElem hl, hc k _ (List.getElem?_eq_getElem hl)⟩
theorem Rd.keep (h : Rd w size A n xs) (hs : w.heap.size ≤ w'.heap.size) (hk : ∀ ad, A = some ad → 0 < n → ∀ p : Addr, p.block = ad.block → w'.cell? p = w.cell? p) : Rd w' size A n xs :=
  ⟨h.1, fun hn => by
    obtain ⟨ad, e, hb, hc⟩ := h.2 hn
    exact ⟨ad, e, by omega, fun j u hu => (hk ad e hn _ (block_of_add ad j)).trans (hc j u hu)⟩⟩
theorem Rd.ch (h : Rd w size A n xs) (hc : Ch bs w w') (hb : ∀ ad, A = some ad → ad.block ∉ bs) : Rd w' size A n xs :=
  ⟨h.1, fun hn => by
    obtain ⟨ad, e, hlt, hx⟩ := h.2 hn
    exact ⟨ad, e, Nat.lt_of_lt_of_le hlt hc.size, fun j u hu => (hc.cell (by rw [block_of_add]; exact hlt) (by rw [block_of_add]; exact hb ad e)).trans (hx j u hu)⟩⟩
theorem Rd.ch0 (h : Rd w size A n xs) (hc : Ch [] w w') : Rd w' size A n xs := h.ch hc fun _ _ => by simp
theorem Rd.drew (h : Rd w size A n xs) : Rd w.drew size A n xs := h
theorem Rd.drewN (h : Rd w size A n xs) (k : Nat) : Rd (w.drewN k) size A n xs := h
theorem Rd.alloc (h : Rd w size A n xs) (o : Obj) : Rd (w.alloc o) size A n xs := h.ch0 ((Ch.refl _ _).alloc o)
theorem Rd.setCell (h : Rd w size A n xs) {p : Addr} (hp : ∀ ad, A = some ad → ad.block ≠ p.block) (u : Value) : Rd (w.setCell p u) size A n xs :=
  h.keep (by simp [World.setCell]) fun ad e _ q hq => World.cell?_setCell_other w p q u (fun e' => by subst e'; exact hp ad e hq.symm)
theorem Rd.of_own {base : Nat} {e : TypeId} {c : Nat} (h : w.ownsRow base e size (.slice A n c) n xs) : Rd w size A n xs := by
  refine ⟨h.1, fun hn => ?_⟩
  rcases h.2 with ⟨h1, h2⟩ | ⟨g, cap, cur, hv, _, hh, _⟩
  · omega
  · have hA : A = some ⟨g, 0, none⟩ := by injection hv
    subst hA
    have hlt := (Array.getElem?_eq_some_iff.1 hh).1
    exact ⟨_, rfl, hlt, h.cells (g := g) rfl⟩
theorem Rd.of_blk {g : Nat} {t : TypeId} {cs : Array Value} (h : Blk w g t cs) (hs : cs.size = n * size) : Rd w size (some ⟨g, 0, none⟩) n cs.toList :=
  ⟨by simpa using hs, fun _ => ⟨_, rfl, h.lt, fun j u hu => by rw [add_lit, h.cell]; simpa using hu⟩⟩
/-- The first k elements. -/
theorem Rd.take_ {k : Nat} (h : Rd w 1 A n xs) (hk : k ≤ n) : Rd w 1 A k (xs.take k) :=
  ⟨by have := h.1; simp; omega, fun hn => by
    obtain ⟨ad, e, hb, hc⟩ := h.2 (by omega)
    exact ⟨ad, e, hb, fun j u hu => hc j u (by rw [List.getElem?_take] at hu; split at hu <;> simp_all)⟩⟩
theorem Rd.cut {k cap : Nat} (h : Rd w size A n xs) (hk : k ≤ n) (hc : n ≤ cap) :
    Rd w size (if cap = k then A else A.map (·.add (k * size))) (n - k) (xs.drop (k * size)) := by
  refine ⟨by rw [List.length_drop, h.1, Nat.sub_mul], fun hn => ?_⟩
  obtain ⟨ad, rfl, hb, hcell⟩ := h.2 (by omega)
  rw [if_neg (by omega)]
  refine ⟨ad.add (k * size), rfl, by rw [block_of_add]; exact hb, fun j u hu => ?_⟩
  rw [add_of_add]
  exact hcell _ u (by rw [← hu, List.getElem?_drop])
end
theorem extract_drop (l : List UInt8) (k : Nat) : (⟨l.toArray⟩ : ByteArray).extract k l.length = ⟨(l.drop k).toArray⟩ := by
  apply ByteArray.ext
  simp [ByteArray.data_extract, List.extract_eq_take_drop, List.take_of_length_le]
theorem extract_mid (l : List UInt8) (i j : Nat) : (⟨l.toArray⟩ : ByteArray).extract i j = ⟨((l.take j).drop i).toArray⟩ := by
  apply ByteArray.ext
  simp [ByteArray.data_extract, List.extract_eq_take_drop, List.drop_take]
theorem bget (l : List UInt8) (i : Nat) (h : i < (ByteArray.mk l.toArray).size) : (ByteArray.mk l.toArray)[i]'h = l[i]'h := rfl
theorem bsize (l : List UInt8) : (ByteArray.mk l.toArray).size = l.length := rfl
theorem bappend (x y : List UInt8) : (ByteArray.mk x.toArray) ++ (ByteArray.mk y.toArray) = ⟨(x ++ y).toArray⟩ := by
  apply ByteArray.ext
  simp
theorem wrap64_u8 (c : UInt8) : wrap64 (c.toNat : Int) = c.toNat := by have := c.toNat_lt; exact IntWalk.wrap64_in _ (by omega)
theorem i64_u8 (c : UInt8) : IntKind.i64.wrap (c.toNat : Int) = c.toNat := by have := c.toNat_lt; exact IntWalk.i64_in _ (by omega)
theorem u64_u8 (c : UInt8) : IntKind.u64.wrap (c.toNat : Int) = c.toNat := by have := c.toNat_lt; exact IntWalk.u64_in _ (by omega)
section
variable {P : Program} (w : World)
theorem run_append_of_nil (base : Nat) (t ty e : TypeId) (i : TypeInfo) (size : Nat) (ht : P.underlying t = some (.slice e)) (hi : P.info? e = some i)
    (v : Value) (n : Nat) (xs : List Value) (hown : w.ownsRow base e size v n xs) (c : Nat) : (Builtin.append_ #[t, t] ty #[v, .slice none 0 c]).run P w = .ok v w := by
  rcases hown.2 with ⟨rfl, rfl⟩ | ⟨g, cap, cur, rfl, _, _, hnc, _⟩
  · simp [Builtin.append_, run_underlying ht, sizeOf, typeInfo, hi, Builtin.lenOf, Builtin.firstCells]
  · simp [Builtin.append_, run_underlying ht, sizeOf, typeInfo, hi, Builtin.lenOf, Builtin.firstCells, hnc, storeCells]
theorem run_append_any (base : Nat) (t ty e : TypeId) (i : TypeInfo) (z : Value) (size bytes : Nat) (ht : P.underlying t = some (.slice e)) (hi : P.info? e = some i) (hz : i.zero = some z)
    (hsize : i.size = size) (hby : i.bytes = bytes) (hzs : z.cells.size = size) (hsz : 0 < size)
    (v : Value) (n : Nat) (xs : List Value) (hown : w.ownsRow base e size v n xs)
    (A : Option Addr) (m c : Nat) (news : List Value) (hr : Rd w size A m news) (h1 : ∀ u ∈ news, u.oneCell' = true)
    (h63 : n + m ≤ maxLen) (hbytes : (n + m) * bytes ≤ 140737488355328) (hbase : base ≤ w.heap.size) :
    ∃ v' w', (Builtin.append_ #[t, t] ty #[v, .slice A m c]).run P w = .ok v' w' ∧ w'.ownsRow base e size v' (n + m) (xs ++ news) ∧ w.grownBy w' v.ownBlock ∧
      (v'.ownBlock = v.ownBlock ∨ v'.ownBlock = some w.heap.size) ∧ (v' = .slice none 0 0 ↔ v = .slice none 0 0 ∧ m = 0) := by
  rcases A with _ | ad
  · have hm : m = 0 := by
      rcases Nat.eq_zero_or_pos m with h0 | h0
      · exact h0
      · obtain ⟨ad, h, _⟩ := hr.2 h0
        cases h
    subst hm
    have hn : news = [] := List.eq_nil_of_length_eq_zero (by simpa using hr.1)
    subst hn
    exact ⟨v, w, run_append_of_nil w base t ty e i size ht hi v n xs hown c, by simpa using hown, World.grownBy.refl w _, .inl rfl, by simp⟩
  · have hcells : ∀ j u, news[j]? = some u → w.cell? (ad.add j) = some u := by
      intro j u hu
      rcases Nat.eq_zero_or_pos m with h0 | h0
      · subst h0
        have hn : news = [] := List.eq_nil_of_length_eq_zero (by simpa using hr.1)
        subst hn
        simp at hu
      · obtain ⟨ad', h, _, hc⟩ := hr.2 h0
        injection h with h
        subst h
        exact hc j u hu
    obtain ⟨v', w', hrun, h2, h3, h4, h5⟩ := run_append_own_at (P := P) w base t ty e i z size bytes ht hi hz hsize hby hzs hsz v n xs hown ad m c news hr.1 hcells h1 h63 hbytes hbase
    exact ⟨v', w', hrun, h2, h3, h5, h4⟩
end
end Go.Proofs.Ytnckgkgilnmocaa
set_option linter.unusedSimpArgs false
set_option linter.unusedVariables false
namespace Go.Proofs.Ytnckgkgilnmocaa
open Go.RowKit
def bv (c : UInt8) : Value := .int .u8 c.toNat
def bvs (l : List UInt8) : List Value := l.map bv
theorem bvs_len (l : List UInt8) : (bvs l).length = l.length := by simp [bvs]
theorem bvs_app (l m : List UInt8) : bvs (l ++ m) = bvs l ++ bvs m := by simp [bvs]
theorem bvs_get (l : List UInt8) (j : Nat) (h : j < l.length) : (bvs l)[j]? = some (.int .u8 (l[j].toNat : Int)) := by simp [bvs, bv, h]
theorem bvs_oneCell (l : List UInt8) : ∀ u ∈ bvs l, u.oneCell' = true := by
  intro u hu
  obtain ⟨c, _, rfl⟩ := List.mem_map.1 hu
  rfl
section
variable {P : Program} {w : World} {ops : Array Oper} {rest : List Oper} {o : Oper} {a : Act} {Q : Exit → Act → World → Prop}
theorem op_bytes (hgd : o.guard = none) (src dst : TypeId) (x : Operand) (ho : o.op = .convert src dst x) (e : TypeId)
    (hs : P.underlying src = some .string) (hd : P.underlying dst = some (.slice e)) (he : P.underlying e = some (.int .u8)) (l : List UInt8) (hx : a.eval x = .string ⟨l.toArray⟩)
    (h : ∀ g c w1, Rd w1 1 (some ⟨g, 0, none⟩) l.length (bvs l) → w.heap.size ≤ g → w.heap.size < w1.heap.size → Ch [] w w1 → wpList P ops Q rest (a.put o.dst (.slice (some ⟨g, 0, none⟩) l.length c)) w1) :
    wpList P ops Q (o :: rest) a w := by
  refine wpList_plain hgd fun K hK => ?_
  have hr := run_bytes_of_string (P := P) w src dst e ⟨l.toArray⟩ hs hd he
  unfold Oper.wp
  simp only [execOp, ho, hx, Sem.run_bind, hr, Result.andThen_ok, Sem.run_pure]
  refine hK _ _ (h _ _ _ ⟨by simp [bvs_len], fun _ => ⟨_, rfl, ?_, fun j u hu => ?_⟩⟩ (Nat.le_refl _) ?_ ?_)
  · simp
  · rw [add_lit, Nat.zero_add]
    have hlt : j < l.length := by have := (List.getElem?_eq_some_iff.1 hu).1; simpa [bvs_len] using this
    show (w.drew.alloc _).cell? ⟨w.drew.heap.size, j, none⟩ = _
    rw [World.cell?_alloc_mark, bytesRow_at _ _ _ (by simpa using hlt)]
    rw [bvs_get l j hlt] at hu
    simpa using hu
  · simp
  · exact (Ch.refl _ _).drew.alloc _
theorem op_string (hgd : o.guard = none) (src dst : TypeId) (x : Operand) (ho : o.op = .convert src dst x) (e : TypeId)
    (hs : P.underlying src = some (.slice e)) (hd : P.underlying dst = some .string) (he : P.underlying e = some (.int .u8)) (l : List UInt8) (A : Option Addr) (n c : Nat)
    (hx : a.eval x = .slice A n c) (hr : Rd w 1 A n (bvs l)) (h : wpList P ops Q rest (a.put o.dst (.string ⟨l.toArray⟩)) w) : wpList P ops Q (o :: rest) a w := by
  refine wpList_plain hgd fun K hK => ?_
  have hn : n = l.length := by have := hr.1; rw [bvs_len] at this; omega
  subst hn
  have hrun : (convert src dst (.slice A l.length c)).run P w = .ok (.string ⟨l.toArray⟩) w := by
    rcases Nat.eq_zero_or_pos l.length with h0 | h0
    · have hl : l = [] := List.eq_nil_of_length_eq_zero h0
      subst hl
      rw [run_convert_bytes_string w src dst e A _ c hs he hd]
      cases A with
      | none => rfl
      | some ad => simp [Conv.bytesToString, loadCells]; rfl
    · obtain ⟨ad, rfl, hb, hc⟩ := hr.2 h0
      exact run_convert_bytes_back w src dst e ad c l hs he hd fun j hj => hc j _ (bvs_get l j hj)
  unfold Oper.wp
  simp only [execOp, ho, hx, Sem.run_bind, hrun, Result.andThen_ok, Sem.run_pure]
  exact hK _ _ h
theorem own_form {base : Nat} {e : TypeId} {size : Nat} {v : Value} {n : Nat} {xs : List Value} (h : w.ownsRow base e size v n xs) : ∃ A c, v = .slice A n c := by
  rcases h.2 with ⟨rfl, rfl⟩ | ⟨g, cap, cur, rfl, _⟩
  · exact ⟨_, _, rfl⟩
  · exact ⟨_, _, rfl⟩
/-- The block of a slice's address. -/
def obl : Option Addr → List Nat
  | some a => [a.block]
  | none => []
theorem obl_own (A : Option Addr) (n c : Nat) : (Value.slice A n c).ownBlock.toList = obl A := by cases A <;> rfl
theorem op_append (hgd : o.guard = none) (s x : Operand) (t : TypeId)
    (ho : o.op = .call { callee := .builtin .append, args := #[s, x], argTypes := #[t, t] })
    (base : Nat) (e : TypeId) (z : Value) (size bytes : Nat) (ht : P.underlying t = some (.slice e)) (hi : (P.info? e).map (fun i => (i.zero, i.size, i.bytes)) = some (some z, size, bytes))
    (hzs : z.cells.size = size) (hsz : 0 < size)
    (B : Option Addr) (n c0 : Nat) (xs : List Value) (hs : a.eval s = .slice B n c0) (hown : w.ownsRow base e size (.slice B n c0) n xs)
    (A : Option Addr) (m c : Nat) (news : List Value) (hx : a.eval x = .slice A m c) (hr : Rd w size A m news) (h1 : ∀ u ∈ news, u.oneCell' = true)
    (hbytes : (n + m) * (bytes + 1) ≤ 140737488355328) (hbase : base ≤ w.heap.size)
    (h : ∀ A' c' w1, w1.ownsRow base e size (.slice A' (n + m) c') (n + m) (xs ++ news) → Ch (obl B) w w1 →
      wpList P ops Q rest (a.put o.dst (.slice A' (n + m) c')) w1) : wpList P ops Q (o :: rest) a w := by
  refine wpList_plain hgd fun K hK => ?_
  obtain ⟨i, hi0, hz, hsize, hby⟩ := info_parts hi
  have hb2 : (n + m) * bytes ≤ 140737488355328 := Nat.le_trans (Nat.mul_le_mul_left _ (Nat.le_succ _)) hbytes
  have h63 : n + m ≤ maxLen := by
    have : (n + m) * 1 ≤ (n + m) * (bytes + 1) := Nat.mul_le_mul_left _ (by omega)
    unfold maxLen; omega
  obtain ⟨v', w', hrun, h2, h3, h4, h5⟩ := run_append_any (P := P) w base t o.type e i z size bytes ht hi0 hz hsize hby hzs hsz _ n xs hown A m c news hr h1 h63 hb2 hbase
  obtain ⟨A', c', rfl⟩ := own_form h2
  unfold Oper.wp execOp
  simp only [ho, resolve, invoke, builtin, Sem.run_bind, Sem.run_pure, Result.andThen_ok, List.map_toArray, List.map_cons, List.map_nil, hs, hx, hrun]
  exact hK _ _ (h A' c' w' h2 (Ch.of_grown h3 fun k hk => by rw [← obl_own B n c0, hk]; simp))
end
def sv (l : List UInt8) : Value := .string ⟨l.toArray⟩
def svs (ss : List (List UInt8)) : List Value := ss.map sv
theorem u8_wrap (m : Nat) : IntKind.u8.wrap (m : Int) = ((UInt8.ofNat m).toNat : Int) := by
  rw [IntKind.wrap_u8]
  simp
theorem take_snoc_at {α : Type} (l : List α) (k : Nat) (d : α) (h : l[k]? = some d) : l.take (k + 1) = l.take k ++ [d] := by
  obtain ⟨hk, rfl⟩ := List.getElem?_eq_some_iff.1 h
  rw [List.take_succ_eq_append_getElem hk]
/-- Element k of a slice that reads as a list of data: it, its cell, and the beginnings. -/
theorem Rd.elem {α : Type} {w : World} {A : Option Addr} {n k : Nat} {l : List α} {f : α → Value} (h : Rd w 1 A n (l.map f)) (hk : k < n) :
    ∃ ad d, A = some ad ∧ w.cell? (ad.add k) = some (f d) ∧ l[k]? = some d ∧ l.take (k + 1) = l.take k ++ [d] := by
  obtain ⟨ad, u, hA, _, h1, h2⟩ := h.at_ hk
  rw [List.getElem?_map] at h1
  obtain ⟨d, hd, rfl⟩ := Option.map_eq_some_iff.1 h1
  exact ⟨ad, d, hA, h2, hd, take_snoc_at l k d hd⟩
theorem Rd.byte {w : World} {g o n k : Nat} {l : List UInt8} (h : Rd w 1 (some ⟨g, o, none⟩) n (bvs l)) (hk : k < n) :
    ∃ d : UInt8, w.cell? ⟨g, o + k, none⟩ = some (.int .u8 (d.toNat : Int)) ∧ l[k]? = some d ∧ l.take (k + 1) = l.take k ++ [d] := by
  obtain ⟨ad, d, hA, h1, h2, h3⟩ := Rd.elem (f := bv) h hk
  obtain rfl : (⟨g, o, none⟩ : Addr) = ad := by injection hA
  rw [add_lit] at h1
  exact ⟨d, h1, h2, h3⟩
theorem Rd.byte0 {w : World} {g n k : Nat} {l : List UInt8} (h : Rd w 1 (some ⟨g, 0, none⟩) n (bvs l)) (hk : k < n) :
    ∃ d : UInt8, w.cell? ⟨g, k, none⟩ = some (.int .u8 (d.toNat : Int)) ∧ l[k]? = some d ∧ l.take (k + 1) = l.take k ++ [d] := by
  have := h.byte hk
  rwa [Nat.zero_add] at this
theorem or_low (m : Nat) (d : UInt8) (hm : m < 72057594037927936) : bits BinOp.or IntKind.u64 (IntKind.u64.wrap ((m : Int) * 256)) (d.toNat : Int) = ((m * 256 + d.toNat : Nat) : Int) := by
  have hd := d.toNat_lt
  have e1 : (m : Int) * 256 = ((m * 256 : Nat) : Int) := by omega
  rw [e1, IntWalk.u64_in _ (by omega), u64_or_nat _ _ (by omega) (by omega)]
  have e2 : m * 256 = m <<< 8 := by rw [Nat.shiftLeft_eq]
  rw [e2, ← Nat.shiftLeft_add_eq_or_of_lt (by omega)]
theorem ret_int {k : IntKind} {a b : Int} (h : a = b) : Ending.returned (.int k a) = .returned (.int k b) := by rw [h]
theorem ret_str {a b : List UInt8} (h : a = b) : Ending.returned (.string ⟨a.toArray⟩) = .returned (.string ⟨b.toArray⟩) := by rw [h]
theorem own_lit {w : World} {e : TypeId} {cs : Array Value} {n size : Nat} {base g : Nat} (h : Blk w g e cs) (hb : base ≤ g) (hm : n ≤ maxLen) (hs : cs.size = n * size) :
    w.ownsRow base e size (.slice (some ⟨g, 0, none⟩) n n) n cs.toList :=
  ⟨by simpa using hs, .inr ⟨g, n, cs, rfl, hb, h, Nat.le_refl _, hm, hs, List.take_of_length_le (by simp [hs])⟩⟩
end Go.Proofs.Ytnckgkgilnmocaa
set_option linter.unusedSimpArgs false
set_option linter.unusedVariables false
namespace Go.Proofs.Ytnckgkgilnmocaa
open Go.RowKit
section
variable {P : Program} {w : World} {ops : Array Oper} {rest : List Oper} {o : Oper} {a : Act} {Q : Exit → Act → World → Prop}
/-- A new variable of a type of rows, of zeros. -/
theorem op_alloc (hgd : o.guard = none) (t : TypeId) (ho : o.op = .alloc t) (zs : Array Value) (hz : (P.info? t).map (fun i => i.zero) = some (some (.agg zs)))
    (h : ∀ g w1, Blk w1 g t zs → w.heap.size ≤ g → w.heap.size < w1.heap.size → Ch [] w w1 → wpList P ops Q rest (a.put o.dst (.pointer (some ⟨g, 0, none⟩))) w1) : wpList P ops Q (o :: rest) a w := by
  refine wpList_plain hgd fun K hK => ?_
  cases hq : P.info? t with
  | none => simp [hq] at hz
  | some i =>
    have hz' : i.zero = some (.agg zs) := by simpa [hq] using hz
    unfold Oper.wp
    simp [execOp, ho, Instr.alloc, zeroValue, typeInfo, hq, hz', newVar, newRow, Value.cells]
    exact hK _ _ (h _ _ (Blk.new w t zs) (Nat.le_refl _) (by simp) ((Ch.refl _ _).alloc _))
theorem run_loadVar_at (w : World) (ad : Addr) (ty : TypeId) (cs : List Value) (d : TypeDesc) (hc : ∀ j v, cs[j]? = some v → w.cell? (ad.add j) = some v)
    (hu : P.underlying ty = some d) (hd : (match d with | .struct _ | .array _ _ => true | _ => false) = true) (hi : (P.info? ty).map (·.size) = some cs.length) :
    (loadVar ty ad).run P w = .ok (.agg cs.toArray) w := by
  have hl := run_loadCells_list (P := P) w ad cs hc
  cases hq : P.info? ty with
  | none => simp [hq] at hi
  | some i =>
    have hs : i.size = cs.length := by simpa [hq] using hi
    have hagg : (isAgg ty).run P w = .ok true w := by
      unfold isAgg
      rw [Sem.run_bind, run_underlying hu w]
      cases d <;> simp_all
    simp [loadVar, Sem.run_bind, hagg, sizeOf, typeInfo, hq, hs, hl]
/-- A block is read whole. -/
theorem op_load (hgd : o.guard = none) (ty : TypeId) (x : Operand) (ho : o.op = .load ty x) (g : Nat) (hx : a.eval x = .pointer (some ⟨g, 0, none⟩)) (t : TypeId) (cs : Array Value) (d : TypeDesc) (hg : Blk w g t cs)
    (hu : P.underlying ty = some d) (hd : (match d with | .struct _ | .array _ _ => true | _ => false) = true) (hi : (P.info? ty).map (·.size) = some cs.size)
    (h : wpList P ops Q rest (a.put o.dst (.agg cs)) w) : wpList P ops Q (o :: rest) a w :=
  wpList_load_row hgd ty x ho g hx t cs (0, 0) d hg hu hd hi h
theorem setRow_ch (w : World) (g : Nat) (cs : Array Value) : Ch [g] w (w.setRow g cs) :=
  ⟨rfl, rfl, rfl, by simp [World.setRow], fun k hk hne => setRow_other w g k cs (by simpa using hne)⟩
theorem setRow_blk {w : World} {g : Nat} {t : TypeId} {old : Array Value} (h : Blk w g t old) (cs : Array Value) : Blk (w.setRow g cs) g t cs := setRow_heap w g _ _ t _ h
/-- A block is written whole. -/
theorem op_store (hgd : o.guard = none) (ty : TypeId) (x y : Operand) (ho : o.op = .store ty x y) (g : Nat) (hx : a.eval x = .pointer (some ⟨g, 0, none⟩)) (t : TypeId) (cs old : Array Value) (hy : a.eval y = .agg cs) (hg : Blk w g t old)
    (hsz : cs.size = old.size) (hi : (P.info? ty).map (·.size) = some cs.size) (h1 : ∀ v ∈ cs.toList, v.oneCell' = true)
    (h : ∀ w1, Blk w1 g t cs → Ch [g] w w1 → wpList P ops Q rest (a.put o.dst undef) w1) : wpList P ops Q (o :: rest) a w := by
  refine wpList_plain hgd fun K hK => ?_
  have hst := run_storeCells_at P g 0 t cs.toList 0 old w hg (by simp; omega) h1
  have hrun : (storeVar ty ⟨g, 0, none⟩ (.agg cs)).run P w = .ok () (w.setRow g cs) := by
    cases hq : P.info? ty with
    | none => simp [hq] at hi
    | some i =>
      have hs : i.size = cs.size := by simpa [hq] using hi
      simp only [Nat.add_zero, Nat.zero_add, List.take_zero, List.nil_append, Array.length_toList] at hst
      rw [List.drop_of_length_le (by simp; omega), List.append_nil, Array.toArray_toList] at hst
      simp [storeVar, sizeOf, typeInfo, hq, Value.cells, hs, hst]
  unfold Oper.wp execOp
  simp only [ho, hx, hy, Instr.storeAt, Instr.sureAddr, Sem.run_bind, Sem.run_pure, Result.andThen_ok, hrun]
  exact hK _ _ (h _ (setRow_blk hg cs) (setRow_ch w g cs))
/-- The list with another beginning. -/
def over (old new : List UInt8) : List UInt8 := new.take old.length ++ old.drop new.length
theorem over_len (old new : List UInt8) : (over old new).length = old.length := by simp [over]; omega
/-- copy(row, s): a whole row of bytes gets a string's first bytes. -/
theorem run_copy_str (w : World) (dT sT ty elem : TypeId) (g n c : Nat) (t : TypeId) (old l : List UInt8) (hu : P.underlying dT = some (.slice elem)) (hs : (P.info? elem).map (·.size) = some 1)
    (hg : Blk w g t (bvs old).toArray) (hn : n = old.length) :
    (Builtin.copy_ #[dT, sT] ty #[.slice (some ⟨g, 0, none⟩) n c, .string ⟨l.toArray⟩]).run P w = .ok (goInt (Nat.min l.length n)) (w.setRow g (bvs (over old l)).toArray) := by
  subst hn
  have hst := run_storeCells_at P g 0 t (bvs (l.take old.length)) 0 (bvs old).toArray w hg (by simp [bvs_len]; omega) (bvs_oneCell _)
  cases hq : P.info? elem with
  | none => simp [hq] at hs
  | some i =>
    have hi : i.size = 1 := by simpa [hq] using hs
    have e1 : List.take (Nat.min l.length old.length) (l.map (fun b => Value.int .u8 b.toNat)) = bvs (l.take old.length) := by
      have hm : Nat.min l.length old.length = min l.length old.length := rfl
      have : l.take (min l.length old.length) = l.take old.length := by
        rw [List.take_eq_take_iff]
        omega
      rw [hm, ← List.map_take, this]
      rfl
    have e2 : (bvs old).take 0 ++ bvs (l.take old.length) ++ (bvs old).drop (0 + (bvs (l.take old.length)).length) = bvs (over old l) := by
      simp only [over, bvs_app, List.take_zero, List.nil_append, Nat.zero_add, bvs_len]
      congr 1
      simp only [bvs, ← List.map_drop, List.length_take]
      by_cases hl : old.length ≤ l.length
      · rw [List.drop_of_length_le (by omega), List.drop_of_length_le (by omega)]
      · rw [Nat.min_eq_right (by omega)]
    simp only [Nat.zero_add, Nat.add_zero] at hst e2
    simp only [List.toList_toArray, e2] at hst
    simp [Builtin.copy_, run_underlying hu, Builtin.lenOf, Builtin.firstCells, sizeOf, typeInfo, hq, hi]
    rw [show (⟨l.toArray⟩ : ByteArray).size = l.length from rfl, e1]
    simp only [hst, Result.andThen_ok]
theorem run_eqItems_u8 (w : World) (e : TypeId) (he : P.underlying e = some (.int .u8)) (xs ys : List UInt8) (dd : Nat) : ∀ (is : List Nat), (∀ i ∈ is, i < xs.length) → xs.length = ys.length →
    (Op.eqItems (dd + 1) e 1 (bvs xs).toArray (bvs ys).toArray is).run P w = .ok (is.all fun i => xs[i]? == ys[i]?) w := by
  intro is
  induction is with
  | nil => intro _ _; simp [Op.eqItems]
  | cons i is ih =>
    intro hi hl
    have h1 : i < xs.length := hi i (by simp)
    have h2 : i < ys.length := by omega
    have hp : ∀ zs : List UInt8, (hz : i < zs.length) → (part e (bvs zs).toArray (i * 1)).run P w = .ok (.int .u8 (zs[i].toNat : Int)) w := by
      intro zs hz
      have hagg : (isAgg e).run P w = .ok false w := by
        unfold isAgg
        rw [Sem.run_bind, run_underlying he w]
        rfl
      have hget : (bvs zs).toArray[i]? = some (.int .u8 (zs[i].toNat : Int)) := by simpa using bvs_get zs i hz
      simp [part, hagg, hget]
    simp only [Op.eqItems, Sem.run_bind, hp xs h1, hp ys h2, Result.andThen_ok, run_equalIn_int (w := w) dd e .u8 .u8 _ _ he, List.all_cons]
    by_cases hx : xs[i] = ys[i]
    · have : ((xs[i].toNat : Int) == (ys[i].toNat : Int)) = true := by simp [hx]
      rw [this]
      simp only [Bool.not_true, Bool.false_eq_true, if_false]
      rw [ih (fun j hj => hi j (by simp [hj])) hl]
      simp [List.getElem?_eq_getElem h1, List.getElem?_eq_getElem h2, hx]
    · have : ((xs[i].toNat : Int) == (ys[i].toNat : Int)) = false := by
        simp only [beq_eq_false_iff_ne, ne_eq]
        intro h
        exact hx (UInt8.toNat_inj.1 (by omega))
      rw [this]
      simp [List.getElem?_eq_getElem h1, List.getElem?_eq_getElem h2, hx]
/-- '==' on two arrays of bytes. -/
theorem run_eql_bytes (w : World) (t e : TypeId) (n : Nat) (ht : P.underlying t = some (.array n e)) (he : P.underlying e = some (.int .u8)) (hi : (P.info? e).map (·.size) = some 1) (xs ys : List UInt8) (hx : xs.length = n) (hy : ys.length = n) (dd : Nat) :
    (Op.equalIn (dd + 2) t (.agg (bvs xs).toArray) (.agg (bvs ys).toArray)).run P w = .ok (decide (xs = ys)) w := by
  cases hq : P.info? e with
  | none => simp [hq] at hi
  | some i =>
    have hs : i.size = 1 := by simpa [hq] using hi
    have hc : P.cellsOf e = 1 := by simp [Program.cellsOf, hq, hs]
    rw [run_equalIn_array w (dd + 1) _ _ ht hq, hc, run_eqItems_u8 w e he xs ys dd _ (by simp [hx]) (by omega)]
    congr 1
    rw [Bool.eq_iff_iff]
    simp only [List.all_eq_true, List.mem_range, decide_eq_true_eq, beq_iff_eq]
    constructor
    · intro h
      apply List.ext_getElem?
      intro j
      by_cases hj : j < n
      · exact h j hj
      · rw [List.getElem?_eq_none (by omega), List.getElem?_eq_none (by omega)]
    · rintro rfl j _
      rfl
end
end Go.Proofs.Ytnckgkgilnmocaa
set_option linter.unusedSimpArgs false
set_option linter.unusedVariables false
namespace Go.Proofs.Ytnckgkgilnmocaa
open Go.RowKit
/-- w' has what w has in the blocks of fp. -/
structure Off (fp : Nat → Prop) (w w' : World) : Prop where
  os : w'.os = w.os
  tape : w'.tape = w.tape
  output : w'.output = w.output
  size : w.heap.size ≤ w'.heap.size
  block : ∀ k, fp k → w'.heap[k]? = w.heap[k]?
/-- A part of memory: its blocks, may it be written, what holds of it. -/
structure SProp where
  fp : Nat → Prop
  ro : Bool
  holds : World → Prop
  lt : ∀ w, holds w → ∀ k, fp k → k < w.heap.size
  stable : ∀ w w', Off fp w w' → holds w → holds w'
def compat (x y : SProp) : Prop := (x.ro = true ∧ y.ro = true) ∨ ∀ k, x.fp k → ¬ y.fp k
theorem compat.symm {x y : SProp} (h : compat x y) : compat y x := h.elim (fun h => .inl ⟨h.2, h.1⟩) fun h => .inr fun k h1 h2 => h k h2 h1
structure Star (L : List SProp) (w : World) : Prop where
  all : ∀ x ∈ L, x.holds w
  pair : L.Pairwise compat
inductive Take (x : SProp) : List SProp → List SProp → Prop
  | head {L : List SProp} : Take x (x :: L) L
  | tail {y : SProp} {L R : List SProp} : Take x L R → Take x (y :: L) (y :: R)
theorem Take.perm {x : SProp} {L R : List SProp} (h : Take x L R) : L.Perm (x :: R) := by
  induction h with
  | head => exact List.Perm.refl _
  | tail _ ih => exact (List.Perm.cons _ ih).trans (List.Perm.swap _ _ _)
namespace Star
variable {L R : List SProp} {x y : SProp} {w w' : World} {bs : List Nat}
theorem perm (h : Star L w) (hp : L.Perm R) : Star R w := ⟨fun x hx => h.all x (hp.mem_iff.2 hx), (hp.pairwise_iff (fun h => compat.symm h)).1 h.pair⟩
theorem take (h : Star L w) (ht : Take x L R) : Star (x :: R) w := h.perm ht.perm
theorem mem_lt (h : Star L w) (hx : x ∈ L) (k : Nat) (hk : x.fp k) : k < w.heap.size := x.lt w (h.all x hx) k hk
theorem head (h : Star (x :: L) w) : x.holds w := h.all x List.mem_cons_self
theorem tail (h : Star (x :: L) w) : Star L w := ⟨fun y hy => h.all y (List.mem_cons_of_mem _ hy), (List.pairwise_cons.1 h.pair).2⟩
theorem drop_ (h : Star L w) (ht : Take x L R) : Star R w := (h.take ht).tail
theorem sub (h : Star L w) (hs : R.Sublist L) : Star R w := ⟨fun y hy => h.all y (hs.subset hy), h.pair.sublist hs⟩
theorem step (h : Star L w) (hc : Ch [] w w') : Star L w' :=
  ⟨fun y hy => y.stable w w' ⟨hc.os, hc.tape, hc.output, hc.size, fun k hk => hc.block k (h.mem_lt hy k hk) (by simp)⟩ (h.all y hy), h.pair⟩
theorem drew (h : Star L w) : Star L w.drew := h.step ((Ch.refl _ _).drew)
theorem drewN (h : Star L w) (n : Nat) : Star L (w.drewN n) := h.step ((Ch.refl _ _).drewN n)
/-- One part is written, or made anew. -/
theorem put (h : Star (x :: L) w) (hm : x.ro = false) (hc : Ch bs w w') (hb : ∀ b ∈ bs, x.fp b ∨ w.heap.size ≤ b) (hy : y.holds w') (hf : ∀ k, y.fp k → x.fp k ∨ w.heap.size ≤ k) : Star (y :: L) w' := by
  have hx := List.pairwise_cons.1 h.pair
  have hd : ∀ z ∈ L, ∀ k, x.fp k → ¬ z.fp k := fun z hz => by
    rcases hx.1 z hz with h1 | h1
    · rw [hm] at h1; cases h1.1
    · exact h1
  have hl : ∀ z ∈ L, ∀ k, z.fp k → k < w.heap.size := fun z hz k hk => h.mem_lt (List.mem_cons_of_mem _ hz) k hk
  refine ⟨fun z hz => ?_, List.pairwise_cons.2 ⟨fun z hz => .inr fun k hk hk2 => ?_, hx.2⟩⟩
  · rcases List.mem_cons.1 hz with rfl | hz
    · exact hy
    · refine z.stable w w' ⟨hc.os, hc.tape, hc.output, hc.size, fun k hk => hc.block k (hl z hz k hk) fun hb2 => ?_⟩ (h.tail.all z hz)
      rcases hb k hb2 with h1 | h1
      · exact hd z hz k h1 hk
      · have := hl z hz k hk; omega
  · have h2 := hl z hz k hk2
    rcases hf k hk with h1 | h1
    · exact hd z hz k h1 hk2
    · omega
theorem new_ (h : Star L w) (hc : Ch [] w w') (hy : y.holds w') (hf : ∀ k, y.fp k → w.heap.size ≤ k) : Star (y :: L) w' := by
  have h2 := h.step hc
  refine ⟨fun z hz => ?_, List.pairwise_cons.2 ⟨fun z hz => .inr fun k hk hk2 => ?_, h2.pair⟩⟩
  · rcases List.mem_cons.1 hz with rfl | hz
    · exact hy
    · exact h2.all z hz
  · have := h.mem_lt hz k hk2
    have := hf k hk
    omega
theorem pair_mem {L : List SProp} {x y : SProp} (h : L.Pairwise compat) (hx : x ∈ L) (hy : y ∈ L) (hne : x ≠ y) : compat x y := by
  induction L with
  | nil => cases hx
  | cons z L ih =>
    obtain ⟨h1, h2⟩ := List.pairwise_cons.1 h
    rcases List.mem_cons.1 hx with e | kx
    · rcases List.mem_cons.1 hy with e2 | ky
      · exact absurd (e.trans e2.symm) hne
      · rw [e]; exact h1 _ ky
    · rcases List.mem_cons.1 hy with e2 | ky
      · rw [e2]; exact (h1 _ kx).symm
      · exact ih h2 kx ky
/-- A part that is only read may be read in another way too. -/
theorem view (h : Star L w) (hx : x ∈ L) (hr : x.ro = true) (hry : y.ro = true) (hf : ∀ k, y.fp k → x.fp k) (hy : y.holds w) : Star (y :: L) w := by
  refine ⟨fun z hz => ?_, List.pairwise_cons.2 ⟨fun z hz => ?_, h.pair⟩⟩
  · rcases List.mem_cons.1 hz with rfl | hz
    · exact hy
    · exact h.all z hz
  · rcases hz2 : z.ro with _ | _
    · refine .inr fun k hk hk2 => ?_
      have hne : x ≠ z := fun e => by rw [e, hz2] at hr; cases hr
      have hc := pair_mem h.pair hx hz hne
      rcases hc with h1 | h1
      · rw [hz2] at h1; cases h1.2
      · exact h1 k (hf k hk) hk2
    · exact .inl ⟨hry, hz2⟩
/-- A part without blocks. -/
theorem free (h : Star L w) (hf : ∀ k, ¬ y.fp k) (hy : y.holds w) : Star (y :: L) w := h.new_ (Ch.refl _ _) hy fun k hk => absurd hk (hf k)
/-- A part is seen otherwise. -/
theorem as_ (h : Star (x :: L) w) (hm : x.ro = false) (hf : ∀ k, y.fp k → x.fp k) (hy : x.holds w → y.holds w) : Star (y :: L) w :=
  h.put hm (Ch.refl [] _) (by simp) (hy h.head) fun k hk => .inl (hf k hk)
end Star
/-- A block that is known whole. -/
def cellsE (g : Nat) (t : TypeId) (cs : Array Value) : SProp where
  fp k := k = g
  ro := false
  holds w := Blk w g t cs
  lt w h k hk := by subst hk; exact h.lt
  stable w w' ho h := (ho.block g rfl).trans h
/-- A slice that is only read. -/
def rowE (size : Nat) (A : Option Addr) (n : Nat) (xs : List Value) : SProp where
  fp k := ∃ ad, A = some ad ∧ 0 < n ∧ k = ad.block
  ro := true
  holds w := Rd w size A n xs
  lt w h k hk := by
    obtain ⟨ad, rfl, hn, rfl⟩ := hk
    obtain ⟨ad', e, h1, _⟩ := h.2 hn
    injection e with e
    subst e
    exact h1
  stable w w' ho h := h.keep ho.size fun ad e hn p hp => World.cell?_of_block (ho.block _ ⟨ad, e, hn, hp⟩)
/-- A slice of the call's own, to which is appended. -/
def ownE (e : TypeId) (size : Nat) (A : Option Addr) (n c : Nat) (xs : List Value) : SProp where
  fp k := ∃ ad, A = some ad ∧ k = ad.block
  ro := false
  holds w := w.ownsRow 0 e size (.slice A n c) n xs
  lt w h k hk := by
    obtain ⟨ad, rfl, rfl⟩ := hk
    exact (h.lt ad.block rfl).2
  stable w w' ho h := by
    refine ⟨h.1, ?_⟩
    rcases h.2 with h1 | ⟨g, cap, cur, hv, h2, h3, h4⟩
    · exact .inl h1
    · injection hv with hA hn hc
      refine .inr ⟨g, cap, cur, by rw [hA, hc], h2, (ho.block g ⟨_, hA, rfl⟩).trans h3, h4⟩
/-- All that was there when the call began. -/
def oldE (w0 : World) : SProp where
  fp k := k < w0.heap.size
  ro := true
  holds w := Ch [] w0 w
  lt w h k hk := Nat.lt_of_lt_of_le hk h.size
  stable w w' ho h := ⟨ho.os.trans h.os, ho.tape.trans h.tape, ho.output.trans h.output, Nat.le_trans h.size ho.size, fun k hk hb => (ho.block k hk).trans (h.block k hk hb)⟩
/-- R: some of L's parts, in any order. -/
inductive Sel : List SProp → List SProp → Prop
  | refl {L : List SProp} : Sel L L
  | cons {x : SProp} {L M R : List SProp} : Take x L M → Sel M R → Sel L (x :: R)
  | drop {y : SProp} {L R : List SProp} : Sel L R → Sel (y :: L) R
theorem Star.cons_sub {x : SProp} {L R : List SProp} {w : World} (h : Star (x :: L) w) (hR : Star R w) (hs : ∀ y ∈ R, y ∈ L) : Star (x :: R) w :=
  ⟨fun z hz => by
    rcases List.mem_cons.1 hz with rfl | hz
    · exact h.head
    · exact hR.all z hz, List.pairwise_cons.2 ⟨fun z hz => (List.pairwise_cons.1 h.pair).1 z (hs z hz), hR.pair⟩⟩
theorem Sel.mem {L R : List SProp} (h : Sel L R) : ∀ y ∈ R, y ∈ L := by
  induction h with
  | refl => exact fun y h => h
  | cons ht _ ih =>
    intro y hy
    rcases List.mem_cons.1 hy with e | hy
    · rw [e]; exact ht.perm.mem_iff.2 List.mem_cons_self
    · exact ht.perm.mem_iff.2 (List.mem_cons_of_mem _ (ih y hy))
  | drop _ ih => exact fun y hy => List.mem_cons_of_mem _ (ih y hy)
theorem Star.sel {L R : List SProp} {w : World} (h : Star L w) (hs : Sel L R) : Star R w := by
  induction hs with
  | refl => exact h
  | cons ht hs ih => exact (h.take ht).cons_sub (ih (h.take ht).tail) hs.mem
  | drop _ ih => exact ih h.tail
namespace Star
variable {L R : List SProp} {x y : SProp} {w w' : World} {bs : List Nat} {g : Nat} {t : TypeId} {cs : Array Value} {size n c : Nat} {A : Option Addr} {xs : List Value}
theorem start (w : World) : Star [oldE w] w := ⟨fun x hx => by rcases List.mem_singleton.1 hx with rfl; exact Ch.refl _ _, by simp⟩
theorem old {w0 : World} (h : Star L w) (hx : oldE w0 ∈ L) : Ch [] w0 w := h.all _ hx
theorem blk (h : Star L w) (hx : cellsE g t cs ∈ L) : Blk w g t cs := h.all _ hx
theorem row (h : Star L w) (hx : rowE size A n xs ∈ L) : Rd w size A n xs := h.all _ hx
theorem own {e : TypeId} (h : Star L w) (hx : ownE e size A n c xs ∈ L) : Rd w size A n xs := Rd.of_own (h.all (ownE e size A n c xs) hx)
theorem of_old {w0 : World} (h : Star L w) (hx : oldE w0 ∈ L) (hr : Rd w0 size A n xs) : Star (rowE size A n xs :: L) w :=
  h.view hx rfl rfl (fun k ⟨ad, e, hn, hk⟩ => by
    subst hk
    obtain ⟨ad', e', h1, _⟩ := hr.2 hn
    rw [e] at e'
    injection e' with e'
    rw [e']
    exact h1) (hr.ch0 (h.old hx))
theorem nilrow (size : Nat) (h : Star L w) : Star (rowE size none 0 [] :: L) w := h.free (fun k ⟨_, e, _⟩ => by cases e) Rd.none_
theorem nilown (e : TypeId) (size : Nat) (h : Star L w) : Star (ownE e size none 0 0 [] :: L) w := h.free (fun k ⟨_, e, _⟩ => by cases e) ⟨by simp, .inl ⟨rfl, rfl⟩⟩
/-- What is appended to no more. -/
theorem freeze {e : TypeId} (h : Star (ownE e size A n c xs :: L) w) : Star (rowE size A n xs :: L) w :=
  h.as_ rfl (fun k ⟨ad, e, _, hk⟩ => ⟨ad, e, hk⟩) fun h => Rd.of_own h
theorem row_of_blk (h : Star (cellsE g t cs :: L) w) (hs : cs.size = n * size) : Star (rowE size (some ⟨g, 0, none⟩) n cs.toList :: L) w :=
  h.as_ rfl (fun k ⟨ad, e, _, hk⟩ => by injection e with e; subst e; exact hk) fun h => Rd.of_blk h hs
end Star
/-- A contract of a call that makes memory alone, over a list. -/
theorem star0 {P : Program} {f : FuncId} {args : Array Value} {w : World} {v : Value} {L : List SProp} (h : Calls P f args w fun r w' => r = .returned v ∧ Ch [] w w') (hM : Star L w) :
    Calls P f args w fun r w' => r = .returned v ∧ Star L w' := h.mono fun _ _ ⟨h1, h2⟩ => ⟨h1, hM.step h2⟩
theorem starq {P : Program} {f : FuncId} {args : Array Value} {w : World} {v : Value} {L : List SProp} (h : Calls P f args w fun r w' => r = .returned v ∧ w = w') (hM : Star L w) :
    Calls P f args w fun r w' => r = .returned v ∧ Star L w' := h.mono fun _ _ ⟨h1, h2⟩ => ⟨h1, h2 ▸ hM⟩
/-- A type whose values are one cell. -/
def plainTy (P : Program) (t : TypeId) : Bool := match P.underlying t with | some (.struct _) | some (.array _ _) | none => false | _ => true
/-- A type of rows of so many cells. -/
def rowTy (P : Program) (t : TypeId) (n : Nat) : Bool := (match P.underlying t with | some (.struct _) | some (.array _ _) => true | _ => false) && (match P.info? t with | some i => i.size == n | none => false)
section
variable {P : Program} {w : World} {ops : Array Oper} {rest : List Oper} {o : Oper} {a : Act} {Q : Exit → Act → World → Prop} {L R : List SProp}
theorem rowTy_und {t : TypeId} {n : Nat} (h : rowTy P t n = true) : (∃ d, P.underlying t = some d ∧ (match d with | .struct _ | .array _ _ => true | _ => false) = true) ∧ (P.info? t).map (·.size) = some n := by
  unfold rowTy at h
  rw [Bool.and_eq_true] at h
  refine ⟨?_, ?_⟩
  · cases hq : P.underlying t with
    | none => rw [hq] at h; simp at h
    | some d => refine ⟨d, rfl, ?_⟩; rw [hq] at h; cases d <;> simp_all
  · cases hq : P.info? t with
    | none => rw [hq] at h; simp at h
    | some i => rw [hq] at h; simpa using h.2
variable {K : Act → World → Prop}
theorem ws_alloc (hM : Star L w) {t : TypeId} (ho : o.op = .alloc t) (zs : Array Value) (hz : (P.info? t).map (fun i => i.zero) = some (some (.agg zs)))
    (h : ∀ g w1, Star (cellsE g t zs :: L) w1 → K (a.put o.dst (.pointer (some ⟨g, 0, none⟩))) w1) : Oper.wp P o a w K Q := by
  cases hq : P.info? t with
  | none => simp [hq] at hz
  | some i =>
    have hz' : i.zero = some (.agg zs) := by simpa [hq] using hz
    unfold Oper.wp
    simp [execOp, ho, Instr.alloc, zeroValue, typeInfo, hq, hz', newVar, newRow, Value.cells]
    exact h _ _ (hM.new_ ((Ch.refl _ _).alloc _) (Blk.new w t zs) fun k hk => by rw [hk]; exact Nat.le_refl _)
theorem ws_box (hM : Star L w) {t : TypeId} {x : Operand} (ho : o.op = .box t x) {v : Value} (hx : a.eval x = v) {cs : Array Value} (hc : v.cells = cs)
    (h : ∀ g w1, Star (cellsE g t cs :: L) w1 → K (a.put o.dst (.pointer (some ⟨g, 0, none⟩))) w1) : Oper.wp P o a w K Q := by
  subst hc
  unfold Oper.wp
  simp [execOp, ho, hx, Instr.box, newVar, newRow]
  exact h _ _ (hM.new_ ((Ch.refl _ _).alloc _) (Blk.new w t v.cells) fun k hk => by rw [hk]; exact Nat.le_refl _)
theorem run_load1 (w : World) (ty : TypeId) (ad : Addr) (v : Value) (hp : plainTy P ty = true) (hc : w.cell? ad = some v) : (loadVar ty ad).run P w = .ok v w := by
  unfold plainTy at hp
  cases hq : P.underlying ty with
  | none => rw [hq] at hp; simp at hp
  | some d =>
    have hagg : (isAgg ty).run P w = .ok false w := by
      unfold isAgg
      rw [Sem.run_bind, run_underlying hq w]
      cases d <;> simp_all
    simp [loadVar, Sem.run_bind, hagg, hc, go_sem]
theorem ws_load1 (hM : Star L w) {ty : TypeId} {x : Operand} (ho : o.op = .load ty x) {g i : Nat} (hx : a.eval x = .pointer (some ⟨g, i, none⟩)) {t : TypeId} {cs : Array Value} (hb : cellsE g t cs ∈ L) {v : Value} (hv : cs[i]? = some v)
    (hp : plainTy P ty = true) (h : K (a.put o.dst v) w) : Oper.wp P o a w K Q := by
  have hr := run_load1 (P := P) w ty ⟨g, i, none⟩ v hp (((hM.blk hb).cell i).trans hv)
  unfold Oper.wp execOp
  simp only [ho, hx, Instr.loadAt, Instr.sureAddr, Sem.run_bind, Sem.run_pure, Result.andThen_ok, hr]
  exact h
theorem ws_load_at {ty : TypeId} {x : Operand} (ho : o.op = .load ty x) {ad : Addr} (hx : a.eval x = .pointer (some ad)) (cs : List Value) (hc : ∀ j v, cs[j]? = some v → w.cell? (ad.add j) = some v) {n : Nat} (hn : cs.length = n) (hp : rowTy P ty n = true)
    (h : K (a.put o.dst (.agg cs.toArray)) w) : Oper.wp P o a w K Q := by
  obtain ⟨⟨d, h1, h2⟩, h3⟩ := rowTy_und hp
  unfold Oper.wp execOp
  simp only [ho, hx, Instr.loadAt, Instr.sureAddr, Sem.run_bind, Sem.run_pure, Result.andThen_ok, run_loadVar_at w ad ty cs d hc h1 (by cases d <;> simp_all) (by rw [h3, hn])]
  exact h
/-- A block is read whole. -/
theorem ws_load (hM : Star L w) {ty : TypeId} {x : Operand} (ho : o.op = .load ty x) {g : Nat} (hx : a.eval x = .pointer (some ⟨g, 0, none⟩)) {t : TypeId} {cs : Array Value} (hb : cellsE g t cs ∈ L)
    {n : Nat} (hn : cs.size = n) (hp : rowTy P ty n = true) (h : K (a.put o.dst (.agg cs)) w) : Oper.wp P o a w K Q :=
  ws_load_at ho hx cs.toList (fun j v hj => by rw [add_lit, Nat.zero_add, (hM.blk hb).cell]; simpa using hj) (by simpa using hn) hp (by simpa using h)
/-- Cells in the midst of a block. -/
theorem ws_load_mid (hM : Star L w) {ty : TypeId} {x : Operand} (ho : o.op = .load ty x) {g i : Nat} (hx : a.eval x = .pointer (some ⟨g, i, none⟩)) {t : TypeId} {cs : Array Value} (hb : cellsE g t cs ∈ L)
    (vs : List Value) (hv : ∀ j v, vs[j]? = some v → cs[i + j]? = some v) {n : Nat} (hn : vs.length = n) (hp : rowTy P ty n = true) (h : K (a.put o.dst (.agg vs.toArray)) w) : Oper.wp P o a w K Q :=
  ws_load_at ho hx vs (fun j v hj => by rw [add_lit, (hM.blk hb).cell]; exact hv j v hj) hn hp h
/-- Cells are written, from i on. -/
theorem ws_store_at (hM : Star L w) {ty : TypeId} {x y : Operand} (ho : o.op = .store ty x y) {g i : Nat} (hx : a.eval x = .pointer (some ⟨g, i, none⟩)) {v : Value} (hy : a.eval y = v) {t : TypeId} {old : Array Value} (hb : Take (cellsE g t old) L R)
    (n : Nat) (hn : v.cells.size = n) (hi : i + n ≤ old.size) (hs : (P.info? ty).map (·.size) = some n) (h1 : ∀ u ∈ v.cells.toList, u.oneCell' = true)
    {cs : Array Value} (hcs : (old.toList.take i ++ v.cells.toList ++ old.toList.drop (i + n)).toArray = cs)
    (h : ∀ w1, Star (cellsE g t cs :: R) w1 → K (a.put o.dst undef) w1) : Oper.wp P o a w K Q := by
  subst hcs hn
  have hB : Blk w g t old := (hM.take hb).head
  have hst := run_storeCells_at P g i t v.cells.toList 0 old w hB (by simpa using hi) h1
  have hrun : (storeVar ty ⟨g, i, none⟩ v).run P w = .ok () (w.setRow g (old.toList.take i ++ v.cells.toList ++ old.toList.drop (i + v.cells.size)).toArray) := by
    cases hq : P.info? ty with
    | none => simp [hq] at hs
    | some j =>
      have hsz : j.size = v.cells.size := by simpa [hq] using hs
      simp only [Nat.add_zero, Array.length_toList] at hst
      simp [storeVar, sizeOf, typeInfo, hq, hsz, hst]
  unfold Oper.wp execOp
  simp only [ho, hx, hy, Instr.storeAt, Instr.sureAddr, Sem.run_bind, Sem.run_pure, Result.andThen_ok, hrun]
  exact h _ ((hM.take hb).put (bs := [g]) rfl (setRow_ch w g _) (fun b hb => .inl (List.mem_singleton.1 hb)) (setRow_blk hB _) fun k hk => .inl hk)
theorem ws_store (hM : Star L w) {ty : TypeId} {x y : Operand} (ho : o.op = .store ty x y) {g : Nat} (hx : a.eval x = .pointer (some ⟨g, 0, none⟩)) {cs : Array Value} (hy : a.eval y = .agg cs) {t : TypeId} {old : Array Value} (hb : Take (cellsE g t old) L R)
    {n : Nat} (hn : cs.size = n) (hn2 : old.size = n) (hp : (P.info? ty).map (·.size) = some n) (h1 : ∀ v ∈ cs.toList, v.oneCell' = true)
    (h : ∀ w1, Star (cellsE g t cs :: R) w1 → K (a.put o.dst undef) w1) : Oper.wp P o a w K Q :=
  ws_store_at hM ho hx hy hb n hn (by omega) hp h1 (by subst hn; simp only [Value.cells, List.take_zero, List.nil_append]; rw [List.drop_of_length_le (by simp; omega)]; simp) h
theorem ws_store1 (hM : Star L w) {ty : TypeId} {x y : Operand} (ho : o.op = .store ty x y) {g i : Nat} (hx : a.eval x = .pointer (some ⟨g, i, none⟩)) {v : Value} (hy : a.eval y = v) (hv1 : v.oneCell' = true) {t : TypeId} {old : Array Value} (hb : Take (cellsE g t old) L R)
    (hi : i < old.size) (hs : (P.info? ty).map (·.size) = some 1) {cs : Array Value} (hcs : old.setIfInBounds i v = cs)
    (h : ∀ w1, Star (cellsE g t cs :: R) w1 → K (a.put o.dst undef) w1) : Oper.wp P o a w K Q := by
  have hvc : v.cells = #[v] := by cases v <;> simp_all [Value.oneCell', Value.cells]
  refine ws_store_at hM ho hx hy hb 1 (by rw [hvc]; rfl) (by omega) hs (by rw [hvc]; simpa using hv1) ?_ h
  rw [← hcs, hvc]
  apply Array.toList_inj.1
  rw [Array.toList_setIfInBounds, List.set_eq_take_append_cons_drop, if_pos (by simpa using hi)]
  simp
/-- string(b). -/
theorem ws_string {src dst : TypeId} {x : Operand} (ho : o.op = .convert src dst x) (e : TypeId)
    (hs : P.underlying src = some (.slice e)) (hd : P.underlying dst = some .string) (he : P.underlying e = some (.int .u8)) {A : Option Addr} {n c : Nat} (hx : a.eval x = .slice A n c) {l : List UInt8} (hr : Rd w 1 A n (bvs l))
    (h : K (a.put o.dst (.string ⟨l.toArray⟩)) w) : Oper.wp P o a w K Q := by
  have hn : n = l.length := by have := hr.1; rw [bvs_len] at this; omega
  subst hn
  have hrun : (convert src dst (.slice A l.length c)).run P w = .ok (.string ⟨l.toArray⟩) w := by
    rcases Nat.eq_zero_or_pos l.length with h0 | h0
    · have hl : l = [] := List.eq_nil_of_length_eq_zero h0
      subst hl
      rw [run_convert_bytes_string w src dst e A _ c hs he hd]
      cases A with
      | none => rfl
      | some ad => simp [Conv.bytesToString, loadCells]; rfl
    · obtain ⟨ad, rfl, hb, hc⟩ := hr.2 h0
      exact run_convert_bytes_back w src dst e ad c l hs he hd fun j hj => hc j _ (bvs_get l j hj)
  unfold Oper.wp
  simp only [execOp, ho, hx, Sem.run_bind, hrun, Result.andThen_ok, Sem.run_pure]
  exact h
/-- append. -/
theorem ws_append (hM : Star L w) {s x : Operand} {t : TypeId} (ho : o.op = .call { callee := .builtin .append, args := #[s, x], argTypes := #[t, t] })
    {B : Option Addr} {n c0 : Nat} (hs : a.eval s = .slice B n c0) {A : Option Addr} {m c : Nat} (hx : a.eval x = .slice A m c)
    (e : TypeId) (z : Value) (size bytes : Nat) (ht : P.underlying t = some (.slice e)) (hi : (P.info? e).map (fun i => (i.zero, i.size, i.bytes)) = some (some z, size, bytes)) (hzs : z.cells.size = size) (hsz : 0 < size)
    {xs news : List Value} (hb : Take (ownE e size B n c0 xs) L R) (hr : Rd w size A m news) (h1 : ∀ u ∈ news, u.oneCell' = true) (hbytes : (n + m) * (bytes + 1) ≤ 140737488355328)
    (h : ∀ A' c' w1, Star (ownE e size A' (n + m) c' (xs ++ news) :: R) w1 → (A' = none → xs = [] ∧ m = 0) → K (a.put o.dst (.slice A' (n + m) c')) w1) : Oper.wp P o a w K Q := by
  obtain ⟨i, hi0, hz, hsize, hby⟩ := info_parts hi
  have hb2 : (n + m) * bytes ≤ 140737488355328 := Nat.le_trans (Nat.mul_le_mul_left _ (Nat.le_succ _)) hbytes
  have h63 : n + m ≤ maxLen := by
    have : (n + m) * 1 ≤ (n + m) * (bytes + 1) := Nat.mul_le_mul_left _ (by omega)
    unfold maxLen; omega
  have hown : w.ownsRow 0 e size (.slice B n c0) n xs := (hM.take hb).head
  obtain ⟨v', w', hrun, h2, h3, h4, h5⟩ := run_append_any (P := P) w 0 t o.type e i z size bytes ht hi0 hz hsize hby hzs hsz _ n xs hown A m c news hr h1 h63 hb2 (Nat.zero_le _)
  obtain ⟨A', c', rfl⟩ := own_form h2
  unfold Oper.wp execOp
  simp only [ho, resolve, invoke, builtin, Sem.run_bind, Sem.run_pure, Result.andThen_ok, List.map_toArray, List.map_cons, List.map_nil, hs, hx, hrun]
  have hC : Ch (obl B) w w' := Ch.of_grown h3 fun k hk => by rw [← obl_own B n c0, hk]; simp
  refine h A' c' w' ((hM.take hb).put (bs := obl B) rfl hC ?_ h2 ?_) ?_
  · intro b hb
    cases B with
    | none => cases hb
    | some ad => rcases List.mem_singleton.1 hb with rfl; exact .inl ⟨ad, rfl, rfl⟩
  · rintro k ⟨ad, rfl, rfl⟩
    rcases h4 with h4 | h4
    · cases B with
      | none => simp [Value.ownBlock] at h4
      | some ad2 => simp [Value.ownBlock] at h4; exact .inl ⟨ad2, rfl, h4⟩
    · simp [Value.ownBlock] at h4
      exact .inr (by omega)
  · intro hA
    subst hA
    rcases h2.2 with ⟨h6, h7⟩ | ⟨g, cap, cur, h6, _⟩
    · have hm : n = 0 ∧ m = 0 := by omega
      obtain ⟨rfl, rfl⟩ := hm
      exact ⟨List.eq_nil_of_length_eq_zero (by simpa using hown.1), rfl⟩
    · injection h6 with h6; cases h6
theorem fill_rows (size : Nat) : ∀ (vs : List Value) (k : Nat) (pre : List Value) (cells : Array Value), (∀ v ∈ vs, v.cells.size = size) → pre.length = k * size → cells.size = (k + vs.length) * size → cells.toList.take (k * size) = pre →
    Instr.fill (fun i => some (i * size, size)) cells ((vs.zipIdx k).map fun p => (p.2, p.1)) = some (pre ++ vs.flatMap fun v => v.cells.toList).toArray := by
  intro vs
  induction vs with
  | nil =>
    intro k pre cells _ hp hc ht
    simp only [List.zipIdx_nil, List.map_nil, Instr.fill, List.flatMap_nil, List.append_nil, Option.some.injEq]
    apply Array.toList_inj.1
    rw [← ht, List.take_of_length_le (by simp at hc ⊢; omega)]
  | cons v vs ih =>
    intro k pre cells hv hp hc ht
    have hsz := hv v List.mem_cons_self
    simp only [List.length_cons] at hc
    have hle : k * size + size ≤ cells.size := by rw [hc, show k + (vs.length + 1) = (k + 1) + vs.length by omega, Nat.add_mul, Nat.add_mul]; omega
    have hfold : ∀ (l : List Value) (j : Nat) (acc : Array Value), k * size + j + l.length ≤ acc.size → (l.zipIdx j).foldl (fun cs p => cs.setIfInBounds (k * size + p.2) p.1) acc = (acc.toList.take (k * size + j) ++ l ++ acc.toList.drop (k * size + j + l.length)).toArray := by
      intro l
      induction l with
      | nil => intro j acc hk; simp
      | cons u l ih2 =>
        intro j acc hk
        simp only [List.length_cons] at hk
        simp only [List.zipIdx_cons, List.foldl_cons]
        rw [ih2 (j + 1) _ (by simp; omega)]
        congr 1
        simp only [Array.toList_setIfInBounds, List.length_cons]
        rw [List.take_set, List.drop_set_of_lt (by omega), show k * size + (j + 1) = (k * size + j) + 1 by omega, List.take_succ_eq_append_getElem (by simp; omega), List.set_append]
        simp only [List.length_take, Array.length_toList]
        rw [Nat.min_eq_left (by omega), if_neg (by omega), Nat.sub_self]
        simp [show k * size + j + 1 + l.length = k * size + j + (l.length + 1) by omega]
    have hf := hfold v.cells.toList 0 cells (by simp; omega)
    simp only [List.zipIdx_cons, List.map_cons, Instr.fill, hsz, ne_eq, not_true_eq_false, decide_false, Bool.false_or]
    rw [if_neg (by simp; omega), ← Array.foldl_toList, Array.toList_zipIdx, hf]
    rw [ih (k + 1) (pre ++ v.cells.toList) _ (fun u hu => hv u (List.mem_cons_of_mem _ hu)) (by simp [hp, hsz, Nat.add_mul]) (by simp [hsz]; rw [Nat.min_eq_left (by omega), hc]; rw [show k + (vs.length + 1) = (k + 1) + vs.length by omega] at hc ⊢; rw [Nat.add_mul, Nat.add_mul]; rw [Nat.add_mul, Nat.add_mul] at hc; omega) ?_]
    · simp
    · simp only [Nat.add_zero, List.toList_toArray]
      rw [ht, List.take_append_of_le_length (by simp [hp, hsz, Nat.add_mul])]
      rw [List.take_of_length_le (by simp [hp, hsz, Nat.add_mul])]
/-- []T{x, ..}. -/
theorem run_slice (w : World) (t e : TypeId) (n size : Nat) (z : Value) (vs : List Value) (ht : P.underlying t = some (.slice e)) (hi : (P.info? e).map (fun i => (i.zero, i.size)) = some (some z, size)) (hv : ∀ v ∈ vs, v.cells.size = size) (hn : vs.length = n) (hsm : n * size ≤ 16777216)
    (ps : Array (Nat × Value)) (hps : ps.toList = vs.zipIdx.map fun p => (p.2, p.1)) :
    (Instr.buildSlice t n ps).run P w = .ok (.slice (some ⟨w.heap.size, 0, none⟩) n n) (w.alloc (.cells (vs.flatMap fun v => v.cells.toList).toArray e)) := by
  subst hn
  cases hq : P.info? e with
  | none => simp [hq] at hi
  | some i =>
    obtain ⟨hz0, hs0⟩ : i.zero = some z ∧ i.size = size := by simpa [hq] using hi
    have hfill : ∀ zero : Array Value, Instr.fill (fun i => some (i * size, size)) ((Array.range (vs.length * size)).map (zero[· % zero.size]!)) ps.toList = some (vs.flatMap fun v => v.cells.toList).toArray := fun zero => by
      rw [hps]
      exact fill_rows size vs 0 [] _ hv (by simp) (by simp) (by simp)
    have hsm' : ¬ (vs.length * size > 16777216) := by omega
    by_cases h0 : vs.length * size = 0
    · have h9 := hfill #[]
      rw [h0] at h9
      simp [Instr.buildSlice, run_underlying ht, sizeOf, typeInfo, hq, hs0, hsm', h0, newRow]
      have e9 : ∀ f : Nat → Value, Array.map f (Array.range 0) = #[] := fun f => by simp
      rw [e9] at h9 ⊢
      simp [h9]
    · simp [Instr.buildSlice, run_underlying ht, sizeOf, typeInfo, hq, hz0, hs0, zeroValue, hsm', h0, hfill, newRow]
theorem ws_slice (hM : Star L w) {t : TypeId} {n : Nat} {xs : Array (Nat × Operand)} (ho : o.op = .buildSlice t n xs) (e : TypeId) (size : Nat) (z : Value) (vs : List Value) (ht : P.underlying t = some (.slice e)) (hi : (P.info? e).map (fun i => (i.zero, i.size)) = some (some z, size))
    (hx : (xs.toList.map fun p => (p.1, a.eval p.2)) = vs.zipIdx.map fun p => (p.2, p.1)) (hv : ∀ v ∈ vs, v.cells.size = size) (hn : vs.length = n) (hsm : n * size ≤ 16777216) {cs : Array Value} (hcs : (vs.flatMap fun v => v.cells.toList).toArray = cs)
    (h : ∀ g w1, Star (cellsE g e cs :: L) w1 → K (a.put o.dst (.slice (some ⟨g, 0, none⟩) n n)) w1) : Oper.wp P o a w K Q := by
  subst hcs
  have hr := run_slice (P := P) w t e n size z vs ht hi hv hn hsm (xs.map fun p => (p.1, a.eval p.2)) (by rw [← hx]; simp)
  unfold Oper.wp
  simp only [execOp, ho, hr, Sem.run_bind, Sem.run_pure, Result.andThen_ok]
  exact h _ _ (hM.new_ ((Ch.refl _ _).alloc _) (Blk.new w e _) fun k hk => by rw [hk]; exact Nat.le_refl _)
/-- []T{x, ..}, only read from then on. -/
theorem ws_slice_row (hM : Star L w) {t : TypeId} {n : Nat} {xs : Array (Nat × Operand)} (ho : o.op = .buildSlice t n xs) (e : TypeId) (size : Nat) (z : Value) (vs : List Value) (ht : P.underlying t = some (.slice e)) (hi : (P.info? e).map (fun i => (i.zero, i.size)) = some (some z, size))
    (hx : (xs.toList.map fun p => (p.1, a.eval p.2)) = vs.zipIdx.map fun p => (p.2, p.1)) (hv : ∀ v ∈ vs, v.cells.size = size) (hn : vs.length = n) (hsm : n * size ≤ 16777216) {cs : List Value} (hcs : (vs.flatMap fun v => v.cells.toList) = cs)
    (h : ∀ g w1, Star (rowE size (some ⟨g, 0, none⟩) n cs :: L) w1 → K (a.put o.dst (.slice (some ⟨g, 0, none⟩) n n)) w1) : Oper.wp P o a w K Q := by
  have hl : cs.length = n * size := by
    subst hcs hn
    clear hx ho h hsm
    induction vs with
    | nil => simp
    | cons v vs ih => simp only [List.flatMap_cons, List.length_append, List.length_cons, Array.length_toList, hv v List.mem_cons_self, ih fun u hu => hv u (List.mem_cons_of_mem _ hu)]; rw [Nat.add_mul]; omega
  exact ws_slice hM ho e size z vs ht hi hx hv hn hsm (cs := cs.toArray) (by rw [hcs]) fun g w1 hM => h g w1 (by simpa using hM.row_of_blk (n := n) (size := size) (by simpa using hl))
/-- []T{x, ..}, to which is appended. -/
theorem ws_slice_own (hM : Star L w) {t : TypeId} {n : Nat} {xs : Array (Nat × Operand)} (ho : o.op = .buildSlice t n xs) (e : TypeId) (size : Nat) (z : Value) (vs : List Value) (ht : P.underlying t = some (.slice e)) (hi : (P.info? e).map (fun i => (i.zero, i.size)) = some (some z, size))
    (hx : (xs.toList.map fun p => (p.1, a.eval p.2)) = vs.zipIdx.map fun p => (p.2, p.1)) (hv : ∀ v ∈ vs, v.cells.size = size) (hn : vs.length = n) (hsm : n * size ≤ 16777216) (hsm2 : n ≤ 16777216) {cs : List Value} (hcs : (vs.flatMap fun v => v.cells.toList) = cs)
    (h : ∀ g w1, Star (ownE e size (some ⟨g, 0, none⟩) n n cs :: L) w1 → K (a.put o.dst (.slice (some ⟨g, 0, none⟩) n n)) w1) : Oper.wp P o a w K Q := by
  have hl : cs.length = n * size := by
    subst hcs hn
    clear hx ho h hsm hsm2
    induction vs with
    | nil => simp
    | cons v vs ih => simp only [List.flatMap_cons, List.length_append, List.length_cons, Array.length_toList, hv v List.mem_cons_self, ih fun u hu => hv u (List.mem_cons_of_mem _ hu)]; rw [Nat.add_mul]; omega
  exact ws_slice hM ho e size z vs ht hi hx hv hn hsm (cs := cs.toArray) (by rw [hcs]) fun g w1 hM => h g w1 (hM.as_ rfl (fun k ⟨ad, e, hk⟩ => by injection e with e; subst e; exact hk) fun hb => by
    have h9 := own_lit (base := 0) (size := size) (n := n) hb (Nat.zero_le _) (by unfold maxLen; omega) (by simpa using hl)
    rwa [List.toList_toArray] at h9)
/-- make([]T, n). -/
theorem ws_make (hM : Star L w) {t : TypeId} {x y : Operand} (ho : o.op = .makeSlice t x y) (e : TypeId) (i : TypeInfo) (z : Value) (ht : P.underlying t = some (.slice e)) (hi : P.info? e = some i) (hz : i.zero = some z) (hi1 : i.size = 1) (hz1 : z.cells = #[z]) (hby : i.bytes ≤ 16)
    {n : Nat} (hx : a.eval x = .int .i64 (n : Int)) (hy : a.eval y = .int .i64 (n : Int)) (hsm : n ≤ 1000000000)
    (h : ∀ g w1, Star (cellsE g e (List.replicate n z).toArray :: L) w1 → K (a.put o.dst (.slice (some ⟨g, 0, none⟩) n n)) w1) : Oper.wp P o a w K Q := by
  have hb : (i.bytes : Int) * (n : Int) ≤ 281474976710656 := by
    have h1 : i.bytes * n ≤ 16 * 1000000000 := Nat.mul_le_mul hby hsm
    have : ((i.bytes * n : Nat) : Int) ≤ 281474976710656 := by omega
    rwa [Int.natCast_mul] at this
  have hr := run_make (P := P) w t e i z ht hi hz .i64 .i64 n n (by omega) (by omega) hb (by omega)
  simp only [Int.toNat_natCast] at hr
  have hc : madeCells z.cells (n * i.size) = (List.replicate n z).toArray := by
    rw [hz1, hi1, Nat.mul_one]
    apply Array.ext
    · simp [madeCells]
    · intro j h1 h2
      simp [madeCells, Nat.mod_one]
  rw [hc] at hr
  unfold Oper.wp
  simp only [execOp, ho, hx, hy, hr, Sem.run_bind, Sem.run_pure, Result.andThen_ok]
  exact h _ _ (hM.new_ ((Ch.refl _ _).alloc _) (Blk.new w e _) fun k hk => by rw [hk]; exact Nat.le_refl _)
/-- copy(row[:], s). -/
theorem ws_copy_str (hM : Star L w) {d s : Operand} {dT sT : TypeId} (ho : o.op = .call { callee := .builtin .copy, args := #[d, s], argTypes := #[dT, sT] }) {g n c : Nat} (hd : a.eval d = .slice (some ⟨g, 0, none⟩) n c) {l : List UInt8} (hx : a.eval s = .string ⟨l.toArray⟩)
    (elem : TypeId) (hu : P.underlying dT = some (.slice elem)) (hs : (P.info? elem).map (·.size) = some 1) {t : TypeId} {old : List UInt8} (hb : Take (cellsE g t (bvs old).toArray) L R) (hn : n = old.length)
    (h : ∀ w1, Star (cellsE g t (bvs (over old l)).toArray :: R) w1 → K (a.put o.dst (goInt (Nat.min l.length n))) w1) : Oper.wp P o a w K Q := by
  have hg : Blk w g t (bvs old).toArray := (hM.take hb).head
  have hrun := run_copy_str (P := P) w dT sT o.type elem g n c t old l hu hs hg hn
  unfold Oper.wp
  simp only [execOp, ho, resolve, invoke, builtin, Sem.run_bind, Sem.run_pure, Result.andThen_ok, List.map_toArray, List.map_cons, List.map_nil, hd, hx, hrun]
  exact h _ ((hM.take hb).put (bs := [g]) rfl (setRow_ch w g _) (fun b hb => .inl (List.mem_singleton.1 hb)) (setRow_blk hg _) fun k hk => .inl hk)
end
end Go.Proofs.Ytnckgkgilnmocaa
set_option linter.unusedSimpArgs false
set_option linter.unusedVariables false
namespace Go.Proofs.Ytnckgkgilnmocaa
open Go.RowKit
def iv (n : Int) : Value := .int .i64 n
def ivs (l : List Int) : List Value := l.map iv
theorem ivs_len (l : List Int) : (ivs l).length = l.length := by simp [ivs]
theorem svs_app (l m : List (List UInt8)) : svs (l ++ m) = svs l ++ svs m := by simp [svs]
theorem svs_len (l : List (List UInt8)) : (svs l).length = l.length := by simp [svs]
theorem svs_one (l : List (List UInt8)) : ∀ u ∈ svs l, u.oneCell' = true := by
  intro u hu
  obtain ⟨c, _, rfl⟩ := List.mem_map.1 hu
  rfl
/-- Names one behind the other. -/
def idvs (l : List (List UInt8)) : List Value := l.flatMap bvs
theorem idvs_one (l : List (List UInt8)) : ∀ u ∈ idvs l, u.oneCell' = true := by
  intro u hu
  obtain ⟨c, _, h⟩ := List.mem_flatMap.1 hu
  exact bvs_oneCell c u h
theorem idvs_app (l m : List (List UInt8)) : idvs (l ++ m) = idvs l ++ idvs m := by simp [idvs]
/-- Texts one behind the other. -/
def cat : List (List UInt8) → List UInt8
  | [] => []
  | l :: ls => l ++ cat ls
theorem cat_app (a b : List (List UInt8)) : cat (a ++ b) = cat a ++ cat b := by induction a with
  | nil => simp [cat]
  | cons x a ih => simp [cat, ih]
theorem cat_one (l : List UInt8) : cat [l] = l := by simp [cat]
theorem cat_snoc (a : List (List UInt8)) (l : List UInt8) : cat (a ++ [l]) = cat a ++ l := by rw [cat_app, cat_one]
theorem cat_le (m : Nat) (l : List (List UInt8)) (h : ∀ x ∈ l, x.length ≤ m) : (cat l).length ≤ m * l.length := by
  induction l with
  | nil => simp [cat]
  | cons a l ih =>
    have h1 := ih fun x hx => h x (List.mem_cons_of_mem _ hx)
    have h2 := h a List.mem_cons_self
    rw [cat, List.length_append, List.length_cons, Nat.mul_add]
    omega
theorem cat_take_all (l : List (List UInt8)) (k : Nat) : (cat (l.take k)).length ≤ (cat l).length := by
  induction l generalizing k with
  | nil => simp
  | cons a l ih =>
    cases k with
    | zero => simp [cat]
    | succ k => have := ih k; simp only [List.take_succ_cons, cat, List.length_append]; omega
theorem cat_mem_le (l : List (List UInt8)) (x : List UInt8) (h : x ∈ l) : x.length ≤ (cat l).length := by
  induction l with
  | nil => cases h
  | cons a l ih =>
    simp only [cat, List.length_append]
    rcases List.mem_cons.1 h with rfl | h
    · omega
    · have := ih h; omega
theorem flat_get {α : Type} (f : α → List Value) (size : Nat) (l : List α) (h : ∀ x ∈ l, (f x).length = size) (k : Nat) (x : α) (hk : l[k]? = some x) (j : Nat) (v : Value) (hj : (f x)[j]? = some v) : (l.flatMap f)[k * size + j]? = some v := by
  induction l generalizing k with
  | nil => cases hk
  | cons y l ih =>
    have hy := h y List.mem_cons_self
    cases k with
    | zero =>
      simp at hk
      subst hk
      have hlt := (List.getElem?_eq_some_iff.1 hj).1
      rw [List.flatMap_cons, Nat.zero_mul, Nat.zero_add, List.getElem?_append_left hlt]
      exact hj
    | succ k =>
      rw [List.flatMap_cons, List.getElem?_append_right (by rw [hy, Nat.add_mul]; omega), hy, show (k + 1) * size + j - size = k * size + j by rw [Nat.add_mul]; omega]
      exact ih (fun z hz => h z (List.mem_cons_of_mem _ hz)) k (by simpa using hk)
theorem flat_len {α : Type} (f : α → List Value) (size : Nat) (l : List α) (h : ∀ x ∈ l, (f x).length = size) : (l.flatMap f).length = l.length * size := by
  induction l with
  | nil => simp
  | cons y l ih => rw [List.flatMap_cons, List.length_append, h y List.mem_cons_self, ih fun z hz => h z (List.mem_cons_of_mem _ hz), List.length_cons, Nat.add_mul]; omega
/-- Element k of a row of rows: where it lies, it, the beginnings. -/
theorem Rd.elems {α : Type} {w : World} {A : Option Addr} {n k size : Nat} {l : List α} {f : α → List Value} (h : Rd w size A n (l.flatMap f)) (hf : ∀ x ∈ l, (f x).length = size) (hs : 0 < size) (hk : k < n) :
    ∃ ad d, A = some ad ∧ (∀ j v, (f d)[j]? = some v → w.cell? ((ad.add (k * size)).add j) = some v) ∧ l[k]? = some d ∧ l.take (k + 1) = l.take k ++ [d] := by
  obtain ⟨ad, hA, _, hc⟩ := h.2 (by omega)
  have hl := flat_len f size l hf
  rw [h.1] at hl
  have hkl : k < l.length := by
    have := Nat.eq_of_mul_eq_mul_right hs hl
    omega
  have hg : l[k]? = some l[k] := List.getElem?_eq_getElem hkl
  exact ⟨ad, l[k], hA, fun j v hv => by rw [add_of_add]; exact hc _ v (flat_get f size l hf k _ hg j v hv), hg, take_snoc_at l k _ hg⟩
theorem Star.arr {L : List SProp} {w : World} {g n : Nat} {t : TypeId} {l : List UInt8} (h : Star L w) (hx : cellsE g t (bvs l).toArray ∈ L) (hl : l.length = n) : Rd w 1 (some ⟨g, 0, none⟩) n (bvs l) :=
  Rd.of_blk (h.blk hx) (by simp [bvs_len, hl])
theorem idvs_row {w : World} {A : Option Addr} {n : Nat} {l : List (List UInt8)} (h : Rd w 32 A n (idvs l)) (hf : ∀ x ∈ l, x.length = 32) : l.length = n := by
  have := flat_len bvs 32 l fun x hx => by rw [bvs_len, hf x hx]
  have h2 := h.1
  unfold idvs at h2
  omega
theorem svs_row {w : World} {A : Option Addr} {n : Nat} {l : List (List UInt8)} (h : Rd w 1 A n (svs l)) : l.length = n := by rw [← svs_len]; exact h.len
theorem ivs_row {w : World} {A : Option Addr} {n : Nat} {l : List Int} (h : Rd w 1 A n (ivs l)) : l.length = n := by rw [← ivs_len]; exact h.len
theorem bvs_row {w : World} {A : Option Addr} {n : Nat} {l : List UInt8} (h : Rd w 1 A n (bvs l)) : l.length = n := by rw [← bvs_len]; exact h.len
theorem u8_u8 (c : UInt8) : IntKind.u8.wrap (c.toNat : Int) = c.toNat := by have := c.toNat_lt; rw [IntKind.wrap_u8]; omega
/-- An element of a row is read. -/
theorem ws_rowload {P : Program} {w : World} {o : Oper} {a : Act} {Q : Exit → Act → World → Prop} {K : Act → World → Prop} {ty : TypeId} {x : Operand} (ho : o.op = .load ty x) {ad : Addr} {k : Nat} (hx : a.eval x = .pointer (some (ad.add k)))
    {n : Nat} {xs : List Value} (hr : Rd w 1 (some ad) n xs) {v : Value} (hv : xs[k]? = some v) (hp : plainTy P ty = true) (h : K (a.put o.dst v) w) : Oper.wp P o a w K Q := by
  have hk : k < n := by have h1 := (List.getElem?_eq_some_iff.1 hv).1; have h2 := hr.len; omega
  obtain ⟨ad', e, _, hc⟩ := hr.2 (by omega)
  injection e with e
  subst e
  have hrun := run_load1 (P := P) w ty _ v hp (hc k v hv)
  unfold Oper.wp execOp
  simp only [ho, hx, Instr.loadAt, Instr.sureAddr, Sem.run_bind, Sem.run_pure, Result.andThen_ok, hrun]
  exact h
/-- Element k: its address, it, the beginnings. -/
theorem Star.elem {α : Type} {L : List SProp} {w : World} {A : Option Addr} {n k : Nat} {l : List α} {f : α → Value} (h : Star L w) (hx : rowE 1 A n (l.map f) ∈ L) (hk : k < n) :
    ∃ ad d, A = some ad ∧ (l.map f)[k]? = some (f d) ∧ l[k]? = some d ∧ l.take (k + 1) = l.take k ++ [d] := by
  obtain ⟨ad, d, h1, _, h3, h4⟩ := (h.row hx).elem hk
  exact ⟨ad, d, h1, by rw [List.getElem?_map, h3]; rfl, h3, h4⟩
theorem Star.elemS {L : List SProp} {w : World} {A : Option Addr} {n k : Nat} {l : List (List UInt8)} (h : Star L w) (hx : rowE 1 A n (svs l) ∈ L) (hk : k < n) :
    ∃ ad d, A = some ad ∧ (svs l)[k]? = some (.string ⟨d.toArray⟩) ∧ l[k]? = some d ∧ l.take (k + 1) = l.take k ++ [d] := h.elem (f := sv) hx hk
end Go.Proofs.Ytnckgkgilnmocaa
set_option linter.unusedSimpArgs false
set_option linter.unusedVariables false
namespace Go.Proofs.Ytnckgkgilnmocaa
theorem snocInd {α : Type} {P : List α → Prop} (h0 : P []) (h1 : ∀ s c, P s → P (s ++ [c])) (l : List α) : P l := by
  have key : ∀ r : List α, P r.reverse := fun r => by
    induction r with
    | nil => simpa using h0
    | cons c r ih => simpa using h1 _ c ih
  simpa using key l.reverse
/-- The digits of n to the base 256, the highest first, none of them a leading 0, at most f of them. -/
def digF : Nat → Nat → List UInt8
  | 0, _ => []
  | f + 1, n => if n = 0 then [] else digF f (n / 256) ++ [UInt8.ofNat (n % 256)]
def dig (n : Nat) : List UInt8 := digF 8 n
/-- A number's bytes: how many follow, and these. -/
def encNum (n : Nat) : List UInt8 := UInt8.ofNat (dig n).length :: dig n
def numOf (s : List UInt8) : Nat := s.foldl (fun v c => v * 256 + c.toNat) 0
theorem digF_zero (f : Nat) : digF f 0 = [] := by cases f <;> simp [digF]
theorem digF_len (f n : Nat) : (digF f n).length ≤ f := by
  induction f generalizing n with
  | zero => simp [digF]
  | succ f ih =>
    unfold digF; split
    · simp
    · have := ih (n / 256); simp; omega
theorem dig_len (n : Nat) : (dig n).length ≤ 8 := digF_len 8 n
theorem digF_pos (f n : Nat) (h : n ≠ 0) : digF (f + 1) n = digF f (n / 256) ++ [UInt8.ofNat (n % 256)] := by simp [digF, h]
theorem numOf_snoc (s : List UInt8) (c : UInt8) : numOf (s ++ [c]) = numOf s * 256 + c.toNat := by simp [numOf]
theorem numOf_lt (s : List UInt8) : numOf s < 256 ^ s.length := by
  induction s using snocInd with
  | h0 => simp [numOf]
  | h1 s c ih =>
    rw [numOf_snoc, List.length_append, List.length_singleton, Nat.pow_succ]
    have := c.toNat_lt
    omega
theorem numOf_digF (f n : Nat) (h : n < 256 ^ f) : numOf (digF f n) = n := by
  induction f generalizing n with
  | zero => have : n = 0 := by simpa using h
            subst this; rfl
  | succ f ih =>
    by_cases hn : n = 0
    · subst hn; simp [digF, numOf]
    · rw [digF_pos f n hn, numOf_snoc, ih (n / 256) (by rw [Nat.pow_succ] at h; omega)]
      have : (UInt8.ofNat (n % 256)).toNat = n % 256 := by simp
      omega
theorem digF_head (f n : Nat) (h : n < 256 ^ f) : ∀ c, (digF f n).head? = some c → c ≠ 0 := by
  induction f generalizing n with
  | zero => simp [digF]
  | succ f ih =>
    intro c hc
    by_cases hn : n = 0
    · subst hn; simp [digF] at hc
    · rw [digF_pos f n hn] at hc
      by_cases hq : n / 256 = 0
      · rw [hq, digF_zero] at hc
        simp at hc
        subst hc
        intro h0
        have := congrArg UInt8.toNat h0
        simp at this
        omega
      · have : digF f (n / 256) ≠ [] := by
          intro he
          have h1 := numOf_digF f (n / 256) (by rw [Nat.pow_succ] at h; omega)
          rw [he] at h1
          simp [numOf] at h1
          omega
        apply ih (n / 256) (by rw [Nat.pow_succ] at h; omega) c
        cases hd : digF f (n / 256) with
        | nil => exact absurd hd this
        | cons a l => rw [hd] at hc; simpa using hc
theorem numOf_dig (n : Nat) (h : n ≤ 18446744073709551615) : numOf (dig n) = n := numOf_digF 8 n (by omega)
theorem dig_head (n : Nat) (h : n ≤ 18446744073709551615) : ∀ c, (dig n).head? = some c → c ≠ 0 := digF_head 8 n (by omega)
/-- What a bale comes to: what is left, the error. -/
def mFail (l : List UInt8) (e n : Int) : List UInt8 × Int := if e = 0 then ([], n) else (l, e)
/-- So many bytes: they, what is left, the error. -/
def mBytes (l : List UInt8) (e n : Int) : List UInt8 × List UInt8 × Int :=
  if e = 0 then (if 0 ≤ n ∧ n ≤ l.length then (l.take n.toNat, l.drop n.toNat, 0) else ([], [], 1)) else ([], l, e)
/-- A number. -/
def mNum (l : List UInt8) (e : Int) : Nat × List UInt8 × Int :=
  if e = 0 then
    (match l with
    | [] => (0, [], 1)
    | h :: t => if 8 < h.toNat then (0, [], 2) else if t.length < h.toNat then (0, [], 1) else
        if (t.take h.toNat).head? = some 0 then (0, [], 2) else (numOf (t.take h.toNat), t.drop h.toNat, 0))
  else (0, l, e)
/-- A number of at most so much. -/
def mInt (l : List UInt8) (e top : Int) : Int × List UInt8 × Int :=
  let r := mNum l e
  if r.2.2 = 0 then (if max top 0 < (r.1 : Int) then (0, [], 5) else (r.1, r.2.1, 0)) else (0, r.2.1, r.2.2)
theorem mNum_enc (n : Nat) (t : List UInt8) (h : n ≤ 18446744073709551615) : mNum (encNum n ++ t) 0 = (n, t, 0) := by
  have hd := dig_len n
  have hh := dig_head n h
  have hn := numOf_dig n h
  have hc : (UInt8.ofNat (dig n).length).toNat = (dig n).length := by simp; omega
  unfold mNum encNum
  simp only [List.cons_append, if_true]
  rw [hc, if_neg (by omega), if_neg (by simp)]
  simp only [List.take_left', List.drop_left']
  rw [hn, if_neg]
  intro h0
  exact hh 0 h0 rfl
theorem mInt_enc (n : Nat) (t : List UInt8) (top : Int) (h : (n : Int) ≤ max top 0) (hn : n ≤ 18446744073709551615) : mInt (encNum n ++ t) 0 top = ((n : Int), t, 0) := by
  unfold mInt
  rw [mNum_enc n t hn]
  simp only [if_true]
  rw [if_neg (by omega)]
end Go.Proofs.Ytnckgkgilnmocaa
set_option linter.unusedSimpArgs false
set_option linter.unusedVariables false
namespace Go.Proofs.Ytnckgkgilnmocaa
open Go.RowKit
attribute [local go_sem] extract_mid extract_drop bget bsize wrap64_u8 i64_u8 u64_u8
/-- Block b is a bale: what is left, the error. -/
def Bal (w : World) (b : Nat) (l : List UInt8) (e : Int) : Prop := Blk w b 161 #[.string ⟨l.toArray⟩, .int .i64 e]
theorem Bal.facts {w : World} {b : Nat} {l : List UInt8} {e : Int} (h : Bal w b l e) :
    w.cell? ⟨b, 0, none⟩ = some (.string ⟨l.toArray⟩) ∧ w.cell? ⟨b, 1, none⟩ = some (.int .i64 e) ∧ w.frozen? ⟨b, 0, none⟩ = false ∧ w.frozen? ⟨b, 1, none⟩ = false :=
  ⟨Blk.cell h 0, Blk.cell h 1, Blk.frozen h 0, Blk.frozen h 1⟩
theorem Bal.set0 {w : World} {b : Nat} {l : List UInt8} {e : Int} (h : Bal w b l e) (m : List UInt8) : Bal (w.setCell ⟨b, 0, none⟩ (.string ⟨m.toArray⟩)) b m e := Blk.set_ h 0 _
theorem Bal.set1 {w : World} {b : Nat} {l : List UInt8} {e : Int} (h : Bal w b l e) (n : Int) : Bal (w.setCell ⟨b, 1, none⟩ (.int .i64 n)) b l n := Blk.set_ h 1 _
theorem open_any (l : List UInt8) (w : World) :
    Calls Try.prog 71 #[.string ⟨l.toArray⟩] w fun r w' => r = .returned (.pointer (some ⟨w.heap.size, 0, none⟩)) ∧ Bal w' w.heap.size l 0 ∧ Ch [] w w' := by
  go_enter Try.func71, Try.ntmps71
  go_wp2
  go_ret
  exact ⟨rfl, Blk.new _ _ _, (Ch.refl _ _).alloc _⟩
theorem err_any {b : Nat} {l : List UInt8} {e : Int} {w : World} (h : Bal w b l e) :
    Calls Try.prog 74 #[.pointer (some ⟨b, 0, none⟩)] w fun r w' => r = .returned (.int .i64 e) ∧ w = w' := by
  obtain ⟨c0, c1, f0, f1⟩ := h.facts
  go_enter Try.func74, Try.ntmps74
  go_wp2
  go_ret
  exact ⟨rfl, rfl⟩
theorem left_any {b : Nat} {l : List UInt8} {e : Int} {w : World} (h : Bal w b l e) :
    Calls Try.prog 95 #[.pointer (some ⟨b, 0, none⟩)] w fun r w' => r = .returned (.string ⟨l.toArray⟩) ∧ w = w' := by
  obtain ⟨c0, c1, f0, f1⟩ := h.facts
  go_enter Try.func95, Try.ntmps95
  go_wp2
  go_ret
  exact ⟨rfl, rfl⟩
theorem fail_any {b : Nat} {l : List UInt8} {e : Int} {w : World} (h : Bal w b l e) (n : Int) :
    Calls Try.prog 92 #[.pointer (some ⟨b, 0, none⟩), .int .i64 n] w fun r w' => r = .returned (.tuple #[]) ∧ Bal w' b (mFail l e n).1 (mFail l e n).2 ∧ Ch [b] w w' := by
  obtain ⟨c0, c1, f0, f1⟩ := h.facts
  by_cases he : e = 0
  · subst he
    go_enter Try.func92, Try.ntmps92
    go_wp2
    go_end0
    exact ⟨rfl, (h.set1 n).set0 [], ((Ch.refl _ _).setCell (.inl (by simp)) _).setCell (.inl (by simp)) _⟩
  · have hb : (e == 0) = false := by simpa using he
    go_enter Try.func92, Try.ntmps92
    go_wp2
    go_end0
    exact ⟨rfl, by simp only [mFail, if_neg he]; exact h, Ch.refl _ _⟩
theorem bytes_any {b : Nat} {l : List UInt8} {e : Int} {w : World} (h : Bal w b l e) (n : Int) :
    Calls Try.prog 72 #[.pointer (some ⟨b, 0, none⟩), .int .i64 n] w fun r w' =>
      r = .returned (.string ⟨(mBytes l e n).1.toArray⟩) ∧ Bal w' b (mBytes l e n).2.1 (mBytes l e n).2.2 ∧ Ch [b] w w' := by
  obtain ⟨c0, c1, f0, f1⟩ := h.facts
  by_cases h1 : 0 ≤ n ∧ n ≤ l.length
  · obtain ⟨h2, h3⟩ := h1
    obtain ⟨k, rfl⟩ := Int.eq_ofNat_of_zero_le h2
    have h4 : k ≤ l.length := by omega
    by_cases he : e = 0
    · subst he
      go_enter Try.func72, Try.ntmps72
      go_wp2
      go_ret
      have e1 : mBytes l 0 (k : Int) = (l.take k, l.drop k, 0) := by simp [mBytes, h4]
      rw [e1]
      exact ⟨rfl, h.set0 _, (Ch.refl _ _).setCell (.inl (by simp)) _⟩
    · have hb : (e != 0) = true := by simpa using he
      have e1 : mBytes l e (k : Int) = ([], l, e) := by simp [mBytes, he]
      rw [e1]
      go_enter Try.func72, Try.ntmps72
      go_wp2
      go_ret
      exact ⟨rfl, h, Ch.refl _ _⟩
  · have e2 : mBytes l e n = ([], (mFail l e 1).1, (mFail l e 1).2) := by
      unfold mBytes mFail
      by_cases he : e = 0
      · rw [if_pos he, if_neg h1, if_pos he]
      · rw [if_neg he, if_neg he]
    have e3 : ((mFail l e 1).2 != 0) = true := by
      unfold mFail
      by_cases he : e = 0
      · simp [he]
      · simp [he]
    rw [e2]
    by_cases h2 : n < 0
    · go_enter Try.func72, Try.ntmps72
      go_wp2_with (go_at_call 92; refine (fail_any h 1).mono ?_; rintro r w' ⟨rfl, hB, hC⟩; obtain ⟨d0, d1, g0, g1⟩ := hB.facts)
      go_ret
      exact ⟨rfl, hB, hC⟩
    · have h3 : (l.length : Int) < n := by omega
      go_enter Try.func72, Try.ntmps72
      go_wp2_with (go_at_call 92; refine (fail_any h 1).mono ?_; rintro r w' ⟨rfl, hB, hC⟩; obtain ⟨d0, d1, g0, g1⟩ := hB.facts)
      go_ret
      exact ⟨rfl, hB, hC⟩
/-- The method Num where the length byte is good: the bytes that follow are not empty and begin with no 0. -/
theorem pow_le8 (k : Nat) (h : k ≤ 7) : 256 ^ k ≤ 72057594037927936 := by
  have := Nat.pow_le_pow_right (n := 256) (by omega) h
  simpa using this
theorem bal_conv {w w' : World} {b : Nat} {l : List UInt8} {e : Int} (h : Bal w b l e) (hc : Ch [] w w') : Bal w' b l e := Blk.ch0 h hc
set_option maxRecDepth 100000 in
theorem num_ok {b : Nat} {h : UInt8} {t s u : List UInt8} {c : UInt8} {w : World} (hB : Bal w b (h :: t) 0) (h8 : h.toNat ≤ 8) (e2 : mBytes t 0 (h.toNat : Int) = (c :: s, u, 0)) (h0 : ((c.toNat : Int) == 0) = false) (hl : s.length + 1 ≤ 8) :
    Calls Try.prog 93 #[.pointer (some ⟨b, 0, none⟩)] w fun r w' => r = .returned (.int .u64 (numOf (c :: s))) ∧ Bal w' b u 0 ∧ Ch [b] w w' := by
  have e1 : mBytes (h :: t) 0 1 = ([h], t, 0) := by simp [mBytes]; omega
  have H2 := Lib.hid e2; clear e2
  go_enter Try.func93, Try.ntmps93
  go_wp2_with fail
  refine (bytes_any hB 1).mono ?_
  rw [e1]
  clear e1
  rintro r w1 ⟨rfl, hB1, hC1⟩
  obtain ⟨d0, d1, g0, g1⟩ := hB1.facts
  go_wp2_with fail
  refine (bytes_any hB1 (h.toNat : Int)).mono ?_
  rw [H2.out]
  rintro r w2 ⟨rfl, hB2, hC2⟩
  clear d0 d1 g0 g1
  obtain ⟨d0, d1, g0, g1⟩ := hB2.facts
  have hC := hC1.trans hC2
  clear hC1 hC2 hB hB1 H2
  go_wp2_with (refine op_bytes rfl 9 84 (.tmp 36) rfl 5 Try.underlying9 Try.underlying84 Try.underlying5 (c :: s) rfl ?_; intro g cc w3 hR hg hlt hC3; obtain ⟨d0, d1, g0, g1⟩ := (bal_conv hB2 hC3).facts)
  go_loop [6, 39] (fun v i => ∃ k : Nat, k ≤ (c :: s).length ∧ i = .int .i64 k ∧ v = .int .u64 (numOf ((c :: s).take k) : Nat)) (fun _ i => (c :: s).length - (intOf i).toNat)
  case atStart => exact ⟨0, Nat.zero_le _, rfl, rfl⟩
  case round =>
    obtain ⟨k, hk, rfl, rfl⟩ := hrel
    by_cases hlt : k < (c :: s).length
    · obtain ⟨d, hd, _, ht⟩ := hR.byte0 hlt
      have hn1 := numOf_lt ((c :: s).take k)
      have hn2 := pow_le8 ((c :: s).take k).length (by simp at hlt ⊢; omega)
      have hor := or_low (numOf ((c :: s).take k)) d (by omega)
      have HT := Lib.hid ht
      have HO := Lib.hid hor
      clear ht hor hn1 hn2
      simp only [List.length_cons] at hlt
      go_wp2
      go_round
      case rel => exact ⟨k + 1, by simp; omega, by go_num, by rw [HT.out, numOf_snoc, HO.out]⟩
      case measure => simp [intOf]; omega
    · have hge : s.length + 1 ≤ k := by simp at hlt; omega
      go_wp2
      go_ret
      exact ⟨ret_int (by rw [List.take_of_length_le (by simp; omega)]), bal_conv hB2 hC3, hC.then_ hC3⟩
set_option maxRecDepth 100000 in
theorem num_lead0 {b : Nat} {h : UInt8} {t s u : List UInt8} {w : World} (hB : Bal w b (h :: t) 0) (h8 : h.toNat ≤ 8) (e2 : mBytes t 0 (h.toNat : Int) = (0 :: s, u, 0)) (hl : s.length + 1 ≤ 8) :
    Calls Try.prog 93 #[.pointer (some ⟨b, 0, none⟩)] w fun r w' => r = .returned (.int .u64 0) ∧ Bal w' b [] 2 ∧ Ch [b] w w' := by
  have e1 : mBytes (h :: t) 0 1 = ([h], t, 0) := by simp [mBytes]; omega
  have H2 := Lib.hid e2; clear e2
  go_enter Try.func93, Try.ntmps93
  go_wp2_with fail
  refine (bytes_any hB 1).mono ?_
  rw [e1]
  clear e1
  rintro r w1 ⟨rfl, hB1, hC1⟩
  obtain ⟨d0, d1, g0, g1⟩ := hB1.facts
  go_wp2_with fail
  refine (bytes_any hB1 (h.toNat : Int)).mono ?_
  rw [H2.out]
  rintro r w2 ⟨rfl, hB2, hC2⟩
  clear d0 d1 g0 g1
  obtain ⟨d0, d1, g0, g1⟩ := hB2.facts
  have hC := hC1.trans hC2
  clear hC1 hC2 hB hB1 H2
  go_wp2_with fail
  refine (fail_any hB2 2).mono ?_
  rintro r w4 ⟨rfl, hB4, hC4⟩
  have hC := hC.trans hC4
  clear d0 d1 g0 g1
  have hB4 : Bal w4 b [] 2 := hB4
  obtain ⟨d0, d1, g0, g1⟩ := hB4.facts
  clear hB2 hC4
  go_wp2_with (refine op_bytes rfl 9 84 (.tmp 36) rfl 5 Try.underlying9 Try.underlying84 Try.underlying5 (0 :: s) rfl ?_; intro g cc w3 hR hg hlt hC3; obtain ⟨d0, d1, g0, g1⟩ := (bal_conv hB4 hC3).facts)
  go_loop [6, 39] (fun v i => ∃ k : Nat, k ≤ (0 :: s).length ∧ i = .int .i64 k ∧ v = .int .u64 (numOf ((0 :: s).take k) : Nat)) (fun _ i => (0 :: s).length - (intOf i).toNat)
  case atStart => exact ⟨0, Nat.zero_le _, rfl, rfl⟩
  case round =>
    obtain ⟨k, hk, rfl, rfl⟩ := hrel
    by_cases hlt : k < (0 :: s).length
    · obtain ⟨d, hd, _, ht⟩ := hR.byte0 hlt
      have hn1 := numOf_lt ((0 :: s).take k)
      have hn2 := pow_le8 ((0 :: s).take k).length (by simp at hlt ⊢; omega)
      have hor := or_low (numOf ((0 :: s).take k)) d (by omega)
      have HT := Lib.hid ht
      have HO := Lib.hid hor
      clear ht hor hn1 hn2
      simp only [List.length_cons] at hlt
      go_wp2
      go_round
      case rel => exact ⟨k + 1, by simp; omega, by go_num, by rw [HT.out, numOf_snoc, HO.out]⟩
      case measure => simp [intOf]; omega
    · have hge : s.length + 1 ≤ k := by simp at hlt; omega
      go_wp2
      go_ret
      exact ⟨rfl, bal_conv hB4 hC3, hC.then_ hC3⟩
set_option maxRecDepth 100000 in
theorem num_empty {b : Nat} {h : UInt8} {t u : List UInt8} {e : Int} {w : World} (hB : Bal w b (h :: t) 0) (h8 : h.toNat ≤ 8) (e2 : mBytes t 0 (h.toNat : Int) = ([], u, e)) (he : (e != 0) = false ∨ (e != 0) = true) :
    Calls Try.prog 93 #[.pointer (some ⟨b, 0, none⟩)] w fun r w' => r = .returned (.int .u64 0) ∧ Bal w' b u e ∧ Ch [b] w w' := by
  have e1 : mBytes (h :: t) 0 1 = ([h], t, 0) := by simp [mBytes]; omega
  have H2 := Lib.hid e2; clear e2
  rcases he with he | he
  all_goals
    go_enter Try.func93, Try.ntmps93
    go_wp2_with fail
    refine (bytes_any hB 1).mono ?_
    rw [e1]
    clear e1
    rintro r w1 ⟨rfl, hB1, hC1⟩
    obtain ⟨d0, d1, g0, g1⟩ := hB1.facts
    go_wp2_with fail
    refine (bytes_any hB1 (h.toNat : Int)).mono ?_
    rw [H2.out]
    rintro r w2 ⟨rfl, hB2, hC2⟩
    clear d0 d1 g0 g1
    obtain ⟨d0, d1, g0, g1⟩ := hB2.facts
    have hC := hC1.trans hC2
    clear hC1 hC2 hB hB1 H2
    go_wp2_with (refine op_bytes rfl 9 84 (.tmp 36) rfl 5 Try.underlying9 Try.underlying84 Try.underlying5 [] rfl ?_; intro g cc w3 hR hg hlt hC3; obtain ⟨d0, d1, g0, g1⟩ := (bal_conv hB2 hC3).facts)
    refine wp_loop_rounds 1 ?_
    rw [rounds_succ]
    go_wp2
    go_ret
    exact ⟨rfl, bal_conv hB2 hC3, hC.then_ hC3⟩
set_option maxRecDepth 100000 in
theorem num_high {b : Nat} {h : UInt8} {t : List UInt8} {w : World} (hB : Bal w b (h :: t) 0) (h8 : 8 < h.toNat) :
    Calls Try.prog 93 #[.pointer (some ⟨b, 0, none⟩)] w fun r w' => r = .returned (.int .u64 0) ∧ Bal w' b [] 2 ∧ Ch [b] w w' := by
  have e1 : mBytes (h :: t) 0 1 = ([h], t, 0) := by simp [mBytes]; omega
  go_enter Try.func93, Try.ntmps93
  go_wp2_with fail
  refine (bytes_any hB 1).mono ?_
  rw [e1]
  clear e1
  rintro r w1 ⟨rfl, hB1, hC1⟩
  obtain ⟨d0, d1, g0, g1⟩ := hB1.facts
  go_wp2_with fail
  refine (fail_any hB1 2).mono ?_
  rintro r w2 ⟨rfl, hB2, hC2⟩
  have hB2 : Bal w2 b [] 2 := hB2
  clear d0 d1 g0 g1
  obtain ⟨d0, d1, g0, g1⟩ := hB2.facts
  have hC := hC1.trans hC2
  clear hC1 hC2 hB hB1
  go_wp2_with fail
  refine (bytes_any hB2 8).mono ?_
  rintro r w4 ⟨rfl, hB4, hC4⟩
  have hB4 : Bal w4 b [] 2 := hB4
  clear d0 d1 g0 g1
  obtain ⟨d0, d1, g0, g1⟩ := hB4.facts
  have e3 : (mBytes [] 2 8).1 = [] := rfl
  have hC := hC.trans hC4
  clear hC4 hB2
  go_wp2_with (refine op_bytes rfl 9 84 (.tmp 36) rfl 5 Try.underlying9 Try.underlying84 Try.underlying5 [] rfl ?_; intro g cc w3 hR hg hlt hC3; obtain ⟨d0, d1, g0, g1⟩ := (bal_conv hB4 hC3).facts)
  refine wp_loop_rounds 1 ?_
  rw [rounds_succ]
  go_wp2
  go_ret
  exact ⟨rfl, bal_conv hB4 hC3, hC.then_ hC3⟩
set_option maxRecDepth 100000 in
theorem num_nothing {b : Nat} {l : List UInt8} {e n : Int} {v : List UInt8} {w : World} (hB : Bal w b l e) (e1 : mBytes l e 1 = ([], v, n)) (hn : (n != 0) = true) :
    Calls Try.prog 93 #[.pointer (some ⟨b, 0, none⟩)] w fun r w' => r = .returned (.int .u64 0) ∧ Bal w' b v n ∧ Ch [b] w w' := by
  have H1 := Lib.hid e1
  clear e1
  go_enter Try.func93, Try.ntmps93
  go_wp2_with fail
  refine (bytes_any hB 1).mono ?_
  rw [H1.out]
  rintro r w1 ⟨rfl, hB1, hC1⟩
  obtain ⟨d0, d1, g0, g1⟩ := hB1.facts
  go_wp2
  go_ret
  exact ⟨rfl, hB1, hC1⟩
theorem num_any {b : Nat} {l : List UInt8} {e : Int} {w : World} (hB : Bal w b l e) :
    Calls Try.prog 93 #[.pointer (some ⟨b, 0, none⟩)] w fun r w' => r = .returned (.int .u64 (mNum l e).1) ∧ Bal w' b (mNum l e).2.1 (mNum l e).2.2 ∧ Ch [b] w w' := by
  unfold mNum
  by_cases he : e = 0
  · subst he
    rw [if_pos rfl]
    cases l with
    | nil => exact num_nothing hB rfl rfl
    | cons h t =>
      simp only
      by_cases h8 : 8 < h.toNat
      · rw [if_pos h8]; exact num_high hB h8
      · rw [if_neg h8]
        by_cases ht : t.length < h.toNat
        · rw [if_pos ht]
          exact num_empty (u := []) (e := 1) hB (by omega) (by simp [mBytes]; omega) (.inr rfl)
        · rw [if_neg ht]
          have e2 : mBytes t 0 (h.toNat : Int) = (t.take h.toNat, t.drop h.toNat, 0) := by simp [mBytes]; omega
          have hl : (t.take h.toNat).length ≤ 8 := by simp; omega
          cases hs : t.take h.toNat with
          | nil =>
            rw [hs] at e2
            simp only [List.head?_nil, reduceCtorEq, if_false]
            exact num_empty hB (by omega) e2 (.inl rfl)
          | cons c s =>
            rw [hs] at e2 hl
            simp only [List.head?_cons, Option.some.injEq]
            by_cases hc : c = 0
            · subst hc
              rw [if_pos rfl]
              exact num_lead0 hB (by omega) e2 (by simpa using hl)
            · rw [if_neg hc]
              refine num_ok hB (by omega) e2 ?_ (by simpa using hl)
              simp only [beq_eq_false_iff_ne, ne_eq]
              intro h0
              exact hc (UInt8.toNat_inj.1 (by simpa using h0))
  · rw [if_neg he]
    exact num_nothing hB (by simp [mBytes, he]) (by simpa using he)
end Go.Proofs.Ytnckgkgilnmocaa
set_option linter.unusedSimpArgs false
set_option linter.unusedVariables false
namespace Go.Proofs.Ytnckgkgilnmocaa
open Go.RowKit
attribute [local go_sem] extract_mid extract_drop bget bsize wrap64_u8 i64_u8 u64_u8 bappend
def cutP (l : List UInt8) (n : Int) : List UInt8 := if n < l.length then l.take n.toNat else l
theorem cut_any (l : List UInt8) (n : Int) (hn : 0 ≤ n) (w : World) :
    Calls Try.prog 32 #[.string ⟨l.toArray⟩, .int .i64 n] w fun r w' => r = .returned (.string ⟨(cutP l n).toArray⟩) ∧ w = w' := by
  obtain ⟨k, rfl⟩ := Int.eq_ofNat_of_zero_le hn
  by_cases h : k < l.length
  · go_enter Try.func32, Try.ntmps32
    go_wp2
    go_ret
    exact ⟨ret_str (by simp [cutP, h]), rfl⟩
  · go_enter Try.func32, Try.ntmps32
    go_wp2
    go_ret
    exact ⟨ret_str (by simp [cutP, h]), rfl⟩
theorem cutP_len (l : List UInt8) (n : Int) (hn : 0 ≤ n) : ((cutP l n).length : Int) ≤ n := by
  unfold cutP
  split
  · simp; omega
  · omega
theorem info_u8 : (Try.prog.info? 5).map (fun i => (i.zero, i.size, i.bytes)) = some (some (.int .u8 0), 1, 1) := by kernel_rfl
set_option maxRecDepth 100000 in
theorem encNum_any (n : Nat) (hn : n ≤ 18446744073709551615) (w : World) :
    Calls Try.prog 79 #[.int .u64 n] w fun r w' => r = .returned (.string ⟨(encNum n).toArray⟩) ∧ Ch [] w w' := by
  go_enter Try.func79, Try.ntmps79
  go_wp2
  go_loopw [0, 3] (fun nv bs wr => ∃ (m k c : Nat) (A : Option Addr) (ds : List UInt8), nv = .int .u64 m ∧ bs = .slice A k c ∧ Rd wr 1 A k (bvs ds) ∧ k ≤ 8 ∧ m < 256 ^ (8 - k) ∧ Hid (digF (8 - k) m ++ ds = digF 8 n) ∧ Ch [] w wr)
    (fun nv _ _ => (intOf nv).toNat)
  case atStart => exact ⟨n, 0, 0, none, [], rfl, rfl, Rd.none_, by omega, by simpa using (by omega : n < 256 ^ 8), by show _ = _; simp, Ch.refl _ _⟩
  case round =>
    obtain ⟨m, k, c, A, ds, rfl, rfl, hR, hk, hm, hd, hC⟩ := hrel
    have hle : (256 : Nat) ^ (8 - k) ≤ 256 ^ 8 := Nat.pow_le_pow_right (by omega) (by omega)
    have hm64 : m ≤ 18446744073709551615 := by omega
    have hlen : ds.length = k := by have := hR.len; rwa [bvs_len] at this
    obtain rfl := hlen
    by_cases hm0 : 0 < m
    · have hk8 : ds.length < 8 := by
        rcases Nat.lt_or_ge ds.length 8 with h | h
        · exact h
        · have : (8 - ds.length) = 0 := by omega
          rw [this] at hm; omega
      obtain ⟨d, hdd⟩ : ∃ d : UInt8, d = UInt8.ofNat m := ⟨_, rfl⟩
      have hw8 : IntKind.u8.wrap (m : Int) = (d.toNat : Int) := by rw [hdd, u8_wrap]
      have HD := Lib.hid hdd
      clear hdd hle
      go_wp2_with (refine op_append rfl (.tmp 10) (.tmp 11) 84 rfl wr.heap.size 5 (.int .u8 0) 1 1 Try.underlying84 info_u8 rfl (by decide) _ 1 1 _ rfl (own_lit (Blk.new wr 5 #[.int .u8 d.toNat]) (Nat.le_refl _) (by unfold maxLen; omega) rfl) A ds.length c (bvs ds) rfl (hR.alloc _) (bvs_oneCell ds) (by omega) (by simp) ?_; intro A1 c1 w1 hown hC1)
      have hr1 : Rd w1 1 A1 (ds.length + 1) (bvs (d :: ds)) := by have := Rd.of_own hown; rw [Nat.add_comm]; exact this
      have hC2 : Ch [] w w1 := hC.step ((Ch.refl _ _).alloc _ |>.step hC1 fun g hg => .inr (by simp [obl] at hg; omega)) (cs := []) (by simp)
      have e1 : 8 - ds.length = (8 - (ds.length + 1)) + 1 := by omega
      have hd1 : digF (8 - (ds.length + 1)) (m / 256) ++ (d :: ds) = digF 8 n := by
        rw [← hd.out, e1, digF_pos _ _ (by omega), HD.out]
        simp
        apply UInt8.toNat_inj.1
        simp
      have hm1 : m / 256 < 256 ^ (8 - (ds.length + 1)) := by
        rw [e1, Nat.pow_succ] at hm
        omega
      go_roundw
      case rel => exact ⟨m / 256, 1 + ds.length, c1, A1, d :: ds, by go_num, rfl, by rw [Nat.add_comm]; exact hr1, by omega, by rw [Nat.add_comm]; exact hm1, by rw [Nat.add_comm]; exact hd1, hC2⟩
      case measure => simp [intOf]; omega
    · obtain rfl : m = 0 := by omega
      have hds : ds = digF 8 n := by rw [← hd.out, digF_zero]; rfl
      obtain ⟨d, hdd⟩ : ∃ d : UInt8, d = UInt8.ofNat ds.length := ⟨_, rfl⟩
      have hw8 : IntKind.u8.wrap (ds.length : Int) = (d.toNat : Int) := by rw [hdd, u8_wrap]
      have HE : Hid (d :: ds = encNum n) := by show _ = _; rw [hdd, hds]; rfl
      clear hdd hds hle
      go_wp2_with (first | (refine op_append rfl (.tmp 16) (.tmp 17) 84 rfl wr.heap.size 5 (.int .u8 0) 1 1 Try.underlying84 info_u8 rfl (by decide) _ 1 1 _ rfl (own_lit (Blk.new wr 5 #[.int .u8 d.toNat]) (Nat.le_refl _) (by unfold maxLen; omega) rfl) A ds.length c (bvs ds) rfl (hR.alloc _) (bvs_oneCell ds) (by omega) (by simp) ?_; intro A1 c1 w1 hown hC1; have hr1 := Rd.of_own hown) | (refine op_string rfl 84 9 (.tmp 18) rfl 5 Try.underlying84 Try.underlying9 Try.underlying5 (d :: ds) A1 _ c1 rfl hr1 ?_))
      go_ret
      refine ⟨ret_str HE.out, hC.step ((Ch.refl _ _).alloc _ |>.step hC1 fun g hg => .inr (by simp [obl] at hg; omega)) (cs := []) (by simp)⟩
def encStr (l : List UInt8) : List UInt8 := encNum l.length ++ l
theorem encNum_len (n : Nat) : (encNum n).length ≤ 9 := by have := dig_len n; simp [encNum]; omega
theorem encStr_len (l : List UInt8) : (encStr l).length ≤ l.length + 9 := by have := encNum_len l.length; simp [encStr]; omega
theorem encStr_any (l : List UInt8) (hl : l.length ≤ 1000000000000) (w : World) :
    Calls Try.prog 64 #[.string ⟨l.toArray⟩] w fun r w' => r = .returned (.string ⟨(encStr l).toArray⟩) ∧ Ch [] w w' := by
  have hq := encNum_len l.length
  go_enter Try.func64, Try.ntmps64
  go_wp2_with (go_at_call 79; refine (encNum_any _ (by omega) _).mono ?_; rintro r w1 ⟨rfl, hC1⟩)
  go_ret
  exact ⟨rfl, hC1⟩
end Go.Proofs.Ytnckgkgilnmocaa
set_option linter.unusedSimpArgs false
set_option linter.unusedVariables false
namespace Go.Proofs.Ytnckgkgilnmocaa
open Go.RowKit
attribute [local go_sem] extract_mid extract_drop bget bsize wrap64_u8 i64_u8 u64_u8 bappend
set_option maxRecDepth 100000 in
theorem int_err {b : Nat} {l u : List UInt8} {e f top : Int} {n : Nat} {w : World} (hB : Bal w b l e) (hm : mNum l e = (n, u, f)) (hf : (f != 0) = true) :
    Calls Try.prog 73 #[.pointer (some ⟨b, 0, none⟩), .int .i64 top] w fun r w' => r = .returned (.int .i64 0) ∧ Bal w' b u f ∧ Ch [b] w w' := by
  have HM := Lib.hid hm
  have hf2 : (f == 0) = false := by simpa using hf
  clear hm
  go_enter Try.func73, Try.ntmps73
  go_wp2_with fail
  refine (num_any hB).mono ?_
  rw [HM.out]
  rintro r w1 ⟨rfl, hB1, hC1⟩
  obtain ⟨d0, d1, g0, g1⟩ := hB1.facts
  go_wp2
  go_ret
  exact ⟨rfl, hB1, hC1⟩
set_option maxRecDepth 100000 in
theorem int_ok {b : Nat} {l u : List UInt8} {e top : Int} {n : Nat} {w : World} (hB : Bal w b l e) (hm : mNum l e = (n, u, 0)) (ht : top ≤ 9223372036854775807) (hn : (n : Int) ≤ max top 0) :
    Calls Try.prog 73 #[.pointer (some ⟨b, 0, none⟩), .int .i64 top] w fun r w' => r = .returned (.int .i64 n) ∧ Bal w' b u 0 ∧ Ch [b] w w' := by
  have HM := Lib.hid hm
  have h1 : max top 0 ≤ 9223372036854775807 := by omega
  have h2 : 0 ≤ max top 0 := by omega
  clear hm
  go_enter Try.func73, Try.ntmps73
  go_wp2_with fail
  refine (num_any hB).mono ?_
  rw [HM.out]
  rintro r w1 ⟨rfl, hB1, hC1⟩
  obtain ⟨d0, d1, g0, g1⟩ := hB1.facts
  go_wp2
  all_goals
    go_ret
    exact ⟨rfl, hB1, hC1⟩
set_option maxRecDepth 100000 in
theorem int_big {b : Nat} {l u : List UInt8} {e top : Int} {n : Nat} {w : World} (hB : Bal w b l e) (hm : mNum l e = (n, u, 0)) (ht : top ≤ 9223372036854775807) (hn : max top 0 < (n : Int)) :
    Calls Try.prog 73 #[.pointer (some ⟨b, 0, none⟩), .int .i64 top] w fun r w' => r = .returned (.int .i64 0) ∧ Bal w' b [] 5 ∧ Ch [b] w w' := by
  have HM := Lib.hid hm
  have h1 : max top 0 ≤ 9223372036854775807 := by omega
  have h2 : 0 ≤ max top 0 := by omega
  clear hm
  go_enter Try.func73, Try.ntmps73
  go_wp2_with fail
  refine (num_any hB).mono ?_
  rw [HM.out]
  rintro r w1 ⟨rfl, hB1, hC1⟩
  obtain ⟨d0, d1, g0, g1⟩ := hB1.facts
  go_wp2_with fail
  all_goals
    refine (fail_any hB1 5).mono ?_
    rintro r w2 ⟨rfl, hB2, hC2⟩
    have hB2 : Bal w2 b [] 5 := hB2
    obtain ⟨k0, k1, m0, m1⟩ := hB2.facts
    go_wp2
    go_ret
    exact ⟨rfl, hB2, hC1.trans hC2⟩
theorem int_any {b : Nat} {l : List UInt8} {e : Int} {w : World} (hB : Bal w b l e) (top : Int) (ht : top ≤ 9223372036854775807) :
    Calls Try.prog 73 #[.pointer (some ⟨b, 0, none⟩), .int .i64 top] w fun r w' => r = .returned (.int .i64 (mInt l e top).1) ∧ Bal w' b (mInt l e top).2.1 (mInt l e top).2.2 ∧ Ch [b] w w' := by
  obtain ⟨n, u, f, hm⟩ : ∃ n u f, mNum l e = (n, u, f) := ⟨_, _, _, rfl⟩
  unfold mInt
  rw [hm]
  simp only
  by_cases hf : f = 0
  · subst hf
    rw [if_pos rfl]
    by_cases hb : max top 0 < (n : Int)
    · rw [if_pos hb]; exact int_big hB hm ht hb
    · rw [if_neg hb]; exact int_ok hB hm ht (by omega)
  · rw [if_neg hf]
    exact int_err hB hm (by simpa using hf)
end Go.Proofs.Ytnckgkgilnmocaa
set_option linter.unusedSimpArgs false
set_option linter.unusedVariables false
namespace Go.Proofs.Ytnckgkgilnmocaa
open Go.RowKit
attribute [local go_sem] extract_mid extract_drop bget bsize wrap64_u8 i64_u8 u64_u8 bappend
@[irreducible] def z32 : List UInt8 := List.replicate 32 0
theorem z32_len : z32.length = 32 := by unfold z32; simp
def idv (l : List UInt8) : Value := .agg (bvs l).toArray
theorem info_id : (Try.prog.info? 73).map (fun i => i.zero) = some (some (.agg (bvs z32).toArray)) := by kernel_rfl
theorem info_idn : (Try.prog.info? 73).map (·.size) = some 32 := by kernel_rfl
end Go.Proofs.Ytnckgkgilnmocaa
set_option linter.unusedSimpArgs false
set_option linter.unusedVariables false
namespace Go.Proofs.Ytnckgkgilnmocaa
open Go.RowKit
attribute [local go_sem] extract_mid extract_drop bget bsize wrap64_u8 i64_u8 u64_u8 bappend
def encNums (l : List Int) : List UInt8 := l.flatMap fun n => encNum (max n 0).toNat
theorem encNums_snoc (l : List Int) (n : Int) : encNums (l ++ [n]) = encNums l ++ encNum (max n 0).toNat := by simp [encNums]
theorem encNums_len (l : List Int) : (encNums l).length ≤ 9 * l.length := by
  induction l with
  | nil => simp [encNums]
  | cons a l ih =>
    have := encNum_len (max a 0).toNat
    simp only [encNums, List.flatMap_cons, List.length_append, List.length_cons] at ih ⊢
    omega
theorem encNum0 (w : World) : Calls Try.prog 79 #[.int .u64 0] w fun r w' => r = .returned (.string ⟨(encNum 0).toArray⟩) ∧ Ch [] w w' := encNum_any 0 (by omega) w
theorem nums_star {F : List SProp} (l : List Int) (A : Option Addr) (n c : Nat) (hl : ∀ x ∈ l, x ≤ 9223372036854775807) (hn : n ≤ 1000000000) (w : World) (hM : Star F w) (hF : rowE 1 A n (ivs l) ∈ F) :
    Calls Try.prog 49 #[.slice A n c] w fun r w' => r = .returned (.string ⟨(encNums l).toArray⟩) ∧ Star F w' := by
  have HL := Lib.hid (ivs_row (hM.row hF))
  go_enter Try.func49, Try.ntmps49
  go_wp2
  go_loopw [3, 8] (fun v i wr => ∃ k : Nat, k ≤ n ∧ i = .int .i64 k ∧ v = .string ⟨(encNums (l.take k)).toArray⟩ ∧ Star F wr) (fun _ i _ => n - (intOf i).toNat)
  case atStart => exact ⟨0, Nat.zero_le _, rfl, rfl, hM⟩
  case round =>
    clear hM
    obtain ⟨k, hk, rfl, rfl, hM⟩ := hrel
    by_cases hlt : k < n
    · obtain ⟨ad, d, rfl, hc, hg, ht⟩ := (hM.row hF).elem hlt
      have hd := hl d (List.mem_of_getElem? hg)
      have hb := encNums_len (l.take k)
      have hb2 := List.length_take_le k l
      have hq := encNum_len (max d 0).toNat
      have HT := Lib.hid ht
      replace hc : wr.cell? (ad.add k) = some (.int .i64 d) := hc
      clear ht hg hl
      have hdm : d < 0 ∧ (max d 0).toNat = 0 ∨ ∃ m : Nat, d = m := by
        by_cases h : d < 0
        · exact .inl ⟨h, by omega⟩
        · exact .inr ⟨d.toNat, by omega⟩
      rcases hdm with ⟨hneg, h0⟩ | ⟨m, rfl⟩
      · have H0 := Lib.hid h0
        clear h0
        have hq0 := encNum_len 0
        go_wp2_with (go_at_call 79; have hM0 := hM; clear hM; (first | (with_reducible refine (star0 (encNum0 _) hM0).mono ?_) | fail); clear hM0; rintro _ w ⟨rfl, hM⟩)
        go_roundw
        case rel => exact ⟨k + 1, by omega, by go_num, by rw [HT.out, encNums_snoc, H0.out], hM⟩
        case measure => simp [intOf]; omega
      · have hq0 := encNum_len m
        go_wp2_with (go_at_call 79; have hM0 := hM; clear hM; (first | (with_reducible refine (star0 (encNum_any m (by omega) _) hM0).mono ?_) | fail); clear hM0; rintro _ w ⟨rfl, hM⟩)
        go_roundw
        case rel => exact ⟨k + 1, by omega, by go_num, by rw [HT.out, encNums_snoc, show (max (m : Int) 0).toNat = m by omega], hM⟩
        case measure => simp [intOf]; omega
    · go_wp2
      go_ret
      exact ⟨ret_str (by rw [List.take_of_length_le (by rw [HL.out]; omega)]), hM⟩
attribute [local go_sem] u8_u8
end Go.Proofs.Ytnckgkgilnmocaa
set_option linter.unusedSimpArgs false
set_option linter.unusedVariables false
namespace Go.Proofs.Ytnckgkgilnmocaa
open Go.RowKit
section
variable {P : Program} {ops : Array Oper} {Q : Exit → Act → World → Prop} {md : Region.Mode} {L0 : List SProp} {Z : List Nat}
/-- What a run leaves that gives v and keeps the parts L. -/
def Gives (P : Program) (L : List SProp) (v : Value) : Result Next → Prop
  | .ok (.value u) w' => u = v ∧ Star L w'
  | .ok (.enter f args) w' => Calls P f args w' fun e w'' => e = .returned v ∧ Star L w''
  | _ => False
/-- In state a, in every world that has the parts L0 among others, operation o gives v and keeps all parts. -/
def Stab (P : Program) (ops : Array Oper) (L0 : List SProp) (o : Oper) (v : Value) (a : Act) : Prop :=
  (Region.wanted o (yielded ops a.tmps) = true ∧ ∀ L w, (∀ x ∈ L0, x ∈ L) → Star L w → Gives P L v ((execOp a.eval o).run P w)) ∨
  (Region.wanted o (yielded ops a.tmps) = false ∧ v = undef)
theorem Stab.of_same {o : Oper} {v : Value} {a a' : Act} (hy : Stab P ops L0 o v a) (he : execOp a'.eval o = execOp a.eval o)
    (hw : Region.wanted o (yielded ops a'.tmps) = Region.wanted o (yielded ops a.tmps)) : Stab P ops L0 o v a' := by
  unfold Stab at *
  rw [he, hw]
  exact hy
theorem Stab.wpOp {i : Nat} {o : Oper} {v : Value} {a : Act} (hi : ops[i]? = some o) (hy : Stab P ops L0 o v a)
    {K : Act → World → Prop} {L : List SProp} {w : World} (h0 : ∀ x ∈ L0, x ∈ L) (hS : Star L w) (h : ∀ w', Star L w' → K (a.put o.dst v) w') : wpOp P ops Q i K a w := by
  unfold Go.wpOp
  simp only [hi]
  rcases hy with ⟨hw, hv⟩ | ⟨hw, rfl⟩
  · have h1 := hv L w h0 hS
    simp only [hw, if_true, Oper.wp]
    refine .inl ?_
    generalize (execOp a.eval o).run P w = r at *
    cases r with
    | ok n w' =>
      cases n <;> simp only [Gives, Oper.upon] at h1 ⊢
      case value u => obtain ⟨rfl, h1⟩ := h1; exact h _ h1
      case enter f args =>
        refine Calls.mono h1 fun e w'' he => ?_
        obtain ⟨rfl, he⟩ := he
        exact h _ he
    | halt x w' => cases h1
  · simp only [hw, Bool.false_eq_true, if_false]; exact h _ hS
theorem wpOp_putS {j : Nat} {oi oj : Oper} {v : Value} (hj : ops[j]? = some oj) (hap : oi.apart ops oj = true)
    (hsi : ∀ cs b, oi.op ≠ .select cs b) (hsj : ∀ cs b, oj.op ≠ .select cs b)
    (hQ : ∀ c a w, Q (.panic c) (a.put oi.dst v) w → Q (.panic c) a w) {K : Act → World → Prop} {a : Act} {w : World}
    (hy : Stab P ops L0 oi v a) (h : wpOp P ops Q j K (a.put oi.dst v) w) :
    wpOp P ops Q j (fun a' w' => Stab P ops L0 oi v a' ∧ K (a'.put oi.dst v) w') a w := by
  obtain ⟨h1, h2, h3⟩ := Oper.apart_spec hap
  have keep : ∀ (a : Act), Stab P ops L0 oi v a → ∀ u, Stab P ops L0 oi v (a.put oj.dst u) := fun a hy u =>
    hy.of_same (execOp_put oi hsi a oj.dst u h3) (wanted_put oi a oj.dst u h3)
  have keepD : ∀ d, Stab P ops L0 oi v { a with defers := d :: a.defers } := fun d => hy.of_same rfl rfl
  unfold wpOp at *
  simp only [hj] at *
  rw [wanted_put oj a oi.dst v h1] at h
  split
  · rename_i hw
    simp only [hw, if_true] at h
    rcases h with h | ⟨hasks, hlets⟩
    case inr => exact .inr ⟨by unfold Oper.asks at *; rw [execOp_put oj hsj a oi.dst v h1] at hasks; exact hasks, hlets⟩
    refine .inl ?_
    unfold Oper.wp at *
    rw [execOp_put oj hsj a oi.dst v h1] at h
    generalize (execOp a.eval oj).run P w = r at *
    cases r with
    | ok n w' =>
      cases n <;> simp only [Oper.upon] at h ⊢
      case value u => exact ⟨keep a hy u, by rw [← Act.put_comm a v u h2]; exact h⟩
      case skip => exact ⟨keep a hy _, by rw [← Act.put_comm a v undef h2]; exact h⟩
      case defer d =>
        refine ⟨keep _ (keepD d) _, ?_⟩
        rw [← Act.put_comm _ v undef h2, ← Act.put_defers]
        exact h
      case enter f args =>
        refine Calls.mono h fun e w'' he => ?_
        cases e with
        | returned u => exact ⟨keep a hy u, by rw [← Act.put_comm a v u h2]; exact he⟩
        | panicked c => exact hQ _ _ _ he
        | outgrown => exact he
      case row row args => exact Rows.mono h fun u w'' he => ⟨keep a hy u, by rw [← Act.put_comm a v u h2]; exact he⟩
    | halt x w' =>
      cases x <;> simp only [Oper.upon] at h ⊢
      case panic u => exact hQ _ _ _ h
  · rename_i hw
    simp only [hw] at h
    exact ⟨keep a hy _, by rw [← Act.put_comm a v undef h2]; exact h⟩
/-- Does operation j wait for i, or for one that does? -/
def reach (md : Region.Mode) (ops : Array Oper) (i : Nat) : Nat → Nat → Bool
  | 0, j => j == i
  | f + 1, j => j == i || (match ops[j]? with | some o => o.after.toList.any fun e => Region.binds md e && reach md ops i f e.on | none => false)
/-- Nothing has come up ahead of what it waits for. -/
def Closed (md : Region.Mode) (ops : Array Oper) (listed : Array Bool) : Prop := ∀ j o, ops[j]? = some o → listed.getD j true = true → ∀ e ∈ o.after, Region.binds md e = true → listed.getD e.on true = true
theorem Closed.reach {listed : Array Bool} (h : Closed md ops listed) (i : Nat) : ∀ (f j : Nat), reach md ops i f j = true → listed.getD j true = true → listed.getD i true = true
  | 0, j, hr, hl => by simp only [Go.Proofs.Ytnckgkgilnmocaa.reach, beq_iff_eq] at hr; rw [← hr]; exact hl
  | f + 1, j, hr, hl => by
    simp only [Go.Proofs.Ytnckgkgilnmocaa.reach, Bool.or_eq_true, beq_iff_eq] at hr
    rcases hr with rfl | hr
    · exact hl
    · cases ho : ops[j]? with
      | none => rw [ho] at hr; cases hr
      | some o =>
        rw [ho] at hr
        obtain ⟨e, he, hb⟩ := List.any_eq_true.1 hr
        rw [Bool.and_eq_true] at hb
        exact Closed.reach h i f e.on hb.2 (h j o ho hl e (by simpa using he) hb.1)
theorem Closed.set {listed : Array Bool} (h : Closed md ops listed) {i : Nat} (hr : i ∈ Region.ready md ops listed) : Closed md ops (listed.setIfInBounds i true) := by
  intro j o ho hj e he hb
  by_cases hji : j = i
  · subst hji
    obtain ⟨h0, o', ho', hall⟩ := mem_ready.1 hr
    rw [ho] at ho'
    injection ho' with ho'
    subst ho'
    have h1 := getD_set_true (i := j) (hall e he hb)
    rcases Nat.lt_or_ge e.on (listed.setIfInBounds j true).size with h' | h'
    · simp only [Array.getD_eq_getD_getElem?, Array.getElem?_eq_getElem h', Option.getD_some] at h1 ⊢; exact h1
    · simp [Array.getElem?_eq_none h']
  · rw [getD_set_ne true (Ne.symm hji)] at hj
    have := h j o ho hj e he hb
    by_cases hi : i = e.on
    · rcases Nat.lt_or_ge i listed.size with h' | h'
      · simp [← hi, h']
      · simp [← hi, h']
    · rw [getD_set_ne true hi]; exact this
/-- Whatever order is picked; the parts L stand for the world; the parts L0 stay till one of Z has come up. -/
def RS (P : Program) (md : Region.Mode) (ops : Array Oper) (Q : Exit → Act → World → Prop) (L0 : List SProp) (Z : List Nat) : Nat → Array Bool → Act → List SProp → Prop
  | 0, listed, a, L => ((∀ z ∈ Z, listed.getD z true = false) → ∀ x ∈ L0, x ∈ L) ∧ Region.ready md ops listed = [] ∧ ∀ w, Star L w → Q .normal a w
  | fuel + 1, listed, a, L => ((∀ z ∈ Z, listed.getD z true = false) → ∀ x ∈ L0, x ∈ L) ∧ (Region.ready md ops listed = [] → ∀ w, Star L w → Q .normal a w) ∧
    ∀ i ∈ Region.ready md ops listed, ∀ w, Star L w → wpOp P ops Q i (fun a' w' => ∃ L', Star L' w' ∧ RS P md ops Q L0 Z fuel (listed.setIfInBounds i true) a' L') a w
theorem wpAny_of_RS : ∀ (fuel : Nat) (listed : Array Bool) (a : Act) (L : List SProp) (w : World), Star L w → RS P md ops Q L0 Z fuel listed a L → wpAny P md ops Q fuel listed a w
  | 0, _, _, _, w, hM, h => ⟨h.2.1, h.2.2 w hM⟩
  | fuel + 1, _, _, _, w, hM, h => ⟨fun hr => h.2.1 hr w hM, fun i hi => wpOp_mono (fun a' w' ⟨L', hM', h'⟩ => wpAny_of_RS fuel _ a' L' w' hM' h') (h.2.2 i hi w hM)⟩
theorem RS.keeps {fuel : Nat} {listed : Array Bool} {a : Act} {L : List SProp} (h : RS P md ops Q L0 Z fuel listed a L) : (∀ z ∈ Z, listed.getD z true = false) → ∀ x ∈ L0, x ∈ L := by cases fuel <;> exact h.1
theorem RS_first {i : Nat} {oi : Oper} {v : Value} (hi : ops[i]? = some oi) (hsel : ∀ (j : Nat) (o : Oper) cs b, ops[j]? = some o → o.op ≠ .select cs b)
    (hQ : ∀ c a w, Q (.panic c) (a.put oi.dst v) w → Q (.panic c) a w) {f : Nat} (hz : ∀ z ∈ Z, z ≠ i ∧ reach md ops i f z = true) :
    ∀ (fuel : Nat) (listed : Array Bool) (a : Act) (L : List SProp),
      (∀ j oj, ops[j]? = some oj → j ≠ i → listed.getD j true = false → (∀ e ∈ oj.after, Region.binds md e = true → e.on ≠ i) → oi.apart ops oj = true) →
      i ∈ Region.ready md ops listed → Closed md ops listed → Stab P ops L0 oi v a → (∀ x ∈ L0, x ∈ L) →
      RS P md ops Q L0 Z fuel (listed.setIfInBounds i true) (a.put oi.dst v) L → RS P md ops Q L0 Z (fuel + 1) listed a L := by
  intro fuel
  induction fuel with
  | zero =>
    intro listed a L hfree hr hcl hy h0 H
    refine ⟨fun _ => h0, fun h => (by rw [h] at hr; cases hr), fun j hj w hM => ?_⟩
    by_cases hji : j = i
    · subst hji; exact hy.wpOp hi h0 hM fun w' hM' => ⟨L, hM', H⟩
    · have := ready_mono hj hji
      rw [H.2.1] at this
      cases this
  | succ fuel ih =>
    intro listed a L hfree hr hcl hy h0 H
    refine ⟨fun _ => h0, fun h => (by rw [h] at hr; cases hr), fun j hj w hM => ?_⟩
    by_cases hji : j = i
    · subst hji; exact hy.wpOp hi h0 hM fun w' hM' => ⟨L, hM', H⟩
    · have h1 := H.2.2 j (ready_mono hj hji) w hM
      obtain ⟨hjun, oj, hoj, hall⟩ := mem_ready.1 hj
      have hnot : ∀ e ∈ oj.after, Region.binds md e = true → e.on ≠ i := fun e he hb heq => by
        have h1 := hall e he hb
        have h0 := (mem_ready.1 hr).1
        rw [heq] at h1
        rcases Nat.lt_or_ge i listed.size with h' | h'
        · simp [h'] at h0 h1; rw [h0] at h1; cases h1
        · simp [Array.getElem?_eq_none h'] at h1
      have h2 := wpOp_putS hoj (hfree j oj hoj hji hjun hnot) (fun cs b => hsel i oi cs b hi) (fun cs b => hsel j oj cs b hoj) hQ hy h1
      have hfree' : ∀ k ok, ops[k]? = some ok → k ≠ i → (listed.setIfInBounds j true).getD k true = false →
          (∀ e ∈ ok.after, Region.binds md e = true → e.on ≠ i) → oi.apart ops ok = true := fun k ok hk hki hun hno => by
        refine hfree k ok hk hki ?_ hno
        by_cases hjk : j = k
        · subst hjk; exact hjun
        · rw [getD_set_ne true hjk] at hun; exact hun
      have hcl' := hcl.set hj
      have hr' := ready_mono hr (Ne.symm hji)
      refine wpOp_mono (fun a' w' ⟨h3, L', hM', h4⟩ => ⟨L', hM', ih (listed.setIfInBounds j true) a' L' hfree' hr' hcl' h3 ?_ ?_⟩) h2
      · have h5 : (∀ z ∈ Z, ((listed.setIfInBounds i true).setIfInBounds j true).getD z true = false) → ∀ x ∈ L0, x ∈ L' := by cases fuel <;> exact h4.1
        refine h5 fun z hzz => ?_
        obtain ⟨hzi, hzr⟩ := hz z hzz
        rw [← Array.setIfInBounds_comm _ _ hji, getD_set_ne true (Ne.symm hzi)]
        cases hb : (listed.setIfInBounds j true).getD z true with
        | false => rfl
        | true =>
          have := hcl'.reach i f z hzr hb
          rw [(mem_ready.1 hr').1] at this
          cases this
      · rw [Array.setIfInBounds_comm _ _ hji]
        exact h4
def closedB (md : Region.Mode) (ops : Array Oper) (listed : Array Bool) : Bool := (List.range ops.size).all fun j => match ops[j]? with | some o => !listed.getD j true || o.after.toList.all fun e => !Region.binds md e || listed.getD e.on true | none => true
theorem closedB_spec {listed : Array Bool} (h : closedB md ops listed = true) : Closed md ops listed := by
  intro j o ho hl e he hb
  unfold closedB at h
  have hj : j < ops.size := (Array.getElem?_eq_some_iff.1 ho).1
  have h1 := List.all_eq_true.1 h j (List.mem_range.2 hj)
  simp only [ho, hl, Bool.not_true, Bool.false_or] at h1
  have h2 := List.all_eq_true.1 h1 e (by simpa using he)
  simpa [hb] using h2
def zB (md : Region.Mode) (ops : Array Oper) (Z : List Nat) (i : Nat) : Bool := Z.all fun z => z != i && reach md ops i ops.size z
def takeB (md : Region.Mode) (ops : Array Oper) (Z : List Nat) (listed : Array Bool) (i : Nat) : Bool :=
  Region.noSelect ops && Region.free md ops listed i && (Region.ready md ops listed).contains i && closedB md ops listed && zB md ops Z i
theorem op_at {i : Nat} {oi : Oper} {tl : List Oper} (h : ops.toList.drop i = oi :: tl) : ops[i]? = some oi := by
  have h1 := congrArg List.head? h
  rw [List.head?_drop] at h1
  simpa using h1
/-- Number i first. -/
theorem RS_take {i : Nat} {oi : Oper} {tl : List Oper} {v : Value} {fuel : Nat} {listed : Array Bool} {a : Act} {L : List SProp} (hi0 : ops.toList.drop i = oi :: tl) (hb : takeB md ops Z listed i = true)
    (hQ : ∀ c a w, Q (.panic c) (a.put oi.dst v) w → Q (.panic c) a w) (h0 : ∀ x ∈ L0, x ∈ L) (hy : Stab P ops L0 oi v a)
    (h : RS P md ops Q L0 Z fuel (listed.setIfInBounds i true) (a.put oi.dst v) L) : RS P md ops Q L0 Z (fuel + 1) listed a L := by
  have hi := op_at hi0
  simp only [takeB, Bool.and_eq_true] at hb
  obtain ⟨⟨⟨⟨hs, hf⟩, hr⟩, hc⟩, hz⟩ := hb
  refine RS_first hi (Region.noSelect_spec hs) hQ (f := ops.size) (fun z hzz => ?_) fuel listed a L (Region.free_spec hi hf) (by simpa using hr) (closedB_spec hc) hy h0 h
  have := List.all_eq_true.1 hz z hzz
  simpa using this
/-- The one that may come up. -/
theorem RS_one {i : Nat} {oi : Oper} {tl : List Oper} {fuel : Nat} {listed : Array Bool} {a : Act} {L : List SProp} (hr : Region.ready md ops listed = [i]) (hi0 : ops.toList.drop i = oi :: tl) (hw : Region.wanted oi (yielded ops a.tmps) = true)
    (hk : (∀ x ∈ L0, x ∈ L) ∨ (Z.any fun z => listed.getD z true) = true)
    (h : ∀ w (K : Act → World → Prop), Star L w → (∀ a' L' w', Star L' w' → RS P md ops Q L0 Z fuel (listed.setIfInBounds i true) a' L' → K a' w') → Oper.wp P oi a w K Q) : RS P md ops Q L0 Z (fuel + 1) listed a L := by
  have hi := op_at hi0
  refine ⟨fun hz => ?_, fun h0 => (by rw [h0] at hr; cases hr), fun j hj w hM => ?_⟩
  · rcases hk with hk | hk
    · exact hk
    · obtain ⟨z, hzz, hb⟩ := List.any_eq_true.1 hk
      rw [hz z hzz] at hb
      cases hb
  · rw [hr] at hj
    rcases List.mem_singleton.1 hj with rfl
    unfold wpOp
    simp only [hi, hw, if_true]
    exact .inl (h w _ hM fun a' L' w' hM' h' => ⟨L', hM', h'⟩)
/-- One out of several that may come up. -/
theorem RS_ready {rs : List Nat} {fuel : Nat} {listed : Array Bool} {a : Act} {L : List SProp} (hr : Region.ready md ops listed = rs) (hne : rs ≠ [])
    (hk : (∀ x ∈ L0, x ∈ L) ∨ (Z.any fun z => listed.getD z true) = true)
    (h : ∀ i ∈ rs, ∀ w, Star L w → wpOp P ops Q i (fun a' w' => ∃ L', Star L' w' ∧ RS P md ops Q L0 Z fuel (listed.setIfInBounds i true) a' L') a w) : RS P md ops Q L0 Z (fuel + 1) listed a L := by
  refine ⟨fun hz => ?_, fun h0 => absurd (hr ▸ h0) hne, hr ▸ h⟩
  rcases hk with hk | hk
  · exact hk
  · obtain ⟨z, hzz, hb⟩ := List.any_eq_true.1 hk
    rw [hz z hzz] at hb
    cases hb
theorem RS_done {fuel : Nat} {listed : Array Bool} {a : Act} {L : List SProp} (hr : Region.ready md ops listed = []) (hk : (∀ x ∈ L0, x ∈ L) ∨ (Z.any fun z => listed.getD z true) = true)
    (h : ∀ w, Star L w → Q .normal a w) : RS P md ops Q L0 Z fuel listed a L := by
  have hk' : (∀ z ∈ Z, listed.getD z true = false) → ∀ x ∈ L0, x ∈ L := fun hz => by
    rcases hk with hk | hk
    · exact hk
    · obtain ⟨z, hzz, hb⟩ := List.any_eq_true.1 hk
      rw [hz z hzz] at hb
      cases hb
  cases fuel with
  | zero => exact ⟨hk', hr, h⟩
  | succ n => exact ⟨hk', fun _ => h, by rw [hr]; intro i hi; cases hi⟩
theorem region_RS (L0 : List SProp) (Z : List Nat) {id : Nat} {a : Act} {L : List SProp} {w : World} (hm : P.follows .mixedOrders = true) (hM : Star L w) (h : RS P .any ops Q L0 Z ops.size (Array.replicate ops.size false) a L) :
    (Code.region id ops true).wp P Q a w := wp_region_any hm (wpAny_of_RS _ _ _ L _ (hM.drew) h)
theorem stab_pure {o : Oper} {v : Value} {a : Act} (hw : Region.wanted o (yielded ops a.tmps) = true) (hy : ∀ w, (execOp a.eval o).run P w = .ok (.value v) w) : Stab P ops L0 o v a :=
  .inl ⟨hw, fun L w _ hM => by rw [hy w]; exact ⟨rfl, hM⟩⟩
theorem stab_read {o : Oper} {v : Value} {a : Act} (hw : Region.wanted o (yielded ops a.tmps) = true) (hy : ∀ L w, (∀ x ∈ L0, x ∈ L) → Star L w → (execOp a.eval o).run P w = .ok (.value v) w) : Stab P ops L0 o v a :=
  .inl ⟨hw, fun L w hL hM => by rw [hy L w hL hM]; exact ⟨rfl, hM⟩⟩
theorem stab_call {o : Oper} {v : Value} {a : Act} {f : FuncId} {args : Array Value} (hw : Region.wanted o (yielded ops a.tmps) = true) (hr : ∀ w, (execOp a.eval o).run P w = .ok (.enter f args) w)
    (hc : ∀ L w, (∀ x ∈ L0, x ∈ L) → Star L w → Calls P f args w fun e w' => e = .returned v ∧ Star L w') : Stab P ops L0 o v a :=
  .inl ⟨hw, fun L w hL hM => by rw [hr w]; exact hc L w hL hM⟩
theorem stab_skip {o : Oper} {a : Act} (hw : Region.wanted o (yielded ops a.tmps) = false) : Stab P ops L0 o undef a := .inr ⟨hw, rfl⟩
theorem ws_call {o : Oper} {a : Act} {w : World} {K : Act → World → Prop} {f : FuncId} {args : Array Value} (hr : (execOp a.eval o).run P w = .ok (.enter f args) w) {R : Ending → World → Prop} (hc : Calls P f args w R)
    (h : ∀ r w', R r w' → ∃ v, r = .returned v ∧ K (a.put o.dst v) w') : Oper.wp P o a w K Q := by
  unfold Oper.wp
  rw [hr]
  refine Calls.mono hc fun r w' hR => ?_
  obtain ⟨v, rfl, hk⟩ := h r w' hR
  exact hk
section
variable {L : List SProp} {w : World} {o : Oper} {a : Act}
theorem ex_load1 (hM : Star L w) {ty : TypeId} {x : Operand} (ho : o.op = .load ty x) {g i : Nat} (hx : a.eval x = .pointer (some ⟨g, i, none⟩)) {t : TypeId} {cs : Array Value} (hb : cellsE g t cs ∈ L) {v : Value} (hv : cs[i]? = some v)
    (hp : plainTy P ty = true) : (execOp a.eval o).run P w = .ok (.value v) w := by
  have hr := run_load1 (P := P) w ty ⟨g, i, none⟩ v hp (((hM.blk hb).cell i).trans hv)
  unfold execOp
  simp only [ho, hx, Instr.loadAt, Instr.sureAddr, Sem.run_bind, Sem.run_pure, Result.andThen_ok, hr]
theorem ex_rowload {ty : TypeId} {x : Operand} (ho : o.op = .load ty x) {ad : Addr} {k : Nat} (hx : a.eval x = .pointer (some (ad.add k))) {n : Nat} {xs : List Value} (hr : Rd w 1 (some ad) n xs) {v : Value} (hv : xs[k]? = some v)
    (hp : plainTy P ty = true) : (execOp a.eval o).run P w = .ok (.value v) w := by
  have hk : k < n := by have h1 := (List.getElem?_eq_some_iff.1 hv).1; have h2 := hr.len; omega
  obtain ⟨ad', e, _, hc⟩ := hr.2 (by omega)
  injection e with e
  subst e
  have hrun := run_load1 (P := P) w ty _ v hp (hc k v hv)
  unfold execOp
  simp only [ho, hx, Instr.loadAt, Instr.sureAddr, Sem.run_bind, Sem.run_pure, Result.andThen_ok, hrun]
/-- The row begins at a block's head, the address is reckoned. -/
theorem ex_rowload0 {ty : TypeId} {x : Operand} (ho : o.op = .load ty x) {g k : Nat} (hx : a.eval x = .pointer (some ⟨g, k, none⟩)) {n : Nat} {xs : List Value} (hr : Rd w 1 (some ⟨g, 0, none⟩) n xs) {v : Value} (hv : xs[k]? = some v)
    (hp : plainTy P ty = true) : (execOp a.eval o).run P w = .ok (.value v) w := ex_rowload ho (ad := ⟨g, 0, none⟩) (k := k) (by rw [hx, add_lit, Nat.zero_add]) hr hv hp
theorem ex_load_at {ty : TypeId} {x : Operand} (ho : o.op = .load ty x) {ad : Addr} (hx : a.eval x = .pointer (some ad)) (cs : List Value) (hc : ∀ j v, cs[j]? = some v → w.cell? (ad.add j) = some v) {n : Nat} (hn : cs.length = n) (hp : rowTy P ty n = true) :
    (execOp a.eval o).run P w = .ok (.value (.agg cs.toArray)) w := by
  obtain ⟨⟨d, h1, h2⟩, h3⟩ := rowTy_und hp
  unfold execOp
  simp only [ho, hx, Instr.loadAt, Instr.sureAddr, Sem.run_bind, Sem.run_pure, Result.andThen_ok, run_loadVar_at w ad ty cs d hc h1 (by cases d <;> simp_all) (by rw [h3, hn])]
theorem ex_load (hM : Star L w) {ty : TypeId} {x : Operand} (ho : o.op = .load ty x) {g : Nat} (hx : a.eval x = .pointer (some ⟨g, 0, none⟩)) {t : TypeId} {cs : Array Value} (hb : cellsE g t cs ∈ L)
    {n : Nat} (hn : cs.size = n) (hp : rowTy P ty n = true) : (execOp a.eval o).run P w = .ok (.value (.agg cs)) w := by
  have := ex_load_at (P := P) (a := a) (o := o) ho hx cs.toList (fun j v hj => by rw [add_lit, Nat.zero_add, (hM.blk hb).cell]; simpa using hj) (by simpa using hn) hp
  simpa using this
/-- A row in the midst of a block. -/
theorem ex_load_mid (hM : Star L w) {ty : TypeId} {x : Operand} (ho : o.op = .load ty x) {g i : Nat} (hx : a.eval x = .pointer (some ⟨g, i, none⟩)) {t : TypeId} {cs : Array Value} (hb : cellsE g t cs ∈ L)
    (vs : List Value) (hv : ∀ j v, vs[j]? = some v → cs[i + j]? = some v) {n : Nat} (hn : vs.length = n) (hp : rowTy P ty n = true) : (execOp a.eval o).run P w = .ok (.value (.agg vs.toArray)) w :=
  ex_load_at ho hx vs (fun j v hj => by rw [add_lit, (hM.blk hb).cell]; exact hv j v hj) hn hp
/-- A row of a row of rows. -/
theorem ex_rowload_row {ty : TypeId} {x : Operand} (ho : o.op = .load ty x) {ad : Addr} {k size : Nat} (hx : a.eval x = .pointer (some (ad.add (k * size)))) {n : Nat} {xs : List Value} (hr : Rd w size (some ad) n xs) (vs : List Value) (hv : ∀ j v, vs[j]? = some v → xs[k * size + j]? = some v) (hn : vs.length = size) (hk : k < n)
    (hp : rowTy P ty size = true) : (execOp a.eval o).run P w = .ok (.value (.agg vs.toArray)) w := by
  obtain ⟨ad', e, _, hc⟩ := hr.2 (by omega)
  injection e with e
  subst e
  exact ex_load_at ho hx vs (fun j v hj => by rw [add_of_add]; exact hc _ v (hv j v hj)) hn hp
theorem ex_string {src dst : TypeId} {x : Operand} (ho : o.op = .convert src dst x) (e : TypeId)
    (hs : P.underlying src = some (.slice e)) (hd : P.underlying dst = some .string) (he : P.underlying e = some (.int .u8)) {A : Option Addr} {n c : Nat} (hx : a.eval x = .slice A n c) {l : List UInt8} (hr : Rd w 1 A n (bvs l)) :
    (execOp a.eval o).run P w = .ok (.value (.string ⟨l.toArray⟩)) w := by
  have hn : n = l.length := by have := hr.1; rw [bvs_len] at this; omega
  subst hn
  have hrun : (convert src dst (.slice A l.length c)).run P w = .ok (.string ⟨l.toArray⟩) w := by
    rcases Nat.eq_zero_or_pos l.length with h0 | h0
    · have hl : l = [] := List.eq_nil_of_length_eq_zero h0
      subst hl
      rw [run_convert_bytes_string w src dst e A _ c hs he hd]
      cases A with
      | none => rfl
      | some ad => simp [Conv.bytesToString, loadCells]; rfl
    · obtain ⟨ad, rfl, hb, hc⟩ := hr.2 h0
      exact run_convert_bytes_back w src dst e ad c l hs he hd fun j hj => hc j _ (bvs_get l j hj)
  unfold execOp
  simp only [ho, hx, Sem.run_bind, hrun, Result.andThen_ok, Sem.run_pure]
end
end
end Go.Proofs.Ytnckgkgilnmocaa
set_option linter.unusedSimpArgs false
set_option linter.unusedVariables false
namespace Go.Proofs.Ytnckgkgilnmocaa
open Go.RowKit
/-- The slice at A is the only way to its block; its n elements (size cells each) are xs. -/
def Tail (w : World) (e : TypeId) (size : Nat) (A : Option Addr) (n c : Nat) (xs : List Value) : Prop :=
  xs.length = n * size ∧ n ≤ c ∧ c ≤ maxLen ∧ ((A = none ∧ c = 0) ∨ ∃ g off cur, A = some ⟨g, off, none⟩ ∧ Blk w g e cur ∧ off + c * size ≤ cur.size ∧ (cur.toList.drop off).take (n * size) = xs)
theorem Tail.rd {w : World} {e : TypeId} {size : Nat} {A : Option Addr} {n c : Nat} {xs : List Value} (h : Tail w e size A n c xs) : Rd w size A n xs := by
  obtain ⟨h1, h2, h3, ⟨rfl, rfl⟩ | ⟨g, off, cur, rfl, hb, hs, hx⟩⟩ := h
  · exact ⟨h1, fun h => by omega⟩
  · refine ⟨h1, fun hn => ⟨_, rfl, hb.lt, fun j u hu => ?_⟩⟩
    rw [add_lit, hb.cell]
    rw [← hx, List.getElem?_take] at hu
    split at hu
    · rw [List.getElem?_drop] at hu; simpa using hu
    · cases hu
def tailE (e : TypeId) (size : Nat) (A : Option Addr) (n c : Nat) (xs : List Value) : SProp where
  fp k := ∃ ad, A = some ad ∧ k = ad.block
  ro := false
  holds w := Tail w e size A n c xs
  lt w h k hk := by
    obtain ⟨ad, rfl, rfl⟩ := hk
    obtain ⟨_, _, _, ⟨h, _⟩ | ⟨g, off, cur, h, hb, _⟩⟩ := h
    · cases h
    · injection h with h; subst h; exact hb.lt
  stable w w' ho h := by
    obtain ⟨h1, h2, h3, h | ⟨g, off, cur, rfl, hb, hs⟩⟩ := h
    · exact ⟨h1, h2, h3, .inl h⟩
    · exact ⟨h1, h2, h3, .inr ⟨g, off, cur, rfl, (ho.block g ⟨_, rfl, rfl⟩).trans hb, hs⟩⟩
namespace Star
variable {L R : List SProp} {w w' : World} {e : TypeId} {size n c : Nat} {A : Option Addr} {xs : List Value}
theorem niltail (e : TypeId) (size : Nat) (h : Star L w) : Star (tailE e size none 0 0 [] :: L) w := h.free (fun k ⟨_, e, _⟩ => by cases e) ⟨by simp, by omega, by unfold maxLen; omega, .inl ⟨rfl, rfl⟩⟩
theorem tail_of_own (h : Star (ownE e size A n c xs :: L) w) : Star (tailE e size A n c xs :: L) w :=
  h.as_ rfl (fun k hk => hk) fun h => by
    refine ⟨h.1, ?_⟩
    rcases h.2 with ⟨h1, h2⟩ | ⟨g, cap, cur, hv, _, hh, hnc, hcm, hcs, htk⟩
    · injection h1 with h1 h3 h4
      exact ⟨by omega, by unfold maxLen; omega, .inl ⟨h1, h4⟩⟩
    · injection hv with h1 h3 h4
      subst h4 h1
      exact ⟨by omega, hcm, .inr ⟨g, 0, cur, rfl, hh, by omega, by simpa using htk⟩⟩
theorem tail_row (h : Star L w) (hx : tailE e size A n c xs ∈ L) : Rd w size A n xs := Tail.rd (h.all _ hx)
theorem tail_freeze (h : Star (tailE e size A n c xs :: L) w) : Star (rowE size A n xs :: L) w :=
  h.as_ rfl (fun k ⟨ad, e, _, hk⟩ => ⟨ad, e, hk⟩) fun h => Tail.rd h
/-- The first k elements are cut off. -/
theorem tail_cut (h : Star (tailE e size A n c xs :: L) w) {k : Nat} (hk : k ≤ n) :
    Star (tailE e size (if c = k then A else A.map (·.add (k * size))) (n - k) (c - k) (xs.drop (k * size)) :: L) w :=
  h.as_ rfl (fun j ⟨ad, e, hj⟩ => by
    split at e
    · exact ⟨ad, e, hj⟩
    · cases A with
      | none => cases e
      | some ad2 => injection e with e; subst e; exact ⟨ad2, rfl, by rw [hj, block_of_add]⟩) fun h => by
    obtain ⟨h1, h2, h3, ⟨rfl, rfl⟩ | ⟨g, off, cur, rfl, hb, hs, hx⟩⟩ := h
    · exact ⟨by rw [List.length_drop, h1, Nat.sub_mul], by omega, by omega, .inl ⟨by split <;> rfl, by omega⟩⟩
    · refine ⟨by rw [List.length_drop, h1, Nat.sub_mul], by omega, by omega, .inr ?_⟩
      have hks : k * size ≤ c * size := Nat.mul_le_mul_right _ (by omega)
      by_cases hc : c = k
      · subst hc
        obtain rfl : n = c := by omega
        refine ⟨g, off, cur, by simp, hb, by simp; omega, ?_⟩
        rw [Nat.sub_self, Nat.zero_mul, List.take_zero, List.drop_of_length_le (by omega)]
      · refine ⟨g, off + k * size, cur, by rw [if_neg hc]; simp [add_lit], hb, by rw [Nat.sub_mul]; omega, ?_⟩
        rw [← hx, ← List.drop_drop, List.drop_take, Nat.sub_mul]
end Star
theorem Tail.first {w : World} {e : TypeId} {size : Nat} {A : Option Addr} {n c : Nat} {xs : List Value} (h : Tail w e size A n c xs) (P : Program) : (Builtin.firstCells size n (.slice A n c)).run P w = .ok xs.toArray w := by
  obtain ⟨h1, h2, h3, ⟨rfl, rfl⟩ | ⟨g, off, cur, rfl, hb, hs, hx⟩⟩ := h
  · obtain rfl : n = 0 := by omega
    obtain rfl : xs = [] := List.eq_nil_of_length_eq_zero (by simpa using h1)
    exact run_firstCells_none w size 0 0 0
  · have hn : n * size ≤ c * size := Nat.mul_le_mul_right _ h2
    exact run_firstCells_some w size n _ n c xs h1 fun j u hu => by
      rw [add_lit, hb.cell]
      rw [← hx, List.getElem?_take] at hu
      split at hu
      · rw [List.getElem?_drop] at hu; simpa using hu
      · cases hu
section
variable {P : Program} {w : World} {ops : Array Oper} {o : Oper} {a : Act} {Q : Exit → Act → World → Prop} {L R : List SProp} {K : Act → World → Prop}
theorem src_row {size : Nat} {tx e' : TypeId} (hk : P.underlying tx = some (.slice e')) {A : Option Addr} {n : Nat} (c : Nat) {xs : List Value} (h : Rd w size A n xs) (h1 : ∀ u ∈ xs, u.oneCell' = true) : Src P size tx (.slice A n c) n xs w := by
  rcases Nat.eq_zero_or_pos n with rfl | hn
  · obtain rfl : xs = [] := List.eq_nil_of_length_eq_zero (by simpa using h.1)
    cases A with
    | none => exact Src.ofNil w hk c
    | some ad => exact Src.ofSlice w hk ad 0 c [] (by simp) (fun j u hu => by cases hu) (fun _ h => by cases h)
  · obtain ⟨ad, rfl, _, hc⟩ := h.2 hn
    exact Src.ofSlice w hk ad n c xs h.1 hc h1
theorem src_str {tx : TypeId} (hk : P.underlying tx = some .string) (l : List UInt8) : Src P 1 tx (.string ⟨l.toArray⟩) l.length (bvs l) w := by
  have h := Src.ofString (P := P) w hk ⟨l.toArray⟩
  have e1 : byteCells ⟨l.toArray⟩ = bvs l := by simp [byteCells, bvs, bv]
  rw [e1] at h
  exact h
/-- append onto a tail. -/
theorem ws_app_big (hM : Star L w) {s x : Operand} {t tx : TypeId} (ho : o.op = .call { callee := .builtin .append, args := #[s, x], argTypes := #[t, tx] })
    {B : Option Addr} {n c0 : Nat} (hs : a.eval s = .slice B n c0)
    (e : TypeId) (z : Value) (size bytes : Nat) (ht : P.underlying t = some (.slice e)) (hi : (P.info? e).map (fun i => (i.zero, i.size, i.bytes)) = some (some z, size, bytes)) (hzs : z.cells.size = size)
    {xs : List Value} (hb : Take (tailE e size B n c0 xs) L R) {m : Nat} {news : List Value} (hr : Src P size tx (a.eval x) m news w) (hb2 : (n + m) * bytes ≤ 140737488355328) (h63 : n + m ≤ maxLen)
    (h : ∀ A' c' w1, Star (tailE e size A' (n + m) c' (xs ++ news) :: R) w1 → K (a.put o.dst (.slice A' (n + m) c')) w1) : Oper.wp P o a w K Q := by
  obtain ⟨i, hi0, hz, hsize, hby⟩ := info_parts hi
  have hT : Tail w e size B n c0 xs := (hM.take hb).head
  have hT' : Tail w.drew e size B n c0 xs := hT
  have hfirst := hT'.first P
  subst hsize hby
  unfold Oper.wp execOp
  simp only [ho, resolve, invoke, builtin, Sem.run_bind, Sem.run_pure, Result.andThen_ok, List.map_toArray, List.map_cons, List.map_nil, hs]
  have hnl := hr.newsLen
  by_cases hroom : n + m ≤ c0
  · obtain ⟨h1, h2, h3, ⟨rfl, rfl⟩ | ⟨g, off, cur, rfl, hB, hS, hX⟩⟩ := hT
    · obtain ⟨rfl, rfl⟩ : n = 0 ∧ m = 0 := by omega
      obtain rfl : xs = [] := List.eq_nil_of_length_eq_zero (by simpa using h1)
      obtain rfl : news = [] := List.eq_nil_of_length_eq_zero (by simpa using hnl)
      have hrun : (Builtin.append_ #[t, tx] o.type #[.slice none 0 0, a.eval x]).run P w = .ok (.slice none 0 0) w := by
        rcases hr.kind with ⟨e', hk⟩ | hk <;> simp [Builtin.append_, run_underlying ht, run_underlying hk, sizeOf, typeInfo, hi0, hr.len, hr.cells]
      rw [hrun]
      exact h none 0 w (by simpa using hM.take hb)
    · have hmc : (n + m) * i.size ≤ c0 * i.size := Nat.mul_le_mul_right _ hroom
      rw [Nat.add_mul] at hmc
      have hrun : (Builtin.append_ #[t, tx] o.type #[.slice (some ⟨g, off, none⟩) n c0, a.eval x]).run P w = .ok (.slice (some ⟨g, off, none⟩) (n + m) c0) (w.setRow g (cur.toList.take (off + n * i.size) ++ news ++ cur.toList.drop (off + n * i.size + m * i.size)).toArray) := by
        have hst := run_storeCells_at P g (off + n * i.size) e news 0 cur w hB (by rw [hnl]; omega) hr.one
        simp only [Nat.add_zero, hnl] at hst
        rcases hr.kind with ⟨e', hk⟩ | hk <;> simp [Builtin.append_, run_underlying ht, run_underlying hk, sizeOf, typeInfo, hi0, hr.len, hroom, hr.cells, Addr.add_lit, hst]
      rw [hrun]
      refine h _ _ _ ((hM.take hb).put (bs := [g]) rfl (setRow_ch w g _) (fun b hb => .inl (by rcases List.mem_singleton.1 hb with rfl; exact ⟨_, rfl, rfl⟩)) ⟨?_, hroom, h3, .inr ⟨g, off, _, rfl, setRow_blk hB _, ?_, ?_⟩⟩ fun k hk => .inl hk)
      · rw [List.length_append, h1, hnl, Nat.add_mul]
      · simp only [List.size_toArray, List.length_append, List.length_take, List.length_drop, Array.length_toList, hnl]; omega
      · simp only [List.toList_toArray]
        have hto : (cur.toList.take (off + n * i.size)).drop off = xs := by rw [← hX, List.drop_take]; congr 1; omega
        have hl1 : off ≤ (cur.toList.take (off + n * i.size)).length := by simp; omega
        rw [List.append_assoc, List.drop_append_of_le_length hl1, hto, ← List.append_assoc]
        rw [List.take_append_of_le_length (by rw [List.length_append, h1, hnl, Nat.add_mul]; omega)]
        rw [List.take_of_length_le (by rw [List.length_append, h1, hnl, Nat.add_mul]; omega)]
  · have hrun := run_append_grow_src (P := P) w t tx o.type e i z ht hi0 hz B n c0 xs hfirst (a.eval x) m news hr (by omega) (by unfold maxLen at h63; omega) (growslice_fits (by omega) hb2)
    rw [hrun]
    have hge := grownCap_ge w (n + m) c0 e
    have hcm : grownCap w (n + m) c0 e ≤ maxLen := grownCap_le_maxLen w (n + m) c0 e h63
    obtain ⟨h1, h2, h3, _⟩ := hT
    have hlen : (xs ++ news).length = (n + m) * i.size := by rw [List.length_append, h1, hnl, Nat.add_mul]
    refine h _ _ _ ((hM.drop_ hb).new_ ((Ch.refl _ _).drew.alloc _) ⟨hlen, hge, hcm, .inr ⟨w.heap.size, 0, _, rfl, heap_alloc_new w.drew _, ?_, ?_⟩⟩ fun k ⟨ad, e, hk⟩ => by injection e with e; subst e; rw [hk]; exact Nat.le_refl _)
    · simp only [Array.size_append, List.size_toArray, size_zeroCells, hzs, hlen, ← Nat.add_mul, Nat.zero_add]
      rw [show n + m + (grownCap w (n + m) c0 e - (n + m)) = grownCap w (n + m) c0 e by omega]
      exact Nat.le_refl _
    · simp only [Array.toList_append, List.drop_zero]
      rw [← hlen]
      exact List.take_left
/-- append onto a tail. -/
theorem ws_app (hM : Star L w) {s x : Operand} {t tx : TypeId} (ho : o.op = .call { callee := .builtin .append, args := #[s, x], argTypes := #[t, tx] })
    {B : Option Addr} {n c0 : Nat} (hs : a.eval s = .slice B n c0)
    (e : TypeId) (z : Value) (size bytes : Nat) (ht : P.underlying t = some (.slice e)) (hi : (P.info? e).map (fun i => (i.zero, i.size, i.bytes)) = some (some z, size, bytes)) (hzs : z.cells.size = size)
    {xs : List Value} (hb : Take (tailE e size B n c0 xs) L R) {m : Nat} {news : List Value} (hr : Src P size tx (a.eval x) m news w) (hbytes : (n + m) * (bytes + 1) ≤ 140737488355328)
    (h : ∀ A' c' w1, Star (tailE e size A' (n + m) c' (xs ++ news) :: R) w1 → K (a.put o.dst (.slice A' (n + m) c')) w1) : Oper.wp P o a w K Q :=
  ws_app_big hM ho hs e z size bytes ht hi hzs hb hr (Nat.le_trans (Nat.mul_le_mul_left _ (Nat.le_succ _)) hbytes) (by
    have : (n + m) * 1 ≤ (n + m) * (bytes + 1) := Nat.mul_le_mul_left _ (by omega)
    unfold maxLen; omega) h
/-- []T{x, ..}, that is written at its end. -/
theorem ws_slice_tail (hM : Star L w) {t : TypeId} {n : Nat} {xs : Array (Nat × Operand)} (ho : o.op = .buildSlice t n xs) (e : TypeId) (size : Nat) (z : Value) (vs : List Value) (ht : P.underlying t = some (.slice e)) (hi : (P.info? e).map (fun i => (i.zero, i.size)) = some (some z, size))
    (hx : (xs.toList.map fun p => (p.1, a.eval p.2)) = vs.zipIdx.map fun p => (p.2, p.1)) (hv : ∀ v ∈ vs, v.cells.size = size) (hn : vs.length = n) (hsm : n * size ≤ 16777216) (hsm2 : n ≤ 16777216) {cs : List Value} (hcs : (vs.flatMap fun v => v.cells.toList) = cs)
    (h : ∀ g w1, Star (tailE e size (some ⟨g, 0, none⟩) n n cs :: L) w1 → K (a.put o.dst (.slice (some ⟨g, 0, none⟩) n n)) w1) : Oper.wp P o a w K Q :=
  ws_slice_own hM ho e size z vs ht hi hx hv hn hsm hsm2 hcs fun g w1 hM => h g w1 hM.tail_of_own
end
end Go.Proofs.Ytnckgkgilnmocaa
set_option linter.unusedSimpArgs false
set_option linter.unusedVariables false
namespace Go.Proofs.Ytnckgkgilnmocaa
open Go.RowKit
section
variable {P : Program} {ops : Array Oper} {Q : Exit → Act → World → Prop} {md : Region.Mode} {L0 : List SProp} {Z : List Nat}
/-- One of several that may come up. -/
theorem RS_way {i : Nat} {oi : Oper} {tl : List Oper} {fuel : Nat} {listed : Array Bool} {a : Act} {L : List SProp} (hi0 : ops.toList.drop i = oi :: tl) (hw : Region.wanted oi (yielded ops a.tmps) = true)
    (h : ∀ w (K : Act → World → Prop), Star L w → (∀ a' L' w', Star L' w' → RS P md ops Q L0 Z fuel (listed.setIfInBounds i true) a' L' → K a' w') → Oper.wp P oi a w K Q) :
    ∀ w, Star L w → wpOp P ops Q i (fun a' w' => ∃ L', Star L' w' ∧ RS P md ops Q L0 Z fuel (listed.setIfInBounds i true) a' L') a w := by
  intro w hM
  have hi := op_at hi0
  unfold wpOp
  simp only [hi, hw, if_true]
  exact .inl (h w _ hM fun a' L' w' hM' h' => ⟨L', hM', h'⟩)
end
section
variable {P : Program} {w : World} {o : Oper} {a : Act} {Q : Exit → Act → World → Prop} {K : Act → World → Prop} {L : List SProp}
/-- make([]T, n), T of one cell. -/
theorem ws_make8 (hM : Star L w) {t : TypeId} {x y : Operand} (ho : o.op = .makeSlice t x y) (e : TypeId) (z : Value) (bytes : Nat) (ht : P.underlying t = some (.slice e)) (hi : (P.info? e).map (fun i => (i.zero, i.size, i.bytes)) = some (some z, 1, bytes)) (hz1 : z.cells = #[z]) (hby : bytes ≤ 16)
    {n : Nat} (hx : a.eval x = .int .i64 (n : Int)) (hy : a.eval y = .int .i64 (n : Int)) (hsm : n ≤ 1000000000)
    (h : ∀ g w1, Star (cellsE g e (List.replicate n z).toArray :: L) w1 → K (a.put o.dst (.slice (some ⟨g, 0, none⟩) n n)) w1) : Oper.wp P o a w K Q := by
  obtain ⟨i, hi0, hz, hsize, hb⟩ := info_parts hi
  exact ws_make hM ho e i z ht hi0 hz hsize hz1 (by omega) hx hy hsm h
end
theorem ret_bool {a b : Bool} (h : a = b) : Ending.returned (Value.bool a) = .returned (.bool b) := by rw [h]
end Go.Proofs.Ytnckgkgilnmocaa
set_option linter.unusedSimpArgs false
set_option linter.unusedVariables false
namespace Go.Proofs.Ytnckgkgilnmocaa
open Go.RowKit
attribute [local go_sem] extract_mid extract_drop bget bsize wrap64_u8 i64_u8 u64_u8 bappend
abbrev balC (l : List UInt8) (e : Int) : Array Value := #[.string ⟨l.toArray⟩, .int .i64 e]
abbrev balE (b : Nat) (l : List UInt8) (e : Int) : SProp := cellsE b 161 (balC l e)
section
variable {L R : List SProp} {w : World} {b : Nat} {l : List UInt8} {e : Int}
theorem starb {f : FuncId} {args : Array Value} {v : Value} {l' : List UInt8} {e' : Int} (hM : Star L w) (hb : Take (balE b l e) L R) (h : Bal w b l e → Calls Try.prog f args w fun r w' => r = .returned v ∧ Bal w' b l' e' ∧ Ch [b] w w') :
    Calls Try.prog f args w fun r w' => r = .returned v ∧ Star (balE b l' e' :: R) w' :=
  (h (hM.take hb).head).mono fun _ _ ⟨h1, h2, h3⟩ => ⟨h1, (hM.take hb).put (bs := [b]) rfl h3 (fun c hc => .inl (List.mem_singleton.1 hc)) h2 fun k hk => .inl hk⟩
theorem sOpen (l : List UInt8) (hM : Star L w) : Calls Try.prog 71 #[.string ⟨l.toArray⟩] w fun r w' => ∃ b, r = .returned (.pointer (some ⟨b, 0, none⟩)) ∧ Star (balE b l 0 :: L) w' :=
  (open_any l w).mono fun _ _ ⟨h1, h2, h3⟩ => ⟨_, h1, hM.new_ h3 h2 fun k hk => by rw [hk]; exact Nat.le_refl _⟩
theorem sErr (hM : Star L w) (hb : balE b l e ∈ L) : Calls Try.prog 74 #[.pointer (some ⟨b, 0, none⟩)] w fun r w' => r = .returned (.int .i64 e) ∧ Star L w' :=
  (err_any (hM.blk hb)).mono fun _ _ ⟨h1, h2⟩ => ⟨h1, h2 ▸ hM⟩
theorem sLeft (hM : Star L w) (hb : balE b l e ∈ L) : Calls Try.prog 95 #[.pointer (some ⟨b, 0, none⟩)] w fun r w' => r = .returned (.string ⟨l.toArray⟩) ∧ Star L w' :=
  (left_any (hM.blk hb)).mono fun _ _ ⟨h1, h2⟩ => ⟨h1, h2 ▸ hM⟩
theorem sBytes {n : Int} {s u : List UInt8} {f : Int} (hm : mBytes l e n = (s, u, f)) (hM : Star L w) (hb : Take (balE b l e) L R) : Calls Try.prog 72 #[.pointer (some ⟨b, 0, none⟩), .int .i64 n] w fun r w' => r = .returned (.string ⟨s.toArray⟩) ∧ Star (balE b u f :: R) w' :=
  starb hM hb fun h => by have := bytes_any h n; rwa [hm] at this
theorem sInt {n top : Int} {u : List UInt8} {f : Int} (ht : top ≤ 9223372036854775807) (hm : mInt l e top = (n, u, f)) (hM : Star L w) (hb : Take (balE b l e) L R) : Calls Try.prog 73 #[.pointer (some ⟨b, 0, none⟩), .int .i64 top] w fun r w' => r = .returned (.int .i64 n) ∧ Star (balE b u f :: R) w' :=
  starb hM hb fun h => by have := int_any h top ht; rwa [hm] at this
end
end Go.Proofs.Ytnckgkgilnmocaa
set_option linter.unusedSimpArgs false
set_option linter.unusedVariables false
namespace Go.Proofs.Ytnckgkgilnmocaa
abbrev Par (α : Type) := List UInt8 → Int → α × List UInt8 × Int
def Par.bind {α β : Type} (p : Par α) (f : α → Par β) : Par β := fun l e => f (p l e).1 (p l e).2.1 (p l e).2.2
def Par.ret {α : Type} (a : α) : Par α := fun l e => (a, l, e)
/-- An error stays. -/
def Stay {α : Type} (p : Par α) : Prop := ∀ l e, e ≠ 0 → (p l e).2 = (l, e)
/-- Reader p takes x as v, and tells a beginning of x. -/
structure Codec {α : Type} (p : Par α) (x : List UInt8) (v : α) : Prop where
  full : ∀ t, p (x ++ t) 0 = (v, t, 0)
  cut : ∀ y, y <+: x → y ≠ x → (p y 0).2 = ([], 1)
theorem Stay.bind {α β : Type} {p : Par α} {f : α → Par β} (hp : Stay p) (hf : ∀ a, Stay (f a)) : Stay (p.bind f) := fun l e he => by
  have h1 := hp l e he
  unfold Par.bind
  rw [h1]
  exact hf _ l e he
theorem Stay.ret {α : Type} (a : α) : Stay (Par.ret a) := fun _ _ _ => rfl
theorem Codec.ret {α : Type} (a : α) : Codec (Par.ret a) [] a := ⟨fun _ => rfl, fun y hy hne => absurd (List.prefix_nil.1 hy) hne⟩
theorem prefix_append_cases {y a b : List UInt8} (h : y <+: a ++ b) : (y <+: a ∧ y ≠ a) ∨ ∃ z, y = a ++ z ∧ z <+: b := by
  rcases Nat.lt_or_ge y.length a.length with hl | hl
  · refine .inl ⟨List.prefix_of_prefix_length_le h (List.prefix_append a b) (by omega), fun e => by subst e; omega⟩
  · have ha : a <+: y := List.prefix_of_prefix_length_le (List.prefix_append a b) h hl
    obtain ⟨z, rfl⟩ := ha
    exact .inr ⟨z, rfl, (List.prefix_append_right_inj a).1 h⟩
theorem Codec.bind {α β : Type} {p : Par α} {f : α → Par β} {x y : List UInt8} {v : α} {u : β} (hp : Codec p x v) (hf : Codec (f v) y u) (hs : ∀ a, Stay (f a)) : Codec (p.bind f) (x ++ y) u := by
  refine ⟨fun t => ?_, fun c hc hne => ?_⟩
  · unfold Par.bind
    rw [List.append_assoc, hp.full (y ++ t)]
    exact hf.full t
  · rcases prefix_append_cases hc with ⟨h1, h2⟩ | ⟨z, rfl, hz⟩
    · have := hp.cut c h1 h2
      unfold Par.bind
      rw [this]
      exact hs _ [] 1 (by omega)
    · unfold Par.bind
      rw [hp.full z]
      exact hf.cut z hz fun e => hne (by rw [e])
theorem Codec.map {α β : Type} {p : Par α} {x : List UInt8} {v : α} (g : α → β) (hp : Codec p x v) : Codec (p.bind fun a => Par.ret (g a)) x (g v) := by
  have := hp.bind (f := fun a => Par.ret (g a)) (Codec.ret (g v)) fun a => Stay.ret _
  simpa using this
end Go.Proofs.Ytnckgkgilnmocaa
set_option linter.unusedSimpArgs false
set_option linter.unusedVariables false
namespace Go.Proofs.Ytnckgkgilnmocaa
structure Ltr where
  k : Int
  f : Int
  t : Int
  q : Int
  id : List UInt8
  w : Int
  x : List UInt8
  ps : List Int
  hs : List Int
def hasName (k : Int) : Bool := decide (3 ≤ k ∧ k ≤ 10)
def hasWhat (k : Int) : Bool := decide (7 ≤ k ∧ k ≤ 9)
def addr (n : Int) : Bool := decide (0 ≤ n ∧ n < 64)
def zeroB (l : List UInt8) : Bool := l.all (· == 0)
/-- What a letter must be, one by one. -/
structure Okay (l : Ltr) : Prop where
  k1 : 1 ≤ l.k
  k2 : l.k ≤ 10
  f : addr l.f = true
  t : addr l.t = true
  q1 : 0 ≤ l.q
  q2 : l.q ≤ 4294967296
  ps : l.ps.length ≤ 8
  hs : l.hs.length ≤ 8
  x : l.x.length ≤ 512
  id : hasName l.k = false → zeroB l.id = true
  no4 : l.k ≠ 4 → l.ps = [] ∧ l.hs = []
  no8 : l.k ≠ 8 → l.x = []
  w1 : hasWhat l.k = true → 1 ≤ l.w ∧ l.w ≤ 3
  w0 : hasWhat l.k = false → l.w = 0
  psA : ∀ n ∈ l.ps, addr n = true
  hsA : ∀ n ∈ l.hs, addr n = true
def encN (n : Int) : List UInt8 := encNum (max n 0).toNat
def encL (l : List Int) : List UInt8 := encN l.length ++ encNums l
def bytesL (l : Ltr) : List UInt8 :=
  [99, 118] ++ (encN l.k ++ (encN l.f ++ (encN l.t ++ (encN l.q ++ ((if hasName l.k = true then l.id else []) ++ ((if hasWhat l.k = true then encN l.w else []) ++ ((if l.k = 8 then encStr l.x else []) ++ ((if l.k = 4 then encL l.ps else []) ++ (if l.k = 4 then encL l.hs else [])))))))))
theorem encN_len (n : Int) : (encN n).length ≤ 9 := encNum_len _
theorem bytes_len {l : Ltr} (h : Okay l) (hid : l.id.length ≤ 32) : (bytesL l).length ≤ 700 := by
  have e1 := encN_len l.k
  have e2 := encN_len l.f
  have e3 := encN_len l.t
  have e4 := encN_len l.q
  have e5 := encN_len l.w
  have e6 := encStr_len l.x
  have e7 := encN_len l.ps.length
  have e8 := encN_len l.hs.length
  have e9 := encNums_len l.ps
  have e10 := encNums_len l.hs
  have hx := h.x
  have hp := h.ps
  have hh := h.hs
  by_cases k4 : l.k = 4
  · have k8 : l.k ≠ 8 := by omega
    simp only [bytesL, encL, List.length_append, List.length_cons, List.length_nil]
    rw [if_neg k8, if_pos k4, if_pos k4]
    split <;> split <;> simp only [List.length_append, List.length_nil] <;> omega
  · simp only [bytesL, encL, List.length_append, List.length_cons, List.length_nil]
    rw [if_neg k4, if_neg k4]
    split <;> split <;> split <;> simp only [List.length_append, List.length_nil] <;> omega
end Go.Proofs.Ytnckgkgilnmocaa
