/- General lemmas on worlds, blocks and slices: what a call changes ('Ch'), a block known whole ('Blk'), a slice that reads as a list ('Rd'). No condition. -/
import Derived.Below
import Derived.Laws.OwnMore
import Derived.Deep.AppendLies
import Derived.Deep.Draws
import Derived.Laws.Rows
import Derived.Maps.AppendAt
import Derived.OwnWalk
import Derived.RegionTactic
import Derived.ShutString
import Derived.Lib.Hide
import Derived.WalkKit
import Derived.WalkSpells
import Derived.WalkLawsBesides
import Derived.BigQuiet
import Derived.Deep.QuietTactic
set_option linter.unusedSimpArgs false
set_option linter.unusedVariables false
namespace Go.Proofs.Ythjceppddmecdaa
open Go.RowKit

/-- Nothing that was there has turned but the blocks of the list. -/
structure Ch (bs : List Nat) (w w' : World) : Prop where
  os : w'.os = w.os
  tape : w'.tape = w.tape
  output : w'.output = w.output
  size : w.heap.size ≤ w'.heap.size
  block : ∀ k, k < w.heap.size → k ∉ bs → w'.heap[k]? = w.heap[k]?

namespace Ch
variable {bs cs : List Nat} {a w w' : World}
theorem refl (bs : List Nat) (w : World) : Ch bs w w := ⟨rfl, rfl, rfl, Nat.le_refl _, fun _ _ _ => rfl⟩
/-- The general step: what the second call turned was among the first's, or is new. -/
theorem step (h : Ch bs a w) (k : Ch cs w w') (hc : ∀ c ∈ cs, c ∈ bs ∨ a.heap.size ≤ c) : Ch bs a w' :=
  ⟨k.os.trans h.os, k.tape.trans h.tape, k.output.trans h.output, Nat.le_trans h.size k.size, fun i hi hb =>
    (k.block i (Nat.lt_of_lt_of_le hi h.size) (fun hm => by
      rcases hc i hm with h1 | h1
      · exact hb h1
      · omega)).trans (h.block i hi hb)⟩
theorem trans (h : Ch bs a w) (k : Ch bs w w') : Ch bs a w' := h.step k fun _ hc => .inl hc
theorem then_ (h : Ch bs a w) (k : Ch [] w w') : Ch bs a w' := h.step k fun _ hc => by cases hc
theorem one {b : Nat} (h : Ch bs a w) (k : Ch [b] w w') (hb : b ∈ bs ∨ a.heap.size ≤ b) : Ch bs a w' := h.step k fun c hc => by
  rcases List.mem_singleton.1 hc with rfl; exact hb
theorem mono (h : Ch bs a w) (hs : ∀ b ∈ bs, b ∈ cs) : Ch cs a w := ⟨h.os, h.tape, h.output, h.size, fun i hi hb => h.block i hi fun hm => hb (hs i hm)⟩
theorem more (h : Ch [] a w) : Ch bs a w := h.mono fun _ hb => by cases hb
theorem drop_new (h : Ch bs a w) (hn : ∀ b ∈ bs, b ∈ cs ∨ a.heap.size ≤ b) : Ch cs a w := (Ch.refl cs a).step h hn
theorem drew (h : Ch bs a w) : Ch bs a w.drew := ⟨h.os, h.tape, h.output, h.size, h.block⟩
theorem drewN (h : Ch bs a w) (n : Nat) : Ch bs a (w.drewN n) := ⟨h.os, h.tape, h.output, h.size, h.block⟩
theorem alloc (h : Ch bs a w) (o : Obj) : Ch bs a (w.alloc o) :=
  ⟨h.os, h.tape, h.output, Nat.le_trans h.size (by simp), fun i hi hb => (Below.heap_alloc w o i (Nat.lt_of_lt_of_le hi h.size)).trans (h.block i hi hb)⟩
theorem setCell (h : Ch bs a w) {p : Addr} (hp : p.block ∈ bs ∨ a.heap.size ≤ p.block) (u : Value) : Ch bs a (w.setCell p u) :=
  ⟨h.os, h.tape, h.output, by simpa [World.setCell] using h.size, fun i hi hb => (Below.heap_setCell w p u i (by
    rintro rfl
    rcases hp with h1 | h1
    · exact hb h1
    · omega)).trans (h.block i hi hb)⟩
theorem below (h : Ch [] a w) : Below a.heap.size a w := ⟨h.os, h.tape, h.output, h.size, fun i hi => h.block i hi (by simp)⟩
theorem of_below (h : Below a.heap.size a w) : Ch bs a w := ⟨h.os, h.tape, h.output, h.size, fun i hi _ => h.block i hi⟩
theorem of_grown {row : Option Nat} (h : a.grownBy w row) (hr : ∀ k, row = some k → k ∈ bs) : Ch bs a w :=
  ⟨h.os, h.tape, h.output, h.size, fun i hi hb => h.block i hi fun e => hb (hr i e.symm)⟩
theorem grown {row : Option Nat} (h : Ch bs a w) (g : w.grownBy w' row) (hr : ∀ k, row = some k → k ∈ bs ∨ a.heap.size ≤ k) : Ch bs a w' :=
  h.step (cs := row.toList) (of_grown g fun k hk => by simp [hk]) fun c hc => hr c (by simpa using hc)
theorem cell (h : Ch bs a w) {p : Addr} (hp : p.block < a.heap.size) (hb : p.block ∉ bs) : w.cell? p = a.cell? p := World.cell?_of_block (h.block _ hp hb)
theorem frozen (h : Ch bs a w) {p : Addr} (hp : p.block < a.heap.size) (hb : p.block ∉ bs) : w.frozen? p = a.frozen? p := World.frozen?_of_block (h.block _ hp hb)
theorem to_grown {b : Nat} (h : Ch [b] a w) : a.grownBy w (some b) := ⟨h.os, h.tape, h.output, h.size, fun i hi hne => h.block i hi (by simpa using hne)⟩
end Ch

theorem block_of_add (a : Addr) (n : Nat) : (a.add n).block = a.block := by unfold Addr.add; split <;> rfl
theorem add_of_add (a : Addr) (i j : Nat) : (a.add i).add j = a.add (i + j) := by
  unfold Addr.add
  by_cases hi : i = 0 <;> by_cases hj : j = 0 <;> simp [hi, hj, Nat.add_assoc]
theorem add_zero (a : Addr) : a.add 0 = a := rfl
theorem add_lit (b o n : Nat) : (⟨b, o, none⟩ : Addr).add n = ⟨b, o + n, none⟩ := by unfold Addr.add; split <;> simp_all

/-- Block g is just the cells cs of type t, none frozen. -/
def Blk (w : World) (g : Nat) (t : TypeId) (cs : Array Value) : Prop := w.heap[g]? = some (.cells cs t (0, 0))

section
variable {w w' : World} {g : Nat} {t : TypeId} {cs : Array Value} {bs : List Nat}
theorem Blk.lt (h : Blk w g t cs) : g < w.heap.size := by
  rcases Nat.lt_or_ge g w.heap.size with hlt | hge
  · exact hlt
  · unfold Blk at h; rw [Array.getElem?_eq_none hge] at h; cases h
theorem Blk.cell (h : Blk w g t cs) (i : Nat) : w.cell? ⟨g, i, none⟩ = cs[i]? := cell_of_row w g i cs t (0, 0) h
theorem Blk.frozen (h : Blk w g t cs) (i : Nat) : w.frozen? ⟨g, i, none⟩ = false := by
  unfold Blk at h
  simp [World.frozen?, h]
theorem Blk.new (w : World) (t : TypeId) (cs : Array Value) : Blk (w.alloc (.cells cs t)) w.heap.size t cs := heap_alloc_new w _
theorem Blk.drew (h : Blk w g t cs) : Blk w.drew g t cs := h
theorem Blk.drewN (h : Blk w g t cs) (n : Nat) : Blk (w.drewN n) g t cs := h
theorem Blk.alloc (h : Blk w g t cs) (o : Obj) : Blk (w.alloc o) g t cs := (Below.heap_alloc w o g h.lt).trans h
theorem Blk.set_ (h : Blk w g t cs) (i : Nat) (u : Value) : Blk (w.setCell ⟨g, i, none⟩ u) g t (cs.setIfInBounds i u) := by
  unfold Blk at h ⊢
  simp [World.setCell, Array.getElem?_modify, h]
theorem Blk.far (h : Blk w g t cs) {p : Addr} (hp : g ≠ p.block) (u : Value) : Blk (w.setCell p u) g t cs := (Below.heap_setCell w p u g hp).trans h
theorem Blk.ch (h : Blk w g t cs) (hb : Ch bs w w') (hg : g ∉ bs) : Blk w' g t cs := (hb.block g h.lt hg).trans h
theorem Blk.ch0 (h : Blk w g t cs) (hb : Ch [] w w') : Blk w' g t cs := h.ch hb (by simp)
theorem Blk.ne_ {g' : Nat} {t' : TypeId} {cs' : Array Value} (h : Blk w g t cs) (h' : Blk w g' t' cs') (hne : t ≠ t') : g ≠ g' := by
  rintro rfl
  unfold Blk at h h'
  rw [h] at h'
  injection h' with h'
  injection h' with _ ht
  exact hne ht
end

/-- The slice at address A of n elements of so many cells holds the cells xs, in memory below block B. -/
def Rd (w : World) (size : Nat) (A : Option Addr) (n : Nat) (xs : List Value) : Prop :=
  xs.length = n * size ∧ (0 < n → ∃ ad, A = some ad ∧ ad.block < w.heap.size ∧ ∀ j u, xs[j]? = some u → w.cell? (ad.add j) = some u)

section
variable {w w' : World} {size n : Nat} {A : Option Addr} {xs : List Value} {bs : List Nat}
theorem Rd.none_ : Rd w size A 0 [] := ⟨by simp, fun h => absurd h (by omega)⟩
theorem Rd.len (h : Rd w 1 A n xs) : xs.length = n := by simpa using h.1
theorem Rd.at_ {k : Nat} (h : Rd w 1 A n xs) (hk : k < n) : ∃ ad u, A = some ad ∧ ad.block < w.heap.size ∧ xs[k]? = some u ∧ w.cell? (ad.add k) = some u := by
  obtain ⟨ad, e, hb, hc⟩ := h.2 (by omega)
  have hl : k < xs.length := by have := h.1; omega
  exact ⟨ad, xs[k], e, hb, List.getElem?_eq_getElem hl, hc k _ (List.getElem?_eq_getElem hl)⟩
theorem Rd.keep (h : Rd w size A n xs) (hs : w.heap.size ≤ w'.heap.size) (hk : ∀ ad, A = some ad → 0 < n → ∀ p : Addr, p.block = ad.block → w'.cell? p = w.cell? p) : Rd w' size A n xs :=
  ⟨h.1, fun hn => by
    obtain ⟨ad, e, hb, hc⟩ := h.2 hn
    exact ⟨ad, e, by omega, fun j u hu => (hk ad e hn _ (block_of_add ad j)).trans (hc j u hu)⟩⟩
theorem Rd.ch (h : Rd w size A n xs) (hc : Ch bs w w') (hb : ∀ ad, A = some ad → ad.block ∉ bs) : Rd w' size A n xs :=
  ⟨h.1, fun hn => by
    obtain ⟨ad, e, hlt, hx⟩ := h.2 hn
    exact ⟨ad, e, Nat.lt_of_lt_of_le hlt hc.size, fun j u hu => (hc.cell (by rw [block_of_add]; exact hlt) (by rw [block_of_add]; exact hb ad e)).trans (hx j u hu)⟩⟩
theorem Rd.ch0 (h : Rd w size A n xs) (hc : Ch [] w w') : Rd w' size A n xs := h.ch hc fun _ _ => by simp
theorem Rd.drew (h : Rd w size A n xs) : Rd w.drew size A n xs := h
theorem Rd.drewN (h : Rd w size A n xs) (k : Nat) : Rd (w.drewN k) size A n xs := h
theorem Rd.alloc (h : Rd w size A n xs) (o : Obj) : Rd (w.alloc o) size A n xs := h.ch0 ((Ch.refl _ _).alloc o)
theorem Rd.setCell (h : Rd w size A n xs) {p : Addr} (hp : ∀ ad, A = some ad → ad.block ≠ p.block) (u : Value) : Rd (w.setCell p u) size A n xs :=
  h.keep (by simp [World.setCell]) fun ad e _ q hq => World.cell?_setCell_other w p q u (fun e' => by subst e'; exact hp ad e hq.symm)
theorem Rd.of_own {base : Nat} {e : TypeId} {c : Nat} (h : w.ownsRow base e size (.slice A n c) n xs) : Rd w size A n xs := by
  refine ⟨h.1, fun hn => ?_⟩
  rcases h.2 with ⟨h1, h2⟩ | ⟨g, cap, cur, hv, _, hh, _⟩
  · omega
  · have hA : A = some ⟨g, 0, none⟩ := by injection hv
    subst hA
    have hlt := (Array.getElem?_eq_some_iff.1 hh).1
    exact ⟨_, rfl, hlt, h.cells (g := g) rfl⟩
theorem Rd.of_blk {g : Nat} {t : TypeId} {cs : Array Value} (h : Blk w g t cs) (hs : cs.size = n * size) : Rd w size (some ⟨g, 0, none⟩) n cs.toList :=
  ⟨by simpa using hs, fun _ => ⟨_, rfl, h.lt, fun j u hu => by rw [add_lit, h.cell]; simpa using hu⟩⟩
/-- The first k elements. -/
theorem Rd.take_ {k : Nat} (h : Rd w 1 A n xs) (hk : k ≤ n) : Rd w 1 A k (xs.take k) :=
  ⟨by have := h.1; simp; omega, fun hn => by
    obtain ⟨ad, e, hb, hc⟩ := h.2 (by omega)
    exact ⟨ad, e, hb, fun j u hu => hc j u (by rw [List.getElem?_take] at hu; split at hu <;> simp_all)⟩⟩
theorem Rd.cut {k cap : Nat} (h : Rd w size A n xs) (hk : k ≤ n) (hc : n ≤ cap) :
    Rd w size (if cap = k then A else A.map (·.add (k * size))) (n - k) (xs.drop (k * size)) := by
  refine ⟨by rw [List.length_drop, h.1, Nat.sub_mul], fun hn => ?_⟩
  obtain ⟨ad, rfl, hb, hcell⟩ := h.2 (by omega)
  rw [if_neg (by omega)]
  refine ⟨ad.add (k * size), rfl, by rw [block_of_add]; exact hb, fun j u hu => ?_⟩
  rw [add_of_add]
  exact hcell _ u (by rw [← hu, List.getElem?_drop])
end

theorem extract_drop (l : List UInt8) (k : Nat) : (⟨l.toArray⟩ : ByteArray).extract k l.length = ⟨(l.drop k).toArray⟩ := by
  apply ByteArray.ext
  simp [ByteArray.data_extract, List.extract_eq_take_drop, List.take_of_length_le]
theorem extract_mid (l : List UInt8) (i j : Nat) : (⟨l.toArray⟩ : ByteArray).extract i j = ⟨((l.take j).drop i).toArray⟩ := by
  apply ByteArray.ext
  simp [ByteArray.data_extract, List.extract_eq_take_drop, List.drop_take]
theorem bget (l : List UInt8) (i : Nat) (h : i < (ByteArray.mk l.toArray).size) : (ByteArray.mk l.toArray)[i]'h = l[i]'h := rfl
theorem bsize (l : List UInt8) : (ByteArray.mk l.toArray).size = l.length := rfl
theorem bappend (x y : List UInt8) : (ByteArray.mk x.toArray) ++ (ByteArray.mk y.toArray) = ⟨(x ++ y).toArray⟩ := by
  apply ByteArray.ext
  simp
theorem wrap64_u8 (c : UInt8) : wrap64 (c.toNat : Int) = c.toNat := by have := c.toNat_lt; exact IntWalk.wrap64_in _ (by omega)
theorem i64_u8 (c : UInt8) : IntKind.i64.wrap (c.toNat : Int) = c.toNat := by have := c.toNat_lt; exact IntWalk.i64_in _ (by omega)
theorem u64_u8 (c : UInt8) : IntKind.u64.wrap (c.toNat : Int) = c.toNat := by have := c.toNat_lt; exact IntWalk.u64_in _ (by omega)
theorem u32_u8 (c : UInt8) : IntKind.u32.wrap (c.toNat : Int) = c.toNat := by have := c.toNat_lt; exact IntWalk.u32_in _ (by omega)
theorem mk_bytes (s : ByteArray) : s = ⟨s.data.toList.toArray⟩ := by apply ByteArray.ext; simp

section
variable {P : Program} (w : World)
theorem run_append_of_nil (base : Nat) (t ty e : TypeId) (i : TypeInfo) (size : Nat) (ht : P.underlying t = some (.slice e)) (hi : P.info? e = some i)
    (v : Value) (n : Nat) (xs : List Value) (hown : w.ownsRow base e size v n xs) (c : Nat) : (Builtin.append_ #[t, t] ty #[v, .slice none 0 c]).run P w = .ok v w := by
  rcases hown.2 with ⟨rfl, rfl⟩ | ⟨g, cap, cur, rfl, _, _, hnc, _⟩
  · simp [Builtin.append_, run_underlying ht, sizeOf, typeInfo, hi, Builtin.lenOf, Builtin.firstCells]
  · simp [Builtin.append_, run_underlying ht, sizeOf, typeInfo, hi, Builtin.lenOf, Builtin.firstCells, hnc, storeCells]

theorem run_append_any (base : Nat) (t ty e : TypeId) (i : TypeInfo) (z : Value) (size bytes : Nat) (ht : P.underlying t = some (.slice e)) (hi : P.info? e = some i) (hz : i.zero = some z)
    (hsize : i.size = size) (hby : i.bytes = bytes) (hzs : z.cells.size = size) (hsz : 0 < size)
    (v : Value) (n : Nat) (xs : List Value) (hown : w.ownsRow base e size v n xs)
    (A : Option Addr) (m c : Nat) (news : List Value) (hr : Rd w size A m news) (h1 : ∀ u ∈ news, u.oneCell' = true)
    (h63 : n + m ≤ maxLen) (hbytes : (n + m) * bytes ≤ 140737488355328) (hbase : base ≤ w.heap.size) :
    ∃ v' w', (Builtin.append_ #[t, t] ty #[v, .slice A m c]).run P w = .ok v' w' ∧ w'.ownsRow base e size v' (n + m) (xs ++ news) ∧ w.grownBy w' v.ownBlock ∧
      (v'.ownBlock = v.ownBlock ∨ v'.ownBlock = some w.heap.size) ∧ (v' = .slice none 0 0 ↔ v = .slice none 0 0 ∧ m = 0) := by
  rcases A with _ | ad
  · have hm : m = 0 := by
      rcases Nat.eq_zero_or_pos m with h0 | h0
      · exact h0
      · obtain ⟨ad, h, _⟩ := hr.2 h0
        cases h
    subst hm
    have hn : news = [] := List.eq_nil_of_length_eq_zero (by simpa using hr.1)
    subst hn
    exact ⟨v, w, run_append_of_nil w base t ty e i size ht hi v n xs hown c, by simpa using hown, World.grownBy.refl w _, .inl rfl, by simp⟩
  · have hcells : ∀ j u, news[j]? = some u → w.cell? (ad.add j) = some u := by
      intro j u hu
      rcases Nat.eq_zero_or_pos m with h0 | h0
      · subst h0
        have hn : news = [] := List.eq_nil_of_length_eq_zero (by simpa using hr.1)
        subst hn
        simp at hu
      · obtain ⟨ad', h, _, hc⟩ := hr.2 h0
        injection h with h
        subst h
        exact hc j u hu
    obtain ⟨v', w', hrun, h2, h3, h4, h5⟩ := run_append_own_at (P := P) w base t ty e i z size bytes ht hi hz hsize hby hzs hsz v n xs hown ad m c news hr.1 hcells h1 h63 hbytes hbase
    exact ⟨v', w', hrun, h2, h3, h5, h4⟩
end
end Go.Proofs.Ythjceppddmecdaa
