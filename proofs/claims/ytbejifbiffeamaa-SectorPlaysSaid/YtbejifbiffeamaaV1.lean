/- What the laws share, part 1 (Base, Ops, Law, Arr, Star, Lists, OpenT, OpenR, Reg, Tail, MapE, SecP, More, At, Id, ArrEq). No condition but those that each theorem names. -/
import Derived.Below
import Derived.BigQuiet
import Derived.BigRegion
import Derived.Carry
import Derived.ChangeSame
import Derived.Deep.AppendLies
import Derived.Deep.AppendSrc
import Derived.Deep.Draws
import Derived.Deep.Fields
import Derived.Deep.Grids
import Derived.Deep.QuietTactic
import Derived.Deep.RegionLaw
import Derived.Deep.SlicePairs
import Derived.Deep.Slices
import Derived.Deep.Strs
import Derived.DeepKeys
import Derived.Laws.BitsAllLaws
import Derived.Laws.IdiomStrings
import Derived.Laws.OwnMore
import Derived.Laws.ResultCell
import Derived.Laws.Rows
import Derived.Laws.StructEq
import Derived.Lib.Hide
import Derived.Maps.AppendAt
import Derived.Maps.Own
import Derived.Maps.RangeRun
import Derived.OpenShut
import Derived.OrdersHeld
import Derived.OwnWalk
import Derived.ProofKit
import Derived.RegionTactic
import Derived.RowKit
import Derived.ShutString
import Derived.Test.YtbejifbiffeamaaRows
import Derived.WalkKit
import Derived.WalkLawsBesides
import Derived.WalkSpells
import Derived.WideKeyArgs
set_option linter.unusedSimpArgs false
set_option linter.unusedVariables false
namespace Go.Proofs.Ytbejifbiffeamaa
theorem mZ {α : Type _} {a : α} {l : List α} : a ∈ a :: l := List.mem_cons_self
theorem mS {α : Type _} {y a : α} {l : List α} : a ∈ l → a ∈ y :: l := List.mem_cons_of_mem y
open Go.RowKit
/-- Nothing that was there has turned but the blocks of the list. -/
structure Ch (bs : List Nat) (w w' : World) : Prop where
  os : w'.os = w.os
  tape : w'.tape = w.tape
  output : w'.output = w.output
  size : w.heap.size ≤ w'.heap.size
  block : ∀ k, k < w.heap.size → k ∉ bs → w'.heap[k]? = w.heap[k]?
namespace Ch
variable {bs cs : List Nat} {a w w' : World}
theorem refl (bs : List Nat) (w : World) : Ch bs w w := ⟨rfl, rfl, rfl, Nat.le_refl _, fun _ _ _ => rfl⟩
/-- The general step: what the second call turned was among the first's, or is new. -/
theorem step (h : Ch bs a w) (k : Ch cs w w') (hc : ∀ c ∈ cs, c ∈ bs ∨ a.heap.size ≤ c) : Ch bs a w' :=
  ⟨k.os.trans h.os, k.tape.trans h.tape, k.output.trans h.output, Nat.le_trans h.size k.size, fun i hi hb =>
    (k.block i (Nat.lt_of_lt_of_le hi h.size) (fun hm => by
      rcases hc i hm with h1 | h1
      · exact hb h1
      · omega)).trans (h.block i hi hb)⟩
theorem trans (h : Ch bs a w) (k : Ch bs w w') : Ch bs a w' := h.step k fun _ hc => .inl hc
theorem one {b : Nat} (h : Ch bs a w) (k : Ch [b] w w') (hb : b ∈ bs ∨ a.heap.size ≤ b) : Ch bs a w' := h.step k fun c hc => by
  rcases List.mem_singleton.1 hc with rfl; exact hb
theorem mono (h : Ch bs a w) (hs : ∀ b ∈ bs, b ∈ cs) : Ch cs a w := ⟨h.os, h.tape, h.output, h.size, fun i hi hb => h.block i hi fun hm => hb (hs i hm)⟩
theorem more (h : Ch [] a w) : Ch bs a w := h.mono fun _ hb => by cases hb
theorem drew (h : Ch bs a w) : Ch bs a w.drew := ⟨h.os, h.tape, h.output, h.size, h.block⟩
theorem alloc (h : Ch bs a w) (o : Obj) : Ch bs a (w.alloc o) :=
  ⟨h.os, h.tape, h.output, Nat.le_trans h.size (by simp), fun i hi hb => (Below.heap_alloc w o i (Nat.lt_of_lt_of_le hi h.size)).trans (h.block i hi hb)⟩
theorem below (h : Ch [] a w) : Below a.heap.size a w := ⟨h.os, h.tape, h.output, h.size, fun i hi => h.block i hi (by simp)⟩
theorem of_grown {row : Option Nat} (h : a.grownBy w row) (hr : ∀ k, row = some k → k ∈ bs) : Ch bs a w :=
  ⟨h.os, h.tape, h.output, h.size, fun i hi hb => h.block i hi fun e => hb (hr i e.symm)⟩
theorem cell (h : Ch bs a w) {p : Addr} (hp : p.block < a.heap.size) (hb : p.block ∉ bs) : w.cell? p = a.cell? p := World.cell?_of_block (h.block _ hp hb)
theorem frozen (h : Ch bs a w) {p : Addr} (hp : p.block < a.heap.size) (hb : p.block ∉ bs) : w.frozen? p = a.frozen? p := World.frozen?_of_block (h.block _ hp hb)
end Ch
theorem block_of_add (a : Addr) (n : Nat) : (a.add n).block = a.block := by unfold Addr.add; split <;> rfl
theorem add_of_add (a : Addr) (i j : Nat) : (a.add i).add j = a.add (i + j) := by
  unfold Addr.add
  by_cases hi : i = 0 <;> by_cases hj : j = 0 <;> simp [hi, hj, Nat.add_assoc]
theorem add_zero (a : Addr) : a.add 0 = a := rfl
theorem add_lit (b o n : Nat) : (⟨b, o, none⟩ : Addr).add n = ⟨b, o + n, none⟩ := by unfold Addr.add; split <;> simp_all
/-- Block g is just the cells cs of type t, none frozen. -/
def Blk (w : World) (g : Nat) (t : TypeId) (cs : Array Value) : Prop := w.heap[g]? = some (.cells cs t (0, 0))
section
variable {w w' : World} {g : Nat} {t : TypeId} {cs : Array Value} {bs : List Nat}
theorem Blk.lt (h : Blk w g t cs) : g < w.heap.size := by
  rcases Nat.lt_or_ge g w.heap.size with hlt | hge
  · exact hlt
  · unfold Blk at h; rw [Array.getElem?_eq_none hge] at h; cases h
theorem Blk.cell (h : Blk w g t cs) (i : Nat) : w.cell? ⟨g, i, none⟩ = cs[i]? := cell_of_row w g i cs t (0, 0) h
theorem Blk.frozen (h : Blk w g t cs) (i : Nat) : w.frozen? ⟨g, i, none⟩ = false := by
  unfold Blk at h
  simp [World.frozen?, h]
theorem Blk.new (w : World) (t : TypeId) (cs : Array Value) : Blk (w.alloc (.cells cs t)) w.heap.size t cs := heap_alloc_new w _
theorem Blk.drew (h : Blk w g t cs) : Blk w.drew g t cs := h
theorem Blk.alloc (h : Blk w g t cs) (o : Obj) : Blk (w.alloc o) g t cs := (Below.heap_alloc w o g h.lt).trans h
theorem Blk.ch (h : Blk w g t cs) (hb : Ch bs w w') (hg : g ∉ bs) : Blk w' g t cs := (hb.block g h.lt hg).trans h
theorem Blk.ch0 (h : Blk w g t cs) (hb : Ch [] w w') : Blk w' g t cs := h.ch hb (by simp)
end
/-- The slice at address A of n elements of so many cells holds the cells xs, in memory below block B. -/
def Rd (w : World) (size : Nat) (A : Option Addr) (n : Nat) (xs : List Value) : Prop :=
  xs.length = n * size ∧ (0 < n → ∃ ad, A = some ad ∧ ad.block < w.heap.size ∧ ∀ j u, xs[j]? = some u → w.cell? (ad.add j) = some u)
section
variable {w w' : World} {size n : Nat} {A : Option Addr} {xs : List Value} {bs : List Nat}
theorem Rd.none_ : Rd w size A 0 [] := ⟨by simp, fun h => absurd h (by omega)⟩
theorem Rd.len (h : Rd w 1 A n xs) : xs.length = n := by simpa using h.1
theorem Rd.at_ {k : Nat} (h : Rd w 1 A n xs) (hk : k < n) : ∃ ad u, A = some ad ∧ ad.block < w.heap.size ∧ xs[k]? = some u ∧ w.cell? (ad.add k) = some u := by
  obtain ⟨ad, e, hb, hc⟩ := h.2 (by omega)
  have hl : k < xs.length := by have := h.1; omega
  exact ⟨ad, xs[k], e, hb, List.getElem?_eq_getElem hl, hc k _ (List.getElem?_eq_getElem hl)⟩
theorem Rd.keep (h : Rd w size A n xs) (hs : w.heap.size ≤ w'.heap.size) (hk : ∀ ad, A = some ad → 0 < n → ∀ p : Addr, p.block = ad.block → w'.cell? p = w.cell? p) : Rd w' size A n xs :=
  ⟨h.1, fun hn => by
    obtain ⟨ad, e, hb, hc⟩ := h.2 hn
    exact ⟨ad, e, by omega, fun j u hu => (hk ad e hn _ (block_of_add ad j)).trans (hc j u hu)⟩⟩
theorem Rd.ch (h : Rd w size A n xs) (hc : Ch bs w w') (hb : ∀ ad, A = some ad → ad.block ∉ bs) : Rd w' size A n xs :=
  ⟨h.1, fun hn => by
    obtain ⟨ad, e, hlt, hx⟩ := h.2 hn
    exact ⟨ad, e, Nat.lt_of_lt_of_le hlt hc.size, fun j u hu => (hc.cell (by rw [block_of_add]; exact hlt) (by rw [block_of_add]; exact hb ad e)).trans (hx j u hu)⟩⟩
theorem Rd.ch0 (h : Rd w size A n xs) (hc : Ch [] w w') : Rd w' size A n xs := h.ch hc fun _ _ => by simp
theorem Rd.drew (h : Rd w size A n xs) : Rd w.drew size A n xs := h
theorem Rd.alloc (h : Rd w size A n xs) (o : Obj) : Rd (w.alloc o) size A n xs := h.ch0 ((Ch.refl _ _).alloc o)
theorem Rd.of_own {base : Nat} {e : TypeId} {c : Nat} (h : w.ownsRow base e size (.slice A n c) n xs) : Rd w size A n xs := by
  refine ⟨h.1, fun hn => ?_⟩
  rcases h.2 with ⟨h1, h2⟩ | ⟨g, cap, cur, hv, _, hh, _⟩
  · omega
  · have hA : A = some ⟨g, 0, none⟩ := by injection hv
    subst hA
    have hlt := (Array.getElem?_eq_some_iff.1 hh).1
    exact ⟨_, rfl, hlt, h.cells (g := g) rfl⟩
theorem Rd.of_blk {g : Nat} {t : TypeId} {cs : Array Value} (h : Blk w g t cs) (hs : cs.size = n * size) : Rd w size (some ⟨g, 0, none⟩) n cs.toList :=
  ⟨by simpa using hs, fun _ => ⟨_, rfl, h.lt, fun j u hu => by rw [add_lit, h.cell]; simpa using hu⟩⟩
/-- The first k elements. -/
theorem Rd.take_ {k : Nat} (h : Rd w 1 A n xs) (hk : k ≤ n) : Rd w 1 A k (xs.take k) :=
  ⟨by have := h.1; simp; omega, fun hn => by
    obtain ⟨ad, e, hb, hc⟩ := h.2 (by omega)
    exact ⟨ad, e, hb, fun j u hu => hc j u (by rw [List.getElem?_take] at hu; split at hu <;> simp_all)⟩⟩
end
theorem extract_drop (l : List UInt8) (k : Nat) : (⟨l.toArray⟩ : ByteArray).extract k l.length = ⟨(l.drop k).toArray⟩ := by
  apply ByteArray.ext
  simp [ByteArray.data_extract, List.extract_eq_take_drop, List.take_of_length_le]
theorem extract_mid (l : List UInt8) (i j : Nat) : (⟨l.toArray⟩ : ByteArray).extract i j = ⟨((l.take j).drop i).toArray⟩ := by
  apply ByteArray.ext
  simp [ByteArray.data_extract, List.extract_eq_take_drop, List.drop_take]
theorem bget (l : List UInt8) (i : Nat) (h : i < (ByteArray.mk l.toArray).size) : (ByteArray.mk l.toArray)[i]'h = l[i]'h := rfl
theorem bsize (l : List UInt8) : (ByteArray.mk l.toArray).size = l.length := rfl
theorem bappend (x y : List UInt8) : (ByteArray.mk x.toArray) ++ (ByteArray.mk y.toArray) = ⟨(x ++ y).toArray⟩ := by
  apply ByteArray.ext
  simp
theorem wrap64_u8 (c : UInt8) : wrap64 (c.toNat : Int) = c.toNat := by have := c.toNat_lt; exact IntWalk.wrap64_in _ (by omega)
theorem i64_u8 (c : UInt8) : IntKind.i64.wrap (c.toNat : Int) = c.toNat := by have := c.toNat_lt; exact IntWalk.i64_in _ (by omega)
theorem u64_u8 (c : UInt8) : IntKind.u64.wrap (c.toNat : Int) = c.toNat := by have := c.toNat_lt; exact IntWalk.u64_in _ (by omega)
section
variable {P : Program} (w : World)
theorem run_append_of_nil (base : Nat) (t ty e : TypeId) (i : TypeInfo) (size : Nat) (ht : P.underlying t = some (.slice e)) (hi : P.info? e = some i)
    (v : Value) (n : Nat) (xs : List Value) (hown : w.ownsRow base e size v n xs) (c : Nat) : (Builtin.append_ #[t, t] ty #[v, .slice none 0 c]).run P w = .ok v w := by
  rcases hown.2 with ⟨rfl, rfl⟩ | ⟨g, cap, cur, rfl, _, _, hnc, _⟩
  · simp [Builtin.append_, run_underlying ht, sizeOf, typeInfo, hi, Builtin.lenOf, Builtin.firstCells]
  · simp [Builtin.append_, run_underlying ht, sizeOf, typeInfo, hi, Builtin.lenOf, Builtin.firstCells, hnc, storeCells]
theorem run_append_any (base : Nat) (t ty e : TypeId) (i : TypeInfo) (z : Value) (size bytes : Nat) (ht : P.underlying t = some (.slice e)) (hi : P.info? e = some i) (hz : i.zero = some z)
    (hsize : i.size = size) (hby : i.bytes = bytes) (hzs : z.cells.size = size) (hsz : 0 < size)
    (v : Value) (n : Nat) (xs : List Value) (hown : w.ownsRow base e size v n xs)
    (A : Option Addr) (m c : Nat) (news : List Value) (hr : Rd w size A m news) (h1 : ∀ u ∈ news, u.oneCell' = true)
    (h63 : n + m ≤ maxLen) (hbytes : (n + m) * bytes ≤ 140737488355328) (hbase : base ≤ w.heap.size) :
    ∃ v' w', (Builtin.append_ #[t, t] ty #[v, .slice A m c]).run P w = .ok v' w' ∧ w'.ownsRow base e size v' (n + m) (xs ++ news) ∧ w.grownBy w' v.ownBlock ∧
      (v'.ownBlock = v.ownBlock ∨ v'.ownBlock = some w.heap.size) ∧ (v' = .slice none 0 0 ↔ v = .slice none 0 0 ∧ m = 0) := by
  rcases A with _ | ad
  · have hm : m = 0 := by
      rcases Nat.eq_zero_or_pos m with h0 | h0
      · exact h0
      · obtain ⟨ad, h, _⟩ := hr.2 h0
        cases h
    subst hm
    have hn : news = [] := List.eq_nil_of_length_eq_zero (by simpa using hr.1)
    subst hn
    exact ⟨v, w, run_append_of_nil w base t ty e i size ht hi v n xs hown c, by simpa using hown, World.grownBy.refl w _, .inl rfl, by simp⟩
  · have hcells : ∀ j u, news[j]? = some u → w.cell? (ad.add j) = some u := by
      intro j u hu
      rcases Nat.eq_zero_or_pos m with h0 | h0
      · subst h0
        have hn : news = [] := List.eq_nil_of_length_eq_zero (by simpa using hr.1)
        subst hn
        simp at hu
      · obtain ⟨ad', h, _, hc⟩ := hr.2 h0
        injection h with h
        subst h
        exact hc j u hu
    obtain ⟨v', w', hrun, h2, h3, h4, h5⟩ := run_append_own_at (P := P) w base t ty e i z size bytes ht hi hz hsize hby hzs hsz v n xs hown ad m c news hr.1 hcells h1 h63 hbytes hbase
    exact ⟨v', w', hrun, h2, h3, h5, h4⟩
end
end Go.Proofs.Ytbejifbiffeamaa
set_option linter.unusedSimpArgs false
set_option linter.unusedVariables false
namespace Go.Proofs.Ytbejifbiffeamaa
open Go.RowKit
def bv (c : UInt8) : Value := .int .u8 c.toNat
def bvs (l : List UInt8) : List Value := l.map bv
theorem bvs_len (l : List UInt8) : (bvs l).length = l.length := by simp [bvs]
theorem bvs_app (l m : List UInt8) : bvs (l ++ m) = bvs l ++ bvs m := by simp [bvs]
theorem bvs_get (l : List UInt8) (j : Nat) (h : j < l.length) : (bvs l)[j]? = some (.int .u8 (l[j].toNat : Int)) := by simp [bvs, bv, h]
theorem bvs_oneCell (l : List UInt8) : ∀ u ∈ bvs l, u.oneCell' = true := by
  intro u hu
  obtain ⟨c, _, rfl⟩ := List.mem_map.1 hu
  rfl
section
variable {P : Program} {w : World} {ops : Array Oper} {rest : List Oper} {o : Oper} {a : Act} {Q : Exit → Act → World → Prop}
theorem own_form {base : Nat} {e : TypeId} {size : Nat} {v : Value} {n : Nat} {xs : List Value} (h : w.ownsRow base e size v n xs) : ∃ A c, v = .slice A n c := by
  rcases h.2 with ⟨rfl, rfl⟩ | ⟨g, cap, cur, rfl, _⟩
  · exact ⟨_, _, rfl⟩
  · exact ⟨_, _, rfl⟩
/-- The block of a slice's address. -/
def obl : Option Addr → List Nat
  | some a => [a.block]
  | none => []
theorem obl_own (A : Option Addr) (n c : Nat) : (Value.slice A n c).ownBlock.toList = obl A := by cases A <;> rfl
end
def sv (l : List UInt8) : Value := .string ⟨l.toArray⟩
def svs (ss : List (List UInt8)) : List Value := ss.map sv
theorem take_snoc_at {α : Type} (l : List α) (k : Nat) (d : α) (h : l[k]? = some d) : l.take (k + 1) = l.take k ++ [d] := by
  obtain ⟨hk, rfl⟩ := List.getElem?_eq_some_iff.1 h
  rw [List.take_succ_eq_append_getElem hk]
/-- Element k of a slice that reads as a list of data: it, its cell, and the beginnings. -/
theorem Rd.elem {α : Type} {w : World} {A : Option Addr} {n k : Nat} {l : List α} {f : α → Value} (h : Rd w 1 A n (l.map f)) (hk : k < n) :
    ∃ ad d, A = some ad ∧ w.cell? (ad.add k) = some (f d) ∧ l[k]? = some d ∧ l.take (k + 1) = l.take k ++ [d] := by
  obtain ⟨ad, u, hA, _, h1, h2⟩ := h.at_ hk
  rw [List.getElem?_map] at h1
  obtain ⟨d, hd, rfl⟩ := Option.map_eq_some_iff.1 h1
  exact ⟨ad, d, hA, h2, hd, take_snoc_at l k d hd⟩
theorem Rd.byte {w : World} {g o n k : Nat} {l : List UInt8} (h : Rd w 1 (some ⟨g, o, none⟩) n (bvs l)) (hk : k < n) :
    ∃ d : UInt8, w.cell? ⟨g, o + k, none⟩ = some (.int .u8 (d.toNat : Int)) ∧ l[k]? = some d ∧ l.take (k + 1) = l.take k ++ [d] := by
  obtain ⟨ad, d, hA, h1, h2, h3⟩ := Rd.elem (f := bv) h hk
  obtain rfl : (⟨g, o, none⟩ : Addr) = ad := by injection hA
  rw [add_lit] at h1
  exact ⟨d, h1, h2, h3⟩
theorem ret_str {a b : List UInt8} (h : a = b) : Ending.returned (.string ⟨a.toArray⟩) = .returned (.string ⟨b.toArray⟩) := by rw [h]
theorem own_lit {w : World} {e : TypeId} {cs : Array Value} {n size : Nat} {base g : Nat} (h : Blk w g e cs) (hb : base ≤ g) (hm : n ≤ maxLen) (hs : cs.size = n * size) :
    w.ownsRow base e size (.slice (some ⟨g, 0, none⟩) n n) n cs.toList :=
  ⟨by simpa using hs, .inr ⟨g, n, cs, rfl, hb, h, Nat.le_refl _, hm, hs, List.take_of_length_le (by simp [hs])⟩⟩
end Go.Proofs.Ytbejifbiffeamaa
set_option linter.unusedSimpArgs false
set_option linter.unusedVariables false
namespace Go.Proofs.Ytbejifbiffeamaa
open Go.RowKit Go.WideShapes Go.ChangeShapes Go.ChangeAt
section
variable {H : Type} {enc : TypeId × Value → H} {P : Program}
theorem post_of_below {f : Func} {s : ChangeSpec} {apart fresh handsOn again : Bool} {W W' : World} {args : Array Value} {v : Value} {ds gs : List (DataW H)} {before pa pv : List MemPlace}
    (hW : DataW.Whole enc P f.params.toList s.vars apart W args.toList ds gs before)
    (hres : ∀ (b : Nat) (sp : Nat → Bool) (hd : Bool), DataW.TrodAll enc P W' b sp hd f.resultTypes.toList (v.resultList f.resultTypes.size) (s.fn H (ds ++ gs)).results [])
    (hargs : ∀ sp : Nat → Bool, (∀ p ∈ before, sp p.block = true) → DataW.TrodAll enc P W' 0 sp true f.params.toList args.toList (s.fn H (ds ++ gs)).args pa)
    (hvars : ∀ sp : Nat → Bool, (∀ p ∈ before, sp p.block = true) → DataW.TrodVars enc P W' sp s.vars (s.fn H (ds ++ gs)).vars pv)
    (hps : before = pa ++ pv) (hb : Below W.heap.size W W')
    (hok : ∀ (j : Nat) (t : TypeId) (r : Value), f.resultTypes[j]? = some t → (v.resultList f.resultTypes.size)[j]? = some r → Value.okWide P W' .any 0 t r) :
    s.post enc P f apart fresh handsOn again W args v W' := by
  have hlt : ∀ p ∈ before, p.block < W.heap.size := fun p hp => hW.lt p hp
  have hold : ∀ p ∈ before, (fun b => decide (b < W.heap.size)) p.block = true := fun p hp => by simpa using hlt p hp
  refine ⟨ds, gs, before, [], pa, pv, hW, hres _ _ _, hargs _ hold, hvars _ hold, World.keptBut_mono (fun p hp => ⟨hp, ?_⟩) (hb.frame (· ∈ before)), fun _ => ?_⟩
  · rw [hps, List.mem_append] at hp
    exact Or.inr hp
  · obtain ⟨_, _, _, _, _, hz, hn⟩ := hW
    refine ⟨hok, _, _, ([] ++ pa) ++ pv, ⟨[] ++ pa, pv, trodAll_append (hargs _ (fun _ _ => rfl)) (hres _ _ _), hvars _ (fun _ _ => rfl), rfl, ?_, ?_⟩, ?_⟩
    · intro b off hp
      have hin : MemPlace.cell b off ∈ before := by rw [hps]; simpa using hp
      rw [hb.frozen (hlt _ hin)]
      exact hz b off hin
    · intro ha
      have := hn ha
      rw [hps] at this
      simpa using this
    · intro p hp _
      rw [hps]
      simpa using hp
/-- All arguments read as they did where nothing that was there has turned. -/
theorem args_stay (hl : laidOutB P = true) {W W' : World} (hb : Below W.heap.size W W') (sp : Nat → Bool) :
    ∀ (ts : List TypeId) (vs : List Value) (ds : List (DataW H)) (ps : List MemPlace), (ts.all fun t => P.readableRec t && decide (t < P.types.size)) = true →
      DataW.TrodAll enc P W 0 (fun _ => true) true ts vs ds ps → (∀ x ∈ ps, x.block < W.heap.size) → (∀ x ∈ ps, sp x.block = true) → DataW.TrodAll enc P W' 0 sp true ts vs ds ps := by
  intro ts
  induction ts with
  | nil =>
    intro vs ds ps _ h _ _
    obtain ⟨rfl, rfl, rfl⟩ := trodAll_nil h
    exact trodAll_mk0
  | cons t ts ih =>
    intro vs ds ps hr h hlt hs
    obtain ⟨v, vs', d, ds', p, q, rfl, rfl, rfl, h0, h1⟩ := trodAll_cons h
    simp only [List.all_cons, Bool.and_eq_true, decide_eq_true_eq] at hr
    exact trodAll_cons_mk (WideElems.Trod_stays hl hr.1.1 hr.1.2 h0 (fun x hx => hb.same (hlt x (List.mem_append.2 (.inl hx)))) (fun x hx => hs x (List.mem_append.2 (.inl hx))))
      (ih vs' ds' q (by simpa using hr.2) h1 (fun x hx => hlt x (List.mem_append.2 (.inr hx))) (fun x hx => hs x (List.mem_append.2 (.inr hx))))
variable {w : World} {base : Nat} {spare : Nat → Bool} {held : Bool}
theorem open_i64 {r : Reach} {b0 : Nat} {t : TypeId} {v : Value} {d : DataW H} {p : List MemPlace} (ht : P.underlying t = some (.int .i64)) (hv : Value.okWide P w r b0 t v) (h : DataW.Trod enc P w base spare held t v d p) :
    ∃ x : Int, v = .int .i64 x ∧ -9223372036854775808 ≤ x ∧ x ≤ 9223372036854775807 := by
  obtain ⟨x, rfl, _, _, hw⟩ := open_int ht hv h
  simp [Lit.wf, IntKind.min, IntKind.max, IntKind.signed, IntKind.bits] at hw
  exact ⟨x, rfl, by omega, by omega⟩
end
end Go.Proofs.Ytbejifbiffeamaa
set_option linter.unusedSimpArgs false
set_option linter.unusedVariables false
namespace Go.Proofs.Ytbejifbiffeamaa
open Go.RowKit
section
variable {P : Program} {w : World} {ops : Array Oper} {rest : List Oper} {o : Oper} {a : Act} {Q : Exit → Act → World → Prop}
theorem run_loadVar_at (w : World) (ad : Addr) (ty : TypeId) (cs : List Value) (d : TypeDesc) (hc : ∀ j v, cs[j]? = some v → w.cell? (ad.add j) = some v)
    (hu : P.underlying ty = some d) (hd : (match d with | .struct _ | .array _ _ => true | _ => false) = true) (hi : (P.info? ty).map (·.size) = some cs.length) :
    (loadVar ty ad).run P w = .ok (.agg cs.toArray) w := by
  have hl := run_loadCells_list (P := P) w ad cs hc
  cases hq : P.info? ty with
  | none => simp [hq] at hi
  | some i =>
    have hs : i.size = cs.length := by simpa [hq] using hi
    have hagg : (isAgg ty).run P w = .ok true w := by
      unfold isAgg
      rw [Sem.run_bind, run_underlying hu w]
      cases d <;> simp_all
    simp [loadVar, Sem.run_bind, hagg, sizeOf, typeInfo, hq, hs, hl]
theorem setRow_ch (w : World) (g : Nat) (cs : Array Value) : Ch [g] w (w.setRow g cs) :=
  ⟨rfl, rfl, rfl, by simp [World.setRow], fun k hk hne => setRow_other w g k cs (by simpa using hne)⟩
theorem setRow_blk {w : World} {g : Nat} {t : TypeId} {old : Array Value} (h : Blk w g t old) (cs : Array Value) : Blk (w.setRow g cs) g t cs := setRow_heap w g _ _ t _ h
/-- The list with another beginning. -/
def over (old new : List UInt8) : List UInt8 := new.take old.length ++ old.drop new.length
theorem over_len (old new : List UInt8) : (over old new).length = old.length := by simp [over]; omega
/-- copy(row, s): a whole row of bytes gets a string's first bytes. -/
theorem run_copy_str (w : World) (dT sT ty elem : TypeId) (g n c : Nat) (t : TypeId) (old l : List UInt8) (hu : P.underlying dT = some (.slice elem)) (hs : (P.info? elem).map (·.size) = some 1)
    (hg : Blk w g t (bvs old).toArray) (hn : n = old.length) :
    (Builtin.copy_ #[dT, sT] ty #[.slice (some ⟨g, 0, none⟩) n c, .string ⟨l.toArray⟩]).run P w = .ok (goInt (Nat.min l.length n)) (w.setRow g (bvs (over old l)).toArray) := by
  subst hn
  have hst := run_storeCells_at P g 0 t (bvs (l.take old.length)) 0 (bvs old).toArray w hg (by simp [bvs_len]; omega) (bvs_oneCell _)
  cases hq : P.info? elem with
  | none => simp [hq] at hs
  | some i =>
    have hi : i.size = 1 := by simpa [hq] using hs
    have e1 : List.take (Nat.min l.length old.length) (l.map (fun b => Value.int .u8 b.toNat)) = bvs (l.take old.length) := by
      have hm : Nat.min l.length old.length = min l.length old.length := rfl
      have : l.take (min l.length old.length) = l.take old.length := by
        rw [List.take_eq_take_iff]
        omega
      rw [hm, ← List.map_take, this]
      rfl
    have e2 : (bvs old).take 0 ++ bvs (l.take old.length) ++ (bvs old).drop (0 + (bvs (l.take old.length)).length) = bvs (over old l) := by
      simp only [over, bvs_app, List.take_zero, List.nil_append, Nat.zero_add, bvs_len]
      congr 1
      simp only [bvs, ← List.map_drop, List.length_take]
      by_cases hl : old.length ≤ l.length
      · rw [List.drop_of_length_le (by omega), List.drop_of_length_le (by omega)]
      · rw [Nat.min_eq_right (by omega)]
    simp only [Nat.zero_add, Nat.add_zero] at hst e2
    simp only [List.toList_toArray, e2] at hst
    simp [Builtin.copy_, run_underlying hu, Builtin.lenOf, Builtin.firstCells, sizeOf, typeInfo, hq, hi]
    rw [show (⟨l.toArray⟩ : ByteArray).size = l.length from rfl, e1]
    simp only [hst, Result.andThen_ok]
end
end Go.Proofs.Ytbejifbiffeamaa
set_option linter.unusedSimpArgs false
set_option linter.unusedVariables false
namespace Go.Proofs.Ytbejifbiffeamaa
open Go.RowKit
/-- w' has what w has in the blocks of fp. -/
structure Off (fp : Nat → Prop) (w w' : World) : Prop where
  os : w'.os = w.os
  tape : w'.tape = w.tape
  output : w'.output = w.output
  size : w.heap.size ≤ w'.heap.size
  block : ∀ k, fp k → w'.heap[k]? = w.heap[k]?
/-- A part of memory: its blocks, may it be written, what holds of it. -/
structure SProp where
  fp : Nat → Prop
  ro : Bool
  holds : World → Prop
  lt : ∀ w, holds w → ∀ k, fp k → k < w.heap.size
  stable : ∀ w w', Off fp w w' → holds w → holds w'
def compat (x y : SProp) : Prop := (x.ro = true ∧ y.ro = true) ∨ ∀ k, x.fp k → ¬ y.fp k
theorem compat.symm {x y : SProp} (h : compat x y) : compat y x := h.elim (fun h => .inl ⟨h.2, h.1⟩) fun h => .inr fun k h1 h2 => h k h2 h1
structure Star (L : List SProp) (w : World) : Prop where
  all : ∀ x ∈ L, x.holds w
  pair : L.Pairwise compat
inductive Take (x : SProp) : List SProp → List SProp → Prop
  | head {L : List SProp} : Take x (x :: L) L
  | tail {y : SProp} {L R : List SProp} : Take x L R → Take x (y :: L) (y :: R)
theorem Take.perm {x : SProp} {L R : List SProp} (h : Take x L R) : L.Perm (x :: R) := by
  induction h with
  | head => exact List.Perm.refl _
  | tail _ ih => exact (List.Perm.cons _ ih).trans (List.Perm.swap _ _ _)
namespace Star
variable {L R : List SProp} {x y : SProp} {w w' : World} {bs : List Nat}
theorem perm (h : Star L w) (hp : L.Perm R) : Star R w := ⟨fun x hx => h.all x (hp.mem_iff.2 hx), (hp.pairwise_iff (fun h => compat.symm h)).1 h.pair⟩
theorem take (h : Star L w) (ht : Take x L R) : Star (x :: R) w := h.perm ht.perm
theorem mem_lt (h : Star L w) (hx : x ∈ L) (k : Nat) (hk : x.fp k) : k < w.heap.size := x.lt w (h.all x hx) k hk
theorem head (h : Star (x :: L) w) : x.holds w := h.all x List.mem_cons_self
theorem tail (h : Star (x :: L) w) : Star L w := ⟨fun y hy => h.all y (List.mem_cons_of_mem _ hy), (List.pairwise_cons.1 h.pair).2⟩
theorem drop_ (h : Star L w) (ht : Take x L R) : Star R w := (h.take ht).tail
theorem step (h : Star L w) (hc : Ch [] w w') : Star L w' :=
  ⟨fun y hy => y.stable w w' ⟨hc.os, hc.tape, hc.output, hc.size, fun k hk => hc.block k (h.mem_lt hy k hk) (by simp)⟩ (h.all y hy), h.pair⟩
theorem drew (h : Star L w) : Star L w.drew := h.step ((Ch.refl _ _).drew)
/-- One part is written, or made anew. -/
theorem put (h : Star (x :: L) w) (hm : x.ro = false) (hc : Ch bs w w') (hb : ∀ b ∈ bs, x.fp b ∨ w.heap.size ≤ b) (hy : y.holds w') (hf : ∀ k, y.fp k → x.fp k ∨ w.heap.size ≤ k) : Star (y :: L) w' := by
  have hx := List.pairwise_cons.1 h.pair
  have hd : ∀ z ∈ L, ∀ k, x.fp k → ¬ z.fp k := fun z hz => by
    rcases hx.1 z hz with h1 | h1
    · rw [hm] at h1; cases h1.1
    · exact h1
  have hl : ∀ z ∈ L, ∀ k, z.fp k → k < w.heap.size := fun z hz k hk => h.mem_lt (List.mem_cons_of_mem _ hz) k hk
  refine ⟨fun z hz => ?_, List.pairwise_cons.2 ⟨fun z hz => .inr fun k hk hk2 => ?_, hx.2⟩⟩
  · rcases List.mem_cons.1 hz with rfl | hz
    · exact hy
    · refine z.stable w w' ⟨hc.os, hc.tape, hc.output, hc.size, fun k hk => hc.block k (hl z hz k hk) fun hb2 => ?_⟩ (h.tail.all z hz)
      rcases hb k hb2 with h1 | h1
      · exact hd z hz k h1 hk
      · have := hl z hz k hk; omega
  · have h2 := hl z hz k hk2
    rcases hf k hk with h1 | h1
    · exact hd z hz k h1 hk2
    · omega
theorem new_ (h : Star L w) (hc : Ch [] w w') (hy : y.holds w') (hf : ∀ k, y.fp k → w.heap.size ≤ k) : Star (y :: L) w' := by
  have h2 := h.step hc
  refine ⟨fun z hz => ?_, List.pairwise_cons.2 ⟨fun z hz => .inr fun k hk hk2 => ?_, h2.pair⟩⟩
  · rcases List.mem_cons.1 hz with rfl | hz
    · exact hy
    · exact h2.all z hz
  · have := h.mem_lt hz k hk2
    have := hf k hk
    omega
theorem pair_mem {L : List SProp} {x y : SProp} (h : L.Pairwise compat) (hx : x ∈ L) (hy : y ∈ L) (hne : x ≠ y) : compat x y := by
  induction L with
  | nil => cases hx
  | cons z L ih =>
    obtain ⟨h1, h2⟩ := List.pairwise_cons.1 h
    rcases List.mem_cons.1 hx with e | kx
    · rcases List.mem_cons.1 hy with e2 | ky
      · exact absurd (e.trans e2.symm) hne
      · rw [e]; exact h1 _ ky
    · rcases List.mem_cons.1 hy with e2 | ky
      · rw [e2]; exact (h1 _ kx).symm
      · exact ih h2 kx ky
/-- A part that is only read may be read in another way too. -/
theorem view (h : Star L w) (hx : x ∈ L) (hr : x.ro = true) (hry : y.ro = true) (hf : ∀ k, y.fp k → x.fp k) (hy : y.holds w) : Star (y :: L) w := by
  refine ⟨fun z hz => ?_, List.pairwise_cons.2 ⟨fun z hz => ?_, h.pair⟩⟩
  · rcases List.mem_cons.1 hz with rfl | hz
    · exact hy
    · exact h.all z hz
  · rcases hz2 : z.ro with _ | _
    · refine .inr fun k hk hk2 => ?_
      have hne : x ≠ z := fun e => by rw [e, hz2] at hr; cases hr
      have hc := pair_mem h.pair hx hz hne
      rcases hc with h1 | h1
      · rw [hz2] at h1; cases h1.2
      · exact h1 k (hf k hk) hk2
    · exact .inl ⟨hry, hz2⟩
/-- A part without blocks. -/
theorem free (h : Star L w) (hf : ∀ k, ¬ y.fp k) (hy : y.holds w) : Star (y :: L) w := h.new_ (Ch.refl _ _) hy fun k hk => absurd hk (hf k)
/-- A part is seen otherwise. -/
theorem as_ (h : Star (x :: L) w) (hm : x.ro = false) (hf : ∀ k, y.fp k → x.fp k) (hy : x.holds w → y.holds w) : Star (y :: L) w :=
  h.put hm (Ch.refl [] _) (by simp) (hy h.head) fun k hk => .inl (hf k hk)
end Star
/-- A block that is known whole. -/
def cellsE (g : Nat) (t : TypeId) (cs : Array Value) : SProp where
  fp k := k = g
  ro := false
  holds w := Blk w g t cs
  lt w h k hk := by subst hk; exact h.lt
  stable w w' ho h := (ho.block g rfl).trans h
/-- A slice that is only read. -/
def rowE (size : Nat) (A : Option Addr) (n : Nat) (xs : List Value) : SProp where
  fp k := ∃ ad, A = some ad ∧ 0 < n ∧ k = ad.block
  ro := true
  holds w := Rd w size A n xs
  lt w h k hk := by
    obtain ⟨ad, rfl, hn, rfl⟩ := hk
    obtain ⟨ad', e, h1, _⟩ := h.2 hn
    injection e with e
    subst e
    exact h1
  stable w w' ho h := h.keep ho.size fun ad e hn p hp => World.cell?_of_block (ho.block _ ⟨ad, e, hn, hp⟩)
/-- A slice of the call's own, to which is appended. -/
def ownE (e : TypeId) (size : Nat) (A : Option Addr) (n c : Nat) (xs : List Value) : SProp where
  fp k := ∃ ad, A = some ad ∧ k = ad.block
  ro := false
  holds w := w.ownsRow 0 e size (.slice A n c) n xs
  lt w h k hk := by
    obtain ⟨ad, rfl, rfl⟩ := hk
    exact (h.lt ad.block rfl).2
  stable w w' ho h := by
    refine ⟨h.1, ?_⟩
    rcases h.2 with h1 | ⟨g, cap, cur, hv, h2, h3, h4⟩
    · exact .inl h1
    · injection hv with hA hn hc
      refine .inr ⟨g, cap, cur, by rw [hA, hc], h2, (ho.block g ⟨_, hA, rfl⟩).trans h3, h4⟩
/-- All that was there when the call began. -/
def oldE (w0 : World) : SProp where
  fp k := k < w0.heap.size
  ro := true
  holds w := Ch [] w0 w
  lt w h k hk := Nat.lt_of_lt_of_le hk h.size
  stable w w' ho h := ⟨ho.os.trans h.os, ho.tape.trans h.tape, ho.output.trans h.output, Nat.le_trans h.size ho.size, fun k hk hb => (ho.block k hk).trans (h.block k hk hb)⟩
/-- R: some of L's parts, in any order. -/
inductive Sel : List SProp → List SProp → Prop
  | refl {L : List SProp} : Sel L L
  | cons {x : SProp} {L M R : List SProp} : Take x L M → Sel M R → Sel L (x :: R)
  | drop {y : SProp} {L R : List SProp} : Sel L R → Sel (y :: L) R
theorem Star.cons_sub {x : SProp} {L R : List SProp} {w : World} (h : Star (x :: L) w) (hR : Star R w) (hs : ∀ y ∈ R, y ∈ L) : Star (x :: R) w :=
  ⟨fun z hz => by
    rcases List.mem_cons.1 hz with rfl | hz
    · exact h.head
    · exact hR.all z hz, List.pairwise_cons.2 ⟨fun z hz => (List.pairwise_cons.1 h.pair).1 z (hs z hz), hR.pair⟩⟩
theorem Sel.mem {L R : List SProp} (h : Sel L R) : ∀ y ∈ R, y ∈ L := by
  induction h with
  | refl => exact fun y h => h
  | cons ht _ ih =>
    intro y hy
    rcases List.mem_cons.1 hy with e | hy
    · rw [e]; exact ht.perm.mem_iff.2 List.mem_cons_self
    · exact ht.perm.mem_iff.2 (List.mem_cons_of_mem _ (ih y hy))
  | drop _ ih => exact fun y hy => List.mem_cons_of_mem _ (ih y hy)
theorem Star.sel {L R : List SProp} {w : World} (h : Star L w) (hs : Sel L R) : Star R w := by
  induction hs with
  | refl => exact h
  | cons ht hs ih => exact (h.take ht).cons_sub (ih (h.take ht).tail) hs.mem
  | drop _ ih => exact ih h.tail
namespace Star
variable {L R : List SProp} {x y : SProp} {w w' : World} {bs : List Nat} {g : Nat} {t : TypeId} {cs : Array Value} {size n c : Nat} {A : Option Addr} {xs : List Value}
theorem start (w : World) : Star [oldE w] w := ⟨fun x hx => by rcases List.mem_singleton.1 hx with rfl; exact Ch.refl _ _, by simp⟩
theorem old {w0 : World} (h : Star L w) (hx : oldE w0 ∈ L) : Ch [] w0 w := h.all _ hx
theorem blk (h : Star L w) (hx : cellsE g t cs ∈ L) : Blk w g t cs := h.all _ hx
theorem row (h : Star L w) (hx : rowE size A n xs ∈ L) : Rd w size A n xs := h.all _ hx
theorem own {e : TypeId} (h : Star L w) (hx : ownE e size A n c xs ∈ L) : Rd w size A n xs := Rd.of_own (h.all (ownE e size A n c xs) hx)
theorem of_old {w0 : World} (h : Star L w) (hx : oldE w0 ∈ L) (hr : Rd w0 size A n xs) : Star (rowE size A n xs :: L) w :=
  h.view hx rfl rfl (fun k ⟨ad, e, hn, hk⟩ => by
    subst hk
    obtain ⟨ad', e', h1, _⟩ := hr.2 hn
    rw [e] at e'
    injection e' with e'
    rw [e']
    exact h1) (hr.ch0 (h.old hx))
theorem nilown (e : TypeId) (size : Nat) (h : Star L w) : Star (ownE e size none 0 0 [] :: L) w := h.free (fun k ⟨_, e, _⟩ => by cases e) ⟨by simp, .inl ⟨rfl, rfl⟩⟩
/-- What is appended to no more. -/
theorem freeze {e : TypeId} (h : Star (ownE e size A n c xs :: L) w) : Star (rowE size A n xs :: L) w :=
  h.as_ rfl (fun k ⟨ad, e, _, hk⟩ => ⟨ad, e, hk⟩) fun h => Rd.of_own h
theorem row_take {k : Nat} (h : Star L w) (hx : rowE 1 A n xs ∈ L) (hk : k ≤ n) : Star (rowE 1 A k (xs.take k) :: L) w :=
  h.view hx rfl rfl (fun _ ⟨ad, e, h1, h2⟩ => ⟨ad, e, by omega, h2⟩) ((h.row hx).take_ hk)
theorem row_of_blk (h : Star (cellsE g t cs :: L) w) (hs : cs.size = n * size) : Star (rowE size (some ⟨g, 0, none⟩) n cs.toList :: L) w :=
  h.as_ rfl (fun k ⟨ad, e, _, hk⟩ => by injection e with e; subst e; exact hk) fun h => Rd.of_blk h hs
theorem mk_own {e : TypeId} (hc : Ch [] w w') (h : Star L w) (ho : w'.ownsRow w.heap.size e size (.slice A n c) n xs) : Star (ownE e size A n c xs :: L) w' :=
  h.new_ hc (by
    refine ⟨ho.1, ?_⟩
    rcases ho.2 with h1 | ⟨g, cap, cur, hv, h2, h3⟩
    · exact .inl h1
    · exact .inr ⟨g, cap, cur, hv, Nat.zero_le _, h3⟩) fun k ⟨ad, e, hk⟩ => by subst e; subst hk; exact (ho.lt ad.block rfl).1
end Star
theorem starq {P : Program} {f : FuncId} {args : Array Value} {w : World} {v : Value} {L : List SProp} (h : Calls P f args w fun r w' => r = .returned v ∧ w = w') (hM : Star L w) :
    Calls P f args w fun r w' => r = .returned v ∧ Star L w' := h.mono fun _ _ ⟨h1, h2⟩ => ⟨h1, h2 ▸ hM⟩
/-- A type whose values are one cell. -/
def plainTy (P : Program) (t : TypeId) : Bool := match P.underlying t with | some (.struct _) | some (.array _ _) | none => false | _ => true
/-- A type of rows of so many cells. -/
def rowTy (P : Program) (t : TypeId) (n : Nat) : Bool := (match P.underlying t with | some (.struct _) | some (.array _ _) => true | _ => false) && (match P.info? t with | some i => i.size == n | none => false)
section
variable {P : Program} {w : World} {ops : Array Oper} {rest : List Oper} {o : Oper} {a : Act} {Q : Exit → Act → World → Prop} {L R : List SProp}
theorem rowTy_und {t : TypeId} {n : Nat} (h : rowTy P t n = true) : (∃ d, P.underlying t = some d ∧ (match d with | .struct _ | .array _ _ => true | _ => false) = true) ∧ (P.info? t).map (·.size) = some n := by
  unfold rowTy at h
  rw [Bool.and_eq_true] at h
  refine ⟨?_, ?_⟩
  · cases hq : P.underlying t with
    | none => rw [hq] at h; simp at h
    | some d => refine ⟨d, rfl, ?_⟩; rw [hq] at h; cases d <;> simp_all
  · cases hq : P.info? t with
    | none => rw [hq] at h; simp at h
    | some i => rw [hq] at h; simpa using h.2
variable {K : Act → World → Prop}
theorem ws_alloc (hM : Star L w) {t : TypeId} (ho : o.op = .alloc t) (zs : Array Value) (hz : (P.info? t).map (fun i => i.zero) = some (some (.agg zs)))
    (h : ∀ g w1, Star (cellsE g t zs :: L) w1 → K (a.put o.dst (.pointer (some ⟨g, 0, none⟩))) w1) : Oper.wp P o a w K Q := by
  cases hq : P.info? t with
  | none => simp [hq] at hz
  | some i =>
    have hz' : i.zero = some (.agg zs) := by simpa [hq] using hz
    unfold Oper.wp
    simp [execOp, ho, Instr.alloc, zeroValue, typeInfo, hq, hz', newVar, newRow, Value.cells]
    exact h _ _ (hM.new_ ((Ch.refl _ _).alloc _) (Blk.new w t zs) fun k hk => by rw [hk]; exact Nat.le_refl _)
theorem ws_box (hM : Star L w) {t : TypeId} {x : Operand} (ho : o.op = .box t x) {v : Value} (hx : a.eval x = v) {cs : Array Value} (hc : v.cells = cs)
    (h : ∀ g w1, Star (cellsE g t cs :: L) w1 → K (a.put o.dst (.pointer (some ⟨g, 0, none⟩))) w1) : Oper.wp P o a w K Q := by
  subst hc
  unfold Oper.wp
  simp [execOp, ho, hx, Instr.box, newVar, newRow]
  exact h _ _ (hM.new_ ((Ch.refl _ _).alloc _) (Blk.new w t v.cells) fun k hk => by rw [hk]; exact Nat.le_refl _)
theorem run_load1 (w : World) (ty : TypeId) (ad : Addr) (v : Value) (hp : plainTy P ty = true) (hc : w.cell? ad = some v) : (loadVar ty ad).run P w = .ok v w := by
  unfold plainTy at hp
  cases hq : P.underlying ty with
  | none => rw [hq] at hp; simp at hp
  | some d =>
    have hagg : (isAgg ty).run P w = .ok false w := by
      unfold isAgg
      rw [Sem.run_bind, run_underlying hq w]
      cases d <;> simp_all
    simp [loadVar, Sem.run_bind, hagg, hc, go_sem]
theorem ws_load1 (hM : Star L w) {ty : TypeId} {x : Operand} (ho : o.op = .load ty x) {g i : Nat} (hx : a.eval x = .pointer (some ⟨g, i, none⟩)) {t : TypeId} {cs : Array Value} (hb : cellsE g t cs ∈ L) {v : Value} (hv : cs[i]? = some v)
    (hp : plainTy P ty = true) (h : K (a.put o.dst v) w) : Oper.wp P o a w K Q := by
  have hr := run_load1 (P := P) w ty ⟨g, i, none⟩ v hp (((hM.blk hb).cell i).trans hv)
  unfold Oper.wp execOp
  simp only [ho, hx, Instr.loadAt, Instr.sureAddr, Sem.run_bind, Sem.run_pure, Result.andThen_ok, hr]
  exact h
theorem ws_load_at {ty : TypeId} {x : Operand} (ho : o.op = .load ty x) {ad : Addr} (hx : a.eval x = .pointer (some ad)) (cs : List Value) (hc : ∀ j v, cs[j]? = some v → w.cell? (ad.add j) = some v) {n : Nat} (hn : cs.length = n) (hp : rowTy P ty n = true)
    (h : K (a.put o.dst (.agg cs.toArray)) w) : Oper.wp P o a w K Q := by
  obtain ⟨⟨d, h1, h2⟩, h3⟩ := rowTy_und hp
  unfold Oper.wp execOp
  simp only [ho, hx, Instr.loadAt, Instr.sureAddr, Sem.run_bind, Sem.run_pure, Result.andThen_ok, run_loadVar_at w ad ty cs d hc h1 (by cases d <;> simp_all) (by rw [h3, hn])]
  exact h
/-- A block is read whole. -/
theorem ws_load (hM : Star L w) {ty : TypeId} {x : Operand} (ho : o.op = .load ty x) {g : Nat} (hx : a.eval x = .pointer (some ⟨g, 0, none⟩)) {t : TypeId} {cs : Array Value} (hb : cellsE g t cs ∈ L)
    {n : Nat} (hn : cs.size = n) (hp : rowTy P ty n = true) (h : K (a.put o.dst (.agg cs)) w) : Oper.wp P o a w K Q :=
  ws_load_at ho hx cs.toList (fun j v hj => by rw [add_lit, Nat.zero_add, (hM.blk hb).cell]; simpa using hj) (by simpa using hn) hp (by simpa using h)
/-- Cells in the midst of a block. -/
theorem ws_load_mid (hM : Star L w) {ty : TypeId} {x : Operand} (ho : o.op = .load ty x) {g i : Nat} (hx : a.eval x = .pointer (some ⟨g, i, none⟩)) {t : TypeId} {cs : Array Value} (hb : cellsE g t cs ∈ L)
    (vs : List Value) (hv : ∀ j v, vs[j]? = some v → cs[i + j]? = some v) {n : Nat} (hn : vs.length = n) (hp : rowTy P ty n = true) (h : K (a.put o.dst (.agg vs.toArray)) w) : Oper.wp P o a w K Q :=
  ws_load_at ho hx vs (fun j v hj => by rw [add_lit, (hM.blk hb).cell]; exact hv j v hj) hn hp h
/-- Cells are written, from i on. -/
theorem ws_store_at (hM : Star L w) {ty : TypeId} {x y : Operand} (ho : o.op = .store ty x y) {g i : Nat} (hx : a.eval x = .pointer (some ⟨g, i, none⟩)) {v : Value} (hy : a.eval y = v) {t : TypeId} {old : Array Value} (hb : Take (cellsE g t old) L R)
    (n : Nat) (hn : v.cells.size = n) (hi : i + n ≤ old.size) (hs : (P.info? ty).map (·.size) = some n) (h1 : ∀ u ∈ v.cells.toList, u.oneCell' = true)
    {cs : Array Value} (hcs : (old.toList.take i ++ v.cells.toList ++ old.toList.drop (i + n)).toArray = cs)
    (h : ∀ w1, Star (cellsE g t cs :: R) w1 → K (a.put o.dst undef) w1) : Oper.wp P o a w K Q := by
  subst hcs hn
  have hB : Blk w g t old := (hM.take hb).head
  have hst := run_storeCells_at P g i t v.cells.toList 0 old w hB (by simpa using hi) h1
  have hrun : (storeVar ty ⟨g, i, none⟩ v).run P w = .ok () (w.setRow g (old.toList.take i ++ v.cells.toList ++ old.toList.drop (i + v.cells.size)).toArray) := by
    cases hq : P.info? ty with
    | none => simp [hq] at hs
    | some j =>
      have hsz : j.size = v.cells.size := by simpa [hq] using hs
      simp only [Nat.add_zero, Array.length_toList] at hst
      simp [storeVar, sizeOf, typeInfo, hq, hsz, hst]
  unfold Oper.wp execOp
  simp only [ho, hx, hy, Instr.storeAt, Instr.sureAddr, Sem.run_bind, Sem.run_pure, Result.andThen_ok, hrun]
  exact h _ ((hM.take hb).put (bs := [g]) rfl (setRow_ch w g _) (fun b hb => .inl (List.mem_singleton.1 hb)) (setRow_blk hB _) fun k hk => .inl hk)
theorem ws_store (hM : Star L w) {ty : TypeId} {x y : Operand} (ho : o.op = .store ty x y) {g : Nat} (hx : a.eval x = .pointer (some ⟨g, 0, none⟩)) {cs : Array Value} (hy : a.eval y = .agg cs) {t : TypeId} {old : Array Value} (hb : Take (cellsE g t old) L R)
    {n : Nat} (hn : cs.size = n) (hn2 : old.size = n) (hp : (P.info? ty).map (·.size) = some n) (h1 : ∀ v ∈ cs.toList, v.oneCell' = true)
    (h : ∀ w1, Star (cellsE g t cs :: R) w1 → K (a.put o.dst undef) w1) : Oper.wp P o a w K Q :=
  ws_store_at hM ho hx hy hb n hn (by omega) hp h1 (by subst hn; simp only [Value.cells, List.take_zero, List.nil_append]; rw [List.drop_of_length_le (by simp; omega)]; simp) h
theorem ws_store1 (hM : Star L w) {ty : TypeId} {x y : Operand} (ho : o.op = .store ty x y) {g i : Nat} (hx : a.eval x = .pointer (some ⟨g, i, none⟩)) {v : Value} (hy : a.eval y = v) (hv1 : v.oneCell' = true) {t : TypeId} {old : Array Value} (hb : Take (cellsE g t old) L R)
    (hi : i < old.size) (hs : (P.info? ty).map (·.size) = some 1) {cs : Array Value} (hcs : old.setIfInBounds i v = cs)
    (h : ∀ w1, Star (cellsE g t cs :: R) w1 → K (a.put o.dst undef) w1) : Oper.wp P o a w K Q := by
  have hvc : v.cells = #[v] := by cases v <;> simp_all [Value.oneCell', Value.cells]
  refine ws_store_at hM ho hx hy hb 1 (by rw [hvc]; rfl) (by omega) hs (by rw [hvc]; simpa using hv1) ?_ h
  rw [← hcs, hvc]
  apply Array.toList_inj.1
  rw [Array.toList_setIfInBounds, List.set_eq_take_append_cons_drop, if_pos (by simpa using hi)]
  simp
/-- string(b). -/
theorem ws_string {src dst : TypeId} {x : Operand} (ho : o.op = .convert src dst x) (e : TypeId)
    (hs : P.underlying src = some (.slice e)) (hd : P.underlying dst = some .string) (he : P.underlying e = some (.int .u8)) {A : Option Addr} {n c : Nat} (hx : a.eval x = .slice A n c) {l : List UInt8} (hr : Rd w 1 A n (bvs l))
    (h : K (a.put o.dst (.string ⟨l.toArray⟩)) w) : Oper.wp P o a w K Q := by
  have hn : n = l.length := by have := hr.1; rw [bvs_len] at this; omega
  subst hn
  have hrun : (convert src dst (.slice A l.length c)).run P w = .ok (.string ⟨l.toArray⟩) w := by
    rcases Nat.eq_zero_or_pos l.length with h0 | h0
    · have hl : l = [] := List.eq_nil_of_length_eq_zero h0
      subst hl
      rw [run_convert_bytes_string w src dst e A _ c hs he hd]
      cases A with
      | none => rfl
      | some ad => simp [Conv.bytesToString, loadCells]; rfl
    · obtain ⟨ad, rfl, hb, hc⟩ := hr.2 h0
      exact run_convert_bytes_back w src dst e ad c l hs he hd fun j hj => hc j _ (bvs_get l j hj)
  unfold Oper.wp
  simp only [execOp, ho, hx, Sem.run_bind, hrun, Result.andThen_ok, Sem.run_pure]
  exact h
/-- append. -/
theorem ws_append (hM : Star L w) {s x : Operand} {t : TypeId} (ho : o.op = .call { callee := .builtin .append, args := #[s, x], argTypes := #[t, t] })
    {B : Option Addr} {n c0 : Nat} (hs : a.eval s = .slice B n c0) {A : Option Addr} {m c : Nat} (hx : a.eval x = .slice A m c)
    (e : TypeId) (z : Value) (size bytes : Nat) (ht : P.underlying t = some (.slice e)) (hi : (P.info? e).map (fun i => (i.zero, i.size, i.bytes)) = some (some z, size, bytes)) (hzs : z.cells.size = size) (hsz : 0 < size)
    {xs news : List Value} (hb : Take (ownE e size B n c0 xs) L R) (hr : Rd w size A m news) (h1 : ∀ u ∈ news, u.oneCell' = true) (hbytes : (n + m) * (bytes + 1) ≤ 140737488355328)
    (h : ∀ A' c' w1, Star (ownE e size A' (n + m) c' (xs ++ news) :: R) w1 → (A' = none → xs = [] ∧ m = 0) → K (a.put o.dst (.slice A' (n + m) c')) w1) : Oper.wp P o a w K Q := by
  obtain ⟨i, hi0, hz, hsize, hby⟩ := info_parts hi
  have hb2 : (n + m) * bytes ≤ 140737488355328 := Nat.le_trans (Nat.mul_le_mul_left _ (Nat.le_succ _)) hbytes
  have h63 : n + m ≤ maxLen := by
    have : (n + m) * 1 ≤ (n + m) * (bytes + 1) := Nat.mul_le_mul_left _ (by omega)
    unfold maxLen; omega
  have hown : w.ownsRow 0 e size (.slice B n c0) n xs := (hM.take hb).head
  obtain ⟨v', w', hrun, h2, h3, h4, h5⟩ := run_append_any (P := P) w 0 t o.type e i z size bytes ht hi0 hz hsize hby hzs hsz _ n xs hown A m c news hr h1 h63 hb2 (Nat.zero_le _)
  obtain ⟨A', c', rfl⟩ := own_form h2
  unfold Oper.wp execOp
  simp only [ho, resolve, invoke, builtin, Sem.run_bind, Sem.run_pure, Result.andThen_ok, List.map_toArray, List.map_cons, List.map_nil, hs, hx, hrun]
  have hC : Ch (obl B) w w' := Ch.of_grown h3 fun k hk => by rw [← obl_own B n c0, hk]; simp
  refine h A' c' w' ((hM.take hb).put (bs := obl B) rfl hC ?_ h2 ?_) ?_
  · intro b hb
    cases B with
    | none => cases hb
    | some ad => rcases List.mem_singleton.1 hb with rfl; exact .inl ⟨ad, rfl, rfl⟩
  · rintro k ⟨ad, rfl, rfl⟩
    rcases h4 with h4 | h4
    · cases B with
      | none => simp [Value.ownBlock] at h4
      | some ad2 => simp [Value.ownBlock] at h4; exact .inl ⟨ad2, rfl, h4⟩
    · simp [Value.ownBlock] at h4
      exact .inr (by omega)
  · intro hA
    subst hA
    rcases h2.2 with ⟨h6, h7⟩ | ⟨g, cap, cur, h6, _⟩
    · have hm : n = 0 ∧ m = 0 := by omega
      obtain ⟨rfl, rfl⟩ := hm
      exact ⟨List.eq_nil_of_length_eq_zero (by simpa using hown.1), rfl⟩
    · injection h6 with h6; cases h6
theorem fill_rows (size : Nat) : ∀ (vs : List Value) (k : Nat) (pre : List Value) (cells : Array Value), (∀ v ∈ vs, v.cells.size = size) → pre.length = k * size → cells.size = (k + vs.length) * size → cells.toList.take (k * size) = pre →
    Instr.fill (fun i => some (i * size, size)) cells ((vs.zipIdx k).map fun p => (p.2, p.1)) = some (pre ++ vs.flatMap fun v => v.cells.toList).toArray := by
  intro vs
  induction vs with
  | nil =>
    intro k pre cells _ hp hc ht
    simp only [List.zipIdx_nil, List.map_nil, Instr.fill, List.flatMap_nil, List.append_nil, Option.some.injEq]
    apply Array.toList_inj.1
    rw [← ht, List.take_of_length_le (by simp at hc ⊢; omega)]
  | cons v vs ih =>
    intro k pre cells hv hp hc ht
    have hsz := hv v List.mem_cons_self
    simp only [List.length_cons] at hc
    have hle : k * size + size ≤ cells.size := by rw [hc, show k + (vs.length + 1) = (k + 1) + vs.length by omega, Nat.add_mul, Nat.add_mul]; omega
    have hfold : ∀ (l : List Value) (j : Nat) (acc : Array Value), k * size + j + l.length ≤ acc.size → (l.zipIdx j).foldl (fun cs p => cs.setIfInBounds (k * size + p.2) p.1) acc = (acc.toList.take (k * size + j) ++ l ++ acc.toList.drop (k * size + j + l.length)).toArray := by
      intro l
      induction l with
      | nil => intro j acc hk; simp
      | cons u l ih2 =>
        intro j acc hk
        simp only [List.length_cons] at hk
        simp only [List.zipIdx_cons, List.foldl_cons]
        rw [ih2 (j + 1) _ (by simp; omega)]
        congr 1
        simp only [Array.toList_setIfInBounds, List.length_cons]
        rw [List.take_set, List.drop_set_of_lt (by omega), show k * size + (j + 1) = (k * size + j) + 1 by omega, List.take_succ_eq_append_getElem (by simp; omega), List.set_append]
        simp only [List.length_take, Array.length_toList]
        rw [Nat.min_eq_left (by omega), if_neg (by omega), Nat.sub_self]
        simp [show k * size + j + 1 + l.length = k * size + j + (l.length + 1) by omega]
    have hf := hfold v.cells.toList 0 cells (by simp; omega)
    simp only [List.zipIdx_cons, List.map_cons, Instr.fill, hsz, ne_eq, not_true_eq_false, decide_false, Bool.false_or]
    rw [if_neg (by simp; omega), ← Array.foldl_toList, Array.toList_zipIdx, hf]
    rw [ih (k + 1) (pre ++ v.cells.toList) _ (fun u hu => hv u (List.mem_cons_of_mem _ hu)) (by simp [hp, hsz, Nat.add_mul]) (by simp [hsz]; rw [Nat.min_eq_left (by omega), hc]; rw [show k + (vs.length + 1) = (k + 1) + vs.length by omega] at hc ⊢; rw [Nat.add_mul, Nat.add_mul]; rw [Nat.add_mul, Nat.add_mul] at hc; omega) ?_]
    · simp
    · simp only [Nat.add_zero, List.toList_toArray]
      rw [ht, List.take_append_of_le_length (by simp [hp, hsz, Nat.add_mul])]
      rw [List.take_of_length_le (by simp [hp, hsz, Nat.add_mul])]
/-- []T{x, ..}. -/
theorem run_slice (w : World) (t e : TypeId) (n size : Nat) (z : Value) (vs : List Value) (ht : P.underlying t = some (.slice e)) (hi : (P.info? e).map (fun i => (i.zero, i.size)) = some (some z, size)) (hv : ∀ v ∈ vs, v.cells.size = size) (hn : vs.length = n) (hsm : n * size ≤ 16777216)
    (ps : Array (Nat × Value)) (hps : ps.toList = vs.zipIdx.map fun p => (p.2, p.1)) :
    (Instr.buildSlice t n ps).run P w = .ok (.slice (some ⟨w.heap.size, 0, none⟩) n n) (w.alloc (.cells (vs.flatMap fun v => v.cells.toList).toArray e)) := by
  subst hn
  cases hq : P.info? e with
  | none => simp [hq] at hi
  | some i =>
    obtain ⟨hz0, hs0⟩ : i.zero = some z ∧ i.size = size := by simpa [hq] using hi
    have hfill : ∀ zero : Array Value, Instr.fill (fun i => some (i * size, size)) ((Array.range (vs.length * size)).map (zero[· % zero.size]!)) ps.toList = some (vs.flatMap fun v => v.cells.toList).toArray := fun zero => by
      rw [hps]
      exact fill_rows size vs 0 [] _ hv (by simp) (by simp) (by simp)
    have hsm' : ¬ (vs.length * size > 16777216) := by omega
    by_cases h0 : vs.length * size = 0
    · have h9 := hfill #[]
      rw [h0] at h9
      simp [Instr.buildSlice, run_underlying ht, sizeOf, typeInfo, hq, hs0, hsm', h0, newRow]
      have e9 : ∀ f : Nat → Value, Array.map f (Array.range 0) = #[] := fun f => by simp
      rw [e9] at h9 ⊢
      simp [h9]
    · simp [Instr.buildSlice, run_underlying ht, sizeOf, typeInfo, hq, hz0, hs0, zeroValue, hsm', h0, hfill, newRow]
theorem ws_slice (hM : Star L w) {t : TypeId} {n : Nat} {xs : Array (Nat × Operand)} (ho : o.op = .buildSlice t n xs) (e : TypeId) (size : Nat) (z : Value) (vs : List Value) (ht : P.underlying t = some (.slice e)) (hi : (P.info? e).map (fun i => (i.zero, i.size)) = some (some z, size))
    (hx : (xs.toList.map fun p => (p.1, a.eval p.2)) = vs.zipIdx.map fun p => (p.2, p.1)) (hv : ∀ v ∈ vs, v.cells.size = size) (hn : vs.length = n) (hsm : n * size ≤ 16777216) {cs : Array Value} (hcs : (vs.flatMap fun v => v.cells.toList).toArray = cs)
    (h : ∀ g w1, Star (cellsE g e cs :: L) w1 → K (a.put o.dst (.slice (some ⟨g, 0, none⟩) n n)) w1) : Oper.wp P o a w K Q := by
  subst hcs
  have hr := run_slice (P := P) w t e n size z vs ht hi hv hn hsm (xs.map fun p => (p.1, a.eval p.2)) (by rw [← hx]; simp)
  unfold Oper.wp
  simp only [execOp, ho, hr, Sem.run_bind, Sem.run_pure, Result.andThen_ok]
  exact h _ _ (hM.new_ ((Ch.refl _ _).alloc _) (Blk.new w e _) fun k hk => by rw [hk]; exact Nat.le_refl _)
/-- []T{x, ..}, only read from then on. -/
theorem ws_slice_row (hM : Star L w) {t : TypeId} {n : Nat} {xs : Array (Nat × Operand)} (ho : o.op = .buildSlice t n xs) (e : TypeId) (size : Nat) (z : Value) (vs : List Value) (ht : P.underlying t = some (.slice e)) (hi : (P.info? e).map (fun i => (i.zero, i.size)) = some (some z, size))
    (hx : (xs.toList.map fun p => (p.1, a.eval p.2)) = vs.zipIdx.map fun p => (p.2, p.1)) (hv : ∀ v ∈ vs, v.cells.size = size) (hn : vs.length = n) (hsm : n * size ≤ 16777216) {cs : List Value} (hcs : (vs.flatMap fun v => v.cells.toList) = cs)
    (h : ∀ g w1, Star (rowE size (some ⟨g, 0, none⟩) n cs :: L) w1 → K (a.put o.dst (.slice (some ⟨g, 0, none⟩) n n)) w1) : Oper.wp P o a w K Q := by
  have hl : cs.length = n * size := by
    subst hcs hn
    clear hx ho h hsm
    induction vs with
    | nil => simp
    | cons v vs ih => simp only [List.flatMap_cons, List.length_append, List.length_cons, Array.length_toList, hv v List.mem_cons_self, ih fun u hu => hv u (List.mem_cons_of_mem _ hu)]; rw [Nat.add_mul]; omega
  exact ws_slice hM ho e size z vs ht hi hx hv hn hsm (cs := cs.toArray) (by rw [hcs]) fun g w1 hM => h g w1 (by simpa using hM.row_of_blk (n := n) (size := size) (by simpa using hl))
/-- []T{x, ..}, to which is appended. -/
theorem ws_slice_own (hM : Star L w) {t : TypeId} {n : Nat} {xs : Array (Nat × Operand)} (ho : o.op = .buildSlice t n xs) (e : TypeId) (size : Nat) (z : Value) (vs : List Value) (ht : P.underlying t = some (.slice e)) (hi : (P.info? e).map (fun i => (i.zero, i.size)) = some (some z, size))
    (hx : (xs.toList.map fun p => (p.1, a.eval p.2)) = vs.zipIdx.map fun p => (p.2, p.1)) (hv : ∀ v ∈ vs, v.cells.size = size) (hn : vs.length = n) (hsm : n * size ≤ 16777216) (hsm2 : n ≤ 16777216) {cs : List Value} (hcs : (vs.flatMap fun v => v.cells.toList) = cs)
    (h : ∀ g w1, Star (ownE e size (some ⟨g, 0, none⟩) n n cs :: L) w1 → K (a.put o.dst (.slice (some ⟨g, 0, none⟩) n n)) w1) : Oper.wp P o a w K Q := by
  have hl : cs.length = n * size := by
    subst hcs hn
    clear hx ho h hsm hsm2
    induction vs with
    | nil => simp
    | cons v vs ih => simp only [List.flatMap_cons, List.length_append, List.length_cons, Array.length_toList, hv v List.mem_cons_self, ih fun u hu => hv u (List.mem_cons_of_mem _ hu)]; rw [Nat.add_mul]; omega
  exact ws_slice hM ho e size z vs ht hi hx hv hn hsm (cs := cs.toArray) (by rw [hcs]) fun g w1 hM => h g w1 (hM.as_ rfl (fun k ⟨ad, e, hk⟩ => by injection e with e; subst e; exact hk) fun hb => by
    have h9 := own_lit (base := 0) (size := size) (n := n) hb (Nat.zero_le _) (by unfold maxLen; omega) (by simpa using hl)
    rwa [List.toList_toArray] at h9)
/-- make([]T, n). -/
theorem ws_make (hM : Star L w) {t : TypeId} {x y : Operand} (ho : o.op = .makeSlice t x y) (e : TypeId) (i : TypeInfo) (z : Value) (ht : P.underlying t = some (.slice e)) (hi : P.info? e = some i) (hz : i.zero = some z) (hi1 : i.size = 1) (hz1 : z.cells = #[z]) (hby : i.bytes ≤ 16)
    {n : Nat} (hx : a.eval x = .int .i64 (n : Int)) (hy : a.eval y = .int .i64 (n : Int)) (hsm : n ≤ 1000000000)
    (h : ∀ g w1, Star (cellsE g e (List.replicate n z).toArray :: L) w1 → K (a.put o.dst (.slice (some ⟨g, 0, none⟩) n n)) w1) : Oper.wp P o a w K Q := by
  have hb : (i.bytes : Int) * (n : Int) ≤ 281474976710656 := by
    have h1 : i.bytes * n ≤ 16 * 1000000000 := Nat.mul_le_mul hby hsm
    have : ((i.bytes * n : Nat) : Int) ≤ 281474976710656 := by omega
    rwa [Int.natCast_mul] at this
  have hr := run_make (P := P) w t e i z ht hi hz .i64 .i64 n n (by omega) (by omega) hb (by omega)
  simp only [Int.toNat_natCast] at hr
  have hc : madeCells z.cells (n * i.size) = (List.replicate n z).toArray := by
    rw [hz1, hi1, Nat.mul_one]
    apply Array.ext
    · simp [madeCells]
    · intro j h1 h2
      simp [madeCells, Nat.mod_one]
  rw [hc] at hr
  unfold Oper.wp
  simp only [execOp, ho, hx, hy, hr, Sem.run_bind, Sem.run_pure, Result.andThen_ok]
  exact h _ _ (hM.new_ ((Ch.refl _ _).alloc _) (Blk.new w e _) fun k hk => by rw [hk]; exact Nat.le_refl _)
/-- copy(row[:], s). -/
theorem ws_copy_str (hM : Star L w) {d s : Operand} {dT sT : TypeId} (ho : o.op = .call { callee := .builtin .copy, args := #[d, s], argTypes := #[dT, sT] }) {g n c : Nat} (hd : a.eval d = .slice (some ⟨g, 0, none⟩) n c) {l : List UInt8} (hx : a.eval s = .string ⟨l.toArray⟩)
    (elem : TypeId) (hu : P.underlying dT = some (.slice elem)) (hs : (P.info? elem).map (·.size) = some 1) {t : TypeId} {old : List UInt8} (hb : Take (cellsE g t (bvs old).toArray) L R) (hn : n = old.length)
    (h : ∀ w1, Star (cellsE g t (bvs (over old l)).toArray :: R) w1 → K (a.put o.dst (goInt (Nat.min l.length n))) w1) : Oper.wp P o a w K Q := by
  have hg : Blk w g t (bvs old).toArray := (hM.take hb).head
  have hrun := run_copy_str (P := P) w dT sT o.type elem g n c t old l hu hs hg hn
  unfold Oper.wp
  simp only [execOp, ho, resolve, invoke, builtin, Sem.run_bind, Sem.run_pure, Result.andThen_ok, List.map_toArray, List.map_cons, List.map_nil, hd, hx, hrun]
  exact h _ ((hM.take hb).put (bs := [g]) rfl (setRow_ch w g _) (fun b hb => .inl (List.mem_singleton.1 hb)) (setRow_blk hg _) fun k hk => .inl hk)
end
end Go.Proofs.Ytbejifbiffeamaa
set_option linter.unusedSimpArgs false
set_option linter.unusedVariables false
namespace Go.Proofs.Ytbejifbiffeamaa
open Go.RowKit
def iv (n : Int) : Value := .int .i64 n
def ivs (l : List Int) : List Value := l.map iv
theorem ivs_len (l : List Int) : (ivs l).length = l.length := by simp [ivs]
theorem svs_app (l m : List (List UInt8)) : svs (l ++ m) = svs l ++ svs m := by simp [svs]
theorem svs_len (l : List (List UInt8)) : (svs l).length = l.length := by simp [svs]
theorem flat_get {α : Type} (f : α → List Value) (size : Nat) (l : List α) (h : ∀ x ∈ l, (f x).length = size) (k : Nat) (x : α) (hk : l[k]? = some x) (j : Nat) (v : Value) (hj : (f x)[j]? = some v) : (l.flatMap f)[k * size + j]? = some v := by
  induction l generalizing k with
  | nil => cases hk
  | cons y l ih =>
    have hy := h y List.mem_cons_self
    cases k with
    | zero =>
      simp at hk
      subst hk
      have hlt := (List.getElem?_eq_some_iff.1 hj).1
      rw [List.flatMap_cons, Nat.zero_mul, Nat.zero_add, List.getElem?_append_left hlt]
      exact hj
    | succ k =>
      rw [List.flatMap_cons, List.getElem?_append_right (by rw [hy, Nat.add_mul]; omega), hy, show (k + 1) * size + j - size = k * size + j by rw [Nat.add_mul]; omega]
      exact ih (fun z hz => h z (List.mem_cons_of_mem _ hz)) k (by simpa using hk)
theorem flat_len {α : Type} (f : α → List Value) (size : Nat) (l : List α) (h : ∀ x ∈ l, (f x).length = size) : (l.flatMap f).length = l.length * size := by
  induction l with
  | nil => simp
  | cons y l ih => rw [List.flatMap_cons, List.length_append, h y List.mem_cons_self, ih fun z hz => h z (List.mem_cons_of_mem _ hz), List.length_cons, Nat.add_mul]; omega
/-- Element k of a row of rows: where it lies, it, the beginnings. -/
theorem Rd.elems {α : Type} {w : World} {A : Option Addr} {n k size : Nat} {l : List α} {f : α → List Value} (h : Rd w size A n (l.flatMap f)) (hf : ∀ x ∈ l, (f x).length = size) (hs : 0 < size) (hk : k < n) :
    ∃ ad d, A = some ad ∧ (∀ j v, (f d)[j]? = some v → w.cell? ((ad.add (k * size)).add j) = some v) ∧ l[k]? = some d ∧ l.take (k + 1) = l.take k ++ [d] := by
  obtain ⟨ad, hA, _, hc⟩ := h.2 (by omega)
  have hl := flat_len f size l hf
  rw [h.1] at hl
  have hkl : k < l.length := by
    have := Nat.eq_of_mul_eq_mul_right hs hl
    omega
  have hg : l[k]? = some l[k] := List.getElem?_eq_getElem hkl
  exact ⟨ad, l[k], hA, fun j v hv => by rw [add_of_add]; exact hc _ v (flat_get f size l hf k _ hg j v hv), hg, take_snoc_at l k _ hg⟩
theorem Star.arr {L : List SProp} {w : World} {g n : Nat} {t : TypeId} {l : List UInt8} (h : Star L w) (hx : cellsE g t (bvs l).toArray ∈ L) (hl : l.length = n) : Rd w 1 (some ⟨g, 0, none⟩) n (bvs l) :=
  Rd.of_blk (h.blk hx) (by simp [bvs_len, hl])
theorem svs_row {w : World} {A : Option Addr} {n : Nat} {l : List (List UInt8)} (h : Rd w 1 A n (svs l)) : l.length = n := by rw [← svs_len]; exact h.len
/-- An element of a row is read. -/
theorem ws_rowload {P : Program} {w : World} {o : Oper} {a : Act} {Q : Exit → Act → World → Prop} {K : Act → World → Prop} {ty : TypeId} {x : Operand} (ho : o.op = .load ty x) {ad : Addr} {k : Nat} (hx : a.eval x = .pointer (some (ad.add k)))
    {n : Nat} {xs : List Value} (hr : Rd w 1 (some ad) n xs) {v : Value} (hv : xs[k]? = some v) (hp : plainTy P ty = true) (h : K (a.put o.dst v) w) : Oper.wp P o a w K Q := by
  have hk : k < n := by have h1 := (List.getElem?_eq_some_iff.1 hv).1; have h2 := hr.len; omega
  obtain ⟨ad', e, _, hc⟩ := hr.2 (by omega)
  injection e with e
  subst e
  have hrun := run_load1 (P := P) w ty _ v hp (hc k v hv)
  unfold Oper.wp execOp
  simp only [ho, hx, Instr.loadAt, Instr.sureAddr, Sem.run_bind, Sem.run_pure, Result.andThen_ok, hrun]
  exact h
/-- Element k: its address, it, the beginnings. -/
theorem Star.elem {α : Type} {L : List SProp} {w : World} {A : Option Addr} {n k : Nat} {l : List α} {f : α → Value} (h : Star L w) (hx : rowE 1 A n (l.map f) ∈ L) (hk : k < n) :
    ∃ ad d, A = some ad ∧ (l.map f)[k]? = some (f d) ∧ l[k]? = some d ∧ l.take (k + 1) = l.take k ++ [d] := by
  obtain ⟨ad, d, h1, _, h3, h4⟩ := (h.row hx).elem hk
  exact ⟨ad, d, h1, by rw [List.getElem?_map, h3]; rfl, h3, h4⟩
theorem Star.elemI {L : List SProp} {w : World} {A : Option Addr} {n k : Nat} {l : List Int} (h : Star L w) (hx : rowE 1 A n (ivs l) ∈ L) (hk : k < n) :
    ∃ ad d, A = some ad ∧ (ivs l)[k]? = some (.int .i64 d) ∧ l[k]? = some d ∧ l.take (k + 1) = l.take k ++ [d] := h.elem (f := iv) hx hk
theorem Star.elemS {L : List SProp} {w : World} {A : Option Addr} {n k : Nat} {l : List (List UInt8)} (h : Star L w) (hx : rowE 1 A n (svs l) ∈ L) (hk : k < n) :
    ∃ ad d, A = some ad ∧ (svs l)[k]? = some (.string ⟨d.toArray⟩) ∧ l[k]? = some d ∧ l.take (k + 1) = l.take k ++ [d] := h.elem (f := sv) hx hk
end Go.Proofs.Ytbejifbiffeamaa
set_option linter.unusedSimpArgs false
set_option linter.unusedVariables false
namespace Go.Proofs.Ytbejifbiffeamaa
open Go.RowKit Go.WideShapes Go.ChangeShapes Go.ChangeAt
def i64ok (x : Int) : Prop := -9223372036854775808 ≤ x ∧ x ≤ 9223372036854775807
theorem wf_i64 {x : Int} (h : (Lit.int .i64 x).wf = true) : i64ok x := by
  simp [Lit.wf, IntKind.min, IntKind.max, IntKind.signed, IntKind.bits] at h
  unfold i64ok
  omega
section
variable {H : Type} {enc : TypeId × Value → H} {P : Program} {w : World} {base : Nat} {spare : Nat → Bool} {held : Bool}
end
end Go.Proofs.Ytbejifbiffeamaa
set_option linter.unusedSimpArgs false
set_option linter.unusedVariables false
namespace Go.Proofs.Ytbejifbiffeamaa
open Go.RowKit Go.WideShapes Go.ChangeShapes Go.ChangeAt
section
variable {H : Type} {enc : TypeId × Value → H} {P : Program} {w : World} {base : Nat} {spare : Nat → Bool} {held : Bool}
theorem get_of_cutA {cs : List Value} {j : Nat} {v : Value} (h : (cs.drop j).take 1 = [v]) : cs[j]? = some v := by
  have := congrArg (·[0]?) h
  simpa [List.getElem?_take, List.getElem?_drop] using this
theorem fieldA_i64 {fuel : Nat} {t : TypeId} {cs : List Value} {j : Nat} {x : Option (DataW H × List MemPlace)} (ht : P.underlying t = some (.int .i64)) (hc : P.cellsOf t = 1)
    (h : DataW.trod enc P w base spare held fuel t ((cs.drop j).take (P.cellsOf t)) = x) (hx : x ≠ none) : ∃ n, cs[j]? = some (iv n) ∧ i64ok n := by
  cases x with
  | none => exact absurd rfl hx
  | some x =>
    obtain ⟨n, h1, _, h2⟩ := DataW.trod_int ht h
    rw [hc] at h1
    exact ⟨n, get_of_cutA h1, wf_i64 h2⟩
theorem fieldA_u8 {fuel : Nat} {t : TypeId} {cs : List Value} {j : Nat} {x : Option (DataW H × List MemPlace)} (ht : P.underlying t = some (.int .u8)) (hc : P.cellsOf t = 1)
    (h : DataW.trod enc P w base spare held fuel t ((cs.drop j).take (P.cellsOf t)) = x) (hx : x ≠ none) : ∃ u : UInt8, cs[j]? = some (bv u) := by
  cases x with
  | none => exact absurd rfl hx
  | some x =>
    obtain ⟨n, h1, _, h4⟩ := DataW.trod_int ht h
    rw [hc] at h1
    have h5 := get_of_cutA h1
    simp [Lit.wf, IntKind.min, IntKind.max, IntKind.signed, IntKind.bits] at h4
    refine ⟨UInt8.ofNat n.toNat, ?_⟩
    rw [h5]
    have : ((UInt8.ofNat n.toNat).toNat : Int) = n := by simp; omega
    simp only [bv, this]
/-- A slice whose elements have k cells each: what each element's cells are, by what one element's are. -/
theorem open_recs {α : Type} {Q : α → Prop} {r : Reach} {b0 : Nat} {t e : TypeId} {v : Value} {d : DataW H} {p : List MemPlace} (fc : α → List Value) (k : Nat) (hk : 0 < k) (fl : ∀ x, (fc x).length = k)
    (ht : P.underlying t = some (.slice e)) (ce : P.cellsOf e = k)
    (helem : ∀ (fuel : Nat) (cs : List Value) (y : DataW H × List MemPlace), DataW.trod enc P w base spare held fuel e cs = some y → ∃ x, cs = fc x ∧ Q x)
    (hv : Value.okWide P w r b0 t v) (h : DataW.Trod enc P w base spare held t v d p) :
    ∃ (A : Option Addr) (n c : Nat) (l : List α), v = .slice A n c ∧ Rd w k A n (l.flatMap fc) ∧ n ≤ 9223372036854775807 ∧ ∀ x ∈ l, Q x := by
  obtain ⟨a0, len, cap, rfl⟩ := okWide_slice ht hv
  obtain ⟨fuel, hf⟩ := h
  rcases Go.Deep.open_slice ht hf with ⟨hcs, hx⟩ | ⟨a, len', cap', m, n, D, Pl, hcs, _, hl, hm, hmm, _, hcell⟩
  · simp only [Value.cells, List.cons.injEq, Value.slice.injEq, and_true] at hcs
    obtain ⟨rfl, rfl, rfl⟩ := hcs
    exact ⟨none, 0, 0, [], rfl, Rd.none_, by omega, by simp⟩
  · simp only [Value.cells, List.cons.injEq, Value.slice.injEq, and_true] at hcs
    obtain ⟨rfl, rfl, rfl⟩ := hcs
    have hlm : len ≤ m := by rw [hmm]; split <;> omega
    unfold maxLen at hm
    have each : ∀ i, i < len → ∃ x : α, (∀ j u, (fc x)[j]? = some u → w.cell? (a.add (i * k + j)) = some u) ∧ Q x := fun i hi => by
      obtain ⟨cs', h1, h2⟩ := hcell i (by omega)
      rw [ce] at h1
      obtain ⟨_, hlen, hc⟩ := World.cells?_some h1
      obtain ⟨x, rfl, hq⟩ := helem _ _ _ h2
      refine ⟨x, fun j u hj => ?_, hq⟩
      have hjk : j < k := by have := (List.getElem?_eq_some_iff.1 hj).1; rw [fl] at this; exact this
      have e1 := hc j hjk
      rw [Go.Deep.add_add] at e1
      rw [e1, hj]
    by_cases h0 : len = 0
    · subst h0
      exact ⟨some a, 0, cap, [], rfl, ⟨by simp, fun hn => by omega⟩, by omega, by simp⟩
    haveI : Inhabited α := ⟨(each 0 (by omega)).choose⟩
    obtain ⟨q, hq⟩ := Go.Deep.choose_lt each
    refine ⟨some a, len, cap, (List.range len).map q, rfl, ⟨?_, fun hn => ⟨a, rfl, ?_, ?_⟩⟩, by omega, ?_⟩
    · rw [flat_len fc k _ fun x _ => fl x]; simp
    · have h2 : ∃ u, (fc (q 0))[0]? = some u := ⟨_, List.getElem?_eq_getElem (by rw [fl]; exact hk)⟩
      obtain ⟨u, hu⟩ := h2
      have h1 := (hq 0 (by omega)).1 0 u hu
      have := World.block_lt_of_cell? w _ h1
      rwa [block_of_add] at this
    · intro j u hu
      have h1 := (List.getElem?_eq_some_iff.1 hu).1
      rw [flat_len fc k _ fun x _ => fl x] at h1
      simp only [List.length_map, List.length_range] at h1
      have e := Nat.div_add_mod j k
      have hd : j / k < len := (Nat.div_lt_iff_lt_mul hk).2 h1
      have hmk := Nat.mod_lt j hk
      have hqi : ((List.range len).map q)[j / k]? = some (q (j / k)) := by simp [hd]
      have hu2 : ∃ v, (fc (q (j / k)))[j % k]? = some v := ⟨_, List.getElem?_eq_getElem (by rw [fl]; exact hmk)⟩
      obtain ⟨v, hv⟩ := hu2
      have h3 := flat_get fc k _ (fun x _ => fl x) (j / k) (q (j / k)) hqi (j % k) v hv
      have e2 : j / k * k + j % k = j := by rw [Nat.mul_comm]; exact e
      rw [e2, hu] at h3
      injection h3 with h3
      subst h3
      have := (hq _ hd).1 _ _ hv
      rwa [e2] at this
    · intro x hx
      obtain ⟨i, hi, rfl⟩ := List.mem_map.1 hx
      exact (hq i (List.mem_range.1 hi)).2
/-- A struct's cells, one by one. -/
theorem cells_ext {cs xs : List Value} (hl : cs.length = xs.length) (h : ∀ j, j < xs.length → cs[j]? = xs[j]?) : cs = xs := by
  apply List.ext_getElem?
  intro j
  by_cases hj : j < xs.length
  · exact h j hj
  · rw [List.getElem?_eq_none (by omega), List.getElem?_eq_none (by omega)]
end
end Go.Proofs.Ytbejifbiffeamaa
set_option linter.unusedSimpArgs false
set_option linter.unusedVariables false
namespace Go.Proofs.Ytbejifbiffeamaa
open Go.RowKit
section
variable {P : Program} {ops : Array Oper} {Q : Exit → Act → World → Prop} {md : Region.Mode} {L0 : List SProp} {Z : List Nat}
/-- What a run leaves that gives v and keeps the parts L. -/
def Gives (P : Program) (L : List SProp) (v : Value) : Result Next → Prop
  | .ok (.value u) w' => u = v ∧ Star L w'
  | .ok (.enter f args) w' => Calls P f args w' fun e w'' => e = .returned v ∧ Star L w''
  | _ => False
/-- In state a, in every world that has the parts L0 among others, operation o gives v and keeps all parts. -/
def Stab (P : Program) (ops : Array Oper) (L0 : List SProp) (o : Oper) (v : Value) (a : Act) : Prop :=
  (Region.wanted o (yielded ops a.tmps) = true ∧ ∀ L w, (∀ x ∈ L0, x ∈ L) → Star L w → Gives P L v ((execOp a.eval o).run P w)) ∨
  (Region.wanted o (yielded ops a.tmps) = false ∧ v = undef)
theorem Stab.of_same {o : Oper} {v : Value} {a a' : Act} (hy : Stab P ops L0 o v a) (he : execOp a'.eval o = execOp a.eval o)
    (hw : Region.wanted o (yielded ops a'.tmps) = Region.wanted o (yielded ops a.tmps)) : Stab P ops L0 o v a' := by
  unfold Stab at *
  rw [he, hw]
  exact hy
theorem Stab.wpOp {i : Nat} {o : Oper} {v : Value} {a : Act} (hi : ops[i]? = some o) (hy : Stab P ops L0 o v a)
    {K : Act → World → Prop} {L : List SProp} {w : World} (h0 : ∀ x ∈ L0, x ∈ L) (hS : Star L w) (h : ∀ w', Star L w' → K (a.put o.dst v) w') : wpOp P ops Q i K a w := by
  unfold Go.wpOp
  simp only [hi]
  rcases hy with ⟨hw, hv⟩ | ⟨hw, rfl⟩
  · have h1 := hv L w h0 hS
    simp only [hw, if_true, Oper.wp]
    refine .inl ?_
    generalize (execOp a.eval o).run P w = r at *
    cases r with
    | ok n w' =>
      cases n <;> simp only [Gives, Oper.upon] at h1 ⊢
      case value u => obtain ⟨rfl, h1⟩ := h1; exact h _ h1
      case enter f args =>
        refine Calls.mono h1 fun e w'' he => ?_
        obtain ⟨rfl, he⟩ := he
        exact h _ he
    | halt x w' => cases h1
  · simp only [hw, Bool.false_eq_true, if_false]; exact h _ hS
theorem wpOp_putS {j : Nat} {oi oj : Oper} {v : Value} (hj : ops[j]? = some oj) (hap : oi.apart ops oj = true)
    (hsi : ∀ cs b, oi.op ≠ .select cs b) (hsj : ∀ cs b, oj.op ≠ .select cs b)
    (hQ : ∀ c a w, Q (.panic c) (a.put oi.dst v) w → Q (.panic c) a w) {K : Act → World → Prop} {a : Act} {w : World}
    (hy : Stab P ops L0 oi v a) (h : wpOp P ops Q j K (a.put oi.dst v) w) :
    wpOp P ops Q j (fun a' w' => Stab P ops L0 oi v a' ∧ K (a'.put oi.dst v) w') a w := by
  obtain ⟨h1, h2, h3⟩ := Oper.apart_spec hap
  have keep : ∀ (a : Act), Stab P ops L0 oi v a → ∀ u, Stab P ops L0 oi v (a.put oj.dst u) := fun a hy u =>
    hy.of_same (execOp_put oi hsi a oj.dst u h3) (wanted_put oi a oj.dst u h3)
  have keepD : ∀ d, Stab P ops L0 oi v { a with defers := d :: a.defers } := fun d => hy.of_same rfl rfl
  unfold wpOp at *
  simp only [hj] at *
  rw [wanted_put oj a oi.dst v h1] at h
  split
  · rename_i hw
    simp only [hw, if_true] at h
    rcases h with h | ⟨hasks, hlets⟩
    case inr => exact .inr ⟨by unfold Oper.asks at *; rw [execOp_put oj hsj a oi.dst v h1] at hasks; exact hasks, hlets⟩
    refine .inl ?_
    unfold Oper.wp at *
    rw [execOp_put oj hsj a oi.dst v h1] at h
    generalize (execOp a.eval oj).run P w = r at *
    cases r with
    | ok n w' =>
      cases n <;> simp only [Oper.upon] at h ⊢
      case value u => exact ⟨keep a hy u, by rw [← Act.put_comm a v u h2]; exact h⟩
      case skip => exact ⟨keep a hy _, by rw [← Act.put_comm a v undef h2]; exact h⟩
      case defer d =>
        refine ⟨keep _ (keepD d) _, ?_⟩
        rw [← Act.put_comm _ v undef h2, ← Act.put_defers]
        exact h
      case enter f args =>
        refine Calls.mono h fun e w'' he => ?_
        cases e with
        | returned u => exact ⟨keep a hy u, by rw [← Act.put_comm a v u h2]; exact he⟩
        | panicked c => exact hQ _ _ _ he
        | outgrown => exact he
      case row row args => exact Rows.mono h fun u w'' he => ⟨keep a hy u, by rw [← Act.put_comm a v u h2]; exact he⟩
    | halt x w' =>
      cases x <;> simp only [Oper.upon] at h ⊢
      case panic u => exact hQ _ _ _ h
  · rename_i hw
    simp only [hw] at h
    exact ⟨keep a hy _, by rw [← Act.put_comm a v undef h2]; exact h⟩
/-- Does operation j wait for i, or for one that does? -/
def reach (md : Region.Mode) (ops : Array Oper) (i : Nat) : Nat → Nat → Bool
  | 0, j => j == i
  | f + 1, j => j == i || (match ops[j]? with | some o => o.after.toList.any fun e => Region.binds md e && reach md ops i f e.on | none => false)
/-- Nothing has come up ahead of what it waits for. -/
def Closed (md : Region.Mode) (ops : Array Oper) (listed : Array Bool) : Prop := ∀ j o, ops[j]? = some o → listed.getD j true = true → ∀ e ∈ o.after, Region.binds md e = true → listed.getD e.on true = true
theorem Closed.reach {listed : Array Bool} (h : Closed md ops listed) (i : Nat) : ∀ (f j : Nat), reach md ops i f j = true → listed.getD j true = true → listed.getD i true = true
  | 0, j, hr, hl => by simp only [Go.Proofs.Ytbejifbiffeamaa.reach, beq_iff_eq] at hr; rw [← hr]; exact hl
  | f + 1, j, hr, hl => by
    simp only [Go.Proofs.Ytbejifbiffeamaa.reach, Bool.or_eq_true, beq_iff_eq] at hr
    rcases hr with rfl | hr
    · exact hl
    · cases ho : ops[j]? with
      | none => rw [ho] at hr; cases hr
      | some o =>
        rw [ho] at hr
        obtain ⟨e, he, hb⟩ := List.any_eq_true.1 hr
        rw [Bool.and_eq_true] at hb
        exact Closed.reach h i f e.on hb.2 (h j o ho hl e (by simpa using he) hb.1)
theorem Closed.set {listed : Array Bool} (h : Closed md ops listed) {i : Nat} (hr : i ∈ Region.ready md ops listed) : Closed md ops (listed.setIfInBounds i true) := by
  intro j o ho hj e he hb
  by_cases hji : j = i
  · subst hji
    obtain ⟨h0, o', ho', hall⟩ := mem_ready.1 hr
    rw [ho] at ho'
    injection ho' with ho'
    subst ho'
    have h1 := getD_set_true (i := j) (hall e he hb)
    rcases Nat.lt_or_ge e.on (listed.setIfInBounds j true).size with h' | h'
    · simp only [Array.getD_eq_getD_getElem?, Array.getElem?_eq_getElem h', Option.getD_some] at h1 ⊢; exact h1
    · simp [Array.getElem?_eq_none h']
  · rw [getD_set_ne true (Ne.symm hji)] at hj
    have := h j o ho hj e he hb
    by_cases hi : i = e.on
    · rcases Nat.lt_or_ge i listed.size with h' | h'
      · simp [← hi, h']
      · simp [← hi, h']
    · rw [getD_set_ne true hi]; exact this
/-- Whatever order is picked; the parts L stand for the world; the parts L0 stay till one of Z has come up. -/
def RS (P : Program) (md : Region.Mode) (ops : Array Oper) (Q : Exit → Act → World → Prop) (L0 : List SProp) (Z : List Nat) : Nat → Array Bool → Act → List SProp → Prop
  | 0, listed, a, L => ((∀ z ∈ Z, listed.getD z true = false) → ∀ x ∈ L0, x ∈ L) ∧ Region.ready md ops listed = [] ∧ ∀ w, Star L w → Q .normal a w
  | fuel + 1, listed, a, L => ((∀ z ∈ Z, listed.getD z true = false) → ∀ x ∈ L0, x ∈ L) ∧ (Region.ready md ops listed = [] → ∀ w, Star L w → Q .normal a w) ∧
    ∀ i ∈ Region.ready md ops listed, ∀ w, Star L w → wpOp P ops Q i (fun a' w' => ∃ L', Star L' w' ∧ RS P md ops Q L0 Z fuel (listed.setIfInBounds i true) a' L') a w
theorem wpAny_of_RS : ∀ (fuel : Nat) (listed : Array Bool) (a : Act) (L : List SProp) (w : World), Star L w → RS P md ops Q L0 Z fuel listed a L → wpAny P md ops Q fuel listed a w
  | 0, _, _, _, w, hM, h => ⟨h.2.1, h.2.2 w hM⟩
  | fuel + 1, _, _, _, w, hM, h => ⟨fun hr => h.2.1 hr w hM, fun i hi => wpOp_mono (fun a' w' ⟨L', hM', h'⟩ => wpAny_of_RS fuel _ a' L' w' hM' h') (h.2.2 i hi w hM)⟩
theorem RS.keeps {fuel : Nat} {listed : Array Bool} {a : Act} {L : List SProp} (h : RS P md ops Q L0 Z fuel listed a L) : (∀ z ∈ Z, listed.getD z true = false) → ∀ x ∈ L0, x ∈ L := by cases fuel <;> exact h.1
theorem RS_first {i : Nat} {oi : Oper} {v : Value} (hi : ops[i]? = some oi) (hsel : ∀ (j : Nat) (o : Oper) cs b, ops[j]? = some o → o.op ≠ .select cs b)
    (hQ : ∀ c a w, Q (.panic c) (a.put oi.dst v) w → Q (.panic c) a w) {f : Nat} (hz : ∀ z ∈ Z, z ≠ i ∧ reach md ops i f z = true) :
    ∀ (fuel : Nat) (listed : Array Bool) (a : Act) (L : List SProp),
      (∀ j oj, ops[j]? = some oj → j ≠ i → listed.getD j true = false → (∀ e ∈ oj.after, Region.binds md e = true → e.on ≠ i) → oi.apart ops oj = true) →
      i ∈ Region.ready md ops listed → Closed md ops listed → Stab P ops L0 oi v a → (∀ x ∈ L0, x ∈ L) →
      RS P md ops Q L0 Z fuel (listed.setIfInBounds i true) (a.put oi.dst v) L → RS P md ops Q L0 Z (fuel + 1) listed a L := by
  intro fuel
  induction fuel with
  | zero =>
    intro listed a L hfree hr hcl hy h0 H
    refine ⟨fun _ => h0, fun h => (by rw [h] at hr; cases hr), fun j hj w hM => ?_⟩
    by_cases hji : j = i
    · subst hji; exact hy.wpOp hi h0 hM fun w' hM' => ⟨L, hM', H⟩
    · have := ready_mono hj hji
      rw [H.2.1] at this
      cases this
  | succ fuel ih =>
    intro listed a L hfree hr hcl hy h0 H
    refine ⟨fun _ => h0, fun h => (by rw [h] at hr; cases hr), fun j hj w hM => ?_⟩
    by_cases hji : j = i
    · subst hji; exact hy.wpOp hi h0 hM fun w' hM' => ⟨L, hM', H⟩
    · have h1 := H.2.2 j (ready_mono hj hji) w hM
      obtain ⟨hjun, oj, hoj, hall⟩ := mem_ready.1 hj
      have hnot : ∀ e ∈ oj.after, Region.binds md e = true → e.on ≠ i := fun e he hb heq => by
        have h1 := hall e he hb
        have h0 := (mem_ready.1 hr).1
        rw [heq] at h1
        rcases Nat.lt_or_ge i listed.size with h' | h'
        · simp [h'] at h0 h1; rw [h0] at h1; cases h1
        · simp [Array.getElem?_eq_none h'] at h1
      have h2 := wpOp_putS hoj (hfree j oj hoj hji hjun hnot) (fun cs b => hsel i oi cs b hi) (fun cs b => hsel j oj cs b hoj) hQ hy h1
      have hfree' : ∀ k ok, ops[k]? = some ok → k ≠ i → (listed.setIfInBounds j true).getD k true = false →
          (∀ e ∈ ok.after, Region.binds md e = true → e.on ≠ i) → oi.apart ops ok = true := fun k ok hk hki hun hno => by
        refine hfree k ok hk hki ?_ hno
        by_cases hjk : j = k
        · subst hjk; exact hjun
        · rw [getD_set_ne true hjk] at hun; exact hun
      have hcl' := hcl.set hj
      have hr' := ready_mono hr (Ne.symm hji)
      refine wpOp_mono (fun a' w' ⟨h3, L', hM', h4⟩ => ⟨L', hM', ih (listed.setIfInBounds j true) a' L' hfree' hr' hcl' h3 ?_ ?_⟩) h2
      · have h5 : (∀ z ∈ Z, ((listed.setIfInBounds i true).setIfInBounds j true).getD z true = false) → ∀ x ∈ L0, x ∈ L' := by cases fuel <;> exact h4.1
        refine h5 fun z hzz => ?_
        obtain ⟨hzi, hzr⟩ := hz z hzz
        rw [← Array.setIfInBounds_comm _ _ hji, getD_set_ne true (Ne.symm hzi)]
        cases hb : (listed.setIfInBounds j true).getD z true with
        | false => rfl
        | true =>
          have := hcl'.reach i f z hzr hb
          rw [(mem_ready.1 hr').1] at this
          cases this
      · rw [Array.setIfInBounds_comm _ _ hji]
        exact h4
def closedB (md : Region.Mode) (ops : Array Oper) (listed : Array Bool) : Bool := (List.range ops.size).all fun j => match ops[j]? with | some o => !listed.getD j true || o.after.toList.all fun e => !Region.binds md e || listed.getD e.on true | none => true
theorem closedB_spec {listed : Array Bool} (h : closedB md ops listed = true) : Closed md ops listed := by
  intro j o ho hl e he hb
  unfold closedB at h
  have hj : j < ops.size := (Array.getElem?_eq_some_iff.1 ho).1
  have h1 := List.all_eq_true.1 h j (List.mem_range.2 hj)
  simp only [ho, hl, Bool.not_true, Bool.false_or] at h1
  have h2 := List.all_eq_true.1 h1 e (by simpa using he)
  simpa [hb] using h2
def zB (md : Region.Mode) (ops : Array Oper) (Z : List Nat) (i : Nat) : Bool := Z.all fun z => z != i && reach md ops i ops.size z
def takeB (md : Region.Mode) (ops : Array Oper) (Z : List Nat) (listed : Array Bool) (i : Nat) : Bool :=
  Region.noSelect ops && Region.free md ops listed i && (Region.ready md ops listed).contains i && closedB md ops listed && zB md ops Z i
theorem op_at {i : Nat} {oi : Oper} {tl : List Oper} (h : ops.toList.drop i = oi :: tl) : ops[i]? = some oi := by
  have h1 := congrArg List.head? h
  rw [List.head?_drop] at h1
  simpa using h1
/-- Number i first. -/
theorem RS_take {i : Nat} {oi : Oper} {tl : List Oper} {v : Value} {fuel : Nat} {listed : Array Bool} {a : Act} {L : List SProp} (hi0 : ops.toList.drop i = oi :: tl) (hb : takeB md ops Z listed i = true)
    (hQ : ∀ c a w, Q (.panic c) (a.put oi.dst v) w → Q (.panic c) a w) (h0 : ∀ x ∈ L0, x ∈ L) (hy : Stab P ops L0 oi v a)
    (h : RS P md ops Q L0 Z fuel (listed.setIfInBounds i true) (a.put oi.dst v) L) : RS P md ops Q L0 Z (fuel + 1) listed a L := by
  have hi := op_at hi0
  simp only [takeB, Bool.and_eq_true] at hb
  obtain ⟨⟨⟨⟨hs, hf⟩, hr⟩, hc⟩, hz⟩ := hb
  refine RS_first hi (Region.noSelect_spec hs) hQ (f := ops.size) (fun z hzz => ?_) fuel listed a L (Region.free_spec hi hf) (by simpa using hr) (closedB_spec hc) hy h0 h
  have := List.all_eq_true.1 hz z hzz
  simpa using this
/-- The one that may come up. -/
theorem RS_one {i : Nat} {oi : Oper} {tl : List Oper} {fuel : Nat} {listed : Array Bool} {a : Act} {L : List SProp} (hr : Region.ready md ops listed = [i]) (hi0 : ops.toList.drop i = oi :: tl) (hw : Region.wanted oi (yielded ops a.tmps) = true)
    (hk : (∀ x ∈ L0, x ∈ L) ∨ (Z.any fun z => listed.getD z true) = true)
    (h : ∀ w (K : Act → World → Prop), Star L w → (∀ a' L' w', Star L' w' → RS P md ops Q L0 Z fuel (listed.setIfInBounds i true) a' L' → K a' w') → Oper.wp P oi a w K Q) : RS P md ops Q L0 Z (fuel + 1) listed a L := by
  have hi := op_at hi0
  refine ⟨fun hz => ?_, fun h0 => (by rw [h0] at hr; cases hr), fun j hj w hM => ?_⟩
  · rcases hk with hk | hk
    · exact hk
    · obtain ⟨z, hzz, hb⟩ := List.any_eq_true.1 hk
      rw [hz z hzz] at hb
      cases hb
  · rw [hr] at hj
    rcases List.mem_singleton.1 hj with rfl
    unfold wpOp
    simp only [hi, hw, if_true]
    exact .inl (h w _ hM fun a' L' w' hM' h' => ⟨L', hM', h'⟩)
/-- One out of several that may come up. -/
theorem RS_ready {rs : List Nat} {fuel : Nat} {listed : Array Bool} {a : Act} {L : List SProp} (hr : Region.ready md ops listed = rs) (hne : rs ≠ [])
    (hk : (∀ x ∈ L0, x ∈ L) ∨ (Z.any fun z => listed.getD z true) = true)
    (h : ∀ i ∈ rs, ∀ w, Star L w → wpOp P ops Q i (fun a' w' => ∃ L', Star L' w' ∧ RS P md ops Q L0 Z fuel (listed.setIfInBounds i true) a' L') a w) : RS P md ops Q L0 Z (fuel + 1) listed a L := by
  refine ⟨fun hz => ?_, fun h0 => absurd (hr ▸ h0) hne, hr ▸ h⟩
  rcases hk with hk | hk
  · exact hk
  · obtain ⟨z, hzz, hb⟩ := List.any_eq_true.1 hk
    rw [hz z hzz] at hb
    cases hb
theorem RS_done {fuel : Nat} {listed : Array Bool} {a : Act} {L : List SProp} (hr : Region.ready md ops listed = []) (hk : (∀ x ∈ L0, x ∈ L) ∨ (Z.any fun z => listed.getD z true) = true)
    (h : ∀ w, Star L w → Q .normal a w) : RS P md ops Q L0 Z fuel listed a L := by
  have hk' : (∀ z ∈ Z, listed.getD z true = false) → ∀ x ∈ L0, x ∈ L := fun hz => by
    rcases hk with hk | hk
    · exact hk
    · obtain ⟨z, hzz, hb⟩ := List.any_eq_true.1 hk
      rw [hz z hzz] at hb
      cases hb
  cases fuel with
  | zero => exact ⟨hk', hr, h⟩
  | succ n => exact ⟨hk', fun _ => h, by rw [hr]; intro i hi; cases hi⟩
theorem region_RS (L0 : List SProp) (Z : List Nat) {id : Nat} {a : Act} {L : List SProp} {w : World} (hm : P.follows .mixedOrders = true) (hM : Star L w) (h : RS P .any ops Q L0 Z ops.size (Array.replicate ops.size false) a L) :
    (Code.region id ops true).wp P Q a w := wp_region_any hm (wpAny_of_RS _ _ _ L _ (hM.drew) h)
theorem stab_pure {o : Oper} {v : Value} {a : Act} (hw : Region.wanted o (yielded ops a.tmps) = true) (hy : ∀ w, (execOp a.eval o).run P w = .ok (.value v) w) : Stab P ops L0 o v a :=
  .inl ⟨hw, fun L w _ hM => by rw [hy w]; exact ⟨rfl, hM⟩⟩
theorem stab_read {o : Oper} {v : Value} {a : Act} (hw : Region.wanted o (yielded ops a.tmps) = true) (hy : ∀ L w, (∀ x ∈ L0, x ∈ L) → Star L w → (execOp a.eval o).run P w = .ok (.value v) w) : Stab P ops L0 o v a :=
  .inl ⟨hw, fun L w hL hM => by rw [hy L w hL hM]; exact ⟨rfl, hM⟩⟩
theorem stab_call {o : Oper} {v : Value} {a : Act} {f : FuncId} {args : Array Value} (hw : Region.wanted o (yielded ops a.tmps) = true) (hr : ∀ w, (execOp a.eval o).run P w = .ok (.enter f args) w)
    (hc : ∀ L w, (∀ x ∈ L0, x ∈ L) → Star L w → Calls P f args w fun e w' => e = .returned v ∧ Star L w') : Stab P ops L0 o v a :=
  .inl ⟨hw, fun L w hL hM => by rw [hr w]; exact hc L w hL hM⟩
theorem ws_call {o : Oper} {a : Act} {w : World} {K : Act → World → Prop} {f : FuncId} {args : Array Value} (hr : (execOp a.eval o).run P w = .ok (.enter f args) w) {R : Ending → World → Prop} (hc : Calls P f args w R)
    (h : ∀ r w', R r w' → ∃ v, r = .returned v ∧ K (a.put o.dst v) w') : Oper.wp P o a w K Q := by
  unfold Oper.wp
  rw [hr]
  refine Calls.mono hc fun r w' hR => ?_
  obtain ⟨v, rfl, hk⟩ := h r w' hR
  exact hk
section
variable {L : List SProp} {w : World} {o : Oper} {a : Act}
theorem ex_load1 (hM : Star L w) {ty : TypeId} {x : Operand} (ho : o.op = .load ty x) {g i : Nat} (hx : a.eval x = .pointer (some ⟨g, i, none⟩)) {t : TypeId} {cs : Array Value} (hb : cellsE g t cs ∈ L) {v : Value} (hv : cs[i]? = some v)
    (hp : plainTy P ty = true) : (execOp a.eval o).run P w = .ok (.value v) w := by
  have hr := run_load1 (P := P) w ty ⟨g, i, none⟩ v hp (((hM.blk hb).cell i).trans hv)
  unfold execOp
  simp only [ho, hx, Instr.loadAt, Instr.sureAddr, Sem.run_bind, Sem.run_pure, Result.andThen_ok, hr]
theorem ex_rowload {ty : TypeId} {x : Operand} (ho : o.op = .load ty x) {ad : Addr} {k : Nat} (hx : a.eval x = .pointer (some (ad.add k))) {n : Nat} {xs : List Value} (hr : Rd w 1 (some ad) n xs) {v : Value} (hv : xs[k]? = some v)
    (hp : plainTy P ty = true) : (execOp a.eval o).run P w = .ok (.value v) w := by
  have hk : k < n := by have h1 := (List.getElem?_eq_some_iff.1 hv).1; have h2 := hr.len; omega
  obtain ⟨ad', e, _, hc⟩ := hr.2 (by omega)
  injection e with e
  subst e
  have hrun := run_load1 (P := P) w ty _ v hp (hc k v hv)
  unfold execOp
  simp only [ho, hx, Instr.loadAt, Instr.sureAddr, Sem.run_bind, Sem.run_pure, Result.andThen_ok, hrun]
theorem ex_load_at {ty : TypeId} {x : Operand} (ho : o.op = .load ty x) {ad : Addr} (hx : a.eval x = .pointer (some ad)) (cs : List Value) (hc : ∀ j v, cs[j]? = some v → w.cell? (ad.add j) = some v) {n : Nat} (hn : cs.length = n) (hp : rowTy P ty n = true) :
    (execOp a.eval o).run P w = .ok (.value (.agg cs.toArray)) w := by
  obtain ⟨⟨d, h1, h2⟩, h3⟩ := rowTy_und hp
  unfold execOp
  simp only [ho, hx, Instr.loadAt, Instr.sureAddr, Sem.run_bind, Sem.run_pure, Result.andThen_ok, run_loadVar_at w ad ty cs d hc h1 (by cases d <;> simp_all) (by rw [h3, hn])]
theorem ex_load (hM : Star L w) {ty : TypeId} {x : Operand} (ho : o.op = .load ty x) {g : Nat} (hx : a.eval x = .pointer (some ⟨g, 0, none⟩)) {t : TypeId} {cs : Array Value} (hb : cellsE g t cs ∈ L)
    {n : Nat} (hn : cs.size = n) (hp : rowTy P ty n = true) : (execOp a.eval o).run P w = .ok (.value (.agg cs)) w := by
  have := ex_load_at (P := P) (a := a) (o := o) ho hx cs.toList (fun j v hj => by rw [add_lit, Nat.zero_add, (hM.blk hb).cell]; simpa using hj) (by simpa using hn) hp
  simpa using this
/-- A row of a row of rows. -/
theorem ex_rowload_row {ty : TypeId} {x : Operand} (ho : o.op = .load ty x) {ad : Addr} {k size : Nat} (hx : a.eval x = .pointer (some (ad.add (k * size)))) {n : Nat} {xs : List Value} (hr : Rd w size (some ad) n xs) (vs : List Value) (hv : ∀ j v, vs[j]? = some v → xs[k * size + j]? = some v) (hn : vs.length = size) (hk : k < n)
    (hp : rowTy P ty size = true) : (execOp a.eval o).run P w = .ok (.value (.agg vs.toArray)) w := by
  obtain ⟨ad', e, _, hc⟩ := hr.2 (by omega)
  injection e with e
  subst e
  exact ex_load_at ho hx vs (fun j v hj => by rw [add_of_add]; exact hc _ v (hv j v hj)) hn hp
theorem ex_string {src dst : TypeId} {x : Operand} (ho : o.op = .convert src dst x) (e : TypeId)
    (hs : P.underlying src = some (.slice e)) (hd : P.underlying dst = some .string) (he : P.underlying e = some (.int .u8)) {A : Option Addr} {n c : Nat} (hx : a.eval x = .slice A n c) {l : List UInt8} (hr : Rd w 1 A n (bvs l)) :
    (execOp a.eval o).run P w = .ok (.value (.string ⟨l.toArray⟩)) w := by
  have hn : n = l.length := by have := hr.1; rw [bvs_len] at this; omega
  subst hn
  have hrun : (convert src dst (.slice A l.length c)).run P w = .ok (.string ⟨l.toArray⟩) w := by
    rcases Nat.eq_zero_or_pos l.length with h0 | h0
    · have hl : l = [] := List.eq_nil_of_length_eq_zero h0
      subst hl
      rw [run_convert_bytes_string w src dst e A _ c hs he hd]
      cases A with
      | none => rfl
      | some ad => simp [Conv.bytesToString, loadCells]; rfl
    · obtain ⟨ad, rfl, hb, hc⟩ := hr.2 h0
      exact run_convert_bytes_back w src dst e ad c l hs he hd fun j hj => hc j _ (bvs_get l j hj)
  unfold execOp
  simp only [ho, hx, Sem.run_bind, hrun, Result.andThen_ok, Sem.run_pure]
end
end
end Go.Proofs.Ytbejifbiffeamaa
set_option linter.unusedSimpArgs false
set_option linter.unusedVariables false
namespace Go.Proofs.Ytbejifbiffeamaa
open Go.RowKit
/-- The slice at A is the only way to its block; its n elements (size cells each) are xs. -/
def Tail (w : World) (e : TypeId) (size : Nat) (A : Option Addr) (n c : Nat) (xs : List Value) : Prop :=
  xs.length = n * size ∧ n ≤ c ∧ c ≤ maxLen ∧ ((A = none ∧ c = 0) ∨ ∃ g off cur, A = some ⟨g, off, none⟩ ∧ Blk w g e cur ∧ off + c * size ≤ cur.size ∧ (cur.toList.drop off).take (n * size) = xs)
theorem Tail.rd {w : World} {e : TypeId} {size : Nat} {A : Option Addr} {n c : Nat} {xs : List Value} (h : Tail w e size A n c xs) : Rd w size A n xs := by
  obtain ⟨h1, h2, h3, ⟨rfl, rfl⟩ | ⟨g, off, cur, rfl, hb, hs, hx⟩⟩ := h
  · exact ⟨h1, fun h => by omega⟩
  · refine ⟨h1, fun hn => ⟨_, rfl, hb.lt, fun j u hu => ?_⟩⟩
    rw [add_lit, hb.cell]
    rw [← hx, List.getElem?_take] at hu
    split at hu
    · rw [List.getElem?_drop] at hu; simpa using hu
    · cases hu
def tailE (e : TypeId) (size : Nat) (A : Option Addr) (n c : Nat) (xs : List Value) : SProp where
  fp k := ∃ ad, A = some ad ∧ k = ad.block
  ro := false
  holds w := Tail w e size A n c xs
  lt w h k hk := by
    obtain ⟨ad, rfl, rfl⟩ := hk
    obtain ⟨_, _, _, ⟨h, _⟩ | ⟨g, off, cur, h, hb, _⟩⟩ := h
    · cases h
    · injection h with h; subst h; exact hb.lt
  stable w w' ho h := by
    obtain ⟨h1, h2, h3, h | ⟨g, off, cur, rfl, hb, hs⟩⟩ := h
    · exact ⟨h1, h2, h3, .inl h⟩
    · exact ⟨h1, h2, h3, .inr ⟨g, off, cur, rfl, (ho.block g ⟨_, rfl, rfl⟩).trans hb, hs⟩⟩
namespace Star
variable {L R : List SProp} {w w' : World} {e : TypeId} {size n c : Nat} {A : Option Addr} {xs : List Value}
theorem niltail (e : TypeId) (size : Nat) (h : Star L w) : Star (tailE e size none 0 0 [] :: L) w := h.free (fun k ⟨_, e, _⟩ => by cases e) ⟨by simp, by omega, by unfold maxLen; omega, .inl ⟨rfl, rfl⟩⟩
theorem tail_freeze (h : Star (tailE e size A n c xs :: L) w) : Star (rowE size A n xs :: L) w :=
  h.as_ rfl (fun k ⟨ad, e, _, hk⟩ => ⟨ad, e, hk⟩) fun h => Tail.rd h
end Star
theorem Tail.first {w : World} {e : TypeId} {size : Nat} {A : Option Addr} {n c : Nat} {xs : List Value} (h : Tail w e size A n c xs) (P : Program) : (Builtin.firstCells size n (.slice A n c)).run P w = .ok xs.toArray w := by
  obtain ⟨h1, h2, h3, ⟨rfl, rfl⟩ | ⟨g, off, cur, rfl, hb, hs, hx⟩⟩ := h
  · obtain rfl : n = 0 := by omega
    obtain rfl : xs = [] := List.eq_nil_of_length_eq_zero (by simpa using h1)
    exact run_firstCells_none w size 0 0 0
  · have hn : n * size ≤ c * size := Nat.mul_le_mul_right _ h2
    exact run_firstCells_some w size n _ n c xs h1 fun j u hu => by
      rw [add_lit, hb.cell]
      rw [← hx, List.getElem?_take] at hu
      split at hu
      · rw [List.getElem?_drop] at hu; simpa using hu
      · cases hu
section
variable {P : Program} {w : World} {ops : Array Oper} {o : Oper} {a : Act} {Q : Exit → Act → World → Prop} {L R : List SProp} {K : Act → World → Prop}
theorem src_row {size : Nat} {tx e' : TypeId} (hk : P.underlying tx = some (.slice e')) {A : Option Addr} {n : Nat} (c : Nat) {xs : List Value} (h : Rd w size A n xs) (h1 : ∀ u ∈ xs, u.oneCell' = true) : Src P size tx (.slice A n c) n xs w := by
  rcases Nat.eq_zero_or_pos n with rfl | hn
  · obtain rfl : xs = [] := List.eq_nil_of_length_eq_zero (by simpa using h.1)
    cases A with
    | none => exact Src.ofNil w hk c
    | some ad => exact Src.ofSlice w hk ad 0 c [] (by simp) (fun j u hu => by cases hu) (fun _ h => by cases h)
  · obtain ⟨ad, rfl, _, hc⟩ := h.2 hn
    exact Src.ofSlice w hk ad n c xs h.1 hc h1
/-- append onto a tail. -/
theorem ws_app_big (hM : Star L w) {s x : Operand} {t tx : TypeId} (ho : o.op = .call { callee := .builtin .append, args := #[s, x], argTypes := #[t, tx] })
    {B : Option Addr} {n c0 : Nat} (hs : a.eval s = .slice B n c0)
    (e : TypeId) (z : Value) (size bytes : Nat) (ht : P.underlying t = some (.slice e)) (hi : (P.info? e).map (fun i => (i.zero, i.size, i.bytes)) = some (some z, size, bytes)) (hzs : z.cells.size = size)
    {xs : List Value} (hb : Take (tailE e size B n c0 xs) L R) {m : Nat} {news : List Value} (hr : Src P size tx (a.eval x) m news w) (hb2 : (n + m) * bytes ≤ 140737488355328) (h63 : n + m ≤ maxLen)
    (h : ∀ A' c' w1, Star (tailE e size A' (n + m) c' (xs ++ news) :: R) w1 → K (a.put o.dst (.slice A' (n + m) c')) w1) : Oper.wp P o a w K Q := by
  obtain ⟨i, hi0, hz, hsize, hby⟩ := info_parts hi
  have hT : Tail w e size B n c0 xs := (hM.take hb).head
  have hT' : Tail w.drew e size B n c0 xs := hT
  have hfirst := hT'.first P
  subst hsize hby
  unfold Oper.wp execOp
  simp only [ho, resolve, invoke, builtin, Sem.run_bind, Sem.run_pure, Result.andThen_ok, List.map_toArray, List.map_cons, List.map_nil, hs]
  have hnl := hr.newsLen
  by_cases hroom : n + m ≤ c0
  · obtain ⟨h1, h2, h3, ⟨rfl, rfl⟩ | ⟨g, off, cur, rfl, hB, hS, hX⟩⟩ := hT
    · obtain ⟨rfl, rfl⟩ : n = 0 ∧ m = 0 := by omega
      obtain rfl : xs = [] := List.eq_nil_of_length_eq_zero (by simpa using h1)
      obtain rfl : news = [] := List.eq_nil_of_length_eq_zero (by simpa using hnl)
      have hrun : (Builtin.append_ #[t, tx] o.type #[.slice none 0 0, a.eval x]).run P w = .ok (.slice none 0 0) w := by
        rcases hr.kind with ⟨e', hk⟩ | hk <;> simp [Builtin.append_, run_underlying ht, run_underlying hk, sizeOf, typeInfo, hi0, hr.len, hr.cells]
      rw [hrun]
      exact h none 0 w (by simpa using hM.take hb)
    · have hmc : (n + m) * i.size ≤ c0 * i.size := Nat.mul_le_mul_right _ hroom
      rw [Nat.add_mul] at hmc
      have hrun : (Builtin.append_ #[t, tx] o.type #[.slice (some ⟨g, off, none⟩) n c0, a.eval x]).run P w = .ok (.slice (some ⟨g, off, none⟩) (n + m) c0) (w.setRow g (cur.toList.take (off + n * i.size) ++ news ++ cur.toList.drop (off + n * i.size + m * i.size)).toArray) := by
        have hst := run_storeCells_at P g (off + n * i.size) e news 0 cur w hB (by rw [hnl]; omega) hr.one
        simp only [Nat.add_zero, hnl] at hst
        rcases hr.kind with ⟨e', hk⟩ | hk <;> simp [Builtin.append_, run_underlying ht, run_underlying hk, sizeOf, typeInfo, hi0, hr.len, hroom, hr.cells, Addr.add_lit, hst]
      rw [hrun]
      refine h _ _ _ ((hM.take hb).put (bs := [g]) rfl (setRow_ch w g _) (fun b hb => .inl (by rcases List.mem_singleton.1 hb with rfl; exact ⟨_, rfl, rfl⟩)) ⟨?_, hroom, h3, .inr ⟨g, off, _, rfl, setRow_blk hB _, ?_, ?_⟩⟩ fun k hk => .inl hk)
      · rw [List.length_append, h1, hnl, Nat.add_mul]
      · simp only [List.size_toArray, List.length_append, List.length_take, List.length_drop, Array.length_toList, hnl]; omega
      · simp only [List.toList_toArray]
        have hto : (cur.toList.take (off + n * i.size)).drop off = xs := by rw [← hX, List.drop_take]; congr 1; omega
        have hl1 : off ≤ (cur.toList.take (off + n * i.size)).length := by simp; omega
        rw [List.append_assoc, List.drop_append_of_le_length hl1, hto, ← List.append_assoc]
        rw [List.take_append_of_le_length (by rw [List.length_append, h1, hnl, Nat.add_mul]; omega)]
        rw [List.take_of_length_le (by rw [List.length_append, h1, hnl, Nat.add_mul]; omega)]
  · have hrun := run_append_grow_src (P := P) w t tx o.type e i z ht hi0 hz B n c0 xs hfirst (a.eval x) m news hr (by omega) (by unfold maxLen at h63; omega) (growslice_fits (by omega) hb2)
    rw [hrun]
    have hge := grownCap_ge w (n + m) c0 e
    have hcm : grownCap w (n + m) c0 e ≤ maxLen := grownCap_le_maxLen w (n + m) c0 e h63
    obtain ⟨h1, h2, h3, _⟩ := hT
    have hlen : (xs ++ news).length = (n + m) * i.size := by rw [List.length_append, h1, hnl, Nat.add_mul]
    refine h _ _ _ ((hM.drop_ hb).new_ ((Ch.refl _ _).drew.alloc _) ⟨hlen, hge, hcm, .inr ⟨w.heap.size, 0, _, rfl, heap_alloc_new w.drew _, ?_, ?_⟩⟩ fun k ⟨ad, e, hk⟩ => by injection e with e; subst e; rw [hk]; exact Nat.le_refl _)
    · simp only [Array.size_append, List.size_toArray, size_zeroCells, hzs, hlen, ← Nat.add_mul, Nat.zero_add]
      rw [show n + m + (grownCap w (n + m) c0 e - (n + m)) = grownCap w (n + m) c0 e by omega]
      exact Nat.le_refl _
    · simp only [Array.toList_append, List.drop_zero]
      rw [← hlen]
      exact List.take_left
/-- append onto a tail. -/
theorem ws_app (hM : Star L w) {s x : Operand} {t tx : TypeId} (ho : o.op = .call { callee := .builtin .append, args := #[s, x], argTypes := #[t, tx] })
    {B : Option Addr} {n c0 : Nat} (hs : a.eval s = .slice B n c0)
    (e : TypeId) (z : Value) (size bytes : Nat) (ht : P.underlying t = some (.slice e)) (hi : (P.info? e).map (fun i => (i.zero, i.size, i.bytes)) = some (some z, size, bytes)) (hzs : z.cells.size = size)
    {xs : List Value} (hb : Take (tailE e size B n c0 xs) L R) {m : Nat} {news : List Value} (hr : Src P size tx (a.eval x) m news w) (hbytes : (n + m) * (bytes + 1) ≤ 140737488355328)
    (h : ∀ A' c' w1, Star (tailE e size A' (n + m) c' (xs ++ news) :: R) w1 → K (a.put o.dst (.slice A' (n + m) c')) w1) : Oper.wp P o a w K Q :=
  ws_app_big hM ho hs e z size bytes ht hi hzs hb hr (Nat.le_trans (Nat.mul_le_mul_left _ (Nat.le_succ _)) hbytes) (by
    have : (n + m) * 1 ≤ (n + m) * (bytes + 1) := Nat.mul_le_mul_left _ (by omega)
    unfold maxLen; omega) h
end
end Go.Proofs.Ytbejifbiffeamaa
set_option linter.unusedSimpArgs false
set_option linter.unusedVariables false
namespace Go.Proofs.Ytbejifbiffeamaa
open Go.RowKit Go.MapKept
open Go.Maps (Keyed)
open Go.ChangeMaps (setBlock heap_setBlock_same heap_setBlock_other)
/-- What a map's entries hold: keys and values, in any order. -/
def MapKV (P : Program) (k : TypeId) (es : Array MapEntry) (clock : Nat) (m : List (Value × Value)) : Prop :=
  Stamped es clock ∧ (∀ e ∈ es.toList, ∃ l, keyOf P k e.key = some l) ∧ (es.toList.map fun e => (e.key, e.val)).Perm m
def mapE (P : Program) (k : TypeId) (b : Nat) (m : List (Value × Value)) : SProp where
  fp j := j = b
  ro := false
  holds w := ∃ es clock, w.heap[b]? = some (.map es clock) ∧ MapKV P k es clock m
  lt w h j hj := by
    subst hj
    obtain ⟨es, clock, h, _⟩ := h
    exact (Array.getElem?_eq_some_iff.1 h).1
  stable w w' ho h := by
    obtain ⟨es, clock, h, h2⟩ := h
    exact ⟨es, clock, (ho.block b rfl).trans h, h2⟩
/-- A map that is ranged over: what is still to come. -/
def rangeE (P : Program) (k : TypeId) (b g : Nat) (m left : List (Value × Value)) : SProp where
  fp j := j = b ∨ j = g
  ro := false
  holds w := ∃ es clock seen, w.heap[b]? = some (.map es clock) ∧ MapKV P k es clock m ∧ w.heap[g]? = some (.mapIter (some b) clock seen clock) ∧ ((leftOf es seen).toList.map fun e => (e.key, e.val)).Perm left ∧ b ≠ g
  lt w h j hj := by
    obtain ⟨es, clock, seen, h1, _, h2, _⟩ := h
    rcases hj with rfl | rfl
    · exact (Array.getElem?_eq_some_iff.1 h1).1
    · exact (Array.getElem?_eq_some_iff.1 h2).1
  stable w w' ho h := by
    obtain ⟨es, clock, seen, h1, h2, h3, h4⟩ := h
    exact ⟨es, clock, seen, (ho.block b (.inl rfl)).trans h1, h2, (ho.block g (.inr rfl)).trans h3, h4⟩
/-- .. and the entry that was handed out last. -/
def entryE (P : Program) (k : TypeId) (b g : Nat) (m left : List (Value × Value)) (key val : Value) : SProp where
  fp j := j = b ∨ j = g
  ro := false
  holds w := (rangeE P k b g m left).holds w ∧ ∀ w', w'.heap[b]? = w.heap[b]? → w'.heap[g]? = w.heap[g]? → (Instr.entry (.pointer (some ⟨g, 0, none⟩))).run P w' = .ok (.tuple #[key, val]) w'
  lt w h j hj := (rangeE P k b g m left).lt w h.1 j hj
  stable w w' ho h := ⟨(rangeE P k b g m left).stable w w' ho h.1, fun w2 h1 h2 => h.2 w2 (h1.trans (ho.block b (.inl rfl))) (h2.trans (ho.block g (.inr rfl)))⟩
theorem nodup_val {m : List (Value × Value)} (h : (m.map (·.1)).Nodup) {key v v' : Value} (h1 : (key, v) ∈ m) (h2 : (key, v') ∈ m) : v = v' := by
  induction m with
  | nil => cases h1
  | cons p m ih =>
    simp only [List.map_cons, List.nodup_cons] at h
    rcases List.mem_cons.1 h1 with e1 | h1
    · rcases List.mem_cons.1 h2 with e2 | h2
      · rw [← e1] at e2; injection e2 with _ e2; exact e2.symm
      · exact absurd (List.mem_map.2 ⟨_, h2, by rw [← e1]⟩) h.1
    · rcases List.mem_cons.1 h2 with e2 | h2
      · exact absurd (List.mem_map.2 ⟨_, h1, by rw [← e2]⟩) h.1
      · exact ih h.2 h1 h2
theorem left_perm {es : Array MapEntry} {seen : Array Nat} {e : MapEntry} (hn : (es.toList.map (·.born)).Nodup) (he : e ∈ (leftOf es seen).toList) : (leftOf es seen).toList.Perm (e :: (leftOf es (seen.push e.born)).toList) := by
  have h1 : (leftOf es (seen.push e.born)).toList = (leftOf es seen).toList.filter fun x => !(x.born == e.born) := by
    unfold leftOf
    rw [Array.toList_filter, Array.toList_filter, List.filter_filter]
    refine List.filter_congr fun x _ => ?_
    simp only [Array.contains_push, Bool.not_or]
    rw [Bool.and_comm]
  have hsub : ((leftOf es seen).toList.map (·.born)).Nodup := by
    unfold leftOf
    rw [Array.toList_filter]
    exact (List.filter_sublist.map _).nodup hn
  rw [h1]
  generalize (leftOf es seen).toList = l at he hsub
  clear h1 hn
  induction l with
  | nil => cases he
  | cons x l ih =>
    simp only [List.map_cons, List.nodup_cons] at hsub
    rcases List.mem_cons.1 he with rfl | he
    · have h2 : l.filter (fun x => !(x.born == e.born)) = l := List.filter_eq_self.2 fun y hy => by
        have : y.born ≠ e.born := fun h => hsub.1 (List.mem_map.2 ⟨y, hy, h⟩)
        simpa using this
      rw [List.filter_cons_of_neg (by simp), h2]
    · have hne : x.born ≠ e.born := fun h => hsub.1 (List.mem_map.2 ⟨e, he, h.symm⟩)
      rw [List.filter_cons_of_pos (by simpa using hne)]
      exact ((ih he hsub.2).cons x).trans (List.Perm.swap _ _ _)
theorem MapKV.nodup {P : Program} {k : TypeId} {es : Array MapEntry} {clock : Nat} {m : List (Value × Value)} (h : MapKV P k es clock m) : (m.map (·.1)).Nodup := by
  have h1 := h.1.2.2
  have h2 := h.2.2.map (·.1)
  rw [List.map_map] at h2
  exact h2.nodup_iff.1 h1
theorem MapKV.perm {P : Program} {k : TypeId} {es : Array MapEntry} {clock : Nat} {m m' : List (Value × Value)} (h : MapKV P k es clock m) (hp : m.Perm m') : MapKV P k es clock m' := ⟨h.1, h.2.1, h.2.2.trans hp⟩
theorem setBlock_ch (w : World) (b : Nat) (o : Obj) : Ch [b] w (setBlock w b o) := ⟨rfl, rfl, rfl, by simp [setBlock], fun k _ hk => by simp only [List.mem_singleton] at hk; simp [setBlock, Ne.symm hk]⟩
theorem modify_kv (es : Array MapEntry) (i : Nat) (e : MapEntry) (key val : Value) (he : es[i]? = some e) (hk : e.key = key) :
    ∃ r : List (Value × Value), (es.toList.map fun e => (e.key, e.val)).Perm ((key, e.val) :: r) ∧ ((es.modify i fun e => { e with key := key, val := val }).toList.map fun e => (e.key, e.val)).Perm ((key, val) :: r) ∧ ((es.eraseIdxIfInBounds i).toList.map fun e => (e.key, e.val)).Perm r := by
  obtain ⟨hi, hei⟩ := Array.getElem?_eq_some_iff.1 he
  have hiL : i < es.toList.length := by simpa using hi
  have hL : es.toList = es.toList.take i ++ e :: es.toList.drop (i + 1) := by
    have h2 : e = es.toList[i] := by simp [← hei]
    rw [h2, List.getElem_cons_drop, List.take_append_drop]
  refine ⟨((es.toList.take i) ++ es.toList.drop (i + 1)).map fun e => (e.key, e.val), ?_, ?_, ?_⟩
  · conv => lhs; rw [hL]
    simp only [List.map_append, List.map_cons, hk]
    exact List.perm_middle
  · have h3 : (es.modify i fun e => { e with key := key, val := val }).toList = es.toList.take i ++ { e with key := key, val := val } :: es.toList.drop (i + 1) := by
      rw [Array.toList_modify, List.modify_eq_take_cons_drop hiL]
      congr 2
      simp [← hei]
    rw [h3]
    simp only [List.map_append, List.map_cons]
    exact List.perm_middle
  · have h4 : (es.eraseIdxIfInBounds i).toList = es.toList.take i ++ es.toList.drop (i + 1) := by
      unfold Array.eraseIdxIfInBounds
      rw [dif_pos hi, Array.toList_eraseIdx, List.eraseIdx_eq_take_drop_succ]
    rw [h4]
theorem map_perm_cons {α β : Type} {f : α → β} {l : List α} {x : β} {r : List β} (h : (l.map f).Perm (x :: r)) : ∃ y l', l.Perm (y :: l') ∧ f y = x ∧ (l'.map f).Perm r := by
  obtain ⟨y, hy, hx⟩ := List.mem_map.1 (h.mem_iff.2 List.mem_cons_self)
  obtain ⟨s, t, rfl⟩ := List.append_of_mem hy
  refine ⟨y, s ++ t, List.perm_middle, hx, ?_⟩
  have h2 : ((s ++ y :: t).map f).Perm (f y :: (s ++ t).map f) := (List.perm_middle (a := y) (l₁ := s) (l₂ := t)).map f
  rw [hx] at h2
  exact (h2.symm.trans h).cons_inv
namespace Star
variable {L R : List SProp} {w : World} {P : Program} {k : TypeId} {b g : Nat} {m m' : List (Value × Value)}
theorem map_perm (h : Star (mapE P k b m :: L) w) (hp : m.Perm m') : Star (mapE P k b m' :: L) w :=
  h.as_ rfl (fun _ hk => hk) fun ⟨es, clock, h1, h2⟩ => ⟨es, clock, h1, h2.perm hp⟩
/-- The loop is left. -/
theorem range_done {left : List (Value × Value)} (h : Star (rangeE P k b g m left :: L) w) : Star (mapE P k b m :: L) w :=
  h.as_ rfl (fun _ hk => .inl hk) fun ⟨es, clock, seen, h1, h2, _⟩ => ⟨es, clock, h1, h2⟩
theorem entry_perm {left left' : List (Value × Value)} {key val : Value} (h : Star (entryE P k b g m left key val :: L) w) (hp : left.Perm left') : Star (entryE P k b g m left' key val :: L) w :=
  h.as_ rfl (fun _ hk => hk) fun ⟨⟨es, clock, seen, h1, h2, h3, h4, h5⟩, h6⟩ => ⟨⟨es, clock, seen, h1, h2, h3, h4.trans hp, h5⟩, h6⟩
theorem range_of_entry {left : List (Value × Value)} {key val : Value} (h : Star (entryE P k b g m left key val :: L) w) : Star (rangeE P k b g m left :: L) w :=
  h.as_ rfl (fun _ hk => hk) fun h => h.1
end Star
section
variable {P : Program} {w : World} {ops : Array Oper} {rest : List Oper} {a : Act} {Q : Exit → Act → World → Prop} {d : Option Tmp} {tp : TypeId} {pos : String} {af : Array Edge} {g : Option (Nat × Bool)}
theorem at_lookup' {t : TypeId} {x y : Operand} {ok : Bool} (h : wpList P ops Q (⟨d, .lookup t x y ok, tp, pos, af, g⟩ :: rest) a w) : wpList P ops Q (⟨d, .lookup t x y ok, tp, pos, af, g⟩ :: rest) a w := h
theorem at_range' {t : TypeId} {x : Operand} (h : wpList P ops Q (⟨d, .range t x, tp, pos, af, g⟩ :: rest) a w) : wpList P ops Q (⟨d, .range t x, tp, pos, af, g⟩ :: rest) a w := h
theorem at_makemap' {t : TypeId} {x : Option Operand} (h : wpList P ops Q (⟨d, .makeMap t x, tp, pos, af, g⟩ :: rest) a w) : wpList P ops Q (⟨d, .makeMap t x, tp, pos, af, g⟩ :: rest) a w := h
theorem at_entry' {x : Operand} (h : wpList P ops Q (⟨d, .entry x, tp, pos, af, g⟩ :: rest) a w) : wpList P ops Q (⟨d, .entry x, tp, pos, af, g⟩ :: rest) a w := h
theorem at_next' {x : Operand} {s : Bool} (h : wpList P ops Q (⟨d, .next x s, tp, pos, af, g⟩ :: rest) a w) : wpList P ops Q (⟨d, .next x s, tp, pos, af, g⟩ :: rest) a w := h
end
section
variable {P : Program} {w : World} {ops : Array Oper} {o : Oper} {a : Act} {Q : Exit → Act → World → Prop} {L R : List SProp} {K : Act → World → Prop} {k e : TypeId} {b g : Nat} {m : List (Value × Value)}
theorem ws_makemap (hM : Star L w) {t : TypeId} (ho : o.op = .makeMap t none) (k : TypeId)
    (h : ∀ b w1, Star (mapE P k b [] :: L) w1 → K (a.put o.dst (.map (some b))) w1) : Oper.wp P o a w K Q := by
  unfold Oper.wp
  simp only [execOp, ho, Option.map_none, Sem.run_bind, run_makeMap, Result.andThen_ok, Sem.run_pure]
  exact h _ _ (hM.new_ ((Ch.refl _ _).alloc _) (y := mapE P k w.heap.size []) ⟨#[], 0, (heap_alloc w _).1, stamped_empty 0, by simp, by simp⟩ fun j hj => by rw [hj]; exact Nat.le_refl _)
/-- m[k], m[k] with ok: there. -/
theorem ex_hit (hM : Star L w) {t : TypeId} {x ix : Operand} {ok : Bool} (ho : o.op = .lookup t x ix ok) (ht : P.underlying t = some (.map k e)) (hx : a.eval x = .map (some b)) {key v : Value} (hi : a.eval ix = key) (hb : mapE P k b m ∈ L) (KK : Keyed P k) {kl : Lit} (hkey : keyOf P k key = some kl) (hm : (key, v) ∈ m) :
    (execOp a.eval o).run P w = .ok (.value (if ok then .tuple #[v, .bool true] else v)) w := by
  obtain ⟨es, clock, h1, h2⟩ := hM.all _ hb
  have hnd := h2.nodup
  have hr : (Instr.lookup t (.map (some b)) key ok).run P w = .ok (if ok then .tuple #[v, .bool true] else v) w := by
    unfold Instr.lookup
    simp only [Sem.run_bind, run_underlying ht, Result.andThen_ok, MapKept.run_getObj_map h1, Sem.run_pure, KK.check w es.isEmpty hkey]
    rcases KK.find w hkey es.toList h2.2.1 with ⟨hf, hno⟩ | ⟨j, e0, hf, he, hk⟩
    · exfalso
      obtain ⟨e1, he1, h⟩ := List.mem_map.1 (h2.2.2.mem_iff.2 hm)
      injection h with h3 _
      exact hno e1 he1 h3
    · have hv : e0.val = v := by
        have h3 : (key, e0.val) ∈ m := h2.2.2.mem_iff.1 (List.mem_map.2 ⟨e0, List.mem_of_getElem? he, by rw [hk]⟩)
        exact nodup_val hnd h3 hm
      rw [hf]
      simp [hv]
  unfold execOp
  simp only [ho, hx, hi, Sem.run_bind, hr, Result.andThen_ok, Sem.run_pure]
theorem ex_miss (hM : Star L w) {t : TypeId} {x ix : Operand} {ok : Bool} (ho : o.op = .lookup t x ix ok) (ht : P.underlying t = some (.map k e)) {z : Value} (hz : ∀ w, (zeroValue e).run P w = .ok z w) (hx : a.eval x = .map (some b)) {key : Value} (hi : a.eval ix = key) (hb : mapE P k b m ∈ L) (KK : Keyed P k) {kl : Lit} (hkey : keyOf P k key = some kl) (hm : ∀ p ∈ m, p.1 ≠ key) :
    (execOp a.eval o).run P w = .ok (.value (if ok then .tuple #[z, .bool false] else z)) w := by
  obtain ⟨es, clock, h1, h2⟩ := hM.all _ hb
  have hr : (Instr.lookup t (.map (some b)) key ok).run P w = .ok (if ok then .tuple #[z, .bool false] else z) w := by
    unfold Instr.lookup
    simp only [Sem.run_bind, run_underlying ht, Result.andThen_ok, MapKept.run_getObj_map h1, Sem.run_pure, KK.check w es.isEmpty hkey]
    rcases KK.find w hkey es.toList h2.2.1 with ⟨hf, hno⟩ | ⟨j, e0, hf, he, hk⟩
    · rw [hf]
      simp [hz]
    · exfalso
      have h3 : (key, e0.val) ∈ m := h2.2.2.mem_iff.1 (List.mem_map.2 ⟨e0, List.mem_of_getElem? he, by rw [hk]⟩)
      exact hm _ h3 rfl
  unfold execOp
  simp only [ho, hx, hi, Sem.run_bind, hr, Result.andThen_ok, Sem.run_pure]
theorem ex_hit2 (hM : Star L w) {t : TypeId} {x ix : Operand} (ho : o.op = .lookup t x ix true) (ht : P.underlying t = some (.map k e)) (hx : a.eval x = .map (some b)) {key v : Value} (hi : a.eval ix = key) (hb : mapE P k b m ∈ L) (KK : Keyed P k) {kl : Lit} (hkey : keyOf P k key = some kl) (hm : (key, v) ∈ m) :
    (execOp a.eval o).run P w = .ok (.value (.tuple #[v, .bool true])) w := ex_hit hM ho ht hx hi hb KK hkey hm
theorem ex_hit1 (hM : Star L w) {t : TypeId} {x ix : Operand} (ho : o.op = .lookup t x ix false) (ht : P.underlying t = some (.map k e)) (hx : a.eval x = .map (some b)) {key v : Value} (hi : a.eval ix = key) (hb : mapE P k b m ∈ L) (KK : Keyed P k) {kl : Lit} (hkey : keyOf P k key = some kl) (hm : (key, v) ∈ m) :
    (execOp a.eval o).run P w = .ok (.value v) w := ex_hit hM ho ht hx hi hb KK hkey hm
theorem ex_miss2 (hM : Star L w) {t : TypeId} {x ix : Operand} (ho : o.op = .lookup t x ix true) (ht : P.underlying t = some (.map k e)) {z : Value} (hz : ∀ w, (zeroValue e).run P w = .ok z w) (hx : a.eval x = .map (some b)) {key : Value} (hi : a.eval ix = key) (hb : mapE P k b m ∈ L) (KK : Keyed P k) {kl : Lit} (hkey : keyOf P k key = some kl) (hm : ∀ p ∈ m, p.1 ≠ key) :
    (execOp a.eval o).run P w = .ok (.value (.tuple #[z, .bool false])) w := ex_miss hM ho ht hz hx hi hb KK hkey hm
/-- m[k] = v: a new key. -/
theorem ws_update_new (hM : Star L w) {t : TypeId} {x ix y : Operand} (ho : o.op = .mapUpdate t x ix y) (ht : P.underlying t = some (.map k e)) (hx : a.eval x = .map (some b)) {key v : Value} (hi : a.eval ix = key) (hy : a.eval y = v) (hb : Take (mapE P k b m) L R) (KK : Keyed P k) {kl : Lit} (hkey : keyOf P k key = some kl) (hm : ∀ p ∈ m, p.1 ≠ key)
    (h : ∀ w1, Star (mapE P k b ((key, v) :: m) :: R) w1 → K (a.put o.dst undef) w1) : Oper.wp P o a w K Q := by
  obtain ⟨es, clock, h1, h2⟩ := (hM.take hb).head
  have hr : (Instr.mapUpdate t (.map (some b)) key v).run P w = .ok () (setBlock w b (.map (es.push { key, val := v, born := clock }) (clock + 1))) := by
    unfold Instr.mapUpdate
    simp only [Sem.run_bind, run_underlying ht, Result.andThen_ok, MapKept.run_getObj_map h1, Sem.run_pure, KK.check w false hkey]
    rcases KK.find w hkey es.toList h2.2.1 with ⟨hf, hno⟩ | ⟨j, e0, hf, he, hk⟩
    · rw [hf]
      simp only [Result.andThen_ok, MapKept.run_setObj_map _ h1]
      rfl
    · exfalso
      have h3 : (key, e0.val) ∈ m := h2.2.2.mem_iff.1 (List.mem_map.2 ⟨e0, List.mem_of_getElem? he, by rw [hk]⟩)
      exact hm _ h3 rfl
  unfold Oper.wp execOp
  simp only [ho, hx, hi, hy, Sem.run_bind, hr, Result.andThen_ok, Sem.run_pure]
  refine h _ ((hM.take hb).put (bs := [b]) rfl (setBlock_ch w b _) (fun j hj => .inl (List.mem_singleton.1 hj)) ⟨_, _, heap_setBlock_same h1 _, stamped_push h2.1 fun x hx hxk => ?_, fun x hx => ?_, ?_⟩ fun j hj => .inl hj)
  · exact hm (x.key, x.val) (h2.2.2.mem_iff.1 (List.mem_map.2 ⟨x, hx, rfl⟩)) hxk
  · simp only [Array.toList_push, List.mem_append, List.mem_singleton] at hx
    rcases hx with hx | rfl
    · exact h2.2.1 x hx
    · exact ⟨_, hkey⟩
  · simp only [Array.toList_push, List.map_append, List.map_cons, List.map_nil]
    exact (List.perm_append_singleton _ _).trans (h2.2.2.cons _)
/-- m[k] = v: an old key. -/
theorem ws_update_old (hM : Star L w) {t : TypeId} {x ix y : Operand} (ho : o.op = .mapUpdate t x ix y) (ht : P.underlying t = some (.map k e)) (hx : a.eval x = .map (some b)) {key v old : Value} {m' : List (Value × Value)} (hi : a.eval ix = key) (hy : a.eval y = v) (hb : Take (mapE P k b m) L R) (KK : Keyed P k) {kl : Lit} (hkey : keyOf P k key = some kl) (hm : m.Perm ((key, old) :: m'))
    (h : ∀ w1, Star (mapE P k b ((key, v) :: m') :: R) w1 → K (a.put o.dst undef) w1) : Oper.wp P o a w K Q := by
  obtain ⟨es, clock, h1, h2⟩ := (hM.take hb).head
  have hnd := h2.nodup
  rcases KK.find w hkey es.toList h2.2.1 with ⟨hf, hno⟩ | ⟨j, e0, hf, he, hk⟩
  · exfalso
    obtain ⟨e1, he1, h⟩ := List.mem_map.1 (h2.2.2.mem_iff.2 (hm.mem_iff.2 List.mem_cons_self))
    injection h with h3 _
    exact hno e1 he1 h3
  · have he' : es[j]? = some e0 := by simpa using he
    have hr : (Instr.mapUpdate t (.map (some b)) key v).run P w = .ok () (setBlock w b (.map (es.modify j fun e => { e with key := key, val := v }) clock)) := by
      unfold Instr.mapUpdate
      simp only [Sem.run_bind, run_underlying ht, Result.andThen_ok, MapKept.run_getObj_map h1, Sem.run_pure, KK.check w false hkey, hf, he', Option.map_some, Option.getD_some, hk, KK.stays w hkey, MapKept.run_setObj_map _ h1]
      rfl
    obtain ⟨r, q1, q2, _⟩ := modify_kv es j e0 key v he' hk
    have hp : r.Perm m' := by
      have h3 := q1.symm.trans (h2.2.2.trans hm)
      have h4 : (key, e0.val) ∈ m := h2.2.2.mem_iff.1 (List.mem_map.2 ⟨e0, List.mem_of_getElem? he, by rw [hk]⟩)
      have h5 : e0.val = old := nodup_val hnd h4 (hm.mem_iff.2 List.mem_cons_self)
      rw [h5] at h3
      exact h3.cons_inv
    unfold Oper.wp execOp
    simp only [ho, hx, hi, hy, Sem.run_bind, hr, Result.andThen_ok, Sem.run_pure]
    refine h _ ((hM.take hb).put (bs := [b]) rfl (setBlock_ch w b _) (fun j hj => .inl (List.mem_singleton.1 hj)) ⟨_, _, heap_setBlock_same h1 _, stamped_modify h2.1 j _ (fun _ _ => rfl) (fun x _ hx => ?_), fun x hx => ?_, q2.trans (hp.cons _)⟩ fun j hj => .inl hj)
    · rw [he'] at hx
      injection hx with hx
      subst hx
      exact hk.symm
    · have h6 : (x.key, x.val) ∈ (key, v) :: r := q2.mem_iff.1 (List.mem_map.2 ⟨x, hx, rfl⟩)
      rcases List.mem_cons.1 h6 with h7 | h7
      · injection h7 with h7 _; rw [h7]; exact ⟨_, hkey⟩
      · obtain ⟨y, hy, h8⟩ := List.mem_map.1 (q1.mem_iff.2 (List.mem_cons_of_mem _ h7))
        injection h8 with h8 _; rw [← h8]; exact h2.2.1 y hy
/-- clear(m). -/
theorem ws_clear_map (hM : Star L w) {t : TypeId} {x : Operand} (ho : o.op = .call { callee := .builtin .clear, args := #[x], argTypes := #[t] }) (ht : P.underlying t = some (.map k e)) (hx : a.eval x = .map (some b)) (hb : Take (mapE P k b m) L R)
    (h : ∀ w1, Star (mapE P k b [] :: R) w1 → K (a.put o.dst (.tuple #[])) w1) : Oper.wp P o a w K Q := by
  obtain ⟨es, clock, h1, h2⟩ := (hM.take hb).head
  have hr : (Builtin.clear_ #[t] o.type #[.map (some b)]).run P w = .ok (.tuple #[]) (setBlock w b (.map #[] clock)) := by
    unfold Builtin.clear_
    simp [Sem.run_bind, run_underlying ht, Result.andThen_ok, MapKept.run_getObj_map h1, Sem.run_pure, MapKept.run_setObj_map _ h1]
    rfl
  unfold Oper.wp execOp
  simp only [ho, resolve, invoke, builtin, Sem.run_bind, Sem.run_pure, Result.andThen_ok, List.map_toArray, List.map_cons, List.map_nil, hx, hr]
  exact h _ ((hM.take hb).put (bs := [b]) rfl (setBlock_ch w b _) (fun j hj => .inl (List.mem_singleton.1 hj)) ⟨_, _, heap_setBlock_same h1 _, stamped_empty _, by simp, by simp⟩ fun j hj => .inl hj)
/-- for .. := range m: the loop begins. -/
theorem ws_range_map (hM : Star L w) {t : TypeId} {x : Operand} (ho : o.op = .range t x) (ht : P.underlying t = some (.map k e)) (hx : a.eval x = .map (some b)) (hb : Take (mapE P k b m) L R)
    (h : ∀ g w1, Star (rangeE P k b g m m :: R) w1 → K (a.put o.dst (.pointer (some ⟨g, 0, none⟩))) w1) : Oper.wp P o a w K Q := by
  obtain ⟨es, clock, h1, h2⟩ := (hM.take hb).head
  have hlt : b < w.heap.size := (Array.getElem?_eq_some_iff.1 h1).1
  unfold Oper.wp execOp
  simp only [ho, hx, Sem.run_bind, run_range_map w t k e b es clock ht h1, Result.andThen_ok, Sem.run_pure]
  refine h _ _ ((hM.take hb).put (bs := []) rfl ((Ch.refl _ _).alloc _) (by simp) (y := rangeE P k b w.heap.size m m) ⟨es, clock, #[], by rw [heap_alloc_old w _ hlt]; exact h1, h2, heap_alloc_new w _, ?_, by omega⟩ fun j hj => ?_)
  · have : leftOf es #[] = es := by unfold leftOf; exact Array.filter_eq_self.2 (by simp)
    rw [this]; exact h2.2.2
  · rcases hj with rfl | rfl
    · exact .inl rfl
    · exact .inr (Nat.le_refl _)
/-- The next round, or none. -/
theorem ws_next_map (hM : Star L w) {x : Operand} (ho : o.op = .next x false) (hx : a.eval x = .pointer (some ⟨g, 0, none⟩)) {left : List (Value × Value)} (hb : Take (rangeE P k b g m left) L R)
    (h0 : left = [] → ∀ w1, Star (mapE P k b m :: R) w1 → K (a.put o.dst (.tuple #[.bool false])) w1)
    (h1 : ∀ key val left' w1, left.Perm ((key, val) :: left') → Star (entryE P k b g m left' key val :: R) w1 → K (a.put o.dst (.tuple #[.bool true, key, val])) w1) : Oper.wp P o a w K Q := by
  obtain ⟨es, clock, seen, e1, e2, e3, e4, e5⟩ := (hM.take hb).head
  have hstart := hM.take hb
  rcases run_next_at (P := P) w o.type g b clock clock seen es clock e3 e1 e2.1.1 (Nat.le_refl _) with ⟨hz, hr⟩ | ⟨e0, he, w1, hw, hr⟩
  · have hl : left = [] := by
      have h9 := e4.length_eq
      rw [List.length_map, Array.length_toList, hz] at h9
      exact List.eq_nil_of_length_eq_zero h9.symm
    subst hl
    unfold Oper.wp execOp
    simp only [ho, hx, Sem.run_bind, hr, Result.andThen_ok, Sem.run_pure]
    exact h0 rfl _ hstart.range_done
  · have hst1 : Star (rangeE P k b g m left :: R) w1 := by rcases hw with rfl | rfl; exact hstart; exact hstart.drew
    have hmem := mem_left he
    have hg1 : w1.heap[g]? = some (.mapIter (some b) clock seen clock) := by rcases hw with rfl | rfl <;> exact e3
    have hb1 : w1.heap[b]? = some (.map es clock) := by rcases hw with rfl | rfl <;> exact e1
    have hgl : g < w1.heap.size := (Array.getElem?_eq_some_iff.1 hg1).1
    have hperm : ∃ left' : List (Value × Value), left.Perm ((e0.key, e0.val) :: left') ∧ ((leftOf es (seen.push e0.born)).toList.map fun e => (e.key, e.val)).Perm left' := by
      refine ⟨_, ?_, List.Perm.refl _⟩
      refine e4.symm.trans ?_
      have h7 : (leftOf es seen).toList.Perm (e0 :: (leftOf es (seen.push e0.born)).toList) := left_perm e2.1.2.1 he
      exact h7.map _
    obtain ⟨left', p1, p2⟩ := hperm
    unfold Oper.wp execOp
    simp only [ho, hx, Sem.run_bind, hr, Result.andThen_ok, Sem.run_pure]
    have hb2 : (setBlock w1 g (.mapIter (some b) clock (seen.push e0.born) clock)).heap[b]? = some (.map es clock) := by
      rw [show (setBlock w1 g (.mapIter (some b) clock (seen.push e0.born) clock)).heap[b]? = w1.heap[b]? by simp [setBlock, Ne.symm e5]]; exact hb1
    have hg2 : (setBlock w1 g (.mapIter (some b) clock (seen.push e0.born) clock)).heap[g]? = some (.mapIter (some b) clock (seen.push e0.born) clock) := by simp [setBlock, hgl]
    refine h1 e0.key e0.val left' _ p1 (hst1.put (bs := [g]) rfl (setBlock_ch w1 g _) (fun j hj => .inl (.inr (List.mem_singleton.1 hj))) (y := entryE P k b g m left' e0.key e0.val) ⟨⟨es, clock, _, hb2, e2, hg2, p2, e5⟩, fun w' q1 q2 => ?_⟩ fun j hj => .inl hj)
    exact run_entry_at w' g b clock seen es clock e0 (q2.trans hg2) (q1.trans hb2) hmem.1 e2.1.2.1
/-- .. the entries a list's images. -/
theorem ws_next_enc {α : Type} (enc : α → Value × Value) (hM : Star L w) {x : Operand} (ho : o.op = .next x false) (hx : a.eval x = .pointer (some ⟨g, 0, none⟩)) {lft : List α} (hb : Take (rangeE P k b g m (lft.map enc)) L R)
    (h0 : lft = [] → ∀ w1, Star (mapE P k b m :: R) w1 → K (a.put o.dst (.tuple #[.bool false])) w1)
    (h1 : ∀ y lft' w1, lft.Perm (y :: lft') → Star (entryE P k b g m (lft'.map enc) (enc y).1 (enc y).2 :: R) w1 → K (a.put o.dst (.tuple #[.bool true, (enc y).1, (enc y).2])) w1) : Oper.wp P o a w K Q :=
  ws_next_map hM ho hx hb (fun he => h0 (List.map_eq_nil_iff.1 he)) fun key val left' w1 hp hM1 => by
    obtain ⟨y, lft', p1, he, p2⟩ := map_perm_cons hp
    obtain rfl : key = (enc y).1 := by rw [he]
    obtain rfl : val = (enc y).2 := by rw [he]
    exact h1 y lft' w1 p1 (hM1.entry_perm p2.symm)
/-- The round's key and value. -/
theorem ex_entry (hM : Star L w) {x : Operand} (ho : o.op = .entry x) (hx : a.eval x = .pointer (some ⟨g, 0, none⟩)) {left : List (Value × Value)} {key val : Value} (hb : entryE P k b g m left key val ∈ L) :
    (execOp a.eval o).run P w = .ok (.value (.tuple #[key, val])) w := by
  have h := (hM.all _ hb).2 w rfl rfl
  unfold execOp
  simp only [ho, hx, Sem.run_bind, h, Result.andThen_ok, Sem.run_pure]
end
end Go.Proofs.Ytbejifbiffeamaa
set_option linter.unusedSimpArgs false
set_option linter.unusedVariables false
namespace Go.Proofs.Ytbejifbiffeamaa
open Go.RowKit
/-- A disk: what is sure, what was written last, which sectors are loose, the fuse. -/
structure Dsk where
  sure : List (List UInt8)
  now : List (List UInt8)
  lo : List Bool
  armed : Bool
  left : Int
namespace Dsk
def nw (D : Dsk) (i : Nat) : List UInt8 := D.now.getD i []
def su (D : Dsk) (i : Nat) : List UInt8 := D.sure.getD i []
def l (D : Dsk) (i : Nat) : Bool := D.lo.getD i false
def keys (D : Dsk) : List Nat := (List.range D.sure.length).filter D.l
structure ok (D : Dsk) : Prop where
  ln : D.now.length = D.sure.length
  ll : D.lo.length = D.sure.length
  s64 : ∀ b ∈ D.sure, b.length = 64
  n64 : ∀ b ∈ D.now, b.length = 64
  same : ∀ i, i < D.sure.length → D.l i = false → D.nw i = D.su i
  size : D.sure.length ≤ 65536
  i64a : -9223372036854775808 ≤ D.left
  i64b : D.left ≤ 9223372036854775807
  arm : D.armed = true → 0 ≤ D.left
/-- A call counts. -/
def dec (D : Dsk) : Dsk := { D with left := IntKind.i64.wrap (D.left - 1) }
/-- A sector is written. -/
def put (D : Dsk) (i : Nat) (b : List UInt8) : Dsk := { D with now := D.now.set i b, lo := D.lo.set i true }
/-- All is sure. -/
def calm (D : Dsk) (s : List (List UInt8)) : Dsk := { D with sure := s, now := s, lo := List.replicate s.length false }
end Dsk
abbrev iv64 (i : Nat) : Value := .int .i64 (i : Int)
abbrev avb (b : List UInt8) : Value := .agg (bvs b).toArray
/-- What the map of loose sectors holds. -/
def lmv (D : Dsk) : List (Value × Value) := D.keys.map fun i => (iv64 i, avb (D.nw i))
theorem iv64_inj {i j : Nat} (h : iv64 i = iv64 j) : i = j := by
  unfold iv64 at h
  injection h with _ h
  omega
theorem mem_keys (D : Dsk) (i : Nat) : i ∈ D.keys ↔ i < D.sure.length ∧ D.l i = true := by simp [Dsk.keys]
theorem keys_nodup (D : Dsk) : D.keys.Nodup := List.nodup_range.sublist List.filter_sublist
theorem keys_sorted (D : Dsk) : D.keys.Pairwise (· < ·) := List.pairwise_lt_range.sublist List.filter_sublist
theorem keys_le (D : Dsk) : D.keys.length ≤ D.sure.length := by
  have := List.length_filter_le D.l (List.range D.sure.length)
  simpa [Dsk.keys] using this
theorem lmv_miss {D : Dsk} {i : Nat} (h : i < D.sure.length) (hl : D.l i = false) : ∀ p ∈ lmv D, p.1 ≠ iv64 i := by
  intro p hp he
  obtain ⟨j, hj, rfl⟩ := List.mem_map.1 hp
  obtain rfl := iv64_inj he
  have := ((mem_keys D j).1 hj).2
  rw [hl] at this
  cases this
theorem lmv_hit {D : Dsk} {i : Nat} (h : i < D.sure.length) (hl : D.l i = true) : (iv64 i, avb (D.nw i)) ∈ lmv D := List.mem_map.2 ⟨i, (mem_keys D i).2 ⟨h, hl⟩, rfl⟩
theorem getD_set {α : Type} (l : List α) (i j : Nat) (x d : α) (hi : i < l.length) : (l.set i x).getD j d = if j = i then x else l.getD j d := by
  simp only [List.getD_eq_getElem?_getD, List.getElem?_set]
  by_cases h : i = j
  · subst h; simp [hi]
  · rw [if_neg h, if_neg (Ne.symm h)]
theorem put_nw {D : Dsk} (h : D.ok) {i : Nat} (hi : i < D.sure.length) (b : List UInt8) (j : Nat) : (D.put i b).nw j = if j = i then b else D.nw j := getD_set _ _ _ _ _ (by rw [h.ln]; exact hi)
theorem put_l {D : Dsk} (h : D.ok) {i : Nat} (hi : i < D.sure.length) (b : List UInt8) (j : Nat) : (D.put i b).l j = if j = i then true else D.l j := getD_set _ _ _ _ _ (by rw [h.ll]; exact hi)
theorem put_keys {D : Dsk} (h : D.ok) {i : Nat} (hi : i < D.sure.length) (b : List UInt8) (j : Nat) : j ∈ (D.put i b).keys ↔ j = i ∨ j ∈ D.keys := by
  rw [mem_keys, mem_keys, put_l h hi]
  show j < D.sure.length ∧ _ ↔ _
  constructor
  · rintro ⟨h1, h2⟩
    by_cases e : j = i
    · exact .inl e
    · rw [if_neg e] at h2; exact .inr ⟨h1, h2⟩
  · rintro (rfl | ⟨h1, h2⟩)
    · exact ⟨hi, if_pos rfl⟩
    · refine ⟨h1, ?_⟩
      split
      · rfl
      · exact h2
theorem perm_mem {l1 l2 : List Nat} (h1 : l1.Nodup) (h2 : l2.Nodup) (h : ∀ x, x ∈ l1 ↔ x ∈ l2) : l1.Perm l2 := (List.perm_ext_iff_of_nodup h1 h2).2 h
theorem lmv_put_new {D : Dsk} (h : D.ok) {i : Nat} (hi : i < D.sure.length) (b : List UInt8) (hl : D.l i = false) : ((iv64 i, avb b) :: lmv D).Perm (lmv (D.put i b)) := by
  have hn : i ∉ D.keys := fun hk => by have := ((mem_keys D i).1 hk).2; rw [hl] at this; cases this
  have hp : (i :: D.keys).Perm (D.put i b).keys := perm_mem (List.nodup_cons.2 ⟨hn, keys_nodup D⟩) (keys_nodup _) fun x => by rw [put_keys h hi, List.mem_cons]
  have h2 := hp.map fun j => (iv64 j, avb ((D.put i b).nw j))
  refine List.Perm.trans ?_ h2
  rw [List.map_cons, put_nw h hi, if_pos rfl]
  refine List.Perm.cons _ (List.Perm.of_eq (List.map_congr_left fun j hj => ?_))
  rw [put_nw h hi, if_neg (fun e : j = i => hn (e ▸ hj))]
theorem lmv_put_old {D : Dsk} (h : D.ok) {i : Nat} (hi : i < D.sure.length) (b : List UInt8) (hl : D.l i = true) : ∃ r, (lmv D).Perm ((iv64 i, avb (D.nw i)) :: r) ∧ ((iv64 i, avb b) :: r).Perm (lmv (D.put i b)) := by
  have hk : i ∈ D.keys := (mem_keys D i).2 ⟨hi, hl⟩
  have hp := List.perm_cons_erase hk
  have hne : ∀ j ∈ D.keys.erase i, j ≠ i := fun j hj e => by subst e; exact (keys_nodup D).not_mem_erase hj
  refine ⟨(D.keys.erase i).map fun j => (iv64 j, avb (D.nw j)), hp.map _, ?_⟩
  have hp2 : (i :: D.keys.erase i).Perm (D.put i b).keys := hp.symm.trans (perm_mem (keys_nodup D) (keys_nodup _) fun x => by
    rw [put_keys h hi]
    exact ⟨.inr, fun e => e.elim (fun e => e ▸ hk) id⟩)
  have h2 := hp2.map fun j => (iv64 j, avb ((D.put i b).nw j))
  refine List.Perm.trans ?_ h2
  rw [List.map_cons, put_nw h hi, if_pos rfl]
  refine List.Perm.cons _ (List.Perm.of_eq (List.map_congr_left fun j hj => ?_))
  rw [put_nw h hi, if_neg (hne j hj)]
theorem nw_len {D : Dsk} (h : D.ok) {i : Nat} (hi : i < D.sure.length) : (D.nw i).length = 64 := by
  have hl : i < D.now.length := by rw [h.ln]; exact hi
  unfold Dsk.nw
  rw [List.getD_eq_getElem?_getD, List.getElem?_eq_getElem hl]
  exact h.n64 _ (List.getElem_mem hl)
theorem su_len {D : Dsk} (h : D.ok) {i : Nat} (hi : i < D.sure.length) : (D.su i).length = 64 := by
  unfold Dsk.su
  rw [List.getD_eq_getElem?_getD, List.getElem?_eq_getElem hi]
  exact h.s64 _ (List.getElem_mem hi)
theorem nw_mem {D : Dsk} (h : D.ok) {i : Nat} (hi : i < D.sure.length) : D.now[i]? = some (D.nw i) := by
  have hl : i < D.now.length := by rw [h.ln]; exact hi
  unfold Dsk.nw
  rw [List.getD_eq_getElem?_getD, List.getElem?_eq_getElem hl]
  rfl
theorem put_ok {D : Dsk} (h : D.ok) {i : Nat} (hi : i < D.sure.length) {b : List UInt8} (hb : b.length = 64) : (D.put i b).ok where
  ln := by simp [Dsk.put, h.ln]
  ll := by simp [Dsk.put, h.ll]
  s64 := h.s64
  n64 x hx := by
    rcases List.mem_or_eq_of_mem_set hx with hx | rfl
    · exact h.n64 x hx
    · exact hb
  same j hj hl := by
    rw [put_l h hi] at hl
    by_cases e : j = i
    · rw [if_pos e] at hl; cases hl
    · rw [if_neg e] at hl
      rw [put_nw h hi, if_neg e]
      exact h.same j hj hl
  size := h.size
  i64a := h.i64a
  i64b := h.i64b
  arm := h.arm
theorem wrap_range (x : Int) : -9223372036854775808 ≤ IntKind.i64.wrap x ∧ IntKind.i64.wrap x ≤ 9223372036854775807 := by
  rw [IntKind.wrap_i64]
  omega
theorem dec_ok {D : Dsk} (h : D.ok) (hl : D.armed = true → D.left ≠ 0) : D.dec.ok where
  ln := h.ln
  ll := h.ll
  s64 := h.s64
  n64 := h.n64
  same := h.same
  size := h.size
  i64a := (wrap_range _).1
  i64b := (wrap_range _).2
  arm ha := by
    have h1 := h.arm ha
    have h2 := hl ha
    have h3 := h.i64b
    show 0 ≤ IntKind.i64.wrap (D.left - 1)
    rw [IntWalk.i64_in _ (by omega)]
    omega
theorem getD_rep (n i : Nat) : (List.replicate n false).getD i false = false := by
  rw [List.getD_eq_getElem?_getD, List.getElem?_replicate]
  split <;> rfl
theorem calm_ok {D : Dsk} (h : D.ok) {s : List (List UInt8)} (hs : ∀ b ∈ s, b.length = 64) (hn : s.length = D.sure.length) : (D.calm s).ok where
  ln := rfl
  ll := by simp [Dsk.calm]
  s64 := hs
  n64 := hs
  same _ _ _ := rfl
  size := by show s.length ≤ _; rw [hn]; exact h.size
  i64a := h.i64a
  i64b := h.i64b
  arm := h.arm
theorem calm_keys (D : Dsk) (s : List (List UInt8)) : (D.calm s).keys = [] := by
  refine List.filter_eq_nil_iff.2 fun i _ => ?_
  show ¬ ((List.replicate s.length false).getD i false = true)
  rw [getD_rep]
  simp
theorem calm_lmv (D : Dsk) (s : List (List UInt8)) : lmv (D.calm s) = [] := by unfold lmv; rw [calm_keys]; rfl
/-- Sectors set one by one. -/
def upd (S : List (List UInt8)) (ks : List (Nat × List UInt8)) : List (List UInt8) := ks.foldl (fun S p => S.set p.1 p.2) S
theorem upd_snoc (S : List (List UInt8)) (ks : List (Nat × List UInt8)) (p : Nat × List UInt8) : upd S (ks ++ [p]) = (upd S ks).set p.1 p.2 := by simp [upd]
theorem upd_len (S : List (List UInt8)) (ks : List (Nat × List UInt8)) : (upd S ks).length = S.length := by
  induction ks generalizing S with
  | nil => rfl
  | cons p ks ih => show (upd (S.set p.1 p.2) ks).length = _; rw [ih]; simp
theorem upd_64 {S : List (List UInt8)} {ks : List (Nat × List UInt8)} (h : ∀ b ∈ S, b.length = 64) (hk : ∀ p ∈ ks, p.2.length = 64) : ∀ b ∈ upd S ks, b.length = 64 := by
  induction ks generalizing S with
  | nil => exact h
  | cons p ks ih =>
    refine ih (S := S.set p.1 p.2) (fun b hb => ?_) fun q hq => hk q (List.mem_cons_of_mem _ hq)
    rcases List.mem_or_eq_of_mem_set hb with hb | rfl
    · exact h b hb
    · exact hk p List.mem_cons_self
/-- Each key stands once: what stands at a place then. -/
theorem upd_get {S : List (List UInt8)} {ks : List (Nat × List UInt8)} (hn : (ks.map (·.1)).Nodup) (j : Nat) : (∀ b, (j, b) ∈ ks → j < S.length → (upd S ks)[j]? = some b) ∧ ((∀ b, (j, b) ∉ ks) → (upd S ks)[j]? = S[j]?) := by
  induction ks generalizing S with
  | nil => exact ⟨fun b h => (by cases h), fun _ => rfl⟩
  | cons p ks ih =>
    simp only [List.map_cons, List.nodup_cons] at hn
    obtain ⟨h1, h2⟩ := ih (S := S.set p.1 p.2) hn.2
    refine ⟨fun b hb hj => ?_, fun hno => ?_⟩
    · rcases List.mem_cons.1 hb with rfl | hb
      · have := h2 fun b' hb' => hn.1 (List.mem_map.2 ⟨_, hb', rfl⟩)
        show (upd (S.set j b) ks)[j]? = _
        rw [this, List.getElem?_set]
        simp [hj]
      · exact h1 b hb (by simpa using hj)
    · have := h2 fun b hb => hno b (List.mem_cons_of_mem _ hb)
      show (upd (S.set p.1 p.2) ks)[j]? = _
      rw [this, List.getElem?_set, if_neg fun e => hno p.2 (by rw [← e]; exact List.mem_cons_self)]
theorem flat_64 {S : List (List UInt8)} (h : ∀ b ∈ S, b.length = 64) : S.flatten.length = 64 * S.length := by
  induction S with
  | nil => rfl
  | cons a S ih =>
    have h1 := h a List.mem_cons_self
    rw [List.flatten_cons, List.length_append, ih fun b hb => h b (List.mem_cons_of_mem _ hb), List.length_cons]
    omega
theorem flat_cut {S : List (List UInt8)} (h : ∀ b ∈ S, b.length = 64) {i : Nat} (hi : i < S.length) : S.flatten = (S.take i).flatten ++ S[i] ++ (S.drop (i + 1)).flatten ∧ (S.take i).flatten.length = 64 * i := by
  refine ⟨?_, by rw [flat_64 fun b hb => h b (List.mem_of_mem_take hb), List.length_take]; omega⟩
  conv => lhs; rw [← List.take_append_drop i S, List.drop_eq_getElem_cons hi]
  rw [List.flatten_append, List.flatten_cons, List.append_assoc]
theorem flat_set {S : List (List UInt8)} (h : ∀ b ∈ S, b.length = 64) {i : Nat} (hi : i < S.length) (b : List UInt8) : (S.set i b).flatten = S.flatten.take (64 * i) ++ b ++ S.flatten.drop (64 * i + 64) := by
  obtain ⟨e, hl⟩ := flat_cut h hi
  have h64 : S[i].length = 64 := h _ (List.getElem_mem hi)
  have e1 : S.flatten.take (64 * i) = (S.take i).flatten := by rw [e, List.append_assoc, List.take_append_of_le_length (by omega), List.take_of_length_le (by omega)]
  have e2 : S.flatten.drop (64 * i + 64) = (S.drop (i + 1)).flatten := by
    have hl2 : ((S.take i).flatten ++ S[i]).length = 64 * i + 64 := by rw [List.length_append]; omega
    rw [e, List.drop_append_of_le_length (by omega), List.drop_of_length_le (by omega), List.nil_append]
  rw [e1, e2, List.set_eq_take_append_cons_drop, if_pos hi]
  simp
theorem flat_at {S : List (List UInt8)} (h : ∀ b ∈ S, b.length = 64) {i j : Nat} (hi : i < S.length) (hj : j < 64) : S.flatten[64 * i + j]? = S[i][j]? := by
  obtain ⟨e, hl⟩ := flat_cut h hi
  have h64 : S[i].length = 64 := h _ (List.getElem_mem hi)
  rw [e, List.append_assoc, List.getElem?_append_right (by omega), List.getElem?_append_left (by omega)]
  congr 1
  omega
end Go.Proofs.Ytbejifbiffeamaa
set_option linter.unusedSimpArgs false
set_option linter.unusedVariables false
namespace Go.Proofs.Ytbejifbiffeamaa
open Go.RowKit
section
variable {P : Program} {ops : Array Oper} {Q : Exit → Act → World → Prop} {md : Region.Mode} {L0 : List SProp} {Z : List Nat}
/-- One of several that may come up. -/
theorem RS_way {i : Nat} {oi : Oper} {tl : List Oper} {fuel : Nat} {listed : Array Bool} {a : Act} {L : List SProp} (hi0 : ops.toList.drop i = oi :: tl) (hw : Region.wanted oi (yielded ops a.tmps) = true)
    (h : ∀ w (K : Act → World → Prop), Star L w → (∀ a' L' w', Star L' w' → RS P md ops Q L0 Z fuel (listed.setIfInBounds i true) a' L' → K a' w') → Oper.wp P oi a w K Q) :
    ∀ w, Star L w → wpOp P ops Q i (fun a' w' => ∃ L', Star L' w' ∧ RS P md ops Q L0 Z fuel (listed.setIfInBounds i true) a' L') a w := by
  intro w hM
  have hi := op_at hi0
  unfold wpOp
  simp only [hi, hw, if_true]
  exact .inl (h w _ hM fun a' L' w' hM' h' => ⟨L', hM', h'⟩)
end
section
variable {P : Program} {w : World} {o : Oper} {a : Act} {Q : Exit → Act → World → Prop} {K : Act → World → Prop} {L : List SProp}
/-- make([]T, n), T of one cell. -/
theorem ws_make8 (hM : Star L w) {t : TypeId} {x y : Operand} (ho : o.op = .makeSlice t x y) (e : TypeId) (z : Value) (bytes : Nat) (ht : P.underlying t = some (.slice e)) (hi : (P.info? e).map (fun i => (i.zero, i.size, i.bytes)) = some (some z, 1, bytes)) (hz1 : z.cells = #[z]) (hby : bytes ≤ 16)
    {n : Nat} (hx : a.eval x = .int .i64 (n : Int)) (hy : a.eval y = .int .i64 (n : Int)) (hsm : n ≤ 1000000000)
    (h : ∀ g w1, Star (cellsE g e (List.replicate n z).toArray :: L) w1 → K (a.put o.dst (.slice (some ⟨g, 0, none⟩) n n)) w1) : Oper.wp P o a w K Q := by
  obtain ⟨i, hi0, hz, hsize, hb⟩ := info_parts hi
  exact ws_make hM ho e i z ht hi0 hz hsize hz1 (by omega) hx hy hsm h
end
theorem ret_bool {a b : Bool} (h : a = b) : Ending.returned (Value.bool a) = .returned (.bool b) := by rw [h]
end Go.Proofs.Ytbejifbiffeamaa
set_option linter.unusedSimpArgs false
set_option linter.unusedVariables false
namespace Go.Proofs.Ytbejifbiffeamaa
open Go.RowKit
section
variable {P : Program} {w : World} {ops : Array Oper} {rest : List Oper} {a : Act} {Q : Exit → Act → World → Prop} {d : Option Tmp} {tp : TypeId} {pos : String} {af : Array Edge} {g : Option (Nat × Bool)}
theorem at_load' {ty : TypeId} {x : Operand} (h : wpList P ops Q (⟨d, .load ty x, tp, pos, af, g⟩ :: rest) a w) : wpList P ops Q (⟨d, .load ty x, tp, pos, af, g⟩ :: rest) a w := h
theorem at_store' {ty : TypeId} {x y : Operand} (h : wpList P ops Q (⟨d, .store ty x y, tp, pos, af, g⟩ :: rest) a w) : wpList P ops Q (⟨d, .store ty x y, tp, pos, af, g⟩ :: rest) a w := h
theorem at_alloc' {ty : TypeId} (h : wpList P ops Q (⟨d, .alloc ty, tp, pos, af, g⟩ :: rest) a w) : wpList P ops Q (⟨d, .alloc ty, tp, pos, af, g⟩ :: rest) a w := h
theorem at_box' {ty : TypeId} {x : Operand} (h : wpList P ops Q (⟨d, .box ty x, tp, pos, af, g⟩ :: rest) a w) : wpList P ops Q (⟨d, .box ty x, tp, pos, af, g⟩ :: rest) a w := h
theorem at_slice' {ty : TypeId} {n : Nat} {xs : Array (Nat × Operand)} (h : wpList P ops Q (⟨d, .buildSlice ty n xs, tp, pos, af, g⟩ :: rest) a w) : wpList P ops Q (⟨d, .buildSlice ty n xs, tp, pos, af, g⟩ :: rest) a w := h
theorem at_build' {ty : TypeId} {xs : Array (Nat × Operand)} (h : wpList P ops Q (⟨d, .build ty xs, tp, pos, af, g⟩ :: rest) a w) : wpList P ops Q (⟨d, .build ty xs, tp, pos, af, g⟩ :: rest) a w := h
theorem at_convert' {s t : TypeId} {x : Operand} (h : wpList P ops Q (⟨d, .convert s t x, tp, pos, af, g⟩ :: rest) a w) : wpList P ops Q (⟨d, .convert s t x, tp, pos, af, g⟩ :: rest) a w := h
theorem at_make' {t : TypeId} {x y : Operand} (h : wpList P ops Q (⟨d, .makeSlice t x y, tp, pos, af, g⟩ :: rest) a w) : wpList P ops Q (⟨d, .makeSlice t x y, tp, pos, af, g⟩ :: rest) a w := h
theorem at_call' {c : Call} (h : wpList P ops Q (⟨d, .call c, tp, pos, af, g⟩ :: rest) a w) : wpList P ops Q (⟨d, .call c, tp, pos, af, g⟩ :: rest) a w := h
end
section
variable {P : Program} {w : World} {o : Oper} {a : Act} {t ty : TypeId} {x y : Operand}
theorem ex_add (ho : o.op = .binOp .add t x y ty) {i j s : Int} (hx : a.eval x = .int .i64 i) (hy : a.eval y = .int .i64 j) (hs : IntKind.i64.wrap (i + j) = s) : (execOp a.eval o).run P w = .ok (.value (.int .i64 s)) w := by
  unfold execOp
  simp only [ho, hx, hy]
  simp [go_sem]
  exact hs
end
/-- Results: a row in a cell, and a slot. -/
theorem results_row_tmp {P : Program} {fn : Func} {p u : Tmp} {ty : TypeId} (h : fn.results = #[.cell p ty, .tmp u]) (tmps : Array Value) (w : World) (g : Nat) (t : TypeId) (cs : Array Value) (n : Nat) (v : Value) (hp : tmps.getD p undef = .pointer (some ⟨g, 0, none⟩)) (hv : tmps.getD u undef = v) (hg : Blk w g t cs) (hn : cs.size = n) (hr : rowTy P ty n = true) :
    (results fn tmps).run P w = .ok (.tuple #[.agg cs, v]) w := by
  obtain ⟨⟨d, h1, h2⟩, h3⟩ := rowTy_und hr
  rw [results_cell_tmp h, hp, hv]
  simp [asAddr, run_loadVar_row w g t ty cs (0, 0) d hg h1 (by cases d <;> simp_all) (by rw [h3, hn])]
theorem results_row {P : Program} {fn : Func} {p : Tmp} {ty : TypeId} (h : fn.results = #[.cell p ty]) (tmps : Array Value) (w : World) (g : Nat) (t : TypeId) (cs : Array Value) (n : Nat) (hp : tmps.getD p undef = .pointer (some ⟨g, 0, none⟩)) (hg : Blk w g t cs) (hn : cs.size = n) (hr : rowTy P ty n = true) :
    (results fn tmps).run P w = .ok (.agg cs) w := by
  obtain ⟨⟨d, h1, h2⟩, h3⟩ := rowTy_und hr
  exact results_cell_row h tmps w g t cs (0, 0) d hp hg h1 (by cases d <;> simp_all) (by rw [h3, hn])
end Go.Proofs.Ytbejifbiffeamaa
set_option linter.unusedSimpArgs false
set_option linter.unusedVariables false
namespace Go.Proofs.Ytbejifbiffeamaa
open Go.RowKit
attribute [local go_sem] extract_mid extract_drop bget bsize wrap64_u8 i64_u8 u64_u8 bappend
@[irreducible] def z32 : List UInt8 := List.replicate 32 0
end Go.Proofs.Ytbejifbiffeamaa
set_option linter.unusedSimpArgs false
set_option linter.unusedVariables false
namespace Go.Proofs.Ytbejifbiffeamaa
open Go.RowKit
attribute [local go_sem] extract_mid extract_drop bget bsize wrap64_u8 i64_u8 u64_u8 bappend
section
variable {P : Program} {w : World} {o : Oper} {a : Act} {t ty : TypeId} {x y : Operand}
theorem ws_of_ex {K : Act → World → Prop} {Q : Exit → Act → World → Prop} {v : Value} (h : (execOp a.eval o).run P w = .ok (.value v) w) (hK : K (a.put o.dst v) w) : Oper.wp P o a w K Q := by
  unfold Oper.wp
  rw [h]
  exact hK
end
end Go.Proofs.Ytbejifbiffeamaa
