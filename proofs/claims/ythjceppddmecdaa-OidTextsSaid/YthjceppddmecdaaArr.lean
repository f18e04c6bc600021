/- Laws at operations on whole rows (arrays and structs in memory), the world behind each a letter: alloc, box, load, store, copy of a string, a slice of one row, '=='. No condition but those that each theorem names. -/
import Derived.Test.YthjceppddmecdaaOps
import Derived.DeepKeys
import Derived.Deep.RegionLaw
set_option linter.unusedSimpArgs false
set_option linter.unusedVariables false
namespace Go.Proofs.Ythjceppddmecdaa
open Go.RowKit
section
variable {P : Program} {w : World} {ops : Array Oper} {rest : List Oper} {o : Oper} {a : Act} {Q : Exit → Act → World → Prop}

/-- A new variable of a type of rows, of zeros. -/
theorem op_alloc (hgd : o.guard = none) (t : TypeId) (ho : o.op = .alloc t) (zs : Array Value) (hz : (P.info? t).map (fun i => i.zero) = some (some (.agg zs)))
    (h : ∀ g w1, Blk w1 g t zs → w.heap.size ≤ g → w.heap.size < w1.heap.size → Ch [] w w1 → wpList P ops Q rest (a.put o.dst (.pointer (some ⟨g, 0, none⟩))) w1) : wpList P ops Q (o :: rest) a w := by
  refine wpList_plain hgd fun K hK => ?_
  cases hq : P.info? t with
  | none => simp [hq] at hz
  | some i =>
    have hz' : i.zero = some (.agg zs) := by simpa [hq] using hz
    unfold Oper.wp
    simp [execOp, ho, Instr.alloc, zeroValue, typeInfo, hq, hz', newVar, newRow, Value.cells]
    exact hK _ _ (h _ _ (Blk.new w t zs) (Nat.le_refl _) (by simp) ((Ch.refl _ _).alloc _))
/-- A value of rows is laid into a new variable. -/
theorem op_box (hgd : o.guard = none) (t : TypeId) (x : Operand) (ho : o.op = .box t x) (cs : Array Value) (hx : a.eval x = .agg cs)
    (h : ∀ g w1, Blk w1 g t cs → w.heap.size ≤ g → w.heap.size < w1.heap.size → Ch [] w w1 → wpList P ops Q rest (a.put o.dst (.pointer (some ⟨g, 0, none⟩))) w1) : wpList P ops Q (o :: rest) a w := by
  refine wpList_plain hgd fun K hK => ?_
  unfold Oper.wp
  simp [execOp, ho, hx, Instr.box, newVar, newRow, Value.cells]
  exact hK _ _ (h _ _ (Blk.new w t cs) (Nat.le_refl _) (by simp) ((Ch.refl _ _).alloc _))
theorem run_loadVar_at (w : World) (ad : Addr) (ty : TypeId) (cs : List Value) (d : TypeDesc) (hc : ∀ j v, cs[j]? = some v → w.cell? (ad.add j) = some v)
    (hu : P.underlying ty = some d) (hd : (match d with | .struct _ | .array _ _ => true | _ => false) = true) (hi : (P.info? ty).map (·.size) = some cs.length) :
    (loadVar ty ad).run P w = .ok (.agg cs.toArray) w := by
  have hl := run_loadCells_list (P := P) w ad cs hc
  cases hq : P.info? ty with
  | none => simp [hq] at hi
  | some i =>
    have hs : i.size = cs.length := by simpa [hq] using hi
    have hagg : (isAgg ty).run P w = .ok true w := by
      unfold isAgg
      rw [Sem.run_bind, run_underlying hu w]
      cases d <;> simp_all
    simp [loadVar, Sem.run_bind, hagg, sizeOf, typeInfo, hq, hs, hl]
/-- A row is read, wherever it lies. -/
theorem op_load_at (hgd : o.guard = none) (ty : TypeId) (x : Operand) (ho : o.op = .load ty x) (ad : Addr) (hx : a.eval x = .pointer (some ad)) (cs : List Value) (d : TypeDesc)
    (hc : ∀ j v, cs[j]? = some v → w.cell? (ad.add j) = some v) (hu : P.underlying ty = some d) (hd : (match d with | .struct _ | .array _ _ => true | _ => false) = true) (hi : (P.info? ty).map (·.size) = some cs.length)
    (h : wpList P ops Q rest (a.put o.dst (.agg cs.toArray)) w) : wpList P ops Q (o :: rest) a w := by
  refine wpList_plain hgd fun K hK => ?_
  unfold Oper.wp execOp
  simp only [ho, hx, Instr.loadAt, Instr.sureAddr, Sem.run_bind, Sem.run_pure, Result.andThen_ok, run_loadVar_at w ad ty cs d hc hu hd hi]
  exact hK _ _ h
/-- A block is read whole. -/
theorem op_load (hgd : o.guard = none) (ty : TypeId) (x : Operand) (ho : o.op = .load ty x) (g : Nat) (hx : a.eval x = .pointer (some ⟨g, 0, none⟩)) (t : TypeId) (cs : Array Value) (d : TypeDesc) (hg : Blk w g t cs)
    (hu : P.underlying ty = some d) (hd : (match d with | .struct _ | .array _ _ => true | _ => false) = true) (hi : (P.info? ty).map (·.size) = some cs.size)
    (h : wpList P ops Q rest (a.put o.dst (.agg cs)) w) : wpList P ops Q (o :: rest) a w :=
  wpList_load_row hgd ty x ho g hx t cs (0, 0) d hg hu hd hi h
theorem setRow_ch (w : World) (g : Nat) (cs : Array Value) : Ch [g] w (w.setRow g cs) :=
  ⟨rfl, rfl, rfl, by simp [World.setRow], fun k hk hne => setRow_other w g k cs (by simpa using hne)⟩
theorem setRow_blk {w : World} {g : Nat} {t : TypeId} {old : Array Value} (h : Blk w g t old) (cs : Array Value) : Blk (w.setRow g cs) g t cs := setRow_heap w g _ _ t _ h
/-- A block is written whole. -/
theorem op_store (hgd : o.guard = none) (ty : TypeId) (x y : Operand) (ho : o.op = .store ty x y) (g : Nat) (hx : a.eval x = .pointer (some ⟨g, 0, none⟩)) (t : TypeId) (cs old : Array Value) (hy : a.eval y = .agg cs) (hg : Blk w g t old)
    (hsz : cs.size = old.size) (hi : (P.info? ty).map (·.size) = some cs.size) (h1 : ∀ v ∈ cs.toList, v.oneCell' = true)
    (h : ∀ w1, Blk w1 g t cs → Ch [g] w w1 → wpList P ops Q rest (a.put o.dst undef) w1) : wpList P ops Q (o :: rest) a w := by
  refine wpList_plain hgd fun K hK => ?_
  have hst := run_storeCells_at P g 0 t cs.toList 0 old w hg (by simp; omega) h1
  have hrun : (storeVar ty ⟨g, 0, none⟩ (.agg cs)).run P w = .ok () (w.setRow g cs) := by
    cases hq : P.info? ty with
    | none => simp [hq] at hi
    | some i =>
      have hs : i.size = cs.size := by simpa [hq] using hi
      simp only [Nat.add_zero, Nat.zero_add, List.take_zero, List.nil_append, Array.length_toList] at hst
      rw [List.drop_of_length_le (by simp; omega), List.append_nil, Array.toArray_toList] at hst
      simp [storeVar, sizeOf, typeInfo, hq, Value.cells, hs, hst]
  unfold Oper.wp execOp
  simp only [ho, hx, hy, Instr.storeAt, Instr.sureAddr, Sem.run_bind, Sem.run_pure, Result.andThen_ok, hrun]
  exact hK _ _ (h _ (setRow_blk hg cs) (setRow_ch w g cs))

/-- The list with another beginning. -/
def over (old new : List UInt8) : List UInt8 := new.take old.length ++ old.drop new.length
theorem over_len (old new : List UInt8) : (over old new).length = old.length := by simp [over]; omega
/-- copy(row, s): a whole row of bytes gets a string's first bytes. -/
theorem run_copy_str (w : World) (dT sT ty elem : TypeId) (g n c : Nat) (t : TypeId) (old l : List UInt8) (hu : P.underlying dT = some (.slice elem)) (hs : (P.info? elem).map (·.size) = some 1)
    (hg : Blk w g t (bvs old).toArray) (hn : n = old.length) :
    (Builtin.copy_ #[dT, sT] ty #[.slice (some ⟨g, 0, none⟩) n c, .string ⟨l.toArray⟩]).run P w = .ok (goInt (Nat.min l.length n)) (w.setRow g (bvs (over old l)).toArray) := by
  subst hn
  have hst := run_storeCells_at P g 0 t (bvs (l.take old.length)) 0 (bvs old).toArray w hg (by simp [bvs_len]; omega) (bvs_oneCell _)
  cases hq : P.info? elem with
  | none => simp [hq] at hs
  | some i =>
    have hi : i.size = 1 := by simpa [hq] using hs
    have e1 : List.take (Nat.min l.length old.length) (l.map (fun b => Value.int .u8 b.toNat)) = bvs (l.take old.length) := by
      have hm : Nat.min l.length old.length = min l.length old.length := rfl
      have : l.take (min l.length old.length) = l.take old.length := by
        rw [List.take_eq_take_iff]
        omega
      rw [hm, ← List.map_take, this]
      rfl
    have e2 : (bvs old).take 0 ++ bvs (l.take old.length) ++ (bvs old).drop (0 + (bvs (l.take old.length)).length) = bvs (over old l) := by
      simp only [over, bvs_app, List.take_zero, List.nil_append, Nat.zero_add, bvs_len]
      congr 1
      simp only [bvs, ← List.map_drop, List.length_take]
      by_cases hl : old.length ≤ l.length
      · rw [List.drop_of_length_le (by omega), List.drop_of_length_le (by omega)]
      · rw [Nat.min_eq_right (by omega)]
    simp only [Nat.zero_add, Nat.add_zero] at hst e2
    simp only [List.toList_toArray, e2] at hst
    simp [Builtin.copy_, run_underlying hu, Builtin.lenOf, Builtin.firstCells, sizeOf, typeInfo, hq, hi]
    rw [show (⟨l.toArray⟩ : ByteArray).size = l.length from rfl, e1]
    simp only [hst, Result.andThen_ok]
theorem op_copy_str (hgd : o.guard = none) (d s : Operand) (dT sT : TypeId) (ho : o.op = .call { callee := .builtin .copy, args := #[d, s], argTypes := #[dT, sT] }) (elem : TypeId)
    (hu : P.underlying dT = some (.slice elem)) (hs : (P.info? elem).map (·.size) = some 1) (g n c : Nat) (t : TypeId) (old l : List UInt8) (hd : a.eval d = .slice (some ⟨g, 0, none⟩) n c) (hx : a.eval s = .string ⟨l.toArray⟩)
    (hg : Blk w g t (bvs old).toArray) (hn : n = old.length)
    (h : ∀ w1, Blk w1 g t (bvs (over old l)).toArray → Ch [g] w w1 → wpList P ops Q rest (a.put o.dst (goInt (Nat.min l.length n))) w1) : wpList P ops Q (o :: rest) a w := by
  refine wpList_plain hgd fun K hK => ?_
  have hrun := run_copy_str (P := P) w dT sT o.type elem g n c t old l hu hs hg hn
  unfold Oper.wp
  simp only [execOp, ho, resolve, invoke, builtin, Sem.run_bind, Sem.run_pure, Result.andThen_ok, List.map_toArray, List.map_cons, List.map_nil, hd, hx, hrun]
  exact hK _ _ (h _ (setRow_blk hg _) (setRow_ch w g _))

theorem step_copy_str {K : Act → World → Prop} {E : Prop} (hgd : o.guard = none) (d s : Operand) (dT sT : TypeId) (ho : o.op = .call { callee := .builtin .copy, args := #[d, s], argTypes := #[dT, sT] }) (elem : TypeId)
    (hu : P.underlying dT = some (.slice elem)) (hs : (P.info? elem).map (·.size) = some 1) (g n c : Nat) (t : TypeId) (old l : List UInt8) (hd : a.eval d = .slice (some ⟨g, 0, none⟩) n c) (hx : a.eval s = .string ⟨l.toArray⟩)
    (hg : Blk w g t (bvs old).toArray) (hn : n = old.length)
    (h : ∀ w1, Blk w1 g t (bvs (over old l)).toArray → Ch [g] w w1 → K (a.put o.dst (goInt (Nat.min l.length n))) w1) :
    if Region.wanted o (yielded ops a.tmps) = true then Oper.wp P o a w K Q else E := by
  have hw : Region.wanted o (yielded ops a.tmps) = true := by simp [Region.wanted, hgd]
  rw [if_pos hw]
  have hrun := run_copy_str (P := P) w dT sT o.type elem g n c t old l hu hs hg hn
  unfold Oper.wp
  simp only [execOp, ho, resolve, invoke, builtin, Sem.run_bind, Sem.run_pure, Result.andThen_ok, List.map_toArray, List.map_cons, List.map_nil, hd, hx, hrun]
  exact h _ (setRow_blk hg _) (setRow_ch w g _)

/-- A slice of one row: []T{x}. -/
theorem op_slice1 (hgd : o.guard = none) (t : TypeId) (x : Operand) (ho : o.op = .buildSlice t 1 #[(0, x)]) (e : TypeId) (cs zs : Array Value) (hx : a.eval x = .agg cs) (ht : P.underlying t = some (.slice e))
    (hi : (P.info? e).map (fun i => (i.zero, i.size)) = some (some (.agg zs), cs.size)) (hz : zs.size = cs.size) (hpos : 0 < cs.size) (hsm : cs.size ≤ 16777216)
    (h : ∀ g w1, Blk w1 g e cs → w.heap.size ≤ g → w.heap.size < w1.heap.size → Ch [] w w1 → wpList P ops Q rest (a.put o.dst (.slice (some ⟨g, 0, none⟩) 1 1)) w1) : wpList P ops Q (o :: rest) a w := by
  refine wpList_plain hgd fun K hK => ?_
  cases hq : P.info? e with
  | none => simp [hq] at hi
  | some i =>
    obtain ⟨hz0, hs0⟩ : i.zero = some (.agg zs) ∧ i.size = cs.size := by simpa [hq] using hi
    have hfill : Instr.fill (fun i => some (i * cs.size, cs.size)) ((Array.range cs.size).map (zs[· % zs.size]!)) [(0, .agg cs)] = some cs := by
      have hfold : ∀ (l : List Value) (k : Nat) (acc : Array Value), k + l.length = acc.size → (l.zipIdx k).foldl (fun cs (c, j) => cs.setIfInBounds (0 + j) c) acc = (acc.toList.take k ++ l).toArray := by
        intro l
        induction l with
        | nil => intro k acc hk; simp at hk ⊢; rw [List.take_of_length_le (by simp; omega)]
        | cons v l ih =>
          intro k acc hk
          simp only [List.zipIdx_cons, List.foldl_cons]
          rw [ih (k + 1) _ (by simp at hk ⊢; omega)]
          congr 1
          simp only [Nat.zero_add, Array.toList_setIfInBounds]
          simp only [List.length_cons] at hk
          rw [List.take_set, List.take_succ_eq_append_getElem (by simp; omega)]
          rw [List.set_append]
          simp only [List.length_take, Array.length_toList]
          rw [Nat.min_eq_left (by omega), if_neg (by omega), Nat.sub_self]
          simp
      have := hfold cs.toList 0 ((Array.range cs.size).map (zs[· % zs.size]!)) (by simp)
      have hcond : (decide (cs.size ≠ cs.size) || decide (0 * cs.size + cs.size > ((Array.range cs.size).map (zs[· % zs.size]!)).size)) = false := by simp
      simp only [Instr.fill, Value.cells, hcond, Bool.false_eq_true, if_false]
      rw [← Array.foldl_toList, Array.toList_zipIdx]
      simp only [Nat.zero_mul]
      rw [this]
      simp
    unfold Oper.wp
    have hsm' : ¬ (cs.size > 16777216) := by omega
    simp [execOp, ho, hx, Instr.buildSlice, run_underlying ht, sizeOf, typeInfo, hq, hz0, hs0, zeroValue, Value.cells, hsm', hfill, newRow, Nat.ne_of_gt hpos]
    exact hK _ _ (h _ _ (Blk.new w e cs) (Nat.le_refl _) (by simp) ((Ch.refl _ _).alloc _))

theorem run_eqItems_u8 (w : World) (e : TypeId) (he : P.underlying e = some (.int .u8)) (xs ys : List UInt8) (dd : Nat) : ∀ (is : List Nat), (∀ i ∈ is, i < xs.length) → xs.length = ys.length →
    (Op.eqItems (dd + 1) e 1 (bvs xs).toArray (bvs ys).toArray is).run P w = .ok (is.all fun i => xs[i]? == ys[i]?) w := by
  intro is
  induction is with
  | nil => intro _ _; simp [Op.eqItems]
  | cons i is ih =>
    intro hi hl
    have h1 : i < xs.length := hi i (by simp)
    have h2 : i < ys.length := by omega
    have hp : ∀ zs : List UInt8, (hz : i < zs.length) → (part e (bvs zs).toArray (i * 1)).run P w = .ok (.int .u8 (zs[i].toNat : Int)) w := by
      intro zs hz
      have hagg : (isAgg e).run P w = .ok false w := by
        unfold isAgg
        rw [Sem.run_bind, run_underlying he w]
        rfl
      have hget : (bvs zs).toArray[i]? = some (.int .u8 (zs[i].toNat : Int)) := by simpa using bvs_get zs i hz
      simp [part, hagg, hget]
    simp only [Op.eqItems, Sem.run_bind, hp xs h1, hp ys h2, Result.andThen_ok, run_equalIn_int (w := w) dd e .u8 .u8 _ _ he, List.all_cons]
    by_cases hx : xs[i] = ys[i]
    · have : ((xs[i].toNat : Int) == (ys[i].toNat : Int)) = true := by simp [hx]
      rw [this]
      simp only [Bool.not_true, Bool.false_eq_true, if_false]
      rw [ih (fun j hj => hi j (by simp [hj])) hl]
      simp [List.getElem?_eq_getElem h1, List.getElem?_eq_getElem h2, hx]
    · have : ((xs[i].toNat : Int) == (ys[i].toNat : Int)) = false := by
        simp only [beq_eq_false_iff_ne, ne_eq]
        intro h
        exact hx (UInt8.toNat_inj.1 (by omega))
      rw [this]
      simp [List.getElem?_eq_getElem h1, List.getElem?_eq_getElem h2, hx]
/-- '==' on two arrays of bytes. -/
theorem run_eql_bytes (w : World) (t e : TypeId) (n : Nat) (ht : P.underlying t = some (.array n e)) (he : P.underlying e = some (.int .u8)) (hi : (P.info? e).map (·.size) = some 1) (xs ys : List UInt8) (hx : xs.length = n) (hy : ys.length = n) (dd : Nat) :
    (Op.equalIn (dd + 2) t (.agg (bvs xs).toArray) (.agg (bvs ys).toArray)).run P w = .ok (decide (xs = ys)) w := by
  cases hq : P.info? e with
  | none => simp [hq] at hi
  | some i =>
    have hs : i.size = 1 := by simpa [hq] using hi
    have hc : P.cellsOf e = 1 := by simp [Program.cellsOf, hq, hs]
    rw [run_equalIn_array w (dd + 1) _ _ ht hq, hc, run_eqItems_u8 w e he xs ys dd _ (by simp [hx]) (by omega)]
    congr 1
    rw [Bool.eq_iff_iff]
    simp only [List.all_eq_true, List.mem_range, decide_eq_true_eq, beq_iff_eq]
    constructor
    · intro h
      apply List.ext_getElem?
      intro j
      by_cases hj : j < n
      · exact h j hj
      · rw [List.getElem?_eq_none (by omega), List.getElem?_eq_none (by omega)]
    · rintro rfl j _
      rfl
end
end Go.Proofs.Ythjceppddmecdaa
