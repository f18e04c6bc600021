/- A law for a region that draws its order: a word I on what is done so far, kept by each operation, whatever the order. Condition: each operation waits on earlier ones alone. -/
import Derived.Test.YthjceppddmecdaaArr
set_option linter.unusedSimpArgs false
set_option linter.unusedVariables false
namespace Go.Proofs.Ythjceppddmecdaa
open Go.RowKit
section
variable {P : Program} {ops : Array Oper} {Q : Exit → Act → World → Prop}
/-- The operation i, in a region. -/
@[irreducible] def stepOf (P : Program) (ops : Array Oper) (Q : Exit → Act → World → Prop) (o : Oper) (K : Act → World → Prop) (a : Act) (w : World) : Prop :=
  if Region.wanted o (yielded ops a.tmps) = true then Oper.wp P o a w K Q else K (a.put o.dst undef) w
theorem ready_mem {md : Region.Mode} {L : Array Bool} {i : Nat} (h : i ∈ Region.ready md ops L) :
    ∃ o, ops[i]? = some o ∧ L.getD i true = false ∧ ∀ e ∈ o.after.toList, Region.binds md e = true → L.getD e.on false = true := by
  unfold Region.ready at h
  simp only [List.mem_filter, List.mem_range, Bool.and_eq_true, Bool.not_eq_true'] at h
  obtain ⟨hlt, h1, h2⟩ := h
  have ho : ops[i]? = some ops[i] := Array.getElem?_eq_getElem hlt
  refine ⟨ops[i], ho, h1, fun e he hb => ?_⟩
  rw [ho] at h2
  simp only [Option.map_some, Option.getD_some, Array.all_eq_true] at h2
  obtain ⟨j, hj, rfl⟩ := List.getElem_of_mem he
  have := h2 j (by simpa using hj)
  simp only [Array.getElem_toList] at hb ⊢
  simpa [hb] using this
theorem ready_nil {md : Region.Mode} {L : Array Bool} (hs : L.size = ops.size) (hd : ∀ (i : Nat) (o : Oper), ops[i]? = some o → ∀ e ∈ o.after.toList, e.on < i) (h : Region.ready md ops L = []) : ∀ i, i < ops.size → L.getD i false = true := by
  intro i
  induction i using Nat.strongRecOn with
  | _ i ih =>
    intro hi
    rcases hb : L.getD i true with _ | _
    · exfalso
      have hmem : i ∈ Region.ready md ops L := by
        unfold Region.ready
        simp only [List.mem_filter, List.mem_range, Bool.and_eq_true, Bool.not_eq_true']
        refine ⟨hi, hb, ?_⟩
        have ho : ops[i]? = some ops[i] := Array.getElem?_eq_getElem hi
        rw [ho]
        simp only [Option.map_some, Option.getD_some, Array.all_eq_true]
        intro j hj
        have hlt := hd i _ ho (ops[i].after[j]) (by simp)
        rw [ih _ hlt (by omega)]
        simp
      rw [h] at hmem
      cases hmem
    · have hi2 : i < L.size := by omega
      simpa [Array.getD, hi2] using hb
theorem wpAny_inv {md : Region.Mode} (I : Array Bool → Act → World → Prop) (hd : ∀ (i : Nat) (o : Oper), ops[i]? = some o → ∀ e ∈ o.after.toList, e.on < i)
    (hstep : ∀ (L : Array Bool) a w, L.size = ops.size → I L a w → ∀ (i : Nat) (o : Oper), ops[i]? = some o → L.getD i true = false → (∀ e ∈ o.after.toList, Region.binds md e = true → L.getD e.on false = true) → stepOf P ops Q o (fun a' w' => I (L.setIfInBounds i true) a' w') a w)
    (hend : ∀ (L : Array Bool) a w, I L a w → (∀ i, i < ops.size → L.getD i false = true) → Q .normal a w) :
    ∀ (fuel : Nat) (L : Array Bool) (a : Act) (w : World), L.size = ops.size → L.toList.count false ≤ fuel → I L a w → wpAny P md ops Q fuel L a w := by
  intro fuel
  induction fuel with
  | zero =>
    intro L a w hs hc hI
    have hnil : Region.ready md ops L = [] := by
      rcases hr : Region.ready md ops L with _ | ⟨i, is⟩
      · rfl
      · obtain ⟨o, ho, hb, _⟩ := ready_mem (i := i) (by rw [hr]; exact List.mem_cons_self)
        exfalso
        have hi : i < L.size := by
          rcases Nat.lt_or_ge i L.size with h | h
          · exact h
          · simp [Array.getD, Nat.not_lt.2 h] at hb
        have hm : false ∈ L.toList := by
          have : L[i] = false := by simpa [Array.getD, hi] using hb
          rw [← this]; simp
        have := List.count_pos_iff.2 hm
        omega
    exact ⟨hnil, hend L a w hI (ready_nil hs hd hnil)⟩
  | succ fuel ih =>
    intro L a w hs hc hI
    refine ⟨fun hnil => hend L a w hI (ready_nil hs hd hnil), fun i hi => ?_⟩
    obtain ⟨o, ho, hb, hdeps⟩ := ready_mem hi
    have hst := hstep L a w hs hI i o ho hb hdeps
    have hi2 : i < L.size := by
      rcases Nat.lt_or_ge i L.size with h | h
      · exact h
      · simp [Array.getD, Nat.not_lt.2 h] at hb
    have hcnt : (L.setIfInBounds i true).toList.count false ≤ fuel := by
      have : L.toList[i]'(by simpa using hi2) = false := by simpa [Array.getD, hi2] using hb
      rw [Array.toList_setIfInBounds, List.count_set (by simpa using hi2)]
      simp only [this]
      simp
      have hm : 0 < L.toList.count false := List.count_pos_iff.2 (by rw [← this]; simp)
      have e9 : L.toList.count false = Array.count false L := by simp
      omega
    have hgo : ∀ a' w', I (L.setIfInBounds i true) a' w' → wpAny P md ops Q fuel (L.setIfInBounds i true) a' w' := fun a' w' h => ih _ a' w' (by simpa using hs) hcnt h
    unfold stepOf at hst
    unfold wpOp
    rw [ho]
    simp only []
    split
    · rename_i hw
      rw [if_pos hw] at hst
      exact .inl (Oper.wp_mono hgo hst)
    · rename_i hw
      rw [if_neg hw] at hst
      exact hgo _ _ hst
/-- The law. -/
theorem region_inv {id : Nat} {a : Act} {w : World} (I : Array Bool → Act → World → Prop) (hm : P.follows .mixedOrders = true)
    (hd : ops.toList.zipIdx.all (fun x => x.1.after.toList.all fun e => decide (e.on < x.2)) = true)
    (h0 : I (Array.replicate ops.size false) a w.drew)
    (hstep : ∀ (L : Array Bool) a w, L.size = ops.size → I L a w → ∀ (i : Nat) (o : Oper), ops[i]? = some o → L.getD i true = false → (∀ e ∈ o.after.toList, Region.binds .any e = true → L.getD e.on false = true) → ∀ K : Act → World → Prop, (∀ a' w', I (L.setIfInBounds i true) a' w' → K a' w') → stepOf P ops Q o K a w)
    (hend : ∀ (L : Array Bool) a w, I L a w → (∀ i, i < ops.size → L.getD i false = true) → Q .normal a w) :
    (Code.region id ops true).wp P Q a w := by
  refine wp_region_any hm ?_
  refine wpAny_inv I (fun i o ho e he => ?_) (fun L a w hs hI i o ho hb hd => hstep L a w hs hI i o ho hb hd _ fun _ _ h => h) hend _ _ _ _ (by simp) (by simp) h0
  have hx := List.all_eq_true.1 hd (o, i) (List.mem_zipIdx_iff_getElem?.2 (by simpa using ho))
  simpa using List.all_eq_true.1 hx e he
/-- A list of what is done, one more. -/
theorem done_set (L : Array Bool) (i j : Nat) : (L.setIfInBounds i true).getD j false = (decide (i = j ∧ i < L.size) || L.getD j false) := by
  by_cases hj : j < L.size
  · by_cases hij : i = j
    · subst hij; simp [Array.getD, hj]
    · simp [Array.getD, hj, hij, Array.getElem_setIfInBounds]
  · by_cases hij : i = j
    · subst hij; simp [Array.getD, hj]
    · simp [Array.getD, hj, hij]
theorem done_ne {L : Array Bool} {i j : Nat} (h : i ≠ j) : (L.setIfInBounds i true).getD j false = L.getD j false := by simp [done_set, h]
theorem done_eq {L : Array Bool} {i : Nat} (h : i < L.size) : (L.setIfInBounds i true).getD i false = true := by simp [done_set, h]
theorem keep_ {L : Array Bool} {i j : Nat} {X : Prop} (h : i ≠ j) (f : L.getD j false = true → X) : (L.setIfInBounds i true).getD j false = true → X := fun hb => f (by rwa [done_ne h] at hb)
variable {o : Oper} {a : Act} {w : World} {K : Act → World → Prop}
theorem stepOf_plain (hgd : o.guard = none) (h : Oper.wp P o a w K Q) : stepOf P ops Q o K a w := by
  unfold stepOf
  have hw : Region.wanted o (yielded ops a.tmps) = true := by simp [Region.wanted, hgd]
  rw [if_pos hw]
  exact h
theorem step_alloc (hgd : o.guard = none) (t : TypeId) (ho : o.op = .alloc t) (zs : Array Value) (hz : (P.info? t).map (fun i => i.zero) = some (some (.agg zs)))
    (h : ∀ g w1, Blk w1 g t zs → w.heap.size ≤ g → w.heap.size < w1.heap.size → Ch [] w w1 → K (a.put o.dst (.pointer (some ⟨g, 0, none⟩))) w1) : stepOf P ops Q o K a w := by
  refine stepOf_plain hgd ?_
  cases hq : P.info? t with
  | none => simp [hq] at hz
  | some i =>
    have hz' : i.zero = some (.agg zs) := by simpa [hq] using hz
    unfold Oper.wp
    simp [execOp, ho, Instr.alloc, zeroValue, typeInfo, hq, hz', newVar, newRow, Value.cells]
    exact h _ _ (Blk.new w t zs) (Nat.le_refl _) (by simp) ((Ch.refl _ _).alloc _)
theorem step_load_at (hgd : o.guard = none) (ty : TypeId) (x : Operand) (ho : o.op = .load ty x) (ad : Addr) (hx : a.eval x = .pointer (some ad)) (cs : List Value) (d : TypeDesc)
    (hc : ∀ j v, cs[j]? = some v → w.cell? (ad.add j) = some v) (hu : P.underlying ty = some d) (hd : (match d with | .struct _ | .array _ _ => true | _ => false) = true) (hi : (P.info? ty).map (·.size) = some cs.length)
    (h : K (a.put o.dst (.agg cs.toArray)) w) : stepOf P ops Q o K a w := by
  refine stepOf_plain hgd ?_
  unfold Oper.wp execOp
  simp only [ho, hx, Instr.loadAt, Instr.sureAddr, Sem.run_bind, Sem.run_pure, Result.andThen_ok, run_loadVar_at w ad ty cs d hc hu hd hi]
  exact h
theorem step_store (hgd : o.guard = none) (ty : TypeId) (x y : Operand) (ho : o.op = .store ty x y) (g : Nat) (hx : a.eval x = .pointer (some ⟨g, 0, none⟩)) (t : TypeId) (cs old : Array Value) (hy : a.eval y = .agg cs) (hg : Blk w g t old)
    (hsz : cs.size = old.size) (hi : (P.info? ty).map (·.size) = some cs.size) (h1 : ∀ v ∈ cs.toList, v.oneCell' = true)
    (h : ∀ w1, Blk w1 g t cs → Ch [g] w w1 → K (a.put o.dst undef) w1) : stepOf P ops Q o K a w := by
  refine stepOf_plain hgd ?_
  have hst := run_storeCells_at P g 0 t cs.toList 0 old w hg (by simp; omega) h1
  have hrun : (storeVar ty ⟨g, 0, none⟩ (.agg cs)).run P w = .ok () (w.setRow g cs) := by
    cases hq : P.info? ty with
    | none => simp [hq] at hi
    | some i =>
      have hs : i.size = cs.size := by simpa [hq] using hi
      simp only [Nat.add_zero, Nat.zero_add, List.take_zero, List.nil_append, Array.length_toList] at hst
      rw [List.drop_of_length_le (by simp; omega), List.append_nil, Array.toArray_toList] at hst
      simp [storeVar, sizeOf, typeInfo, hq, Value.cells, hs, hst]
  unfold Oper.wp execOp
  simp only [ho, hx, hy, Instr.storeAt, Instr.sureAddr, Sem.run_bind, Sem.run_pure, Result.andThen_ok, hrun]
  exact h _ (setRow_blk hg cs) (setRow_ch w g cs)
end
theorem run_copy_row {P : Program} (w : World) (dT sT ty elem : TypeId) (g off n c : Nat) (t : TypeId) (old : Array Value) (ad : Addr) (c2 : Nat) (news : List Value)
    (hu : P.underlying dT = some (.slice elem)) (hs : (P.info? elem).map (·.size) = some 1) (hn : news.length = n) (hc : ∀ j u, news[j]? = some u → w.cell? (ad.add j) = some u)
    (hg : Blk w g t old) (hfit : off + n ≤ old.size) (h1 : ∀ u ∈ news, u.oneCell' = true) :
    (Builtin.copy_ #[dT, sT] ty #[.slice (some ⟨g, off, none⟩) n c, .slice (some ad) n c2]).run P w = .ok (goInt n) (w.setRow g (old.toList.take off ++ news ++ old.toList.drop (off + news.length)).toArray) := by
  subst hn
  have hl := run_loadCells_list (P := P) w ad news hc
  have hst := run_storeCells_at P g off t news 0 old w hg (by simpa using hfit) h1
  cases hq : P.info? elem with
  | none => simp [hq] at hs
  | some i =>
    have hi : i.size = 1 := by simpa [hq] using hs
    have hm : Nat.min news.length news.length = news.length := Nat.min_self _
    simp only [Nat.add_zero] at hst
    simp [Builtin.copy_, run_underlying hu, Builtin.lenOf, Builtin.firstCells, sizeOf, typeInfo, hq, hi, hm, hl, hst]
theorem step_copy_row {P : Program} {ops : Array Oper} {Q : Exit → Act → World → Prop} {o : Oper} {a : Act} {w : World} {K : Act → World → Prop} {E : Prop} (hgd : o.guard = none) (d s : Operand) (dT sT : TypeId) (ho : o.op = .call { callee := .builtin .copy, args := #[d, s], argTypes := #[dT, sT] }) (elem : TypeId)
    (hu : P.underlying dT = some (.slice elem)) (hs : (P.info? elem).map (·.size) = some 1) (g off n c : Nat) (t : TypeId) (old : Array Value) (ad : Addr) (c2 : Nat) (news : List Value)
    (hd : a.eval d = .slice (some ⟨g, off, none⟩) n c) (hx : a.eval s = .slice (some ad) n c2) (hn : news.length = n) (hc : ∀ j u, news[j]? = some u → w.cell? (ad.add j) = some u)
    (hg : Blk w g t old) (hfit : off + n ≤ old.size) (h1 : ∀ u ∈ news, u.oneCell' = true)
    (h : ∀ w1, Blk w1 g t (old.toList.take off ++ news ++ old.toList.drop (off + news.length)).toArray → Ch [g] w w1 → K (a.put o.dst (goInt n)) w1) :
    if Region.wanted o (yielded ops a.tmps) = true then Oper.wp P o a w K Q else E := by
  have hw : Region.wanted o (yielded ops a.tmps) = true := by simp [Region.wanted, hgd]
  rw [if_pos hw]
  have hrun := run_copy_row (P := P) w dT sT o.type elem g off n c t old ad c2 news hu hs hn hc hg hfit h1
  unfold Oper.wp
  simp only [execOp, ho, resolve, invoke, builtin, Sem.run_bind, Sem.run_pure, Result.andThen_ok, List.map_toArray, List.map_cons, List.map_nil, hd, hx, hrun]
  exact h _ (setRow_blk hg _) (setRow_ch w g _)
end Go.Proofs.Ythjceppddmecdaa
