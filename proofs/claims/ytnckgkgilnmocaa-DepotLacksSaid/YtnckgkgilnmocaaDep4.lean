/- What the laws share, part 4 (MapE). No condition but those that each theorem names. -/
import Derived.Test.YtnckgkgilnmocaaDep1
import Derived.Maps.Own
import Derived.Maps.RangeRun
set_option linter.unusedSimpArgs false
set_option linter.unusedVariables false
namespace Go.Proofs.Ytnckgkgilnmocaa
open Go.RowKit Go.MapKept
open Go.Maps (Keyed)
open Go.ChangeMaps (setBlock heap_setBlock_same heap_setBlock_other)
/-- What a map's entries hold: keys and values, in any order. -/
def MapKV (P : Program) (k : TypeId) (es : Array MapEntry) (clock : Nat) (m : List (Value × Value)) : Prop :=
  Stamped es clock ∧ (∀ e ∈ es.toList, ∃ l, keyOf P k e.key = some l) ∧ (es.toList.map fun e => (e.key, e.val)).Perm m
def mapE (P : Program) (k : TypeId) (b : Nat) (m : List (Value × Value)) : SProp where
  fp j := j = b
  ro := false
  holds w := ∃ es clock, w.heap[b]? = some (.map es clock) ∧ MapKV P k es clock m
  lt w h j hj := by
    subst hj
    obtain ⟨es, clock, h, _⟩ := h
    exact (Array.getElem?_eq_some_iff.1 h).1
  stable w w' ho h := by
    obtain ⟨es, clock, h, h2⟩ := h
    exact ⟨es, clock, (ho.block b rfl).trans h, h2⟩
/-- A map that is ranged over: what is still to come. -/
def rangeE (P : Program) (k : TypeId) (b g : Nat) (m left : List (Value × Value)) : SProp where
  fp j := j = b ∨ j = g
  ro := false
  holds w := ∃ es clock seen, w.heap[b]? = some (.map es clock) ∧ MapKV P k es clock m ∧ w.heap[g]? = some (.mapIter (some b) clock seen clock) ∧ ((leftOf es seen).toList.map fun e => (e.key, e.val)).Perm left ∧ b ≠ g
  lt w h j hj := by
    obtain ⟨es, clock, seen, h1, _, h2, _⟩ := h
    rcases hj with rfl | rfl
    · exact (Array.getElem?_eq_some_iff.1 h1).1
    · exact (Array.getElem?_eq_some_iff.1 h2).1
  stable w w' ho h := by
    obtain ⟨es, clock, seen, h1, h2, h3, h4⟩ := h
    exact ⟨es, clock, seen, (ho.block b (.inl rfl)).trans h1, h2, (ho.block g (.inr rfl)).trans h3, h4⟩
/-- .. and the entry that was handed out last. -/
def entryE (P : Program) (k : TypeId) (b g : Nat) (m left : List (Value × Value)) (key val : Value) : SProp where
  fp j := j = b ∨ j = g
  ro := false
  holds w := (rangeE P k b g m left).holds w ∧ ∀ w', w'.heap[b]? = w.heap[b]? → w'.heap[g]? = w.heap[g]? → (Instr.entry (.pointer (some ⟨g, 0, none⟩))).run P w' = .ok (.tuple #[key, val]) w'
  lt w h j hj := (rangeE P k b g m left).lt w h.1 j hj
  stable w w' ho h := ⟨(rangeE P k b g m left).stable w w' ho h.1, fun w2 h1 h2 => h.2 w2 (h1.trans (ho.block b (.inl rfl))) (h2.trans (ho.block g (.inr rfl)))⟩
theorem nodup_val {m : List (Value × Value)} (h : (m.map (·.1)).Nodup) {key v v' : Value} (h1 : (key, v) ∈ m) (h2 : (key, v') ∈ m) : v = v' := by
  induction m with
  | nil => cases h1
  | cons p m ih =>
    simp only [List.map_cons, List.nodup_cons] at h
    rcases List.mem_cons.1 h1 with e1 | h1
    · rcases List.mem_cons.1 h2 with e2 | h2
      · rw [← e1] at e2; injection e2 with _ e2; exact e2.symm
      · exact absurd (List.mem_map.2 ⟨_, h2, by rw [← e1]⟩) h.1
    · rcases List.mem_cons.1 h2 with e2 | h2
      · exact absurd (List.mem_map.2 ⟨_, h1, by rw [← e2]⟩) h.1
      · exact ih h.2 h1 h2
theorem left_perm {es : Array MapEntry} {seen : Array Nat} {e : MapEntry} (hn : (es.toList.map (·.born)).Nodup) (he : e ∈ (leftOf es seen).toList) : (leftOf es seen).toList.Perm (e :: (leftOf es (seen.push e.born)).toList) := by
  have h1 : (leftOf es (seen.push e.born)).toList = (leftOf es seen).toList.filter fun x => !(x.born == e.born) := by
    unfold leftOf
    rw [Array.toList_filter, Array.toList_filter, List.filter_filter]
    refine List.filter_congr fun x _ => ?_
    simp only [Array.contains_push, Bool.not_or]
    rw [Bool.and_comm]
  have hsub : ((leftOf es seen).toList.map (·.born)).Nodup := by
    unfold leftOf
    rw [Array.toList_filter]
    exact (List.filter_sublist.map _).nodup hn
  rw [h1]
  generalize (leftOf es seen).toList = l at he hsub
  clear h1 hn
  induction l with
  | nil => cases he
  | cons x l ih =>
    simp only [List.map_cons, List.nodup_cons] at hsub
    rcases List.mem_cons.1 he with rfl | he
    · have h2 : l.filter (fun x => !(x.born == e.born)) = l := List.filter_eq_self.2 fun y hy => by
        have : y.born ≠ e.born := fun h => hsub.1 (List.mem_map.2 ⟨y, hy, h⟩)
        simpa using this
      rw [List.filter_cons_of_neg (by simp), h2]
    · have hne : x.born ≠ e.born := fun h => hsub.1 (List.mem_map.2 ⟨e, he, h.symm⟩)
      rw [List.filter_cons_of_pos (by simpa using hne)]
      exact ((ih he hsub.2).cons x).trans (List.Perm.swap _ _ _)
theorem MapKV.nodup {P : Program} {k : TypeId} {es : Array MapEntry} {clock : Nat} {m : List (Value × Value)} (h : MapKV P k es clock m) : (m.map (·.1)).Nodup := by
  have h1 := h.1.2.2
  have h2 := h.2.2.map (·.1)
  rw [List.map_map] at h2
  exact h2.nodup_iff.1 h1
theorem MapKV.perm {P : Program} {k : TypeId} {es : Array MapEntry} {clock : Nat} {m m' : List (Value × Value)} (h : MapKV P k es clock m) (hp : m.Perm m') : MapKV P k es clock m' := ⟨h.1, h.2.1, h.2.2.trans hp⟩
theorem setBlock_ch (w : World) (b : Nat) (o : Obj) : Ch [b] w (setBlock w b o) := ⟨rfl, rfl, rfl, by simp [setBlock], fun k _ hk => by simp only [List.mem_singleton] at hk; simp [setBlock, Ne.symm hk]⟩
theorem modify_kv (es : Array MapEntry) (i : Nat) (e : MapEntry) (key val : Value) (he : es[i]? = some e) (hk : e.key = key) :
    ∃ r : List (Value × Value), (es.toList.map fun e => (e.key, e.val)).Perm ((key, e.val) :: r) ∧ ((es.modify i fun e => { e with key := key, val := val }).toList.map fun e => (e.key, e.val)).Perm ((key, val) :: r) ∧ ((es.eraseIdxIfInBounds i).toList.map fun e => (e.key, e.val)).Perm r := by
  obtain ⟨hi, hei⟩ := Array.getElem?_eq_some_iff.1 he
  have hiL : i < es.toList.length := by simpa using hi
  have hL : es.toList = es.toList.take i ++ e :: es.toList.drop (i + 1) := by
    have h2 : e = es.toList[i] := by simp [← hei]
    rw [h2, List.getElem_cons_drop, List.take_append_drop]
  refine ⟨((es.toList.take i) ++ es.toList.drop (i + 1)).map fun e => (e.key, e.val), ?_, ?_, ?_⟩
  · conv => lhs; rw [hL]
    simp only [List.map_append, List.map_cons, hk]
    exact List.perm_middle
  · have h3 : (es.modify i fun e => { e with key := key, val := val }).toList = es.toList.take i ++ { e with key := key, val := val } :: es.toList.drop (i + 1) := by
      rw [Array.toList_modify, List.modify_eq_take_cons_drop hiL]
      congr 2
      simp [← hei]
    rw [h3]
    simp only [List.map_append, List.map_cons]
    exact List.perm_middle
  · have h4 : (es.eraseIdxIfInBounds i).toList = es.toList.take i ++ es.toList.drop (i + 1) := by
      unfold Array.eraseIdxIfInBounds
      rw [dif_pos hi, Array.toList_eraseIdx, List.eraseIdx_eq_take_drop_succ]
    rw [h4]
theorem map_perm_cons {α β : Type} {f : α → β} {l : List α} {x : β} {r : List β} (h : (l.map f).Perm (x :: r)) : ∃ y l', l.Perm (y :: l') ∧ f y = x ∧ (l'.map f).Perm r := by
  obtain ⟨y, hy, hx⟩ := List.mem_map.1 (h.mem_iff.2 List.mem_cons_self)
  obtain ⟨s, t, rfl⟩ := List.append_of_mem hy
  refine ⟨y, s ++ t, List.perm_middle, hx, ?_⟩
  have h2 : ((s ++ y :: t).map f).Perm (f y :: (s ++ t).map f) := (List.perm_middle (a := y) (l₁ := s) (l₂ := t)).map f
  rw [hx] at h2
  exact (h2.symm.trans h).cons_inv
namespace Star
variable {L R : List SProp} {w : World} {P : Program} {k : TypeId} {b g : Nat} {m m' : List (Value × Value)}
theorem map_perm (h : Star (mapE P k b m :: L) w) (hp : m.Perm m') : Star (mapE P k b m' :: L) w :=
  h.as_ rfl (fun _ hk => hk) fun ⟨es, clock, h1, h2⟩ => ⟨es, clock, h1, h2.perm hp⟩
theorem map_nodup (h : Star L w) (hx : mapE P k b m ∈ L) : (m.map (·.1)).Nodup := by
  obtain ⟨es, clock, _, h2⟩ := h.all _ hx
  exact h2.nodup
/-- The loop is left. -/
theorem range_done {left : List (Value × Value)} (h : Star (rangeE P k b g m left :: L) w) : Star (mapE P k b m :: L) w :=
  h.as_ rfl (fun _ hk => .inl hk) fun ⟨es, clock, seen, h1, h2, _⟩ => ⟨es, clock, h1, h2⟩
theorem entry_perm {left left' : List (Value × Value)} {key val : Value} (h : Star (entryE P k b g m left key val :: L) w) (hp : left.Perm left') : Star (entryE P k b g m left' key val :: L) w :=
  h.as_ rfl (fun _ hk => hk) fun ⟨⟨es, clock, seen, h1, h2, h3, h4, h5⟩, h6⟩ => ⟨⟨es, clock, seen, h1, h2, h3, h4.trans hp, h5⟩, h6⟩
theorem range_of_entry {left : List (Value × Value)} {key val : Value} (h : Star (entryE P k b g m left key val :: L) w) : Star (rangeE P k b g m left :: L) w :=
  h.as_ rfl (fun _ hk => hk) fun h => h.1
end Star
section
variable {P : Program} {w : World} {ops : Array Oper} {rest : List Oper} {a : Act} {Q : Exit → Act → World → Prop} {d : Option Tmp} {tp : TypeId} {pos : String} {af : Array Edge} {g : Option (Nat × Bool)}
theorem at_lookup' {t : TypeId} {x y : Operand} {ok : Bool} (h : wpList P ops Q (⟨d, .lookup t x y ok, tp, pos, af, g⟩ :: rest) a w) : wpList P ops Q (⟨d, .lookup t x y ok, tp, pos, af, g⟩ :: rest) a w := h
theorem at_range' {t : TypeId} {x : Operand} (h : wpList P ops Q (⟨d, .range t x, tp, pos, af, g⟩ :: rest) a w) : wpList P ops Q (⟨d, .range t x, tp, pos, af, g⟩ :: rest) a w := h
theorem at_makemap' {t : TypeId} {x : Option Operand} (h : wpList P ops Q (⟨d, .makeMap t x, tp, pos, af, g⟩ :: rest) a w) : wpList P ops Q (⟨d, .makeMap t x, tp, pos, af, g⟩ :: rest) a w := h
theorem at_entry' {x : Operand} (h : wpList P ops Q (⟨d, .entry x, tp, pos, af, g⟩ :: rest) a w) : wpList P ops Q (⟨d, .entry x, tp, pos, af, g⟩ :: rest) a w := h
theorem at_next' {x : Operand} {s : Bool} (h : wpList P ops Q (⟨d, .next x s, tp, pos, af, g⟩ :: rest) a w) : wpList P ops Q (⟨d, .next x s, tp, pos, af, g⟩ :: rest) a w := h
end
section
variable {P : Program} {w : World} {ops : Array Oper} {o : Oper} {a : Act} {Q : Exit → Act → World → Prop} {L R : List SProp} {K : Act → World → Prop} {k e : TypeId} {b g : Nat} {m : List (Value × Value)}
theorem ws_makemap (hM : Star L w) {t : TypeId} (ho : o.op = .makeMap t none) (k : TypeId)
    (h : ∀ b w1, Star (mapE P k b [] :: L) w1 → K (a.put o.dst (.map (some b))) w1) : Oper.wp P o a w K Q := by
  unfold Oper.wp
  simp only [execOp, ho, Option.map_none, Sem.run_bind, run_makeMap, Result.andThen_ok, Sem.run_pure]
  exact h _ _ (hM.new_ ((Ch.refl _ _).alloc _) (y := mapE P k w.heap.size []) ⟨#[], 0, (heap_alloc w _).1, stamped_empty 0, by simp, by simp⟩ fun j hj => by rw [hj]; exact Nat.le_refl _)
/-- m[k], m[k] with ok: there. -/
theorem ex_hit (hM : Star L w) {t : TypeId} {x ix : Operand} {ok : Bool} (ho : o.op = .lookup t x ix ok) (ht : P.underlying t = some (.map k e)) (hx : a.eval x = .map (some b)) {key v : Value} (hi : a.eval ix = key) (hb : mapE P k b m ∈ L) (KK : Keyed P k) {kl : Lit} (hkey : keyOf P k key = some kl) (hm : (key, v) ∈ m) :
    (execOp a.eval o).run P w = .ok (.value (if ok then .tuple #[v, .bool true] else v)) w := by
  obtain ⟨es, clock, h1, h2⟩ := hM.all _ hb
  have hnd := h2.nodup
  have hr : (Instr.lookup t (.map (some b)) key ok).run P w = .ok (if ok then .tuple #[v, .bool true] else v) w := by
    unfold Instr.lookup
    simp only [Sem.run_bind, run_underlying ht, Result.andThen_ok, MapKept.run_getObj_map h1, Sem.run_pure, KK.check w es.isEmpty hkey]
    rcases KK.find w hkey es.toList h2.2.1 with ⟨hf, hno⟩ | ⟨j, e0, hf, he, hk⟩
    · exfalso
      obtain ⟨e1, he1, h⟩ := List.mem_map.1 (h2.2.2.mem_iff.2 hm)
      injection h with h3 _
      exact hno e1 he1 h3
    · have hv : e0.val = v := by
        have h3 : (key, e0.val) ∈ m := h2.2.2.mem_iff.1 (List.mem_map.2 ⟨e0, List.mem_of_getElem? he, by rw [hk]⟩)
        exact nodup_val hnd h3 hm
      rw [hf]
      simp [hv]
  unfold execOp
  simp only [ho, hx, hi, Sem.run_bind, hr, Result.andThen_ok, Sem.run_pure]
theorem ex_miss (hM : Star L w) {t : TypeId} {x ix : Operand} {ok : Bool} (ho : o.op = .lookup t x ix ok) (ht : P.underlying t = some (.map k e)) {z : Value} (hz : ∀ w, (zeroValue e).run P w = .ok z w) (hx : a.eval x = .map (some b)) {key : Value} (hi : a.eval ix = key) (hb : mapE P k b m ∈ L) (KK : Keyed P k) {kl : Lit} (hkey : keyOf P k key = some kl) (hm : ∀ p ∈ m, p.1 ≠ key) :
    (execOp a.eval o).run P w = .ok (.value (if ok then .tuple #[z, .bool false] else z)) w := by
  obtain ⟨es, clock, h1, h2⟩ := hM.all _ hb
  have hr : (Instr.lookup t (.map (some b)) key ok).run P w = .ok (if ok then .tuple #[z, .bool false] else z) w := by
    unfold Instr.lookup
    simp only [Sem.run_bind, run_underlying ht, Result.andThen_ok, MapKept.run_getObj_map h1, Sem.run_pure, KK.check w es.isEmpty hkey]
    rcases KK.find w hkey es.toList h2.2.1 with ⟨hf, hno⟩ | ⟨j, e0, hf, he, hk⟩
    · rw [hf]
      simp [hz]
    · exfalso
      have h3 : (key, e0.val) ∈ m := h2.2.2.mem_iff.1 (List.mem_map.2 ⟨e0, List.mem_of_getElem? he, by rw [hk]⟩)
      exact hm _ h3 rfl
  unfold execOp
  simp only [ho, hx, hi, Sem.run_bind, hr, Result.andThen_ok, Sem.run_pure]
theorem ex_hit2 (hM : Star L w) {t : TypeId} {x ix : Operand} (ho : o.op = .lookup t x ix true) (ht : P.underlying t = some (.map k e)) (hx : a.eval x = .map (some b)) {key v : Value} (hi : a.eval ix = key) (hb : mapE P k b m ∈ L) (KK : Keyed P k) {kl : Lit} (hkey : keyOf P k key = some kl) (hm : (key, v) ∈ m) :
    (execOp a.eval o).run P w = .ok (.value (.tuple #[v, .bool true])) w := ex_hit hM ho ht hx hi hb KK hkey hm
theorem ex_hit1 (hM : Star L w) {t : TypeId} {x ix : Operand} (ho : o.op = .lookup t x ix false) (ht : P.underlying t = some (.map k e)) (hx : a.eval x = .map (some b)) {key v : Value} (hi : a.eval ix = key) (hb : mapE P k b m ∈ L) (KK : Keyed P k) {kl : Lit} (hkey : keyOf P k key = some kl) (hm : (key, v) ∈ m) :
    (execOp a.eval o).run P w = .ok (.value v) w := ex_hit hM ho ht hx hi hb KK hkey hm
theorem ex_miss2 (hM : Star L w) {t : TypeId} {x ix : Operand} (ho : o.op = .lookup t x ix true) (ht : P.underlying t = some (.map k e)) {z : Value} (hz : ∀ w, (zeroValue e).run P w = .ok z w) (hx : a.eval x = .map (some b)) {key : Value} (hi : a.eval ix = key) (hb : mapE P k b m ∈ L) (KK : Keyed P k) {kl : Lit} (hkey : keyOf P k key = some kl) (hm : ∀ p ∈ m, p.1 ≠ key) :
    (execOp a.eval o).run P w = .ok (.value (.tuple #[z, .bool false])) w := ex_miss hM ho ht hz hx hi hb KK hkey hm
theorem ex_miss1 (hM : Star L w) {t : TypeId} {x ix : Operand} (ho : o.op = .lookup t x ix false) (ht : P.underlying t = some (.map k e)) {z : Value} (hz : ∀ w, (zeroValue e).run P w = .ok z w) (hx : a.eval x = .map (some b)) {key : Value} (hi : a.eval ix = key) (hb : mapE P k b m ∈ L) (KK : Keyed P k) {kl : Lit} (hkey : keyOf P k key = some kl) (hm : ∀ p ∈ m, p.1 ≠ key) :
    (execOp a.eval o).run P w = .ok (.value z) w := ex_miss hM ho ht hz hx hi hb KK hkey hm
/-- m[k] = v: a new key. -/
theorem ws_update_new (hM : Star L w) {t : TypeId} {x ix y : Operand} (ho : o.op = .mapUpdate t x ix y) (ht : P.underlying t = some (.map k e)) (hx : a.eval x = .map (some b)) {key v : Value} (hi : a.eval ix = key) (hy : a.eval y = v) (hb : Take (mapE P k b m) L R) (KK : Keyed P k) {kl : Lit} (hkey : keyOf P k key = some kl) (hm : ∀ p ∈ m, p.1 ≠ key)
    (h : ∀ w1, Star (mapE P k b ((key, v) :: m) :: R) w1 → K (a.put o.dst undef) w1) : Oper.wp P o a w K Q := by
  obtain ⟨es, clock, h1, h2⟩ := (hM.take hb).head
  have hr : (Instr.mapUpdate t (.map (some b)) key v).run P w = .ok () (setBlock w b (.map (es.push { key, val := v, born := clock }) (clock + 1))) := by
    unfold Instr.mapUpdate
    simp only [Sem.run_bind, run_underlying ht, Result.andThen_ok, MapKept.run_getObj_map h1, Sem.run_pure, KK.check w false hkey]
    rcases KK.find w hkey es.toList h2.2.1 with ⟨hf, hno⟩ | ⟨j, e0, hf, he, hk⟩
    · rw [hf]
      simp only [Result.andThen_ok, MapKept.run_setObj_map _ h1]
      rfl
    · exfalso
      have h3 : (key, e0.val) ∈ m := h2.2.2.mem_iff.1 (List.mem_map.2 ⟨e0, List.mem_of_getElem? he, by rw [hk]⟩)
      exact hm _ h3 rfl
  unfold Oper.wp execOp
  simp only [ho, hx, hi, hy, Sem.run_bind, hr, Result.andThen_ok, Sem.run_pure]
  refine h _ ((hM.take hb).put (bs := [b]) rfl (setBlock_ch w b _) (fun j hj => .inl (List.mem_singleton.1 hj)) ⟨_, _, heap_setBlock_same h1 _, stamped_push h2.1 fun x hx hxk => ?_, fun x hx => ?_, ?_⟩ fun j hj => .inl hj)
  · exact hm (x.key, x.val) (h2.2.2.mem_iff.1 (List.mem_map.2 ⟨x, hx, rfl⟩)) hxk
  · simp only [Array.toList_push, List.mem_append, List.mem_singleton] at hx
    rcases hx with hx | rfl
    · exact h2.2.1 x hx
    · exact ⟨_, hkey⟩
  · simp only [Array.toList_push, List.map_append, List.map_cons, List.map_nil]
    exact (List.perm_append_singleton _ _).trans (h2.2.2.cons _)
/-- m[k] = v: an old key. -/
theorem ws_update_old (hM : Star L w) {t : TypeId} {x ix y : Operand} (ho : o.op = .mapUpdate t x ix y) (ht : P.underlying t = some (.map k e)) (hx : a.eval x = .map (some b)) {key v old : Value} {m' : List (Value × Value)} (hi : a.eval ix = key) (hy : a.eval y = v) (hb : Take (mapE P k b m) L R) (KK : Keyed P k) {kl : Lit} (hkey : keyOf P k key = some kl) (hm : m.Perm ((key, old) :: m'))
    (h : ∀ w1, Star (mapE P k b ((key, v) :: m') :: R) w1 → K (a.put o.dst undef) w1) : Oper.wp P o a w K Q := by
  obtain ⟨es, clock, h1, h2⟩ := (hM.take hb).head
  have hnd := h2.nodup
  rcases KK.find w hkey es.toList h2.2.1 with ⟨hf, hno⟩ | ⟨j, e0, hf, he, hk⟩
  · exfalso
    obtain ⟨e1, he1, h⟩ := List.mem_map.1 (h2.2.2.mem_iff.2 (hm.mem_iff.2 List.mem_cons_self))
    injection h with h3 _
    exact hno e1 he1 h3
  · have he' : es[j]? = some e0 := by simpa using he
    have hr : (Instr.mapUpdate t (.map (some b)) key v).run P w = .ok () (setBlock w b (.map (es.modify j fun e => { e with key := key, val := v }) clock)) := by
      unfold Instr.mapUpdate
      simp only [Sem.run_bind, run_underlying ht, Result.andThen_ok, MapKept.run_getObj_map h1, Sem.run_pure, KK.check w false hkey, hf, he', Option.map_some, Option.getD_some, hk, KK.stays w hkey, MapKept.run_setObj_map _ h1]
      rfl
    obtain ⟨r, q1, q2, _⟩ := modify_kv es j e0 key v he' hk
    have hp : r.Perm m' := by
      have h3 := q1.symm.trans (h2.2.2.trans hm)
      have h4 : (key, e0.val) ∈ m := h2.2.2.mem_iff.1 (List.mem_map.2 ⟨e0, List.mem_of_getElem? he, by rw [hk]⟩)
      have h5 : e0.val = old := nodup_val hnd h4 (hm.mem_iff.2 List.mem_cons_self)
      rw [h5] at h3
      exact h3.cons_inv
    unfold Oper.wp execOp
    simp only [ho, hx, hi, hy, Sem.run_bind, hr, Result.andThen_ok, Sem.run_pure]
    refine h _ ((hM.take hb).put (bs := [b]) rfl (setBlock_ch w b _) (fun j hj => .inl (List.mem_singleton.1 hj)) ⟨_, _, heap_setBlock_same h1 _, stamped_modify h2.1 j _ (fun _ _ => rfl) (fun x _ hx => ?_), fun x hx => ?_, q2.trans (hp.cons _)⟩ fun j hj => .inl hj)
    · rw [he'] at hx
      injection hx with hx
      subst hx
      exact hk.symm
    · have h6 : (x.key, x.val) ∈ (key, v) :: r := q2.mem_iff.1 (List.mem_map.2 ⟨x, hx, rfl⟩)
      rcases List.mem_cons.1 h6 with h7 | h7
      · injection h7 with h7 _; rw [h7]; exact ⟨_, hkey⟩
      · obtain ⟨y, hy, h8⟩ := List.mem_map.1 (q1.mem_iff.2 (List.mem_cons_of_mem _ h7))
        injection h8 with h8 _; rw [← h8]; exact h2.2.1 y hy
/-- clear(m). -/
theorem ws_clear_map (hM : Star L w) {t : TypeId} {x : Operand} (ho : o.op = .call { callee := .builtin .clear, args := #[x], argTypes := #[t] }) (ht : P.underlying t = some (.map k e)) (hx : a.eval x = .map (some b)) (hb : Take (mapE P k b m) L R)
    (h : ∀ w1, Star (mapE P k b [] :: R) w1 → K (a.put o.dst (.tuple #[])) w1) : Oper.wp P o a w K Q := by
  obtain ⟨es, clock, h1, h2⟩ := (hM.take hb).head
  have hr : (Builtin.clear_ #[t] o.type #[.map (some b)]).run P w = .ok (.tuple #[]) (setBlock w b (.map #[] clock)) := by
    unfold Builtin.clear_
    simp [Sem.run_bind, run_underlying ht, Result.andThen_ok, MapKept.run_getObj_map h1, Sem.run_pure, MapKept.run_setObj_map _ h1]
    rfl
  unfold Oper.wp execOp
  simp only [ho, resolve, invoke, builtin, Sem.run_bind, Sem.run_pure, Result.andThen_ok, List.map_toArray, List.map_cons, List.map_nil, hx, hr]
  exact h _ ((hM.take hb).put (bs := [b]) rfl (setBlock_ch w b _) (fun j hj => .inl (List.mem_singleton.1 hj)) ⟨_, _, heap_setBlock_same h1 _, stamped_empty _, by simp, by simp⟩ fun j hj => .inl hj)
/-- len(m). -/
theorem ex_len_map (hM : Star L w) {t : TypeId} {x : Operand} (ho : o.op = .call { callee := .builtin .len, args := #[x], argTypes := #[t] }) (ht : P.underlying t = some (.map k e)) (hx : a.eval x = .map (some b)) (hb : mapE P k b m ∈ L) :
    (execOp a.eval o).run P w = .ok (.value (.int .i64 (m.length : Int))) w := by
  obtain ⟨es, clock, h1, h2⟩ := hM.all _ hb
  have hl : es.size = m.length := by have := h2.2.2.length_eq; simpa using this
  have hr : (Builtin.len_ #[t] o.type #[.map (some b)]).run P w = .ok (.int .i64 (m.length : Int)) w := by
    unfold Builtin.len_
    simp [Sem.run_bind, run_underlying ht, Result.andThen_ok, MapKept.run_getObj_map h1, Sem.run_pure, goInt, hl]
  unfold execOp
  simp only [ho, resolve, invoke, builtin, Sem.run_bind, Sem.run_pure, Result.andThen_ok, List.map_toArray, List.map_cons, List.map_nil, hx, hr]
/-- for .. := range m: the loop begins. -/
theorem ws_range_map (hM : Star L w) {t : TypeId} {x : Operand} (ho : o.op = .range t x) (ht : P.underlying t = some (.map k e)) (hx : a.eval x = .map (some b)) (hb : Take (mapE P k b m) L R)
    (h : ∀ g w1, Star (rangeE P k b g m m :: R) w1 → K (a.put o.dst (.pointer (some ⟨g, 0, none⟩))) w1) : Oper.wp P o a w K Q := by
  obtain ⟨es, clock, h1, h2⟩ := (hM.take hb).head
  have hlt : b < w.heap.size := (Array.getElem?_eq_some_iff.1 h1).1
  unfold Oper.wp execOp
  simp only [ho, hx, Sem.run_bind, run_range_map w t k e b es clock ht h1, Result.andThen_ok, Sem.run_pure]
  refine h _ _ ((hM.take hb).put (bs := []) rfl ((Ch.refl _ _).alloc _) (by simp) (y := rangeE P k b w.heap.size m m) ⟨es, clock, #[], by rw [heap_alloc_old w _ hlt]; exact h1, h2, heap_alloc_new w _, ?_, by omega⟩ fun j hj => ?_)
  · have : leftOf es #[] = es := by unfold leftOf; exact Array.filter_eq_self.2 (by simp)
    rw [this]; exact h2.2.2
  · rcases hj with rfl | rfl
    · exact .inl rfl
    · exact .inr (Nat.le_refl _)
/-- The next round, or none. -/
theorem ws_next_map (hM : Star L w) {x : Operand} (ho : o.op = .next x false) (hx : a.eval x = .pointer (some ⟨g, 0, none⟩)) {left : List (Value × Value)} (hb : Take (rangeE P k b g m left) L R)
    (h0 : left = [] → ∀ w1, Star (mapE P k b m :: R) w1 → K (a.put o.dst (.tuple #[.bool false])) w1)
    (h1 : ∀ key val left' w1, left.Perm ((key, val) :: left') → Star (entryE P k b g m left' key val :: R) w1 → K (a.put o.dst (.tuple #[.bool true, key, val])) w1) : Oper.wp P o a w K Q := by
  obtain ⟨es, clock, seen, e1, e2, e3, e4, e5⟩ := (hM.take hb).head
  have hstart := hM.take hb
  rcases run_next_at (P := P) w o.type g b clock clock seen es clock e3 e1 e2.1.1 (Nat.le_refl _) with ⟨hz, hr⟩ | ⟨e0, he, w1, hw, hr⟩
  · have hl : left = [] := by
      have h9 := e4.length_eq
      rw [List.length_map, Array.length_toList, hz] at h9
      exact List.eq_nil_of_length_eq_zero h9.symm
    subst hl
    unfold Oper.wp execOp
    simp only [ho, hx, Sem.run_bind, hr, Result.andThen_ok, Sem.run_pure]
    exact h0 rfl _ hstart.range_done
  · have hst1 : Star (rangeE P k b g m left :: R) w1 := by rcases hw with rfl | rfl; exact hstart; exact hstart.drew
    have hmem := mem_left he
    have hg1 : w1.heap[g]? = some (.mapIter (some b) clock seen clock) := by rcases hw with rfl | rfl <;> exact e3
    have hb1 : w1.heap[b]? = some (.map es clock) := by rcases hw with rfl | rfl <;> exact e1
    have hgl : g < w1.heap.size := (Array.getElem?_eq_some_iff.1 hg1).1
    have hperm : ∃ left' : List (Value × Value), left.Perm ((e0.key, e0.val) :: left') ∧ ((leftOf es (seen.push e0.born)).toList.map fun e => (e.key, e.val)).Perm left' := by
      refine ⟨_, ?_, List.Perm.refl _⟩
      refine e4.symm.trans ?_
      have h7 : (leftOf es seen).toList.Perm (e0 :: (leftOf es (seen.push e0.born)).toList) := left_perm e2.1.2.1 he
      exact h7.map _
    obtain ⟨left', p1, p2⟩ := hperm
    unfold Oper.wp execOp
    simp only [ho, hx, Sem.run_bind, hr, Result.andThen_ok, Sem.run_pure]
    have hb2 : (setBlock w1 g (.mapIter (some b) clock (seen.push e0.born) clock)).heap[b]? = some (.map es clock) := by
      rw [show (setBlock w1 g (.mapIter (some b) clock (seen.push e0.born) clock)).heap[b]? = w1.heap[b]? by simp [setBlock, Ne.symm e5]]; exact hb1
    have hg2 : (setBlock w1 g (.mapIter (some b) clock (seen.push e0.born) clock)).heap[g]? = some (.mapIter (some b) clock (seen.push e0.born) clock) := by simp [setBlock, hgl]
    refine h1 e0.key e0.val left' _ p1 (hst1.put (bs := [g]) rfl (setBlock_ch w1 g _) (fun j hj => .inl (.inr (List.mem_singleton.1 hj))) (y := entryE P k b g m left' e0.key e0.val) ⟨⟨es, clock, _, hb2, e2, hg2, p2, e5⟩, fun w' q1 q2 => ?_⟩ fun j hj => .inl hj)
    exact run_entry_at w' g b clock seen es clock e0 (q2.trans hg2) (q1.trans hb2) hmem.1 e2.1.2.1
/-- .. the entries a list's images. -/
theorem ws_next_enc {α : Type} (enc : α → Value × Value) (hM : Star L w) {x : Operand} (ho : o.op = .next x false) (hx : a.eval x = .pointer (some ⟨g, 0, none⟩)) {lft : List α} (hb : Take (rangeE P k b g m (lft.map enc)) L R)
    (h0 : lft = [] → ∀ w1, Star (mapE P k b m :: R) w1 → K (a.put o.dst (.tuple #[.bool false])) w1)
    (h1 : ∀ y lft' w1, lft.Perm (y :: lft') → Star (entryE P k b g m (lft'.map enc) (enc y).1 (enc y).2 :: R) w1 → K (a.put o.dst (.tuple #[.bool true, (enc y).1, (enc y).2])) w1) : Oper.wp P o a w K Q :=
  ws_next_map hM ho hx hb (fun he => h0 (List.map_eq_nil_iff.1 he)) fun key val left' w1 hp hM1 => by
    obtain ⟨y, lft', p1, he, p2⟩ := map_perm_cons hp
    obtain rfl : key = (enc y).1 := by rw [he]
    obtain rfl : val = (enc y).2 := by rw [he]
    exact h1 y lft' w1 p1 (hM1.entry_perm p2.symm)
/-- The round's key and value. -/
theorem ex_entry (hM : Star L w) {x : Operand} (ho : o.op = .entry x) (hx : a.eval x = .pointer (some ⟨g, 0, none⟩)) {left : List (Value × Value)} {key val : Value} (hb : entryE P k b g m left key val ∈ L) :
    (execOp a.eval o).run P w = .ok (.value (.tuple #[key, val])) w := by
  have h := (hM.all _ hb).2 w rfl rfl
  unfold execOp
  simp only [ho, hx, Sem.run_bind, h, Result.andThen_ok, Sem.run_pure]
end
end Go.Proofs.Ytnckgkgilnmocaa
