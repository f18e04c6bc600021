/- What the laws share, part 3 (MapE, SecP, At, Law, SecA, SecR, SecW, SecS, Shelf, MapS). No condition but those that each theorem names. -/
import Derived.Test.YtnckgkgilnmocaaU1
import Derived.Carry
import Derived.ChangeSame
import Derived.Deep.Fields
import Derived.Deep.Grids
import Derived.Deep.LoopGhost
import Derived.Deep.Slices
import Derived.Deep.Strs
import Derived.Laws.ResultCell
import Derived.Maps.Own
import Derived.Maps.RangeRun
import Derived.OpenShut
import Derived.ProofKit
import Derived.Shelf.SlIterI.Nil
import Derived.Shelf.SortM.Plain
import Derived.Shelf.SortM.SortNone
import Derived.ShutString
import Derived.Test.YtnckgkgilnmocaaProg
import Derived.WideKeyArgs
set_option linter.unusedSimpArgs false
set_option linter.unusedVariables false
namespace Go.Proofs.Ytnckgkgilnmocaa
open Go.RowKit Go.MapKept
open Go.Maps (Keyed)
open Go.ChangeMaps (setBlock heap_setBlock_same heap_setBlock_other)
/-- What a map's entries hold: keys and values, in any order. -/
def MapKV (P : Program) (k : TypeId) (es : Array MapEntry) (clock : Nat) (m : List (Value × Value)) : Prop :=
  Stamped es clock ∧ (∀ e ∈ es.toList, ∃ l, keyOf P k e.key = some l) ∧ (es.toList.map fun e => (e.key, e.val)).Perm m
def mapE (P : Program) (k : TypeId) (b : Nat) (m : List (Value × Value)) : SProp where
  fp j := j = b
  ro := false
  holds w := ∃ es clock, w.heap[b]? = some (.map es clock) ∧ MapKV P k es clock m
  lt w h j hj := by
    subst hj
    obtain ⟨es, clock, h, _⟩ := h
    exact (Array.getElem?_eq_some_iff.1 h).1
  stable w w' ho h := by
    obtain ⟨es, clock, h, h2⟩ := h
    exact ⟨es, clock, (ho.block b rfl).trans h, h2⟩
/-- A map that is ranged over: what is still to come. -/
def rangeE (P : Program) (k : TypeId) (b g : Nat) (m left : List (Value × Value)) : SProp where
  fp j := j = b ∨ j = g
  ro := false
  holds w := ∃ es clock seen, w.heap[b]? = some (.map es clock) ∧ MapKV P k es clock m ∧ w.heap[g]? = some (.mapIter (some b) clock seen clock) ∧ ((leftOf es seen).toList.map fun e => (e.key, e.val)).Perm left ∧ b ≠ g
  lt w h j hj := by
    obtain ⟨es, clock, seen, h1, _, h2, _⟩ := h
    rcases hj with rfl | rfl
    · exact (Array.getElem?_eq_some_iff.1 h1).1
    · exact (Array.getElem?_eq_some_iff.1 h2).1
  stable w w' ho h := by
    obtain ⟨es, clock, seen, h1, h2, h3, h4⟩ := h
    exact ⟨es, clock, seen, (ho.block b (.inl rfl)).trans h1, h2, (ho.block g (.inr rfl)).trans h3, h4⟩
/-- .. and the entry that was handed out last. -/
def entryE (P : Program) (k : TypeId) (b g : Nat) (m left : List (Value × Value)) (key val : Value) : SProp where
  fp j := j = b ∨ j = g
  ro := false
  holds w := (rangeE P k b g m left).holds w ∧ ∀ w', w'.heap[b]? = w.heap[b]? → w'.heap[g]? = w.heap[g]? → (Instr.entry (.pointer (some ⟨g, 0, none⟩))).run P w' = .ok (.tuple #[key, val]) w'
  lt w h j hj := (rangeE P k b g m left).lt w h.1 j hj
  stable w w' ho h := ⟨(rangeE P k b g m left).stable w w' ho h.1, fun w2 h1 h2 => h.2 w2 (h1.trans (ho.block b (.inl rfl))) (h2.trans (ho.block g (.inr rfl)))⟩
theorem nodup_val {m : List (Value × Value)} (h : (m.map (·.1)).Nodup) {key v v' : Value} (h1 : (key, v) ∈ m) (h2 : (key, v') ∈ m) : v = v' := by
  induction m with
  | nil => cases h1
  | cons p m ih =>
    simp only [List.map_cons, List.nodup_cons] at h
    rcases List.mem_cons.1 h1 with e1 | h1
    · rcases List.mem_cons.1 h2 with e2 | h2
      · rw [← e1] at e2; injection e2 with _ e2; exact e2.symm
      · exact absurd (List.mem_map.2 ⟨_, h2, by rw [← e1]⟩) h.1
    · rcases List.mem_cons.1 h2 with e2 | h2
      · exact absurd (List.mem_map.2 ⟨_, h1, by rw [← e2]⟩) h.1
      · exact ih h.2 h1 h2
theorem left_perm {es : Array MapEntry} {seen : Array Nat} {e : MapEntry} (hn : (es.toList.map (·.born)).Nodup) (he : e ∈ (leftOf es seen).toList) : (leftOf es seen).toList.Perm (e :: (leftOf es (seen.push e.born)).toList) := by
  have h1 : (leftOf es (seen.push e.born)).toList = (leftOf es seen).toList.filter fun x => !(x.born == e.born) := by
    unfold leftOf
    rw [Array.toList_filter, Array.toList_filter, List.filter_filter]
    refine List.filter_congr fun x _ => ?_
    simp only [Array.contains_push, Bool.not_or]
    rw [Bool.and_comm]
  have hsub : ((leftOf es seen).toList.map (·.born)).Nodup := by
    unfold leftOf
    rw [Array.toList_filter]
    exact (List.filter_sublist.map _).nodup hn
  rw [h1]
  generalize (leftOf es seen).toList = l at he hsub
  clear h1 hn
  induction l with
  | nil => cases he
  | cons x l ih =>
    simp only [List.map_cons, List.nodup_cons] at hsub
    rcases List.mem_cons.1 he with rfl | he
    · have h2 : l.filter (fun x => !(x.born == e.born)) = l := List.filter_eq_self.2 fun y hy => by
        have : y.born ≠ e.born := fun h => hsub.1 (List.mem_map.2 ⟨y, hy, h⟩)
        simpa using this
      rw [List.filter_cons_of_neg (by simp), h2]
    · have hne : x.born ≠ e.born := fun h => hsub.1 (List.mem_map.2 ⟨e, he, h.symm⟩)
      rw [List.filter_cons_of_pos (by simpa using hne)]
      exact ((ih he hsub.2).cons x).trans (List.Perm.swap _ _ _)
theorem MapKV.nodup {P : Program} {k : TypeId} {es : Array MapEntry} {clock : Nat} {m : List (Value × Value)} (h : MapKV P k es clock m) : (m.map (·.1)).Nodup := by
  have h1 := h.1.2.2
  have h2 := h.2.2.map (·.1)
  rw [List.map_map] at h2
  exact h2.nodup_iff.1 h1
theorem MapKV.perm {P : Program} {k : TypeId} {es : Array MapEntry} {clock : Nat} {m m' : List (Value × Value)} (h : MapKV P k es clock m) (hp : m.Perm m') : MapKV P k es clock m' := ⟨h.1, h.2.1, h.2.2.trans hp⟩
theorem setBlock_ch (w : World) (b : Nat) (o : Obj) : Ch [b] w (setBlock w b o) := ⟨rfl, rfl, rfl, by simp [setBlock], fun k _ hk => by simp only [List.mem_singleton] at hk; simp [setBlock, Ne.symm hk]⟩
theorem modify_kv (es : Array MapEntry) (i : Nat) (e : MapEntry) (key val : Value) (he : es[i]? = some e) (hk : e.key = key) :
    ∃ r : List (Value × Value), (es.toList.map fun e => (e.key, e.val)).Perm ((key, e.val) :: r) ∧ ((es.modify i fun e => { e with key := key, val := val }).toList.map fun e => (e.key, e.val)).Perm ((key, val) :: r) ∧ ((es.eraseIdxIfInBounds i).toList.map fun e => (e.key, e.val)).Perm r := by
  obtain ⟨hi, hei⟩ := Array.getElem?_eq_some_iff.1 he
  have hiL : i < es.toList.length := by simpa using hi
  have hL : es.toList = es.toList.take i ++ e :: es.toList.drop (i + 1) := by
    have h2 : e = es.toList[i] := by simp [← hei]
    rw [h2, List.getElem_cons_drop, List.take_append_drop]
  refine ⟨((es.toList.take i) ++ es.toList.drop (i + 1)).map fun e => (e.key, e.val), ?_, ?_, ?_⟩
  · conv => lhs; rw [hL]
    simp only [List.map_append, List.map_cons, hk]
    exact List.perm_middle
  · have h3 : (es.modify i fun e => { e with key := key, val := val }).toList = es.toList.take i ++ { e with key := key, val := val } :: es.toList.drop (i + 1) := by
      rw [Array.toList_modify, List.modify_eq_take_cons_drop hiL]
      congr 2
      simp [← hei]
    rw [h3]
    simp only [List.map_append, List.map_cons]
    exact List.perm_middle
  · have h4 : (es.eraseIdxIfInBounds i).toList = es.toList.take i ++ es.toList.drop (i + 1) := by
      unfold Array.eraseIdxIfInBounds
      rw [dif_pos hi, Array.toList_eraseIdx, List.eraseIdx_eq_take_drop_succ]
    rw [h4]
theorem map_perm_cons {α β : Type} {f : α → β} {l : List α} {x : β} {r : List β} (h : (l.map f).Perm (x :: r)) : ∃ y l', l.Perm (y :: l') ∧ f y = x ∧ (l'.map f).Perm r := by
  obtain ⟨y, hy, hx⟩ := List.mem_map.1 (h.mem_iff.2 List.mem_cons_self)
  obtain ⟨s, t, rfl⟩ := List.append_of_mem hy
  refine ⟨y, s ++ t, List.perm_middle, hx, ?_⟩
  have h2 : ((s ++ y :: t).map f).Perm (f y :: (s ++ t).map f) := (List.perm_middle (a := y) (l₁ := s) (l₂ := t)).map f
  rw [hx] at h2
  exact (h2.symm.trans h).cons_inv
namespace Star
variable {L R : List SProp} {w : World} {P : Program} {k : TypeId} {b g : Nat} {m m' : List (Value × Value)}
theorem map_perm (h : Star (mapE P k b m :: L) w) (hp : m.Perm m') : Star (mapE P k b m' :: L) w :=
  h.as_ rfl (fun _ hk => hk) fun ⟨es, clock, h1, h2⟩ => ⟨es, clock, h1, h2.perm hp⟩
/-- The loop is left. -/
theorem range_done {left : List (Value × Value)} (h : Star (rangeE P k b g m left :: L) w) : Star (mapE P k b m :: L) w :=
  h.as_ rfl (fun _ hk => .inl hk) fun ⟨es, clock, seen, h1, h2, _⟩ => ⟨es, clock, h1, h2⟩
theorem entry_perm {left left' : List (Value × Value)} {key val : Value} (h : Star (entryE P k b g m left key val :: L) w) (hp : left.Perm left') : Star (entryE P k b g m left' key val :: L) w :=
  h.as_ rfl (fun _ hk => hk) fun ⟨⟨es, clock, seen, h1, h2, h3, h4, h5⟩, h6⟩ => ⟨⟨es, clock, seen, h1, h2, h3, h4.trans hp, h5⟩, h6⟩
theorem range_of_entry {left : List (Value × Value)} {key val : Value} (h : Star (entryE P k b g m left key val :: L) w) : Star (rangeE P k b g m left :: L) w :=
  h.as_ rfl (fun _ hk => hk) fun h => h.1
end Star
section
variable {P : Program} {w : World} {ops : Array Oper} {rest : List Oper} {a : Act} {Q : Exit → Act → World → Prop} {d : Option Tmp} {tp : TypeId} {pos : String} {af : Array Edge} {g : Option (Nat × Bool)}
theorem at_lookup' {t : TypeId} {x y : Operand} {ok : Bool} (h : wpList P ops Q (⟨d, .lookup t x y ok, tp, pos, af, g⟩ :: rest) a w) : wpList P ops Q (⟨d, .lookup t x y ok, tp, pos, af, g⟩ :: rest) a w := h
theorem at_range' {t : TypeId} {x : Operand} (h : wpList P ops Q (⟨d, .range t x, tp, pos, af, g⟩ :: rest) a w) : wpList P ops Q (⟨d, .range t x, tp, pos, af, g⟩ :: rest) a w := h
theorem at_makemap' {t : TypeId} {x : Option Operand} (h : wpList P ops Q (⟨d, .makeMap t x, tp, pos, af, g⟩ :: rest) a w) : wpList P ops Q (⟨d, .makeMap t x, tp, pos, af, g⟩ :: rest) a w := h
theorem at_entry' {x : Operand} (h : wpList P ops Q (⟨d, .entry x, tp, pos, af, g⟩ :: rest) a w) : wpList P ops Q (⟨d, .entry x, tp, pos, af, g⟩ :: rest) a w := h
theorem at_next' {x : Operand} {s : Bool} (h : wpList P ops Q (⟨d, .next x s, tp, pos, af, g⟩ :: rest) a w) : wpList P ops Q (⟨d, .next x s, tp, pos, af, g⟩ :: rest) a w := h
end
section
variable {P : Program} {w : World} {ops : Array Oper} {o : Oper} {a : Act} {Q : Exit → Act → World → Prop} {L R : List SProp} {K : Act → World → Prop} {k e : TypeId} {b g : Nat} {m : List (Value × Value)}
theorem ws_makemap (hM : Star L w) {t : TypeId} (ho : o.op = .makeMap t none) (k : TypeId)
    (h : ∀ b w1, Star (mapE P k b [] :: L) w1 → K (a.put o.dst (.map (some b))) w1) : Oper.wp P o a w K Q := by
  unfold Oper.wp
  simp only [execOp, ho, Option.map_none, Sem.run_bind, run_makeMap, Result.andThen_ok, Sem.run_pure]
  exact h _ _ (hM.new_ ((Ch.refl _ _).alloc _) (y := mapE P k w.heap.size []) ⟨#[], 0, (heap_alloc w _).1, stamped_empty 0, by simp, by simp⟩ fun j hj => by rw [hj]; exact Nat.le_refl _)
/-- m[k], m[k] with ok: there. -/
theorem ex_hit (hM : Star L w) {t : TypeId} {x ix : Operand} {ok : Bool} (ho : o.op = .lookup t x ix ok) (ht : P.underlying t = some (.map k e)) (hx : a.eval x = .map (some b)) {key v : Value} (hi : a.eval ix = key) (hb : mapE P k b m ∈ L) (KK : Keyed P k) {kl : Lit} (hkey : keyOf P k key = some kl) (hm : (key, v) ∈ m) :
    (execOp a.eval o).run P w = .ok (.value (if ok then .tuple #[v, .bool true] else v)) w := by
  obtain ⟨es, clock, h1, h2⟩ := hM.all _ hb
  have hnd := h2.nodup
  have hr : (Instr.lookup t (.map (some b)) key ok).run P w = .ok (if ok then .tuple #[v, .bool true] else v) w := by
    unfold Instr.lookup
    simp only [Sem.run_bind, run_underlying ht, Result.andThen_ok, MapKept.run_getObj_map h1, Sem.run_pure, KK.check w es.isEmpty hkey]
    rcases KK.find w hkey es.toList h2.2.1 with ⟨hf, hno⟩ | ⟨j, e0, hf, he, hk⟩
    · exfalso
      obtain ⟨e1, he1, h⟩ := List.mem_map.1 (h2.2.2.mem_iff.2 hm)
      injection h with h3 _
      exact hno e1 he1 h3
    · have hv : e0.val = v := by
        have h3 : (key, e0.val) ∈ m := h2.2.2.mem_iff.1 (List.mem_map.2 ⟨e0, List.mem_of_getElem? he, by rw [hk]⟩)
        exact nodup_val hnd h3 hm
      rw [hf]
      simp [hv]
  unfold execOp
  simp only [ho, hx, hi, Sem.run_bind, hr, Result.andThen_ok, Sem.run_pure]
theorem ex_miss (hM : Star L w) {t : TypeId} {x ix : Operand} {ok : Bool} (ho : o.op = .lookup t x ix ok) (ht : P.underlying t = some (.map k e)) {z : Value} (hz : ∀ w, (zeroValue e).run P w = .ok z w) (hx : a.eval x = .map (some b)) {key : Value} (hi : a.eval ix = key) (hb : mapE P k b m ∈ L) (KK : Keyed P k) {kl : Lit} (hkey : keyOf P k key = some kl) (hm : ∀ p ∈ m, p.1 ≠ key) :
    (execOp a.eval o).run P w = .ok (.value (if ok then .tuple #[z, .bool false] else z)) w := by
  obtain ⟨es, clock, h1, h2⟩ := hM.all _ hb
  have hr : (Instr.lookup t (.map (some b)) key ok).run P w = .ok (if ok then .tuple #[z, .bool false] else z) w := by
    unfold Instr.lookup
    simp only [Sem.run_bind, run_underlying ht, Result.andThen_ok, MapKept.run_getObj_map h1, Sem.run_pure, KK.check w es.isEmpty hkey]
    rcases KK.find w hkey es.toList h2.2.1 with ⟨hf, hno⟩ | ⟨j, e0, hf, he, hk⟩
    · rw [hf]
      simp [hz]
    · exfalso
      have h3 : (key, e0.val) ∈ m := h2.2.2.mem_iff.1 (List.mem_map.2 ⟨e0, List.mem_of_getElem? he, by rw [hk]⟩)
      exact hm _ h3 rfl
  unfold execOp
  simp only [ho, hx, hi, Sem.run_bind, hr, Result.andThen_ok, Sem.run_pure]
theorem ex_hit2 (hM : Star L w) {t : TypeId} {x ix : Operand} (ho : o.op = .lookup t x ix true) (ht : P.underlying t = some (.map k e)) (hx : a.eval x = .map (some b)) {key v : Value} (hi : a.eval ix = key) (hb : mapE P k b m ∈ L) (KK : Keyed P k) {kl : Lit} (hkey : keyOf P k key = some kl) (hm : (key, v) ∈ m) :
    (execOp a.eval o).run P w = .ok (.value (.tuple #[v, .bool true])) w := ex_hit hM ho ht hx hi hb KK hkey hm
theorem ex_hit1 (hM : Star L w) {t : TypeId} {x ix : Operand} (ho : o.op = .lookup t x ix false) (ht : P.underlying t = some (.map k e)) (hx : a.eval x = .map (some b)) {key v : Value} (hi : a.eval ix = key) (hb : mapE P k b m ∈ L) (KK : Keyed P k) {kl : Lit} (hkey : keyOf P k key = some kl) (hm : (key, v) ∈ m) :
    (execOp a.eval o).run P w = .ok (.value v) w := ex_hit hM ho ht hx hi hb KK hkey hm
theorem ex_miss2 (hM : Star L w) {t : TypeId} {x ix : Operand} (ho : o.op = .lookup t x ix true) (ht : P.underlying t = some (.map k e)) {z : Value} (hz : ∀ w, (zeroValue e).run P w = .ok z w) (hx : a.eval x = .map (some b)) {key : Value} (hi : a.eval ix = key) (hb : mapE P k b m ∈ L) (KK : Keyed P k) {kl : Lit} (hkey : keyOf P k key = some kl) (hm : ∀ p ∈ m, p.1 ≠ key) :
    (execOp a.eval o).run P w = .ok (.value (.tuple #[z, .bool false])) w := ex_miss hM ho ht hz hx hi hb KK hkey hm
/-- m[k] = v: a new key. -/
theorem ws_update_new (hM : Star L w) {t : TypeId} {x ix y : Operand} (ho : o.op = .mapUpdate t x ix y) (ht : P.underlying t = some (.map k e)) (hx : a.eval x = .map (some b)) {key v : Value} (hi : a.eval ix = key) (hy : a.eval y = v) (hb : Take (mapE P k b m) L R) (KK : Keyed P k) {kl : Lit} (hkey : keyOf P k key = some kl) (hm : ∀ p ∈ m, p.1 ≠ key)
    (h : ∀ w1, Star (mapE P k b ((key, v) :: m) :: R) w1 → K (a.put o.dst undef) w1) : Oper.wp P o a w K Q := by
  obtain ⟨es, clock, h1, h2⟩ := (hM.take hb).head
  have hr : (Instr.mapUpdate t (.map (some b)) key v).run P w = .ok () (setBlock w b (.map (es.push { key, val := v, born := clock }) (clock + 1))) := by
    unfold Instr.mapUpdate
    simp only [Sem.run_bind, run_underlying ht, Result.andThen_ok, MapKept.run_getObj_map h1, Sem.run_pure, KK.check w false hkey]
    rcases KK.find w hkey es.toList h2.2.1 with ⟨hf, hno⟩ | ⟨j, e0, hf, he, hk⟩
    · rw [hf]
      simp only [Result.andThen_ok, MapKept.run_setObj_map _ h1]
      rfl
    · exfalso
      have h3 : (key, e0.val) ∈ m := h2.2.2.mem_iff.1 (List.mem_map.2 ⟨e0, List.mem_of_getElem? he, by rw [hk]⟩)
      exact hm _ h3 rfl
  unfold Oper.wp execOp
  simp only [ho, hx, hi, hy, Sem.run_bind, hr, Result.andThen_ok, Sem.run_pure]
  refine h _ ((hM.take hb).put (bs := [b]) rfl (setBlock_ch w b _) (fun j hj => .inl (List.mem_singleton.1 hj)) ⟨_, _, heap_setBlock_same h1 _, stamped_push h2.1 fun x hx hxk => ?_, fun x hx => ?_, ?_⟩ fun j hj => .inl hj)
  · exact hm (x.key, x.val) (h2.2.2.mem_iff.1 (List.mem_map.2 ⟨x, hx, rfl⟩)) hxk
  · simp only [Array.toList_push, List.mem_append, List.mem_singleton] at hx
    rcases hx with hx | rfl
    · exact h2.2.1 x hx
    · exact ⟨_, hkey⟩
  · simp only [Array.toList_push, List.map_append, List.map_cons, List.map_nil]
    exact (List.perm_append_singleton _ _).trans (h2.2.2.cons _)
/-- m[k] = v: an old key. -/
theorem ws_update_old (hM : Star L w) {t : TypeId} {x ix y : Operand} (ho : o.op = .mapUpdate t x ix y) (ht : P.underlying t = some (.map k e)) (hx : a.eval x = .map (some b)) {key v old : Value} {m' : List (Value × Value)} (hi : a.eval ix = key) (hy : a.eval y = v) (hb : Take (mapE P k b m) L R) (KK : Keyed P k) {kl : Lit} (hkey : keyOf P k key = some kl) (hm : m.Perm ((key, old) :: m'))
    (h : ∀ w1, Star (mapE P k b ((key, v) :: m') :: R) w1 → K (a.put o.dst undef) w1) : Oper.wp P o a w K Q := by
  obtain ⟨es, clock, h1, h2⟩ := (hM.take hb).head
  have hnd := h2.nodup
  rcases KK.find w hkey es.toList h2.2.1 with ⟨hf, hno⟩ | ⟨j, e0, hf, he, hk⟩
  · exfalso
    obtain ⟨e1, he1, h⟩ := List.mem_map.1 (h2.2.2.mem_iff.2 (hm.mem_iff.2 List.mem_cons_self))
    injection h with h3 _
    exact hno e1 he1 h3
  · have he' : es[j]? = some e0 := by simpa using he
    have hr : (Instr.mapUpdate t (.map (some b)) key v).run P w = .ok () (setBlock w b (.map (es.modify j fun e => { e with key := key, val := v }) clock)) := by
      unfold Instr.mapUpdate
      simp only [Sem.run_bind, run_underlying ht, Result.andThen_ok, MapKept.run_getObj_map h1, Sem.run_pure, KK.check w false hkey, hf, he', Option.map_some, Option.getD_some, hk, KK.stays w hkey, MapKept.run_setObj_map _ h1]
      rfl
    obtain ⟨r, q1, q2, _⟩ := modify_kv es j e0 key v he' hk
    have hp : r.Perm m' := by
      have h3 := q1.symm.trans (h2.2.2.trans hm)
      have h4 : (key, e0.val) ∈ m := h2.2.2.mem_iff.1 (List.mem_map.2 ⟨e0, List.mem_of_getElem? he, by rw [hk]⟩)
      have h5 : e0.val = old := nodup_val hnd h4 (hm.mem_iff.2 List.mem_cons_self)
      rw [h5] at h3
      exact h3.cons_inv
    unfold Oper.wp execOp
    simp only [ho, hx, hi, hy, Sem.run_bind, hr, Result.andThen_ok, Sem.run_pure]
    refine h _ ((hM.take hb).put (bs := [b]) rfl (setBlock_ch w b _) (fun j hj => .inl (List.mem_singleton.1 hj)) ⟨_, _, heap_setBlock_same h1 _, stamped_modify h2.1 j _ (fun _ _ => rfl) (fun x _ hx => ?_), fun x hx => ?_, q2.trans (hp.cons _)⟩ fun j hj => .inl hj)
    · rw [he'] at hx
      injection hx with hx
      subst hx
      exact hk.symm
    · have h6 : (x.key, x.val) ∈ (key, v) :: r := q2.mem_iff.1 (List.mem_map.2 ⟨x, hx, rfl⟩)
      rcases List.mem_cons.1 h6 with h7 | h7
      · injection h7 with h7 _; rw [h7]; exact ⟨_, hkey⟩
      · obtain ⟨y, hy, h8⟩ := List.mem_map.1 (q1.mem_iff.2 (List.mem_cons_of_mem _ h7))
        injection h8 with h8 _; rw [← h8]; exact h2.2.1 y hy
/-- clear(m). -/
theorem ws_clear_map (hM : Star L w) {t : TypeId} {x : Operand} (ho : o.op = .call { callee := .builtin .clear, args := #[x], argTypes := #[t] }) (ht : P.underlying t = some (.map k e)) (hx : a.eval x = .map (some b)) (hb : Take (mapE P k b m) L R)
    (h : ∀ w1, Star (mapE P k b [] :: R) w1 → K (a.put o.dst (.tuple #[])) w1) : Oper.wp P o a w K Q := by
  obtain ⟨es, clock, h1, h2⟩ := (hM.take hb).head
  have hr : (Builtin.clear_ #[t] o.type #[.map (some b)]).run P w = .ok (.tuple #[]) (setBlock w b (.map #[] clock)) := by
    unfold Builtin.clear_
    simp [Sem.run_bind, run_underlying ht, Result.andThen_ok, MapKept.run_getObj_map h1, Sem.run_pure, MapKept.run_setObj_map _ h1]
    rfl
  unfold Oper.wp execOp
  simp only [ho, resolve, invoke, builtin, Sem.run_bind, Sem.run_pure, Result.andThen_ok, List.map_toArray, List.map_cons, List.map_nil, hx, hr]
  exact h _ ((hM.take hb).put (bs := [b]) rfl (setBlock_ch w b _) (fun j hj => .inl (List.mem_singleton.1 hj)) ⟨_, _, heap_setBlock_same h1 _, stamped_empty _, by simp, by simp⟩ fun j hj => .inl hj)
/-- for .. := range m: the loop begins. -/
theorem ws_range_map (hM : Star L w) {t : TypeId} {x : Operand} (ho : o.op = .range t x) (ht : P.underlying t = some (.map k e)) (hx : a.eval x = .map (some b)) (hb : Take (mapE P k b m) L R)
    (h : ∀ g w1, Star (rangeE P k b g m m :: R) w1 → K (a.put o.dst (.pointer (some ⟨g, 0, none⟩))) w1) : Oper.wp P o a w K Q := by
  obtain ⟨es, clock, h1, h2⟩ := (hM.take hb).head
  have hlt : b < w.heap.size := (Array.getElem?_eq_some_iff.1 h1).1
  unfold Oper.wp execOp
  simp only [ho, hx, Sem.run_bind, run_range_map w t k e b es clock ht h1, Result.andThen_ok, Sem.run_pure]
  refine h _ _ ((hM.take hb).put (bs := []) rfl ((Ch.refl _ _).alloc _) (by simp) (y := rangeE P k b w.heap.size m m) ⟨es, clock, #[], by rw [heap_alloc_old w _ hlt]; exact h1, h2, heap_alloc_new w _, ?_, by omega⟩ fun j hj => ?_)
  · have : leftOf es #[] = es := by unfold leftOf; exact Array.filter_eq_self.2 (by simp)
    rw [this]; exact h2.2.2
  · rcases hj with rfl | rfl
    · exact .inl rfl
    · exact .inr (Nat.le_refl _)
/-- The next round, or none. -/
theorem ws_next_map (hM : Star L w) {x : Operand} (ho : o.op = .next x false) (hx : a.eval x = .pointer (some ⟨g, 0, none⟩)) {left : List (Value × Value)} (hb : Take (rangeE P k b g m left) L R)
    (h0 : left = [] → ∀ w1, Star (mapE P k b m :: R) w1 → K (a.put o.dst (.tuple #[.bool false])) w1)
    (h1 : ∀ key val left' w1, left.Perm ((key, val) :: left') → Star (entryE P k b g m left' key val :: R) w1 → K (a.put o.dst (.tuple #[.bool true, key, val])) w1) : Oper.wp P o a w K Q := by
  obtain ⟨es, clock, seen, e1, e2, e3, e4, e5⟩ := (hM.take hb).head
  have hstart := hM.take hb
  rcases run_next_at (P := P) w o.type g b clock clock seen es clock e3 e1 e2.1.1 (Nat.le_refl _) with ⟨hz, hr⟩ | ⟨e0, he, w1, hw, hr⟩
  · have hl : left = [] := by
      have h9 := e4.length_eq
      rw [List.length_map, Array.length_toList, hz] at h9
      exact List.eq_nil_of_length_eq_zero h9.symm
    subst hl
    unfold Oper.wp execOp
    simp only [ho, hx, Sem.run_bind, hr, Result.andThen_ok, Sem.run_pure]
    exact h0 rfl _ hstart.range_done
  · have hst1 : Star (rangeE P k b g m left :: R) w1 := by rcases hw with rfl | rfl; exact hstart; exact hstart.drew
    have hmem := mem_left he
    have hg1 : w1.heap[g]? = some (.mapIter (some b) clock seen clock) := by rcases hw with rfl | rfl <;> exact e3
    have hb1 : w1.heap[b]? = some (.map es clock) := by rcases hw with rfl | rfl <;> exact e1
    have hgl : g < w1.heap.size := (Array.getElem?_eq_some_iff.1 hg1).1
    have hperm : ∃ left' : List (Value × Value), left.Perm ((e0.key, e0.val) :: left') ∧ ((leftOf es (seen.push e0.born)).toList.map fun e => (e.key, e.val)).Perm left' := by
      refine ⟨_, ?_, List.Perm.refl _⟩
      refine e4.symm.trans ?_
      have h7 : (leftOf es seen).toList.Perm (e0 :: (leftOf es (seen.push e0.born)).toList) := left_perm e2.1.2.1 he
      exact h7.map _
    obtain ⟨left', p1, p2⟩ := hperm
    unfold Oper.wp execOp
    simp only [ho, hx, Sem.run_bind, hr, Result.andThen_ok, Sem.run_pure]
    have hb2 : (setBlock w1 g (.mapIter (some b) clock (seen.push e0.born) clock)).heap[b]? = some (.map es clock) := by
      rw [show (setBlock w1 g (.mapIter (some b) clock (seen.push e0.born) clock)).heap[b]? = w1.heap[b]? by simp [setBlock, Ne.symm e5]]; exact hb1
    have hg2 : (setBlock w1 g (.mapIter (some b) clock (seen.push e0.born) clock)).heap[g]? = some (.mapIter (some b) clock (seen.push e0.born) clock) := by simp [setBlock, hgl]
    refine h1 e0.key e0.val left' _ p1 (hst1.put (bs := [g]) rfl (setBlock_ch w1 g _) (fun j hj => .inl (.inr (List.mem_singleton.1 hj))) (y := entryE P k b g m left' e0.key e0.val) ⟨⟨es, clock, _, hb2, e2, hg2, p2, e5⟩, fun w' q1 q2 => ?_⟩ fun j hj => .inl hj)
    exact run_entry_at w' g b clock seen es clock e0 (q2.trans hg2) (q1.trans hb2) hmem.1 e2.1.2.1
/-- .. the entries a list's images. -/
theorem ws_next_enc {α : Type} (enc : α → Value × Value) (hM : Star L w) {x : Operand} (ho : o.op = .next x false) (hx : a.eval x = .pointer (some ⟨g, 0, none⟩)) {lft : List α} (hb : Take (rangeE P k b g m (lft.map enc)) L R)
    (h0 : lft = [] → ∀ w1, Star (mapE P k b m :: R) w1 → K (a.put o.dst (.tuple #[.bool false])) w1)
    (h1 : ∀ y lft' w1, lft.Perm (y :: lft') → Star (entryE P k b g m (lft'.map enc) (enc y).1 (enc y).2 :: R) w1 → K (a.put o.dst (.tuple #[.bool true, (enc y).1, (enc y).2])) w1) : Oper.wp P o a w K Q :=
  ws_next_map hM ho hx hb (fun he => h0 (List.map_eq_nil_iff.1 he)) fun key val left' w1 hp hM1 => by
    obtain ⟨y, lft', p1, he, p2⟩ := map_perm_cons hp
    obtain rfl : key = (enc y).1 := by rw [he]
    obtain rfl : val = (enc y).2 := by rw [he]
    exact h1 y lft' w1 p1 (hM1.entry_perm p2.symm)
/-- The round's key and value. -/
theorem ex_entry (hM : Star L w) {x : Operand} (ho : o.op = .entry x) (hx : a.eval x = .pointer (some ⟨g, 0, none⟩)) {left : List (Value × Value)} {key val : Value} (hb : entryE P k b g m left key val ∈ L) :
    (execOp a.eval o).run P w = .ok (.value (.tuple #[key, val])) w := by
  have h := (hM.all _ hb).2 w rfl rfl
  unfold execOp
  simp only [ho, hx, Sem.run_bind, h, Result.andThen_ok, Sem.run_pure]
end
end Go.Proofs.Ytnckgkgilnmocaa
set_option linter.unusedSimpArgs false
set_option linter.unusedVariables false
namespace Go.Proofs.Ytnckgkgilnmocaa
open Go.RowKit
/-- A disk: what is sure, what was written last, which sectors are loose, the fuse. -/
structure Dsk where
  sure : List (List UInt8)
  now : List (List UInt8)
  lo : List Bool
  armed : Bool
  left : Int
namespace Dsk
def nw (D : Dsk) (i : Nat) : List UInt8 := D.now.getD i []
def su (D : Dsk) (i : Nat) : List UInt8 := D.sure.getD i []
def l (D : Dsk) (i : Nat) : Bool := D.lo.getD i false
def keys (D : Dsk) : List Nat := (List.range D.sure.length).filter D.l
structure ok (D : Dsk) : Prop where
  ln : D.now.length = D.sure.length
  ll : D.lo.length = D.sure.length
  s64 : ∀ b ∈ D.sure, b.length = 64
  n64 : ∀ b ∈ D.now, b.length = 64
  same : ∀ i, i < D.sure.length → D.l i = false → D.nw i = D.su i
  size : D.sure.length ≤ 65536
  i64a : -9223372036854775808 ≤ D.left
  i64b : D.left ≤ 9223372036854775807
  arm : D.armed = true → 0 ≤ D.left
/-- A call counts. -/
def dec (D : Dsk) : Dsk := { D with left := IntKind.i64.wrap (D.left - 1) }
/-- A sector is written. -/
def put (D : Dsk) (i : Nat) (b : List UInt8) : Dsk := { D with now := D.now.set i b, lo := D.lo.set i true }
/-- All is sure. -/
def calm (D : Dsk) (s : List (List UInt8)) : Dsk := { D with sure := s, now := s, lo := List.replicate s.length false }
end Dsk
abbrev iv64 (i : Nat) : Value := .int .i64 (i : Int)
abbrev avb (b : List UInt8) : Value := .agg (bvs b).toArray
/-- What the map of loose sectors holds. -/
def lmv (D : Dsk) : List (Value × Value) := D.keys.map fun i => (iv64 i, avb (D.nw i))
theorem iv64_inj {i j : Nat} (h : iv64 i = iv64 j) : i = j := by
  unfold iv64 at h
  injection h with _ h
  omega
theorem mem_keys (D : Dsk) (i : Nat) : i ∈ D.keys ↔ i < D.sure.length ∧ D.l i = true := by simp [Dsk.keys]
theorem keys_nodup (D : Dsk) : D.keys.Nodup := List.nodup_range.sublist List.filter_sublist
theorem keys_sorted (D : Dsk) : D.keys.Pairwise (· < ·) := List.pairwise_lt_range.sublist List.filter_sublist
theorem keys_le (D : Dsk) : D.keys.length ≤ D.sure.length := by
  have := List.length_filter_le D.l (List.range D.sure.length)
  simpa [Dsk.keys] using this
theorem lmv_miss {D : Dsk} {i : Nat} (h : i < D.sure.length) (hl : D.l i = false) : ∀ p ∈ lmv D, p.1 ≠ iv64 i := by
  intro p hp he
  obtain ⟨j, hj, rfl⟩ := List.mem_map.1 hp
  obtain rfl := iv64_inj he
  have := ((mem_keys D j).1 hj).2
  rw [hl] at this
  cases this
theorem lmv_hit {D : Dsk} {i : Nat} (h : i < D.sure.length) (hl : D.l i = true) : (iv64 i, avb (D.nw i)) ∈ lmv D := List.mem_map.2 ⟨i, (mem_keys D i).2 ⟨h, hl⟩, rfl⟩
theorem getD_set {α : Type} (l : List α) (i j : Nat) (x d : α) (hi : i < l.length) : (l.set i x).getD j d = if j = i then x else l.getD j d := by
  simp only [List.getD_eq_getElem?_getD, List.getElem?_set]
  by_cases h : i = j
  · subst h; simp [hi]
  · rw [if_neg h, if_neg (Ne.symm h)]
theorem put_nw {D : Dsk} (h : D.ok) {i : Nat} (hi : i < D.sure.length) (b : List UInt8) (j : Nat) : (D.put i b).nw j = if j = i then b else D.nw j := getD_set _ _ _ _ _ (by rw [h.ln]; exact hi)
theorem put_l {D : Dsk} (h : D.ok) {i : Nat} (hi : i < D.sure.length) (b : List UInt8) (j : Nat) : (D.put i b).l j = if j = i then true else D.l j := getD_set _ _ _ _ _ (by rw [h.ll]; exact hi)
theorem put_keys {D : Dsk} (h : D.ok) {i : Nat} (hi : i < D.sure.length) (b : List UInt8) (j : Nat) : j ∈ (D.put i b).keys ↔ j = i ∨ j ∈ D.keys := by
  rw [mem_keys, mem_keys, put_l h hi]
  show j < D.sure.length ∧ _ ↔ _
  constructor
  · rintro ⟨h1, h2⟩
    by_cases e : j = i
    · exact .inl e
    · rw [if_neg e] at h2; exact .inr ⟨h1, h2⟩
  · rintro (rfl | ⟨h1, h2⟩)
    · exact ⟨hi, if_pos rfl⟩
    · refine ⟨h1, ?_⟩
      split
      · rfl
      · exact h2
theorem perm_mem {l1 l2 : List Nat} (h1 : l1.Nodup) (h2 : l2.Nodup) (h : ∀ x, x ∈ l1 ↔ x ∈ l2) : l1.Perm l2 := (List.perm_ext_iff_of_nodup h1 h2).2 h
theorem lmv_put_new {D : Dsk} (h : D.ok) {i : Nat} (hi : i < D.sure.length) (b : List UInt8) (hl : D.l i = false) : ((iv64 i, avb b) :: lmv D).Perm (lmv (D.put i b)) := by
  have hn : i ∉ D.keys := fun hk => by have := ((mem_keys D i).1 hk).2; rw [hl] at this; cases this
  have hp : (i :: D.keys).Perm (D.put i b).keys := perm_mem (List.nodup_cons.2 ⟨hn, keys_nodup D⟩) (keys_nodup _) fun x => by rw [put_keys h hi, List.mem_cons]
  have h2 := hp.map fun j => (iv64 j, avb ((D.put i b).nw j))
  refine List.Perm.trans ?_ h2
  rw [List.map_cons, put_nw h hi, if_pos rfl]
  refine List.Perm.cons _ (List.Perm.of_eq (List.map_congr_left fun j hj => ?_))
  rw [put_nw h hi, if_neg (fun e : j = i => hn (e ▸ hj))]
theorem lmv_put_old {D : Dsk} (h : D.ok) {i : Nat} (hi : i < D.sure.length) (b : List UInt8) (hl : D.l i = true) : ∃ r, (lmv D).Perm ((iv64 i, avb (D.nw i)) :: r) ∧ ((iv64 i, avb b) :: r).Perm (lmv (D.put i b)) := by
  have hk : i ∈ D.keys := (mem_keys D i).2 ⟨hi, hl⟩
  have hp := List.perm_cons_erase hk
  have hne : ∀ j ∈ D.keys.erase i, j ≠ i := fun j hj e => by subst e; exact (keys_nodup D).not_mem_erase hj
  refine ⟨(D.keys.erase i).map fun j => (iv64 j, avb (D.nw j)), hp.map _, ?_⟩
  have hp2 : (i :: D.keys.erase i).Perm (D.put i b).keys := hp.symm.trans (perm_mem (keys_nodup D) (keys_nodup _) fun x => by
    rw [put_keys h hi]
    exact ⟨.inr, fun e => e.elim (fun e => e ▸ hk) id⟩)
  have h2 := hp2.map fun j => (iv64 j, avb ((D.put i b).nw j))
  refine List.Perm.trans ?_ h2
  rw [List.map_cons, put_nw h hi, if_pos rfl]
  refine List.Perm.cons _ (List.Perm.of_eq (List.map_congr_left fun j hj => ?_))
  rw [put_nw h hi, if_neg (hne j hj)]
theorem nw_len {D : Dsk} (h : D.ok) {i : Nat} (hi : i < D.sure.length) : (D.nw i).length = 64 := by
  have hl : i < D.now.length := by rw [h.ln]; exact hi
  unfold Dsk.nw
  rw [List.getD_eq_getElem?_getD, List.getElem?_eq_getElem hl]
  exact h.n64 _ (List.getElem_mem hl)
theorem su_len {D : Dsk} (h : D.ok) {i : Nat} (hi : i < D.sure.length) : (D.su i).length = 64 := by
  unfold Dsk.su
  rw [List.getD_eq_getElem?_getD, List.getElem?_eq_getElem hi]
  exact h.s64 _ (List.getElem_mem hi)
theorem nw_mem {D : Dsk} (h : D.ok) {i : Nat} (hi : i < D.sure.length) : D.now[i]? = some (D.nw i) := by
  have hl : i < D.now.length := by rw [h.ln]; exact hi
  unfold Dsk.nw
  rw [List.getD_eq_getElem?_getD, List.getElem?_eq_getElem hl]
  rfl
theorem put_ok {D : Dsk} (h : D.ok) {i : Nat} (hi : i < D.sure.length) {b : List UInt8} (hb : b.length = 64) : (D.put i b).ok where
  ln := by simp [Dsk.put, h.ln]
  ll := by simp [Dsk.put, h.ll]
  s64 := h.s64
  n64 x hx := by
    rcases List.mem_or_eq_of_mem_set hx with hx | rfl
    · exact h.n64 x hx
    · exact hb
  same j hj hl := by
    rw [put_l h hi] at hl
    by_cases e : j = i
    · rw [if_pos e] at hl; cases hl
    · rw [if_neg e] at hl
      rw [put_nw h hi, if_neg e]
      exact h.same j hj hl
  size := h.size
  i64a := h.i64a
  i64b := h.i64b
  arm := h.arm
theorem wrap_range (x : Int) : -9223372036854775808 ≤ IntKind.i64.wrap x ∧ IntKind.i64.wrap x ≤ 9223372036854775807 := by
  rw [IntKind.wrap_i64]
  omega
theorem dec_ok {D : Dsk} (h : D.ok) (hl : D.armed = true → D.left ≠ 0) : D.dec.ok where
  ln := h.ln
  ll := h.ll
  s64 := h.s64
  n64 := h.n64
  same := h.same
  size := h.size
  i64a := (wrap_range _).1
  i64b := (wrap_range _).2
  arm ha := by
    have h1 := h.arm ha
    have h2 := hl ha
    have h3 := h.i64b
    show 0 ≤ IntKind.i64.wrap (D.left - 1)
    rw [IntWalk.i64_in _ (by omega)]
    omega
theorem getD_rep (n i : Nat) : (List.replicate n false).getD i false = false := by
  rw [List.getD_eq_getElem?_getD, List.getElem?_replicate]
  split <;> rfl
theorem calm_ok {D : Dsk} (h : D.ok) {s : List (List UInt8)} (hs : ∀ b ∈ s, b.length = 64) (hn : s.length = D.sure.length) : (D.calm s).ok where
  ln := rfl
  ll := by simp [Dsk.calm]
  s64 := hs
  n64 := hs
  same _ _ _ := rfl
  size := by show s.length ≤ _; rw [hn]; exact h.size
  i64a := h.i64a
  i64b := h.i64b
  arm := h.arm
theorem calm_keys (D : Dsk) (s : List (List UInt8)) : (D.calm s).keys = [] := by
  refine List.filter_eq_nil_iff.2 fun i _ => ?_
  show ¬ ((List.replicate s.length false).getD i false = true)
  rw [getD_rep]
  simp
theorem calm_lmv (D : Dsk) (s : List (List UInt8)) : lmv (D.calm s) = [] := by unfold lmv; rw [calm_keys]; rfl
/-- Sectors set one by one. -/
def upd (S : List (List UInt8)) (ks : List (Nat × List UInt8)) : List (List UInt8) := ks.foldl (fun S p => S.set p.1 p.2) S
theorem upd_snoc (S : List (List UInt8)) (ks : List (Nat × List UInt8)) (p : Nat × List UInt8) : upd S (ks ++ [p]) = (upd S ks).set p.1 p.2 := by simp [upd]
theorem upd_len (S : List (List UInt8)) (ks : List (Nat × List UInt8)) : (upd S ks).length = S.length := by
  induction ks generalizing S with
  | nil => rfl
  | cons p ks ih => show (upd (S.set p.1 p.2) ks).length = _; rw [ih]; simp
theorem upd_64 {S : List (List UInt8)} {ks : List (Nat × List UInt8)} (h : ∀ b ∈ S, b.length = 64) (hk : ∀ p ∈ ks, p.2.length = 64) : ∀ b ∈ upd S ks, b.length = 64 := by
  induction ks generalizing S with
  | nil => exact h
  | cons p ks ih =>
    refine ih (S := S.set p.1 p.2) (fun b hb => ?_) fun q hq => hk q (List.mem_cons_of_mem _ hq)
    rcases List.mem_or_eq_of_mem_set hb with hb | rfl
    · exact h b hb
    · exact hk p List.mem_cons_self
/-- Each key stands once: what stands at a place then. -/
theorem upd_get {S : List (List UInt8)} {ks : List (Nat × List UInt8)} (hn : (ks.map (·.1)).Nodup) (j : Nat) : (∀ b, (j, b) ∈ ks → j < S.length → (upd S ks)[j]? = some b) ∧ ((∀ b, (j, b) ∉ ks) → (upd S ks)[j]? = S[j]?) := by
  induction ks generalizing S with
  | nil => exact ⟨fun b h => (by cases h), fun _ => rfl⟩
  | cons p ks ih =>
    simp only [List.map_cons, List.nodup_cons] at hn
    obtain ⟨h1, h2⟩ := ih (S := S.set p.1 p.2) hn.2
    refine ⟨fun b hb hj => ?_, fun hno => ?_⟩
    · rcases List.mem_cons.1 hb with rfl | hb
      · have := h2 fun b' hb' => hn.1 (List.mem_map.2 ⟨_, hb', rfl⟩)
        show (upd (S.set j b) ks)[j]? = _
        rw [this, List.getElem?_set]
        simp [hj]
      · exact h1 b hb (by simpa using hj)
    · have := h2 fun b hb => hno b (List.mem_cons_of_mem _ hb)
      show (upd (S.set p.1 p.2) ks)[j]? = _
      rw [this, List.getElem?_set, if_neg fun e => hno p.2 (by rw [← e]; exact List.mem_cons_self)]
theorem flat_64 {S : List (List UInt8)} (h : ∀ b ∈ S, b.length = 64) : S.flatten.length = 64 * S.length := by
  induction S with
  | nil => rfl
  | cons a S ih =>
    have h1 := h a List.mem_cons_self
    rw [List.flatten_cons, List.length_append, ih fun b hb => h b (List.mem_cons_of_mem _ hb), List.length_cons]
    omega
theorem flat_cut {S : List (List UInt8)} (h : ∀ b ∈ S, b.length = 64) {i : Nat} (hi : i < S.length) : S.flatten = (S.take i).flatten ++ S[i] ++ (S.drop (i + 1)).flatten ∧ (S.take i).flatten.length = 64 * i := by
  refine ⟨?_, by rw [flat_64 fun b hb => h b (List.mem_of_mem_take hb), List.length_take]; omega⟩
  conv => lhs; rw [← List.take_append_drop i S, List.drop_eq_getElem_cons hi]
  rw [List.flatten_append, List.flatten_cons, List.append_assoc]
theorem flat_set {S : List (List UInt8)} (h : ∀ b ∈ S, b.length = 64) {i : Nat} (hi : i < S.length) (b : List UInt8) : (S.set i b).flatten = S.flatten.take (64 * i) ++ b ++ S.flatten.drop (64 * i + 64) := by
  obtain ⟨e, hl⟩ := flat_cut h hi
  have h64 : S[i].length = 64 := h _ (List.getElem_mem hi)
  have e1 : S.flatten.take (64 * i) = (S.take i).flatten := by rw [e, List.append_assoc, List.take_append_of_le_length (by omega), List.take_of_length_le (by omega)]
  have e2 : S.flatten.drop (64 * i + 64) = (S.drop (i + 1)).flatten := by
    have hl2 : ((S.take i).flatten ++ S[i]).length = 64 * i + 64 := by rw [List.length_append]; omega
    rw [e, List.drop_append_of_le_length (by omega), List.drop_of_length_le (by omega), List.nil_append]
  rw [e1, e2, List.set_eq_take_append_cons_drop, if_pos hi]
  simp
theorem flat_at {S : List (List UInt8)} (h : ∀ b ∈ S, b.length = 64) {i j : Nat} (hi : i < S.length) (hj : j < 64) : S.flatten[64 * i + j]? = S[i][j]? := by
  obtain ⟨e, hl⟩ := flat_cut h hi
  have h64 : S[i].length = 64 := h _ (List.getElem_mem hi)
  rw [e, List.append_assoc, List.getElem?_append_right (by omega), List.getElem?_append_left (by omega)]
  congr 1
  omega
end Go.Proofs.Ytnckgkgilnmocaa
set_option linter.unusedSimpArgs false
set_option linter.unusedVariables false
namespace Go.Proofs.Ytnckgkgilnmocaa
open Go.RowKit
section
variable {P : Program} {w : World} {ops : Array Oper} {rest : List Oper} {a : Act} {Q : Exit → Act → World → Prop} {d : Option Tmp} {tp : TypeId} {pos : String} {af : Array Edge} {g : Option (Nat × Bool)}
theorem at_load' {ty : TypeId} {x : Operand} (h : wpList P ops Q (⟨d, .load ty x, tp, pos, af, g⟩ :: rest) a w) : wpList P ops Q (⟨d, .load ty x, tp, pos, af, g⟩ :: rest) a w := h
theorem at_store' {ty : TypeId} {x y : Operand} (h : wpList P ops Q (⟨d, .store ty x y, tp, pos, af, g⟩ :: rest) a w) : wpList P ops Q (⟨d, .store ty x y, tp, pos, af, g⟩ :: rest) a w := h
theorem at_alloc' {ty : TypeId} (h : wpList P ops Q (⟨d, .alloc ty, tp, pos, af, g⟩ :: rest) a w) : wpList P ops Q (⟨d, .alloc ty, tp, pos, af, g⟩ :: rest) a w := h
theorem at_box' {ty : TypeId} {x : Operand} (h : wpList P ops Q (⟨d, .box ty x, tp, pos, af, g⟩ :: rest) a w) : wpList P ops Q (⟨d, .box ty x, tp, pos, af, g⟩ :: rest) a w := h
theorem at_slice' {ty : TypeId} {n : Nat} {xs : Array (Nat × Operand)} (h : wpList P ops Q (⟨d, .buildSlice ty n xs, tp, pos, af, g⟩ :: rest) a w) : wpList P ops Q (⟨d, .buildSlice ty n xs, tp, pos, af, g⟩ :: rest) a w := h
theorem at_convert' {s t : TypeId} {x : Operand} (h : wpList P ops Q (⟨d, .convert s t x, tp, pos, af, g⟩ :: rest) a w) : wpList P ops Q (⟨d, .convert s t x, tp, pos, af, g⟩ :: rest) a w := h
theorem at_make' {t : TypeId} {x y : Operand} (h : wpList P ops Q (⟨d, .makeSlice t x y, tp, pos, af, g⟩ :: rest) a w) : wpList P ops Q (⟨d, .makeSlice t x y, tp, pos, af, g⟩ :: rest) a w := h
theorem at_bin' {op : BinOp} {t ty : TypeId} {x y : Operand} (h : wpList P ops Q (⟨d, .binOp op t x y ty, tp, pos, af, g⟩ :: rest) a w) : wpList P ops Q (⟨d, .binOp op t x y ty, tp, pos, af, g⟩ :: rest) a w := h
theorem at_call' {c : Call} (h : wpList P ops Q (⟨d, .call c, tp, pos, af, g⟩ :: rest) a w) : wpList P ops Q (⟨d, .call c, tp, pos, af, g⟩ :: rest) a w := h
end
section
variable {P : Program} {w : World} {o : Oper} {a : Act} {t ty : TypeId} {x y : Operand}
theorem ex_add (ho : o.op = .binOp .add t x y ty) {i j s : Int} (hx : a.eval x = .int .i64 i) (hy : a.eval y = .int .i64 j) (hs : IntKind.i64.wrap (i + j) = s) : (execOp a.eval o).run P w = .ok (.value (.int .i64 s)) w := by
  unfold execOp
  simp only [ho, hx, hy]
  simp [go_sem]
  exact hs
theorem ex_eqs (ho : o.op = .binOp .eql t x y ty) {s u : List UInt8} (hx : a.eval x = .string ⟨s.toArray⟩) (hy : a.eval y = .string ⟨u.toArray⟩) {b : Bool} (hb : (decide (s = u)) = b) : (execOp a.eval o).run P w = .ok (.value (.bool b)) w := by
  subst hb
  unfold execOp
  simp only [ho, hx, hy]
  simp [go_sem]
  rw [Bool.eq_iff_iff]; simp
end
/-- Results: a row in a cell, and a slot. -/
theorem results_row_tmp {P : Program} {fn : Func} {p u : Tmp} {ty : TypeId} (h : fn.results = #[.cell p ty, .tmp u]) (tmps : Array Value) (w : World) (g : Nat) (t : TypeId) (cs : Array Value) (n : Nat) (v : Value) (hp : tmps.getD p undef = .pointer (some ⟨g, 0, none⟩)) (hv : tmps.getD u undef = v) (hg : Blk w g t cs) (hn : cs.size = n) (hr : rowTy P ty n = true) :
    (results fn tmps).run P w = .ok (.tuple #[.agg cs, v]) w := by
  obtain ⟨⟨d, h1, h2⟩, h3⟩ := rowTy_und hr
  rw [results_cell_tmp h, hp, hv]
  simp [asAddr, run_loadVar_row w g t ty cs (0, 0) d hg h1 (by cases d <;> simp_all) (by rw [h3, hn])]
theorem results_row {P : Program} {fn : Func} {p : Tmp} {ty : TypeId} (h : fn.results = #[.cell p ty]) (tmps : Array Value) (w : World) (g : Nat) (t : TypeId) (cs : Array Value) (n : Nat) (hp : tmps.getD p undef = .pointer (some ⟨g, 0, none⟩)) (hg : Blk w g t cs) (hn : cs.size = n) (hr : rowTy P ty n = true) :
    (results fn tmps).run P w = .ok (.agg cs) w := by
  obtain ⟨⟨d, h1, h2⟩, h3⟩ := rowTy_und hr
  exact results_cell_row h tmps w g t cs (0, 0) d hp hg h1 (by cases d <;> simp_all) (by rw [h3, hn])
end Go.Proofs.Ytnckgkgilnmocaa
set_option linter.unusedSimpArgs false
set_option linter.unusedVariables false
namespace Go.Proofs.Ytnckgkgilnmocaa
open Go.RowKit Go.WideShapes Go.ChangeShapes Go.ChangeAt
section
variable {H : Type} {enc : TypeId × Value → H} {P : Program}
theorem post_of_below {f : Func} {s : ChangeSpec} {apart fresh handsOn again : Bool} {W W' : World} {args : Array Value} {v : Value} {ds gs : List (DataW H)} {before pa pv : List MemPlace}
    (hW : DataW.Whole enc P f.params.toList s.vars apart W args.toList ds gs before)
    (hres : ∀ (b : Nat) (sp : Nat → Bool) (hd : Bool), DataW.TrodAll enc P W' b sp hd f.resultTypes.toList (v.resultList f.resultTypes.size) (s.fn H (ds ++ gs)).results [])
    (hargs : ∀ sp : Nat → Bool, (∀ p ∈ before, sp p.block = true) → DataW.TrodAll enc P W' 0 sp true f.params.toList args.toList (s.fn H (ds ++ gs)).args pa)
    (hvars : ∀ sp : Nat → Bool, (∀ p ∈ before, sp p.block = true) → DataW.TrodVars enc P W' sp s.vars (s.fn H (ds ++ gs)).vars pv)
    (hps : before = pa ++ pv) (hb : Below W.heap.size W W')
    (hok : ∀ (j : Nat) (t : TypeId) (r : Value), f.resultTypes[j]? = some t → (v.resultList f.resultTypes.size)[j]? = some r → Value.okWide P W' .any 0 t r) :
    s.post enc P f apart fresh handsOn again W args v W' := by
  have hlt : ∀ p ∈ before, p.block < W.heap.size := fun p hp => hW.lt p hp
  have hold : ∀ p ∈ before, (fun b => decide (b < W.heap.size)) p.block = true := fun p hp => by simpa using hlt p hp
  refine ⟨ds, gs, before, [], pa, pv, hW, hres _ _ _, hargs _ hold, hvars _ hold, World.keptBut_mono (fun p hp => ⟨hp, ?_⟩) (hb.frame (· ∈ before)), fun _ => ?_⟩
  · rw [hps, List.mem_append] at hp
    exact Or.inr hp
  · obtain ⟨_, _, _, _, _, hz, hn⟩ := hW
    refine ⟨hok, _, _, ([] ++ pa) ++ pv, ⟨[] ++ pa, pv, trodAll_append (hargs _ (fun _ _ => rfl)) (hres _ _ _), hvars _ (fun _ _ => rfl), rfl, ?_, ?_⟩, ?_⟩
    · intro b off hp
      have hin : MemPlace.cell b off ∈ before := by rw [hps]; simpa using hp
      rw [hb.frozen (hlt _ hin)]
      exact hz b off hin
    · intro ha
      have := hn ha
      rw [hps] at this
      simpa using this
    · intro p hp _
      rw [hps]
      simpa using hp
/-- All arguments read as they did where nothing that was there has turned. -/
theorem args_stay (hl : laidOutB P = true) {W W' : World} (hb : Below W.heap.size W W') (sp : Nat → Bool) :
    ∀ (ts : List TypeId) (vs : List Value) (ds : List (DataW H)) (ps : List MemPlace), (ts.all fun t => P.readableRec t && decide (t < P.types.size)) = true →
      DataW.TrodAll enc P W 0 (fun _ => true) true ts vs ds ps → (∀ x ∈ ps, x.block < W.heap.size) → (∀ x ∈ ps, sp x.block = true) → DataW.TrodAll enc P W' 0 sp true ts vs ds ps := by
  intro ts
  induction ts with
  | nil =>
    intro vs ds ps _ h _ _
    obtain ⟨rfl, rfl, rfl⟩ := trodAll_nil h
    exact trodAll_mk0
  | cons t ts ih =>
    intro vs ds ps hr h hlt hs
    obtain ⟨v, vs', d, ds', p, q, rfl, rfl, rfl, h0, h1⟩ := trodAll_cons h
    simp only [List.all_cons, Bool.and_eq_true, decide_eq_true_eq] at hr
    exact trodAll_cons_mk (WideElems.Trod_stays hl hr.1.1 hr.1.2 h0 (fun x hx => hb.same (hlt x (List.mem_append.2 (.inl hx)))) (fun x hx => hs x (List.mem_append.2 (.inl hx))))
      (ih vs' ds' q (by simpa using hr.2) h1 (fun x hx => hlt x (List.mem_append.2 (.inr hx))) (fun x hx => hs x (List.mem_append.2 (.inr hx))))
variable {w : World} {base : Nat} {spare : Nat → Bool} {held : Bool}
theorem open_i64 {r : Reach} {b0 : Nat} {t : TypeId} {v : Value} {d : DataW H} {p : List MemPlace} (ht : P.underlying t = some (.int .i64)) (hv : Value.okWide P w r b0 t v) (h : DataW.Trod enc P w base spare held t v d p) :
    ∃ x : Int, v = .int .i64 x ∧ -9223372036854775808 ≤ x ∧ x ≤ 9223372036854775807 := by
  obtain ⟨x, rfl, _, _, hw⟩ := open_int ht hv h
  simp [Lit.wf, IntKind.min, IntKind.max, IntKind.signed, IntKind.bits] at hw
  exact ⟨x, rfl, by omega, by omega⟩
end
end Go.Proofs.Ytnckgkgilnmocaa
set_option linter.unusedSimpArgs false
set_option linter.unusedVariables false
namespace Go.Proofs.Ytnckgkgilnmocaa
open Go.RowKit
attribute [local go_sem] extract_mid extract_drop bget bsize wrap64_u8 i64_u8 u64_u8 bappend
/-- Parts as one. -/
def joinE (l : List SProp) : SProp where
  fp k := ∃ x ∈ l, x.fp k
  ro := false
  holds w := Star l w ∧ ∀ x ∈ l, x.ro = false
  lt w h k hk := by
    obtain ⟨x, hx, hk⟩ := hk
    exact x.lt w (h.1.all x hx) k hk
  stable w w' ho h := ⟨⟨fun x hx => x.stable w w' ⟨ho.os, ho.tape, ho.output, ho.size, fun k hk => ho.block k ⟨x, hx, hk⟩⟩ (h.1.all x hx), h.1.pair⟩, h.2⟩
theorem compat_not {x u : SProp} (h : compat x u) (hx : x.ro = false) : ∀ k, x.fp k → ¬ u.fp k := by
  rcases h with ⟨h, _⟩ | h
  · rw [hx] at h; cases h
  · exact h
theorem Star.joinL {l L : List SProp} {w : World} (h : Star (l ++ L) w) (hr : ∀ x ∈ l, x.ro = false) : Star (joinE l :: L) w := by
  obtain ⟨ha, hp⟩ := h
  obtain ⟨p1, p2, p3⟩ := List.pairwise_append.1 hp
  refine ⟨fun u hu => ?_, List.pairwise_cons.2 ⟨fun u hu => .inr fun k hk => ?_, p2⟩⟩
  · rcases List.mem_cons.1 hu with rfl | hu
    · exact ⟨⟨fun x hx => ha x (List.mem_append.2 (.inl hx)), p1⟩, hr⟩
    · exact ha u (List.mem_append.2 (.inr hu))
  · obtain ⟨x, hx, hk⟩ := hk
    exact compat_not (p3 x hx u hu) (hr x hx) k hk
theorem Star.openL {l L : List SProp} {w : World} (h : Star (joinE l :: L) w) : Star (l ++ L) w := by
  obtain ⟨ha, hp⟩ := h
  obtain ⟨p1, p2⟩ := List.pairwise_cons.1 hp
  obtain ⟨⟨h1, h2⟩, _⟩ := ha _ List.mem_cons_self
  refine ⟨fun u hu => ?_, List.pairwise_append.2 ⟨h2, p2, fun x hx u hu => .inr fun k hk => compat_not (p1 u hu) rfl k ⟨x, hx, hk⟩⟩⟩
  rcases List.mem_append.1 hu with hu | hu
  · exact h1 u hu
  · exact ha u (List.mem_cons_of_mem _ hu)
/-- Where a disk lies. -/
structure DA where
  d : Nat
  f : Nat
  m : Nat
  g : Nat
abbrev dE (a : DA) (n : Nat) : SProp := cellsE a.d 95 #[.pointer (some ⟨a.f, 0, none⟩), .slice (some ⟨a.g, 0, none⟩) n n, .map (some a.m)]
abbrev fE (a : DA) (b : Bool) (l : Int) : SProp := cellsE a.f 106 #[.bool b, .int .i64 l]
abbrev sE (a : DA) (S : List (List UInt8)) : SProp := cellsE a.g 97 (bvs S.flatten).toArray
abbrev mE (a : DA) (m : List (Value × Value)) : SProp := mapE Try.prog 3 a.m m
def diskE (a : DA) (D : Dsk) : SProp := joinE [dE a D.sure.length, fE a D.armed D.left, sE a D.sure, mE a (lmv D)]
theorem Star.dopen {a : DA} {D : Dsk} {L : List SProp} {w : World} (h : Star (diskE a D :: L) w) : Star (dE a D.sure.length :: fE a D.armed D.left :: sE a D.sure :: mE a (lmv D) :: L) w := h.openL
theorem Star.djoin {a : DA} {D : Dsk} {L : List SProp} {w : World} (h : Star (dE a D.sure.length :: fE a D.armed D.left :: sE a D.sure :: mE a (lmv D) :: L) w) : Star (diskE a D :: L) w :=
  Star.joinL (l := [dE a D.sure.length, fE a D.armed D.left, sE a D.sure, mE a (lmv D)]) h (by
    intro x hx
    simp only [List.mem_cons, List.not_mem_nil, or_false] at hx
    rcases hx with rfl | rfl | rfl | rfl <;> rfl)
abbrev dptr (a : DA) : Value := .pointer (some ⟨a.d, 0, none⟩)
abbrev fptr (a : DA) : Value := .pointer (some ⟨a.f, 0, none⟩)
section
variable {F : List SProp} {a : DA}
set_option maxRecDepth 100000 in
theorem size_d {D : Dsk} (w : World) (hM : Star (diskE a D :: F) w) : Calls Try.prog 69 #[dptr a] w fun r w' => r = .returned (.int .i64 (D.sure.length : Int)) ∧ Star (diskE a D :: F) w' := by
  replace hM := hM.dopen
  go_enter Try.func69, Try.ntmps69
  go_wp2_with (first | (first | ((with_reducible refine at_load' ?_); (refine BigFrame.wpList_want (by rfl) fun K hK => ws_load1 hM rfl rfl (by (repeat (first | assumption | (with_reducible exact mZ) | apply mS)); first | done | fail) (by first | rfl | assumption) (by decide +kernel) (hK _ _ ?_); clear hK K)) | fail))
  go_ret
  exact ⟨rfl, hM.djoin⟩
/-- Are they there? -/
def inD (N : Nat) (at_ n : Int) : Bool := decide (0 ≤ at_) && (decide (n ≤ (N : Int)) && decide (at_ ≤ (N : Int) - n))
set_option maxRecDepth 100000 in
set_option maxHeartbeats 2000000 in
theorem in_d {D : Dsk} (h : D.ok) (at_ n : Int) (hn : 0 ≤ n) (w : World) (hM : Star (diskE a D :: F) w) :
    Calls Try.prog 66 #[dptr a, .int .i64 at_, .int .i64 n] w fun r w' => r = .returned (.bool (inD D.sure.length at_ n)) ∧ Star (diskE a D :: F) w' := by
  replace hM := hM.dopen
  have hs := h.size
  obtain ⟨N, hN⟩ : ∃ N, N = D.sure.length := ⟨_, rfl⟩
  have HN := Lib.hid hN
  rw [← hN] at hs
  rw [← hN] at hM ⊢
  clear hN h
  unfold inD
  by_cases h1 : 0 ≤ at_
  · by_cases h2 : n ≤ (N : Int)
    · by_cases h3 : at_ ≤ (N : Int) - n
      all_goals
        go_enter Try.func66, Try.ntmps66
        go_wp2_with (first | (first | ((with_reducible refine at_load' ?_); (refine BigFrame.wpList_want (by rfl) fun K hK => ws_load1 hM rfl rfl (by (repeat (first | assumption | (with_reducible exact mZ) | apply mS)); first | done | fail) (by first | rfl | assumption) (by decide +kernel) (hK _ _ ?_); clear hK K)) | fail))
        go_ret
        exact ⟨ret_bool (by simp [h1, h2, h3]), by have := hM; rw [HN.out] at this; exact this.djoin⟩
    · go_enter Try.func66, Try.ntmps66
      go_wp2_with (first | (first | ((with_reducible refine at_load' ?_); (refine BigFrame.wpList_want (by rfl) fun K hK => ws_load1 hM rfl rfl (by (repeat (first | assumption | (with_reducible exact mZ) | apply mS)); first | done | fail) (by first | rfl | assumption) (by decide +kernel) (hK _ _ ?_); clear hK K)) | fail))
      go_ret
      exact ⟨ret_bool (by simp [h1]; omega), by have := hM; rw [HN.out] at this; exact this.djoin⟩
  · go_enter Try.func66, Try.ntmps66
    go_wp2_with (first | (first | ((with_reducible refine at_load' ?_); (refine BigFrame.wpList_want (by rfl) fun K hK => ws_load1 hM rfl rfl (by (repeat (first | assumption | (with_reducible exact mZ) | apply mS)); first | done | fail) (by first | rfl | assumption) (by decide +kernel) (hK _ _ ?_); clear hK K)) | fail))
    go_ret
    exact ⟨ret_bool (by simp; omega), by have := hM; rw [HN.out] at this; exact this.djoin⟩
set_option maxRecDepth 100000 in
set_option maxHeartbeats 2000000 in
theorem call_go (b : Bool) (l : Int) (h : b = true → l ≠ 0) (w : World) (hM : Star (fE a b l :: F) w) :
    Calls Try.prog 40 #[fptr a] w fun r w' => r = .returned (.int .i64 0) ∧ Star (fE a b (IntKind.i64.wrap (l - 1)) :: F) w' := by
  obtain ⟨l2, hl2⟩ : ∃ l2, IntKind.i64.wrap (l - 1) = l2 := ⟨_, rfl⟩
  rw [hl2]
  cases b
  · clear h
    go_enter Try.func40, Try.ntmps40
    go_wp2_with (first | (first | ((with_reducible refine at_load' ?_); (refine BigFrame.wpList_want (by rfl) fun K hK => ws_load1 hM rfl rfl (by (repeat (first | assumption | (with_reducible exact mZ) | apply mS)); first | done | fail) (by first | rfl | assumption) (by decide +kernel) (hK _ _ ?_); clear hK K)) | fail) | (first | ((with_reducible refine at_store' ?_); (have hM0 := hM; clear hM; refine BigFrame.wpList_want (by rfl) fun K hK => ws_store1 hM0 rfl rfl (by go_simp; rfl) (by first | rfl | assumption) (by (repeat (first | (with_reducible exact Take.head) | apply Take.tail)); first | done | fail) (by simp) (by kernel_rfl) (by simp only [List.setIfInBounds_toArray, List.set_cons_zero, List.set_cons_succ]; rfl) (fun w hM => hK _ _ ?_); clear hM0 hK K)) | fail))
    go_ret
    exact ⟨rfl, hM⟩
  · have h0 := h rfl
    clear h
    have c1 : (l == 0) = false := by simpa using h0
    go_enter Try.func40, Try.ntmps40
    go_wp2_with (first | (first | ((with_reducible refine at_load' ?_); (refine BigFrame.wpList_want (by rfl) fun K hK => ws_load1 hM rfl rfl (by (repeat (first | assumption | (with_reducible exact mZ) | apply mS)); first | done | fail) (by first | rfl | assumption) (by decide +kernel) (hK _ _ ?_); clear hK K)) | fail) | (first | ((with_reducible refine at_store' ?_); (have hM0 := hM; clear hM; refine BigFrame.wpList_want (by rfl) fun K hK => ws_store1 hM0 rfl rfl (by go_simp; rfl) (by first | rfl | assumption) (by (repeat (first | (with_reducible exact Take.head) | apply Take.tail)); first | done | fail) (by simp) (by kernel_rfl) (by simp only [List.setIfInBounds_toArray, List.set_cons_zero, List.set_cons_succ]; rfl) (fun w hM => hK _ _ ?_); clear hM0 hK K)) | fail))
    go_ret
    exact ⟨rfl, hM⟩
set_option maxRecDepth 100000 in
theorem clear_f (b : Bool) (l : Int) (w : World) (hM : Star (fE a b l :: F) w) :
    Calls Try.prog 52 #[fptr a] w fun r w' => r = .returned (.tuple #[]) ∧ Star (fE a false l :: F) w' := by
  go_enter Try.func52, Try.ntmps52
  go_wp2_with (first | (first | ((with_reducible refine at_load' ?_); (refine BigFrame.wpList_want (by rfl) fun K hK => ws_load1 hM rfl rfl (by (repeat (first | assumption | (with_reducible exact mZ) | apply mS)); first | done | fail) (by first | rfl | assumption) (by decide +kernel) (hK _ _ ?_); clear hK K)) | fail) | (first | ((with_reducible refine at_store' ?_); (have hM0 := hM; clear hM; refine BigFrame.wpList_want (by rfl) fun K hK => ws_store1 hM0 rfl rfl (by go_simp; rfl) (by first | rfl | assumption) (by (repeat (first | (with_reducible exact Take.head) | apply Take.tail)); first | done | fail) (by simp) (by kernel_rfl) (by simp only [List.setIfInBounds_toArray, List.set_cons_zero, List.set_cons_succ]; rfl) (fun w hM => hK _ _ ?_); clear hM0 hK K)) | fail))
  go_end0
  exact ⟨rfl, hM⟩
theorem info_blk : (Try.prog.info? 97).map (fun i => i.zero) = some (some (.agg (bvs (List.replicate 64 0)).toArray)) := by kernel_rfl
theorem info_blkn : (Try.prog.info? 97).map (·.size) = some 64 := by kernel_rfl
theorem int_key (i : Nat) (h : i ≤ 9223372036854775807) : keyOf Try.prog 3 (iv64 i) = some (.int .i64 (i : Int)) := Maps.keyOf_int_mk Try.underlying3 (by simp [Lit.wf, IntKind.min, IntKind.max, IntKind.signed, IntKind.bits]; omega)
theorem keyed_i : Maps.Keyed Try.prog 3 := Maps.int_keyed Try.underlying3
set_option maxRecDepth 100000 in
set_option maxHeartbeats 2000000 in
theorem now_d {D : Dsk} (h : D.ok) (i : Nat) (hi : i < D.sure.length) (w : World) (hM : Star (diskE a D :: F) w) :
    Calls Try.prog 70 #[dptr a, .int .i64 i] w fun r w' => r = .returned (avb (D.nw i)) ∧ Star (diskE a D :: F) w' := by
  replace hM := hM.dopen
  have hsz := h.size
  have HNL := Lib.hid (nw_len h hi)
  have HSL := Lib.hid (flat_64 h.s64)
  have HK := Lib.hid (int_key i (by omega))
  have tok1 : True := trivial
  by_cases hl : D.l i = true
  · have HH := Lib.hid (lmv_hit hi hl)
    go_enter Try.func70, Try.ntmps70
    go_wp2_with (first | (have _t := tok1; (first | ((with_reducible refine at_alloc' ?_); (have hM0 := hM; clear hM; refine BigFrame.wpList_want (by rfl) fun K hK => ws_alloc hM0 (t := 97) rfl (bvs (List.replicate 64 0)).toArray info_blk (fun g4 w hM => hK _ _ ?_); clear hM0 hK K)) | fail); clear tok1) | (first | ((with_reducible refine at_alloc' ?_); (have hM0 := hM; clear hM; refine BigFrame.wpList_want (by rfl) fun K hK => ws_alloc hM0 (t := 97) rfl (bvs (List.replicate 64 0)).toArray info_blk (fun g5 w hM => hK _ _ ?_); clear hM0 hK K)) | fail) | (first | ((with_reducible refine at_load' ?_); (refine BigFrame.wpList_want (by rfl) fun K hK => ws_load1 hM rfl rfl (by (repeat (first | assumption | (with_reducible exact mZ) | apply mS)); first | done | fail) (by first | rfl | assumption) (by decide +kernel) (hK _ _ ?_); clear hK K)) | fail) | (first | ((with_reducible refine at_lookup' ?_); (refine BigFrame.wpList_want (by rfl) fun K hK => ws_of_ex (ex_hit2 (key := iv64 i) hM rfl Try.underlying93 rfl rfl (by (repeat (first | assumption | (with_reducible exact mZ) | apply mS)); first | done | fail) keyed_i HK.out HH.out) (hK _ _ ?_); clear hK K)) | fail) | (first | ((with_reducible refine at_store' ?_); (have hM0 := hM; clear hM; refine BigFrame.wpList_want (by rfl) fun K hK => ws_store hM0 rfl rfl rfl (by (repeat (first | (with_reducible exact Take.head) | apply Take.tail)); first | done | fail) (n := 64) (by first | rfl | (simp [bvs_len, HNL.out]; done)) (by first | rfl | (simp [bvs_len, HNL.out]; done)) (by kernel_rfl) (by simpa using bvs_oneCell _) (fun w hM => hK _ _ ?_); clear hM0 hK K)) | fail) | (first | ((with_reducible refine at_load' ?_); (refine BigFrame.wpList_want (by rfl) fun K hK => ws_load hM rfl rfl (by (repeat (first | assumption | (with_reducible exact mZ) | apply mS)); first | done | fail) (n := 64) (by simp [bvs_len, HNL.out]) (by decide +kernel) (hK _ _ ?_); clear hK K)) | fail))
    exact bodyPost_ret (results_cell_row rfl _ _ g4 97 (bvs (D.nw i)).toArray (0, 0) _ rfl (hM.blk (by (repeat (first | assumption | (with_reducible exact mZ) | apply mS)); first | done | fail)) Try.underlying97 rfl (by rw [info_blkn]; simp [bvs_len, HNL.out])) rfl ⟨rfl, (hM.sel (by repeat (first | (with_reducible exact Sel.refl) | (with_reducible exact Take.head) | (with_reducible apply Take.tail) | (with_reducible apply Sel.cons) | (with_reducible apply Sel.drop))) : Star (dE a D.sure.length :: fE a D.armed D.left :: sE a D.sure :: mE a (lmv D) :: F) _).djoin⟩
  · have hlf : D.l i = false := by simpa using hl
    have HH := Lib.hid (lmv_miss hi hlf)
    have HZ : Hid (∀ w, (zeroValue 97).run Try.prog w = .ok (.agg (bvs (List.replicate 64 0)).toArray) w) := fun w => by kernel_rfl
    have HC : Hid (∀ (j : Nat) (v : Value), (bvs (D.nw i))[j]? = some v → (bvs D.sure.flatten).toArray[i * 64 + j]? = some v) := fun j v hv => by
      have hj : j < 64 := by have := (List.getElem?_eq_some_iff.1 hv).1; rw [bvs_len, HNL.out] at this; exact this
      rw [h.same i hi hlf] at hv
      rw [List.getElem?_toArray, bvs, List.getElem?_map, show i * 64 + j = 64 * i + j by omega, flat_at h.s64 hi hj]
      rw [Dsk.su, List.getD_eq_getElem?_getD, List.getElem?_eq_getElem hi, bvs, List.getElem?_map] at hv
      exact hv
    have hiI : (i : Int) < (D.sure.length : Int) := by omega
    go_enter Try.func70, Try.ntmps70
    go_wp2_with (first | (have _t := tok1; (first | ((with_reducible refine at_alloc' ?_); (have hM0 := hM; clear hM; refine BigFrame.wpList_want (by rfl) fun K hK => ws_alloc hM0 (t := 97) rfl (bvs (List.replicate 64 0)).toArray info_blk (fun g4 w hM => hK _ _ ?_); clear hM0 hK K)) | fail); clear tok1) | (first | ((with_reducible refine at_alloc' ?_); (have hM0 := hM; clear hM; refine BigFrame.wpList_want (by rfl) fun K hK => ws_alloc hM0 (t := 97) rfl (bvs (List.replicate 64 0)).toArray info_blk (fun g5 w hM => hK _ _ ?_); clear hM0 hK K)) | fail) | (first | ((with_reducible refine at_load' ?_); (refine BigFrame.wpList_want (by rfl) fun K hK => ws_load1 hM rfl rfl (by (repeat (first | assumption | (with_reducible exact mZ) | apply mS)); first | done | fail) (by first | rfl | assumption) (by decide +kernel) (hK _ _ ?_); clear hK K)) | fail) | (first | ((with_reducible refine at_lookup' ?_); (refine BigFrame.wpList_want (by rfl) fun K hK => ws_of_ex (ex_miss2 (key := iv64 i) hM rfl Try.underlying93 HZ.out rfl rfl (by (repeat (first | assumption | (with_reducible exact mZ) | apply mS)); first | done | fail) keyed_i HK.out HH.out) (hK _ _ ?_); clear hK K)) | fail) | (first | ((with_reducible refine at_store' ?_); (have hM0 := hM; clear hM; refine BigFrame.wpList_want (by rfl) fun K hK => ws_store hM0 rfl rfl rfl (by (repeat (first | (with_reducible exact Take.head) | apply Take.tail)); first | done | fail) (n := 64) (by first | rfl | (simp [bvs_len, HNL.out]; done)) (by first | rfl | (simp [bvs_len, HNL.out]; done)) (by kernel_rfl) (by simpa using bvs_oneCell _) (fun w hM => hK _ _ ?_); clear hM0 hK K)) | fail) | (first | ((with_reducible refine at_load' ?_); (refine BigFrame.wpList_want (by rfl) fun K hK => ws_load hM rfl rfl (by (repeat (first | assumption | (with_reducible exact mZ) | apply mS)); first | done | fail) (n := 64) (by simp [bvs_len, HNL.out]) (by decide +kernel) (hK _ _ ?_); clear hK K)) | fail) | ((with_reducible refine at_load' ?_); refine BigFrame.wpList_want (by rfl) fun K hK => ws_load_mid hM rfl (by go_simp; rfl) (by (repeat (first | assumption | (with_reducible exact mZ) | apply mS)); first | done | fail) (bvs (D.nw i)) HC.out (n := 64) (by simp [bvs_len, HNL.out]) (by decide +kernel) (hK _ _ ?_); clear hK K))
    exact bodyPost_ret (results_cell_row rfl _ _ g4 97 (bvs (D.nw i)).toArray (0, 0) _ rfl (hM.blk (by (repeat (first | assumption | (with_reducible exact mZ) | apply mS)); first | done | fail)) Try.underlying97 rfl (by rw [info_blkn]; simp [bvs_len, HNL.out])) rfl ⟨rfl, (hM.sel (by repeat (first | (with_reducible exact Sel.refl) | (with_reducible exact Take.head) | (with_reducible apply Take.tail) | (with_reducible apply Sel.cons) | (with_reducible apply Sel.drop))) : Star (dE a D.sure.length :: fE a D.armed D.left :: sE a D.sure :: mE a (lmv D) :: F) _).djoin⟩
end
end Go.Proofs.Ytnckgkgilnmocaa
set_option linter.unusedSimpArgs false
set_option linter.unusedVariables false
namespace Go.Proofs.Ytnckgkgilnmocaa
open Go.RowKit
attribute [local go_sem] extract_mid extract_drop bget bsize wrap64_u8 i64_u8 u64_u8 bappend
theorem inD_yes {N at_ n : Nat} (h : at_ + n ≤ N) : inD N (at_ : Int) (n : Int) = true := by
  unfold inD
  simp
  omega
theorem Rd.of_bblk {w : World} {g n : Nat} {t : TypeId} {l : List UInt8} (h : Blk w g t (bvs l).toArray) (hl : l.length = n) : Rd w 1 (some ⟨g, 0, none⟩) n (bvs l) := by
  have := Rd.of_blk (size := 1) (n := n) h (by simp [bvs_len, hl])
  simpa using this
/-- What a Read gives. -/
def rdD (D : Dsk) (at_ n : Nat) : List UInt8 := (List.range n).flatMap fun j => D.nw (at_ + j)
theorem rdD_succ (D : Dsk) (at_ n : Nat) : rdD D at_ (n + 1) = rdD D at_ n ++ D.nw (at_ + n) := by
  unfold rdD
  rw [List.range_succ, List.flatMap_append]
  simp
section
variable {F : List SProp} {a : DA} {D : Dsk}
theorem in_yes (h : D.ok) (at_ n : Nat) (hi : at_ + n ≤ D.sure.length) (L : List SProp) (w : World) (hM : Star (diskE a D :: L) w) :
    Calls Try.prog 66 #[dptr a, .int .i64 at_, .int .i64 n] w fun r w' => r = .returned (.bool true) ∧ Star (dE a D.sure.length :: fE a D.armed D.left :: sE a D.sure :: mE a (lmv D) :: L) w' := by
  have := in_d h at_ n (by omega) w hM
  rw [inD_yes hi] at this
  exact this.mono fun _ _ ⟨e, h⟩ => ⟨e, h.dopen⟩
set_option maxRecDepth 100000 in
set_option maxHeartbeats 2000000 in
theorem read_ok (h : D.ok) (at_ n : Nat) (hi : at_ + n ≤ D.sure.length) (hf : D.armed = true → D.left ≠ 0) (w : World) (hM : Star (diskE a D :: F) w) :
    Calls Try.prog 42 #[dptr a, .int .i64 at_, .int .i64 n] w fun r w' => r = .returned (.tuple #[.string ⟨(rdD D at_ n).toArray⟩, .int .i64 0]) ∧ Star (diskE a D.dec :: F) w' := by
  have HI := Lib.hid (in_yes (a := a) h at_ n hi)
  have hok := dec_ok h hf
  have hsz := h.size
  have HF := Lib.hid hf
  clear hf
  go_enter Try.func42, Try.ntmps42
  go_wp2_with (first | (go_at_call 66; have hM0 := hM; clear hM; (first | (with_reducible refine (HI.out _ _ hM0).mono ?_) | fail); clear hM0; rintro _ w ⟨rfl, hM⟩) | (first | ((with_reducible refine at_load' ?_); (refine BigFrame.wpList_want (by rfl) fun K hK => ws_load1 hM rfl rfl (by (repeat (first | assumption | (with_reducible exact mZ) | apply mS)); first | done | fail) (by first | rfl | assumption) (by decide +kernel) (hK _ _ ?_); clear hK K)) | fail) | (go_at_call 40; have hM0 := hM; clear hM; (first | (with_reducible refine (call_go D.armed D.left HF.out _ (hM0.take (x := fE a D.armed D.left) (by (repeat (first | (with_reducible exact Take.head) | apply Take.tail)); first | done | fail))).mono ?_) | fail); clear hM0; rintro _ w ⟨rfl, hM⟩))
  have hM2 : Star (diskE a D.dec :: F) w := (hM.sel (by repeat (first | (with_reducible exact Sel.refl) | (with_reducible exact Take.head) | (with_reducible apply Take.tail) | (with_reducible apply Sel.cons) | (with_reducible apply Sel.drop))) : Star (dE a D.sure.length :: fE a D.armed (IntKind.i64.wrap (D.left - 1)) :: sE a D.sure :: mE a (lmv D) :: F) w).djoin
  clear hM
  have hM := hM2.niltail 5 1
  clear hM2
  go_loopw [9, 30] (fun out i wr => ∃ (k m : Nat) (A : Option Addr) (c : Nat), k ≤ n ∧ i = .int .i64 k ∧ Hid (m = 64 * k) ∧ out = .slice A m c ∧ Star (tailE 5 1 A m c (bvs (rdD D at_ k)) :: diskE a D.dec :: F) wr) (fun _ i _ => n - (intOf i).toNat)
  case atStart => exact ⟨0, 0, none, 0, by omega, rfl, rfl, rfl, hM⟩
  case round =>
    clear hM
    obtain ⟨k, m, A, c, hk, rfl, hm, rfl, hM⟩ := hrel
    have hmb : m ≤ 4194304 := by have := hm.out; omega
    by_cases hlt : k < n
    · have HN : Hid (∀ (L : List SProp) (w : World), Star (diskE a D.dec :: L) w → Calls Try.prog 70 #[dptr a, .int .i64 ((at_ : Int) + (k : Int))] w fun r w' => r = .returned (avb (D.nw (at_ + k))) ∧ Star (diskE a D.dec :: L) w') := fun L w hM => by
        have := now_d hok (at_ + k) (by show _ < D.sure.length; omega) w hM
        rwa [Int.natCast_add] at this
      have HNL := Lib.hid (nw_len h (show at_ + k < D.sure.length by omega))
      have HS := Lib.hid (rdD_succ D at_ k)
      go_wp2_with (first | (go_at_call 70; have hM0 := hM; clear hM; (first | (with_reducible refine (HN.out _ _ (hM0.take (x := diskE a D.dec) (by (repeat (first | (with_reducible exact Take.head) | apply Take.tail)); first | done | fail))).mono ?_) | fail); clear hM0; rintro _ w ⟨rfl, hM⟩) | (first | ((with_reducible refine at_alloc' ?_); (have hM0 := hM; clear hM; refine BigFrame.wpList_want (by rfl) fun K hK => ws_alloc hM0 (t := 97) rfl (bvs (List.replicate 64 0)).toArray info_blk (fun g11 w hM => hK _ _ ?_); clear hM0 hK K)) | fail) | (first | ((with_reducible refine at_store' ?_); (have hM0 := hM; clear hM; refine BigFrame.wpList_want (by rfl) fun K hK => ws_store hM0 rfl rfl rfl (by (repeat (first | (with_reducible exact Take.head) | apply Take.tail)); first | done | fail) (n := 64) (by simp [bvs_len, HNL.out]) (by rfl) (by kernel_rfl) (by simpa using bvs_oneCell _) (fun w hM => hK _ _ ?_); clear hM0 hK K)) | fail) | (first | ((with_reducible refine at_call' ?_); (have hM0 := hM; clear hM; refine BigFrame.wpList_want (by rfl) fun K hK => ws_app hM0 rfl rfl 5 ((.int .u8 0)) 1 1 Try.underlying84 (by kernel_rfl) (by rfl) (by (repeat (first | (with_reducible exact Take.head) | apply Take.tail)); first | done | fail) (src_row Try.underlying84 _ (Rd.of_bblk (hM0.blk (g := g11) (by (repeat (first | assumption | (with_reducible exact mZ) | apply mS)); first | done | fail)) HNL.out) (bvs_oneCell _)) ((by omega)) (fun A1 c1 w hM => hK _ _ ?_); clear hM0 hK K; (try simp only [Nat.zero_add, Nat.add_zero, List.nil_append, List.append_nil, ← bvs_app] at hM))) | fail))
      go_roundw
      case rel => exact ⟨k + 1, m + 64, A1, c1, by omega, by go_num, (by show _ = _; have := hm.out; omega), rfl, by rw [HS.out]; exact hM.sel (by repeat (first | (with_reducible exact Sel.refl) | (with_reducible exact Take.head) | (with_reducible apply Take.tail) | (with_reducible apply Sel.cons) | (with_reducible apply Sel.drop)))⟩
      case measure => simp [intOf]; omega
    · obtain rfl : k = n := by omega
      replace hM := hM.tail_freeze
      go_wp2_with (first | (first | ((with_reducible refine at_convert' ?_); (refine BigFrame.wpList_want (by rfl) fun K hK => ws_string (l := rdD D at_ k) rfl 5 Try.underlying84 Try.underlying9 Try.underlying5 rfl (by first | (apply Star.row hM; (repeat (first | assumption | (with_reducible exact mZ) | apply mS)); done) | (apply Star.own hM; (repeat (first | assumption | (with_reducible exact mZ) | apply mS)); done) | (apply Star.arr hM; (focus ((repeat (first | assumption | (with_reducible exact mZ) | apply mS)); done)); assumption)) (hK _ _ ?_); clear hK K)) | fail))
      go_ret2
      exact ⟨rfl, hM.sel (by repeat (first | (with_reducible exact Sel.refl) | (with_reducible exact Take.head) | (with_reducible apply Take.tail) | (with_reducible apply Sel.cons) | (with_reducible apply Sel.drop)))⟩
end
end Go.Proofs.Ytnckgkgilnmocaa
set_option linter.unusedSimpArgs false
set_option linter.unusedVariables false
namespace Go.Proofs.Ytnckgkgilnmocaa
open Go.RowKit
attribute [local go_sem] extract_mid extract_drop bget bsize wrap64_u8 i64_u8 u64_u8 bappend
def zs64 : List UInt8 := List.replicate 64 0
/-- A text, filled up with zeros. -/
def pad64 (s : List UInt8) : List UInt8 := over zs64 s
theorem zs64_len : zs64.length = 64 := by simp [zs64]
theorem pad64_len (s : List UInt8) : (pad64 s).length = 64 := by unfold pad64; rw [over_len, zs64_len]
/-- Texts go into sectors, one each. -/
def wrD (D : Dsk) (at_ : Nat) (ts : List (List UInt8)) (k : Nat) : Dsk := (List.range k).foldl (fun D j => D.put (at_ + j) (pad64 (ts.getD j []))) D
theorem wrD_succ (D : Dsk) (at_ : Nat) (ts : List (List UInt8)) (k : Nat) : wrD D at_ ts (k + 1) = (wrD D at_ ts k).put (at_ + k) (pad64 (ts.getD k [])) := by
  unfold wrD
  rw [List.range_succ, List.foldl_append]
  rfl
theorem wrD_sure (D : Dsk) (at_ : Nat) (ts : List (List UInt8)) (k : Nat) : (wrD D at_ ts k).sure = D.sure ∧ (wrD D at_ ts k).armed = D.armed ∧ (wrD D at_ ts k).left = D.left := by
  induction k with
  | zero => exact ⟨rfl, rfl, rfl⟩
  | succ k ih => rw [wrD_succ]; exact ih
theorem wrD_ok {D : Dsk} (h : D.ok) (at_ : Nat) (ts : List (List UInt8)) (k : Nat) (hk : at_ + k ≤ D.sure.length) : (wrD D at_ ts k).ok := by
  induction k with
  | zero => exact h
  | succ k ih =>
    rw [wrD_succ]
    exact put_ok (ih (by omega)) (by rw [(wrD_sure D at_ ts k).1]; omega) (pad64_len _)
def anyBig (ts : List (List UInt8)) : Bool := ts.any fun s => decide (64 < s.length)
section
variable {F : List SProp} {a : DA} {D : Dsk}
set_option maxRecDepth 100000 in
theorem wlam (s : List UInt8) (w : World) (hM : Star F w) : Calls Try.prog 68 #[.string ⟨s.toArray⟩] w fun r w' => r = .returned (.bool (decide (64 < s.length))) ∧ Star F w' := by
  go_enter Try.func68, Try.ntmps68
  go_wp2_with fail
  go_ret
  exact ⟨ret_bool (by simp only [decide_eq_decide]; omega), hM⟩
/-- The place of the first text that is too long, or -1. -/
def IdxP (ts : List (List UInt8)) (q : Int) : Prop := (anyBig ts = true → 0 ≤ q) ∧ (anyBig ts = false → q = -1)
theorem firstBig_some {ts : List (List UInt8)} {k : Nat} {s : List UInt8} (h : ∀ j s, j < k → ts[j]? = some s → s.length ≤ 64) (hk : ts[k]? = some s) (hs : 64 < s.length) : anyBig ts = true := by
  unfold anyBig
  exact List.any_eq_true.2 ⟨s, List.mem_of_getElem? hk, by simpa using hs⟩
set_option maxRecDepth 100000 in
set_option maxHeartbeats 2000000 in
theorem idxf {ts : List (List UInt8)} {A : Option Addr} {n c : Nat} (hn : n ≤ 9223372036854775807) (w : World) (hM : Star F w) (hF : rowE 1 A n (svs ts) ∈ F) :
    Calls Try.prog 91 #[.slice A n c, .func (.func 68) #[] #[]] w fun r w' => ∃ q : Int, r = .returned (.int .i64 q) ∧ IdxP ts q ∧ Star F w' := by
  have HL := Lib.hid (svs_row (hM.row hF))
  go_enter Try.func91, Try.ntmps91
  go_wp2_with fail
  go_loopw [8] (fun i wr => ∃ k : Nat, k ≤ n ∧ i = .int .i64 k ∧ Hid (∀ j s, j < k → ts[j]? = some s → s.length ≤ 64) ∧ Star F wr) (fun i _ => n - (intOf i).toNat)
  case atStart => exact ⟨0, by omega, rfl, fun j s hj => (by omega), hM⟩
  case round =>
    clear hM
    obtain ⟨k, hk, rfl, hb, hM⟩ := hrel
    by_cases hlt : k < n
    · obtain ⟨ad, s, rfl, hv, hg, _⟩ := hM.elemS (A := A) (n := n) (l := ts) (by (repeat (first | assumption | (with_reducible exact mZ) | apply mS)); first | done | fail) hlt
      have HG := Lib.hid hg
      clear hg
      by_cases hs : 64 < s.length
      · go_wp2_with (first | (first | ((with_reducible refine at_load' ?_); (refine BigFrame.wpList_want (by rfl) fun K hK => ws_rowload rfl rfl (by first | (apply Star.row hM; (repeat (first | assumption | (with_reducible exact mZ) | apply mS)); done) | (apply Star.own hM; (repeat (first | assumption | (with_reducible exact mZ) | apply mS)); done) | (apply Star.arr hM; (focus ((repeat (first | assumption | (with_reducible exact mZ) | apply mS)); done)); assumption)) (by assumption) (by kernel_rfl) (hK _ _ ?_); clear hK K)) | fail) | (go_at_call 68; have hM0 := hM; clear hM; (first | (with_reducible refine (wlam s _ hM0).mono ?_) | fail); clear hM0; rintro _ w ⟨rfl, hM⟩))
        go_ret
        exact ⟨_, rfl, ⟨fun _ => by omega, fun h => by rw [firstBig_some hb.out HG.out hs] at h; cases h⟩, hM⟩
      · go_wp2_with (first | (first | ((with_reducible refine at_load' ?_); (refine BigFrame.wpList_want (by rfl) fun K hK => ws_rowload rfl rfl (by first | (apply Star.row hM; (repeat (first | assumption | (with_reducible exact mZ) | apply mS)); done) | (apply Star.own hM; (repeat (first | assumption | (with_reducible exact mZ) | apply mS)); done) | (apply Star.arr hM; (focus ((repeat (first | assumption | (with_reducible exact mZ) | apply mS)); done)); assumption)) (by assumption) (by kernel_rfl) (hK _ _ ?_); clear hK K)) | fail) | (go_at_call 68; have hM0 := hM; clear hM; (first | (with_reducible refine (wlam s _ hM0).mono ?_) | fail); clear hM0; rintro _ w ⟨rfl, hM⟩))
        go_roundw
        case rel => exact ⟨k + 1, by omega, by go_num, fun j s' hj hjs => by
          by_cases e : j = k
          · subst e; rw [HG.out] at hjs; injection hjs with hjs; subst hjs; omega
          · exact hb.out j s' (by omega) hjs, hM⟩
        case measure => simp [intOf]; omega
    · obtain rfl : k = n := by omega
      go_wp2_with fail
      go_ret
      refine ⟨-1, rfl, ⟨fun h => ?_, fun _ => rfl⟩, hM⟩
      obtain ⟨s, hs, hl⟩ := List.any_eq_true.1 h
      obtain ⟨j, hj, hjs⟩ := List.mem_iff_getElem.1 hs
      have := hb.out j s (by rw [← HL.out]; exact hj) (by rw [List.getElem?_eq_getElem hj, hjs])
      simp at hl
      omega
set_option maxRecDepth 100000 in
theorem containsf {ts : List (List UInt8)} {A : Option Addr} {n c : Nat} (hn : n ≤ 9223372036854775807) (w : World) (hM : Star F w) (hF : rowE 1 A n (svs ts) ∈ F) :
    Calls Try.prog 67 #[.slice A n c, .func (.func 68) #[] #[]] w fun r w' => r = .returned (.bool (anyBig ts)) ∧ Star F w' := by
  go_enter Try.func67, Try.ntmps67
  go_wp2_with (first | (go_at_call 91; have hM0 := hM; clear hM; (first | (with_reducible refine (idxf hn _ hM0 (by (repeat (first | assumption | (with_reducible exact mZ) | apply mS)); first | done | fail)).mono ?_) | fail); clear hM0; rintro _ w ⟨q, rfl, hq, hM⟩))
  go_ret
  refine ⟨ret_bool ?_, hM⟩
  cases hb : anyBig ts
  · rw [hq.2 hb]; rfl
  · have := hq.1 hb; simpa using this
theorem info_blkz : (Try.prog.info? 97).map (fun i => i.zero) = some (some (.agg (bvs zs64).toArray)) := by kernel_rfl
theorem nobig (ts : List (List UInt8)) (hb : anyBig ts = false) : ∀ s ∈ ts, s.length ≤ 64 := fun s hs => by
  unfold anyBig at hb
  have := List.any_eq_false.1 hb s hs
  simpa using this
set_option maxRecDepth 100000 in
set_option maxHeartbeats 4000000 in
theorem write_ok {ts : List (List UInt8)} {A : Option Addr} {n c : Nat} (h : D.ok) (at_ : Nat) (hi : at_ + n ≤ D.sure.length) (hb : anyBig ts = false) (hf : D.armed = true → D.left ≠ 0) (w : World) (hM : Star (diskE a D :: F) w) (hF : rowE 1 A n (svs ts) ∈ F) :
    Calls Try.prog 38 #[dptr a, .int .i64 at_, .slice A n c] w fun r w' => r = .returned (.int .i64 0) ∧ Star (diskE a (wrD D.dec at_ ts n) :: F) w' := by
  have HI := Lib.hid (in_yes (a := a) h at_ n hi)
  have hsz := h.size
  have HC : Hid (∀ (L : List SProp) (w : World), Star L w → rowE 1 A n (svs ts) ∈ L → Calls Try.prog 67 #[.slice A n c, .func (.func 68) #[] #[]] w fun r w' => r = .returned (.bool false) ∧ Star L w') := fun L w hM hx => by
    have := containsf (c := c) (by omega) w hM hx
    rwa [hb] at this
  have HCA := Lib.hid (fun (L : List SProp) (w : World) (hM : Star (fE a D.armed D.left :: L) w) => call_go D.armed D.left hf w hM)
  have hok := dec_ok h hf
  have HNB := Lib.hid (nobig ts hb)
  have HOK := Lib.hid hok
  clear h hb hf hok
  go_enter Try.func38, Try.ntmps38
  go_wp2_with (first | (go_at_call 66; have hM0 := hM; clear hM; (first | (with_reducible refine (HI.out _ _ hM0).mono ?_) | fail); clear hM0; rintro _ w ⟨rfl, hM⟩) | (go_at_call 67; have hM0 := hM; clear hM; (first | (with_reducible refine (HC.out _ _ hM0 (by (repeat (first | assumption | (with_reducible exact mZ) | apply mS)); first | done | fail)).mono ?_) | fail); clear hM0; rintro _ w ⟨rfl, hM⟩) | (first | ((with_reducible refine at_load' ?_); (refine BigFrame.wpList_want (by rfl) fun K hK => ws_load1 hM rfl rfl (by (repeat (first | assumption | (with_reducible exact mZ) | apply mS)); first | done | fail) (by first | rfl | assumption) (by decide +kernel) (hK _ _ ?_); clear hK K)) | fail) | (go_at_call 40; have hM0 := hM; clear hM; (first | (with_reducible refine (HCA.out _ _ (hM0.take (x := fE a D.armed D.left) (by (repeat (first | (with_reducible exact Take.head) | apply Take.tail)); first | done | fail))).mono ?_) | fail); clear hM0; rintro _ w ⟨rfl, hM⟩))
  have hM2 : Star (diskE a D.dec :: F) w := (hM.sel (by repeat (first | (with_reducible exact Sel.refl) | (with_reducible exact Take.head) | (with_reducible apply Take.tail) | (with_reducible apply Sel.cons) | (with_reducible apply Sel.drop))) : Star (dE a D.sure.length :: fE a D.armed (IntKind.i64.wrap (D.left - 1)) :: sE a D.sure :: mE a (lmv D) :: F) w).djoin
  clear hM
  have hM := hM2
  clear hM2
  go_loopw [31] (fun i wr => ∃ k : Nat, k ≤ n ∧ i = .int .i64 k ∧ Star (diskE a (wrD D.dec at_ ts k) :: F) wr) (fun i _ => n - (intOf i).toNat)
  case atStart => exact ⟨0, by omega, rfl, hM⟩
  case round =>
    clear hM
    obtain ⟨k, hk, rfl, hM⟩ := hrel
    by_cases hlt : k < n
    · obtain ⟨ad, s, rfl, hv, hg, _⟩ := hM.elemS (A := A) (n := n) (l := ts) (List.mem_cons_of_mem _ hF) hlt
      have hs64 := HNB.out s (List.mem_of_getElem? hg)
      have HW := Lib.hid (wrD_succ D.dec at_ ts k)
      have HS : Hid (ts.getD k [] = s) := by show _ = _; rw [List.getD_eq_getElem?_getD, hg]; rfl
      have hEk := wrD_ok HOK.out at_ ts k (by show _ ≤ D.sure.length; omega)
      have hEs := (wrD_sure D.dec at_ ts k).1
      obtain ⟨E, hE⟩ : ∃ E, E = wrD D.dec at_ ts k := ⟨_, rfl⟩
      rw [← hE] at hM hEk hEs HW
      have hik : at_ + k < E.sure.length := by rw [hEs]; show _ < D.sure.length; omega
      have HEK := Lib.hid hEk
      have HIK := Lib.hid hik
      have HK := Lib.hid (int_key (at_ + k) (by omega))
      have HADD : Hid (IntKind.i64.wrap ((at_ : Int) + (k : Int)) = ((at_ + k : Nat) : Int)) := by show _ = _; rw [IntWalk.i64_in _ (by omega)]; omega
      have HPL := Lib.hid (pad64_len s)
      replace hM := hM.dopen
      clear hE hEk hEs hik hg hs64
      have HZL := Lib.hid zs64_len
      go_wp2_with (first | (first | ((with_reducible refine at_load' ?_); (refine BigFrame.wpList_want (by rfl) fun K hK => ws_rowload rfl rfl (by first | (apply Star.row hM; (repeat (first | assumption | (with_reducible exact mZ) | apply mS)); done) | (apply Star.own hM; (repeat (first | assumption | (with_reducible exact mZ) | apply mS)); done) | (apply Star.arr hM; (focus ((repeat (first | assumption | (with_reducible exact mZ) | apply mS)); done)); assumption)) (by assumption) (by kernel_rfl) (hK _ _ ?_); clear hK K)) | fail) | (first | ((with_reducible refine at_alloc' ?_); (have hM0 := hM; clear hM; refine BigFrame.wpList_want (by rfl) fun K hK => ws_alloc hM0 (t := 97) rfl (bvs zs64).toArray info_blkz (fun g10 w hM => hK _ _ ?_); clear hM0 hK K)) | fail) | (first | ((with_reducible refine at_call' ?_); (have hM0 := hM; clear hM; refine BigFrame.wpList_want (by rfl) fun K hK => ws_copy_str hM0 rfl rfl rfl 5 Try.underlying84 (by kernel_rfl) (by (repeat (first | (with_reducible exact Take.head) | apply Take.tail)); first | done | fail) (by rw [HZL.out]) (fun w hM => hK _ _ ?_); clear hM0 hK K)) | fail))
      by_cases hl : E.l (at_ + k) = true
      · obtain ⟨r, hp1, hp2⟩ := lmv_put_old HEK.out HIK.out (pad64 s) hl
        have HP1 := Lib.hid hp1
        have HP2 := Lib.hid hp2
        clear hp1 hp2 hl
        (refine region_RS ([dE a E.sure.length, cellsE g10 97 (bvs (over zs64 s)).toArray]) [8] (by kernel_rfl) hM ?_; clear hM; change RS _ _ _ _ _ _ 9 (Array.replicate 9 false) _ _; refine RS_take (i := 0) rfl (by decide +kernel) (fun _ _ _ h => h) (by first | (intro x hx; (repeat (first | exact hx | apply mS)); done) | ((repeat (refine List.forall_mem_cons.2 ⟨(by (repeat (first | assumption | (with_reducible exact mZ) | apply mS)); first | done | fail), ?_⟩)); intro x hx; first | (cases hx; done) | ((repeat (first | exact hx | apply mS)); done))) (stab_pure (by rfl) (fun w => (by go_simp; try with_reducible rfl))) ?_; simp only [Act.put, List.setIfInBounds_toArray, List.set_cons_zero, List.set_cons_succ]; refine RS_take (i := 1) rfl (by decide +kernel) (fun _ _ _ h => h) (by first | (intro x hx; (repeat (first | exact hx | apply mS)); done) | ((repeat (refine List.forall_mem_cons.2 ⟨(by (repeat (first | assumption | (with_reducible exact mZ) | apply mS)); first | done | fail), ?_⟩)); intro x hx; first | (cases hx; done) | ((repeat (first | exact hx | apply mS)); done))) (stab_pure (by rfl) (fun w => (by go_simp; try with_reducible rfl))) ?_; simp only [Act.put, List.setIfInBounds_toArray, List.set_cons_zero, List.set_cons_succ]; refine RS_take (i := 2) rfl (by decide +kernel) (fun _ _ _ h => h) (by first | (intro x hx; (repeat (first | exact hx | apply mS)); done) | ((repeat (refine List.forall_mem_cons.2 ⟨(by (repeat (first | assumption | (with_reducible exact mZ) | apply mS)); first | done | fail), ?_⟩)); intro x hx; first | (cases hx; done) | ((repeat (first | exact hx | apply mS)); done))) (stab_pure (by rfl) (fun w => (by go_simp; try with_reducible rfl))) ?_; simp only [Act.put, List.setIfInBounds_toArray, List.set_cons_zero, List.set_cons_succ]; refine RS_take (i := 3) rfl (by decide +kernel) (fun _ _ _ h => h) (by first | (intro x hx; (repeat (first | exact hx | apply mS)); done) | ((repeat (refine List.forall_mem_cons.2 ⟨(by (repeat (first | assumption | (with_reducible exact mZ) | apply mS)); first | done | fail), ?_⟩)); intro x hx; first | (cases hx; done) | ((repeat (first | exact hx | apply mS)); done))) (stab_read (by rfl) (fun L w hL hM => (ex_load1 (v := .map (some a.m)) hM rfl rfl (hL _ (by (repeat (first | assumption | (with_reducible exact mZ) | apply mS)); first | done | fail)) rfl (by decide +kernel)))) ?_; simp only [Act.put, List.setIfInBounds_toArray, List.set_cons_zero, List.set_cons_succ]; refine RS_take (i := 4) rfl (by decide +kernel) (fun _ _ _ h => h) (by first | (intro x hx; (repeat (first | exact hx | apply mS)); done) | ((repeat (refine List.forall_mem_cons.2 ⟨(by (repeat (first | assumption | (with_reducible exact mZ) | apply mS)); first | done | fail), ?_⟩)); intro x hx; first | (cases hx; done) | ((repeat (first | exact hx | apply mS)); done))) (stab_pure (by rfl) (fun w => (by go_simp; try with_reducible rfl))) ?_; simp only [Act.put, List.setIfInBounds_toArray, List.set_cons_zero, List.set_cons_succ]; refine RS_take (i := 5) rfl (by decide +kernel) (fun _ _ _ h => h) (by first | (intro x hx; (repeat (first | exact hx | apply mS)); done) | ((repeat (refine List.forall_mem_cons.2 ⟨(by (repeat (first | assumption | (with_reducible exact mZ) | apply mS)); first | done | fail), ?_⟩)); intro x hx; first | (cases hx; done) | ((repeat (first | exact hx | apply mS)); done))) (stab_pure (by rfl) (fun w => (by go_simp; try with_reducible rfl))) ?_; simp only [Act.put, List.setIfInBounds_toArray, List.set_cons_zero, List.set_cons_succ]; refine RS_take (i := 6) rfl (by decide +kernel) (fun _ _ _ h => h) (by first | (intro x hx; (repeat (first | exact hx | apply mS)); done) | ((repeat (refine List.forall_mem_cons.2 ⟨(by (repeat (first | assumption | (with_reducible exact mZ) | apply mS)); first | done | fail), ?_⟩)); intro x hx; first | (cases hx; done) | ((repeat (first | exact hx | apply mS)); done))) (stab_read (by rfl) (fun L w hL hM => (ex_add rfl rfl rfl HADD.out))) ?_; simp only [Act.put, List.setIfInBounds_toArray, List.set_cons_zero, List.set_cons_succ]; refine RS_take (i := 7) rfl (by decide +kernel) (fun _ _ _ h => h) (by first | (intro x hx; (repeat (first | exact hx | apply mS)); done) | ((repeat (refine List.forall_mem_cons.2 ⟨(by (repeat (first | assumption | (with_reducible exact mZ) | apply mS)); first | done | fail), ?_⟩)); intro x hx; first | (cases hx; done) | ((repeat (first | exact hx | apply mS)); done))) (stab_read (by rfl) (fun L w hL hM => (ex_load hM rfl rfl (hL _ (by (repeat (first | assumption | (with_reducible exact mZ) | apply mS)); first | done | fail)) (n := 64) (by simp [bvs_len, over_len, HZL.out]) (by decide +kernel)))) ?_; simp only [Act.put, List.setIfInBounds_toArray, List.set_cons_zero, List.set_cons_succ]; refine RS_one (i := 8) (by decide +kernel) rfl (by rfl) (.inl (by first | (intro x hx; (repeat (first | exact hx | apply mS)); done) | ((repeat (refine List.forall_mem_cons.2 ⟨(by (repeat (first | assumption | (with_reducible exact mZ) | apply mS)); first | done | fail), ?_⟩)); intro x hx; first | (cases hx; done) | ((repeat (first | exact hx | apply mS)); done)))) (fun w K hM0 hK => ?_); refine ws_update_old (key := iv64 (at_ + k)) (v := avb (pad64 s)) hM0 rfl Try.underlying93 rfl rfl rfl (by (repeat (first | (with_reducible exact Take.head) | apply Take.tail)); first | done | fail) keyed_i HK.out HP1.out (fun w hM => hK _ _ _ hM ?_); clear hM hM0 hK K; simp only [Act.put, List.setIfInBounds_toArray, List.set_cons_zero, List.set_cons_succ]; refine RS_done (by decide +kernel) (.inr (by decide +kernel)) (fun w hM => ?_))
        go_wp2
        go_roundw
        case rel => exact ⟨k + 1, by omega, by go_num, by rw [HW.out, HS.out]; exact ((hM.sel (by repeat (first | (with_reducible exact Sel.refl) | (with_reducible exact Take.head) | (with_reducible apply Take.tail) | (with_reducible apply Sel.cons) | (with_reducible apply Sel.drop))) : Star (dE a E.sure.length :: fE a E.armed E.left :: sE a E.sure :: mE a ((iv64 (at_ + k), avb (pad64 s)) :: r) :: F) _).take (x := mE a ((iv64 (at_ + k), avb (pad64 s)) :: r)) (by (repeat (first | (with_reducible exact Take.head) | apply Take.tail)); first | done | fail)).map_perm HP2.out |> fun hM => Star.djoin (D := E.put (at_ + k) (pad64 s)) (hM.sel (by repeat (first | (with_reducible exact Sel.refl) | (with_reducible exact Take.head) | (with_reducible apply Take.tail) | (with_reducible apply Sel.cons) | (with_reducible apply Sel.drop))) : Star (dE a E.sure.length :: fE a E.armed E.left :: sE a E.sure :: mE a (lmv (E.put (at_ + k) (pad64 s))) :: F) _)⟩
        case measure => simp [intOf]; omega
      · have hlf : E.l (at_ + k) = false := by simpa using hl
        have HMS : Hid (∀ p ∈ lmv E, p.1 ≠ iv64 (at_ + k)) := lmv_miss HIK.out hlf
        have HP2 := Lib.hid (lmv_put_new HEK.out HIK.out (pad64 s) hlf)
        clear hl hlf
        (refine region_RS ([dE a E.sure.length, cellsE g10 97 (bvs (over zs64 s)).toArray]) [8] (by kernel_rfl) hM ?_; clear hM; change RS _ _ _ _ _ _ 9 (Array.replicate 9 false) _ _; refine RS_take (i := 0) rfl (by decide +kernel) (fun _ _ _ h => h) (by first | (intro x hx; (repeat (first | exact hx | apply mS)); done) | ((repeat (refine List.forall_mem_cons.2 ⟨(by (repeat (first | assumption | (with_reducible exact mZ) | apply mS)); first | done | fail), ?_⟩)); intro x hx; first | (cases hx; done) | ((repeat (first | exact hx | apply mS)); done))) (stab_pure (by rfl) (fun w => (by go_simp; try with_reducible rfl))) ?_; simp only [Act.put, List.setIfInBounds_toArray, List.set_cons_zero, List.set_cons_succ]; refine RS_take (i := 1) rfl (by decide +kernel) (fun _ _ _ h => h) (by first | (intro x hx; (repeat (first | exact hx | apply mS)); done) | ((repeat (refine List.forall_mem_cons.2 ⟨(by (repeat (first | assumption | (with_reducible exact mZ) | apply mS)); first | done | fail), ?_⟩)); intro x hx; first | (cases hx; done) | ((repeat (first | exact hx | apply mS)); done))) (stab_pure (by rfl) (fun w => (by go_simp; try with_reducible rfl))) ?_; simp only [Act.put, List.setIfInBounds_toArray, List.set_cons_zero, List.set_cons_succ]; refine RS_take (i := 2) rfl (by decide +kernel) (fun _ _ _ h => h) (by first | (intro x hx; (repeat (first | exact hx | apply mS)); done) | ((repeat (refine List.forall_mem_cons.2 ⟨(by (repeat (first | assumption | (with_reducible exact mZ) | apply mS)); first | done | fail), ?_⟩)); intro x hx; first | (cases hx; done) | ((repeat (first | exact hx | apply mS)); done))) (stab_pure (by rfl) (fun w => (by go_simp; try with_reducible rfl))) ?_; simp only [Act.put, List.setIfInBounds_toArray, List.set_cons_zero, List.set_cons_succ]; refine RS_take (i := 3) rfl (by decide +kernel) (fun _ _ _ h => h) (by first | (intro x hx; (repeat (first | exact hx | apply mS)); done) | ((repeat (refine List.forall_mem_cons.2 ⟨(by (repeat (first | assumption | (with_reducible exact mZ) | apply mS)); first | done | fail), ?_⟩)); intro x hx; first | (cases hx; done) | ((repeat (first | exact hx | apply mS)); done))) (stab_read (by rfl) (fun L w hL hM => (ex_load1 (v := .map (some a.m)) hM rfl rfl (hL _ (by (repeat (first | assumption | (with_reducible exact mZ) | apply mS)); first | done | fail)) rfl (by decide +kernel)))) ?_; simp only [Act.put, List.setIfInBounds_toArray, List.set_cons_zero, List.set_cons_succ]; refine RS_take (i := 4) rfl (by decide +kernel) (fun _ _ _ h => h) (by first | (intro x hx; (repeat (first | exact hx | apply mS)); done) | ((repeat (refine List.forall_mem_cons.2 ⟨(by (repeat (first | assumption | (with_reducible exact mZ) | apply mS)); first | done | fail), ?_⟩)); intro x hx; first | (cases hx; done) | ((repeat (first | exact hx | apply mS)); done))) (stab_pure (by rfl) (fun w => (by go_simp; try with_reducible rfl))) ?_; simp only [Act.put, List.setIfInBounds_toArray, List.set_cons_zero, List.set_cons_succ]; refine RS_take (i := 5) rfl (by decide +kernel) (fun _ _ _ h => h) (by first | (intro x hx; (repeat (first | exact hx | apply mS)); done) | ((repeat (refine List.forall_mem_cons.2 ⟨(by (repeat (first | assumption | (with_reducible exact mZ) | apply mS)); first | done | fail), ?_⟩)); intro x hx; first | (cases hx; done) | ((repeat (first | exact hx | apply mS)); done))) (stab_pure (by rfl) (fun w => (by go_simp; try with_reducible rfl))) ?_; simp only [Act.put, List.setIfInBounds_toArray, List.set_cons_zero, List.set_cons_succ]; refine RS_take (i := 6) rfl (by decide +kernel) (fun _ _ _ h => h) (by first | (intro x hx; (repeat (first | exact hx | apply mS)); done) | ((repeat (refine List.forall_mem_cons.2 ⟨(by (repeat (first | assumption | (with_reducible exact mZ) | apply mS)); first | done | fail), ?_⟩)); intro x hx; first | (cases hx; done) | ((repeat (first | exact hx | apply mS)); done))) (stab_read (by rfl) (fun L w hL hM => (ex_add rfl rfl rfl HADD.out))) ?_; simp only [Act.put, List.setIfInBounds_toArray, List.set_cons_zero, List.set_cons_succ]; refine RS_take (i := 7) rfl (by decide +kernel) (fun _ _ _ h => h) (by first | (intro x hx; (repeat (first | exact hx | apply mS)); done) | ((repeat (refine List.forall_mem_cons.2 ⟨(by (repeat (first | assumption | (with_reducible exact mZ) | apply mS)); first | done | fail), ?_⟩)); intro x hx; first | (cases hx; done) | ((repeat (first | exact hx | apply mS)); done))) (stab_read (by rfl) (fun L w hL hM => (ex_load hM rfl rfl (hL _ (by (repeat (first | assumption | (with_reducible exact mZ) | apply mS)); first | done | fail)) (n := 64) (by simp [bvs_len, over_len, HZL.out]) (by decide +kernel)))) ?_; simp only [Act.put, List.setIfInBounds_toArray, List.set_cons_zero, List.set_cons_succ]; refine RS_one (i := 8) (by decide +kernel) rfl (by rfl) (.inl (by first | (intro x hx; (repeat (first | exact hx | apply mS)); done) | ((repeat (refine List.forall_mem_cons.2 ⟨(by (repeat (first | assumption | (with_reducible exact mZ) | apply mS)); first | done | fail), ?_⟩)); intro x hx; first | (cases hx; done) | ((repeat (first | exact hx | apply mS)); done)))) (fun w K hM0 hK => ?_); refine ws_update_new (key := iv64 (at_ + k)) (v := avb (pad64 s)) hM0 rfl Try.underlying93 rfl rfl rfl (by (repeat (first | (with_reducible exact Take.head) | apply Take.tail)); first | done | fail) keyed_i HK.out HMS.out (fun w hM => hK _ _ _ hM ?_); clear hM hM0 hK K; simp only [Act.put, List.setIfInBounds_toArray, List.set_cons_zero, List.set_cons_succ]; refine RS_done (by decide +kernel) (.inr (by decide +kernel)) (fun w hM => ?_))
        go_wp2
        go_roundw
        case rel => exact ⟨k + 1, by omega, by go_num, by rw [HW.out, HS.out]; exact ((hM.sel (by repeat (first | (with_reducible exact Sel.refl) | (with_reducible exact Take.head) | (with_reducible apply Take.tail) | (with_reducible apply Sel.cons) | (with_reducible apply Sel.drop))) : Star (dE a E.sure.length :: fE a E.armed E.left :: sE a E.sure :: mE a ((iv64 (at_ + k), avb (pad64 s)) :: lmv E) :: F) _).take (x := mE a ((iv64 (at_ + k), avb (pad64 s)) :: lmv E)) (by (repeat (first | (with_reducible exact Take.head) | apply Take.tail)); first | done | fail)).map_perm HP2.out |> fun hM => Star.djoin (D := E.put (at_ + k) (pad64 s)) (hM.sel (by repeat (first | (with_reducible exact Sel.refl) | (with_reducible exact Take.head) | (with_reducible apply Take.tail) | (with_reducible apply Sel.cons) | (with_reducible apply Sel.drop))) : Star (dE a E.sure.length :: fE a E.armed E.left :: sE a E.sure :: mE a (lmv (E.put (at_ + k) (pad64 s))) :: F) _)⟩
        case measure => simp [intOf]; omega
    · obtain rfl : k = n := by omega
      go_wp2_with fail
      go_ret
      exact ⟨rfl, hM⟩
end
end Go.Proofs.Ytnckgkgilnmocaa
set_option linter.unusedSimpArgs false
set_option linter.unusedVariables false
namespace Go.Proofs.Ytnckgkgilnmocaa
open Go.RowKit
attribute [local go_sem] extract_mid extract_drop bget bsize wrap64_u8 i64_u8 u64_u8 bappend
theorem bvs_flat_set {S : List (List UInt8)} (h : ∀ b ∈ S, b.length = 64) {i : Nat} (hi : i < S.length) (b : List UInt8) : ((bvs S.flatten).take (i * 64) ++ bvs b ++ (bvs S.flatten).drop (i * 64 + 64)) = bvs (S.set i b).flatten := by
  rw [flat_set h hi, bvs_app, bvs_app, Nat.mul_comm i 64]
  simp only [bvs, List.map_take, List.map_drop]
section
variable {P : Program} {w : World} {ops : Array Oper} {o : Oper} {ac : Act} {Q : Exit → Act → World → Prop} {L R : List SProp} {K : Act → World → Prop}
theorem ws_store_sec {a : DA} (hM : Star L w) {ty : TypeId} {x y : Operand} (ho : o.op = .store ty x y) (i : Nat) {S : List (List UInt8)} {b : List UInt8} (hx : ac.eval x = .pointer (some ⟨a.g, i * 64, none⟩)) (hy : ac.eval y = avb b) (hS : ∀ b ∈ S, b.length = 64) (hi : i < S.length) (hb64 : b.length = 64) (hb : Take (sE a S) L R) (hs : (P.info? ty).map (·.size) = some 64)
    (h : ∀ w1, Star (sE a (S.set i b) :: R) w1 → K (ac.put o.dst undef) w1) : Oper.wp P o ac w K Q := by
  have hl : S.flatten.length = 64 * S.length := flat_64 hS
  refine ws_store_at hM ho hx hy hb 64 (by simp [avb, Value.cells, bvs_len, hb64]) (by rw [List.size_toArray, bvs_len, hl]; omega) hs (fun u hu => bvs_oneCell b u (by simpa [avb, Value.cells] using hu)) ?_ h
  have := bvs_flat_set hS hi b
  simp only [avb, Value.cells, List.toList_toArray]
  rw [this]
end
theorem upd_all {D : Dsk} (h : D.ok) {vis : List Nat} (hv : vis.Perm D.keys) : upd D.sure (vis.map fun i => (i, D.nw i)) = D.now := by
  have hn : ((vis.map fun i => (i, D.nw i)).map (·.1)).Nodup := by
    rw [List.map_map]
    have : ((fun x : Nat × List UInt8 => x.1) ∘ fun i => (i, D.nw i)) = id := rfl
    rw [this, List.map_id]
    exact hv.nodup_iff.2 (keys_nodup D)
  apply List.ext_getElem?
  intro j
  by_cases hj : j < D.sure.length
  · obtain ⟨g1, g2⟩ := upd_get (S := D.sure) hn j
    rw [nw_mem h hj]
    by_cases hl : D.l j = true
    · exact g1 _ (List.mem_map.2 ⟨j, hv.mem_iff.2 ((mem_keys D j).2 ⟨hj, hl⟩), rfl⟩) hj
    · have hlf : D.l j = false := by simpa using hl
      rw [g2 fun b hb => ?_, h.same j hj hlf]
      · unfold Dsk.su
        rw [List.getD_eq_getElem?_getD, List.getElem?_eq_getElem hj]
        rfl
      · obtain ⟨i, hi, e⟩ := List.mem_map.1 hb
        injection e with e _
        subst e
        have := ((mem_keys D i).1 (hv.mem_iff.1 hi)).2
        rw [hlf] at this
        cases this
  · rw [List.getElem?_eq_none (by rw [upd_len]; omega), List.getElem?_eq_none (by rw [h.ln]; omega)]
section
variable {F : List SProp} {a : DA} {D : Dsk}
abbrev encK (D : Dsk) (i : Nat) : Value × Value := (iv64 i, avb (D.nw i))
set_option maxRecDepth 100000 in
set_option maxHeartbeats 4000000 in
theorem sync_ok (h : D.ok) (hf : D.armed = true → D.left ≠ 0) (w : World) (hM : Star (diskE a D :: F) w) :
    Calls Try.prog 13 #[dptr a] w fun r w' => r = .returned (.int .i64 0) ∧ Star (diskE a (D.dec.calm D.now) :: F) w' := by
  have HCA := Lib.hid (fun (L : List SProp) (w : World) (hM : Star (fE a D.armed D.left :: L) w) => call_go D.armed D.left hf w hM)
  have HH := Lib.hid h
  have hsz := h.size
  clear hf h
  replace hM := hM.dopen
  go_enter Try.func13, Try.ntmps13
  go_wp2_with (first | (first | ((with_reducible refine at_load' ?_); (refine BigFrame.wpList_want (by rfl) fun K hK => ws_load1 hM rfl rfl (by (repeat (first | assumption | (with_reducible exact mZ) | apply mS)); first | done | fail) (by first | rfl | assumption) (by decide +kernel) (hK _ _ ?_); clear hK K)) | fail) | (go_at_call 40; have hM0 := hM; clear hM; (first | (with_reducible refine (HCA.out _ _ (hM0.take (x := fE a D.armed D.left) (by (repeat (first | (with_reducible exact Take.head) | apply Take.tail)); first | done | fail))).mono ?_) | fail); clear hM0; rintro _ w ⟨rfl, hM⟩) | (first | ((with_reducible refine at_range' ?_); (have hM0 := hM; clear hM; refine BigFrame.wpList_want (by rfl) fun K hK => ws_range_map hM0 rfl Try.underlying93 rfl (by (repeat (first | (with_reducible exact Take.head) | apply Take.tail)); first | done | fail) (fun gi w hM => hK _ _ ?_); clear hM0 hK K)) | fail))
  go_frame
  go_loopg [] D.keys.length (fun gk wx => ∃ (vis lft : List Nat), gk = lft.length ∧ Hid ((vis ++ lft).Perm D.keys) ∧ Star (rangeE Try.prog 3 a.m gi (lmv D) (lft.map (encK D)) :: dE a D.sure.length :: fE a D.armed (IntKind.i64.wrap (D.left - 1)) :: sE a (upd D.sure (vis.map fun i => (i, D.nw i))) :: F) wx)
  case atStart => exact ⟨[], D.keys, rfl, List.Perm.refl _, (hM.sel (by repeat (first | (with_reducible exact Sel.refl) | (with_reducible exact Take.head) | (with_reducible apply Take.tail) | (with_reducible apply Sel.cons) | (with_reducible apply Sel.drop))) : Star (rangeE Try.prog 3 a.m gi (lmv D) (lmv D) :: dE a D.sure.length :: fE a D.armed (IntKind.i64.wrap (D.left - 1)) :: sE a D.sure :: F) _)⟩
  case round =>
    clear hM
    obtain ⟨vis, lft, hgk, hv, hM⟩ := hrel
    have hS64 : ∀ b ∈ upd D.sure (vis.map fun i => (i, D.nw i)), b.length = 64 := upd_64 HH.out.s64 fun p hp => by
      obtain ⟨i, hi, rfl⟩ := List.mem_map.1 hp
      exact nw_len HH.out ((mem_keys D i).1 (hv.out.mem_iff.1 (List.mem_append.2 (.inl hi)))).1
    have hSl : (upd D.sure (vis.map fun i => (i, D.nw i))).length = D.sure.length := upd_len _ _
    obtain ⟨S, hS⟩ : ∃ S, S = upd D.sure (vis.map fun i => (i, D.nw i)) := ⟨_, rfl⟩
    rw [← hS] at hM hS64 hSl
    have HS := Lib.hid hS
    have HS64 := Lib.hid hS64
    have HSL := Lib.hid hSl
    clear hS hS64 hSl
    go_wp2_with (first | ((with_reducible refine at_next' ?_); have hM0 := hM; clear hM; refine BigFrame.wpList_want (by rfl) fun K hK => ws_next_enc (encK D) hM0 rfl rfl (by (repeat (first | (with_reducible exact Take.head) | apply Take.tail)); first | done | fail) (fun he w hM => hK _ _ ?_) (fun i lft' w hp hM => hK _ _ ?_); clear hM0 hK K; rotate_left; have HNL := Lib.hid (nw_len HH.out ((mem_keys D i).1 (hv.out.mem_iff.1 (List.mem_append.2 (.inr (hp.mem_iff.2 List.mem_cons_self))))).1); rotate_left) | (first | ((with_reducible refine at_load' ?_); (refine BigFrame.wpList_want (by rfl) fun K hK => ws_load1 hM rfl rfl (by (repeat (first | assumption | (with_reducible exact mZ) | apply mS)); first | done | fail) (by first | rfl | assumption) (by decide +kernel) (hK _ _ ?_); clear hK K)) | fail) | (first | ((with_reducible refine at_call' ?_); (have hM0 := hM; clear hM; refine BigFrame.wpList_want (by rfl) fun K hK => ws_clear_map hM0 rfl Try.underlying93 rfl (by (repeat (first | (with_reducible exact Take.head) | apply Take.tail)); first | done | fail) (fun w hM => hK _ _ ?_); clear hM0 hK K)) | fail) | (first | ((with_reducible refine at_entry' ?_); (refine BigFrame.wpList_want (by rfl) fun K hK => ws_of_ex (ex_entry hM rfl rfl (by (repeat (first | assumption | (with_reducible exact mZ) | apply mS)); first | done | fail)) (hK _ _ ?_); clear hK K)) | fail) | (first | ((with_reducible refine at_alloc' ?_); (have hM0 := hM; clear hM; refine BigFrame.wpList_want (by rfl) fun K hK => ws_alloc hM0 (t := 97) rfl (bvs zs64).toArray info_blkz (fun g5 w hM => hK _ _ ?_); clear hM0 hK K)) | fail) | (first | ((with_reducible refine at_store' ?_); (have hM0 := hM; clear hM; refine BigFrame.wpList_want (by rfl) fun K hK => ws_store hM0 rfl rfl rfl (by (repeat (first | (with_reducible exact Take.head) | apply Take.tail)); first | done | fail) (n := 64) (by simp [bvs_len, HNL.out]) (by rfl) (by kernel_rfl) (by simpa using bvs_oneCell _) (fun w hM => hK _ _ ?_); clear hM0 hK K)) | fail))
    · go_ret
      subst he
      have hup := upd_all HH.out (by simpa using hv.out)
      rw [← HS.out] at hup
      refine ⟨rfl, ?_⟩
      have hM3 : Star (dE a D.sure.length :: fE a D.armed (IntKind.i64.wrap (D.left - 1)) :: sE a S :: mE a [] :: F) _ := hM.sel (by repeat (first | (with_reducible exact Sel.refl) | (with_reducible exact Take.head) | (with_reducible apply Take.tail) | (with_reducible apply Sel.cons) | (with_reducible apply Sel.drop)))
      rw [hup] at hM3
      refine Star.djoin (D := D.dec.calm D.now) ?_
      rw [calm_lmv]
      show Star (dE a D.now.length :: fE a D.armed (IntKind.i64.wrap (D.left - 1)) :: sE a D.now :: mE a [] :: F) _
      rw [HH.out.ln]
      exact hM3
    · have HP1 := Lib.hid hp
      have hik : i ∈ D.keys := hv.out.mem_iff.1 (List.mem_append.2 (.inr (hp.mem_iff.2 List.mem_cons_self)))
      have hin := ((mem_keys D i).1 hik).1
      have hiI : (i : Int) < (D.sure.length : Int) := by omega
      have HIS : Hid (i < S.length) := by show _ < _; rw [HSL.out]; exact hin
      have HNX : Hid (upd D.sure ((vis ++ [i]).map fun i => (i, D.nw i)) = S.set i (D.nw i)) := by show _ = _; rw [List.map_append, HS.out]; exact upd_snoc _ _ _
      clear hp hik hin
      (refine region_RS ([dE a D.sure.length, cellsE g5 97 (bvs (D.nw i)).toArray]) [7] (by kernel_rfl) hM ?_; clear hM; change RS _ _ _ _ _ _ 8 (Array.replicate 8 false) _ _; refine RS_take (i := 0) rfl (by decide +kernel) (fun _ _ _ h => h) (by first | (intro x hx; (repeat (first | exact hx | apply mS)); done) | ((repeat (refine List.forall_mem_cons.2 ⟨(by (repeat (first | assumption | (with_reducible exact mZ) | apply mS)); first | done | fail), ?_⟩)); intro x hx; first | (cases hx; done) | ((repeat (first | exact hx | apply mS)); done))) (stab_pure (by rfl) (fun w => (by go_simp; try with_reducible rfl))) ?_; simp only [Act.put, List.setIfInBounds_toArray, List.set_cons_zero, List.set_cons_succ]; refine RS_take (i := 1) rfl (by decide +kernel) (fun _ _ _ h => h) (by first | (intro x hx; (repeat (first | exact hx | apply mS)); done) | ((repeat (refine List.forall_mem_cons.2 ⟨(by (repeat (first | assumption | (with_reducible exact mZ) | apply mS)); first | done | fail), ?_⟩)); intro x hx; first | (cases hx; done) | ((repeat (first | exact hx | apply mS)); done))) (stab_pure (by rfl) (fun w => (by go_simp; try with_reducible rfl))) ?_; simp only [Act.put, List.setIfInBounds_toArray, List.set_cons_zero, List.set_cons_succ]; refine RS_take (i := 2) rfl (by decide +kernel) (fun _ _ _ h => h) (by first | (intro x hx; (repeat (first | exact hx | apply mS)); done) | ((repeat (refine List.forall_mem_cons.2 ⟨(by (repeat (first | assumption | (with_reducible exact mZ) | apply mS)); first | done | fail), ?_⟩)); intro x hx; first | (cases hx; done) | ((repeat (first | exact hx | apply mS)); done))) (stab_pure (by rfl) (fun w => (by go_simp; try with_reducible rfl))) ?_; simp only [Act.put, List.setIfInBounds_toArray, List.set_cons_zero, List.set_cons_succ]; refine RS_take (i := 3) rfl (by decide +kernel) (fun _ _ _ h => h) (by first | (intro x hx; (repeat (first | exact hx | apply mS)); done) | ((repeat (refine List.forall_mem_cons.2 ⟨(by (repeat (first | assumption | (with_reducible exact mZ) | apply mS)); first | done | fail), ?_⟩)); intro x hx; first | (cases hx; done) | ((repeat (first | exact hx | apply mS)); done))) (stab_read (by rfl) (fun L w hL hM => (ex_load1 (v := .slice (some ⟨a.g, 0, none⟩) D.sure.length D.sure.length) hM rfl rfl (hL _ (by (repeat (first | assumption | (with_reducible exact mZ) | apply mS)); first | done | fail)) rfl (by decide +kernel)))) ?_; simp only [Act.put, List.setIfInBounds_toArray, List.set_cons_zero, List.set_cons_succ]; refine RS_take (i := 4) rfl (by decide +kernel) (fun _ _ _ h => h) (by first | (intro x hx; (repeat (first | exact hx | apply mS)); done) | ((repeat (refine List.forall_mem_cons.2 ⟨(by (repeat (first | assumption | (with_reducible exact mZ) | apply mS)); first | done | fail), ?_⟩)); intro x hx; first | (cases hx; done) | ((repeat (first | exact hx | apply mS)); done))) (stab_pure (by rfl) (fun w => (by go_simp; try with_reducible rfl))) ?_; simp only [Act.put, List.setIfInBounds_toArray, List.set_cons_zero, List.set_cons_succ]; refine RS_take (i := 5) rfl (by decide +kernel) (fun _ _ _ h => h) (by first | (intro x hx; (repeat (first | exact hx | apply mS)); done) | ((repeat (refine List.forall_mem_cons.2 ⟨(by (repeat (first | assumption | (with_reducible exact mZ) | apply mS)); first | done | fail), ?_⟩)); intro x hx; first | (cases hx; done) | ((repeat (first | exact hx | apply mS)); done))) (stab_read (by rfl) (fun L w hL hM => (ex_load hM rfl rfl (hL _ (by (repeat (first | assumption | (with_reducible exact mZ) | apply mS)); first | done | fail)) (n := 64) (by simp [bvs_len, HNL.out]) (by decide +kernel)))) ?_; simp only [Act.put, List.setIfInBounds_toArray, List.set_cons_zero, List.set_cons_succ]; refine RS_take (i := 6) rfl (by decide +kernel) (fun _ _ _ h => h) (by first | (intro x hx; (repeat (first | exact hx | apply mS)); done) | ((repeat (refine List.forall_mem_cons.2 ⟨(by (repeat (first | assumption | (with_reducible exact mZ) | apply mS)); first | done | fail), ?_⟩)); intro x hx; first | (cases hx; done) | ((repeat (first | exact hx | apply mS)); done))) (stab_pure (by rfl) (fun w => (by go_simp; try with_reducible rfl))) ?_; simp only [Act.put, List.setIfInBounds_toArray, List.set_cons_zero, List.set_cons_succ]; refine RS_one (i := 7) (by decide +kernel) rfl (by rfl) (.inl (by first | (intro x hx; (repeat (first | exact hx | apply mS)); done) | ((repeat (refine List.forall_mem_cons.2 ⟨(by (repeat (first | assumption | (with_reducible exact mZ) | apply mS)); first | done | fail), ?_⟩)); intro x hx; first | (cases hx; done) | ((repeat (first | exact hx | apply mS)); done)))) (fun w K hM0 hK => ?_); refine ws_store_sec hM0 rfl i rfl rfl HS64.out HIS.out HNL.out (by (repeat (first | (with_reducible exact Take.head) | apply Take.tail)); first | done | fail) (by kernel_rfl) (fun w hM => hK _ _ _ hM ?_); clear hM hM0 hK K; simp only [Act.put, List.setIfInBounds_toArray, List.set_cons_zero, List.set_cons_succ]; refine RS_done (by decide +kernel) (.inr (by decide +kernel)) (fun w hM => ?_))
      go_wp2
      go_roundg lft'.length
      case measure => have := HP1.out.length_eq; simp at this; omega
      case rel =>
        have hM3 : Star (entryE Try.prog 3 a.m gi (lmv D) (lft'.map (encK D)) (iv64 i) (avb (D.nw i)) :: dE a D.sure.length :: fE a D.armed (IntKind.i64.wrap (D.left - 1)) :: sE a (S.set i (D.nw i)) :: F) _ := hM.sel (by repeat (first | (with_reducible exact Sel.refl) | (with_reducible exact Take.head) | (with_reducible apply Take.tail) | (with_reducible apply Sel.cons) | (with_reducible apply Sel.drop)))
        refine ⟨vis ++ [i], lft', rfl, ?_, ?_⟩
        · show List.Perm _ _
          rw [List.append_assoc]
          exact (HP1.out.symm.append_left vis).trans hv.out
        · rw [HNX.out]
          exact hM3.range_of_entry
end
end Go.Proofs.Ytnckgkgilnmocaa
set_option linter.unusedSimpArgs false
set_option linter.unusedVariables false
namespace Go.Proofs.Ytnckgkgilnmocaa
open Go.RowKit Go.Maps Go.Sort Go.Shelf
def shKeysA_ren : Go.Shelf.Ren := ⟨fun | 7 => 81 | 10 => 98 | n => n, fun | 23 => 93 | 26 => 3 | 3 => 97 | 28 => 141 | 0 => 0 | 27 => 140 | 33 => 56 | 4 => 4 | n => n, fun | n => n⟩
theorem shKeysA : Go.Proofs.SlLaysZI.n7 Try.prog shKeysA_ren := {
  mixed := by kernel_rfl
  f7 := ⟨Try.f81.name, by decide, Try.func81.trans (congrArg some (by kernel_rfl))⟩
  f10 := ⟨Try.f98.name, by decide, Try.func98.trans (congrArg some (by kernel_rfl))⟩
  t0 := Try.underlying0
  a0 := Try.isAgg0
  z0 := Try.sizeOf0
  v0 := Try.zeroValue0
  t4 := Try.underlying4
  a4 := Try.isAgg4
  z4 := Try.sizeOf4
  v4 := Try.zeroValue4
  t23 := Try.underlying93
  a23 := Try.isAgg93
  z23 := Try.sizeOf93
  v23 := Try.zeroValue93
  t26 := Try.underlying3
  a26 := Try.isAgg3
  z26 := Try.sizeOf3
  v26 := Try.zeroValue3
  t27 := Try.underlying140
  a27 := Try.isAgg140
  z27 := Try.sizeOf140
  v27 := Try.zeroValue140
  t28 := Try.underlying141
  a28 := Try.isAgg141
  z28 := Try.sizeOf141
  v28 := Try.zeroValue141
  t33 := Try.underlying56
  a33 := Try.isAgg56
  z33 := Try.sizeOf56
  v33 := Try.zeroValue56 }
def shSorted_ren : Go.Shelf.Ren := ⟨fun | 6 => 80 | 8 => 96 | 9 => 97 | 11 => 106 | 13 => 101 | 12 => 107 | 23 => 116 | 24 => 117 | 14 => 119 | 15 => 120 | 16 => 121 | 17 => 122 | 18 => 123 | 19 => 124 | 20 => 125 | 21 => 126 | 22 => 127 | 25 => 133 | 26 => 129 | 27 => 130 | 28 => 134 | 29 => 135 | 30 => 136 | 31 => 138 | n => n, fun | 26 => 3 | 28 => 141 | 24 => 57 | 0 => 0 | 3 => 3 | 37 => 165 | 48 => 151 | 50 => 109 | 4 => 4 | 40 => 180 | 39 => 179 | 45 => 124 | 5 => 5 | 9 => 9 | 51 => 192 | 55 => 195 | 57 => 199 | 58 => 200 | 33 => 56 | n => n, fun | n => n⟩
theorem shSorted : Go.Proofs.SlLaysZI.n6 Try.prog shSorted_ren := {
  mixed := by kernel_rfl
  f6 := ⟨Try.f80.name, by decide, Try.func80.trans (congrArg some (by kernel_rfl))⟩
  f8 := ⟨Try.f96.name, by decide, Try.func96.trans (congrArg some (by kernel_rfl))⟩
  f11 := ⟨Try.f106.name, by decide, Try.func106.trans (congrArg some (by kernel_rfl))⟩
  t0 := Try.underlying0
  a0 := Try.isAgg0
  z0 := Try.sizeOf0
  v0 := Try.zeroValue0
  t24 := Try.underlying57
  a24 := Try.isAgg57
  z24 := Try.sizeOf57
  v24 := Try.zeroValue57
  t26 := Try.underlying3
  a26 := Try.isAgg3
  z26 := Try.sizeOf3
  v26 := Try.zeroValue3
  t28 := Try.underlying141
  a28 := Try.isAgg141
  z28 := Try.sizeOf141
  v28 := Try.zeroValue141
  i26 := by kernel_rfl }
def shSort_ren : Go.Shelf.Ren := ⟨fun | 5 => 97 | 8 => 101 | 7 => 107 | 19 => 116 | 20 => 117 | 10 => 119 | 11 => 120 | 12 => 121 | 13 => 122 | 14 => 123 | 15 => 124 | 16 => 125 | 17 => 126 | 18 => 127 | 30 => 133 | 31 => 129 | 32 => 130 | 33 => 134 | 34 => 135 | 35 => 136 | 40 => 138 | n => n, fun | 23 => 57 | 25 => 3 | 3 => 3 | 32 => 165 | 22 => 57 | 0 => 0 | 44 => 151 | 46 => 109 | 4 => 4 | 36 => 180 | 35 => 179 | 41 => 124 | 5 => 5 | 9 => 9 | 53 => 192 | 57 => 195 | 63 => 199 | 64 => 200 | n => n, fun | n => n⟩
theorem shSort : Go.Proofs.SlLaysM.n5 Try.prog shSort_ren := {
  mixed := by kernel_rfl
  f5 := ⟨Try.f97.name, by decide, Try.func97.trans (congrArg some (by kernel_rfl))⟩
  f7 := ⟨Try.f107.name, by decide, Try.func107.trans (congrArg some (by kernel_rfl))⟩
  f8 := Try.func101.trans (congrArg some (by kernel_rfl))
  f10 := ⟨Try.f119.name, by decide, Try.func119.trans (congrArg some (by kernel_rfl))⟩
  f11 := ⟨Try.f120.name, by decide, Try.func120.trans (congrArg some (by kernel_rfl))⟩
  f12 := ⟨Try.f121.name, by decide, Try.func121.trans (congrArg some (by kernel_rfl))⟩
  f13 := ⟨Try.f122.name, by decide, Try.func122.trans (congrArg some (by kernel_rfl))⟩
  f14 := ⟨Try.f123.name, by decide, Try.func123.trans (congrArg some (by kernel_rfl))⟩
  f15 := ⟨Try.f124.name, by decide, Try.func124.trans (congrArg some (by kernel_rfl))⟩
  f16 := ⟨Try.f125.name, by decide, Try.func125.trans (congrArg some (by kernel_rfl))⟩
  f17 := ⟨Try.f126.name, by decide, Try.func126.trans (congrArg some (by kernel_rfl))⟩
  f18 := ⟨Try.f127.name, by decide, Try.func127.trans (congrArg some (by kernel_rfl))⟩
  f19 := Try.func116.trans (congrArg some (by kernel_rfl))
  f20 := Try.func117.trans (congrArg some (by kernel_rfl))
  f30 := ⟨Try.f133.name, by decide, Try.func133.trans (congrArg some (by kernel_rfl))⟩
  f31 := Try.func129.trans (congrArg some (by kernel_rfl))
  f32 := Try.func130.trans (congrArg some (by kernel_rfl))
  f33 := ⟨Try.f134.name, by decide, Try.func134.trans (congrArg some (by kernel_rfl))⟩
  f34 := ⟨Try.f135.name, by decide, Try.func135.trans (congrArg some (by kernel_rfl))⟩
  f35 := ⟨Try.f136.name, by decide, Try.func136.trans (congrArg some (by kernel_rfl))⟩
  f40 := ⟨Try.f138.name, by decide, Try.func138.trans (congrArg some (by kernel_rfl))⟩
  t0 := Try.underlying0
  a0 := Try.isAgg0
  z0 := Try.sizeOf0
  v0 := Try.zeroValue0
  t3 := Try.underlying3
  a3 := Try.isAgg3
  z3 := Try.sizeOf3
  v3 := Try.zeroValue3
  t4 := Try.underlying4
  a4 := Try.isAgg4
  z4 := Try.sizeOf4
  v4 := Try.zeroValue4
  t5 := Try.underlying5
  a5 := Try.isAgg5
  z5 := Try.sizeOf5
  v5 := Try.zeroValue5
  t9 := Try.underlying9
  a9 := Try.isAgg9
  z9 := Try.sizeOf9
  v9 := Try.zeroValue9
  t22 := Try.underlying57
  a22 := Try.isAgg57
  z22 := Try.sizeOf57
  v22 := Try.zeroValue57
  t23 := Try.underlying57
  a23 := Try.isAgg57
  z23 := Try.sizeOf57
  v23 := Try.zeroValue57
  t25 := Try.underlying3
  a25 := Try.isAgg3
  z25 := Try.sizeOf3
  v25 := Try.zeroValue3
  t32 := Try.underlying165
  a32 := Try.isAgg165
  z32 := Try.sizeOf165
  v32 := Try.zeroValue165
  t35 := Try.underlying179
  a35 := Try.isAgg179
  z35 := Try.sizeOf179
  v35 := Try.zeroValue179
  t36 := Try.underlying180
  a36 := Try.isAgg180
  z36 := Try.sizeOf180
  v36 := Try.zeroValue180
  t41 := Try.underlying124
  a41 := Try.isAgg124
  z41 := Try.sizeOf124
  v41 := Try.zeroValue124
  t44 := Try.underlying151
  a44 := Try.isAgg151
  z44 := Try.sizeOf151
  v44 := Try.zeroValue151
  t46 := Try.underlying109
  a46 := Try.isAgg109
  z46 := Try.sizeOf109
  v46 := Try.zeroValue109
  t53 := Try.underlying192
  a53 := Try.isAgg192
  z53 := Try.sizeOf192
  v53 := Try.zeroValue192
  t57 := Try.underlying195
  a57 := Try.isAgg195
  z57 := Try.sizeOf195
  v57 := Try.zeroValue195
  t63 := Try.underlying199
  a63 := Try.isAgg199
  z63 := Try.sizeOf199
  v63 := Try.zeroValue199
  t64 := Try.underlying200
  a64 := Try.isAgg200
  z64 := Try.sizeOf200
  v64 := Try.zeroValue200 }
theorem shSorts (m : Nat) : AnyZI.SortsIn Try.prog shSorted_ren Fence.wide m :=
  ⟨fun blk off cap ss W hH hblk hsz => callsIn_wide.2 (AnyM.slices_Sort_int shSort blk off cap ss W hH hblk hsz),
   fun p cap W => callsIn_wide.2 (AnyM.slices_Sort_int_none shSort p cap W)⟩
theorem keys_A (mb : Option Nat) (W : World) : Calls Try.prog 81 #[.map mb] W fun e w' => e = .returned (.func (.func 98) #[] #[.pointer (some ⟨W.heap.size, 0, none⟩)]) ∧ w' = W.alloc (.cells #[.map mb] 93) :=
  (callsIn_wide (n := 5)).1 (AnyZI.keys_in shKeysA Fence.wide 5 trivial rfl mb W)
set_option maxHeartbeats 1000000 in
theorem sorted_A {H : Type} (b nn : Nat) (D0 : DataW H) (R : Value → Option (DataW H × List MemPlace)) (w : World) (hown : w.ownsMap Try.prog 3 R b nn D0) (hmax : Maps.size D0 ≤ maxLen) (hbytes : Maps.size D0 * 8 ≤ 140737488355328) :
    Calls Try.prog 80 #[.func (.func 98) #[] #[.pointer (some ⟨w.heap.size, 0, none⟩)]] (w.alloc (.cells #[.map (some b)] 93)) fun e w' => ∃ (v : Value) (ss : List Int), e = .returned v ∧ ss.Perm (intKeys D0) ∧
      w'.ownsRow (w.alloc (.cells #[.map (some b)] 93)).heap.size 3 1 v ss.length ((ss.mergeSort (fun x y => decide (x ≤ y))).map encZ) ∧ (v = .slice none 0 0 ↔ ss = []) ∧ Below (w.alloc (.cells #[.map (some b)] 93)).heap.size (w.alloc (.cells #[.map (some b)] 93)) w' := by
  refine (callsIn_wide (n := 5)).1 ?_
  have hbl := hown.lt
  have hseq : SeqGives Fence.wide 2 Try.prog 98 #[.pointer (some ⟨w.heap.size, 0, none⟩)] encZ (fun ss => ss.Perm (intKeys D0)) (Maps.size D0) (w.alloc (.cells #[.map (some b)] 93)) :=
    AnyZI.keys_gives (ρ := shKeysA_ren) { shKeysA with } Fence.wide _ trivial rfl (by omega) w.heap.size b nn D0 _ (by simp) (by simp) (by
      obtain ⟨es, clock, hb, Ft, hs, hD⟩ := hown
      exact ⟨es, clock, (Below.heap_alloc _ _ b hbl).trans hb, Ft, hs, hD⟩)
  exact AnyZI.sorted_in shSorted Fence.wide 5 trivial trivial trivial trivial rfl (by omega) (shSorts _) (enters_of Try.func97 (by kernel_rfl) rfl) 98 #[.pointer (some ⟨w.heap.size, 0, none⟩)] trivial (enters_of Try.func98 (by kernel_rfl) rfl) _ _ hmax hbytes _ hseq
end Go.Proofs.Ytnckgkgilnmocaa
set_option linter.unusedSimpArgs false
set_option linter.unusedVariables false
namespace Go.Proofs.Ytnckgkgilnmocaa
open Go.RowKit Go.Maps Go.Sort Go.Shelf
abbrev R1 : Value → Option (DataW Unit × List MemPlace) := fun _ => some (.lit (.bool true), [])
theorem own_of_map {P : Program} {k : TypeId} {w : World} {b : Nat} {ks : List Int} {f : Int → Value} (hk : P.underlying k = some (.int .i64)) (h : (mapE P k b (ks.map fun i => (.int .i64 i, f i))).holds w) (hl : ks.length ≤ maxLen) :
    ∃ D0 : DataW Unit, w.ownsMap P k R1 b ks.length D0 ∧ Maps.size D0 = ks.length ∧ (intKeys D0).Perm ks := by
  obtain ⟨es, clock, h1, h2, h3, h4⟩ := h
  have hn : es.size = ks.length := by have := h4.length_eq; simpa using this
  refine ⟨_, ⟨es, clock, h1, ⟨by omega, h2, fun x hx => ?_⟩, by omega, rfl⟩, ?_, ?_⟩
  · obtain ⟨l, hl⟩ := h3 x hx
    exact ⟨_, WideElems.rd_mk hl rfl⟩
  · show ((es.toList.map (WideElems.rg P k R1)).foldr DataW.insert []).length = _
    rw [(WideShapes.sorted_perm _).length_eq]
    simp [hn]
  · show (((es.toList.map (WideElems.rg P k R1)).foldr DataW.insert []).map fun p => Go.intOf p.1).Perm ks
    refine ((WideShapes.sorted_perm _).map _).trans ?_
    rw [List.map_map]
    have h5 : (es.toList.map ((fun p => Go.intOf p.1) ∘ WideElems.rg P k R1)) = (es.toList.map fun e => (e.key, e.val)).map fun p => (match p.1 with | .int _ a => a | _ => 0) := by
      rw [List.map_map]
      refine List.map_congr_left fun x hx => ?_
      obtain ⟨l, hl⟩ := h3 x hx
      obtain ⟨i, e1, e2, _⟩ := Maps.keyOf_i64 hk hl
      have hr1 : WideElems.rd P k R1 x = some (l, .lit (.bool true)) := WideElems.rd_mk (R := R1) (yv := (.lit (.bool true), [])) (val := x.val) (born := x.born) hl rfl
      have hr : WideElems.rg P k R1 x = (l, .lit (.bool true)) := WideElems.rg_of hr1
      simp only [Function.comp, hr, e2, e1, Go.intOf]
    rw [h5]
    refine (h4.map _).trans ?_
    rw [List.map_map]
    have : ((fun p : Value × Value => (match p.1 with | .int _ a => a | _ => 0 : Int)) ∘ fun i => (Value.int .i64 i, f i)) = id := rfl
    rw [this, List.map_id]
theorem sort_rises {ks : List Int} (h : ks.Pairwise (· < ·)) {ss : List Int} (hp : ss.Perm ks) : ss.mergeSort (fun x y => decide (x ≤ y)) = ks := by
  rw [mergeSort_of_perm_i hp]
  exact List.mergeSort_of_pairwise (h.imp fun {a b} hab => by simp; omega)
theorem ch_of_below {w w' : World} (h : Below w.heap.size w w') : Ch [] w w' := ⟨h.os, h.tape, h.output, h.size, fun k hk _ => h.block k hk⟩
theorem rows_star {e : TypeId} {L : List SProp} {w w' : World} {v : Value} {n : Nat} {l : List Int} (hM : Star L w) (hb : Below w.heap.size w w') (hr : w'.ownsRow w.heap.size e 1 v n (l.map encZ)) : ∃ A c, v = .slice A n c ∧ Star (rowE 1 A n (ivs l) :: L) w' := by
  have hx : ivs l = l.map encZ := rfl
  rcases hr.2 with ⟨h1, h2⟩ | ⟨g, cap, cur, h1, _⟩
  · subst h2
    exact ⟨none, 0, h1, by rw [hx]; exact (hM.mk_own (ch_of_below hb) (h1 ▸ hr)).freeze⟩
  · exact ⟨some ⟨g, 0, none⟩, cap, h1, by rw [hx]; exact (hM.mk_own (ch_of_below hb) (h1 ▸ hr)).freeze⟩
/-- Where maps.Keys has been called: the map, what lay there before. -/
def SortReady (P : Program) (T : TypeId) (b g : Nat) (ks : List Int) (L : List SProp) (w : World) : Prop := ∃ (w0 : World) (f : Int → Value), w = w0.alloc (.cells #[.map (some b)] T) ∧ g = w0.heap.size ∧ Star L w0 ∧ mapE P 3 b (ks.map fun i => (.int .i64 i, f i)) ∈ L
theorem keysA_star {L : List SProp} {b : Nat} {ks : List Int} {f : Int → Value} (w : World) (hM : Star L w) (hx : mapE Try.prog 3 b (ks.map fun i => (.int .i64 i, f i)) ∈ L) :
    Calls Try.prog 81 #[.map (some b)] w fun r w' => ∃ g, r = .returned (.func (.func 98) #[] #[.pointer (some ⟨g, 0, none⟩)]) ∧ Hid (SortReady Try.prog 93 b g ks L w') ∧ Star L w' :=
  (keys_A (some b) w).mono fun _ _ ⟨e, h⟩ => ⟨_, e, ⟨w, f, h, rfl, hM, hx⟩, h ▸ hM.step ((Ch.refl _ _).alloc _)⟩
theorem sortA_star {L : List SProp} {b g : Nat} {ks : List Int} (hs : ks.Pairwise (· < ·)) (hl : ks.length ≤ 1000000) (w : World) (hS : SortReady Try.prog 93 b g ks L w) :
    Calls Try.prog 80 #[.func (.func 98) #[] #[.pointer (some ⟨g, 0, none⟩)]] w fun r w' => ∃ A c, r = .returned (.slice A ks.length c) ∧ Star (rowE 1 A ks.length (ivs ks) :: L) w' := by
  obtain ⟨w0, f, rfl, rfl, hM, hx⟩ := hS
  obtain ⟨D0, hown, hsz, hp⟩ := own_of_map Try.underlying3 (hM.all _ hx) (by unfold maxLen; omega)
  have hM1 : Star L (w0.alloc (.cells #[.map (some b)] 93)) := hM.step ((Ch.refl _ _).alloc _)
  refine (sorted_A b _ D0 R1 w0 hown (by rw [hsz]; unfold maxLen; omega) (by rw [hsz]; omega)).mono fun r w' ⟨v, ss, e, h1, h2, _, h4⟩ => ?_
  have hks := sort_rises hs (h1.trans hp)
  have hlen : ss.length = ks.length := (h1.trans hp).length_eq
  rw [hks, hlen] at h2
  obtain ⟨A, c, hv, hR⟩ := rows_star hM1 h4 h2
  exact ⟨A, c, by rw [e, hv], hR⟩
end Go.Proofs.Ytnckgkgilnmocaa
