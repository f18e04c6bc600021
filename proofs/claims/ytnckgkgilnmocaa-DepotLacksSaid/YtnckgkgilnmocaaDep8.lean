/- What the laws share, part 8 (SecP, Law, SecA, SecR, SecW, SecS, MapS, SecC, SecN, SecE, BkP). No condition but those that each theorem names. -/
import Derived.Test.YtnckgkgilnmocaaDep1
import Derived.Test.YtnckgkgilnmocaaDep2
import Derived.Test.YtnckgkgilnmocaaDep3
import Derived.Test.YtnckgkgilnmocaaDep4
import Derived.Carry
import Derived.ChangeSame
import Derived.Deep.Fields
import Derived.Deep.Grids
import Derived.Deep.LoopGhost
import Derived.Deep.Slices
import Derived.Deep.Strs
import Derived.OpenShut
import Derived.ProofKit
import Derived.Shelf.SlIterI.Nil
import Derived.Shelf.SortM.Plain
import Derived.Shelf.SortM.SortNone
import Derived.ShutString
import Derived.Test.YtnckgkgilnmocaaProg
import Derived.WideKeyArgs
set_option linter.unusedSimpArgs false
set_option linter.unusedVariables false
namespace Go.Proofs.Ytnckgkgilnmocaa
open Go.RowKit
/-- A disk: what is sure, what was written last, which sectors are loose, the fuse. -/
structure Dsk where
  sure : List (List UInt8)
  now : List (List UInt8)
  lo : List Bool
  armed : Bool
  left : Int
namespace Dsk
def nw (D : Dsk) (i : Nat) : List UInt8 := D.now.getD i []
def su (D : Dsk) (i : Nat) : List UInt8 := D.sure.getD i []
def l (D : Dsk) (i : Nat) : Bool := D.lo.getD i false
def keys (D : Dsk) : List Nat := (List.range D.sure.length).filter D.l
structure ok (D : Dsk) : Prop where
  ln : D.now.length = D.sure.length
  ll : D.lo.length = D.sure.length
  s64 : ∀ b ∈ D.sure, b.length = 64
  n64 : ∀ b ∈ D.now, b.length = 64
  same : ∀ i, i < D.sure.length → D.l i = false → D.nw i = D.su i
  size : D.sure.length ≤ 65536
  i64a : -9223372036854775808 ≤ D.left
  i64b : D.left ≤ 9223372036854775807
  arm : D.armed = true → 0 ≤ D.left
/-- A call counts. -/
def dec (D : Dsk) : Dsk := { D with left := IntKind.i64.wrap (D.left - 1) }
/-- A sector is written. -/
def put (D : Dsk) (i : Nat) (b : List UInt8) : Dsk := { D with now := D.now.set i b, lo := D.lo.set i true }
/-- All is sure. -/
def calm (D : Dsk) (s : List (List UInt8)) : Dsk := { D with sure := s, now := s, lo := List.replicate s.length false }
end Dsk
abbrev iv64 (i : Nat) : Value := .int .i64 (i : Int)
abbrev avb (b : List UInt8) : Value := .agg (bvs b).toArray
/-- What the map of loose sectors holds. -/
def lmv (D : Dsk) : List (Value × Value) := D.keys.map fun i => (iv64 i, avb (D.nw i))
theorem iv64_inj {i j : Nat} (h : iv64 i = iv64 j) : i = j := by
  unfold iv64 at h
  injection h with _ h
  omega
theorem mem_keys (D : Dsk) (i : Nat) : i ∈ D.keys ↔ i < D.sure.length ∧ D.l i = true := by simp [Dsk.keys]
theorem keys_nodup (D : Dsk) : D.keys.Nodup := List.nodup_range.sublist List.filter_sublist
theorem lmv_miss {D : Dsk} {i : Nat} (h : i < D.sure.length) (hl : D.l i = false) : ∀ p ∈ lmv D, p.1 ≠ iv64 i := by
  intro p hp he
  obtain ⟨j, hj, rfl⟩ := List.mem_map.1 hp
  obtain rfl := iv64_inj he
  have := ((mem_keys D j).1 hj).2
  rw [hl] at this
  cases this
theorem lmv_hit {D : Dsk} {i : Nat} (h : i < D.sure.length) (hl : D.l i = true) : (iv64 i, avb (D.nw i)) ∈ lmv D := List.mem_map.2 ⟨i, (mem_keys D i).2 ⟨h, hl⟩, rfl⟩
theorem getD_set {α : Type} (l : List α) (i j : Nat) (x d : α) (hi : i < l.length) : (l.set i x).getD j d = if j = i then x else l.getD j d := by
  simp only [List.getD_eq_getElem?_getD, List.getElem?_set]
  by_cases h : i = j
  · subst h; simp [hi]
  · rw [if_neg h, if_neg (Ne.symm h)]
theorem put_nw {D : Dsk} (h : D.ok) {i : Nat} (hi : i < D.sure.length) (b : List UInt8) (j : Nat) : (D.put i b).nw j = if j = i then b else D.nw j := getD_set _ _ _ _ _ (by rw [h.ln]; exact hi)
theorem put_l {D : Dsk} (h : D.ok) {i : Nat} (hi : i < D.sure.length) (b : List UInt8) (j : Nat) : (D.put i b).l j = if j = i then true else D.l j := getD_set _ _ _ _ _ (by rw [h.ll]; exact hi)
theorem put_keys {D : Dsk} (h : D.ok) {i : Nat} (hi : i < D.sure.length) (b : List UInt8) (j : Nat) : j ∈ (D.put i b).keys ↔ j = i ∨ j ∈ D.keys := by
  rw [mem_keys, mem_keys, put_l h hi]
  show j < D.sure.length ∧ _ ↔ _
  constructor
  · rintro ⟨h1, h2⟩
    by_cases e : j = i
    · exact .inl e
    · rw [if_neg e] at h2; exact .inr ⟨h1, h2⟩
  · rintro (rfl | ⟨h1, h2⟩)
    · exact ⟨hi, if_pos rfl⟩
    · refine ⟨h1, ?_⟩
      split
      · rfl
      · exact h2
theorem perm_mem {l1 l2 : List Nat} (h1 : l1.Nodup) (h2 : l2.Nodup) (h : ∀ x, x ∈ l1 ↔ x ∈ l2) : l1.Perm l2 := (List.perm_ext_iff_of_nodup h1 h2).2 h
theorem lmv_put_new {D : Dsk} (h : D.ok) {i : Nat} (hi : i < D.sure.length) (b : List UInt8) (hl : D.l i = false) : ((iv64 i, avb b) :: lmv D).Perm (lmv (D.put i b)) := by
  have hn : i ∉ D.keys := fun hk => by have := ((mem_keys D i).1 hk).2; rw [hl] at this; cases this
  have hp : (i :: D.keys).Perm (D.put i b).keys := perm_mem (List.nodup_cons.2 ⟨hn, keys_nodup D⟩) (keys_nodup _) fun x => by rw [put_keys h hi, List.mem_cons]
  have h2 := hp.map fun j => (iv64 j, avb ((D.put i b).nw j))
  refine List.Perm.trans ?_ h2
  rw [List.map_cons, put_nw h hi, if_pos rfl]
  refine List.Perm.cons _ (List.Perm.of_eq (List.map_congr_left fun j hj => ?_))
  rw [put_nw h hi, if_neg (fun e : j = i => hn (e ▸ hj))]
theorem lmv_put_old {D : Dsk} (h : D.ok) {i : Nat} (hi : i < D.sure.length) (b : List UInt8) (hl : D.l i = true) : ∃ r, (lmv D).Perm ((iv64 i, avb (D.nw i)) :: r) ∧ ((iv64 i, avb b) :: r).Perm (lmv (D.put i b)) := by
  have hk : i ∈ D.keys := (mem_keys D i).2 ⟨hi, hl⟩
  have hp := List.perm_cons_erase hk
  have hne : ∀ j ∈ D.keys.erase i, j ≠ i := fun j hj e => by subst e; exact (keys_nodup D).not_mem_erase hj
  refine ⟨(D.keys.erase i).map fun j => (iv64 j, avb (D.nw j)), hp.map _, ?_⟩
  have hp2 : (i :: D.keys.erase i).Perm (D.put i b).keys := hp.symm.trans (perm_mem (keys_nodup D) (keys_nodup _) fun x => by
    rw [put_keys h hi]
    exact ⟨.inr, fun e => e.elim (fun e => e ▸ hk) id⟩)
  have h2 := hp2.map fun j => (iv64 j, avb ((D.put i b).nw j))
  refine List.Perm.trans ?_ h2
  rw [List.map_cons, put_nw h hi, if_pos rfl]
  refine List.Perm.cons _ (List.Perm.of_eq (List.map_congr_left fun j hj => ?_))
  rw [put_nw h hi, if_neg (hne j hj)]
theorem nw_len {D : Dsk} (h : D.ok) {i : Nat} (hi : i < D.sure.length) : (D.nw i).length = 64 := by
  have hl : i < D.now.length := by rw [h.ln]; exact hi
  unfold Dsk.nw
  rw [List.getD_eq_getElem?_getD, List.getElem?_eq_getElem hl]
  exact h.n64 _ (List.getElem_mem hl)
theorem nw_mem {D : Dsk} (h : D.ok) {i : Nat} (hi : i < D.sure.length) : D.now[i]? = some (D.nw i) := by
  have hl : i < D.now.length := by rw [h.ln]; exact hi
  unfold Dsk.nw
  rw [List.getD_eq_getElem?_getD, List.getElem?_eq_getElem hl]
  rfl
theorem put_ok {D : Dsk} (h : D.ok) {i : Nat} (hi : i < D.sure.length) {b : List UInt8} (hb : b.length = 64) : (D.put i b).ok where
  ln := by simp [Dsk.put, h.ln]
  ll := by simp [Dsk.put, h.ll]
  s64 := h.s64
  n64 x hx := by
    rcases List.mem_or_eq_of_mem_set hx with hx | rfl
    · exact h.n64 x hx
    · exact hb
  same j hj hl := by
    rw [put_l h hi] at hl
    by_cases e : j = i
    · rw [if_pos e] at hl; cases hl
    · rw [if_neg e] at hl
      rw [put_nw h hi, if_neg e]
      exact h.same j hj hl
  size := h.size
  i64a := h.i64a
  i64b := h.i64b
  arm := h.arm
theorem wrap_range (x : Int) : -9223372036854775808 ≤ IntKind.i64.wrap x ∧ IntKind.i64.wrap x ≤ 9223372036854775807 := by
  rw [IntKind.wrap_i64]
  omega
theorem dec_ok {D : Dsk} (h : D.ok) (hl : D.armed = true → D.left ≠ 0) : D.dec.ok where
  ln := h.ln
  ll := h.ll
  s64 := h.s64
  n64 := h.n64
  same := h.same
  size := h.size
  i64a := (wrap_range _).1
  i64b := (wrap_range _).2
  arm ha := by
    have h1 := h.arm ha
    have h2 := hl ha
    have h3 := h.i64b
    show 0 ≤ IntKind.i64.wrap (D.left - 1)
    rw [IntWalk.i64_in _ (by omega)]
    omega
theorem getD_rep (n i : Nat) : (List.replicate n false).getD i false = false := by
  rw [List.getD_eq_getElem?_getD, List.getElem?_replicate]
  split <;> rfl
theorem calm_ok {D : Dsk} (h : D.ok) {s : List (List UInt8)} (hs : ∀ b ∈ s, b.length = 64) (hn : s.length = D.sure.length) : (D.calm s).ok where
  ln := rfl
  ll := by simp [Dsk.calm]
  s64 := hs
  n64 := hs
  same _ _ _ := rfl
  size := by show s.length ≤ _; rw [hn]; exact h.size
  i64a := h.i64a
  i64b := h.i64b
  arm := h.arm
theorem calm_keys (D : Dsk) (s : List (List UInt8)) : (D.calm s).keys = [] := by
  refine List.filter_eq_nil_iff.2 fun i _ => ?_
  show ¬ ((List.replicate s.length false).getD i false = true)
  rw [getD_rep]
  simp
theorem calm_lmv (D : Dsk) (s : List (List UInt8)) : lmv (D.calm s) = [] := by unfold lmv; rw [calm_keys]; rfl
/-- Sectors set one by one. -/
def upd (S : List (List UInt8)) (ks : List (Nat × List UInt8)) : List (List UInt8) := ks.foldl (fun S p => S.set p.1 p.2) S
theorem upd_snoc (S : List (List UInt8)) (ks : List (Nat × List UInt8)) (p : Nat × List UInt8) : upd S (ks ++ [p]) = (upd S ks).set p.1 p.2 := by simp [upd]
theorem upd_len (S : List (List UInt8)) (ks : List (Nat × List UInt8)) : (upd S ks).length = S.length := by
  induction ks generalizing S with
  | nil => rfl
  | cons p ks ih => show (upd (S.set p.1 p.2) ks).length = _; rw [ih]; simp
theorem upd_64 {S : List (List UInt8)} {ks : List (Nat × List UInt8)} (h : ∀ b ∈ S, b.length = 64) (hk : ∀ p ∈ ks, p.2.length = 64) : ∀ b ∈ upd S ks, b.length = 64 := by
  induction ks generalizing S with
  | nil => exact h
  | cons p ks ih =>
    refine ih (S := S.set p.1 p.2) (fun b hb => ?_) fun q hq => hk q (List.mem_cons_of_mem _ hq)
    rcases List.mem_or_eq_of_mem_set hb with hb | rfl
    · exact h b hb
    · exact hk p List.mem_cons_self
/-- Each key stands once: what stands at a place then. -/
theorem upd_get {S : List (List UInt8)} {ks : List (Nat × List UInt8)} (hn : (ks.map (·.1)).Nodup) (j : Nat) : (∀ b, (j, b) ∈ ks → j < S.length → (upd S ks)[j]? = some b) ∧ ((∀ b, (j, b) ∉ ks) → (upd S ks)[j]? = S[j]?) := by
  induction ks generalizing S with
  | nil => exact ⟨fun b h => (by cases h), fun _ => rfl⟩
  | cons p ks ih =>
    simp only [List.map_cons, List.nodup_cons] at hn
    obtain ⟨h1, h2⟩ := ih (S := S.set p.1 p.2) hn.2
    refine ⟨fun b hb hj => ?_, fun hno => ?_⟩
    · rcases List.mem_cons.1 hb with rfl | hb
      · have := h2 fun b' hb' => hn.1 (List.mem_map.2 ⟨_, hb', rfl⟩)
        show (upd (S.set j b) ks)[j]? = _
        rw [this, List.getElem?_set]
        simp [hj]
      · exact h1 b hb (by simpa using hj)
    · have := h2 fun b hb => hno b (List.mem_cons_of_mem _ hb)
      show (upd (S.set p.1 p.2) ks)[j]? = _
      rw [this, List.getElem?_set, if_neg fun e => hno p.2 (by rw [← e]; exact List.mem_cons_self)]
theorem flat_64 {S : List (List UInt8)} (h : ∀ b ∈ S, b.length = 64) : S.flatten.length = 64 * S.length := by
  induction S with
  | nil => rfl
  | cons a S ih =>
    have h1 := h a List.mem_cons_self
    rw [List.flatten_cons, List.length_append, ih fun b hb => h b (List.mem_cons_of_mem _ hb), List.length_cons]
    omega
theorem flat_cut {S : List (List UInt8)} (h : ∀ b ∈ S, b.length = 64) {i : Nat} (hi : i < S.length) : S.flatten = (S.take i).flatten ++ S[i] ++ (S.drop (i + 1)).flatten ∧ (S.take i).flatten.length = 64 * i := by
  refine ⟨?_, by rw [flat_64 fun b hb => h b (List.mem_of_mem_take hb), List.length_take]; omega⟩
  conv => lhs; rw [← List.take_append_drop i S, List.drop_eq_getElem_cons hi]
  rw [List.flatten_append, List.flatten_cons, List.append_assoc]
theorem flat_set {S : List (List UInt8)} (h : ∀ b ∈ S, b.length = 64) {i : Nat} (hi : i < S.length) (b : List UInt8) : (S.set i b).flatten = S.flatten.take (64 * i) ++ b ++ S.flatten.drop (64 * i + 64) := by
  obtain ⟨e, hl⟩ := flat_cut h hi
  have h64 : S[i].length = 64 := h _ (List.getElem_mem hi)
  have e1 : S.flatten.take (64 * i) = (S.take i).flatten := by rw [e, List.append_assoc, List.take_append_of_le_length (by omega), List.take_of_length_le (by omega)]
  have e2 : S.flatten.drop (64 * i + 64) = (S.drop (i + 1)).flatten := by
    have hl2 : ((S.take i).flatten ++ S[i]).length = 64 * i + 64 := by rw [List.length_append]; omega
    rw [e, List.drop_append_of_le_length (by omega), List.drop_of_length_le (by omega), List.nil_append]
  rw [e1, e2, List.set_eq_take_append_cons_drop, if_pos hi]
  simp
theorem flat_at {S : List (List UInt8)} (h : ∀ b ∈ S, b.length = 64) {i j : Nat} (hi : i < S.length) (hj : j < 64) : S.flatten[64 * i + j]? = S[i][j]? := by
  obtain ⟨e, hl⟩ := flat_cut h hi
  have h64 : S[i].length = 64 := h _ (List.getElem_mem hi)
  rw [e, List.append_assoc, List.getElem?_append_right (by omega), List.getElem?_append_left (by omega)]
  congr 1
  omega
end Go.Proofs.Ytnckgkgilnmocaa
set_option linter.unusedSimpArgs false
set_option linter.unusedVariables false
namespace Go.Proofs.Ytnckgkgilnmocaa
open Go.RowKit Go.WideShapes Go.ChangeShapes Go.ChangeAt
section
variable {H : Type} {enc : TypeId × Value → H} {P : Program}
theorem post_of_below {f : Func} {s : ChangeSpec} {apart fresh handsOn again : Bool} {W W' : World} {args : Array Value} {v : Value} {ds gs : List (DataW H)} {before pa pv : List MemPlace}
    (hW : DataW.Whole enc P f.params.toList s.vars apart W args.toList ds gs before)
    (hres : ∀ (b : Nat) (sp : Nat → Bool) (hd : Bool), DataW.TrodAll enc P W' b sp hd f.resultTypes.toList (v.resultList f.resultTypes.size) (s.fn H (ds ++ gs)).results [])
    (hargs : ∀ sp : Nat → Bool, (∀ p ∈ before, sp p.block = true) → DataW.TrodAll enc P W' 0 sp true f.params.toList args.toList (s.fn H (ds ++ gs)).args pa)
    (hvars : ∀ sp : Nat → Bool, (∀ p ∈ before, sp p.block = true) → DataW.TrodVars enc P W' sp s.vars (s.fn H (ds ++ gs)).vars pv)
    (hps : before = pa ++ pv) (hb : Below W.heap.size W W')
    (hok : ∀ (j : Nat) (t : TypeId) (r : Value), f.resultTypes[j]? = some t → (v.resultList f.resultTypes.size)[j]? = some r → Value.okWide P W' .any 0 t r) :
    s.post enc P f apart fresh handsOn again W args v W' := by
  have hlt : ∀ p ∈ before, p.block < W.heap.size := fun p hp => hW.lt p hp
  have hold : ∀ p ∈ before, (fun b => decide (b < W.heap.size)) p.block = true := fun p hp => by simpa using hlt p hp
  refine ⟨ds, gs, before, [], pa, pv, hW, hres _ _ _, hargs _ hold, hvars _ hold, World.keptBut_mono (fun p hp => ⟨hp, ?_⟩) (hb.frame (· ∈ before)), fun _ => ?_⟩
  · rw [hps, List.mem_append] at hp
    exact Or.inr hp
  · obtain ⟨_, _, _, _, _, hz, hn⟩ := hW
    refine ⟨hok, _, _, ([] ++ pa) ++ pv, ⟨[] ++ pa, pv, trodAll_append (hargs _ (fun _ _ => rfl)) (hres _ _ _), hvars _ (fun _ _ => rfl), rfl, ?_, ?_⟩, ?_⟩
    · intro b off hp
      have hin : MemPlace.cell b off ∈ before := by rw [hps]; simpa using hp
      rw [hb.frozen (hlt _ hin)]
      exact hz b off hin
    · intro ha
      have := hn ha
      rw [hps] at this
      simpa using this
    · intro p hp _
      rw [hps]
      simpa using hp
/-- All arguments read as they did where nothing that was there has turned. -/
theorem args_stay (hl : laidOutB P = true) {W W' : World} (hb : Below W.heap.size W W') (sp : Nat → Bool) :
    ∀ (ts : List TypeId) (vs : List Value) (ds : List (DataW H)) (ps : List MemPlace), (ts.all fun t => P.readableRec t && decide (t < P.types.size)) = true →
      DataW.TrodAll enc P W 0 (fun _ => true) true ts vs ds ps → (∀ x ∈ ps, x.block < W.heap.size) → (∀ x ∈ ps, sp x.block = true) → DataW.TrodAll enc P W' 0 sp true ts vs ds ps := by
  intro ts
  induction ts with
  | nil =>
    intro vs ds ps _ h _ _
    obtain ⟨rfl, rfl, rfl⟩ := trodAll_nil h
    exact trodAll_mk0
  | cons t ts ih =>
    intro vs ds ps hr h hlt hs
    obtain ⟨v, vs', d, ds', p, q, rfl, rfl, rfl, h0, h1⟩ := trodAll_cons h
    simp only [List.all_cons, Bool.and_eq_true, decide_eq_true_eq] at hr
    exact trodAll_cons_mk (WideElems.Trod_stays hl hr.1.1 hr.1.2 h0 (fun x hx => hb.same (hlt x (List.mem_append.2 (.inl hx)))) (fun x hx => hs x (List.mem_append.2 (.inl hx))))
      (ih vs' ds' q (by simpa using hr.2) h1 (fun x hx => hlt x (List.mem_append.2 (.inr hx))) (fun x hx => hs x (List.mem_append.2 (.inr hx))))
variable {w : World} {base : Nat} {spare : Nat → Bool} {held : Bool}
theorem open_i64 {r : Reach} {b0 : Nat} {t : TypeId} {v : Value} {d : DataW H} {p : List MemPlace} (ht : P.underlying t = some (.int .i64)) (hv : Value.okWide P w r b0 t v) (h : DataW.Trod enc P w base spare held t v d p) :
    ∃ x : Int, v = .int .i64 x ∧ -9223372036854775808 ≤ x ∧ x ≤ 9223372036854775807 := by
  obtain ⟨x, rfl, _, _, hw⟩ := open_int ht hv h
  simp [Lit.wf, IntKind.min, IntKind.max, IntKind.signed, IntKind.bits] at hw
  exact ⟨x, rfl, by omega, by omega⟩
/-- A slice of strings. -/
theorem open_strl {r : Reach} {b0 : Nat} {t e : TypeId} {v : Value} {d : DataW H} {p : List MemPlace} (ht : P.underlying t = some (.slice e)) (he : P.underlying e = some .string) (hc : P.cellsOf e = 1)
    (hv : Value.okWide P w r b0 t v) (h : DataW.Trod enc P w base spare held t v d p) :
    ∃ (A : Option Addr) (n c : Nat) (ss : List (List UInt8)), v = .slice A n c ∧ Rd w 1 A n (svs ss) ∧ n ≤ 9223372036854775807 ∧ ∀ l ∈ ss, l.length ≤ 9223372036854775807 := by
  obtain ⟨a0, len, cap, rfl⟩ := okWide_slice ht hv
  obtain ⟨fuel, hf⟩ := h
  rcases Go.Deep.open_strs ht he hc hf with ⟨hcs, hx⟩ | ⟨a, len', cap', m, Sx, hcs, _, hl, hm, hmm, hx, hcell⟩
  · simp only [Value.cells, List.cons.injEq, Value.slice.injEq, and_true] at hcs
    obtain ⟨rfl, rfl, rfl⟩ := hcs
    exact ⟨none, 0, 0, [], rfl, Rd.none_, by omega, by simp⟩
  · simp only [Value.cells, List.cons.injEq, Value.slice.injEq, and_true] at hcs
    obtain ⟨rfl, rfl, rfl⟩ := hcs
    have hlm : len ≤ m := by rw [hmm]; split <;> omega
    unfold maxLen at hm hcell
    refine ⟨some a, len, cap, (List.range len).map fun i => (Sx i).data.toList, rfl, ⟨by simp [svs], fun hn => ⟨a, rfl, ?_, ?_⟩⟩, by omega, ?_⟩
    · have h1 := (hcell 0 (by omega)).1
      have := World.block_lt_of_cell? w _ h1
      rwa [block_of_add] at this
    · intro j u hu
      simp only [svs, List.map_map, List.getElem?_map] at hu
      obtain ⟨i, hi, rfl⟩ := Option.map_eq_some_iff.1 hu
      obtain ⟨hj, rfl⟩ : j < len ∧ j = i := by
        have := List.getElem?_eq_some_iff.1 hi
        simpa using this
      rw [(hcell j (by omega)).1]
      rfl
    · intro l hl'
      simp only [List.mem_map, List.mem_range] at hl'
      obtain ⟨i, hi, rfl⟩ := hl'
      have := (hcell i (by omega)).2
      simpa using this
end
end Go.Proofs.Ytnckgkgilnmocaa
set_option linter.unusedSimpArgs false
set_option linter.unusedVariables false
namespace Go.Proofs.Ytnckgkgilnmocaa
open Go.RowKit
attribute [local go_sem] extract_mid extract_drop bget bsize wrap64_u8 i64_u8 u64_u8 bappend
/-- Parts as one. -/
def joinE (l : List SProp) : SProp where
  fp k := ∃ x ∈ l, x.fp k
  ro := false
  holds w := Star l w ∧ ∀ x ∈ l, x.ro = false
  lt w h k hk := by
    obtain ⟨x, hx, hk⟩ := hk
    exact x.lt w (h.1.all x hx) k hk
  stable w w' ho h := ⟨⟨fun x hx => x.stable w w' ⟨ho.os, ho.tape, ho.output, ho.size, fun k hk => ho.block k ⟨x, hx, hk⟩⟩ (h.1.all x hx), h.1.pair⟩, h.2⟩
theorem compat_not {x u : SProp} (h : compat x u) (hx : x.ro = false) : ∀ k, x.fp k → ¬ u.fp k := by
  rcases h with ⟨h, _⟩ | h
  · rw [hx] at h; cases h
  · exact h
theorem Star.joinL {l L : List SProp} {w : World} (h : Star (l ++ L) w) (hr : ∀ x ∈ l, x.ro = false) : Star (joinE l :: L) w := by
  obtain ⟨ha, hp⟩ := h
  obtain ⟨p1, p2, p3⟩ := List.pairwise_append.1 hp
  refine ⟨fun u hu => ?_, List.pairwise_cons.2 ⟨fun u hu => .inr fun k hk => ?_, p2⟩⟩
  · rcases List.mem_cons.1 hu with rfl | hu
    · exact ⟨⟨fun x hx => ha x (List.mem_append.2 (.inl hx)), p1⟩, hr⟩
    · exact ha u (List.mem_append.2 (.inr hu))
  · obtain ⟨x, hx, hk⟩ := hk
    exact compat_not (p3 x hx u hu) (hr x hx) k hk
theorem Star.openL {l L : List SProp} {w : World} (h : Star (joinE l :: L) w) : Star (l ++ L) w := by
  obtain ⟨ha, hp⟩ := h
  obtain ⟨p1, p2⟩ := List.pairwise_cons.1 hp
  obtain ⟨⟨h1, h2⟩, _⟩ := ha _ List.mem_cons_self
  refine ⟨fun u hu => ?_, List.pairwise_append.2 ⟨h2, p2, fun x hx u hu => .inr fun k hk => compat_not (p1 u hu) rfl k ⟨x, hx, hk⟩⟩⟩
  rcases List.mem_append.1 hu with hu | hu
  · exact h1 u hu
  · exact ha u (List.mem_cons_of_mem _ hu)
/-- Where a disk lies. -/
structure DA where
  d : Nat
  f : Nat
  m : Nat
  g : Nat
abbrev dE (a : DA) (n : Nat) : SProp := cellsE a.d 95 #[.pointer (some ⟨a.f, 0, none⟩), .slice (some ⟨a.g, 0, none⟩) n n, .map (some a.m)]
abbrev fE (a : DA) (b : Bool) (l : Int) : SProp := cellsE a.f 106 #[.bool b, .int .i64 l]
abbrev sE (a : DA) (S : List (List UInt8)) : SProp := cellsE a.g 97 (bvs S.flatten).toArray
abbrev mE (a : DA) (m : List (Value × Value)) : SProp := mapE Try.prog 3 a.m m
def diskE (a : DA) (D : Dsk) : SProp := joinE [dE a D.sure.length, fE a D.armed D.left, sE a D.sure, mE a (lmv D)]
theorem Star.dopen {a : DA} {D : Dsk} {L : List SProp} {w : World} (h : Star (diskE a D :: L) w) : Star (dE a D.sure.length :: fE a D.armed D.left :: sE a D.sure :: mE a (lmv D) :: L) w := h.openL
theorem Star.djoin {a : DA} {D : Dsk} {L : List SProp} {w : World} (h : Star (dE a D.sure.length :: fE a D.armed D.left :: sE a D.sure :: mE a (lmv D) :: L) w) : Star (diskE a D :: L) w :=
  Star.joinL (l := [dE a D.sure.length, fE a D.armed D.left, sE a D.sure, mE a (lmv D)]) h (by
    intro x hx
    simp only [List.mem_cons, List.not_mem_nil, or_false] at hx
    rcases hx with rfl | rfl | rfl | rfl <;> rfl)
abbrev dptr (a : DA) : Value := .pointer (some ⟨a.d, 0, none⟩)
abbrev fptr (a : DA) : Value := .pointer (some ⟨a.f, 0, none⟩)
section
variable {F : List SProp} {a : DA}
set_option maxRecDepth 100000 in
theorem size_d {D : Dsk} (w : World) (hM : Star (diskE a D :: F) w) : Calls Try.prog 69 #[dptr a] w fun r w' => r = .returned (.int .i64 (D.sure.length : Int)) ∧ Star (diskE a D :: F) w' := by
  replace hM := hM.dopen
  go_enter Try.func69, Try.ntmps69
  go_wp2_with (first | (first | ((with_reducible refine at_load' ?_); (refine BigFrame.wpList_want (by rfl) fun K hK => ws_load1 hM rfl rfl (by (repeat (first | assumption | (with_reducible exact mZ) | apply mS)); first | done | fail) (by first | rfl | assumption) (by decide +kernel) (hK _ _ ?_); clear hK K)) | fail))
  go_ret
  exact ⟨rfl, hM.djoin⟩
/-- Are they there? -/
def inD (N : Nat) (at_ n : Int) : Bool := decide (0 ≤ at_) && (decide (n ≤ (N : Int)) && decide (at_ ≤ (N : Int) - n))
set_option maxRecDepth 100000 in
set_option maxHeartbeats 2000000 in
theorem in_d {D : Dsk} (h : D.ok) (at_ n : Int) (hn : 0 ≤ n) (w : World) (hM : Star (diskE a D :: F) w) :
    Calls Try.prog 66 #[dptr a, .int .i64 at_, .int .i64 n] w fun r w' => r = .returned (.bool (inD D.sure.length at_ n)) ∧ Star (diskE a D :: F) w' := by
  replace hM := hM.dopen
  have hs := h.size
  obtain ⟨N, hN⟩ : ∃ N, N = D.sure.length := ⟨_, rfl⟩
  have HN := Lib.hid hN
  rw [← hN] at hs
  rw [← hN] at hM ⊢
  clear hN h
  unfold inD
  by_cases h1 : 0 ≤ at_
  · by_cases h2 : n ≤ (N : Int)
    · by_cases h3 : at_ ≤ (N : Int) - n
      all_goals
        go_enter Try.func66, Try.ntmps66
        go_wp2_with (first | (first | ((with_reducible refine at_load' ?_); (refine BigFrame.wpList_want (by rfl) fun K hK => ws_load1 hM rfl rfl (by (repeat (first | assumption | (with_reducible exact mZ) | apply mS)); first | done | fail) (by first | rfl | assumption) (by decide +kernel) (hK _ _ ?_); clear hK K)) | fail))
        go_ret
        exact ⟨ret_bool (by simp [h1, h2, h3]), by have := hM; rw [HN.out] at this; exact this.djoin⟩
    · go_enter Try.func66, Try.ntmps66
      go_wp2_with (first | (first | ((with_reducible refine at_load' ?_); (refine BigFrame.wpList_want (by rfl) fun K hK => ws_load1 hM rfl rfl (by (repeat (first | assumption | (with_reducible exact mZ) | apply mS)); first | done | fail) (by first | rfl | assumption) (by decide +kernel) (hK _ _ ?_); clear hK K)) | fail))
      go_ret
      exact ⟨ret_bool (by simp [h1]; omega), by have := hM; rw [HN.out] at this; exact this.djoin⟩
  · go_enter Try.func66, Try.ntmps66
    go_wp2_with (first | (first | ((with_reducible refine at_load' ?_); (refine BigFrame.wpList_want (by rfl) fun K hK => ws_load1 hM rfl rfl (by (repeat (first | assumption | (with_reducible exact mZ) | apply mS)); first | done | fail) (by first | rfl | assumption) (by decide +kernel) (hK _ _ ?_); clear hK K)) | fail))
    go_ret
    exact ⟨ret_bool (by simp; omega), by have := hM; rw [HN.out] at this; exact this.djoin⟩
set_option maxRecDepth 100000 in
set_option maxHeartbeats 2000000 in
theorem call_go (b : Bool) (l : Int) (h : b = true → l ≠ 0) (w : World) (hM : Star (fE a b l :: F) w) :
    Calls Try.prog 40 #[fptr a] w fun r w' => r = .returned (.int .i64 0) ∧ Star (fE a b (IntKind.i64.wrap (l - 1)) :: F) w' := by
  obtain ⟨l2, hl2⟩ : ∃ l2, IntKind.i64.wrap (l - 1) = l2 := ⟨_, rfl⟩
  rw [hl2]
  cases b
  · clear h
    go_enter Try.func40, Try.ntmps40
    go_wp2_with (first | (first | ((with_reducible refine at_load' ?_); (refine BigFrame.wpList_want (by rfl) fun K hK => ws_load1 hM rfl rfl (by (repeat (first | assumption | (with_reducible exact mZ) | apply mS)); first | done | fail) (by first | rfl | assumption) (by decide +kernel) (hK _ _ ?_); clear hK K)) | fail) | (first | ((with_reducible refine at_store' ?_); (have hM0 := hM; clear hM; refine BigFrame.wpList_want (by rfl) fun K hK => ws_store1 hM0 rfl rfl (by go_simp; rfl) (by first | rfl | assumption) (by (repeat (first | (with_reducible exact Take.head) | apply Take.tail)); first | done | fail) (by simp) (by kernel_rfl) (by simp only [List.setIfInBounds_toArray, List.set_cons_zero, List.set_cons_succ]; rfl) (fun w hM => hK _ _ ?_); clear hM0 hK K)) | fail))
    go_ret
    exact ⟨rfl, hM⟩
  · have h0 := h rfl
    clear h
    have c1 : (l == 0) = false := by simpa using h0
    go_enter Try.func40, Try.ntmps40
    go_wp2_with (first | (first | ((with_reducible refine at_load' ?_); (refine BigFrame.wpList_want (by rfl) fun K hK => ws_load1 hM rfl rfl (by (repeat (first | assumption | (with_reducible exact mZ) | apply mS)); first | done | fail) (by first | rfl | assumption) (by decide +kernel) (hK _ _ ?_); clear hK K)) | fail) | (first | ((with_reducible refine at_store' ?_); (have hM0 := hM; clear hM; refine BigFrame.wpList_want (by rfl) fun K hK => ws_store1 hM0 rfl rfl (by go_simp; rfl) (by first | rfl | assumption) (by (repeat (first | (with_reducible exact Take.head) | apply Take.tail)); first | done | fail) (by simp) (by kernel_rfl) (by simp only [List.setIfInBounds_toArray, List.set_cons_zero, List.set_cons_succ]; rfl) (fun w hM => hK _ _ ?_); clear hM0 hK K)) | fail))
    go_ret
    exact ⟨rfl, hM⟩
theorem info_blk : (Try.prog.info? 97).map (fun i => i.zero) = some (some (.agg (bvs (List.replicate 64 0)).toArray)) := by kernel_rfl
theorem info_blkn : (Try.prog.info? 97).map (·.size) = some 64 := by kernel_rfl
theorem int_key (i : Nat) (h : i ≤ 9223372036854775807) : keyOf Try.prog 3 (iv64 i) = some (.int .i64 (i : Int)) := Maps.keyOf_int_mk Try.underlying3 (by simp [Lit.wf, IntKind.min, IntKind.max, IntKind.signed, IntKind.bits]; omega)
theorem keyed_i : Maps.Keyed Try.prog 3 := Maps.int_keyed Try.underlying3
set_option maxRecDepth 100000 in
set_option maxHeartbeats 2000000 in
theorem now_d {D : Dsk} (h : D.ok) (i : Nat) (hi : i < D.sure.length) (w : World) (hM : Star (diskE a D :: F) w) :
    Calls Try.prog 70 #[dptr a, .int .i64 i] w fun r w' => r = .returned (avb (D.nw i)) ∧ Star (diskE a D :: F) w' := by
  replace hM := hM.dopen
  have hsz := h.size
  have HNL := Lib.hid (nw_len h hi)
  have HSL := Lib.hid (flat_64 h.s64)
  have HK := Lib.hid (int_key i (by omega))
  have tok1 : True := trivial
  by_cases hl : D.l i = true
  · have HH := Lib.hid (lmv_hit hi hl)
    go_enter Try.func70, Try.ntmps70
    go_wp2_with (first | (have _t := tok1; (first | ((with_reducible refine at_alloc' ?_); (have hM0 := hM; clear hM; refine BigFrame.wpList_want (by rfl) fun K hK => ws_alloc hM0 (t := 97) rfl (bvs (List.replicate 64 0)).toArray info_blk (fun g4 w hM => hK _ _ ?_); clear hM0 hK K)) | fail); clear tok1) | (first | ((with_reducible refine at_alloc' ?_); (have hM0 := hM; clear hM; refine BigFrame.wpList_want (by rfl) fun K hK => ws_alloc hM0 (t := 97) rfl (bvs (List.replicate 64 0)).toArray info_blk (fun g5 w hM => hK _ _ ?_); clear hM0 hK K)) | fail) | (first | ((with_reducible refine at_load' ?_); (refine BigFrame.wpList_want (by rfl) fun K hK => ws_load1 hM rfl rfl (by (repeat (first | assumption | (with_reducible exact mZ) | apply mS)); first | done | fail) (by first | rfl | assumption) (by decide +kernel) (hK _ _ ?_); clear hK K)) | fail) | (first | ((with_reducible refine at_lookup' ?_); (refine BigFrame.wpList_want (by rfl) fun K hK => ws_of_ex (ex_hit2 (key := iv64 i) hM rfl Try.underlying93 rfl rfl (by (repeat (first | assumption | (with_reducible exact mZ) | apply mS)); first | done | fail) keyed_i HK.out HH.out) (hK _ _ ?_); clear hK K)) | fail) | (first | ((with_reducible refine at_store' ?_); (have hM0 := hM; clear hM; refine BigFrame.wpList_want (by rfl) fun K hK => ws_store hM0 rfl rfl rfl (by (repeat (first | (with_reducible exact Take.head) | apply Take.tail)); first | done | fail) (n := 64) (by first | rfl | (simp [bvs_len, HNL.out]; done)) (by first | rfl | (simp [bvs_len, HNL.out]; done)) (by kernel_rfl) (by simpa using bvs_oneCell _) (fun w hM => hK _ _ ?_); clear hM0 hK K)) | fail) | (first | ((with_reducible refine at_load' ?_); (refine BigFrame.wpList_want (by rfl) fun K hK => ws_load hM rfl rfl (by (repeat (first | assumption | (with_reducible exact mZ) | apply mS)); first | done | fail) (n := 64) (by simp [bvs_len, HNL.out]) (by decide +kernel) (hK _ _ ?_); clear hK K)) | fail))
    exact bodyPost_ret (results_cell_row rfl _ _ g4 97 (bvs (D.nw i)).toArray (0, 0) _ rfl (hM.blk (by (repeat (first | assumption | (with_reducible exact mZ) | apply mS)); first | done | fail)) Try.underlying97 rfl (by rw [info_blkn]; simp [bvs_len, HNL.out])) rfl ⟨rfl, (hM.sel (by repeat (first | (with_reducible exact Sel.refl) | (with_reducible exact Take.head) | (with_reducible apply Take.tail) | (with_reducible apply Sel.cons) | (with_reducible apply Sel.drop))) : Star (dE a D.sure.length :: fE a D.armed D.left :: sE a D.sure :: mE a (lmv D) :: F) _).djoin⟩
  · have hlf : D.l i = false := by simpa using hl
    have HH := Lib.hid (lmv_miss hi hlf)
    have HZ : Hid (∀ w, (zeroValue 97).run Try.prog w = .ok (.agg (bvs (List.replicate 64 0)).toArray) w) := fun w => by kernel_rfl
    have HC : Hid (∀ (j : Nat) (v : Value), (bvs (D.nw i))[j]? = some v → (bvs D.sure.flatten).toArray[i * 64 + j]? = some v) := fun j v hv => by
      have hj : j < 64 := by have := (List.getElem?_eq_some_iff.1 hv).1; rw [bvs_len, HNL.out] at this; exact this
      rw [h.same i hi hlf] at hv
      rw [List.getElem?_toArray, bvs, List.getElem?_map, show i * 64 + j = 64 * i + j by omega, flat_at h.s64 hi hj]
      rw [Dsk.su, List.getD_eq_getElem?_getD, List.getElem?_eq_getElem hi, bvs, List.getElem?_map] at hv
      exact hv
    have hiI : (i : Int) < (D.sure.length : Int) := by omega
    go_enter Try.func70, Try.ntmps70
    go_wp2_with (first | (have _t := tok1; (first | ((with_reducible refine at_alloc' ?_); (have hM0 := hM; clear hM; refine BigFrame.wpList_want (by rfl) fun K hK => ws_alloc hM0 (t := 97) rfl (bvs (List.replicate 64 0)).toArray info_blk (fun g4 w hM => hK _ _ ?_); clear hM0 hK K)) | fail); clear tok1) | (first | ((with_reducible refine at_alloc' ?_); (have hM0 := hM; clear hM; refine BigFrame.wpList_want (by rfl) fun K hK => ws_alloc hM0 (t := 97) rfl (bvs (List.replicate 64 0)).toArray info_blk (fun g5 w hM => hK _ _ ?_); clear hM0 hK K)) | fail) | (first | ((with_reducible refine at_load' ?_); (refine BigFrame.wpList_want (by rfl) fun K hK => ws_load1 hM rfl rfl (by (repeat (first | assumption | (with_reducible exact mZ) | apply mS)); first | done | fail) (by first | rfl | assumption) (by decide +kernel) (hK _ _ ?_); clear hK K)) | fail) | (first | ((with_reducible refine at_lookup' ?_); (refine BigFrame.wpList_want (by rfl) fun K hK => ws_of_ex (ex_miss2 (key := iv64 i) hM rfl Try.underlying93 HZ.out rfl rfl (by (repeat (first | assumption | (with_reducible exact mZ) | apply mS)); first | done | fail) keyed_i HK.out HH.out) (hK _ _ ?_); clear hK K)) | fail) | (first | ((with_reducible refine at_store' ?_); (have hM0 := hM; clear hM; refine BigFrame.wpList_want (by rfl) fun K hK => ws_store hM0 rfl rfl rfl (by (repeat (first | (with_reducible exact Take.head) | apply Take.tail)); first | done | fail) (n := 64) (by first | rfl | (simp [bvs_len, HNL.out]; done)) (by first | rfl | (simp [bvs_len, HNL.out]; done)) (by kernel_rfl) (by simpa using bvs_oneCell _) (fun w hM => hK _ _ ?_); clear hM0 hK K)) | fail) | (first | ((with_reducible refine at_load' ?_); (refine BigFrame.wpList_want (by rfl) fun K hK => ws_load hM rfl rfl (by (repeat (first | assumption | (with_reducible exact mZ) | apply mS)); first | done | fail) (n := 64) (by simp [bvs_len, HNL.out]) (by decide +kernel) (hK _ _ ?_); clear hK K)) | fail) | ((with_reducible refine at_load' ?_); refine BigFrame.wpList_want (by rfl) fun K hK => ws_load_mid hM rfl (by go_simp; rfl) (by (repeat (first | assumption | (with_reducible exact mZ) | apply mS)); first | done | fail) (bvs (D.nw i)) HC.out (n := 64) (by simp [bvs_len, HNL.out]) (by decide +kernel) (hK _ _ ?_); clear hK K))
    exact bodyPost_ret (results_cell_row rfl _ _ g4 97 (bvs (D.nw i)).toArray (0, 0) _ rfl (hM.blk (by (repeat (first | assumption | (with_reducible exact mZ) | apply mS)); first | done | fail)) Try.underlying97 rfl (by rw [info_blkn]; simp [bvs_len, HNL.out])) rfl ⟨rfl, (hM.sel (by repeat (first | (with_reducible exact Sel.refl) | (with_reducible exact Take.head) | (with_reducible apply Take.tail) | (with_reducible apply Sel.cons) | (with_reducible apply Sel.drop))) : Star (dE a D.sure.length :: fE a D.armed D.left :: sE a D.sure :: mE a (lmv D) :: F) _).djoin⟩
end
end Go.Proofs.Ytnckgkgilnmocaa
set_option linter.unusedSimpArgs false
set_option linter.unusedVariables false
namespace Go.Proofs.Ytnckgkgilnmocaa
open Go.RowKit
attribute [local go_sem] extract_mid extract_drop bget bsize wrap64_u8 i64_u8 u64_u8 bappend
theorem inD_yes {N at_ n : Nat} (h : at_ + n ≤ N) : inD N (at_ : Int) (n : Int) = true := by
  unfold inD
  simp
  omega
theorem Rd.of_bblk {w : World} {g n : Nat} {t : TypeId} {l : List UInt8} (h : Blk w g t (bvs l).toArray) (hl : l.length = n) : Rd w 1 (some ⟨g, 0, none⟩) n (bvs l) := by
  have := Rd.of_blk (size := 1) (n := n) h (by simp [bvs_len, hl])
  simpa using this
/-- What a Read gives. -/
def rdD (D : Dsk) (at_ n : Nat) : List UInt8 := (List.range n).flatMap fun j => D.nw (at_ + j)
theorem rdD_succ (D : Dsk) (at_ n : Nat) : rdD D at_ (n + 1) = rdD D at_ n ++ D.nw (at_ + n) := by
  unfold rdD
  rw [List.range_succ, List.flatMap_append]
  simp
section
variable {F : List SProp} {a : DA} {D : Dsk}
theorem in_yes (h : D.ok) (at_ n : Nat) (hi : at_ + n ≤ D.sure.length) (L : List SProp) (w : World) (hM : Star (diskE a D :: L) w) :
    Calls Try.prog 66 #[dptr a, .int .i64 at_, .int .i64 n] w fun r w' => r = .returned (.bool true) ∧ Star (dE a D.sure.length :: fE a D.armed D.left :: sE a D.sure :: mE a (lmv D) :: L) w' := by
  have := in_d h at_ n (by omega) w hM
  rw [inD_yes hi] at this
  exact this.mono fun _ _ ⟨e, h⟩ => ⟨e, h.dopen⟩
set_option maxRecDepth 100000 in
set_option maxHeartbeats 2000000 in
theorem read_ok (h : D.ok) (at_ n : Nat) (hi : at_ + n ≤ D.sure.length) (hf : D.armed = true → D.left ≠ 0) (w : World) (hM : Star (diskE a D :: F) w) :
    Calls Try.prog 42 #[dptr a, .int .i64 at_, .int .i64 n] w fun r w' => r = .returned (.tuple #[.string ⟨(rdD D at_ n).toArray⟩, .int .i64 0]) ∧ Star (diskE a D.dec :: F) w' := by
  have HI := Lib.hid (in_yes (a := a) h at_ n hi)
  have hok := dec_ok h hf
  have hsz := h.size
  have HF := Lib.hid hf
  clear hf
  go_enter Try.func42, Try.ntmps42
  go_wp2_with (first | (go_at_call 66; have hM0 := hM; clear hM; (first | (with_reducible refine (HI.out _ _ hM0).mono ?_) | fail); clear hM0; rintro _ w ⟨rfl, hM⟩) | (first | ((with_reducible refine at_load' ?_); (refine BigFrame.wpList_want (by rfl) fun K hK => ws_load1 hM rfl rfl (by (repeat (first | assumption | (with_reducible exact mZ) | apply mS)); first | done | fail) (by first | rfl | assumption) (by decide +kernel) (hK _ _ ?_); clear hK K)) | fail) | (go_at_call 40; have hM0 := hM; clear hM; (first | (with_reducible refine (call_go D.armed D.left HF.out _ (hM0.take (x := fE a D.armed D.left) (by (repeat (first | (with_reducible exact Take.head) | apply Take.tail)); first | done | fail))).mono ?_) | fail); clear hM0; rintro _ w ⟨rfl, hM⟩))
  have hM2 : Star (diskE a D.dec :: F) w := (hM.sel (by repeat (first | (with_reducible exact Sel.refl) | (with_reducible exact Take.head) | (with_reducible apply Take.tail) | (with_reducible apply Sel.cons) | (with_reducible apply Sel.drop))) : Star (dE a D.sure.length :: fE a D.armed (IntKind.i64.wrap (D.left - 1)) :: sE a D.sure :: mE a (lmv D) :: F) w).djoin
  clear hM
  have hM := hM2.niltail 5 1
  clear hM2
  go_loopw [9, 30] (fun out i wr => ∃ (k m : Nat) (A : Option Addr) (c : Nat), k ≤ n ∧ i = .int .i64 k ∧ Hid (m = 64 * k) ∧ out = .slice A m c ∧ Star (tailE 5 1 A m c (bvs (rdD D at_ k)) :: diskE a D.dec :: F) wr) (fun _ i _ => n - (intOf i).toNat)
  case atStart => exact ⟨0, 0, none, 0, by omega, rfl, rfl, rfl, hM⟩
  case round =>
    clear hM
    obtain ⟨k, m, A, c, hk, rfl, hm, rfl, hM⟩ := hrel
    have hmb : m ≤ 4194304 := by have := hm.out; omega
    by_cases hlt : k < n
    · have HN : Hid (∀ (L : List SProp) (w : World), Star (diskE a D.dec :: L) w → Calls Try.prog 70 #[dptr a, .int .i64 ((at_ : Int) + (k : Int))] w fun r w' => r = .returned (avb (D.nw (at_ + k))) ∧ Star (diskE a D.dec :: L) w') := fun L w hM => by
        have := now_d hok (at_ + k) (by show _ < D.sure.length; omega) w hM
        rwa [Int.natCast_add] at this
      have HNL := Lib.hid (nw_len h (show at_ + k < D.sure.length by omega))
      have HS := Lib.hid (rdD_succ D at_ k)
      go_wp2_with (first | (go_at_call 70; have hM0 := hM; clear hM; (first | (with_reducible refine (HN.out _ _ (hM0.take (x := diskE a D.dec) (by (repeat (first | (with_reducible exact Take.head) | apply Take.tail)); first | done | fail))).mono ?_) | fail); clear hM0; rintro _ w ⟨rfl, hM⟩) | (first | ((with_reducible refine at_alloc' ?_); (have hM0 := hM; clear hM; refine BigFrame.wpList_want (by rfl) fun K hK => ws_alloc hM0 (t := 97) rfl (bvs (List.replicate 64 0)).toArray info_blk (fun g11 w hM => hK _ _ ?_); clear hM0 hK K)) | fail) | (first | ((with_reducible refine at_store' ?_); (have hM0 := hM; clear hM; refine BigFrame.wpList_want (by rfl) fun K hK => ws_store hM0 rfl rfl rfl (by (repeat (first | (with_reducible exact Take.head) | apply Take.tail)); first | done | fail) (n := 64) (by simp [bvs_len, HNL.out]) (by rfl) (by kernel_rfl) (by simpa using bvs_oneCell _) (fun w hM => hK _ _ ?_); clear hM0 hK K)) | fail) | (first | ((with_reducible refine at_call' ?_); (have hM0 := hM; clear hM; refine BigFrame.wpList_want (by rfl) fun K hK => ws_app hM0 rfl rfl 5 ((.int .u8 0)) 1 1 Try.underlying84 (by kernel_rfl) (by rfl) (by (repeat (first | (with_reducible exact Take.head) | apply Take.tail)); first | done | fail) (src_row Try.underlying84 _ (Rd.of_bblk (hM0.blk (g := g11) (by (repeat (first | assumption | (with_reducible exact mZ) | apply mS)); first | done | fail)) HNL.out) (bvs_oneCell _)) ((by omega)) (fun A1 c1 w hM => hK _ _ ?_); clear hM0 hK K; (try simp only [Nat.zero_add, Nat.add_zero, List.nil_append, List.append_nil, ← bvs_app] at hM))) | fail))
      go_roundw
      case rel => exact ⟨k + 1, m + 64, A1, c1, by omega, by go_num, (by show _ = _; have := hm.out; omega), rfl, by rw [HS.out]; exact hM.sel (by repeat (first | (with_reducible exact Sel.refl) | (with_reducible exact Take.head) | (with_reducible apply Take.tail) | (with_reducible apply Sel.cons) | (with_reducible apply Sel.drop)))⟩
      case measure => simp [intOf]; omega
    · obtain rfl : k = n := by omega
      replace hM := hM.tail_freeze
      go_wp2_with (first | (first | ((with_reducible refine at_convert' ?_); (refine BigFrame.wpList_want (by rfl) fun K hK => ws_string (l := rdD D at_ k) rfl 5 Try.underlying84 Try.underlying9 Try.underlying5 rfl (by first | (apply Star.row hM; (repeat (first | assumption | (with_reducible exact mZ) | apply mS)); done) | (apply Star.own hM; (repeat (first | assumption | (with_reducible exact mZ) | apply mS)); done) | (apply Star.arr hM; (focus ((repeat (first | assumption | (with_reducible exact mZ) | apply mS)); done)); assumption)) (hK _ _ ?_); clear hK K)) | fail))
      go_ret2
      exact ⟨rfl, hM.sel (by repeat (first | (with_reducible exact Sel.refl) | (with_reducible exact Take.head) | (with_reducible apply Take.tail) | (with_reducible apply Sel.cons) | (with_reducible apply Sel.drop)))⟩
end
end Go.Proofs.Ytnckgkgilnmocaa
set_option linter.unusedSimpArgs false
set_option linter.unusedVariables false
namespace Go.Proofs.Ytnckgkgilnmocaa
open Go.RowKit
attribute [local go_sem] extract_mid extract_drop bget bsize wrap64_u8 i64_u8 u64_u8 bappend
def zs64 : List UInt8 := List.replicate 64 0
/-- A text, filled up with zeros. -/
def pad64 (s : List UInt8) : List UInt8 := over zs64 s
theorem zs64_len : zs64.length = 64 := by simp [zs64]
theorem pad64_len (s : List UInt8) : (pad64 s).length = 64 := by unfold pad64; rw [over_len, zs64_len]
/-- Texts go into sectors, one each. -/
def wrD (D : Dsk) (at_ : Nat) (ts : List (List UInt8)) (k : Nat) : Dsk := (List.range k).foldl (fun D j => D.put (at_ + j) (pad64 (ts.getD j []))) D
theorem wrD_succ (D : Dsk) (at_ : Nat) (ts : List (List UInt8)) (k : Nat) : wrD D at_ ts (k + 1) = (wrD D at_ ts k).put (at_ + k) (pad64 (ts.getD k [])) := by
  unfold wrD
  rw [List.range_succ, List.foldl_append]
  rfl
theorem wrD_sure (D : Dsk) (at_ : Nat) (ts : List (List UInt8)) (k : Nat) : (wrD D at_ ts k).sure = D.sure ∧ (wrD D at_ ts k).armed = D.armed ∧ (wrD D at_ ts k).left = D.left := by
  induction k with
  | zero => exact ⟨rfl, rfl, rfl⟩
  | succ k ih => rw [wrD_succ]; exact ih
theorem wrD_ok {D : Dsk} (h : D.ok) (at_ : Nat) (ts : List (List UInt8)) (k : Nat) (hk : at_ + k ≤ D.sure.length) : (wrD D at_ ts k).ok := by
  induction k with
  | zero => exact h
  | succ k ih =>
    rw [wrD_succ]
    exact put_ok (ih (by omega)) (by rw [(wrD_sure D at_ ts k).1]; omega) (pad64_len _)
def anyBig (ts : List (List UInt8)) : Bool := ts.any fun s => decide (64 < s.length)
section
variable {F : List SProp} {a : DA} {D : Dsk}
set_option maxRecDepth 100000 in
theorem wlam (s : List UInt8) (w : World) (hM : Star F w) : Calls Try.prog 68 #[.string ⟨s.toArray⟩] w fun r w' => r = .returned (.bool (decide (64 < s.length))) ∧ Star F w' := by
  go_enter Try.func68, Try.ntmps68
  go_wp2_with fail
  go_ret
  exact ⟨ret_bool (by simp only [decide_eq_decide]; omega), hM⟩
/-- The place of the first text that is too long, or -1. -/
def IdxP (ts : List (List UInt8)) (q : Int) : Prop := (anyBig ts = true → 0 ≤ q) ∧ (anyBig ts = false → q = -1)
theorem firstBig_some {ts : List (List UInt8)} {k : Nat} {s : List UInt8} (h : ∀ j s, j < k → ts[j]? = some s → s.length ≤ 64) (hk : ts[k]? = some s) (hs : 64 < s.length) : anyBig ts = true := by
  unfold anyBig
  exact List.any_eq_true.2 ⟨s, List.mem_of_getElem? hk, by simpa using hs⟩
set_option maxRecDepth 100000 in
set_option maxHeartbeats 2000000 in
theorem idxf {ts : List (List UInt8)} {A : Option Addr} {n c : Nat} (hn : n ≤ 9223372036854775807) (w : World) (hM : Star F w) (hF : rowE 1 A n (svs ts) ∈ F) :
    Calls Try.prog 91 #[.slice A n c, .func (.func 68) #[] #[]] w fun r w' => ∃ q : Int, r = .returned (.int .i64 q) ∧ IdxP ts q ∧ Star F w' := by
  have HL := Lib.hid (svs_row (hM.row hF))
  go_enter Try.func91, Try.ntmps91
  go_wp2_with fail
  go_loopw [8] (fun i wr => ∃ k : Nat, k ≤ n ∧ i = .int .i64 k ∧ Hid (∀ j s, j < k → ts[j]? = some s → s.length ≤ 64) ∧ Star F wr) (fun i _ => n - (intOf i).toNat)
  case atStart => exact ⟨0, by omega, rfl, fun j s hj => (by omega), hM⟩
  case round =>
    clear hM
    obtain ⟨k, hk, rfl, hb, hM⟩ := hrel
    by_cases hlt : k < n
    · obtain ⟨ad, s, rfl, hv, hg, _⟩ := hM.elemS (A := A) (n := n) (l := ts) (by (repeat (first | assumption | (with_reducible exact mZ) | apply mS)); first | done | fail) hlt
      have HG := Lib.hid hg
      clear hg
      by_cases hs : 64 < s.length
      · go_wp2_with (first | (first | ((with_reducible refine at_load' ?_); (refine BigFrame.wpList_want (by rfl) fun K hK => ws_rowload rfl rfl (by first | (apply Star.row hM; (repeat (first | assumption | (with_reducible exact mZ) | apply mS)); done) | (apply Star.own hM; (repeat (first | assumption | (with_reducible exact mZ) | apply mS)); done) | (apply Star.arr hM; (focus ((repeat (first | assumption | (with_reducible exact mZ) | apply mS)); done)); assumption)) (by assumption) (by kernel_rfl) (hK _ _ ?_); clear hK K)) | fail) | (go_at_call 68; have hM0 := hM; clear hM; (first | (with_reducible refine (wlam s _ hM0).mono ?_) | fail); clear hM0; rintro _ w ⟨rfl, hM⟩))
        go_ret
        exact ⟨_, rfl, ⟨fun _ => by omega, fun h => by rw [firstBig_some hb.out HG.out hs] at h; cases h⟩, hM⟩
      · go_wp2_with (first | (first | ((with_reducible refine at_load' ?_); (refine BigFrame.wpList_want (by rfl) fun K hK => ws_rowload rfl rfl (by first | (apply Star.row hM; (repeat (first | assumption | (with_reducible exact mZ) | apply mS)); done) | (apply Star.own hM; (repeat (first | assumption | (with_reducible exact mZ) | apply mS)); done) | (apply Star.arr hM; (focus ((repeat (first | assumption | (with_reducible exact mZ) | apply mS)); done)); assumption)) (by assumption) (by kernel_rfl) (hK _ _ ?_); clear hK K)) | fail) | (go_at_call 68; have hM0 := hM; clear hM; (first | (with_reducible refine (wlam s _ hM0).mono ?_) | fail); clear hM0; rintro _ w ⟨rfl, hM⟩))
        go_roundw
        case rel => exact ⟨k + 1, by omega, by go_num, fun j s' hj hjs => by
          by_cases e : j = k
          · subst e; rw [HG.out] at hjs; injection hjs with hjs; subst hjs; omega
          · exact hb.out j s' (by omega) hjs, hM⟩
        case measure => simp [intOf]; omega
    · obtain rfl : k = n := by omega
      go_wp2_with fail
      go_ret
      refine ⟨-1, rfl, ⟨fun h => ?_, fun _ => rfl⟩, hM⟩
      obtain ⟨s, hs, hl⟩ := List.any_eq_true.1 h
      obtain ⟨j, hj, hjs⟩ := List.mem_iff_getElem.1 hs
      have := hb.out j s (by rw [← HL.out]; exact hj) (by rw [List.getElem?_eq_getElem hj, hjs])
      simp at hl
      omega
set_option maxRecDepth 100000 in
theorem containsf {ts : List (List UInt8)} {A : Option Addr} {n c : Nat} (hn : n ≤ 9223372036854775807) (w : World) (hM : Star F w) (hF : rowE 1 A n (svs ts) ∈ F) :
    Calls Try.prog 67 #[.slice A n c, .func (.func 68) #[] #[]] w fun r w' => r = .returned (.bool (anyBig ts)) ∧ Star F w' := by
  go_enter Try.func67, Try.ntmps67
  go_wp2_with (first | (go_at_call 91; have hM0 := hM; clear hM; (first | (with_reducible refine (idxf hn _ hM0 (by (repeat (first | assumption | (with_reducible exact mZ) | apply mS)); first | done | fail)).mono ?_) | fail); clear hM0; rintro _ w ⟨q, rfl, hq, hM⟩))
  go_ret
  refine ⟨ret_bool ?_, hM⟩
  cases hb : anyBig ts
  · rw [hq.2 hb]; rfl
  · have := hq.1 hb; simpa using this
theorem info_blkz : (Try.prog.info? 97).map (fun i => i.zero) = some (some (.agg (bvs zs64).toArray)) := by kernel_rfl
theorem nobig (ts : List (List UInt8)) (hb : anyBig ts = false) : ∀ s ∈ ts, s.length ≤ 64 := fun s hs => by
  unfold anyBig at hb
  have := List.any_eq_false.1 hb s hs
  simpa using this
set_option maxRecDepth 100000 in
set_option maxHeartbeats 4000000 in
theorem write_ok {ts : List (List UInt8)} {A : Option Addr} {n c : Nat} (h : D.ok) (at_ : Nat) (hi : at_ + n ≤ D.sure.length) (hb : anyBig ts = false) (hf : D.armed = true → D.left ≠ 0) (w : World) (hM : Star (diskE a D :: F) w) (hF : rowE 1 A n (svs ts) ∈ F) :
    Calls Try.prog 38 #[dptr a, .int .i64 at_, .slice A n c] w fun r w' => r = .returned (.int .i64 0) ∧ Star (diskE a (wrD D.dec at_ ts n) :: F) w' := by
  have HI := Lib.hid (in_yes (a := a) h at_ n hi)
  have hsz := h.size
  have HC : Hid (∀ (L : List SProp) (w : World), Star L w → rowE 1 A n (svs ts) ∈ L → Calls Try.prog 67 #[.slice A n c, .func (.func 68) #[] #[]] w fun r w' => r = .returned (.bool false) ∧ Star L w') := fun L w hM hx => by
    have := containsf (c := c) (by omega) w hM hx
    rwa [hb] at this
  have HCA := Lib.hid (fun (L : List SProp) (w : World) (hM : Star (fE a D.armed D.left :: L) w) => call_go D.armed D.left hf w hM)
  have hok := dec_ok h hf
  have HNB := Lib.hid (nobig ts hb)
  have HOK := Lib.hid hok
  clear h hb hf hok
  go_enter Try.func38, Try.ntmps38
  go_wp2_with (first | (go_at_call 66; have hM0 := hM; clear hM; (first | (with_reducible refine (HI.out _ _ hM0).mono ?_) | fail); clear hM0; rintro _ w ⟨rfl, hM⟩) | (go_at_call 67; have hM0 := hM; clear hM; (first | (with_reducible refine (HC.out _ _ hM0 (by (repeat (first | assumption | (with_reducible exact mZ) | apply mS)); first | done | fail)).mono ?_) | fail); clear hM0; rintro _ w ⟨rfl, hM⟩) | (first | ((with_reducible refine at_load' ?_); (refine BigFrame.wpList_want (by rfl) fun K hK => ws_load1 hM rfl rfl (by (repeat (first | assumption | (with_reducible exact mZ) | apply mS)); first | done | fail) (by first | rfl | assumption) (by decide +kernel) (hK _ _ ?_); clear hK K)) | fail) | (go_at_call 40; have hM0 := hM; clear hM; (first | (with_reducible refine (HCA.out _ _ (hM0.take (x := fE a D.armed D.left) (by (repeat (first | (with_reducible exact Take.head) | apply Take.tail)); first | done | fail))).mono ?_) | fail); clear hM0; rintro _ w ⟨rfl, hM⟩))
  have hM2 : Star (diskE a D.dec :: F) w := (hM.sel (by repeat (first | (with_reducible exact Sel.refl) | (with_reducible exact Take.head) | (with_reducible apply Take.tail) | (with_reducible apply Sel.cons) | (with_reducible apply Sel.drop))) : Star (dE a D.sure.length :: fE a D.armed (IntKind.i64.wrap (D.left - 1)) :: sE a D.sure :: mE a (lmv D) :: F) w).djoin
  clear hM
  have hM := hM2
  clear hM2
  go_loopw [31] (fun i wr => ∃ k : Nat, k ≤ n ∧ i = .int .i64 k ∧ Star (diskE a (wrD D.dec at_ ts k) :: F) wr) (fun i _ => n - (intOf i).toNat)
  case atStart => exact ⟨0, by omega, rfl, hM⟩
  case round =>
    clear hM
    obtain ⟨k, hk, rfl, hM⟩ := hrel
    by_cases hlt : k < n
    · obtain ⟨ad, s, rfl, hv, hg, _⟩ := hM.elemS (A := A) (n := n) (l := ts) (List.mem_cons_of_mem _ hF) hlt
      have hs64 := HNB.out s (List.mem_of_getElem? hg)
      have HW := Lib.hid (wrD_succ D.dec at_ ts k)
      have HS : Hid (ts.getD k [] = s) := by show _ = _; rw [List.getD_eq_getElem?_getD, hg]; rfl
      have hEk := wrD_ok HOK.out at_ ts k (by show _ ≤ D.sure.length; omega)
      have hEs := (wrD_sure D.dec at_ ts k).1
      obtain ⟨E, hE⟩ : ∃ E, E = wrD D.dec at_ ts k := ⟨_, rfl⟩
      rw [← hE] at hM hEk hEs HW
      have hik : at_ + k < E.sure.length := by rw [hEs]; show _ < D.sure.length; omega
      have HEK := Lib.hid hEk
      have HIK := Lib.hid hik
      have HK := Lib.hid (int_key (at_ + k) (by omega))
      have HADD : Hid (IntKind.i64.wrap ((at_ : Int) + (k : Int)) = ((at_ + k : Nat) : Int)) := by show _ = _; rw [IntWalk.i64_in _ (by omega)]; omega
      have HPL := Lib.hid (pad64_len s)
      replace hM := hM.dopen
      clear hE hEk hEs hik hg hs64
      have HZL := Lib.hid zs64_len
      go_wp2_with (first | (first | ((with_reducible refine at_load' ?_); (refine BigFrame.wpList_want (by rfl) fun K hK => ws_rowload rfl rfl (by first | (apply Star.row hM; (repeat (first | assumption | (with_reducible exact mZ) | apply mS)); done) | (apply Star.own hM; (repeat (first | assumption | (with_reducible exact mZ) | apply mS)); done) | (apply Star.arr hM; (focus ((repeat (first | assumption | (with_reducible exact mZ) | apply mS)); done)); assumption)) (by assumption) (by kernel_rfl) (hK _ _ ?_); clear hK K)) | fail) | (first | ((with_reducible refine at_alloc' ?_); (have hM0 := hM; clear hM; refine BigFrame.wpList_want (by rfl) fun K hK => ws_alloc hM0 (t := 97) rfl (bvs zs64).toArray info_blkz (fun g10 w hM => hK _ _ ?_); clear hM0 hK K)) | fail) | (first | ((with_reducible refine at_call' ?_); (have hM0 := hM; clear hM; refine BigFrame.wpList_want (by rfl) fun K hK => ws_copy_str hM0 rfl rfl rfl 5 Try.underlying84 (by kernel_rfl) (by (repeat (first | (with_reducible exact Take.head) | apply Take.tail)); first | done | fail) (by rw [HZL.out]) (fun w hM => hK _ _ ?_); clear hM0 hK K)) | fail))
      by_cases hl : E.l (at_ + k) = true
      · obtain ⟨r, hp1, hp2⟩ := lmv_put_old HEK.out HIK.out (pad64 s) hl
        have HP1 := Lib.hid hp1
        have HP2 := Lib.hid hp2
        clear hp1 hp2 hl
        (refine region_RS ([dE a E.sure.length, cellsE g10 97 (bvs (over zs64 s)).toArray]) [8] (by kernel_rfl) hM ?_; clear hM; change RS _ _ _ _ _ _ 9 (Array.replicate 9 false) _ _; refine RS_take (i := 0) rfl (by decide +kernel) (fun _ _ _ h => h) (by first | (intro x hx; (repeat (first | exact hx | apply mS)); done) | ((repeat (refine List.forall_mem_cons.2 ⟨(by (repeat (first | assumption | (with_reducible exact mZ) | apply mS)); first | done | fail), ?_⟩)); intro x hx; first | (cases hx; done) | ((repeat (first | exact hx | apply mS)); done))) (stab_pure (by rfl) (fun w => (by go_simp; try with_reducible rfl))) ?_; simp only [Act.put, List.setIfInBounds_toArray, List.set_cons_zero, List.set_cons_succ]; refine RS_take (i := 1) rfl (by decide +kernel) (fun _ _ _ h => h) (by first | (intro x hx; (repeat (first | exact hx | apply mS)); done) | ((repeat (refine List.forall_mem_cons.2 ⟨(by (repeat (first | assumption | (with_reducible exact mZ) | apply mS)); first | done | fail), ?_⟩)); intro x hx; first | (cases hx; done) | ((repeat (first | exact hx | apply mS)); done))) (stab_pure (by rfl) (fun w => (by go_simp; try with_reducible rfl))) ?_; simp only [Act.put, List.setIfInBounds_toArray, List.set_cons_zero, List.set_cons_succ]; refine RS_take (i := 2) rfl (by decide +kernel) (fun _ _ _ h => h) (by first | (intro x hx; (repeat (first | exact hx | apply mS)); done) | ((repeat (refine List.forall_mem_cons.2 ⟨(by (repeat (first | assumption | (with_reducible exact mZ) | apply mS)); first | done | fail), ?_⟩)); intro x hx; first | (cases hx; done) | ((repeat (first | exact hx | apply mS)); done))) (stab_pure (by rfl) (fun w => (by go_simp; try with_reducible rfl))) ?_; simp only [Act.put, List.setIfInBounds_toArray, List.set_cons_zero, List.set_cons_succ]; refine RS_take (i := 3) rfl (by decide +kernel) (fun _ _ _ h => h) (by first | (intro x hx; (repeat (first | exact hx | apply mS)); done) | ((repeat (refine List.forall_mem_cons.2 ⟨(by (repeat (first | assumption | (with_reducible exact mZ) | apply mS)); first | done | fail), ?_⟩)); intro x hx; first | (cases hx; done) | ((repeat (first | exact hx | apply mS)); done))) (stab_read (by rfl) (fun L w hL hM => (ex_load1 (v := .map (some a.m)) hM rfl rfl (hL _ (by (repeat (first | assumption | (with_reducible exact mZ) | apply mS)); first | done | fail)) rfl (by decide +kernel)))) ?_; simp only [Act.put, List.setIfInBounds_toArray, List.set_cons_zero, List.set_cons_succ]; refine RS_take (i := 4) rfl (by decide +kernel) (fun _ _ _ h => h) (by first | (intro x hx; (repeat (first | exact hx | apply mS)); done) | ((repeat (refine List.forall_mem_cons.2 ⟨(by (repeat (first | assumption | (with_reducible exact mZ) | apply mS)); first | done | fail), ?_⟩)); intro x hx; first | (cases hx; done) | ((repeat (first | exact hx | apply mS)); done))) (stab_pure (by rfl) (fun w => (by go_simp; try with_reducible rfl))) ?_; simp only [Act.put, List.setIfInBounds_toArray, List.set_cons_zero, List.set_cons_succ]; refine RS_take (i := 5) rfl (by decide +kernel) (fun _ _ _ h => h) (by first | (intro x hx; (repeat (first | exact hx | apply mS)); done) | ((repeat (refine List.forall_mem_cons.2 ⟨(by (repeat (first | assumption | (with_reducible exact mZ) | apply mS)); first | done | fail), ?_⟩)); intro x hx; first | (cases hx; done) | ((repeat (first | exact hx | apply mS)); done))) (stab_pure (by rfl) (fun w => (by go_simp; try with_reducible rfl))) ?_; simp only [Act.put, List.setIfInBounds_toArray, List.set_cons_zero, List.set_cons_succ]; refine RS_take (i := 6) rfl (by decide +kernel) (fun _ _ _ h => h) (by first | (intro x hx; (repeat (first | exact hx | apply mS)); done) | ((repeat (refine List.forall_mem_cons.2 ⟨(by (repeat (first | assumption | (with_reducible exact mZ) | apply mS)); first | done | fail), ?_⟩)); intro x hx; first | (cases hx; done) | ((repeat (first | exact hx | apply mS)); done))) (stab_read (by rfl) (fun L w hL hM => (ex_add rfl rfl rfl HADD.out))) ?_; simp only [Act.put, List.setIfInBounds_toArray, List.set_cons_zero, List.set_cons_succ]; refine RS_take (i := 7) rfl (by decide +kernel) (fun _ _ _ h => h) (by first | (intro x hx; (repeat (first | exact hx | apply mS)); done) | ((repeat (refine List.forall_mem_cons.2 ⟨(by (repeat (first | assumption | (with_reducible exact mZ) | apply mS)); first | done | fail), ?_⟩)); intro x hx; first | (cases hx; done) | ((repeat (first | exact hx | apply mS)); done))) (stab_read (by rfl) (fun L w hL hM => (ex_load hM rfl rfl (hL _ (by (repeat (first | assumption | (with_reducible exact mZ) | apply mS)); first | done | fail)) (n := 64) (by simp [bvs_len, over_len, HZL.out]) (by decide +kernel)))) ?_; simp only [Act.put, List.setIfInBounds_toArray, List.set_cons_zero, List.set_cons_succ]; refine RS_one (i := 8) (by decide +kernel) rfl (by rfl) (.inl (by first | (intro x hx; (repeat (first | exact hx | apply mS)); done) | ((repeat (refine List.forall_mem_cons.2 ⟨(by (repeat (first | assumption | (with_reducible exact mZ) | apply mS)); first | done | fail), ?_⟩)); intro x hx; first | (cases hx; done) | ((repeat (first | exact hx | apply mS)); done)))) (fun w K hM0 hK => ?_); refine ws_update_old (key := iv64 (at_ + k)) (v := avb (pad64 s)) hM0 rfl Try.underlying93 rfl rfl rfl (by (repeat (first | (with_reducible exact Take.head) | apply Take.tail)); first | done | fail) keyed_i HK.out HP1.out (fun w hM => hK _ _ _ hM ?_); clear hM hM0 hK K; simp only [Act.put, List.setIfInBounds_toArray, List.set_cons_zero, List.set_cons_succ]; refine RS_done (by decide +kernel) (.inr (by decide +kernel)) (fun w hM => ?_))
        go_wp2
        go_roundw
        case rel => exact ⟨k + 1, by omega, by go_num, by rw [HW.out, HS.out]; exact ((hM.sel (by repeat (first | (with_reducible exact Sel.refl) | (with_reducible exact Take.head) | (with_reducible apply Take.tail) | (with_reducible apply Sel.cons) | (with_reducible apply Sel.drop))) : Star (dE a E.sure.length :: fE a E.armed E.left :: sE a E.sure :: mE a ((iv64 (at_ + k), avb (pad64 s)) :: r) :: F) _).take (x := mE a ((iv64 (at_ + k), avb (pad64 s)) :: r)) (by (repeat (first | (with_reducible exact Take.head) | apply Take.tail)); first | done | fail)).map_perm HP2.out |> fun hM => Star.djoin (D := E.put (at_ + k) (pad64 s)) (hM.sel (by repeat (first | (with_reducible exact Sel.refl) | (with_reducible exact Take.head) | (with_reducible apply Take.tail) | (with_reducible apply Sel.cons) | (with_reducible apply Sel.drop))) : Star (dE a E.sure.length :: fE a E.armed E.left :: sE a E.sure :: mE a (lmv (E.put (at_ + k) (pad64 s))) :: F) _)⟩
        case measure => simp [intOf]; omega
      · have hlf : E.l (at_ + k) = false := by simpa using hl
        have HMS : Hid (∀ p ∈ lmv E, p.1 ≠ iv64 (at_ + k)) := lmv_miss HIK.out hlf
        have HP2 := Lib.hid (lmv_put_new HEK.out HIK.out (pad64 s) hlf)
        clear hl hlf
        (refine region_RS ([dE a E.sure.length, cellsE g10 97 (bvs (over zs64 s)).toArray]) [8] (by kernel_rfl) hM ?_; clear hM; change RS _ _ _ _ _ _ 9 (Array.replicate 9 false) _ _; refine RS_take (i := 0) rfl (by decide +kernel) (fun _ _ _ h => h) (by first | (intro x hx; (repeat (first | exact hx | apply mS)); done) | ((repeat (refine List.forall_mem_cons.2 ⟨(by (repeat (first | assumption | (with_reducible exact mZ) | apply mS)); first | done | fail), ?_⟩)); intro x hx; first | (cases hx; done) | ((repeat (first | exact hx | apply mS)); done))) (stab_pure (by rfl) (fun w => (by go_simp; try with_reducible rfl))) ?_; simp only [Act.put, List.setIfInBounds_toArray, List.set_cons_zero, List.set_cons_succ]; refine RS_take (i := 1) rfl (by decide +kernel) (fun _ _ _ h => h) (by first | (intro x hx; (repeat (first | exact hx | apply mS)); done) | ((repeat (refine List.forall_mem_cons.2 ⟨(by (repeat (first | assumption | (with_reducible exact mZ) | apply mS)); first | done | fail), ?_⟩)); intro x hx; first | (cases hx; done) | ((repeat (first | exact hx | apply mS)); done))) (stab_pure (by rfl) (fun w => (by go_simp; try with_reducible rfl))) ?_; simp only [Act.put, List.setIfInBounds_toArray, List.set_cons_zero, List.set_cons_succ]; refine RS_take (i := 2) rfl (by decide +kernel) (fun _ _ _ h => h) (by first | (intro x hx; (repeat (first | exact hx | apply mS)); done) | ((repeat (refine List.forall_mem_cons.2 ⟨(by (repeat (first | assumption | (with_reducible exact mZ) | apply mS)); first | done | fail), ?_⟩)); intro x hx; first | (cases hx; done) | ((repeat (first | exact hx | apply mS)); done))) (stab_pure (by rfl) (fun w => (by go_simp; try with_reducible rfl))) ?_; simp only [Act.put, List.setIfInBounds_toArray, List.set_cons_zero, List.set_cons_succ]; refine RS_take (i := 3) rfl (by decide +kernel) (fun _ _ _ h => h) (by first | (intro x hx; (repeat (first | exact hx | apply mS)); done) | ((repeat (refine List.forall_mem_cons.2 ⟨(by (repeat (first | assumption | (with_reducible exact mZ) | apply mS)); first | done | fail), ?_⟩)); intro x hx; first | (cases hx; done) | ((repeat (first | exact hx | apply mS)); done))) (stab_read (by rfl) (fun L w hL hM => (ex_load1 (v := .map (some a.m)) hM rfl rfl (hL _ (by (repeat (first | assumption | (with_reducible exact mZ) | apply mS)); first | done | fail)) rfl (by decide +kernel)))) ?_; simp only [Act.put, List.setIfInBounds_toArray, List.set_cons_zero, List.set_cons_succ]; refine RS_take (i := 4) rfl (by decide +kernel) (fun _ _ _ h => h) (by first | (intro x hx; (repeat (first | exact hx | apply mS)); done) | ((repeat (refine List.forall_mem_cons.2 ⟨(by (repeat (first | assumption | (with_reducible exact mZ) | apply mS)); first | done | fail), ?_⟩)); intro x hx; first | (cases hx; done) | ((repeat (first | exact hx | apply mS)); done))) (stab_pure (by rfl) (fun w => (by go_simp; try with_reducible rfl))) ?_; simp only [Act.put, List.setIfInBounds_toArray, List.set_cons_zero, List.set_cons_succ]; refine RS_take (i := 5) rfl (by decide +kernel) (fun _ _ _ h => h) (by first | (intro x hx; (repeat (first | exact hx | apply mS)); done) | ((repeat (refine List.forall_mem_cons.2 ⟨(by (repeat (first | assumption | (with_reducible exact mZ) | apply mS)); first | done | fail), ?_⟩)); intro x hx; first | (cases hx; done) | ((repeat (first | exact hx | apply mS)); done))) (stab_pure (by rfl) (fun w => (by go_simp; try with_reducible rfl))) ?_; simp only [Act.put, List.setIfInBounds_toArray, List.set_cons_zero, List.set_cons_succ]; refine RS_take (i := 6) rfl (by decide +kernel) (fun _ _ _ h => h) (by first | (intro x hx; (repeat (first | exact hx | apply mS)); done) | ((repeat (refine List.forall_mem_cons.2 ⟨(by (repeat (first | assumption | (with_reducible exact mZ) | apply mS)); first | done | fail), ?_⟩)); intro x hx; first | (cases hx; done) | ((repeat (first | exact hx | apply mS)); done))) (stab_read (by rfl) (fun L w hL hM => (ex_add rfl rfl rfl HADD.out))) ?_; simp only [Act.put, List.setIfInBounds_toArray, List.set_cons_zero, List.set_cons_succ]; refine RS_take (i := 7) rfl (by decide +kernel) (fun _ _ _ h => h) (by first | (intro x hx; (repeat (first | exact hx | apply mS)); done) | ((repeat (refine List.forall_mem_cons.2 ⟨(by (repeat (first | assumption | (with_reducible exact mZ) | apply mS)); first | done | fail), ?_⟩)); intro x hx; first | (cases hx; done) | ((repeat (first | exact hx | apply mS)); done))) (stab_read (by rfl) (fun L w hL hM => (ex_load hM rfl rfl (hL _ (by (repeat (first | assumption | (with_reducible exact mZ) | apply mS)); first | done | fail)) (n := 64) (by simp [bvs_len, over_len, HZL.out]) (by decide +kernel)))) ?_; simp only [Act.put, List.setIfInBounds_toArray, List.set_cons_zero, List.set_cons_succ]; refine RS_one (i := 8) (by decide +kernel) rfl (by rfl) (.inl (by first | (intro x hx; (repeat (first | exact hx | apply mS)); done) | ((repeat (refine List.forall_mem_cons.2 ⟨(by (repeat (first | assumption | (with_reducible exact mZ) | apply mS)); first | done | fail), ?_⟩)); intro x hx; first | (cases hx; done) | ((repeat (first | exact hx | apply mS)); done)))) (fun w K hM0 hK => ?_); refine ws_update_new (key := iv64 (at_ + k)) (v := avb (pad64 s)) hM0 rfl Try.underlying93 rfl rfl rfl (by (repeat (first | (with_reducible exact Take.head) | apply Take.tail)); first | done | fail) keyed_i HK.out HMS.out (fun w hM => hK _ _ _ hM ?_); clear hM hM0 hK K; simp only [Act.put, List.setIfInBounds_toArray, List.set_cons_zero, List.set_cons_succ]; refine RS_done (by decide +kernel) (.inr (by decide +kernel)) (fun w hM => ?_))
        go_wp2
        go_roundw
        case rel => exact ⟨k + 1, by omega, by go_num, by rw [HW.out, HS.out]; exact ((hM.sel (by repeat (first | (with_reducible exact Sel.refl) | (with_reducible exact Take.head) | (with_reducible apply Take.tail) | (with_reducible apply Sel.cons) | (with_reducible apply Sel.drop))) : Star (dE a E.sure.length :: fE a E.armed E.left :: sE a E.sure :: mE a ((iv64 (at_ + k), avb (pad64 s)) :: lmv E) :: F) _).take (x := mE a ((iv64 (at_ + k), avb (pad64 s)) :: lmv E)) (by (repeat (first | (with_reducible exact Take.head) | apply Take.tail)); first | done | fail)).map_perm HP2.out |> fun hM => Star.djoin (D := E.put (at_ + k) (pad64 s)) (hM.sel (by repeat (first | (with_reducible exact Sel.refl) | (with_reducible exact Take.head) | (with_reducible apply Take.tail) | (with_reducible apply Sel.cons) | (with_reducible apply Sel.drop))) : Star (dE a E.sure.length :: fE a E.armed E.left :: sE a E.sure :: mE a (lmv (E.put (at_ + k) (pad64 s))) :: F) _)⟩
        case measure => simp [intOf]; omega
    · obtain rfl : k = n := by omega
      go_wp2_with fail
      go_ret
      exact ⟨rfl, hM⟩
end
end Go.Proofs.Ytnckgkgilnmocaa
set_option linter.unusedSimpArgs false
set_option linter.unusedVariables false
namespace Go.Proofs.Ytnckgkgilnmocaa
open Go.RowKit
attribute [local go_sem] extract_mid extract_drop bget bsize wrap64_u8 i64_u8 u64_u8 bappend
theorem bvs_flat_set {S : List (List UInt8)} (h : ∀ b ∈ S, b.length = 64) {i : Nat} (hi : i < S.length) (b : List UInt8) : ((bvs S.flatten).take (i * 64) ++ bvs b ++ (bvs S.flatten).drop (i * 64 + 64)) = bvs (S.set i b).flatten := by
  rw [flat_set h hi, bvs_app, bvs_app, Nat.mul_comm i 64]
  simp only [bvs, List.map_take, List.map_drop]
section
variable {P : Program} {w : World} {ops : Array Oper} {o : Oper} {ac : Act} {Q : Exit → Act → World → Prop} {L R : List SProp} {K : Act → World → Prop}
theorem ws_store_sec {a : DA} (hM : Star L w) {ty : TypeId} {x y : Operand} (ho : o.op = .store ty x y) (i : Nat) {S : List (List UInt8)} {b : List UInt8} (hx : ac.eval x = .pointer (some ⟨a.g, i * 64, none⟩)) (hy : ac.eval y = avb b) (hS : ∀ b ∈ S, b.length = 64) (hi : i < S.length) (hb64 : b.length = 64) (hb : Take (sE a S) L R) (hs : (P.info? ty).map (·.size) = some 64)
    (h : ∀ w1, Star (sE a (S.set i b) :: R) w1 → K (ac.put o.dst undef) w1) : Oper.wp P o ac w K Q := by
  have hl : S.flatten.length = 64 * S.length := flat_64 hS
  refine ws_store_at hM ho hx hy hb 64 (by simp [avb, Value.cells, bvs_len, hb64]) (by rw [List.size_toArray, bvs_len, hl]; omega) hs (fun u hu => bvs_oneCell b u (by simpa [avb, Value.cells] using hu)) ?_ h
  have := bvs_flat_set hS hi b
  simp only [avb, Value.cells, List.toList_toArray]
  rw [this]
end
theorem upd_all {D : Dsk} (h : D.ok) {vis : List Nat} (hv : vis.Perm D.keys) : upd D.sure (vis.map fun i => (i, D.nw i)) = D.now := by
  have hn : ((vis.map fun i => (i, D.nw i)).map (·.1)).Nodup := by
    rw [List.map_map]
    have : ((fun x : Nat × List UInt8 => x.1) ∘ fun i => (i, D.nw i)) = id := rfl
    rw [this, List.map_id]
    exact hv.nodup_iff.2 (keys_nodup D)
  apply List.ext_getElem?
  intro j
  by_cases hj : j < D.sure.length
  · obtain ⟨g1, g2⟩ := upd_get (S := D.sure) hn j
    rw [nw_mem h hj]
    by_cases hl : D.l j = true
    · exact g1 _ (List.mem_map.2 ⟨j, hv.mem_iff.2 ((mem_keys D j).2 ⟨hj, hl⟩), rfl⟩) hj
    · have hlf : D.l j = false := by simpa using hl
      rw [g2 fun b hb => ?_, h.same j hj hlf]
      · unfold Dsk.su
        rw [List.getD_eq_getElem?_getD, List.getElem?_eq_getElem hj]
        rfl
      · obtain ⟨i, hi, e⟩ := List.mem_map.1 hb
        injection e with e _
        subst e
        have := ((mem_keys D i).1 (hv.mem_iff.1 hi)).2
        rw [hlf] at this
        cases this
  · rw [List.getElem?_eq_none (by rw [upd_len]; omega), List.getElem?_eq_none (by rw [h.ln]; omega)]
section
variable {F : List SProp} {a : DA} {D : Dsk}
abbrev encK (D : Dsk) (i : Nat) : Value × Value := (iv64 i, avb (D.nw i))
set_option maxRecDepth 100000 in
set_option maxHeartbeats 4000000 in
theorem sync_ok (h : D.ok) (hf : D.armed = true → D.left ≠ 0) (w : World) (hM : Star (diskE a D :: F) w) :
    Calls Try.prog 13 #[dptr a] w fun r w' => r = .returned (.int .i64 0) ∧ Star (diskE a (D.dec.calm D.now) :: F) w' := by
  have HCA := Lib.hid (fun (L : List SProp) (w : World) (hM : Star (fE a D.armed D.left :: L) w) => call_go D.armed D.left hf w hM)
  have HH := Lib.hid h
  have hsz := h.size
  clear hf h
  replace hM := hM.dopen
  go_enter Try.func13, Try.ntmps13
  go_wp2_with (first | (first | ((with_reducible refine at_load' ?_); (refine BigFrame.wpList_want (by rfl) fun K hK => ws_load1 hM rfl rfl (by (repeat (first | assumption | (with_reducible exact mZ) | apply mS)); first | done | fail) (by first | rfl | assumption) (by decide +kernel) (hK _ _ ?_); clear hK K)) | fail) | (go_at_call 40; have hM0 := hM; clear hM; (first | (with_reducible refine (HCA.out _ _ (hM0.take (x := fE a D.armed D.left) (by (repeat (first | (with_reducible exact Take.head) | apply Take.tail)); first | done | fail))).mono ?_) | fail); clear hM0; rintro _ w ⟨rfl, hM⟩) | (first | ((with_reducible refine at_range' ?_); (have hM0 := hM; clear hM; refine BigFrame.wpList_want (by rfl) fun K hK => ws_range_map hM0 rfl Try.underlying93 rfl (by (repeat (first | (with_reducible exact Take.head) | apply Take.tail)); first | done | fail) (fun gi w hM => hK _ _ ?_); clear hM0 hK K)) | fail))
  go_frame
  go_loopg [] D.keys.length (fun gk wx => ∃ (vis lft : List Nat), gk = lft.length ∧ Hid ((vis ++ lft).Perm D.keys) ∧ Star (rangeE Try.prog 3 a.m gi (lmv D) (lft.map (encK D)) :: dE a D.sure.length :: fE a D.armed (IntKind.i64.wrap (D.left - 1)) :: sE a (upd D.sure (vis.map fun i => (i, D.nw i))) :: F) wx)
  case atStart => exact ⟨[], D.keys, rfl, List.Perm.refl _, (hM.sel (by repeat (first | (with_reducible exact Sel.refl) | (with_reducible exact Take.head) | (with_reducible apply Take.tail) | (with_reducible apply Sel.cons) | (with_reducible apply Sel.drop))) : Star (rangeE Try.prog 3 a.m gi (lmv D) (lmv D) :: dE a D.sure.length :: fE a D.armed (IntKind.i64.wrap (D.left - 1)) :: sE a D.sure :: F) _)⟩
  case round =>
    clear hM
    obtain ⟨vis, lft, hgk, hv, hM⟩ := hrel
    have hS64 : ∀ b ∈ upd D.sure (vis.map fun i => (i, D.nw i)), b.length = 64 := upd_64 HH.out.s64 fun p hp => by
      obtain ⟨i, hi, rfl⟩ := List.mem_map.1 hp
      exact nw_len HH.out ((mem_keys D i).1 (hv.out.mem_iff.1 (List.mem_append.2 (.inl hi)))).1
    have hSl : (upd D.sure (vis.map fun i => (i, D.nw i))).length = D.sure.length := upd_len _ _
    obtain ⟨S, hS⟩ : ∃ S, S = upd D.sure (vis.map fun i => (i, D.nw i)) := ⟨_, rfl⟩
    rw [← hS] at hM hS64 hSl
    have HS := Lib.hid hS
    have HS64 := Lib.hid hS64
    have HSL := Lib.hid hSl
    clear hS hS64 hSl
    go_wp2_with (first | ((with_reducible refine at_next' ?_); have hM0 := hM; clear hM; refine BigFrame.wpList_want (by rfl) fun K hK => ws_next_enc (encK D) hM0 rfl rfl (by (repeat (first | (with_reducible exact Take.head) | apply Take.tail)); first | done | fail) (fun he w hM => hK _ _ ?_) (fun i lft' w hp hM => hK _ _ ?_); clear hM0 hK K; rotate_left; have HNL := Lib.hid (nw_len HH.out ((mem_keys D i).1 (hv.out.mem_iff.1 (List.mem_append.2 (.inr (hp.mem_iff.2 List.mem_cons_self))))).1); rotate_left) | (first | ((with_reducible refine at_load' ?_); (refine BigFrame.wpList_want (by rfl) fun K hK => ws_load1 hM rfl rfl (by (repeat (first | assumption | (with_reducible exact mZ) | apply mS)); first | done | fail) (by first | rfl | assumption) (by decide +kernel) (hK _ _ ?_); clear hK K)) | fail) | (first | ((with_reducible refine at_call' ?_); (have hM0 := hM; clear hM; refine BigFrame.wpList_want (by rfl) fun K hK => ws_clear_map hM0 rfl Try.underlying93 rfl (by (repeat (first | (with_reducible exact Take.head) | apply Take.tail)); first | done | fail) (fun w hM => hK _ _ ?_); clear hM0 hK K)) | fail) | (first | ((with_reducible refine at_entry' ?_); (refine BigFrame.wpList_want (by rfl) fun K hK => ws_of_ex (ex_entry hM rfl rfl (by (repeat (first | assumption | (with_reducible exact mZ) | apply mS)); first | done | fail)) (hK _ _ ?_); clear hK K)) | fail) | (first | ((with_reducible refine at_alloc' ?_); (have hM0 := hM; clear hM; refine BigFrame.wpList_want (by rfl) fun K hK => ws_alloc hM0 (t := 97) rfl (bvs zs64).toArray info_blkz (fun g5 w hM => hK _ _ ?_); clear hM0 hK K)) | fail) | (first | ((with_reducible refine at_store' ?_); (have hM0 := hM; clear hM; refine BigFrame.wpList_want (by rfl) fun K hK => ws_store hM0 rfl rfl rfl (by (repeat (first | (with_reducible exact Take.head) | apply Take.tail)); first | done | fail) (n := 64) (by simp [bvs_len, HNL.out]) (by rfl) (by kernel_rfl) (by simpa using bvs_oneCell _) (fun w hM => hK _ _ ?_); clear hM0 hK K)) | fail))
    · go_ret
      subst he
      have hup := upd_all HH.out (by simpa using hv.out)
      rw [← HS.out] at hup
      refine ⟨rfl, ?_⟩
      have hM3 : Star (dE a D.sure.length :: fE a D.armed (IntKind.i64.wrap (D.left - 1)) :: sE a S :: mE a [] :: F) _ := hM.sel (by repeat (first | (with_reducible exact Sel.refl) | (with_reducible exact Take.head) | (with_reducible apply Take.tail) | (with_reducible apply Sel.cons) | (with_reducible apply Sel.drop)))
      rw [hup] at hM3
      refine Star.djoin (D := D.dec.calm D.now) ?_
      rw [calm_lmv]
      show Star (dE a D.now.length :: fE a D.armed (IntKind.i64.wrap (D.left - 1)) :: sE a D.now :: mE a [] :: F) _
      rw [HH.out.ln]
      exact hM3
    · have HP1 := Lib.hid hp
      have hik : i ∈ D.keys := hv.out.mem_iff.1 (List.mem_append.2 (.inr (hp.mem_iff.2 List.mem_cons_self)))
      have hin := ((mem_keys D i).1 hik).1
      have hiI : (i : Int) < (D.sure.length : Int) := by omega
      have HIS : Hid (i < S.length) := by show _ < _; rw [HSL.out]; exact hin
      have HNX : Hid (upd D.sure ((vis ++ [i]).map fun i => (i, D.nw i)) = S.set i (D.nw i)) := by show _ = _; rw [List.map_append, HS.out]; exact upd_snoc _ _ _
      clear hp hik hin
      (refine region_RS ([dE a D.sure.length, cellsE g5 97 (bvs (D.nw i)).toArray]) [7] (by kernel_rfl) hM ?_; clear hM; change RS _ _ _ _ _ _ 8 (Array.replicate 8 false) _ _; refine RS_take (i := 0) rfl (by decide +kernel) (fun _ _ _ h => h) (by first | (intro x hx; (repeat (first | exact hx | apply mS)); done) | ((repeat (refine List.forall_mem_cons.2 ⟨(by (repeat (first | assumption | (with_reducible exact mZ) | apply mS)); first | done | fail), ?_⟩)); intro x hx; first | (cases hx; done) | ((repeat (first | exact hx | apply mS)); done))) (stab_pure (by rfl) (fun w => (by go_simp; try with_reducible rfl))) ?_; simp only [Act.put, List.setIfInBounds_toArray, List.set_cons_zero, List.set_cons_succ]; refine RS_take (i := 1) rfl (by decide +kernel) (fun _ _ _ h => h) (by first | (intro x hx; (repeat (first | exact hx | apply mS)); done) | ((repeat (refine List.forall_mem_cons.2 ⟨(by (repeat (first | assumption | (with_reducible exact mZ) | apply mS)); first | done | fail), ?_⟩)); intro x hx; first | (cases hx; done) | ((repeat (first | exact hx | apply mS)); done))) (stab_pure (by rfl) (fun w => (by go_simp; try with_reducible rfl))) ?_; simp only [Act.put, List.setIfInBounds_toArray, List.set_cons_zero, List.set_cons_succ]; refine RS_take (i := 2) rfl (by decide +kernel) (fun _ _ _ h => h) (by first | (intro x hx; (repeat (first | exact hx | apply mS)); done) | ((repeat (refine List.forall_mem_cons.2 ⟨(by (repeat (first | assumption | (with_reducible exact mZ) | apply mS)); first | done | fail), ?_⟩)); intro x hx; first | (cases hx; done) | ((repeat (first | exact hx | apply mS)); done))) (stab_pure (by rfl) (fun w => (by go_simp; try with_reducible rfl))) ?_; simp only [Act.put, List.setIfInBounds_toArray, List.set_cons_zero, List.set_cons_succ]; refine RS_take (i := 3) rfl (by decide +kernel) (fun _ _ _ h => h) (by first | (intro x hx; (repeat (first | exact hx | apply mS)); done) | ((repeat (refine List.forall_mem_cons.2 ⟨(by (repeat (first | assumption | (with_reducible exact mZ) | apply mS)); first | done | fail), ?_⟩)); intro x hx; first | (cases hx; done) | ((repeat (first | exact hx | apply mS)); done))) (stab_read (by rfl) (fun L w hL hM => (ex_load1 (v := .slice (some ⟨a.g, 0, none⟩) D.sure.length D.sure.length) hM rfl rfl (hL _ (by (repeat (first | assumption | (with_reducible exact mZ) | apply mS)); first | done | fail)) rfl (by decide +kernel)))) ?_; simp only [Act.put, List.setIfInBounds_toArray, List.set_cons_zero, List.set_cons_succ]; refine RS_take (i := 4) rfl (by decide +kernel) (fun _ _ _ h => h) (by first | (intro x hx; (repeat (first | exact hx | apply mS)); done) | ((repeat (refine List.forall_mem_cons.2 ⟨(by (repeat (first | assumption | (with_reducible exact mZ) | apply mS)); first | done | fail), ?_⟩)); intro x hx; first | (cases hx; done) | ((repeat (first | exact hx | apply mS)); done))) (stab_pure (by rfl) (fun w => (by go_simp; try with_reducible rfl))) ?_; simp only [Act.put, List.setIfInBounds_toArray, List.set_cons_zero, List.set_cons_succ]; refine RS_take (i := 5) rfl (by decide +kernel) (fun _ _ _ h => h) (by first | (intro x hx; (repeat (first | exact hx | apply mS)); done) | ((repeat (refine List.forall_mem_cons.2 ⟨(by (repeat (first | assumption | (with_reducible exact mZ) | apply mS)); first | done | fail), ?_⟩)); intro x hx; first | (cases hx; done) | ((repeat (first | exact hx | apply mS)); done))) (stab_read (by rfl) (fun L w hL hM => (ex_load hM rfl rfl (hL _ (by (repeat (first | assumption | (with_reducible exact mZ) | apply mS)); first | done | fail)) (n := 64) (by simp [bvs_len, HNL.out]) (by decide +kernel)))) ?_; simp only [Act.put, List.setIfInBounds_toArray, List.set_cons_zero, List.set_cons_succ]; refine RS_take (i := 6) rfl (by decide +kernel) (fun _ _ _ h => h) (by first | (intro x hx; (repeat (first | exact hx | apply mS)); done) | ((repeat (refine List.forall_mem_cons.2 ⟨(by (repeat (first | assumption | (with_reducible exact mZ) | apply mS)); first | done | fail), ?_⟩)); intro x hx; first | (cases hx; done) | ((repeat (first | exact hx | apply mS)); done))) (stab_pure (by rfl) (fun w => (by go_simp; try with_reducible rfl))) ?_; simp only [Act.put, List.setIfInBounds_toArray, List.set_cons_zero, List.set_cons_succ]; refine RS_one (i := 7) (by decide +kernel) rfl (by rfl) (.inl (by first | (intro x hx; (repeat (first | exact hx | apply mS)); done) | ((repeat (refine List.forall_mem_cons.2 ⟨(by (repeat (first | assumption | (with_reducible exact mZ) | apply mS)); first | done | fail), ?_⟩)); intro x hx; first | (cases hx; done) | ((repeat (first | exact hx | apply mS)); done)))) (fun w K hM0 hK => ?_); refine ws_store_sec hM0 rfl i rfl rfl HS64.out HIS.out HNL.out (by (repeat (first | (with_reducible exact Take.head) | apply Take.tail)); first | done | fail) (by kernel_rfl) (fun w hM => hK _ _ _ hM ?_); clear hM hM0 hK K; simp only [Act.put, List.setIfInBounds_toArray, List.set_cons_zero, List.set_cons_succ]; refine RS_done (by decide +kernel) (.inr (by decide +kernel)) (fun w hM => ?_))
      go_wp2
      go_roundg lft'.length
      case measure => have := HP1.out.length_eq; simp at this; omega
      case rel =>
        have hM3 : Star (entryE Try.prog 3 a.m gi (lmv D) (lft'.map (encK D)) (iv64 i) (avb (D.nw i)) :: dE a D.sure.length :: fE a D.armed (IntKind.i64.wrap (D.left - 1)) :: sE a (S.set i (D.nw i)) :: F) _ := hM.sel (by repeat (first | (with_reducible exact Sel.refl) | (with_reducible exact Take.head) | (with_reducible apply Take.tail) | (with_reducible apply Sel.cons) | (with_reducible apply Sel.drop)))
        refine ⟨vis ++ [i], lft', rfl, ?_, ?_⟩
        · show List.Perm _ _
          rw [List.append_assoc]
          exact (HP1.out.symm.append_left vis).trans hv.out
        · rw [HNX.out]
          exact hM3.range_of_entry
end
end Go.Proofs.Ytnckgkgilnmocaa
set_option linter.unusedSimpArgs false
set_option linter.unusedVariables false
namespace Go.Proofs.Ytnckgkgilnmocaa
open Go.RowKit Go.Maps Go.Sort Go.Shelf
abbrev R1 : Value → Option (DataW Unit × List MemPlace) := fun _ => some (.lit (.bool true), [])
end Go.Proofs.Ytnckgkgilnmocaa
set_option linter.unusedSimpArgs false
set_option linter.unusedVariables false
namespace Go.Proofs.Ytnckgkgilnmocaa
open Go.RowKit
attribute [local go_sem] extract_mid extract_drop bget bsize wrap64_u8 i64_u8 u64_u8 bappend
section
variable {P : Program} {w : World} {ops : Array Oper} {o : Oper} {ac : Act} {Q : Exit → Act → World → Prop} {L R : List SProp} {K : Act → World → Prop}
end
/-- How many bytes of the j-th loose sector are kept. -/
def chN (ch : List Int) (j : Nat) : Nat := match ch[j]? with
  | some x => if 64 < (if x < 0 then (0 : Int) else x) then 64 else (if x < 0 then (0 : Int) else x).toNat
  | none => 0
def crB (D : Dsk) (ch : List Int) (i j : Nat) : List UInt8 := (D.nw i).take (chN ch j) ++ (D.su i).drop (chN ch j)
section
variable {F : List SProp} {a : DA} {D : Dsk}
end
end Go.Proofs.Ytnckgkgilnmocaa
set_option linter.unusedSimpArgs false
set_option linter.unusedVariables false
namespace Go.Proofs.Ytnckgkgilnmocaa
open Go.RowKit
attribute [local go_sem] extract_mid extract_drop bget bsize wrap64_u8 i64_u8 u64_u8 bappend
/-- An empty disk. -/
def newD (N : Nat) : Dsk := ⟨List.replicate N zs64, List.replicate N zs64, List.replicate N false, false, 0⟩
theorem newD_len (N : Nat) : (newD N).sure.length = N := by simp [newD]
theorem newD_ok {N : Nat} (h : N ≤ 65536) : (newD N).ok where
  ln := rfl
  ll := by simp [newD]
  s64 b hb := by rw [(List.mem_replicate.1 hb).2]; exact zs64_len
  n64 b hb := by rw [(List.mem_replicate.1 hb).2]; exact zs64_len
  same _ _ _ := rfl
  size := by rw [newD_len]; exact h
  i64a := by show (-9223372036854775808 : Int) ≤ 0; decide
  i64b := by show (0 : Int) ≤ 9223372036854775807; decide
  arm h := by cases h
theorem newD_keys (N : Nat) : (newD N).keys = [] := by
  refine List.filter_eq_nil_iff.2 fun i _ => ?_
  show ¬ ((List.replicate N false).getD i false = true)
  rw [getD_rep]
  simp
theorem newD_lmv (N : Nat) : lmv (newD N) = [] := by unfold lmv; rw [newD_keys]; rfl
theorem flat_rep (N : Nat) : (List.replicate N zs64).flatten = List.replicate (N * 64) 0 := by
  unfold zs64
  rw [List.flatten_replicate_replicate]
section
variable {P : Program} {w : World} {ops : Array Oper} {o : Oper} {a : Act} {Q : Exit → Act → World → Prop} {L R : List SProp} {K : Act → World → Prop}
/-- make([]T, n), T some cells that are all alike. -/
theorem ws_make_rows (hM : Star L w) {t : TypeId} {x y : Operand} (ho : o.op = .makeSlice t x y) (e : TypeId) (z : Value) (size bytes : Nat) (u : Value) (ht : P.underlying t = some (.slice e)) (hi : (P.info? e).map (fun i => (i.zero, i.size, i.bytes)) = some (some z, size, bytes)) (hz : z.cells = (List.replicate size u).toArray) (hz0 : 0 < size) (hby : bytes ≤ 100)
    {n : Nat} (hx : a.eval x = .int .i64 (n : Int)) (hy : a.eval y = .int .i64 (n : Int)) (hsm : n ≤ 1000000000)
    (h : ∀ g w1, Star (cellsE g e (List.replicate (n * size) u).toArray :: L) w1 → K (a.put o.dst (.slice (some ⟨g, 0, none⟩) n n)) w1) : Oper.wp P o a w K Q := by
  obtain ⟨i, hi0, hz1, hsize, hb1⟩ := info_parts hi
  have hb : (i.bytes : Int) * (n : Int) ≤ 281474976710656 := by
    have h1 : i.bytes * n ≤ 100 * 1000000000 := Nat.mul_le_mul (by omega) hsm
    have : ((i.bytes * n : Nat) : Int) ≤ 281474976710656 := by omega
    rwa [Int.natCast_mul] at this
  have hr := run_make (P := P) w t e i z ht hi0 hz1 .i64 .i64 n n (by omega) (by omega) hb (by omega)
  simp only [Int.toNat_natCast] at hr
  have hc : madeCells z.cells (n * i.size) = (List.replicate (n * size) u).toArray := by
    rw [hz, hsize]
    apply Array.ext
    · simp [madeCells]
    · intro j h1 h2
      have : j % size < size := Nat.mod_lt _ hz0
      simp [madeCells, this]
  rw [hc] at hr
  unfold Oper.wp
  simp only [execOp, ho, hx, hy, hr, Sem.run_bind, Sem.run_pure, Result.andThen_ok]
  exact h _ _ (hM.new_ ((Ch.refl _ _).alloc _) (Blk.new w e _) fun k hk => by rw [hk]; exact Nat.le_refl _)
end
theorem info_blk3 : (Try.prog.info? 97).map (fun i => (i.zero, i.size, i.bytes)) = some (some (.agg (List.replicate 64 (bv 0)).toArray), 64, 64) := by kernel_rfl
section
variable {F : List SProp}
set_option maxRecDepth 100000 in
set_option maxHeartbeats 2000000 in
theorem new_d {n : Int} {N : Nat} (hn : max 0 (min n 65536) = (N : Int)) (w : World) (hM : Star F w) :
    Calls Try.prog 19 #[.int .i64 n] w fun r w' => ∃ a : DA, r = .returned (dptr a) ∧ Star (diskE a (newD N) :: F) w' := by
  have hN : N ≤ 65536 := by omega
  have hn2 : (if (0 : Int) < (if 65536 < n then 65536 else n) then (if 65536 < n then 65536 else n) else 0) = (N : Int) := by split <;> split at * <;> omega
  have tok1 : True := trivial
  have tok2 : True := trivial
  go_enter Try.func19, Try.ntmps19
  go_wp2_with (first | (have _t := tok1; refine BigFrame.wpList_want (by rfl) fun K hK => ws_build rfl (.agg #[.bool false, .int .i64 0]) (by kernel_rfl) (hK _ _ ?_); clear hK K tok1) | (have _t := tok2; refine BigFrame.wpList_want (by rfl) fun K hK => ws_build rfl (.agg #[.pointer (some ⟨f, 0, none⟩), .slice (some ⟨g, 0, none⟩) N N, .map (some m)]) (by kernel_rfl) (hK _ _ ?_); clear hK K tok2) | (first | ((with_reducible refine at_box' ?_); (have hM0 := hM; clear hM; refine BigFrame.wpList_want (by rfl) fun K hK => ws_box hM0 rfl rfl (cs := #[.bool false, .int .i64 0]) rfl (fun f w hM => hK _ _ ?_); clear hM0 hK K)) | fail) | ((with_reducible refine at_make' ?_); have hM0 := hM; clear hM; refine BigFrame.wpList_want (by rfl) fun K hK => ws_make_rows (n := N) hM0 rfl 97 _ 64 64 (bv 0) Try.underlying92 info_blk3 rfl (by decide) (by decide) rfl rfl (by omega) (fun g w hM => hK _ _ ?_); clear hM0 hK K) | (first | ((with_reducible refine at_makemap' ?_); (have hM0 := hM; clear hM; refine BigFrame.wpList_want (by rfl) fun K hK => ws_makemap hM0 rfl 3 (fun m w hM => hK _ _ ?_); clear hM0 hK K)) | fail) | (first | ((with_reducible refine at_box' ?_); (have hM0 := hM; clear hM; refine BigFrame.wpList_want (by rfl) fun K hK => ws_box hM0 rfl rfl (cs := #[.pointer (some ⟨f, 0, none⟩), .slice (some ⟨g, 0, none⟩) N N, .map (some m)]) rfl (fun d w hM => hK _ _ ?_); clear hM0 hK K)) | fail))
  go_ret
  refine ⟨⟨d, f, m, g⟩, rfl, Star.djoin (D := newD N) ?_⟩
  rw [newD_lmv, newD_len]
  have e1 : (List.replicate (N * 64) (bv 0)) = bvs (newD N).sure.flatten := by
    show _ = bvs (List.replicate N zs64).flatten
    rw [flat_rep]
    simp [bvs]
  rw [e1] at hM
  exact (hM.sel (by repeat (first | (with_reducible exact Sel.refl) | (with_reducible exact Take.head) | (with_reducible apply Take.tail) | (with_reducible apply Sel.cons) | (with_reducible apply Sel.drop))) : Star (cellsE d 95 #[.pointer (some ⟨f, 0, none⟩), .slice (some ⟨g, 0, none⟩) N N, .map (some m)] :: cellsE f 106 #[.bool false, .int .i64 0] :: cellsE g 97 (bvs (newD N).sure.flatten).toArray :: mapE Try.prog 3 m [] :: F) _)
end
end Go.Proofs.Ytnckgkgilnmocaa
set_option linter.unusedSimpArgs false
set_option linter.unusedVariables false
namespace Go.Proofs.Ytnckgkgilnmocaa
open Go.RowKit
attribute [local go_sem] extract_mid extract_drop bget bsize wrap64_u8 i64_u8 u64_u8 bappend
theorem wrD_nw {D : Dsk} (h : D.ok) (at_ : Nat) (ts : List (List UInt8)) (k : Nat) (hk : at_ + k ≤ D.sure.length) (i : Nat) :
    (wrD D at_ ts k).nw i = (if at_ ≤ i ∧ i < at_ + k then pad64 (ts.getD (i - at_) []) else D.nw i) ∧ (wrD D at_ ts k).l i = (decide (at_ ≤ i ∧ i < at_ + k) || D.l i) := by
  induction k with
  | zero =>
    have h1 : ¬ (at_ ≤ i ∧ i < at_ + 0) := by omega
    rw [if_neg h1, decide_eq_false h1]
    exact ⟨rfl, rfl⟩
  | succ k ih =>
    have h2 := wrD_ok h at_ ts k (by omega)
    have h3 : at_ + k < (wrD D at_ ts k).sure.length := by rw [(wrD_sure D at_ ts k).1]; omega
    obtain ⟨i1, i2⟩ := ih (by omega)
    rw [wrD_succ, put_nw h2 h3, put_l h2 h3, i1, i2]
    by_cases e : i = at_ + k
    · subst e
      rw [if_pos rfl, if_pos rfl, if_pos (by omega), decide_eq_true (by omega : at_ ≤ at_ + k ∧ at_ + k < at_ + (k + 1)), Nat.add_sub_cancel_left]
      exact ⟨rfl, rfl⟩
    · rw [if_neg e, if_neg e]
      have h4 : (at_ ≤ i ∧ i < at_ + (k + 1)) ↔ (at_ ≤ i ∧ i < at_ + k) := by omega
      refine ⟨?_, ?_⟩ <;> simp only [h4]
structure WPost (D D' : Dsk) (at_ : Nat) (ts : List (List UInt8)) : Prop where
  ok : D'.ok
  sure : D'.sure = D.sure
  armed : D'.armed = D.armed
  nw : ∀ i, D'.nw i = if at_ ≤ i ∧ i < at_ + ts.length then pad64 (ts.getD (i - at_) []) else D.nw i
  l : ∀ i, D'.l i = (decide (at_ ≤ i ∧ i < at_ + ts.length) || D.l i)
structure SPost (D D' : Dsk) : Prop where
  ok : D'.ok
  len : D'.sure.length = D.sure.length
  armed : D'.armed = D.armed
  nw : ∀ i, D'.nw i = D.nw i
  su : ∀ i, D'.su i = D.nw i
  l : ∀ i, D'.l i = false
structure CPost (D D' : Dsk) (ch : List Int) : Prop where
  ok : D'.ok
  len : D'.sure.length = D.sure.length
  armed : D'.armed = false
  nw : ∀ i, D'.nw i = D'.su i
  l : ∀ i, D'.l i = false
  calm : ∀ i, D.l i = false → i < D.sure.length → D'.su i = D.su i
  torn : ∀ i j, D.keys[j]? = some i → D'.su i = crB D ch i j
theorem rdD_one (D : Dsk) (at_ : Nat) : rdD D at_ 1 = D.nw at_ := by simp [rdD]
theorem rdD_len {D : Dsk} (h : D.ok) (at_ n : Nat) (hi : at_ + n ≤ D.sure.length) : (rdD D at_ n).length = 64 * n := by
  induction n with
  | zero => rfl
  | succ n ih => rw [rdD_succ, List.length_append, ih (by omega), nw_len h (by omega)]; omega
/-- A sector of what is read. -/
theorem rdD_at {D : Dsk} (h : D.ok) (at_ n i : Nat) (hi : at_ + n ≤ D.sure.length) (hin : i < n) : ((rdD D at_ n).drop (64 * i)).take 64 = D.nw (at_ + i) := by
  induction n with
  | zero => omega
  | succ n ih =>
    have hl := rdD_len h at_ n (by omega)
    rw [rdD_succ]
    by_cases e : i = n
    · subst e
      rw [List.drop_append, List.drop_of_length_le (by omega), List.nil_append, hl, Nat.sub_self, List.drop_zero, List.take_of_length_le (by rw [nw_len h (by omega)]; omega)]
    · rw [List.drop_append_of_le_length (by omega), List.take_append_of_le_length (by rw [List.length_drop]; omega)]
      exact ih (by omega) (by omega)
section
variable {F : List SProp} {a : DA} {D : Dsk}
theorem write_u {ts : List (List UInt8)} {A : Option Addr} {n c : Nat} {x : Int} (at_ : Nat) (hx : x = at_) (h : D.ok) (hi : at_ + n ≤ D.sure.length) (hb : anyBig ts = false) (hf : D.armed = false) (w : World) (hM : Star (diskE a D :: F) w) (hF : rowE 1 A n (svs ts) ∈ F) :
    Calls Try.prog 38 #[dptr a, .int .i64 x, .slice A n c] w fun r w' => ∃ D', Hid (WPost D D' at_ ts) ∧ r = .returned (.int .i64 0) ∧ Star (diskE a D' :: F) w' := by
  subst hx
  have hf2 : D.armed = true → D.left ≠ 0 := fun e => by rw [hf] at e; cases e
  have hl : ts.length = n := svs_row (hM.row (A := A) (n := n) (xs := svs ts) (List.mem_cons_of_mem _ hF))
  have hok := dec_ok h hf2
  refine (write_ok h at_ hi hb hf2 w hM hF).mono fun r w' ⟨e, hM⟩ => ⟨_, ⟨wrD_ok hok at_ ts n hi, (wrD_sure _ _ _ _).1, (wrD_sure _ _ _ _).2.1, fun i => ?_, fun i => ?_⟩, e, hM⟩
  · rw [hl]; exact (wrD_nw hok at_ ts n hi i).1
  · rw [hl]; exact (wrD_nw hok at_ ts n hi i).2
theorem sync_u (h : D.ok) (hf : D.armed = false) (w : World) (hM : Star (diskE a D :: F) w) :
    Calls Try.prog 13 #[dptr a] w fun r w' => ∃ D', Hid (SPost D D') ∧ r = .returned (.int .i64 0) ∧ Star (diskE a D' :: F) w' := by
  have hf2 : D.armed = true → D.left ≠ 0 := fun e => by rw [hf] at e; cases e
  refine (sync_ok h hf2 w hM).mono fun r w' ⟨e, hM⟩ => ⟨_, ⟨calm_ok (dec_ok h hf2) h.n64 h.ln, h.ln, rfl, fun i => rfl, fun i => rfl, fun i => getD_rep _ i⟩, e, hM⟩
/-- What a Read leaves. -/
structure RPost (D D' : Dsk) : Prop where
  ok : D'.ok
  sure : D'.sure = D.sure
  armed : D'.armed = D.armed
  nw : ∀ i, D'.nw i = D.nw i
  l : ∀ i, D'.l i = D.l i
theorem read_u {x y : Int} (at_ n : Nat) (hx : x = at_) (hy : y = n) (h : D.ok) (hi : at_ + n ≤ D.sure.length) (hf : D.armed = false) (w : World) (hM : Star (diskE a D :: F) w) :
    Calls Try.prog 42 #[dptr a, .int .i64 x, .int .i64 y] w fun r w' => ∃ D', Hid (RPost D D') ∧ r = .returned (.tuple #[.string ⟨(rdD D at_ n).toArray⟩, .int .i64 0]) ∧ Star (diskE a D' :: F) w' := by
  subst hx hy
  have hf2 : D.armed = true → D.left ≠ 0 := fun e => by rw [hf] at e; cases e
  exact (read_ok h at_ n hi hf2 w hM).mono fun r w' ⟨e, hM⟩ => ⟨_, ⟨dec_ok h hf2, rfl, rfl, fun i => rfl, fun i => rfl⟩, e, hM⟩
/-- An empty disk, by what holds of it. -/
structure NPost (D : Dsk) (N : Nat) : Prop where
  ok : D.ok
  len : D.sure.length = N
  armed : D.armed = false
  nw : ∀ i, i < N → D.nw i = zs64
  l : ∀ i, D.l i = false
theorem new_u {n : Int} {N : Nat} (hn : max 0 (min n 65536) = (N : Int)) (w : World) (hM : Star F w) :
    Calls Try.prog 19 #[.int .i64 n] w fun r w' => ∃ (a : DA) (D : Dsk), Hid (NPost D N) ∧ r = .returned (dptr a) ∧ Star (diskE a D :: F) w' :=
  (new_d hn w hM).mono fun r w' ⟨a, e, hM⟩ => ⟨a, newD N, ⟨newD_ok (by omega), newD_len N, rfl, fun i hi => by show (List.replicate N zs64).getD i [] = _; rw [List.getD_eq_getElem?_getD, List.getElem?_replicate, if_pos hi]; rfl, fun i => getD_rep _ i⟩, e, hM⟩
end
end Go.Proofs.Ytnckgkgilnmocaa
set_option linter.unusedSimpArgs false
set_option linter.unusedVariables false
namespace Go.Proofs.Ytnckgkgilnmocaa
open Go.RowKit
abbrev Rc := Nat × List UInt8
abbrev rcGood (r : Rc) : Prop := 1 ≤ r.1 ∧ r.1 ≤ 200 ∧ r.2.length ≤ 4096
def nlen (n : Nat) : Nat := (encNum n).length
theorem nlen_le (n : Nat) : nlen n ≤ 9 := encNum_len n
theorem kind_len {k : Nat} (h1 : 1 ≤ k) (h2 : k ≤ 200) : nlen k = 2 := by
  have h : ∀ k < 201, 1 ≤ k → nlen k = 2 := by decide +kernel
  exact h k (by omega) h1
theorem digF_len_lt (m f n : Nat) (h : n < 256 ^ m) : (digF f n).length ≤ m := by
  induction m generalizing f n with
  | zero => have : n = 0 := by simpa using h
            subst this; simp [digF_zero]
  | succ m ih =>
    cases f with
    | zero => simp [digF]
    | succ f =>
      by_cases h0 : n = 0
      · subst h0; simp [digF_zero]
      · rw [digF_pos f n h0, List.length_append]
        have := ih f (n / 256) (by rw [Nat.div_lt_iff_lt_mul (by omega)]; rw [Nat.pow_succ] at h; exact h)
        simp; omega
theorem nlen_small {n : Nat} (h : n ≤ 65535) : nlen n ≤ 3 := by
  have := digF_len_lt 2 8 n (by omega)
  simp only [nlen, encNum, dig, List.length_cons]; omega
/-- How many sectors a record takes. -/
def bcost (n : Nat) : Nat := (97 + nlen n + n) / 64
theorem bcost_pos (n : Nat) : 1 ≤ bcost n := by unfold bcost; omega
theorem bcost_le {n : Nat} (h : n ≤ 4096) : bcost n ≤ 66 := by have := nlen_le n; unfold bcost; omega
abbrev rcost (r : Rc) : Nat := bcost r.2.length
def rbody (r : Rc) : List UInt8 := encNum r.1 ++ encStr r.2
def rsum (p : List UInt8) (r : Rc) : List UInt8 := sha (p ++ rbody r)
theorem rsum_len (p : List UInt8) (r : Rc) : (rsum p r).length = 32 := sha_len _
def rtxt (p : List UInt8) (r : Rc) : List UInt8 := rsum p r ++ rbody r
theorem rbody_len {r : Rc} (h : rcGood r) : (rbody r).length = 2 + nlen r.2.length + r.2.length := by
  have := kind_len h.1 h.2.1
  unfold nlen at this
  simp only [rbody, encStr, List.length_append, this, nlen]; omega
theorem rtxt_len {r : Rc} (h : rcGood r) (p : List UInt8) : (rtxt p r).length = 34 + nlen r.2.length + r.2.length := by
  rw [rtxt, List.length_append, rsum_len, rbody_len h]; omega
theorem rcost_eq {r : Rc} (h : rcGood r) (p : List UInt8) : rcost r = ((rtxt p r).length + 63) / 64 := by
  rw [rtxt_len h]; unfold rcost bcost; congr 1; omega
def tot (l : List Rc) : Nat := (l.map rcost).sum
theorem tot_cons (r : Rc) (l : List Rc) : tot (r :: l) = rcost r + tot l := by simp [tot]
theorem tot_app (a b : List Rc) : tot (a ++ b) = tot a + tot b := by simp [tot]
def esum (p : List UInt8) (l : List Rc) : List UInt8 := l.foldl rsum p
theorem esum_len {p : List UInt8} (h : p.length = 32) (l : List Rc) : (esum p l).length = 32 := by
  induction l generalizing p with
  | nil => exact h
  | cons r l ih => exact ih (rsum_len p r)
theorem esum_app (p : List UInt8) (a b : List Rc) : esum p (a ++ b) = esum (esum p a) b := by simp [esum]
/-- A text, cut into sectors. -/
def spl (s : List UInt8) (n : Nat) : List (List UInt8) := (List.range n).map fun i => (s.drop (64 * i)).take 64
theorem spl_len (s : List UInt8) (n : Nat) : (spl s n).length = n := by simp [spl]
theorem spl_succ (s : List UInt8) (n : Nat) : spl s (n + 1) = spl s n ++ [(s.drop (64 * n)).take 64] := by simp [spl, List.range_succ]
theorem spl_get {s : List UInt8} {n i : Nat} (h : i < n) : (spl s n).getD i [] = (s.drop (64 * i)).take 64 := by
  rw [List.getD_eq_getElem?_getD]
  simp [spl, h]
theorem spl_small (s : List UInt8) (n : Nat) : anyBig (spl s n) = false := by
  unfold anyBig spl
  rw [List.any_eq_false]
  intro x hx
  obtain ⟨i, _, rfl⟩ := List.mem_map.1 hx
  simp
  omega
/-- What so many sectors hold. -/
def rd (f : Nat → List UInt8) (at_ n : Nat) : List UInt8 := (List.range n).flatMap fun j => f (at_ + j)
theorem rdD_rd (D : Dsk) (at_ n : Nat) : rdD D at_ n = rd D.nw at_ n := rfl
theorem rd_succ (f : Nat → List UInt8) (at_ n : Nat) : rd f at_ (n + 1) = rd f at_ n ++ f (at_ + n) := by
  unfold rd
  rw [List.range_succ, List.flatMap_append]
  simp
theorem rd_congr {f g : Nat → List UInt8} {at_ n : Nat} (h : ∀ i, at_ ≤ i → i < at_ + n → f i = g i) : rd f at_ n = rd g at_ n := by
  induction n with
  | zero => rfl
  | succ n ih => rw [rd_succ, rd_succ, ih fun i h1 h2 => h i h1 (by omega), h (at_ + n) (by omega) (by omega)]
theorem pad64_full {s : List UInt8} (h : s.length = 64) : pad64 s = s := by
  unfold pad64 over
  rw [List.take_of_length_le (by rw [zs64_len]; omega), List.drop_of_length_le (by rw [zs64_len]; omega), List.append_nil]
theorem pad64_short {s : List UInt8} (h : s.length ≤ 64) : pad64 s = s ++ List.replicate (64 - s.length) 0 := by
  unfold pad64 over zs64
  rw [List.take_of_length_le (by rw [List.length_replicate]; omega), List.drop_replicate]
theorem rd_spl {f : Nat → List UInt8} {at_ : Nat} {s : List UInt8} {n : Nat} (hn : n = (s.length + 63) / 64) (h0 : 1 ≤ s.length) (h : ∀ i, i < n → f (at_ + i) = pad64 ((spl s n).getD i [])) : ∃ z, rd f at_ n = s ++ z := by
  have h1 : ∀ k, k < n → rd f at_ k = s.take (64 * k) := by
    intro k
    induction k with
    | zero => intro _; rfl
    | succ k ih =>
      intro hk
      rw [rd_succ, ih (by omega), h k (by omega), spl_get (by omega), pad64_full (by rw [List.length_take, List.length_drop]; omega)]
      rw [show 64 * (k + 1) = 64 * k + 64 by omega, List.take_add]
  obtain ⟨m, rfl⟩ : ∃ m, n = m + 1 := ⟨n - 1, by omega⟩
  rw [rd_succ, h1 m (by omega), h m (by omega), spl_get (by omega), pad64_short (by rw [List.length_take]; omega), ← List.append_assoc, List.take_of_length_le (l := s.drop (64 * m)) (by rw [List.length_drop]; omega), List.take_append_drop]
  exact ⟨_, rfl⟩
/-- Records lie one behind the other. -/
def lies (f : Nat → List UInt8) : Nat → List UInt8 → List Rc → Prop
  | _, _, [] => True
  | at_, p, r :: l => (∃ z, rd f at_ (rcost r) = rtxt p r ++ z) ∧ lies f (at_ + rcost r) (rsum p r) l
theorem lies_congr {f g : Nat → List UInt8} {l : List Rc} : ∀ {at_ : Nat} {p : List UInt8}, (∀ i, at_ ≤ i → i < at_ + tot l → f i = g i) → lies f at_ p l → lies g at_ p l := by
  induction l with
  | nil => intro _ _ _ _; trivial
  | cons r l ih =>
    intro at_ p h ⟨⟨z, h1⟩, h2⟩
    rw [tot_cons] at h
    refine ⟨⟨z, ?_⟩, ih (fun i h3 h4 => h i (by omega) (by omega)) h2⟩
    rw [← h1]
    exact (rd_congr fun i h3 h4 => h i h3 (by omega)).symm
theorem lies_app {f : Nat → List UInt8} {a b : List Rc} : ∀ {at_ : Nat} {p : List UInt8}, lies f at_ p (a ++ b) ↔ lies f at_ p a ∧ lies f (at_ + tot a) (esum p a) b := by
  induction a with
  | nil => intro at_ p; simp [lies, tot, esum]
  | cons r a ih =>
    intro at_ p
    show _ ∧ lies f _ _ (a ++ b) ↔ _
    rw [ih, tot_cons, Nat.add_assoc]
    exact and_assoc.symm
/-- By the sector of a record: the sum of the one ahead. -/
def pms : Nat → List UInt8 → List Rc → List (Nat × List UInt8)
  | _, _, [] => []
  | at_, p, r :: l => (at_, p) :: pms (at_ + rcost r) (rsum p r) l
theorem pms_app (a b : List Rc) : ∀ (at_ : Nat) (p : List UInt8), pms at_ p (a ++ b) = pms at_ p a ++ pms (at_ + tot a) (esum p a) b := by
  induction a with
  | nil => intro at_ p; simp [pms, tot, esum]
  | cons r a ih => intro at_ p; simp only [List.cons_append, pms, ih, tot_cons, Nat.add_assoc]; rfl
theorem pms_lt {l : List Rc} : ∀ {at_ : Nat} {p : List UInt8}, ∀ x ∈ pms at_ p l, at_ ≤ x.1 ∧ x.1 < at_ + tot l := by
  induction l with
  | nil => intro _ _ x hx; cases hx
  | cons r l ih =>
    intro at_ p x hx
    have h1 := bcost_pos r.2.length
    rw [tot_cons]
    rcases List.mem_cons.1 hx with rfl | hx
    · exact ⟨Nat.le_refl _, by show at_ < _; unfold rcost; omega⟩
    · have := ih x hx
      unfold rcost at *; omega
/-- Where records lie. -/
def ats : Nat → List Rc → List (Rc × Nat)
  | _, [] => []
  | at_, r :: l => (r, at_) :: ats (at_ + rcost r) l
theorem ats_app (a b : List Rc) : ∀ (at_ : Nat), ats at_ (a ++ b) = ats at_ a ++ ats (at_ + tot a) b := by
  induction a with
  | nil => intro at_; simp [ats, tot]
  | cons r a ih => intro at_; simp only [List.cons_append, ats, ih, tot_cons, Nat.add_assoc]
theorem ats_fst (l : List Rc) : ∀ (at_ : Nat), (ats at_ l).map (·.1) = l := by
  induction l with
  | nil => intro _; rfl
  | cons r l ih => intro at_; simp [ats, ih]
/-- A turn's seed, and its head. -/
def seedT (t : Nat) : List UInt8 := sha ([116, 117, 114, 110] ++ encNum t)
def headT (t : Nat) : List UInt8 := sha ([104, 101, 97, 100] ++ encNum t) ++ encNum t
theorem seedT_len (t : Nat) : (seedT t).length = 32 := sha_len _
theorem headT_len (t : Nat) : (headT t).length ≤ 41 := by have := nlen_le t; unfold nlen at this; simp only [headT, List.length_append, sha_len]; omega
/-- The turn of a head: its number stands behind 32 bytes. -/
theorem headT_num (t : Nat) (z : List UInt8) (ht : t ≤ 1000000) : mInt (headT t ++ z |>.drop 32) 0 1125899906842624 = ((t : Int), z, 0) := by
  have h : (headT t ++ z).drop 32 = encNum t ++ z := by
    rw [headT, List.append_assoc, List.drop_append, List.drop_of_length_le (by rw [sha_len]; omega), sha_len]
    rfl
  rw [h]
  exact mInt_enc t z _ (by omega) (by omega)
/-- A record's numbers, in its first sector. -/
theorem rtxt_kind {r : Rc} (h : rcGood r) (p z : List UInt8) : (rtxt p r ++ z).drop 32 = encNum r.1 ++ (encNum r.2.length ++ (r.2 ++ z)) := by
  rw [rtxt, List.append_assoc, List.drop_append, List.drop_of_length_le (by rw [rsum_len]; omega), rsum_len]
  simp [rbody, encStr]
theorem take_app_le {α : Type} (a b : List α) {n : Nat} (h : a.length ≤ n) : (a ++ b).take n = a ++ b.take (n - a.length) := by
  rw [List.take_append, List.take_of_length_le h]
theorem first_nums {r : Rc} (h : rcGood r) (p z : List UInt8) (hz : 64 ≤ (rtxt p r ++ z).length) : ∃ u, mInt (((rtxt p r ++ z).take 64).drop 32) 0 200 = ((r.1 : Int), u, 0) ∧ ∃ v, mInt u 0 4096 = ((r.2.length : Int), v, 0) ∧ v.length = 30 - nlen r.2.length := by
  have h1 := kind_len h.1 h.2.1
  have h2 := nlen_small (n := r.2.length) (by omega)
  unfold nlen at h1 h2
  have e1 : ((rtxt p r ++ z).take 64).drop 32 = encNum r.1 ++ (encNum r.2.length ++ ((r.2 ++ z).take (30 - (encNum r.2.length).length))) := by
    rw [List.drop_take, rtxt_kind h, take_app_le _ _ (by omega), h1, take_app_le _ _ (by omega)]
  have hl : (rtxt p r ++ z).length = 34 + (encNum r.2.length).length + (r.2 ++ z).length := by
    rw [List.length_append, rtxt_len h, List.length_append]; unfold nlen; omega
  refine ⟨encNum r.2.length ++ ((r.2 ++ z).take (30 - (encNum r.2.length).length)), ?_, (r.2 ++ z).take (30 - (encNum r.2.length).length), ?_, ?_⟩
  · rw [e1]; exact mInt_enc _ _ _ (by omega) (by omega)
  · exact mInt_enc _ _ _ (by omega) (by omega)
  · rw [List.length_take, Nat.min_eq_left (by omega)]; rfl
theorem rtxt_data {r : Rc} (h : rcGood r) (p z : List UInt8) : ((rtxt p r ++ z).drop (34 + nlen r.2.length)).take r.2.length = r.2 := by
  have h1 := kind_len h.1 h.2.1
  unfold nlen at h1
  have e1 : (rtxt p r ++ z).drop (34 + nlen r.2.length) = r.2 ++ z := by
    rw [show 34 + nlen r.2.length = 32 + (2 + nlen r.2.length) by omega, ← List.drop_drop, rtxt_kind h, ← List.drop_drop, List.drop_append (l₁ := encNum r.1), List.drop_of_length_le (l := encNum r.1) (by omega), h1, Nat.sub_self, List.nil_append, List.drop_zero, List.drop_append, List.drop_of_length_le (l := encNum r.2.length) (by unfold nlen; omega)]
    unfold nlen
    rw [Nat.sub_self]
    rfl
  rw [e1, List.take_left']
  rfl
/-- An empty sector's number. -/
theorem zero_num : mInt (zs64.drop 32) 0 200 = (0, List.replicate 31 0, 0) ∧ mInt (List.replicate 31 (0 : UInt8)) 0 4096 = (0, List.replicate 30 0, 0) ∧ mInt (zs64.drop 32) 0 1125899906842624 = (0, List.replicate 31 0, 0) := by decide +kernel
end Go.Proofs.Ytnckgkgilnmocaa
