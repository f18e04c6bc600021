/- What the laws share, part 14 (Law, OpenT, LetO, LetK, LetterCut). No condition but those that each theorem names. -/
import Derived.Test.YtlhedbjjlomniaaLt1
import Derived.Test.YtlhedbjjlomniaaLt11
import Derived.Test.YtlhedbjjlomniaaLt13
import Derived.Test.YtlhedbjjlomniaaLt2
import Derived.Carry
import Derived.ChangeSame
import Derived.Deep.Fields
import Derived.Deep.Grids
import Derived.Deep.SlicePairs
import Derived.Deep.Slices
import Derived.Deep.Strs
import Derived.OpenShut
import Derived.ProofKit
import Derived.ShutString
import Derived.WideKeyArgs
set_option linter.unusedSimpArgs false
set_option linter.unusedVariables false
namespace Go.Proofs.Ytlhedbjjlomniaa
open Go.RowKit Go.WideShapes Go.ChangeShapes Go.ChangeAt
section
variable {H : Type} {enc : TypeId × Value → H} {P : Program}
theorem post_of_below {f : Func} {s : ChangeSpec} {apart fresh handsOn again : Bool} {W W' : World} {args : Array Value} {v : Value} {ds gs : List (DataW H)} {before pa pv : List MemPlace}
    (hW : DataW.Whole enc P f.params.toList s.vars apart W args.toList ds gs before)
    (hres : ∀ (b : Nat) (sp : Nat → Bool) (hd : Bool), DataW.TrodAll enc P W' b sp hd f.resultTypes.toList (v.resultList f.resultTypes.size) (s.fn H (ds ++ gs)).results [])
    (hargs : ∀ sp : Nat → Bool, (∀ p ∈ before, sp p.block = true) → DataW.TrodAll enc P W' 0 sp true f.params.toList args.toList (s.fn H (ds ++ gs)).args pa)
    (hvars : ∀ sp : Nat → Bool, (∀ p ∈ before, sp p.block = true) → DataW.TrodVars enc P W' sp s.vars (s.fn H (ds ++ gs)).vars pv)
    (hps : before = pa ++ pv) (hb : Below W.heap.size W W')
    (hok : ∀ (j : Nat) (t : TypeId) (r : Value), f.resultTypes[j]? = some t → (v.resultList f.resultTypes.size)[j]? = some r → Value.okWide P W' .any 0 t r) :
    s.post enc P f apart fresh handsOn again W args v W' := by
  have hlt : ∀ p ∈ before, p.block < W.heap.size := fun p hp => hW.lt p hp
  have hold : ∀ p ∈ before, (fun b => decide (b < W.heap.size)) p.block = true := fun p hp => by simpa using hlt p hp
  refine ⟨ds, gs, before, [], pa, pv, hW, hres _ _ _, hargs _ hold, hvars _ hold, World.keptBut_mono (fun p hp => ⟨hp, ?_⟩) (hb.frame (· ∈ before)), fun _ => ?_⟩
  · rw [hps, List.mem_append] at hp
    exact Or.inr hp
  · obtain ⟨_, _, _, _, _, hz, hn⟩ := hW
    refine ⟨hok, _, _, ([] ++ pa) ++ pv, ⟨[] ++ pa, pv, trodAll_append (hargs _ (fun _ _ => rfl)) (hres _ _ _), hvars _ (fun _ _ => rfl), rfl, ?_, ?_⟩, ?_⟩
    · intro b off hp
      have hin : MemPlace.cell b off ∈ before := by rw [hps]; simpa using hp
      rw [hb.frozen (hlt _ hin)]
      exact hz b off hin
    · intro ha
      have := hn ha
      rw [hps] at this
      simpa using this
    · intro p hp _
      rw [hps]
      simpa using hp
/-- All arguments read as they did where nothing that was there has turned. -/
theorem args_stay (hl : laidOutB P = true) {W W' : World} (hb : Below W.heap.size W W') (sp : Nat → Bool) :
    ∀ (ts : List TypeId) (vs : List Value) (ds : List (DataW H)) (ps : List MemPlace), (ts.all fun t => P.readableRec t && decide (t < P.types.size)) = true →
      DataW.TrodAll enc P W 0 (fun _ => true) true ts vs ds ps → (∀ x ∈ ps, x.block < W.heap.size) → (∀ x ∈ ps, sp x.block = true) → DataW.TrodAll enc P W' 0 sp true ts vs ds ps := by
  intro ts
  induction ts with
  | nil =>
    intro vs ds ps _ h _ _
    obtain ⟨rfl, rfl, rfl⟩ := trodAll_nil h
    exact trodAll_mk0
  | cons t ts ih =>
    intro vs ds ps hr h hlt hs
    obtain ⟨v, vs', d, ds', p, q, rfl, rfl, rfl, h0, h1⟩ := trodAll_cons h
    simp only [List.all_cons, Bool.and_eq_true, decide_eq_true_eq] at hr
    exact trodAll_cons_mk (WideElems.Trod_stays hl hr.1.1 hr.1.2 h0 (fun x hx => hb.same (hlt x (List.mem_append.2 (.inl hx)))) (fun x hx => hs x (List.mem_append.2 (.inl hx))))
      (ih vs' ds' q (by simpa using hr.2) h1 (fun x hx => hlt x (List.mem_append.2 (.inr hx))) (fun x hx => hs x (List.mem_append.2 (.inr hx))))
variable {w : World} {base : Nat} {spare : Nat → Bool} {held : Bool}
/-- A string's argument. -/
theorem open_str {r : Reach} {b0 : Nat} {t : TypeId} {v : Value} {d : DataW H} {p : List MemPlace} (ht : P.underlying t = some .string) (hv : Value.okWide P w r b0 t v) (h : DataW.Trod enc P w base spare held t v d p) :
    ∃ l : List UInt8, v = .string ⟨l.toArray⟩ ∧ l.length ≤ 9223372036854775807 := by
  obtain ⟨s, rfl, _, _, hs⟩ := Go.ChangeMaps.open_string ht hv h
  refine ⟨s.data.toList, by congr 1, ?_⟩
  unfold maxLen at hs
  simpa using hs
theorem open_i64 {r : Reach} {b0 : Nat} {t : TypeId} {v : Value} {d : DataW H} {p : List MemPlace} (ht : P.underlying t = some (.int .i64)) (hv : Value.okWide P w r b0 t v) (h : DataW.Trod enc P w base spare held t v d p) :
    ∃ x : Int, v = .int .i64 x ∧ -9223372036854775808 ≤ x ∧ x ≤ 9223372036854775807 := by
  obtain ⟨x, rfl, _, _, hw⟩ := open_int ht hv h
  simp [Lit.wf, IntKind.min, IntKind.max, IntKind.signed, IntKind.bits] at hw
  exact ⟨x, rfl, by omega, by omega⟩
end
end Go.Proofs.Ytlhedbjjlomniaa
set_option linter.unusedSimpArgs false
set_option linter.unusedVariables false
namespace Go.Proofs.Ytlhedbjjlomniaa
open Go.RowKit Go.WideShapes Go.ChangeShapes Go.ChangeAt
def i64ok (x : Int) : Prop := -9223372036854775808 ≤ x ∧ x ≤ 9223372036854775807
theorem wf_i64 {x : Int} (h : (Lit.int .i64 x).wf = true) : i64ok x := by
  simp [Lit.wf, IntKind.min, IntKind.max, IntKind.signed, IntKind.bits] at h
  unfold i64ok
  omega
section
variable {H : Type} {enc : TypeId × Value → H} {P : Program} {w : World} {base : Nat} {spare : Nat → Bool} {held : Bool}
end
end Go.Proofs.Ytlhedbjjlomniaa
set_option linter.unusedSimpArgs false
set_option linter.unusedVariables false
namespace Go.Proofs.Ytlhedbjjlomniaa
open Go.RowKit Go.WideShapes Go.ChangeShapes Go.ChangeAt
section
variable {H : Type} {enc : TypeId × Value → H} {P : Program} {w : World} {base : Nat} {spare : Nat → Bool} {held : Bool}
theorem get_of_cut {cs : List Value} {j : Nat} {v : Value} (h : (cs.drop j).take 1 = [v]) : cs[j]? = some v := by
  have := congrArg (·[0]?) h
  simpa [List.getElem?_take, List.getElem?_drop] using this
theorem cell_i64 {fuel : Nat} {t : TypeId} {cs : List Value} {j : Nat} {x : Option (DataW H × List MemPlace)} (ht : P.underlying t = some (.int .i64)) (hc : P.cellsOf t = 1)
    (h : DataW.trod enc P w base spare held fuel t ((cs.drop j).take (P.cellsOf t)) = x) (hx : x ≠ none) : ∃ n, cs[j]? = some (iv n) ∧ i64ok n := by
  cases x with
  | none => exact absurd rfl hx
  | some x =>
    obtain ⟨n, h1, _, h2⟩ := DataW.trod_int ht h
    rw [hc] at h1
    exact ⟨n, get_of_cut h1, wf_i64 h2⟩
theorem cell_str {fuel : Nat} {t : TypeId} {cs : List Value} {j : Nat} {x : Option (DataW H × List MemPlace)} (ht : P.underlying t = some .string) (hc : P.cellsOf t = 1)
    (h : DataW.trod enc P w base spare held fuel t ((cs.drop j).take (P.cellsOf t)) = x) (hx : x ≠ none) : ∃ l : List UInt8, cs[j]? = some (sv l) ∧ l.length ≤ 9223372036854775807 := by
  cases x with
  | none => exact absurd rfl hx
  | some x =>
    obtain ⟨s, h1, _, h2⟩ := DataW.trod_string ht h
    rw [hc] at h1
    refine ⟨s.data.toList, get_of_cut h1, ?_⟩
    unfold maxLen at h2
    simpa using h2
theorem cell_ints {fuel : Nat} {t e : TypeId} {cs : List Value} {j : Nat} {x : Option (DataW H × List MemPlace)} (ht : P.underlying t = some (.slice e)) (he : P.underlying e = some (.int .i64)) (hc : P.cellsOf t = 1) (hce : P.cellsOf e = 1)
    (h : DataW.trod enc P w base spare held fuel t ((cs.drop j).take (P.cellsOf t)) = x) (hx : x ≠ none) :
    ∃ (A : Option Addr) (n c : Nat) (l : List Int), cs[j]? = some (.slice A n c) ∧ Rd w 1 A n (ivs l) ∧ (n ≤ c ∧ c ≤ 9223372036854775807) ∧ ∀ x ∈ l, i64ok x := by
  cases x with
  | none => exact absurd rfl hx
  | some x =>
    rcases open_ints ht he hce h with ⟨hcs, _⟩ | ⟨a, len, cap, zs, hcs, _, hl, hm, hmm, _, hcell, hwf⟩
    · rw [hc] at hcs
      exact ⟨none, 0, 0, [], get_of_cut hcs, Rd.none_, by omega, by simp⟩
    · rw [hc] at hcs
      have hlm : len ≤ zs.length := by rw [hmm]; split <;> omega
      unfold maxLen at hm
      refine ⟨some a, len, cap, zs.take len, get_of_cut hcs, ⟨by simp [ivs_len]; omega, fun hn => ⟨a, rfl, ?_, ?_⟩⟩, by omega, ?_⟩
      · have h1 := hcell 0 (by omega)
        have := World.block_lt_of_cell? w _ h1
        rwa [block_of_add] at this
      · intro j u hu
        simp only [ivs, List.getElem?_map] at hu
        obtain ⟨i, hi, rfl⟩ := Option.map_eq_some_iff.1 hu
        obtain ⟨hj, h2⟩ := List.getElem?_eq_some_iff.1 hi
        simp only [List.length_take] at hj
        rw [hcell j (by omega)]
        simp only [List.getElem_take] at h2
        rw [← h2]
        simp [iv, List.getD_eq_getElem?_getD, List.getElem?_eq_getElem (show j < zs.length by omega)]
      · exact fun x hx => wf_i64 (hwf x (List.mem_of_mem_take hx))
theorem cell_bytes {fuel : Nat} {t e : TypeId} {cs : List Value} {j m : Nat} {x : Option (DataW H × List MemPlace)} (ht : P.underlying t = some (.array m e)) (he : P.underlying e = some (.int .u8)) (hc : P.cellsOf t = m) (hce : P.cellsOf e = 1)
    (h : DataW.trod enc P w base spare held fuel t ((cs.drop j).take (P.cellsOf t)) = x) (hx : x ≠ none) : ∃ l : List UInt8, l.length = m ∧ ∀ i, i < m → cs[j + i]? = (bvs l)[i]? := by
  cases x with
  | none => exact absurd rfl hx
  | some x =>
    obtain ⟨xs, k, _, _, hl, hn, hf⟩ := DataW.trod_array ht h
    have each : ∀ i, i < m → ∃ u : UInt8, cs[j + i]? = some (bv u) := fun i hi => by
      have h1 := hf i hi
      rw [hce, Nat.mul_one, hc] at h1
      have h2 : xs[i]? = some xs[i] := List.getElem?_eq_getElem (by omega)
      rw [h2] at h1
      obtain ⟨n, h3, _, h4⟩ := DataW.trod_int he h1
      have h5 := get_of_cut h3
      rw [List.getElem?_take, if_pos hi, List.getElem?_drop] at h5
      simp [Lit.wf, IntKind.min, IntKind.max, IntKind.signed, IntKind.bits] at h4
      refine ⟨UInt8.ofNat n.toNat, ?_⟩
      rw [h5]
      have : ((UInt8.ofNat n.toNat).toNat : Int) = n := by simp; omega
      simp only [bv, this]
    obtain ⟨q, hq⟩ := Go.Deep.choose_lt each
    refine ⟨(List.range m).map q, by simp, fun i hi => ?_⟩
    rw [hq i hi]
    simp [bvs, hi]
end
set_option maxRecDepth 100000 in
/-- A letter's argument. -/
theorem open_ltr {H : Type} {enc : TypeId × Value → H} {w : World} {base : Nat} {spare : Nat → Bool} {held : Bool} {r : Reach} {b0 : Nat} {v : Value} {d : DataW H} {p : List MemPlace}
    (hv : Value.okWide Try.prog w r b0 26 v) (h : DataW.Trod enc Try.prog w base spare held 26 v d p) :
    ∃ (k f t q : Int) (id : List UInt8) (wh : Int) (x : List UInt8) (A : Option Addr) (n c : Nat) (ps : List Int) (B : Option Addr) (m d : Nat) (hs : List Int), v = .agg (ltC k f t q id wh x A n c B m d) ∧ id.length = 32 ∧ i64ok k ∧ i64ok f ∧ i64ok t ∧ i64ok q ∧ i64ok wh ∧
      x.length ≤ 9223372036854775807 ∧ Rd w 1 A n (ivs ps) ∧ (n ≤ c ∧ c ≤ 9223372036854775807) ∧ (∀ y ∈ ps, i64ok y) ∧ Rd w 1 B m (ivs hs) ∧ (m ≤ d ∧ d ≤ 9223372036854775807) ∧ ∀ y ∈ hs, i64ok y := by
  have hu := Try.underlying26
  obtain ⟨cs, rfl, hcs⟩ := okWide_struct hu hv
  obtain ⟨fuel, hf⟩ := h
  obtain ⟨xs, k, _, _, hl, hn, hf⟩ := DataW.trod_struct hu hf
  have hns : ∀ i, i < 9 → xs[i]? ≠ none := fun i hi h => by
    have := List.getElem?_eq_none_iff.1 h
    rw [hn] at this
    simp at this
    omega
  have hc40 : cs.toList.length = 40 := by rw [Array.length_toList, hcs]; kernel_rfl
  obtain ⟨vk, k0, k1⟩ := cell_i64 Try.underlying3 (by kernel_rfl) (hf 0 _ rfl) (hns 0 (by omega))
  obtain ⟨vf, f0, f1⟩ := cell_i64 Try.underlying3 (by kernel_rfl) (hf 1 _ rfl) (hns 1 (by omega))
  obtain ⟨vt, t0, t1⟩ := cell_i64 Try.underlying3 (by kernel_rfl) (hf 2 _ rfl) (hns 2 (by omega))
  obtain ⟨vq, q0, q1⟩ := cell_i64 Try.underlying3 (by kernel_rfl) (hf 3 _ rfl) (hns 3 (by omega))
  obtain ⟨id, i0, i1⟩ := cell_bytes Try.underlying23 Try.underlying5 (by kernel_rfl) (by kernel_rfl) (hf 4 _ rfl) (hns 4 (by omega))
  obtain ⟨vw, w0, w1⟩ := cell_i64 Try.underlying3 (by kernel_rfl) (hf 5 _ rfl) (hns 5 (by omega))
  obtain ⟨vx, x0, x1⟩ := cell_str Try.underlying9 (by kernel_rfl) (hf 6 _ rfl) (hns 6 (by omega))
  obtain ⟨A, n, c, ps, p0, p1, p2, p3⟩ := cell_ints Try.underlying24 Try.underlying3 (by kernel_rfl) (by kernel_rfl) (hf 7 _ rfl) (hns 7 (by omega))
  obtain ⟨B, m, e, hs, s0, s1, s2, s3⟩ := cell_ints Try.underlying24 Try.underlying3 (by kernel_rfl) (by kernel_rfl) (hf 8 _ rfl) (hns 8 (by omega))
  refine ⟨vk, vf, vt, vq, id, vw, vx, A, n, c, ps, B, m, e, hs, ?_, i0, k1, f1, t1, q1, w1, x1, p1, p2, p3, s1, s2, s3⟩
  congr 1
  apply Array.toList_inj.1
  apply List.ext_getElem?
  intro j
  by_cases hj : 40 ≤ j
  · rw [List.getElem?_eq_none (by omega), List.getElem?_eq_none (by rw [Array.length_toList, ltC_size i0]; omega)]
  simp only [Array.getElem?_toList] at k0 f0 t0 q0 i1 w0 x0 p0 s0 ⊢
  rcases (by omega : j = 0 ∨ j = 1 ∨ j = 2 ∨ j = 3 ∨ (4 ≤ j ∧ j < 36) ∨ j = 36 ∨ j = 37 ∨ j = 38 ∨ j = 39) with rfl | rfl | rfl | rfl | ⟨h1, h2⟩ | rfl | rfl | rfl | rfl
  · rw [ltC_0]; exact k0
  · rw [ltC_1]; exact f0
  · rw [ltC_2]; exact t0
  · rw [ltC_3]; exact q0
  · obtain ⟨i, rfl⟩ : ∃ i, j = 4 + i := ⟨j - 4, by omega⟩
    have h3 := i1 i (by omega)
    obtain ⟨u, h4⟩ : ∃ u, (bvs id)[i]? = some u := ⟨_, List.getElem?_eq_getElem (by rw [bvs_len]; omega)⟩
    rw [ltC_id i _ h4]
    exact h3.trans h4
  · rw [ltC_36 i0]; exact w0
  · rw [ltC_37 i0]; exact x0
  · rw [ltC_38 i0]; exact p0
  · rw [ltC_39 i0]; exact s0
/-- A letter's argument, as one. -/
structure LA where
  k : Int
  f : Int
  t : Int
  q : Int
  id : List UInt8
  wh : Int
  x : List UInt8
  A : Option Addr
  n : Nat
  c : Nat
  ps : List Int
  B : Option Addr
  m : Nat
  d : Nat
  hs : List Int
def LA.cs (a : LA) : Array Value := ltC a.k a.f a.t a.q a.id a.wh a.x a.A a.n a.c a.B a.m a.d
structure LA.ok (a : LA) : Prop where
  id : a.id.length = 32
  k : i64ok a.k
  f : i64ok a.f
  t : i64ok a.t
  q : i64ok a.q
  wh : i64ok a.wh
  x : a.x.length ≤ 9223372036854775807
  n : a.n ≤ a.c ∧ a.c ≤ 9223372036854775807
  ps : ∀ y ∈ a.ps, i64ok y
  m : a.m ≤ a.d ∧ a.d ≤ 9223372036854775807
  hs : ∀ y ∈ a.hs, i64ok y
set_option maxRecDepth 100000 in
theorem open_la {H : Type} {enc : TypeId × Value → H} {w : World} {base : Nat} {spare : Nat → Bool} {held : Bool} {r : Reach} {b0 : Nat} {v : Value} {d : DataW H} {p : List MemPlace}
    (hv : Value.okWide Try.prog w r b0 26 v) (h : DataW.Trod enc Try.prog w base spare held 26 v d p) :
    ∃ a : LA, v = .agg a.cs ∧ a.ok ∧ Rd w 1 a.A a.n (ivs a.ps) ∧ Rd w 1 a.B a.m (ivs a.hs) := by
  obtain ⟨k, f, t, q, id, wh, x, A, n, c, ps, B, m, d, hs, h0, h1, h2, h3, h4, h5, h6, h7, h8, h9, h10, h11, h12, h13⟩ := open_ltr hv h
  exact ⟨⟨k, f, t, q, id, wh, x, A, n, c, ps, B, m, d, hs⟩, h0, ⟨h1, h2, h3, h4, h5, h6, h7, h9, h10, h12, h13⟩, h8, h11⟩
end Go.Proofs.Ytlhedbjjlomniaa
set_option linter.unusedSimpArgs false
set_option linter.unusedVariables false
namespace Go.Proofs.Ytlhedbjjlomniaa
open Go.RowKit
attribute [local go_sem] extract_mid extract_drop bget bsize wrap64_u8 i64_u8 u64_u8 bappend
theorem idOf_full {id : List UInt8} (h : id.length = 32) : idOf id = id := by
  unfold idOf over
  rw [z32_len, List.take_of_length_le (by omega), List.drop_of_length_le (by rw [z32_len]; omega), List.append_nil]
theorem idOf_raw {l : Ltr} (h : checkL l = 0) (hid : l.id.length = 32) : idOf (rawL l).id = l.id := by
  have ho := checkL_ok h
  unfold rawL
  simp only
  by_cases hn : hasName l.k = true
  · rw [if_pos hn]; exact idOf_full hid
  · have hn' : hasName l.k = false := by simpa using hn
    rw [if_neg hn, idOf_nil]
    have := ho.id hn'
    rw [zeroB_iff hid] at this
    exact (of_decide_eq_true this).symm
/-- What is known of a letter behind Few. -/
structure FewL (k f t q : Int) (id : List UInt8) (wh : Int) (y : List UInt8) (ps : List Int) (n : Nat) (hs : List Int) (m : Nat) : Prop where
  gid : id.length = 32
  gk : i63 k
  gf : i63 f
  gt : i63 t
  gq : i63 q
  gw : i63 wh
  gy : y.length ≤ 600
  gn : n ≤ 10
  gm : m ≤ 10
  gps : ps.length = n
  ghs : hs.length = m
  gpb : ∀ x ∈ ps, i63 x
  ghb : ∀ x ∈ hs, i63 x
section
variable {k f t q : Int} {id : List UInt8} {wh : Int} {y : List UInt8} {ps : List Int} {n : Nat} {hs : List Int} {m : Nat} (A : Option Addr) (c : Nat) (B : Option Addr) (d : Nat)
theorem FewL.check (h : FewL k f t q id wh y ps n hs m) (L : List SProp) (w : World) (hM : Star L w) (h1 : rowE 1 A n (ivs ps) ∈ L) (h2 : rowE 1 B m (ivs hs) ∈ L) :
    Calls Try.prog 15 #[.agg (ltC k f t q id wh y A n c B m d)] w fun r w' => r = .returned (.int .i64 (checkL ⟨k, f, t, q, id, wh, y, ps, hs⟩)) ∧ Star L w' := by
  obtain ⟨a1, a2, a3, a4, a5, a6, a7, a8, a9, rfl, rfl, a12, a13⟩ := h
  exact check_star k f t q id a1 wh y A ps c B hs d (by omega) (by omega) (by omega) w hM h1 h2
theorem FewL.rcheck (h : FewL k f t q id wh y ps n hs m) (L : List SProp) (w : World) (hM : Star L w) (h1 : rowE 1 A n (ivs ps) ∈ L) (h2 : rowE 1 B m (ivs hs) ∈ L) :
    Calls Try.prog 17 #[.agg (rtC k f t q id wh y A n c B m d)] w fun r w' => r = .returned (.int .i64 (checkL ⟨k, f, t, q, id, wh, y, ps, hs⟩)) ∧ Star L w' := by
  obtain ⟨a1, a2, a3, a4, a5, a6, a7, a8, a9, rfl, rfl, a12, a13⟩ := h
  exact rcheck_star k f t q id (by omega) wh y A ps c B hs d (by omega) (by omega) w hM h1 h2
theorem FewL.bytes (h : FewL k f t q id wh y ps n hs m) (L : List SProp) (w : World) (hM : Star L w) (h1 : rowE 1 A n (ivs ps) ∈ L) (h2 : rowE 1 B m (ivs hs) ∈ L) :
    Calls Try.prog 18 #[.agg (ltC k f t q id wh y A n c B m d)] w fun r w' => r = .returned (.string ⟨(bytesL ⟨k, f, t, q, id, wh, y, ps, hs⟩).toArray⟩) ∧ Star L w' := by
  obtain ⟨a1, a2, a3, a4, a5, a6, a7, a8, a9, rfl, rfl, a12, a13⟩ := h
  exact lbytes_star k f t q id a1 wh y A ps _ c B hs _ d a2 a3 a4 a5 a6 a12 a13 (by omega) (by omega) (by omega) w hM h1 h2
theorem FewL.rbytes (h : FewL k f t q id wh y ps n hs m) (L : List SProp) (w : World) (hM : Star L w) (h1 : rowE 1 A n (ivs ps) ∈ L) (h2 : rowE 1 B m (ivs hs) ∈ L) :
    Calls Try.prog 20 #[.agg (rtC k f t q id wh y A n c B m d)] w fun r w' => r = .returned (.string ⟨(bytesL ⟨k, f, t, q, id, wh, y, ps, hs⟩).toArray⟩) ∧ Star L w' := by
  obtain ⟨a1, a2, a3, a4, a5, a6, a7, a8, a9, rfl, rfl, a12, a13⟩ := h
  exact rbytes_star k f t q id (by omega) wh y A ps _ c B hs _ d a2 a3 a4 a5 a6 a12 a13 (by omega) (by omega) (by omega) w hM h1 h2
theorem FewL.back (h : FewL k f t q id wh y ps n hs m) (hc : checkL ⟨k, f, t, q, id, wh, y, ps, hs⟩ = 0) (L : List SProp) (w : World) (hM : Star L w) :
    Calls Try.prog 19 #[.string ⟨(bytesL ⟨k, f, t, q, id, wh, y, ps, hs⟩).toArray⟩] w fun r w' => ∃ A' c' B' d', r = .returned (.tuple #[.agg (ltC k f t q id wh y A' n c' B' m d'), .int .i64 0]) ∧ Star (rowE 1 A' n (ivs ps) :: rowE 1 B' m (ivs hs) :: L) w' := by
  obtain ⟨a1, a2, a3, a4, a5, a6, a7, a8, a9, rfl, rfl, a12, a13⟩ := h
  have hb := bytes_len (checkL_ok hc) (by simp; omega)
  have h := parse_star (bytesL ⟨k, f, t, q, id, wh, y, ps, hs⟩) (by omega) w hM
  have hi := idOf_raw hc a1
  unfold PP at h
  rw [parse_bytes hc a1] at h
  simp only [hi] at h
  exact h
theorem FewL.is (h : FewL k f t q id wh y ps n hs m) (A' : Option Addr) (c' : Nat) (B' : Option Addr) (d' : Nat) (L : List SProp) (w : World) (hM : Star L w) (h1 : rowE 1 A n (ivs ps) ∈ L) (h2 : rowE 1 B m (ivs hs) ∈ L) (h3 : rowE 1 A' n (ivs ps) ∈ L) (h4 : rowE 1 B' m (ivs hs) ∈ L) :
    Calls Try.prog 21 #[.agg (ltC k f t q id wh y A n c B m d), .agg (rtC k f t q id wh y A' n c' B' m d')] w fun r w' => r = .returned (.bool true) ∧ Star L w' :=
  is_star k f t q id id h.gid (.inl rfl) wh y A ps n c B hs m d A' c' B' d' (by have := h.gn; omega) (by have := h.gm; omega) w hM h1 h2 h3 h4
end
/-- A letter as an argument, what Few makes of it. -/
theorem few_in {F : List SProp} {k f t q : Int} {id : List UInt8} (hid : id.length = 32) (hk : i64ok k) (hf : i64ok f) (ht : i64ok t) (hq : i64ok q) {wh : Int} (hw : i64ok wh) {x : List UInt8} (hx : x.length ≤ 9223372036854775807) {A : Option Addr} {n c : Nat} (hn : n ≤ c ∧ c ≤ 9223372036854775807) {ps : List Int} (hp : ∀ y ∈ ps, i64ok y) {B : Option Addr} {m d : Nat} (hm : m ≤ d ∧ d ≤ 9223372036854775807) {hs : List Int} (hh : ∀ y ∈ hs, i64ok y)
    {w : World} (hM : Star F w) (h1 : rowE 1 A n (ivs ps) ∈ F) (h2 : rowE 1 B m (ivs hs) ∈ F) :
    ∃ (n' m' : Nat) (ps' hs' : List Int) (y : List UInt8), FewL k f t q id wh y ps' n' hs' m' ∧ Star (rowE 1 A n' (ivs ps') :: rowE 1 B m' (ivs hs') :: F) w ∧
      ∀ (L : List SProp) (w : World), Star L w → Calls Try.prog 13 #[.agg (ltC k f t q id wh x A n c B m d)] w fun r w' => r = .returned (.agg (ltC k f t q id wh y A n' c B m' d)) ∧ Star L w' := by
  have e1 := ivs_row (hM.row h1)
  have e2 := ivs_row (hM.row h2)
  have hb : (if 10 < m then 10 else m) ≤ m := by split <;> omega
  have ha : (if 10 < n then 10 else n) ≤ n := by split <;> omega
  have hM2 := (hM.row_take h2 hb).row_take (List.mem_cons_of_mem _ h1) ha
  have tk : ∀ (l : List Int) (j : Nat), (ivs l).take j = ivs (l.take j) := fun l j => by simp [ivs, List.map_take]
  rw [tk, tk] at hM2
  refine ⟨_, _, ps.take (if 10 < n then 10 else n), hs.take (if 10 < m then 10 else m), cutP x 600, ⟨hid, hk.2, hf.2, ht.2, hq.2, hw.2, ?_, ?_, ?_, ?_, ?_, ?_, ?_⟩, hM2, fun L w hM => few_star k f t q id hid wh x hx A n c hn.1 hn.2 B m d hm.1 hm.2 _ _ rfl rfl w hM⟩
  · have := cutP_len x 600 (by omega); omega
  · split <;> omega
  · split <;> omega
  · rw [List.length_take]; omega
  · rw [List.length_take]; omega
  · exact fun y hy => (hp y (List.mem_of_mem_take hy)).2
  · exact fun y hy => (hh y (List.mem_of_mem_take hy)).2
/-- The same for an argument. -/
theorem few_la {F : List SProp} {a : LA} (o : a.ok) {w : World} (hM : Star F w) (h1 : rowE 1 a.A a.n (ivs a.ps) ∈ F) (h2 : rowE 1 a.B a.m (ivs a.hs) ∈ F) :
    ∃ (n' m' : Nat) (ps' hs' : List Int) (y : List UInt8), FewL a.k a.f a.t a.q a.id a.wh y ps' n' hs' m' ∧ Star (rowE 1 a.A n' (ivs ps') :: rowE 1 a.B m' (ivs hs') :: F) w ∧
      ∀ (L : List SProp) (w : World), Star L w → Calls Try.prog 13 #[.agg a.cs] w fun r w' => r = .returned (.agg (ltC a.k a.f a.t a.q a.id a.wh y a.A n' a.c a.B m' a.d)) ∧ Star L w' :=
  few_in o.id o.k o.f o.t o.q o.wh o.x o.n o.ps o.m o.hs hM h1 h2
end Go.Proofs.Ytlhedbjjlomniaa
set_option linter.unusedSimpArgs false
set_option linter.unusedVariables false
namespace Go.Proofs.Ytlhedbjjlomniaa
open Go.RowKit
attribute [local go_sem] extract_mid extract_drop bget bsize wrap64_u8 i64_u8 u64_u8 bappend
theorem ex_rem {P : Program} {w : World} {o : Oper} {a : Act} {t ty : TypeId} {x y : Operand} (ho : o.op = .binOp .rem t x y ty) {i j r : Int} (hx : a.eval x = .int .i64 i) (hy : a.eval y = .int .i64 j) (hj : j ≠ 0) (hb : i.tmod j = r) : (execOp a.eval o).run P w = .ok (.value (.int .i64 r)) w := by
  subst hb
  unfold execOp
  simp only [ho, hx, hy]
  simp [go_sem, hj]
/-- n, and n modulo a length as the law takes it. -/
theorem rem_in (n : Int) (len : Nat) (h : 0 < len) : ∃ r1 : Int, n.tmod len = r1 ∧ -(len : Int) < r1 ∧ r1 < len ∧ ∃ j : Nat, (r1 + len).tmod len = (j : Int) ∧ j < len := by
  have hl : (0 : Int) < (len : Int) := by omega
  have h1 : n.tmod len < len := Int.tmod_lt_of_pos _ hl
  have h2 : -(len : Int) < n.tmod len := by
    have : (n.tmod len).natAbs < len := by rw [Int.natAbs_tmod]; simpa using Nat.mod_lt n.natAbs h
    omega
  refine ⟨_, rfl, h2, h1, ((n.tmod len + len).tmod len).toNat, ?_, ?_⟩
  · have : 0 ≤ (n.tmod len + len).tmod len := Int.tmod_nonneg _ (by omega)
    omega
  · have : (n.tmod len + len).tmod len < len := Int.tmod_lt_of_pos _ hl
    omega
set_option maxRecDepth 100000 in
set_option maxHeartbeats 8000000 in
theorem letterCut_core {F : List SProp} {k f t q : Int} {id : List UInt8} {wh : Int} {x y : List UInt8} {A : Option Addr} {n0 n c : Nat} {ps : List Int} {B : Option Addr} {m0 m d : Nat} {hs : List Int} (h : FewL k f t q id wh y ps n hs m) (N : Int)
    (HF : Hid (∀ (L : List SProp) (w : World), Star L w → Calls Try.prog 13 #[.agg (ltC k f t q id wh x A n0 c B m0 d)] w fun r w' => r = .returned (.agg (ltC k f t q id wh y A n c B m d)) ∧ Star L w'))
    (w : World) (hM : Star F w) (h1 : rowE 1 A n (ivs ps) ∈ F) (h2 : rowE 1 B m (ivs hs) ∈ F) :
    Calls Try.prog 7 #[.agg (ltC k f t q id wh x A n0 c B m0 d), .int .i64 N] w fun r w' => r = .returned (.bool true) ∧ Star F w' := by
  have HI := Lib.hid h.gid
  have HC := h.check A c B d
  have tok1 : True := trivial
  by_cases hc : checkL ⟨k, f, t, q, id, wh, y, ps, hs⟩ = 0
  · have HB := h.bytes A c B d
    have hl := bytes_len (checkL_ok hc) (by simp [h.gid])
    have hcut := fun n => parse_cut hc h.gid n
    have hmore := parse_more hc h.gid 0 [] (by simp)
    have hpos : 0 < (bytesL ⟨k, f, t, q, id, wh, y, ps, hs⟩).length := by rw [bytes_split]; simp
    rw [hc] at HC
    generalize bytesL ⟨k, f, t, q, id, wh, y, ps, hs⟩ = s at HB hl hcut hmore hpos
    clear h hc
    obtain ⟨r1, hr1, b1, b2, j, hr2, hj⟩ := rem_in N s.length hpos
    have hcj := hcut j hj
    have HP := fun (L : List SProp) (w : World) (hM : Star L w) => parse_star (s.take j) (by rw [List.length_take]; omega) w hM
    have HQ := fun (L : List SProp) (w : World) (hM : Star L w) => parse_star (s ++ [0]) (by simp; omega) w hM
    unfold PP at HP HQ
    generalize parseL (s.take j) = Z at HP hcj
    generalize parseL (s ++ [0]) = Y at HQ hmore
    obtain ⟨⟨k1, f1, t1, q1, mid, wh1, x1, ps1, hs1⟩, e⟩ := Z
    obtain ⟨⟨k2, f2, t2, q2, mid2, wh2, x2, ps2, hs2⟩, e2⟩ := Y
    simp only at HP HQ hcj hmore
    subst hmore
    replace HC := Lib.hid HC
    replace HB := Lib.hid HB
    replace HP := Lib.hid HP
    replace HQ := Lib.hid HQ
    have HR1 := Lib.hid hr1
    have HR2 := Lib.hid hr2
    have HNZ : Hid ((s.length : Int) ≠ 0) := by show _ ≠ _; omega
    have HAD : Hid (IntKind.i64.wrap (r1 + s.length) = r1 + s.length) := by show _ = _; exact IntWalk.i64_in _ (by omega)
    clear hr1 hr2 hcut hpos
    have b3 : decide ((j : Int) ≤ (s.length : Int)) = true := by simp; omega
    by_cases hj2 : j < 2
    · rw [if_pos hj2] at hcj
      subst hcj
      have b4 : decide ((j : Int) < 2) = true := by simp; omega
      go_enter Try.func7, Try.ntmps7
      go_wp2_with (first | (first | ((with_reducible refine at_box' ?_); (have hM0 := hM; clear hM; refine BigFrame.wpList_want (by rfl) fun K hK => ws_box hM0 rfl rfl (cs := ltC k f t q id wh x A n0 c B m0 d) rfl (fun gx w hM => hK _ _ ?_); clear hM0 hK K)) | fail) | (first | ((with_reducible refine at_load' ?_); (refine BigFrame.wpList_want (by rfl) fun K hK => ws_load hM rfl rfl (by (repeat (first | assumption | (with_reducible exact List.mem_cons_self) | apply List.mem_cons_of_mem)); first | done | fail) (n := 40) (by exact ltC_size HI.out) (by decide +kernel) (hK _ _ ?_); clear hK K)) | fail) | (first | ((with_reducible refine at_store' ?_); (have hM0 := hM; clear hM; refine BigFrame.wpList_want (by rfl) fun K hK => ws_store hM0 rfl rfl rfl (by (repeat (first | (with_reducible exact Take.head) | apply Take.tail)); first | done | fail) (n := 40) (by exact ltC_size (by first | exact HI.out | exact z32_len | exact idOf_len _)) (by exact ltC_size (by first | exact HI.out | exact z32_len | exact idOf_len _)) (by kernel_rfl) (by exact ltC_one) (fun w hM => hK _ _ ?_); clear hM0 hK K)) | fail) | (go_at_call 13; have hM0 := hM; clear hM; (first | (with_reducible refine (HF.out _ _ hM0).mono ?_) | fail); clear hM0; rintro _ w ⟨rfl, hM⟩) | (go_at_call 15; have hM0 := hM; clear hM; (first | (with_reducible refine (HC.out _ _ hM0 (by (repeat (first | assumption | (with_reducible exact List.mem_cons_self) | apply List.mem_cons_of_mem)); first | done | fail) (by (repeat (first | assumption | (with_reducible exact List.mem_cons_self) | apply List.mem_cons_of_mem)); first | done | fail)).mono ?_) | fail); clear hM0; rintro _ w ⟨rfl, hM⟩) | (go_at_call 16; have hM0 := hM; clear hM; (first | (with_reducible refine (awake17 _ hM0).mono ?_) | fail); clear hM0; rintro _ w ⟨rfl, hM⟩) | (have _t := tok1; (first | ((with_reducible refine at_alloc' ?_); (have hM0 := hM; clear hM; refine BigFrame.wpList_want (by rfl) fun K hK => ws_alloc hM0 (t := 26) rfl (ltC 0 0 0 0 z32 0 [] none 0 0 none 0 0) info_lt (fun g6 w hM => hK _ _ ?_); clear hM0 hK K)) | fail); clear tok1) | (first | ((with_reducible refine at_alloc' ?_); (have hM0 := hM; clear hM; refine BigFrame.wpList_want (by rfl) fun K hK => ws_alloc hM0 (t := 26) rfl (ltC 0 0 0 0 z32 0 [] none 0 0 none 0 0) info_lt (fun g8 w hM => hK _ _ ?_); clear hM0 hK K)) | fail) | ((with_reducible refine at_bin' (op := .rem) ?_); refine BigFrame.wpList_want (by rfl) fun K hK => ws_of_ex (ex_rem rfl rfl rfl HNZ.out (by first | exact HR1.out | exact HR2.out)) (hK _ _ ?_); clear hK K) | ((with_reducible refine at_bin' (op := .add) (x := .tmp 25) ?_); refine BigFrame.wpList_want (by rfl) fun K hK => ws_of_ex (ex_add rfl rfl rfl HAD.out) (hK _ _ ?_); clear hK K) | (go_at_call 18; have hM0 := hM; clear hM; (first | (with_reducible refine (HB.out _ _ hM0 (by (repeat (first | assumption | (with_reducible exact List.mem_cons_self) | apply List.mem_cons_of_mem)); first | done | fail) (by (repeat (first | assumption | (with_reducible exact List.mem_cons_self) | apply List.mem_cons_of_mem)); first | done | fail)).mono ?_) | fail); clear hM0; rintro _ w ⟨rfl, hM⟩) | (go_at_call 19; have hM0 := hM; clear hM; (first | (with_reducible refine (HP.out _ _ hM0).mono ?_) | fail); clear hM0; rintro _ w ⟨A', c', B', d', rfl, hM⟩) | (go_at_call 19; have hM0 := hM; clear hM; (first | (with_reducible refine (HQ.out _ _ hM0).mono ?_) | fail); clear hM0; rintro _ w ⟨A', c', B', d', rfl, hM⟩))
      go_ret
      exact ⟨rfl, hM.sel (by repeat (first | (with_reducible exact Sel.refl) | (with_reducible exact Take.head) | (with_reducible apply Take.tail) | (with_reducible apply Sel.cons) | (with_reducible apply Sel.drop)))⟩
    · rw [if_neg hj2] at hcj
      subst hcj
      go_enter Try.func7, Try.ntmps7
      go_wp2_with (first | (first | ((with_reducible refine at_box' ?_); (have hM0 := hM; clear hM; refine BigFrame.wpList_want (by rfl) fun K hK => ws_box hM0 rfl rfl (cs := ltC k f t q id wh x A n0 c B m0 d) rfl (fun gx w hM => hK _ _ ?_); clear hM0 hK K)) | fail) | (first | ((with_reducible refine at_load' ?_); (refine BigFrame.wpList_want (by rfl) fun K hK => ws_load hM rfl rfl (by (repeat (first | assumption | (with_reducible exact List.mem_cons_self) | apply List.mem_cons_of_mem)); first | done | fail) (n := 40) (by exact ltC_size HI.out) (by decide +kernel) (hK _ _ ?_); clear hK K)) | fail) | (first | ((with_reducible refine at_store' ?_); (have hM0 := hM; clear hM; refine BigFrame.wpList_want (by rfl) fun K hK => ws_store hM0 rfl rfl rfl (by (repeat (first | (with_reducible exact Take.head) | apply Take.tail)); first | done | fail) (n := 40) (by exact ltC_size (by first | exact HI.out | exact z32_len | exact idOf_len _)) (by exact ltC_size (by first | exact HI.out | exact z32_len | exact idOf_len _)) (by kernel_rfl) (by exact ltC_one) (fun w hM => hK _ _ ?_); clear hM0 hK K)) | fail) | (go_at_call 13; have hM0 := hM; clear hM; (first | (with_reducible refine (HF.out _ _ hM0).mono ?_) | fail); clear hM0; rintro _ w ⟨rfl, hM⟩) | (go_at_call 15; have hM0 := hM; clear hM; (first | (with_reducible refine (HC.out _ _ hM0 (by (repeat (first | assumption | (with_reducible exact List.mem_cons_self) | apply List.mem_cons_of_mem)); first | done | fail) (by (repeat (first | assumption | (with_reducible exact List.mem_cons_self) | apply List.mem_cons_of_mem)); first | done | fail)).mono ?_) | fail); clear hM0; rintro _ w ⟨rfl, hM⟩) | (go_at_call 16; have hM0 := hM; clear hM; (first | (with_reducible refine (awake17 _ hM0).mono ?_) | fail); clear hM0; rintro _ w ⟨rfl, hM⟩) | (have _t := tok1; (first | ((with_reducible refine at_alloc' ?_); (have hM0 := hM; clear hM; refine BigFrame.wpList_want (by rfl) fun K hK => ws_alloc hM0 (t := 26) rfl (ltC 0 0 0 0 z32 0 [] none 0 0 none 0 0) info_lt (fun g6 w hM => hK _ _ ?_); clear hM0 hK K)) | fail); clear tok1) | (first | ((with_reducible refine at_alloc' ?_); (have hM0 := hM; clear hM; refine BigFrame.wpList_want (by rfl) fun K hK => ws_alloc hM0 (t := 26) rfl (ltC 0 0 0 0 z32 0 [] none 0 0 none 0 0) info_lt (fun g8 w hM => hK _ _ ?_); clear hM0 hK K)) | fail) | ((with_reducible refine at_bin' (op := .rem) ?_); refine BigFrame.wpList_want (by rfl) fun K hK => ws_of_ex (ex_rem rfl rfl rfl HNZ.out (by first | exact HR1.out | exact HR2.out)) (hK _ _ ?_); clear hK K) | ((with_reducible refine at_bin' (op := .add) (x := .tmp 25) ?_); refine BigFrame.wpList_want (by rfl) fun K hK => ws_of_ex (ex_add rfl rfl rfl HAD.out) (hK _ _ ?_); clear hK K) | (go_at_call 18; have hM0 := hM; clear hM; (first | (with_reducible refine (HB.out _ _ hM0 (by (repeat (first | assumption | (with_reducible exact List.mem_cons_self) | apply List.mem_cons_of_mem)); first | done | fail) (by (repeat (first | assumption | (with_reducible exact List.mem_cons_self) | apply List.mem_cons_of_mem)); first | done | fail)).mono ?_) | fail); clear hM0; rintro _ w ⟨rfl, hM⟩) | (go_at_call 19; have hM0 := hM; clear hM; (first | (with_reducible refine (HP.out _ _ hM0).mono ?_) | fail); clear hM0; rintro _ w ⟨A', c', B', d', rfl, hM⟩) | (go_at_call 19; have hM0 := hM; clear hM; (first | (with_reducible refine (HQ.out _ _ hM0).mono ?_) | fail); clear hM0; rintro _ w ⟨A', c', B', d', rfl, hM⟩))
      go_ret
      exact ⟨rfl, hM.sel (by repeat (first | (with_reducible exact Sel.refl) | (with_reducible exact Take.head) | (with_reducible apply Take.tail) | (with_reducible apply Sel.cons) | (with_reducible apply Sel.drop)))⟩
  · generalize checkL ⟨k, f, t, q, id, wh, y, ps, hs⟩ = cv at HC hc
    replace HC := Lib.hid HC
    have hc1 : (cv == 0) = false := by simpa using hc
    have hc2 : (cv != 0) = true := by simpa using hc
    clear h
    go_enter Try.func7, Try.ntmps7
    go_wp2_with (first | (first | ((with_reducible refine at_box' ?_); (have hM0 := hM; clear hM; refine BigFrame.wpList_want (by rfl) fun K hK => ws_box hM0 rfl rfl (cs := ltC k f t q id wh x A n0 c B m0 d) rfl (fun gx w hM => hK _ _ ?_); clear hM0 hK K)) | fail) | (first | ((with_reducible refine at_load' ?_); (refine BigFrame.wpList_want (by rfl) fun K hK => ws_load hM rfl rfl (by (repeat (first | assumption | (with_reducible exact List.mem_cons_self) | apply List.mem_cons_of_mem)); first | done | fail) (n := 40) (by exact ltC_size HI.out) (by decide +kernel) (hK _ _ ?_); clear hK K)) | fail) | (first | ((with_reducible refine at_store' ?_); (have hM0 := hM; clear hM; refine BigFrame.wpList_want (by rfl) fun K hK => ws_store hM0 rfl rfl rfl (by (repeat (first | (with_reducible exact Take.head) | apply Take.tail)); first | done | fail) (n := 40) (by exact ltC_size (by first | exact HI.out | exact z32_len | exact idOf_len _)) (by exact ltC_size (by first | exact HI.out | exact z32_len | exact idOf_len _)) (by kernel_rfl) (by exact ltC_one) (fun w hM => hK _ _ ?_); clear hM0 hK K)) | fail) | (go_at_call 13; have hM0 := hM; clear hM; (first | (with_reducible refine (HF.out _ _ hM0).mono ?_) | fail); clear hM0; rintro _ w ⟨rfl, hM⟩) | (go_at_call 15; have hM0 := hM; clear hM; (first | (with_reducible refine (HC.out _ _ hM0 (by (repeat (first | assumption | (with_reducible exact List.mem_cons_self) | apply List.mem_cons_of_mem)); first | done | fail) (by (repeat (first | assumption | (with_reducible exact List.mem_cons_self) | apply List.mem_cons_of_mem)); first | done | fail)).mono ?_) | fail); clear hM0; rintro _ w ⟨rfl, hM⟩) | (go_at_call 16; have hM0 := hM; clear hM; (first | (with_reducible refine (awake17 _ hM0).mono ?_) | fail); clear hM0; rintro _ w ⟨rfl, hM⟩))
    go_ret
    exact ⟨rfl, hM.sel (by repeat (first | (with_reducible exact Sel.refl) | (with_reducible exact Take.head) | (with_reducible apply Take.tail) | (with_reducible apply Sel.cons) | (with_reducible apply Sel.drop)))⟩
theorem letterCut_walk {F : List SProp} (a : LA) (o : a.ok) (N : Int) (_y1 : -9223372036854775808 ≤ N) (_y2 : N ≤ 9223372036854775807) (w : World) (hM : Star F w) (h1 : rowE 1 a.A a.n (ivs a.ps) ∈ F) (h2 : rowE 1 a.B a.m (ivs a.hs) ∈ F) :
    Calls Try.prog 7 #[.agg a.cs, .int .i64 N] w fun r w' => r = .returned (.bool true) ∧ Star F w' := by
  obtain ⟨n', m', ps', hs', y, hfl, hM2, hfew⟩ := few_la o hM h1 h2
  exact (letterCut_core hfl N (Lib.hid hfew) w hM2 (by (repeat (first | assumption | (with_reducible exact List.mem_cons_self) | apply List.mem_cons_of_mem)); first | done | fail) (by (repeat (first | assumption | (with_reducible exact List.mem_cons_self) | apply List.mem_cons_of_mem)); first | done | fail)).mono fun _ _ ⟨h1, h2⟩ => ⟨h1, h2.sel (by repeat (first | (with_reducible exact Sel.refl) | (with_reducible exact Take.head) | (with_reducible apply Take.tail) | (with_reducible apply Sel.cons) | (with_reducible apply Sel.drop)))⟩
end Go.Proofs.Ytlhedbjjlomniaa
