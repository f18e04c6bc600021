/- Regions that draw their order, over a list of parts: whatever keeps all parts and gives a known value is taken first; over the rest the walk branches. No condition. -/
import Derived.Test.YthjceppddmecdaaLists
import Derived.OrdersHeld
import Derived.BigRegion
set_option linter.unusedSimpArgs false
set_option linter.unusedVariables false
namespace Go.Proofs.Ythjceppddmecdaa
open Go.RowKit
section
variable {P : Program} {ops : Array Oper} {Q : Exit → Act → World → Prop} {md : Region.Mode} {L0 : List SProp} {Z : List Nat}
/-- What a run leaves that gives v and keeps the parts L. -/
def Gives (P : Program) (L : List SProp) (v : Value) : Result Next → Prop
  | .ok (.value u) w' => u = v ∧ Star L w'
  | .ok (.enter f args) w' => Calls P f args w' fun e w'' => e = .returned v ∧ Star L w''
  | _ => False
/-- In state a, in every world that has the parts L0 among others, operation o gives v and keeps all parts. -/
def Stab (P : Program) (ops : Array Oper) (L0 : List SProp) (o : Oper) (v : Value) (a : Act) : Prop :=
  (Region.wanted o (yielded ops a.tmps) = true ∧ ∀ L w, (∀ x ∈ L0, x ∈ L) → Star L w → Gives P L v ((execOp a.eval o).run P w)) ∨
  (Region.wanted o (yielded ops a.tmps) = false ∧ v = undef)
theorem Stab.of_same {o : Oper} {v : Value} {a a' : Act} (hy : Stab P ops L0 o v a) (he : execOp a'.eval o = execOp a.eval o)
    (hw : Region.wanted o (yielded ops a'.tmps) = Region.wanted o (yielded ops a.tmps)) : Stab P ops L0 o v a' := by
  unfold Stab at *
  rw [he, hw]
  exact hy
theorem Stab.wpOp {i : Nat} {o : Oper} {v : Value} {a : Act} (hi : ops[i]? = some o) (hy : Stab P ops L0 o v a)
    {K : Act → World → Prop} {L : List SProp} {w : World} (h0 : ∀ x ∈ L0, x ∈ L) (hS : Star L w) (h : ∀ w', Star L w' → K (a.put o.dst v) w') : wpOp P ops Q i K a w := by
  unfold Go.wpOp
  simp only [hi]
  rcases hy with ⟨hw, hv⟩ | ⟨hw, rfl⟩
  · have h1 := hv L w h0 hS
    simp only [hw, if_true, Oper.wp]
    refine .inl ?_
    generalize (execOp a.eval o).run P w = r at *
    cases r with
    | ok n w' =>
      cases n <;> simp only [Gives, Oper.upon] at h1 ⊢
      case value u => obtain ⟨rfl, h1⟩ := h1; exact h _ h1
      case enter f args =>
        refine Calls.mono h1 fun e w'' he => ?_
        obtain ⟨rfl, he⟩ := he
        exact h _ he
    | halt x w' => cases h1
  · simp only [hw, Bool.false_eq_true, if_false]; exact h _ hS
theorem wpOp_putS {j : Nat} {oi oj : Oper} {v : Value} (hj : ops[j]? = some oj) (hap : oi.apart ops oj = true)
    (hsi : ∀ cs b, oi.op ≠ .select cs b) (hsj : ∀ cs b, oj.op ≠ .select cs b)
    (hQ : ∀ c a w, Q (.panic c) (a.put oi.dst v) w → Q (.panic c) a w) {K : Act → World → Prop} {a : Act} {w : World}
    (hy : Stab P ops L0 oi v a) (h : wpOp P ops Q j K (a.put oi.dst v) w) :
    wpOp P ops Q j (fun a' w' => Stab P ops L0 oi v a' ∧ K (a'.put oi.dst v) w') a w := by
  obtain ⟨h1, h2, h3⟩ := Oper.apart_spec hap
  have keep : ∀ (a : Act), Stab P ops L0 oi v a → ∀ u, Stab P ops L0 oi v (a.put oj.dst u) := fun a hy u =>
    hy.of_same (execOp_put oi hsi a oj.dst u h3) (wanted_put oi a oj.dst u h3)
  have keepD : ∀ d, Stab P ops L0 oi v { a with defers := d :: a.defers } := fun d => hy.of_same rfl rfl
  unfold wpOp at *
  simp only [hj] at *
  rw [wanted_put oj a oi.dst v h1] at h
  split
  · rename_i hw
    simp only [hw, if_true] at h
    rcases h with h | ⟨hasks, hlets⟩
    case inr => exact .inr ⟨by unfold Oper.asks at *; rw [execOp_put oj hsj a oi.dst v h1] at hasks; exact hasks, hlets⟩
    refine .inl ?_
    unfold Oper.wp at *
    rw [execOp_put oj hsj a oi.dst v h1] at h
    generalize (execOp a.eval oj).run P w = r at *
    cases r with
    | ok n w' =>
      cases n <;> simp only [Oper.upon] at h ⊢
      case value u => exact ⟨keep a hy u, by rw [← Act.put_comm a v u h2]; exact h⟩
      case skip => exact ⟨keep a hy _, by rw [← Act.put_comm a v undef h2]; exact h⟩
      case defer d =>
        refine ⟨keep _ (keepD d) _, ?_⟩
        rw [← Act.put_comm _ v undef h2, ← Act.put_defers]
        exact h
      case enter f args =>
        refine Calls.mono h fun e w'' he => ?_
        cases e with
        | returned u => exact ⟨keep a hy u, by rw [← Act.put_comm a v u h2]; exact he⟩
        | panicked c => exact hQ _ _ _ he
        | outgrown => exact he
      case row row args => exact Rows.mono h fun u w'' he => ⟨keep a hy u, by rw [← Act.put_comm a v u h2]; exact he⟩
    | halt x w' =>
      cases x <;> simp only [Oper.upon] at h ⊢
      case panic u => exact hQ _ _ _ h
  · rename_i hw
    simp only [hw] at h
    exact ⟨keep a hy _, by rw [← Act.put_comm a v undef h2]; exact h⟩
/-- Does operation j wait for i, or for one that does? -/
def reach (md : Region.Mode) (ops : Array Oper) (i : Nat) : Nat → Nat → Bool
  | 0, j => j == i
  | f + 1, j => j == i || (match ops[j]? with | some o => o.after.toList.any fun e => Region.binds md e && reach md ops i f e.on | none => false)
/-- Nothing has come up ahead of what it waits for. -/
def Closed (md : Region.Mode) (ops : Array Oper) (listed : Array Bool) : Prop := ∀ j o, ops[j]? = some o → listed.getD j true = true → ∀ e ∈ o.after, Region.binds md e = true → listed.getD e.on true = true
theorem Closed.reach {listed : Array Bool} (h : Closed md ops listed) (i : Nat) : ∀ (f j : Nat), reach md ops i f j = true → listed.getD j true = true → listed.getD i true = true
  | 0, j, hr, hl => by simp only [Go.Proofs.Ythjceppddmecdaa.reach, beq_iff_eq] at hr; rw [← hr]; exact hl
  | f + 1, j, hr, hl => by
    simp only [Go.Proofs.Ythjceppddmecdaa.reach, Bool.or_eq_true, beq_iff_eq] at hr
    rcases hr with rfl | hr
    · exact hl
    · cases ho : ops[j]? with
      | none => rw [ho] at hr; cases hr
      | some o =>
        rw [ho] at hr
        obtain ⟨e, he, hb⟩ := List.any_eq_true.1 hr
        rw [Bool.and_eq_true] at hb
        exact Closed.reach h i f e.on hb.2 (h j o ho hl e (by simpa using he) hb.1)
theorem Closed.set {listed : Array Bool} (h : Closed md ops listed) {i : Nat} (hr : i ∈ Region.ready md ops listed) : Closed md ops (listed.setIfInBounds i true) := by
  intro j o ho hj e he hb
  by_cases hji : j = i
  · subst hji
    obtain ⟨h0, o', ho', hall⟩ := mem_ready.1 hr
    rw [ho] at ho'
    injection ho' with ho'
    subst ho'
    have h1 := getD_set_true (i := j) (hall e he hb)
    rcases Nat.lt_or_ge e.on (listed.setIfInBounds j true).size with h' | h'
    · simp only [Array.getD_eq_getD_getElem?, Array.getElem?_eq_getElem h', Option.getD_some] at h1 ⊢; exact h1
    · simp [Array.getElem?_eq_none h']
  · rw [getD_set_ne true (Ne.symm hji)] at hj
    have := h j o ho hj e he hb
    by_cases hi : i = e.on
    · rcases Nat.lt_or_ge i listed.size with h' | h'
      · simp [← hi, h']
      · simp [← hi, h']
    · rw [getD_set_ne true hi]; exact this
/-- Whatever order is picked; the parts L stand for the world; the parts L0 stay till one of Z has come up. -/
def RS (P : Program) (md : Region.Mode) (ops : Array Oper) (Q : Exit → Act → World → Prop) (L0 : List SProp) (Z : List Nat) : Nat → Array Bool → Act → List SProp → Prop
  | 0, listed, a, L => ((∀ z ∈ Z, listed.getD z true = false) → ∀ x ∈ L0, x ∈ L) ∧ Region.ready md ops listed = [] ∧ ∀ w, Star L w → Q .normal a w
  | fuel + 1, listed, a, L => ((∀ z ∈ Z, listed.getD z true = false) → ∀ x ∈ L0, x ∈ L) ∧ (Region.ready md ops listed = [] → ∀ w, Star L w → Q .normal a w) ∧
    ∀ i ∈ Region.ready md ops listed, ∀ w, Star L w → wpOp P ops Q i (fun a' w' => ∃ L', Star L' w' ∧ RS P md ops Q L0 Z fuel (listed.setIfInBounds i true) a' L') a w
theorem wpAny_of_RS : ∀ (fuel : Nat) (listed : Array Bool) (a : Act) (L : List SProp) (w : World), Star L w → RS P md ops Q L0 Z fuel listed a L → wpAny P md ops Q fuel listed a w
  | 0, _, _, _, w, hM, h => ⟨h.2.1, h.2.2 w hM⟩
  | fuel + 1, _, _, _, w, hM, h => ⟨fun hr => h.2.1 hr w hM, fun i hi => wpOp_mono (fun a' w' ⟨L', hM', h'⟩ => wpAny_of_RS fuel _ a' L' w' hM' h') (h.2.2 i hi w hM)⟩
theorem RS.keeps {fuel : Nat} {listed : Array Bool} {a : Act} {L : List SProp} (h : RS P md ops Q L0 Z fuel listed a L) : (∀ z ∈ Z, listed.getD z true = false) → ∀ x ∈ L0, x ∈ L := by cases fuel <;> exact h.1
theorem RS_first {i : Nat} {oi : Oper} {v : Value} (hi : ops[i]? = some oi) (hsel : ∀ (j : Nat) (o : Oper) cs b, ops[j]? = some o → o.op ≠ .select cs b)
    (hQ : ∀ c a w, Q (.panic c) (a.put oi.dst v) w → Q (.panic c) a w) {f : Nat} (hz : ∀ z ∈ Z, z ≠ i ∧ reach md ops i f z = true) :
    ∀ (fuel : Nat) (listed : Array Bool) (a : Act) (L : List SProp),
      (∀ j oj, ops[j]? = some oj → j ≠ i → listed.getD j true = false → (∀ e ∈ oj.after, Region.binds md e = true → e.on ≠ i) → oi.apart ops oj = true) →
      i ∈ Region.ready md ops listed → Closed md ops listed → Stab P ops L0 oi v a → (∀ x ∈ L0, x ∈ L) →
      RS P md ops Q L0 Z fuel (listed.setIfInBounds i true) (a.put oi.dst v) L → RS P md ops Q L0 Z (fuel + 1) listed a L := by
  intro fuel
  induction fuel with
  | zero =>
    intro listed a L hfree hr hcl hy h0 H
    refine ⟨fun _ => h0, fun h => (by rw [h] at hr; cases hr), fun j hj w hM => ?_⟩
    by_cases hji : j = i
    · subst hji; exact hy.wpOp hi h0 hM fun w' hM' => ⟨L, hM', H⟩
    · have := ready_mono hj hji
      rw [H.2.1] at this
      cases this
  | succ fuel ih =>
    intro listed a L hfree hr hcl hy h0 H
    refine ⟨fun _ => h0, fun h => (by rw [h] at hr; cases hr), fun j hj w hM => ?_⟩
    by_cases hji : j = i
    · subst hji; exact hy.wpOp hi h0 hM fun w' hM' => ⟨L, hM', H⟩
    · have h1 := H.2.2 j (ready_mono hj hji) w hM
      obtain ⟨hjun, oj, hoj, hall⟩ := mem_ready.1 hj
      have hnot : ∀ e ∈ oj.after, Region.binds md e = true → e.on ≠ i := fun e he hb heq => by
        have h1 := hall e he hb
        have h0 := (mem_ready.1 hr).1
        rw [heq] at h1
        rcases Nat.lt_or_ge i listed.size with h' | h'
        · simp [h'] at h0 h1; rw [h0] at h1; cases h1
        · simp [Array.getElem?_eq_none h'] at h1
      have h2 := wpOp_putS hoj (hfree j oj hoj hji hjun hnot) (fun cs b => hsel i oi cs b hi) (fun cs b => hsel j oj cs b hoj) hQ hy h1
      have hfree' : ∀ k ok, ops[k]? = some ok → k ≠ i → (listed.setIfInBounds j true).getD k true = false →
          (∀ e ∈ ok.after, Region.binds md e = true → e.on ≠ i) → oi.apart ops ok = true := fun k ok hk hki hun hno => by
        refine hfree k ok hk hki ?_ hno
        by_cases hjk : j = k
        · subst hjk; exact hjun
        · rw [getD_set_ne true hjk] at hun; exact hun
      have hcl' := hcl.set hj
      have hr' := ready_mono hr (Ne.symm hji)
      refine wpOp_mono (fun a' w' ⟨h3, L', hM', h4⟩ => ⟨L', hM', ih (listed.setIfInBounds j true) a' L' hfree' hr' hcl' h3 ?_ ?_⟩) h2
      · have h5 : (∀ z ∈ Z, ((listed.setIfInBounds i true).setIfInBounds j true).getD z true = false) → ∀ x ∈ L0, x ∈ L' := by cases fuel <;> exact h4.1
        refine h5 fun z hzz => ?_
        obtain ⟨hzi, hzr⟩ := hz z hzz
        rw [← Array.setIfInBounds_comm _ _ hji, getD_set_ne true (Ne.symm hzi)]
        cases hb : (listed.setIfInBounds j true).getD z true with
        | false => rfl
        | true =>
          have := hcl'.reach i f z hzr hb
          rw [(mem_ready.1 hr').1] at this
          cases this
      · rw [Array.setIfInBounds_comm _ _ hji]
        exact h4
def closedB (md : Region.Mode) (ops : Array Oper) (listed : Array Bool) : Bool := (List.range ops.size).all fun j => match ops[j]? with | some o => !listed.getD j true || o.after.toList.all fun e => !Region.binds md e || listed.getD e.on true | none => true
theorem closedB_spec {listed : Array Bool} (h : closedB md ops listed = true) : Closed md ops listed := by
  intro j o ho hl e he hb
  unfold closedB at h
  have hj : j < ops.size := (Array.getElem?_eq_some_iff.1 ho).1
  have h1 := List.all_eq_true.1 h j (List.mem_range.2 hj)
  simp only [ho, hl, Bool.not_true, Bool.false_or] at h1
  have h2 := List.all_eq_true.1 h1 e (by simpa using he)
  simpa [hb] using h2
def zB (md : Region.Mode) (ops : Array Oper) (Z : List Nat) (i : Nat) : Bool := Z.all fun z => z != i && reach md ops i ops.size z
def takeB (md : Region.Mode) (ops : Array Oper) (Z : List Nat) (listed : Array Bool) (i : Nat) : Bool :=
  Region.noSelect ops && Region.free md ops listed i && (Region.ready md ops listed).contains i && closedB md ops listed && zB md ops Z i
theorem op_at {i : Nat} {oi : Oper} {tl : List Oper} (h : ops.toList.drop i = oi :: tl) : ops[i]? = some oi := by
  have h1 := congrArg List.head? h
  rw [List.head?_drop] at h1
  simpa using h1
/-- Number i first. -/
theorem RS_take {i : Nat} {oi : Oper} {tl : List Oper} {v : Value} {fuel : Nat} {listed : Array Bool} {a : Act} {L : List SProp} (hi0 : ops.toList.drop i = oi :: tl) (hb : takeB md ops Z listed i = true)
    (hQ : ∀ c a w, Q (.panic c) (a.put oi.dst v) w → Q (.panic c) a w) (h0 : ∀ x ∈ L0, x ∈ L) (hy : Stab P ops L0 oi v a)
    (h : RS P md ops Q L0 Z fuel (listed.setIfInBounds i true) (a.put oi.dst v) L) : RS P md ops Q L0 Z (fuel + 1) listed a L := by
  have hi := op_at hi0
  simp only [takeB, Bool.and_eq_true] at hb
  obtain ⟨⟨⟨⟨hs, hf⟩, hr⟩, hc⟩, hz⟩ := hb
  refine RS_first hi (Region.noSelect_spec hs) hQ (f := ops.size) (fun z hzz => ?_) fuel listed a L (Region.free_spec hi hf) (by simpa using hr) (closedB_spec hc) hy h0 h
  have := List.all_eq_true.1 hz z hzz
  simpa using this
/-- The one that may come up. -/
theorem RS_one {i : Nat} {oi : Oper} {tl : List Oper} {fuel : Nat} {listed : Array Bool} {a : Act} {L : List SProp} (hr : Region.ready md ops listed = [i]) (hi0 : ops.toList.drop i = oi :: tl) (hw : Region.wanted oi (yielded ops a.tmps) = true)
    (hk : (∀ x ∈ L0, x ∈ L) ∨ (Z.any fun z => listed.getD z true) = true)
    (h : ∀ w (K : Act → World → Prop), Star L w → (∀ a' L' w', Star L' w' → RS P md ops Q L0 Z fuel (listed.setIfInBounds i true) a' L' → K a' w') → Oper.wp P oi a w K Q) : RS P md ops Q L0 Z (fuel + 1) listed a L := by
  have hi := op_at hi0
  refine ⟨fun hz => ?_, fun h0 => (by rw [h0] at hr; cases hr), fun j hj w hM => ?_⟩
  · rcases hk with hk | hk
    · exact hk
    · obtain ⟨z, hzz, hb⟩ := List.any_eq_true.1 hk
      rw [hz z hzz] at hb
      cases hb
  · rw [hr] at hj
    rcases List.mem_singleton.1 hj with rfl
    unfold wpOp
    simp only [hi, hw, if_true]
    exact .inl (h w _ hM fun a' L' w' hM' h' => ⟨L', hM', h'⟩)
/-- One out of several that may come up. -/
theorem RS_ready {rs : List Nat} {fuel : Nat} {listed : Array Bool} {a : Act} {L : List SProp} (hr : Region.ready md ops listed = rs) (hne : rs ≠ [])
    (hk : (∀ x ∈ L0, x ∈ L) ∨ (Z.any fun z => listed.getD z true) = true)
    (h : ∀ i ∈ rs, ∀ w, Star L w → wpOp P ops Q i (fun a' w' => ∃ L', Star L' w' ∧ RS P md ops Q L0 Z fuel (listed.setIfInBounds i true) a' L') a w) : RS P md ops Q L0 Z (fuel + 1) listed a L := by
  refine ⟨fun hz => ?_, fun h0 => absurd (hr ▸ h0) hne, hr ▸ h⟩
  rcases hk with hk | hk
  · exact hk
  · obtain ⟨z, hzz, hb⟩ := List.any_eq_true.1 hk
    rw [hz z hzz] at hb
    cases hb
theorem RS_done {fuel : Nat} {listed : Array Bool} {a : Act} {L : List SProp} (hr : Region.ready md ops listed = []) (hk : (∀ x ∈ L0, x ∈ L) ∨ (Z.any fun z => listed.getD z true) = true)
    (h : ∀ w, Star L w → Q .normal a w) : RS P md ops Q L0 Z fuel listed a L := by
  have hk' : (∀ z ∈ Z, listed.getD z true = false) → ∀ x ∈ L0, x ∈ L := fun hz => by
    rcases hk with hk | hk
    · exact hk
    · obtain ⟨z, hzz, hb⟩ := List.any_eq_true.1 hk
      rw [hz z hzz] at hb
      cases hb
  cases fuel with
  | zero => exact ⟨hk', hr, h⟩
  | succ n => exact ⟨hk', fun _ => h, by rw [hr]; intro i hi; cases hi⟩
theorem region_RS (L0 : List SProp) (Z : List Nat) {id : Nat} {a : Act} {L : List SProp} {w : World} (hm : P.follows .mixedOrders = true) (hM : Star L w) (h : RS P .any ops Q L0 Z ops.size (Array.replicate ops.size false) a L) :
    (Code.region id ops true).wp P Q a w := wp_region_any hm (wpAny_of_RS _ _ _ L _ (hM.drew) h)
theorem stab_pure {o : Oper} {v : Value} {a : Act} (hw : Region.wanted o (yielded ops a.tmps) = true) (hy : ∀ w, (execOp a.eval o).run P w = .ok (.value v) w) : Stab P ops L0 o v a :=
  .inl ⟨hw, fun L w _ hM => by rw [hy w]; exact ⟨rfl, hM⟩⟩
theorem stab_read {o : Oper} {v : Value} {a : Act} (hw : Region.wanted o (yielded ops a.tmps) = true) (hy : ∀ L w, (∀ x ∈ L0, x ∈ L) → Star L w → (execOp a.eval o).run P w = .ok (.value v) w) : Stab P ops L0 o v a :=
  .inl ⟨hw, fun L w hL hM => by rw [hy L w hL hM]; exact ⟨rfl, hM⟩⟩
theorem stab_call {o : Oper} {v : Value} {a : Act} {f : FuncId} {args : Array Value} (hw : Region.wanted o (yielded ops a.tmps) = true) (hr : ∀ w, (execOp a.eval o).run P w = .ok (.enter f args) w)
    (hc : ∀ L w, (∀ x ∈ L0, x ∈ L) → Star L w → Calls P f args w fun e w' => e = .returned v ∧ Star L w') : Stab P ops L0 o v a :=
  .inl ⟨hw, fun L w hL hM => by rw [hr w]; exact hc L w hL hM⟩
theorem stab_skip {o : Oper} {a : Act} (hw : Region.wanted o (yielded ops a.tmps) = false) : Stab P ops L0 o undef a := .inr ⟨hw, rfl⟩
theorem ws_call {o : Oper} {a : Act} {w : World} {K : Act → World → Prop} {f : FuncId} {args : Array Value} (hr : (execOp a.eval o).run P w = .ok (.enter f args) w) {R : Ending → World → Prop} (hc : Calls P f args w R)
    (h : ∀ r w', R r w' → ∃ v, r = .returned v ∧ K (a.put o.dst v) w') : Oper.wp P o a w K Q := by
  unfold Oper.wp
  rw [hr]
  refine Calls.mono hc fun r w' hR => ?_
  obtain ⟨v, rfl, hk⟩ := h r w' hR
  exact hk
section
variable {L : List SProp} {w : World} {o : Oper} {a : Act}
theorem ex_load1 (hM : Star L w) {ty : TypeId} {x : Operand} (ho : o.op = .load ty x) {g i : Nat} (hx : a.eval x = .pointer (some ⟨g, i, none⟩)) {t : TypeId} {cs : Array Value} (hb : cellsE g t cs ∈ L) {v : Value} (hv : cs[i]? = some v)
    (hp : plainTy P ty = true) : (execOp a.eval o).run P w = .ok (.value v) w := by
  have hr := run_load1 (P := P) w ty ⟨g, i, none⟩ v hp (((hM.blk hb).cell i).trans hv)
  unfold execOp
  simp only [ho, hx, Instr.loadAt, Instr.sureAddr, Sem.run_bind, Sem.run_pure, Result.andThen_ok, hr]
theorem ex_rowload {ty : TypeId} {x : Operand} (ho : o.op = .load ty x) {ad : Addr} {k : Nat} (hx : a.eval x = .pointer (some (ad.add k))) {n : Nat} {xs : List Value} (hr : Rd w 1 (some ad) n xs) {v : Value} (hv : xs[k]? = some v)
    (hp : plainTy P ty = true) : (execOp a.eval o).run P w = .ok (.value v) w := by
  have hk : k < n := by have h1 := (List.getElem?_eq_some_iff.1 hv).1; have h2 := hr.len; omega
  obtain ⟨ad', e, _, hc⟩ := hr.2 (by omega)
  injection e with e
  subst e
  have hrun := run_load1 (P := P) w ty _ v hp (hc k v hv)
  unfold execOp
  simp only [ho, hx, Instr.loadAt, Instr.sureAddr, Sem.run_bind, Sem.run_pure, Result.andThen_ok, hrun]
/-- The row begins at a block's head, the address is reckoned. -/
theorem ex_rowload0 {ty : TypeId} {x : Operand} (ho : o.op = .load ty x) {g k : Nat} (hx : a.eval x = .pointer (some ⟨g, k, none⟩)) {n : Nat} {xs : List Value} (hr : Rd w 1 (some ⟨g, 0, none⟩) n xs) {v : Value} (hv : xs[k]? = some v)
    (hp : plainTy P ty = true) : (execOp a.eval o).run P w = .ok (.value v) w := ex_rowload ho (ad := ⟨g, 0, none⟩) (k := k) (by rw [hx, add_lit, Nat.zero_add]) hr hv hp
theorem ws_rowload0 {K : Act → World → Prop} {ty : TypeId} {x : Operand} (ho : o.op = .load ty x) {g k : Nat} (hx : a.eval x = .pointer (some ⟨g, k, none⟩)) {n : Nat} {xs : List Value} (hr : Rd w 1 (some ⟨g, 0, none⟩) n xs) {v : Value} (hv : xs[k]? = some v)
    (hp : plainTy P ty = true) (h : K (a.put o.dst v) w) : Oper.wp P o a w K Q := ws_rowload ho (ad := ⟨g, 0, none⟩) (k := k) (by rw [hx, add_lit, Nat.zero_add]) hr hv hp h
theorem ex_load_at {ty : TypeId} {x : Operand} (ho : o.op = .load ty x) {ad : Addr} (hx : a.eval x = .pointer (some ad)) (cs : List Value) (hc : ∀ j v, cs[j]? = some v → w.cell? (ad.add j) = some v) {n : Nat} (hn : cs.length = n) (hp : rowTy P ty n = true) :
    (execOp a.eval o).run P w = .ok (.value (.agg cs.toArray)) w := by
  obtain ⟨⟨d, h1, h2⟩, h3⟩ := rowTy_und hp
  unfold execOp
  simp only [ho, hx, Instr.loadAt, Instr.sureAddr, Sem.run_bind, Sem.run_pure, Result.andThen_ok, run_loadVar_at w ad ty cs d hc h1 (by cases d <;> simp_all) (by rw [h3, hn])]
theorem ex_load (hM : Star L w) {ty : TypeId} {x : Operand} (ho : o.op = .load ty x) {g : Nat} (hx : a.eval x = .pointer (some ⟨g, 0, none⟩)) {t : TypeId} {cs : Array Value} (hb : cellsE g t cs ∈ L)
    {n : Nat} (hn : cs.size = n) (hp : rowTy P ty n = true) : (execOp a.eval o).run P w = .ok (.value (.agg cs)) w := by
  have := ex_load_at (P := P) (a := a) (o := o) ho hx cs.toList (fun j v hj => by rw [add_lit, Nat.zero_add, (hM.blk hb).cell]; simpa using hj) (by simpa using hn) hp
  simpa using this
/-- A row in the midst of a block. -/
theorem ex_load_mid (hM : Star L w) {ty : TypeId} {x : Operand} (ho : o.op = .load ty x) {g i : Nat} (hx : a.eval x = .pointer (some ⟨g, i, none⟩)) {t : TypeId} {cs : Array Value} (hb : cellsE g t cs ∈ L)
    (vs : List Value) (hv : ∀ j v, vs[j]? = some v → cs[i + j]? = some v) {n : Nat} (hn : vs.length = n) (hp : rowTy P ty n = true) : (execOp a.eval o).run P w = .ok (.value (.agg vs.toArray)) w :=
  ex_load_at ho hx vs (fun j v hj => by rw [add_lit, (hM.blk hb).cell]; exact hv j v hj) hn hp
/-- A row of a row of rows. -/
theorem ex_rowload_row {ty : TypeId} {x : Operand} (ho : o.op = .load ty x) {ad : Addr} {k size : Nat} (hx : a.eval x = .pointer (some (ad.add (k * size)))) {n : Nat} {xs : List Value} (hr : Rd w size (some ad) n xs) (vs : List Value) (hv : ∀ j v, vs[j]? = some v → xs[k * size + j]? = some v) (hn : vs.length = size) (hk : k < n)
    (hp : rowTy P ty size = true) : (execOp a.eval o).run P w = .ok (.value (.agg vs.toArray)) w := by
  obtain ⟨ad', e, _, hc⟩ := hr.2 (by omega)
  injection e with e
  subst e
  exact ex_load_at ho hx vs (fun j v hj => by rw [add_of_add]; exact hc _ v (hv j v hj)) hn hp
theorem ex_string {src dst : TypeId} {x : Operand} (ho : o.op = .convert src dst x) (e : TypeId)
    (hs : P.underlying src = some (.slice e)) (hd : P.underlying dst = some .string) (he : P.underlying e = some (.int .u8)) {A : Option Addr} {n c : Nat} (hx : a.eval x = .slice A n c) {l : List UInt8} (hr : Rd w 1 A n (bvs l)) :
    (execOp a.eval o).run P w = .ok (.value (.string ⟨l.toArray⟩)) w := by
  have hn : n = l.length := by have := hr.1; rw [bvs_len] at this; omega
  subst hn
  have hrun : (convert src dst (.slice A l.length c)).run P w = .ok (.string ⟨l.toArray⟩) w := by
    rcases Nat.eq_zero_or_pos l.length with h0 | h0
    · have hl : l = [] := List.eq_nil_of_length_eq_zero h0
      subst hl
      rw [run_convert_bytes_string w src dst e A _ c hs he hd]
      cases A with
      | none => rfl
      | some ad => simp [Conv.bytesToString, loadCells]; rfl
    · obtain ⟨ad, rfl, hb, hc⟩ := hr.2 h0
      exact run_convert_bytes_back w src dst e ad c l hs he hd fun j hj => hc j _ (bvs_get l j hj)
  unfold execOp
  simp only [ho, hx, Sem.run_bind, hrun, Result.andThen_ok, Sem.run_pure]
end
end
end Go.Proofs.Ythjceppddmecdaa
