/- 'for x := range seq' over Star: one loop variable; the loop's record and the block for deferred calls are parts of the list. No condition but those that each theorem names. -/
import Derived.Test.YthjceppddmecdaaReg
import Derived.RangeFuncIn
import Derived.RangeFuncSeq
import Derived.RangeFuncLeaves
import Derived.OwnWalkIn
set_option linter.unusedSimpArgs false
set_option linter.unusedVariables false
namespace Go.Proofs.Ythjceppddmecdaa
open Go.RowKit
/-- A block that is no cells. -/
def objE (k : Nat) (o : Obj) : SProp where
  fp j := j = k
  ro := false
  holds w := w.heap[k]? = some o
  lt w h j hj := by subst hj; exact (Array.getElem?_eq_some_iff.1 h).1
  stable w w' ho h := (ho.block k rfl).trans h
/-- Many parts as one. -/
def starE (I : List SProp) : SProp where
  fp k := ∃ x ∈ I, x.fp k
  ro := false
  holds w := Star I w
  lt w h k hk := by obtain ⟨x, hx, hk⟩ := hk; exact h.mem_lt hx k hk
  stable w w' ho h := ⟨fun x hx => x.stable w w' ⟨ho.os, ho.tape, ho.output, ho.size, fun k hk => ho.block k ⟨x, hx, hk⟩⟩ (h.all x hx), h.pair⟩
namespace Star
variable {I L R : List SProp} {x y : SProp} {w w' : World}
theorem fold (h : Star (I ++ R) w) (hro : ∀ x ∈ I, x.ro = false) : Star (starE I :: R) w := by
  obtain ⟨hI, hR, hX⟩ := List.pairwise_append.1 h.pair
  refine ⟨fun z hz => ?_, List.pairwise_cons.2 ⟨fun z hz => .inr fun k hk hk2 => ?_, hR⟩⟩
  · rcases List.mem_cons.1 hz with rfl | hz
    · exact ⟨fun x hx => h.all x (List.mem_append.2 (.inl hx)), hI⟩
    · exact h.all z (List.mem_append.2 (.inr hz))
  · obtain ⟨x, hx, hk⟩ := hk
    rcases hX x hx z hz with h1 | h1
    · rw [hro x hx] at h1; cases h1.1
    · exact h1 k hk hk2
theorem unfold (h : Star (starE I :: R) w) : Star (I ++ R) w := by
  obtain ⟨hX, hR⟩ := List.pairwise_cons.1 h.pair
  have hI : Star I w := h.head
  refine ⟨fun z hz => ?_, List.pairwise_append.2 ⟨hI.pair, hR, fun x hx z hz => .inr fun k hk hk2 => ?_⟩⟩
  · rcases List.mem_append.1 hz with hz | hz
    · exact hI.all z hz
    · exact h.tail.all z hz
  · rcases hX z hz with h1 | h1
    · cases h1.1
    · exact h1 k ⟨x, hx, hk⟩ hk2
theorem new_obj (h : Star L w) (o : Obj) : Star (objE w.heap.size o :: L) (w.alloc o) :=
  h.new_ ((Ch.refl _ _).alloc _) (World.alloc_heap_new w o) fun k hk => by cases (show k = w.heap.size from hk); exact Nat.le_refl _
theorem put_obj {k : Nat} {o : Obj} (h : Star (objE k o :: L) w) (o' : Obj) : Star (objE k o' :: L) (w.putObj k o') :=
  h.put (bs := [k]) rfl ⟨rfl, rfl, rfl, by simp, fun j _ hj => World.putObj_heap_other (by simpa using hj)⟩ (fun b hb => .inl (List.mem_singleton.1 hb))
    (World.putObj_heap_same (Array.getElem?_eq_some_iff.1 (show w.heap[k]? = some o from h.head)).1) fun j hj => .inl hj
theorem app_perm {A B C : List SProp} (h : Star (A ++ (B ++ C)) w) : Star (B ++ (A ++ C)) w :=
  h.perm (by rw [← List.append_assoc, ← List.append_assoc]; exact List.perm_append_comm.append_right _)
end Star
/-! ### The fenced walk out of the plain one, an operation at a time -/
section
variable {P : Program} {w : World} {o : Oper} {a : Act} {Q : Exit → Act → World → Prop} {K : Act → World → Prop} {n : Nat}
theorem rowsIn_wide {row : String} {args : Array Value} {R : Value → World → Prop} (h : Rows P row args w R) : RowsIn Fence.wide n P row args w R :=
  fun c cs _ => let ⟨v, w', r, s⟩ := h c cs; ⟨v, w', r, stepsIn_wide.2 s⟩
theorem upon_wide {r : Result Next} (h : o.upon P a K Q r) : o.uponIn Fence.wide n P a K Q r := by
  unfold Oper.upon at h
  unfold Oper.uponIn
  split at h
  · exact h
  · exact h
  · exact h
  · exact ⟨fun h => (by simp [Fence.wide] at h), callsIn_wide.2 h⟩
  · exact ⟨fun h => (by simp [Fence.wide] at h), rowsIn_wide h⟩
  · exact h
  · exact h.elim
/-- Outside a round. -/
theorem wpIn_of_wp (hnd : ∀ c, o.op ≠ .defer c) (h : o.wp P a w K Q) : o.wpIn Fence.wide n P a w K Q := by
  refine ⟨fun _ _ => trivial, ?_⟩
  rw [Oper.semAt_plain _ _ _ hnd]
  exact upon_wide h
/-- In a round. -/
theorem wpIn_of_wp_round {l : Nat} (hnd : ∀ c, o.op ≠ .defer c) (h : o.wp P a w K Q) : o.wpIn (Fence.wide.inRound l) n P a w K Q := by
  refine ⟨fun _ _ => trivial, ?_⟩
  rw [Oper.semAt_plain _ _ _ hnd]
  exact upon_wide (n := n) h
end
theorem enters_at {P : Program} {f : FuncId} {fn : Func} {c : Code} (hf : P.funcs[f]? = some fn) (hname : (fn.name == "runtime.NumGoroutine") = false) (hb : fn.body = some c) (args : Array Value) (w : World) : (callFunc f args).run P w = .ok (.enter f args) w := by
  have h1 : fn.name ≠ "runtime.NumGoroutine" := by simpa using hname
  simp [callFunc, hf, h1, hb, mark]
/-! ### The statement -/
/-- What a round hands back. -/
def roundSays {α σ : Type} (J : σ → List α → SProp) (Jx : Code → σ → List α → SProp) (pre : List α) (L : List SProp) (e : Ending) (W' : World) : Prop :=
  (e = .returned (.bool true) ∧ ∃ s, Star (J s pre :: L) W') ∨ (e = .returned (.bool false) ∧ ∃ c s, Star (Jx c s pre :: L) W')
/-- The iterator's contract: it hands xs out, one by one, and keeps what it does not know of (F, and whatever J says). -/
def SeqStar {α : Type} (P : Program) (gf : Nat) (lb : Array Value) (enc : α → Value) (xs : List α) (F : List SProp) : Prop :=
  ∀ (σ : Type) (l : Nat) (J : σ → List α → SProp) (Jx : Code → σ → List α → SProp) (s0 : σ) (W : World),
    (∀ s pre x L W1, pre ++ [x] <+: xs → (∀ y ∈ F, y ∈ L) → Star (J s pre :: L) W1 → YieldAt Fence.wide 0 P l #[enc x] W1 (roundSays J Jx (pre ++ [x]) L)) →
    Star (J s0 [] :: F) W →
    CallsIn Fence.wide 0 P gf (#[.func (.yield l) #[] #[]] ++ lb) W fun e W' => (∃ v, e = .returned v) ∧ ((∃ s, Star (J s xs :: F) W') ∨ ∃ c s pre, pre <+: xs ∧ pre ≠ [] ∧ Star (Jx c s pre :: F) W')
/-- How the body of a round may be left. -/
def starPost {α σ : Type} (I : σ → List α → List SProp) (Ix : Code → σ → List α → List SProp) (xs : List α) (L : List SProp) : Exit → Act → World → Prop
  | .normal, _, W' => ∃ s, Star (I s xs ++ L) W'
  | .ret, _, W' => ∃ s, Star (Ix .ret s xs ++ L) W'
  | .exit id, _, W' => ∃ s, Star (Ix (.exit id) s xs ++ L) W'
  | .goto t, _, W' => ∃ s, Star (Ix (.goto t) s xs ++ L) W'
  | .panic _, _, _ => False
  | .outgrown, _, _ => False
/-- What never holds. -/
def falseE : SProp where
  fp _ := False
  ro := false
  holds _ := False
  lt _ h := h.elim
  stable _ _ _ h := h.elim
theorem wpIn_rangeFunc_star {α σ : Type} {P : Program} {g : Operand} {t : Tmp} {assign body : Code} {Q : Exit → Act → World → Prop} {a : Act} {w : World} {gf : Nat} {lb : Array Value}
    (hg : a.eval g = .func (.func gf) #[] lb) (eg : ∀ args w, (callFunc gf args).run P w = .ok (.enter gf args) w)
    {enc : α → Value} {xs : List α} {F : List SProp} (hseq : SeqStar P gf lb enc xs F) {I : σ → List α → List SProp} {Ix : Code → σ → List α → List SProp} {s0 : σ}
    (hI : ∀ s pre, ∀ x ∈ I s pre, x.ro = false) (hIx : ∀ c s pre, ∀ x ∈ Ix c s pre, x.ro = false) (h0 : Star (I s0 [] ++ F) w) (a₁ : α → Act)
    (hassign : ∀ (l : Nat) (x : α) (W : World) (K : Act → World → Prop), K (a₁ x) W →
      assign.wpIn (Fence.wide.inRound l) 0 P (Exit.then K (fun _ _ _ => False)) { tmps := a.tmps.setIfInBounds t (enc x), defers := [] } W)
    (hbody : ∀ (l : Nat) (s : σ) (pre : List α) (x : α) (L : List SProp) (W : World), pre ++ [x] <+: xs → (∀ y ∈ F, y ∈ L) → Star (I s pre ++ L) W →
      body.wpIn (Fence.wide.inRound l) 0 P (starPost I Ix (pre ++ [x]) L) (a₁ x) W)
    (hdone : ∀ (D : Nat) (s : σ) (W : World), Star (I s xs ++ (objE D (.deferred (some [])) :: F)) W → Q .normal { a with defers := { target := .collected D, args := #[] } :: a.defers } W)
    (hstop : ∀ (D : Nat) (c : Code) (s : σ) (pre : List α) (W : World), pre <+: xs → pre ≠ [] → Star (Ix c s pre ++ (objE D (.deferred (some [])) :: F)) W →
      c.wpIn Fence.wide 0 P Q { a with defers := { target := .collected D, args := #[] } :: a.defers } W) :
    (Code.rangeFunc g #[t] assign body).wpIn Fence.wide 0 P Q a w := by
  refine wpIn_rangeFunc ?_
  intro fn hfn
  obtain ⟨rec, hrec⟩ : ∃ rec : LoopState → Option Code → Loop, rec = fun st pe => { state := st, pending := pe, fn, tmps := a.tmps, params := #[t], assign, body, defers := w.heap.size } := ⟨_, rfl⟩
  have hM1 := (h0.new_obj (.deferred (some []))).new_obj (.loop (rec .ready none))
  rw [World.size_alloc] at hM1
  generalize hD : w.heap.size = D at hM1 hrec
  obtain ⟨l, hl⟩ : ∃ l, l = D + 1 := ⟨_, rfl⟩
  have henter : (Instr.enterLoop fn a.tmps #[t] assign body none).run P w = .ok (l, [{ target := .collected D, args := #[] }]) ((w.alloc (.deferred (some []))).alloc (.loop (rec .ready none))) := by
    rw [hrec, hl, ← hD]; exact run_enterLoop_outer _ _ _ _ _
  rw [← hl] at hM1
  clear hl hD
  generalize (w.alloc (.deferred (some []))).alloc (.loop (rec .ready none)) = W1 at hM1 henter
  obtain ⟨J, hJ⟩ : ∃ J : σ → List α → SProp, J = fun s pre => starE (objE l (.loop (rec .ready none)) :: objE D (.deferred (some [])) :: I s pre) := ⟨_, rfl⟩
  obtain ⟨Jx, hJx⟩ : ∃ Jx : Code → σ → List α → SProp, Jx = fun c s pre => starE (objE l (.loop (rec .done (some c))) :: objE D (.deferred (some [])) :: Ix c s pre) := ⟨_, rfl⟩
  have hro : ∀ (o o' : Obj) (M : List SProp), (∀ x ∈ M, x.ro = false) → ∀ x ∈ objE l o :: objE D o' :: M, x.ro = false := fun o o' M h x hx => by
    rcases List.mem_cons.1 hx with rfl | hx
    · rfl
    · rcases List.mem_cons.1 hx with rfl | hx
      · rfl
      · exact h x hx
  have hpar : ∀ st pe, (rec st pe).params = #[t] ∧ (rec st pe).fn = fn ∧ (rec st pe).tmps = a.tmps ∧ (rec st pe).assign = assign ∧ (rec st pe).body = body ∧ (rec st pe).state = st ∧ (rec st pe).pending = pe := fun st pe => by rw [hrec]; exact ⟨rfl, rfl, rfl, rfl, rfl, rfl, rfl⟩
  have hbusy : ∀ st pe st', { rec st pe with state := st' } = rec st' pe := fun st pe st' => by rw [hrec]
  have hboth : ∀ st pe st' pe', { rec st pe with state := st', pending := pe' } = rec st' pe' := fun st pe st' pe' => by rw [hrec]
  refine ⟨l, [{ target := .collected D, args := #[] }], W1, { target := .fn (.func gf) lb, args := #[.func (.yield l) #[] #[]] }, W1, gf,
    #[.func (.yield l) #[] #[]] ++ lb, W1, henter, ?_, fun _ _ => trivial, ?_, fun h => (by simp [Fence.wide] at h), ?_⟩
  · simp only [resolve, hg]
    simp [go_sem]
  · simp [invoke, go_sem, eg]
  · have hj0 : Star (J s0 [] :: F) W1 := by rw [hJ]; exact Star.fold (I := objE l _ :: objE D _ :: I s0 []) hM1 (hro _ _ _ (hI s0 []))
    refine (hseq σ l J Jx s0 W1 ?_ hj0).mono ?_
    · intro s pre x L W hpre hF hS
      rw [hJ] at hS
      have hS1 := hS.unfold
      have hl1 : W.heap[l]? = some (.loop (rec .ready none)) := hS1.all _ List.mem_cons_self
      have hy := run_yield (P := P) (args := #[enc x]) hl1 (by rw [(hpar _ _).1]; rfl)
      rw [(hpar _ _).1, (hpar _ _).2.1, (hpar _ _).2.2.1, (hpar _ _).2.2.2.1, (hpar _ _).2.2.2.2.1] at hy
      refine ⟨fn, _, assign, body, hy, roundIn_of_wpIn trivial ?_⟩
      have hz : (Array.zip #[t] #[enc x]).foldl (fun tmps (t, a) => tmps.setIfInBounds t a) a.tmps = a.tmps.setIfInBounds t (enc x) := by simp
      rw [hz]
      refine hassign l x W _ ⟨_, run_beginRound hl1 (hpar _ _).2.2.2.2.2.1, ?_⟩
      rw [hbusy]
      have hS2 : Star (objE l (.loop (rec .busy none)) :: (objE D (.deferred (some [])) :: (I s pre ++ L))) (W.putObj l (.loop (rec .busy none))) := Star.put_obj hS1 _
      have hS3 : Star (I s pre ++ (objE l (.loop (rec .busy none)) :: objE D (.deferred (some [])) :: L)) (W.putObj l (.loop (rec .busy none))) := Star.app_perm (A := [objE l _, objE D _]) hS2
      refine wpIn_mono (hbody l s pre x _ _ hpre (fun y hy => List.mem_cons_of_mem _ (List.mem_cons_of_mem _ (hF y hy))) hS3) ?_
      have fin : ∀ (jump : Option Code) (M : List SProp) (W3 : World), (∀ x ∈ M, x.ro = false) → Star (M ++ (objE l (.loop (rec .busy none)) :: objE D (.deferred (some [])) :: L)) W3 →
          ∃ w', (Instr.endRound l jump).run P W3 = .ok (.bool jump.isNone) w' ∧ Star (starE (objE l (.loop (rec (if jump.isNone then .ready else .done) jump)) :: objE D (.deferred (some [])) :: M) :: L) w' := fun jump M W3 hM h3 => by
        have h4 : Star (objE l (.loop (rec .busy none)) :: (objE D (.deferred (some [])) :: (M ++ L))) W3 := Star.app_perm (B := [objE l _, objE D _]) h3
        have hr := run_endRound (P := P) jump (show W3.heap[l]? = some (.loop (rec .busy none)) from h4.head)
        rw [hboth] at hr
        exact ⟨_, hr, Star.fold (I := objE l _ :: objE D _ :: M) (h4.put_obj _) (hro _ _ _ hM)⟩
      rintro e a3 W3 hp
      cases e with
      | normal => obtain ⟨s', hp⟩ := hp; obtain ⟨w', h1, h2⟩ := fin none _ W3 (hI _ _) hp; exact ⟨_, w', h1, .inl ⟨rfl, s', by rw [hJ]; exact h2⟩⟩
      | ret => obtain ⟨s', hp⟩ := hp; obtain ⟨w', h1, h2⟩ := fin (some .ret) _ W3 (hIx _ _ _) hp; exact ⟨_, w', h1, .inr ⟨rfl, .ret, s', by rw [hJx]; exact h2⟩⟩
      | exit id => obtain ⟨s', hp⟩ := hp; obtain ⟨w', h1, h2⟩ := fin (some (.exit id)) _ W3 (hIx _ _ _) hp; exact ⟨_, w', h1, .inr ⟨rfl, .exit id, s', by rw [hJx]; exact h2⟩⟩
      | goto t => obtain ⟨s', hp⟩ := hp; obtain ⟨w', h1, h2⟩ := fin (some (.goto t)) _ W3 (hIx _ _ _) hp; exact ⟨_, w', h1, .inr ⟨rfl, .goto t, s', by rw [hJx]; exact h2⟩⟩
      | panic ch => exact hp.elim
      | outgrown => exact hp.elim
    · rintro e W2 ⟨⟨v, rfl⟩, ⟨s, hS⟩ | ⟨c, s, pre, hp1, hp2, hS⟩⟩
      · rw [hJ] at hS
        have h1 := hS.unfold
        have hr := run_endLoop (P := P) (show W2.heap[l]? = some (.loop (rec .ready none)) from h1.head) (by rw [(hpar _ _).2.2.2.2.2.1]; simp)
        rw [(hpar _ _).2.2.2.2.2.2] at hr
        refine ⟨none, _, hr, hdone D s _ ?_⟩
        exact Star.app_perm (A := [objE D _]) (h1.put_obj _).tail
      · rw [hJx] at hS
        have h1 := hS.unfold
        have hr := run_endLoop (P := P) (show W2.heap[l]? = some (.loop (rec .done (some c))) from h1.head) (by rw [(hpar _ _).2.2.2.2.2.1]; simp)
        rw [(hpar _ _).2.2.2.2.2.2] at hr
        refine ⟨some c, _, hr, hstop D c s pre _ hp1 hp2 ?_⟩
        exact Star.app_perm (A := [objE D _]) (h1.put_obj _).tail
end Go.Proofs.Ythjceppddmecdaa
