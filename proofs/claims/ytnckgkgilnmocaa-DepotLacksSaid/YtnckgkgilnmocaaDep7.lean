/- What the laws share, part 7 (Func, FunD, IdK, IdL, DpK). No condition but those that each theorem names. -/
import Derived.Test.YtnckgkgilnmocaaDep1
import Derived.Test.YtnckgkgilnmocaaDep6
import Derived.DeepKeys4
import Derived.OwnWalkIn
import Derived.RangeFuncIn
import Derived.RangeFuncLeaves
import Derived.RangeFuncSeq
import Derived.Sort.LoopGhostIn
set_option linter.unusedSimpArgs false
set_option linter.unusedVariables false
namespace Go.Proofs.Ytnckgkgilnmocaa
open Go.RowKit
/-- A block that is no cells. -/
def objE (k : Nat) (o : Obj) : SProp where
  fp j := j = k
  ro := false
  holds w := w.heap[k]? = some o
  lt w h j hj := by subst hj; exact (Array.getElem?_eq_some_iff.1 h).1
  stable w w' ho h := (ho.block k rfl).trans h
/-- Many parts as one. -/
def starE (I : List SProp) : SProp where
  fp k := ∃ x ∈ I, x.fp k
  ro := false
  holds w := Star I w
  lt w h k hk := by obtain ⟨x, hx, hk⟩ := hk; exact h.mem_lt hx k hk
  stable w w' ho h := ⟨fun x hx => x.stable w w' ⟨ho.os, ho.tape, ho.output, ho.size, fun k hk => ho.block k ⟨x, hx, hk⟩⟩ (h.all x hx), h.pair⟩
namespace Star
variable {I L R : List SProp} {x y : SProp} {w w' : World}
theorem fold (h : Star (I ++ R) w) (hro : ∀ x ∈ I, x.ro = false) : Star (starE I :: R) w := by
  obtain ⟨hI, hR, hX⟩ := List.pairwise_append.1 h.pair
  refine ⟨fun z hz => ?_, List.pairwise_cons.2 ⟨fun z hz => .inr fun k hk hk2 => ?_, hR⟩⟩
  · rcases List.mem_cons.1 hz with rfl | hz
    · exact ⟨fun x hx => h.all x (List.mem_append.2 (.inl hx)), hI⟩
    · exact h.all z (List.mem_append.2 (.inr hz))
  · obtain ⟨x, hx, hk⟩ := hk
    rcases hX x hx z hz with h1 | h1
    · rw [hro x hx] at h1; cases h1.1
    · exact h1 k hk hk2
theorem unfold (h : Star (starE I :: R) w) : Star (I ++ R) w := by
  obtain ⟨hX, hR⟩ := List.pairwise_cons.1 h.pair
  have hI : Star I w := h.head
  refine ⟨fun z hz => ?_, List.pairwise_append.2 ⟨hI.pair, hR, fun x hx z hz => .inr fun k hk hk2 => ?_⟩⟩
  · rcases List.mem_append.1 hz with hz | hz
    · exact hI.all z hz
    · exact h.tail.all z hz
  · rcases hX z hz with h1 | h1
    · cases h1.1
    · exact h1 k ⟨x, hx, hk⟩ hk2
theorem new_obj (h : Star L w) (o : Obj) : Star (objE w.heap.size o :: L) (w.alloc o) :=
  h.new_ ((Ch.refl _ _).alloc _) (World.alloc_heap_new w o) fun k hk => by cases (show k = w.heap.size from hk); exact Nat.le_refl _
theorem put_obj {k : Nat} {o : Obj} (h : Star (objE k o :: L) w) (o' : Obj) : Star (objE k o' :: L) (w.putObj k o') :=
  h.put (bs := [k]) rfl ⟨rfl, rfl, rfl, by simp, fun j _ hj => World.putObj_heap_other (by simpa using hj)⟩ (fun b hb => .inl (List.mem_singleton.1 hb))
    (World.putObj_heap_same (Array.getElem?_eq_some_iff.1 (show w.heap[k]? = some o from h.head)).1) fun j hj => .inl hj
theorem app_perm {A B C : List SProp} (h : Star (A ++ (B ++ C)) w) : Star (B ++ (A ++ C)) w :=
  h.perm (by rw [← List.append_assoc, ← List.append_assoc]; exact List.perm_append_comm.append_right _)
end Star
/-! ### The fenced walk out of the plain one, an operation at a time -/
section
variable {P : Program} {w : World} {o : Oper} {a : Act} {Q : Exit → Act → World → Prop} {K : Act → World → Prop} {n : Nat}
theorem rowsIn_wide {row : String} {args : Array Value} {R : Value → World → Prop} (h : Rows P row args w R) : RowsIn Fence.wide n P row args w R :=
  fun c cs _ => let ⟨v, w', r, s⟩ := h c cs; ⟨v, w', r, stepsIn_wide.2 s⟩
theorem upon_wide {r : Result Next} (h : o.upon P a K Q r) : o.uponIn Fence.wide n P a K Q r := by
  unfold Oper.upon at h
  unfold Oper.uponIn
  split at h
  · exact h
  · exact h
  · exact h
  · exact ⟨fun h => (by simp [Fence.wide] at h), callsIn_wide.2 h⟩
  · exact ⟨fun h => (by simp [Fence.wide] at h), rowsIn_wide h⟩
  · exact h
  · exact h.elim
/-- Outside a round. -/
theorem wpIn_of_wp (hnd : ∀ c, o.op ≠ .defer c) (h : o.wp P a w K Q) : o.wpIn Fence.wide n P a w K Q := by
  refine ⟨fun _ _ => trivial, ?_⟩
  rw [Oper.semAt_plain _ _ _ hnd]
  exact upon_wide h
/-- In a round. -/
theorem wpIn_of_wp_round {l : Nat} (hnd : ∀ c, o.op ≠ .defer c) (h : o.wp P a w K Q) : o.wpIn (Fence.wide.inRound l) n P a w K Q := by
  refine ⟨fun _ _ => trivial, ?_⟩
  rw [Oper.semAt_plain _ _ _ hnd]
  exact upon_wide (n := n) h
end
theorem enters_at {P : Program} {f : FuncId} {fn : Func} {c : Code} (hf : P.funcs[f]? = some fn) (hname : (fn.name == "runtime.NumGoroutine") = false) (hb : fn.body = some c) (args : Array Value) (w : World) : (callFunc f args).run P w = .ok (.enter f args) w := by
  have h1 : fn.name ≠ "runtime.NumGoroutine" := by simpa using hname
  simp [callFunc, hf, h1, hb, mark]
/-! ### The statement -/
/-- What a round hands back. -/
def roundSays {α σ : Type} (J : σ → List α → SProp) (Jx : Code → σ → List α → SProp) (pre : List α) (L : List SProp) (e : Ending) (W' : World) : Prop :=
  (e = .returned (.bool true) ∧ ∃ s, Star (J s pre :: L) W') ∨ (e = .returned (.bool false) ∧ ∃ c s, Star (Jx c s pre :: L) W')
/-- How the body of a round may be left. -/
def starPost {α σ : Type} (I : σ → List α → List SProp) (Ix : Code → σ → List α → List SProp) (xs : List α) (L : List SProp) : Exit → Act → World → Prop
  | .normal, _, W' => ∃ s, Star (I s xs ++ L) W'
  | .ret, _, W' => ∃ s, Star (Ix .ret s xs ++ L) W'
  | .exit id, _, W' => ∃ s, Star (Ix (.exit id) s xs ++ L) W'
  | .goto t, _, W' => ∃ s, Star (Ix (.goto t) s xs ++ L) W'
  | .panic _, _, _ => False
  | .outgrown, _, _ => False
/-- What never holds. -/
def falseE : SProp where
  fp _ := False
  ro := false
  holds _ := False
  lt _ h := h.elim
  stable _ _ _ h := h.elim
end Go.Proofs.Ytnckgkgilnmocaa
set_option linter.unusedSimpArgs false
set_option linter.unusedVariables false
namespace Go.Proofs.Ytnckgkgilnmocaa
open Go.RowKit
/-- The iterator's contract: it hands xs out, one by one, and keeps what it does not know of (F, and whatever J says). -/
def SeqAny {α : Type} (P : Program) (gf : Nat) (lb : Array Value) (enc : α → Value) (Ok Fin : List α → Prop) (X : SProp) (F : List SProp) : Prop :=
  ∀ (σ : Type) (l : Nat) (J : σ → List α → SProp) (Jx : Code → σ → List α → SProp) (s0 : σ) (W : World),
    (∀ s pre x L W1, Ok (pre ++ [x]) → (∀ y ∈ F, y ∈ L) → Star (J s pre :: L) W1 → YieldAt Fence.wide 0 P l #[enc x] W1 (roundSays J Jx (pre ++ [x]) L)) →
    Star (J s0 [] :: X :: F) W →
    CallsIn Fence.wide 0 P gf (#[.func (.yield l) #[] #[]] ++ lb) W fun e W' => (∃ v, e = .returned v) ∧ ((∃ s xs, Fin xs ∧ Star (J s xs :: X :: F) W') ∨ ∃ c s pre, Ok pre ∧ pre ≠ [] ∧ Star (Jx c s pre :: X :: F) W')
theorem wpIn_rangeFunc_any {α σ : Type} {P : Program} {g : Operand} {t : Tmp} {assign body : Code} {Q : Exit → Act → World → Prop} {a : Act} {w : World} {gf : Nat} {lb : Array Value}
    (hg : a.eval g = .func (.func gf) #[] lb) (eg : ∀ args w, (callFunc gf args).run P w = .ok (.enter gf args) w)
    {enc : α → Value} {Ok Fin : List α → Prop} {X : SProp} {F : List SProp} (hseq : SeqAny P gf lb enc Ok Fin X F) {I : σ → List α → List SProp} {Ix : Code → σ → List α → List SProp} {s0 : σ}
    (hI : ∀ s pre, ∀ x ∈ I s pre, x.ro = false) (hIx : ∀ c s pre, ∀ x ∈ Ix c s pre, x.ro = false) (h0 : Star (I s0 [] ++ (X :: F)) w) (A : Act → α → List SProp → Prop)
    (hassign : ∀ (l : Nat) (s : σ) (pre : List α) (x : α) (L : List SProp) (W : World) (K : Act → World → Prop), Ok (pre ++ [x]) → (∀ y ∈ F, y ∈ L) → Star (I s pre ++ L) W → (∀ (a₁ : Act) (M : List SProp) (W' : World), A a₁ x M → Star (I s pre ++ (M ++ L)) W' → K a₁ W') →
      assign.wpIn (Fence.wide.inRound l) 0 P (Exit.then K (fun _ _ _ => False)) { tmps := a.tmps.setIfInBounds t (enc x), defers := [] } W)
    (hbody : ∀ (l : Nat) (s : σ) (pre : List α) (x : α) (L : List SProp) (a₁ : Act) (M : List SProp) (W : World), Ok (pre ++ [x]) → (∀ y ∈ F, y ∈ L) → A a₁ x M → Star (I s pre ++ (M ++ L)) W →
      body.wpIn (Fence.wide.inRound l) 0 P (starPost I Ix (pre ++ [x]) L) a₁ W)
    (hdone : ∀ (D : Nat) (s : σ) (xs : List α) (W : World), Fin xs → Star (I s xs ++ (objE D (.deferred (some [])) :: X :: F)) W → Q .normal { a with defers := { target := .collected D, args := #[] } :: a.defers } W)
    (hstop : ∀ (D : Nat) (c : Code) (s : σ) (pre : List α) (W : World), Ok pre → pre ≠ [] → Star (Ix c s pre ++ (objE D (.deferred (some [])) :: X :: F)) W →
      c.wpIn Fence.wide 0 P Q { a with defers := { target := .collected D, args := #[] } :: a.defers } W) :
    (Code.rangeFunc g #[t] assign body).wpIn Fence.wide 0 P Q a w := by
  refine wpIn_rangeFunc ?_
  intro fn hfn
  obtain ⟨rec, hrec⟩ : ∃ rec : LoopState → Option Code → Loop, rec = fun st pe => { state := st, pending := pe, fn, tmps := a.tmps, params := #[t], assign, body, defers := w.heap.size } := ⟨_, rfl⟩
  have hM1 := (h0.new_obj (.deferred (some []))).new_obj (.loop (rec .ready none))
  rw [World.size_alloc] at hM1
  generalize hD : w.heap.size = D at hM1 hrec
  obtain ⟨l, hl⟩ : ∃ l, l = D + 1 := ⟨_, rfl⟩
  have henter : (Instr.enterLoop fn a.tmps #[t] assign body none).run P w = .ok (l, [{ target := .collected D, args := #[] }]) ((w.alloc (.deferred (some []))).alloc (.loop (rec .ready none))) := by
    rw [hrec, hl, ← hD]; exact run_enterLoop_outer _ _ _ _ _
  rw [← hl] at hM1
  clear hl hD
  generalize (w.alloc (.deferred (some []))).alloc (.loop (rec .ready none)) = W1 at hM1 henter
  obtain ⟨J, hJ⟩ : ∃ J : σ → List α → SProp, J = fun s pre => starE (objE l (.loop (rec .ready none)) :: objE D (.deferred (some [])) :: I s pre) := ⟨_, rfl⟩
  obtain ⟨Jx, hJx⟩ : ∃ Jx : Code → σ → List α → SProp, Jx = fun c s pre => starE (objE l (.loop (rec .done (some c))) :: objE D (.deferred (some [])) :: Ix c s pre) := ⟨_, rfl⟩
  have hro : ∀ (o o' : Obj) (M : List SProp), (∀ x ∈ M, x.ro = false) → ∀ x ∈ objE l o :: objE D o' :: M, x.ro = false := fun o o' M h x hx => by
    rcases List.mem_cons.1 hx with rfl | hx
    · rfl
    · rcases List.mem_cons.1 hx with rfl | hx
      · rfl
      · exact h x hx
  have hpar : ∀ st pe, (rec st pe).params = #[t] ∧ (rec st pe).fn = fn ∧ (rec st pe).tmps = a.tmps ∧ (rec st pe).assign = assign ∧ (rec st pe).body = body ∧ (rec st pe).state = st ∧ (rec st pe).pending = pe := fun st pe => by rw [hrec]; exact ⟨rfl, rfl, rfl, rfl, rfl, rfl, rfl⟩
  have hbusy : ∀ st pe st', { rec st pe with state := st' } = rec st' pe := fun st pe st' => by rw [hrec]
  have hboth : ∀ st pe st' pe', { rec st pe with state := st', pending := pe' } = rec st' pe' := fun st pe st' pe' => by rw [hrec]
  refine ⟨l, [{ target := .collected D, args := #[] }], W1, { target := .fn (.func gf) lb, args := #[.func (.yield l) #[] #[]] }, W1, gf,
    #[.func (.yield l) #[] #[]] ++ lb, W1, henter, ?_, fun _ _ => trivial, ?_, fun h => (by simp [Fence.wide] at h), ?_⟩
  · simp only [resolve, hg]
    simp [go_sem]
  · simp [invoke, go_sem, eg]
  · have hj0 : Star (J s0 [] :: X :: F) W1 := by rw [hJ]; exact Star.fold (I := objE l _ :: objE D _ :: I s0 []) hM1 (hro _ _ _ (hI s0 []))
    refine (hseq σ l J Jx s0 W1 ?_ hj0).mono ?_
    · intro s pre x L W hpre hF hS
      rw [hJ] at hS
      have hS1 := hS.unfold
      have hl1 : W.heap[l]? = some (.loop (rec .ready none)) := hS1.all _ List.mem_cons_self
      have hy := run_yield (P := P) (args := #[enc x]) hl1 (by rw [(hpar _ _).1]; rfl)
      rw [(hpar _ _).1, (hpar _ _).2.1, (hpar _ _).2.2.1, (hpar _ _).2.2.2.1, (hpar _ _).2.2.2.2.1] at hy
      refine ⟨fn, _, assign, body, hy, roundIn_of_wpIn trivial ?_⟩
      have hz : (Array.zip #[t] #[enc x]).foldl (fun tmps (t, a) => tmps.setIfInBounds t a) a.tmps = a.tmps.setIfInBounds t (enc x) := by simp
      rw [hz]
      have hS0 : Star (I s pre ++ (objE l (.loop (rec .ready none)) :: objE D (.deferred (some [])) :: L)) W := Star.app_perm (A := [objE l _, objE D _]) hS1
      refine hassign l s pre x _ W _ hpre (fun y hy => List.mem_cons_of_mem _ (List.mem_cons_of_mem _ (hF y hy))) hS0 ?_
      intro a1 M W' hA hSA
      have hS5 : Star (objE l (.loop (rec .ready none)) :: (objE D (.deferred (some [])) :: (I s pre ++ (M ++ L)))) W' := by
        have h1 : Star ((I s pre ++ M) ++ ([objE l (.loop (rec .ready none)), objE D (.deferred (some []))] ++ L)) W' := by rw [List.append_assoc]; exact hSA
        have h2 := Star.app_perm h1
        rw [List.append_assoc] at h2
        exact h2
      have hl2 : W'.heap[l]? = some (.loop (rec .ready none)) := hS5.all _ List.mem_cons_self
      refine ⟨_, run_beginRound hl2 (hpar _ _).2.2.2.2.2.1, ?_⟩
      rw [hbusy]
      have hS2 := Star.put_obj hS5 (.loop (rec .busy none))
      have hS3 : Star (I s pre ++ (M ++ (objE l (.loop (rec .busy none)) :: objE D (.deferred (some [])) :: L))) (W'.putObj l (.loop (rec .busy none))) := by
        have h1 : Star ([objE l (.loop (rec .busy none)), objE D (.deferred (some []))] ++ ((I s pre ++ M) ++ L)) (W'.putObj l (.loop (rec .busy none))) := by rw [List.append_assoc]; exact hS2
        have h2 := Star.app_perm h1
        rw [List.append_assoc] at h2
        exact h2
      refine wpIn_mono (hbody l s pre x _ a1 M _ hpre (fun y hy => List.mem_cons_of_mem _ (List.mem_cons_of_mem _ (hF y hy))) hA hS3) ?_
      have fin : ∀ (jump : Option Code) (M : List SProp) (W3 : World), (∀ x ∈ M, x.ro = false) → Star (M ++ (objE l (.loop (rec .busy none)) :: objE D (.deferred (some [])) :: L)) W3 →
          ∃ w', (Instr.endRound l jump).run P W3 = .ok (.bool jump.isNone) w' ∧ Star (starE (objE l (.loop (rec (if jump.isNone then .ready else .done) jump)) :: objE D (.deferred (some [])) :: M) :: L) w' := fun jump M W3 hM h3 => by
        have h4 : Star (objE l (.loop (rec .busy none)) :: (objE D (.deferred (some [])) :: (M ++ L))) W3 := Star.app_perm (B := [objE l _, objE D _]) h3
        have hr := run_endRound (P := P) jump (show W3.heap[l]? = some (.loop (rec .busy none)) from h4.head)
        rw [hboth] at hr
        exact ⟨_, hr, Star.fold (I := objE l _ :: objE D _ :: M) (h4.put_obj _) (hro _ _ _ hM)⟩
      rintro e a3 W3 hp
      cases e with
      | normal => obtain ⟨s', hp⟩ := hp; obtain ⟨w', h1, h2⟩ := fin none _ W3 (hI _ _) hp; exact ⟨_, w', h1, .inl ⟨rfl, s', by rw [hJ]; exact h2⟩⟩
      | ret => obtain ⟨s', hp⟩ := hp; obtain ⟨w', h1, h2⟩ := fin (some .ret) _ W3 (hIx _ _ _) hp; exact ⟨_, w', h1, .inr ⟨rfl, .ret, s', by rw [hJx]; exact h2⟩⟩
      | exit id => obtain ⟨s', hp⟩ := hp; obtain ⟨w', h1, h2⟩ := fin (some (.exit id)) _ W3 (hIx _ _ _) hp; exact ⟨_, w', h1, .inr ⟨rfl, .exit id, s', by rw [hJx]; exact h2⟩⟩
      | goto t => obtain ⟨s', hp⟩ := hp; obtain ⟨w', h1, h2⟩ := fin (some (.goto t)) _ W3 (hIx _ _ _) hp; exact ⟨_, w', h1, .inr ⟨rfl, .goto t, s', by rw [hJx]; exact h2⟩⟩
      | panic ch => exact hp.elim
      | outgrown => exact hp.elim
    · rintro e W2 ⟨⟨v, rfl⟩, ⟨s, xs, hfin, hS⟩ | ⟨c, s, pre, hp1, hp2, hS⟩⟩
      · rw [hJ] at hS
        have h1 := hS.unfold
        have hr := run_endLoop (P := P) (show W2.heap[l]? = some (.loop (rec .ready none)) from h1.head) (by rw [(hpar _ _).2.2.2.2.2.1]; simp)
        rw [(hpar _ _).2.2.2.2.2.2] at hr
        refine ⟨none, _, hr, hdone D s xs _ hfin ?_⟩
        exact Star.app_perm (A := [objE D _]) (h1.put_obj _).tail
      · rw [hJx] at hS
        have h1 := hS.unfold
        have hr := run_endLoop (P := P) (show W2.heap[l]? = some (.loop (rec .done (some c))) from h1.head) (by rw [(hpar _ _).2.2.2.2.2.1]; simp)
        rw [(hpar _ _).2.2.2.2.2.2] at hr
        refine ⟨some c, _, hr, hstop D c s pre _ hp1 hp2 ?_⟩
        exact Star.app_perm (A := [objE D _]) (h1.put_obj _).tail
end Go.Proofs.Ytnckgkgilnmocaa
set_option linter.unusedSimpArgs false
set_option linter.unusedVariables false
namespace Go.Proofs.Ytnckgkgilnmocaa
open Go.RowKit
attribute [local go_sem] extract_mid extract_drop bget bsize wrap64_u8 i64_u8 u64_u8 bappend
abbrev keyF (g : Nat) : Value := .func (.func 87) #[] #[.pointer (some ⟨g, 0, none⟩)]
abbrev mpT : TypeId := 68
def encI (f : List UInt8 → Value) (k : List UInt8) : Value × Value := (idv k, f k)
theorem info_idB : (Try.prog.info? 73).map (fun i => i.zero) = some (some (.agg (bvs z32).toArray)) := by kernel_rfl
section
variable {F L R : List SProp}
set_option maxRecDepth 100000 in
theorem keys_id {b : Nat} (w : World) (hM : Star L w) : Calls Try.prog 57 #[.map (some b)] w fun r w' => ∃ g, r = .returned (keyF g) ∧ Star (cellsE g mpT #[.map (some b)] :: L) w' := by
  go_enter Try.func57, Try.ntmps57
  go_wp2_with (first | (first | (have hM0 := hM; clear hM; refine BigFrame.wpList_want (by rfl) fun K hK => ws_box hM0 rfl rfl (cs := #[.map (some b)]) rfl (fun g w hM => hK _ _ ?_); clear hM0 hK K) | fail))
  go_ret
  exact ⟨g, rfl, hM⟩
set_option maxRecDepth 100000 in
set_option maxHeartbeats 8000000 in
theorem keys_seq {b g : Nat} {ks : List (List UInt8)} {f : List UInt8 → Value} (h32 : ∀ k ∈ ks, k.length = 32) (hg : cellsE g mpT #[.map (some b)] ∈ F) :
    SeqAny Try.prog 87 #[.pointer (some ⟨g, 0, none⟩)] idv (fun pre => ∃ lft, (pre ++ lft).Perm ks) (fun xs => xs.Perm ks) (mapE Try.prog idT b (ks.map (encI f))) F := by
  intro σ l J Jx s0 W hY hM
  have HY := Lib.hid hY
  have H32 := Lib.hid h32
  clear hY h32
  refine callsIn_of_wp Try.func87 rfl trivial ?_; simp only [Try.ntmps87, List.size_toArray, List.length_cons, List.length_nil, Nat.reduceAdd, Nat.reduceSub, Array.replicate_succ, Array.replicate_zero, List.push_toArray, List.append_toArray, List.nil_append, List.cons_append]
  gi_wp2_with (first | (first | (refine BigFrame.wpListIn_want (by rfl) fun K hK => wpIn_of_wp (fun _ h => by cases h) (ws_load1 hM rfl rfl (by (repeat (first | assumption | (with_reducible exact mZ) | apply mS)); first | done | fail) (by first | rfl | assumption) (by decide +kernel) (hK _ _ ?_)); clear hK K) | fail) | (first | (have hM0 := hM; clear hM; refine BigFrame.wpListIn_want (by rfl) fun K hK => wpIn_of_wp (fun _ h => by cases h) (ws_range_map hM0 rfl Try.underlying68 rfl (by (repeat (first | (with_reducible exact Take.head) | apply Take.tail)); first | done | fail) (fun gi w hM => hK _ _ ?_)); clear hM0 hK K) | fail))
  obtain ⟨wq, rfl⟩ : ∃ wq : World, wq = w := ⟨_, rfl⟩
  gi_loopg [] ks.length (fun gk wx => ∃ (vis lft : List (List UInt8)) (s1 : σ), gk = lft.length ∧ Hid ((vis ++ lft).Perm ks) ∧ Star (J s1 vis :: rangeE Try.prog idT b gi (ks.map (encI f)) (lft.map (encI f)) :: F) wx)
  case atStart => exact ⟨[], ks, s0, rfl, List.Perm.refl _, hM.sel (by repeat (first | (with_reducible exact Sel.refl) | (with_reducible exact Take.head) | (with_reducible apply Take.tail) | (with_reducible apply Sel.cons) | (with_reducible apply Sel.drop)))⟩
  case round =>
    clear hM
    obtain ⟨vis, lft, s1, hgk, hv, hM⟩ := hrel
    have HNEXT : True := trivial
    gi_wp2_with (first | (have hM0 := hM; clear hM; refine BigFrame.wpListIn_want (by rfl) fun K hK => wpIn_of_wp (fun _ h => by cases h) (ws_next_enc (encI f) hM0 rfl rfl (by (repeat (first | (with_reducible exact Take.head) | apply Take.tail)); first | done | fail) (fun he w hM => hK _ _ ?_) (fun i lft' w hp hM => hK _ _ ?_)); clear hM0 hK K; rotate_left; have HI := Lib.hid (H32.out i (hv.out.mem_iff.1 (List.mem_append.2 (.inr (hp.mem_iff.2 List.mem_cons_self))))); rotate_left) | (first | (refine BigFrame.wpListIn_want (by rfl) fun K hK => wpIn_of_wp (fun _ h => by cases h) (ws_of_ex (ex_entry hM rfl rfl (by (repeat (first | assumption | (with_reducible exact mZ) | apply mS)); first | done | fail)) (hK _ _ ?_)); clear hK K) | fail) | (first | (have hM0 := hM; clear hM; refine BigFrame.wpListIn_want (by rfl) fun K hK => wpIn_of_wp (fun _ h => by cases h) (ws_alloc hM0 (t := 73) rfl (bvs z32).toArray info_idB (fun g3 w hM => hK _ _ ?_)); clear hM0 hK K) | fail) | (first | (have hM0 := hM; clear hM; refine BigFrame.wpListIn_want (by rfl) fun K hK => wpIn_of_wp (fun _ h => by cases h) (ws_store hM0 rfl rfl rfl (by (repeat (first | (with_reducible exact Take.head) | apply Take.tail)); first | done | fail) (n := 32) (by (show (bvs i).toArray.size = 32; simp [bvs_len, HI.out])) (by simp [bvs_len, z32_len]) (by kernel_rfl) (by (show ∀ v ∈ (bvs i).toArray.toList, v.oneCell' = true; simpa using bvs_oneCell i)) (fun w hM => hK _ _ ?_)); clear hM0 hK K) | fail) | (first | (refine BigFrame.wpListIn_want (by rfl) fun K hK => wpIn_of_wp (fun _ h => by cases h) (ws_load hM rfl rfl (by (repeat (first | assumption | (with_reducible exact mZ) | apply mS)); first | done | fail) (n := 32) (by (show (bvs i).toArray.size = 32; simp [bvs_len, HI.out])) (by decide +kernel) (hK _ _ ?_)); clear hK K) | fail))
    · subst he
      rw [List.append_nil] at hv
      go_end0
      exact ⟨⟨_, rfl⟩, .inl ⟨s1, vis, hv.out, hM.sel (by repeat (first | (with_reducible exact Sel.refl) | (with_reducible exact Take.head) | (with_reducible apply Take.tail) | (with_reducible apply Sel.cons) | (with_reducible apply Sel.drop)))⟩⟩
    · have hiv : (vis ++ i :: lft').Perm ks := (List.Perm.append_left vis hp.symm).trans hv.out
      have HIV := Lib.hid hiv
      have HP := Lib.hid hp
      clear hp hiv
      have hM2 : Star (J s1 vis :: cellsE g3 idT (bvs i).toArray :: entryE Try.prog idT b gi (ks.map (encI f)) (lft'.map (encI f)) (encI f i).1 (encI f i).2 :: F) w := hM.sel (by repeat (first | (with_reducible exact Sel.refl) | (with_reducible exact Take.head) | (with_reducible apply Take.tail) | (with_reducible apply Sel.cons) | (with_reducible apply Sel.drop)))
      obtain ⟨fn, tmps, assign, body, hy, hR⟩ := HY.out s1 vis i _ w ⟨lft', by rw [List.append_assoc]; exact HIV.out⟩ (fun y hy => by repeat (first | exact hy | apply mS)) hM2
      have hy2 : (Instr.yield l #[.agg (bvs i).toArray]).run Try.prog w = _ := hy
      rw [hy2]
      refine ⟨fun h => by simp [Fence.wide] at h, RoundIn.mono hR ?_⟩
      rintro e W3 (⟨rfl, s2, hS⟩ | ⟨rfl, c, s2, hS⟩)
      · clear hM hM2 hy hy2 hR
        gi_wp2
        gi_roundg lft'.length
        case measure => have := HP.out.length_eq; simp at this; omega
        case rel =>
          have hS2 := (hS.take (x := entryE Try.prog idT b gi (ks.map (encI f)) (lft'.map (encI f)) (encI f i).1 (encI f i).2) (by (repeat (first | (with_reducible exact Take.head) | apply Take.tail)); first | done | fail)).range_of_entry
          exact ⟨vis ++ [i], lft', s2, rfl, (by show _; rw [List.append_assoc]; exact HIV.out), hS2.sel (by repeat (first | (with_reducible exact Sel.refl) | (with_reducible exact Take.head) | (with_reducible apply Take.tail) | (with_reducible apply Sel.cons) | (with_reducible apply Sel.drop)))⟩
      · clear hM hM2 hy hy2 hR
        gi_wp2
        refine bodyPost_ret (results_none rfl _ _ _) rfl ?_
        have hS2 := ((hS.take (x := entryE Try.prog idT b gi (ks.map (encI f)) (lft'.map (encI f)) (encI f i).1 (encI f i).2) (by (repeat (first | (with_reducible exact Take.head) | apply Take.tail)); first | done | fail)).range_of_entry).range_done
        exact ⟨⟨_, rfl⟩, .inr ⟨c, s2, vis ++ [i], ⟨lft', by rw [List.append_assoc]; exact HIV.out⟩, by simp, hS2.sel (by repeat (first | (with_reducible exact Sel.refl) | (with_reducible exact Take.head) | (with_reducible apply Take.tail) | (with_reducible apply Sel.cons) | (with_reducible apply Sel.drop)))⟩⟩
end
end Go.Proofs.Ytnckgkgilnmocaa
set_option linter.unusedSimpArgs false
set_option linter.unusedVariables false
namespace Go.Proofs.Ytnckgkgilnmocaa
open Go.RowKit
attribute [local go_sem] extract_mid extract_drop bget bsize wrap64_u8 i64_u8 u64_u8 bappend
attribute [local go_sem] Oper.semAt_some
theorem drop_preD {L : List SProp} {w : World} {D : Nat} (h : Star (objE D (.deferred (some [])) :: L) w) (P : Program) : (Instr.takeDeferred D).run P w = .ok [] (w.putObj D (.deferred none)) :=
  run_takeDeferred (show w.heap[D]? = some (.deferred (some [])) from h.head)
section
variable {F L R : List SProp}
set_option maxRecDepth 100000 in
set_option maxHeartbeats 8000000 in
theorem append_ids {b g : Nat} {ks : List (List UInt8)} {f : List UInt8 → Value} (h32 : ∀ k ∈ ks, k.length = 32) (hn : ks.length ≤ 1000) (w : World) (hM : Star (mapE Try.prog idT b (ks.map (encI f)) :: F) w) (hg : cellsE g mpT #[.map (some b)] ∈ F) :
    Calls Try.prog 99 #[.slice none 0 0, keyF g] w fun r w' => ∃ A c xs, xs.Perm ks ∧ r = .returned (.slice A ks.length c) ∧ Star (ownE idT 32 A ks.length c (idvs xs) :: mapE Try.prog idT b (ks.map (encI f)) :: F) w' := by
  have HQ : ∀ {L : List SProp}, cellsE g mpT #[.map (some b)] ∈ L → SeqAny Try.prog 87 #[.pointer (some ⟨g, 0, none⟩)] idv (fun pre => ∃ lft, (pre ++ lft).Perm ks) (fun xs => xs.Perm ks) (mapE Try.prog idT b (ks.map (encI f))) L := fun h => keys_seq h32 h
  have HCC := Lib.hid hn
  have H32 := Lib.hid h32
  clear h32 hn
  replace hM := hM.nilown idT 32
  refine (callsIn_wide (n := 0)).1 (callsIn_of_wp_marks Try.func99 rfl trivial (wpIn_wide.2 ?_)); simp only [Try.ntmps99, List.size_toArray, List.length_cons, List.length_nil, Nat.reduceAdd, Nat.reduceSub, Array.replicate_succ, Array.replicate_zero, List.push_toArray, List.append_toArray, List.nil_append, List.cons_append]
  go_wp2_with (first | (first | (have hM0 := hM; clear hM; refine BigFrame.wpList_want (by rfl) fun K hK => ws_box hM0 rfl rfl (cs := #[.slice none 0 0]) rfl (fun g2 w hM => hK _ _ ?_); clear hM0 hK K) | fail))
  refine (wpIn_wide (n := 0)).1 ?_
  have hM2 : Star (cellsE g2 76 #[.slice none 0 0] :: ownE idT 32 none 0 0 [] :: mapE Try.prog idT b (ks.map (encI f)) :: F) w := hM.sel (by repeat (first | (with_reducible exact Sel.refl) | (with_reducible exact Take.head) | (with_reducible apply Take.tail) | (with_reducible apply Sel.cons) | (with_reducible apply Sel.drop)))
  replace hM : Star ([cellsE g2 76 #[.slice none 0 0], ownE idT 32 none 0 0 []] ++ (mapE Try.prog idT b (ks.map (encI f)) :: F)) w := hM2
  clear hM2
  refine wpIn_rangeFunc_any (gf := 87) (lb := #[.pointer (some ⟨g, 0, none⟩)]) (σ := Option Addr × Nat) rfl (enters_at Try.func87 (by kernel_rfl) rfl) (HQ hg)
    (I := fun q pre => [cellsE g2 76 #[.slice q.1 pre.length q.2], ownE idT 32 q.1 pre.length q.2 (idvs pre)]) (Ix := fun _ _ _ => [falseE]) (s0 := (none, 0)) (by simp [cellsE, ownE]) (by simp [falseE]) hM
    (fun a1 x M => ∃ g6, M = [cellsE g6 idT (bvs x).toArray] ∧ a1 = { tmps := #[.slice none 0 0, keyF g, .pointer (some ⟨g2, 0, none⟩), undef, .slice none 0 0, .pointer (some ⟨g6, 0, none⟩), keyF g, idv x, undef, undef, undef, undef, undef], defers := [] }) ?assign ?body ?done ?stop
  case assign =>
    rintro l ⟨A, c⟩ pre x L W K ⟨lft, hok⟩ hsub hM hK
    have hx32 : x.length = 32 := H32.out x (hok.mem_iff.1 (by simp))
    have HX := Lib.hid hx32
    clear hx32 hok
    simp only [List.cons_append, List.nil_append] at hM
    gi_wp2_with (first | (first | (have hM0 := hM; clear hM; refine BigFrame.wpListIn_want (by rfl) fun K hK => wpIn_of_wp_round (fun _ h => by cases h) (ws_alloc hM0 (t := 73) rfl (bvs z32).toArray info_idB (fun g6 w hM => hK _ _ ?_)); clear hM0 hK K) | fail) | (first | (have hM0 := hM; clear hM; refine BigFrame.wpListIn_want (by rfl) fun K hK => wpIn_of_wp_round (fun _ h => by cases h) (ws_store hM0 rfl rfl rfl (by (repeat (first | (with_reducible exact Take.head) | apply Take.tail)); first | done | fail) (n := 32) (by (show (bvs x).toArray.size = 32; simp [bvs_len, HX.out])) (by simp [bvs_len, z32_len]) (by kernel_rfl) (by (show ∀ v ∈ (bvs x).toArray.toList, v.oneCell' = true; simpa using bvs_oneCell x)) (fun w hM => hK _ _ ?_)); clear hM0 hK K) | fail))
    refine hK _ [cellsE g6 idT (bvs x).toArray] w ⟨g6, rfl, rfl⟩ ?_
    simp only [List.cons_append, List.nil_append]
    exact hM.sel (by repeat (first | (with_reducible exact Sel.refl) | (with_reducible exact Take.head) | (with_reducible apply Take.tail) | (with_reducible apply Sel.cons) | (with_reducible apply Sel.drop)))
  case body =>
    rintro l ⟨A, c⟩ pre x L a1 M W ⟨lft, hok⟩ hsub ⟨g6, rfl, rfl⟩ hM
    have hx32 : x.length = 32 := H32.out x (hok.mem_iff.1 (by simp))
    have hpl : pre.length + 1 ≤ 1000 := by have h1 := hok.length_eq; have h2 := HCC.out; rw [List.length_append, List.length_append, List.length_singleton] at h1; omega
    have HX := Lib.hid hx32
    clear hok
    simp only [List.cons_append, List.nil_append] at hM
    gi_wp2_with (first | (first | (refine BigFrame.wpListIn_want (by rfl) fun K hK => wpIn_of_wp_round (fun _ h => by cases h) (ws_load1 hM rfl rfl (by (repeat (first | assumption | (with_reducible exact mZ) | apply mS)); first | done | fail) (by first | rfl | assumption) (by decide +kernel) (hK _ _ ?_)); clear hK K) | fail) | (first | (refine BigFrame.wpListIn_want (by rfl) fun K hK => wpIn_of_wp_round (fun _ h => by cases h) (ws_load hM rfl rfl (by (repeat (first | assumption | (with_reducible exact mZ) | apply mS)); first | done | fail) (n := 32) (by (show (bvs x).toArray.size = 32; simp [bvs_len, HX.out])) (by decide +kernel) (hK _ _ ?_)); clear hK K) | fail) | (first | (have hM0 := hM; clear hM; refine BigFrame.wpListIn_want (by rfl) fun K hK => wpIn_of_wp_round (fun _ h => by cases h) (ws_slice_row hM0 (n := 1) rfl 73 32 (.agg (bvs z32).toArray) [idv x] Try.underlying76 (by kernel_rfl) rfl (by simp [Value.cells, iv, sv, bv, idv, bvs_len, hx32]) (by rfl) (by decide) (cs := idvs [x]) (by rfl) (fun gr w hM => hK _ _ ?_)); clear hM0 hK K) | fail) | (first | (have hM0 := hM; clear hM; refine BigFrame.wpListIn_want (by rfl) fun K hK => wpIn_of_wp_round (fun _ h => by cases h) (ws_append hM0 rfl rfl rfl 73 ((.agg (bvs z32).toArray)) 32 32 Try.underlying76 (by kernel_rfl) (by simp [Value.cells, bvs_len, z32_len]) (by decide) (by (repeat (first | (with_reducible exact Take.head) | apply Take.tail)); first | done | fail) (by first | (apply Star.row hM0; (repeat (first | assumption | (with_reducible exact mZ) | apply mS)); done) | (apply Star.own hM0; (repeat (first | assumption | (with_reducible exact mZ) | apply mS)); done) | (apply Star.arr hM0; (focus ((repeat (first | assumption | (with_reducible exact mZ) | apply mS)); done)); assumption)) (idvs_one [x]) ((by omega)) (fun A3 c3 w hM hnil => hK _ _ ?_)); clear hM0 hK K) | fail) | (first | (have hM0 := hM; clear hM; refine BigFrame.wpListIn_want (by rfl) fun K hK => wpIn_of_wp_round (fun _ h => by cases h) (ws_store1 hM0 rfl rfl (by go_simp; rfl) (by first | rfl | assumption) (by (repeat (first | (with_reducible exact Take.head) | apply Take.tail)); first | done | fail) (by simp) (by kernel_rfl) (by simp only [List.setIfInBounds_toArray, List.set_cons_zero, List.set_cons_succ]; rfl) (fun w hM => hK _ _ ?_)); clear hM0 hK K) | fail))
    exact ⟨(A3, c3), by simp only [List.cons_append, List.nil_append, idvs_app, List.length_append, List.length_singleton]; exact hM.sel (by repeat (first | (with_reducible exact Sel.refl) | (with_reducible exact Take.head) | (with_reducible apply Take.tail) | (with_reducible apply Sel.cons) | (with_reducible apply Sel.drop)))⟩
  case done =>
    rintro D ⟨A, c⟩ xs W hfin hM
    simp only [List.cons_append, List.nil_append] at hM
    have hfl := hfin.length_eq
    go_wp2_with (first | (first | (refine BigFrame.wpList_want (by rfl) fun K hK => ws_load1 hM rfl rfl (by (repeat (first | assumption | (with_reducible exact mZ) | apply mS)); first | done | fail) (by first | rfl | assumption) (by decide +kernel) (hK _ _ ?_); clear hK K) | fail))
    have hMD := hM.take (x := objE D (.deferred (some []))) (by (repeat (first | (with_reducible exact Take.head) | apply Take.tail)); first | done | fail)
    refine ⟨by simp, .inl ⟨_, _, rfl, drop_preD hMD _, ?_⟩⟩
    replace hMD := (hMD.put_obj (.deferred none)).tail
    refine ⟨_, results_tmp rfl _ _ _, ⟨A, c, xs, hfin, ?_, ?_⟩⟩
    · rw [← hfl]; rfl
    · rw [← hfl]; exact hMD.sel (by repeat (first | (with_reducible exact Sel.refl) | (with_reducible exact Take.head) | (with_reducible apply Take.tail) | (with_reducible apply Sel.cons) | (with_reducible apply Sel.drop)))
  case stop =>
    rintro D c ⟨B, cb⟩ pre W _ _ hM
    exact (show False from hM.all falseE (by simp)).elim
set_option maxRecDepth 100000 in
theorem collect_ids {b g : Nat} {ks : List (List UInt8)} {f : List UInt8 → Value} (h32 : ∀ k ∈ ks, k.length = 32) (hn : ks.length ≤ 1000) (w : World) (hM : Star (mapE Try.prog idT b (ks.map (encI f)) :: F) w) (hg : cellsE g mpT #[.map (some b)] ∈ F) :
    Calls Try.prog 85 #[keyF g] w fun r w' => ∃ A c xs, xs.Perm ks ∧ r = .returned (.slice A ks.length c) ∧ Star (ownE idT 32 A ks.length c (idvs xs) :: mapE Try.prog idT b (ks.map (encI f)) :: F) w' := by
  have HA : Hid (∀ (w : World), Star (mapE Try.prog idT b (ks.map (encI f)) :: F) w → Calls Try.prog 99 #[.slice none 0 0, keyF g] w fun r w' => ∃ A c xs, xs.Perm ks ∧ r = .returned (.slice A ks.length c) ∧ Star (ownE idT 32 A ks.length c (idvs xs) :: mapE Try.prog idT b (ks.map (encI f)) :: F) w') := fun w hM => append_ids h32 hn w hM hg
  clear h32 hn
  go_enter Try.func85, Try.ntmps85
  go_wp2_with (first | (go_at_call 99; have hM0 := hM; clear hM; (first | (with_reducible refine (HA.out _ hM0).mono ?_) | fail); clear hM0; rintro _ w ⟨A, c, xs, hp, rfl, hM⟩))
  go_ret
  exact ⟨A, c, xs, hp, rfl, hM⟩
set_option maxRecDepth 100000 in
theorem insert0 (A : Option Addr) (c : Nat) (w : World) (hM : Star L w) : Calls Try.prog 108 #[.slice A 0 c, .int .i64 0, .int .i64 0, cmpF] w fun r w' => r = .returned (.tuple #[]) ∧ Star L w' := by
  go_enter Try.func108, Try.ntmps108
  go_wp2_with fail
  go_loopw [8] (fun i wr => i = .int .i64 1 ∧ Star L wr) (fun _ _ => 0)
  case atStart => exact ⟨rfl, hM⟩
  case round =>
    clear hM
    obtain ⟨rfl, hM⟩ := hrel
    go_wp2_with fail
    go_end0
    exact ⟨rfl, hM⟩
set_option maxRecDepth 100000 in
set_option maxHeartbeats 8000000 in
theorem pdq0 (A : Option Addr) (c : Nat) (lim : Int) (w : World) (hM : Star L w) : Calls Try.prog 100 #[.slice A 0 c, .int .i64 0, .int .i64 0, .int .i64 lim, cmpF] w fun r w' => r = .returned (.tuple #[]) ∧ Star L w' := by
  have HI := Lib.hid (fun (w : World) (hM : Star L w) => insert0 A c w hM)
  go_enter Try.func100, Try.ntmps100
  go_wp2_with fail
  go_loopw [1, 2, 3] (fun a b m wr => a = .int .i64 0 ∧ b = .int .i64 0 ∧ m = .int .i64 lim ∧ Star L wr) (fun _ _ _ _ => 0)
  case atStart => exact ⟨rfl, rfl, rfl, hM⟩
  case round =>
    clear hM
    obtain ⟨rfl, rfl, rfl, hM⟩ := hrel
    go_wp2_with (first | (go_at_call 108; have hM0 := hM; clear hM; (first | (with_reducible refine (HI.out _ hM0).mono ?_) | fail); clear hM0; rintro _ w ⟨rfl, hM⟩))
    refine bodyPost_ret (results_none rfl _ _ _) rfl ?_
    exact ⟨rfl, hM⟩
set_option maxRecDepth 100000 in
theorem sort0 (A : Option Addr) (c : Nat) (w : World) (hM : Star L w) : Calls Try.prog 86 #[.slice A 0 c, cmpF] w fun r w' => r = .returned (.tuple #[]) ∧ Star L w' := by
  have HI := Lib.hid (fun (lim : Int) (w : World) (hM : Star L w) => pdq0 A c lim w hM)
  have HB : Hid (∀ w, Calls Try.prog 101 #[.int .u64 0] w fun r w' => ∃ v : Int, r = .returned (.int .i64 v) ∧ w = w') := fun w => len_small 0 (by omega) w
  go_enter Try.func86, Try.ntmps86
  go_wp2_with (first | (go_at_call 101; refine (HB.out _).mono ?_; rintro _ _ ⟨v, rfl, rfl⟩) | (go_at_call 100; have hM0 := hM; clear hM; (first | (with_reducible refine (HI.out _ _ hM0).mono ?_) | fail); clear hM0; rintro _ w ⟨rfl, hM⟩))
  go_end0
  exact ⟨rfl, hM⟩
theorem Star.cells_ids {w : World} {g n : Nat} {l : List (List UInt8)} {sp : List Value} (h : Star (cellsE g idT (idvs l ++ sp).toArray :: L) w) (h32 : ∀ x ∈ l, x.length = 32) (hn : l.length = n) : Star (rowE 32 (some ⟨g, 0, none⟩) n (idvs l) :: L) w := by
  have h1 := Star.row_of_blk (n := (idvs l ++ sp).length) (size := 1) h (by simp)
  have hl := flat_len bvs 32 l fun x hx => by rw [bvs_len, h32 x hx]
  have h2 : Star (rowE 32 (some ⟨g, 0, none⟩) n (idvs l) :: rowE 1 (some ⟨g, 0, none⟩) (idvs l ++ sp).length (idvs l ++ sp).toArray.toList :: L) w := by
    refine h1.view List.mem_cons_self rfl rfl (fun k ⟨ad, e, hk, hj⟩ => ⟨ad, e, ?_, hj⟩) ⟨by unfold idvs; rw [hl, hn, Nat.mul_comm], fun h0 => ?_⟩
    · rw [List.length_append]; unfold idvs; rw [hl]; omega
    · have hr := (h1.row List.mem_cons_self).2 (by rw [List.length_append]; unfold idvs; rw [hl]; omega)
      obtain ⟨ad, e1, e2, e3⟩ := hr
      refine ⟨ad, e1, e2, fun j u hu => e3 j u ?_⟩
      rw [List.toList_toArray, List.getElem?_append_left (l₁ := idvs l) (List.getElem?_eq_some_iff.1 hu).1]
      exact hu
  exact h2.sel (.cons .head (.drop .refl))
set_option maxRecDepth 100000 in
/-- The names in some order, one behind the other. -/
theorem sorted_ids {b g : Nat} {ks : List (List UInt8)} {f : List UInt8 → Value} (h32 : ∀ k ∈ ks, k.length = 32) (hn : ks.length ≤ 12) (w : World) (hM : Star (mapE Try.prog idT b (ks.map (encI f)) :: F) w) (hg : cellsE g mpT #[.map (some b)] ∈ F) :
    Calls Try.prog 56 #[keyF g, cmpF] w fun r w' => ∃ A c xs, xs.Perm ks ∧ r = .returned (.slice A ks.length c) ∧ Star (rowE 32 A ks.length (idvs xs) :: mapE Try.prog idT b (ks.map (encI f)) :: F) w' := by
  have HC : Hid (∀ (w : World), Star (mapE Try.prog idT b (ks.map (encI f)) :: F) w → Calls Try.prog 85 #[keyF g] w fun r w' => ∃ A c xs, xs.Perm ks ∧ r = .returned (.slice A ks.length c) ∧ Star (ownE idT 32 A ks.length c (idvs xs) :: mapE Try.prog idT b (ks.map (encI f)) :: F) w') := fun w hM => collect_ids h32 (by omega) w hM hg
  have HS : Hid (∀ (A : Option Addr) (c : Nat) (xs : List (List UInt8)), xs.Perm ks → ∀ (L R : List SProp) (w : World), Star L w → Take (ownE idT 32 A ks.length c (idvs xs)) L R → Calls Try.prog 86 #[.slice A ks.length c, cmpF] w fun r w' => r = .returned (.tuple #[]) ∧ ∃ l', l'.Perm ks ∧ Star (rowE 32 A ks.length (idvs l') :: R) w') := fun A c xs hp L R w hM hx => by
    rcases Nat.eq_zero_or_pos ks.length with h0 | h0
    · rw [h0] at hx ⊢
      have hx0 : xs = [] := List.eq_nil_of_length_eq_zero (by rw [hp.length_eq, h0])
      subst hx0
      refine (sort0 A c w (hM.take hx).freeze).mono ?_
      rintro r w' ⟨rfl, hM⟩
      exact ⟨rfl, [], hp, hM⟩
    · obtain ⟨g2, sp, rfl, hM2⟩ := (hM.take hx).own_openK h0
      refine (sort_ids (c := c) (fun x hx => h32 x (hp.mem_iff.1 hx)) hp.length_eq hn w hM2).mono ?_
      rintro r w' ⟨rfl, l', hp2, hM3⟩
      exact ⟨rfl, l', hp2.trans hp, hM3.cells_ids (fun x hx => h32 x ((hp2.trans hp).mem_iff.1 hx)) (hp2.trans hp).length_eq⟩
  clear h32 hn
  go_enter Try.func56, Try.ntmps56
  go_wp2_with (first | (go_at_call 85; have hM0 := hM; clear hM; (first | (with_reducible refine (HC.out _ hM0).mono ?_) | fail); clear hM0; rintro _ w ⟨A, c, xs, hp, rfl, hM⟩) | (go_at_call 86; have hM0 := hM; clear hM; (first | (with_reducible refine (HS.out A c xs hp _ _ _ hM0 (by (repeat (first | (with_reducible exact Take.head) | apply Take.tail)); first | done | fail)).mono ?_) | fail); clear hM0; rintro _ w ⟨rfl, l', hp2, hM⟩))
  go_ret
  exact ⟨A, c, l', hp2, rfl, hM.sel (by repeat (first | (with_reducible exact Sel.refl) | (with_reducible exact Take.head) | (with_reducible apply Take.tail) | (with_reducible apply Sel.cons) | (with_reducible apply Sel.drop)))⟩
end
end Go.Proofs.Ytnckgkgilnmocaa
set_option linter.unusedSimpArgs false
set_option linter.unusedVariables false
namespace Go.Proofs.Ytnckgkgilnmocaa
open Go.RowKit
attribute [local go_sem] extract_mid extract_drop bget bsize wrap64_u8 i64_u8 u64_u8 bappend
theorem laidOutP : laidOutB Try.prog = true := by kernel_rfl
set_option maxRecDepth 100000 in
theorem rowI : idT < Try.prog.types.size := of_decide_eq_true (by kernel_rfl)
theorem wideI : (match Try.prog.underlying idT with | some (.array _ _) | some (.struct _) => true | _ => false) = true := by rw [Try.underlying73]
set_option maxRecDepth 100000 in
theorem keyed_id : Maps.Keyed Try.prog idT := Maps.Keyed.of_law (deep_law_laid laidOutP (m := 2) (by omega) rowI (by kernel_rfl) wideI)
theorem mapM_some {α β : Type} (f : α → Option β) : ∀ (l : List α), (∀ x ∈ l, ∃ y, f x = some y) → ∃ ys, l.mapM f = some ys := by
  intro l
  induction l with
  | nil => intro _; exact ⟨[], by simp⟩
  | cons a l ih =>
    intro h
    obtain ⟨y, hy⟩ := h a List.mem_cons_self
    obtain ⟨ys, hys⟩ := ih fun x hx => h x (List.mem_cons_of_mem _ hx)
    exact ⟨y :: ys, by simp [hy, hys]⟩
set_option maxRecDepth 100000 in
theorem id_key {x : List UInt8} (h : x.length = 32) : ∃ l, keyOf Try.prog idT (idv x) = some l := by
  have hc : Try.prog.cellsOf idT = 32 := by kernel_rfl
  have hc1 : Try.prog.cellsOf 5 = 1 := by kernel_rfl
  have hk : Try.prog.keyType idT = true := by kernel_rfl
  have hf : (idv x).formed Try.prog idT = true := by
    show (Value.agg (bvs x).toArray).formed Try.prog idT = true
    simp [Value.formed, Try.underlying73, hc, bvs_len, h]
  obtain ⟨d, hd⟩ : ∃ d, Try.prog.types.size + 1 = d + 1 + 1 := ⟨Try.prog.types.size - 1, by rw [Nat.sub_add_cancel (Nat.lt_of_le_of_lt (Nat.zero_le _) rowI)]⟩
  have hl : ∃ ls, Try.prog.keyLits (d + 1 + 1) idT (bvs x) = some ls := by
    unfold Program.keyLits
    rw [Try.underlying73]
    simp only [hc, hc1]
    rw [if_pos (by rw [bvs_len, h])]
    obtain ⟨ys, hys⟩ := mapM_some (fun i => Try.prog.keyLits (d + 1) 5 (((bvs x).drop (i * 1)).take 1)) (List.range 32) fun i hi => by
      have hi := List.mem_range.1 hi
      obtain ⟨c, hcx⟩ : ∃ c, x[i]? = some c := ⟨x[i]'(by omega), List.getElem?_eq_getElem _⟩
      have e : ((bvs x).drop (i * 1)).take 1 = [.int .u8 (c.toNat : Int)] := by
        rw [Nat.mul_one]
        have h1 : (bvs x)[i]? = some (.int .u8 (c.toNat : Int)) := by simp [bvs, hcx, bv]
        have h2 : i < (bvs x).length := by rw [bvs_len]; omega
        rw [List.drop_eq_getElem_cons h2]
        have h3 := List.getElem?_eq_getElem h2
        rw [h1] at h3
        injection h3 with h3
        rw [← h3]
        rfl
      rw [e]
      have hcn := c.toNat_lt
      have hw : (Lit.int .u8 (c.toNat : Int)).wf = true := by simp [Lit.wf, IntKind.min, IntKind.max, IntKind.signed, IntKind.bits]; omega
      refine ⟨[.int .u8 (c.toNat : Int)], ?_⟩
      unfold Program.keyLits
      rw [Try.underlying5]
      simp [hw]
    exact ⟨_, by rw [hys]; rfl⟩
  obtain ⟨ls, hls⟩ := hl
  have hcl : (idv x).cells.toList = bvs x := by show (Value.agg (bvs x).toArray).cells.toList = bvs x; simp [Value.cells]
  refine ⟨.string (keyBytes ls), ?_⟩
  unfold keyOf
  rw [Try.underlying73]
  simp only [hk, hf, hd, Bool.and_self, if_true]
  rw [hcl, hls]
  rfl
end Go.Proofs.Ytnckgkgilnmocaa
