/- The walks of strings.Builder: WriteByte, String. No condition but sizes. -/
import Derived.Test.YthjceppddmecdaaMore
import Derived.Test.YthjceppddmecdaaBaleE
import Derived.Lib.Builder
import Derived.Lib.UnsafeStr
import Derived.Laws.Externs
set_option linter.unusedSimpArgs false
set_option linter.unusedVariables false
namespace Go.Proofs.Ythjceppddmecdaa
open Go.RowKit
attribute [local go_sem] extract_mid extract_drop bget bsize wrap64_u8 i64_u8 u64_u8 bappend
section
variable {P : Program} {w : World} {o : Oper} {a : Act} {Q : Exit → Act → World → Prop} {K : Act → World → Prop} {L R : List SProp}
/-- A part is given up; what becomes of its blocks is not asked. -/
theorem Star.lose {x : SProp} {w w' : World} {bs : List Nat} (h : Star (x :: L) w) (hm : x.ro = false) (hc : Ch bs w w') (hb : ∀ b ∈ bs, x.fp b ∨ w.heap.size ≤ b) : Star L w' :=
  (h.put (y := ⟨fun _ => False, true, fun _ => True, fun _ _ _ h => h.elim, fun _ _ _ _ => trivial⟩) hm hc hb trivial fun _ h => h.elim).tail
theorem freeze_ch (w : World) (g n : Nat) : Ch [g] w (w.freeze ⟨g, 0, none⟩ n) := by
  unfold World.freeze
  split
  · exact Ch.refl _ _
  · exact ⟨rfl, rfl, rfl, by simp, fun k hk hb => by
      simp only [Array.getElem?_modify]
      rw [if_neg (fun e => hb (by simp [e]))]⟩
/-- unsafe.String over a row of the call's own. -/
theorem ws_unsafeString (hM : Star L w) {x y : Operand} {pt it : TypeId} (ho : o.op = .call { callee := .builtin .unsafeString, args := #[x, y], argTypes := #[pt, it] }) {g n c : Nat} (hx : a.eval x = .pointer (some ⟨g, 0, none⟩)) (hy : a.eval y = .int .i64 (n : Int))
    (e : TypeId) (hp : P.underlying pt = some (.pointer e)) (hc1 : P.cellsOf e = 1) {l : List UInt8} (h0 : l ≠ []) (hn : n = l.length) (hb : Take (ownE e 1 (some ⟨g, 0, none⟩) n c (bvs l)) L R)
    (h : ∀ w1, Star R w1 → K (a.put o.dst (.string ⟨l.toArray⟩)) w1) : Oper.wp P o a w K Q := by
  subst hn
  have hT := hM.take hb
  have hown : w.ownsRow 0 e 1 (.slice (some ⟨g, 0, none⟩) l.length c) l.length (bvs l) := hT.head
  have hl : l.length ≠ 0 := by simpa using h0
  obtain ⟨cur, hg, hnc, hcm, hcs⟩ : ∃ cur, w.heap[g]? = some (.cells cur e (0, 0)) ∧ l.length ≤ c ∧ c ≤ maxLen ∧ cur.size = c * 1 := by
    rcases hown.2 with ⟨h1, _⟩ | ⟨g', cap, cur, hv, _, hh, h3, h4, h5, _⟩
    · cases h1
    · injection hv with hA _ hc
      injection hA with hA
      injection hA with hA
      subst hA hc
      exact ⟨cur, hh, h3, h4, h5⟩
  have hR := Rd.of_own hown
  have hUS : (Builtin.unsafeString_ #[pt, it] o.type #[.pointer (some ⟨g, 0, none⟩), .int .i64 l.length]).run P w = .ok (.string ⟨l.toArray⟩) (w.freeze ⟨g, 0, none⟩ l.length) := by
    refine Lib.run_unsafeString_row w pt it o.type e hp hc1 g cur.size (by simp [World.shape?, hg]) l h0 (by omega) (by unfold maxLen at hcm; omega) ?_
    intro j x hx
    obtain ⟨ad, e1, _, hcl⟩ := hR.2 (by omega)
    injection e1 with e1
    subst e1
    exact hcl j _ (by simp [bvs, hx, bv])
  unfold Oper.wp execOp
  simp only [ho, resolve, invoke, builtin, Sem.run_bind, Sem.run_pure, Result.andThen_ok, List.map_toArray, List.map_cons, List.map_nil, hx, hy, hUS]
  exact h _ (hT.lose (bs := [g]) rfl (freeze_ch w g _) fun b hb => by rcases List.mem_singleton.1 hb with rfl; exact .inl ⟨_, rfl, rfl⟩)
/-- unsafe.SliceData of a slice with room. -/
theorem ex_sliceData {x : Operand} {t : TypeId} (ho : o.op = .call { callee := .builtin .unsafeSliceData, args := #[x], argTypes := #[t] }) {ad : Addr} {n c : Nat} (hx : a.eval x = .slice (some ad) n c) (hc : c ≠ 0) :
    (execOp a.eval o).run P w = .ok (.value (.pointer (some ad))) w := by
  have hr := Lib.run_unsafeSliceData_row (P := P) w #[t] o.type ad n c hc
  unfold execOp
  simp only [ho, resolve, invoke, builtin, Sem.run_bind, Sem.run_pure, Result.andThen_ok, List.map_toArray, List.map_cons, List.map_nil, hx, hr]
end
/-- A builder that holds l. -/
abbrev buildC (b : Nat) (q : Option Addr) (A : Option Addr) (n c : Nat) : SProp := cellsE b 84 #[.pointer q, .slice A n c]
set_option maxRecDepth 100000 in
theorem copyCheck_used {L : List SProp} {b n c : Nat} {A : Option Addr} (w : World) (hM : Star L w) (hb : buildC b (some ⟨b, 0, none⟩) A n c ∈ L) :
    Calls Try.prog 68 #[.pointer (some ⟨b, 0, none⟩)] w fun r w' => r = .returned (.tuple #[]) ∧ Star L w' := by
  obtain ⟨j, hj⟩ : ∃ j, Try.prog.info? 84 = some j := ⟨_, rfl⟩
  go_enter Try.func68, Try.ntmps68
  go_wp2_with (first | (first | (refine BigFrame.wpList_want (by rfl) fun K hK => ws_load1 hM rfl rfl (by (repeat (first | assumption | (with_reducible exact List.mem_cons_self) | apply List.mem_cons_of_mem)); first | done | fail) (by first | rfl | assumption) (by decide +kernel) (hK _ _ ?_); clear hK K) | fail))
  rw [Lib.run_neq_ptr_same w _ Try.underlying82 hj]
  go_wp2
  go_end0
  exact ⟨rfl, hM⟩
set_option maxRecDepth 100000 in
theorem copyCheck_fresh {L R : List SProp} {b n c : Nat} {A : Option Addr} (w : World) (hM : Star L w) (hb : Take (buildC b none A n c) L R) :
    Calls Try.prog 68 #[.pointer (some ⟨b, 0, none⟩)] w fun r w' => r = .returned (.tuple #[]) ∧ Star (buildC b (some ⟨b, 0, none⟩) A n c :: R) w' := by
  replace hM := hM.take hb
  have hB : Blk w b 84 #[.pointer none, .slice A n c] := hM.head
  have hsh : w.shape? b = some (84, 2) := by unfold Blk at hB; simp [World.shape?, hB]
  obtain ⟨j, hj, hjs⟩ : ∃ j, Try.prog.info? 84 = some j ∧ j.size = 2 := ⟨_, rfl, rfl⟩
  have hlies : liesAt Try.prog Try.prog.depth 84 (2 / Try.prog.cellsOf 84) 0 84 1 = true := by kernel_rfl
  go_enter Try.func68, Try.ntmps68
  go_wp2_with (first | (first | (refine BigFrame.wpList_want (by rfl) fun K hK => ws_load1 hM rfl rfl (by (repeat (first | assumption | (with_reducible exact List.mem_cons_self) | apply List.mem_cons_of_mem)); first | done | fail) (by first | rfl | assumption) (by decide +kernel) (hK _ _ ?_); clear hK K) | fail))
  rw [Lib.run_to_unsafe w ⟨b, 0, none⟩ Try.underlying82 Try.underlying108 hj (by rw [hjs]; decide) hsh (Nat.zero_lt_succ 1)]
  simp only [Result.andThen]
  rw [Oper.upon_value]
  go_wp2
  rw [run_callFunc_extern Try.func73 (by kernel_rfl) (by kernel_rfl) (by kernel_rfl) (e := Extern.AbiNoEscape.same) (by kernel_rfl)]
  rw [Lib.run_noEscape]
  simp only [Result.andThen]
  rw [Oper.upon_value]
  go_wp2
  rw [Lib.run_from_unsafe w ⟨b, 0, none⟩ Try.underlying108 Try.underlying82 hj hsh hlies]
  simp only [Result.andThen]
  rw [Oper.upon_value]
  go_wp2_with (first | (first | (have hM0 := hM; clear hM; refine BigFrame.wpList_want (by rfl) fun K hK => ws_store1 hM0 rfl rfl (by go_simp; rfl) (by first | rfl | assumption) (by (repeat (first | (with_reducible exact Take.head) | apply Take.tail)); first | done | fail) (by simp) (by kernel_rfl) (by simp only [List.setIfInBounds_toArray, List.set_cons_zero, List.set_cons_succ]; rfl) (fun w hM => hK _ _ ?_); clear hM0 hK K) | fail))
  go_end0
  exact ⟨rfl, hM⟩
set_option maxRecDepth 100000 in
theorem copyCheck_star {L R : List SProp} {b n c : Nat} {q A : Option Addr} (hq : q = none ∨ q = some ⟨b, 0, none⟩) (w : World) (hM : Star L w) (hb : Take (buildC b q A n c) L R) :
    Calls Try.prog 68 #[.pointer (some ⟨b, 0, none⟩)] w fun r w' => r = .returned (.tuple #[]) ∧ Star (buildC b (some ⟨b, 0, none⟩) A n c :: R) w' := by
  rcases hq with rfl | rfl
  · exact copyCheck_fresh w hM hb
  · exact copyCheck_used w (hM.take hb) List.mem_cons_self
theorem ownE_len {L R : List SProp} {w : World} {A : Option Addr} {n c : Nat} {l : List UInt8} (hM : Star L w) (h : Take (ownE 5 1 A n c (bvs l)) L R) : n = l.length := by
  have h1 : Rd w 1 A n (bvs l) := Rd.of_own (e := 5) (base := 0) (c := c) (hM.take h).head
  have := h1.len; rw [bvs_len] at this; exact this.symm
set_option maxRecDepth 100000 in
theorem wbyte_star {L R1 R2 : List SProp} {b n c : Nat} {q A : Option Addr} {l : List UInt8} (d : UInt8) (hn : n ≤ 1000000000) (hq : q = none ∨ q = some ⟨b, 0, none⟩) (w : World) (hM : Star L w) (h1 : Take (buildC b q A n c) L R1) (h2 : Take (ownE 5 1 A n c (bvs l)) R1 R2) :
    Calls Try.prog 53 #[.pointer (some ⟨b, 0, none⟩), .int .u8 d.toNat] w fun r w' => ∃ A' c', r = .returned .nilIface ∧ Star (ownE 5 1 A' (n + 1) c' (bvs (l ++ [d])) :: buildC b (some ⟨b, 0, none⟩) A' (n + 1) c' :: R2) w' := by
  have h3 := hM.take h1
  have hM2 : Star (buildC b q A n c :: ownE 5 1 A n c (bvs l) :: R2) w := h3.perm (List.Perm.cons _ h2.perm)
  clear hM h1 h2 h3
  have hM := hM2
  clear hM2
  go_enter Try.func53, Try.ntmps53
  go_wp2_with (first | (go_at_call 68; have hM0 := hM; clear hM; (first | (with_reducible refine (copyCheck_star hq _ hM0 .head).mono ?_) | fail); clear hM0; rintro _ w ⟨rfl, hM⟩) | (first | (refine BigFrame.wpList_want (by rfl) fun K hK => ws_load1 hM rfl rfl (by (repeat (first | assumption | (with_reducible exact List.mem_cons_self) | apply List.mem_cons_of_mem)); first | done | fail) (by first | rfl | assumption) (by decide +kernel) (hK _ _ ?_); clear hK K) | fail) | (first | (have hM0 := hM; clear hM; refine BigFrame.wpList_want (by rfl) fun K hK => ws_slice_row hM0 (n := 1) rfl 5 1 (.int .u8 0) [bv d] Try.underlying63 (by kernel_rfl) rfl (by simp [Value.cells, iv, sv, bv]) (by rfl) (by decide) (cs := bvs [d]) (by rfl) (fun gb w hM => hK _ _ ?_); clear hM0 hK K) | fail) | (first | (have hM0 := hM; clear hM; refine BigFrame.wpList_want (by rfl) fun K hK => ws_append hM0 rfl rfl rfl 5 ((.int .u8 0)) 1 1 Try.underlying63 (by kernel_rfl) (by rfl) (by decide) (by (repeat (first | (with_reducible exact Take.head) | apply Take.tail)); first | done | fail) (by first | (apply Star.row hM0; (repeat (first | assumption | (with_reducible exact List.mem_cons_self) | apply List.mem_cons_of_mem)); done) | (apply Star.own hM0; (repeat (first | assumption | (with_reducible exact List.mem_cons_self) | apply List.mem_cons_of_mem)); done) | (apply Star.arr hM0; (focus ((repeat (first | assumption | (with_reducible exact List.mem_cons_self) | apply List.mem_cons_of_mem)); done)); assumption)) (bvs_oneCell [d]) ((by omega)) (fun A1 c1 w hM hnil => hK _ _ ?_); clear hM0 hK K) | fail) | (first | (have hM0 := hM; clear hM; refine BigFrame.wpList_want (by rfl) fun K hK => ws_store1 hM0 rfl rfl (by go_simp; rfl) (by first | rfl | assumption) (by (repeat (first | (with_reducible exact Take.head) | apply Take.tail)); first | done | fail) (by simp) (by kernel_rfl) (by simp only [List.setIfInBounds_toArray, List.set_cons_zero, List.set_cons_succ]; rfl) (fun w hM => hK _ _ ?_); clear hM0 hK K) | fail))
  go_ret
  exact ⟨A1, c1, rfl, by rw [bvs_app]; exact hM.sel (by repeat (first | (with_reducible exact Sel.refl) | (with_reducible exact Take.head) | (with_reducible apply Take.tail) | (with_reducible apply Sel.cons) | (with_reducible apply Sel.drop)))⟩
set_option maxRecDepth 100000 in
theorem bstring_star {L R1 R2 : List SProp} {b n c : Nat} {q A : Option Addr} {l : List UInt8} (h0 : l ≠ []) (w : World) (hM : Star L w) (h1 : Take (buildC b q A n c) L R1) (h2 : Take (ownE 5 1 A n c (bvs l)) R1 R2) :
    Calls Try.prog 54 #[.pointer (some ⟨b, 0, none⟩)] w fun r w' => r = .returned (.string ⟨l.toArray⟩) ∧ Star (buildC b q A n c :: R2) w' := by
  have h3 := hM.take h1
  have hM2 : Star (buildC b q A n c :: ownE 5 1 A n c (bvs l) :: R2) w := h3.perm (List.Perm.cons _ h2.perm)
  obtain rfl := ownE_len h3.tail h2
  clear hM h1 h2 h3
  have hM := hM2
  clear hM2
  have hl0 : l.length ≠ 0 := by simpa using h0
  obtain ⟨g, rfl, hc⟩ : ∃ g, A = some ⟨g, 0, none⟩ ∧ l.length ≤ c := by
    have hown : w.ownsRow 0 5 1 (.slice A l.length c) l.length (bvs l) := hM.tail.head
    rcases hown.2 with ⟨_, h2⟩ | ⟨g, cap, cur, hv, _, _, h3, _⟩
    · omega
    · injection hv with hA _ hc
      exact ⟨g, hA, by omega⟩
  have hc0 : c ≠ 0 := by omega
  go_enter Try.func54, Try.ntmps54
  go_wp2_with fail
  (refine region_RS ([buildC b q (some ⟨g, 0, none⟩) l.length c]) [] (by kernel_rfl) hM ?_; clear hM; change RS _ _ _ _ _ _ 12 (Array.replicate 12 false) _ _; refine RS_take (i := 0) rfl (by decide +kernel) (fun _ _ _ h => h) (by first | (intro x hx; (repeat (first | exact hx | apply List.mem_cons_of_mem)); done) | ((repeat (refine List.forall_mem_cons.2 ⟨(by (repeat (first | assumption | (with_reducible exact List.mem_cons_self) | apply List.mem_cons_of_mem)); first | done | fail), ?_⟩)); intro x hx; first | (cases hx; done) | ((repeat (first | exact hx | apply List.mem_cons_of_mem)); done))) (stab_pure (by rfl) (fun w => (by go_simp; try with_reducible rfl))) ?_; simp only [Act.put, List.setIfInBounds_toArray, List.set_cons_zero, List.set_cons_succ]; refine RS_take (i := 1) rfl (by decide +kernel) (fun _ _ _ h => h) (by first | (intro x hx; (repeat (first | exact hx | apply List.mem_cons_of_mem)); done) | ((repeat (refine List.forall_mem_cons.2 ⟨(by (repeat (first | assumption | (with_reducible exact List.mem_cons_self) | apply List.mem_cons_of_mem)); first | done | fail), ?_⟩)); intro x hx; first | (cases hx; done) | ((repeat (first | exact hx | apply List.mem_cons_of_mem)); done))) (stab_pure (by rfl) (fun w => (by go_simp; try with_reducible rfl))) ?_; simp only [Act.put, List.setIfInBounds_toArray, List.set_cons_zero, List.set_cons_succ]; refine RS_take (i := 2) rfl (by decide +kernel) (fun _ _ _ h => h) (by first | (intro x hx; (repeat (first | exact hx | apply List.mem_cons_of_mem)); done) | ((repeat (refine List.forall_mem_cons.2 ⟨(by (repeat (first | assumption | (with_reducible exact List.mem_cons_self) | apply List.mem_cons_of_mem)); first | done | fail), ?_⟩)); intro x hx; first | (cases hx; done) | ((repeat (first | exact hx | apply List.mem_cons_of_mem)); done))) (stab_pure (by rfl) (fun w => (by go_simp; try with_reducible rfl))) ?_; simp only [Act.put, List.setIfInBounds_toArray, List.set_cons_zero, List.set_cons_succ]; refine RS_take (i := 3) rfl (by decide +kernel) (fun _ _ _ h => h) (by first | (intro x hx; (repeat (first | exact hx | apply List.mem_cons_of_mem)); done) | ((repeat (refine List.forall_mem_cons.2 ⟨(by (repeat (first | assumption | (with_reducible exact List.mem_cons_self) | apply List.mem_cons_of_mem)); first | done | fail), ?_⟩)); intro x hx; first | (cases hx; done) | ((repeat (first | exact hx | apply List.mem_cons_of_mem)); done))) (stab_read (by rfl) (fun L w hL hM => (ex_load1 hM rfl rfl (hL _ (by (repeat (first | assumption | (with_reducible exact List.mem_cons_self) | apply List.mem_cons_of_mem)); first | done | fail)) rfl (by decide +kernel)))) ?_; simp only [Act.put, List.setIfInBounds_toArray, List.set_cons_zero, List.set_cons_succ]; refine RS_take (i := 4) rfl (by decide +kernel) (fun _ _ _ h => h) (by first | (intro x hx; (repeat (first | exact hx | apply List.mem_cons_of_mem)); done) | ((repeat (refine List.forall_mem_cons.2 ⟨(by (repeat (first | assumption | (with_reducible exact List.mem_cons_self) | apply List.mem_cons_of_mem)); first | done | fail), ?_⟩)); intro x hx; first | (cases hx; done) | ((repeat (first | exact hx | apply List.mem_cons_of_mem)); done))) (stab_read (by rfl) (fun L w hL hM => (ex_sliceData rfl rfl hc0))) ?_; simp only [Act.put, List.setIfInBounds_toArray, List.set_cons_zero, List.set_cons_succ]; refine RS_take (i := 5) rfl (by decide +kernel) (fun _ _ _ h => h) (by first | (intro x hx; (repeat (first | exact hx | apply List.mem_cons_of_mem)); done) | ((repeat (refine List.forall_mem_cons.2 ⟨(by (repeat (first | assumption | (with_reducible exact List.mem_cons_self) | apply List.mem_cons_of_mem)); first | done | fail), ?_⟩)); intro x hx; first | (cases hx; done) | ((repeat (first | exact hx | apply List.mem_cons_of_mem)); done))) (stab_pure (by rfl) (fun w => (by go_simp; try with_reducible rfl))) ?_; simp only [Act.put, List.setIfInBounds_toArray, List.set_cons_zero, List.set_cons_succ]; refine RS_take (i := 6) rfl (by decide +kernel) (fun _ _ _ h => h) (by first | (intro x hx; (repeat (first | exact hx | apply List.mem_cons_of_mem)); done) | ((repeat (refine List.forall_mem_cons.2 ⟨(by (repeat (first | assumption | (with_reducible exact List.mem_cons_self) | apply List.mem_cons_of_mem)); first | done | fail), ?_⟩)); intro x hx; first | (cases hx; done) | ((repeat (first | exact hx | apply List.mem_cons_of_mem)); done))) (stab_pure (by rfl) (fun w => (by go_simp; try with_reducible rfl))) ?_; simp only [Act.put, List.setIfInBounds_toArray, List.set_cons_zero, List.set_cons_succ]; refine RS_take (i := 7) rfl (by decide +kernel) (fun _ _ _ h => h) (by first | (intro x hx; (repeat (first | exact hx | apply List.mem_cons_of_mem)); done) | ((repeat (refine List.forall_mem_cons.2 ⟨(by (repeat (first | assumption | (with_reducible exact List.mem_cons_self) | apply List.mem_cons_of_mem)); first | done | fail), ?_⟩)); intro x hx; first | (cases hx; done) | ((repeat (first | exact hx | apply List.mem_cons_of_mem)); done))) (stab_pure (by rfl) (fun w => (by go_simp; try with_reducible rfl))) ?_; simp only [Act.put, List.setIfInBounds_toArray, List.set_cons_zero, List.set_cons_succ]; refine RS_take (i := 8) rfl (by decide +kernel) (fun _ _ _ h => h) (by first | (intro x hx; (repeat (first | exact hx | apply List.mem_cons_of_mem)); done) | ((repeat (refine List.forall_mem_cons.2 ⟨(by (repeat (first | assumption | (with_reducible exact List.mem_cons_self) | apply List.mem_cons_of_mem)); first | done | fail), ?_⟩)); intro x hx; first | (cases hx; done) | ((repeat (first | exact hx | apply List.mem_cons_of_mem)); done))) (stab_read (by rfl) (fun L w hL hM => (ex_load1 hM rfl rfl (hL _ (by (repeat (first | assumption | (with_reducible exact List.mem_cons_self) | apply List.mem_cons_of_mem)); first | done | fail)) rfl (by decide +kernel)))) ?_; simp only [Act.put, List.setIfInBounds_toArray, List.set_cons_zero, List.set_cons_succ]; refine RS_take (i := 9) rfl (by decide +kernel) (fun _ _ _ h => h) (by first | (intro x hx; (repeat (first | exact hx | apply List.mem_cons_of_mem)); done) | ((repeat (refine List.forall_mem_cons.2 ⟨(by (repeat (first | assumption | (with_reducible exact List.mem_cons_self) | apply List.mem_cons_of_mem)); first | done | fail), ?_⟩)); intro x hx; first | (cases hx; done) | ((repeat (first | exact hx | apply List.mem_cons_of_mem)); done))) (stab_pure (by rfl) (fun w => (by go_simp; try with_reducible rfl))) ?_; simp only [Act.put, List.setIfInBounds_toArray, List.set_cons_zero, List.set_cons_succ]; refine RS_one (i := 10) (by decide +kernel) rfl (by rfl) (.inl (by first | (intro x hx; (repeat (first | exact hx | apply List.mem_cons_of_mem)); done) | ((repeat (refine List.forall_mem_cons.2 ⟨(by (repeat (first | assumption | (with_reducible exact List.mem_cons_self) | apply List.mem_cons_of_mem)); first | done | fail), ?_⟩)); intro x hx; first | (cases hx; done) | ((repeat (first | exact hx | apply List.mem_cons_of_mem)); done)))) (fun w K hM0 hK => ?_); refine ws_unsafeString hM0 rfl rfl rfl 5 Try.underlying100 (by kernel_rfl) h0 rfl (by (repeat (first | (with_reducible exact Take.head) | apply Take.tail)); first | done | fail) (fun w hM => hK _ _ _ hM ?_); clear hM hM0 hK K; simp only [Act.put, List.setIfInBounds_toArray, List.set_cons_zero, List.set_cons_succ]; refine RS_take (i := 11) rfl (by decide +kernel) (fun _ _ _ h => h) (by first | (intro x hx; (repeat (first | exact hx | apply List.mem_cons_of_mem)); done) | ((repeat (refine List.forall_mem_cons.2 ⟨(by (repeat (first | assumption | (with_reducible exact List.mem_cons_self) | apply List.mem_cons_of_mem)); first | done | fail), ?_⟩)); intro x hx; first | (cases hx; done) | ((repeat (first | exact hx | apply List.mem_cons_of_mem)); done))) (stab_pure (by rfl) (fun w => (by go_simp; try with_reducible rfl))) ?_; simp only [Act.put, List.setIfInBounds_toArray, List.set_cons_zero, List.set_cons_succ]; refine RS_done (by decide +kernel) (.inl (by first | (intro x hx; (repeat (first | exact hx | apply List.mem_cons_of_mem)); done) | ((repeat (refine List.forall_mem_cons.2 ⟨(by (repeat (first | assumption | (with_reducible exact List.mem_cons_self) | apply List.mem_cons_of_mem)); first | done | fail), ?_⟩)); intro x hx; first | (cases hx; done) | ((repeat (first | exact hx | apply List.mem_cons_of_mem)); done)))) (fun w hM => ?_))
  go_wp2
  go_ret
  exact ⟨rfl, hM⟩
end Go.Proofs.Ythjceppddmecdaa
