/- OidSorts' closure: of two names the nearer one to a goal; plain laws of it. No condition but lengths. -/
import Derived.Test.YthjceppddmecdaaOidA
import Derived.Test.YthjceppddmecdaaOidM
import Derived.Test.YthjceppddmecdaaOidD
set_option linter.unusedSimpArgs false
set_option linter.unusedVariables false
namespace Go.Proofs.Ythjceppddmecdaa
open Go.RowKit
attribute [local go_sem] extract_mid extract_drop bget bsize wrap64_u8 i64_u8 u64_u8 bappend
def nearL (g p q : List UInt8) : List UInt8 := if numOf g ^^^ numOf q < numOf g ^^^ numOf p then q else p
theorem nearL_len {g p q : List UInt8} (hp : p.length = 32) (hq : q.length = 32) : (nearL g p q).length = 32 := by unfold nearL; split <;> assumption
theorem xor_inj {g a b : List UInt8} (ha : a.length = 32) (hb : b.length = 32) (h : numOf g ^^^ numOf a = numOf g ^^^ numOf b) : a = b :=
  (near_far (g := g) ha hb).2 ⟨by omega, by omega⟩
theorem nearL_assoc {g x y z : List UInt8} (hx : x.length = 32) (hy : y.length = 32) (hz : z.length = 32) : nearL g x (nearL g y z) = nearL g (nearL g x y) z := by
  unfold nearL
  repeat' split
  all_goals first | rfl | omega
theorem nearL_least {g x y z : List UInt8} : ¬ (numOf g ^^^ numOf x < numOf g ^^^ numOf (nearL g (nearL g x y) z)) ∧ ¬ (numOf g ^^^ numOf y < numOf g ^^^ numOf (nearL g (nearL g x y) z)) ∧ ¬ (numOf g ^^^ numOf z < numOf g ^^^ numOf (nearL g (nearL g x y) z)) := by
  unfold nearL
  refine ⟨?_, ?_, ?_⟩ <;> (repeat' split) <;> omega
theorem nearL_goal {g m : List UInt8} (hg : g.length = 32) (hm : m.length = 32) : nearL g m g = g := by
  unfold nearL
  split
  · rfl
  · refine xor_inj (g := g) hm hg ?_
    have : numOf g ^^^ numOf g = 0 := Nat.xor_self _
    omega
set_option maxRecDepth 100000 in
set_option maxHeartbeats 2000000 in
theorem near_star {F : List SProp} (g p q : List UInt8) (hg : g.length = 32) (hp : p.length = 32) (hq : q.length = 32) (gb : Nat) (w : World) (hM : Star F w) (hF : cellsE gb 23 (bvs g).toArray ∈ F) :
    Calls Try.prog 23 #[.agg (bvs p).toArray, .agg (bvs q).toArray, .pointer (some ⟨gb, 0, none⟩)] w fun r w' => r = .returned (.agg (bvs (nearL g p q)).toArray) ∧ Star F w' := by
  have HG := Lib.hid hg
  have HP := Lib.hid hp
  have HQ := Lib.hid hq
  have HC : ∀ {L : List SProp} (w : World), Star L w → Calls Try.prog 20 #[.agg (bvs g).toArray, .agg (bvs q).toArray, .agg (bvs p).toArray] w fun r w' => r = .returned (.bool (decide (numOf g ^^^ numOf q < numOf g ^^^ numOf p))) ∧ Star L w' := fun w hM => closer_star g q p hg hq hp w hM
  by_cases h : numOf g ^^^ numOf q < numOf g ^^^ numOf p
  · rw [show nearL g p q = q by unfold nearL; rw [if_pos h]]
    rw [decide_eq_true h] at HC
    clear h hg hp hq
    have tok1 : True := trivial
    have tok2 : True := trivial
    go_enter Try.func23, Try.ntmps23
    go_wp2_with (first | (have _t := tok1; (first | (have hM0 := hM; clear hM; refine BigFrame.wpList_want (by rfl) fun K hK => ws_box hM0 rfl rfl (cs := (bvs p).toArray) rfl (fun g3 w hM => hK _ _ ?_); clear hM0 hK K) | fail); clear tok1) | (have _t := tok2; (first | (have hM0 := hM; clear hM; refine BigFrame.wpList_want (by rfl) fun K hK => ws_box hM0 rfl rfl (cs := (bvs q).toArray) rfl (fun g4 w hM => hK _ _ ?_); clear hM0 hK K) | fail); clear tok2) | (first | (have hM0 := hM; clear hM; refine BigFrame.wpList_want (by rfl) fun K hK => ws_alloc hM0 (t := 23) rfl (bvs z32).toArray info_id (fun g5 w hM => hK _ _ ?_); clear hM0 hK K) | fail) | (first | (refine BigFrame.wpList_want (by rfl) fun K hK => ws_load hM rfl rfl (by (repeat (first | assumption | (with_reducible exact List.mem_cons_self) | apply List.mem_cons_of_mem)); first | done | fail) (n := 32) (by simp [bvs_len, HG.out, HP.out, HQ.out]) (by decide +kernel) (hK _ _ ?_); clear hK K) | fail) | (go_at_call 20; have hM0 := hM; clear hM; (first | (with_reducible refine (HC _ hM0).mono ?_) | fail); clear hM0; rintro _ w ⟨rfl, hM⟩) | (first | (have hM0 := hM; clear hM; refine BigFrame.wpList_want (by rfl) fun K hK => ws_store hM0 rfl rfl rfl (by (repeat (first | (with_reducible exact Take.head) | apply Take.tail)); first | done | fail) (n := 32) (by simp [bvs_len, HP.out, HQ.out]) (by simp [bvs_len, z32_len]) (by kernel_rfl) (by simpa using bvs_oneCell _) (fun w hM => hK _ _ ?_); clear hM0 hK K) | fail))
    exact bodyPost_ret (results_cell_row rfl _ _ g5 23 (bvs q).toArray (0, 0) _ rfl (hM.blk (by (repeat (first | assumption | (with_reducible exact List.mem_cons_self) | apply List.mem_cons_of_mem)); first | done | fail)) Try.underlying23 rfl (by rw [info_idn]; simp [bvs_len, HP.out, HQ.out])) rfl ⟨rfl, hM.sel (by repeat (first | (with_reducible exact Sel.refl) | (with_reducible exact Take.head) | (with_reducible apply Take.tail) | (with_reducible apply Sel.cons) | (with_reducible apply Sel.drop)))⟩
  · rw [show nearL g p q = p by unfold nearL; rw [if_neg h]]
    rw [decide_eq_false h] at HC
    clear h hg hp hq
    have tok1 : True := trivial
    have tok2 : True := trivial
    go_enter Try.func23, Try.ntmps23
    go_wp2_with (first | (have _t := tok1; (first | (have hM0 := hM; clear hM; refine BigFrame.wpList_want (by rfl) fun K hK => ws_box hM0 rfl rfl (cs := (bvs p).toArray) rfl (fun g3 w hM => hK _ _ ?_); clear hM0 hK K) | fail); clear tok1) | (have _t := tok2; (first | (have hM0 := hM; clear hM; refine BigFrame.wpList_want (by rfl) fun K hK => ws_box hM0 rfl rfl (cs := (bvs q).toArray) rfl (fun g4 w hM => hK _ _ ?_); clear hM0 hK K) | fail); clear tok2) | (first | (have hM0 := hM; clear hM; refine BigFrame.wpList_want (by rfl) fun K hK => ws_alloc hM0 (t := 23) rfl (bvs z32).toArray info_id (fun g5 w hM => hK _ _ ?_); clear hM0 hK K) | fail) | (first | (refine BigFrame.wpList_want (by rfl) fun K hK => ws_load hM rfl rfl (by (repeat (first | assumption | (with_reducible exact List.mem_cons_self) | apply List.mem_cons_of_mem)); first | done | fail) (n := 32) (by simp [bvs_len, HG.out, HP.out, HQ.out]) (by decide +kernel) (hK _ _ ?_); clear hK K) | fail) | (go_at_call 20; have hM0 := hM; clear hM; (first | (with_reducible refine (HC _ hM0).mono ?_) | fail); clear hM0; rintro _ w ⟨rfl, hM⟩) | (first | (have hM0 := hM; clear hM; refine BigFrame.wpList_want (by rfl) fun K hK => ws_store hM0 rfl rfl rfl (by (repeat (first | (with_reducible exact Take.head) | apply Take.tail)); first | done | fail) (n := 32) (by simp [bvs_len, HP.out, HQ.out]) (by simp [bvs_len, z32_len]) (by kernel_rfl) (by simpa using bvs_oneCell _) (fun w hM => hK _ _ ?_); clear hM0 hK K) | fail))
    exact bodyPost_ret (results_cell_row rfl _ _ g5 23 (bvs p).toArray (0, 0) _ rfl (hM.blk (by (repeat (first | assumption | (with_reducible exact List.mem_cons_self) | apply List.mem_cons_of_mem)); first | done | fail)) Try.underlying23 rfl (by rw [info_idn]; simp [bvs_len, HP.out, HQ.out])) rfl ⟨rfl, hM.sel (by repeat (first | (with_reducible exact Sel.refl) | (with_reducible exact Take.head) | (with_reducible apply Take.tail) | (with_reducible apply Sel.cons) | (with_reducible apply Sel.drop)))⟩
end Go.Proofs.Ythjceppddmecdaa
