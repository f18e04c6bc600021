/- OidTakes: for all texts the law answers true. No condition. -/
import Derived.Test.YthjceppddmecdaaOidA
import Derived.Test.YthjceppddmecdaaLaw
set_option linter.unusedSimpArgs false
set_option linter.unusedVariables false
namespace Go.Proofs.Ythjceppddmecdaa
open Go.RowKit
attribute [local go_sem] extract_mid extract_drop bget bsize wrap64_u8 i64_u8 u64_u8 bappend
theorem results_row_tmp {P : Program} {fn : Func} {p q : Tmp} {ty : TypeId} (h : fn.results = #[.cell p ty, .tmp q]) (tmps : Array Value) (w : World) (g : Nat) (t : TypeId) (cs : Array Value) (fr : Nat × Nat) (d : TypeDesc)
    (hp : tmps.getD p undef = .pointer (some ⟨g, 0, none⟩)) (hg : w.heap[g]? = some (.cells cs t fr))
    (hu : P.underlying ty = some d) (hd : (match d with | .struct _ | .array _ _ => true | _ => false) = true) (hi : (P.info? ty).map (·.size) = some cs.size) :
    (results fn tmps).run P w = .ok (.tuple #[.agg cs, tmps.getD q undef]) w := by
  have hp' : tmps[p]?.getD undef = .pointer (some ⟨g, 0, none⟩) := by simpa using hp
  simp [results, h, hp', asAddr, run_loadVar_row w g t ty cs fr d hg hu hd hi]
theorem over_same {l : List UInt8} (h : l.length = 32) : over z32 l = l := by
  unfold over
  rw [z32_len, List.take_of_length_le (by omega), List.drop_of_length_le (by rw [z32_len]; omega), List.append_nil]
def takeId (s : List UInt8) : List UInt8 := if s.length = 32 then s else z32
def takeErr (s : List UInt8) : Int := if s.length = 32 then 0 else 2
set_option maxRecDepth 100000 in
set_option maxHeartbeats 2000000 in
theorem otake_star {F : List SProp} (s : List UInt8) (hs : s.length ≤ 1000000000) (w : World) (hM : Star F w) :
    Calls Try.prog 25 #[.string ⟨s.toArray⟩] w fun r w' => r = .returned (.tuple #[.agg (bvs (takeId s)).toArray, .int .i64 (takeErr s)]) ∧ Star F w' := by
  by_cases h32 : s.length = 32
  · rw [takeId, takeErr, if_pos h32, if_pos h32]
    have hov := over_same h32
    have HOV := Lib.hid hov
    have tok1 : True := trivial
    have h32i : (s.length : Int) = 32 := by omega
    clear hov
    go_enter Try.func25, Try.ntmps25
    go_wp2_with (first | (have _t := tok1; (first | (have hM0 := hM; clear hM; refine BigFrame.wpList_want (by rfl) fun K hK => ws_alloc hM0 (t := 23) rfl (bvs z32).toArray info_id (fun g2 w hM => hK _ _ ?_); clear hM0 hK K) | fail); clear tok1) | (first | (have hM0 := hM; clear hM; refine BigFrame.wpList_want (by rfl) fun K hK => ws_alloc hM0 (t := 23) rfl (bvs z32).toArray info_id (fun g4 w hM => hK _ _ ?_); clear hM0 hK K) | fail) | ((first | (have hM0 := hM; clear hM; refine BigFrame.wpList_want (by rfl) fun K hK => ws_copy_str hM0 rfl rfl rfl 5 Try.underlying63 (by kernel_rfl) (by (repeat (first | (with_reducible exact Take.head) | apply Take.tail)); first | done | fail) (by exact z32_len.symm) (fun w hM => hK _ _ ?_); clear hM0 hK K) | fail); rw [HOV.out] at hM) | (first | (refine BigFrame.wpList_want (by rfl) fun K hK => ws_load hM rfl rfl (by (repeat (first | assumption | (with_reducible exact List.mem_cons_self) | apply List.mem_cons_of_mem)); first | done | fail) (n := 32) (by simp [bvs_len, h32, z32_len]) (by decide +kernel) (hK _ _ ?_); clear hK K) | fail) | (first | (have hM0 := hM; clear hM; refine BigFrame.wpList_want (by rfl) fun K hK => ws_store hM0 rfl rfl rfl (by (repeat (first | (with_reducible exact Take.head) | apply Take.tail)); first | done | fail) (n := 32) (by simp [bvs_len, h32, z32_len]) (by simp [bvs_len, h32, z32_len]) (by kernel_rfl) (by simpa using bvs_oneCell _) (fun w hM => hK _ _ ?_); clear hM0 hK K) | fail))
    exact bodyPost_ret (results_row_tmp rfl _ _ g2 23 (bvs s).toArray (0, 0) _ rfl (hM.blk (by (repeat (first | assumption | (with_reducible exact List.mem_cons_self) | apply List.mem_cons_of_mem)); first | done | fail)) Try.underlying23 rfl (by rw [info_idn]; simp [bvs_len, h32])) rfl ⟨rfl, hM.sel (by repeat (first | (with_reducible exact Sel.refl) | (with_reducible exact Take.head) | (with_reducible apply Take.tail) | (with_reducible apply Sel.cons) | (with_reducible apply Sel.drop)))⟩
  · rw [takeId, takeErr, if_neg h32, if_neg h32]
    have tok1 : True := trivial
    have h32i : ¬ (s.length : Int) = 32 := by omega
    go_enter Try.func25, Try.ntmps25
    go_wp2_with (first | (have _t := tok1; (first | (have hM0 := hM; clear hM; refine BigFrame.wpList_want (by rfl) fun K hK => ws_alloc hM0 (t := 23) rfl (bvs z32).toArray info_id (fun g2 w hM => hK _ _ ?_); clear hM0 hK K) | fail); clear tok1) | (first | (have hM0 := hM; clear hM; refine BigFrame.wpList_want (by rfl) fun K hK => ws_alloc hM0 (t := 23) rfl (bvs z32).toArray info_id (fun g4 w hM => hK _ _ ?_); clear hM0 hK K) | fail) | (first | (refine BigFrame.wpList_want (by rfl) fun K hK => ws_load hM rfl rfl (by (repeat (first | assumption | (with_reducible exact List.mem_cons_self) | apply List.mem_cons_of_mem)); first | done | fail) (n := 32) (by simp [bvs_len, z32_len]) (by decide +kernel) (hK _ _ ?_); clear hK K) | fail) | (first | (have hM0 := hM; clear hM; refine BigFrame.wpList_want (by rfl) fun K hK => ws_store hM0 rfl rfl rfl (by (repeat (first | (with_reducible exact Take.head) | apply Take.tail)); first | done | fail) (n := 32) (by simp [bvs_len, z32_len]) (by simp [bvs_len, z32_len]) (by kernel_rfl) (by simpa using bvs_oneCell _) (fun w hM => hK _ _ ?_); clear hM0 hK K) | fail))
    exact bodyPost_ret (results_row_tmp rfl _ _ g2 23 (bvs z32).toArray (0, 0) _ rfl (hM.blk (by (repeat (first | assumption | (with_reducible exact List.mem_cons_self) | apply List.mem_cons_of_mem)); first | done | fail)) Try.underlying23 rfl (by rw [info_idn]; simp [bvs_len, z32_len])) rfl ⟨rfl, hM.sel (by repeat (first | (with_reducible exact Sel.refl) | (with_reducible exact Take.head) | (with_reducible apply Take.tail) | (with_reducible apply Sel.cons) | (with_reducible apply Sel.drop)))⟩
def cut40o (l : List UInt8) : List UInt8 := cutP l 40
theorem cut40o_len (l : List UInt8) : (cut40o l).length ≤ 40 := by have := cutP_len l 40 (by omega); unfold cut40o; omega
theorem cut40o_any (l : List UInt8) (w : World) : Calls Try.prog 24 #[.string ⟨l.toArray⟩, .int .i64 40] w fun r w' => r = .returned (.string ⟨(cut40o l).toArray⟩) ∧ w = w' := cut_any l 40 (by omega) w
set_option maxRecDepth 100000 in
set_option maxHeartbeats 4000000 in
theorem oidTakes_walk {F : List SProp} (s0 : List UInt8) (_w0 : s0.length ≤ 9223372036854775807) (w : World) (hM : Star F w) :
    Calls Try.prog 6 #[.string ⟨s0.toArray⟩] w fun r w' => r = .returned (.bool true) ∧ Star F w' := by
  have k1 := cut40o_len s0
  have H1 := cut40o_any s0
  generalize cut40o s0 = s at k1 H1
  have HC1 := Lib.hid H1
  clear H1
  have HTK : ∀ {L : List SProp} (w : World), Star L w → Calls Try.prog 25 #[.string ⟨s.toArray⟩] w fun r w' => r = .returned (.tuple #[.agg (bvs (takeId s)).toArray, .int .i64 (takeErr s)]) ∧ Star L w' := fun w hM => otake_star s (by omega) w hM
  by_cases h32 : s.length = 32
  · rw [takeId, takeErr, if_pos h32, if_pos h32] at HTK
    have h32i : (s.length : Int) = 32 := by omega
    go_enter Try.func6, Try.ntmps6
    go_wp2_with (first | (go_at_call 24; have hM0 := hM; clear hM; (first | (with_reducible refine (starq (HC1.out _) hM0).mono ?_) | fail); clear hM0; rintro _ w ⟨rfl, hM⟩) | (go_at_call 25; have hM0 := hM; clear hM; (first | (with_reducible refine (HTK _ hM0).mono ?_) | fail); clear hM0; rintro _ w ⟨rfl, hM⟩) | (first | (have hM0 := hM; clear hM; refine BigFrame.wpList_want (by rfl) fun K hK => ws_alloc hM0 (t := 23) rfl (bvs z32).toArray info_id (fun g3 w hM => hK _ _ ?_); clear hM0 hK K) | fail) | (first | (have hM0 := hM; clear hM; refine BigFrame.wpList_want (by rfl) fun K hK => ws_store hM0 rfl rfl rfl (by (repeat (first | (with_reducible exact Take.head) | apply Take.tail)); first | done | fail) (n := 32) (by simp [bvs_len, h32]) (by simp [bvs_len, z32_len]) (by kernel_rfl) (by simpa using bvs_oneCell _) (fun w hM => hK _ _ ?_); clear hM0 hK K) | fail) | (go_at_call 15; have hM0 := hM; clear hM; (first | (with_reducible refine (awake02 _ hM0).mono ?_) | fail); clear hM0; rintro _ w ⟨rfl, hM⟩) | (first | (refine BigFrame.wpList_want (by rfl) fun K hK => ws_load hM rfl rfl (by (repeat (first | assumption | (with_reducible exact List.mem_cons_self) | apply List.mem_cons_of_mem)); first | done | fail) (n := 32) (by simp [bvs_len, h32]) (by decide +kernel) (hK _ _ ?_); clear hK K) | fail) | (go_at_call 14; have hM0 := hM; clear hM; (first | (with_reducible refine (obytes_star s h32 _ hM0).mono ?_) | fail); clear hM0; rintro _ w ⟨rfl, hM⟩))
    go_ret
    exact ⟨rfl, hM.sel (by repeat (first | (with_reducible exact Sel.refl) | (with_reducible exact Take.head) | (with_reducible apply Take.tail) | (with_reducible apply Sel.cons) | (with_reducible apply Sel.drop)))⟩
  · rw [takeId, takeErr, if_neg h32, if_neg h32] at HTK
    have h32i : ¬ (s.length : Int) = 32 := by omega
    go_enter Try.func6, Try.ntmps6
    go_wp2_with (first | (go_at_call 24; have hM0 := hM; clear hM; (first | (with_reducible refine (starq (HC1.out _) hM0).mono ?_) | fail); clear hM0; rintro _ w ⟨rfl, hM⟩) | (go_at_call 25; have hM0 := hM; clear hM; (first | (with_reducible refine (HTK _ hM0).mono ?_) | fail); clear hM0; rintro _ w ⟨rfl, hM⟩) | (first | (have hM0 := hM; clear hM; refine BigFrame.wpList_want (by rfl) fun K hK => ws_alloc hM0 (t := 23) rfl (bvs z32).toArray info_id (fun g3 w hM => hK _ _ ?_); clear hM0 hK K) | fail) | (first | (have hM0 := hM; clear hM; refine BigFrame.wpList_want (by rfl) fun K hK => ws_store hM0 rfl rfl rfl (by (repeat (first | (with_reducible exact Take.head) | apply Take.tail)); first | done | fail) (n := 32) (by simp [bvs_len, z32_len]) (by simp [bvs_len, z32_len]) (by kernel_rfl) (by simpa using bvs_oneCell _) (fun w hM => hK _ _ ?_); clear hM0 hK K) | fail) | (go_at_call 15; have hM0 := hM; clear hM; (first | (with_reducible refine (awake02 _ hM0).mono ?_) | fail); clear hM0; rintro _ w ⟨rfl, hM⟩) | (first | (refine BigFrame.wpList_want (by rfl) fun K hK => ws_load hM rfl rfl (by (repeat (first | assumption | (with_reducible exact List.mem_cons_self) | apply List.mem_cons_of_mem)); first | done | fail) (n := 32) (by simp [bvs_len, z32_len]) (by decide +kernel) (hK _ _ ?_); clear hK K) | fail) | (refine BigFrame.wpList_want (by rfl) fun K hK => ws_build (parts := #[]) rfl (.agg (bvs z32).toArray) (by as_aux_lemma => kernel_rfl) (hK _ _ ?_); clear hK K) | (refine BigFrame.wpList_want (by rfl) fun K hK => ws_of_ex (ex_eql_arr rfl rfl rfl Try.underlying23 Try.underlying5 (by kernel_rfl) z32_len z32_len (by kernel_rfl) (b := true) (by simp)) (hK _ _ ?_); clear hK K))
    go_ret
    exact ⟨rfl, hM.sel (by repeat (first | (with_reducible exact Sel.refl) | (with_reducible exact Take.head) | (with_reducible apply Take.tail) | (with_reducible apply Sel.cons) | (with_reducible apply Sel.drop)))⟩
end Go.Proofs.Ythjceppddmecdaa
