/- The walk of cutter.Cut: a range over the function that All hands back. No condition but sizes. -/
import Derived.Test.YthjceppddmecdaaCutA
set_option linter.unusedSimpArgs false
set_option linter.unusedVariables false
namespace Go.Proofs.Ythjceppddmecdaa
open Go.RowKit
attribute [local go_sem] extract_mid extract_drop bget bsize wrap64_u8 i64_u8 u64_u8 bappend
attribute [local go_sem] Oper.semAt_some
theorem drop_pre {L : List SProp} {w : World} {D : Nat} (h : Star (objE D (.deferred (some [])) :: L) w) (P : Program) : (Instr.takeDeferred D).run P w = .ok [] (w.putObj D (.deferred none)) :=
  run_takeDeferred (show w.heap[D]? = some (.deferred (some [])) from h.head)
set_option maxRecDepth 100000 in
set_option maxHeartbeats 4000000 in
theorem ccut_star {F : List SProp} {gt : Nat} (t : List Nat) (s : List UInt8) (ht : t.length = 256) (hs : s.length ≤ 1000000) (w : World) (hM : Star F w) (hT : tabE gt t ∈ F) :
    Calls Try.prog 32 #[.pointer (some ⟨gt, 0, none⟩), .string ⟨s.toArray⟩] w fun r w' => ∃ B cb, r = .returned (.slice B (cuts t s).length cb) ∧ Star (tailE 9 1 B (cuts t s).length cb (svs (cuts t s)) :: F) w' := by
  have HQ : ∀ {L : List SProp} {b1 b2 : Nat}, tabE gt t ∈ L → cellsE b1 39 #[.pointer (some ⟨gt, 0, none⟩)] ∈ L → cellsE b2 9 #[.string ⟨s.toArray⟩] ∈ L → SeqStar Try.prog 47 #[.pointer (some ⟨b1, 0, none⟩), .pointer (some ⟨b2, 0, none⟩)] encS (cuts t s) L := fun h1 h2 h3 => all_seq t s ht hs h1 h2 h3
  have hcc : (cuts t s).length ≤ 1000001 := by
    have := cRun_count t s ([], [])
    unfold cuts cFin
    split
    · simp only [List.length_nil] at this; omega
    · rw [List.length_append, List.length_singleton]; simp only [List.length_nil] at this; omega
  generalize cuts t s = xs at HQ hcc ⊢
  have HCC := Lib.hid hcc
  clear ht hcc
  replace hM := hM.niltail 9 1
  refine (callsIn_wide (n := 0)).1 (callsIn_of_wp_marks Try.func32 rfl trivial (wpIn_wide.2 ?_)); simp only [Try.ntmps32, List.size_toArray, List.length_cons, List.length_nil, Nat.reduceAdd, Nat.reduceSub, Array.replicate_succ, Array.replicate_zero, List.push_toArray, List.append_toArray, List.nil_append, List.cons_append]
  go_wp2_with (first | (first | (have hM0 := hM; clear hM; refine BigFrame.wpList_want (by rfl) fun K hK => ws_alloc1 hM0 (t := 41) rfl (.slice none 0 0) (by kernel_rfl) rfl (fun g5 w hM => hK _ _ ?_); clear hM0 hK K) | fail) | (go_at_call 30; have hM0 := hM; clear hM; (first | (with_reducible refine (call_star gt s _ hM0).mono ?_) | fail); clear hM0; rintro _ w ⟨b1, b2, rfl, hM⟩))
  refine (wpIn_wide (n := 0)).1 ?_
  have hM2 : Star (cellsE g5 41 #[.slice none 0 0] :: tailE 9 1 none 0 0 [] :: cellsE b1 39 #[.pointer (some ⟨gt, 0, none⟩)] :: cellsE b2 9 #[.string ⟨s.toArray⟩] :: F) w := hM.sel (by repeat (first | (with_reducible exact Sel.refl) | (with_reducible exact Take.head) | (with_reducible apply Take.tail) | (with_reducible apply Sel.cons) | (with_reducible apply Sel.drop)))
  replace hM : Star ([cellsE g5 41 #[.slice none 0 0], tailE 9 1 none 0 0 []] ++ (cellsE b1 39 #[.pointer (some ⟨gt, 0, none⟩)] :: cellsE b2 9 #[.string ⟨s.toArray⟩] :: F)) w := hM2
  clear hM2
  refine wpIn_rangeFunc_star (gf := 47) (lb := #[.pointer (some ⟨b1, 0, none⟩), .pointer (some ⟨b2, 0, none⟩)]) (σ := Option Addr × Nat) rfl (enters_at Try.func47 (by kernel_rfl) rfl) (HQ (by (repeat (first | assumption | (with_reducible exact List.mem_cons_self) | apply List.mem_cons_of_mem)); first | done | fail) (by (repeat (first | assumption | (with_reducible exact List.mem_cons_self) | apply List.mem_cons_of_mem)); first | done | fail) (by (repeat (first | assumption | (with_reducible exact List.mem_cons_self) | apply List.mem_cons_of_mem)); first | done | fail))
    (I := fun q pre => [cellsE g5 41 #[.slice q.1 pre.length q.2], tailE 9 1 q.1 pre.length q.2 (svs pre)]) (Ix := fun _ _ _ => [falseE]) (s0 := (none, 0)) (by simp [cellsE, tailE]) (by simp [falseE]) hM
    (fun x => { tmps := #[.pointer (some ⟨gt, 0, none⟩), .string ⟨s.toArray⟩, undef, undef, .slice none 0 0, .pointer (some ⟨g5, 0, none⟩), .string ⟨x.toArray⟩, .pointer (some ⟨gt, 0, none⟩), .string ⟨s.toArray⟩, .func (.func 47) #[] #[.pointer (some ⟨b1, 0, none⟩), .pointer (some ⟨b2, 0, none⟩)], .string ⟨x.toArray⟩, undef, undef, undef, undef, undef], defers := [] }) ?assign ?body ?done ?stop
  case assign =>
    intro l x W K hK
    gi_wp2
    exact hK
  case body =>
    rintro l ⟨B, cb⟩ pre x L W hpre hsub hM
    have hpl : pre.length + 1 ≤ 1000001 := by have := hpre.length_le; rw [List.length_append, List.length_singleton] at this; exact Nat.le_trans this HCC.out
    simp only [List.cons_append, List.nil_append] at hM
    gi_wp2_with (first | (first | (refine BigFrame.wpListIn_want (by rfl) fun K hK => wpIn_of_wp_round (fun _ h => by cases h) (ws_load1 hM rfl rfl (by (repeat (first | assumption | (with_reducible exact List.mem_cons_self) | apply List.mem_cons_of_mem)); first | done | fail) (by first | rfl | assumption) (by decide +kernel) (hK _ _ ?_)); clear hK K) | fail) | (first | (have hM0 := hM; clear hM; refine BigFrame.wpListIn_want (by rfl) fun K hK => wpIn_of_wp_round (fun _ h => by cases h) (ws_slice_row hM0 (n := 1) rfl 9 1 (.string ByteArray.empty) [sv x] Try.underlying41 (by kernel_rfl) rfl (by simp [Value.cells, iv, sv, bv]) (by rfl) (by decide) (cs := svs [x]) (by rfl) (fun gs w hM => hK _ _ ?_)); clear hM0 hK K) | fail) | (first | (have hM0 := hM; clear hM; refine BigFrame.wpListIn_want (by rfl) fun K hK => wpIn_of_wp_round (fun _ h => by cases h) (ws_app hM0 rfl rfl 9 ((.string ByteArray.empty)) 1 16 Try.underlying41 (by kernel_rfl) (by rfl) (by (repeat (first | (with_reducible exact Take.head) | apply Take.tail)); first | done | fail) (src_row Try.underlying41 _ (hM0.row (by (repeat (first | assumption | (with_reducible exact List.mem_cons_self) | apply List.mem_cons_of_mem)); first | done | fail)) (svs_one _)) ((by omega)) (fun A3 c3 w hM => hK _ _ ?_)); clear hM0 hK K; (try simp only [Nat.zero_add, Nat.add_zero, List.nil_append, List.append_nil, ← bvs_app] at hM)) | fail) | (first | (have hM0 := hM; clear hM; refine BigFrame.wpListIn_want (by rfl) fun K hK => wpIn_of_wp_round (fun _ h => by cases h) (ws_store1 hM0 rfl rfl (by go_simp; rfl) (by first | rfl | assumption) (by (repeat (first | (with_reducible exact Take.head) | apply Take.tail)); first | done | fail) (by simp) (by kernel_rfl) (by simp only [List.setIfInBounds_toArray, List.set_cons_zero, List.set_cons_succ]; rfl) (fun w hM => hK _ _ ?_)); clear hM0 hK K) | fail))
    exact ⟨(A3, c3), by simp only [List.cons_append, List.nil_append, svs_app, List.length_append, List.length_singleton]; exact hM.sel (by repeat (first | (with_reducible exact Sel.refl) | (with_reducible exact Take.head) | (with_reducible apply Take.tail) | (with_reducible apply Sel.cons) | (with_reducible apply Sel.drop)))⟩
  case done =>
    rintro D ⟨B, cb⟩ W hM
    simp only [List.cons_append, List.nil_append] at hM
    go_wp2_with (first | (first | (refine BigFrame.wpList_want (by rfl) fun K hK => ws_load1 hM rfl rfl (by (repeat (first | assumption | (with_reducible exact List.mem_cons_self) | apply List.mem_cons_of_mem)); first | done | fail) (by first | rfl | assumption) (by decide +kernel) (hK _ _ ?_); clear hK K) | fail))
    have hMD := hM.take (x := objE D (.deferred (some []))) (by (repeat (first | (with_reducible exact Take.head) | apply Take.tail)); first | done | fail)
    refine ⟨by simp, .inl ⟨_, _, rfl, drop_pre hMD _, ?_⟩⟩
    replace hMD := (hMD.put_obj (.deferred none)).tail
    exact ⟨_, results_tmp rfl _ _ _, ⟨_, _, rfl, hMD.sel (by repeat (first | (with_reducible exact Sel.refl) | (with_reducible exact Take.head) | (with_reducible apply Take.tail) | (with_reducible apply Sel.cons) | (with_reducible apply Sel.drop)))⟩⟩
  case stop =>
    rintro D c ⟨B, cb⟩ pre W _ _ hM
    exact (show False from hM.all falseE (by simp)).elim
end Go.Proofs.Ythjceppddmecdaa
