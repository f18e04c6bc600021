/- The walks of cutter.All, the function that it hands back, cutter.Cut. No condition but sizes. -/
import Derived.Test.YthjceppddmecdaaCutW
import Derived.Test.YthjceppddmecdaaFunc
import Derived.BigFrameIn
import Derived.LoopIn
import Derived.TacticsInMore
set_option linter.unusedSimpArgs false
set_option linter.unusedVariables false
namespace Go.Proofs.Ythjceppddmecdaa
open Go.RowKit
attribute [local go_sem] extract_mid extract_drop bget bsize wrap64_u8 i64_u8 u64_u8 bappend
attribute [local go_sem] Oper.semAt_some
abbrev encS (x : List UInt8) : Value := .string ⟨x.toArray⟩
theorem cuts_app (t : List Nat) (s : List UInt8) : cuts t s = (cRun t ([], []) s).1 ++ (if (cRun t ([], []) s).2 = [] then [] else [(cRun t ([], []) s).2]) := by
  unfold cuts cFin
  split <;> simp
set_option maxRecDepth 100000 in
theorem call_star {F : List SProp} (gt : Nat) (s : List UInt8) (w : World) (hM : Star F w) :
    Calls Try.prog 30 #[.pointer (some ⟨gt, 0, none⟩), .string ⟨s.toArray⟩] w fun r w' => ∃ b1 b2, r = .returned (.func (.func 47) #[] #[.pointer (some ⟨b1, 0, none⟩), .pointer (some ⟨b2, 0, none⟩)]) ∧
      Star (cellsE b1 39 #[.pointer (some ⟨gt, 0, none⟩)] :: cellsE b2 9 #[.string ⟨s.toArray⟩] :: F) w' := by
  go_enter Try.func30, Try.ntmps30
  go_wp2_with (first | (first | (have hM0 := hM; clear hM; refine BigFrame.wpList_want (by rfl) fun K hK => ws_box hM0 rfl rfl (cs := #[.pointer (some ⟨gt, 0, none⟩)]) rfl (fun g1 w hM => hK _ _ ?_); clear hM0 hK K) | fail) | (first | (have hM0 := hM; clear hM; refine BigFrame.wpList_want (by rfl) fun K hK => ws_box hM0 rfl rfl (cs := #[.string ⟨s.toArray⟩]) rfl (fun g2 w hM => hK _ _ ?_); clear hM0 hK K) | fail))
  go_ret
  exact ⟨_, _, rfl, hM.sel (by repeat (first | (with_reducible exact Sel.refl) | (with_reducible exact Take.head) | (with_reducible apply Take.tail) | (with_reducible apply Sel.cons) | (with_reducible apply Sel.drop)))⟩
set_option maxRecDepth 100000 in
set_option maxHeartbeats 4000000 in
theorem all_seq {F : List SProp} {gt b1 b2 : Nat} (t : List Nat) (s : List UInt8) (ht : t.length = 256) (hs : s.length ≤ 1000000) (hT : tabE gt t ∈ F)
    (h1 : cellsE b1 39 #[.pointer (some ⟨gt, 0, none⟩)] ∈ F) (h2 : cellsE b2 9 #[.string ⟨s.toArray⟩] ∈ F) :
    SeqStar Try.prog 47 #[.pointer (some ⟨b1, 0, none⟩), .pointer (some ⟨b2, 0, none⟩)] encS (cuts t s) F := by
  intro σ l J Jx s0 W hY hM
  have hca := cuts_app t s
  have hcp := cRun_part t s [] [] (by simp)
  have hcc := cRun_count t s ([], [])
  have HW : ∀ {L : List SProp} {gc gq : Nat} {As : Option Addr} {cp : Nat} (w : World), Star (cutE gc gq none 0 0 :: rollE gq gt 0 0 :: tailE 5 1 none 0 0 [] :: L) w → tabE gt t ∈ L → rowE 1 As 1 (svs [s]) ∈ L →
      Calls Try.prog 34 #[.pointer (some ⟨gc, 0, none⟩), .slice As 1 cp] w fun r w' => ∃ B cb A cap, r = .returned (.slice B (cRun t ([], []) s).1.length cb) ∧
      Star (tailE 9 1 B (cRun t ([], []) s).1.length cb (svs (cRun t ([], []) s).1) :: cutE gc gq A (cRun t ([], []) s).2.length cap :: rollE gq gt (gRoll t 0 (cRun t ([], []) s).2) (cRun t ([], []) s).2.length :: tailE 5 1 A (cRun t ([], []) s).2.length cap (bvs (cRun t ([], []) s).2) :: L) w' := fun {L gc gq As cp} w hM hT hR => by
    have := cwrite_star gt t ht [s] (by simpa using hs) (by simp) [] (by simp) (cp := cp) w hM hT hR
    rw [cat_one] at this
    exact this
  generalize cuts t s = xs at hY hca ⊢
  generalize cRun t ([], []) s = st at hca hcp hcc HW
  obtain ⟨o, p⟩ := st
  simp only [List.length_nil] at hca hcp hcc HW
  have hol : o.length ≤ 1000000 := by omega
  have HCA := Lib.hid hca
  have HY := Lib.hid hY
  clear hY hca ht
  refine callsIn_of_wp Try.func47 rfl trivial ?_; simp only [Try.ntmps47, List.size_toArray, List.length_cons, List.length_nil, Nat.reduceAdd, Nat.reduceSub, Array.replicate_succ, Array.replicate_zero, List.push_toArray, List.append_toArray, List.nil_append, List.cons_append]
  gi_wp2_with (first | (first | (refine BigFrame.wpListIn_want (by rfl) fun K hK => wpIn_of_wp (fun _ h => by cases h) (ws_load1 hM rfl rfl (by (repeat (first | assumption | (with_reducible exact List.mem_cons_self) | apply List.mem_cons_of_mem)); first | done | fail) (by first | rfl | assumption) (by decide +kernel) (hK _ _ ?_)); clear hK K) | fail) | ((refine ⟨trivial, rfl, ?_⟩); gi_at_call 33; have hM0 := hM; clear hM; (first | (with_reducible refine (callsIn_wide.2 (cnew_star gt _ hM0)).mono ?_) | fail); clear hM0; rintro _ w ⟨gc, gq, rfl, hM⟩) | (first | (have hM0 := hM; clear hM; refine BigFrame.wpListIn_want (by rfl) fun K hK => wpIn_of_wp (fun _ h => by cases h) (ws_slice_row hM0 (n := 1) rfl 9 1 (.string ByteArray.empty) [sv s] Try.underlying41 (by kernel_rfl) rfl (by simp [Value.cells, iv, sv, bv]) (by rfl) (by decide) (cs := svs [s]) (by rfl) (fun gs w hM => hK _ _ ?_)); clear hM0 hK K) | fail) | ((refine ⟨trivial, rfl, ?_⟩); gi_at_call 34; have hM0 := hM; clear hM; (first | (with_reducible refine (callsIn_wide.2 (HW _ (hM0.sel (by repeat (first | (with_reducible exact Sel.refl) | (with_reducible exact Take.head) | (with_reducible apply Take.tail) | (with_reducible apply Sel.cons) | (with_reducible apply Sel.drop)))) (by (repeat (first | assumption | (with_reducible exact List.mem_cons_self) | apply List.mem_cons_of_mem)); first | done | fail) (by (repeat (first | assumption | (with_reducible exact List.mem_cons_self) | apply List.mem_cons_of_mem)); first | done | fail))).mono ?_) | fail); clear hM0; rintro _ w ⟨B, cb, A, cap, rfl, hM⟩))
  replace hM := hM.tail_freeze
  obtain ⟨wq, rfl⟩ : ∃ wq : World, wq = w := ⟨_, rfl⟩
  gi_loopw [16] (fun i wr => ∃ (k : Nat) (s1 : σ), k ≤ o.length ∧ i = .int .i64 k ∧ Star (J s1 (o.take k) :: rowE 1 B o.length (svs o) :: cutE gc gq A p.length cap :: rollE gq gt (gRoll t 0 p) p.length :: tailE 5 1 A p.length cap (bvs p) :: F) wr) (fun i _ => o.length - (intOf i).toNat)
  case atStart => exact ⟨0, s0, by omega, rfl, by rw [List.take_zero]; exact hM.sel (by repeat (first | (with_reducible exact Sel.refl) | (with_reducible exact Take.head) | (with_reducible apply Take.tail) | (with_reducible apply Sel.cons) | (with_reducible apply Sel.drop)))⟩
  case round =>
    clear hM
    obtain ⟨k, s1, hk, rfl, hM⟩ := hrel
    by_cases hlt : k < o.length
    · obtain ⟨ad, d, rfl, hv, hg, htk⟩ := hM.elemS (A := B) (n := o.length) (l := o) (by simp) hlt
      have hpre : o.take k ++ [d] <+: xs := ⟨o.drop (k + 1) ++ (if p = [] then [] else [p]), by rw [← htk, ← List.append_assoc, List.take_append_drop, HCA.out]⟩
      obtain ⟨fn, tmps, assign, body, hy, hR⟩ := HY.out s1 (o.take k) d _ wr hpre (fun y hy => by repeat (first | exact hy | apply List.mem_cons_of_mem)) hM
      simp only [encS] at hy
      have HR := Lib.hid hR
      have HPRE := Lib.hid hpre
      have HTK := Lib.hid htk
      clear hR hg hpre htk
      gi_wp2_with (first | (first | (refine BigFrame.wpListIn_want (by rfl) fun K hK => wpIn_of_wp (fun _ h => by cases h) (ws_rowload rfl rfl (by first | (apply Star.row hM; (repeat (first | assumption | (with_reducible exact List.mem_cons_self) | apply List.mem_cons_of_mem)); done) | (apply Star.own hM; (repeat (first | assumption | (with_reducible exact List.mem_cons_self) | apply List.mem_cons_of_mem)); done) | (apply Star.arr hM; (focus ((repeat (first | assumption | (with_reducible exact List.mem_cons_self) | apply List.mem_cons_of_mem)); done)); assumption)) (by assumption) (by kernel_rfl) (hK _ _ ?_)); clear hK K) | fail))
      refine ⟨rfl, RoundIn.mono HR.out ?_⟩
      rintro e W3 (⟨rfl, s2, hS⟩ | ⟨rfl, c, s2, hS⟩)
      · clear hM HR hy
        gi_wp2
        go_roundw
        case rel => exact ⟨k + 1, s2, by omega, by go_num, by rw [HTK.out]; exact hS⟩
        case measure => simp [intOf]; omega
      · clear hM HR hy
        gi_wp2
        refine bodyPost_ret (results_none rfl _ _ _) rfl ?_
        exact ⟨⟨_, rfl⟩, .inr ⟨c, s2, o.take k ++ [d], HPRE.out, by simp, hS.sel (by repeat (first | (with_reducible exact Sel.refl) | (with_reducible exact Take.head) | (with_reducible apply Take.tail) | (with_reducible apply Sel.cons) | (with_reducible apply Sel.drop)))⟩⟩
    · obtain rfl : k = o.length := by omega
      rw [List.take_length] at hM
      by_cases hp : p = []
      · subst hp
        have HXS : Hid (xs = o) := by show _ = _; rw [HCA.out, if_pos rfl, List.append_nil]
        simp only [List.length_nil] at hM
        gi_wp2_with (first | ((refine ⟨trivial, rfl, ?_⟩); gi_at_call 35; have hM0 := hM; clear hM; (first | (with_reducible refine (callsIn_wide.2 (cclose0_star _ hM0 (by (repeat (first | assumption | (with_reducible exact List.mem_cons_self) | apply List.mem_cons_of_mem)); first | done | fail))).mono ?_) | fail); clear hM0; rintro _ w ⟨rfl, hM⟩))
        go_end0
        exact ⟨⟨_, rfl⟩, .inl ⟨s1, by rw [HXS.out]; exact hM.sel (by repeat (first | (with_reducible exact Sel.refl) | (with_reducible exact Take.head) | (with_reducible apply Take.tail) | (with_reducible apply Sel.cons) | (with_reducible apply Sel.drop)))⟩⟩
      · have HXS : Hid (xs = o ++ [p]) := by show _ = _; rw [HCA.out, if_neg hp]
        have hpl : 0 < p.length := List.length_pos_iff.2 hp
        gi_wp2_with (first | (((refine ⟨trivial, rfl, ?_⟩); gi_at_call 35; have hM0 := hM; clear hM; (first | (with_reducible refine (callsIn_wide.2 (cclose_star p hpl _ hM0 (by (repeat (first | (with_reducible exact Take.head) | apply Take.tail)); first | done | fail) (by (repeat (first | (with_reducible exact Take.head) | apply Take.tail)); first | done | fail) (by (repeat (first | (with_reducible exact Take.head) | apply Take.tail)); first | done | fail))).mono ?_) | fail); clear hM0; rintro _ w ⟨rfl, hM⟩); have hMJ := hM.take (x := J s1 o) (by (repeat (first | (with_reducible exact Take.head) | apply Take.tail)); first | done | fail); obtain ⟨fn, tmps, assign, body, hy, hR⟩ := HY.out s1 o p _ _ ⟨[], by rw [HXS.out, List.append_nil]⟩ (fun y hy => by repeat (first | exact hy | apply List.mem_cons_of_mem)) hMJ; simp only [encS] at hy; have HR := Lib.hid hR; clear hR hMJ hM))
        refine ⟨rfl, RoundIn.mono HR.out ?_⟩
        rintro e W3 (⟨rfl, s2, hS⟩ | ⟨rfl, c, s2, hS⟩)
        · clear HR hy
          gi_wp2
          go_end0
          exact ⟨⟨_, rfl⟩, .inl ⟨s2, by rw [HXS.out]; exact hS.sel (by repeat (first | (with_reducible exact Sel.refl) | (with_reducible exact Take.head) | (with_reducible apply Take.tail) | (with_reducible apply Sel.cons) | (with_reducible apply Sel.drop)))⟩⟩
        · clear HR hy
          gi_wp2
          go_end0
          exact ⟨⟨_, rfl⟩, .inr ⟨c, s2, o ++ [p], ⟨[], by rw [HXS.out, List.append_nil]⟩, by simp, hS.sel (by repeat (first | (with_reducible exact Sel.refl) | (with_reducible exact Take.head) | (with_reducible apply Take.tail) | (with_reducible apply Sel.cons) | (with_reducible apply Sel.drop)))⟩⟩
end Go.Proofs.Ythjceppddmecdaa
