/- The walk of the reference's Cut (layer 8). No condition but sizes. -/
import Derived.Test.YthjceppddmecdaaRef8
set_option linter.unusedSimpArgs false
set_option linter.unusedVariables false
namespace Go.Proofs.Ythjceppddmecdaa
open Go.RowKit
attribute [local go_sem] extract_mid extract_drop bget bsize wrap64_u8 i64_u8 u64_u8 bappend
theorem cuts_count (t : List Nat) : ∀ (n : Nat) (s : List UInt8), s.length ≤ n → (cuts t s).length ≤ s.length := by
  intro n
  induction n with
  | zero => intro s h; obtain rfl : s = [] := List.eq_nil_of_length_eq_zero (by omega); simp [cuts_nil]
  | succ n ih =>
    intro s h
    by_cases h0 : s = []
    · subst h0; simp [cuts_nil]
    · have hg := endFrom_ge t s []
      have h1 : 0 < endOf t s := hg.2.2 h0
      have h2 := ih (s.drop (endOf t s)) (by rw [List.length_drop]; have := List.length_pos_iff.2 h0; omega)
      rw [cuts_first h0, List.length_cons]
      rw [List.length_drop] at h2
      have := List.length_pos_iff.2 h0
      omega
set_option maxRecDepth 100000 in
set_option maxHeartbeats 1000000 in
theorem rcut_star {F : List SProp} (A : Option Addr) (c : Nat) (t : List Nat) (s : List UInt8) (ht : t.length = 256) (hs : s.length ≤ 1000000) (w : World) (hM : Star F w) (hT : rowE 1 A 256 (uvs t) ∈ F) :
    Calls Try.prog 29 #[.slice A 256 c, .string ⟨s.toArray⟩] w fun r w' => ∃ B cb, r = .returned (.slice B (cuts t s).length cb) ∧ Star (tailE 9 1 B (cuts t s).length cb (svs (cuts t s)) :: F) w' := by
  have HTL := Lib.hid ht
  have HC := Lib.hid (cuts_count t _ s (Nat.le_refl _))
  clear ht
  go_enter Try.func29, Try.ntmps29
  go_wp2_with (first | (first | (have hM0 := hM; clear hM; refine BigFrame.wpList_want (by rfl) fun K hK => ws_slice_tail hM0 (n := 0) rfl 9 1 (.string ByteArray.empty) [] Try.underlying41 (by kernel_rfl) rfl (by simp [Value.cells, iv, sv, bv]) (by rfl) (by decide) (by decide) (cs := []) (by rfl) (fun g5 w hM => hK _ _ ?_); clear hM0 hK K) | fail))
  go_loopw [5, 6, 7] (fun ov at_ i wr => ∃ (m k : Nat) (B : Option Addr) (cb : Nat) (pre : List (List UInt8)), m ≤ s.length ∧ k ≤ m ∧ i = .int .i64 k ∧ at_ = .int .i64 m ∧ ov = .slice B pre.length cb ∧ Hid (cuts t s = pre ++ cuts t (s.drop m)) ∧
    Star (tailE 9 1 B pre.length cb (svs pre) :: F) wr) (fun _ a _ _ => s.length - (intOf a).toNat)
  case atStart => exact ⟨0, 0, some ⟨g5, 0, none⟩, 0, [], by omega, by omega, rfl, rfl, rfl, rfl, hM⟩
  case round =>
    clear hM
    obtain ⟨m, k, B, cb, pre, hm, hk, rfl, rfl, rfl, hc, hM⟩ := hrel
    by_cases hlt : m < s.length
    · have hne : s.drop m ≠ [] := by intro h; have := congrArg List.length h; simp at this; omega
      have hdl : (s.drop m).length = s.length - m := by simp
      have hpl : pre.length ≤ 1000000 := by have h1 := HC.out; rw [hc.out, List.length_append] at h1; omega
      have hE : Hid (∀ {L : List SProp} (w : World), Star L w → rowE 1 A 256 (uvs t) ∈ L → Calls Try.prog 46 #[.slice A 256 c, .string ⟨(s.drop m).toArray⟩] w fun r w' => r = .returned (.int .i64 (endOf t (s.drop m))) ∧ Star L w') := fun w hM hT => rEnd_star A c t (s.drop m) HTL.out (by rw [hdl]; omega) w hM hT
      have hg := endFrom_ge t (s.drop m) []
      have he1 : 0 < endOf t (s.drop m) := hg.2.2 hne
      have he2 : endOf t (s.drop m) ≤ s.length - m := by have := hg.2.1; simpa using this
      have HCF := Lib.hid (cuts_first (t := t) hne)
      obtain ⟨N, hN⟩ : ∃ N, N = endOf t (s.drop m) := ⟨_, rfl⟩
      rw [← hN] at hE he1 he2 HCF
      obtain ⟨x, hx⟩ : ∃ x, x = (s.drop m).take N := ⟨_, rfl⟩
      have HX : Hid ((s.take (m + N)).drop m = x) := by show _ = _; rw [hx, List.drop_take]; congr 1; omega
      rw [← hx] at HCF
      have hi2 : (m : Int) + (N : Int) ≤ (s.length : Int) := by omega
      have hi3 : (k : Int) ≤ (s.length : Int) := by omega
      clear hg hne hdl hN hx
      go_wp2_with (first | (go_at_call 46; have hM0 := hM; clear hM; (first | (with_reducible refine (hE.out _ hM0 (by (repeat (first | assumption | (with_reducible exact List.mem_cons_self) | apply List.mem_cons_of_mem)); first | done | fail)).mono ?_) | fail); clear hM0; rintro _ w ⟨rfl, hM⟩) | (first | (have hM0 := hM; clear hM; refine BigFrame.wpList_want (by rfl) fun K hK => ws_slice_row hM0 (n := 1) rfl 9 1 (.string ByteArray.empty) [sv ((s.take (m + N)).drop m)] Try.underlying41 (by kernel_rfl) rfl (by simp [Value.cells, iv, sv, bv]) (by rfl) (by decide) (cs := svs [(s.take (m + N)).drop m]) (by rfl) (fun gs w hM => hK _ _ ?_); clear hM0 hK K) | fail) | (first | (have hM0 := hM; clear hM; refine BigFrame.wpList_want (by rfl) fun K hK => ws_app hM0 rfl rfl 9 ((.string ByteArray.empty)) 1 16 Try.underlying41 (by kernel_rfl) (by rfl) (by (repeat (first | (with_reducible exact Take.head) | apply Take.tail)); first | done | fail) (src_row Try.underlying41 _ (hM0.row (by (repeat (first | assumption | (with_reducible exact List.mem_cons_self) | apply List.mem_cons_of_mem)); first | done | fail)) (svs_one _)) ((by omega)) (fun A4 c4 w hM => hK _ _ ?_); clear hM0 hK K; (try simp only [Nat.zero_add, Nat.add_zero, List.nil_append, List.append_nil, ← bvs_app] at hM)) | fail))
      rw [HX.out] at hM
      go_roundw
      case rel => exact ⟨m + N, k + 1, A4, c4, pre ++ [x], by omega, by omega, by go_num, by go_num, by simp, (by show _ = _; rw [hc.out, HCF.out, List.drop_drop]; simp), by rw [svs_app, List.length_append, List.length_singleton]; exact hM.sel (by repeat (first | (with_reducible exact Sel.refl) | (with_reducible exact Take.head) | (with_reducible apply Take.tail) | (with_reducible apply Sel.cons) | (with_reducible apply Sel.drop)))⟩
      case measure => simp [intOf]; omega
    · obtain rfl : m = s.length := by omega
      have e : cuts t s = pre := by rw [hc.out, List.drop_length, cuts_nil, List.append_nil]
      subst e
      go_wp2
      go_ret
      exact ⟨_, _, rfl, hM⟩
end Go.Proofs.Ythjceppddmecdaa
