/- CutterSizes: for all texts and numbers the law answers true. No condition. -/
import Derived.Test.YthjceppddmecdaaCut8a
set_option linter.unusedSimpArgs false
set_option linter.unusedVariables false
namespace Go.Proofs.Ythjceppddmecdaa
open Go.RowKit
attribute [local go_sem] extract_mid extract_drop bget bsize wrap64_u8 i64_u8 u64_u8 bappend
def cut300 (l : List UInt8) : List UInt8 := cutP l 300
theorem cut300_len (l : List UInt8) : (cut300 l).length ≤ 300 := by have := cutP_len l 300 (by omega); unfold cut300; omega
theorem cut300_any (l : List UInt8) (w : World) : Calls Try.prog 24 #[.string ⟨l.toArray⟩, .int .i64 300] w fun r w' => r = .returned (.string ⟨(cut300 l).toArray⟩) ∧ w = w' := cut_any l 300 (by omega) w
set_option maxRecDepth 100000 in
set_option maxHeartbeats 4000000 in
theorem cutterSizes_walk {F : List SProp} (a0 : List UInt8) (_w0 : a0.length ≤ 9223372036854775807) (n : Int) (_w1 : -9223372036854775808 ≤ n) (_w2 : n ≤ 9223372036854775807) (w : World) (hM : Star F w) :
    Calls Try.prog 8 #[.string ⟨a0.toArray⟩, .int .i64 n] w fun r w' => r = .returned (.bool true) ∧ Star F w' := by
  have k1 := cut300_len a0
  have H1 := cut300_any a0
  generalize cut300 a0 = x at k1 H1
  have HC1 := Lib.hid H1
  clear H1
  have HNW : Hid (∀ {L : List SProp} (w : World), Star L w → Calls Try.prog 28 #[.string ⟨#[99, 97, 114, 97, 118, 97, 110]⟩] w fun r w' => ∃ g, r = .returned (.pointer (some ⟨g, 0, none⟩)) ∧ Star (tabE g (gTab carB) :: L) w') := fun w hM => gnew_star carB (by simp [carB]) w hM
  have hTl := gTab_len carB
  generalize gTab carB = T at HNW hTl
  have HTL := Lib.hid hTl
  clear hTl
  have HB : Hid (∀ {L : List SProp} (w : World), Star L w → Calls Try.prog 26 #[.string ⟨x.toArray⟩, .int .i64 n] w fun r w' => ∃ s : List UInt8, s.length ≤ 1500 ∧ r = .returned (.string ⟨s.toArray⟩) ∧ Star L w') := fun w hM => bytes8 x (by omega) n _w1 _w2 w hM
  clear _w1 _w2
  go_enter Try.func8, Try.ntmps8
  go_wp2_with (first | (go_at_call 24; have hM0 := hM; clear hM; (first | (with_reducible refine (starq (HC1.out _) hM0).mono ?_) | fail); clear hM0; rintro _ w ⟨rfl, hM⟩) | (go_at_call 26; have hM0 := hM; clear hM; (first | (with_reducible refine (HB.out _ hM0).mono ?_) | fail); clear hM0; rintro _ w ⟨s, hs, rfl, hM⟩) | (go_at_call 27; have hM0 := hM; clear hM; (first | (with_reducible refine (awake08 _ hM0).mono ?_) | fail); clear hM0; rintro _ w ⟨rfl, hM⟩) | (go_at_call 28; have hM0 := hM; clear hM; (first | (with_reducible refine (HNW.out _ hM0).mono ?_) | fail); clear hM0; rintro _ w ⟨g, rfl, hM⟩) | (go_at_call 32; have hM0 := hM; clear hM; (first | (with_reducible refine (ccut_row T s HTL.out (by omega) _ hM0 (by (repeat (first | assumption | (with_reducible exact List.mem_cons_self) | apply List.mem_cons_of_mem)); first | done | fail)).mono ?_) | fail); clear hM0; rintro _ w ⟨B, cb, rfl, hM⟩))
  have HJ := Lib.hid (cuts_join T s)
  have HM := Lib.hid (cuts_mem T s)
  have HL := Lib.hid (cuts_least T s)
  have hcc := cuts_count T _ s (Nat.le_refl _)
  generalize cuts T s = xs at HJ HM HL hM hcc ⊢
  go_loopw [6, 20] (fun a i wr => ∃ k : Nat, k ≤ xs.length ∧ i = .int .i64 k ∧ a = .string ⟨((xs.take k).flatten).toArray⟩ ∧ Star (rowE 1 B xs.length (svs xs) :: F) wr) (fun _ i _ => xs.length - (intOf i).toNat)
  case atStart => exact ⟨0, by omega, rfl, rfl, hM.sel (by repeat (first | (with_reducible exact Sel.refl) | (with_reducible exact Take.head) | (with_reducible apply Take.tail) | (with_reducible apply Sel.cons) | (with_reducible apply Sel.drop)))⟩
  case round =>
    clear hM
    obtain ⟨k, hk, rfl, rfl, hM⟩ := hrel
    by_cases hlt : k < xs.length
    · obtain ⟨ad, d, rfl, hv, hg, htk⟩ := hM.elemS (A := B) (n := xs.length) (l := xs) List.mem_cons_self hlt
      have hd := HM.out d (List.mem_of_getElem? hg)
      have hd1 : ¬ d = [] := by rintro rfl; simp at hd
      have hd2 : ¬ (256 < (d.length : Int)) := by omega
      have HTK : Hid ((xs.take (k + 1)).flatten = (xs.take k).flatten ++ d) := by show _ = _; rw [htk]; simp
      have hfl : ((xs.take (k + 1)).flatten).length ≤ 1500 := by
        have h1 := HJ.out
        rw [← List.take_append_drop (k + 1) xs, List.flatten_append] at h1
        have h2 := congrArg List.length h1
        rw [List.length_append] at h2
        omega
      have hcat : ¬ (9223372036854775807 < ((xs.take k).flatten).length + d.length) := by rw [HTK.out, List.length_append] at hfl; omega
      have HLS := Lib.hid (HL.out k d hg)
      clear htk hfl hg
      generalize (xs.take k).flatten = pre at HTK hcat ⊢
      by_cases hlast : k + 1 < xs.length
      · have h32 := HLS.out hlast
        have h32' : ¬ ((d.length : Int) < 32) := by omega
        have hl1 : (k : Int) < (xs.length : Int) - 1 := by omega
        go_wp2_with (first | (first | (refine BigFrame.wpList_want (by rfl) fun K hK => ws_rowload rfl rfl (by first | (apply Star.row hM; (repeat (first | assumption | (with_reducible exact List.mem_cons_self) | apply List.mem_cons_of_mem)); done) | (apply Star.own hM; (repeat (first | assumption | (with_reducible exact List.mem_cons_self) | apply List.mem_cons_of_mem)); done) | (apply Star.arr hM; (focus ((repeat (first | assumption | (with_reducible exact List.mem_cons_self) | apply List.mem_cons_of_mem)); done)); assumption)) (by assumption) (by kernel_rfl) (hK _ _ ?_); clear hK K) | fail))
        go_roundw
        case rel => exact ⟨k + 1, by omega, by go_num, by rw [HTK.out], hM⟩
        case measure => simp [intOf]; omega
      · have hl1 : ¬ ((k : Int) < (xs.length : Int) - 1) := by omega
        go_wp2_with (first | (first | (refine BigFrame.wpList_want (by rfl) fun K hK => ws_rowload rfl rfl (by first | (apply Star.row hM; (repeat (first | assumption | (with_reducible exact List.mem_cons_self) | apply List.mem_cons_of_mem)); done) | (apply Star.own hM; (repeat (first | assumption | (with_reducible exact List.mem_cons_self) | apply List.mem_cons_of_mem)); done) | (apply Star.arr hM; (focus ((repeat (first | assumption | (with_reducible exact List.mem_cons_self) | apply List.mem_cons_of_mem)); done)); assumption)) (by assumption) (by kernel_rfl) (hK _ _ ?_); clear hK K) | fail))
        go_roundw
        case rel => exact ⟨k + 1, by omega, by go_num, by rw [HTK.out], hM⟩
        case measure => simp [intOf]; omega
    · obtain rfl : k = xs.length := by omega
      rw [List.take_length, HJ.out]
      go_wp2
      go_ret
      exact ⟨rfl, hM.sel (by repeat (first | (with_reducible exact Sel.refl) | (with_reducible exact Take.head) | (with_reducible apply Take.tail) | (with_reducible apply Sel.cons) | (with_reducible apply Sel.drop)))⟩
end Go.Proofs.Ythjceppddmecdaa
