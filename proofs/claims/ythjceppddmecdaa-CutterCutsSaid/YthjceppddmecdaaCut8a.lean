/- The law's function awake of layer 8. No condition. -/
import Derived.Test.YthjceppddmecdaaCut8
import Derived.Test.YthjceppddmecdaaGearLocal
set_option linter.unusedSimpArgs false
set_option linter.unusedVariables false
namespace Go.Proofs.Ythjceppddmecdaa
open Go.RowKit
attribute [local go_sem] extract_mid extract_drop bget bsize wrap64_u8 i64_u8 u64_u8 bappend
theorem cuts_short (t : List Nat) (s : List UInt8) (h0 : s ≠ []) (h : s.length < 32) : cuts t s = [s] := by
  have key : ∀ (s p : List UInt8) (o : List (List UInt8)), p.length + s.length < 32 → cRun t (o, p) s = (o, p ++ s) := by
    intro s
    induction s with
    | nil => intro p o _; simp [cRun_nil]
    | cons c s ih =>
      intro p o hl
      rw [List.length_cons] at hl
      rw [cRun_cons, cStep_no (cEnd_small (by omega)), ih _ _ (by simp; omega)]
      simp
  unfold cuts cFin
  rw [key s [] [] (by simpa using h)]
  rw [if_neg (by simpa using h0)]
  simp
theorem ccut_row {F : List SProp} {gt : Nat} (t : List Nat) (s : List UInt8) (ht : t.length = 256) (hs : s.length ≤ 1000000) (w : World) (hM : Star F w) (hT : tabE gt t ∈ F) :
    Calls Try.prog 32 #[.pointer (some ⟨gt, 0, none⟩), .string ⟨s.toArray⟩] w fun r w' => ∃ B cb, r = .returned (.slice B (cuts t s).length cb) ∧ Star (rowE 1 B (cuts t s).length (svs (cuts t s)) :: F) w' :=
  (ccut_star t s ht hs w hM hT).mono fun _ _ ⟨B, cb, h1, h2⟩ => ⟨B, cb, h1, h2.tail_freeze⟩
theorem rcut_row {F : List SProp} (A : Option Addr) (c : Nat) (t : List Nat) (s : List UInt8) (ht : t.length = 256) (hs : s.length ≤ 1000000) (w : World) (hM : Star F w) (hT : rowE 1 A 256 (uvs t) ∈ F) :
    Calls Try.prog 29 #[.slice A 256 c, .string ⟨s.toArray⟩] w fun r w' => ∃ B cb, r = .returned (.slice B (cuts t s).length cb) ∧ Star (rowE 1 B (cuts t s).length (svs (cuts t s)) :: F) w' :=
  (rcut_star A c t s ht hs w hM hT).mono fun _ _ ⟨B, cb, h1, h2⟩ => ⟨B, cb, h1, h2.tail_freeze⟩
theorem cut_one {F : List SProp} {gt : Nat} (t : List Nat) (s : List UInt8) (ht : t.length = 256) (h0 : s ≠ []) (hs : s.length < 32) (w : World) (hM : Star F w) (hT : tabE gt t ∈ F) :
    Calls Try.prog 32 #[.pointer (some ⟨gt, 0, none⟩), .string ⟨s.toArray⟩] w fun r w' => ∃ ad cb, r = .returned (.slice (some ad) 1 cb) ∧ Star (rowE 1 (some ad) 1 (svs [s]) :: F) w' := by
  have := ccut_row t s ht (by omega) w hM hT
  rw [cuts_short t s h0 hs] at this
  exact this.mono fun _ _ ⟨B, cb, h1, h2⟩ => by
    obtain ⟨ad, h3, _⟩ := (h2.row List.mem_cons_self).2 (by simp)
    subst h3
    exact ⟨ad, cb, h1, h2⟩
theorem z31 : (List.replicate 31 (Value.int .u8 0)).toArray.toList = bvs (List.replicate 31 0) := by simp [bvs, bv]
set_option maxRecDepth 100000 in
set_option maxHeartbeats 1000000 in
theorem awake08 {F : List SProp} (w : World) (hM : Star F w) :
    Calls Try.prog 27 #[] w fun r w' => r = .returned (.bool true) ∧ Star F w' := by
  have HNW : ∀ {L : List SProp} (w : World), Star L w → Calls Try.prog 28 #[.string ⟨#[99, 97, 114, 97, 118, 97, 110]⟩] w fun r w' => ∃ g, r = .returned (.pointer (some ⟨g, 0, none⟩)) ∧ Star (tabE g (gTab carB) :: L) w' := fun w hM => gnew_star carB (by simp [carB]) w hM
  have hTl := gTab_len carB
  generalize gTab carB = T at HNW hTl
  have HC1 : Hid (∀ {L : List SProp} (g : Nat) (w : World), Star L w → tabE g T ∈ L → Calls Try.prog 32 #[.pointer (some ⟨g, 0, none⟩), .string ⟨#[0, 0, 0, 0, 0, 0, 0, 0, 0, 0, 0, 0, 0, 0, 0, 0, 0, 0, 0, 0, 0, 0, 0, 0, 0, 0, 0, 0, 0, 0, 0]⟩] w fun r w' => ∃ ad cb, r = .returned (.slice (some ad) 1 cb) ∧ Star (rowE 1 (some ad) 1 (svs [List.replicate 31 0]) :: L) w') := fun g w hM hT => cut_one T (List.replicate 31 0) hTl (by simp) (by simp) w hM hT
  have HC0 : Hid (∀ {L : List SProp} (g : Nat) (w : World), Star L w → tabE g T ∈ L → Calls Try.prog 32 #[.pointer (some ⟨g, 0, none⟩), .string ⟨#[]⟩] w fun r w' => ∃ B cb, r = .returned (.slice B 0 cb) ∧ Star (rowE 1 B 0 (svs []) :: L) w') := fun g w hM hT => ccut_row T [] hTl (by simp) w hM hT
  have HNW2 : Hid (∀ {L : List SProp} (w : World), Star L w → Calls Try.prog 28 #[.string ⟨#[99, 97, 114, 97, 118, 97, 110]⟩] w fun r w' => ∃ g, r = .returned (.pointer (some ⟨g, 0, none⟩)) ∧ Star (tabE g T :: L) w') := @HNW
  clear HNW
  go_enter Try.func27, Try.ntmps27
  go_wp2_with (first | (go_at_call 28; have hM0 := hM; clear hM; (first | (with_reducible refine (HNW2.out _ hM0).mono ?_) | fail); clear hM0; rintro _ w ⟨g, rfl, hM⟩) | (go_at_call 33; have hM0 := hM; clear hM; (first | (with_reducible refine (cnew_star g _ hM0).mono ?_) | fail); clear hM0; rintro _ w ⟨gc, gq, rfl, hM⟩) | (first | (have hM0 := hM; clear hM; refine BigFrame.wpList_want (by rfl) fun K hK => ws_make8 hM0 rfl 5 (.int .u8 0) 1 Try.underlying63 (by kernel_rfl) rfl (by decide) (n := 31) rfl rfl (by omega) (fun g5 w hM => hK _ _ ?_); clear hM0 hK K) | fail) | (first | (refine BigFrame.wpList_want (by rfl) fun K hK => ws_string (l := (List.replicate 31 0)) rfl 5 Try.underlying63 Try.underlying9 Try.underlying5 rfl (z31 ▸ Rd.of_blk (n := 31) (size := 1) (hM.blk (by (repeat (first | assumption | (with_reducible exact List.mem_cons_self) | apply List.mem_cons_of_mem)); first | done | fail)) (by simp)) (hK _ _ ?_); clear hK K) | fail) | (go_at_call 32; have hM0 := hM; clear hM; (first | (with_reducible refine (HC1.out g _ hM0 (by (repeat (first | assumption | (with_reducible exact List.mem_cons_self) | apply List.mem_cons_of_mem)); first | done | fail)).mono ?_) | fail); clear hM0; rintro _ w ⟨ad, cb, rfl, hM⟩) | (go_at_call 32; have hM0 := hM; clear hM; (first | (with_reducible refine (HC0.out g _ hM0 (by (repeat (first | assumption | (with_reducible exact List.mem_cons_self) | apply List.mem_cons_of_mem)); first | done | fail)).mono ?_) | fail); clear hM0; rintro _ w ⟨B, cb, rfl, hM⟩) | (refine BigFrame.wpList_want (by rfl) fun K hK => ws_rowload (k := 0) rfl (by go_simp; rfl) (hM.row (by (repeat (first | assumption | (with_reducible exact List.mem_cons_self) | apply List.mem_cons_of_mem)); first | done | fail)) (show (svs [List.replicate 31 (0 : UInt8)])[0]? = some (.string ⟨(List.replicate 31 (0 : UInt8)).toArray⟩) from rfl) (by kernel_rfl) (hK _ _ ?_); clear hK K))
  go_ret
  exact ⟨rfl, hM.sel (by repeat (first | (with_reducible exact Sel.refl) | (with_reducible exact Take.head) | (with_reducible apply Take.tail) | (with_reducible apply Sel.cons) | (with_reducible apply Sel.drop)))⟩
end Go.Proofs.Ythjceppddmecdaa
