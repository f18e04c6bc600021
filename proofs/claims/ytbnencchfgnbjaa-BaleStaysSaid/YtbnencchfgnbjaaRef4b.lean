/- The walks of the reference of layer 4, second half. No condition but lengths. -/
import Derived.Test.YtbnencchfgnbjaaRef4
set_option linter.unusedSimpArgs false
set_option linter.unusedVariables false
namespace Go.Proofs.Ytbnencchfgnbjaa
open Go.RowKit
attribute [local go_sem] extract_mid extract_drop bget bsize wrap64_u8 i64_u8 u64_u8 bappend
set_option maxRecDepth 100000 in
theorem rInt_err {l u : List UInt8} {e f top : Int} {n : Nat} (w : World) (hm : mNum l e = (n, u, f)) (hf : (f != 0) = true) :
    Calls Try.prog 60 #[.agg #[.string ⟨l.toArray⟩, .int .i64 e], .int .i64 top] w fun r w' => r = .returned (.tuple #[.agg #[.string ⟨u.toArray⟩, .int .i64 f], .int .i64 0]) ∧ Ch [] w w' := by
  have HM := Lib.hid hm
  clear hm
  go_enter Try.func60, Try.ntmps60
  go_wp2_with (first | (refine op_box rfl 50 (.tmp 0) rfl _ rfl ?_; intro g w1 hb1 hg hlt hC1; obtain ⟨c0, c1, f0, f1⟩ := hb1.two) | (refine op_alloc rfl 50 rfl _ info_rb ?_; intro g2 w2 hb2 hg2 hlt2 hC2; obtain ⟨c0, c1, f0, f1⟩ := (hb1.ch0 hC2).two; obtain ⟨k0, k1, m0, m1⟩ := hb2.two))
  have hC := hC1.trans hC2
  have hlg : g < g2 := Nat.lt_of_lt_of_le hb1.lt hg2
  replace hb1 := hb1.ch0 hC2
  have hg2 : w.heap.size ≤ g2 := by omega
  clear hC1 hC2 hlt hlt2 c0 c1 f0 f1 k0 k1 m0 m1
  refine (rTakeNum_any l e _).mono ?_
  rw [HM.out]
  rintro r w3 ⟨rfl, hC3⟩
  obtain ⟨c0, c1, f0, f1⟩ := (hb1.ch0 hC3).two
  obtain ⟨k0, k1, m0, m1⟩ := (hb2.ch0 hC3).two
  replace hC := hC.trans hC3
  go_wp2
  refine bodyPost_ret (v := .tuple #[.agg #[.string ⟨u.toArray⟩, .int .i64 f], .int .i64 0]) (by simp [results, Try.results60, go_sem, *]) rfl ⟨rfl, (by repeat (first | exact Ch.refl _ _ | assumption | apply Ch.alloc | apply Ch.drew | apply Ch.drewN | (apply Ch.setCell; rotate_left; first | (left; simp; done) | (right; simp; done) | (right; simp; omega))))⟩
set_option maxRecDepth 100000 in
theorem rInt_ok {l u : List UInt8} {e top : Int} {n : Nat} (w : World) (hm : mNum l e = (n, u, 0)) (ht : top ≤ 9223372036854775807) (hn : (n : Int) ≤ max top 0) :
    Calls Try.prog 60 #[.agg #[.string ⟨l.toArray⟩, .int .i64 e], .int .i64 top] w fun r w' => r = .returned (.tuple #[.agg #[.string ⟨u.toArray⟩, .int .i64 0], .int .i64 n]) ∧ Ch [] w w' := by
  have HM := Lib.hid hm
  have h1 : max top 0 ≤ 9223372036854775807 := by omega
  have h2 : 0 ≤ max top 0 := by omega
  clear hm
  go_enter Try.func60, Try.ntmps60
  go_wp2_with (first | (refine op_box rfl 50 (.tmp 0) rfl _ rfl ?_; intro g w1 hb1 hg hlt hC1; obtain ⟨c0, c1, f0, f1⟩ := hb1.two) | (refine op_alloc rfl 50 rfl _ info_rb ?_; intro g2 w2 hb2 hg2 hlt2 hC2; obtain ⟨c0, c1, f0, f1⟩ := (hb1.ch0 hC2).two; obtain ⟨k0, k1, m0, m1⟩ := hb2.two))
  have hC := hC1.trans hC2
  have hlg : g < g2 := Nat.lt_of_lt_of_le hb1.lt hg2
  replace hb1 := hb1.ch0 hC2
  have hg2 : w.heap.size ≤ g2 := by omega
  clear hC1 hC2 hlt hlt2 c0 c1 f0 f1 k0 k1 m0 m1
  refine (rTakeNum_any l e _).mono ?_
  rw [HM.out]
  rintro r w3 ⟨rfl, hC3⟩
  obtain ⟨c0, c1, f0, f1⟩ := (hb1.ch0 hC3).two
  obtain ⟨k0, k1, m0, m1⟩ := (hb2.ch0 hC3).two
  replace hC := hC.trans hC3
  go_wp2
  all_goals
    refine bodyPost_ret (v := .tuple #[.agg #[.string ⟨u.toArray⟩, .int .i64 0], .int .i64 n]) (by simp [results, Try.results60, go_sem, *]) rfl ⟨rfl, (by repeat (first | exact Ch.refl _ _ | assumption | apply Ch.alloc | apply Ch.drew | apply Ch.drewN | (apply Ch.setCell; rotate_left; first | (left; simp; done) | (right; simp; done) | (right; simp; omega))))⟩
set_option maxRecDepth 100000 in
theorem rInt_big {l u : List UInt8} {e top : Int} {n : Nat} (w : World) (hm : mNum l e = (n, u, 0)) (ht : top ≤ 9223372036854775807) (hn : max top 0 < (n : Int)) :
    Calls Try.prog 60 #[.agg #[.string ⟨l.toArray⟩, .int .i64 e], .int .i64 top] w fun r w' => r = .returned (.tuple #[.agg #[.string ⟨#[]⟩, .int .i64 5], .int .i64 0]) ∧ Ch [] w w' := by
  have HM := Lib.hid hm
  have h1 : max top 0 ≤ 9223372036854775807 := by omega
  have h2 : 0 ≤ max top 0 := by omega
  clear hm
  go_enter Try.func60, Try.ntmps60
  go_wp2_with (first | (refine op_box rfl 50 (.tmp 0) rfl _ rfl ?_; intro g w1 hb1 hg hlt hC1; obtain ⟨c0, c1, f0, f1⟩ := hb1.two) | (refine op_alloc rfl 50 rfl _ info_rb ?_; intro g2 w2 hb2 hg2 hlt2 hC2; obtain ⟨c0, c1, f0, f1⟩ := (hb1.ch0 hC2).two; obtain ⟨k0, k1, m0, m1⟩ := hb2.two))
  have hC := hC1.trans hC2
  have hlg : g < g2 := Nat.lt_of_lt_of_le hb1.lt hg2
  replace hb1 := hb1.ch0 hC2
  have hg2 : w.heap.size ≤ g2 := by omega
  clear hC1 hC2 hlt hlt2 c0 c1 f0 f1 k0 k1 m0 m1
  refine (rTakeNum_any l e _).mono ?_
  rw [HM.out]
  rintro r w3 ⟨rfl, hC3⟩
  obtain ⟨c0, c1, f0, f1⟩ := (hb1.ch0 hC3).two
  obtain ⟨k0, k1, m0, m1⟩ := (hb2.ch0 hC3).two
  replace hC := hC.trans hC3
  go_wp2
  all_goals
    refine bodyPost_ret (v := .tuple #[.agg #[.string ⟨#[]⟩, .int .i64 5], .int .i64 0]) (by simp [results, Try.results60, go_sem, *]) rfl ⟨rfl, (by repeat (first | exact Ch.refl _ _ | assumption | apply Ch.alloc | apply Ch.drew | apply Ch.drewN | (apply Ch.setCell; rotate_left; first | (left; simp; done) | (right; simp; done) | (right; simp; omega))))⟩
theorem rInt_any (l : List UInt8) (e top : Int) (ht : top ≤ 9223372036854775807) (w : World) :
    Calls Try.prog 60 #[.agg #[.string ⟨l.toArray⟩, .int .i64 e], .int .i64 top] w fun r w' => r = .returned (.tuple #[.agg #[.string ⟨(mInt l e top).2.1.toArray⟩, .int .i64 (mInt l e top).2.2], .int .i64 (mInt l e top).1]) ∧ Ch [] w w' := by
  obtain ⟨n, u, f, hm⟩ : ∃ n u f, mNum l e = (n, u, f) := ⟨_, _, _, rfl⟩
  unfold mInt
  rw [hm]
  simp only
  by_cases hf : f = 0
  · subst hf
    rw [if_pos rfl]
    by_cases hb : max top 0 < (n : Int)
    · rw [if_pos hb]; exact rInt_big w hm ht hb
    · rw [if_neg hb]; exact rInt_ok w hm ht (by omega)
  · rw [if_neg hf]
    exact rInt_err w hm (by simpa using hf)
set_option maxRecDepth 100000 in
theorem rTakeStr_any (l : List UInt8) (e top : Int) (ht : top ≤ 9223372036854775807) (w : World) :
    Calls Try.prog 61 #[.agg #[.string ⟨l.toArray⟩, .int .i64 e], .int .i64 top] w fun r w' => r = .returned (.tuple #[.agg #[.string ⟨(mStr l e top).2.1.toArray⟩, .int .i64 (mStr l e top).2.2], .string ⟨(mStr l e top).1.toArray⟩]) ∧ Ch [] w w' := by
  obtain ⟨n, u, f, hm⟩ : ∃ n u f, mInt l e top = (n, u, f) := ⟨_, _, _, rfl⟩
  obtain ⟨s, v, h, hs⟩ : ∃ s v h, mBytes u f n = (s, v, h) := ⟨_, _, _, rfl⟩
  have hp : mStr l e top = (s, v, h) := by unfold mStr; rw [hm]; exact hs
  rw [hp]
  have HM := Lib.hid hm
  have HS := Lib.hid hs
  clear hm hs hp
  go_enter Try.func61, Try.ntmps61
  go_wp2_with (first | (refine op_box rfl 50 (.tmp 0) rfl _ rfl ?_; intro g w1 hb1 hg hlt hC1; obtain ⟨c0, c1, f0, f1⟩ := hb1.two) | (refine op_alloc rfl 50 rfl _ info_rb ?_; intro g2 w2 hb2 hg2 hlt2 hC2; obtain ⟨c0, c1, f0, f1⟩ := (hb1.ch0 hC2).two; obtain ⟨k0, k1, m0, m1⟩ := hb2.two))
  have hC := hC1.trans hC2
  have hlg : g < g2 := Nat.lt_of_lt_of_le hb1.lt hg2
  replace hb1 := hb1.ch0 hC2
  have hg2 : w.heap.size ≤ g2 := by omega
  clear hC1 hC2 hlt hlt2 c0 c1 f0 f1 k0 k1 m0 m1
  refine (rInt_any l e top ht _).mono ?_
  rw [HM.out]
  rintro r w3 ⟨rfl, hC3⟩
  obtain ⟨c0, c1, f0, f1⟩ := (hb1.ch0 hC3).two
  obtain ⟨k0, k1, m0, m1⟩ := (hb2.ch0 hC3).two
  go_wp2_with fail
  refine (rBytes_any u f n _).mono ?_
  rw [HS.out]
  rintro r w4 ⟨rfl, hC4⟩
  have hB2 := ((hb2.ch0 hC3).far (p := ⟨g, 0, none⟩) (by simp; omega) (.string ⟨u.toArray⟩)).far (p := ⟨g, 1, none⟩) (by simp; omega) (.int .i64 f)
  replace hC : Ch [] w w4 := (((hC.trans hC3).setCell (p := ⟨g, 0, none⟩) (.inr hg) _).setCell (p := ⟨g, 1, none⟩) (.inr hg) _).trans hC4
  clear k0 k1 m0 m1
  obtain ⟨k0, k1, m0, m1⟩ := (hB2.ch0 hC4).two
  go_wp2
  refine bodyPost_ret (v := .tuple #[.agg #[.string ⟨v.toArray⟩, .int .i64 h], .string ⟨s.toArray⟩]) (by simp [results, Try.results61, go_sem, *]) rfl ⟨rfl, (by repeat (first | exact Ch.refl _ _ | assumption | apply Ch.alloc | apply Ch.drew | apply Ch.drewN | (apply Ch.setCell; rotate_left; first | (left; simp; done) | (right; simp; done) | (right; simp; omega))))⟩
end Go.Proofs.Ytbnencchfgnbjaa
