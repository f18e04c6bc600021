/- The walks of package bale's methods that take: each answers as the plain function of the same name. No condition but that the receiver is a bale. -/
import Derived.Test.YtbnencchfgnbjaaRows
import Derived.Test.YtbnencchfgnbjaaBase
import Derived.Test.YtbnencchfgnbjaaBaleP
import Derived.Test.YtbnencchfgnbjaaOps
import Derived.WalkKit
import Derived.WalkSpells
import Derived.WalkLawsBesides
import Derived.BigQuiet
import Derived.Deep.QuietTactic
set_option linter.unusedSimpArgs false
set_option linter.unusedVariables false
namespace Go.Proofs.Ytbnencchfgnbjaa
open Go.RowKit
attribute [local go_sem] extract_mid extract_drop bget bsize wrap64_u8 i64_u8 u64_u8

/-- Block b is a bale: what is left, the error. -/
def Bal (w : World) (b : Nat) (l : List UInt8) (e : Int) : Prop := Blk w b 84 #[.string ⟨l.toArray⟩, .int .i64 e]
theorem Bal.facts {w : World} {b : Nat} {l : List UInt8} {e : Int} (h : Bal w b l e) :
    w.cell? ⟨b, 0, none⟩ = some (.string ⟨l.toArray⟩) ∧ w.cell? ⟨b, 1, none⟩ = some (.int .i64 e) ∧ w.frozen? ⟨b, 0, none⟩ = false ∧ w.frozen? ⟨b, 1, none⟩ = false :=
  ⟨Blk.cell h 0, Blk.cell h 1, Blk.frozen h 0, Blk.frozen h 1⟩
theorem Bal.set0 {w : World} {b : Nat} {l : List UInt8} {e : Int} (h : Bal w b l e) (m : List UInt8) : Bal (w.setCell ⟨b, 0, none⟩ (.string ⟨m.toArray⟩)) b m e := Blk.set_ h 0 _
theorem Bal.set1 {w : World} {b : Nat} {l : List UInt8} {e : Int} (h : Bal w b l e) (n : Int) : Bal (w.setCell ⟨b, 1, none⟩ (.int .i64 n)) b l n := Blk.set_ h 1 _

theorem open_any (l : List UInt8) (w : World) :
    Calls Try.prog 16 #[.string ⟨l.toArray⟩] w fun r w' => r = .returned (.pointer (some ⟨w.heap.size, 0, none⟩)) ∧ Bal w' w.heap.size l 0 ∧ Ch [] w w' := by
  go_enter Try.func16, Try.ntmps16
  go_wp2
  go_ret
  exact ⟨rfl, Blk.new _ _ _, (Ch.refl _ _).alloc _⟩
theorem err_any {b : Nat} {l : List UInt8} {e : Int} {w : World} (h : Bal w b l e) :
    Calls Try.prog 19 #[.pointer (some ⟨b, 0, none⟩)] w fun r w' => r = .returned (.int .i64 e) ∧ w = w' := by
  obtain ⟨c0, c1, f0, f1⟩ := h.facts
  go_enter Try.func19, Try.ntmps19
  go_wp2
  go_ret
  exact ⟨rfl, rfl⟩
theorem left_any {b : Nat} {l : List UInt8} {e : Int} {w : World} (h : Bal w b l e) :
    Calls Try.prog 20 #[.pointer (some ⟨b, 0, none⟩)] w fun r w' => r = .returned (.string ⟨l.toArray⟩) ∧ w = w' := by
  obtain ⟨c0, c1, f0, f1⟩ := h.facts
  go_enter Try.func20, Try.ntmps20
  go_wp2
  go_ret
  exact ⟨rfl, rfl⟩
theorem fail_any {b : Nat} {l : List UInt8} {e : Int} {w : World} (h : Bal w b l e) (n : Int) :
    Calls Try.prog 30 #[.pointer (some ⟨b, 0, none⟩), .int .i64 n] w fun r w' => r = .returned (.tuple #[]) ∧ Bal w' b (mFail l e n).1 (mFail l e n).2 ∧ Ch [b] w w' := by
  obtain ⟨c0, c1, f0, f1⟩ := h.facts
  by_cases he : e = 0
  · subst he
    go_enter Try.func30, Try.ntmps30
    go_wp2
    go_end0
    exact ⟨rfl, (h.set1 n).set0 [], ((Ch.refl _ _).setCell (.inl (by simp)) _).setCell (.inl (by simp)) _⟩
  · have hb : (e == 0) = false := by simpa using he
    go_enter Try.func30, Try.ntmps30
    go_wp2
    go_end0
    exact ⟨rfl, by simp only [mFail, if_neg he]; exact h, Ch.refl _ _⟩
theorem close_any {b : Nat} {l : List UInt8} {e : Int} {w : World} (h : Bal w b l e) :
    Calls Try.prog 32 #[.pointer (some ⟨b, 0, none⟩)] w fun r w' => r = .returned (.int .i64 (mClose l e).2) ∧ Bal w' b (mClose l e).1 (mClose l e).2 ∧ Ch [b] w w' := by
  obtain ⟨c0, c1, f0, f1⟩ := h.facts
  by_cases hl : l = []
  · subst hl
    go_enter Try.func32, Try.ntmps32
    go_wp2
    go_ret
    exact ⟨rfl, h, Ch.refl _ _⟩
  · have hne : l.isEmpty = false := by simpa using hl
    go_enter Try.func32, Try.ntmps32
    go_wp2_with (go_at_call 30; refine (fail_any h 2).mono ?_; rintro r w' ⟨rfl, hB, hC⟩; obtain ⟨d0, d1, g0, g1⟩ := hB.facts)
    go_ret
    exact ⟨by simp [mClose, hl], by simpa [mClose, hl] using hB, hC⟩
theorem bytes_any {b : Nat} {l : List UInt8} {e : Int} {w : World} (h : Bal w b l e) (n : Int) :
    Calls Try.prog 29 #[.pointer (some ⟨b, 0, none⟩), .int .i64 n] w fun r w' =>
      r = .returned (.string ⟨(mBytes l e n).1.toArray⟩) ∧ Bal w' b (mBytes l e n).2.1 (mBytes l e n).2.2 ∧ Ch [b] w w' := by
  obtain ⟨c0, c1, f0, f1⟩ := h.facts
  by_cases h1 : 0 ≤ n ∧ n ≤ l.length
  · obtain ⟨h2, h3⟩ := h1
    obtain ⟨k, rfl⟩ := Int.eq_ofNat_of_zero_le h2
    have h4 : k ≤ l.length := by omega
    by_cases he : e = 0
    · subst he
      go_enter Try.func29, Try.ntmps29
      go_wp2
      go_ret
      have e1 : mBytes l 0 (k : Int) = (l.take k, l.drop k, 0) := by simp [mBytes, h4]
      rw [e1]
      exact ⟨rfl, h.set0 _, (Ch.refl _ _).setCell (.inl (by simp)) _⟩
    · have hb : (e != 0) = true := by simpa using he
      have e1 : mBytes l e (k : Int) = ([], l, e) := by simp [mBytes, he]
      rw [e1]
      go_enter Try.func29, Try.ntmps29
      go_wp2
      go_ret
      exact ⟨rfl, h, Ch.refl _ _⟩
  · have e2 : mBytes l e n = ([], (mFail l e 1).1, (mFail l e 1).2) := by
      unfold mBytes mFail
      by_cases he : e = 0
      · rw [if_pos he, if_neg h1, if_pos he]
      · rw [if_neg he, if_neg he]
    have e3 : ((mFail l e 1).2 != 0) = true := by
      unfold mFail
      by_cases he : e = 0
      · simp [he]
      · simp [he]
    rw [e2]
    by_cases h2 : n < 0
    · go_enter Try.func29, Try.ntmps29
      go_wp2_with (go_at_call 30; refine (fail_any h 1).mono ?_; rintro r w' ⟨rfl, hB, hC⟩; obtain ⟨d0, d1, g0, g1⟩ := hB.facts)
      go_ret
      exact ⟨rfl, hB, hC⟩
    · have h3 : (l.length : Int) < n := by omega
      go_enter Try.func29, Try.ntmps29
      go_wp2_with (go_at_call 30; refine (fail_any h 1).mono ?_; rintro r w' ⟨rfl, hB, hC⟩; obtain ⟨d0, d1, g0, g1⟩ := hB.facts)
      go_ret
      exact ⟨rfl, hB, hC⟩

/-- The method Num where the length byte is good: the bytes that follow are not empty and begin with no 0. -/
theorem pow_le8 (k : Nat) (h : k ≤ 7) : 256 ^ k ≤ 72057594037927936 := by
  have := Nat.pow_le_pow_right (n := 256) (by omega) h
  simpa using this
theorem bal_conv {w w' : World} {b : Nat} {l : List UInt8} {e : Int} (h : Bal w b l e) (hc : Ch [] w w') : Bal w' b l e := Blk.ch0 h hc
set_option maxRecDepth 100000 in
theorem num_ok {b : Nat} {h : UInt8} {t s u : List UInt8} {c : UInt8} {w : World} (hB : Bal w b (h :: t) 0) (h8 : h.toNat ≤ 8) (e2 : mBytes t 0 (h.toNat : Int) = (c :: s, u, 0)) (h0 : ((c.toNat : Int) == 0) = false) (hl : s.length + 1 ≤ 8) :
    Calls Try.prog 18 #[.pointer (some ⟨b, 0, none⟩)] w fun r w' => r = .returned (.int .u64 (numOf (c :: s))) ∧ Bal w' b u 0 ∧ Ch [b] w w' := by
  have e1 : mBytes (h :: t) 0 1 = ([h], t, 0) := by simp [mBytes]; omega
  have H2 := Lib.hid e2; clear e2
  go_enter Try.func18, Try.ntmps18
  go_wp2_with fail
  refine (bytes_any hB 1).mono ?_
  rw [e1]
  clear e1
  rintro r w1 ⟨rfl, hB1, hC1⟩
  obtain ⟨d0, d1, g0, g1⟩ := hB1.facts
  go_wp2_with fail
  refine (bytes_any hB1 (h.toNat : Int)).mono ?_
  rw [H2.out]
  rintro r w2 ⟨rfl, hB2, hC2⟩
  clear d0 d1 g0 g1
  obtain ⟨d0, d1, g0, g1⟩ := hB2.facts
  have hC := hC1.trans hC2
  clear hC1 hC2 hB hB1 H2
  go_wp2_with (refine op_bytes rfl 9 40 (.tmp 36) rfl 5 Try.underlying9 Try.underlying40 Try.underlying5 (c :: s) rfl ?_; intro g cc w3 hR hg hlt hC3; obtain ⟨d0, d1, g0, g1⟩ := (bal_conv hB2 hC3).facts)
  go_loop [6, 39] (fun v i => ∃ k : Nat, k ≤ (c :: s).length ∧ i = .int .i64 k ∧ v = .int .u64 (numOf ((c :: s).take k) : Nat)) (fun _ i => (c :: s).length - (intOf i).toNat)
  case atStart => exact ⟨0, Nat.zero_le _, rfl, rfl⟩
  case round =>
    obtain ⟨k, hk, rfl, rfl⟩ := hrel
    by_cases hlt : k < (c :: s).length
    · obtain ⟨d, hd, _, ht⟩ := hR.byte0 hlt
      have hn1 := numOf_lt ((c :: s).take k)
      have hn2 := pow_le8 ((c :: s).take k).length (by simp at hlt ⊢; omega)
      have hor := or_low (numOf ((c :: s).take k)) d (by omega)
      have HT := Lib.hid ht
      have HO := Lib.hid hor
      clear ht hor hn1 hn2
      simp only [List.length_cons] at hlt
      go_wp2
      go_round
      case rel => exact ⟨k + 1, by simp; omega, by go_num, by rw [HT.out, numOf_snoc, HO.out]⟩
      case measure => simp [intOf]; omega
    · have hge : s.length + 1 ≤ k := by simp at hlt; omega
      go_wp2
      go_ret
      exact ⟨ret_int (by rw [List.take_of_length_le (by simp; omega)]), bal_conv hB2 hC3, hC.then_ hC3⟩
set_option maxRecDepth 100000 in
theorem num_lead0 {b : Nat} {h : UInt8} {t s u : List UInt8} {w : World} (hB : Bal w b (h :: t) 0) (h8 : h.toNat ≤ 8) (e2 : mBytes t 0 (h.toNat : Int) = (0 :: s, u, 0)) (hl : s.length + 1 ≤ 8) :
    Calls Try.prog 18 #[.pointer (some ⟨b, 0, none⟩)] w fun r w' => r = .returned (.int .u64 0) ∧ Bal w' b [] 2 ∧ Ch [b] w w' := by
  have e1 : mBytes (h :: t) 0 1 = ([h], t, 0) := by simp [mBytes]; omega
  have H2 := Lib.hid e2; clear e2
  go_enter Try.func18, Try.ntmps18
  go_wp2_with fail
  refine (bytes_any hB 1).mono ?_
  rw [e1]
  clear e1
  rintro r w1 ⟨rfl, hB1, hC1⟩
  obtain ⟨d0, d1, g0, g1⟩ := hB1.facts
  go_wp2_with fail
  refine (bytes_any hB1 (h.toNat : Int)).mono ?_
  rw [H2.out]
  rintro r w2 ⟨rfl, hB2, hC2⟩
  clear d0 d1 g0 g1
  obtain ⟨d0, d1, g0, g1⟩ := hB2.facts
  have hC := hC1.trans hC2
  clear hC1 hC2 hB hB1 H2
  go_wp2_with fail
  refine (fail_any hB2 2).mono ?_
  rintro r w4 ⟨rfl, hB4, hC4⟩
  have hC := hC.trans hC4
  clear d0 d1 g0 g1
  have hB4 : Bal w4 b [] 2 := hB4
  obtain ⟨d0, d1, g0, g1⟩ := hB4.facts
  clear hB2 hC4
  go_wp2_with (refine op_bytes rfl 9 40 (.tmp 36) rfl 5 Try.underlying9 Try.underlying40 Try.underlying5 (0 :: s) rfl ?_; intro g cc w3 hR hg hlt hC3; obtain ⟨d0, d1, g0, g1⟩ := (bal_conv hB4 hC3).facts)
  go_loop [6, 39] (fun v i => ∃ k : Nat, k ≤ (0 :: s).length ∧ i = .int .i64 k ∧ v = .int .u64 (numOf ((0 :: s).take k) : Nat)) (fun _ i => (0 :: s).length - (intOf i).toNat)
  case atStart => exact ⟨0, Nat.zero_le _, rfl, rfl⟩
  case round =>
    obtain ⟨k, hk, rfl, rfl⟩ := hrel
    by_cases hlt : k < (0 :: s).length
    · obtain ⟨d, hd, _, ht⟩ := hR.byte0 hlt
      have hn1 := numOf_lt ((0 :: s).take k)
      have hn2 := pow_le8 ((0 :: s).take k).length (by simp at hlt ⊢; omega)
      have hor := or_low (numOf ((0 :: s).take k)) d (by omega)
      have HT := Lib.hid ht
      have HO := Lib.hid hor
      clear ht hor hn1 hn2
      simp only [List.length_cons] at hlt
      go_wp2
      go_round
      case rel => exact ⟨k + 1, by simp; omega, by go_num, by rw [HT.out, numOf_snoc, HO.out]⟩
      case measure => simp [intOf]; omega
    · have hge : s.length + 1 ≤ k := by simp at hlt; omega
      go_wp2
      go_ret
      exact ⟨rfl, bal_conv hB4 hC3, hC.then_ hC3⟩
set_option maxRecDepth 100000 in
theorem num_empty {b : Nat} {h : UInt8} {t u : List UInt8} {e : Int} {w : World} (hB : Bal w b (h :: t) 0) (h8 : h.toNat ≤ 8) (e2 : mBytes t 0 (h.toNat : Int) = ([], u, e)) (he : (e != 0) = false ∨ (e != 0) = true) :
    Calls Try.prog 18 #[.pointer (some ⟨b, 0, none⟩)] w fun r w' => r = .returned (.int .u64 0) ∧ Bal w' b u e ∧ Ch [b] w w' := by
  have e1 : mBytes (h :: t) 0 1 = ([h], t, 0) := by simp [mBytes]; omega
  have H2 := Lib.hid e2; clear e2
  rcases he with he | he
  all_goals
    go_enter Try.func18, Try.ntmps18
    go_wp2_with fail
    refine (bytes_any hB 1).mono ?_
    rw [e1]
    clear e1
    rintro r w1 ⟨rfl, hB1, hC1⟩
    obtain ⟨d0, d1, g0, g1⟩ := hB1.facts
    go_wp2_with fail
    refine (bytes_any hB1 (h.toNat : Int)).mono ?_
    rw [H2.out]
    rintro r w2 ⟨rfl, hB2, hC2⟩
    clear d0 d1 g0 g1
    obtain ⟨d0, d1, g0, g1⟩ := hB2.facts
    have hC := hC1.trans hC2
    clear hC1 hC2 hB hB1 H2
    go_wp2_with (refine op_bytes rfl 9 40 (.tmp 36) rfl 5 Try.underlying9 Try.underlying40 Try.underlying5 [] rfl ?_; intro g cc w3 hR hg hlt hC3; obtain ⟨d0, d1, g0, g1⟩ := (bal_conv hB2 hC3).facts)
    refine wp_loop_rounds 1 ?_
    rw [rounds_succ]
    go_wp2
    go_ret
    exact ⟨rfl, bal_conv hB2 hC3, hC.then_ hC3⟩
set_option maxRecDepth 100000 in
theorem num_high {b : Nat} {h : UInt8} {t : List UInt8} {w : World} (hB : Bal w b (h :: t) 0) (h8 : 8 < h.toNat) :
    Calls Try.prog 18 #[.pointer (some ⟨b, 0, none⟩)] w fun r w' => r = .returned (.int .u64 0) ∧ Bal w' b [] 2 ∧ Ch [b] w w' := by
  have e1 : mBytes (h :: t) 0 1 = ([h], t, 0) := by simp [mBytes]; omega
  go_enter Try.func18, Try.ntmps18
  go_wp2_with fail
  refine (bytes_any hB 1).mono ?_
  rw [e1]
  clear e1
  rintro r w1 ⟨rfl, hB1, hC1⟩
  obtain ⟨d0, d1, g0, g1⟩ := hB1.facts
  go_wp2_with fail
  refine (fail_any hB1 2).mono ?_
  rintro r w2 ⟨rfl, hB2, hC2⟩
  have hB2 : Bal w2 b [] 2 := hB2
  clear d0 d1 g0 g1
  obtain ⟨d0, d1, g0, g1⟩ := hB2.facts
  have hC := hC1.trans hC2
  clear hC1 hC2 hB hB1
  go_wp2_with fail
  refine (bytes_any hB2 8).mono ?_
  rintro r w4 ⟨rfl, hB4, hC4⟩
  have hB4 : Bal w4 b [] 2 := hB4
  clear d0 d1 g0 g1
  obtain ⟨d0, d1, g0, g1⟩ := hB4.facts
  have e3 : (mBytes [] 2 8).1 = [] := rfl
  have hC := hC.trans hC4
  clear hC4 hB2
  go_wp2_with (refine op_bytes rfl 9 40 (.tmp 36) rfl 5 Try.underlying9 Try.underlying40 Try.underlying5 [] rfl ?_; intro g cc w3 hR hg hlt hC3; obtain ⟨d0, d1, g0, g1⟩ := (bal_conv hB4 hC3).facts)
  refine wp_loop_rounds 1 ?_
  rw [rounds_succ]
  go_wp2
  go_ret
  exact ⟨rfl, bal_conv hB4 hC3, hC.then_ hC3⟩
set_option maxRecDepth 100000 in
theorem num_nothing {b : Nat} {l : List UInt8} {e n : Int} {v : List UInt8} {w : World} (hB : Bal w b l e) (e1 : mBytes l e 1 = ([], v, n)) (hn : (n != 0) = true) :
    Calls Try.prog 18 #[.pointer (some ⟨b, 0, none⟩)] w fun r w' => r = .returned (.int .u64 0) ∧ Bal w' b v n ∧ Ch [b] w w' := by
  have H1 := Lib.hid e1
  clear e1
  go_enter Try.func18, Try.ntmps18
  go_wp2_with fail
  refine (bytes_any hB 1).mono ?_
  rw [H1.out]
  rintro r w1 ⟨rfl, hB1, hC1⟩
  obtain ⟨d0, d1, g0, g1⟩ := hB1.facts
  go_wp2
  go_ret
  exact ⟨rfl, hB1, hC1⟩
theorem num_any {b : Nat} {l : List UInt8} {e : Int} {w : World} (hB : Bal w b l e) :
    Calls Try.prog 18 #[.pointer (some ⟨b, 0, none⟩)] w fun r w' => r = .returned (.int .u64 (mNum l e).1) ∧ Bal w' b (mNum l e).2.1 (mNum l e).2.2 ∧ Ch [b] w w' := by
  unfold mNum
  by_cases he : e = 0
  · subst he
    rw [if_pos rfl]
    cases l with
    | nil => exact num_nothing hB rfl rfl
    | cons h t =>
      simp only
      by_cases h8 : 8 < h.toNat
      · rw [if_pos h8]; exact num_high hB h8
      · rw [if_neg h8]
        by_cases ht : t.length < h.toNat
        · rw [if_pos ht]
          exact num_empty (u := []) (e := 1) hB (by omega) (by simp [mBytes]; omega) (.inr rfl)
        · rw [if_neg ht]
          have e2 : mBytes t 0 (h.toNat : Int) = (t.take h.toNat, t.drop h.toNat, 0) := by simp [mBytes]; omega
          have hl : (t.take h.toNat).length ≤ 8 := by simp; omega
          cases hs : t.take h.toNat with
          | nil =>
            rw [hs] at e2
            simp only [List.head?_nil, reduceCtorEq, if_false]
            exact num_empty hB (by omega) e2 (.inl rfl)
          | cons c s =>
            rw [hs] at e2 hl
            simp only [List.head?_cons, Option.some.injEq]
            by_cases hc : c = 0
            · subst hc
              rw [if_pos rfl]
              exact num_lead0 hB (by omega) e2 (by simpa using hl)
            · rw [if_neg hc]
              refine num_ok hB (by omega) e2 ?_ (by simpa using hl)
              simp only [beq_eq_false_iff_ne, ne_eq]
              intro h0
              exact hc (UInt8.toNat_inj.1 (by simpa using h0))
  · rw [if_neg he]
    exact num_nothing hB (by simp [mBytes, he]) (by simpa using he)
end Go.Proofs.Ytbnencchfgnbjaa
