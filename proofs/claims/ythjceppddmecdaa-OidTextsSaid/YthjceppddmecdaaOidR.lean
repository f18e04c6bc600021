/- The walks of the reference's Shared and Closer. No condition but that names have 32 bytes. -/
import Derived.Test.YthjceppddmecdaaOidC
set_option linter.unusedSimpArgs false
set_option linter.unusedVariables false
namespace Go.Proofs.Ythjceppddmecdaa
open Go.RowKit
attribute [local go_sem] extract_mid extract_drop bget bsize wrap64_u8 i64_u8 u64_u8 bappend
theorem bit_test (A m : Nat) : A.testBit m = decide (A / 2 ^ m % 2 = 1) := Nat.testBit_eq_decide_div_mod_eq
theorem bit_xor_eq {A B m : Nat} (h : A / 2 ^ m % 2 = B / 2 ^ m % 2) : (A ^^^ B) / 2 ^ m % 2 = 0 := by
  have h1 : (A ^^^ B).testBit m = false := by rw [Nat.testBit_xor, bit_test, bit_test, h]; simp
  rw [bit_test] at h1
  have := of_decide_eq_false h1
  omega
theorem bit_xor_ne {A B m : Nat} (h : A / 2 ^ m % 2 ≠ B / 2 ^ m % 2) : (A ^^^ B) / 2 ^ m % 2 = 1 := by
  have h1 : (A ^^^ B).testBit m = true := by
    rw [Nat.testBit_xor, bit_test, bit_test]
    rcases Nat.mod_two_eq_zero_or_one (A / 2 ^ m) with ha | ha <;> rcases Nat.mod_two_eq_zero_or_one (B / 2 ^ m) with hb | hb <;> rw [ha, hb] at h ⊢ <;> first | exact absurd rfl h | rfl
  rw [bit_test] at h1
  exact of_decide_eq_true h1
theorem shared_bit_eq {x k : Nat} (hk : k < 256) (h1 : x < 2 ^ (256 - k)) (h2 : x / 2 ^ (255 - k) % 2 = 0) : x < 2 ^ (256 - (k + 1)) := by
  rw [show 256 - k = (255 - k) + 1 by omega, Nat.pow_succ] at h1
  rw [show 256 - (k + 1) = 255 - k by omega]
  have h3 : x / 2 ^ (255 - k) < 2 := (Nat.div_lt_iff_lt_mul (Nat.pow_pos (by decide))).2 (by rw [Nat.mul_comm]; exact h1)
  have h4 : x / 2 ^ (255 - k) = 0 := by
    generalize x / 2 ^ (255 - k) = q at h2 h3
    omega
  rcases Nat.div_eq_zero_iff.1 h4 with h5 | h5
  · have := Nat.pow_pos (n := 255 - k) (show 0 < 2 by decide); omega
  · exact h5
theorem shared_bit_ne {x k : Nat} (hk : k < 256) (h1 : x < 2 ^ (256 - k)) (h2 : x / 2 ^ (255 - k) % 2 = 1) : IsShared x k := by
  refine ⟨by omega, h1, .inr ?_⟩
  rcases Nat.lt_or_ge x (2 ^ (255 - k)) with h3 | h3
  · rw [Nat.div_eq_of_lt h3] at h2; cases h2
  · exact h3
theorem lt_of_bit {x y p : Nat} (hx : x.testBit p = false) (hy : y.testBit p = true) (h : ∀ j, p < j → x.testBit j = y.testBit j) : x < y := by
  rw [bit_test] at hx hy
  have hx := of_decide_eq_false hx
  have hy := of_decide_eq_true hy
  have he : x / 2 ^ p / 2 = y / 2 ^ p / 2 := by
    rw [Nat.div_div_eq_div_mul, Nat.div_div_eq_div_mul, ← Nat.pow_succ]
    apply Nat.eq_of_testBit_eq
    intro j
    rw [Nat.testBit_div_two_pow, Nat.testBit_div_two_pow]
    exact h _ (by omega)
  have h0 : 0 < 2 ^ p := Nat.pow_pos (by decide)
  have hlt : x / 2 ^ p < y / 2 ^ p := by
    generalize x / 2 ^ p = X at hx he ⊢
    generalize y / 2 ^ p = Y at hy he ⊢
    omega
  exact Nat.lt_of_not_le fun hle => absurd (Nat.div_le_div_right (c := 2 ^ p) hle) (Nat.not_le.2 hlt)
/-- Which of two is nearer: the first bit in which they are unlike says so. -/
theorem closer_bits {G A B s : Nat} (hs : IsShared (A ^^^ B) s) : (G ^^^ A < G ^^^ B) ↔ (s < 256 ∧ G / 2 ^ (255 - s) % 2 = A / 2 ^ (255 - s) % 2) := by
  obtain ⟨h1, h2, h3⟩ := hs
  rcases h3 with rfl | h3
  · have h0 : A ^^^ B = 0 := by simpa using h2
    have : A = B := Nat.eq_of_testBit_eq fun j => by
      have h4 : (A ^^^ B).testBit j = false := by rw [h0]; exact Nat.zero_testBit j
      rw [Nat.testBit_xor] at h4
      simpa using h4
    subst this
    simp
  · by_cases hs : s < 256
    · obtain ⟨p, hp⟩ : ∃ p, p = 255 - s := ⟨_, rfl⟩
      rw [show 256 - s = p + 1 by omega] at h2
      rw [← hp] at h3 ⊢
      have hhi : ∀ j, p < j → A.testBit j = B.testBit j := fun j hj => by
        have h4 : (A ^^^ B).testBit j = false := Nat.testBit_lt_two_pow (Nat.lt_of_lt_of_le h2 (Nat.pow_le_pow_right (by decide) hj))
        rw [Nat.testBit_xor] at h4
        simpa using h4
      have hat : A.testBit p ≠ B.testBit p := fun h => by
        have h4 : (A ^^^ B).testBit p = false := by rw [Nat.testBit_xor, h]; simp
        have h5 : A ^^^ B < 2 ^ p := by
          apply Nat.lt_pow_two_of_testBit
          intro j hj
          rcases Nat.lt_or_ge p j with hj2 | hj2
          · rw [Nat.testBit_xor, hhi j hj2]; simp
          · rw [show j = p by omega]; exact h4
        omega
      have hbit : (G / 2 ^ p % 2 = A / 2 ^ p % 2) ↔ G.testBit p = A.testBit p := by
        rw [bit_test, bit_test]
        rcases Nat.mod_two_eq_zero_or_one (G / 2 ^ p) with ha | ha <;> rcases Nat.mod_two_eq_zero_or_one (A / 2 ^ p) with hb | hb <;> rw [ha, hb] <;> simp
      rw [hbit]
      have hup : ∀ j, p < j → (G ^^^ A).testBit j = (G ^^^ B).testBit j := fun j hj => by rw [Nat.testBit_xor, Nat.testBit_xor, hhi j hj]
      by_cases hg : G.testBit p = A.testBit p
      · have : G ^^^ A < G ^^^ B := lt_of_bit (by rw [Nat.testBit_xor, hg]; simp) (by rw [Nat.testBit_xor, hg]; cases ha : A.testBit p <;> cases hb : B.testBit p <;> simp_all) hup
        simp [this, hs, hg]
      · have : G ^^^ B < G ^^^ A := lt_of_bit (by rw [Nat.testBit_xor]; cases hg2 : G.testBit p <;> cases ha : A.testBit p <;> cases hb : B.testBit p <;> simp_all) (by rw [Nat.testBit_xor]; cases hg2 : G.testBit p <;> cases ha : A.testBit p <;> simp_all) fun j hj => (hup j hj).symm
        simp only [hg, and_false, iff_false]
        omega
    · have hs2 : s = 256 := by omega
      subst hs2
      have h0 : A ^^^ B = 0 := by simpa using h2
      rw [h0] at h3
      simp at h3
set_option maxRecDepth 100000 in
set_option maxHeartbeats 2000000 in
theorem rShared_star {F : List SProp} (a b : List UInt8) (ha : a.length = 32) (hb : b.length = 32) (s : Nat) (hs : IsShared (numOf a ^^^ numOf b) s) (w : World) (hM : Star F w) :
    Calls Try.prog 19 #[.string ⟨a.toArray⟩, .string ⟨b.toArray⟩] w fun r w' => r = .returned (.int .i64 s) ∧ Star F w' := by
  have HS := Lib.hid hs
  clear hs
  go_enter Try.func19, Try.ntmps19
  go_wp2
  go_loopw [5] (fun i wr => ∃ k : Nat, k ≤ 256 ∧ i = .int .i64 k ∧ Hid (numOf a ^^^ numOf b < 2 ^ (256 - k)) ∧ Star F wr) (fun i _ => 256 - (intOf i).toNat)
  case atStart => exact ⟨0, by omega, rfl, by
    show _ < _
    have h1 := numOf_lt a
    have h2 := numOf_lt b
    rw [ha, pow256] at h1
    rw [hb, pow256] at h2
    exact Nat.xor_lt_two_pow h1 h2, hM⟩
  case round =>
    clear hM
    obtain ⟨k, hk, rfl, hx, hM⟩ := hrel
    by_cases hlt : k < 256
    · have hltI : (k : Int) < 256 := by omega
      have HA : ∀ {L : List SProp} (w : World), Star L w → Calls Try.prog 43 #[.string ⟨a.toArray⟩, .int .i64 k] w fun r w' => r = .returned (.int .i64 (bitOf a k)) ∧ Star L w' := fun w hM => rBit_star a ha k hlt w hM
      have HB : ∀ {L : List SProp} (w : World), Star L w → Calls Try.prog 43 #[.string ⟨b.toArray⟩, .int .i64 k] w fun r w' => r = .returned (.int .i64 (bitOf b k)) ∧ Star L w' := fun w hM => rBit_star b hb k hlt w hM
      by_cases huv : bitOf a k = bitOf b k
      · have HN := Lib.hid (shared_bit_eq hlt hx.out (bit_xor_eq huv))
        rw [← huv] at HB
        clear huv
        go_wp2_with (first | (go_at_call 43; have hM0 := hM; clear hM; (first | (with_reducible refine (HA _ hM0).mono ?_) | fail); clear hM0; rintro _ w ⟨rfl, hM⟩) | (go_at_call 43; have hM0 := hM; clear hM; (first | (with_reducible refine (HB _ hM0).mono ?_) | fail); clear hM0; rintro _ w ⟨rfl, hM⟩))
        go_roundw
        case rel => exact ⟨k + 1, by omega, by go_num, HN.out, hM⟩
        case measure => simp [intOf]; omega
      · have hks := (shared_bit_ne hlt hx.out (bit_xor_ne huv)).unique HS.out
        have HK := Lib.hid hks
        have hne : ((bitOf a k : Int) != (bitOf b k : Int)) = true := by simp; omega
        have hne2 : ((bitOf a k : Int) == (bitOf b k : Int)) = false := by simp; omega
        clear hks huv
        go_wp2_with (first | (go_at_call 43; have hM0 := hM; clear hM; (first | (with_reducible refine (HA _ hM0).mono ?_) | fail); clear hM0; rintro _ w ⟨rfl, hM⟩) | (go_at_call 43; have hM0 := hM; clear hM; (first | (with_reducible refine (HB _ hM0).mono ?_) | fail); clear hM0; rintro _ w ⟨rfl, hM⟩))
        go_ret
        exact ⟨ret_int (by rw [HK.out]), hM⟩
    · obtain rfl : k = 256 := by omega
      have h0 : numOf a ^^^ numOf b = 0 := by have := hx.out; simpa using this
      have h256 : s = 256 := by have := HS.out; rw [h0] at this; exact this.unique shared_none
      have H2 := Lib.hid h256
      clear h0 h256
      go_wp2
      go_ret
      exact ⟨ret_int (by rw [H2.out]; rfl), hM⟩
set_option maxRecDepth 100000 in
theorem rCloser_star {F : List SProp} (g a b : List UInt8) (hg : g.length = 32) (ha : a.length = 32) (hb : b.length = 32) (w : World) (hM : Star F w) :
    Calls Try.prog 21 #[.string ⟨g.toArray⟩, .string ⟨a.toArray⟩, .string ⟨b.toArray⟩] w fun r w' => r = .returned (.bool (decide (numOf g ^^^ numOf a < numOf g ^^^ numOf b))) ∧ Star F w' := by
  obtain ⟨s, hs⟩ := IsShared.exists_ (numOf a ^^^ numOf b) (by
    have h1 := numOf_lt a
    have h2 := numOf_lt b
    rw [ha, pow256] at h1
    rw [hb, pow256] at h2
    exact Nat.xor_lt_two_pow h1 h2)
  have hs256 := hs.1
  have hcb := closer_bits (G := numOf g) hs
  have HSH : ∀ {L : List SProp} (w : World), Star L w → Calls Try.prog 19 #[.string ⟨a.toArray⟩, .string ⟨b.toArray⟩] w fun r w' => r = .returned (.int .i64 s) ∧ Star L w' := fun w hM => rShared_star a b ha hb s hs w hM
  have HC : Hid (decide (numOf g ^^^ numOf a < numOf g ^^^ numOf b) = decide (s < 256 ∧ bitOf g s = bitOf a s)) := by show _ = _; exact decide_eq_decide.2 hcb
  rw [HC.out]
  clear hcb hs
  by_cases hlt : s < 256
  · have HG : ∀ {L : List SProp} (w : World), Star L w → Calls Try.prog 43 #[.string ⟨g.toArray⟩, .int .i64 s] w fun r w' => r = .returned (.int .i64 (bitOf g s)) ∧ Star L w' := fun w hM => rBit_star g hg s hlt w hM
    have HA : ∀ {L : List SProp} (w : World), Star L w → Calls Try.prog 43 #[.string ⟨a.toArray⟩, .int .i64 s] w fun r w' => r = .returned (.int .i64 (bitOf a s)) ∧ Star L w' := fun w hM => rBit_star a ha s hlt w hM
    have hltI : (s : Int) < 256 := by omega
    have HD : Hid (decide (s < 256 ∧ bitOf g s = bitOf a s) = ((bitOf g s : Int) == (bitOf a s : Int))) := by show _ = _; rw [Bool.eq_iff_iff]; simp [hlt]; omega
    rw [HD.out]
    go_enter Try.func21, Try.ntmps21
    go_wp2_with (first | (go_at_call 19; have hM0 := hM; clear hM; (first | (with_reducible refine (HSH _ hM0).mono ?_) | fail); clear hM0; rintro _ w ⟨rfl, hM⟩) | (go_at_call 43; have hM0 := hM; clear hM; (first | (with_reducible refine (HG _ hM0).mono ?_) | fail); clear hM0; rintro _ w ⟨rfl, hM⟩) | (go_at_call 43; have hM0 := hM; clear hM; (first | (with_reducible refine (HA _ hM0).mono ?_) | fail); clear hM0; rintro _ w ⟨rfl, hM⟩))
    go_ret
    exact ⟨ret_bool (by first | rfl | (rw [Bool.eq_iff_iff]; simp)), hM⟩
  · have hltI : ¬ (s : Int) < 256 := by omega
    rw [decide_eq_false (p := s < 256 ∧ bitOf g s = bitOf a s) (fun h => hlt h.1)]
    go_enter Try.func21, Try.ntmps21
    go_wp2_with (first | (go_at_call 19; have hM0 := hM; clear hM; (first | (with_reducible refine (HSH _ hM0).mono ?_) | fail); clear hM0; rintro _ w ⟨rfl, hM⟩))
    go_ret
    exact ⟨rfl, hM⟩
end Go.Proofs.Ythjceppddmecdaa
