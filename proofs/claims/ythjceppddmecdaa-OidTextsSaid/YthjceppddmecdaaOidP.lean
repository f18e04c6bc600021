/- Names as numbers, plain: what they are apart, what they have in common. No condition but that lists have one length. -/
import Derived.Test.YthjceppddmecdaaRef2
import Derived.Lib.Bytealg
set_option linter.unusedSimpArgs false
set_option linter.unusedVariables false
namespace Go.Proofs.Ythjceppddmecdaa
theorem numOf_one (x : UInt8) : numOf [x] = x.toNat := by simp [numOf]
theorem numOf_cons (x : UInt8) (l : List UInt8) : numOf (x :: l) = x.toNat * 256 ^ l.length + numOf l := by
  have := numOf_app [x] l
  rwa [numOf_one] at this
theorem num_lt_of (x y p a b : Nat) (hx : a < p) (hy : b < p) (h : x < y) : x * p + a < y * p + b := by
  have : (x + 1) * p ≤ y * p := Nat.mul_le_mul_right _ h
  rw [Nat.add_mul] at this
  omega
theorem cmp_num : ∀ (a b : List UInt8), a.length = b.length → Lib.compareBytes a b = if numOf a < numOf b then -1 else if numOf a = numOf b then 0 else 1
  | [], [], _ => by simp [Lib.compareBytes, numOf]
  | x :: a, y :: b, h => by
    have hl : a.length = b.length := by simpa using h
    have ha := numOf_lt a
    have hb := numOf_lt b
    rw [← hl] at hb
    rw [numOf_cons, numOf_cons, ← hl]
    unfold Lib.compareBytes
    by_cases h1 : x < y
    · have h2 : x.toNat < y.toNat := h1
      have := num_lt_of x.toNat y.toNat _ _ _ ha hb h2
      rw [if_pos h1, if_pos this]
    · by_cases h3 : y < x
      · have h2 : y.toNat < x.toNat := h3
        have := num_lt_of y.toNat x.toNat _ _ _ hb ha h2
        rw [if_neg h1, if_pos h3, if_neg (by omega), if_neg (by omega)]
      · have hxy : x.toNat = y.toNat := by
          have h4 : ¬ x.toNat < y.toNat := h1
          have h5 : ¬ y.toNat < x.toNat := h3
          omega
        rw [if_neg h1, if_neg h3, cmp_num a b hl, hxy]
        simp only [Nat.add_lt_add_iff_left, Nat.add_right_inj, Nat.add_left_cancel_iff]
theorem less_num : ∀ (a b : List UInt8), a.length = b.length → Op.bytesLess a b = decide (numOf a < numOf b)
  | [], [], _ => by simp [Op.bytesLess]
  | x :: a, y :: b, h => by
    have hl : a.length = b.length := by simpa using h
    have ha := numOf_lt a
    have hb := numOf_lt b
    rw [← hl] at hb
    rw [numOf_cons, numOf_cons, ← hl]
    unfold Op.bytesLess
    rw [less_num a b hl]
    by_cases h1 : x < y
    · have := num_lt_of x.toNat y.toNat _ _ _ ha hb h1
      simp [h1, this]
    · by_cases h3 : x = y
      · subst h3
        simp [UInt8.lt_irrefl]
      · have h4 : ¬ x.toNat < y.toNat := h1
        have h5 : x.toNat ≠ y.toNat := fun e => h3 (UInt8.toNat_inj.1 e)
        have := num_lt_of y.toNat x.toNat _ _ _ hb ha (by omega)
        rw [decide_eq_false (p := x.toNat * 256 ^ a.length + numOf a < y.toNat * 256 ^ a.length + numOf b) (by omega)]
        simp [h1, h3]
theorem numOf_inj {a b : List UInt8} (hl : a.length = b.length) (h : numOf a = numOf b) : a = b := by
  induction a generalizing b with
  | nil => cases b with | nil => rfl | cons => cases hl
  | cons x a ih =>
    cases b with
    | nil => cases hl
    | cons y b =>
      have hl' : a.length = b.length := by simpa using hl
      have ha := numOf_lt a
      have hb := numOf_lt b
      rw [numOf_cons, numOf_cons, ← hl'] at h
      rw [← hl'] at hb
      have hxy : x.toNat = y.toNat := by
        rcases Nat.lt_trichotomy x.toNat y.toNat with h1 | h1 | h1
        · have := num_lt_of _ _ _ _ _ ha hb h1; omega
        · exact h1
        · have := num_lt_of _ _ _ _ _ hb ha h1; omega
      rw [hxy] at h
      rw [UInt8.toNat_inj.1 hxy, ih hl' (by omega)]
def xorL (a b : List UInt8) : List UInt8 := List.zipWith (· ^^^ ·) a b
theorem xorL_len (a b : List UInt8) (h : a.length = b.length) : (xorL a b).length = a.length := by simp [xorL, h]
theorem xorL_at {a b : List UInt8} {k : Nat} {x y : UInt8} (h1 : a[k]? = some x) (h2 : b[k]? = some y) : (xorL a b)[k]? = some (x ^^^ y) := by simp [xorL, List.getElem?_zipWith, h1, h2]
theorem pow256 (n : Nat) : 256 ^ n = 2 ^ (8 * n) := by rw [show (256 : Nat) = 2 ^ 8 by decide, ← Nat.pow_mul]
theorem numOf_xor : ∀ (a b : List UInt8), a.length = b.length → numOf (xorL a b) = numOf a ^^^ numOf b
  | [], [], _ => by simp [xorL, numOf]
  | x :: a, y :: b, h => by
    have hl : a.length = b.length := by simpa using h
    have ih := numOf_xor a b hl
    have ha := numOf_lt a
    have hb := numOf_lt b
    have hx := numOf_lt (xorL a b)
    rw [← hl] at hb
    rw [xorL_len a b hl] at hx
    show numOf ((x ^^^ y) :: xorL a b) = _
    rw [numOf_cons, numOf_cons, numOf_cons, xorL_len a b hl, ← hl, ih, UInt8.toNat_xor]
    rw [ih] at hx
    rw [pow256] at ha hb hx ⊢
    apply Nat.eq_of_testBit_eq
    intro j
    rw [Nat.testBit_xor, Nat.mul_comm _ (2 ^ _), Nat.mul_comm x.toNat, Nat.mul_comm y.toNat, Nat.testBit_two_pow_mul_add _ hx, Nat.testBit_two_pow_mul_add _ ha, Nat.testBit_two_pow_mul_add _ hb]
    split <;> simp [Nat.testBit_xor]
/-- x has just s zeros ahead, of 256 bits. -/
def IsShared (x s : Nat) : Prop := s ≤ 256 ∧ x < 2 ^ (256 - s) ∧ (s = 256 ∨ 2 ^ (255 - s) ≤ x)
theorem IsShared.unique {x s t : Nat} (h : IsShared x s) (k : IsShared x t) : s = t := by
  obtain ⟨h1, h2, h3⟩ := h
  obtain ⟨k1, k2, k3⟩ := k
  rcases Nat.lt_trichotomy s t with h | h | h
  · rcases h3 with h3 | h3
    · omega
    · have : 2 ^ (256 - t) ≤ 2 ^ (255 - s) := Nat.pow_le_pow_right (by decide) (by omega)
      omega
  · exact h
  · rcases k3 with k3 | k3
    · omega
    · have : 2 ^ (256 - s) ≤ 2 ^ (255 - t) := Nat.pow_le_pow_right (by decide) (by omega)
      omega
theorem IsShared.exists_ (x : Nat) (hx : x < 2 ^ 256) : ∃ s, IsShared x s := by
  by_cases h0 : x = 0
  · exact ⟨256, by omega, by subst h0; decide, .inl rfl⟩
  · have h1 := (Nat.log2_lt h0).2 hx
    have h2 : 2 ^ x.log2 ≤ x := Nat.log2_self_le h0
    have h3 : x < 2 ^ (x.log2 + 1) := Nat.lt_log2_self
    refine ⟨255 - x.log2, by omega, ?_, .inr ?_⟩
    · rwa [show 256 - (255 - x.log2) = x.log2 + 1 by omega]
    · rwa [show 255 - (255 - x.log2) = x.log2 by omega]
end Go.Proofs.Ythjceppddmecdaa
