/- Laws of xor on names, plain. No condition but that lists have one length. -/
import Derived.Test.YthjceppddmecdaaOidR
set_option linter.unusedSimpArgs false
set_option linter.unusedVariables false
namespace Go.Proofs.Ythjceppddmecdaa
theorem names_eq {a b : List UInt8} (ha : a.length = 32) (hb : b.length = 32) : a = b ↔ numOf a = numOf b := ⟨fun h => h ▸ rfl, numOf_inj (by omega)⟩
theorem xor32 {a b : List UInt8} (ha : a.length = 32) (hb : b.length = 32) : (xorL a b).length = 32 := by rw [xorL_len a b (by omega), ha]
theorem xorL_comm {a b : List UInt8} (ha : a.length = 32) (hb : b.length = 32) : xorL b a = xorL a b :=
  (names_eq (xor32 hb ha) (xor32 ha hb)).2 (by rw [numOf_xor _ _ (by omega), numOf_xor _ _ (by omega), Nat.xor_comm])
theorem xorL_cancel {a b : List UInt8} (ha : a.length = 32) (hb : b.length = 32) : xorL (xorL a b) b = a :=
  (names_eq (xor32 (xor32 ha hb) hb) ha).2 (by rw [numOf_xor _ _ (by rw [xor32 ha hb, hb]), numOf_xor _ _ (by omega), Nat.xor_assoc, Nat.xor_self, Nat.xor_zero])
theorem xorL_through {a b c : List UInt8} (ha : a.length = 32) (hb : b.length = 32) (hc : c.length = 32) : xorL (xorL a c) (xorL c b) = xorL a b :=
  (names_eq (xor32 (xor32 ha hc) (xor32 hc hb)) (xor32 ha hb)).2 (by
    rw [numOf_xor _ _ (by rw [xor32 ha hc, xor32 hc hb]), numOf_xor _ _ (by omega), numOf_xor _ _ (by omega), numOf_xor _ _ (by omega), Nat.xor_assoc, ← Nat.xor_assoc (numOf c) (numOf c), Nat.xor_self, Nat.zero_xor])
theorem numOf_zeros (n : Nat) : numOf (List.replicate n 0) = 0 := by
  induction n with
  | zero => rfl
  | succ n ih => rw [List.replicate_succ, numOf_cons, ih]; simp
theorem z32_num : numOf z32 = 0 := by unfold z32; exact numOf_zeros 32
theorem xor_eq_zero {A B : Nat} : A ^^^ B = 0 ↔ A = B := by
  constructor
  · intro h
    have : A ^^^ B ^^^ B = 0 ^^^ B := by rw [h]
    rwa [Nat.xor_assoc, Nat.xor_self, Nat.xor_zero, Nat.zero_xor] at this
  · rintro rfl
    exact Nat.xor_self _
theorem xorL_zero {a b : List UInt8} (ha : a.length = 32) (hb : b.length = 32) : xorL a b = z32 ↔ a = b := by
  rw [names_eq (xor32 ha hb) z32_len, z32_num, numOf_xor _ _ (by omega), xor_eq_zero, names_eq ha hb]
theorem IsShared.tri {A B C s t u : Nat} (h1 : IsShared (A ^^^ B) s) (h2 : IsShared (A ^^^ C) t) (h3 : IsShared (C ^^^ B) u) : min t u ≤ s := by
  obtain ⟨_, _, k1⟩ := h1
  obtain ⟨_, k2, _⟩ := h2
  obtain ⟨_, k3, _⟩ := h3
  rcases Nat.lt_or_ge s (min t u) with h | h
  · exfalso
    rcases k1 with k1 | k1
    · omega
    · have e1 : A ^^^ C < 2 ^ (255 - s) := Nat.lt_of_lt_of_le k2 (Nat.pow_le_pow_right (by decide) (by omega))
      have e2 : C ^^^ B < 2 ^ (255 - s) := Nat.lt_of_lt_of_le k3 (Nat.pow_le_pow_right (by decide) (by omega))
      have e3 := Nat.xor_lt_two_pow e1 e2
      rw [Nat.xor_assoc, ← Nat.xor_assoc C C, Nat.xor_self, Nat.zero_xor] at e3
      omega
  · exact h
/-- Neither is nearer just if they are one. -/
theorem near_far {a b g : List UInt8} (ha : a.length = 32) (hb : b.length = 32) : (a = b) ↔ (¬ (numOf g ^^^ numOf a < numOf g ^^^ numOf b) ∧ ¬ (numOf g ^^^ numOf b < numOf g ^^^ numOf a)) := by
  rw [names_eq ha hb]
  constructor
  · intro h; rw [h]; omega
  · rintro ⟨h1, h2⟩
    have h3 : numOf g ^^^ numOf a = numOf g ^^^ numOf b := by omega
    have h4 : numOf g ^^^ (numOf g ^^^ numOf a) = numOf g ^^^ (numOf g ^^^ numOf b) := by rw [h3]
    rwa [← Nat.xor_assoc, ← Nat.xor_assoc, Nat.xor_self, Nat.zero_xor, Nat.zero_xor] at h4
end Go.Proofs.Ythjceppddmecdaa
