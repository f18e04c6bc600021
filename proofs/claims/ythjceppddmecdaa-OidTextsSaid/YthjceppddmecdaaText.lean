/- A name's signs, plain: five bits each. No condition. -/
import Derived.Test.YthjceppddmecdaaBaleP
set_option linter.unusedSimpArgs false
set_option linter.unusedVariables false
namespace Go.Proofs.Ythjceppddmecdaa
def alpha : List UInt8 := [48, 49, 50, 51, 52, 53, 54, 55, 56, 57, 97, 98, 99, 100, 102, 103, 104, 105, 106, 107, 108, 109, 110, 112, 113, 114, 115, 118, 119, 120, 121, 122]
def alphaAt (n : Nat) : UInt8 := alpha.getD n 0
theorem alpha_get (n : Nat) (h : n < 32) : alpha[n]? = some (alphaAt n) := by
  unfold alphaAt
  rw [List.getD_eq_getElem?_getD, List.getElem?_eq_getElem (by simpa [alpha] using h)]
  rfl
/-- Sign i of a number of 256 bits. -/
def dig5 (V i : Nat) : Nat := V * 16 / 2 ^ (255 - 5 * i) % 32
theorem dig5_lt (V i : Nat) : dig5 V i < 32 := Nat.mod_lt _ (by decide)
def textOf (l : List UInt8) : List UInt8 := (List.range 52).map fun i => alphaAt (dig5 (numOf l) i)
theorem textOf_len (l : List UInt8) : (textOf l).length = 52 := by simp [textOf]
theorem textOf_at (l : List UInt8) (i : Nat) (h : i < 52) : (textOf l)[i]? = some (alphaAt (dig5 (numOf l) i)) := by simp [textOf, h]
theorem textOf_snoc (l : List UInt8) (i : Nat) (h : i < 52) : (textOf l).take (i + 1) = (textOf l).take i ++ [alphaAt (dig5 (numOf l) i)] := by
  rw [List.take_add_one, textOf_at l i h]; rfl
theorem numOf_app (a b : List UInt8) : numOf (a ++ b) = numOf a * 256 ^ b.length + numOf b := by
  induction b using snocInd with
  | h0 => simp [numOf]
  | h1 s c ih =>
    rw [← List.append_assoc, numOf_snoc, ih, numOf_snoc, List.length_append, List.length_singleton, Nat.pow_succ, Nat.add_mul, Nat.mul_assoc]
    omega
/-- The number of a beginning, cut at a sign's end, is the whole number cut there. -/
theorem dig5_part (l : List UInt8) (hl : l.length = 32) (k n i : Nat) (hk : k ≤ 32) (hn : n + 5 * (i + 1) = 8 * k) : dig5 (numOf l) i = numOf (l.take k) / 2 ^ n % 32 := by
  have h1 : numOf l = numOf (l.take k) * 256 ^ (32 - k) + numOf (l.drop k) := by
    conv => lhs; rw [← List.take_append_drop k l]
    rw [numOf_app, List.length_drop, hl]
  have h2 : numOf (l.drop k) < 256 ^ (32 - k) := by have := numOf_lt (l.drop k); rwa [List.length_drop, hl] at this
  have h3 : (2 : Nat) ^ (255 - 5 * i) = 256 ^ (32 - k) * 2 ^ n * 16 := by
    rw [show (256 : Nat) = 2 ^ 8 by decide, show (16 : Nat) = 2 ^ 4 by decide, ← Nat.pow_mul, ← Nat.pow_add, ← Nat.pow_add]
    congr 1; omega
  have h0 : 0 < 256 ^ (32 - k) := Nat.pow_pos (by decide)
  unfold dig5
  rw [h3, Nat.mul_div_mul_right _ _ (by decide), ← Nat.div_div_eq_div_mul, h1, Nat.mul_comm (numOf (l.take k)), Nat.mul_add_div h0, Nat.div_eq_of_lt h2, Nat.add_zero]
theorem mod_div (W m n : Nat) (h : n + 5 ≤ m) : W % 2 ^ m / 2 ^ n % 32 = W / 2 ^ n % 32 := by
  have e : (2 : Nat) ^ m = 2 ^ n * 2 ^ (m - n) := by rw [← Nat.pow_add]; congr 1; omega
  rw [e, Nat.mod_mul_right_div_self]
  exact Nat.mod_mod_of_dvd _ (by rw [show (32 : Nat) = 2 ^ 5 by decide]; exact Nat.pow_dvd_pow 2 (by omega))
theorem mod_mod_le (W m n : Nat) (h : n ≤ m) : W % 2 ^ m % 2 ^ n = W % 2 ^ n := Nat.mod_mod_of_dvd _ (Nat.pow_dvd_pow 2 h)
theorem mod_snoc (W m d : Nat) (hd : d < 256) : W % 2 ^ m * 256 + d = (W * 256 + d) % 2 ^ (m + 8) := by
  rw [show (2 : Nat) ^ (m + 8) = 256 * 2 ^ m by rw [Nat.pow_add, Nat.mul_comm], Nat.mod_mul, show (W * 256 + d) % 256 = d by omega, show (W * 256 + d) / 256 = W by omega]
  omega
/-- The last sign. -/
theorem dig5_last (V : Nat) : dig5 V 51 = V % 2 * 16 := by unfold dig5; omega
/-- Bit i of a number of 256 bits. -/
theorem dig5_bits (V i k : Nat) (hk : k < 5) (hi : i < 52) :
    V * 16 / 2 ^ (255 - 5 * i + 4 - k) % 2 ^ (k + 1) = 2 * (V * 16 / 2 ^ (255 - 5 * i + 5 - k) % 2 ^ k) + V * 16 / 2 ^ (255 - 5 * i + 4 - k) % 2 := by
  have e : (2 : Nat) ^ (255 - 5 * i + 5 - k) = 2 ^ (255 - 5 * i + 4 - k) * 2 := by rw [← Nat.pow_succ]; congr 1; omega
  rw [e, ← Nat.div_div_eq_div_mul]
  generalize V * 16 / 2 ^ (255 - 5 * i + 4 - k) = X
  rw [Nat.pow_succ, Nat.mul_comm (2 ^ k) 2, Nat.mod_mul]
  omega
end Go.Proofs.Ythjceppddmecdaa
