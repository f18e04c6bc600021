/- A name's signs read back, plain. No condition but those that each theorem names. -/
import Derived.Test.YthjceppddmecdaaText
import Derived.Test.YthjceppddmecdaaOidP
import Derived.Laws.Externs
set_option linter.unusedSimpArgs false
set_option linter.unusedVariables false
namespace Go.Proofs.Ythjceppddmecdaa
theorem alphaAt_inj {a b : Nat} (ha : a < 32) (hb : b < 32) (h : alphaAt a = alphaAt b) : a = b := by
  have key : ∀ a b : Fin 32, alphaAt a = alphaAt b → a = b := by decide +kernel
  have := key ⟨a, ha⟩ ⟨b, hb⟩ h
  exact congrArg Fin.val this
abbrev signIx (c : UInt8) : Int := firstIdx ⟨alpha.toArray⟩ c
theorem sign_cases (c : UInt8) : (∃ v : Nat, v < 32 ∧ signIx c = v ∧ alphaAt v = c) ∨ (signIx c = -1 ∧ ∀ v, v < 32 → alphaAt v ≠ c) := by
  have hat : ∀ i : Fin 32, (⟨alpha.toArray⟩ : ByteArray)[i.val]! = alphaAt i := by decide +kernel
  have hsz : (⟨alpha.toArray⟩ : ByteArray).size = 32 := rfl
  unfold signIx firstIdx
  rw [hsz]
  cases h : (List.range 32).find? fun i => (⟨alpha.toArray⟩ : ByteArray)[i]! == c with
  | some i =>
    left
    have h1 := List.mem_of_find?_eq_some h
    have h2 := List.find?_some h
    have hi : i < 32 := List.mem_range.1 h1
    refine ⟨i, hi, rfl, ?_⟩
    have := hat ⟨i, hi⟩
    simp only at this
    rw [← this]
    simpa using h2
  | none =>
    right
    refine ⟨rfl, fun v hv he => ?_⟩
    have h1 := List.find?_eq_none.1 h v (List.mem_range.2 hv)
    have := hat ⟨v, hv⟩
    simp only at this
    rw [this, he] at h1
    simp at h1
def numD (vs : List Nat) : Nat := vs.foldl (fun n v => n * 32 + v) 0
theorem numD_snoc (vs : List Nat) (v : Nat) : numD (vs ++ [v]) = numD vs * 32 + v := by simp [numD]
def digs (N m : Nat) : List Nat := (List.range m).map fun i => N / 32 ^ (m - 1 - i) % 32
theorem digs_snoc (N m : Nat) : digs N (m + 1) = digs (N / 32) m ++ [N % 32] := by
  unfold digs
  rw [List.range_succ, List.map_append, List.map_singleton]
  congr 1
  · apply List.map_congr_left
    intro i hi
    have hi := List.mem_range.1 hi
    rw [Nat.div_div_eq_div_mul, show 32 * 32 ^ (m - 1 - i) = 32 ^ (m + 1 - 1 - i) by rw [← Nat.pow_succ']; congr 1; omega]
  · simp
theorem numD_digs (m : Nat) : ∀ N, numD (digs N m) = N % 32 ^ m := by
  induction m with
  | zero => intro N; simp [digs, numD, Nat.mod_one]
  | succ m ih =>
    intro N
    rw [digs_snoc, numD_snoc, ih, Nat.pow_succ, Nat.mul_comm (32 ^ m) 32, Nat.mod_mul]
    omega
theorem digs_numD (vs : List Nat) (h : ∀ v ∈ vs, v < 32) : digs (numD vs) vs.length = vs := by
  induction vs using snocInd with
  | h0 => rfl
  | h1 vs v ih =>
    have hv := h v (by simp)
    rw [List.length_append, List.length_singleton, digs_snoc, numD_snoc, show (numD vs * 32 + v) / 32 = numD vs by omega, show (numD vs * 32 + v) % 32 = v by omega, ih fun u hu => h u (by simp [hu])]
theorem textOf_digs (l : List UInt8) : textOf l = (digs (numOf l * 16) 52).map alphaAt := by
  unfold textOf digs
  rw [List.map_map]
  apply List.map_congr_left
  intro i hi
  have hi := List.mem_range.1 hi
  show alphaAt _ = alphaAt _
  congr 1
  unfold dig5
  show numOf l * 16 / 2 ^ (255 - 5 * i) % 32 = numOf l * 16 / 32 ^ (52 - 1 - i) % 32
  rw [show (32 : Nat) ^ (52 - 1 - i) = 2 ^ (255 - 5 * i) by rw [show (32 : Nat) = 2 ^ 5 by decide, ← Nat.pow_mul]; congr 1; omega]
theorem map_alpha_inj : ∀ (a b : List Nat), (∀ v ∈ a, v < 32) → (∀ v ∈ b, v < 32) → a.map alphaAt = b.map alphaAt → a = b := by
  intro a
  induction a with
  | nil => intro b _ _ h; cases b with | nil => rfl | cons x b => simp at h
  | cons x a ih =>
    intro b ha hb h
    cases b with
    | nil => simp at h
    | cons y b =>
      simp only [List.map_cons, List.cons.injEq] at h
      rw [alphaAt_inj (ha x (by simp)) (hb y (by simp)) h.1, ih b (fun v hv => ha v (by simp [hv])) (fun v hv => hb v (by simp [hv])) h.2]
theorem digs_lt (N m : Nat) : ∀ v ∈ digs N m, v < 32 := by
  intro v hv
  unfold digs at hv
  obtain ⟨i, _, rfl⟩ := List.mem_map.1 hv
  exact Nat.mod_lt _ (by decide)
theorem num16_lt (l : List UInt8) (hl : l.length = 32) : numOf l * 16 < 32 ^ 52 := by
  have h := numOf_lt l
  rw [hl] at h
  have e : (256 : Nat) ^ 32 * 16 = 32 ^ 52 := by decide +kernel
  omega
/-- Signs that are a name's say its number. -/
theorem text_num {l : List UInt8} (hl : l.length = 32) {vs : List Nat} (h32 : ∀ v ∈ vs, v < 32) (h : textOf l = vs.map alphaAt) : numD vs = numOf l * 16 := by
  rw [textOf_digs] at h
  have e := map_alpha_inj _ _ (digs_lt _ _) h32 h
  rw [← e, numD_digs, Nat.mod_eq_of_lt (num16_lt l hl)]
theorem num_text {l : List UInt8} {vs : List Nat} (h32 : ∀ v ∈ vs, v < 32) (hk : vs.length = 52) (h : numD vs = numOf l * 16) : textOf l = vs.map alphaAt := by
  rw [textOf_digs, ← h, ← hk, digs_numD vs h32]
theorem textOf_inj {a b : List UInt8} (ha : a.length = 32) (hb : b.length = 32) (h : textOf a = textOf b) : a = b := by
  have h2 := text_num ha (digs_lt (numOf b * 16) 52) (by rw [h, textOf_digs])
  have h3 := text_num hb (digs_lt (numOf b * 16) 52) (textOf_digs b)
  exact numOf_inj (by rw [ha, hb]) (by omega)
/-- One sign more. -/
theorem step_mod (N v n : Nat) (hv : v < 32) : N % 2 ^ n * 32 + v = (N * 32 + v) % 2 ^ (n + 5) := by
  rw [show (2 : Nat) ^ (n + 5) = 32 * 2 ^ n by rw [Nat.pow_add, Nat.mul_comm], Nat.mod_mul, show (N * 32 + v) % 32 = v by omega, show (N * 32 + v) / 32 = N by omega]
  omega
/-- A byte is whole. -/
theorem step_byte (N v m : Nat) (hv : v < 32) : (N * 32 + v) / 2 ^ m = N / 2 ^ (m + 3) * 256 + (N * 32 + v) % 2 ^ (m + 8) / 2 ^ m ∧ (N * 32 + v) % 2 ^ (m + 8) / 2 ^ m < 256 := by
  have e : (2 : Nat) ^ (m + 8) = 2 ^ m * 256 := Nat.pow_add 2 m 8
  have h1 : (N * 32 + v) % 2 ^ (m + 8) / 2 ^ m = (N * 32 + v) / 2 ^ m % 256 := by rw [e, Nat.mod_mul_right_div_self]
  have h2 : (N * 32 + v) / 2 ^ m / 256 = N / 2 ^ (m + 3) := by
    rw [Nat.div_div_eq_div_mul, show 2 ^ m * 256 = 32 * 2 ^ (m + 3) by rw [Nat.pow_add]; omega, ← Nat.div_div_eq_div_mul]
    congr 1; omega
  rw [h1]
  exact ⟨by rw [← h2]; omega, Nat.mod_lt _ (by decide)⟩
/-- A sign that makes a byte whole. -/
theorem parse_byte {N v m y : Nat} {X : List UInt8} (hv : v < 32) (hX : numOf X = N / 2 ^ (m + 3)) (hy : y = (N * 32 + v) % 2 ^ (m + 8)) :
    ((y : Int) / ((2 ^ m : Nat) : Int) % 256 = ((UInt8.ofNat (y / 2 ^ m)).toNat : Int)) ∧ numOf (X ++ [UInt8.ofNat (y / 2 ^ m)]) = (N * 32 + v) / 2 ^ m ∧ y % 2 ^ m = (N * 32 + v) % 2 ^ m := by
  obtain ⟨h1, h2⟩ := step_byte N v m hv
  rw [← hy] at h1 h2
  have hb : (UInt8.ofNat (y / 2 ^ m)).toNat = y / 2 ^ m := by rw [UInt8.toNat_ofNat', Nat.mod_eq_of_lt h2]
  refine ⟨?_, ?_, ?_⟩
  · rw [hb]
    have : ((y / 2 ^ m : Nat) : Int) = (y : Int) / ((2 ^ m : Nat) : Int) := Int.natCast_ediv _ _
    omega
  · rw [numOf_snoc, hX, hb, h1]
  · rw [hy]; exact mod_mod_le _ _ _ (by omega)
/-- A sign that makes none whole. -/
theorem parse_bits {N v m : Nat} (hv : v < 32) : (N * 32 + v) / 2 ^ (m + 5) = N / 2 ^ m := by
  rw [show (2 : Nat) ^ (m + 5) = 32 * 2 ^ m by rw [Nat.pow_add, Nat.mul_comm], ← Nat.div_div_eq_div_mul]
  congr 1; omega
end Go.Proofs.Ythjceppddmecdaa
