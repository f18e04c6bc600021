/- Plain facts on numbers spelled in bytes (layer 4): no program in sight. No condition but those that each theorem names. -/
import Derived.RowKit
set_option linter.unusedSimpArgs false
set_option linter.unusedVariables false
namespace Go.Proofs.Ythjceppddmecdaa

theorem snocInd {α : Type} {P : List α → Prop} (h0 : P []) (h1 : ∀ s c, P s → P (s ++ [c])) (l : List α) : P l := by
  have key : ∀ r : List α, P r.reverse := fun r => by
    induction r with
    | nil => simpa using h0
    | cons c r ih => simpa using h1 _ c ih
  simpa using key l.reverse
/-- The digits of n to the base 256, the highest first, none of them a leading 0, at most f of them. -/
def digF : Nat → Nat → List UInt8
  | 0, _ => []
  | f + 1, n => if n = 0 then [] else digF f (n / 256) ++ [UInt8.ofNat (n % 256)]
def dig (n : Nat) : List UInt8 := digF 8 n
/-- A number's bytes: how many follow, and these. -/
def encNum (n : Nat) : List UInt8 := UInt8.ofNat (dig n).length :: dig n
def numOf (s : List UInt8) : Nat := s.foldl (fun v c => v * 256 + c.toNat) 0

theorem digF_zero (f : Nat) : digF f 0 = [] := by cases f <;> simp [digF]
theorem digF_len (f n : Nat) : (digF f n).length ≤ f := by
  induction f generalizing n with
  | zero => simp [digF]
  | succ f ih =>
    unfold digF; split
    · simp
    · have := ih (n / 256); simp; omega
theorem dig_len (n : Nat) : (dig n).length ≤ 8 := digF_len 8 n
theorem digF_pos (f n : Nat) (h : n ≠ 0) : digF (f + 1) n = digF f (n / 256) ++ [UInt8.ofNat (n % 256)] := by simp [digF, h]

theorem numOf_snoc (s : List UInt8) (c : UInt8) : numOf (s ++ [c]) = numOf s * 256 + c.toNat := by simp [numOf]
theorem numOf_nil : numOf [] = 0 := rfl
theorem numOf_lt (s : List UInt8) : numOf s < 256 ^ s.length := by
  induction s using snocInd with
  | h0 => simp [numOf]
  | h1 s c ih =>
    rw [numOf_snoc, List.length_append, List.length_singleton, Nat.pow_succ]
    have := c.toNat_lt
    omega
theorem digF_numOf (s : List UInt8) (f : Nat) (hf : s.length ≤ f) (h0 : ∀ c, s.head? = some c → c ≠ 0) : digF f (numOf s) = s := by
  induction s using snocInd generalizing f with
  | h0 => simp [numOf, digF_zero]
  | h1 s c ih =>
    have hc := c.toNat_lt
    simp at hf
    obtain ⟨f, rfl⟩ : ∃ g, f = g + 1 := ⟨f - 1, by omega⟩
    have hs : digF f (numOf s) = s := ih f (by omega) (by
      intro d hd
      apply h0
      cases s <;> simp_all)
    have hne : numOf (s ++ [c]) ≠ 0 := by
      rw [numOf_snoc]
      intro h
      have h1 : numOf s = 0 := by omega
      have h2 : c.toNat = 0 := by omega
      have hs0 : s = [] := by rw [h1, digF_zero] at hs; exact hs.symm
      subst hs0
      have := h0 c (by simp)
      apply this
      exact UInt8.toNat_inj.1 (by simpa using h2)
    rw [digF_pos f _ hne, numOf_snoc]
    have e1 : (numOf s * 256 + c.toNat) / 256 = numOf s := by omega
    have e2 : (numOf s * 256 + c.toNat) % 256 = c.toNat := by omega
    rw [e1, e2, hs]
    simp
theorem numOf_digF (f n : Nat) (h : n < 256 ^ f) : numOf (digF f n) = n := by
  induction f generalizing n with
  | zero => have : n = 0 := by simpa using h
            subst this; rfl
  | succ f ih =>
    by_cases hn : n = 0
    · subst hn; simp [digF, numOf]
    · rw [digF_pos f n hn, numOf_snoc, ih (n / 256) (by rw [Nat.pow_succ] at h; omega)]
      have : (UInt8.ofNat (n % 256)).toNat = n % 256 := by simp
      omega
theorem digF_head (f n : Nat) (h : n < 256 ^ f) : ∀ c, (digF f n).head? = some c → c ≠ 0 := by
  induction f generalizing n with
  | zero => simp [digF]
  | succ f ih =>
    intro c hc
    by_cases hn : n = 0
    · subst hn; simp [digF] at hc
    · rw [digF_pos f n hn] at hc
      by_cases hq : n / 256 = 0
      · rw [hq, digF_zero] at hc
        simp at hc
        subst hc
        intro h0
        have := congrArg UInt8.toNat h0
        simp at this
        omega
      · have : digF f (n / 256) ≠ [] := by
          intro he
          have h1 := numOf_digF f (n / 256) (by rw [Nat.pow_succ] at h; omega)
          rw [he] at h1
          simp [numOf] at h1
          omega
        apply ih (n / 256) (by rw [Nat.pow_succ] at h; omega) c
        cases hd : digF f (n / 256) with
        | nil => exact absurd hd this
        | cons a l => rw [hd] at hc; simpa using hc
theorem numOf_dig (n : Nat) (h : n ≤ 18446744073709551615) : numOf (dig n) = n := numOf_digF 8 n (by omega)
theorem dig_head (n : Nat) (h : n ≤ 18446744073709551615) : ∀ c, (dig n).head? = some c → c ≠ 0 := digF_head 8 n (by omega)

/-- What a bale comes to: what is left, the error. -/
def mFail (l : List UInt8) (e n : Int) : List UInt8 × Int := if e = 0 then ([], n) else (l, e)
/-- So many bytes: they, what is left, the error. -/
def mBytes (l : List UInt8) (e n : Int) : List UInt8 × List UInt8 × Int :=
  if e = 0 then (if 0 ≤ n ∧ n ≤ l.length then (l.take n.toNat, l.drop n.toNat, 0) else ([], [], 1)) else ([], l, e)
/-- A number. -/
def mNum (l : List UInt8) (e : Int) : Nat × List UInt8 × Int :=
  if e = 0 then
    (match l with
    | [] => (0, [], 1)
    | h :: t => if 8 < h.toNat then (0, [], 2) else if t.length < h.toNat then (0, [], 1) else
        if (t.take h.toNat).head? = some 0 then (0, [], 2) else (numOf (t.take h.toNat), t.drop h.toNat, 0))
  else (0, l, e)
/-- A number of at most so much. -/
def mInt (l : List UInt8) (e top : Int) : Int × List UInt8 × Int :=
  let r := mNum l e
  if r.2.2 = 0 then (if max top 0 < (r.1 : Int) then (0, [], 5) else (r.1, r.2.1, 0)) else (0, r.2.1, r.2.2)
/-- A text of at most so many bytes. -/
def mStr (l : List UInt8) (e top : Int) : List UInt8 × List UInt8 × Int :=
  let r := mInt l e top
  mBytes r.2.1 r.2.2 r.1
def mClose (l : List UInt8) (e : Int) : List UInt8 × Int := if l = [] then (l, e) else mFail l e 2

theorem mNum_le (l : List UInt8) (e : Int) : (mNum l e).1 ≤ 18446744073709551615 := by
  unfold mNum
  split
  · split
    · simp
    · rename_i h t
      split
      · simp
      · split
        · simp
        · split
          · simp
          · rename_i h1 _ _
            have h2 := numOf_lt (t.take h.toNat)
            have h3 : (t.take h.toNat).length ≤ 8 := by simp; omega
            have h4 : 256 ^ (t.take h.toNat).length ≤ 256 ^ 8 := Nat.pow_le_pow_right (by omega) h3
            simp only
            omega
  · simp
theorem mNum_left_le (l : List UInt8) (e : Int) : (mNum l e).2.1.length ≤ l.length := by
  unfold mNum
  split
  · split
    · simp
    · split
      · simp
      · split
        · simp
        · split
          · simp
          · simp; omega
  · simp
theorem mBytes_left_le (l : List UInt8) (e n : Int) : (mBytes l e n).2.1.length ≤ l.length := by
  unfold mBytes
  split
  · split <;> simp
  · simp
theorem mInt_left_le (l : List UInt8) (e top : Int) : (mInt l e top).2.1.length ≤ l.length := by
  have := mNum_left_le l e
  unfold mInt
  simp only
  split
  · split
    · simp
    · simpa using this
  · simpa using this
theorem mInt_range (l : List UInt8) (e top : Int) : 0 ≤ (mInt l e top).1 ∧ (mInt l e top).1 ≤ max top 0 := by
  unfold mInt
  simp only
  split
  · split
    · simp; omega
    · simp only; omega
  · simp; omega
/-- THERE IS ONE SPELLING: bytes that are taken as a number are its bytes. -/
theorem mNum_one (l : List UInt8) (h : (mNum l 0).2.2 = 0) : encNum (mNum l 0).1 ++ (mNum l 0).2.1 = l := by
  unfold mNum at h ⊢
  rw [if_pos rfl] at h ⊢
  split
  · simp at h
  · rename_i c t
    simp only at h
    by_cases h1 : 8 < c.toNat
    · rw [if_pos h1] at h; simp at h
    · rw [if_neg h1] at h ⊢
      by_cases h2 : t.length < c.toNat
      · rw [if_pos h2] at h; simp at h
      · rw [if_neg h2] at h ⊢
        by_cases h3 : (t.take c.toNat).head? = some 0
        · rw [if_pos h3] at h; simp at h
        · rw [if_neg h3]
          simp only [encNum, dig]
          rw [digF_numOf _ 8 (by simp; omega) (by intro d hd h0; exact h3 (by rw [hd, h0]))]
          have hl : (t.take c.toNat).length = c.toNat := by simp; omega
          rw [hl]
          simp
theorem mNum_bad (l : List UInt8) (h : (mNum l 0).2.2 ≠ 0) : (mNum l 0).1 = 0 ∧ (mNum l 0).2.1 = [] := by
  unfold mNum at h ⊢
  rw [if_pos rfl] at h ⊢
  split
  · simp
  · rename_i c t
    simp only at h
    split
    · simp
    · split
      · simp
      · split
        · simp
        · simp_all
theorem mNum_err (l : List UInt8) (e : Int) (h : e ≠ 0) : mNum l e = (0, l, e) := by simp [mNum, h]
theorem mNum_enc (n : Nat) (t : List UInt8) (h : n ≤ 18446744073709551615) : mNum (encNum n ++ t) 0 = (n, t, 0) := by
  have hd := dig_len n
  have hh := dig_head n h
  have hn := numOf_dig n h
  have hc : (UInt8.ofNat (dig n).length).toNat = (dig n).length := by simp; omega
  unfold mNum encNum
  simp only [List.cons_append, if_true]
  rw [hc, if_neg (by omega), if_neg (by simp)]
  simp only [List.take_left', List.drop_left']
  rw [hn, if_neg]
  intro h0
  exact hh 0 h0 rfl
theorem mInt_enc (n : Nat) (t : List UInt8) (top : Int) (h : (n : Int) ≤ max top 0) (hn : n ≤ 18446744073709551615) : mInt (encNum n ++ t) 0 top = ((n : Int), t, 0) := by
  unfold mInt
  rw [mNum_enc n t hn]
  simp only [if_true]
  rw [if_neg (by omega)]
end Go.Proofs.Ythjceppddmecdaa
