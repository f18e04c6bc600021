/- Cutting bytes into chunks, plain: the program's way (one byte more at a time) and the reference's (each end by itself). No condition but those that each theorem names. -/
import Derived.Test.YthjceppddmecdaaGearP
import Derived.Test.YthjceppddmecdaaMask
set_option linter.unusedSimpArgs false
set_option linter.unusedVariables false
namespace Go.Proofs.Ythjceppddmecdaa
/-- Does a chunk end behind n bytes that come to v? -/
def cEnd (n v : Nat) : Bool := decide (256 ≤ n ∨ (96 ≤ n ∧ v &&& msk 5 = 0) ∨ (32 ≤ n ∧ n < 96 ∧ v &&& msk 8 = 0))
abbrev CS := List (List UInt8) × List UInt8
def cStep (t : List Nat) (st : CS) (c : UInt8) : CS :=
  if cEnd (st.2.length + 1) (gRoll t 0 (st.2 ++ [c])) = true then (st.1 ++ [st.2 ++ [c]], []) else (st.1, st.2 ++ [c])
def cRun (t : List Nat) (st : CS) (s : List UInt8) : CS := s.foldl (cStep t) st
theorem cRun_nil (t : List Nat) (st : CS) : cRun t st [] = st := rfl
theorem cRun_cons (t : List Nat) (st : CS) (c : UInt8) (s : List UInt8) : cRun t st (c :: s) = cRun t (cStep t st c) s := rfl
theorem cRun_app (t : List Nat) (st : CS) (a b : List UInt8) : cRun t st (a ++ b) = cRun t (cRun t st a) b := by simp [cRun]
theorem cRun_snoc (t : List Nat) (st : CS) (s : List UInt8) (c : UInt8) : cRun t st (s ++ [c]) = cStep t (cRun t st s) c := by simp [cRun]
theorem cStep_yes {t : List Nat} {o : List (List UInt8)} {p : List UInt8} {c : UInt8} (h : cEnd (p.length + 1) (gRoll t 0 (p ++ [c])) = true) : cStep t (o, p) c = (o ++ [p ++ [c]], []) := by unfold cStep; rw [if_pos h]
theorem cStep_no {t : List Nat} {o : List (List UInt8)} {p : List UInt8} {c : UInt8} (h : cEnd (p.length + 1) (gRoll t 0 (p ++ [c])) = false) : cStep t (o, p) c = (o, p ++ [c]) := by unfold cStep; rw [if_neg (by rw [h]; simp)]
theorem cRun_out (t : List Nat) (s : List UInt8) : ∀ (o : List (List UInt8)) (p : List UInt8), cRun t (o, p) s = (o ++ (cRun t ([], p) s).1, (cRun t ([], p) s).2) := by
  induction s with
  | nil => intro o p; simp [cRun_nil]
  | cons c s ih =>
    intro o p
    rw [cRun_cons, cRun_cons]
    cases h : cEnd (p.length + 1) (gRoll t 0 (p ++ [c])) with
    | true => rw [cStep_yes h, cStep_yes h, ih, ih ([] ++ [p ++ [c]])]; simp
    | false => rw [cStep_no h, cStep_no h, ih]
theorem cEnd_big {n v : Nat} (h : 256 ≤ n) : cEnd n v = true := by unfold cEnd; exact decide_eq_true (.inl h)
theorem cEnd_small {n v : Nat} (h : n < 32) : cEnd n v = false := by unfold cEnd; exact decide_eq_false (by omega)
theorem cRun_part (t : List Nat) (s : List UInt8) : ∀ (o : List (List UInt8)) (p : List UInt8), p.length ≤ 255 → (cRun t (o, p) s).2.length ≤ 255 := by
  induction s with
  | nil => intro o p h; exact h
  | cons c s ih =>
    intro o p h
    rw [cRun_cons]
    cases h2 : cEnd (p.length + 1) (gRoll t 0 (p ++ [c])) with
    | true => rw [cStep_yes h2]; exact ih _ _ (by simp)
    | false =>
      rw [cStep_no h2]
      refine ih _ _ ?_
      rw [List.length_append, List.length_singleton]
      rcases Nat.lt_or_ge (p.length + 1) 256 with h3 | h3
      · omega
      · rw [cEnd_big h3] at h2; cases h2
theorem cRun_join (t : List Nat) (s : List UInt8) : ∀ (o : List (List UInt8)) (p : List UInt8), (cRun t (o, p) s).1.flatten ++ (cRun t (o, p) s).2 = o.flatten ++ (p ++ s) := by
  induction s with
  | nil => intro o p; simp [cRun_nil]
  | cons c s ih =>
    intro o p
    rw [cRun_cons]
    cases h2 : cEnd (p.length + 1) (gRoll t 0 (p ++ [c])) with
    | true => rw [cStep_yes h2, ih]; simp
    | false => rw [cStep_no h2, ih]; simp
theorem cRun_sizes (t : List Nat) (s : List UInt8) : ∀ (o : List (List UInt8)) (p : List UInt8), p.length ≤ 255 → (∀ x ∈ o, 32 ≤ x.length ∧ x.length ≤ 256) → ∀ x ∈ (cRun t (o, p) s).1, 32 ≤ x.length ∧ x.length ≤ 256 := by
  induction s with
  | nil => intro o p _ h; exact h
  | cons c s ih =>
    intro o p hp h
    rw [cRun_cons]
    cases h2 : cEnd (p.length + 1) (gRoll t 0 (p ++ [c])) with
    | true =>
      rw [cStep_yes h2]
      refine ih _ _ (by simp) fun x hx => ?_
      rcases List.mem_append.1 hx with hx | hx
      · exact h x hx
      · rw [List.mem_singleton] at hx
        subst hx
        rw [List.length_append, List.length_singleton]
        rcases Nat.lt_or_ge (p.length + 1) 32 with h3 | h3
        · rw [cEnd_small h3] at h2; cases h2
        · omega
    | false =>
      rw [cStep_no h2]
      refine ih _ _ ?_ h
      rw [List.length_append, List.length_singleton]
      rcases Nat.lt_or_ge (p.length + 1) 256 with h3 | h3
      · omega
      · rw [cEnd_big h3] at h2; cases h2
/-- What is left is the last chunk. -/
def cFin (st : CS) : List (List UInt8) := if st.2 = [] then st.1 else st.1 ++ [st.2]
def cuts (t : List Nat) (s : List UInt8) : List (List UInt8) := cFin (cRun t ([], []) s)
theorem cuts_nil (t : List Nat) : cuts t [] = [] := rfl
theorem cFin_out (o : List (List UInt8)) (st : CS) : cFin (o ++ st.1, st.2) = o ++ cFin st := by
  unfold cFin
  by_cases h : st.2 = []
  · rw [if_pos h, if_pos h]
  · rw [if_neg h, if_neg h, List.append_assoc]
theorem cuts_join (t : List Nat) (s : List UInt8) : (cuts t s).flatten = s := by
  have h := cRun_join t s [] []
  unfold cuts cFin
  by_cases h2 : (cRun t ([], []) s).2 = []
  · rw [if_pos h2]; rw [h2] at h; simpa using h
  · rw [if_neg h2]; simpa using h
theorem cuts_mem (t : List Nat) (s : List UInt8) : ∀ x ∈ cuts t s, 1 ≤ x.length ∧ x.length ≤ 256 := by
  have h := cRun_sizes t s [] [] (by simp) (by simp)
  have h2 := cRun_part t s [] [] (by simp)
  intro x hx
  unfold cuts cFin at hx
  by_cases h3 : (cRun t ([], []) s).2 = []
  · rw [if_pos h3] at hx; have := h x hx; omega
  · rw [if_neg h3] at hx
    rcases List.mem_append.1 hx with hx | hx
    · have := h x hx; omega
    · rw [List.mem_singleton] at hx
      subst hx
      have := List.length_pos_iff.2 h3
      omega
theorem cuts_least (t : List Nat) (s : List UInt8) (i : Nat) (x : List UInt8) (hx : (cuts t s)[i]? = some x) (hi : i + 1 < (cuts t s).length) : 32 ≤ x.length := by
  have h := cRun_sizes t s [] [] (by simp) (by simp)
  unfold cuts cFin at hx hi
  by_cases h3 : (cRun t ([], []) s).2 = []
  · rw [if_pos h3] at hx
    exact (h x (List.mem_of_getElem? hx)).1
  · rw [if_neg h3] at hx hi
    rw [List.length_append, List.length_singleton] at hi
    rw [List.getElem?_append_left (by omega)] at hx
    exact (h x (List.mem_of_getElem? hx)).1
/-- How many bytes the first chunk has, of which p are seen. -/
def endFrom (t : List Nat) (p : List UInt8) : List UInt8 → Nat
  | [] => p.length
  | c :: s => if cEnd (p.length + 1) (gRoll t 0 (p ++ [c])) = true then p.length + 1 else endFrom t (p ++ [c]) s
theorem endFrom_yes {t : List Nat} {p s : List UInt8} {c : UInt8} (h : cEnd (p.length + 1) (gRoll t 0 (p ++ [c])) = true) : endFrom t p (c :: s) = p.length + 1 := by rw [endFrom, if_pos h]
theorem endFrom_no {t : List Nat} {p s : List UInt8} {c : UInt8} (h : cEnd (p.length + 1) (gRoll t 0 (p ++ [c])) = false) : endFrom t p (c :: s) = endFrom t (p ++ [c]) s := by rw [endFrom, if_neg (by rw [h]; simp)]
theorem endFrom_ge (t : List Nat) (s : List UInt8) : ∀ p, p.length ≤ endFrom t p s ∧ endFrom t p s ≤ p.length + s.length ∧ (s ≠ [] → p.length < endFrom t p s) := by
  induction s with
  | nil => intro p; exact ⟨Nat.le_refl _, by simp [endFrom], fun h => absurd rfl h⟩
  | cons c s ih =>
    intro p
    cases h2 : cEnd (p.length + 1) (gRoll t 0 (p ++ [c])) with
    | true => rw [endFrom_yes h2]; exact ⟨by omega, by rw [List.length_cons]; omega, fun _ => by omega⟩
    | false =>
      rw [endFrom_no h2]
      obtain ⟨h3, h4, _⟩ := ih (p ++ [c])
      rw [List.length_append, List.length_singleton] at h3 h4
      exact ⟨by omega, by rw [List.length_cons]; omega, fun _ => by omega⟩
theorem fin_first (t : List Nat) (s : List UInt8) : ∀ p, p ++ s ≠ [] → cFin (cRun t ([], p) s) = (p ++ s).take (endFrom t p s) :: cuts t ((p ++ s).drop (endFrom t p s)) := by
  induction s with
  | nil =>
    intro p hp
    rw [List.append_nil] at hp ⊢
    rw [endFrom, List.take_length, List.drop_length, cuts_nil, cRun_nil]
    unfold cFin
    rw [if_neg hp]
    rfl
  | cons c s ih =>
    intro p hp
    rw [cRun_cons]
    cases h2 : cEnd (p.length + 1) (gRoll t 0 (p ++ [c])) with
    | true =>
      rw [cStep_yes h2, endFrom_yes h2, cRun_out, cFin_out]
      have e : p ++ c :: s = (p ++ [c]) ++ s := by simp
      rw [e, List.take_left' (by simp), List.drop_left' (by simp)]
      rfl
    | false =>
      rw [cStep_no h2, endFrom_no h2]
      have e : p ++ c :: s = (p ++ [c]) ++ s := by simp
      rw [e]
      exact ih (p ++ [c]) (by simp)
abbrev endOf (t : List Nat) (s : List UInt8) : Nat := endFrom t [] s
theorem cuts_first {t : List Nat} {s : List UInt8} (h : s ≠ []) : cuts t s = s.take (endOf t s) :: cuts t (s.drop (endOf t s)) := fin_first t s [] h
/-- From a cut on the chunks are those of what follows. -/
theorem cuts_suffix (t : List Nat) : ∀ (k : Nat) (s : List UInt8), ∃ m, m ≤ s.length ∧ ((cuts t s).take k).flatten = s.take m ∧ (cuts t s).drop k = cuts t (s.drop m) := by
  intro k
  induction k with
  | zero => intro s; exact ⟨0, by omega, by simp, by simp⟩
  | succ k ih =>
    intro s
    by_cases h : s = []
    · subst h; exact ⟨0, by simp, by simp [cuts_nil], by simp [cuts_nil]⟩
    · obtain ⟨m, hm, e1, e2⟩ := ih (s.drop (endOf t s))
      have hg := endFrom_ge t s []
      have hg2 : endOf t s ≤ s.length := by have := hg.2.1; simpa using this
      rw [List.length_drop] at hm
      refine ⟨endOf t s + m, by omega, ?_, ?_⟩
      · rw [cuts_first h, List.take_succ_cons, List.flatten_cons, e1, List.take_add]
      · rw [cuts_first h, List.drop_succ_cons, e2, List.drop_drop]
end Go.Proofs.Ythjceppddmecdaa
