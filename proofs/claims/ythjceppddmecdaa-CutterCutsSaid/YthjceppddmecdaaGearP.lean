/- A number that rolls over bytes, plain. No condition. -/
import Derived.Test.YthjceppddmecdaaHashP
import Derived.Test.YthjceppddmecdaaBaleP
set_option linter.unusedSimpArgs false
set_option linter.unusedVariables false
namespace Go.Proofs.Ythjceppddmecdaa
def uv (n : Nat) : Value := .int .u64 n
def uvs (l : List Nat) : List Value := l.map uv
theorem uvs_len (l : List Nat) : (uvs l).length = l.length := by simp [uvs]
theorem uvs_app (l m : List Nat) : uvs (l ++ m) = uvs l ++ uvs m := by simp [uvs]
theorem uvs_one (l : List Nat) : ∀ u ∈ uvs l, u.oneCell' = true := by
  intro u hu
  obtain ⟨c, _, rfl⟩ := List.mem_map.1 hu
  rfl
theorem uvs_at {l : List Nat} {k d : Nat} (h : l[k]? = some d) : (uvs l)[k]? = some (.int .u64 d) := by simp [uvs, h, uv]
def gearB : List UInt8 := [103, 101, 97, 114]
/-- A byte's number. -/
def gOne (seed : List UInt8) (c : UInt8) : Nat := numOf ((sha (gearB ++ (seed ++ [c]))).take 8)
theorem numOf_le8 (s : List UInt8) (h : s.length ≤ 8) : numOf s < 18446744073709551616 := by
  have h1 := numOf_lt s
  have h2 : 256 ^ s.length ≤ 256 ^ 8 := Nat.pow_le_pow_right (by decide) h
  have h3 : (256 ^ 8 : Nat) = 18446744073709551616 := by decide
  omega
theorem gOne_lt (seed : List UInt8) (c : UInt8) : gOne seed c < 18446744073709551616 := numOf_le8 _ (by simp; omega)
/-- The table of a seed. -/
def gTab (seed : List UInt8) : List Nat := (List.range 256).map fun i => gOne seed (UInt8.ofNat i)
theorem gTab_len (seed : List UInt8) : (gTab seed).length = 256 := by simp [gTab]
theorem gTab_at (seed : List UInt8) (k : Nat) (h : k < 256) : (gTab seed)[k]? = some (gOne seed (UInt8.ofNat k)) := by simp [gTab, h]
theorem gTab_byte (seed : List UInt8) (c : UInt8) : (gTab seed)[c.toNat]? = some (gOne seed c) := by
  have := c.toNat_lt
  rw [gTab_at _ _ (by omega)]
  simp
def gStep (t : List Nat) (v : Nat) (c : UInt8) : Nat := (v * 2 + t.getD c.toNat 0) % 18446744073709551616
theorem gStep_lt (t : List Nat) (v : Nat) (c : UInt8) : gStep t v c < 18446744073709551616 := Nat.mod_lt _ (by decide)
/-- What bytes come to. -/
def gRoll (t : List Nat) (v : Nat) (s : List UInt8) : Nat := s.foldl (gStep t) v
theorem gRoll_nil (t : List Nat) (v : Nat) : gRoll t v [] = v := rfl
theorem gRoll_snoc (t : List Nat) (v : Nat) (s : List UInt8) (c : UInt8) : gRoll t v (s ++ [c]) = gStep t (gRoll t v s) c := by simp [gRoll]
theorem gRoll_app (t : List Nat) (v : Nat) (a b : List UInt8) : gRoll t v (a ++ b) = gRoll t (gRoll t v a) b := by simp [gRoll]
theorem gRoll_lt (t : List Nat) (s : List UInt8) : gRoll t 0 s < 18446744073709551616 := by
  induction s using snocInd with
  | h0 => simp [gRoll]
  | h1 s c _ => rw [gRoll_snoc]; exact gStep_lt _ _ _
theorem gRoll_mod (t : List Nat) (v w : Nat) (h : v < 18446744073709551616) (h2 : w < 18446744073709551616) (s : List UInt8) : ∃ q : Nat, gRoll t v s = (v * 2 ^ s.length + q) % 18446744073709551616 ∧ gRoll t w s = (w * 2 ^ s.length + q) % 18446744073709551616 := by
  induction s using snocInd with
  | h0 => exact ⟨0, by simp [gRoll]; omega, by simp [gRoll]; omega⟩
  | h1 s c ih =>
    obtain ⟨q, h1, h2⟩ := ih
    refine ⟨q * 2 + t.getD c.toNat 0, ?_, ?_⟩
    · rw [gRoll_snoc, gStep, h1, List.length_append, List.length_singleton, Nat.pow_succ, ← Nat.mul_assoc]
      omega
    · rw [gRoll_snoc, gStep, h2, List.length_append, List.length_singleton, Nat.pow_succ, ← Nat.mul_assoc]
      omega
/-- What was ahead of the last 64 bytes is forgotten. -/
theorem gRoll_local (t : List Nat) (v w : Nat) (h : v < 18446744073709551616) (h2 : w < 18446744073709551616) (s : List UInt8) (hs : 64 ≤ s.length) : gRoll t v s = gRoll t w s := by
  obtain ⟨q, h1, h3⟩ := gRoll_mod t v w h h2 s
  have h4 : (2 : Nat) ^ s.length = 18446744073709551616 * 2 ^ (s.length - 64) := by
    rw [show (18446744073709551616 : Nat) = 2 ^ 64 by decide, ← Nat.pow_add]
    congr 1; omega
  rw [h1, h3, h4, Nat.mul_left_comm, Nat.mul_left_comm w, Nat.mul_add_mod, Nat.mul_add_mod]
theorem gStep_eq (v x : Nat) : IntKind.u64.wrap (IntKind.u64.wrap ((v : Int) * 2) + (x : Int)) = (((v * 2 + x) % 18446744073709551616 : Nat) : Int) := by
  simp only [IntKind.wrap_u64]
  omega
end Go.Proofs.Ythjceppddmecdaa
