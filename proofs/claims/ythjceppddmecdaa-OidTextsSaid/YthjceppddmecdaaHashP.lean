/- SHA-256, pure: the state behind bytes that came in parts. No condition. -/
import Derived.Test.YthjceppddmecdaaSha
import Derived.Test.YthjceppddmecdaaLists
set_option linter.unusedSimpArgs false
set_option linter.unusedVariables false
namespace Go.Proofs.Ythjceppddmecdaa
/-- The words behind all whole blocks of l. -/
def hst (l : List UInt8) : W8 := mixN iv0 (l.length / 64) l
/-- What is left of l behind its whole blocks. -/
def rest (l : List UInt8) : List UInt8 := l.drop (64 * (l.length / 64))
theorem rest_len (l : List UInt8) : (rest l).length = l.length % 64 := by simp [rest]; omega
theorem hst_nil : hst [] = iv0 := rfl
theorem rest_nil : rest [] = [] := rfl
theorem hst_app (a b : List UInt8) : hst (a ++ b) = mixN (hst a) ((rest a ++ b).length / 64) (rest a ++ b) := by
  have h1 : (a ++ b).length / 64 = a.length / 64 + (rest a ++ b).length / 64 := by simp only [List.length_append, rest_len]; omega
  unfold hst
  rw [h1, mixN_add, mixN_app _ _ _ _ (by omega)]
  congr 1
  rw [List.drop_append_of_le_length (by omega)]
  rfl
theorem rest_app (a b : List UInt8) : rest (a ++ b) = (rest a ++ b).drop (64 * ((rest a ++ b).length / 64)) := by
  have h1 : (a ++ b).length / 64 = a.length / 64 + (rest a ++ b).length / 64 := by simp only [List.length_append, rest_len]; omega
  have h2 : rest a ++ b = (a ++ b).drop (64 * (a.length / 64)) := by rw [List.drop_append_of_le_length (by omega)]; rfl
  conv => lhs; rw [rest, h1, Nat.mul_add, ← List.drop_drop, ← h2]
theorem mixN_succ_last (s : W8) (k : Nat) (l : List UInt8) : mixN s (k + 1) l = mix (mixN s k l) ((l.drop (64 * k)).take 64) := by rw [mixN_add]; simp only [mixN]
end Go.Proofs.Ythjceppddmecdaa
