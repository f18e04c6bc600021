/- The walks of package bale's functions that put, and of the law's small helpers. -/
import Derived.Test.YthjceppddmecdaaBaleW
set_option linter.unusedSimpArgs false
set_option linter.unusedVariables false
namespace Go.Proofs.Ythjceppddmecdaa
open Go.RowKit
attribute [local go_sem] extract_mid extract_drop bget bsize wrap64_u8 i64_u8 u64_u8 bappend

def cutP (l : List UInt8) (n : Int) : List UInt8 := if n < l.length then l.take n.toNat else l
theorem cut_any (l : List UInt8) (n : Int) (hn : 0 ≤ n) (w : World) :
    Calls Try.prog 24 #[.string ⟨l.toArray⟩, .int .i64 n] w fun r w' => r = .returned (.string ⟨(cutP l n).toArray⟩) ∧ w = w' := by
  obtain ⟨k, rfl⟩ := Int.eq_ofNat_of_zero_le hn
  by_cases h : k < l.length
  · go_enter Try.func24, Try.ntmps24
    go_wp2
    go_ret
    exact ⟨ret_str (by simp [cutP, h]), rfl⟩
  · go_enter Try.func24, Try.ntmps24
    go_wp2
    go_ret
    exact ⟨ret_str (by simp [cutP, h]), rfl⟩
theorem cutP_len (l : List UInt8) (n : Int) (hn : 0 ≤ n) : ((cutP l n).length : Int) ≤ n := by
  unfold cutP
  split
  · simp; omega
  · omega

theorem info_u8 : (Try.prog.info? 5).map (fun i => (i.zero, i.size, i.bytes)) = some (some (.int .u8 0), 1, 1) := by kernel_rfl

def encStr (l : List UInt8) : List UInt8 := encNum l.length ++ l
def encStrs : List (List UInt8) → List UInt8
  | [] => []
  | l :: ls => encStr l ++ encStrs ls
theorem encNum_len (n : Nat) : (encNum n).length ≤ 9 := by have := dig_len n; simp [encNum]; omega
theorem encStr_len (l : List UInt8) : (encStr l).length ≤ l.length + 9 := by have := encNum_len l.length; simp [encStr]; omega
theorem encStrs_snoc (ls : List (List UInt8)) (l : List UInt8) : encStrs (ls ++ [l]) = encStrs ls ++ encStr l := by
  induction ls with
  | nil => simp [encStrs]
  | cons a ls ih => simp [encStrs, ih]
end Go.Proofs.Ythjceppddmecdaa
