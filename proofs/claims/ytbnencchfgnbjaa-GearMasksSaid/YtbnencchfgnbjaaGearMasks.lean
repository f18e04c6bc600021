/- GearMasks: for all numbers the law answers true. No condition. -/
import Derived.Test.YtbnencchfgnbjaaGearA
import Derived.Test.YtbnencchfgnbjaaLaw
set_option linter.unusedSimpArgs false
set_option linter.unusedVariables false
namespace Go.Proofs.Ytbnencchfgnbjaa
open Go.RowKit
attribute [local go_sem] extract_mid extract_drop bget bsize wrap64_u8 i64_u8 u64_u8 bappend
theorem and1_shr (m k : Nat) (hm : m < 18446744073709551616) : bits BinOp.and IntKind.u64 ((m : Int) / 2 ^ k) 1 = ((m / 2 ^ k % 2 : Nat) : Int) := by
  have h1 : m / 2 ^ k < 18446744073709551616 := Nat.lt_of_le_of_lt (Nat.div_le_self _ _) hm
  have h := bits_and_u64_nat (m / 2 ^ k) 1 h1 (by decide)
  rw [Nat.and_one_is_mod] at h
  rw [← h]
  simp
attribute [local go_sem] and1_shr
def bitC (m : Nat) : Nat → Nat
  | 0 => 0
  | i + 1 => bitC m i + (if m / 2 ^ i % 2 = 1 then 1 else 0)
theorem bitC_le (m : Nat) : ∀ i, bitC m i ≤ i
  | 0 => Nat.le_refl _
  | i + 1 => by have := bitC_le m i; unfold bitC; split <;> omega
theorem msk_bitC : ∀ k, k < 49 → bitC (msk k) 64 = k := by decide +kernel
set_option maxRecDepth 100000 in
set_option maxHeartbeats 4000000 in
theorem gearMasks_walk {F : List SProp} (n : Int) (w0 : -9223372036854775808 ≤ n) (y0 : n ≤ 9223372036854775807) (k : Int) (w1 : -9223372036854775808 ≤ k) (y1 : k ≤ 9223372036854775807) (w : World) (hM : Star F w) :
    Calls Try.prog 12 #[.int .i64 n, .int .i64 k] w fun r w' => r = .returned (.bool true) ∧ Star F w' := by
  obtain ⟨mm, h1⟩ : ∃ m : Int, (if 48 < n then (48 : Int) else n) = m := ⟨_, rfl⟩
  obtain ⟨N, h2⟩ : ∃ N : Nat, (if 0 < mm then mm else 0) = (N : Int) := ⟨(if 0 < mm then mm else 0).toNat, by split <;> omega⟩
  obtain ⟨z, h3⟩ : ∃ z : Int, (if k < n then k else n) = z := ⟨_, rfl⟩
  have hN : clampN n = N := by
    unfold clampN
    rw [← Int.natCast_inj, ← h2, ← h1]
    split <;> split <;> omega
  have hz : clampN z ≤ N := by
    rw [← hN, ← h3]
    unfold clampN
    split <;> omega
  have hNl := clampN_le n
  have K1 := mask_any n
  have K2 := rMask_any n
  have K3 := mask_any z
  rw [hN] at hNl K1 K2
  generalize clampN z = Z at hz K3
  clear hN
  have hm64 := (msk_facts N (by omega)).1
  have hmZ := (msk_facts Z (by omega)).1
  have e1 := msk_bitC N (by omega)
  have e2 := (msk_count N (by omega)).2
  have e3 := msk_less N (by omega) Z hz
  have f2 : bits BinOp.and IntKind.u64 (msk N : Int) 65535 = 0 := by
    have := bits_and_u64_nat (msk N) 65535 hm64 (by decide)
    rw [e2] at this; exact this
  have f3 : bits BinOp.andNot IntKind.u64 (msk Z : Int) (msk N : Int) = 0 := by
    have := u64_andNot_nat (msk Z) (msk N) hmZ hm64
    rw [e3] at this; exact this
  clear e2 e3
  generalize msk N = M at hm64 e1 f2 f3 K1 K2
  generalize msk Z = MZ at f3 K3 hmZ
  have HE := Lib.hid e1
  have F2 := Lib.hid f2
  have F3 := Lib.hid f3
  clear e1 f2 f3
  go_enter Try.func12, Try.ntmps12
  go_wp2_with (first | (go_at_call 45; have hM0 := hM; clear hM; (first | (with_reducible refine (awake07 _ hM0).mono ?_) | fail); clear hM0; rintro _ w ⟨rfl, hM⟩) | (go_at_call 48; have hM0 := hM; clear hM; (first | (with_reducible refine (starq (K1 _) hM0).mono ?_) | fail); clear hM0; rintro _ w ⟨rfl, hM⟩))
  go_loopw [6, 7] (fun v i wr => ∃ j : Nat, j ≤ 64 ∧ i = .int .i64 j ∧ v = .int .i64 (bitC M j) ∧ Star F wr) (fun _ i _ => 64 - (intOf i).toNat)
  case atStart => exact ⟨0, by omega, rfl, rfl, hM⟩
  case round =>
    clear hM
    obtain ⟨j, hj, rfl, rfl, hM⟩ := hrel
    by_cases hlt : j < 64
    · have hb := bitC_le M j
      by_cases hbit : M / 2 ^ j % 2 = 1
      · have HS : Hid (bitC M (j + 1) = bitC M j + 1) := by show _ = _; simp [bitC, hbit]
        go_wp2
        go_roundw
        case rel => exact ⟨j + 1, by omega, by go_num, by rw [HS.out]; go_num, hM⟩
        case measure => simp [intOf]; omega
      · have HS : Hid (bitC M (j + 1) = bitC M j) := by show _ = _; simp [bitC, hbit]
        have hbit0 : M / 2 ^ j % 2 = 0 := by have := Nat.mod_two_eq_zero_or_one (M / 2 ^ j); omega
        go_wp2
        go_roundw
        case rel => exact ⟨j + 1, by omega, by go_num, by rw [HS.out], hM⟩
        case measure => simp [intOf]; omega
    · obtain rfl : j = 64 := by omega
      have f2 := F2.out
      have f3 := F3.out
      rw [HE.out]
      go_wp2_with (first | (go_at_call 49; have hM0 := hM; clear hM; (first | (with_reducible refine (starq (K2 _) hM0).mono ?_) | fail); clear hM0; rintro _ w ⟨rfl, hM⟩) | (go_at_call 48; have hM0 := hM; clear hM; (first | (with_reducible refine (starq (K3 _) hM0).mono ?_) | fail); clear hM0; rintro _ w ⟨rfl, hM⟩))
      go_ret
      exact ⟨rfl, hM⟩
end Go.Proofs.Ytbnencchfgnbjaa
