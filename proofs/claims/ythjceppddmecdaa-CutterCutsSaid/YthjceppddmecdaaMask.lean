/- The walks of gear.Mask and of the reference's Mask. No condition. -/
import Derived.Test.YthjceppddmecdaaBaleE
import Derived.Test.YthjceppddmecdaaMore
import Derived.Laws.Bits64b
import Derived.Laws.BitsAllLaws
set_option linter.unusedSimpArgs false
set_option linter.unusedVariables false
namespace Go.Proofs.Ythjceppddmecdaa
open Go.RowKit
attribute [local go_sem] extract_mid extract_drop bget bsize wrap64_u8 i64_u8 u64_u8 bappend
def mskBit (k : Nat) : Nat := 2 ^ (63 - k % 16 * 3 - k / 16)
/-- A number with k bits. -/
def msk : Nat → Nat
  | 0 => 0
  | k + 1 => msk k ||| mskBit k
theorem msk_facts : ∀ k, k < 49 → msk k < 18446744073709551616 ∧ mskBit k < 18446744073709551616 ∧ (k < 48 → msk k + mskBit k = (msk k ||| mskBit k)) := by
  decide +kernel
theorem wrap_pow (e : Nat) (he : e ≤ 63) : IntKind.u64.wrap ((2 : Int) ^ e) = ((2 ^ e : Nat) : Int) := by
  have h : 2 ^ e ≤ 2 ^ 63 := Nat.pow_le_pow_right (by decide) he
  have h2 : ((2 ^ e : Nat) : Int) ≤ 9223372036854775808 := by
    have : (2 ^ 63 : Nat) = 9223372036854775808 := by decide
    omega
  rw [Int.natCast_pow] at h2 ⊢
  exact IntWalk.u64_in _ ⟨by have := Int.natCast_nonneg (2 ^ e); rw [Int.natCast_pow] at this; exact this, by simpa using (by omega : ((2 : Nat) : Int) ^ e ≤ 18446744073709551615)⟩
def clampN (x : Int) : Nat := (max 0 (min x 48)).toNat
theorem clampN_le (x : Int) : clampN x ≤ 48 := by unfold clampN; omega
theorem or_msk (k : Nat) (h : k < 48) : bits .or .u64 (msk k : Int) (mskBit k : Int) = (msk (k + 1) : Int) := by
  have := msk_facts k (by omega)
  rw [bits_or_u64_nat _ _ this.1 this.2.1]
  rfl
set_option maxRecDepth 100000 in
theorem mask_any (x : Int) (w : World) : Calls Try.prog 66 #[.int .i64 x] w fun r w' => r = .returned (.int .u64 (msk (clampN x))) ∧ w = w' := by
  obtain ⟨m, h1⟩ : ∃ m : Int, (if 48 < x then (48 : Int) else x) = m := ⟨_, rfl⟩
  obtain ⟨N, h2⟩ : ∃ N : Nat, (if 0 < m then m else 0) = (N : Int) := ⟨(if 0 < m then m else 0).toNat, by split <;> omega⟩
  have hN : clampN x = N := by
    unfold clampN
    rw [← Int.natCast_inj, ← h2, ← h1]
    split <;> split <;> omega
  have hNl := clampN_le x
  rw [hN] at hNl ⊢
  clear hN
  go_enter Try.func66, Try.ntmps66
  go_wp2
  go_loopw [3, 8] (fun v i wr => ∃ k : Nat, k ≤ N ∧ i = .int .i64 k ∧ v = .int .u64 (msk k) ∧ w = wr) (fun _ i _ => N - (intOf i).toNat)
  case atStart => exact ⟨0, by omega, rfl, rfl, rfl⟩
  case round =>
    obtain ⟨k, hk, rfl, rfl, rfl⟩ := hrel
    by_cases hlt : k < N
    · have HO := Lib.hid (or_msk k (by omega))
      obtain ⟨a, ha⟩ : ∃ a, a = k % 16 := ⟨_, rfl⟩
      obtain ⟨b, hb⟩ : ∃ b, b = k / 16 := ⟨_, rfl⟩
      have hMB : Hid (mskBit k = 2 ^ (63 - a * 3 - b)) := by show _ = _; rw [ha, hb]; rfl
      have q1 : (k : Int).tmod 16 = (a : Int) := by rw [Int.tmod_eq_emod_of_nonneg (by omega)]; omega
      have q2 : (k : Int).tdiv 16 = (b : Int) := by rw [Int.tdiv_eq_ediv_of_nonneg (by omega)]; omega
      have q3 : (k : Int) % 16 = (a : Int) := by omega
      have q4 : (k : Int) / 16 = (b : Int) := by omega
      have ha2 : a ≤ 15 := by omega
      have hb2 : b ≤ 2 := by omega
      clear ha hb
      go_wp2
      go_roundw
      case rel => exact ⟨k + 1, by omega, by go_num, by rw [wrap_pow _ (by omega), ← hMB.out, HO.out], trivial⟩
      case measure => simp [intOf]; omega
    · obtain rfl : k = N := by omega
      go_wp2
      go_ret
      exact ⟨rfl, rfl⟩
theorem msk_add (k : Nat) (h : k < 48) : IntKind.u64.wrap ((msk k : Int) + (mskBit k : Int)) = (msk (k + 1) : Int) := by
  have h1 := msk_facts k (by omega)
  have h2 := msk_facts (k + 1) (by omega)
  have h3 : msk k + mskBit k = msk (k + 1) := h1.2.2 h
  rw [IntWalk.u64_in _ (by omega)]
  omega
set_option maxRecDepth 100000 in
theorem rMask_any (x : Int) (w : World) : Calls Try.prog 64 #[.int .i64 x] w fun r w' => r = .returned (.int .u64 (msk (clampN x))) ∧ w = w' := by
  have hNl := clampN_le x
  have hN : ∀ k : Nat, k ≤ clampN x → ((k : Int) < x ∧ k < 48 ↔ k < clampN x) := by intro k hk; unfold clampN at hk ⊢; omega
  generalize clampN x = N at hNl hN ⊢
  go_enter Try.func64, Try.ntmps64
  go_wp2
  go_loopw [3, 4] (fun v i wr => ∃ k : Nat, k ≤ N ∧ i = .int .i64 k ∧ v = .int .u64 (msk k) ∧ w = wr) (fun _ i _ => N - (intOf i).toNat)
  case atStart => exact ⟨0, by omega, rfl, rfl, rfl⟩
  case round =>
    obtain ⟨k, hk, rfl, rfl, rfl⟩ := hrel
    have hNk := hN k hk
    by_cases hlt : k < N
    · obtain ⟨hx1, hx2⟩ := hNk.2 hlt
      have HO := Lib.hid (msk_add k (by omega))
      obtain ⟨a, ha⟩ : ∃ a, a = k % 16 := ⟨_, rfl⟩
      obtain ⟨b, hb⟩ : ∃ b, b = k / 16 := ⟨_, rfl⟩
      have hMB : Hid (mskBit k = 2 ^ (63 - 3 * a - b)) := by show _ = _; rw [ha, hb, Nat.mul_comm 3]; rfl
      have q1 : (k : Int).tmod 16 = (a : Int) := by rw [Int.tmod_eq_emod_of_nonneg (by omega)]; omega
      have q2 : (k : Int).tdiv 16 = (b : Int) := by rw [Int.tdiv_eq_ediv_of_nonneg (by omega)]; omega
      have q3 : (k : Int) % 16 = (a : Int) := by omega
      have q4 : (k : Int) / 16 = (b : Int) := by omega
      have ha2 : a ≤ 15 := by omega
      have hb2 : b ≤ 2 := by omega
      clear ha hb hN hNk
      go_wp2
      go_roundw
      case rel => exact ⟨k + 1, by omega, by go_num, by rw [wrap_pow _ (by omega), ← hMB.out, HO.out], trivial⟩
      case measure => simp [intOf]; omega
    · obtain rfl : k = N := by omega
      have hno : ¬ ((k : Int) < x ∧ k < 48) := fun h => by have := hNk.1 h; omega
      clear hN hNk
      go_wp2
      all_goals
        go_ret
        exact ⟨rfl, rfl⟩
def bitCount (m : Nat) : Nat → Nat
  | 0 => 0
  | i + 1 => bitCount m i + (if m >>> i &&& 1 = 1 then 1 else 0)
theorem msk_count : ∀ k, k < 49 → bitCount (msk k) 64 = k ∧ msk k &&& 65535 = 0 := by decide +kernel
theorem bitCount_le (m : Nat) : ∀ i, bitCount m i ≤ i
  | 0 => Nat.le_refl _
  | i + 1 => by have := bitCount_le m i; unfold bitCount; split <;> omega
theorem msk_less : ∀ b, b < 49 → ∀ a, a ≤ b → msk a &&& (18446744073709551615 - msk b) = 0 := by decide +kernel
end Go.Proofs.Ythjceppddmecdaa
