/- The walks of the reference's Bit, sign, Text. No condition but that a name has 32 bytes. -/
import Derived.Test.YthjceppddmecdaaTextW
set_option linter.unusedSimpArgs false
set_option linter.unusedVariables false
namespace Go.Proofs.Ythjceppddmecdaa
open Go.RowKit
attribute [local go_sem] extract_mid extract_drop bget bsize wrap64_u8 i64_u8 u64_u8 bappend
attribute [local go_sem] and31
/-- Bit i of a name. -/
def bitOf (l : List UInt8) (i : Nat) : Nat := numOf l / 2 ^ (255 - i) % 2
theorem bitOf_le (l : List UInt8) (i : Nat) : bitOf l i ≤ 1 := by unfold bitOf; omega
theorem bitOf_byte (l : List UInt8) (hl : l.length = 32) (i : Nat) (hi : i < 256) (d : UInt8) (hd : l[i / 8]? = some d) : bitOf l i = d.toNat / 2 ^ (7 - i % 8) % 2 := by
  have h1 : numOf l = numOf (l.take (i / 8 + 1)) * 256 ^ (31 - i / 8) + numOf (l.drop (i / 8 + 1)) := by
    conv => lhs; rw [← List.take_append_drop (i / 8 + 1) l]
    rw [numOf_app, List.length_drop, hl, show 32 - (i / 8 + 1) = 31 - i / 8 by omega]
  have h2 : numOf (l.drop (i / 8 + 1)) < 256 ^ (31 - i / 8) := by
    have := numOf_lt (l.drop (i / 8 + 1))
    rw [List.length_drop, hl] at this
    rwa [show 32 - (i / 8 + 1) = 31 - i / 8 by omega] at this
  have h0 : 0 < 256 ^ (31 - i / 8) := Nat.pow_pos (by decide)
  have h3 : (2 : Nat) ^ (255 - i) = 256 ^ (31 - i / 8) * 2 ^ (7 - i % 8) := by
    rw [show (256 : Nat) = 2 ^ 8 by decide, ← Nat.pow_mul, ← Nat.pow_add]
    congr 1; omega
  unfold bitOf
  rw [h3, ← Nat.div_div_eq_div_mul, h1, Nat.mul_comm (numOf (l.take (i / 8 + 1))), Nat.mul_add_div h0, Nat.div_eq_of_lt h2, Nat.add_zero, take_snoc_at _ _ _ hd, numOf_snoc]
  rcases (by omega : i % 8 = 0 ∨ i % 8 = 1 ∨ i % 8 = 2 ∨ i % 8 = 3 ∨ i % 8 = 4 ∨ i % 8 = 5 ∨ i % 8 = 6 ∨ i % 8 = 7) with h | h | h | h | h | h | h | h <;> rw [h] <;> omega
set_option maxRecDepth 100000 in
theorem rBit_star {F : List SProp} (l : List UInt8) (hl : l.length = 32) (i : Nat) (hi : i < 256) (w : World) (hM : Star F w) :
    Calls Try.prog 43 #[.string ⟨l.toArray⟩, .int .i64 i] w fun r w' => r = .returned (.int .i64 (bitOf l i)) ∧ Star F w' := by
  obtain ⟨b, hb⟩ : ∃ b, b = i / 8 := ⟨_, rfl⟩
  obtain ⟨e, he⟩ : ∃ e, e = i % 8 := ⟨_, rfl⟩
  obtain ⟨d, hd⟩ : ∃ d, l[b]? = some d := ⟨_, List.getElem?_eq_getElem (by omega)⟩
  have hbit := bitOf_byte l hl i hi d (by rw [← hb]; exact hd)
  rw [← he] at hbit
  have q1 : (i : Int).tmod 8 = (e : Int) := by rw [Int.tmod_eq_emod_of_nonneg (by omega)]; omega
  have q2 : (i : Int).tdiv 8 = (b : Int) := by rw [Int.tdiv_eq_ediv_of_nonneg (by omega)]; omega
  have q3 : (i : Int) % 8 = (e : Int) := by omega
  have q4 : (i : Int) / 8 = (b : Int) := by omega
  have he7 : e ≤ 7 := by omega
  have hb32 : b < l.length := by omega
  have hd256 := d.toNat_lt
  have hg := (List.getElem?_eq_some_iff.1 hd).2
  have HB := Lib.hid hbit
  clear hbit he hb
  go_enter Try.func43, Try.ntmps43
  go_wp2
  go_loopw [5, 6] (fun c j wr => ∃ k : Nat, k ≤ 7 - e ∧ j = .int .i64 k ∧ c = .int .i64 ((d.toNat / 2 ^ k : Nat) : Int) ∧ Star F wr) (fun _ j _ => 7 - (intOf j).toNat)
  case atStart => exact ⟨0, by omega, rfl, by simp [hg], hM⟩
  case round =>
    clear hM
    obtain ⟨k, hk, rfl, rfl, hM⟩ := hrel
    have hq : d.toNat / 2 ^ k < 256 := Nat.lt_of_le_of_lt (Nat.div_le_self _ _) hd256
    obtain ⟨x, hx⟩ : ∃ x, x = d.toNat / 2 ^ k := ⟨_, rfl⟩
    rw [← hx] at hq ⊢
    by_cases hlt : k < 7 - e
    · have HX : Hid (d.toNat / 2 ^ (k + 1) = x / 2) := by show _ = _; rw [hx, Nat.pow_succ, Nat.div_div_eq_div_mul]
      clear hx
      have q5 : (x : Int).tdiv 2 = ((x / 2 : Nat) : Int) := by rw [Int.tdiv_eq_ediv_of_nonneg (by omega)]; omega
      go_wp2
      go_roundw
      case rel => exact ⟨k + 1, by omega, by go_num, by rw [HX.out]; first | rfl | (congr 1), hM⟩
      case measure => simp [intOf]; omega
    · obtain rfl : k = 7 - e := by omega
      have HX : Hid (bitOf l i = x % 2) := by show _ = _; rw [HB.out, hx]
      clear hx
      have q5 : (x : Int).tmod 2 = ((x % 2 : Nat) : Int) := by rw [Int.tmod_eq_emod_of_nonneg (by omega)]; omega
      go_wp2
      go_ret
      exact ⟨ret_int (by rw [HX.out]; first | rfl | simp), hM⟩
theorem alpha_dig (n : Nat) (h : n < 32) : (alpha.take (n + 1)).drop n = [alphaAt n] := by
  rw [List.take_add_one, alpha_get n h]
  have : (alpha.take n).length = n := by simp [alpha]; omega
  rw [List.drop_append_of_le_length (by omega), List.drop_of_length_le (by omega)]
  rfl
set_option maxRecDepth 100000 in
theorem rsign_star {F : List SProp} (n : Nat) (hn : n < 32) (w : World) (hM : Star F w) :
    Calls Try.prog 56 #[.int .i64 n] w fun r w' => r = .returned (.string ⟨#[alphaAt n]⟩) ∧ Star F w' := by
  have HG := alpha_dig n hn
  go_enter Try.func56, Try.ntmps56
  go_wp2_with (first | (refine BigFrame.wpList_want (by rfl) fun K hK => ws_of_ex (ex_slice_str (l := alpha) (i := n) (j := n + 1) rfl Try.underlying9 rfl rfl rfl (Nat.le_succ _) (by show n + 1 ≤ 32; omega) HG) (hK _ _ ?_); clear hK K))
  go_ret
  exact ⟨rfl, hM⟩
/-- The first j of the five bits of sign i. -/
def acc5 (V i j : Nat) : Nat := V * 16 / 2 ^ (255 - 5 * i + 5 - j) % 2 ^ j
theorem acc5_zero (V i : Nat) : acc5 V i 0 = 0 := by unfold acc5; omega
theorem acc5_five (V i : Nat) (hi : i < 52) : acc5 V i 5 = dig5 V i := by unfold acc5 dig5; rw [show 255 - 5 * i + 5 - 5 = 255 - 5 * i by omega]
theorem acc5_lt (V i j : Nat) (hj : j ≤ 5) : acc5 V i j < 32 := by
  have h1 : acc5 V i j < 2 ^ j := Nat.mod_lt _ (Nat.pow_pos (by decide))
  have h2 : 2 ^ j ≤ 2 ^ 5 := Nat.pow_le_pow_right (by decide) hj
  omega
theorem acc5_bit (l : List UInt8) (i j : Nat) (hj : j < 5) (h : 5 * i + j < 256) : acc5 (numOf l) i (j + 1) = 2 * acc5 (numOf l) i j + bitOf l (5 * i + j) := by
  unfold acc5
  rw [show 255 - 5 * i + 5 - (j + 1) = 255 - 5 * i + 4 - j by omega, dig5_bits (numOf l) i j hj (by omega)]
  congr 1
  unfold bitOf
  rw [show 255 - 5 * i + 4 - j = 255 - (5 * i + j) + 4 by omega, Nat.pow_add, Nat.mul_div_mul_right _ _ (by decide)]
theorem acc5_none (V i j : Nat) (hj : j < 5) (hi : i < 52) (h : ¬ 5 * i + j < 256) : acc5 V i (j + 1) = 2 * acc5 V i j := by
  unfold acc5
  rw [show 255 - 5 * i + 5 - (j + 1) = 255 - 5 * i + 4 - j by omega, dig5_bits V i j hj hi]
  have hz : V * 16 / 2 ^ (255 - 5 * i + 4 - j) % 2 = 0 := by
    rcases (by omega : 255 - 5 * i + 4 - j = 0 ∨ 255 - 5 * i + 4 - j = 1 ∨ 255 - 5 * i + 4 - j = 2 ∨ 255 - 5 * i + 4 - j = 3) with e | e | e | e <;> rw [e] <;> omega
  rw [hz, Nat.add_zero]
set_option maxRecDepth 100000 in
set_option maxHeartbeats 2000000 in
theorem rText_star {F : List SProp} (l : List UInt8) (hl : l.length = 32) (w : World) (hM : Star F w) :
    Calls Try.prog 39 #[.string ⟨l.toArray⟩] w fun r w' => r = .returned (.string ⟨(textOf l).toArray⟩) ∧ Star F w' := by
  go_enter Try.func39, Try.ntmps39
  go_wp2
  go_loopw [3, 4] (fun out i wr => ∃ k : Nat, k ≤ 52 ∧ i = .int .i64 k ∧ out = .string ⟨((textOf l).take k).toArray⟩ ∧ Star F wr) (fun _ i _ => 52 - (intOf i).toNat)
  case atStart => exact ⟨0, by omega, rfl, rfl, hM⟩
  case round =>
    clear hM
    obtain ⟨k, hk, rfl, rfl, hM⟩ := hrel
    have htl : ((textOf l).take k).length ≤ 52 := by simp; omega
    by_cases hlt : k < 52
    · have HD := Lib.hid (textOf_snoc l k hlt)
      have hltI : (k : Int) < 52 := by omega
      go_wp2
      obtain ⟨wq, rfl⟩ : ∃ wq : World, wq = wr := ⟨_, rfl⟩
      go_loopw [5, 6] (fun n q wx => ∃ j m : Nat, j ≤ 5 ∧ m = 5 * k + j ∧ q = .int .i64 m ∧ n = .int .i64 (acc5 (numOf l) k j) ∧ Star F wx) (fun _ q _ => 5 * k + 5 - (intOf q).toNat)
      case atStart => exact ⟨0, 5 * k, by omega, by omega, by go_num, by rw [acc5_zero]; rfl, hM⟩
      case round =>
        clear hM
        obtain ⟨j, m, hj, hm, rfl, rfl, hM⟩ := hrel
        have hb5 := acc5_lt (numOf l) k j hj
        by_cases hj5 : j < 5
        · by_cases hm2 : m < 256
          · have HA : Hid (acc5 (numOf l) k (j + 1) = 2 * acc5 (numOf l) k j + bitOf l m) := by show _ = _; rw [acc5_bit l k j hj5 (by omega), hm]
            have hbl := bitOf_le l m
            have hc : m < 5 * k + 5 := by omega
            have HM := Lib.hid hm
            clear hm
            go_wp2_with (first | (go_at_call 43; have hM0 := hM; clear hM; (first | (with_reducible refine (rBit_star l hl m hm2 _ hM0).mono ?_) | fail); clear hM0; rintro _ w ⟨rfl, hM⟩))
            go_roundw
            case rel => exact ⟨j + 1, m + 1, by omega, (by have := HM.out; omega), by go_num, by rw [HA.out]; go_num, hM⟩
            case measure => simp [intOf]; omega
          · have HA : Hid (acc5 (numOf l) k (j + 1) = 2 * acc5 (numOf l) k j) := by show _ = _; rw [acc5_none _ k j hj5 hlt (by omega)]
            have hc : m < 5 * k + 5 := by omega
            go_wp2
            go_roundw
            case rel => exact ⟨j + 1, m + 1, by omega, by omega, by go_num, by rw [HA.out]; go_num, hM⟩
            case measure => simp [intOf]; omega
        · obtain rfl : j = 5 := by omega
          have hz32 := dig5_lt (numOf l) k
          have HZ : Hid (acc5 (numOf l) k 5 = dig5 (numOf l) k) := acc5_five _ _ hlt
          rw [HZ.out]
          generalize dig5 (numOf l) k = z at HD hz32
          go_wp2_with (first | (go_at_call 56; have hM0 := hM; clear hM; (first | (with_reducible refine (rsign_star z hz32 _ hM0).mono ?_) | fail); clear hM0; rintro _ w ⟨rfl, hM⟩))
          go_roundw
          case rel => exact ⟨k + 1, by omega, by go_num, by rw [HD.out], hM⟩
          case measure => simp [intOf]; omega
    · obtain rfl : k = 52 := by omega
      go_wp2
      go_ret
      exact ⟨ret_str (by rw [List.take_of_length_le (by rw [textOf_len]; omega)]), hM⟩
end Go.Proofs.Ythjceppddmecdaa
