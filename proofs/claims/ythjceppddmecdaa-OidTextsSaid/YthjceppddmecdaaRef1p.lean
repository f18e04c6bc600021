/- The walk of the reference's Padded. No condition but that not too many bytes come. -/
import Derived.Test.YthjceppddmecdaaRef1
set_option linter.unusedSimpArgs false
set_option linter.unusedVariables false
namespace Go.Proofs.Ythjceppddmecdaa
open Go.RowKit
attribute [local go_sem] extract_mid extract_drop bget bsize wrap64_u8 i64_u8 u64_u8 bappend
theorem zeros_fact2 (n : Nat) : (n + 1 + zerosN n) % 64 = 56 ∧ zerosN n < 64 ∧ ∀ j, j < zerosN n → (n + 1 + j) % 64 ≠ 56 := by
  unfold zerosN
  refine ⟨by omega, by omega, fun j hj => by omega⟩
theorem u8_same (a b : Nat) (h : a % 256 = b % 256) : UInt8.ofNat a = UInt8.ofNat b := by
  apply UInt8.toNat_inj.1
  simpa using h
theorem len_words (n : Nat) (h : n ≤ 1000000000000000) : wbytes (UInt32.ofNat (n / 536870912)) ++ wbytes (UInt32.ofNat (n % 536870912 * 8)) = lenBytes n := by
  have h1 : (UInt32.ofNat (n / 536870912)).toNat = n / 536870912 := by simp; omega
  have h2 : (UInt32.ofNat (n % 536870912 * 8)).toNat = n % 536870912 * 8 := by simp; omega
  have hr : List.range 8 = [0, 1, 2, 3, 4, 5, 6, 7] := by decide
  unfold wbytes lenBytes
  rw [h1, h2, hr]
  simp only [List.map_cons, List.map_nil, List.cons_append, List.nil_append, List.cons.injEq, and_true]
  refine ⟨u8_same _ _ ?_, u8_same _ _ ?_, u8_same _ _ ?_, u8_same _ _ ?_, u8_same _ _ ?_, u8_same _ _ ?_, u8_same _ _ ?_, u8_same _ _ ?_⟩ <;> (simp only [Nat.reducePow, Nat.reduceSub]; omega)
theorem wrap_w32 (x : UInt32) : IntKind.u32.wrap (w32 x) = w32 x := by have := w32_lt x; exact IntWalk.u32_in _ (by omega)
theorem mod_w32 (x : UInt32) : w32 x % 4294967296 = w32 x := by have := w32_lt x; omega
attribute [local go_sem] wrap_w32 mod_w32
set_option maxRecDepth 100000 in
set_option maxHeartbeats 4000000 in
theorem padded_star {F : List SProp} (l : List UInt8) (hl : l.length ≤ 1000000000000) (w : World) (hM : Star F w) :
    Calls Try.prog 71 #[.string ⟨l.toArray⟩] w fun r w' => r = .returned (.string ⟨(pad l).toArray⟩) ∧ Star F w' := by
  obtain ⟨x1, e1⟩ : ∃ x, x = UInt32.ofNat (l.length / 536870912) := ⟨_, rfl⟩
  obtain ⟨x2, e2⟩ : ∃ x, x = UInt32.ofNat (l.length % 536870912 * 8) := ⟨_, rfl⟩
  have q1 : (l.length : Int) / 536870912 = w32 x1 := by rw [e1]; unfold w32; simp; omega
  have q2 : (l.length : Int) % 536870912 * 8 = w32 x2 := by rw [e2]; unfold w32; simp; omega
  have HW : Hid (wbytes x1 ++ wbytes x2 = lenBytes l.length) := by show _ = _; rw [e1, e2]; exact len_words _ (by omega)
  have hZ := zeros_fact2 l.length
  obtain ⟨Z, hZd⟩ : ∃ Z, Z = zerosN l.length := ⟨_, rfl⟩
  rw [← hZd] at hZ
  have HZ1 := Lib.hid hZ.1
  have HZ2 := Lib.hid hZ.2.2
  have hZ64 := hZ.2.1
  have HP : Hid (pad l = l ++ [128] ++ List.replicate Z 0 ++ lenBytes l.length) := by show _ = _; rw [hZd]; simp [pad]
  clear hZ hZd e1 e2
  have Q1 := Lib.hid q1
  have Q2 := Lib.hid q2
  clear q1 q2
  go_enter Try.func71, Try.ntmps71
  go_wp2_with fail
  go_loopw [4, 5] (fun v i wr => ∃ (j : Nat) (X : List UInt8), j ≤ Z ∧ i = .int .i64 j ∧ v = .string ⟨X.toArray⟩ ∧ Hid (X = l ++ [128] ++ List.replicate j 0) ∧ Star F wr) (fun _ i _ => 64 - (intOf i).toNat)
  case atStart => exact ⟨0, l ++ [128], by omega, rfl, rfl, (by show _ = _; simp), hM⟩
  case round =>
    clear hM
    obtain ⟨j, X, hj, rfl, rfl, hX, hM⟩ := hrel
    have hXl : X.length = l.length + 1 + j := by rw [hX.out]; simp; omega
    have hXb : X.length ≤ 1000000001000 := by omega
    by_cases hlt : j < Z
    · have hne : X.length % 64 ≠ 56 := by rw [hXl]; exact HZ2.out j hlt
      have hne1 : (((X.length : Int) % 64) != 56) = true := by simp; omega
      have hne2 : (((X.length : Int) % 64) == 56) = false := by simp; omega
      have j64 : j < 64 := by omega
      clear hne hXl
      go_wp2_with fail
      go_roundw
      case rel => exact ⟨j + 1, X ++ [0], by omega, by go_num, rfl, (by show _ = _; rw [hX.out, List.replicate_succ', List.append_assoc]), hM⟩
      case measure => simp [intOf]; omega
    · obtain rfl : j = Z := by omega
      have heq : X.length % 64 = 56 := by rw [hXl]; exact HZ1.out
      have hne1 : (((X.length : Int) % 64) != 56) = false := by simp; omega
      have hne2 : (((X.length : Int) % 64) == 56) = true := by simp; omega
      clear heq hXl
      have w1 : (wbytes x1).length ≤ 4 := by simp [wbytes]
      have w2 : (wbytes x2).length ≤ 4 := by simp [wbytes]
      have q1 := Q1.out
      have q2 := Q2.out
      go_wp2_with (first | (go_at_call 61; have hM0 := hM; clear hM; (first | (with_reducible refine (wbytes_star x1 _ hM0).mono ?_) | fail); clear hM0; rintro _ w ⟨rfl, hM⟩) | (go_at_call 61; have hM0 := hM; clear hM; (first | (with_reducible refine (wbytes_star x2 _ hM0).mono ?_) | fail); clear hM0; rintro _ w ⟨rfl, hM⟩))
      go_ret
      exact ⟨ret_str (by rw [HP.out, ← HW.out, ← hX.out]), hM⟩
end Go.Proofs.Ythjceppddmecdaa
