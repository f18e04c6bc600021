/- SHA-256 in plain words: the block's words, the rounds, padding, the sum; and that the two ways to write the round functions are one. No program in sight; no condition. -/
import Derived.Test.YthjceppddmecdaaBaleP
set_option linter.unusedSimpArgs false
set_option linter.unusedVariables false
namespace Go.Proofs.Ythjceppddmecdaa

/-- A word, turned to the right. -/
def rotr (x : UInt32) (n : Nat) : UInt32 := UInt32.ofNat (x.toNat / 2 ^ n + x.toNat * 2 ^ (32 - n) % 4294967296)
def shr32 (x : UInt32) (n : Nat) : UInt32 := UInt32.ofNat (x.toNat / 2 ^ n)
def K64 : List UInt32 := [
  0x428a2f98, 0x71374491, 0xb5c0fbcf, 0xe9b5dba5, 0x3956c25b, 0x59f111f1, 0x923f82a4, 0xab1c5ed5,
  0xd807aa98, 0x12835b01, 0x243185be, 0x550c7dc3, 0x72be5d74, 0x80deb1fe, 0x9bdc06a7, 0xc19bf174,
  0xe49b69c1, 0xefbe4786, 0x0fc19dc6, 0x240ca1cc, 0x2de92c6f, 0x4a7484aa, 0x5cb0a9dc, 0x76f988da,
  0x983e5152, 0xa831c66d, 0xb00327c8, 0xbf597fc7, 0xc6e00bf3, 0xd5a79147, 0x06ca6351, 0x14292967,
  0x27b70a85, 0x2e1b2138, 0x4d2c6dfc, 0x53380d13, 0x650a7354, 0x766a0abb, 0x81c2c92e, 0x92722c85,
  0xa2bfe8a1, 0xa81a664b, 0xc24b8b70, 0xc76c51a3, 0xd192e819, 0xd6990624, 0xf40e3585, 0x106aa070,
  0x19a4c116, 0x1e376c08, 0x2748774c, 0x34b0bcb5, 0x391c0cb3, 0x4ed8aa4a, 0x5b9cca4f, 0x682e6ff3,
  0x748f82ee, 0x78a5636f, 0x84c87814, 0x8cc70208, 0x90befffa, 0xa4506ceb, 0xbef9a3f7, 0xc67178f2]
theorem K64_len : K64.length = 64 := by decide

def s0 (x : UInt32) : UInt32 := rotr x 7 ^^^ rotr x 18 ^^^ shr32 x 3
def s1 (x : UInt32) : UInt32 := rotr x 17 ^^^ rotr x 19 ^^^ shr32 x 10
def S1 (e : UInt32) : UInt32 := rotr e 6 ^^^ rotr e 11 ^^^ rotr e 25
def S0 (a : UInt32) : UInt32 := rotr a 2 ^^^ rotr a 13 ^^^ rotr a 22
def chf (e f g : UInt32) : UInt32 := (e &&& f) ||| (~~~e &&& g)
def maj (a b c : UInt32) : UInt32 := (a &&& (b ||| c)) ||| (b &&& c)
theorem chf_xor (e f g : UInt32) : (e &&& f) ^^^ (~~~e &&& g) = chf e f g := by
  unfold chf
  apply UInt32.toBitVec_inj.1
  apply BitVec.eq_of_getLsbD_eq
  intro i hi
  simp only [UInt32.toBitVec_and, UInt32.toBitVec_or, UInt32.toBitVec_xor, UInt32.toBitVec_not, BitVec.getLsbD_and, BitVec.getLsbD_or, BitVec.getLsbD_xor, BitVec.getLsbD_not]
  cases e.toBitVec.getLsbD i <;> cases f.toBitVec.getLsbD i <;> cases g.toBitVec.getLsbD i <;> simp
theorem maj_xor (a b c : UInt32) : (a &&& b) ^^^ (a &&& c) ^^^ (b &&& c) = maj a b c := by
  unfold maj
  apply UInt32.toBitVec_inj.1
  apply BitVec.eq_of_getLsbD_eq
  intro i hi
  simp only [UInt32.toBitVec_and, UInt32.toBitVec_or, UInt32.toBitVec_xor, BitVec.getLsbD_and, BitVec.getLsbD_or, BitVec.getLsbD_xor]
  cases a.toBitVec.getLsbD i <;> cases b.toBitVec.getLsbD i <;> cases c.toBitVec.getLsbD i <;> simp

/-- Four bytes as a word. -/
def word4 (a b c d : UInt8) : UInt32 := UInt32.ofNat (a.toNat * 16777216 + b.toNat * 65536 + c.toNat * 256 + d.toNat)
/-- The next word of the schedule, of those so far. -/
def nextW (l : List UInt32) : UInt32 := l.getD (l.length - 16) 0 + l.getD (l.length - 7) 0 + s0 (l.getD (l.length - 15) 0) + s1 (l.getD (l.length - 2) 0)
def wordAt (b : List UInt8) (i : Nat) : UInt32 := word4 (b.getD (4 * i) 0) (b.getD (4 * i + 1) 0) (b.getD (4 * i + 2) 0) (b.getD (4 * i + 3) 0)
/-- The first k words of a block's schedule. -/
def sched (b : List UInt8) : Nat → List UInt32
  | 0 => []
  | k + 1 => sched b k ++ [if k < 16 then wordAt b k else nextW (sched b k)]
theorem sched_len (b : List UInt8) (k : Nat) : (sched b k).length = k := by
  induction k with
  | zero => rfl
  | succ k ih => simp [sched, ih]
theorem sched_get (b : List UInt8) (k j : Nat) (h : j < k) : (sched b k)[j]? = (sched b (j + 1))[j]? := by
  induction k with
  | zero => omega
  | succ k ih =>
    by_cases hj : j = k
    · subst hj; rfl
    · have : j < k := by omega
      rw [← ih this]
      simp only [sched]
      rw [List.getElem?_append_left (by rw [sched_len]; exact this)]

/-- Eight words. -/
structure W8 where
  (a b c d e f g h : UInt32)
def W8.list (s : W8) : List UInt32 := [s.a, s.b, s.c, s.d, s.e, s.f, s.g, s.h]
def rnd (k w : UInt32) (s : W8) : W8 :=
  let t := s.h + k + w + S1 s.e + chf s.e s.f s.g
  let u := S0 s.a + maj s.a s.b s.c
  ⟨t + u, s.a, s.b, s.c, s.d + t, s.e, s.f, s.g⟩
/-- The first n rounds. -/
def rnds (ws : List UInt32) (s : W8) : Nat → W8
  | 0 => s
  | n + 1 => rnd (K64.getD n 0) (ws.getD n 0) (rnds ws s n)
def W8.add (s t : W8) : W8 := ⟨s.a + t.a, s.b + t.b, s.c + t.c, s.d + t.d, s.e + t.e, s.f + t.f, s.g + t.g, s.h + t.h⟩
/-- The state behind a block. -/
def mix (s : W8) (b : List UInt8) : W8 := s.add (rnds (sched b 64) s 64)
def iv0 : W8 := ⟨0x6a09e667, 0xbb67ae85, 0x3c6ef372, 0xa54ff53a, 0x510e527f, 0x9b05688c, 0x1f83d9ab, 0x5be0cd19⟩
/-- The state behind n whole blocks. -/
def mixN (s : W8) : Nat → List UInt8 → W8
  | 0, _ => s
  | n + 1, l => mixN (mix s (l.take 64)) n (l.drop 64)
theorem mixN_add (s : W8) (n m : Nat) (l : List UInt8) : mixN s (n + m) l = mixN (mixN s n l) m (l.drop (64 * n)) := by
  induction n generalizing s l with
  | zero => simp [mixN]
  | succ n ih =>
    rw [Nat.add_right_comm]
    simp only [mixN]
    rw [ih, List.drop_drop]
    congr 2
    omega
theorem mixN_app (s : W8) (n : Nat) (l m : List UInt8) (h : 64 * n ≤ l.length) : mixN s n (l ++ m) = mixN s n l := by
  induction n generalizing s l with
  | zero => rfl
  | succ n ih =>
    simp only [mixN]
    rw [List.take_append_of_le_length (by omega), List.drop_append_of_le_length (by omega), ih _ _ (by simp; omega)]
/-- A word's bytes. -/
def wbytes (x : UInt32) : List UInt8 := [UInt8.ofNat (x.toNat / 16777216), UInt8.ofNat (x.toNat / 65536), UInt8.ofNat (x.toNat / 256), UInt8.ofNat x.toNat]
def W8.bytes (s : W8) : List UInt8 := s.list.flatMap wbytes
theorem W8.bytes_len (s : W8) : s.bytes.length = 32 := by simp [W8.bytes, W8.list, wbytes]
/-- How many zeros follow the byte 128. -/
def zerosN (n : Nat) : Nat := (119 - n % 64) % 64
/-- A length's eight bytes, in bits. -/
def lenBytes (n : Nat) : List UInt8 := (List.range 8).map fun i => UInt8.ofNat (n * 8 / 256 ^ (7 - i))
def pad (l : List UInt8) : List UInt8 := l ++ (128 :: List.replicate (zerosN l.length) 0) ++ lenBytes l.length
theorem pad_len (l : List UInt8) : (pad l).length = 64 * ((l.length + 8) / 64 + 1) := by
  simp [pad, lenBytes, zerosN]
  omega
/-- The sum. -/
def sha (l : List UInt8) : List UInt8 := (mixN iv0 ((l.length + 8) / 64 + 1) (pad l)).bytes
theorem sha_len (l : List UInt8) : (sha l).length = 32 := W8.bytes_len _
theorem sha_abc : sha [97, 98, 99] = [0xba, 0x78, 0x16, 0xbf, 0x8f, 0x01, 0xcf, 0xea, 0x41, 0x41, 0x40, 0xde, 0x5d, 0xae, 0x22, 0x23, 0xb0, 0x03, 0x61, 0xa3, 0x96, 0x17, 0x7a, 0x9c, 0xb4, 0x10, 0xff, 0x61, 0xf2, 0x00, 0x15, 0xad] := by decide +kernel
end Go.Proofs.Ythjceppddmecdaa
