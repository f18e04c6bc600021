/- What the laws share, part 2 (At, ArrEq, Text, Sha, Word, Turn, Spread, Rounds, Region, Block, HashP, HashW, HashS, HashO, HashU, TextW, OidP, Oid). No condition but those that each theorem names. -/
import Derived.Test.YtnckgkgilnmocaaDep1
import Derived.Deep.LoopGhost
import Derived.Laws.BitsLemmas
import Derived.Laws.Externs
import Derived.Laws.ResultCell
import Derived.Laws.StructEq
import Derived.Lib.Builder
import Derived.Lib.Bytealg
import Derived.Lib.UnsafeStr
import Derived.StillTailTactics
import Derived.Test.YtnckgkgilnmocaaRows
set_option linter.unusedSimpArgs false
set_option linter.unusedVariables false
namespace Go.Proofs.Ytnckgkgilnmocaa
open Go.RowKit
section
variable {P : Program} {w : World} {ops : Array Oper} {rest : List Oper} {a : Act} {Q : Exit → Act → World → Prop} {d : Option Tmp} {tp : TypeId} {pos : String} {af : Array Edge} {g : Option (Nat × Bool)}
theorem at_load' {ty : TypeId} {x : Operand} (h : wpList P ops Q (⟨d, .load ty x, tp, pos, af, g⟩ :: rest) a w) : wpList P ops Q (⟨d, .load ty x, tp, pos, af, g⟩ :: rest) a w := h
theorem at_store' {ty : TypeId} {x y : Operand} (h : wpList P ops Q (⟨d, .store ty x y, tp, pos, af, g⟩ :: rest) a w) : wpList P ops Q (⟨d, .store ty x y, tp, pos, af, g⟩ :: rest) a w := h
theorem at_alloc' {ty : TypeId} (h : wpList P ops Q (⟨d, .alloc ty, tp, pos, af, g⟩ :: rest) a w) : wpList P ops Q (⟨d, .alloc ty, tp, pos, af, g⟩ :: rest) a w := h
theorem at_box' {ty : TypeId} {x : Operand} (h : wpList P ops Q (⟨d, .box ty x, tp, pos, af, g⟩ :: rest) a w) : wpList P ops Q (⟨d, .box ty x, tp, pos, af, g⟩ :: rest) a w := h
theorem at_slice' {ty : TypeId} {n : Nat} {xs : Array (Nat × Operand)} (h : wpList P ops Q (⟨d, .buildSlice ty n xs, tp, pos, af, g⟩ :: rest) a w) : wpList P ops Q (⟨d, .buildSlice ty n xs, tp, pos, af, g⟩ :: rest) a w := h
theorem at_build' {ty : TypeId} {xs : Array (Nat × Operand)} (h : wpList P ops Q (⟨d, .build ty xs, tp, pos, af, g⟩ :: rest) a w) : wpList P ops Q (⟨d, .build ty xs, tp, pos, af, g⟩ :: rest) a w := h
theorem at_convert' {s t : TypeId} {x : Operand} (h : wpList P ops Q (⟨d, .convert s t x, tp, pos, af, g⟩ :: rest) a w) : wpList P ops Q (⟨d, .convert s t x, tp, pos, af, g⟩ :: rest) a w := h
theorem at_make' {t : TypeId} {x y : Operand} (h : wpList P ops Q (⟨d, .makeSlice t x y, tp, pos, af, g⟩ :: rest) a w) : wpList P ops Q (⟨d, .makeSlice t x y, tp, pos, af, g⟩ :: rest) a w := h
theorem at_bin' {op : BinOp} {t ty : TypeId} {x y : Operand} (h : wpList P ops Q (⟨d, .binOp op t x y ty, tp, pos, af, g⟩ :: rest) a w) : wpList P ops Q (⟨d, .binOp op t x y ty, tp, pos, af, g⟩ :: rest) a w := h
theorem at_call' {c : Call} (h : wpList P ops Q (⟨d, .call c, tp, pos, af, g⟩ :: rest) a w) : wpList P ops Q (⟨d, .call c, tp, pos, af, g⟩ :: rest) a w := h
end
section
variable {P : Program} {w : World} {o : Oper} {a : Act} {t ty : TypeId} {x y : Operand}
theorem ex_add (ho : o.op = .binOp .add t x y ty) {i j s : Int} (hx : a.eval x = .int .i64 i) (hy : a.eval y = .int .i64 j) (hs : IntKind.i64.wrap (i + j) = s) : (execOp a.eval o).run P w = .ok (.value (.int .i64 s)) w := by
  unfold execOp
  simp only [ho, hx, hy]
  simp [go_sem]
  exact hs
theorem ex_eqs (ho : o.op = .binOp .eql t x y ty) {s u : List UInt8} (hx : a.eval x = .string ⟨s.toArray⟩) (hy : a.eval y = .string ⟨u.toArray⟩) {b : Bool} (hb : (decide (s = u)) = b) : (execOp a.eval o).run P w = .ok (.value (.bool b)) w := by
  subst hb
  unfold execOp
  simp only [ho, hx, hy]
  simp [go_sem]
  rw [Bool.eq_iff_iff]; simp
end
/-- Results: a row in a cell, and a slot. -/
theorem results_row_tmp {P : Program} {fn : Func} {p u : Tmp} {ty : TypeId} (h : fn.results = #[.cell p ty, .tmp u]) (tmps : Array Value) (w : World) (g : Nat) (t : TypeId) (cs : Array Value) (n : Nat) (v : Value) (hp : tmps.getD p undef = .pointer (some ⟨g, 0, none⟩)) (hv : tmps.getD u undef = v) (hg : Blk w g t cs) (hn : cs.size = n) (hr : rowTy P ty n = true) :
    (results fn tmps).run P w = .ok (.tuple #[.agg cs, v]) w := by
  obtain ⟨⟨d, h1, h2⟩, h3⟩ := rowTy_und hr
  rw [results_cell_tmp h, hp, hv]
  simp [asAddr, run_loadVar_row w g t ty cs (0, 0) d hg h1 (by cases d <;> simp_all) (by rw [h3, hn])]
theorem results_row {P : Program} {fn : Func} {p : Tmp} {ty : TypeId} (h : fn.results = #[.cell p ty]) (tmps : Array Value) (w : World) (g : Nat) (t : TypeId) (cs : Array Value) (n : Nat) (hp : tmps.getD p undef = .pointer (some ⟨g, 0, none⟩)) (hg : Blk w g t cs) (hn : cs.size = n) (hr : rowTy P ty n = true) :
    (results fn tmps).run P w = .ok (.agg cs) w := by
  obtain ⟨⟨d, h1, h2⟩, h3⟩ := rowTy_und hr
  exact results_cell_row h tmps w g t cs (0, 0) d hp hg h1 (by cases d <;> simp_all) (by rw [h3, hn])
end Go.Proofs.Ytnckgkgilnmocaa
set_option linter.unusedSimpArgs false
set_option linter.unusedVariables false
namespace Go.Proofs.Ytnckgkgilnmocaa
open Go.RowKit
attribute [local go_sem] extract_mid extract_drop bget bsize wrap64_u8 i64_u8 u64_u8 bappend
/-- '==' on two arrays of bytes, any answer. -/
theorem run_bin_arr {P : Program} (w : World) (t e : TypeId) (n : Nat) (ht : P.underlying t = some (.array n e)) (he : P.underlying e = some (.int .u8)) (hi : (P.info? e).map (·.size) = some 1) (xs ys : List UInt8) (hx : xs.length = n) (hy : ys.length = n) :
    (binOp .eql t (.agg (bvs xs).toArray) (.agg (bvs ys).toArray)).run P w = .ok (.bool (decide (xs = ys))) w := by
  have h1 := run_eql_bytes w t e n ht he hi xs ys hx hy 9998
  simp only [binOp]
  simp [Op.equal, Op.maxDepth, h1]
theorem run_bin_arrN {P : Program} (w : World) (t e : TypeId) (n : Nat) (ht : P.underlying t = some (.array n e)) (he : P.underlying e = some (.int .u8)) (hi : (P.info? e).map (·.size) = some 1) (xs ys : List UInt8) (hx : xs.length = n) (hy : ys.length = n) :
    (binOp .neq t (.agg (bvs xs).toArray) (.agg (bvs ys).toArray)).run P w = .ok (.bool (!decide (xs = ys))) w := by
  have h1 := run_eql_bytes w t e n ht he hi xs ys hx hy 9998
  simp only [binOp]
  simp [Op.equal, Op.maxDepth, h1]
section
variable {P : Program} {w : World} {o : Oper} {a : Act} {t ty : TypeId} {x y : Operand}
theorem ex_eql_arr (ho : o.op = .binOp .eql t x y ty) {xs ys : List UInt8} (hx : a.eval x = .agg (bvs xs).toArray) (hy : a.eval y = .agg (bvs ys).toArray)
    {e : TypeId} {n : Nat} (ht : P.underlying t = some (.array n e)) (he : P.underlying e = some (.int .u8)) (hi : (P.info? e).map (·.size) = some 1) (hl : xs.length = n) (hl2 : ys.length = n) (hm : P.eqGuardType P.depth t = false) {b : Bool} (hb : decide (xs = ys) = b) :
    (execOp a.eval o).run P w = .ok (.value (.bool b)) w := by
  have hr := run_bin_arr (P := P) w t e n ht he hi xs ys hl hl2
  rw [hb] at hr
  unfold execOp
  simp only [ho, hx, hy, run_eqGuard_agg (P := P) w .eql t x y _ _ hm, hr, Sem.run_bind, Sem.run_pure, Result.andThen_ok]
theorem ex_neq_arr (ho : o.op = .binOp .neq t x y ty) {xs ys : List UInt8} (hx : a.eval x = .agg (bvs xs).toArray) (hy : a.eval y = .agg (bvs ys).toArray)
    {e : TypeId} {n : Nat} (ht : P.underlying t = some (.array n e)) (he : P.underlying e = some (.int .u8)) (hi : (P.info? e).map (·.size) = some 1) (hl : xs.length = n) (hl2 : ys.length = n) (hm : P.eqGuardType P.depth t = false) {b : Bool} (hb : (!decide (xs = ys)) = b) :
    (execOp a.eval o).run P w = .ok (.value (.bool b)) w := by
  have hr := run_bin_arrN (P := P) w t e n ht he hi xs ys hl hl2
  rw [hb] at hr
  unfold execOp
  simp only [ho, hx, hy, run_eqGuard_agg (P := P) w .neq t x y _ _ hm, hr, Sem.run_bind, Sem.run_pure, Result.andThen_ok]
theorem ws_of_ex {K : Act → World → Prop} {Q : Exit → Act → World → Prop} {v : Value} (h : (execOp a.eval o).run P w = .ok (.value v) w) (hK : K (a.put o.dst v) w) : Oper.wp P o a w K Q := by
  unfold Oper.wp
  rw [h]
  exact hK
end
end Go.Proofs.Ytnckgkgilnmocaa
set_option linter.unusedSimpArgs false
set_option linter.unusedVariables false
namespace Go.Proofs.Ytnckgkgilnmocaa
theorem numOf_app (a b : List UInt8) : numOf (a ++ b) = numOf a * 256 ^ b.length + numOf b := by
  induction b using snocInd with
  | h0 => simp [numOf]
  | h1 s c ih =>
    rw [← List.append_assoc, numOf_snoc, ih, numOf_snoc, List.length_append, List.length_singleton, Nat.pow_succ, Nat.add_mul, Nat.mul_assoc]
    omega
end Go.Proofs.Ytnckgkgilnmocaa
set_option linter.unusedSimpArgs false
set_option linter.unusedVariables false
namespace Go.Proofs.Ytnckgkgilnmocaa
/-- A word, turned to the right. -/
def rotr (x : UInt32) (n : Nat) : UInt32 := UInt32.ofNat (x.toNat / 2 ^ n + x.toNat * 2 ^ (32 - n) % 4294967296)
def shr32 (x : UInt32) (n : Nat) : UInt32 := UInt32.ofNat (x.toNat / 2 ^ n)
def K64 : List UInt32 := [
  0x428a2f98, 0x71374491, 0xb5c0fbcf, 0xe9b5dba5, 0x3956c25b, 0x59f111f1, 0x923f82a4, 0xab1c5ed5,
  0xd807aa98, 0x12835b01, 0x243185be, 0x550c7dc3, 0x72be5d74, 0x80deb1fe, 0x9bdc06a7, 0xc19bf174,
  0xe49b69c1, 0xefbe4786, 0x0fc19dc6, 0x240ca1cc, 0x2de92c6f, 0x4a7484aa, 0x5cb0a9dc, 0x76f988da,
  0x983e5152, 0xa831c66d, 0xb00327c8, 0xbf597fc7, 0xc6e00bf3, 0xd5a79147, 0x06ca6351, 0x14292967,
  0x27b70a85, 0x2e1b2138, 0x4d2c6dfc, 0x53380d13, 0x650a7354, 0x766a0abb, 0x81c2c92e, 0x92722c85,
  0xa2bfe8a1, 0xa81a664b, 0xc24b8b70, 0xc76c51a3, 0xd192e819, 0xd6990624, 0xf40e3585, 0x106aa070,
  0x19a4c116, 0x1e376c08, 0x2748774c, 0x34b0bcb5, 0x391c0cb3, 0x4ed8aa4a, 0x5b9cca4f, 0x682e6ff3,
  0x748f82ee, 0x78a5636f, 0x84c87814, 0x8cc70208, 0x90befffa, 0xa4506ceb, 0xbef9a3f7, 0xc67178f2]
theorem K64_len : K64.length = 64 := by decide
def s0 (x : UInt32) : UInt32 := rotr x 7 ^^^ rotr x 18 ^^^ shr32 x 3
def s1 (x : UInt32) : UInt32 := rotr x 17 ^^^ rotr x 19 ^^^ shr32 x 10
def S1 (e : UInt32) : UInt32 := rotr e 6 ^^^ rotr e 11 ^^^ rotr e 25
def S0 (a : UInt32) : UInt32 := rotr a 2 ^^^ rotr a 13 ^^^ rotr a 22
def chf (e f g : UInt32) : UInt32 := (e &&& f) ||| (~~~e &&& g)
def maj (a b c : UInt32) : UInt32 := (a &&& (b ||| c)) ||| (b &&& c)
/-- Four bytes as a word. -/
def word4 (a b c d : UInt8) : UInt32 := UInt32.ofNat (a.toNat * 16777216 + b.toNat * 65536 + c.toNat * 256 + d.toNat)
/-- The next word of the schedule, of those so far. -/
def nextW (l : List UInt32) : UInt32 := l.getD (l.length - 16) 0 + l.getD (l.length - 7) 0 + s0 (l.getD (l.length - 15) 0) + s1 (l.getD (l.length - 2) 0)
def wordAt (b : List UInt8) (i : Nat) : UInt32 := word4 (b.getD (4 * i) 0) (b.getD (4 * i + 1) 0) (b.getD (4 * i + 2) 0) (b.getD (4 * i + 3) 0)
/-- The first k words of a block's schedule. -/
def sched (b : List UInt8) : Nat → List UInt32
  | 0 => []
  | k + 1 => sched b k ++ [if k < 16 then wordAt b k else nextW (sched b k)]
theorem sched_len (b : List UInt8) (k : Nat) : (sched b k).length = k := by
  induction k with
  | zero => rfl
  | succ k ih => simp [sched, ih]
/-- Eight words. -/
structure W8 where
  (a b c d e f g h : UInt32)
def W8.list (s : W8) : List UInt32 := [s.a, s.b, s.c, s.d, s.e, s.f, s.g, s.h]
def rnd (k w : UInt32) (s : W8) : W8 :=
  let t := s.h + k + w + S1 s.e + chf s.e s.f s.g
  let u := S0 s.a + maj s.a s.b s.c
  ⟨t + u, s.a, s.b, s.c, s.d + t, s.e, s.f, s.g⟩
/-- The first n rounds. -/
def rnds (ws : List UInt32) (s : W8) : Nat → W8
  | 0 => s
  | n + 1 => rnd (K64.getD n 0) (ws.getD n 0) (rnds ws s n)
def W8.add (s t : W8) : W8 := ⟨s.a + t.a, s.b + t.b, s.c + t.c, s.d + t.d, s.e + t.e, s.f + t.f, s.g + t.g, s.h + t.h⟩
/-- The state behind a block. -/
def mix (s : W8) (b : List UInt8) : W8 := s.add (rnds (sched b 64) s 64)
def iv0 : W8 := ⟨0x6a09e667, 0xbb67ae85, 0x3c6ef372, 0xa54ff53a, 0x510e527f, 0x9b05688c, 0x1f83d9ab, 0x5be0cd19⟩
/-- The state behind n whole blocks. -/
def mixN (s : W8) : Nat → List UInt8 → W8
  | 0, _ => s
  | n + 1, l => mixN (mix s (l.take 64)) n (l.drop 64)
theorem mixN_add (s : W8) (n m : Nat) (l : List UInt8) : mixN s (n + m) l = mixN (mixN s n l) m (l.drop (64 * n)) := by
  induction n generalizing s l with
  | zero => simp [mixN]
  | succ n ih =>
    rw [Nat.add_right_comm]
    simp only [mixN]
    rw [ih, List.drop_drop]
    congr 2
    omega
theorem mixN_app (s : W8) (n : Nat) (l m : List UInt8) (h : 64 * n ≤ l.length) : mixN s n (l ++ m) = mixN s n l := by
  induction n generalizing s l with
  | zero => rfl
  | succ n ih =>
    simp only [mixN]
    rw [List.take_append_of_le_length (by omega), List.drop_append_of_le_length (by omega), ih _ _ (by simp; omega)]
/-- A word's bytes. -/
def wbytes (x : UInt32) : List UInt8 := [UInt8.ofNat (x.toNat / 16777216), UInt8.ofNat (x.toNat / 65536), UInt8.ofNat (x.toNat / 256), UInt8.ofNat x.toNat]
def W8.bytes (s : W8) : List UInt8 := s.list.flatMap wbytes
theorem W8.bytes_len (s : W8) : s.bytes.length = 32 := by simp [W8.bytes, W8.list, wbytes]
/-- How many zeros follow the byte 128. -/
def zerosN (n : Nat) : Nat := (119 - n % 64) % 64
/-- A length's eight bytes, in bits. -/
def lenBytes (n : Nat) : List UInt8 := (List.range 8).map fun i => UInt8.ofNat (n * 8 / 256 ^ (7 - i))
def pad (l : List UInt8) : List UInt8 := l ++ (128 :: List.replicate (zerosN l.length) 0) ++ lenBytes l.length
/-- The sum. -/
def sha (l : List UInt8) : List UInt8 := (mixN iv0 ((l.length + 8) / 64 + 1) (pad l)).bytes
theorem sha_len (l : List UInt8) : (sha l).length = 32 := W8.bytes_len _
end Go.Proofs.Ytnckgkgilnmocaa
set_option linter.unusedSimpArgs false
set_option linter.unusedVariables false
namespace Go.Proofs.Ytnckgkgilnmocaa
open Go.RowKit
attribute [local go_sem] extract_mid extract_drop bget bsize wrap64_u8 i64_u8 u64_u8 bappend
/-- A word as the number that a slot holds. -/
def w32 (x : UInt32) : Int := (x.toNat : Int)
theorem w32_lt (x : UInt32) : 0 ≤ w32 x ∧ w32 x ≤ 4294967295 := by have := x.toNat_lt; unfold w32; omega
theorem u32_add (a b : UInt32) : IntKind.u32.wrap (w32 a + w32 b) = w32 (a + b) := by
  unfold w32
  rw [IntKind.wrap_u32, UInt32.toNat_add]
  omega
theorem u32_xor_w (a b : UInt32) : bits BinOp.xor IntKind.u32 (w32 a) (w32 b) = w32 (a ^^^ b) := by
  unfold w32
  have h1 := a.toNat_lt; have h2 := b.toNat_lt
  rw [u32_xor_nat _ _ (by omega) (by omega), UInt32.toNat_xor]
theorem u32_and_w (a b : UInt32) : bits BinOp.and IntKind.u32 (w32 a) (w32 b) = w32 (a &&& b) := by
  unfold w32
  have h1 := a.toNat_lt; have h2 := b.toNat_lt
  rw [u32_and_nat _ _ (by omega) (by omega), UInt32.toNat_and]
theorem u32_or_w (a b : UInt32) : bits BinOp.or IntKind.u32 (w32 a) (w32 b) = w32 (a ||| b) := by
  unfold w32
  have h1 := a.toNat_lt; have h2 := b.toNat_lt
  rw [u32_or_nat _ _ (by omega) (by omega), UInt32.toNat_or]
theorem w32_shr (x : UInt32) (n : Nat) (k : Int) (hk : k = 2 ^ n) : w32 x / k = w32 (shr32 x n) := by
  have h1 := x.toNat_lt
  unfold w32 shr32
  have h2 : x.toNat / 2 ^ n ≤ x.toNat := Nat.div_le_self _ _
  rw [UInt32.toNat_ofNat_of_lt' (by simpa [UInt32.size] using (by omega : x.toNat / 2 ^ n < 4294967296)), hk]
  simp
theorem w32_shr3 (x : UInt32) : w32 x / 8 = w32 (shr32 x 3) := w32_shr x 3 8 rfl
theorem w32_shr10 (x : UInt32) : w32 x / 1024 = w32 (shr32 x 10) := w32_shr x 10 1024 rfl
theorem w32_quo3 (x : UInt32) : IntKind.u32.wrap ((w32 x).tdiv 8) = w32 (shr32 x 3) := by rw [IntWalk.u32_quo _ _ ⟨(w32_lt x).1, (w32_lt x).2, by omega⟩, w32_shr3]
theorem w32_quo10 (x : UInt32) : IntKind.u32.wrap ((w32 x).tdiv 1024) = w32 (shr32 x 10) := by rw [IntWalk.u32_quo _ _ ⟨(w32_lt x).1, (w32_lt x).2, by omega⟩, w32_shr10]
theorem rotr_or (x : UInt32) (n : Nat) (h1 : 1 ≤ n) (h2 : n ≤ 31) (j k : Int) (hj : j = 2 ^ (32 - n)) (hk : k = 2 ^ n) :
    bits BinOp.or IntKind.u32 (IntKind.u32.wrap (w32 x * j)) (w32 x / k) = w32 (rotr x n) := by
  have hx := x.toNat_lt
  have hp : 2 ^ n * 2 ^ (32 - n) = 4294967296 := by rw [← Nat.pow_add, show n + (32 - n) = 32 by omega]
  have hlow : x.toNat / 2 ^ n < 2 ^ (32 - n) := by
    rw [Nat.div_lt_iff_lt_mul (Nat.two_pow_pos n), Nat.mul_comm, hp]; omega
  have e1 : IntKind.u32.wrap (w32 x * j) = ((x.toNat * 2 ^ (32 - n) % 4294967296 : Nat) : Int) := by
    rw [IntKind.wrap_u32, hj]; unfold w32; simp
  have e2 : w32 x / k = ((x.toNat / 2 ^ n : Nat) : Int) := by rw [hk]; unfold w32; simp
  have e3 : x.toNat * 2 ^ (32 - n) % 4294967296 = (x.toNat % 2 ^ n) * 2 ^ (32 - n) := by
    rw [← hp, Nat.mul_mod_mul_right]
  have hb : x.toNat % 2 ^ n * 2 ^ (32 - n) + x.toNat / 2 ^ n < 4294967296 := by
    have h3 : x.toNat % 2 ^ n + 1 ≤ 2 ^ n := Nat.mod_lt _ (Nat.two_pow_pos n)
    have h4 := Nat.mul_le_mul_right (2 ^ (32 - n)) h3
    rw [hp, Nat.add_mul] at h4
    omega
  rw [e1, e2, u32_or_nat _ _ (Nat.mod_lt _ (by omega)) (by omega)]
  unfold w32 rotr
  rw [e3, ← Nat.shiftLeft_eq, ← Nat.shiftLeft_add_eq_or_of_lt hlow, Nat.shiftLeft_eq]
  rw [UInt32.toNat_ofNat_of_lt' (by simpa [UInt32.size] using (by omega : x.toNat / 2 ^ n + x.toNat % 2 ^ n * 2 ^ (32 - n) < 4294967296))]
  congr 1
  omega
def wv (x : UInt32) : Value := .int .u32 (w32 x)
def wvs (l : List UInt32) : List Value := l.map wv
theorem wvs_len (l : List UInt32) : (wvs l).length = l.length := by simp [wvs]
theorem wvs_get (l : List UInt32) (j : Nat) (x : UInt32) (h : l[j]? = some x) : (wvs l)[j]? = some (.int .u32 (w32 x)) := by simp [wvs, h, wv]
theorem wvs_one (l : List UInt32) : ∀ v ∈ (wvs l), v.oneCell' = true := by
  intro u hu
  obtain ⟨c, _, rfl⟩ := List.mem_map.1 hu
  rfl
theorem rotr_or' (x : UInt32) (n : Nat) (h1 : 1 ≤ n) (h2 : n ≤ 31) (j k : Int) (hj : j = 2 ^ (32 - n)) (hk : k = 2 ^ n) :
    bits BinOp.or IntKind.u32 (w32 x * j % 4294967296) (w32 x / k) = w32 (rotr x n) := by
  rw [← rotr_or x n h1 h2 j k hj hk, IntKind.wrap_u32]
theorem u32_add' (a b : UInt32) : (w32 a + w32 b) % 4294967296 = w32 (a + b) := by rw [← u32_add, IntKind.wrap_u32]
theorem u8m32 (c : UInt8) : (c.toNat : Int) % 4294967296 = c.toNat := by have := c.toNat_lt; omega
end Go.Proofs.Ytnckgkgilnmocaa
set_option linter.unusedSimpArgs false
set_option linter.unusedVariables false
namespace Go.Proofs.Ytnckgkgilnmocaa
open Go.RowKit
attribute [local go_sem] extract_mid extract_drop bget bsize wrap64_u8 i64_u8 u64_u8 bappend
attribute [local go_sem] u32_add u32_xor_w u32_and_w u32_or_w w32_shr3 w32_shr10
theorem rot7 (x : UInt32) (w : World) : Calls Try.prog 118 #[.int .u32 (w32 x), .int .i64 (-7)] w fun r w' => r = .returned (.int .u32 (w32 (rotr x 7))) ∧ w = w' := by
  have hx := w32_lt x
  have hs : bits BinOp.and IntKind.u64 (IntKind.u64.wrap (-7)) 31 = 25 := by decide
  have hr := rotr_or' x 7 (by omega) (by omega) 33554432 128 (by decide) (by decide)
  go_enter Try.func118, Try.ntmps118
  go_wp2
  go_ret
  exact ⟨rfl, rfl⟩
theorem turn7 (x : UInt32) (w : World) : Calls Try.prog 105 #[.int .u32 (w32 x), .int .i64 7] w fun r w' => r = .returned (.int .u32 (w32 (rotr x 7))) ∧ w = w' := by
  go_enter Try.func105, Try.ntmps105
  go_wp2_with (go_at_call 118; refine (rot7 x _).mono ?_; rintro r w' ⟨rfl, rfl⟩)
  go_ret
  exact ⟨rfl, rfl⟩
theorem rot18 (x : UInt32) (w : World) : Calls Try.prog 118 #[.int .u32 (w32 x), .int .i64 (-18)] w fun r w' => r = .returned (.int .u32 (w32 (rotr x 18))) ∧ w = w' := by
  have hx := w32_lt x
  have hs : bits BinOp.and IntKind.u64 (IntKind.u64.wrap (-18)) 31 = 14 := by decide
  have hr := rotr_or' x 18 (by omega) (by omega) 16384 262144 (by decide) (by decide)
  go_enter Try.func118, Try.ntmps118
  go_wp2
  go_ret
  exact ⟨rfl, rfl⟩
theorem turn18 (x : UInt32) (w : World) : Calls Try.prog 105 #[.int .u32 (w32 x), .int .i64 18] w fun r w' => r = .returned (.int .u32 (w32 (rotr x 18))) ∧ w = w' := by
  go_enter Try.func105, Try.ntmps105
  go_wp2_with (go_at_call 118; refine (rot18 x _).mono ?_; rintro r w' ⟨rfl, rfl⟩)
  go_ret
  exact ⟨rfl, rfl⟩
theorem rot17 (x : UInt32) (w : World) : Calls Try.prog 118 #[.int .u32 (w32 x), .int .i64 (-17)] w fun r w' => r = .returned (.int .u32 (w32 (rotr x 17))) ∧ w = w' := by
  have hx := w32_lt x
  have hs : bits BinOp.and IntKind.u64 (IntKind.u64.wrap (-17)) 31 = 15 := by decide
  have hr := rotr_or' x 17 (by omega) (by omega) 32768 131072 (by decide) (by decide)
  go_enter Try.func118, Try.ntmps118
  go_wp2
  go_ret
  exact ⟨rfl, rfl⟩
theorem turn17 (x : UInt32) (w : World) : Calls Try.prog 105 #[.int .u32 (w32 x), .int .i64 17] w fun r w' => r = .returned (.int .u32 (w32 (rotr x 17))) ∧ w = w' := by
  go_enter Try.func105, Try.ntmps105
  go_wp2_with (go_at_call 118; refine (rot17 x _).mono ?_; rintro r w' ⟨rfl, rfl⟩)
  go_ret
  exact ⟨rfl, rfl⟩
theorem rot19 (x : UInt32) (w : World) : Calls Try.prog 118 #[.int .u32 (w32 x), .int .i64 (-19)] w fun r w' => r = .returned (.int .u32 (w32 (rotr x 19))) ∧ w = w' := by
  have hx := w32_lt x
  have hs : bits BinOp.and IntKind.u64 (IntKind.u64.wrap (-19)) 31 = 13 := by decide
  have hr := rotr_or' x 19 (by omega) (by omega) 8192 524288 (by decide) (by decide)
  go_enter Try.func118, Try.ntmps118
  go_wp2
  go_ret
  exact ⟨rfl, rfl⟩
theorem turn19 (x : UInt32) (w : World) : Calls Try.prog 105 #[.int .u32 (w32 x), .int .i64 19] w fun r w' => r = .returned (.int .u32 (w32 (rotr x 19))) ∧ w = w' := by
  go_enter Try.func105, Try.ntmps105
  go_wp2_with (go_at_call 118; refine (rot19 x _).mono ?_; rintro r w' ⟨rfl, rfl⟩)
  go_ret
  exact ⟨rfl, rfl⟩
theorem rot6 (x : UInt32) (w : World) : Calls Try.prog 118 #[.int .u32 (w32 x), .int .i64 (-6)] w fun r w' => r = .returned (.int .u32 (w32 (rotr x 6))) ∧ w = w' := by
  have hx := w32_lt x
  have hs : bits BinOp.and IntKind.u64 (IntKind.u64.wrap (-6)) 31 = 26 := by decide
  have hr := rotr_or' x 6 (by omega) (by omega) 67108864 64 (by decide) (by decide)
  go_enter Try.func118, Try.ntmps118
  go_wp2
  go_ret
  exact ⟨rfl, rfl⟩
theorem turn6 (x : UInt32) (w : World) : Calls Try.prog 105 #[.int .u32 (w32 x), .int .i64 6] w fun r w' => r = .returned (.int .u32 (w32 (rotr x 6))) ∧ w = w' := by
  go_enter Try.func105, Try.ntmps105
  go_wp2_with (go_at_call 118; refine (rot6 x _).mono ?_; rintro r w' ⟨rfl, rfl⟩)
  go_ret
  exact ⟨rfl, rfl⟩
theorem rot11 (x : UInt32) (w : World) : Calls Try.prog 118 #[.int .u32 (w32 x), .int .i64 (-11)] w fun r w' => r = .returned (.int .u32 (w32 (rotr x 11))) ∧ w = w' := by
  have hx := w32_lt x
  have hs : bits BinOp.and IntKind.u64 (IntKind.u64.wrap (-11)) 31 = 21 := by decide
  have hr := rotr_or' x 11 (by omega) (by omega) 2097152 2048 (by decide) (by decide)
  go_enter Try.func118, Try.ntmps118
  go_wp2
  go_ret
  exact ⟨rfl, rfl⟩
theorem turn11 (x : UInt32) (w : World) : Calls Try.prog 105 #[.int .u32 (w32 x), .int .i64 11] w fun r w' => r = .returned (.int .u32 (w32 (rotr x 11))) ∧ w = w' := by
  go_enter Try.func105, Try.ntmps105
  go_wp2_with (go_at_call 118; refine (rot11 x _).mono ?_; rintro r w' ⟨rfl, rfl⟩)
  go_ret
  exact ⟨rfl, rfl⟩
theorem rot25 (x : UInt32) (w : World) : Calls Try.prog 118 #[.int .u32 (w32 x), .int .i64 (-25)] w fun r w' => r = .returned (.int .u32 (w32 (rotr x 25))) ∧ w = w' := by
  have hx := w32_lt x
  have hs : bits BinOp.and IntKind.u64 (IntKind.u64.wrap (-25)) 31 = 7 := by decide
  have hr := rotr_or' x 25 (by omega) (by omega) 128 33554432 (by decide) (by decide)
  go_enter Try.func118, Try.ntmps118
  go_wp2
  go_ret
  exact ⟨rfl, rfl⟩
theorem turn25 (x : UInt32) (w : World) : Calls Try.prog 105 #[.int .u32 (w32 x), .int .i64 25] w fun r w' => r = .returned (.int .u32 (w32 (rotr x 25))) ∧ w = w' := by
  go_enter Try.func105, Try.ntmps105
  go_wp2_with (go_at_call 118; refine (rot25 x _).mono ?_; rintro r w' ⟨rfl, rfl⟩)
  go_ret
  exact ⟨rfl, rfl⟩
theorem rot2 (x : UInt32) (w : World) : Calls Try.prog 118 #[.int .u32 (w32 x), .int .i64 (-2)] w fun r w' => r = .returned (.int .u32 (w32 (rotr x 2))) ∧ w = w' := by
  have hx := w32_lt x
  have hs : bits BinOp.and IntKind.u64 (IntKind.u64.wrap (-2)) 31 = 30 := by decide
  have hr := rotr_or' x 2 (by omega) (by omega) 1073741824 4 (by decide) (by decide)
  go_enter Try.func118, Try.ntmps118
  go_wp2
  go_ret
  exact ⟨rfl, rfl⟩
theorem turn2 (x : UInt32) (w : World) : Calls Try.prog 105 #[.int .u32 (w32 x), .int .i64 2] w fun r w' => r = .returned (.int .u32 (w32 (rotr x 2))) ∧ w = w' := by
  go_enter Try.func105, Try.ntmps105
  go_wp2_with (go_at_call 118; refine (rot2 x _).mono ?_; rintro r w' ⟨rfl, rfl⟩)
  go_ret
  exact ⟨rfl, rfl⟩
theorem rot13 (x : UInt32) (w : World) : Calls Try.prog 118 #[.int .u32 (w32 x), .int .i64 (-13)] w fun r w' => r = .returned (.int .u32 (w32 (rotr x 13))) ∧ w = w' := by
  have hx := w32_lt x
  have hs : bits BinOp.and IntKind.u64 (IntKind.u64.wrap (-13)) 31 = 19 := by decide
  have hr := rotr_or' x 13 (by omega) (by omega) 524288 8192 (by decide) (by decide)
  go_enter Try.func118, Try.ntmps118
  go_wp2
  go_ret
  exact ⟨rfl, rfl⟩
theorem turn13 (x : UInt32) (w : World) : Calls Try.prog 105 #[.int .u32 (w32 x), .int .i64 13] w fun r w' => r = .returned (.int .u32 (w32 (rotr x 13))) ∧ w = w' := by
  go_enter Try.func105, Try.ntmps105
  go_wp2_with (go_at_call 118; refine (rot13 x _).mono ?_; rintro r w' ⟨rfl, rfl⟩)
  go_ret
  exact ⟨rfl, rfl⟩
theorem rot22 (x : UInt32) (w : World) : Calls Try.prog 118 #[.int .u32 (w32 x), .int .i64 (-22)] w fun r w' => r = .returned (.int .u32 (w32 (rotr x 22))) ∧ w = w' := by
  have hx := w32_lt x
  have hs : bits BinOp.and IntKind.u64 (IntKind.u64.wrap (-22)) 31 = 10 := by decide
  have hr := rotr_or' x 22 (by omega) (by omega) 1024 4194304 (by decide) (by decide)
  go_enter Try.func118, Try.ntmps118
  go_wp2
  go_ret
  exact ⟨rfl, rfl⟩
theorem turn22 (x : UInt32) (w : World) : Calls Try.prog 105 #[.int .u32 (w32 x), .int .i64 22] w fun r w' => r = .returned (.int .u32 (w32 (rotr x 22))) ∧ w = w' := by
  go_enter Try.func105, Try.ntmps105
  go_wp2_with (go_at_call 118; refine (rot22 x _).mono ?_; rintro r w' ⟨rfl, rfl⟩)
  go_ret
  exact ⟨rfl, rfl⟩
end Go.Proofs.Ytnckgkgilnmocaa
set_option linter.unusedSimpArgs false
set_option linter.unusedVariables false
namespace Go.Proofs.Ytnckgkgilnmocaa
open Go.RowKit
attribute [local go_sem] extract_mid extract_drop bget bsize wrap64_u8 i64_u8 u64_u8 bappend
attribute [local go_sem] u8m32 u32_add u32_add' u32_xor_w u32_and_w u32_or_w w32_shr3 w32_shr10
@[irreducible] def z64 : List UInt32 := List.replicate 64 0
theorem z64_len : z64.length = 64 := by unfold z64; simp
theorem info_w64 : (Try.prog.info? 171).map (fun i => i.zero) = some (some (.agg (wvs z64).toArray)) := by kernel_rfl
theorem info_w64n : (Try.prog.info? 171).map (·.size) = some 64 := by kernel_rfl
theorem w64sz (l : List UInt32) (h : l.length = 64) : (Try.prog.info? 171).map (·.size) = some (wvs l).toArray.size := by rw [info_w64n]; simp [wvs_len, h]
theorem wset (A R : List UInt32) (x y : UInt32) (k : Nat) (h : A.length = k) : (wvs (A ++ x :: R)).toArray.setIfInBounds k (.int .u32 (w32 y)) = (wvs (A ++ y :: R)).toArray := by
  subst h
  simp only [List.setIfInBounds_toArray]
  congr 1
  simp [wvs, wv]
theorem wget {w : World} {g : Nat} {t : TypeId} {l : List UInt32} (h : Blk w g t (wvs l).toArray) (j : Nat) (x : UInt32) (hx : l[j]? = some x) : w.cell? ⟨g, j, none⟩ = some (.int .u32 (w32 x)) := by
  rw [h.cell]; simpa using wvs_get l j x hx
def part (l : List UInt8) : UInt32 := UInt32.ofNat (numOf l)
theorem part_step (l : List UInt8) (c : UInt8) (h : l.length ≤ 3) : bits BinOp.or IntKind.u32 (w32 (part l) * 256 % 4294967296) (c.toNat : Int) = w32 (part (l ++ [c])) := by
  have h1 := numOf_lt l
  have h2 : 256 ^ l.length ≤ 256 ^ 3 := Nat.pow_le_pow_right (by omega) h
  have hc := c.toNat_lt
  have e1 : (part l).toNat = numOf l := by unfold part; rw [UInt32.toNat_ofNat_of_lt' (by simp [UInt32.size]; omega)]
  have e2 : (part (l ++ [c])).toNat = numOf l * 256 + c.toNat := by unfold part; rw [numOf_snoc, UInt32.toNat_ofNat_of_lt' (by simp [UInt32.size]; omega)]
  unfold w32
  rw [e1, e2, show ((numOf l : Int) * 256 % 4294967296) = ((numOf l * 256 : Nat) : Int) by omega, u32_or_nat _ _ (by omega) (by omega)]
  have e3 : numOf l * 256 = numOf l <<< 8 := by rw [Nat.shiftLeft_eq]
  rw [e3, ← Nat.shiftLeft_add_eq_or_of_lt (by omega)]
theorem part_word (b : List UInt8) (i : Nat) (h : 4 * i + 4 ≤ b.length) : part ((b.drop (4 * i)).take 4) = wordAt b i := by
  have e : (b.drop (4 * i)).take 4 = [b.getD (4 * i) 0, b.getD (4 * i + 1) 0, b.getD (4 * i + 2) 0, b.getD (4 * i + 3) 0] := by
    apply List.ext_getElem?
    intro j
    rcases (by omega : j = 0 ∨ j = 1 ∨ j = 2 ∨ j = 3 ∨ 4 ≤ j) with rfl | rfl | rfl | rfl | hj
    · simp [List.getElem?_take, List.getElem?_drop, List.getElem?_eq_getElem (show 4 * i < b.length by omega)]
    · simp [List.getElem?_take, List.getElem?_drop, List.getElem?_eq_getElem (show 4 * i + 1 < b.length by omega)]
    · simp [List.getElem?_take, List.getElem?_drop, List.getElem?_eq_getElem (show 4 * i + 2 < b.length by omega)]
    · simp [List.getElem?_take, List.getElem?_drop, List.getElem?_eq_getElem (show 4 * i + 3 < b.length by omega)]
    · rw [List.getElem?_eq_none (by simp; omega), List.getElem?_eq_none (by simp; omega)]
  rw [e]
  unfold part wordAt word4
  refine congrArg UInt32.ofNat ?_
  simp only [numOf, List.foldl_cons, List.foldl_nil]
  omega
set_option maxRecDepth 100000 in
set_option maxHeartbeats 1000000 in
theorem spread_any (b : List UInt8) (ad : Addr) (c : Nat) (hb : b.length = 64) (hc : 64 ≤ c) (hc2 : c ≤ 9223372036854775807) (w : World) (hR : Rd w 1 (some ad) 64 (bvs b)) :
    Calls Try.prog 104 #[.slice (some ad) 64 c] w fun r w' => r = .returned (.agg (wvs (sched b 64)).toArray) ∧ Ch [] w w' := by
  have tok1 : True := trivial
  go_enter Try.func104, Try.ntmps104
  go_wp2_with (first | (have _t := tok1; refine op_alloc rfl 171 rfl (wvs z64).toArray info_w64 ?_; intro g w1 hb1 hg hlt hC1; clear tok1) | (refine op_alloc rfl 171 rfl (wvs z64).toArray info_w64 ?_; intro g2 w2 hb2 hg2 hlt2 hC2))
  have hgg := hb1.lt
  have hgg' := hg
  replace hb1 := hb1.ch0 hC2
  have hgw : g < g2 := by omega
  have hg2' : w.heap.size ≤ g2 := by omega
  have hadlt : ad.block < w.heap.size := by obtain ⟨ad', e, h1, _⟩ := hR.2 (by omega); cases e; exact h1
  have hC := hC1.trans hC2
  clear hC1 hC2
  go_loopw [9] (fun i wr => ∃ (k : Nat), k ≤ 64 ∧ i = .int .i64 k ∧ Blk wr g2 171 (wvs (sched b k ++ List.replicate (64 - k) 0)).toArray ∧ Ch [g2] w2 wr) (fun i _ => 64 - (intOf i).toNat)
  case atStart => exact ⟨0, by omega, rfl, by simpa [sched, z64] using hb2, Ch.refl _ _⟩
  case round =>
    obtain ⟨k, hk, rfl, hbk, hCk⟩ := hrel
    by_cases hlt : k < 64
    · by_cases h16 : k < 16
      · have hRr : Rd wr 1 (some ad) 64 (bvs b) := (hR.ch0 hC).ch hCk (by rintro a ha; cases ha; simp; omega)
        have hrep : List.replicate (64 - k) (0 : UInt32) = 0 :: List.replicate (63 - k) 0 := by rw [show 64 - k = (63 - k) + 1 by omega]; rfl
        have hbk2 : Blk wr g2 171 (wvs (sched b k ++ part ((b.drop (4 * k)).take 0) :: List.replicate (63 - k) 0)).toArray := by rw [hrep] at hbk; exact hbk
        clear hbk hrep
        go_wp2
        obtain ⟨wo, rfl⟩ : ∃ wo : World, wo = wr := ⟨_, rfl⟩
        go_loopw [22] (fun j wr => ∃ (m : Nat), m ≤ 4 ∧ j = .int .i64 m ∧ Blk wr g2 171 (wvs (sched b k ++ part ((b.drop (4 * k)).take m) :: List.replicate (63 - k) 0)).toArray ∧ Ch [g2] w2 wr) (fun j _ => 4 - (intOf j).toNat)
        case atStart => exact ⟨0, by omega, rfl, hbk2, hCk⟩
        case round =>
          obtain ⟨m, hm, rfl, hbm, hCm⟩ := hrel
          by_cases hm4 : m < 4
          · have hRm : Rd wr 1 (some ad) 64 (bvs b) := (hR.ch0 hC).ch hCm (by rintro a ha; cases ha; simp; omega)
            obtain ⟨ad', d, hA, hcell, hget, _⟩ := Rd.elem (f := bv) (k := 4 * k + m) hRm (by omega)
            obtain rfl : ad = ad' := by injection hA
            have hcell2 : wr.cell? ((ad.add (4 * k)).add m) = some (.int .u8 (d.toNat : Int)) := by rw [add_of_add]; exact hcell
            have htk : (b.drop (4 * k)).take (m + 1) = (b.drop (4 * k)).take m ++ [d] := take_snoc_at _ _ _ (by rw [List.getElem?_drop]; exact hget)
            have hgk := wget hbm k (part ((b.drop (4 * k)).take m)) (by rw [List.getElem?_append_right (by rw [sched_len]; omega), sched_len]; simp)
            have hfk := hbm.frozen k
            have hor := part_step ((b.drop (4 * k)).take m) d (by simp; omega)
            have HT := Lib.hid htk
            have HO := Lib.hid hor
            have hset := hbm.set_ k (.int .u32 (w32 (part ((b.drop (4 * k)).take m ++ [d]))))
            rw [wset _ _ _ _ k (sched_len b k)] at hset
            have HS := Lib.hid hset
            clear htk hor hset hget hcell hbm
            go_wp2
            go_roundw
            case rel => exact ⟨m + 1, by omega, by go_num, by rw [HT.out, HO.out]; exact HS.out, hCm.setCell (.inl (by simp)) _⟩
            case measure => simp [intOf]; omega
          · obtain rfl : m = 4 := by omega
            have hnx : sched b k ++ part ((b.drop (4 * k)).take 4) :: List.replicate (63 - k) 0 = sched b (k + 1) ++ List.replicate (64 - (k + 1)) 0 := by
              rw [part_word b k (by omega)]
              simp only [sched, if_pos h16, List.append_assoc, List.singleton_append]
              rw [show 64 - (k + 1) = 63 - k by omega]
            have HX := Lib.hid hnx
            clear hnx
            go_wp2
            go_roundw
            case rel => exact ⟨k + 1, by omega, by go_num, by rw [← HX.out]; exact hbm, hCm⟩
            case measure => simp [intOf]; omega
      · as_aux_lemma =>
        have hw : ∀ j, j < k → ∃ x, (sched b k)[j]? = some x ∧ wr.cell? ⟨g2, j, none⟩ = some (.int .u32 (w32 x)) := fun j hj => by
          have hl : j < (sched b k).length := by rw [sched_len]; exact hj
          exact ⟨(sched b k)[j], List.getElem?_eq_getElem hl, wget hbk j _ (by rw [List.getElem?_append_left hl]; exact List.getElem?_eq_getElem hl)⟩
        obtain ⟨x16, e16, c16⟩ := hw (k - 16) (by omega)
        obtain ⟨x15, e15, c15⟩ := hw (k - 15) (by omega)
        obtain ⟨x7, e7, c7⟩ := hw (k - 7) (by omega)
        obtain ⟨x2, e2, c2⟩ := hw (k - 2) (by omega)
        have hgk := wget hbk k 0 (by rw [List.getElem?_append_right (by rw [sched_len]; omega), sched_len, Nat.sub_self, show 64 - k = (63 - k) + 1 by omega]; rfl)
        have hfk := hbk.frozen k
        have hnext : sched b (k + 1) = sched b k ++ [x16 + x7 + s0 x15 + s1 x2] := by
          simp only [sched, if_neg h16, nextW, sched_len]
          simp [List.getD_eq_getElem?_getD, e16, e15, e7, e2]
        have hset1 := hbk.set_ k (.int .u32 (w32 (x16 + x7)))
        rw [show 64 - k = (63 - k) + 1 by omega, List.replicate_succ, wset _ _ _ _ k (sched_len b k)] at hset1
        have HS1 := Lib.hid hset1
        have HN := Lib.hid hnext
        clear hset1 hnext e16 e15 e7 e2 hw hbk
        go_wp2
        go_region
        all_goals (go_wp2; go_region)
        go_wp2
        obtain ⟨w12, hW⟩ : ∃ x, x = World.drew (World.drew (wr.setCell ⟨g2, k, none⟩ (.int .u32 (w32 (x16 + x7))))) := ⟨_, rfl⟩
        rw [← hW]
        have g12 : w12.cell? ⟨g2, k, none⟩ = some (.int .u32 (w32 (x16 + x7))) := by rw [hW]; simp [go_sem, hgk]
        have f12 : w12.frozen? ⟨g2, k, none⟩ = false := by rw [hW]; simp [go_sem, hfk]
        have b12 : Blk w12 g2 171 (wvs (sched b k ++ (x16 + x7) :: List.replicate (63 - k) 0)).toArray := by rw [hW]; exact HS1.out
        have C12 : Ch [g2] w2 w12 := by rw [hW]; exact ((hCk.setCell (.inl (by simp)) _).drewN 2)
        clear hW
        (refine wp_region_still_tail 13 (by as_aux_lemma => kernel_rfl) (by as_aux_lemma => kernel_rfl) ?_; simp only [List.take_succ_cons, List.take_zero, List.drop_succ_cons, List.drop_zero]; change wpStill _ _ (World.drew _) _ _ _; repeat still_step); (still_call ((turn7 _ _).mono fun _ _ h => ⟨h.1, h.2.symm⟩); repeat still_step); (still_call ((turn18 _ _).mono fun _ _ h => ⟨h.1, h.2.symm⟩); repeat still_step); (refine wpStill_nil ?_; change wpList _ _ _ _ _ (World.drew _))
        go_wp2
        obtain ⟨w13, hW⟩ : ∃ x, x = World.drew (w12.setCell ⟨g2, k, none⟩ (.int .u32 (w32 (x16 + x7 + (rotr x15 7 ^^^ rotr x15 18 ^^^ shr32 x15 3))))) := ⟨_, rfl⟩
        rw [← hW]
        have g13 : w13.cell? ⟨g2, k, none⟩ = some (.int .u32 (w32 (x16 + x7 + (rotr x15 7 ^^^ rotr x15 18 ^^^ shr32 x15 3)))) := by rw [hW]; simp [go_sem, g12]
        have f13 : w13.frozen? ⟨g2, k, none⟩ = false := by rw [hW]; simp [go_sem, f12]
        have b13 : Blk w13 g2 171 (wvs (sched b k ++ (x16 + x7 + (rotr x15 7 ^^^ rotr x15 18 ^^^ shr32 x15 3)) :: List.replicate (63 - k) 0)).toArray := by
          rw [hW]
          have := b12.set_ k (.int .u32 (w32 (x16 + x7 + (rotr x15 7 ^^^ rotr x15 18 ^^^ shr32 x15 3))))
          rw [wset _ _ _ _ k (sched_len b k)] at this
          exact this
        have C13 : Ch [g2] w2 w13 := by rw [hW]; exact ((C12.setCell (.inl (by simp)) _).drew)
        clear hW g12 f12 b12 C12
        (refine wp_region_still_tail 13 (by as_aux_lemma => kernel_rfl) (by as_aux_lemma => kernel_rfl) ?_; simp only [List.take_succ_cons, List.take_zero, List.drop_succ_cons, List.drop_zero]; change wpStill _ _ (World.drew _) _ _ _; repeat still_step); (still_call ((turn17 _ _).mono fun _ _ h => ⟨h.1, h.2.symm⟩); repeat still_step); (still_call ((turn19 _ _).mono fun _ _ h => ⟨h.1, h.2.symm⟩); repeat still_step); (refine wpStill_nil ?_; change wpList _ _ _ _ _ (World.drew _))
        go_wp2
        go_roundw
        case rel =>
          refine ⟨k + 1, by omega, by go_num, ?_, ((C13.setCell (.inl (by simp)) _).drew)⟩
          rw [HN.out, List.append_assoc, show 64 - (k + 1) = 63 - k by omega]
          have := b13.set_ k (.int .u32 (w32 (x16 + x7 + s0 x15 + s1 x2)))
          rw [wset _ _ _ _ k (sched_len b k)] at this
          exact this
        case measure => simp [intOf]; omega
    · obtain rfl : k = 64 := by omega
      obtain ⟨sc, hsc⟩ : ∃ l, l = sched b 64 := ⟨_, rfl⟩
      have hsl : sc.length = 64 := by rw [hsc, sched_len]
      have hb3 : Blk wr g2 171 (wvs sc).toArray := by rw [hsc]; simpa using hbk
      have hb1' := hb1.ch hCk (by simp; omega)
      clear hbk
      go_wp2_with (first | (refine op_load rfl 171 (.tmp 3) rfl g2 rfl 171 (wvs sc).toArray _ hb3 Try.underlying171 rfl (w64sz _ hsl) ?_) | (refine op_store rfl 171 (.tmp 2) (.tmp 82) rfl g rfl 171 (wvs sc).toArray (wvs z64).toArray rfl hb1' (by simp [wvs_len, hsl, z64_len]) (w64sz _ hsl) (by simpa using wvs_one sc) ?_; intro w4 hb4 hC4))
      refine bodyPost_ret (results_cell_row rfl _ _ g 171 (wvs sc).toArray (0, 0) _ rfl hb4 Try.underlying171 rfl (w64sz _ hsl)) rfl ⟨by rw [hsc], ?_⟩
      exact (hC.one hCk (.inr hg2')).one hC4 (.inr hgg')
end Go.Proofs.Ytnckgkgilnmocaa
set_option linter.unusedSimpArgs false
set_option linter.unusedVariables false
namespace Go.Proofs.Ytnckgkgilnmocaa
open Go.RowKit
attribute [local go_sem] extract_mid extract_drop bget bsize wrap64_u8 i64_u8 u64_u8 bappend
theorem build_any {P : Program} {w : World} {ops : Array Oper} {rest : List Oper} {o : Oper} {a : Act} {Q : Exit → Act → World → Prop} (hgd : o.guard = none) (t : TypeId) (parts : Array (Nat × Operand)) (ho : o.op = .build t parts) (v : Value)
    (hrun : (Instr.build t (parts.map fun x => (x.1, a.eval x.2))).run P w = .ok v w) (h : wpList P ops Q rest (a.put o.dst v) w) : wpList P ops Q (o :: rest) a w := by
  refine wpList_plain hgd fun K hK => ?_
  unfold Oper.wp
  simp only [execOp, ho, Sem.run_bind, hrun, Result.andThen_ok, Sem.run_pure]
  exact hK _ _ h
set_option maxRecDepth 100000 in
set_option maxHeartbeats 2000000 in
theorem rounds_any (w : World) : Calls Try.prog 103 #[] w fun r w' => r = .returned (.agg (wvs K64).toArray) ∧ Ch [] w w' := by
  go_enter Try.func103, Try.ntmps103
  go_wp2_with (first | (refine op_alloc rfl 171 rfl (wvs z64).toArray info_w64 ?_; intro g w1 hb1 hg hlt hC1) | (refine build_any rfl 171 _ rfl (.agg (wvs K64).toArray) (by as_aux_lemma => kernel_rfl) ?_) | (refine op_store rfl 171 (.tmp 0) (.tmp 1) rfl g rfl 171 (wvs K64).toArray (wvs z64).toArray rfl hb1 (by simp [wvs_len, K64_len, z64_len]) (w64sz _ K64_len) (by simpa using wvs_one K64) ?_; intro w4 hb4 hC4))
  refine bodyPost_ret (results_cell_row rfl _ _ g 171 (wvs K64).toArray (0, 0) _ rfl hb4 Try.underlying171 rfl (w64sz _ K64_len)) rfl ⟨rfl, ?_⟩
  exact hC1.one hC4 (.inr hg)
end Go.Proofs.Ytnckgkgilnmocaa
set_option linter.unusedSimpArgs false
set_option linter.unusedVariables false
namespace Go.Proofs.Ytnckgkgilnmocaa
open Go.RowKit
section
variable {P : Program} {ops : Array Oper} {Q : Exit → Act → World → Prop}
/-- The operation i, in a region. -/
@[irreducible] def stepOf (P : Program) (ops : Array Oper) (Q : Exit → Act → World → Prop) (o : Oper) (K : Act → World → Prop) (a : Act) (w : World) : Prop :=
  if Region.wanted o (yielded ops a.tmps) = true then Oper.wp P o a w K Q else K (a.put o.dst undef) w
theorem ready_mem {md : Region.Mode} {L : Array Bool} {i : Nat} (h : i ∈ Region.ready md ops L) :
    ∃ o, ops[i]? = some o ∧ L.getD i true = false ∧ ∀ e ∈ o.after.toList, Region.binds md e = true → L.getD e.on false = true := by
  unfold Region.ready at h
  simp only [List.mem_filter, List.mem_range, Bool.and_eq_true, Bool.not_eq_true'] at h
  obtain ⟨hlt, h1, h2⟩ := h
  have ho : ops[i]? = some ops[i] := Array.getElem?_eq_getElem hlt
  refine ⟨ops[i], ho, h1, fun e he hb => ?_⟩
  rw [ho] at h2
  simp only [Option.map_some, Option.getD_some, Array.all_eq_true] at h2
  obtain ⟨j, hj, rfl⟩ := List.getElem_of_mem he
  have := h2 j (by simpa using hj)
  simp only [Array.getElem_toList] at hb ⊢
  simpa [hb] using this
theorem ready_nil {md : Region.Mode} {L : Array Bool} (hs : L.size = ops.size) (hd : ∀ (i : Nat) (o : Oper), ops[i]? = some o → ∀ e ∈ o.after.toList, e.on < i) (h : Region.ready md ops L = []) : ∀ i, i < ops.size → L.getD i false = true := by
  intro i
  induction i using Nat.strongRecOn with
  | _ i ih =>
    intro hi
    rcases hb : L.getD i true with _ | _
    · exfalso
      have hmem : i ∈ Region.ready md ops L := by
        unfold Region.ready
        simp only [List.mem_filter, List.mem_range, Bool.and_eq_true, Bool.not_eq_true']
        refine ⟨hi, hb, ?_⟩
        have ho : ops[i]? = some ops[i] := Array.getElem?_eq_getElem hi
        rw [ho]
        simp only [Option.map_some, Option.getD_some, Array.all_eq_true]
        intro j hj
        have hlt := hd i _ ho (ops[i].after[j]) (by simp)
        rw [ih _ hlt (by omega)]
        simp
      rw [h] at hmem
      cases hmem
    · have hi2 : i < L.size := by omega
      simpa [Array.getD, hi2] using hb
theorem wpAny_inv {md : Region.Mode} (I : Array Bool → Act → World → Prop) (hd : ∀ (i : Nat) (o : Oper), ops[i]? = some o → ∀ e ∈ o.after.toList, e.on < i)
    (hstep : ∀ (L : Array Bool) a w, L.size = ops.size → I L a w → ∀ (i : Nat) (o : Oper), ops[i]? = some o → L.getD i true = false → (∀ e ∈ o.after.toList, Region.binds md e = true → L.getD e.on false = true) → stepOf P ops Q o (fun a' w' => I (L.setIfInBounds i true) a' w') a w)
    (hend : ∀ (L : Array Bool) a w, I L a w → (∀ i, i < ops.size → L.getD i false = true) → Q .normal a w) :
    ∀ (fuel : Nat) (L : Array Bool) (a : Act) (w : World), L.size = ops.size → L.toList.count false ≤ fuel → I L a w → wpAny P md ops Q fuel L a w := by
  intro fuel
  induction fuel with
  | zero =>
    intro L a w hs hc hI
    have hnil : Region.ready md ops L = [] := by
      rcases hr : Region.ready md ops L with _ | ⟨i, is⟩
      · rfl
      · obtain ⟨o, ho, hb, _⟩ := ready_mem (i := i) (by rw [hr]; exact List.mem_cons_self)
        exfalso
        have hi : i < L.size := by
          rcases Nat.lt_or_ge i L.size with h | h
          · exact h
          · simp [Array.getD, Nat.not_lt.2 h] at hb
        have hm : false ∈ L.toList := by
          have : L[i] = false := by simpa [Array.getD, hi] using hb
          rw [← this]; simp
        have := List.count_pos_iff.2 hm
        omega
    exact ⟨hnil, hend L a w hI (ready_nil hs hd hnil)⟩
  | succ fuel ih =>
    intro L a w hs hc hI
    refine ⟨fun hnil => hend L a w hI (ready_nil hs hd hnil), fun i hi => ?_⟩
    obtain ⟨o, ho, hb, hdeps⟩ := ready_mem hi
    have hst := hstep L a w hs hI i o ho hb hdeps
    have hi2 : i < L.size := by
      rcases Nat.lt_or_ge i L.size with h | h
      · exact h
      · simp [Array.getD, Nat.not_lt.2 h] at hb
    have hcnt : (L.setIfInBounds i true).toList.count false ≤ fuel := by
      have : L.toList[i]'(by simpa using hi2) = false := by simpa [Array.getD, hi2] using hb
      rw [Array.toList_setIfInBounds, List.count_set (by simpa using hi2)]
      simp only [this]
      simp
      have hm : 0 < L.toList.count false := List.count_pos_iff.2 (by rw [← this]; simp)
      have e9 : L.toList.count false = Array.count false L := by simp
      omega
    have hgo : ∀ a' w', I (L.setIfInBounds i true) a' w' → wpAny P md ops Q fuel (L.setIfInBounds i true) a' w' := fun a' w' h => ih _ a' w' (by simpa using hs) hcnt h
    unfold stepOf at hst
    unfold wpOp
    rw [ho]
    simp only []
    split
    · rename_i hw
      rw [if_pos hw] at hst
      exact .inl (Oper.wp_mono hgo hst)
    · rename_i hw
      rw [if_neg hw] at hst
      exact hgo _ _ hst
/-- The law. -/
theorem region_inv {id : Nat} {a : Act} {w : World} (I : Array Bool → Act → World → Prop) (hm : P.follows .mixedOrders = true)
    (hd : ops.toList.zipIdx.all (fun x => x.1.after.toList.all fun e => decide (e.on < x.2)) = true)
    (h0 : I (Array.replicate ops.size false) a w.drew)
    (hstep : ∀ (L : Array Bool) a w, L.size = ops.size → I L a w → ∀ (i : Nat) (o : Oper), ops[i]? = some o → L.getD i true = false → (∀ e ∈ o.after.toList, Region.binds .any e = true → L.getD e.on false = true) → ∀ K : Act → World → Prop, (∀ a' w', I (L.setIfInBounds i true) a' w' → K a' w') → stepOf P ops Q o K a w)
    (hend : ∀ (L : Array Bool) a w, I L a w → (∀ i, i < ops.size → L.getD i false = true) → Q .normal a w) :
    (Code.region id ops true).wp P Q a w := by
  refine wp_region_any hm ?_
  refine wpAny_inv I (fun i o ho e he => ?_) (fun L a w hs hI i o ho hb hd => hstep L a w hs hI i o ho hb hd _ fun _ _ h => h) hend _ _ _ _ (by simp) (by simp) h0
  have hx := List.all_eq_true.1 hd (o, i) (List.mem_zipIdx_iff_getElem?.2 (by simpa using ho))
  simpa using List.all_eq_true.1 hx e he
/-- A list of what is done, one more. -/
theorem done_set (L : Array Bool) (i j : Nat) : (L.setIfInBounds i true).getD j false = (decide (i = j ∧ i < L.size) || L.getD j false) := by
  by_cases hj : j < L.size
  · by_cases hij : i = j
    · subst hij; simp [Array.getD, hj]
    · simp [Array.getD, hj, hij, Array.getElem_setIfInBounds]
  · by_cases hij : i = j
    · subst hij; simp [Array.getD, hj]
    · simp [Array.getD, hj, hij]
theorem done_ne {L : Array Bool} {i j : Nat} (h : i ≠ j) : (L.setIfInBounds i true).getD j false = L.getD j false := by simp [done_set, h]
theorem done_eq {L : Array Bool} {i : Nat} (h : i < L.size) : (L.setIfInBounds i true).getD i false = true := by simp [done_set, h]
theorem keep_ {L : Array Bool} {i j : Nat} {X : Prop} (h : i ≠ j) (f : L.getD j false = true → X) : (L.setIfInBounds i true).getD j false = true → X := fun hb => f (by rwa [done_ne h] at hb)
variable {o : Oper} {a : Act} {w : World} {K : Act → World → Prop}
theorem stepOf_plain (hgd : o.guard = none) (h : Oper.wp P o a w K Q) : stepOf P ops Q o K a w := by
  unfold stepOf
  have hw : Region.wanted o (yielded ops a.tmps) = true := by simp [Region.wanted, hgd]
  rw [if_pos hw]
  exact h
theorem step_alloc (hgd : o.guard = none) (t : TypeId) (ho : o.op = .alloc t) (zs : Array Value) (hz : (P.info? t).map (fun i => i.zero) = some (some (.agg zs)))
    (h : ∀ g w1, Blk w1 g t zs → w.heap.size ≤ g → w.heap.size < w1.heap.size → Ch [] w w1 → K (a.put o.dst (.pointer (some ⟨g, 0, none⟩))) w1) : stepOf P ops Q o K a w := by
  refine stepOf_plain hgd ?_
  cases hq : P.info? t with
  | none => simp [hq] at hz
  | some i =>
    have hz' : i.zero = some (.agg zs) := by simpa [hq] using hz
    unfold Oper.wp
    simp [execOp, ho, Instr.alloc, zeroValue, typeInfo, hq, hz', newVar, newRow, Value.cells]
    exact h _ _ (Blk.new w t zs) (Nat.le_refl _) (by simp) ((Ch.refl _ _).alloc _)
theorem step_load_at (hgd : o.guard = none) (ty : TypeId) (x : Operand) (ho : o.op = .load ty x) (ad : Addr) (hx : a.eval x = .pointer (some ad)) (cs : List Value) (d : TypeDesc)
    (hc : ∀ j v, cs[j]? = some v → w.cell? (ad.add j) = some v) (hu : P.underlying ty = some d) (hd : (match d with | .struct _ | .array _ _ => true | _ => false) = true) (hi : (P.info? ty).map (·.size) = some cs.length)
    (h : K (a.put o.dst (.agg cs.toArray)) w) : stepOf P ops Q o K a w := by
  refine stepOf_plain hgd ?_
  unfold Oper.wp execOp
  simp only [ho, hx, Instr.loadAt, Instr.sureAddr, Sem.run_bind, Sem.run_pure, Result.andThen_ok, run_loadVar_at w ad ty cs d hc hu hd hi]
  exact h
theorem step_store (hgd : o.guard = none) (ty : TypeId) (x y : Operand) (ho : o.op = .store ty x y) (g : Nat) (hx : a.eval x = .pointer (some ⟨g, 0, none⟩)) (t : TypeId) (cs old : Array Value) (hy : a.eval y = .agg cs) (hg : Blk w g t old)
    (hsz : cs.size = old.size) (hi : (P.info? ty).map (·.size) = some cs.size) (h1 : ∀ v ∈ cs.toList, v.oneCell' = true)
    (h : ∀ w1, Blk w1 g t cs → Ch [g] w w1 → K (a.put o.dst undef) w1) : stepOf P ops Q o K a w := by
  refine stepOf_plain hgd ?_
  have hst := run_storeCells_at P g 0 t cs.toList 0 old w hg (by simp; omega) h1
  have hrun : (storeVar ty ⟨g, 0, none⟩ (.agg cs)).run P w = .ok () (w.setRow g cs) := by
    cases hq : P.info? ty with
    | none => simp [hq] at hi
    | some i =>
      have hs : i.size = cs.size := by simpa [hq] using hi
      simp only [Nat.add_zero, Nat.zero_add, List.take_zero, List.nil_append, Array.length_toList] at hst
      rw [List.drop_of_length_le (by simp; omega), List.append_nil, Array.toArray_toList] at hst
      simp [storeVar, sizeOf, typeInfo, hq, Value.cells, hs, hst]
  unfold Oper.wp execOp
  simp only [ho, hx, hy, Instr.storeAt, Instr.sureAddr, Sem.run_bind, Sem.run_pure, Result.andThen_ok, hrun]
  exact h _ (setRow_blk hg cs) (setRow_ch w g cs)
end
theorem run_copy_row {P : Program} (w : World) (dT sT ty elem : TypeId) (g off n c : Nat) (t : TypeId) (old : Array Value) (ad : Addr) (c2 : Nat) (news : List Value)
    (hu : P.underlying dT = some (.slice elem)) (hs : (P.info? elem).map (·.size) = some 1) (hn : news.length = n) (hc : ∀ j u, news[j]? = some u → w.cell? (ad.add j) = some u)
    (hg : Blk w g t old) (hfit : off + n ≤ old.size) (h1 : ∀ u ∈ news, u.oneCell' = true) :
    (Builtin.copy_ #[dT, sT] ty #[.slice (some ⟨g, off, none⟩) n c, .slice (some ad) n c2]).run P w = .ok (goInt n) (w.setRow g (old.toList.take off ++ news ++ old.toList.drop (off + news.length)).toArray) := by
  subst hn
  have hl := run_loadCells_list (P := P) w ad news hc
  have hst := run_storeCells_at P g off t news 0 old w hg (by simpa using hfit) h1
  cases hq : P.info? elem with
  | none => simp [hq] at hs
  | some i =>
    have hi : i.size = 1 := by simpa [hq] using hs
    have hm : Nat.min news.length news.length = news.length := Nat.min_self _
    simp only [Nat.add_zero] at hst
    simp [Builtin.copy_, run_underlying hu, Builtin.lenOf, Builtin.firstCells, sizeOf, typeInfo, hq, hi, hm, hl, hst]
theorem step_copy_row {P : Program} {ops : Array Oper} {Q : Exit → Act → World → Prop} {o : Oper} {a : Act} {w : World} {K : Act → World → Prop} {E : Prop} (hgd : o.guard = none) (d s : Operand) (dT sT : TypeId) (ho : o.op = .call { callee := .builtin .copy, args := #[d, s], argTypes := #[dT, sT] }) (elem : TypeId)
    (hu : P.underlying dT = some (.slice elem)) (hs : (P.info? elem).map (·.size) = some 1) (g off n c : Nat) (t : TypeId) (old : Array Value) (ad : Addr) (c2 : Nat) (news : List Value)
    (hd : a.eval d = .slice (some ⟨g, off, none⟩) n c) (hx : a.eval s = .slice (some ad) n c2) (hn : news.length = n) (hc : ∀ j u, news[j]? = some u → w.cell? (ad.add j) = some u)
    (hg : Blk w g t old) (hfit : off + n ≤ old.size) (h1 : ∀ u ∈ news, u.oneCell' = true)
    (h : ∀ w1, Blk w1 g t (old.toList.take off ++ news ++ old.toList.drop (off + news.length)).toArray → Ch [g] w w1 → K (a.put o.dst (goInt n)) w1) :
    if Region.wanted o (yielded ops a.tmps) = true then Oper.wp P o a w K Q else E := by
  have hw : Region.wanted o (yielded ops a.tmps) = true := by simp [Region.wanted, hgd]
  rw [if_pos hw]
  have hrun := run_copy_row (P := P) w dT sT o.type elem g off n c t old ad c2 news hu hs hn hc hg hfit h1
  unfold Oper.wp
  simp only [execOp, ho, resolve, invoke, builtin, Sem.run_bind, Sem.run_pure, Result.andThen_ok, List.map_toArray, List.map_cons, List.map_nil, hd, hx, hrun]
  exact h _ (setRow_blk hg _) (setRow_ch w g _)
end Go.Proofs.Ytnckgkgilnmocaa
set_option linter.unusedSimpArgs false
set_option linter.unusedVariables false
namespace Go.Proofs.Ytnckgkgilnmocaa
open Go.RowKit
attribute [local go_sem] extract_mid extract_drop bget bsize wrap64_u8 i64_u8 u64_u8 bappend
attribute [local go_sem] u8m32 u32_add u32_add' u32_xor_w u32_and_w u32_or_w
def z8 : List UInt32 := List.replicate 8 0
theorem info_w8 : (Try.prog.info? 153).map (fun i => i.zero) = some (some (.agg (wvs z8).toArray)) := by kernel_rfl
theorem info_w8n : (Try.prog.info? 153).map (·.size) = some 8 := by kernel_rfl
theorem w8sz (s : W8) : (Try.prog.info? 153).map (·.size) = some (wvs s.list).length := by rw [info_w8n]; rfl
theorem rnds_zero (l : List UInt32) (s : W8) : rnds l s 0 = s := rfl
theorem rnds_succ (l : List UInt32) (s : W8) (k : Nat) : rnds l s (k + 1) = rnd (K64.getD k 0) (l.getD k 0) (rnds l s k) := rfl
theorem mix_def (s : W8) (b : List UInt8) : mix s b = s.add (rnds (sched b 64) s 64) := rfl
theorem u32_not (x : UInt32) : bits BinOp.xor IntKind.u32 IntKind.u32.max (w32 x) = w32 (~~~x) := by
  have h : IntKind.u32.max = w32 4294967295 := by decide
  rw [h, u32_xor_w]
  refine congrArg w32 (UInt32.toBitVec_inj.1 ?_)
  rw [UInt32.toBitVec_xor, UInt32.toBitVec_not]
  exact BitVec.allOnes_xor
attribute [local go_sem] u32_not
theorem turn_any (x : UInt32) (n : Int) (hn : n = 6 ∨ n = 11 ∨ n = 25 ∨ n = 2 ∨ n = 13 ∨ n = 22) (w : World) : Calls Try.prog 105 #[.int .u32 (w32 x), .int .i64 n] w fun r w' => r = .returned (.int .u32 (w32 (rotr x n.toNat))) ∧ w = w' := by
  rcases hn with rfl | rfl | rfl | rfl | rfl | rfl
  · exact turn6 x w
  · exact turn11 x w
  · exact turn25 x w
  · exact turn2 x w
  · exact turn13 x w
  · exact turn22 x w
def addUp (s t : W8) (j : Nat) : List UInt32 := (s.add t).list.take j ++ s.list.drop j
theorem addUp_get (s t : W8) (j : Nat) (h : j < 8) : ∃ x y, (addUp s t j)[j]? = some x ∧ t.list[j]? = some y ∧ (addUp s t j).set j (x + y) = addUp s t (j + 1) ∧ (addUp s t j).length = 8 := by
  rcases (by omega : j = 0 ∨ j = 1 ∨ j = 2 ∨ j = 3 ∨ j = 4 ∨ j = 5 ∨ j = 6 ∨ j = 7) with rfl | rfl | rfl | rfl | rfl | rfl | rfl | rfl <;> exact ⟨_, _, rfl, rfl, rfl, rfl⟩
theorem wset2 (l : List UInt32) (R : List Value) (z : UInt32) (k : Nat) (h : k < l.length) : (wvs l ++ R).toArray.setIfInBounds k (.int .u32 (w32 z)) = (wvs (l.set k z) ++ R).toArray := by
  simp only [List.setIfInBounds_toArray]
  congr 1
  rw [List.set_append, if_pos (by rw [wvs_len]; exact h)]
  simp [wvs, List.map_set, wv]
attribute [local irreducible] sched rnds mix
theorem info_u32n : (Try.prog.info? 151).map (·.size) = some 1 := by kernel_rfl
theorem op_index {P : Program} {w : World} {ops : Array Oper} {rest : List Oper} {o : Oper} {a : Act} {Q : Exit → Act → World → Prop} (hgd : o.guard = none) (t : TypeId) (x y : Operand) (ho : o.op = .index t x y) (cs : List Value) (hx : a.eval x = .agg cs.toArray) (k : Nat) (hy : a.eval y = .int .i64 (k : Int)) (n : Nat) (e : TypeId) (ik : IntKind)
    (ht : P.underlying t = some (.array n e)) (he : P.underlying e = some (.int ik)) (hi : (P.info? e).map (·.size) = some 1) (v : Value) (hv : cs[k]? = some v) (hk : k < n) (h : wpList P ops Q rest (a.put o.dst v) w) : wpList P ops Q (o :: rest) a w := by
  refine wpList_plain hgd fun K hK => ?_
  have hrun : (Instr.index t (.agg cs.toArray) (.int .i64 (k : Int))).run P w = .ok v w := by
    cases hq : P.info? e with
    | none => simp [hq] at hi
    | some i =>
      have hs : i.size = 1 := by simpa [hq] using hi
      have hagg : (isAgg e).run P w = .ok false w := by
        unfold isAgg
        rw [Sem.run_bind, run_underlying he w]
        rfl
      have hk2 : (0 : Int) ≤ (k : Int) ∧ (k : Int) < (n : Int) := by omega
      have hv2 : cs.toArray[k]? = some v := by simpa using hv
      simp [Instr.index, asIntOf, run_underlying ht, hk2, sizeOf, typeInfo, hq, hs]
      rw [if_pos hk]
      simp [Go.part, hagg, hv]
  unfold Oper.wp
  simp only [execOp, ho, Sem.run_bind, hx, hy, hrun, Result.andThen_ok, Sem.run_pure]
  exact hK _ _ h
set_option maxRecDepth 100000 in
set_option maxHeartbeats 8000000 in
theorem block_any (s : W8) (x8 x9 : Value) (b : List UInt8) (ad : Addr) (c g : Nat) (hb : b.length = 64) (hc : 64 ≤ c) (hc2 : c ≤ 9223372036854775807) (w : World)
    (hS : Blk w g 155 (wvs s.list ++ [x8, x9]).toArray) (hR : Rd w 1 (some ad) 64 (bvs b)) (hne : ad.block ≠ g) :
    Calls Try.prog 89 #[.pointer (some ⟨g, 0, none⟩), .slice (some ad) 64 c] w fun r w' => r = .returned (.tuple #[]) ∧ Blk w' g 155 (wvs (mix s b).list ++ [x8, x9]).toArray ∧ Ch [g] w w' := by
  go_enter Try.func89, Try.ntmps89
  go_wp2
  generalize hA0 : Act.mk _ _ = A0
  refine region_inv (fun L a w' => ∃ s4 s5 s13 s14 s15 s16 s17, a = ((((((A0.put (some 4) s4).put (some 5) s5).put (some 13) s13).put (some 14) s14).put (some 15) s15).put (some 16) s16).put (some 17) s17 ∧
    (L.getD 0 false = true → s13 = .pointer (some ⟨g, 0, none⟩)) ∧ (L.getD 1 false = true → s14 = .pointer (some ⟨g, 0, none⟩)) ∧ (L.getD 2 false = true → s15 = .pointer (some ⟨g, 0, none⟩)) ∧
    (L.getD 3 false = true → s16 = .agg (wvs s.list).toArray) ∧ (L.getD 4 false = true → s17 = .agg (wvs K64).toArray) ∧
    (L.getD 5 false = true → ∃ g4, s4 = .pointer (some ⟨g4, 0, none⟩) ∧ w.heap.size ≤ g4 ∧ Blk w' g4 153 (wvs (if L.getD 7 false then s.list else z8)).toArray) ∧
    (L.getD 6 false = true → ∃ g5, s5 = .pointer (some ⟨g5, 0, none⟩) ∧ w.heap.size ≤ g5 ∧ Blk w' g5 171 (wvs (if L.getD 8 false then K64 else z64)).toArray) ∧
    (L.getD 7 false = true → L.getD 5 false = true) ∧ (L.getD 8 false = true → L.getD 6 false = true) ∧ Ch [] w w') (by kernel_rfl) (by kernel_rfl) ?_ ?_ ?_
  · refine ⟨undef, undef, undef, undef, undef, undef, undef, ?_, ?_, ?_, ?_, ?_, ?_, ?_, ?_, ?_, ?_, (Ch.refl _ _).drew⟩
    · subst hA0
      simp only [Act.put, List.setIfInBounds_toArray, List.set_cons_zero, List.set_cons_succ]
    all_goals (intro h; simp at h)
  · intro L a w' hs ⟨s4, s5, s13, s14, s15, s16, s17, ha, f0, f1, f2, f3, f4, f5, f6, f7, f8, hC⟩ i o ho hbi hd K hK
    have hs : L.size = 9 := hs
    have hi : i < 9 := by
      rcases Nat.lt_or_ge i 9 with h | h
      · exact h
      · rw [Array.getElem?_eq_none (by simpa using h)] at ho; cases ho
    have hbi' : L.getD i false = false := by
      have : i < L.size := by omega
      simpa [Array.getD, this] using hbi
    have b7 : L.getD 5 false = false → L.getD 7 false = false := fun h => by
      rcases h7 : L.getD 7 false with _ | _
      · rfl
      · rw [f7 h7] at h; cases h
    have b8 : L.getD 6 false = false → L.getD 8 false = false := fun h => by
      rcases h7 : L.getD 8 false with _ | _
      · rfl
      · rw [f8 h7] at h; cases h
    have b7' : L.getD 7 false = false → L.getD 7 false = false := id
    have b8' : L.getD 8 false = false → L.getD 8 false = false := id
    subst ha hA0
    clear hbi
    rcases (by omega : i = 0 ∨ i = 1 ∨ i = 2 ∨ i = 3 ∨ i = 4 ∨ i = 5 ∨ i = 6 ∨ i = 7 ∨ i = 8) with rfl | rfl | rfl | rfl | rfl | rfl | rfl | rfl | rfl
    · simp only [List.getElem?_toArray, List.getElem?_cons_zero, List.getElem?_cons_succ, Option.some.injEq] at ho; subst ho
      clear hd
      refine stepOf_plain rfl ?_
      simp only [Act.put, List.setIfInBounds_toArray, List.set_cons_zero, List.set_cons_succ]
      go_simp
      exact hK _ _ ⟨s4, s5, (.pointer (some ⟨g, 0, none⟩)), s14, s15, s16, s17, (by simp only [Act.put, List.setIfInBounds_toArray, List.set_cons_zero, List.set_cons_succ]), (fun _ => rfl), keep_ (by decide) f1, keep_ (by decide) f2, keep_ (by decide) f3, keep_ (by decide) f4, (by rw [done_ne (by decide), done_ne (by decide)]; exact f5), (by rw [done_ne (by decide), done_ne (by decide)]; exact f6), (by rw [done_ne (by decide), done_ne (by decide)]; exact f7), (by rw [done_ne (by decide), done_ne (by decide)]; exact f8), hC⟩
    · simp only [List.getElem?_toArray, List.getElem?_cons_zero, List.getElem?_cons_succ, Option.some.injEq] at ho; subst ho
      obtain rfl := f0 (hd ⟨0, .data⟩ (by simp) rfl)
      clear hd
      refine stepOf_plain rfl ?_
      simp only [Act.put, List.setIfInBounds_toArray, List.set_cons_zero, List.set_cons_succ]
      go_simp
      exact hK _ _ ⟨s4, s5, _, (.pointer (some ⟨g, 0, none⟩)), s15, s16, s17, (by simp only [Act.put, List.setIfInBounds_toArray, List.set_cons_zero, List.set_cons_succ]), (fun _ => rfl), (fun _ => rfl), keep_ (by decide) f2, keep_ (by decide) f3, keep_ (by decide) f4, (by rw [done_ne (by decide), done_ne (by decide)]; exact f5), (by rw [done_ne (by decide), done_ne (by decide)]; exact f6), (by rw [done_ne (by decide), done_ne (by decide)]; exact f7), (by rw [done_ne (by decide), done_ne (by decide)]; exact f8), hC⟩
    · simp only [List.getElem?_toArray, List.getElem?_cons_zero, List.getElem?_cons_succ, Option.some.injEq] at ho; subst ho
      obtain rfl := f1 (hd ⟨1, .data⟩ (by simp) rfl)
      clear hd
      refine stepOf_plain rfl ?_
      simp only [Act.put, List.setIfInBounds_toArray, List.set_cons_zero, List.set_cons_succ]
      go_simp
      exact hK _ _ ⟨s4, s5, s13, _, (.pointer (some ⟨g, 0, none⟩)), s16, s17, (by simp only [Act.put, List.setIfInBounds_toArray, List.set_cons_zero, List.set_cons_succ]), keep_ (by decide) f0, (fun _ => rfl), (fun _ => rfl), keep_ (by decide) f3, keep_ (by decide) f4, (by rw [done_ne (by decide), done_ne (by decide)]; exact f5), (by rw [done_ne (by decide), done_ne (by decide)]; exact f6), (by rw [done_ne (by decide), done_ne (by decide)]; exact f7), (by rw [done_ne (by decide), done_ne (by decide)]; exact f8), hC⟩
    · simp only [List.getElem?_toArray, List.getElem?_cons_zero, List.getElem?_cons_succ, Option.some.injEq] at ho; subst ho
      obtain rfl := f2 (hd ⟨2, .data⟩ (by simp) rfl)
      clear hd
      simp only [Act.put, List.setIfInBounds_toArray, List.set_cons_zero, List.set_cons_succ]
      refine step_load_at rfl 153 (.tmp 15) rfl ⟨g, 0, none⟩ rfl (wvs s.list) _ (fun j v hv => ?_) Try.underlying153 rfl (w8sz s) ?_
      · rw [add_lit, (hS.ch0 hC).cell]; simpa [List.getElem?_append_left (List.getElem?_eq_some_iff.1 hv).1] using hv
      exact hK _ _ ⟨s4, s5, s13, s14, _, (.agg (wvs s.list).toArray), s17, (by simp only [Act.put, List.setIfInBounds_toArray, List.set_cons_zero, List.set_cons_succ]), keep_ (by decide) f0, keep_ (by decide) f1, (fun _ => rfl), (fun _ => rfl), keep_ (by decide) f4, (by rw [done_ne (by decide), done_ne (by decide)]; exact f5), (by rw [done_ne (by decide), done_ne (by decide)]; exact f6), (by rw [done_ne (by decide), done_ne (by decide)]; exact f7), (by rw [done_ne (by decide), done_ne (by decide)]; exact f8), hC⟩
    · simp only [List.getElem?_toArray, List.getElem?_cons_zero, List.getElem?_cons_succ, Option.some.injEq] at ho; subst ho
      clear hd
      refine stepOf_plain rfl ?_
      simp only [Act.put, List.setIfInBounds_toArray, List.set_cons_zero, List.set_cons_succ]
      go_simp
      refine (rounds_any _).mono ?_
      rintro r w2 ⟨rfl, hC2⟩
      exact hK _ _ ⟨s4, s5, s13, s14, s15, s16, (.agg (wvs K64).toArray), (by simp only [Act.put, List.setIfInBounds_toArray, List.set_cons_zero, List.set_cons_succ]), keep_ (by decide) f0, keep_ (by decide) f1, keep_ (by decide) f2, keep_ (by decide) f3, (fun _ => rfl), (by rw [done_ne (by decide), done_ne (by decide)]; exact (fun h => (f5 h).imp fun _ h => ⟨h.1, h.2.1, h.2.2.ch0 hC2⟩)), (by rw [done_ne (by decide), done_ne (by decide)]; exact (fun h => (f6 h).imp fun _ h => ⟨h.1, h.2.1, h.2.2.ch0 hC2⟩)), (by rw [done_ne (by decide), done_ne (by decide)]; exact f7), (by rw [done_ne (by decide), done_ne (by decide)]; exact f8), hC.trans hC2⟩
    · simp only [List.getElem?_toArray, List.getElem?_cons_zero, List.getElem?_cons_succ, Option.some.injEq] at ho; subst ho
      clear hd
      refine step_alloc rfl 153 rfl (wvs z8).toArray info_w8 ?_
      intro gn w2 hbn hgn hln hC2
      exact hK _ _ ⟨(.pointer (some ⟨gn, 0, none⟩)), s5, s13, s14, s15, s16, s17, (by simp only [Act.put, List.setIfInBounds_toArray, List.set_cons_zero, List.set_cons_succ]), keep_ (by decide) f0, keep_ (by decide) f1, keep_ (by decide) f2, keep_ (by decide) f3, keep_ (by decide) f4, (fun _ => ⟨gn, rfl, Nat.le_trans hC.size hgn, by rw [done_ne (by decide), b7 hbi']; exact hbn⟩), (by rw [done_ne (by decide), done_ne (by decide)]; exact (fun h => (f6 h).imp fun _ h => ⟨h.1, h.2.1, h.2.2.ch0 hC2⟩)), (fun _ => done_eq (by omega)), (by rw [done_ne (by decide), done_ne (by decide)]; exact f8), hC.trans hC2⟩
    · simp only [List.getElem?_toArray, List.getElem?_cons_zero, List.getElem?_cons_succ, Option.some.injEq] at ho; subst ho
      clear hd
      refine step_alloc rfl 171 rfl (wvs z64).toArray info_w64 ?_
      intro gn w2 hbn hgn hln hC2
      exact hK _ _ ⟨s4, (.pointer (some ⟨gn, 0, none⟩)), s13, s14, s15, s16, s17, (by simp only [Act.put, List.setIfInBounds_toArray, List.set_cons_zero, List.set_cons_succ]), keep_ (by decide) f0, keep_ (by decide) f1, keep_ (by decide) f2, keep_ (by decide) f3, keep_ (by decide) f4, (by rw [done_ne (by decide), done_ne (by decide)]; exact (fun h => (f5 h).imp fun _ h => ⟨h.1, h.2.1, h.2.2.ch0 hC2⟩)), (fun _ => ⟨gn, rfl, Nat.le_trans hC.size hgn, by rw [done_ne (by decide), b8 hbi']; exact hbn⟩), (by rw [done_ne (by decide), done_ne (by decide)]; exact f7), (fun _ => done_eq (by omega)), hC.trans hC2⟩
    · simp only [List.getElem?_toArray, List.getElem?_cons_zero, List.getElem?_cons_succ, Option.some.injEq] at ho; subst ho
      have D5 : L.getD 5 false = true := hd ⟨5, .data⟩ (by simp) rfl
      have D3 : L.getD 3 false = true := hd ⟨3, .data⟩ (by simp) rfl
      obtain ⟨gn, rfl, hgn, hbn⟩ := f5 D5
      obtain rfl := f3 D3
      clear hd
      rw [b7' hbi'] at hbn
      simp only [Act.put, List.setIfInBounds_toArray, List.set_cons_zero, List.set_cons_succ]
      refine step_store rfl 153 (.tmp 4) (.tmp 16) rfl gn rfl 153 (wvs s.list).toArray (wvs z8).toArray rfl hbn (by simp [wvs_len, z8, W8.list]) (by rw [info_w8n]; rfl) (by simpa using wvs_one _) ?_
      intro w2 hb2 hC2
      exact hK _ _ ⟨_, s5, s13, s14, s15, _, s17, (by simp only [Act.put, List.setIfInBounds_toArray, List.set_cons_zero, List.set_cons_succ]), keep_ (by decide) f0, keep_ (by decide) f1, keep_ (by decide) f2, (fun _ => rfl), keep_ (by decide) f4, (fun _ => ⟨gn, rfl, hgn, by rw [done_eq (by omega)]; exact hb2⟩), (by rw [done_ne (by decide), done_ne (by decide)]; exact fun h => (f6 h).imp fun g9 h => ⟨h.1, h.2.1, h.2.2.ch hC2 (by simp; exact h.2.2.ne_ hbn (by decide))⟩), (fun _ => by rw [done_ne (by decide)]; exact D5), (by rw [done_ne (by decide), done_ne (by decide)]; exact f8), hC.one hC2 (.inr hgn)⟩
    · simp only [List.getElem?_toArray, List.getElem?_cons_zero, List.getElem?_cons_succ, Option.some.injEq] at ho; subst ho
      have D6 : L.getD 6 false = true := hd ⟨6, .data⟩ (by simp) rfl
      have D4 : L.getD 4 false = true := hd ⟨4, .data⟩ (by simp) rfl
      obtain ⟨gn, rfl, hgn, hbn⟩ := f6 D6
      obtain rfl := f4 D4
      clear hd
      rw [b8' hbi'] at hbn
      simp only [Act.put, List.setIfInBounds_toArray, List.set_cons_zero, List.set_cons_succ]
      refine step_store rfl 171 (.tmp 5) (.tmp 17) rfl gn rfl 171 (wvs K64).toArray (wvs z64).toArray rfl hbn (by simp [wvs_len, z64_len, K64_len]) (w64sz _ K64_len) (by simpa using wvs_one _) ?_
      intro w2 hb2 hC2
      exact hK _ _ ⟨s4, _, s13, s14, s15, s16, _, (by simp only [Act.put, List.setIfInBounds_toArray, List.set_cons_zero, List.set_cons_succ]), keep_ (by decide) f0, keep_ (by decide) f1, keep_ (by decide) f2, keep_ (by decide) f3, (fun _ => rfl), (by rw [done_ne (by decide), done_ne (by decide)]; exact fun h => (f5 h).imp fun g9 h => ⟨h.1, h.2.1, h.2.2.ch hC2 (by simp; exact h.2.2.ne_ hbn (by decide))⟩), (fun _ => ⟨gn, rfl, hgn, by rw [done_eq (by omega)]; exact hb2⟩), (by rw [done_ne (by decide), done_ne (by decide)]; exact f7), (fun _ => by rw [done_ne (by decide)]; exact D6), hC.one hC2 (.inr hgn)⟩
  · intro L a w' ⟨s4, s5, s13, s14, s15, s16, s17, ha, f0, f1, f2, f3, f4, f5, f6, f7, f8, hC⟩ hall
    have e0 := f0 (hall 0 (by decide))
    have e1 := f1 (hall 1 (by decide))
    have e2 := f2 (hall 2 (by decide))
    have e3 := f3 (hall 3 (by decide))
    have e4 := f4 (hall 4 (by decide))
    obtain ⟨g4, e5, h4, b4⟩ := f5 (hall 5 (by decide))
    obtain ⟨g5, e6, h5, b5⟩ := f6 (hall 6 (by decide))
    rw [hall 7 (by decide)] at b4
    rw [hall 8 (by decide)] at b5
    simp only [if_true] at b4 b5
    clear f0 f1 f2 f3 f4 f5 f6 f7 f8 hall
    subst e0 e1 e2 e3 e4 e5 e6 ha hA0
    simp only [Act.put, List.setIfInBounds_toArray, List.set_cons_zero, List.set_cons_succ]
    have hRb := hR.ch0 hC
    have hSb := hS.ch0 hC
    have hg := hS.lt
    clear hS hR
    go_wp2_with (go_at_call 104; refine (spread_any b ad c hb hc hc2 _ hRb).mono ?_; rintro r w2 ⟨rfl, hC2⟩)
    have hbv := b4.ch0 hC2
    have hbt := b5.ch0 hC2
    have hg45 : g4 ≠ g5 := b4.ne_ b5 (by decide)
    have hwl : (sched b 64).length = 64 := sched_len b 64
    clear b4 b5 hRb
    go_loopw [20] (fun i wr => ∃ (k : Nat), k ≤ 64 ∧ i = .int .i64 k ∧ Blk wr g4 153 (wvs (rnds (sched b 64) s k).list).toArray ∧ Ch [g4] w2 wr) (fun i _ => 64 - (intOf i).toNat)
    case atStart => exact ⟨0, by omega, rfl, by rw [rnds_zero]; exact hbv, Ch.refl _ _⟩
    case round =>
      obtain ⟨k, hk, rfl, hbk, hCk⟩ := hrel
      by_cases hlt : k < 64
      · as_aux_lemma =>
        have hbtk := hbt.ch hCk (by simpa using Ne.symm hg45)
        obtain ⟨x, hx⟩ : ∃ x, (sched b 64)[k]? = some x := ⟨_, List.getElem?_eq_getElem (by omega)⟩
        obtain ⟨y, hy⟩ : ∃ y, K64[k]? = some y := ⟨_, List.getElem?_eq_getElem (by rw [K64_len]; omega)⟩
        have hnx : rnds (sched b 64) s (k + 1) = rnd y x (rnds (sched b 64) s k) := by
          rw [rnds_succ, List.getD_eq_getElem?_getD, List.getD_eq_getElem?_getD, hx, hy]; rfl
        have ck := wget hbtk k y hy
        have cx : (wvs (sched b 64))[k]? = some (.int .u32 (w32 x)) := wvs_get _ _ _ hx
        have CX := Lib.hid cx
        have HX := Lib.hid hnx
        clear hnx hx hy hbtk cx
        obtain ⟨σ, hσ⟩ : ∃ σ, σ = rnds (sched b 64) s k := ⟨_, rfl⟩
        rw [← hσ] at hbk
        have HS := Lib.hid hσ
        clear hσ
        obtain ⟨a0, b0, c0, d0, e0, f0, g0, h0⟩ := σ
        have z0 : wr.cell? ⟨g4, 0, none⟩ = some (.int .u32 (w32 a0)) := by rw [hbk.cell]; rfl
        have z1 : wr.cell? ⟨g4, 1, none⟩ = some (.int .u32 (w32 b0)) := by rw [hbk.cell]; rfl
        have z2 : wr.cell? ⟨g4, 2, none⟩ = some (.int .u32 (w32 c0)) := by rw [hbk.cell]; rfl
        have z3 : wr.cell? ⟨g4, 3, none⟩ = some (.int .u32 (w32 d0)) := by rw [hbk.cell]; rfl
        have z4 : wr.cell? ⟨g4, 4, none⟩ = some (.int .u32 (w32 e0)) := by rw [hbk.cell]; rfl
        have z5 : wr.cell? ⟨g4, 5, none⟩ = some (.int .u32 (w32 f0)) := by rw [hbk.cell]; rfl
        have z6 : wr.cell? ⟨g4, 6, none⟩ = some (.int .u32 (w32 g0)) := by rw [hbk.cell]; rfl
        have z7 : wr.cell? ⟨g4, 7, none⟩ = some (.int .u32 (w32 h0)) := by rw [hbk.cell]; rfl
        go_wp2_with (refine op_index rfl 171 (.tmp 19) (.tmp 20) rfl (wvs (sched b 64)) rfl k rfl 64 151 _ Try.underlying171 Try.underlying151 info_u32n _ CX.out hlt ?_)
        go_region
        go_wp2
        go_region
        go_wp2_with (go_at_call 105; refine (turn_any _ _ ?h _).mono ?_; (case h => decide); rintro r w' ⟨rfl, rfl⟩; (try simp only [Int.toNat_ofNat, Int.reduceToNat]))
        obtain ⟨w9, hW⟩ : ∃ x, x = World.drew (World.drew wr) := ⟨_, rfl⟩
        rw [← hW]
        have hb9 : Blk w9 g4 153 (wvs (W8.list ⟨a0, b0, c0, d0, e0, f0, g0, h0⟩)).toArray := by rw [hW]; exact hbk
        have C9 : Ch [g4] w2 w9 := by rw [hW]; exact hCk.drewN 2
        clear hW hbk hCk z0 z1 z2 z3 z4 z5 z6 z7 ck
        go_region_law (refine step_copy_row rfl (.tmp 81) (.tmp 82) 175 175 rfl 151 Try.underlying175 info_u32n g4 1 7 7 153 (wvs (W8.list ⟨a0, b0, c0, d0, e0, f0, g0, h0⟩)).toArray ⟨g4, 0, none⟩ 8 (wvs [a0, b0, c0, d0, e0, f0, g0]) rfl rfl rfl (fun j u hj => by rw [add_lit, hb9.drew.cell]; rcases (by simp [wvs] at hj; have := (List.getElem?_eq_some_iff.1 hj).1; simpa [wvs] using this : j < 7) with hj7; rcases (by omega : j = 0 ∨ j = 1 ∨ j = 2 ∨ j = 3 ∨ j = 4 ∨ j = 5 ∨ j = 6) with rfl | rfl | rfl | rfl | rfl | rfl | rfl <;> exact hj) hb9.drew (by simp [wvs, W8.list]) (wvs_one _) ?_; intro w10 hb10 hC10)
        have hb11 : Blk w10 g4 153 (wvs [a0, a0, b0, c0, d0, e0, f0, g0]).toArray := hb10
        have z4 : w10.cell? ⟨g4, 4, none⟩ = some (.int .u32 (w32 d0)) := by rw [hb11.cell]; rfl
        have z0 : w10.cell? ⟨g4, 0, none⟩ = some (.int .u32 (w32 a0)) := by rw [hb11.cell]; rfl
        have y0 := hb11.frozen 0
        have y4 := hb11.frozen 4
        have C11 := C9.drew.trans hC10
        clear hb10 hb9 C9 hC10
        go_wp2
        go_roundw
        case rel =>
          refine ⟨k + 1, by omega, by go_num, ?_, ((C11.setCell (.inl (by simp)) _).setCell (.inl (by simp)) _)⟩
          rw [HX.out, ← HS.out]
          have hf := (hb11.set_ 4 (.int .u32 (w32 (d0 + (h0 + y + x + (rotr e0 6 ^^^ rotr e0 11 ^^^ rotr e0 25) + (e0 &&& f0 ||| ~~~e0 &&& g0)))))).set_ 0 (.int .u32 (w32 (h0 + y + x + (rotr e0 6 ^^^ rotr e0 11 ^^^ rotr e0 25) + (e0 &&& f0 ||| ~~~e0 &&& g0) + ((rotr a0 2 ^^^ rotr a0 13 ^^^ rotr a0 22) + (a0 &&& (b0 ||| c0) ||| b0 &&& c0)))))
          exact hf
        case measure => simp [intOf]; omega
      · obtain rfl : k = 64 := by omega
        have hSk := (hSb.ch0 hC2).ch hCk (by simp; omega)
        have hgw : g < w2.heap.size := (hSb.ch0 hC2).lt
        have hg4 : g4 ≠ g := by omega
        have hmx := mix_def s b
        obtain ⟨t, ht⟩ : ∃ t, t = rnds (sched b 64) s 64 := ⟨_, rfl⟩
        rw [← ht] at hbk hmx
        have Cw : Ch [] w wr := (hC.trans hC2).one hCk (.inr h4)
        have HM := Lib.hid hmx
        clear hmx ht hbt hbv hSb hCk hC hC2
        go_wp2
        obtain ⟨wq, rfl⟩ : ∃ wq : World, wq = wr := ⟨_, rfl⟩
        go_loopw [94] (fun i wr => ∃ (j : Nat), j ≤ 8 ∧ i = .int .i64 j ∧ Blk wr g 155 (wvs (addUp s t j) ++ [x8, x9]).toArray ∧ Ch [g] wq wr) (fun i _ => 8 - (intOf i).toNat)
        case atStart => exact ⟨0, by omega, rfl, hSk, Ch.refl _ _⟩
        case round =>
          obtain ⟨j, hj, rfl, hbj, hCj⟩ := hrel
          by_cases hlt : j < 8
          · as_aux_lemma =>
            have hb4 := hbk.ch hCj (by simpa using hg4)
            obtain ⟨x, y, hx, hy, hset, hl⟩ := addUp_get s t j hlt
            have cg : wr.cell? ⟨g, j, none⟩ = some (.int .u32 (w32 x)) := by
              rw [hbj.cell]
              have := wvs_get _ _ _ hx
              simpa [List.getElem?_append_left (List.getElem?_eq_some_iff.1 this).1] using this
            have fg := hbj.frozen j
            have c4 := wget hb4 j y hy
            have hst := hbj.set_ j (.int .u32 (w32 (x + y)))
            rw [wset2 _ _ _ _ (by rw [hl]; exact hlt), hset] at hst
            have HST := Lib.hid hst
            clear hst hset hx hy hbj hb4
            go_wp2
            go_region
            all_goals (go_wp2; go_roundw)
            case rel => exact ⟨j + 1, by omega, by go_num, HST.out, (hCj.setCell (p := ⟨g, j, none⟩) (.inl (by simp)) (.int .u32 (w32 (x + y)))).drew⟩
            case measure => simp [intOf]; omega
          · obtain rfl : j = 8 := by omega
            go_wp2
            go_end0
            refine ⟨rfl, ?_, Cw.more.trans hCj⟩
            rw [HM.out]
            simpa [addUp, W8.list] using hbj
end Go.Proofs.Ytnckgkgilnmocaa
set_option linter.unusedSimpArgs false
set_option linter.unusedVariables false
namespace Go.Proofs.Ytnckgkgilnmocaa
/-- The words behind all whole blocks of l. -/
def hst (l : List UInt8) : W8 := mixN iv0 (l.length / 64) l
/-- What is left of l behind its whole blocks. -/
def rest (l : List UInt8) : List UInt8 := l.drop (64 * (l.length / 64))
theorem rest_len (l : List UInt8) : (rest l).length = l.length % 64 := by simp [rest]; omega
theorem hst_app (a b : List UInt8) : hst (a ++ b) = mixN (hst a) ((rest a ++ b).length / 64) (rest a ++ b) := by
  have h1 : (a ++ b).length / 64 = a.length / 64 + (rest a ++ b).length / 64 := by simp only [List.length_append, rest_len]; omega
  unfold hst
  rw [h1, mixN_add, mixN_app _ _ _ _ (by omega)]
  congr 1
  rw [List.drop_append_of_le_length (by omega)]
  rfl
theorem rest_app (a b : List UInt8) : rest (a ++ b) = (rest a ++ b).drop (64 * ((rest a ++ b).length / 64)) := by
  have h1 : (a ++ b).length / 64 = a.length / 64 + (rest a ++ b).length / 64 := by simp only [List.length_append, rest_len]; omega
  have h2 : rest a ++ b = (a ++ b).drop (64 * (a.length / 64)) := by rw [List.drop_append_of_le_length (by omega)]; rfl
  conv => lhs; rw [rest, h1, Nat.mul_add, ← List.drop_drop, ← h2]
theorem mixN_succ_last (s : W8) (k : Nat) (l : List UInt8) : mixN s (k + 1) l = mix (mixN s k l) ((l.drop (64 * k)).take 64) := by rw [mixN_add]; simp only [mixN]
end Go.Proofs.Ytnckgkgilnmocaa
set_option linter.unusedSimpArgs false
set_option linter.unusedVariables false
namespace Go.Proofs.Ytnckgkgilnmocaa
open Go.RowKit
attribute [local go_sem] extract_mid extract_drop bget bsize wrap64_u8 i64_u8 u64_u8 bappend
theorem block_star {L : List SProp} (s : W8) (x8 x9 : Value) (b : List UInt8) (ad : Addr) (c g : Nat) (hb : b.length = 64) (hc : 64 ≤ c) (hc2 : c ≤ 9223372036854775807) (w : World)
    (hM : Star (cellsE g 155 (wvs s.list ++ [x8, x9]).toArray :: L) w) (hR : Rd w 1 (some ad) 64 (bvs b)) (hne : ad.block ≠ g) :
    Calls Try.prog 89 #[.pointer (some ⟨g, 0, none⟩), .slice (some ad) 64 c] w fun r w' => r = .returned (.tuple #[]) ∧ Star (cellsE g 155 (wvs (mix s b).list ++ [x8, x9]).toArray :: L) w' :=
  (block_any s x8 x9 b ad c g hb hc hc2 w hM.head hR hne).mono fun _ _ ⟨h1, h2, h3⟩ => ⟨h1, hM.put (bs := [g]) rfl h3 (fun b hb => .inl (List.mem_singleton.1 hb)) h2 fun k hk => .inl hk⟩
abbrev stC (s : W8) (x y : Value) : Array Value := (wvs s.list ++ [x, y]).toArray
/-- A sum of the bytes l: its cells. -/
def shCells (l : List UInt8) (A : Option Addr) (n c : Nat) : Array Value := (wvs (hst l).list ++ [Value.slice A n c, Value.int .u64 (l.length : Int)]).toArray
set_option maxRecDepth 100000 in
theorem new_star {F : List SProp} (w : World) (hM : Star F w) :
    Calls Try.prog 59 #[] w fun r w' => ∃ g, r = .returned (.pointer (some ⟨g, 0, none⟩)) ∧ Star (tailE 5 1 none 0 0 (bvs (rest [])) :: cellsE g 155 (shCells [] none 0 0) :: F) w' := by
  go_enter Try.func59, Try.ntmps59
  go_wp2_with (first | (refine build_any rfl _ _ rfl _ (by kernel_rfl) ?_) | (first | (have hM0 := hM; clear hM; refine BigFrame.wpList_want (by rfl) fun K hK => ws_box hM0 rfl rfl rfl (fun g w hM => hK _ _ ?_); clear hM0 hK K) | fail))
  go_ret
  exact ⟨_, rfl, hM.niltail _ _⟩
theorem sh_at8 (s : W8) (x y : Value) : (wvs s.list ++ [x, y]).toArray[8]? = some x := rfl
theorem sh_at9 (s : W8) (x y : Value) : (wvs s.list ++ [x, y]).toArray[9]? = some y := rfl
theorem sh_set8 (s : W8) (x y z : Value) : (wvs s.list ++ [x, y]).toArray.setIfInBounds 8 z = (wvs s.list ++ [z, y]).toArray := rfl
theorem sh_set9 (s : W8) (x y z : Value) : (wvs s.list ++ [x, y]).toArray.setIfInBounds 9 z = (wvs s.list ++ [x, z]).toArray := rfl
theorem Tail.some_ {w : World} {e : TypeId} {size : Nat} {A : Option Addr} {n c : Nat} {xs : List Value} (h : Tail w e size A n c xs) (hn : 0 < c) : ∃ g off, A = some ⟨g, off, none⟩ := by
  obtain ⟨_, _, _, ⟨_, h⟩ | ⟨g, off, _, h, _⟩⟩ := h
  · omega
  · exact ⟨g, off, h⟩
theorem Tail.ne_ {w : World} {e t : TypeId} {size : Nat} {g off n c : Nat} {xs : List Value} {g' : Nat} {cs : Array Value} (h : Tail w e size (some ⟨g, off, none⟩) n c xs) (h' : Blk w g' t cs) (hne : e ≠ t) : g ≠ g' := by
  obtain ⟨_, _, _, ⟨h, _⟩ | ⟨g2, off2, cur, h, hb, _⟩⟩ := h
  · cases h
  · injection h with h; injection h with h; subst h; exact hb.ne_ h' hne
theorem cat_take_snoc {l : List (List UInt8)} {k : Nat} {d : List UInt8} (h : l.take (k + 1) = l.take k ++ [d]) : cat (l.take (k + 1)) = cat (l.take k) ++ d := by rw [h, cat_snoc]
theorem bvs_take (l : List UInt8) (k : Nat) : (bvs l).take k = bvs (l.take k) := (List.map_take).symm
theorem bvs_drop (l : List UInt8) (k : Nat) : (bvs l).drop k = bvs (l.drop k) := (List.map_drop).symm
theorem Star.tail_first {L : List SProp} {w : World} {e : TypeId} {A : Option Addr} {n c k : Nat} {l : List UInt8} (h : Star L w) (hx : tailE e 1 A n c (bvs l) ∈ L) (hk : k ≤ n) : Rd w 1 A k (bvs (l.take k)) := by
  have := (h.tail_row hx).take_ hk
  rwa [bvs_take] at this
set_option maxRecDepth 100000 in
set_option maxHeartbeats 2000000 in
theorem write_star_b {F : List SProp} (g : Nat) (all : List UInt8) (ps : List (List UInt8)) (As : Option Addr) (np cp : Nat) (hps : all.length + (cat ps).length ≤ 140737488355000) (hnp : np ≤ 1000) (A : Option Addr) (n c : Nat) (w : World)
    (hM : Star (tailE 5 1 A n c (bvs (rest all)) :: cellsE g 155 (shCells all A n c) :: F) w) (hF : rowE 1 As np (svs ps) ∈ F) :
    Calls Try.prog 60 #[.pointer (some ⟨g, 0, none⟩), .slice As np cp] w fun r w' => ∃ A' n' c', r = .returned (.pointer (some ⟨g, 0, none⟩)) ∧ Star (tailE 5 1 A' n' c' (bvs (rest (all ++ cat ps))) :: cellsE g 155 (shCells (all ++ cat ps) A' n' c') :: F) w' := by
  have HL := Lib.hid (svs_row (hM.row (A := As) (n := np) (xs := svs ps) (by simp [hF])))
  have HP := Lib.hid hps
  clear hps
  go_enter Try.func60, Try.ntmps60
  go_wp2_with fail
  go_loopw [9] (fun i wr => ∃ (k : Nat) (A : Option Addr) (n c : Nat), k ≤ np ∧ i = .int .i64 k ∧ Star (tailE 5 1 A n c (bvs (rest (all ++ cat (ps.take k)))) :: cellsE g 155 (shCells (all ++ cat (ps.take k)) A n c) :: F) wr) (fun i _ => np - (intOf i).toNat)
  case atStart => exact ⟨0, A, n, c, by omega, rfl, by simpa [cat] using hM⟩
  case round =>
    clear hM
    obtain ⟨k, A, n, c, hk, rfl, hM⟩ := hrel
    by_cases hlt : k < np
    · obtain ⟨ad, d, rfl, hv, hg, ht⟩ := hM.elemS (A := As) (n := np) (l := ps) (by simp [hF]) hlt
      have hdl := cat_mem_le ps d (List.mem_of_getElem? hg)
      have hct := cat_take_all ps k
      have hps := HP.out
      have HT := Lib.hid (cat_take_snoc ht)
      obtain ⟨cur, hcur⟩ : ∃ x, x = all ++ cat (ps.take k) := ⟨_, rfl⟩
      have hcl : cur.length ≤ 140737488355000 := by rw [hcur, List.length_append]; omega
      have hdl2 : d.length ≤ 140737488355000 := by omega
      rw [← hcur] at hM
      have HC := Lib.hid hcur
      have hrl := rest_len cur
      have hnl : n = (rest cur).length := by have := (hM.tail_row (by simp : tailE 5 1 A n c (bvs (rest cur)) ∈ _)).len; rw [bvs_len] at this; exact this.symm
      obtain rfl := hnl
      unfold shCells at hM
      obtain ⟨X, hX⟩ : ∃ x, x = rest cur ++ d := ⟨_, rfl⟩
      have hXl : X.length = (rest cur).length + d.length := by rw [hX, List.length_append]
      have hr64 : (rest cur).length < 64 := by rw [hrl]; omega
      have HX := Lib.hid hX
      have HXL := Lib.hid hXl
      clear ht hg hcur hX hXl hct hrl hdl hps
      have hF2 : ∀ (y : SProp) (L : List SProp), y ∈ L → y ∈ L := fun _ _ h => h
      go_wp2_with (first | (first | (refine BigFrame.wpList_want (by rfl) fun K hK => ws_rowload rfl rfl (by first | (apply Star.row hM; (repeat (first | assumption | (with_reducible exact mZ) | apply mS)); done) | (apply Star.own hM; (repeat (first | assumption | (with_reducible exact mZ) | apply mS)); done) | (apply Star.arr hM; (focus ((repeat (first | assumption | (with_reducible exact mZ) | apply mS)); done)); assumption)) (by assumption) (by kernel_rfl) (hK _ _ ?_); clear hK K) | fail) | (first | (refine BigFrame.wpList_want (by rfl) fun K hK => ws_load1 hM rfl rfl (by (repeat (first | assumption | (with_reducible exact mZ) | apply mS)); first | done | fail) (by first | exact sh_at8 _ _ _ | exact sh_at9 _ _ _) (by kernel_rfl) (hK _ _ ?_); clear hK K) | fail) | (first | (have hM0 := hM; clear hM; refine BigFrame.wpList_want (by rfl) fun K hK => ws_store1 hM0 rfl rfl (by go_simp; rfl) (by first | rfl | assumption) (by (repeat (first | (with_reducible exact Take.head) | apply Take.tail)); first | done | fail) (by first | exact (by decide : 8 < 10) | exact (by decide : 9 < 10)) (by kernel_rfl) (by first | exact sh_set8 _ _ _ _ | exact sh_set9 _ _ _ _) (fun w hM => hK _ _ ?_); clear hM0 hK K) | fail) | (have hM0 := hM; clear hM; refine BigFrame.wpList_want (by rfl) fun K hK => ws_app_big hM0 rfl rfl 5 (.int .u8 0) 1 1 Try.underlying84 (by kernel_rfl) (by rfl) (by (repeat (first | (with_reducible exact Take.head) | apply Take.tail)); first | done | fail) (src_str Try.underlying9 d) (by omega) (by unfold maxLen; omega) (fun A1 c1 w hM => hK _ _ ?_); clear hM0 hK K; (try simp only [Nat.zero_add, Nat.add_zero, List.nil_append, List.append_nil, ← bvs_app] at hM)))
      replace hM : Star (tailE 5 1 A1 ((rest cur).length + d.length) c1 (bvs X) :: cellsE g 155 (stC (hst cur) (.slice A1 ((rest cur).length + d.length) c1) (.int .u64 ((cur.length : Int) + (d.length : Int)))) :: F) w := by rw [HX.out]; exact hM.sel (by repeat (first | (with_reducible exact Sel.refl) | (with_reducible exact Take.head) | (with_reducible apply Take.tail) | (with_reducible apply Sel.cons) | (with_reducible apply Sel.drop)))
      rw [← HXL.out] at hM
      go_frame
      go_loopg [] (X.length / 64) (fun gk wx => ∃ (j n : Nat) (A : Option Addr) (c : Nat), gk = X.length / 64 - j ∧ j ≤ X.length / 64 ∧ Hid (n = X.length - 64 * j) ∧ Star (tailE 5 1 A n c (bvs (X.drop (64 * j))) :: cellsE g 155 (stC (mixN (hst cur) j X) (.slice A n c) (.int .u64 ((cur.length : Int) + (d.length : Int)))) :: F) wx)
      case atStart => exact ⟨0, X.length, A1, c1, by omega, by omega, (by show _ = _; omega), by simpa [mixN] using hM⟩
      case round =>
        clear hM
        obtain ⟨j, n, A, c, hgk, hj, hn, hM⟩ := hrel
        by_cases hjl : j < X.length / 64
        · have hT : Tail wr 5 1 A n c (bvs (X.drop (64 * j))) := hM.head
          have hn64 : 64 ≤ n := by have := hn.out; omega
          have hnc : n ≤ c := hT.2.1
          have hcm : c ≤ 9223372036854775807 := by have := hT.2.2.1; unfold maxLen at this; exact this
          obtain ⟨gp, off, rfl⟩ := hT.some_ (by omega)
          have hne : gp ≠ g := hT.ne_ hM.tail.head (t := 155) (by decide)
          clear hT
          have h64 : 64 ≤ c := by omega
          have HB := Lib.hid (mixN_succ_last (hst cur) j X)
          have HBl : Hid (((X.drop (64 * j)).take 64).length = 64) := by show _ = _; have := hn.out; simp; omega
          have HD : Hid ((X.drop (64 * j)).drop 64 = X.drop (64 * (j + 1))) := by show _ = _; rw [List.drop_drop, Nat.mul_add]
          by_cases hck : c = 64
          · subst hck
            obtain rfl : n = 64 := by omega
            go_wp2_with (first | (first | (refine BigFrame.wpList_want (by rfl) fun K hK => ws_load1 hM rfl rfl (by (repeat (first | assumption | (with_reducible exact mZ) | apply mS)); first | done | fail) (by first | exact sh_at8 _ _ _ | exact sh_at9 _ _ _) (by kernel_rfl) (hK _ _ ?_); clear hK K) | fail) | (go_at_call 89; have hM0 := hM; clear hM; (first | (with_reducible refine (block_star (mixN (hst cur) j X) _ _ ((X.drop (64 * j)).take 64) ⟨gp, off, none⟩ 64 g HBl.out (by omega) (by omega) _ (hM0.take (x := cellsE g 155 _) (by (repeat (first | (with_reducible exact Take.head) | apply Take.tail)); first | done | fail)) (hM0.tail_first (by (repeat (first | assumption | (with_reducible exact mZ) | apply mS)); first | done | fail) (by omega)) hne).mono ?_) | fail); clear hM0; rintro _ w ⟨rfl, hM⟩) | (first | (have hM0 := hM; clear hM; refine BigFrame.wpList_want (by rfl) fun K hK => ws_store1 hM0 rfl rfl (by go_simp; rfl) (by first | rfl | assumption) (by (repeat (first | (with_reducible exact Take.head) | apply Take.tail)); first | done | fail) (by first | exact (by decide : 8 < 10) | exact (by decide : 9 < 10)) (by kernel_rfl) (by first | exact sh_set8 _ _ _ _ | exact sh_set9 _ _ _ _) (fun w hM => hK _ _ ?_); clear hM0 hK K) | fail))
            go_roundg (X.length / 64 - (j + 1))
            case measure => omega
            case rel =>
              have hM2 := (hM.take (x := tailE 5 1 (some ⟨gp, off, none⟩) 64 64 (bvs (X.drop (64 * j)))) (by (repeat (first | (with_reducible exact Take.head) | apply Take.tail)); first | done | fail)).tail_cut (k := 64) (by omega)
              simp only [Nat.mul_one, bvs_drop, if_true, Nat.sub_self] at hM2
              rw [HD.out] at hM2
              refine ⟨j + 1, 0, some ⟨gp, off, none⟩, 0, rfl, by omega, (by show _ = _; have := hn.out; omega), ?_⟩
              rw [HB.out]
              exact hM2
          · go_wp2_with (first | (first | (refine BigFrame.wpList_want (by rfl) fun K hK => ws_load1 hM rfl rfl (by (repeat (first | assumption | (with_reducible exact mZ) | apply mS)); first | done | fail) (by first | exact sh_at8 _ _ _ | exact sh_at9 _ _ _) (by kernel_rfl) (hK _ _ ?_); clear hK K) | fail) | (go_at_call 89; have hM0 := hM; clear hM; (first | (with_reducible refine (block_star (mixN (hst cur) j X) _ _ ((X.drop (64 * j)).take 64) ⟨gp, off, none⟩ c g HBl.out (by omega) (by omega) _ (hM0.take (x := cellsE g 155 _) (by (repeat (first | (with_reducible exact Take.head) | apply Take.tail)); first | done | fail)) (hM0.tail_first (by (repeat (first | assumption | (with_reducible exact mZ) | apply mS)); first | done | fail) (by omega)) hne).mono ?_) | fail); clear hM0; rintro _ w ⟨rfl, hM⟩) | (first | (have hM0 := hM; clear hM; refine BigFrame.wpList_want (by rfl) fun K hK => ws_store1 hM0 rfl rfl (by go_simp; rfl) (by first | rfl | assumption) (by (repeat (first | (with_reducible exact Take.head) | apply Take.tail)); first | done | fail) (by first | exact (by decide : 8 < 10) | exact (by decide : 9 < 10)) (by kernel_rfl) (by first | exact sh_set8 _ _ _ _ | exact sh_set9 _ _ _ _) (fun w hM => hK _ _ ?_); clear hM0 hK K) | fail))
            go_roundg (X.length / 64 - (j + 1))
            case measure => omega
            case rel =>
              have hM2 := (hM.take (x := tailE 5 1 (some ⟨gp, off, none⟩) n c (bvs (X.drop (64 * j)))) (by (repeat (first | (with_reducible exact Take.head) | apply Take.tail)); first | done | fail)).tail_cut (k := 64) hn64
              simp only [Nat.mul_one, bvs_drop, if_neg hck, Option.map_some, add_lit] at hM2
              rw [HD.out] at hM2
              refine ⟨j + 1, n - 64, some ⟨gp, off + 64, none⟩, c - 64, rfl, by omega, (by show _ = _; have := hn.out; omega), ?_⟩
              rw [HB.out]
              exact hM2
        · obtain rfl : j = X.length / 64 := by omega
          have hn64 : n < 64 := by have := hn.out; omega
          have e1 := hst_app cur d
          have e2 := rest_app cur d
          rw [← HX.out] at e1 e2
          have E1 := Lib.hid e1
          have E2 := Lib.hid e2
          clear e1 e2
          go_wp2_with (first | (first | (refine BigFrame.wpList_want (by rfl) fun K hK => ws_load1 hM rfl rfl (by (repeat (first | assumption | (with_reducible exact mZ) | apply mS)); first | done | fail) (by first | exact sh_at8 _ _ _ | exact sh_at9 _ _ _) (by kernel_rfl) (hK _ _ ?_); clear hK K) | fail))
          go_roundw
          case rel =>
            refine ⟨k + 1, A, n, c, by omega, by go_num, ?_⟩
            rw [HT.out, ← List.append_assoc, ← HC.out, E2.out]
            unfold shCells
            rw [E1.out, List.length_append, Int.natCast_add]
            exact hM
          case measure => simp [intOf]; omega
    · go_wp2
      go_ret
      obtain rfl : k = np := by omega
      rw [← HL.out, List.take_length] at hM
      exact ⟨_, _, _, rfl, hM⟩
theorem write_star {F : List SProp} (g : Nat) (all : List UInt8) (ps : List (List UInt8)) (As : Option Addr) (np cp : Nat) (hps : ∀ x ∈ ps, x.length ≤ 1000000000) (hnp : np ≤ 1000) (hall : all.length ≤ 1000000000000) (A : Option Addr) (n c : Nat) (w : World)
    (hM : Star (tailE 5 1 A n c (bvs (rest all)) :: cellsE g 155 (shCells all A n c) :: F) w) (hF : rowE 1 As np (svs ps) ∈ F) :
    Calls Try.prog 60 #[.pointer (some ⟨g, 0, none⟩), .slice As np cp] w fun r w' => ∃ A' n' c', r = .returned (.pointer (some ⟨g, 0, none⟩)) ∧ Star (tailE 5 1 A' n' c' (bvs (rest (all ++ cat ps))) :: cellsE g 155 (shCells (all ++ cat ps) A' n' c') :: F) w' :=
  write_star_b g all ps As np cp (by
    have h1 := cat_le 1000000000 ps hps
    have h2 := svs_row (hM.row (A := As) (n := np) (xs := svs ps) (by simp [hF]))
    rw [h2] at h1
    omega) hnp A n c w hM hF
end Go.Proofs.Ytnckgkgilnmocaa
set_option linter.unusedSimpArgs false
set_option linter.unusedVariables false
namespace Go.Proofs.Ytnckgkgilnmocaa
open Go.RowKit
attribute [local go_sem] extract_mid extract_drop bget bsize wrap64_u8 i64_u8 u64_u8 bappend
theorem info_st : (Try.prog.info? 155).map (fun i => i.zero) = some (some (.agg (stC ⟨0, 0, 0, 0, 0, 0, 0, 0⟩ (.slice none 0 0) (.int .u64 0)))) := by kernel_rfl
theorem stC_one (s : W8) (x y : Value) (hx : x.oneCell' = true) (hy : y.oneCell' = true) : ∀ v ∈ (stC s x y).toList, v.oneCell' = true := by
  intro v hv
  simp only [stC, List.toList_toArray, List.mem_append, List.mem_cons, List.not_mem_nil, or_false] at hv
  rcases hv with h | rfl | rfl
  · exact wvs_one _ v h
  · exact hx
  · exact hy
theorem info_sum : (Try.prog.info? 72).map (fun i => i.zero) = some (some (.agg (bvs z32).toArray)) := by kernel_rfl
/-- What follows the whole blocks of l, padded. -/
def ends (l : List UInt8) : List UInt8 := rest l ++ [128] ++ List.replicate (zerosN l.length) 0
theorem ends_len (l : List UInt8) : (ends l).length = (rest l).length + 1 + zerosN l.length := by simp [ends]; omega
theorem zeros_fact (l : List UInt8) : ((rest l).length + 1 + zerosN l.length) % 64 = 56 ∧ zerosN l.length < 64 ∧ ∀ j, j < zerosN l.length → ((rest l).length + 1 + j) % 64 ≠ 56 := by
  rw [rest_len]
  unfold zerosN
  refine ⟨by omega, by omega, fun j hj => by omega⟩
theorem lenBytes_len (n : Nat) : (lenBytes n).length = 8 := by simp [lenBytes]
theorem lenBytes_get (n k : Nat) (h : k < 8) : (lenBytes n)[k]? = some (UInt8.ofNat (n * 8 / 256 ^ (7 - k))) := by simp [lenBytes, h]
theorem pad_ends (l : List UInt8) : (pad l).drop (64 * (l.length / 64)) = ends l ++ lenBytes l.length := by
  unfold pad ends rest
  simp only [List.append_assoc]
  rw [List.drop_append_of_le_length (by omega)]
  simp
theorem sha_ends (l : List UInt8) : sha l = (mixN (hst l) ((ends l ++ lenBytes l.length).length / 64) (ends l ++ lenBytes l.length)).bytes := by
  have h := zeros_fact l
  have h1 : (l.length + 8) / 64 + 1 = l.length / 64 + (ends l ++ lenBytes l.length).length / 64 := by
    rw [List.length_append, ends_len, lenBytes_len]
    rw [rest_len] at h ⊢
    unfold zerosN at *
    omega
  unfold sha
  rw [h1, mixN_add, pad_ends]
  have h2 : mixN iv0 (l.length / 64) (pad l) = hst l := by
    unfold pad
    rw [List.append_assoc, mixN_app _ _ _ _ (by omega)]
    rfl
  rw [h2]
theorem bytes_at (s : W8) (k : Nat) (h : k < 32) : ∃ x, s.list[k / 4]? = some x ∧ s.bytes[k]? = some (UInt8.ofNat (x.toNat / 2 ^ (24 - 8 * (k % 4)))) := by
  rcases (by omega : k = 0 ∨ k = 1 ∨ k = 2 ∨ k = 3 ∨ k = 4 ∨ k = 5 ∨ k = 6 ∨ k = 7 ∨ k = 8 ∨ k = 9 ∨ k = 10 ∨ k = 11 ∨ k = 12 ∨ k = 13 ∨ k = 14 ∨ k = 15 ∨ k = 16 ∨ k = 17 ∨ k = 18 ∨ k = 19 ∨ k = 20 ∨ k = 21 ∨ k = 22 ∨ k = 23 ∨ k = 24 ∨ k = 25 ∨ k = 26 ∨ k = 27 ∨ k = 28 ∨ k = 29 ∨ k = 30 ∨ k = 31) with rfl | rfl | rfl | rfl | rfl | rfl | rfl | rfl | rfl | rfl | rfl | rfl | rfl | rfl | rfl | rfl | rfl | rfl | rfl | rfl | rfl | rfl | rfl | rfl | rfl | rfl | rfl | rfl | rfl | rfl | rfl | rfl <;> (refine ⟨_, rfl, ?_⟩; first | rfl | (simp [W8.bytes, W8.list, wbytes]))
theorem stC_at (s : W8) (x y : Value) (q : Nat) (z : UInt32) (h : s.list[q]? = some z) : (stC s x y)[q]? = some (.int .u32 (w32 z)) := by
  have h1 := wvs_get _ _ _ h
  simp only [stC, List.getElem?_toArray]
  rw [List.getElem?_append_left (List.getElem?_eq_some_iff.1 h1).1]
  exact h1
theorem out_set (B : List UInt8) (k : Nat) (d : UInt8) (hB : B.length = 32) (hk : k < 32) (hd : B[k]? = some d) :
    (bvs (B.take k ++ z32.drop k)).toArray.setIfInBounds k (.int .u8 (d.toNat : Int)) = (bvs (B.take (k + 1) ++ z32.drop (k + 1))).toArray := by
  have hz : z32.drop k = 0 :: z32.drop (k + 1) := by unfold z32; rw [List.drop_eq_getElem_cons (by simp; omega), List.getElem_replicate]
  rw [hz, take_snoc_at _ _ _ hd, List.setIfInBounds_toArray]
  congr 1
  have hl : (B.take k).length = k := by simp; omega
  simp only [bvs, List.map_append, List.map_cons, List.map_nil, List.append_assoc, List.cons_append, List.nil_append]
  rw [List.set_append, if_neg (by simp; omega), List.length_map, hl, Nat.sub_self]
  rfl
theorem info_sumn : (Try.prog.info? 72).map (·.size) = some 32 := by kernel_rfl
set_option maxRecDepth 100000 in
set_option maxHeartbeats 4000000 in
theorem sum_star {F : List SProp} (g : Nat) (all : List UInt8) (hall : all.length ≤ 140737488355000) (A : Option Addr) (n c : Nat) (w : World)
    (hM : Star (tailE 5 1 A n c (bvs (rest all)) :: cellsE g 155 (shCells all A n c) :: F) w) :
    Calls Try.prog 61 #[.pointer (some ⟨g, 0, none⟩)] w fun r w' => r = .returned (.agg (bvs (sha all)).toArray) ∧ Star (tailE 5 1 A n c (bvs (rest all)) :: cellsE g 155 (shCells all A n c) :: F) w' := by
  have hrl := rest_len all
  have hnl : n = (rest all).length := by have := (hM.tail_row (by simp : tailE 5 1 A n c (bvs (rest all)) ∈ _)).len; rw [bvs_len] at this; exact this.symm
  obtain rfl := hnl
  have hr64 : (rest all).length < 64 := by rw [hrl]; omega
  unfold shCells at hM ⊢
  have HR := Lib.hid hrl
  clear hrl
  have tok1 : True := trivial
  go_enter Try.func61, Try.ntmps61
  go_wp2_with (first | (have _t := tok1; (first | (have hM0 := hM; clear hM; refine BigFrame.wpList_want (by rfl) fun K hK => ws_alloc hM0 (t := 72) rfl (bvs z32).toArray info_sum (fun g2 w hM => hK _ _ ?_); clear hM0 hK K) | fail); clear tok1) | (first | (refine BigFrame.wpList_want (by rfl) fun K hK => ws_load hM rfl rfl (by (repeat (first | assumption | (with_reducible exact mZ) | apply mS)); first | done | fail) (n := 10) (by rfl) (by kernel_rfl) (hK _ _ ?_); clear hK K) | fail) | (first | (have hM0 := hM; clear hM; refine BigFrame.wpList_want (by rfl) fun K hK => ws_alloc hM0 (t := 155) rfl _ info_st (fun g3 w hM => hK _ _ ?_); clear hM0 hK K) | fail) | (first | (have hM0 := hM; clear hM; refine BigFrame.wpList_want (by rfl) fun K hK => ws_store hM0 rfl rfl rfl (by (repeat (first | (with_reducible exact Take.head) | apply Take.tail)); first | done | fail) (n := 10) (by rfl) (by rfl) (by kernel_rfl) (by exact stC_one _ _ _ rfl rfl) (fun w hM => hK _ _ ?_); clear hM0 hK K) | fail) | (first | (refine BigFrame.wpList_want (by rfl) fun K hK => ws_load1 hM rfl rfl (by (repeat (first | assumption | (with_reducible exact mZ) | apply mS)); first | done | fail) (by first | exact sh_at8 _ _ _ | exact sh_at9 _ _ _) (by kernel_rfl) (hK _ _ ?_); clear hK K) | fail) | (first | (have hM0 := hM; clear hM; refine BigFrame.wpList_want (by rfl) fun K hK => ws_store1 hM0 rfl rfl (by go_simp; rfl) (by first | rfl | assumption) (by (repeat (first | (with_reducible exact Take.head) | apply Take.tail)); first | done | fail) (by first | exact (by decide : 8 < 10) | exact (by decide : 9 < 10)) (by kernel_rfl) (by first | exact sh_set8 _ _ _ _ | exact sh_set9 _ _ _ _) (fun w hM => hK _ _ ?_); clear hM0 hK K) | fail) | (first | (have hM0 := hM; clear hM; refine BigFrame.wpList_want (by rfl) fun K hK => ws_slice_tail hM0 (n := 0) rfl 5 1 (.int .u8 0) [] Try.underlying84 (by kernel_rfl) rfl (by simp [Value.cells, iv, sv, bv]) (by rfl) (by decide) (by decide) (cs := []) (by rfl) (fun g4 w hM => hK _ _ ?_); clear hM0 hK K) | fail) | (first | (have hM0 := hM; clear hM; refine BigFrame.wpList_want (by rfl) fun K hK => ws_slice_tail hM0 (n := 1) rfl 5 1 (.int .u8 0) [bv 128] Try.underlying84 (by kernel_rfl) rfl (by simp [Value.cells, iv, sv, bv]) (by rfl) (by decide) (by decide) (cs := bvs [128]) (by rfl) (fun g5 w hM => hK _ _ ?_); clear hM0 hK K) | fail) | (first | (have hM0 := hM; clear hM; refine BigFrame.wpList_want (by rfl) fun K hK => ws_app hM0 rfl rfl 5 ((.int .u8 0)) 1 1 Try.underlying84 (by kernel_rfl) (by rfl) (by (repeat (first | (with_reducible exact Take.head) | apply Take.tail)); first | done | fail) (src_row Try.underlying84 _ (hM0.tail_row (by (repeat (first | assumption | (with_reducible exact mZ) | apply mS)); first | done | fail)) (bvs_oneCell _)) ((by simp; omega)) (fun A1 c1 w hM => hK _ _ ?_); clear hM0 hK K; (try simp only [Nat.zero_add, Nat.add_zero, List.nil_append, List.append_nil, ← bvs_app] at hM)) | fail))
  have hZ := zeros_fact all
  have HZ := Lib.hid hZ.2.2
  have HZ1 := Lib.hid hZ.1
  have hz64 := hZ.2.1
  clear hZ
  obtain ⟨Z, hZd⟩ : ∃ Z, Z = zerosN all.length := ⟨_, rfl⟩
  rw [← hZd] at HZ HZ1 hz64
  have HZd := Lib.hid hZd
  clear hZd
  replace hM := hM.drop_ (x := tailE 5 1 (some ⟨g5, 0, none⟩) 1 1 (bvs [128])) (by (repeat (first | (with_reducible exact Take.head) | apply Take.tail)); first | done | fail)
  go_frame
  go_loopg [] Z (fun gk wx => ∃ (j n : Nat) (A2 : Option Addr) (c2 : Nat), gk = Z - j ∧ j ≤ Z ∧ Hid (n = (rest all).length + 1 + j) ∧ Star (tailE 5 1 A2 n c2 (bvs (rest all ++ [128] ++ List.replicate j 0)) :: cellsE g3 155 (stC (hst all) (.slice A2 n c2) (.int .u64 (all.length : Int))) :: cellsE g2 72 (bvs z32).toArray :: tailE 5 1 A (rest all).length c (bvs (rest all)) :: cellsE g 155 (stC (hst all) (.slice A (rest all).length c) (.int .u64 (all.length : Int))) :: F) wx)
  case atStart => exact ⟨0, (rest all).length + 1, A1, c1, by omega, by omega, (by show _ = _; omega), by simp only [List.replicate_zero, List.append_nil]; exact hM.sel (by repeat (first | (with_reducible exact Sel.refl) | (with_reducible exact Take.head) | (with_reducible apply Take.tail) | (with_reducible apply Sel.cons) | (with_reducible apply Sel.drop)))⟩
  case round =>
    clear hM
    obtain ⟨j, n, A2, c2, hgk, hj, hn, hM⟩ := hrel
    have hnb : n ≤ 200 := by have := hn.out; omega
    by_cases hjl : j < Z
    · have hne : n % 64 ≠ 56 := by rw [hn.out]; exact HZ.out j hjl
      have hne1 : (((n : Int) % 64) != 56) = true := by simp; omega
      have hne2 : (((n : Int) % 64) == 56) = false := by simp; omega
      clear hne
      go_wp2_with (first | (first | (refine BigFrame.wpList_want (by rfl) fun K hK => ws_load1 hM rfl rfl (by (repeat (first | assumption | (with_reducible exact mZ) | apply mS)); first | done | fail) (by first | exact sh_at8 _ _ _ | exact sh_at9 _ _ _) (by kernel_rfl) (hK _ _ ?_); clear hK K) | fail) | (first | (have hM0 := hM; clear hM; refine BigFrame.wpList_want (by rfl) fun K hK => ws_slice_tail hM0 (n := 1) rfl 5 1 (.int .u8 0) [bv 0] Try.underlying84 (by kernel_rfl) rfl (by simp [Value.cells, iv, sv, bv]) (by rfl) (by decide) (by decide) (cs := bvs [0]) (by rfl) (fun g6 w hM => hK _ _ ?_); clear hM0 hK K) | fail) | (first | (have hM0 := hM; clear hM; refine BigFrame.wpList_want (by rfl) fun K hK => ws_app hM0 rfl rfl 5 ((.int .u8 0)) 1 1 Try.underlying84 (by kernel_rfl) (by rfl) (by (repeat (first | (with_reducible exact Take.head) | apply Take.tail)); first | done | fail) (src_row Try.underlying84 _ (hM0.tail_row (by (repeat (first | assumption | (with_reducible exact mZ) | apply mS)); first | done | fail)) (bvs_oneCell _)) ((by simp; omega)) (fun A3 c3 w hM => hK _ _ ?_); clear hM0 hK K; (try simp only [Nat.zero_add, Nat.add_zero, List.nil_append, List.append_nil, ← bvs_app] at hM)) | fail) | (first | (have hM0 := hM; clear hM; refine BigFrame.wpList_want (by rfl) fun K hK => ws_store1 hM0 rfl rfl (by go_simp; rfl) (by first | rfl | assumption) (by (repeat (first | (with_reducible exact Take.head) | apply Take.tail)); first | done | fail) (by first | exact (by decide : 8 < 10) | exact (by decide : 9 < 10)) (by kernel_rfl) (by first | exact sh_set8 _ _ _ _ | exact sh_set9 _ _ _ _) (fun w hM => hK _ _ ?_); clear hM0 hK K) | fail))
      go_frame
      go_roundg (Z - (j + 1))
      case measure => omega
      case rel =>
        refine ⟨j + 1, n + 1, A3, c3, rfl, by omega, (by show _ = _; have := hn.out; omega), ?_⟩
        rw [List.replicate_succ', ← List.append_assoc]
        exact hM.sel (by repeat (first | (with_reducible exact Sel.refl) | (with_reducible exact Take.head) | (with_reducible apply Take.tail) | (with_reducible apply Sel.cons) | (with_reducible apply Sel.drop)))
    · obtain rfl : j = Z := by omega
      have heq : n % 64 = 56 := by rw [hn.out]; exact HZ1.out
      have hne1 : (((n : Int) % 64) != 56) = false := by simp; omega
      have hne2 : (((n : Int) % 64) == 56) = true := by simp; omega
      clear heq
      go_wp2_with (first | (first | (refine BigFrame.wpList_want (by rfl) fun K hK => ws_load1 hM rfl rfl (by (repeat (first | assumption | (with_reducible exact mZ) | apply mS)); first | done | fail) (by first | exact sh_at8 _ _ _ | exact sh_at9 _ _ _) (by kernel_rfl) (hK _ _ ?_); clear hK K) | fail))
      have HE : Hid (ends all = rest all ++ [128] ++ List.replicate j 0) := by show _ = _; rw [HZd.out]; rfl
      replace hM : Star (tailE 5 1 A2 n c2 (bvs (ends all ++ (lenBytes all.length).take 0)) :: cellsE g3 155 (stC (hst all) (.slice A2 n c2) (.int .u64 (all.length : Int))) :: cellsE g2 72 (bvs z32).toArray :: tailE 5 1 A (rest all).length c (bvs (rest all)) :: cellsE g 155 (stC (hst all) (.slice A (rest all).length c) (.int .u64 (all.length : Int))) :: F) wr := by rw [List.take_zero, List.append_nil, HE.out]; exact hM
      have HN : Hid (n = (ends all).length) := by show _ = _; rw [hn.out, ends_len, HZd.out]
      obtain ⟨wq, rfl⟩ : ∃ wq : World, wq = wr := ⟨_, rfl⟩
      go_loopw [4] (fun i wx => ∃ (k m : Nat) (A3 : Option Addr) (c3 : Nat), k ≤ 8 ∧ i = .int .i64 (7 - (k : Int)) ∧ Hid (m = (ends all).length + k) ∧ Star (tailE 5 1 A3 m c3 (bvs (ends all ++ (lenBytes all.length).take k)) :: cellsE g3 155 (stC (hst all) (.slice A3 m c3) (.int .u64 (all.length : Int))) :: cellsE g2 72 (bvs z32).toArray :: tailE 5 1 A (rest all).length c (bvs (rest all)) :: cellsE g 155 (stC (hst all) (.slice A (rest all).length c) (.int .u64 (all.length : Int))) :: F) wx) (fun i _ => (intOf i + 1).toNat)
      case atStart => exact ⟨0, n, A2, c2, by omega, rfl, (by show _ = _; rw [HN.out]; omega), hM⟩
      case round =>
        clear hM
        obtain ⟨k, m, A3, c3, hk, rfl, hm, hM⟩ := hrel
        have hmb : m ≤ 300 := by have h1 := hm.out; have h2 := HN.out; omega
        by_cases hk8 : k < 8
        · have hi0 : (0 : Int) ≤ 7 - (k : Int) := by omega
          obtain ⟨d, hd⟩ : ∃ d, d = UInt8.ofNat (all.length * 8 / 256 ^ (7 - k)) := ⟨_, rfl⟩
          have hsh : IntKind.u8.wrap ((all.length : Int) * 8 / 2 ^ (8 * (7 - (k : Int))).toNat) = (d.toNat : Int) := by
            rw [hd, ← u8_wrap]
            congr 1
            rw [show (8 * (7 - (k : Int))).toNat = 8 * (7 - k) by omega, Int.natCast_ediv, Int.natCast_mul]
            congr 1
            rw [Int.natCast_pow, show ((256 : Nat) : Int) = 2 ^ 8 by decide, ← Int.pow_mul]
          have hg := lenBytes_get all.length k hk8
          rw [← hd] at hg
          have HT := Lib.hid (take_snoc_at _ _ _ hg)
          clear hg hd
          go_wp2_with fail
          have hw1 : IntKind.u64.wrap ((all.length : Int) * 8) = (all.length : Int) * 8 := IntWalk.u64_in _ (by omega)
          have hw2 : IntKind.i64.wrap (8 * (7 - (k : Int))) = 8 * (7 - (k : Int)) := IntWalk.i64_in _ (by omega)
          have hw3 : (0 : Int) ≤ 8 * (7 - (k : Int)) := by omega
          (refine region_RS ([cellsE g3 155 (stC (hst all) (.slice A3 m c3) (.int .u64 (all.length : Int))), cellsE g 155 (stC (hst all) (.slice A (rest all).length c) (.int .u64 (all.length : Int)))]) [14] (by kernel_rfl) hM ?_; clear hM; change RS _ _ _ _ _ _ 15 (Array.replicate 15 false) _ _; refine RS_take (i := 0) rfl (by decide +kernel) (fun _ _ _ h => h) (by first | (intro x hx; (repeat (first | exact hx | apply mS)); done) | ((repeat (refine List.forall_mem_cons.2 ⟨(by (repeat (first | assumption | (with_reducible exact mZ) | apply mS)); first | done | fail), ?_⟩)); intro x hx; first | (cases hx; done) | ((repeat (first | exact hx | apply mS)); done))) (stab_pure (by rfl) (fun w => (by go_simp; try with_reducible rfl))) ?_; simp only [Act.put, List.setIfInBounds_toArray, List.set_cons_zero, List.set_cons_succ]; refine RS_take (i := 1) rfl (by decide +kernel) (fun _ _ _ h => h) (by first | (intro x hx; (repeat (first | exact hx | apply mS)); done) | ((repeat (refine List.forall_mem_cons.2 ⟨(by (repeat (first | assumption | (with_reducible exact mZ) | apply mS)); first | done | fail), ?_⟩)); intro x hx; first | (cases hx; done) | ((repeat (first | exact hx | apply mS)); done))) (stab_read (by rfl) (fun L w hL hM => (by first | exact ex_load1 hM rfl rfl (hL _ (by (repeat (first | assumption | (with_reducible exact mZ) | apply mS)); first | done | fail)) (by exact sh_at8 _ _ _) (by kernel_rfl) | exact ex_rowload rfl rfl (hM.row (hL _ (by (repeat (first | assumption | (with_reducible exact mZ) | apply mS)); first | done | fail))) (by assumption) (by kernel_rfl) | exact ex_rowload0 rfl rfl (hM.row (hL _ (by (repeat (first | assumption | (with_reducible exact mZ) | apply mS)); first | done | fail))) (by assumption) (by kernel_rfl)))) ?_; simp only [Act.put, List.setIfInBounds_toArray, List.set_cons_zero, List.set_cons_succ]; refine RS_take (i := 2) rfl (by decide +kernel) (fun _ _ _ h => h) (by first | (intro x hx; (repeat (first | exact hx | apply mS)); done) | ((repeat (refine List.forall_mem_cons.2 ⟨(by (repeat (first | assumption | (with_reducible exact mZ) | apply mS)); first | done | fail), ?_⟩)); intro x hx; first | (cases hx; done) | ((repeat (first | exact hx | apply mS)); done))) (stab_pure (by rfl) (fun w => (by go_simp; try with_reducible rfl))) ?_; simp only [Act.put, List.setIfInBounds_toArray, List.set_cons_zero, List.set_cons_succ]; refine RS_take (i := 3) rfl (by decide +kernel) (fun _ _ _ h => h) (by first | (intro x hx; (repeat (first | exact hx | apply mS)); done) | ((repeat (refine List.forall_mem_cons.2 ⟨(by (repeat (first | assumption | (with_reducible exact mZ) | apply mS)); first | done | fail), ?_⟩)); intro x hx; first | (cases hx; done) | ((repeat (first | exact hx | apply mS)); done))) (stab_pure (by rfl) (fun w => (by go_simp; try with_reducible rfl))) ?_; simp only [Act.put, List.setIfInBounds_toArray, List.set_cons_zero, List.set_cons_succ]; refine RS_take (i := 4) rfl (by decide +kernel) (fun _ _ _ h => h) (by first | (intro x hx; (repeat (first | exact hx | apply mS)); done) | ((repeat (refine List.forall_mem_cons.2 ⟨(by (repeat (first | assumption | (with_reducible exact mZ) | apply mS)); first | done | fail), ?_⟩)); intro x hx; first | (cases hx; done) | ((repeat (first | exact hx | apply mS)); done))) (stab_pure (by rfl) (fun w => (by go_simp; try with_reducible rfl))) ?_; simp only [Act.put, List.setIfInBounds_toArray, List.set_cons_zero, List.set_cons_succ]; refine RS_take (i := 5) rfl (by decide +kernel) (fun _ _ _ h => h) (by first | (intro x hx; (repeat (first | exact hx | apply mS)); done) | ((repeat (refine List.forall_mem_cons.2 ⟨(by (repeat (first | assumption | (with_reducible exact mZ) | apply mS)); first | done | fail), ?_⟩)); intro x hx; first | (cases hx; done) | ((repeat (first | exact hx | apply mS)); done))) (stab_read (by rfl) (fun L w hL hM => (by first | exact ex_load1 hM rfl rfl (hL _ (by (repeat (first | assumption | (with_reducible exact mZ) | apply mS)); first | done | fail)) (by exact sh_at9 _ _ _) (by kernel_rfl) | exact ex_rowload rfl rfl (hM.row (hL _ (by (repeat (first | assumption | (with_reducible exact mZ) | apply mS)); first | done | fail))) (by assumption) (by kernel_rfl) | exact ex_rowload0 rfl rfl (hM.row (hL _ (by (repeat (first | assumption | (with_reducible exact mZ) | apply mS)); first | done | fail))) (by assumption) (by kernel_rfl)))) ?_; simp only [Act.put, List.setIfInBounds_toArray, List.set_cons_zero, List.set_cons_succ]; refine RS_take (i := 6) rfl (by decide +kernel) (fun _ _ _ h => h) (by first | (intro x hx; (repeat (first | exact hx | apply mS)); done) | ((repeat (refine List.forall_mem_cons.2 ⟨(by (repeat (first | assumption | (with_reducible exact mZ) | apply mS)); first | done | fail), ?_⟩)); intro x hx; first | (cases hx; done) | ((repeat (first | exact hx | apply mS)); done))) (stab_pure (by rfl) (fun w => (by go_simp; try with_reducible rfl))) ?_; simp only [Act.put, List.setIfInBounds_toArray, List.set_cons_zero, List.set_cons_succ]; refine RS_take (i := 7) rfl (by decide +kernel) (fun _ _ _ h => h) (by first | (intro x hx; (repeat (first | exact hx | apply mS)); done) | ((repeat (refine List.forall_mem_cons.2 ⟨(by (repeat (first | assumption | (with_reducible exact mZ) | apply mS)); first | done | fail), ?_⟩)); intro x hx; first | (cases hx; done) | ((repeat (first | exact hx | apply mS)); done))) (stab_pure (by rfl) (fun w => (by go_simp; try with_reducible rfl))) ?_; simp only [Act.put, List.setIfInBounds_toArray, List.set_cons_zero, List.set_cons_succ]; refine RS_take (i := 8) rfl (by decide +kernel) (fun _ _ _ h => h) (by first | (intro x hx; (repeat (first | exact hx | apply mS)); done) | ((repeat (refine List.forall_mem_cons.2 ⟨(by (repeat (first | assumption | (with_reducible exact mZ) | apply mS)); first | done | fail), ?_⟩)); intro x hx; first | (cases hx; done) | ((repeat (first | exact hx | apply mS)); done))) (stab_pure (by rfl) (fun w => (by go_simp; try with_reducible rfl))) ?_; simp only [Act.put, List.setIfInBounds_toArray, List.set_cons_zero, List.set_cons_succ]; refine RS_take (i := 9) rfl (by decide +kernel) (fun _ _ _ h => h) (by first | (intro x hx; (repeat (first | exact hx | apply mS)); done) | ((repeat (refine List.forall_mem_cons.2 ⟨(by (repeat (first | assumption | (with_reducible exact mZ) | apply mS)); first | done | fail), ?_⟩)); intro x hx; first | (cases hx; done) | ((repeat (first | exact hx | apply mS)); done))) (stab_pure (by rfl) (fun w => (by go_simp; try with_reducible rfl))) ?_; simp only [Act.put, List.setIfInBounds_toArray, List.set_cons_zero, List.set_cons_succ]; refine RS_take (i := 10) rfl (by decide +kernel) (fun _ _ _ h => h) (by first | (intro x hx; (repeat (first | exact hx | apply mS)); done) | ((repeat (refine List.forall_mem_cons.2 ⟨(by (repeat (first | assumption | (with_reducible exact mZ) | apply mS)); first | done | fail), ?_⟩)); intro x hx; first | (cases hx; done) | ((repeat (first | exact hx | apply mS)); done))) ((by first | exact stab_pure (by rfl) (fun w => (by go_simp; try with_reducible rfl)) | exact stab_read (by rfl) (fun L w hL hM => ex_string rfl 5 Try.underlying84 Try.underlying9 Try.underlying5 rfl (hM.row (hL _ (by (repeat (first | assumption | (with_reducible exact mZ) | apply mS)); first | done | fail)))))) ?_; simp only [Act.put, List.setIfInBounds_toArray, List.set_cons_zero, List.set_cons_succ]; refine RS_one (i := 11) (by decide +kernel) rfl (by rfl) (.inl (by first | (intro x hx; (repeat (first | exact hx | apply mS)); done) | ((repeat (refine List.forall_mem_cons.2 ⟨(by (repeat (first | assumption | (with_reducible exact mZ) | apply mS)); first | done | fail), ?_⟩)); intro x hx; first | (cases hx; done) | ((repeat (first | exact hx | apply mS)); done)))) (fun w K hM0 hK => ?_); refine ws_slice_tail hM0 (n := 1) rfl 5 1 (.int .u8 0) [bv d] Try.underlying84 (by kernel_rfl) rfl (by simp [Value.cells, iv, sv, bv]) (by rfl) (by decide) (by decide) (cs := bvs [d]) (by rfl) (fun g7 w hM => hK _ _ _ hM ?_); clear hM hM0 hK K; simp only [Act.put, List.setIfInBounds_toArray, List.set_cons_zero, List.set_cons_succ]; refine RS_one (i := 12) (by decide +kernel) rfl (by rfl) (.inl (by first | (intro x hx; (repeat (first | exact hx | apply mS)); done) | ((repeat (refine List.forall_mem_cons.2 ⟨(by (repeat (first | assumption | (with_reducible exact mZ) | apply mS)); first | done | fail), ?_⟩)); intro x hx; first | (cases hx; done) | ((repeat (first | exact hx | apply mS)); done)))) (fun w K hM0 hK => ?_); refine ws_app hM0 rfl rfl 5 ((.int .u8 0)) 1 1 Try.underlying84 (by kernel_rfl) (by rfl) (by (repeat (first | (with_reducible exact Take.head) | apply Take.tail)); first | done | fail) (src_row Try.underlying84 _ (hM0.tail_row (by (repeat (first | assumption | (with_reducible exact mZ) | apply mS)); first | done | fail)) (bvs_oneCell _)) ((by simp; omega)) (fun A4 c4 w hM => hK _ _ _ hM ?_); clear hM hM0 hK K; simp only [Act.put, List.setIfInBounds_toArray, List.set_cons_zero, List.set_cons_succ]; refine RS_take (i := 13) rfl (by decide +kernel) (fun _ _ _ h => h) (by first | (intro x hx; (repeat (first | exact hx | apply mS)); done) | ((repeat (refine List.forall_mem_cons.2 ⟨(by (repeat (first | assumption | (with_reducible exact mZ) | apply mS)); first | done | fail), ?_⟩)); intro x hx; first | (cases hx; done) | ((repeat (first | exact hx | apply mS)); done))) (stab_pure (by rfl) (fun w => (by go_simp; try with_reducible rfl))) ?_; simp only [Act.put, List.setIfInBounds_toArray, List.set_cons_zero, List.set_cons_succ]; refine RS_one (i := 14) (by decide +kernel) rfl (by rfl) (.inl (by first | (intro x hx; (repeat (first | exact hx | apply mS)); done) | ((repeat (refine List.forall_mem_cons.2 ⟨(by (repeat (first | assumption | (with_reducible exact mZ) | apply mS)); first | done | fail), ?_⟩)); intro x hx; first | (cases hx; done) | ((repeat (first | exact hx | apply mS)); done)))) (fun w K hM0 hK => ?_); refine ws_store1 hM0 rfl rfl (by go_simp; rfl) (by first | rfl | assumption) (by (repeat (first | (with_reducible exact Take.head) | apply Take.tail)); first | done | fail) (by first | exact (by decide : 8 < 10) | exact (by decide : 9 < 10)) (by kernel_rfl) (by first | exact sh_set8 _ _ _ _ | exact sh_set9 _ _ _ _) (fun w hM => hK _ _ _ hM ?_); clear hM hM0 hK K; simp only [Act.put, List.setIfInBounds_toArray, List.set_cons_zero, List.set_cons_succ]; refine RS_done (by decide +kernel) (.inr (by decide +kernel)) (fun w hM => ?_))
          go_wp2
          go_roundw
          case rel =>
            refine ⟨k + 1, m + 1, A4, c4, by omega, (by congr 1; omega), (by show _ = _; have := hm.out; omega), ?_⟩
            rw [HT.out, ← List.append_assoc, bvs_app]
            exact hM.sel (by repeat (first | (with_reducible exact Sel.refl) | (with_reducible exact Take.head) | (with_reducible apply Take.tail) | (with_reducible apply Sel.cons) | (with_reducible apply Sel.drop)))
          case measure => simp [intOf]; omega
        · obtain rfl : k = 8 := by omega
          have hi8 : (7 : Int) - ((8 : Nat) : Int) = -1 := by decide
          have ht8 : (lenBytes all.length).take 8 = lenBytes all.length := List.take_of_length_le (by rw [lenBytes_len]; omega)
          rw [ht8] at hM
          have hSha := sha_ends all
          obtain ⟨Y, hY⟩ : ∃ Y, Y = ends all ++ lenBytes all.length := ⟨_, rfl⟩
          rw [← hY] at hM hSha
          have hYl : Y.length = m := by rw [hY, List.length_append, lenBytes_len, hm.out]
          have hYm : Y.length % 64 = 0 := by
            have h1 := HZ1.out; have h2 := hm.out; have h3 := HN.out; have h4 := hn.out
            omega
          have HYl := Lib.hid hYl
          have HYm := Lib.hid hYm
          have HSha := Lib.hid hSha
          have hYb : Y.length ≤ 300 := by omega
          clear hY hYl hYm hSha ht8
          go_wp2_with fail
          (try go_frame)
          obtain ⟨wq2, rfl⟩ : ∃ wq : World, wq = wr := ⟨_, rfl⟩
          go_loopg [] (Y.length / 64) (fun gk wx => ∃ (j n : Nat) (Ax : Option Addr) (cx : Nat), gk = Y.length / 64 - j ∧ j ≤ Y.length / 64 ∧ Hid (n = Y.length - 64 * j) ∧ Star (tailE 5 1 Ax n cx (bvs (Y.drop (64 * j))) :: cellsE g3 155 (stC (mixN (hst all) j Y) (.slice Ax n cx) (.int .u64 (all.length : Int))) :: cellsE g2 72 (bvs z32).toArray :: tailE 5 1 A (rest all).length c (bvs (rest all)) :: cellsE g 155 (stC (hst all) (.slice A (rest all).length c) (.int .u64 (all.length : Int))) :: F) wx)
          case atStart => exact ⟨0, m, A3, c3, by omega, by omega, (by show _ = _; rw [HYl.out]; omega), by simpa [mixN] using hM⟩
          case round =>
            clear hM
            obtain ⟨j, n, A5, c5, hgk, hj, hn5, hM⟩ := hrel
            by_cases hjl : j < Y.length / 64
            · have hT : Tail wr 5 1 A5 n c5 (bvs (Y.drop (64 * j))) := hM.head
              have hn64 : 64 ≤ n := by have := hn5.out; omega
              have hnc : n ≤ c5 := hT.2.1
              have hcm : c5 ≤ 9223372036854775807 := by have := hT.2.2.1; unfold maxLen at this; exact this
              obtain ⟨gp, off, rfl⟩ := hT.some_ (by omega)
              have hne : gp ≠ g3 := hT.ne_ hM.tail.head (t := 155) (by decide)
              clear hT
              have h64 : 64 ≤ c5 := by omega
              have HB := Lib.hid (mixN_succ_last (hst all) j Y)
              have HBl : Hid (((Y.drop (64 * j)).take 64).length = 64) := by show _ = _; have := hn5.out; simp; omega
              have HD : Hid ((Y.drop (64 * j)).drop 64 = Y.drop (64 * (j + 1))) := by show _ = _; rw [List.drop_drop, Nat.mul_add]
              by_cases hck : c5 = 64
              · subst hck
                obtain rfl : n = 64 := by omega
                go_wp2_with (first | (first | (refine BigFrame.wpList_want (by rfl) fun K hK => ws_load1 hM rfl rfl (by (repeat (first | assumption | (with_reducible exact mZ) | apply mS)); first | done | fail) (by first | exact sh_at8 _ _ _ | exact sh_at9 _ _ _) (by kernel_rfl) (hK _ _ ?_); clear hK K) | fail) | (go_at_call 89; have hM0 := hM; clear hM; (first | (with_reducible refine (block_star (mixN (hst all) j Y) _ _ ((Y.drop (64 * j)).take 64) ⟨gp, off, none⟩ 64 g3 HBl.out (by omega) (by omega) _ (hM0.take (x := cellsE g3 155 _) (by (repeat (first | (with_reducible exact Take.head) | apply Take.tail)); first | done | fail)) (hM0.tail_first (by (repeat (first | assumption | (with_reducible exact mZ) | apply mS)); first | done | fail) (by omega)) hne).mono ?_) | fail); clear hM0; rintro _ w ⟨rfl, hM⟩) | (first | (have hM0 := hM; clear hM; refine BigFrame.wpList_want (by rfl) fun K hK => ws_store1 hM0 rfl rfl (by go_simp; rfl) (by first | rfl | assumption) (by (repeat (first | (with_reducible exact Take.head) | apply Take.tail)); first | done | fail) (by first | exact (by decide : 8 < 10) | exact (by decide : 9 < 10)) (by kernel_rfl) (by first | exact sh_set8 _ _ _ _ | exact sh_set9 _ _ _ _) (fun w hM => hK _ _ ?_); clear hM0 hK K) | fail))
                go_frame
                go_roundg (Y.length / 64 - (j + 1))
                case measure => omega
                case rel =>
                  have hM2 := (hM.take (x := tailE 5 1 (some ⟨gp, off, none⟩) 64 64 (bvs (Y.drop (64 * j)))) (by (repeat (first | (with_reducible exact Take.head) | apply Take.tail)); first | done | fail)).tail_cut (k := 64) (by omega)
                  simp only [Nat.mul_one, bvs_drop, if_true, Nat.sub_self] at hM2
                  rw [HD.out] at hM2
                  refine ⟨j + 1, 0, some ⟨gp, off, none⟩, 0, rfl, by omega, (by show _ = _; have := hn5.out; omega), ?_⟩
                  rw [HB.out]
                  exact hM2
              · go_wp2_with (first | (first | (refine BigFrame.wpList_want (by rfl) fun K hK => ws_load1 hM rfl rfl (by (repeat (first | assumption | (with_reducible exact mZ) | apply mS)); first | done | fail) (by first | exact sh_at8 _ _ _ | exact sh_at9 _ _ _) (by kernel_rfl) (hK _ _ ?_); clear hK K) | fail) | (go_at_call 89; have hM0 := hM; clear hM; (first | (with_reducible refine (block_star (mixN (hst all) j Y) _ _ ((Y.drop (64 * j)).take 64) ⟨gp, off, none⟩ c5 g3 HBl.out (by omega) (by omega) _ (hM0.take (x := cellsE g3 155 _) (by (repeat (first | (with_reducible exact Take.head) | apply Take.tail)); first | done | fail)) (hM0.tail_first (by (repeat (first | assumption | (with_reducible exact mZ) | apply mS)); first | done | fail) (by omega)) hne).mono ?_) | fail); clear hM0; rintro _ w ⟨rfl, hM⟩) | (first | (have hM0 := hM; clear hM; refine BigFrame.wpList_want (by rfl) fun K hK => ws_store1 hM0 rfl rfl (by go_simp; rfl) (by first | rfl | assumption) (by (repeat (first | (with_reducible exact Take.head) | apply Take.tail)); first | done | fail) (by first | exact (by decide : 8 < 10) | exact (by decide : 9 < 10)) (by kernel_rfl) (by first | exact sh_set8 _ _ _ _ | exact sh_set9 _ _ _ _) (fun w hM => hK _ _ ?_); clear hM0 hK K) | fail))
                go_frame
                go_roundg (Y.length / 64 - (j + 1))
                case measure => omega
                case rel =>
                  have hM2 := (hM.take (x := tailE 5 1 (some ⟨gp, off, none⟩) n c5 (bvs (Y.drop (64 * j)))) (by (repeat (first | (with_reducible exact Take.head) | apply Take.tail)); first | done | fail)).tail_cut (k := 64) hn64
                  simp only [Nat.mul_one, bvs_drop, if_neg hck, Option.map_some, add_lit] at hM2
                  rw [HD.out] at hM2
                  refine ⟨j + 1, n - 64, some ⟨gp, off + 64, none⟩, c5 - 64, rfl, by omega, (by show _ = _; have := hn5.out; omega), ?_⟩
                  rw [HB.out]
                  exact hM2
            · obtain rfl : j = Y.length / 64 := by omega
              obtain rfl : n = 0 := by have h1 := hn5.out; have h2 := HYm.out; omega
              obtain ⟨s, hs⟩ : ∃ s, s = mixN (hst all) (Y.length / 64) Y := ⟨_, rfl⟩
              rw [← hs] at hM
              have HB2 : Hid (sha all = s.bytes) := by show _ = _; rw [HSha.out, hs]
              clear hs
              go_wp2_with (first | (first | (refine BigFrame.wpList_want (by rfl) fun K hK => ws_load1 hM rfl rfl (by (repeat (first | assumption | (with_reducible exact mZ) | apply mS)); first | done | fail) (by first | exact sh_at8 _ _ _ | exact sh_at9 _ _ _) (by kernel_rfl) (hK _ _ ?_); clear hK K) | fail) | (first | (have hM0 := hM; clear hM; refine BigFrame.wpList_want (by rfl) fun K hK => ws_alloc hM0 (t := 72) rfl (bvs z32).toArray info_sum (fun g8 w hM => hK _ _ ?_); clear hM0 hK K) | fail))
              have hBl := W8.bytes_len s
              obtain ⟨wq3, rfl⟩ : ∃ wq : World, wq = w := ⟨_, rfl⟩
              go_loopw [62] (fun i wx => ∃ k : Nat, k ≤ 32 ∧ i = .int .i64 k ∧ Star (cellsE g8 72 (bvs (s.bytes.take k ++ z32.drop k)).toArray :: tailE 5 1 A5 0 c5 (bvs (Y.drop (64 * (Y.length / 64)))) :: cellsE g3 155 (stC s (.slice A5 0 c5) (.int .u64 (all.length : Int))) :: cellsE g2 72 (bvs z32).toArray :: tailE 5 1 A (rest all).length c (bvs (rest all)) :: cellsE g 155 (stC (hst all) (.slice A (rest all).length c) (.int .u64 (all.length : Int))) :: F) wx) (fun i _ => 32 - (intOf i).toNat)
              case atStart => exact ⟨0, by omega, rfl, by simpa using hM⟩
              case round =>
                clear hM
                obtain ⟨k, hk, rfl, hM⟩ := hrel
                by_cases hk32 : k < 32
                · obtain ⟨x, hx, hb⟩ := bytes_at s k hk32
                  have hv := stC_at s (.slice A5 0 c5) (.int .u64 (all.length : Int)) (k / 4) x hx
                  obtain ⟨q, hq⟩ : ∃ q, q = k / 4 := ⟨_, rfl⟩
                  obtain ⟨r, hr⟩ : ∃ r, r = k % 4 := ⟨_, rfl⟩
                  have hqi : (k : Int) / 4 = (q : Int) := by omega
                  have hri : (k : Int) % 4 = (r : Int) := by omega
                  have hq8 : (q : Int) < 8 := by omega
                  have hr4 : (r : Int) < 4 := by omega
                  rw [← hq] at hv
                  rw [← hr] at hb
                  have hset := out_set s.bytes k _ hBl hk32 hb
                  have HSET := Lib.hid hset
                  have HV := Lib.hid hv
                  clear hset hb hq hr hx hv
                  have hx0 := w32_lt x
                  go_wp2_with (first | (first | (refine BigFrame.wpList_want (by rfl) fun K hK => ws_load1 hM rfl rfl (by (repeat (first | assumption | (with_reducible exact mZ) | apply mS)); first | done | fail) (by exact HV.out) (by kernel_rfl) (hK _ _ ?_); clear hK K) | fail) | (first | (have hM0 := hM; clear hM; refine BigFrame.wpList_want (by rfl) fun K hK => ws_store1 hM0 rfl rfl (by go_simp; rfl) (by first | rfl | assumption) (by (repeat (first | (with_reducible exact Take.head) | apply Take.tail)); first | done | fail) (by simp [bvs_len, z32_len, hBl] <;> omega) (by kernel_rfl) (by exact HSET.out) (fun w hM => hK _ _ ?_); clear hM0 hK K) | fail))
                  go_roundw
                  case rel => exact ⟨k + 1, by omega, by go_num, hM⟩
                  case measure => simp [intOf]; omega
                · obtain rfl : k = 32 := by omega
                  have ht : s.bytes.take 32 ++ z32.drop 32 = sha all := by
                    rw [List.take_of_length_le (by omega), List.drop_of_length_le (by rw [z32_len]; omega), List.append_nil, HB2.out]
                  rw [ht] at hM
                  clear ht
                  have hshl := sha_len all
                  have HSL := Lib.hid hshl
                  clear hshl
                  go_wp2_with (first | (first | (refine BigFrame.wpList_want (by rfl) fun K hK => ws_load hM rfl rfl (by (repeat (first | assumption | (with_reducible exact mZ) | apply mS)); first | done | fail) (n := 32) (by simp [bvs_len, HSL.out]) (by kernel_rfl) (hK _ _ ?_); clear hK K) | fail) | (first | (have hM0 := hM; clear hM; refine BigFrame.wpList_want (by rfl) fun K hK => ws_store hM0 rfl rfl rfl (by (repeat (first | (with_reducible exact Take.head) | apply Take.tail)); first | done | fail) (n := 32) (by simp [bvs_len, HSL.out]) (by simp [bvs_len, z32_len]) (by kernel_rfl) (by simpa using bvs_oneCell _) (fun w hM => hK _ _ ?_); clear hM0 hK K) | fail))
                  exact bodyPost_ret (results_cell_row rfl _ _ g2 72 (bvs (sha all)).toArray (0, 0) _ rfl (hM.blk (by (repeat (first | assumption | (with_reducible exact mZ) | apply mS)); first | done | fail)) Try.underlying72 rfl (by rw [info_sumn]; simp [bvs_len, HSL.out])) rfl ⟨rfl, hM.sel (by repeat (first | (with_reducible exact Sel.refl) | (with_reducible exact Take.head) | (with_reducible apply Take.tail) | (with_reducible apply Sel.cons) | (with_reducible apply Sel.drop)))⟩
end Go.Proofs.Ytnckgkgilnmocaa
set_option linter.unusedSimpArgs false
set_option linter.unusedVariables false
namespace Go.Proofs.Ytnckgkgilnmocaa
open Go.RowKit
attribute [local go_sem] extract_mid extract_drop bget bsize wrap64_u8 i64_u8 u64_u8 bappend
set_option maxRecDepth 100000 in
set_option maxHeartbeats 2000000 in
theorem of_star {F : List SProp} (ps : List (List UInt8)) (As : Option Addr) (np cp : Nat) (hps : ∀ x ∈ ps, x.length ≤ 1000000000) (hnp : np ≤ 1000) (w : World) (hM : Star F w) (hF : rowE 1 As np (svs ps) ∈ F) :
    Calls Try.prog 65 #[.slice As np cp] w fun r w' => r = .returned (.agg (bvs (sha (cat ps))).toArray) ∧ Star F w' := by
  have hl := svs_row (hM.row hF)
  have hb : (cat ps).length ≤ 1000000000000 := by have := cat_le 1000000000 ps hps; rw [hl] at this; omega
  have HL := Lib.hid hl
  have HP := Lib.hid hps
  have hshl := sha_len (cat ps)
  have HSL := Lib.hid hshl
  clear hl hps hshl
  go_enter Try.func65, Try.ntmps65
  go_wp2_with (first | (first | (have hM0 := hM; clear hM; refine BigFrame.wpList_want (by rfl) fun K hK => ws_alloc hM0 (t := 72) rfl (bvs z32).toArray info_sum (fun g2 w hM => hK _ _ ?_); clear hM0 hK K) | fail) | (go_at_call 59; have hM0 := hM; clear hM; (first | (with_reducible refine (new_star _ hM0).mono ?_) | fail); clear hM0; rintro _ w ⟨gh, rfl, hM⟩) | (go_at_call 60; have hM0 := hM; clear hM; (first | (with_reducible refine (write_star gh [] ps As np cp HP.out hnp (by simp) none 0 0 _ hM0 (by simp [hF])).mono ?_) | fail); clear hM0; rintro _ w ⟨A1, n1, c1, rfl, hM⟩) | ((go_at_call 61; have hM0 := hM; clear hM; (first | (with_reducible refine (sum_star gh ([] ++ cat ps) (by simp only [List.nil_append]; omega) A1 n1 c1 _ hM0).mono ?_) | fail); clear hM0; rintro _ w ⟨rfl, hM⟩); simp only [List.nil_append] at hM ⊢) | (first | (have hM0 := hM; clear hM; refine BigFrame.wpList_want (by rfl) fun K hK => ws_store hM0 rfl rfl rfl (by (repeat (first | (with_reducible exact Take.head) | apply Take.tail)); first | done | fail) (n := 32) (by simp [bvs_len, HSL.out]) (by simp [bvs_len, z32_len]) (by kernel_rfl) (by simpa using bvs_oneCell _) (fun w hM => hK _ _ ?_); clear hM0 hK K) | fail))
  exact bodyPost_ret (results_cell_row rfl _ _ g2 72 (bvs (sha (cat ps))).toArray (0, 0) _ rfl (hM.blk (by (repeat (first | assumption | (with_reducible exact mZ) | apply mS)); first | done | fail)) Try.underlying72 rfl (by rw [info_sumn]; simp [bvs_len, HSL.out])) rfl ⟨rfl, hM.sel (by repeat (first | (with_reducible exact Sel.refl) | (with_reducible exact Take.head) | (with_reducible apply Take.tail) | (with_reducible apply Sel.cons) | (with_reducible apply Sel.drop)))⟩
theorem bvs_at {l : List UInt8} {k : Nat} {d : UInt8} (h : l[k]? = some d) : (bvs l)[k]? = some (.int .u8 (d.toNat : Int)) := by simp [bvs, h, bv]
end Go.Proofs.Ytnckgkgilnmocaa
set_option linter.unusedSimpArgs false
set_option linter.unusedVariables false
namespace Go.Proofs.Ytnckgkgilnmocaa
open Go.RowKit
attribute [local go_sem] extract_mid extract_drop bget bsize wrap64_u8 i64_u8 u64_u8 bappend
/-- A part of a text. -/
theorem ex_slice_str {P : Program} {w : World} {o : Oper} {a : Act} {t : TypeId} {x y z : Operand} (ho : o.op = .slice t x (some y) (some z) none) (ht : P.underlying t = some .string) {l : List UInt8} (hx : a.eval x = .string ⟨l.toArray⟩) {k k2 : IntKind} {i j : Nat} (hy : a.eval y = .int k (i : Int)) (hz : a.eval z = .int k2 (j : Int))
    (hij : i ≤ j) (hj : j ≤ l.length) {m : List UInt8} (hm : (l.take j).drop i = m) : (execOp a.eval o).run P w = .ok (.value (.string ⟨m.toArray⟩)) w := by
  subst hm
  have hi : (i : Int) ≤ (j : Int) := by omega
  have hj2 : (j : Int) ≤ (l.length : Int) := by omega
  have hr : (Instr.sliceAt t (.string ⟨l.toArray⟩) (some (.int k (i : Int))) (some (.int k2 (j : Int))) none).run P w = .ok (.string ⟨((l.take j).drop i).toArray⟩) w := by
    have h9 := run_slice_string (P := P) w t ⟨l.toArray⟩ k k2 (i : Int) (j : Int) ht (by omega) hi (by rw [bsize]; exact hj2)
    simp only [Int.toNat_natCast, extract_mid] at h9
    simp [Instr.sliceAt, go_sem, run_underlying ht, h9]
  unfold execOp
  simp only [ho, hx, hy, hz, Option.map_some, Option.map_none, hr, Sem.run_bind, Sem.run_pure, Result.andThen_ok]
section
variable {L R1 R2 : List SProp}
theorem write2 (g : Nat) (all : List UInt8) (ps : List (List UInt8)) {As : Option Addr} {np cp : Nat} {A : Option Addr} {n c : Nat} (h1 : Take (cellsE g 155 (shCells all A n c)) L R1) (h2 : Take (tailE 5 1 A n c (bvs (rest all))) R1 R2)
    (hF : rowE 1 As np (svs ps) ∈ R2) (hps : ∀ x ∈ ps, x.length ≤ 1000000000) (hnp : np ≤ 1000) (hall : all.length ≤ 1000000000000) (w : World) (hM : Star L w) :
    Calls Try.prog 60 #[.pointer (some ⟨g, 0, none⟩), .slice As np cp] w fun r w' => ∃ A' n' c', r = .returned (.pointer (some ⟨g, 0, none⟩)) ∧ Star (tailE 5 1 A' n' c' (bvs (rest (all ++ cat ps))) :: cellsE g 155 (shCells (all ++ cat ps) A' n' c') :: R2) w' :=
  write_star g all ps As np cp hps hnp hall A n c w ((hM.take h1).take (.tail h2)) hF
theorem write2_b (g : Nat) (all : List UInt8) (ps : List (List UInt8)) {As : Option Addr} {np cp : Nat} {A : Option Addr} {n c : Nat} (h1 : Take (cellsE g 155 (shCells all A n c)) L R1) (h2 : Take (tailE 5 1 A n c (bvs (rest all))) R1 R2)
    (hF : rowE 1 As np (svs ps) ∈ R2) (hps : all.length + (cat ps).length ≤ 140737488355000) (hnp : np ≤ 1000) (w : World) (hM : Star L w) :
    Calls Try.prog 60 #[.pointer (some ⟨g, 0, none⟩), .slice As np cp] w fun r w' => ∃ A' n' c', r = .returned (.pointer (some ⟨g, 0, none⟩)) ∧ Star (tailE 5 1 A' n' c' (bvs (rest (all ++ cat ps))) :: cellsE g 155 (shCells (all ++ cat ps) A' n' c') :: R2) w' :=
  write_star_b g all ps As np cp hps hnp A n c w ((hM.take h1).take (.tail h2)) hF
theorem sum2 (g : Nat) (all : List UInt8) {A : Option Addr} {n c : Nat} (h1 : Take (cellsE g 155 (shCells all A n c)) L R1) (h2 : Take (tailE 5 1 A n c (bvs (rest all))) R1 R2)
    (hall : all.length ≤ 140737488355000) (w : World) (hM : Star L w) :
    Calls Try.prog 61 #[.pointer (some ⟨g, 0, none⟩)] w fun r w' => r = .returned (.agg (bvs (sha all)).toArray) ∧ Star L w' :=
  (sum_star g all hall A n c w ((hM.take h1).take (.tail h2))).mono fun _ _ ⟨e, h⟩ => ⟨e, h.perm (((List.Perm.swap _ _ _).trans (List.Perm.cons _ h2.perm.symm)).trans h1.perm.symm)⟩
end
end Go.Proofs.Ytnckgkgilnmocaa
set_option linter.unusedSimpArgs false
set_option linter.unusedVariables false
namespace Go.Proofs.Ytnckgkgilnmocaa
open Go.RowKit
attribute [local go_sem] extract_mid extract_drop bget bsize wrap64_u8 i64_u8 u64_u8 bappend
theorem and_i64 (n : Int) (m : Nat) (hm : m ≤ 62) : bits .and .i64 n (2 ^ m - 1 : Nat) = n % ((2 ^ m : Nat) : Int) := by
  have h62 : 2 ^ m ≤ 2 ^ 62 := Nat.pow_le_pow_right (by decide) hm
  have h0 : 0 < 2 ^ m := Nat.pow_pos (by decide)
  have hc : (BitVec.ofInt 64 ((2 ^ m - 1 : Nat) : Int)).toNat = 2 ^ m - 1 := by
    rw [BitVec.ofInt_natCast, BitVec.toNat_ofNat]; exact Nat.mod_eq_of_lt (by omega)
  have key : (BitVec.ofInt 64 n &&& BitVec.ofInt 64 ((2 ^ m - 1 : Nat) : Int)).toNat = (n % ((2 ^ 64 : Nat) : Int)).toNat % 2 ^ m := by
    rw [BitVec.toNat_and, BitVec.toNat_ofInt, hc, Nat.and_two_pow_sub_one_eq_mod]
  show IntKind.i64.wrap ((BitVec.ofInt 64 n &&& BitVec.ofInt 64 ((2 ^ m - 1 : Nat) : Int)).toNat : Nat) = _
  rw [key, IntKind.wrap_i64]
  have hd : ((2 ^ m : Nat) : Int) ∣ ((2 ^ 64 : Nat) : Int) := by
    rw [Int.natCast_dvd_natCast]; exact Nat.pow_dvd_pow 2 (by omega)
  have e1 : (((n % ((2 ^ 64 : Nat) : Int)).toNat % 2 ^ m : Nat) : Int) = n % ((2 ^ m : Nat) : Int) := by
    rw [Int.natCast_emod, Int.toNat_of_nonneg (Int.emod_nonneg _ (by decide)), Int.emod_emod_of_dvd _ hd]
  rw [e1]
  have h1 := Int.emod_nonneg n (show ((2 ^ m : Nat) : Int) ≠ 0 by omega)
  have h2 := Int.emod_lt_of_pos n (show (0 : Int) < ((2 ^ m : Nat) : Int) by omega)
  omega
theorem and31 (n : Int) : bits .and .i64 n 31 = n % 32 := and_i64 n 5 (by decide)
theorem and0 (n : Int) : bits .and .i64 n 0 = 0 := by have := and_i64 n 0 (by decide); simpa using this
theorem and1 (n : Int) : bits .and .i64 n 1 = n % 2 := and_i64 n 1 (by decide)
theorem and3 (n : Int) : bits .and .i64 n 3 = n % 4 := and_i64 n 2 (by decide)
theorem and7 (n : Int) : bits .and .i64 n 7 = n % 8 := and_i64 n 3 (by decide)
theorem and15' (n : Int) : bits .and .i64 n 15 = n % 16 := and_i64 n 4 (by decide)
attribute [local go_sem] and31 and0 and1 and3 and7 and15'
end Go.Proofs.Ytnckgkgilnmocaa
set_option linter.unusedSimpArgs false
set_option linter.unusedVariables false
namespace Go.Proofs.Ytnckgkgilnmocaa
theorem numOf_one (x : UInt8) : numOf [x] = x.toNat := by simp [numOf]
theorem numOf_cons (x : UInt8) (l : List UInt8) : numOf (x :: l) = x.toNat * 256 ^ l.length + numOf l := by
  have := numOf_app [x] l
  rwa [numOf_one] at this
theorem num_lt_of (x y p a b : Nat) (hx : a < p) (hy : b < p) (h : x < y) : x * p + a < y * p + b := by
  have : (x + 1) * p ≤ y * p := Nat.mul_le_mul_right _ h
  rw [Nat.add_mul] at this
  omega
theorem cmp_num : ∀ (a b : List UInt8), a.length = b.length → Lib.compareBytes a b = if numOf a < numOf b then -1 else if numOf a = numOf b then 0 else 1
  | [], [], _ => by simp [Lib.compareBytes, numOf]
  | x :: a, y :: b, h => by
    have hl : a.length = b.length := by simpa using h
    have ha := numOf_lt a
    have hb := numOf_lt b
    rw [← hl] at hb
    rw [numOf_cons, numOf_cons, ← hl]
    unfold Lib.compareBytes
    by_cases h1 : x < y
    · have h2 : x.toNat < y.toNat := h1
      have := num_lt_of x.toNat y.toNat _ _ _ ha hb h2
      rw [if_pos h1, if_pos this]
    · by_cases h3 : y < x
      · have h2 : y.toNat < x.toNat := h3
        have := num_lt_of y.toNat x.toNat _ _ _ hb ha h2
        rw [if_neg h1, if_pos h3, if_neg (by omega), if_neg (by omega)]
      · have hxy : x.toNat = y.toNat := by
          have h4 : ¬ x.toNat < y.toNat := h1
          have h5 : ¬ y.toNat < x.toNat := h3
          omega
        rw [if_neg h1, if_neg h3, cmp_num a b hl, hxy]
        simp only [Nat.add_lt_add_iff_left, Nat.add_right_inj, Nat.add_left_cancel_iff]
end Go.Proofs.Ytnckgkgilnmocaa
set_option linter.unusedSimpArgs false
set_option linter.unusedVariables false
namespace Go.Proofs.Ytnckgkgilnmocaa
open Go.RowKit
attribute [local go_sem] extract_mid extract_drop bget bsize wrap64_u8 i64_u8 u64_u8 bappend
theorem bxor8 (x y : UInt8) : bits BinOp.xor IntKind.u8 (x.toNat : Int) (y.toNat : Int) = ((x ^^^ y).toNat : Int) := by
  have h1 := x.toNat_lt
  have h2 := y.toNat_lt
  rw [u8_xor_nat x.toNat y.toNat (by omega) (by omega), UInt8.toNat_xor]
attribute [local go_sem] bxor8
end Go.Proofs.Ytnckgkgilnmocaa
