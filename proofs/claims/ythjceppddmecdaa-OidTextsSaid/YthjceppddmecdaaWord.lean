/- Words of 32 bits in a walk: each operation's value as an operation on UInt32. No condition. -/
import Derived.Test.YthjceppddmecdaaSha
import Derived.Test.YthjceppddmecdaaArr
import Derived.Test.YthjceppddmecdaaRows
set_option linter.unusedSimpArgs false
set_option linter.unusedVariables false
namespace Go.Proofs.Ythjceppddmecdaa
open Go.RowKit
attribute [local go_sem] extract_mid extract_drop bget bsize wrap64_u8 i64_u8 u64_u8 bappend
/-- A word as the number that a slot holds. -/
def w32 (x : UInt32) : Int := (x.toNat : Int)
theorem w32_lt (x : UInt32) : 0 ≤ w32 x ∧ w32 x ≤ 4294967295 := by have := x.toNat_lt; unfold w32; omega
theorem w32_inj {x y : UInt32} (h : w32 x = w32 y) : x = y := UInt32.toNat_inj.1 (by unfold w32 at h; omega)
theorem u32_add (a b : UInt32) : IntKind.u32.wrap (w32 a + w32 b) = w32 (a + b) := by
  unfold w32
  rw [IntKind.wrap_u32, UInt32.toNat_add]
  omega
theorem u32_xor_w (a b : UInt32) : bits BinOp.xor IntKind.u32 (w32 a) (w32 b) = w32 (a ^^^ b) := by
  unfold w32
  have h1 := a.toNat_lt; have h2 := b.toNat_lt
  rw [u32_xor_nat _ _ (by omega) (by omega), UInt32.toNat_xor]
theorem u32_and_w (a b : UInt32) : bits BinOp.and IntKind.u32 (w32 a) (w32 b) = w32 (a &&& b) := by
  unfold w32
  have h1 := a.toNat_lt; have h2 := b.toNat_lt
  rw [u32_and_nat _ _ (by omega) (by omega), UInt32.toNat_and]
theorem u32_or_w (a b : UInt32) : bits BinOp.or IntKind.u32 (w32 a) (w32 b) = w32 (a ||| b) := by
  unfold w32
  have h1 := a.toNat_lt; have h2 := b.toNat_lt
  rw [u32_or_nat _ _ (by omega) (by omega), UInt32.toNat_or]
theorem w32_shr (x : UInt32) (n : Nat) (k : Int) (hk : k = 2 ^ n) : w32 x / k = w32 (shr32 x n) := by
  have h1 := x.toNat_lt
  unfold w32 shr32
  have h2 : x.toNat / 2 ^ n ≤ x.toNat := Nat.div_le_self _ _
  rw [UInt32.toNat_ofNat_of_lt' (by simpa [UInt32.size] using (by omega : x.toNat / 2 ^ n < 4294967296)), hk]
  simp
theorem w32_shr3 (x : UInt32) : w32 x / 8 = w32 (shr32 x 3) := w32_shr x 3 8 rfl
theorem w32_shr10 (x : UInt32) : w32 x / 1024 = w32 (shr32 x 10) := w32_shr x 10 1024 rfl
theorem w32_quo3 (x : UInt32) : IntKind.u32.wrap ((w32 x).tdiv 8) = w32 (shr32 x 3) := by rw [IntWalk.u32_quo _ _ ⟨(w32_lt x).1, (w32_lt x).2, by omega⟩, w32_shr3]
theorem w32_quo10 (x : UInt32) : IntKind.u32.wrap ((w32 x).tdiv 1024) = w32 (shr32 x 10) := by rw [IntWalk.u32_quo _ _ ⟨(w32_lt x).1, (w32_lt x).2, by omega⟩, w32_shr10]
theorem rotr_or (x : UInt32) (n : Nat) (h1 : 1 ≤ n) (h2 : n ≤ 31) (j k : Int) (hj : j = 2 ^ (32 - n)) (hk : k = 2 ^ n) :
    bits BinOp.or IntKind.u32 (IntKind.u32.wrap (w32 x * j)) (w32 x / k) = w32 (rotr x n) := by
  have hx := x.toNat_lt
  have hp : 2 ^ n * 2 ^ (32 - n) = 4294967296 := by rw [← Nat.pow_add, show n + (32 - n) = 32 by omega]
  have hlow : x.toNat / 2 ^ n < 2 ^ (32 - n) := by
    rw [Nat.div_lt_iff_lt_mul (Nat.two_pow_pos n), Nat.mul_comm, hp]; omega
  have e1 : IntKind.u32.wrap (w32 x * j) = ((x.toNat * 2 ^ (32 - n) % 4294967296 : Nat) : Int) := by
    rw [IntKind.wrap_u32, hj]; unfold w32; simp
  have e2 : w32 x / k = ((x.toNat / 2 ^ n : Nat) : Int) := by rw [hk]; unfold w32; simp
  have e3 : x.toNat * 2 ^ (32 - n) % 4294967296 = (x.toNat % 2 ^ n) * 2 ^ (32 - n) := by
    rw [← hp, Nat.mul_mod_mul_right]
  have hb : x.toNat % 2 ^ n * 2 ^ (32 - n) + x.toNat / 2 ^ n < 4294967296 := by
    have h3 : x.toNat % 2 ^ n + 1 ≤ 2 ^ n := Nat.mod_lt _ (Nat.two_pow_pos n)
    have h4 := Nat.mul_le_mul_right (2 ^ (32 - n)) h3
    rw [hp, Nat.add_mul] at h4
    omega
  rw [e1, e2, u32_or_nat _ _ (Nat.mod_lt _ (by omega)) (by omega)]
  unfold w32 rotr
  rw [e3, ← Nat.shiftLeft_eq, ← Nat.shiftLeft_add_eq_or_of_lt hlow, Nat.shiftLeft_eq]
  rw [UInt32.toNat_ofNat_of_lt' (by simpa [UInt32.size] using (by omega : x.toNat / 2 ^ n + x.toNat % 2 ^ n * 2 ^ (32 - n) < 4294967296))]
  congr 1
  omega
def wv (x : UInt32) : Value := .int .u32 (w32 x)
def wvs (l : List UInt32) : List Value := l.map wv
theorem wvs_len (l : List UInt32) : (wvs l).length = l.length := by simp [wvs]
theorem wvs_get (l : List UInt32) (j : Nat) (x : UInt32) (h : l[j]? = some x) : (wvs l)[j]? = some (.int .u32 (w32 x)) := by simp [wvs, h, wv]
theorem wvs_one (l : List UInt32) : ∀ v ∈ (wvs l), v.oneCell' = true := by
  intro u hu
  obtain ⟨c, _, rfl⟩ := List.mem_map.1 hu
  rfl
theorem rotr_add (x : UInt32) (n : Nat) (h1 : 1 ≤ n) (h2 : n ≤ 31) (j k : Int) (hj : j = 2 ^ (32 - n)) (hk : k = 2 ^ n) :
    IntKind.u32.wrap (w32 x / k + IntKind.u32.wrap (w32 x * j)) = w32 (rotr x n) := by
  have hx := x.toNat_lt
  have e1 : IntKind.u32.wrap (w32 x * j) = ((x.toNat * 2 ^ (32 - n) % 4294967296 : Nat) : Int) := by
    rw [IntKind.wrap_u32, hj]; unfold w32; simp
  have e2 : w32 x / k = ((x.toNat / 2 ^ n : Nat) : Int) := by rw [hk]; unfold w32; simp
  rw [e1, e2, IntKind.wrap_u32]
  unfold w32 rotr
  simp
theorem rotr_or' (x : UInt32) (n : Nat) (h1 : 1 ≤ n) (h2 : n ≤ 31) (j k : Int) (hj : j = 2 ^ (32 - n)) (hk : k = 2 ^ n) :
    bits BinOp.or IntKind.u32 (w32 x * j % 4294967296) (w32 x / k) = w32 (rotr x n) := by
  rw [← rotr_or x n h1 h2 j k hj hk, IntKind.wrap_u32]
theorem rotr_sum (x : UInt32) (n : Nat) (h1 : 1 ≤ n) (h2 : n ≤ 31) (j k : Int) (hj : j = 2 ^ (32 - n)) (hk : k = 2 ^ n) :
    w32 x / k + w32 x * j % 4294967296 = w32 (rotr x n) := by
  have hx := x.toNat_lt
  have hp : 2 ^ n * 2 ^ (32 - n) = 4294967296 := by rw [← Nat.pow_add, show n + (32 - n) = 32 by omega]
  have hlow : x.toNat / 2 ^ n < 2 ^ (32 - n) := by
    rw [Nat.div_lt_iff_lt_mul (Nat.two_pow_pos n), Nat.mul_comm, hp]; omega
  have e3 : x.toNat * 2 ^ (32 - n) % 4294967296 = (x.toNat % 2 ^ n) * 2 ^ (32 - n) := by
    rw [← hp, Nat.mul_mod_mul_right]
  have hb : x.toNat % 2 ^ n * 2 ^ (32 - n) + x.toNat / 2 ^ n < 4294967296 := by
    have h3 : x.toNat % 2 ^ n + 1 ≤ 2 ^ n := Nat.mod_lt _ (Nat.two_pow_pos n)
    have h4 := Nat.mul_le_mul_right (2 ^ (32 - n)) h3
    rw [hp, Nat.add_mul] at h4
    omega
  rw [hj, hk]
  unfold w32 rotr
  rw [UInt32.toNat_ofNat_of_lt' (by rw [e3]; simpa [UInt32.size] using (by omega : x.toNat / 2 ^ n + x.toNat % 2 ^ n * 2 ^ (32 - n) < 4294967296))]
  simp
theorem u32_add' (a b : UInt32) : (w32 a + w32 b) % 4294967296 = w32 (a + b) := by rw [← u32_add, IntKind.wrap_u32]
theorem u8m32 (c : UInt8) : (c.toNat : Int) % 4294967296 = c.toNat := by have := c.toNat_lt; omega
end Go.Proofs.Ythjceppddmecdaa
