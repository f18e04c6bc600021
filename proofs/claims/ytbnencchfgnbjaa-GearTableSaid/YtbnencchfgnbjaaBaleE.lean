/- The walks of package bale's functions that put, and of the law's small helpers. -/
import Derived.Test.YtbnencchfgnbjaaBaleW
set_option linter.unusedSimpArgs false
set_option linter.unusedVariables false
namespace Go.Proofs.Ytbnencchfgnbjaa
open Go.RowKit
attribute [local go_sem] extract_mid extract_drop bget bsize wrap64_u8 i64_u8 u64_u8 bappend

def cutP (l : List UInt8) (n : Int) : List UInt8 := if n < l.length then l.take n.toNat else l
theorem cut_any (l : List UInt8) (n : Int) (hn : 0 ≤ n) (w : World) :
    Calls Try.prog 15 #[.string ⟨l.toArray⟩, .int .i64 n] w fun r w' => r = .returned (.string ⟨(cutP l n).toArray⟩) ∧ w = w' := by
  obtain ⟨k, rfl⟩ := Int.eq_ofNat_of_zero_le hn
  by_cases h : k < l.length
  · go_enter Try.func15, Try.ntmps15
    go_wp2
    go_ret
    exact ⟨ret_str (by simp [cutP, h]), rfl⟩
  · go_enter Try.func15, Try.ntmps15
    go_wp2
    go_ret
    exact ⟨ret_str (by simp [cutP, h]), rfl⟩
theorem cutP_len (l : List UInt8) (n : Int) (hn : 0 ≤ n) : ((cutP l n).length : Int) ≤ n := by
  unfold cutP
  split
  · simp; omega
  · omega

theorem info_u8 : (Try.prog.info? 5).map (fun i => (i.zero, i.size, i.bytes)) = some (some (.int .u8 0), 1, 1) := by kernel_rfl

set_option maxRecDepth 100000 in
theorem encNum_any (n : Nat) (hn : n ≤ 18446744073709551615) (w : World) :
    Calls Try.prog 21 #[.int .u64 n] w fun r w' => r = .returned (.string ⟨(encNum n).toArray⟩) ∧ Ch [] w w' := by
  go_enter Try.func21, Try.ntmps21
  go_wp2
  go_loopw [0, 3] (fun nv bs wr => ∃ (m k c : Nat) (A : Option Addr) (ds : List UInt8), nv = .int .u64 m ∧ bs = .slice A k c ∧ Rd wr 1 A k (bvs ds) ∧ k ≤ 8 ∧ m < 256 ^ (8 - k) ∧ Hid (digF (8 - k) m ++ ds = digF 8 n) ∧ Ch [] w wr)
    (fun nv _ _ => (intOf nv).toNat)
  case atStart => exact ⟨n, 0, 0, none, [], rfl, rfl, Rd.none_, by omega, by simpa using (by omega : n < 256 ^ 8), by show _ = _; simp, Ch.refl _ _⟩
  case round =>
    obtain ⟨m, k, c, A, ds, rfl, rfl, hR, hk, hm, hd, hC⟩ := hrel
    have hle : (256 : Nat) ^ (8 - k) ≤ 256 ^ 8 := Nat.pow_le_pow_right (by omega) (by omega)
    have hm64 : m ≤ 18446744073709551615 := by omega
    have hlen : ds.length = k := by have := hR.len; rwa [bvs_len] at this
    obtain rfl := hlen
    by_cases hm0 : 0 < m
    · have hk8 : ds.length < 8 := by
        rcases Nat.lt_or_ge ds.length 8 with h | h
        · exact h
        · have : (8 - ds.length) = 0 := by omega
          rw [this] at hm; omega
      obtain ⟨d, hdd⟩ : ∃ d : UInt8, d = UInt8.ofNat m := ⟨_, rfl⟩
      have hw8 : IntKind.u8.wrap (m : Int) = (d.toNat : Int) := by rw [hdd, u8_wrap]
      have HD := Lib.hid hdd
      clear hdd hle
      go_wp2_with (refine op_append rfl (.tmp 10) (.tmp 11) 40 rfl wr.heap.size 5 (.int .u8 0) 1 1 Try.underlying40 info_u8 rfl (by decide) _ 1 1 _ rfl (own_lit (Blk.new wr 5 #[.int .u8 d.toNat]) (Nat.le_refl _) (by unfold maxLen; omega) rfl) A ds.length c (bvs ds) rfl (hR.alloc _) (bvs_oneCell ds) (by omega) (by simp) ?_; intro A1 c1 w1 hown hC1)
      have hr1 : Rd w1 1 A1 (ds.length + 1) (bvs (d :: ds)) := by have := Rd.of_own hown; rw [Nat.add_comm]; exact this
      have hC2 : Ch [] w w1 := hC.step ((Ch.refl _ _).alloc _ |>.step hC1 fun g hg => .inr (by simp [obl] at hg; omega)) (cs := []) (by simp)
      have e1 : 8 - ds.length = (8 - (ds.length + 1)) + 1 := by omega
      have hd1 : digF (8 - (ds.length + 1)) (m / 256) ++ (d :: ds) = digF 8 n := by
        rw [← hd.out, e1, digF_pos _ _ (by omega), HD.out]
        simp
        apply UInt8.toNat_inj.1
        simp
      have hm1 : m / 256 < 256 ^ (8 - (ds.length + 1)) := by
        rw [e1, Nat.pow_succ] at hm
        omega
      go_roundw
      case rel => exact ⟨m / 256, 1 + ds.length, c1, A1, d :: ds, by go_num, rfl, by rw [Nat.add_comm]; exact hr1, by omega, by rw [Nat.add_comm]; exact hm1, by rw [Nat.add_comm]; exact hd1, hC2⟩
      case measure => simp [intOf]; omega
    · obtain rfl : m = 0 := by omega
      have hds : ds = digF 8 n := by rw [← hd.out, digF_zero]; rfl
      obtain ⟨d, hdd⟩ : ∃ d : UInt8, d = UInt8.ofNat ds.length := ⟨_, rfl⟩
      have hw8 : IntKind.u8.wrap (ds.length : Int) = (d.toNat : Int) := by rw [hdd, u8_wrap]
      have HE : Hid (d :: ds = encNum n) := by show _ = _; rw [hdd, hds]; rfl
      clear hdd hds hle
      go_wp2_with (first | (refine op_append rfl (.tmp 16) (.tmp 17) 40 rfl wr.heap.size 5 (.int .u8 0) 1 1 Try.underlying40 info_u8 rfl (by decide) _ 1 1 _ rfl (own_lit (Blk.new wr 5 #[.int .u8 d.toNat]) (Nat.le_refl _) (by unfold maxLen; omega) rfl) A ds.length c (bvs ds) rfl (hR.alloc _) (bvs_oneCell ds) (by omega) (by simp) ?_; intro A1 c1 w1 hown hC1; have hr1 := Rd.of_own hown) | (refine op_string rfl 40 9 (.tmp 18) rfl 5 Try.underlying40 Try.underlying9 Try.underlying5 (d :: ds) A1 _ c1 rfl hr1 ?_))
      go_ret
      refine ⟨ret_str HE.out, hC.step ((Ch.refl _ _).alloc _ |>.step hC1 fun g hg => .inr (by simp [obl] at hg; omega)) (cs := []) (by simp)⟩

def encStr (l : List UInt8) : List UInt8 := encNum l.length ++ l
def encStrs : List (List UInt8) → List UInt8
  | [] => []
  | l :: ls => encStr l ++ encStrs ls
theorem encNum_len (n : Nat) : (encNum n).length ≤ 9 := by have := dig_len n; simp [encNum]; omega
theorem encStr_len (l : List UInt8) : (encStr l).length ≤ l.length + 9 := by have := encNum_len l.length; simp [encStr]; omega
theorem encStrs_snoc (ls : List (List UInt8)) (l : List UInt8) : encStrs (ls ++ [l]) = encStrs ls ++ encStr l := by
  induction ls with
  | nil => simp [encStrs]
  | cons a ls ih => simp [encStrs, ih]
theorem encStr_any (l : List UInt8) (hl : l.length ≤ 1000000000000) (w : World) :
    Calls Try.prog 40 #[.string ⟨l.toArray⟩] w fun r w' => r = .returned (.string ⟨(encStr l).toArray⟩) ∧ Ch [] w w' := by
  have hq := encNum_len l.length
  go_enter Try.func40, Try.ntmps40
  go_wp2_with (go_at_call 21; refine (encNum_any _ (by omega) _).mono ?_; rintro r w1 ⟨rfl, hC1⟩)
  go_ret
  exact ⟨rfl, hC1⟩
theorem encStrs_any (ss : List (List UInt8)) (A : Option Addr) (n c : Nat) (hs : ∀ l ∈ ss, l.length ≤ 1000000000) (hn : n ≤ 1000) (w : World) (hR : Rd w 1 A n (svs ss)) :
    Calls Try.prog 26 #[.slice A n c] w fun r w' => r = .returned (.string ⟨(encStrs ss).toArray⟩) ∧ Ch [] w w' := by
  have hlen : ss.length = n := by simpa [svs] using hR.len
  have HL := Lib.hid hlen
  clear hlen
  go_enter Try.func26, Try.ntmps26
  go_wp2
  go_loopw [3, 8] (fun v i wr => ∃ k : Nat, k ≤ n ∧ i = .int .i64 k ∧ v = .string ⟨(encStrs (ss.take k)).toArray⟩ ∧ (encStrs (ss.take k)).length ≤ k * 1000000009 ∧ Ch [] w wr) (fun _ i _ => n - (intOf i).toNat)
  case atStart => exact ⟨0, Nat.zero_le _, rfl, rfl, by simp [encStrs], Ch.refl _ _⟩
  case round =>
    obtain ⟨k, hk, rfl, rfl, hb, hC⟩ := hrel
    by_cases hlt : k < n
    · obtain ⟨ad, l, rfl, hc, hg, ht⟩ := (hR.ch0 hC).elem hlt
      have hl := hs l (List.mem_of_getElem? hg)
      have he := encStr_len l
      have HT := Lib.hid ht
      have hc : wr.cell? (ad.add k) = some (.string ⟨l.toArray⟩) := hc
      clear ht hg
      go_wp2_with (go_at_call 40; refine (encStr_any _ (by omega) _).mono ?_; rintro r w1 ⟨rfl, hC1⟩)
      go_roundw
      case rel => exact ⟨k + 1, by omega, by go_num, by rw [HT.out, encStrs_snoc], by rw [HT.out, encStrs_snoc, List.length_append]; omega, hC.trans hC1⟩
      case measure => simp [intOf]; omega
    · go_wp2
      go_ret
      exact ⟨ret_str (by rw [List.take_of_length_le (by rw [HL.out]; omega)]), hC⟩
end Go.Proofs.Ytbnencchfgnbjaa
