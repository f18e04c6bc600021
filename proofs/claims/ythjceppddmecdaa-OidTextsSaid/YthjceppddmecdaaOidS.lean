/- The walks of oid.Shared, Compare, Closer. No condition but that names have 32 bytes. -/
import Derived.Test.YthjceppddmecdaaOid
set_option linter.unusedSimpArgs false
set_option linter.unusedVariables false
namespace Go.Proofs.Ythjceppddmecdaa
open Go.RowKit
attribute [local go_sem] extract_mid extract_drop bget bsize wrap64_u8 i64_u8 u64_u8 bappend
def lgt (c : Nat) : Nat := if c = 0 then 0 else c.log2 + 1
def len8tab : List UInt8 := (List.range 256).map fun c => UInt8.ofNat (lgt c)
theorem lgt_le (c : Nat) (h : c < 256) : lgt c ≤ 8 := by
  unfold lgt
  split
  · omega
  · rename_i h0
    have := (Nat.log2_lt h0).2 (show c < 2 ^ 8 by omega)
    omega
theorem len8tab_at (c : UInt8) : len8tab[c.toNat]? = some (UInt8.ofNat (lgt c.toNat)) := by
  have := c.toNat_lt
  rw [len8tab, List.getElem?_map, List.getElem?_range (by omega)]
  rfl
/-- The first byte that is not 0 says how many zeros there are ahead. -/
theorem shared_first (X : List UInt8) (hX : X.length = 32) (k : Nat) (c : UInt8) (hk : X[k]? = some c) (h0 : numOf (X.take k) = 0) (hc : c.toNat ≠ 0) : IsShared (numOf X) (8 * k + (8 - lgt c.toNat)) := by
  have hk32 : k < 32 := by have := (List.getElem?_eq_some_iff.1 hk).1; omega
  have hc8 := c.toNat_lt
  have h1 : numOf X = c.toNat * 256 ^ (31 - k) + numOf (X.drop (k + 1)) := by
    conv => lhs; rw [← List.take_append_drop (k + 1) X]
    rw [numOf_app, List.length_drop, hX, take_snoc_at _ _ _ hk, numOf_snoc, h0, show 32 - (k + 1) = 31 - k by omega, Nat.zero_mul, Nat.zero_add]
  have h2 : numOf (X.drop (k + 1)) < 256 ^ (31 - k) := by
    have := numOf_lt (X.drop (k + 1))
    rwa [List.length_drop, hX, show 32 - (k + 1) = 31 - k by omega] at this
  have hlg : lgt c.toNat = c.toNat.log2 + 1 := by unfold lgt; rw [if_neg hc]
  have hl8 := (Nat.log2_lt hc).2 (show c.toNat < 2 ^ 8 by omega)
  have h3 := Nat.log2_self_le hc
  have h4 : c.toNat < 2 ^ (c.toNat.log2 + 1) := Nat.lt_log2_self
  generalize c.toNat.log2 = g at hlg hl8 h3 h4
  rw [hlg]
  have e1 : (2 : Nat) ^ (256 - (8 * k + (8 - (g + 1)))) = 2 ^ (g + 1) * 256 ^ (31 - k) := by
    rw [pow256, ← Nat.pow_add]; congr 1; omega
  have e2 : (2 : Nat) ^ (255 - (8 * k + (8 - (g + 1)))) = 2 ^ g * 256 ^ (31 - k) := by
    rw [pow256, ← Nat.pow_add]; congr 1; omega
  refine ⟨by omega, ?_, .inr ?_⟩
  · rw [e1, h1]
    have : (c.toNat + 1) * 256 ^ (31 - k) ≤ 2 ^ (g + 1) * 256 ^ (31 - k) := Nat.mul_le_mul_right _ h4
    rw [Nat.add_mul] at this
    omega
  · rw [e2, h1]
    have : 2 ^ g * 256 ^ (31 - k) ≤ c.toNat * 256 ^ (31 - k) := Nat.mul_le_mul_right _ h3
    omega
theorem shared_none : IsShared 0 256 := ⟨by omega, by decide, .inl rfl⟩
theorem numOf_zero_snoc {X : List UInt8} {k : Nat} {c : UInt8} (hk : X[k]? = some c) (h0 : numOf (X.take k) = 0) (hc : c.toNat = 0) : numOf (X.take (k + 1)) = 0 := by
  rw [take_snoc_at _ _ _ hk, numOf_snoc, h0, hc]
set_option maxRecDepth 100000 in
theorem len8_star {F : List SProp} (c : UInt8) (w : World) (hM : Star F w) :
    Calls Try.prog 62 #[.int .u8 c.toNat] w fun r w' => r = .returned (.int .i64 (lgt c.toNat)) ∧ Star F w' := by
  have hl := lgt_le c.toNat c.toNat_lt
  obtain ⟨d, hd⟩ : ∃ d, d = UInt8.ofNat (lgt c.toNat) := ⟨_, rfl⟩
  have HG := len8tab_at c
  rw [← hd] at HG
  have hdl : d.toNat = lgt c.toNat := by rw [hd]; simp; omega
  have HD : Hid ((d.toNat : Int) = (lgt c.toNat : Int)) := by show _ = _; rw [hdl]
  rw [← HD.out]
  clear hd hdl
  have HG2 : ∀ t : List UInt8, t = len8tab → t[c.toNat]? = some d := fun t h => by rw [h]; exact HG
  go_enter Try.func62, Try.ntmps62
  go_wp2_with (first | (refine BigFrame.wpList_want (by rfl) fun K hK => ws_of_ex (ex_index_str (n := c.toNat) rfl Try.underlying9 rfl rfl (HG2 _ (by decide +kernel))) (hK _ _ ?_); clear hK K))
  go_ret
  exact ⟨rfl, hM⟩
set_option maxRecDepth 100000 in
theorem lz8_star {F : List SProp} (c : UInt8) (w : World) (hM : Star F w) :
    Calls Try.prog 42 #[.int .u8 c.toNat] w fun r w' => r = .returned (.int .i64 ((8 - lgt c.toNat : Nat) : Int)) ∧ Star F w' := by
  have hl := lgt_le c.toNat c.toNat_lt
  have HD : Hid (((8 - lgt c.toNat : Nat) : Int) = 8 - (lgt c.toNat : Int)) := by show _ = _; omega
  rw [HD.out]
  go_enter Try.func42, Try.ntmps42
  go_wp2_with (first | (go_at_call 62; have hM0 := hM; clear hM; (first | (with_reducible refine (len8_star c _ hM0).mono ?_) | fail); clear hM0; rintro _ w ⟨rfl, hM⟩))
  go_ret
  exact ⟨rfl, hM⟩
set_option maxRecDepth 100000 in
set_option maxHeartbeats 2000000 in
theorem shared_star {F : List SProp} (a b : List UInt8) (ha : a.length = 32) (hb : b.length = 32) (s : Nat) (hs : IsShared (numOf a ^^^ numOf b) s) (w : World) (hM : Star F w) :
    Calls Try.prog 18 #[.agg (bvs a).toArray, .agg (bvs b).toArray] w fun r w' => r = .returned (.int .i64 s) ∧ Star F w' := by
  obtain ⟨X, hX⟩ : ∃ X, X = xorL a b := ⟨_, rfl⟩
  have hX32 : X.length = 32 := by rw [hX, xorL_len a b (by omega), ha]
  rw [← numOf_xor a b (by omega), ← hX] at hs
  have HSU := Lib.hid hs
  have HXX : ∀ {L : List SProp} (w : World), Star L w → Calls Try.prog 16 #[.agg (bvs a).toArray, .agg (bvs b).toArray] w fun r w' => r = .returned (.agg (bvs X).toArray) ∧ Star L w' := fun w hM => by rw [hX]; exact xor_star a b ha hb w hM
  have HA := Lib.hid ha
  have HB := Lib.hid hb
  have HX := Lib.hid hX32
  clear hX hX32 ha hb hs
  go_enter Try.func18, Try.ntmps18
  go_wp2_with (first | (first | (have hM0 := hM; clear hM; refine BigFrame.wpList_want (by rfl) fun K hK => ws_box hM0 rfl rfl (cs := (bvs a).toArray) rfl (fun g2 w hM => hK _ _ ?_); clear hM0 hK K) | fail) | (first | (have hM0 := hM; clear hM; refine BigFrame.wpList_want (by rfl) fun K hK => ws_box hM0 rfl rfl (cs := (bvs b).toArray) rfl (fun g3 w hM => hK _ _ ?_); clear hM0 hK K) | fail) | (first | (refine BigFrame.wpList_want (by rfl) fun K hK => ws_load hM rfl rfl (by (repeat (first | assumption | (with_reducible exact List.mem_cons_self) | apply List.mem_cons_of_mem)); first | done | fail) (n := 32) (by simp [bvs_len, HA.out, HB.out, HX.out]) (by decide +kernel) (hK _ _ ?_); clear hK K) | fail) | (go_at_call 16; have hM0 := hM; clear hM; (first | (with_reducible refine (HXX _ hM0).mono ?_) | fail); clear hM0; rintro _ w ⟨rfl, hM⟩) | (first | (have hM0 := hM; clear hM; refine BigFrame.wpList_want (by rfl) fun K hK => ws_alloc hM0 (t := 23) rfl (bvs z32).toArray info_id (fun g5 w hM => hK _ _ ?_); clear hM0 hK K) | fail) | (first | (have hM0 := hM; clear hM; refine BigFrame.wpList_want (by rfl) fun K hK => ws_store hM0 rfl rfl rfl (by (repeat (first | (with_reducible exact Take.head) | apply Take.tail)); first | done | fail) (n := 32) (by simp [bvs_len, HX.out]) (by simp [bvs_len, z32_len]) (by kernel_rfl) (by simpa using bvs_oneCell _) (fun w hM => hK _ _ ?_); clear hM0 hK K) | fail))
  go_loopw [12] (fun i wr => ∃ k : Nat, k ≤ 32 ∧ i = .int .i64 k ∧ Hid (numOf (X.take k) = 0) ∧ Star F wr) (fun i _ => 32 - (intOf i).toNat)
  case atStart => exact ⟨0, by omega, rfl, rfl, hM.sel (by repeat (first | (with_reducible exact Sel.refl) | (with_reducible exact Take.head) | (with_reducible apply Take.tail) | (with_reducible apply Sel.cons) | (with_reducible apply Sel.drop)))⟩
  case round =>
    clear hM
    obtain ⟨k, hk, rfl, h0, hM⟩ := hrel
    by_cases hlt : k < 32
    · obtain ⟨c, hc⟩ : ∃ c, X[k]? = some c := ⟨_, List.getElem?_eq_getElem (by rw [HX.out]; exact hlt)⟩
      have HV := Lib.hid (bvs_at hc)
      have HC := Lib.hid hc
      clear hc
      by_cases hz : c.toNat = 0
      · have HN := Lib.hid (numOf_zero_snoc HC.out h0.out hz)
        have hzi : ((c.toNat : Int) != 0) = false := by simp; omega
        have hzi2 : ((c.toNat : Int) == 0) = true := by simp; omega
        go_wp2_with (first | (refine op_index rfl 23 (.tmp 11) (.tmp 12) rfl (bvs X) rfl k rfl 32 5 _ Try.underlying23 Try.underlying5 info_u8n _ HV.out hlt ?_))
        go_roundw
        case rel => exact ⟨k + 1, by omega, by go_num, HN.out, hM⟩
        case measure => simp [intOf]; omega
      · have hsh := shared_first X HX.out k c HC.out h0.out hz
        have hseq := hsh.unique HSU.out
        have hl := lgt_le c.toNat c.toNat_lt
        have hzi : ((c.toNat : Int) != 0) = true := by simp; omega
        have hzi2 : ((c.toNat : Int) == 0) = false := by simp; omega
        have HLZ : ∀ {L : List SProp} (w : World), Star L w → Calls Try.prog 42 #[.int .u8 c.toNat] w fun r w' => r = .returned (.int .i64 ((8 - lgt c.toNat : Nat) : Int)) ∧ Star L w' := fun w hM => lz8_star c w hM
        obtain ⟨z, hz8⟩ : ∃ z, z = 8 - lgt c.toNat := ⟨_, rfl⟩
        rw [← hz8] at HLZ hseq
        have hzb : z ≤ 8 := by omega
        have HSE := Lib.hid hseq
        clear hsh hz8 hseq
        go_wp2_with (first | (refine op_index rfl 23 (.tmp 11) (.tmp 12) rfl (bvs X) rfl k rfl 32 5 _ Try.underlying23 Try.underlying5 info_u8n _ HV.out hlt ?_) | (go_at_call 42; have hM0 := hM; clear hM; (first | (with_reducible refine (HLZ _ hM0).mono ?_) | fail); clear hM0; rintro _ w ⟨rfl, hM⟩))
        go_ret
        exact ⟨ret_int (by rw [← HSE.out]; omega), hM⟩
    · obtain rfl : k = 32 := by omega
      have hX0 : numOf X = 0 := by have := h0.out; rwa [List.take_of_length_le (by rw [HX.out]; omega)] at this
      have hs256 : s = 256 := by
        have := HSU.out
        rw [hX0] at this
        exact this.unique shared_none
      have HS2 := Lib.hid hs256
      clear hs256 hX0
      go_wp2
      go_ret
      exact ⟨ret_int (by rw [HS2.out]; rfl), hM⟩
end Go.Proofs.Ythjceppddmecdaa
