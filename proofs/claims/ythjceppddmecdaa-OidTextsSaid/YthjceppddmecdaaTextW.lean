/- The walks of oid.Text and of the reference's Bit, sign, Text. No condition but that a name has 32 bytes. -/
import Derived.Test.YthjceppddmecdaaText
import Derived.Test.YthjceppddmecdaaBuild
import Derived.Test.YthjceppddmecdaaHashU
import Derived.Laws.BitsLemmas
set_option linter.unusedSimpArgs false
set_option linter.unusedVariables false
namespace Go.Proofs.Ythjceppddmecdaa
open Go.RowKit
attribute [local go_sem] extract_mid extract_drop bget bsize wrap64_u8 i64_u8 u64_u8 bappend
theorem and_i64 (n : Int) (m : Nat) (hm : m ≤ 62) : bits .and .i64 n (2 ^ m - 1 : Nat) = n % ((2 ^ m : Nat) : Int) := by
  have h62 : 2 ^ m ≤ 2 ^ 62 := Nat.pow_le_pow_right (by decide) hm
  have h0 : 0 < 2 ^ m := Nat.pow_pos (by decide)
  have hc : (BitVec.ofInt 64 ((2 ^ m - 1 : Nat) : Int)).toNat = 2 ^ m - 1 := by
    rw [BitVec.ofInt_natCast, BitVec.toNat_ofNat]; exact Nat.mod_eq_of_lt (by omega)
  have key : (BitVec.ofInt 64 n &&& BitVec.ofInt 64 ((2 ^ m - 1 : Nat) : Int)).toNat = (n % ((2 ^ 64 : Nat) : Int)).toNat % 2 ^ m := by
    rw [BitVec.toNat_and, BitVec.toNat_ofInt, hc, Nat.and_two_pow_sub_one_eq_mod]
  show IntKind.i64.wrap ((BitVec.ofInt 64 n &&& BitVec.ofInt 64 ((2 ^ m - 1 : Nat) : Int)).toNat : Nat) = _
  rw [key, IntKind.wrap_i64]
  have hd : ((2 ^ m : Nat) : Int) ∣ ((2 ^ 64 : Nat) : Int) := by
    rw [Int.natCast_dvd_natCast]; exact Nat.pow_dvd_pow 2 (by omega)
  have e1 : (((n % ((2 ^ 64 : Nat) : Int)).toNat % 2 ^ m : Nat) : Int) = n % ((2 ^ m : Nat) : Int) := by
    rw [Int.natCast_emod, Int.toNat_of_nonneg (Int.emod_nonneg _ (by decide)), Int.emod_emod_of_dvd _ hd]
  rw [e1]
  have h1 := Int.emod_nonneg n (show ((2 ^ m : Nat) : Int) ≠ 0 by omega)
  have h2 := Int.emod_lt_of_pos n (show (0 : Int) < ((2 ^ m : Nat) : Int) by omega)
  omega
theorem and31 (n : Int) : bits .and .i64 n 31 = n % 32 := and_i64 n 5 (by decide)
theorem and0 (n : Int) : bits .and .i64 n 0 = 0 := by have := and_i64 n 0 (by decide); simpa using this
theorem and1 (n : Int) : bits .and .i64 n 1 = n % 2 := and_i64 n 1 (by decide)
theorem and3 (n : Int) : bits .and .i64 n 3 = n % 4 := and_i64 n 2 (by decide)
theorem and7 (n : Int) : bits .and .i64 n 7 = n % 8 := and_i64 n 3 (by decide)
theorem and15' (n : Int) : bits .and .i64 n 15 = n % 16 := and_i64 n 4 (by decide)
theorem or_low_i64 (m : Nat) (d : UInt8) (hm : m < 16) : bits BinOp.or IntKind.i64 ((m : Int) * 256) (d.toNat : Int) = ((m * 256 + d.toNat : Nat) : Int) := by
  have hd := d.toNat_lt
  have e1 : (m : Int) * 256 = ((m * 256 : Nat) : Int) := by omega
  have h1 : (BitVec.ofInt 64 ((m * 256 : Nat) : Int)).toNat = m * 256 := by
    rw [BitVec.ofInt_natCast, BitVec.toNat_ofNat]; exact Nat.mod_eq_of_lt (by omega)
  have h2 : (BitVec.ofInt 64 (d.toNat : Int)).toNat = d.toNat := by
    rw [BitVec.ofInt_natCast, BitVec.toNat_ofNat]; exact Nat.mod_eq_of_lt (by omega)
  rw [e1]
  show IntKind.i64.wrap ((BitVec.ofInt 64 ((m * 256 : Nat) : Int) ||| BitVec.ofInt 64 (d.toNat : Int)).toNat : Int) = _
  have e2 : m * 256 = m <<< 8 := by rw [Nat.shiftLeft_eq]
  rw [BitVec.toNat_or, h1, h2, e2, ← Nat.shiftLeft_add_eq_or_of_lt (by omega), ← e2, IntKind.wrap_i64]
  omega
attribute [local go_sem] and31 and0 and1 and3 and7 and15'
theorem info_sb : (Try.prog.info? 84).map (fun i => i.zero) = some (some (.agg #[.pointer none, .slice none 0 0])) := by kernel_rfl
set_option maxRecDepth 100000 in
set_option maxHeartbeats 4000000 in
theorem text_star {F : List SProp} (l : List UInt8) (hl : l.length = 32) (w : World) (hM : Star F w) :
    Calls Try.prog 37 #[.agg (bvs l).toArray] w fun r w' => r = .returned (.string ⟨(textOf l).toArray⟩) ∧ Star F w' := by
  have HL := Lib.hid hl
  go_enter Try.func37, Try.ntmps37
  go_wp2_with (first | (first | (have hM0 := hM; clear hM; refine BigFrame.wpList_want (by rfl) fun K hK => ws_box hM0 rfl rfl (cs := (bvs l).toArray) rfl (fun g1 w hM => hK _ _ ?_); clear hM0 hK K) | fail) | (first | (have hM0 := hM; clear hM; refine BigFrame.wpList_want (by rfl) fun K hK => ws_alloc hM0 (t := 84) rfl #[.pointer none, .slice none 0 0] info_sb (fun g3 w hM => hK _ _ ?_); clear hM0 hK K) | fail) | (first | (refine BigFrame.wpList_want (by rfl) fun K hK => ws_load hM rfl rfl (by (repeat (first | assumption | (with_reducible exact List.mem_cons_self) | apply List.mem_cons_of_mem)); first | done | fail) (n := 32) (by simp [bvs_len, HL.out]) (by decide +kernel) (hK _ _ ?_); clear hK K) | fail))
  replace hM : Star (ownE 5 1 none 0 0 (bvs []) :: _) w := hM.nilown 5 1
  go_loopw [4, 5, 9] (fun acc n i wr => ∃ (k m s a : Nat) (q A : Option Addr) (c : Nat), k ≤ 32 ∧ m + 5 * s = 8 * k ∧ m < 5 ∧ a < 2 ^ m ∧ Hid (a = numOf (l.take k) % 2 ^ m) ∧ (q = none ∨ q = some ⟨g3, 0, none⟩) ∧ i = .int .i64 k ∧ n = .int .i64 m ∧ acc = .int .i64 a ∧ Star (ownE 5 1 A s c (bvs ((textOf l).take s)) :: buildC g3 q A s c :: F) wr) (fun _ _ i _ => 32 - (intOf i).toNat)
  case atStart => exact ⟨0, 0, 0, 0, none, none, 0, by omega, by omega, by omega, by decide, rfl, .inl rfl, rfl, rfl, rfl, by rw [List.take_zero]; exact hM.sel (by repeat (first | (with_reducible exact Sel.refl) | (with_reducible exact Take.head) | (with_reducible apply Take.tail) | (with_reducible apply Sel.cons) | (with_reducible apply Sel.drop)))⟩
  case round =>
    clear hM
    obtain ⟨k, m, s, a, q, A, c, hk, hms, hm5, ham, ha, hq, rfl, rfl, rfl, hM⟩ := hrel
    by_cases hlt : k < 32
    · have ha16 : a < 16 := by
        have : 2 ^ m ≤ 2 ^ 4 := Nat.pow_le_pow_right (by decide) (by omega)
        omega
      obtain ⟨d, hd⟩ : ∃ d, l[k]? = some d := ⟨_, List.getElem?_eq_getElem (by omega)⟩
      have HV := Lib.hid (bvs_at hd)
      have HO := or_low_i64 a d ha16
      have HW : Hid (a * 256 + d.toNat = numOf (l.take (k + 1)) % 2 ^ (m + 8)) := by
        show _ = _
        rw [ha.out, take_snoc_at _ _ _ hd, numOf_snoc]
        exact mod_snoc _ m d.toNat d.toNat_lt
      have hd256 := d.toNat_lt
      obtain ⟨y, hy⟩ : ∃ y, y = a * 256 + d.toNat := ⟨_, rfl⟩
      have hyb : y < 4096 := by omega
      rw [← hy] at HW HO
      clear hd hy ham ha
      go_wp2_with (first | (refine op_index rfl 23 (.tmp 8) (.tmp 9) rfl (bvs l) rfl k rfl 32 5 _ Try.underlying23 Try.underlying5 info_u8n _ HV.out hlt ?_))
      have HLL := HL.out
      go_loopw [5] (fun n wx => ∃ (m2 s2 : Nat) (q A : Option Addr) (c : Nat), m2 + 5 * s2 = 8 * (k + 1) ∧ m2 ≤ m + 8 ∧ (q = none ∨ q = some ⟨g3, 0, none⟩) ∧ n = .int .i64 m2 ∧ Star (ownE 5 1 A s2 c (bvs ((textOf l).take s2)) :: buildC g3 q A s2 c :: F) wx) (fun n _ => (intOf n).toNat)
      case atStart => exact ⟨m + 8, s, q, A, c, by omega, by omega, hq, by go_num, hM⟩
      case round =>
        clear hM hq
        obtain ⟨m2, s2, q, A, c, hm2, hm28, hq, rfl, hM⟩ := hrel
        by_cases h5 : 5 ≤ m2
        · obtain ⟨m3, rfl⟩ : ∃ m3, m2 = m3 + 5 := ⟨m2 - 5, by omega⟩
          obtain ⟨z, hz⟩ : ∃ z, z = y / 2 ^ m3 % 32 := ⟨_, rfl⟩
          have hzd : z = dig5 (numOf l) s2 := by
            rw [hz, HW.out, mod_div _ _ _ (by omega)]
            exact (dig5_part l hl (k + 1) m3 s2 (by omega) (by omega)).symm
          have HSH : Hid ((y : Int) / 2 ^ m3 % 32 = (z : Int)) := by show _ = _; rw [hz]; simp
          have hz32 : z < 32 := by rw [hzd]; exact dig5_lt _ _
          have HG := alpha_get z hz32
          have HD := textOf_snoc l s2 (by omega)
          rw [← hzd] at HD
          generalize alphaAt z = dd at HG HD
          have HDD := Lib.hid HD
          clear HD hz hzd
          go_wp2_with (first | (refine BigFrame.wpList_want (by rfl) fun K hK => ws_of_ex (ex_index_str (l := alpha) (n := z) rfl Try.underlying9 rfl (by rw [← HSH.out]; rfl) HG) (hK _ _ ?_); clear hK K) | (go_at_call 53; have hM0 := hM; clear hM; (first | (with_reducible refine (wbyte_star (n := s2) dd (by omega) hq _ hM0 (.tail .head) .head).mono ?_) | fail); clear hM0; rintro _ w ⟨A1, c1, rfl, hM⟩))
          go_roundw
          case rel => exact ⟨m3, s2 + 1, some ⟨g3, 0, none⟩, A1, c1, by omega, by omega, .inr rfl, by go_num, by rw [HDD.out]; exact hM⟩
          case measure => simp [intOf]; omega
        · have HY : Hid (y % 2 ^ m2 = numOf (l.take (k + 1)) % 2 ^ m2) := by show _ = _; rw [HW.out]; exact mod_mod_le _ _ _ hm28
          rcases (by omega : m2 = 0 ∨ m2 = 1 ∨ m2 = 2 ∨ m2 = 3 ∨ m2 = 4) with rfl | rfl | rfl | rfl | rfl
          all_goals
            go_wp2
            go_roundw
            case rel => exact ⟨k + 1, _, s2, _, q, A, c, by omega, hm2, by omega, Nat.mod_lt y (Nat.pow_pos (by decide)), HY.out, hq, by go_num, rfl, (by first | rfl | (congr 1; omega)), hM⟩
            case measure => simp [intOf]; omega
    · obtain rfl : k = 32 := by omega
      obtain rfl : m = 1 := by omega
      obtain rfl : s = 51 := by omega
      have hV : a = numOf l % 2 := by have := ha.out; rw [List.take_of_length_le (by omega)] at this; exact this
      have ha2 : a < 2 := by simpa using ham
      obtain ⟨z, hz⟩ : ∃ z, z = a * 16 := ⟨_, rfl⟩
      have HSH : Hid ((a : Int) * 16 % 32 = (z : Int)) := by show _ = _; omega
      have hz32 : z < 32 := by omega
      have HG := alpha_get z hz32
      have HD := textOf_snoc l 51 (by omega)
      rw [dig5_last, ← hV, ← hz] at HD
      generalize alphaAt z = dd at HG HD
      have HT : Hid (textOf l = (textOf l).take 51 ++ [dd]) := by show _ = _; rw [← HD, List.take_of_length_le (by rw [textOf_len]; omega)]
      have HNE : (textOf l).take 51 ++ [dd] ≠ [] := by simp
      clear HD hz hV
      rw [HT.out]
      go_wp2_with (first | (refine BigFrame.wpList_want (by rfl) fun K hK => ws_of_ex (ex_index_str (l := alpha) (n := z) rfl Try.underlying9 rfl (by rw [← HSH.out]; rfl) HG) (hK _ _ ?_); clear hK K) | (go_at_call 53; have hM0 := hM; clear hM; (first | (with_reducible refine (wbyte_star (n := 51) dd (by omega) hq _ hM0 (.tail .head) .head).mono ?_) | fail); clear hM0; rintro _ w ⟨A1, c1, rfl, hM⟩) | (go_at_call 54; have hM0 := hM; clear hM; (first | (with_reducible refine (bstring_star HNE _ hM0 (.tail .head) .head).mono ?_) | fail); clear hM0; rintro _ w ⟨rfl, hM⟩))
      trace_state
      go_ret
      exact ⟨ret_str HT.out.symm, hM.sel (by repeat (first | (with_reducible exact Sel.refl) | (with_reducible exact Take.head) | (with_reducible apply Take.tail) | (with_reducible apply Sel.cons) | (with_reducible apply Sel.drop)))⟩
end Go.Proofs.Ythjceppddmecdaa
