/- The walk of oid.Parse. No condition but the text's size. -/
import Derived.Test.YthjceppddmecdaaParseP
import Derived.Test.YthjceppddmecdaaTextW
import Derived.Test.YthjceppddmecdaaOidTakes
set_option linter.unusedSimpArgs false
set_option linter.unusedVariables false
namespace Go.Proofs.Ythjceppddmecdaa
open Go.RowKit
attribute [local go_sem] extract_mid extract_drop bget bsize wrap64_u8 i64_u8 u64_u8 bappend
attribute [local go_sem] and0 and1 and3 and7 and15'
theorem or_low5 (m v : Nat) (hm : m < 128) (hv : v < 32) : bits BinOp.or IntKind.i64 ((m : Int) * 32) (v : Int) = ((m * 32 + v : Nat) : Int) := by
  have e1 : (m : Int) * 32 = ((m * 32 : Nat) : Int) := by omega
  have h1 : (BitVec.ofInt 64 ((m * 32 : Nat) : Int)).toNat = m * 32 := by
    rw [BitVec.ofInt_natCast, BitVec.toNat_ofNat]; exact Nat.mod_eq_of_lt (by omega)
  have h2 : (BitVec.ofInt 64 (v : Int)).toNat = v := by
    rw [BitVec.ofInt_natCast, BitVec.toNat_ofNat]; exact Nat.mod_eq_of_lt (by omega)
  rw [e1]
  show IntKind.i64.wrap ((BitVec.ofInt 64 ((m * 32 : Nat) : Int) ||| BitVec.ofInt 64 (v : Int)).toNat : Int) = _
  have e2 : m * 32 = m <<< 5 := by rw [Nat.shiftLeft_eq]
  rw [BitVec.toNat_or, h1, h2, e2, ← Nat.shiftLeft_add_eq_or_of_lt (by omega), ← e2, IntKind.wrap_i64]
  omega
theorem ixs_any (s : ByteArray) (c : UInt8) (w : World) : Calls Try.prog 69 #[.string s, .int .u8 (c.toNat : Int)] w fun r w' => r = .returned (.int .i64 (firstIdx s c)) ∧ w = w' := by
  have hc : ((c.toNat : Int)).toNat.toUInt8 = c := by simp
  have hrun : ∀ W, (callFunc 74 #[.string s, .int .u8 (c.toNat : Int)]).run Try.prog W = .ok (.value (.int .i64 (firstIdx s c))) W := fun W => by
    rw [run_callFunc_extern (e := Extern.BytealgIndexByte.indexByte) Try.func74 (by kernel_rfl) (by kernel_rfl) (by kernel_rfl) (by kernel_rfl), run_indexByte_string, hc]
    rfl
  have HR := Lib.hid hrun
  clear hrun
  generalize firstIdx s c = v at HR ⊢
  go_enter Try.func69, Try.ntmps69
  go_wp2_with (first | (refine BigFrame.wpList_want (by rfl) fun K hK => ws_of_ex (v := .int .i64 v) (by simp only [execOp, resolve, invoke, Sem.run_bind, Sem.run_pure, Result.andThen_ok]; go_simp; exact HR.out _) (hK _ _ ?_); clear hK K))
  go_ret
  exact ⟨rfl, rfl⟩
theorem ix_any (s : ByteArray) (c : UInt8) (w : World) : Calls Try.prog 55 #[.string s, .int .u8 (c.toNat : Int)] w fun r w' => r = .returned (.int .i64 (firstIdx s c)) ∧ w = w' := by
  have HR := Lib.hid (ixs_any s c)
  generalize firstIdx s c = v at HR ⊢
  obtain ⟨L, hM⟩ : ∃ L, Star L w := ⟨[], ⟨by simp, by simp⟩⟩
  go_enter Try.func55, Try.ntmps55
  go_wp2_with (first | (go_at_call 69; refine (HR.out _).mono ?_; rintro _ _ ⟨rfl, rfl⟩))
  go_ret
  exact ⟨rfl, rfl⟩
def zeros (n : Nat) : List UInt8 := List.replicate n 0
theorem zeros_set (X : List UInt8) (k : Nat) (b : UInt8) (hX : X.length = k) (hk : k < 32) : (bvs (X ++ zeros (32 - k))).toArray.setIfInBounds k (.int .u8 (b.toNat : Int)) = (bvs (X ++ [b] ++ zeros (32 - (k + 1)))).toArray := by
  subst hX
  rw [List.setIfInBounds_toArray]
  congr 1
  have e : zeros (32 - X.length) = 0 :: zeros (32 - (X.length + 1)) := by
    unfold zeros
    rw [show 32 - X.length = (32 - (X.length + 1)) + 1 by omega, List.replicate_succ]
  rw [e]
  simp [bvs, List.set_append, bv]
set_option maxRecDepth 100000 in
set_option maxHeartbeats 4000000 in
theorem parse_star {F : List SProp} (s : List UInt8) (w : World) (hM : Star F w) :
    Calls Try.prog 38 #[.string ⟨s.toArray⟩] w fun r w' => ∃ (z : List UInt8) (e : Nat), z.length = 32 ∧ ((e = 0 ∧ textOf z = s) ∨ (e = 2 ∧ z = z32 ∧ ∀ x, x.length = 32 → textOf x ≠ s)) ∧ r = .returned (.tuple #[.agg (bvs z).toArray, .int .i64 (e : Int)]) ∧ Star F w' := by
  by_cases hl : s.length = 52
  · have HL := Lib.hid hl
    have hz0 : z32 = [] ++ zeros 32 := by unfold z32 zeros; rfl
    have h52 : (s.length : Int) = 52 := by omega
    have tok1 : True := trivial
    go_enter Try.func38, Try.ntmps38
    go_wp2_with (first | (have _t := tok1; (first | (have hM0 := hM; clear hM; refine BigFrame.wpList_want (by rfl) fun K hK => ws_alloc hM0 (t := 23) rfl (bvs z32).toArray info_id (fun g2 w hM => hK _ _ ?_); clear hM0 hK K) | fail); clear tok1) | (first | (have hM0 := hM; clear hM; refine BigFrame.wpList_want (by rfl) fun K hK => ws_alloc hM0 (t := 23) rfl (bvs z32).toArray info_id (fun g4 w hM => hK _ _ ?_); clear hM0 hK K) | fail) | (first | (have hM0 := hM; clear hM; refine BigFrame.wpList_want (by rfl) fun K hK => ws_bytes hM0 rfl 5 Try.underlying9 Try.underlying63 Try.underlying5 rfl (fun g c w hM hcap => hK _ _ ?_); clear hM0 hK K) | fail))
    rw [hz0] at hM
    have hM2 : Star (cellsE g4 23 (bvs ([] ++ zeros 32)).toArray :: cellsE g2 23 (bvs z32).toArray :: rowE 1 (some ⟨g, 0, none⟩) s.length (bvs s) :: F) w := by rw [hz0]; exact hM.sel (by repeat (first | (with_reducible exact Sel.refl) | (with_reducible exact Take.head) | (with_reducible apply Take.tail) | (with_reducible apply Sel.cons) | (with_reducible apply Sel.drop)))
    replace hM := hM2
    clear hM2 hz0
    go_loopw [5, 6, 7, 18] (fun at_ acc n i wr => ∃ (k p m a : Nat) (X : List UInt8) (vs : List Nat), k ≤ 52 ∧ 8 * p + m = 5 * k ∧ m < 8 ∧ a < 2 ^ m ∧ Hid (vs.length = k ∧ (∀ v ∈ vs, v < 32) ∧ s.take k = vs.map alphaAt ∧ a = numD vs % 2 ^ m ∧ numOf X = numD vs / 2 ^ m) ∧ X.length = p ∧ i = .int .i64 k ∧ n = .int .i64 m ∧ acc = .int .i64 a ∧ at_ = .int .i64 p ∧
      Star (cellsE g4 23 (bvs (X ++ zeros (32 - p))).toArray :: cellsE g2 23 (bvs z32).toArray :: rowE 1 (some ⟨g, 0, none⟩) s.length (bvs s) :: F) wr) (fun _ _ _ i _ => 52 - (intOf i).toNat)
    case atStart => exact ⟨0, 0, 0, 0, [], [], by omega, by omega, by omega, by decide, ⟨rfl, by simp, by simp, by simp [numD], by simp [numOf, numD]⟩, rfl, rfl, rfl, rfl, rfl, hM⟩
    case round =>
      clear hM
      obtain ⟨k, p, m, a, X, vs, hk, hpm, hm8, ham, hI, hX, rfl, rfl, rfl, rfl, hM⟩ := hrel
      have ha128 : a < 128 := by
        have : 2 ^ m ≤ 2 ^ 7 := Nat.pow_le_pow_right (by decide) (by omega)
        omega
      by_cases hlt : k < 52
      · obtain ⟨d, hd⟩ : ∃ d, s[k]? = some d := ⟨_, List.getElem?_eq_getElem (by omega)⟩
        have hv := bvs_at hd
        have hs52 : (k : Int) < (s.length : Int) := by omega
        rcases sign_cases d with ⟨v, hv32, hix, hav⟩ | ⟨hix, hno⟩
        · obtain ⟨hvl, hv32s, htk, haN, hXN⟩ := hI.out
          have HIX : Hid (∀ w, Calls Try.prog 55 #[.string ⟨#[48, 49, 50, 51, 52, 53, 54, 55, 56, 57, 97, 98, 99, 100, 102, 103, 104, 105, 106, 107, 108, 109, 110, 112, 113, 114, 115, 118, 119, 120, 121, 122]⟩, .int .u8 (d.toNat : Int)] w fun r w' => r = .returned (.int .i64 (v : Int)) ∧ w = w') := fun w => by have := ix_any ⟨alpha.toArray⟩ d w; rw [show firstIdx ⟨alpha.toArray⟩ d = v from hix] at this; exact this
          have HO := or_low5 a v ha128 hv32
          have hWm := step_mod (numD vs) v m hv32
          rw [← haN] at hWm
          have htk2 : s.take (k + 1) = (vs ++ [v]).map alphaAt := by rw [take_snoc_at _ _ _ hd, htk, List.map_append, List.map_singleton, hav]
          have hlt2 : ∀ u ∈ vs ++ [v], u < 32 := by intro u hu; rcases List.mem_append.1 hu with hu | hu; exact hv32s u hu; rw [List.mem_singleton] at hu; omega
          have HTK := Lib.hid (And.intro hlt2 htk2)
          have HVL := Lib.hid hvl
          have HWM := Lib.hid hWm
          have HXN := Lib.hid hXN
          obtain ⟨y, hy⟩ : ∃ y, y = a * 32 + v := ⟨_, rfl⟩
          have hyb : y < 4096 := by omega
          rw [← hy] at HO HWM
          clear hvl hv32s htk haN hXN hWm htk2 hlt2 hI hix hd hav hy
          have hm0 : m = 0 ∨ m = 1 ∨ m = 2 ∨ m = 3 ∨ m = 4 ∨ m = 5 ∨ m = 6 ∨ m = 7 := by omega
          rcases hm0 with rfl | rfl | rfl | rfl | rfl | rfl | rfl | rfl
          case inl =>
            go_wp2_with (first | (first | (refine BigFrame.wpList_want (by rfl) fun K hK => ws_rowload0 rfl rfl (by first | (apply Star.row hM; (repeat (first | assumption | (with_reducible exact List.mem_cons_self) | apply List.mem_cons_of_mem)); done) | (apply Star.own hM; (repeat (first | assumption | (with_reducible exact List.mem_cons_self) | apply List.mem_cons_of_mem)); done) | (apply Star.arr hM; (focus ((repeat (first | assumption | (with_reducible exact List.mem_cons_self) | apply List.mem_cons_of_mem)); done)); assumption)) (by assumption) (by kernel_rfl) (hK _ _ ?_); clear hK K) | fail) | (go_at_call 55; have hM0 := hM; clear hM; (first | (with_reducible refine (starq (HIX.out _) hM0).mono ?_) | fail); clear hM0; rintro _ w ⟨rfl, hM⟩))
            go_roundw
            case rel => exact ⟨k + 1, p, 5, y, X, vs ++ [v], by omega, by omega, by omega, (by rw [HWM.out]; exact Nat.mod_lt _ (by decide)), ⟨by simp [HVL.out], HTK.out.1, HTK.out.2, by rw [numD_snoc]; exact HWM.out, by rw [numD_snoc, HXN.out]; exact (parse_bits (m := 0) hv32).symm⟩, hX, by go_num, rfl, rfl, rfl, hM⟩
            case measure => simp [intOf]; omega
          case inr.inl =>
            go_wp2_with (first | (first | (refine BigFrame.wpList_want (by rfl) fun K hK => ws_rowload0 rfl rfl (by first | (apply Star.row hM; (repeat (first | assumption | (with_reducible exact List.mem_cons_self) | apply List.mem_cons_of_mem)); done) | (apply Star.own hM; (repeat (first | assumption | (with_reducible exact List.mem_cons_self) | apply List.mem_cons_of_mem)); done) | (apply Star.arr hM; (focus ((repeat (first | assumption | (with_reducible exact List.mem_cons_self) | apply List.mem_cons_of_mem)); done)); assumption)) (by assumption) (by kernel_rfl) (hK _ _ ?_); clear hK K) | fail) | (go_at_call 55; have hM0 := hM; clear hM; (first | (with_reducible refine (starq (HIX.out _) hM0).mono ?_) | fail); clear hM0; rintro _ w ⟨rfl, hM⟩))
            go_roundw
            case rel => exact ⟨k + 1, p, 6, y, X, vs ++ [v], by omega, by omega, by omega, (by rw [HWM.out]; exact Nat.mod_lt _ (by decide)), ⟨by simp [HVL.out], HTK.out.1, HTK.out.2, by rw [numD_snoc]; exact HWM.out, by rw [numD_snoc, HXN.out]; exact (parse_bits (m := 1) hv32).symm⟩, hX, by go_num, rfl, rfl, rfl, hM⟩
            case measure => simp [intOf]; omega
          case inr.inr.inl =>
            go_wp2_with (first | (first | (refine BigFrame.wpList_want (by rfl) fun K hK => ws_rowload0 rfl rfl (by first | (apply Star.row hM; (repeat (first | assumption | (with_reducible exact List.mem_cons_self) | apply List.mem_cons_of_mem)); done) | (apply Star.own hM; (repeat (first | assumption | (with_reducible exact List.mem_cons_self) | apply List.mem_cons_of_mem)); done) | (apply Star.arr hM; (focus ((repeat (first | assumption | (with_reducible exact List.mem_cons_self) | apply List.mem_cons_of_mem)); done)); assumption)) (by assumption) (by kernel_rfl) (hK _ _ ?_); clear hK K) | fail) | (go_at_call 55; have hM0 := hM; clear hM; (first | (with_reducible refine (starq (HIX.out _) hM0).mono ?_) | fail); clear hM0; rintro _ w ⟨rfl, hM⟩))
            go_roundw
            case rel => exact ⟨k + 1, p, 7, y, X, vs ++ [v], by omega, by omega, by omega, (by rw [HWM.out]; exact Nat.mod_lt _ (by decide)), ⟨by simp [HVL.out], HTK.out.1, HTK.out.2, by rw [numD_snoc]; exact HWM.out, by rw [numD_snoc, HXN.out]; exact (parse_bits (m := 2) hv32).symm⟩, hX, by go_num, rfl, rfl, rfl, hM⟩
            case measure => simp [intOf]; omega
          case inr.inr.inr.inl =>
            have HPB := Lib.hid (parse_byte (m := 0) hv32 HXN.out HWM.out)
            have HBV : Hid ((y : Int) % 256 = ((UInt8.ofNat (y / 2 ^ 0)).toNat : Int)) := by show _ = _; rw [← HPB.out.1]; simp
            have HZ : Hid ((bvs (X ++ zeros (32 - p))).toArray.setIfInBounds p (.int .u8 ((y : Int) % 256)) = (bvs (X ++ [UInt8.ofNat (y / 2 ^ 0)] ++ zeros (32 - (p + 1)))).toArray) := by show _ = _; rw [HBV.out]; exact zeros_set X p _ hX (by omega)
            have hsz : p < (bvs (X ++ zeros (32 - p))).toArray.size := by simp [bvs_len, zeros, hX]; omega
            have hp32 : (p : Int) < 32 := by omega
            go_wp2_with (first | (first | (refine BigFrame.wpList_want (by rfl) fun K hK => ws_rowload0 rfl rfl (by first | (apply Star.row hM; (repeat (first | assumption | (with_reducible exact List.mem_cons_self) | apply List.mem_cons_of_mem)); done) | (apply Star.own hM; (repeat (first | assumption | (with_reducible exact List.mem_cons_self) | apply List.mem_cons_of_mem)); done) | (apply Star.arr hM; (focus ((repeat (first | assumption | (with_reducible exact List.mem_cons_self) | apply List.mem_cons_of_mem)); done)); assumption)) (by assumption) (by kernel_rfl) (hK _ _ ?_); clear hK K) | fail) | (go_at_call 55; have hM0 := hM; clear hM; (first | (with_reducible refine (starq (HIX.out _) hM0).mono ?_) | fail); clear hM0; rintro _ w ⟨rfl, hM⟩) | (first | (have hM0 := hM; clear hM; refine BigFrame.wpList_want (by rfl) fun K hK => ws_store1 hM0 rfl rfl (by go_simp; rfl) (by first | rfl | assumption) (by (repeat (first | (with_reducible exact Take.head) | apply Take.tail)); first | done | fail) (by exact hsz) (by kernel_rfl) (by exact HZ.out) (fun w hM => hK _ _ ?_); clear hM0 hK K) | fail))
            go_roundw
            case rel => exact ⟨k + 1, p + 1, 0, y % 2 ^ 0, X ++ [UInt8.ofNat (y / 2 ^ 0)], vs ++ [v], by omega, by omega, by omega, Nat.mod_lt _ (by decide), ⟨by simp [HVL.out], HTK.out.1, HTK.out.2, by rw [numD_snoc]; exact HPB.out.2.2, by rw [numD_snoc]; exact HPB.out.2.1⟩, by simp [hX], by go_num, rfl, (by first | rfl | (congr 1; omega)), by go_num, hM.sel (by repeat (first | (with_reducible exact Sel.refl) | (with_reducible exact Take.head) | (with_reducible apply Take.tail) | (with_reducible apply Sel.cons) | (with_reducible apply Sel.drop)))⟩
            case measure => simp [intOf]; omega
          case inr.inr.inr.inr.inl =>
            have HPB := Lib.hid (parse_byte (m := 1) hv32 HXN.out HWM.out)
            have HBV : Hid ((y : Int) / 2 % 256 = ((UInt8.ofNat (y / 2 ^ 1)).toNat : Int)) := by show _ = _; rw [← HPB.out.1]; simp
            have HZ : Hid ((bvs (X ++ zeros (32 - p))).toArray.setIfInBounds p (.int .u8 ((y : Int) / 2 % 256)) = (bvs (X ++ [UInt8.ofNat (y / 2 ^ 1)] ++ zeros (32 - (p + 1)))).toArray) := by show _ = _; rw [HBV.out]; exact zeros_set X p _ hX (by omega)
            have hsz : p < (bvs (X ++ zeros (32 - p))).toArray.size := by simp [bvs_len, zeros, hX]; omega
            have hp32 : (p : Int) < 32 := by omega
            go_wp2_with (first | (first | (refine BigFrame.wpList_want (by rfl) fun K hK => ws_rowload0 rfl rfl (by first | (apply Star.row hM; (repeat (first | assumption | (with_reducible exact List.mem_cons_self) | apply List.mem_cons_of_mem)); done) | (apply Star.own hM; (repeat (first | assumption | (with_reducible exact List.mem_cons_self) | apply List.mem_cons_of_mem)); done) | (apply Star.arr hM; (focus ((repeat (first | assumption | (with_reducible exact List.mem_cons_self) | apply List.mem_cons_of_mem)); done)); assumption)) (by assumption) (by kernel_rfl) (hK _ _ ?_); clear hK K) | fail) | (go_at_call 55; have hM0 := hM; clear hM; (first | (with_reducible refine (starq (HIX.out _) hM0).mono ?_) | fail); clear hM0; rintro _ w ⟨rfl, hM⟩) | (first | (have hM0 := hM; clear hM; refine BigFrame.wpList_want (by rfl) fun K hK => ws_store1 hM0 rfl rfl (by go_simp; rfl) (by first | rfl | assumption) (by (repeat (first | (with_reducible exact Take.head) | apply Take.tail)); first | done | fail) (by exact hsz) (by kernel_rfl) (by exact HZ.out) (fun w hM => hK _ _ ?_); clear hM0 hK K) | fail))
            go_roundw
            case rel => exact ⟨k + 1, p + 1, 1, y % 2 ^ 1, X ++ [UInt8.ofNat (y / 2 ^ 1)], vs ++ [v], by omega, by omega, by omega, Nat.mod_lt _ (by decide), ⟨by simp [HVL.out], HTK.out.1, HTK.out.2, by rw [numD_snoc]; exact HPB.out.2.2, by rw [numD_snoc]; exact HPB.out.2.1⟩, by simp [hX], by go_num, rfl, (by first | rfl | (congr 1; omega)), by go_num, hM.sel (by repeat (first | (with_reducible exact Sel.refl) | (with_reducible exact Take.head) | (with_reducible apply Take.tail) | (with_reducible apply Sel.cons) | (with_reducible apply Sel.drop)))⟩
            case measure => simp [intOf]; omega
          case inr.inr.inr.inr.inr.inl =>
            have HPB := Lib.hid (parse_byte (m := 2) hv32 HXN.out HWM.out)
            have HBV : Hid ((y : Int) / 4 % 256 = ((UInt8.ofNat (y / 2 ^ 2)).toNat : Int)) := by show _ = _; rw [← HPB.out.1]; simp
            have HZ : Hid ((bvs (X ++ zeros (32 - p))).toArray.setIfInBounds p (.int .u8 ((y : Int) / 4 % 256)) = (bvs (X ++ [UInt8.ofNat (y / 2 ^ 2)] ++ zeros (32 - (p + 1)))).toArray) := by show _ = _; rw [HBV.out]; exact zeros_set X p _ hX (by omega)
            have hsz : p < (bvs (X ++ zeros (32 - p))).toArray.size := by simp [bvs_len, zeros, hX]; omega
            have hp32 : (p : Int) < 32 := by omega
            go_wp2_with (first | (first | (refine BigFrame.wpList_want (by rfl) fun K hK => ws_rowload0 rfl rfl (by first | (apply Star.row hM; (repeat (first | assumption | (with_reducible exact List.mem_cons_self) | apply List.mem_cons_of_mem)); done) | (apply Star.own hM; (repeat (first | assumption | (with_reducible exact List.mem_cons_self) | apply List.mem_cons_of_mem)); done) | (apply Star.arr hM; (focus ((repeat (first | assumption | (with_reducible exact List.mem_cons_self) | apply List.mem_cons_of_mem)); done)); assumption)) (by assumption) (by kernel_rfl) (hK _ _ ?_); clear hK K) | fail) | (go_at_call 55; have hM0 := hM; clear hM; (first | (with_reducible refine (starq (HIX.out _) hM0).mono ?_) | fail); clear hM0; rintro _ w ⟨rfl, hM⟩) | (first | (have hM0 := hM; clear hM; refine BigFrame.wpList_want (by rfl) fun K hK => ws_store1 hM0 rfl rfl (by go_simp; rfl) (by first | rfl | assumption) (by (repeat (first | (with_reducible exact Take.head) | apply Take.tail)); first | done | fail) (by exact hsz) (by kernel_rfl) (by exact HZ.out) (fun w hM => hK _ _ ?_); clear hM0 hK K) | fail))
            go_roundw
            case rel => exact ⟨k + 1, p + 1, 2, y % 2 ^ 2, X ++ [UInt8.ofNat (y / 2 ^ 2)], vs ++ [v], by omega, by omega, by omega, Nat.mod_lt _ (by decide), ⟨by simp [HVL.out], HTK.out.1, HTK.out.2, by rw [numD_snoc]; exact HPB.out.2.2, by rw [numD_snoc]; exact HPB.out.2.1⟩, by simp [hX], by go_num, rfl, (by first | rfl | (congr 1; omega)), by go_num, hM.sel (by repeat (first | (with_reducible exact Sel.refl) | (with_reducible exact Take.head) | (with_reducible apply Take.tail) | (with_reducible apply Sel.cons) | (with_reducible apply Sel.drop)))⟩
            case measure => simp [intOf]; omega
          case inr.inr.inr.inr.inr.inr.inl =>
            have HPB := Lib.hid (parse_byte (m := 3) hv32 HXN.out HWM.out)
            have HBV : Hid ((y : Int) / 8 % 256 = ((UInt8.ofNat (y / 2 ^ 3)).toNat : Int)) := by show _ = _; rw [← HPB.out.1]; simp
            have HZ : Hid ((bvs (X ++ zeros (32 - p))).toArray.setIfInBounds p (.int .u8 ((y : Int) / 8 % 256)) = (bvs (X ++ [UInt8.ofNat (y / 2 ^ 3)] ++ zeros (32 - (p + 1)))).toArray) := by show _ = _; rw [HBV.out]; exact zeros_set X p _ hX (by omega)
            have hsz : p < (bvs (X ++ zeros (32 - p))).toArray.size := by simp [bvs_len, zeros, hX]; omega
            have hp32 : (p : Int) < 32 := by omega
            go_wp2_with (first | (first | (refine BigFrame.wpList_want (by rfl) fun K hK => ws_rowload0 rfl rfl (by first | (apply Star.row hM; (repeat (first | assumption | (with_reducible exact List.mem_cons_self) | apply List.mem_cons_of_mem)); done) | (apply Star.own hM; (repeat (first | assumption | (with_reducible exact List.mem_cons_self) | apply List.mem_cons_of_mem)); done) | (apply Star.arr hM; (focus ((repeat (first | assumption | (with_reducible exact List.mem_cons_self) | apply List.mem_cons_of_mem)); done)); assumption)) (by assumption) (by kernel_rfl) (hK _ _ ?_); clear hK K) | fail) | (go_at_call 55; have hM0 := hM; clear hM; (first | (with_reducible refine (starq (HIX.out _) hM0).mono ?_) | fail); clear hM0; rintro _ w ⟨rfl, hM⟩) | (first | (have hM0 := hM; clear hM; refine BigFrame.wpList_want (by rfl) fun K hK => ws_store1 hM0 rfl rfl (by go_simp; rfl) (by first | rfl | assumption) (by (repeat (first | (with_reducible exact Take.head) | apply Take.tail)); first | done | fail) (by exact hsz) (by kernel_rfl) (by exact HZ.out) (fun w hM => hK _ _ ?_); clear hM0 hK K) | fail))
            go_roundw
            case rel => exact ⟨k + 1, p + 1, 3, y % 2 ^ 3, X ++ [UInt8.ofNat (y / 2 ^ 3)], vs ++ [v], by omega, by omega, by omega, Nat.mod_lt _ (by decide), ⟨by simp [HVL.out], HTK.out.1, HTK.out.2, by rw [numD_snoc]; exact HPB.out.2.2, by rw [numD_snoc]; exact HPB.out.2.1⟩, by simp [hX], by go_num, rfl, (by first | rfl | (congr 1; omega)), by go_num, hM.sel (by repeat (first | (with_reducible exact Sel.refl) | (with_reducible exact Take.head) | (with_reducible apply Take.tail) | (with_reducible apply Sel.cons) | (with_reducible apply Sel.drop)))⟩
            case measure => simp [intOf]; omega
          case inr.inr.inr.inr.inr.inr.inr =>
            have HPB := Lib.hid (parse_byte (m := 4) hv32 HXN.out HWM.out)
            have HBV : Hid ((y : Int) / 16 = ((UInt8.ofNat (y / 2 ^ 4)).toNat : Int)) := by show _ = _; rw [← HPB.out.1]; simp; omega
            have HZ : Hid ((bvs (X ++ zeros (32 - p))).toArray.setIfInBounds p (.int .u8 ((y : Int) / 16)) = (bvs (X ++ [UInt8.ofNat (y / 2 ^ 4)] ++ zeros (32 - (p + 1)))).toArray) := by show _ = _; rw [HBV.out]; exact zeros_set X p _ hX (by omega)
            have hsz : p < (bvs (X ++ zeros (32 - p))).toArray.size := by simp [bvs_len, zeros, hX]; omega
            have hp32 : (p : Int) < 32 := by omega
            go_wp2_with (first | (first | (refine BigFrame.wpList_want (by rfl) fun K hK => ws_rowload0 rfl rfl (by first | (apply Star.row hM; (repeat (first | assumption | (with_reducible exact List.mem_cons_self) | apply List.mem_cons_of_mem)); done) | (apply Star.own hM; (repeat (first | assumption | (with_reducible exact List.mem_cons_self) | apply List.mem_cons_of_mem)); done) | (apply Star.arr hM; (focus ((repeat (first | assumption | (with_reducible exact List.mem_cons_self) | apply List.mem_cons_of_mem)); done)); assumption)) (by assumption) (by kernel_rfl) (hK _ _ ?_); clear hK K) | fail) | (go_at_call 55; have hM0 := hM; clear hM; (first | (with_reducible refine (starq (HIX.out _) hM0).mono ?_) | fail); clear hM0; rintro _ w ⟨rfl, hM⟩) | (first | (have hM0 := hM; clear hM; refine BigFrame.wpList_want (by rfl) fun K hK => ws_store1 hM0 rfl rfl (by go_simp; rfl) (by first | rfl | assumption) (by (repeat (first | (with_reducible exact Take.head) | apply Take.tail)); first | done | fail) (by exact hsz) (by kernel_rfl) (by exact HZ.out) (fun w hM => hK _ _ ?_); clear hM0 hK K) | fail))
            go_roundw
            case rel => exact ⟨k + 1, p + 1, 4, y % 2 ^ 4, X ++ [UInt8.ofNat (y / 2 ^ 4)], vs ++ [v], by omega, by omega, by omega, Nat.mod_lt _ (by decide), ⟨by simp [HVL.out], HTK.out.1, HTK.out.2, by rw [numD_snoc]; exact HPB.out.2.2, by rw [numD_snoc]; exact HPB.out.2.1⟩, by simp [hX], by go_num, rfl, (by first | rfl | (congr 1; omega)), by go_num, hM.sel (by repeat (first | (with_reducible exact Sel.refl) | (with_reducible exact Take.head) | (with_reducible apply Take.tail) | (with_reducible apply Sel.cons) | (with_reducible apply Sel.drop)))⟩
            case measure => simp [intOf]; omega
        · have HNO : Hid (∀ x, x.length = 32 → textOf x ≠ s) := fun x hx he => by
            have h1 := textOf_at x k hlt
            rw [he, hd] at h1
            injection h1 with h1
            exact hno _ (dig5_lt _ _) h1.symm
          have HIX : Hid (∀ w, Calls Try.prog 55 #[.string ⟨#[48, 49, 50, 51, 52, 53, 54, 55, 56, 57, 97, 98, 99, 100, 102, 103, 104, 105, 106, 107, 108, 109, 110, 112, 113, 114, 115, 118, 119, 120, 121, 122]⟩, .int .u8 (d.toNat : Int)] w fun r w' => r = .returned (.int .i64 (-1)) ∧ w = w') := fun w => by have := ix_any ⟨alpha.toArray⟩ d w; rw [show firstIdx ⟨alpha.toArray⟩ d = -1 from hix] at this; exact this
          clear hix hno hd ham hI
          go_wp2_with (first | (first | (refine BigFrame.wpList_want (by rfl) fun K hK => ws_rowload0 rfl rfl (by first | (apply Star.row hM; (repeat (first | assumption | (with_reducible exact List.mem_cons_self) | apply List.mem_cons_of_mem)); done) | (apply Star.own hM; (repeat (first | assumption | (with_reducible exact List.mem_cons_self) | apply List.mem_cons_of_mem)); done) | (apply Star.arr hM; (focus ((repeat (first | assumption | (with_reducible exact List.mem_cons_self) | apply List.mem_cons_of_mem)); done)); assumption)) (by assumption) (by kernel_rfl) (hK _ _ ?_); clear hK K) | fail) | (go_at_call 55; have hM0 := hM; clear hM; (first | (with_reducible refine (starq (HIX.out _) hM0).mono ?_) | fail); clear hM0; rintro _ w ⟨rfl, hM⟩) | (refine BigFrame.wpList_want (by rfl) fun K hK => ws_build (parts := #[]) rfl (.agg (bvs z32).toArray) (by as_aux_lemma => kernel_rfl) (hK _ _ ?_); clear hK K) | (first | (have hM0 := hM; clear hM; refine BigFrame.wpList_want (by rfl) fun K hK => ws_store hM0 rfl rfl rfl (by (repeat (first | (with_reducible exact Take.head) | apply Take.tail)); first | done | fail) (n := 32) (by simp [bvs_len, z32_len]) (by simp [bvs_len, z32_len]) (by kernel_rfl) (by simpa using bvs_oneCell _) (fun w hM => hK _ _ ?_); clear hM0 hK K) | fail))
          exact bodyPost_ret (results_row_tmp rfl _ _ g2 23 (bvs z32).toArray (0, 0) _ rfl (hM.blk (by (repeat (first | assumption | (with_reducible exact List.mem_cons_self) | apply List.mem_cons_of_mem)); first | done | fail)) Try.underlying23 rfl (by rw [info_idn]; simp [bvs_len, z32_len])) rfl ⟨z32, 2, z32_len, .inr ⟨rfl, rfl, HNO.out⟩, rfl, hM.sel (by repeat (first | (with_reducible exact Sel.refl) | (with_reducible exact Take.head) | (with_reducible apply Take.tail) | (with_reducible apply Sel.cons) | (with_reducible apply Sel.drop)))⟩
      · obtain rfl : k = 52 := by omega
        obtain rfl : m = 4 := by omega
        obtain rfl : p = 32 := by omega
        obtain ⟨hvl, hv32s, htk, haN, hXN⟩ := hI.out
        rw [List.take_of_length_le (by omega)] at htk
        have hXz : X ++ zeros (32 - 32) = X := by simp [zeros]
        rw [hXz] at hM
        clear hI
        by_cases ha0 : a = 0
        · subst ha0
          have HTX : Hid (textOf X = s) := by
            show _ = _
            rw [htk]
            exact num_text hv32s hvl (by omega)
          clear hvl hv32s htk haN hXN ham hXz
          go_wp2_with (first | (first | (refine BigFrame.wpList_want (by rfl) fun K hK => ws_load hM rfl rfl (by (repeat (first | assumption | (with_reducible exact List.mem_cons_self) | apply List.mem_cons_of_mem)); first | done | fail) (n := 32) (by simp [bvs_len, hX]) (by decide +kernel) (hK _ _ ?_); clear hK K) | fail) | (first | (have hM0 := hM; clear hM; refine BigFrame.wpList_want (by rfl) fun K hK => ws_store hM0 rfl rfl rfl (by (repeat (first | (with_reducible exact Take.head) | apply Take.tail)); first | done | fail) (n := 32) (by simp [bvs_len, hX]) (by simp [bvs_len, z32_len]) (by kernel_rfl) (by simpa using bvs_oneCell _) (fun w hM => hK _ _ ?_); clear hM0 hK K) | fail))
          exact bodyPost_ret (results_row_tmp rfl _ _ g2 23 (bvs X).toArray (0, 0) _ rfl (hM.blk (by (repeat (first | assumption | (with_reducible exact List.mem_cons_self) | apply List.mem_cons_of_mem)); first | done | fail)) Try.underlying23 rfl (by rw [info_idn]; simp [bvs_len, hX])) rfl ⟨X, hX, 0, .inl ⟨rfl, HTX.out⟩, rfl, hM.sel (by repeat (first | (with_reducible exact Sel.refl) | (with_reducible exact Take.head) | (with_reducible apply Take.tail) | (with_reducible apply Sel.cons) | (with_reducible apply Sel.drop)))⟩
        · have HNO : Hid (∀ x, x.length = 32 → textOf x ≠ s) := fun x hx he => by
            have h1 := text_num hx hv32s (by rw [he]; exact htk)
            omega
          have ha1 : ¬ (a : Int) = 0 := by omega
          clear hvl hv32s htk haN hXN ham hXz
          go_wp2_with (first | (refine BigFrame.wpList_want (by rfl) fun K hK => ws_build (parts := #[]) rfl (.agg (bvs z32).toArray) (by as_aux_lemma => kernel_rfl) (hK _ _ ?_); clear hK K) | (first | (have hM0 := hM; clear hM; refine BigFrame.wpList_want (by rfl) fun K hK => ws_store hM0 rfl rfl rfl (by (repeat (first | (with_reducible exact Take.head) | apply Take.tail)); first | done | fail) (n := 32) (by simp [bvs_len, z32_len]) (by simp [bvs_len, z32_len]) (by kernel_rfl) (by simpa using bvs_oneCell _) (fun w hM => hK _ _ ?_); clear hM0 hK K) | fail))
          exact bodyPost_ret (results_row_tmp rfl _ _ g2 23 (bvs z32).toArray (0, 0) _ rfl (hM.blk (by (repeat (first | assumption | (with_reducible exact List.mem_cons_self) | apply List.mem_cons_of_mem)); first | done | fail)) Try.underlying23 rfl (by rw [info_idn]; simp [bvs_len, z32_len])) rfl ⟨z32, z32_len, 2, .inr ⟨rfl, rfl, HNO.out⟩, rfl, hM.sel (by repeat (first | (with_reducible exact Sel.refl) | (with_reducible exact Take.head) | (with_reducible apply Take.tail) | (with_reducible apply Sel.cons) | (with_reducible apply Sel.drop)))⟩
  · have h52 : ¬ (s.length : Int) = 52 := by omega
    have tok1 : True := trivial
    go_enter Try.func38, Try.ntmps38
    go_wp2_with (first | (have _t := tok1; (first | (have hM0 := hM; clear hM; refine BigFrame.wpList_want (by rfl) fun K hK => ws_alloc hM0 (t := 23) rfl (bvs z32).toArray info_id (fun g2 w hM => hK _ _ ?_); clear hM0 hK K) | fail); clear tok1) | (first | (have hM0 := hM; clear hM; refine BigFrame.wpList_want (by rfl) fun K hK => ws_alloc hM0 (t := 23) rfl (bvs z32).toArray info_id (fun g4 w hM => hK _ _ ?_); clear hM0 hK K) | fail) | (first | (refine BigFrame.wpList_want (by rfl) fun K hK => ws_load hM rfl rfl (by (repeat (first | assumption | (with_reducible exact List.mem_cons_self) | apply List.mem_cons_of_mem)); first | done | fail) (n := 32) (by simp [bvs_len, z32_len]) (by decide +kernel) (hK _ _ ?_); clear hK K) | fail) | (first | (have hM0 := hM; clear hM; refine BigFrame.wpList_want (by rfl) fun K hK => ws_store hM0 rfl rfl rfl (by (repeat (first | (with_reducible exact Take.head) | apply Take.tail)); first | done | fail) (n := 32) (by simp [bvs_len, z32_len]) (by simp [bvs_len, z32_len]) (by kernel_rfl) (by simpa using bvs_oneCell _) (fun w hM => hK _ _ ?_); clear hM0 hK K) | fail))
    exact bodyPost_ret (results_row_tmp rfl _ _ g2 23 (bvs z32).toArray (0, 0) _ rfl (hM.blk (by (repeat (first | assumption | (with_reducible exact List.mem_cons_self) | apply List.mem_cons_of_mem)); first | done | fail)) Try.underlying23 rfl (by rw [info_idn]; simp [bvs_len, z32_len])) rfl ⟨z32, 2, z32_len, .inr ⟨rfl, rfl, fun x hx he => hl (by rw [← he, textOf_len])⟩, rfl, hM.sel (by repeat (first | (with_reducible exact Sel.refl) | (with_reducible exact Take.head) | (with_reducible apply Take.tail) | (with_reducible apply Sel.cons) | (with_reducible apply Sel.drop)))⟩
end Go.Proofs.Ythjceppddmecdaa
