/- The walks of gear's All and of the reference's number, One, All; the law's awake of layer 7. No condition but sizes. -/
import Derived.Test.YtbnencchfgnbjaaGear
import Derived.Test.YtbnencchfgnbjaaRef4
set_option linter.unusedSimpArgs false
set_option linter.unusedVariables false
namespace Go.Proofs.Ytbnencchfgnbjaa
open Go.RowKit
attribute [local go_sem] extract_mid extract_drop bget bsize wrap64_u8 i64_u8 u64_u8 bappend
attribute [local go_sem] gStep_eq
theorem ret_u64 {a b : Nat} (h : a = b) : Ending.returned (Value.int .u64 (a : Int)) = .returned (.int .u64 (b : Int)) := by rw [h]
set_option maxRecDepth 100000 in
theorem gall_star {F : List SProp} (gt : Nat) (t : List Nat) (s : List UInt8) (ht : t.length = 256) (hs : s.length ≤ 1000000) (w : World) (hM : Star F w) (hT : tabE gt t ∈ F) :
    Calls Try.prog 47 #[.pointer (some ⟨gt, 0, none⟩), .string ⟨s.toArray⟩] w fun r w' => r = .returned (.int .u64 (gRoll t 0 s)) ∧ Star F w' := by
  have HTL := Lib.hid ht
  clear ht
  go_enter Try.func47, Try.ntmps47
  go_wp2_with (first | (go_at_call 50; have hM0 := hM; clear hM; (first | (with_reducible refine (gover_star gt _ hM0).mono ?_) | fail); clear hM0; rintro _ w ⟨q, rfl, hM⟩) | (first | (have hM0 := hM; clear hM; refine BigFrame.wpList_want (by rfl) fun K hK => ws_bytes hM0 rfl 5 Try.underlying9 Try.underlying40 Try.underlying5 rfl (fun g c w hM hcap => hK _ _ ?_); clear hM0 hK K) | fail))
  go_loopw [6, 14] (fun v i wr => ∃ k : Nat, k ≤ s.length ∧ i = .int .i64 k ∧ v = .int .u64 (gRoll t 0 (s.take k)) ∧ Star (rollE q gt (gRoll t 0 (s.take k)) k :: rowE 1 (some ⟨g, 0, none⟩) s.length (bvs s) :: F) wr) (fun _ i _ => s.length - (intOf i).toNat)
  case atStart => exact ⟨0, by omega, rfl, rfl, by rw [List.take_zero, gRoll_nil]; exact hM.sel (by repeat (first | (with_reducible exact Sel.refl) | (with_reducible exact Take.head) | (with_reducible apply Take.tail) | (with_reducible apply Sel.cons) | (with_reducible apply Sel.drop)))⟩
  case round =>
    clear hM
    obtain ⟨k, hk, rfl, rfl, hM⟩ := hrel
    by_cases hlt : k < s.length
    · obtain ⟨d, hd⟩ : ∃ d, s[k]? = some d := ⟨_, List.getElem?_eq_getElem hlt⟩
      have hv := bvs_at hd
      have HR : Hid (gRoll t 0 (s.take (k + 1)) = gStep t (gRoll t 0 (s.take k)) d) := by show _ = _; rw [take_snoc_at _ _ _ hd, gRoll_snoc]
      clear hd
      go_wp2_with (first | (first | (refine BigFrame.wpList_want (by rfl) fun K hK => ws_rowload0 rfl rfl (by first | (apply Star.row hM; (repeat (first | assumption | (with_reducible exact List.mem_cons_self) | apply List.mem_cons_of_mem)); done) | (apply Star.own hM; (repeat (first | assumption | (with_reducible exact List.mem_cons_self) | apply List.mem_cons_of_mem)); done) | (apply Star.arr hM; (focus ((repeat (first | assumption | (with_reducible exact List.mem_cons_self) | apply List.mem_cons_of_mem)); done)); assumption)) (by assumption) (by kernel_rfl) (hK _ _ ?_); clear hK K) | fail) | (go_at_call 51; have hM0 := hM; clear hM; (first | (with_reducible refine (gnext_star (n := k) d HTL.out (by omega) _ hM0 (by (repeat (first | (with_reducible exact Take.head) | apply Take.tail)); first | done | fail) (by (repeat (first | assumption | (with_reducible exact List.mem_cons_self) | apply List.mem_cons_of_mem)); first | done | fail)).mono ?_) | fail); clear hM0; rintro _ w ⟨rfl, hM⟩))
      go_roundw
      case rel => exact ⟨k + 1, by omega, by go_num, by rw [HR.out], by rw [HR.out]; exact hM⟩
      case measure => simp [intOf]; omega
    · obtain rfl : k = s.length := by omega
      rw [List.take_length] at hM
      go_wp2
      go_ret
      exact ⟨ret_u64 (by rw [List.take_length]), hM.sel (by repeat (first | (with_reducible exact Sel.refl) | (with_reducible exact Take.head) | (with_reducible apply Take.tail) | (with_reducible apply Sel.cons) | (with_reducible apply Sel.drop)))⟩
set_option maxRecDepth 100000 in
theorem rnumber_star {F : List SProp} (s : List UInt8) (hs : s.length ≤ 8) (w : World) (hM : Star F w) :
    Calls Try.prog 78 #[.string ⟨s.toArray⟩] w fun r w' => r = .returned (.int .u64 (numOf s)) ∧ Star F w' := by
  go_enter Try.func78, Try.ntmps78
  go_wp2
  go_loopw [3, 4] (fun v i wr => ∃ k : Nat, k ≤ s.length ∧ i = .int .i64 k ∧ v = .int .u64 (numOf (s.take k)) ∧ Star F wr) (fun _ i _ => s.length - (intOf i).toNat)
  case atStart => exact ⟨0, by omega, rfl, rfl, hM⟩
  case round =>
    clear hM
    obtain ⟨k, hk, rfl, rfl, hM⟩ := hrel
    by_cases hlt : k < s.length
    · obtain ⟨d, hd⟩ : ∃ d, s[k]? = some d := ⟨_, List.getElem?_eq_getElem hlt⟩
      have hn1 := numOf_lt (s.take k)
      have hn2 := pow_le8 (s.take k).length (by simp; omega)
      have HN : Hid (numOf (s.take (k + 1)) = numOf (s.take k) * 256 + d.toNat) := by show _ = _; rw [take_snoc_at _ _ _ hd, numOf_snoc]
      have HS := Lib.hid (numOf_step (numOf (s.take k)) d (by omega))
      have hg := (List.getElem?_eq_some_iff.1 hd).2
      clear hn1 hn2
      go_wp2
      go_roundw
      case rel => exact ⟨k + 1, by omega, by go_num, by rw [HN.out, ← HS.out], hM⟩
      case measure => simp [intOf]; omega
    · obtain rfl : k = s.length := by omega
      go_wp2
      go_ret
      exact ⟨ret_u64 (by rw [List.take_length]), hM⟩
set_option maxRecDepth 100000 in
theorem rone_star {F : List SProp} (seed : List UInt8) (c : UInt8) (hs : seed.length ≤ 1000000) (w : World) (hM : Star F w) :
    Calls Try.prog 69 #[.string ⟨seed.toArray⟩, .int .u8 c.toNat] w fun r w' => r = .returned (.int .u64 (gOne seed c)) ∧ Star F w' := by
  have HO : ∀ {L : List SProp} (w : World), Star L w → Calls Try.prog 35 #[.string ⟨(103 :: 101 :: 97 :: 114 :: (seed ++ [c])).toArray⟩] w fun r w' => r = .returned (.string ⟨(sha (gearB ++ (seed ++ [c]))).toArray⟩) ∧ Star L w' := fun w hM => rOf_star (gearB ++ (seed ++ [c])) (by simp [gearB]; omega) w hM
  have HL := sha_len (gearB ++ (seed ++ [c]))
  have HD : Hid (gOne seed c = numOf ((sha (gearB ++ (seed ++ [c]))).take 8)) := rfl
  rw [HD.out]
  generalize sha (gearB ++ (seed ++ [c])) = B at HO HL HD ⊢
  have h8 : (B.take 8).length ≤ 8 := by simp; omega
  go_enter Try.func69, Try.ntmps69
  go_wp2_with (first | (first | (have hM0 := hM; clear hM; refine BigFrame.wpList_want (by rfl) fun K hK => ws_slice_row hM0 (n := 1) rfl 5 1 (.int .u8 0) [bv c] Try.underlying40 (by kernel_rfl) rfl (by simp [Value.cells, iv, sv, bv]) (by rfl) (by decide) (cs := bvs [c]) (by rfl) (fun gb w hM => hK _ _ ?_); clear hM0 hK K) | fail) | (first | (refine BigFrame.wpList_want (by rfl) fun K hK => ws_string (l := [c]) rfl 5 Try.underlying40 Try.underlying9 Try.underlying5 rfl (by first | (apply Star.row hM; (repeat (first | assumption | (with_reducible exact List.mem_cons_self) | apply List.mem_cons_of_mem)); done) | (apply Star.own hM; (repeat (first | assumption | (with_reducible exact List.mem_cons_self) | apply List.mem_cons_of_mem)); done) | (apply Star.arr hM; (focus ((repeat (first | assumption | (with_reducible exact List.mem_cons_self) | apply List.mem_cons_of_mem)); done)); assumption)) (hK _ _ ?_); clear hK K) | fail) | (go_at_call 35; have hM0 := hM; clear hM; (first | (with_reducible refine (HO _ hM0).mono ?_) | fail); clear hM0; rintro _ w ⟨rfl, hM⟩) | (go_at_call 78; have hM0 := hM; clear hM; (first | (with_reducible refine (rnumber_star (B.take 8) h8 _ hM0).mono ?_) | fail); clear hM0; rintro _ w ⟨rfl, hM⟩))
  go_ret
  exact ⟨rfl, hM.sel (by repeat (first | (with_reducible exact Sel.refl) | (with_reducible exact Take.head) | (with_reducible apply Take.tail) | (with_reducible apply Sel.cons) | (with_reducible apply Sel.drop)))⟩
set_option maxRecDepth 100000 in
theorem rall_star {F : List SProp} (A : Option Addr) (c : Nat) (t : List Nat) (s : List UInt8) (ht : t.length = 256) (hs : s.length ≤ 1000000) (w : World) (hM : Star F w) (hT : rowE 1 A 256 (uvs t) ∈ F) :
    Calls Try.prog 52 #[.slice A 256 c, .string ⟨s.toArray⟩] w fun r w' => r = .returned (.int .u64 (gRoll t 0 s)) ∧ Star F w' := by
  have HTL := Lib.hid ht
  clear ht
  obtain ⟨ad, rfl⟩ : ∃ ad, A = some ad := by obtain ⟨ad, h, _⟩ := (hM.row hT).2 (by omega); exact ⟨ad, h⟩
  go_enter Try.func52, Try.ntmps52
  go_wp2
  go_loopw [5, 6] (fun v i wr => ∃ k : Nat, k ≤ s.length ∧ i = .int .i64 k ∧ v = .int .u64 (gRoll t 0 (s.take k)) ∧ Star F wr) (fun _ i _ => s.length - (intOf i).toNat)
  case atStart => exact ⟨0, by omega, rfl, rfl, hM⟩
  case round =>
    clear hM
    obtain ⟨k, hk, rfl, rfl, hM⟩ := hrel
    by_cases hlt : k < s.length
    · obtain ⟨d, hd⟩ : ∃ d, s[k]? = some d := ⟨_, List.getElem?_eq_getElem hlt⟩
      have hd256 := d.toNat_lt
      have hd1 : (d.toNat : Int) < 256 := by omega
      obtain ⟨x, hx⟩ : ∃ x, t[d.toNat]? = some x := ⟨_, List.getElem?_eq_getElem (by rw [HTL.out]; omega)⟩
      have hv := uvs_at hx
      have HR : Hid (gRoll t 0 (s.take (k + 1)) = (gRoll t 0 (s.take k) * 2 + x) % 18446744073709551616) := by show _ = _; rw [take_snoc_at _ _ _ hd, gRoll_snoc, gStep, List.getD_eq_getElem?_getD, hx]; rfl
      have hg := (List.getElem?_eq_some_iff.1 hd).2
      clear hx
      go_wp2_with (first | (first | (refine BigFrame.wpList_want (by rfl) fun K hK => ws_rowload rfl rfl (by first | (apply Star.row hM; (repeat (first | assumption | (with_reducible exact List.mem_cons_self) | apply List.mem_cons_of_mem)); done) | (apply Star.own hM; (repeat (first | assumption | (with_reducible exact List.mem_cons_self) | apply List.mem_cons_of_mem)); done) | (apply Star.arr hM; (focus ((repeat (first | assumption | (with_reducible exact List.mem_cons_self) | apply List.mem_cons_of_mem)); done)); assumption)) (by assumption) (by kernel_rfl) (hK _ _ ?_); clear hK K) | fail))
      go_roundw
      case rel => exact ⟨k + 1, by omega, by go_num, by rw [HR.out]; simp [hg], hM⟩
      case measure => simp [intOf]; omega
    · obtain rfl : k = s.length := by omega
      go_wp2
      go_ret
      exact ⟨ret_u64 (by rw [List.take_length]), hM⟩
theorem awake_roll : gRoll (gTab []) 0 [120] = gOne [] 120 := by
  show gStep (gTab []) 0 120 = _
  rw [gStep, List.getD_eq_getElem?_getD, gTab_byte]
  have := gOne_lt [] 120
  simp only [Option.getD_some]
  omega
theorem clamp2 : clampN 2 = 2 := by decide
theorem msk2 : msk 2 = 10376293541461622784 := by decide +kernel
set_option maxRecDepth 100000 in
theorem awake07 {F : List SProp} (w : World) (hM : Star F w) :
    Calls Try.prog 45 #[] w fun r w' => r = .returned (.bool true) ∧ Star F w' := by
  have HA : ∀ {L : List SProp} (g : Nat) (w : World), Star L w → tabE g (gTab []) ∈ L → Calls Try.prog 47 #[.pointer (some ⟨g, 0, none⟩), .string ⟨#[120]⟩] w fun r w' => r = .returned (.int .u64 (gOne [] 120)) ∧ Star L w' := fun g w hM hT => by
    have := gall_star g (gTab []) [120] (gTab_len []) (by simp) w hM hT; rwa [awake_roll] at this
  have HR : ∀ {L : List SProp} (w : World), Star L w → Calls Try.prog 69 #[.string ⟨#[]⟩, .int .u8 120] w fun r w' => r = .returned (.int .u64 (gOne [] 120)) ∧ Star L w' := fun w hM => rone_star [] 120 (by simp) w hM
  have HK : ∀ w, Calls Try.prog 48 #[.int .i64 2] w fun r w' => r = .returned (.int .u64 10376293541461622784) ∧ w = w' := fun w => by
    have := mask_any 2 w; rwa [clamp2, msk2] at this
  generalize gOne [] 120 = y at HA HR
  go_enter Try.func45, Try.ntmps45
  go_wp2_with (first | (go_at_call 46; have hM0 := hM; clear hM; (first | (with_reducible refine (gnew_star [] (by simp) _ hM0).mono ?_) | fail); clear hM0; rintro _ w ⟨g, rfl, hM⟩) | (go_at_call 47; have hM0 := hM; clear hM; (first | (with_reducible refine (HA g _ hM0 (by (repeat (first | assumption | (with_reducible exact List.mem_cons_self) | apply List.mem_cons_of_mem)); first | done | fail)).mono ?_) | fail); clear hM0; rintro _ w ⟨rfl, hM⟩) | (go_at_call 69; have hM0 := hM; clear hM; (first | (with_reducible refine (HR _ hM0).mono ?_) | fail); clear hM0; rintro _ w ⟨rfl, hM⟩) | (go_at_call 48; have hM0 := hM; clear hM; (first | (with_reducible refine (starq (HK _) hM0).mono ?_) | fail); clear hM0; rintro _ w ⟨rfl, hM⟩) | (go_at_call 50; have hM0 := hM; clear hM; (first | (with_reducible refine (gover_star g _ hM0).mono ?_) | fail); clear hM0; rintro _ w ⟨q, rfl, hM⟩))
  go_ret
  exact ⟨rfl, hM.sel (by repeat (first | (with_reducible exact Sel.refl) | (with_reducible exact Take.head) | (with_reducible apply Take.tail) | (with_reducible apply Sel.cons) | (with_reducible apply Sel.drop)))⟩
end Go.Proofs.Ytbnencchfgnbjaa
