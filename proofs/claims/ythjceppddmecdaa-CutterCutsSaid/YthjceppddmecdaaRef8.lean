/- The walks of the reference's zero, End, Cut (layer 8). No condition but sizes. -/
import Derived.Test.YthjceppddmecdaaGearA
import Derived.Test.YthjceppddmecdaaCutW
set_option linter.unusedSimpArgs false
set_option linter.unusedVariables false
namespace Go.Proofs.Ythjceppddmecdaa
open Go.RowKit
attribute [local go_sem] extract_mid extract_drop bget bsize wrap64_u8 i64_u8 u64_u8 bappend
attribute [local go_sem] gStep_eq
set_option maxRecDepth 100000 in
theorem rzero_star {F : List SProp} (v m : Nat) (hv : v < 18446744073709551616) (hm : m < 18446744073709551616) (w : World) (hM : Star F w) :
    Calls Try.prog 65 #[.int .u64 v, .int .u64 m] w fun r w' => r = .returned (.bool (decide (v &&& m = 0))) ∧ Star F w' := by
  have B8 := bits_and_u64_nat v m hv hm
  have HE : Hid (decide (v &&& m = 0) = decide (((v &&& m : Nat) : Int) = 0)) := by show _ = _; rw [decide_eq_decide]; omega
  rw [HE.out]
  clear HE
  generalize v &&& m = x8 at B8 ⊢
  go_enter Try.func65, Try.ntmps65
  go_wp2_with fail
  go_ret
  exact ⟨rfl, hM⟩
theorem cEnd_hard {n v : Nat} (h1 : 32 ≤ n) (h2 : n < 96) : cEnd n v = decide (v &&& msk 8 = 0) := by unfold cEnd; rw [decide_eq_decide]; omega
theorem cEnd_soft {n v : Nat} (h1 : 96 ≤ n) (h2 : n < 256) : cEnd n v = decide (v &&& msk 5 = 0) := by unfold cEnd; rw [decide_eq_decide]; omega
set_option maxRecDepth 100000 in
set_option maxHeartbeats 1000000 in
theorem rEnd_star {F : List SProp} (A : Option Addr) (c : Nat) (t : List Nat) (s : List UInt8) (ht : t.length = 256) (hs : s.length ≤ 1000000) (w : World) (hM : Star F w) (hT : rowE 1 A 256 (uvs t) ∈ F) :
    Calls Try.prog 46 #[.slice A 256 c, .string ⟨s.toArray⟩] w fun r w' => r = .returned (.int .i64 (endOf t s)) ∧ Star F w' := by
  have HTL := Lib.hid ht
  clear ht
  obtain ⟨ad, rfl⟩ : ∃ ad, A = some ad := by obtain ⟨ad, h, _⟩ := (hM.row hT).2 (by omega); exact ⟨ad, h⟩
  have K8 : Hid (∀ w, Calls Try.prog 64 #[.int .i64 8] w fun r w' => r = .returned (.int .u64 (msk 8)) ∧ w = w') := fun w => by have := rMask_any 8 w; rwa [msk8] at this
  have K5 : Hid (∀ w, Calls Try.prog 64 #[.int .i64 5] w fun r w' => r = .returned (.int .u64 (msk 5)) ∧ w = w') := fun w => by have := rMask_any 5 w; rwa [msk5] at this
  have hm8 := (msk_facts 8 (by decide)).1
  have hm5 := (msk_facts 5 (by decide)).1
  have HH : Hid (∀ n v : Nat, 32 ≤ n → n < 96 → cEnd n v = decide (v &&& msk 8 = 0)) := fun n v h1 h2 => cEnd_hard h1 h2
  have HSF : Hid (∀ n v : Nat, 96 ≤ n → n < 256 → cEnd n v = decide (v &&& msk 5 = 0)) := fun n v h1 h2 => cEnd_soft h1 h2
  generalize msk 8 = m8 at K8 hm8 HH
  generalize msk 5 = m5 at K5 hm5 HSF
  obtain ⟨N, hN⟩ : ∃ N, N = endOf t s := ⟨_, rfl⟩
  rw [← hN]
  have HN := Lib.hid hN
  have hNle : N ≤ s.length := by rw [hN]; have := (endFrom_ge t s []).2.1; simpa using this
  clear hN
  go_enter Try.func46, Try.ntmps46
  go_wp2_with (first | (go_at_call 64; have hM0 := hM; clear hM; (first | (with_reducible refine (starq (K8.out _) hM0).mono ?_) | fail); clear hM0; rintro _ w ⟨rfl, hM⟩) | (go_at_call 64; have hM0 := hM; clear hM; (first | (with_reducible refine (starq (K5.out _) hM0).mono ?_) | fail); clear hM0; rintro _ w ⟨rfl, hM⟩))
  go_loopw [7, 8] (fun v i wr => ∃ k n : Nat, k ≤ s.length ∧ Hid (n = k + 1) ∧ i = .int .i64 (n : Int) ∧ v = .int .u64 (gRoll t 0 (s.take k)) ∧ Hid (N = endFrom t (s.take k) (s.drop k)) ∧ Star F wr) (fun _ i _ => s.length + 1 - (intOf i).toNat)
  case atStart => exact ⟨0, 1, by omega, rfl, rfl, rfl, (by show _ = _; rw [HN.out]; rfl), hM⟩
  case round =>
    clear hM
    obtain ⟨k, n, hk, hn, rfl, rfl, hNk, hM⟩ := hrel
    have hn1 := hn.out
    by_cases hlt : k < s.length
    · obtain ⟨d, hd⟩ : ∃ d, s[k]? = some d := ⟨_, List.getElem?_eq_getElem hlt⟩
      have hd256 := d.toNat_lt
      have hd1 : (d.toNat : Int) < 256 := by omega
      obtain ⟨x, hx⟩ : ∃ x, t[d.toNat]? = some x := ⟨_, List.getElem?_eq_getElem (by rw [HTL.out]; omega)⟩
      have hv := uvs_at hx
      have HR : Hid ((gRoll t 0 (s.take k) * 2 + x) % 18446744073709551616 = gRoll t 0 (s.take (k + 1))) := by show _ = _; rw [take_snoc_at _ _ _ hd, gRoll_snoc, gStep, List.getD_eq_getElem?_getD, hx]; rfl
      have hg : s[k]'hlt = d := (List.getElem?_eq_some_iff.1 hd).2
      have hdr : s.drop k = d :: s.drop (k + 1) := by rw [List.drop_eq_getElem_cons hlt, hg]
      have htk := take_snoc_at _ _ _ hd
      have htl : (s.take k).length = k := by simp; omega
      have HY : Hid (cEnd (k + 1) (gRoll t 0 (s.take (k + 1))) = true → N = k + 1) := fun h => by
        rw [hNk.out, hdr, endFrom_yes (by rw [htl, ← htk]; exact h), htl]
      have HNO : Hid (cEnd (k + 1) (gRoll t 0 (s.take (k + 1))) = false → N = endFrom t (s.take (k + 1)) (s.drop (k + 1))) := fun h => by
        rw [hNk.out, hdr, endFrom_no (by rw [htl, ← htk]; exact h), ← htk]
      have hvl := gRoll_lt t (s.take (k + 1))
      obtain ⟨V, hV⟩ : ∃ V, V = gRoll t 0 (s.take (k + 1)) := ⟨_, rfl⟩
      rw [← hV] at HR HY HNO hvl
      have HV := Lib.hid hV
      have HI : Hid (((((gRoll t 0 (s.take k) : Nat) : Int) * 2 + (x : Int)) % 18446744073709551616) = (V : Int)) := by show _ = _; rw [← HR.out]; omega
      have Z8 : Hid (∀ (L : List SProp) (w : World), Star L w → Calls Try.prog 65 #[.int .u64 ((((gRoll t 0 (s.take k) : Nat) : Int) * 2 + (x : Int)) % 18446744073709551616), .int .u64 m8] w fun r w' => r = .returned (.bool (decide (V &&& m8 = 0))) ∧ Star L w') := fun L w hM => by rw [HI.out]; exact rzero_star V m8 hvl hm8 w hM
      have Z5 : Hid (∀ (L : List SProp) (w : World), Star L w → Calls Try.prog 65 #[.int .u64 ((((gRoll t 0 (s.take k) : Nat) : Int) * 2 + (x : Int)) % 18446744073709551616), .int .u64 m5] w fun r w' => r = .returned (.bool (decide (V &&& m5 = 0))) ∧ Star L w') := fun L w hM => by rw [HI.out]; exact rzero_star V m5 hvl hm5 w hM
      rw [← hn1] at HY HNO
      have HS1 := HH.out n V
      have HS2 := HSF.out n V
      have HB1 : 256 ≤ n → cEnd n V = true := fun h => cEnd_big h
      have HB2 : n < 32 → cEnd n V = false := fun h => cEnd_small h
      generalize cEnd n V = ce at HY HNO HS1 HS2 HB1 HB2
      generalize decide (V &&& m8 = 0) = z8 at Z8 HS1
      generalize decide (V &&& m5 = 0) = z5 at Z5 HS2
      clear hx hdr htk htl hV hd hvl HH HSF
      have hm1 : (n : Int) - 1 = (k : Int) := by omega
      have hnl : (n : Int) ≤ (s.length : Int) := by omega
      clear hn1
      by_cases c1 : 256 ≤ n
      · have i1 : 256 ≤ (n : Int) := by omega
        obtain rfl := HY.out (HB1 c1)
        clear HS1 HS2 HB1 HB2 HY HNO
        go_wp2_with (first | (first | (refine BigFrame.wpList_want (by rfl) fun K hK => ws_rowload rfl rfl (by first | (apply Star.row hM; (repeat (first | assumption | (with_reducible exact List.mem_cons_self) | apply List.mem_cons_of_mem)); done) | (apply Star.own hM; (repeat (first | assumption | (with_reducible exact List.mem_cons_self) | apply List.mem_cons_of_mem)); done) | (apply Star.arr hM; (focus ((repeat (first | assumption | (with_reducible exact List.mem_cons_self) | apply List.mem_cons_of_mem)); done)); assumption)) (by assumption) (by kernel_rfl) (hK _ _ ?_); clear hK K) | fail))
        go_ret
        exact ⟨rfl, hM⟩
      · have i1 : ¬ 256 ≤ (n : Int) := by omega
        by_cases c2 : n < 32
        · have i2 : (n : Int) < 32 := by omega
          have i3 : ¬ 96 ≤ (n : Int) := by omega
          have i4 : ¬ 32 ≤ (n : Int) := by omega
          have HN2 := Lib.hid (HNO.out (HB2 c2))
          clear HS1 HS2 HB1 HB2 HY HNO
          go_wp2_with (first | (first | (refine BigFrame.wpList_want (by rfl) fun K hK => ws_rowload rfl rfl (by first | (apply Star.row hM; (repeat (first | assumption | (with_reducible exact List.mem_cons_self) | apply List.mem_cons_of_mem)); done) | (apply Star.own hM; (repeat (first | assumption | (with_reducible exact List.mem_cons_self) | apply List.mem_cons_of_mem)); done) | (apply Star.arr hM; (focus ((repeat (first | assumption | (with_reducible exact List.mem_cons_self) | apply List.mem_cons_of_mem)); done)); assumption)) (by assumption) (by kernel_rfl) (hK _ _ ?_); clear hK K) | fail))
          go_roundw
          case rel => exact ⟨k + 1, n + 1, by omega, (by show _ = _; rw [hn.out]), by go_num, by rw [← HV.out]; exact congrArg (Value.int .u64) HI.out, (by show _ = _; have := HN2.out; rw [hn.out] at this; exact this), hM⟩
          case measure => simp [intOf]; omega
        · have i2 : 32 ≤ (n : Int) := by omega
          by_cases c3 : n < 96
          · have i3 : ¬ 96 ≤ (n : Int) := by omega
            have i4 : (n : Int) < 96 := by omega
            obtain rfl := HS1 (by omega) c3
            cases ce with
            | true =>
              obtain rfl := HY.out rfl
              clear HS1 HS2 HB1 HB2 HY HNO
              go_wp2_with (first | (first | (refine BigFrame.wpList_want (by rfl) fun K hK => ws_rowload rfl rfl (by first | (apply Star.row hM; (repeat (first | assumption | (with_reducible exact List.mem_cons_self) | apply List.mem_cons_of_mem)); done) | (apply Star.own hM; (repeat (first | assumption | (with_reducible exact List.mem_cons_self) | apply List.mem_cons_of_mem)); done) | (apply Star.arr hM; (focus ((repeat (first | assumption | (with_reducible exact List.mem_cons_self) | apply List.mem_cons_of_mem)); done)); assumption)) (by assumption) (by kernel_rfl) (hK _ _ ?_); clear hK K) | fail) | (go_at_call 65; have hM0 := hM; clear hM; (first | (with_reducible refine (Z8.out _ _ hM0).mono ?_) | fail); clear hM0; rintro _ w ⟨rfl, hM⟩))
              go_ret
              exact ⟨rfl, hM⟩
            | false =>
              have HN2 := Lib.hid (HNO.out rfl)
              clear HS1 HS2 HB1 HB2 HY HNO
              go_wp2_with (first | (first | (refine BigFrame.wpList_want (by rfl) fun K hK => ws_rowload rfl rfl (by first | (apply Star.row hM; (repeat (first | assumption | (with_reducible exact List.mem_cons_self) | apply List.mem_cons_of_mem)); done) | (apply Star.own hM; (repeat (first | assumption | (with_reducible exact List.mem_cons_self) | apply List.mem_cons_of_mem)); done) | (apply Star.arr hM; (focus ((repeat (first | assumption | (with_reducible exact List.mem_cons_self) | apply List.mem_cons_of_mem)); done)); assumption)) (by assumption) (by kernel_rfl) (hK _ _ ?_); clear hK K) | fail) | (go_at_call 65; have hM0 := hM; clear hM; (first | (with_reducible refine (Z8.out _ _ hM0).mono ?_) | fail); clear hM0; rintro _ w ⟨rfl, hM⟩))
              go_roundw
              case rel => exact ⟨k + 1, n + 1, by omega, (by show _ = _; rw [hn.out]), by go_num, by rw [← HV.out]; exact congrArg (Value.int .u64) HI.out, (by show _ = _; have := HN2.out; rw [hn.out] at this; exact this), hM⟩
              case measure => simp [intOf]; omega
          · have i3 : 96 ≤ (n : Int) := by omega
            have i4 : ¬ (n : Int) < 96 := by omega
            obtain rfl := HS2 (by omega) (by omega)
            cases ce with
            | true =>
              obtain rfl := HY.out rfl
              clear HS1 HS2 HB1 HB2 HY HNO
              go_wp2_with (first | (first | (refine BigFrame.wpList_want (by rfl) fun K hK => ws_rowload rfl rfl (by first | (apply Star.row hM; (repeat (first | assumption | (with_reducible exact List.mem_cons_self) | apply List.mem_cons_of_mem)); done) | (apply Star.own hM; (repeat (first | assumption | (with_reducible exact List.mem_cons_self) | apply List.mem_cons_of_mem)); done) | (apply Star.arr hM; (focus ((repeat (first | assumption | (with_reducible exact List.mem_cons_self) | apply List.mem_cons_of_mem)); done)); assumption)) (by assumption) (by kernel_rfl) (hK _ _ ?_); clear hK K) | fail) | (go_at_call 65; have hM0 := hM; clear hM; (first | (with_reducible refine (Z5.out _ _ hM0).mono ?_) | fail); clear hM0; rintro _ w ⟨rfl, hM⟩))
              go_ret
              exact ⟨rfl, hM⟩
            | false =>
              have HN2 := Lib.hid (HNO.out rfl)
              clear HS1 HS2 HB1 HB2 HY HNO
              go_wp2_with (first | (first | (refine BigFrame.wpList_want (by rfl) fun K hK => ws_rowload rfl rfl (by first | (apply Star.row hM; (repeat (first | assumption | (with_reducible exact List.mem_cons_self) | apply List.mem_cons_of_mem)); done) | (apply Star.own hM; (repeat (first | assumption | (with_reducible exact List.mem_cons_self) | apply List.mem_cons_of_mem)); done) | (apply Star.arr hM; (focus ((repeat (first | assumption | (with_reducible exact List.mem_cons_self) | apply List.mem_cons_of_mem)); done)); assumption)) (by assumption) (by kernel_rfl) (hK _ _ ?_); clear hK K) | fail) | (go_at_call 65; have hM0 := hM; clear hM; (first | (with_reducible refine (Z5.out _ _ hM0).mono ?_) | fail); clear hM0; rintro _ w ⟨rfl, hM⟩))
              go_roundw
              case rel => exact ⟨k + 1, n + 1, by omega, (by show _ = _; rw [hn.out]), by go_num, by rw [← HV.out]; exact congrArg (Value.int .u64) HI.out, (by show _ = _; have := HN2.out; rw [hn.out] at this; exact this), hM⟩
              case measure => simp [intOf]; omega
    · obtain rfl : k = s.length := by omega
      have hNs : N = s.length := by rw [hNk.out, List.take_length, List.drop_length]; rfl
      subst hNs
      go_wp2
      go_ret
      exact ⟨rfl, hM⟩
end Go.Proofs.Ythjceppddmecdaa
