/- BaleBack: for all numbers, texts and names the law answers true. No condition. -/
import Derived.Test.YtbnencchfgnbjaaBaleI
import Derived.Test.YtbnencchfgnbjaaLaw
import Derived.Deep.CutBlock
import Derived.Deep.DeepCutAuto
set_option linter.unusedSimpArgs false
set_option linter.unusedVariables false
namespace Go.Proofs.Ytbnencchfgnbjaa
open Go.RowKit
attribute [local go_sem] extract_mid extract_drop bget bsize wrap64_u8 i64_u8 u64_u8 bappend
def cut60 (l : List UInt8) : List UInt8 := cutP l 60
def cut20 (l : List UInt8) : List UInt8 := cutP l 20
theorem cut60_len (l : List UInt8) : (cut60 l).length ≤ 60 := by have := cutP_len l 60 (by omega); unfold cut60; omega
theorem cut20_len (l : List UInt8) : (cut20 l).length ≤ 20 := by have := cutP_len l 20 (by omega); unfold cut20; omega
theorem cut60_any (l : List UInt8) (w : World) : Calls Try.prog 15 #[.string ⟨l.toArray⟩, .int .i64 60] w fun r w' => r = .returned (.string ⟨(cut60 l).toArray⟩) ∧ w = w' := cut_any l 60 (by omega) w
theorem cut20_any (l : List UInt8) (w : World) : Calls Try.prog 15 #[.string ⟨l.toArray⟩, .int .i64 20] w fun r w' => r = .returned (.string ⟨(cut20 l).toArray⟩) ∧ w = w' := cut_any l 20 (by omega) w
set_option maxRecDepth 100000 in
set_option maxHeartbeats 4000000 in
theorem baleBack_walk {F : List SProp} (m : Nat) (hm : m ≤ 18446744073709551615) (x : Int) (x1 : -9223372036854775808 ≤ x) (x2 : x ≤ 9223372036854775807) (s0 : List UInt8) (_y0 : s0.length ≤ 9223372036854775807) (A3 : Option Addr) (n3 c3 : Nat) (ids : List (List UInt8)) (k3 : n3 ≤ 9223372036854775807) (_z3 : ∀ x ∈ ids, x.length ≤ 9223372036854775807) (t0 : List UInt8) (_y4 : t0.length ≤ 9223372036854775807) (w : World) (hM : Star F w)
    (hF3 : rowE 1 A3 n3 (svs ids) ∈ F) :
    Calls Try.prog 10 #[.int .u64 m, .int .i64 x, .string ⟨s0.toArray⟩, .slice A3 n3 c3, .string ⟨t0.toArray⟩] w fun r w' => r = .returned (.bool true) ∧ Star F w' := by
  have k1 := cut60_len s0
  have k2 := cut20_len t0
  have H1 := cut60_any s0
  have H2 := cut20_any t0
  generalize cut60 s0 = s at k1 H1
  generalize cut20 t0 = t at k2 H2
  have HC1 := Lib.hid H1
  have HC2 := Lib.hid H2
  obtain ⟨k, hk⟩ : ∃ k : Nat, max x 0 = (k : Int) := ⟨(max x 0).toNat, by omega⟩
  have hkb : k ≤ 9223372036854775807 := by omega
  have hk1 : (if x < 0 then (0 : Int) else x) = (k : Int) := by split <;> omega
  clear hk
  clear H1 H2
  go_enter Try.func10, Try.ntmps10
  go_wp2_with (first | (go_at_call 15; have hM0 := hM; clear hM; (first | (with_reducible refine (starq (HC1.out _) hM0).mono ?_) | fail); clear hM0; rintro _ w ⟨rfl, hM⟩) | (go_at_call 15; have hM0 := hM; clear hM; (first | (with_reducible refine (starq (HC2.out _) hM0).mono ?_) | fail); clear hM0; rintro _ w ⟨rfl, hM⟩) | (first | (have hM0 := hM; clear hM; refine BigFrame.wpList_want (by rfl) fun K hK => ws_slice_own hM0 (n := 0) rfl 38 32 (.agg (bvs z32).toArray) [] Try.underlying36 (by kernel_rfl) rfl (by simp [Value.cells, iv, sv, bv]) (by rfl) (by decide) (by decide) (cs := idvs []) (by rfl) (fun g4 w hM => hK _ _ ?_); clear hM0 hK K) | fail))
  go_loopw [11, 12] (fun some_ i wr => ∃ (j : Nat) (A : Option Addr) (c : Nat) (xs : List (List UInt8)), j ≤ 6 ∧ j ≤ n3 ∧ Hid (xs.length = j) ∧ Hid (ids32 xs) ∧ i = .int .i64 j ∧ some_ = .slice A j c ∧ Star (ownE 38 32 A j c (idvs xs) :: F) wr) (fun _ i _ => 6 - (intOf i).toNat)
  case atStart => exact ⟨0, _, _, [], by omega, by omega, rfl, ids32_nil, rfl, rfl, hM.sel (by repeat (first | (with_reducible exact Sel.refl) | (with_reducible exact Take.head) | (with_reducible apply Take.tail) | (with_reducible apply Sel.cons) | (with_reducible apply Sel.drop)))⟩
  case round =>
    clear hM
    obtain ⟨j, A, c, xs, hj, hjn, HS, HX, rfl, rfl, hM⟩ := hrel
    by_cases hgo : j < n3 ∧ j < 6
    · obtain ⟨hlt, hk6⟩ := hgo
      obtain ⟨ad, d, rfl, hv, hg, ht⟩ := hM.elemS (A := A3) (n := n3) (l := ids) (by (repeat (first | assumption | (with_reducible exact List.mem_cons_self) | apply List.mem_cons_of_mem)); first | done | fail) hlt
      clear ht hg
      obtain ⟨e, he⟩ : ∃ e, e = idOf d := ⟨_, rfl⟩
      have he32 : e.length = 32 := by rw [he]; exact idOf_len d
      have HE := Lib.hid he
      clear he
      go_wp2_with (first | (first | (refine BigFrame.wpList_want (by rfl) fun K hK => ws_rowload rfl rfl (by first | (apply Star.row hM; (repeat (first | assumption | (with_reducible exact List.mem_cons_self) | apply List.mem_cons_of_mem)); done) | (apply Star.own hM; (repeat (first | assumption | (with_reducible exact List.mem_cons_self) | apply List.mem_cons_of_mem)); done) | (apply Star.arr hM; (focus ((repeat (first | assumption | (with_reducible exact List.mem_cons_self) | apply List.mem_cons_of_mem)); done)); assumption)) (by assumption) (by kernel_rfl) (hK _ _ ?_); clear hK K) | fail) | (go_at_call 24; have hM0 := hM; clear hM; (first | (with_reducible refine (star0 (HE.out ▸ name_any d _) hM0).mono ?_) | fail); clear hM0; rintro _ w ⟨rfl, hM⟩) | (first | (have hM0 := hM; clear hM; refine BigFrame.wpList_want (by rfl) fun K hK => ws_slice_row hM0 (n := 1) rfl 38 32 (.agg (bvs z32).toArray) [idv e] Try.underlying36 (by kernel_rfl) rfl (by simp [Value.cells, iv, sv, bv, idv, bvs_len, he32]) (by rfl) (by decide) (cs := idvs [e]) (by rfl) (fun g w hM => hK _ _ ?_); clear hM0 hK K) | fail) | (first | (have hM0 := hM; clear hM; refine BigFrame.wpList_want (by rfl) fun K hK => ws_append hM0 rfl rfl rfl 38 ((.agg (bvs z32).toArray)) 32 32 Try.underlying36 (by kernel_rfl) (by simp [Value.cells, bvs_len, z32_len]) (by decide) (by (repeat (first | (with_reducible exact Take.head) | apply Take.tail)); first | done | fail) (by first | (apply Star.row hM0; (repeat (first | assumption | (with_reducible exact List.mem_cons_self) | apply List.mem_cons_of_mem)); done) | (apply Star.own hM0; (repeat (first | assumption | (with_reducible exact List.mem_cons_self) | apply List.mem_cons_of_mem)); done) | (apply Star.arr hM0; (focus ((repeat (first | assumption | (with_reducible exact List.mem_cons_self) | apply List.mem_cons_of_mem)); done)); assumption)) (idvs_one [e]) ((by omega)) (fun A1 c1 w hM hnil => hK _ _ ?_); clear hM0 hK K) | fail))
      go_roundw
      case rel => exact ⟨j + 1, A1, c1, xs ++ [e], by omega, by omega, by show _ = _; simp [HS.out], ids32_snoc HX.out he32, by go_num, rfl, by rw [idvs_app]; exact hM.sel (by repeat (first | (with_reducible exact Sel.refl) | (with_reducible exact Take.head) | (with_reducible apply Take.tail) | (with_reducible apply Sel.cons) | (with_reducible apply Sel.drop)))⟩
      case measure => simp [intOf]; omega
    · replace hM := (hM.take (x := ownE 38 32 A j c (idvs xs)) (by (repeat (first | (with_reducible exact Take.head) | apply Take.tail)); first | done | fail)).freeze
      have q1 := encNum_len m
      have q2 := encNums_len [(k : Int)]
      have q3 := encStr_len s
      have q4 : (encIDs xs).length ≤ 210 := by
        have h1 := encNum_len xs.length
        have h2 := cat_le 32 xs fun x hx => by rw [HX.out x hx]; omega
        rw [HS.out] at h2
        rw [encIDs, List.length_append]
        omega
      have q5 : (encNums [(k : Int)]).length ≤ 9 := by simpa using q2
      have E0 : encNums [(k : Int)] = encNum k := by simp [encNums]
      have E1 := Lib.hid (mNum_enc m (encNums [(k : Int)] ++ (encStr s ++ (encIDs xs ++ t))) hm)
      have E2 : Hid (mInt (encNums [(k : Int)] ++ (encStr s ++ (encIDs xs ++ t))) 0 (k : Int) = ((k : Int), encStr s ++ (encIDs xs ++ t), 0)) := by show _ = _; rw [E0]; exact mInt_enc k _ _ (by omega) (by omega)
      have E3 := Lib.hid (mStr_enc s (encIDs xs ++ t) 60 (by omega) (by omega))
      have E4 := Lib.hid (mIDs_enc xs HX.out t 6 (by rw [HS.out]; omega) (by rw [HS.out]; omega))
      clear E0 q2
      have HI : ∀ {L R : List SProp} (b : Nat) (w : World), Star L w → Take (balE b (encIDs xs ++ t) 0) L R → Calls Try.prog 44 #[.pointer (some ⟨b, 0, none⟩), .int .i64 6] w fun r w' => ∃ A c, r = .returned (.slice A j c) ∧ Star (rowE 32 A j (idvs xs) :: balE b t 0 :: R) w' := fun b w hM hb => by have := sIDs (by omega) E4.out w hM hb; rwa [HS.out] at this
      have HSA : ∀ {L : List SProp} (A B : Option Addr) (c d : Nat) (w : World), Star L w → rowE 32 A j (idvs xs) ∈ L → rowE 32 B j (idvs xs) ∈ L → Calls Try.prog 43 #[.slice A j c, .slice B j d] w fun r w' => r = .returned (.bool true) ∧ Star L w' := fun A B c d w hM h1 h2 => by have := same_star xs xs HX.out HX.out A B j c j d (by omega) (by omega) w hM h1 h2; rwa [decide_eq_true rfl] at this
      go_wp2_with (first | (go_at_call 21; have hM0 := hM; clear hM; (first | (with_reducible refine (star0 (encNum_any m hm _) hM0).mono ?_) | fail); clear hM0; rintro _ w ⟨rfl, hM⟩) | (first | (have hM0 := hM; clear hM; refine BigFrame.wpList_want (by rfl) fun K hK => ws_slice_row hM0 (n := 1) rfl 3 1 (.int .i64 0) [iv k] Try.underlying33 (by kernel_rfl) rfl (by simp [Value.cells, iv, sv, bv]) (by rfl) (by decide) (cs := ivs [(k : Int)]) (by rfl) (fun g w hM => hK _ _ ?_); clear hM0 hK K) | fail) | (go_at_call 25; have hM0 := hM; clear hM; (first | (with_reducible refine (nums_star [(k : Int)] _ 1 1 (by intro x hx; rw [List.mem_singleton.1 hx]; omega) (by omega) _ hM0 (by (repeat (first | assumption | (with_reducible exact List.mem_cons_self) | apply List.mem_cons_of_mem)); first | done | fail)).mono ?_) | fail); clear hM0; rintro _ w ⟨rfl, hM⟩) | (go_at_call 40; have hM0 := hM; clear hM; (first | (with_reducible refine (star0 (encStr_any s (by omega) _) hM0).mono ?_) | fail); clear hM0; rintro _ w ⟨rfl, hM⟩) | (go_at_call 27; have hM0 := hM; clear hM; (first | (with_reducible refine (ids_star xs A j c HX.out (by omega) _ hM0 (by (repeat (first | assumption | (with_reducible exact List.mem_cons_self) | apply List.mem_cons_of_mem)); first | done | fail)).mono ?_) | fail); clear hM0; rintro _ w ⟨rfl, hM⟩) | (go_at_call 16; have hM0 := hM; clear hM; (first | (with_reducible refine (sOpen _ hM0).mono ?_) | fail); clear hM0; rintro _ w ⟨b, rfl, hM⟩) | (go_at_call 17; have hM0 := hM; clear hM; (first | (with_reducible refine (star0 (awake04 _) hM0).mono ?_) | fail); clear hM0; rintro _ w ⟨rfl, hM⟩) | (go_at_call 18; have hM0 := hM; clear hM; (first | (with_reducible refine (sNum E1.out hM0 (by (repeat (first | (with_reducible exact Take.head) | apply Take.tail)); first | done | fail)).mono ?_) | fail); clear hM0; rintro _ w ⟨rfl, hM⟩) | (go_at_call 41; have hM0 := hM; clear hM; (first | (with_reducible refine (sInt (by omega) E2.out hM0 (by (repeat (first | (with_reducible exact Take.head) | apply Take.tail)); first | done | fail)).mono ?_) | fail); clear hM0; rintro _ w ⟨rfl, hM⟩) | (go_at_call 42; have hM0 := hM; clear hM; (first | (with_reducible refine (sStr (by omega) E3.out hM0 (by (repeat (first | (with_reducible exact Take.head) | apply Take.tail)); first | done | fail)).mono ?_) | fail); clear hM0; rintro _ w ⟨rfl, hM⟩) | (go_at_call 44; have hM0 := hM; clear hM; (first | (with_reducible refine (HI b _ hM0 (by (repeat (first | (with_reducible exact Take.head) | apply Take.tail)); first | done | fail)).mono ?_) | fail); clear hM0; rintro _ w ⟨A9, c9, rfl, hM⟩) | (go_at_call 43; have hM0 := hM; clear hM; (first | (with_reducible refine (HSA A9 A c9 c _ hM0 (by (repeat (first | assumption | (with_reducible exact List.mem_cons_self) | apply List.mem_cons_of_mem)); first | done | fail) (by (repeat (first | assumption | (with_reducible exact List.mem_cons_self) | apply List.mem_cons_of_mem)); first | done | fail)).mono ?_) | fail); clear hM0; rintro _ w ⟨rfl, hM⟩) | (go_at_call 20; have hM0 := hM; clear hM; (first | (with_reducible refine (sLeft hM0 (by first | exact List.mem_cons_self | exact List.mem_cons_of_mem _ List.mem_cons_self)).mono ?_) | fail); clear hM0; rintro _ w ⟨rfl, hM⟩) | (go_at_call 19; have hM0 := hM; clear hM; (first | (with_reducible refine (sErr hM0 (by first | exact List.mem_cons_self | exact List.mem_cons_of_mem _ List.mem_cons_self)).mono ?_) | fail); clear hM0; rintro _ w ⟨rfl, hM⟩))
      all_goals
        go_ret
        exact ⟨rfl, hM.sel (by repeat (first | (with_reducible exact Sel.refl) | (with_reducible exact Take.head) | (with_reducible apply Take.tail) | (with_reducible apply Sel.cons) | (with_reducible apply Sel.drop)))⟩
end Go.Proofs.Ytbnencchfgnbjaa
