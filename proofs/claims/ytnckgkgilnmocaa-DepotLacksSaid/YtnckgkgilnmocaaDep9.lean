/- What the laws share, part 9 (BkA, BkB, BkL). No condition but those that each theorem names. -/
import Derived.Test.YtnckgkgilnmocaaDep2
import Derived.Test.YtnckgkgilnmocaaDep3
import Derived.Test.YtnckgkgilnmocaaDep8
set_option linter.unusedSimpArgs false
set_option linter.unusedVariables false
namespace Go.Proofs.Ytnckgkgilnmocaa
open Go.RowKit
attribute [local go_sem] extract_mid extract_drop bget bsize wrap64_u8 i64_u8 u64_u8 bappend
def slLen : Value → Nat
  | .slice _ n _ => n
  | _ => 0
theorem nums1 (t : Nat) : encNums [(t : Int)] = encNum t := by simp [encNums]
theorem nums2 (t : Nat) : encNums [1, (t : Int)] = encNum 1 ++ encNum t := by simp [encNums]; rfl
theorem Star.pull2b {L R1 R : List SProp} {x y : SProp} {w : World} (h : Star L w) (h1 : Take x L R1) (h2 : Take y R1 R) : Star (x :: y :: R) w := (h.take h1).perm (List.Perm.cons _ h2.perm)
section
variable {F L : List SProp}
theorem numsT {L : List SProp} (t : Nat) (ht : t ≤ 1000000) (g : Nat) (w : World) (hM : Star L w) (hx : rowE 1 (some ⟨g, 0, none⟩) 1 (ivs [(t : Int)]) ∈ L) : Calls Try.prog 49 #[.slice (some ⟨g, 0, none⟩) 1 1] w fun r w' => r = .returned (.string ⟨(encNum t).toArray⟩) ∧ Star L w' := by
  have := nums_star [(t : Int)] _ 1 1 (by intro x hx; rw [List.mem_singleton.1 hx]; omega) (by omega) w hM hx
  rwa [nums1] at this
theorem of2 {L : List SProp} (s u : List UInt8) (hs : s.length ≤ 1000000000) (hu : u.length ≤ 1000000000) (g : Nat) (w : World) (hM : Star L w) (hx : rowE 1 (some ⟨g, 0, none⟩) 2 (svs [s, u]) ∈ L) : Calls Try.prog 65 #[.slice (some ⟨g, 0, none⟩) 2 2] w fun r w' => r = .returned (.agg (bvs (sha (s ++ u))).toArray) ∧ Star L w' := by
  have := of_star [s, u] _ 2 2 (by simp [hs, hu]) (by omega) w hM hx
  rwa [show cat [s, u] = s ++ u by simp [cat]] at this
theorem str_star {L : List SProp} (l : List UInt8) (hl : l.length ≤ 1000000000) (w : World) (hM : Star L w) : Calls Try.prog 64 #[.string ⟨l.toArray⟩] w fun r w' => r = .returned (.string ⟨(encStr l).toArray⟩) ∧ Star L w' := star0 (encStr_any l (by omega) w) hM
set_option maxRecDepth 100000 in
theorem hasP (s t : List UInt8) (hs : s.length ≤ 1000000000) (ht : t.length ≤ s.length) (b : Bool) (hb : decide (s.take t.length = t) = b) (w : World) : Calls Try.prog 75 #[.string ⟨s.toArray⟩, .string ⟨t.toArray⟩] w fun r w' => r = .returned (.bool b) ∧ w = w' := by
  have H : Hid (∀ w, Calls Try.prog 94 #[.string ⟨s.toArray⟩, .string ⟨t.toArray⟩] w fun r w' => r = .returned (.bool b) ∧ w = w') := fun w => by
    have HB := Lib.hid hb
    clear hb
    go_enter Try.func94, Try.ntmps94
    go_wp2_with (first | ((with_reducible refine at_bin' (op := .eql) ?_); refine BigFrame.wpList_want (by rfl) fun K hK => ws_of_ex (ex_eqs rfl rfl rfl HB.out) (hK _ _ ?_); clear hK K))
    go_ret
    exact ⟨rfl, rfl⟩
  clear hb
  go_enter Try.func75, Try.ntmps75
  go_wp2_with (first | (go_at_call 94; refine (H.out _).mono ?_; rintro _ _ ⟨rfl, rfl⟩))
  go_ret
  exact ⟨rfl, rfl⟩
set_option maxRecDepth 100000 in
theorem sectors_b (n : Nat) (hn : n ≤ 1000000000) (w : World) : Calls Try.prog 48 #[.int .i64 n] w fun r w' => r = .returned (.int .i64 ((n + 63) / 64 : Nat)) ∧ w = w' := by
  go_enter Try.func48, Try.ntmps48
  go_wp2
  go_ret
  exact ⟨by go_num, rfl⟩
set_option maxRecDepth 100000 in
theorem cost_b (n : Nat) (hn : n ≤ 1000000) (w : World) (hM : Star L w) : Calls Try.prog 21 #[.int .i64 n] w fun r w' => r = .returned (.int .i64 (bcost n : Nat)) ∧ Star L w' := by
  have H1 : Hid (∀ (L : List SProp) (g : Nat) (w : World), Star L w → rowE 1 (some ⟨g, 0, none⟩) 2 (ivs [1, (n : Int)]) ∈ L → Calls Try.prog 49 #[.slice (some ⟨g, 0, none⟩) 2 2] w fun r w' => r = .returned (.string ⟨(encNums [1, (n : Int)]).toArray⟩) ∧ Star L w') := fun L g w hM hx => nums_star [1, (n : Int)] _ 2 2 (by intro x hx; simp at hx; omega) (by omega) w hM hx
  have hl : (encNums [1, (n : Int)]).length = 2 + nlen n := by rw [nums2, List.length_append]; rfl
  have hm : (if (n : Int) < 0 then (0 : Int) else n) = n := if_neg (by omega)
  have hm2 : max (n : Int) 0 = n := by omega
  have hq := nlen_le n
  have HQ : Hid (((32 + (2 + nlen n) + n + 63) / 64 : Nat) = bcost n) := by show _ = _; unfold bcost; congr 1; omega
  generalize nlen n = q at hl hq HQ
  generalize encNums [1, (n : Int)] = s at H1 hl
  go_enter Try.func21, Try.ntmps21
  go_wp2_with (first | (first | ((with_reducible refine at_slice' ?_); (have hM0 := hM; clear hM; refine BigFrame.wpList_want (by rfl) fun K hK => ws_slice_row hM0 (n := 2) rfl 3 1 (.int .i64 0) [iv 1, iv n] Try.underlying57 (by kernel_rfl) rfl (by simp [Value.cells, iv, sv, bv]) (by rfl) (by decide) (cs := ivs [1, (n : Int)]) (by rfl) (fun g6 w hM => hK _ _ ?_); clear hM0 hK K)) | fail) | (go_at_call 49; have hM0 := hM; clear hM; (first | (with_reducible refine (H1.out _ g6 _ hM0 (by (repeat (first | assumption | (with_reducible exact mZ) | apply mS)); first | done | fail)).mono ?_) | fail); clear hM0; rintro _ w ⟨rfl, hM⟩) | (go_at_call 48; refine (sectors_b (32 + (2 + q) + n) (by omega) _).mono ?_; rintro _ _ ⟨rfl, rfl⟩))
  go_ret
  exact ⟨by rw [← HQ.out]; go_num, hM.sel (by repeat (first | (with_reducible exact Sel.refl) | (with_reducible exact Take.head) | (with_reducible apply Take.tail) | (with_reducible apply Sel.cons) | (with_reducible apply Sel.drop)))⟩
set_option maxRecDepth 100000 in
theorem head_b (t : Nat) (ht : t ≤ 1000000) (w : World) (hM : Star L w) : Calls Try.prog 76 #[.int .i64 t] w fun r w' => r = .returned (.string ⟨(headT t).toArray⟩) ∧ Star L w' := by
  have hl := encNum_len t
  have HN : Hid (∀ (L : List SProp) (g : Nat) (w : World), Star L w → rowE 1 (some ⟨g, 0, none⟩) 1 (ivs [(t : Int)]) ∈ L → Calls Try.prog 49 #[.slice (some ⟨g, 0, none⟩) 1 1] w fun r w' => r = .returned (.string ⟨(encNum t).toArray⟩) ∧ Star L w') := fun L g w hM hx => numsT t ht g w hM hx
  have HO : Hid (∀ (L : List SProp) (g : Nat) (w : World), Star L w → rowE 1 (some ⟨g, 0, none⟩) 2 (svs [[104, 101, 97, 100], encNum t]) ∈ L → Calls Try.prog 65 #[.slice (some ⟨g, 0, none⟩) 2 2] w fun r w' => r = .returned (.agg (bvs (sha ([104, 101, 97, 100] ++ encNum t))).toArray) ∧ Star L w') := fun L g w hM hx => of2 _ _ (by simp) (by omega) g w hM hx
  have HR : Hid (sha ([104, 101, 97, 100] ++ encNum t) ++ encNum t = headT t) := rfl
  have hsl : (sha ([104, 101, 97, 100] ++ encNum t)).length = 32 := sha_len _
  generalize sha ([104, 101, 97, 100] ++ encNum t) = h at HO HR hsl
  generalize encNum t = s at HN HO HR hl
  have HSL := Lib.hid hsl
  go_enter Try.func76, Try.ntmps76
  go_wp2_with (first | (first | ((with_reducible refine at_slice' ?_); (have hM0 := hM; clear hM; refine BigFrame.wpList_want (by rfl) fun K hK => ws_slice_row hM0 (n := 1) rfl 3 1 (.int .i64 0) [iv t] Try.underlying57 (by kernel_rfl) rfl (by simp [Value.cells, iv, sv, bv]) (by rfl) (by decide) (cs := ivs [(t : Int)]) (by rfl) (fun g6 w hM => hK _ _ ?_); clear hM0 hK K)) | fail) | (go_at_call 49; have hM0 := hM; clear hM; (first | (with_reducible refine (HN.out _ g6 _ hM0 (by (repeat (first | assumption | (with_reducible exact mZ) | apply mS)); first | done | fail)).mono ?_) | fail); clear hM0; rintro _ w ⟨rfl, hM⟩) | (first | ((with_reducible refine at_slice' ?_); (have hM0 := hM; clear hM; refine BigFrame.wpList_want (by rfl) fun K hK => ws_slice_row hM0 (n := 2) rfl 9 1 (.string ByteArray.empty) [sv [104, 101, 97, 100], sv s] Try.underlying59 (by kernel_rfl) rfl (by simp [Value.cells, iv, sv, bv]) (by rfl) (by decide) (cs := svs [[104, 101, 97, 100], s]) (by rfl) (fun g9 w hM => hK _ _ ?_); clear hM0 hK K)) | fail) | (go_at_call 65; have hM0 := hM; clear hM; (first | (with_reducible refine (HO.out _ g9 _ hM0 (by (repeat (first | assumption | (with_reducible exact mZ) | apply mS)); first | done | fail)).mono ?_) | fail); clear hM0; rintro _ w ⟨rfl, hM⟩) | (first | ((with_reducible refine at_alloc' ?_); (have hM0 := hM; clear hM; refine BigFrame.wpList_want (by rfl) fun K hK => ws_alloc hM0 (t := 72) rfl (bvs z32).toArray info_sum (fun g4 w hM => hK _ _ ?_); clear hM0 hK K)) | fail) | (first | ((with_reducible refine at_store' ?_); (have hM0 := hM; clear hM; refine BigFrame.wpList_want (by rfl) fun K hK => ws_store hM0 rfl rfl rfl (by (repeat (first | (with_reducible exact Take.head) | apply Take.tail)); first | done | fail) (n := 32) (by simp [bvs_len, HSL.out]) (by simp [bvs_len, z32_len]) (by kernel_rfl) (by simpa using bvs_oneCell _) (fun w hM => hK _ _ ?_); clear hM0 hK K)) | fail) | (first | ((with_reducible refine at_convert' ?_); (refine BigFrame.wpList_want (by rfl) fun K hK => ws_string (l := h) rfl 5 Try.underlying84 Try.underlying9 Try.underlying5 rfl (by first | (apply Star.row hM; (repeat (first | assumption | (with_reducible exact mZ) | apply mS)); done) | (apply Star.own hM; (repeat (first | assumption | (with_reducible exact mZ) | apply mS)); done) | (apply Star.arr hM; (focus ((repeat (first | assumption | (with_reducible exact mZ) | apply mS)); done)); assumption)) (hK _ _ ?_); clear hK K)) | fail))
  go_ret
  exact ⟨ret_str HR.out, hM.sel (by repeat (first | (with_reducible exact Sel.refl) | (with_reducible exact Take.head) | (with_reducible apply Take.tail) | (with_reducible apply Sel.cons) | (with_reducible apply Sel.drop)))⟩
set_option maxRecDepth 100000 in
theorem seed_b (t : Nat) (ht : t ≤ 1000000) (w : World) (hM : Star L w) : Calls Try.prog 77 #[.int .i64 t] w fun r w' => r = .returned (.string ⟨(seedT t).toArray⟩) ∧ Star L w' := by
  have hl := encNum_len t
  have HN : Hid (∀ (L : List SProp) (g : Nat) (w : World), Star L w → rowE 1 (some ⟨g, 0, none⟩) 1 (ivs [(t : Int)]) ∈ L → Calls Try.prog 49 #[.slice (some ⟨g, 0, none⟩) 1 1] w fun r w' => r = .returned (.string ⟨(encNum t).toArray⟩) ∧ Star L w') := fun L g w hM hx => numsT t ht g w hM hx
  have HO : Hid (∀ (L : List SProp) (g : Nat) (w : World), Star L w → rowE 1 (some ⟨g, 0, none⟩) 2 (svs [[116, 117, 114, 110], encNum t]) ∈ L → Calls Try.prog 65 #[.slice (some ⟨g, 0, none⟩) 2 2] w fun r w' => r = .returned (.agg (bvs (seedT t)).toArray) ∧ Star L w') := fun L g w hM hx => of2 _ _ (by simp) (by omega) g w hM hx
  have hsl := seedT_len t
  generalize seedT t = h at HO hsl ⊢
  have HSL := Lib.hid hsl
  generalize encNum t = s at HN HO hl
  go_enter Try.func77, Try.ntmps77
  go_wp2_with (first | (first | ((with_reducible refine at_slice' ?_); (have hM0 := hM; clear hM; refine BigFrame.wpList_want (by rfl) fun K hK => ws_slice_row hM0 (n := 1) rfl 3 1 (.int .i64 0) [iv t] Try.underlying57 (by kernel_rfl) rfl (by simp [Value.cells, iv, sv, bv]) (by rfl) (by decide) (cs := ivs [(t : Int)]) (by rfl) (fun g5 w hM => hK _ _ ?_); clear hM0 hK K)) | fail) | (go_at_call 49; have hM0 := hM; clear hM; (first | (with_reducible refine (HN.out _ g5 _ hM0 (by (repeat (first | assumption | (with_reducible exact mZ) | apply mS)); first | done | fail)).mono ?_) | fail); clear hM0; rintro _ w ⟨rfl, hM⟩) | (first | ((with_reducible refine at_slice' ?_); (have hM0 := hM; clear hM; refine BigFrame.wpList_want (by rfl) fun K hK => ws_slice_row hM0 (n := 2) rfl 9 1 (.string ByteArray.empty) [sv [116, 117, 114, 110], sv s] Try.underlying59 (by kernel_rfl) rfl (by simp [Value.cells, iv, sv, bv]) (by rfl) (by decide) (cs := svs [[116, 117, 114, 110], s]) (by rfl) (fun g9 w hM => hK _ _ ?_); clear hM0 hK K)) | fail) | (go_at_call 65; have hM0 := hM; clear hM; (first | (with_reducible refine (HO.out _ g9 _ hM0 (by (repeat (first | assumption | (with_reducible exact mZ) | apply mS)); first | done | fail)).mono ?_) | fail); clear hM0; rintro _ w ⟨rfl, hM⟩) | (first | ((with_reducible refine at_alloc' ?_); (have hM0 := hM; clear hM; refine BigFrame.wpList_want (by rfl) fun K hK => ws_alloc hM0 (t := 72) rfl (bvs z32).toArray info_sum (fun g4 w hM => hK _ _ ?_); clear hM0 hK K)) | fail) | (first | ((with_reducible refine at_store' ?_); (have hM0 := hM; clear hM; refine BigFrame.wpList_want (by rfl) fun K hK => ws_store hM0 rfl rfl rfl (by (repeat (first | (with_reducible exact Take.head) | apply Take.tail)); first | done | fail) (n := 32) (by simp [bvs_len, HSL.out]) (by simp [bvs_len, z32_len]) (by kernel_rfl) (by simpa using bvs_oneCell _) (fun w hM => hK _ _ ?_); clear hM0 hK K)) | fail) | (first | ((with_reducible refine at_convert' ?_); (refine BigFrame.wpList_want (by rfl) fun K hK => ws_string (l := h) rfl 5 Try.underlying84 Try.underlying9 Try.underlying5 rfl (by first | (apply Star.row hM; (repeat (first | assumption | (with_reducible exact mZ) | apply mS)); done) | (apply Star.own hM; (repeat (first | assumption | (with_reducible exact mZ) | apply mS)); done) | (apply Star.arr hM; (focus ((repeat (first | assumption | (with_reducible exact mZ) | apply mS)); done)); assumption)) (hK _ _ ?_); clear hK K)) | fail))
  go_ret
  exact ⟨rfl, hM.sel (by repeat (first | (with_reducible exact Sel.refl) | (with_reducible exact Take.head) | (with_reducible apply Take.tail) | (with_reducible apply Sel.cons) | (with_reducible apply Sel.drop)))⟩
set_option maxRecDepth 100000 in
theorem spell_b {p d : List UInt8} {k : Nat} (hk : k ≤ 200) (hp : p.length = 32) (hd : d.length ≤ 4096) (w : World) (hM : Star L w) : Calls Try.prog 37 #[.string ⟨p.toArray⟩, .int .i64 k, .string ⟨d.toArray⟩] w fun r w' => r = .returned (.tuple #[.string ⟨(rtxt p (k, d)).toArray⟩, .string ⟨(rsum p (k, d)).toArray⟩]) ∧ Star L w' := by
  have hl := encNum_len k
  have hl2 := encStr_len d
  have HN : Hid (∀ (L : List SProp) (g : Nat) (w : World), Star L w → rowE 1 (some ⟨g, 0, none⟩) 1 (ivs [(k : Int)]) ∈ L → Calls Try.prog 49 #[.slice (some ⟨g, 0, none⟩) 1 1] w fun r w' => r = .returned (.string ⟨(encNum k).toArray⟩) ∧ Star L w') := fun L g w hM hx => numsT k (by omega) g w hM hx
  have HS : Hid (∀ (L : List SProp) (w : World), Star L w → Calls Try.prog 64 #[.string ⟨d.toArray⟩] w fun r w' => r = .returned (.string ⟨(encStr d).toArray⟩) ∧ Star L w') := fun L w hM => str_star d (by omega) w hM
  have HO : Hid (∀ (L : List SProp) (g : Nat) (w : World), Star L w → rowE 1 (some ⟨g, 0, none⟩) 2 (svs [p, encNum k ++ encStr d]) ∈ L → Calls Try.prog 65 #[.slice (some ⟨g, 0, none⟩) 2 2] w fun r w' => r = .returned (.agg (bvs (rsum p (k, d))).toArray) ∧ Star L w') := fun L g w hM hx => of2 p (encNum k ++ encStr d) (by omega) (by rw [List.length_append]; omega) g w hM hx
  have HR : Hid (rsum p (k, d) ++ (encNum k ++ encStr d) = rtxt p (k, d)) := rfl
  have hsl := rsum_len p (k, d)
  generalize rsum p (k, d) = h at HO HR hsl ⊢
  generalize encNum k = s at HN HO HR hl
  generalize encStr d = u at HS HO HR hl2
  have HSL := Lib.hid hsl
  replace hl2 : u.length ≤ 4105 := by omega
  have hn1 : ¬ (9223372036854775807 < s.length + u.length) := by omega
  have hn2 : ¬ (9223372036854775807 < 32 + (s.length + u.length)) := by omega
  clear hd
  go_enter Try.func37, Try.ntmps37
  go_wp2_with (first | (first | ((with_reducible refine at_slice' ?_); (have hM0 := hM; clear hM; refine BigFrame.wpList_want (by rfl) fun K hK => ws_slice_row hM0 (n := 1) rfl 3 1 (.int .i64 0) [iv k] Try.underlying57 (by kernel_rfl) rfl (by simp [Value.cells, iv, sv, bv]) (by rfl) (by decide) (cs := ivs [(k : Int)]) (by rfl) (fun g5 w hM => hK _ _ ?_); clear hM0 hK K)) | fail) | (go_at_call 49; have hM0 := hM; clear hM; (first | (with_reducible refine (HN.out _ g5 _ hM0 (by (repeat (first | assumption | (with_reducible exact mZ) | apply mS)); first | done | fail)).mono ?_) | fail); clear hM0; rintro _ w ⟨rfl, hM⟩) | (go_at_call 64; have hM0 := hM; clear hM; (first | (with_reducible refine (HS.out _ _ hM0).mono ?_) | fail); clear hM0; rintro _ w ⟨rfl, hM⟩) | (first | ((with_reducible refine at_slice' ?_); (have hM0 := hM; clear hM; refine BigFrame.wpList_want (by rfl) fun K hK => ws_slice_row hM0 (n := 2) rfl 9 1 (.string ByteArray.empty) [sv p, sv (s ++ u)] Try.underlying59 (by kernel_rfl) rfl (by simp [Value.cells, iv, sv, bv]) (by rfl) (by decide) (cs := svs [p, s ++ u]) (by rfl) (fun g9 w hM => hK _ _ ?_); clear hM0 hK K)) | fail) | (go_at_call 65; have hM0 := hM; clear hM; (first | (with_reducible refine (HO.out _ g9 _ hM0 (by (repeat (first | assumption | (with_reducible exact mZ) | apply mS)); first | done | fail)).mono ?_) | fail); clear hM0; rintro _ w ⟨rfl, hM⟩) | (first | ((with_reducible refine at_alloc' ?_); (have hM0 := hM; clear hM; refine BigFrame.wpList_want (by rfl) fun K hK => ws_alloc hM0 (t := 72) rfl (bvs z32).toArray info_sum (fun g4 w hM => hK _ _ ?_); clear hM0 hK K)) | fail) | (first | ((with_reducible refine at_store' ?_); (have hM0 := hM; clear hM; refine BigFrame.wpList_want (by rfl) fun K hK => ws_store hM0 rfl rfl rfl (by (repeat (first | (with_reducible exact Take.head) | apply Take.tail)); first | done | fail) (n := 32) (by simp [bvs_len, HSL.out]) (by simp [bvs_len, z32_len]) (by kernel_rfl) (by simpa using bvs_oneCell _) (fun w hM => hK _ _ ?_); clear hM0 hK K)) | fail))
  (refine region_RS ([cellsE g4 72 (bvs h).toArray]) [] (by kernel_rfl) hM ?_; clear hM; change RS _ _ _ _ _ _ 8 (Array.replicate 8 false) _ _; refine RS_take (i := 0) rfl (by decide +kernel) (fun _ _ _ h => h) (by first | (intro x hx; (repeat (first | exact hx | apply mS)); done) | ((repeat (refine List.forall_mem_cons.2 ⟨(by (repeat (first | assumption | (with_reducible exact mZ) | apply mS)); first | done | fail), ?_⟩)); intro x hx; first | (cases hx; done) | ((repeat (first | exact hx | apply mS)); done))) (stab_pure (by rfl) (fun w => (by go_simp; try with_reducible rfl))) ?_; simp only [Act.put, List.setIfInBounds_toArray, List.set_cons_zero, List.set_cons_succ]; refine RS_take (i := 1) rfl (by decide +kernel) (fun _ _ _ h => h) (by first | (intro x hx; (repeat (first | exact hx | apply mS)); done) | ((repeat (refine List.forall_mem_cons.2 ⟨(by (repeat (first | assumption | (with_reducible exact mZ) | apply mS)); first | done | fail), ?_⟩)); intro x hx; first | (cases hx; done) | ((repeat (first | exact hx | apply mS)); done))) (stab_read (by rfl) (fun L w hL hM => (ex_string rfl 5 Try.underlying84 Try.underlying9 Try.underlying5 rfl (hM.arr (hL _ (by (repeat (first | assumption | (with_reducible exact mZ) | apply mS)); first | done | fail)) HSL.out)))) ?_; simp only [Act.put, List.setIfInBounds_toArray, List.set_cons_zero, List.set_cons_succ]; refine RS_take (i := 2) rfl (by decide +kernel) (fun _ _ _ h => h) (by first | (intro x hx; (repeat (first | exact hx | apply mS)); done) | ((repeat (refine List.forall_mem_cons.2 ⟨(by (repeat (first | assumption | (with_reducible exact mZ) | apply mS)); first | done | fail), ?_⟩)); intro x hx; first | (cases hx; done) | ((repeat (first | exact hx | apply mS)); done))) (stab_pure (by rfl) (fun w => (by go_simp; try with_reducible rfl))) ?_; simp only [Act.put, List.setIfInBounds_toArray, List.set_cons_zero, List.set_cons_succ]; refine RS_take (i := 3) rfl (by decide +kernel) (fun _ _ _ h => h) (by first | (intro x hx; (repeat (first | exact hx | apply mS)); done) | ((repeat (refine List.forall_mem_cons.2 ⟨(by (repeat (first | assumption | (with_reducible exact mZ) | apply mS)); first | done | fail), ?_⟩)); intro x hx; first | (cases hx; done) | ((repeat (first | exact hx | apply mS)); done))) (stab_pure (by rfl) (fun w => (by go_simp; try with_reducible rfl))) ?_; simp only [Act.put, List.setIfInBounds_toArray, List.set_cons_zero, List.set_cons_succ]; refine RS_take (i := 4) rfl (by decide +kernel) (fun _ _ _ h => h) (by first | (intro x hx; (repeat (first | exact hx | apply mS)); done) | ((repeat (refine List.forall_mem_cons.2 ⟨(by (repeat (first | assumption | (with_reducible exact mZ) | apply mS)); first | done | fail), ?_⟩)); intro x hx; first | (cases hx; done) | ((repeat (first | exact hx | apply mS)); done))) (stab_pure (by rfl) (fun w => (by go_simp; try with_reducible rfl))) ?_; simp only [Act.put, List.setIfInBounds_toArray, List.set_cons_zero, List.set_cons_succ]; refine RS_take (i := 5) rfl (by decide +kernel) (fun _ _ _ h => h) (by first | (intro x hx; (repeat (first | exact hx | apply mS)); done) | ((repeat (refine List.forall_mem_cons.2 ⟨(by (repeat (first | assumption | (with_reducible exact mZ) | apply mS)); first | done | fail), ?_⟩)); intro x hx; first | (cases hx; done) | ((repeat (first | exact hx | apply mS)); done))) (stab_read (by rfl) (fun L w hL hM => (ex_string rfl 5 Try.underlying84 Try.underlying9 Try.underlying5 rfl (hM.arr (hL _ (by (repeat (first | assumption | (with_reducible exact mZ) | apply mS)); first | done | fail)) HSL.out)))) ?_; simp only [Act.put, List.setIfInBounds_toArray, List.set_cons_zero, List.set_cons_succ]; refine RS_take (i := 6) rfl (by decide +kernel) (fun _ _ _ h => h) (by first | (intro x hx; (repeat (first | exact hx | apply mS)); done) | ((repeat (refine List.forall_mem_cons.2 ⟨(by (repeat (first | assumption | (with_reducible exact mZ) | apply mS)); first | done | fail), ?_⟩)); intro x hx; first | (cases hx; done) | ((repeat (first | exact hx | apply mS)); done))) (stab_pure (by rfl) (fun w => (by go_simp; try with_reducible rfl))) ?_; simp only [Act.put, List.setIfInBounds_toArray, List.set_cons_zero, List.set_cons_succ]; refine RS_take (i := 7) rfl (by decide +kernel) (fun _ _ _ h => h) (by first | (intro x hx; (repeat (first | exact hx | apply mS)); done) | ((repeat (refine List.forall_mem_cons.2 ⟨(by (repeat (first | assumption | (with_reducible exact mZ) | apply mS)); first | done | fail), ?_⟩)); intro x hx; first | (cases hx; done) | ((repeat (first | exact hx | apply mS)); done))) (stab_pure (by rfl) (fun w => (by go_simp; try with_reducible rfl))) ?_; simp only [Act.put, List.setIfInBounds_toArray, List.set_cons_zero, List.set_cons_succ]; refine RS_done (by decide +kernel) (.inl (by first | (intro x hx; (repeat (first | exact hx | apply mS)); done) | ((repeat (refine List.forall_mem_cons.2 ⟨(by (repeat (first | assumption | (with_reducible exact mZ) | apply mS)); first | done | fail), ?_⟩)); intro x hx; first | (cases hx; done) | ((repeat (first | exact hx | apply mS)); done)))) (fun w hM => ?_))
  go_wp2_with fail
  go_ret2
  exact ⟨by rw [← HR.out]; rfl, hM.sel (by repeat (first | (with_reducible exact Sel.refl) | (with_reducible exact Take.head) | (with_reducible apply Take.tail) | (with_reducible apply Sel.cons) | (with_reducible apply Sel.drop)))⟩
set_option maxRecDepth 100000 in
theorem split_b (s : List UInt8) (n : Nat) (hs : s.length ≤ 100000) (h1 : 64 * n < s.length + 64) (h2 : s.length ≤ 64 * n) (h0 : 1 ≤ s.length) (w : World) (hM : Star L w) : Calls Try.prog 39 #[.string ⟨s.toArray⟩] w fun r w' => ∃ A c, r = .returned (.slice A n c) ∧ Star (rowE 1 A n (svs (spl s n)) :: L) w' := by
  have HH1 := Lib.hid h1
  have HH2 := Lib.hid h2
  have HHs := Lib.hid hs
  have HH0 := Lib.hid h0
  clear h1 h2 hs h0
  go_enter Try.func39, Try.ntmps39
  go_wp2
  replace hM := hM.nilown 9 1
  go_loopw [0, 3] (fun v out wr => ∃ (j m : Nat) (A : Option Addr) (c : Nat) (u : List UInt8), v = .string ⟨u.toArray⟩ ∧ u.length = m ∧ m + 64 * j = s.length ∧ 1 ≤ m ∧ j ≤ 2000 ∧ Hid (u = s.drop (64 * j)) ∧ out = .slice A j c ∧ Star (ownE 9 1 A j c (svs (spl s j)) :: L) wr) (fun _ v _ => 2000 - slLen v)
  case atStart => exact ⟨0, s.length, none, 0, s, rfl, rfl, by omega, HH0.out, by omega, rfl, rfl, hM⟩
  case round =>
    clear hM
    obtain ⟨j, m, A, c, u, rfl, hu, hm, hm1, hj2, hud, rfl, hM⟩ := hrel
    by_cases hg : 64 < m
    · have h1 : (64 : Int) < m := by omega
      have h2 : ¬ (64 : Int) > (m : Int) := by omega
      go_wp2_with (first | (first | ((with_reducible refine at_slice' ?_); (have hM0 := hM; clear hM; refine BigFrame.wpList_want (by rfl) fun K hK => ws_slice_row hM0 (n := 1) rfl 9 1 (.string ByteArray.empty) [sv (u.take 64)] Try.underlying59 (by kernel_rfl) rfl (by simp [Value.cells, iv, sv, bv]) (by rfl) (by decide) (cs := svs [u.take 64]) (by rfl) (fun gr w hM => hK _ _ ?_); clear hM0 hK K)) | fail) | (first | ((with_reducible refine at_call' ?_); (have hM0 := hM; clear hM; refine BigFrame.wpList_want (by rfl) fun K hK => ws_append hM0 rfl rfl rfl 9 ((.string ByteArray.empty)) 1 16 Try.underlying59 (by kernel_rfl) (by rfl) (by decide) (by (repeat (first | (with_reducible exact Take.head) | apply Take.tail)); first | done | fail) (by first | (apply Star.row hM0; (repeat (first | assumption | (with_reducible exact mZ) | apply mS)); done) | (apply Star.own hM0; (repeat (first | assumption | (with_reducible exact mZ) | apply mS)); done) | (apply Star.arr hM0; (focus ((repeat (first | assumption | (with_reducible exact mZ) | apply mS)); done)); assumption)) (svs_one [u.take 64]) ((by omega)) (fun A1 c1 w hM hnil => hK _ _ ?_); clear hM0 hK K)) | fail))
      go_roundw
      case rel =>
        refine ⟨j + 1, m - 64, A1, c1, u.drop 64, ?_, by rw [List.length_drop]; omega, by omega, by omega, by have := HHs.out; omega, ?_, rfl, ?_⟩
        · first | rfl | rw [List.take_of_length_le (l := u) (by omega)] | simp
        · show _ = _
          rw [hud.out, List.drop_drop]
          congr 1
        · rw [spl_succ, ← hud.out, svs_app]
          exact hM.sel (by repeat (first | (with_reducible exact Sel.refl) | (with_reducible exact Take.head) | (with_reducible apply Take.tail) | (with_reducible apply Sel.cons) | (with_reducible apply Sel.drop)))
      case measure => have := HHs.out; simp [slLen]; omega
    · have hjn : n = j + 1 := by have := HH1.out; have := HH2.out; omega
      subst hjn
      have h1 : ¬ (64 : Int) < m := by omega
      have hut : u.take 64 = u := List.take_of_length_le (by omega)
      have HUT := Lib.hid hut
      clear hut
      go_wp2_with (first | (first | ((with_reducible refine at_slice' ?_); (have hM0 := hM; clear hM; refine BigFrame.wpList_want (by rfl) fun K hK => ws_slice_row hM0 (n := 1) rfl 9 1 (.string ByteArray.empty) [sv u] Try.underlying59 (by kernel_rfl) rfl (by simp [Value.cells, iv, sv, bv]) (by rfl) (by decide) (cs := svs [u]) (by rfl) (fun gr w hM => hK _ _ ?_); clear hM0 hK K)) | fail) | (first | ((with_reducible refine at_call' ?_); (have hM0 := hM; clear hM; refine BigFrame.wpList_want (by rfl) fun K hK => ws_append hM0 rfl rfl rfl 9 ((.string ByteArray.empty)) 1 16 Try.underlying59 (by kernel_rfl) (by rfl) (by decide) (by (repeat (first | (with_reducible exact Take.head) | apply Take.tail)); first | done | fail) (by first | (apply Star.row hM0; (repeat (first | assumption | (with_reducible exact mZ) | apply mS)); done) | (apply Star.own hM0; (repeat (first | assumption | (with_reducible exact mZ) | apply mS)); done) | (apply Star.arr hM0; (focus ((repeat (first | assumption | (with_reducible exact mZ) | apply mS)); done)); assumption)) (svs_one [u]) ((by omega)) (fun A1 c1 w hM hnil => hK _ _ ?_); clear hM0 hK K)) | fail))
      go_ret
      have := hM.freeze
      rw [spl_succ, ← hud.out, svs_app, HUT.out]
      exact ⟨A1, ⟨c1, rfl⟩, this.sel (by repeat (first | (with_reducible exact Sel.refl) | (with_reducible exact Take.head) | (with_reducible apply Take.tail) | (with_reducible apply Sel.cons) | (with_reducible apply Sel.drop)))⟩
end
end Go.Proofs.Ytnckgkgilnmocaa
set_option linter.unusedSimpArgs false
set_option linter.unusedVariables false
namespace Go.Proofs.Ytnckgkgilnmocaa
open Go.RowKit
attribute [local go_sem] extract_mid extract_drop bget bsize wrap64_u8 i64_u8 u64_u8 bappend
abbrev bkC (a : DA) (t : Nat) (p : List UInt8) (e : Nat) (m : Value) : Array Value := #[dptr a, .int .i64 (t : Int), .string ⟨p.toArray⟩, .int .i64 (e : Int), m]
abbrev bkc (b : Nat) (a : DA) (t : Nat) (p : List UInt8) (e : Nat) (m : Value) : SProp := cellsE b 45 (bkC a t p e m)
abbrev bptr (b : Nat) : Value := .pointer (some ⟨b, 0, none⟩)
/-- Where a turn's half begins. -/
def frT (h t : Nat) : Nat := 2 + t % 2 * h
theorem frT_le (h t : Nat) : frT h t ≤ 2 + h := by
  unfold frT
  have : t % 2 * h ≤ 1 * h := Nat.mul_le_mul_right h (by omega)
  omega
section
variable {L : List SProp} {b t e : Nat} {a : DA} {p : List UInt8} {m : Value} {D : Dsk}
theorem sizeT (w : World) (hM : Star L w) (hd : diskE a D ∈ L) : Calls Try.prog 69 #[dptr a] w fun r w' => r = .returned (.int .i64 (D.sure.length : Int)) ∧ Star L w' := hM.stays hd fun R hR => size_d w hR
set_option maxRecDepth 100000 in
theorem half_b {N h : Nat} (hN : D.sure.length = N) (h2 : 2 ≤ N) (h6 : N ≤ 65536) (hh : (N - 2) / 2 = h) (w : World) (hM : Star L w) (hb : bkc b a t p e m ∈ L) (hd : diskE a D ∈ L) : Calls Try.prog 41 #[bptr b] w fun r w' => r = .returned (.int .i64 (h : Int)) ∧ Star L w' := by
  have HZ : Hid (∀ (L : List SProp) (w : World), Star L w → diskE a D ∈ L → Calls Try.prog 69 #[dptr a] w fun r w' => r = .returned (.int .i64 (N : Int)) ∧ Star L w') := fun L w hM hd => by have := sizeT w hM hd; rwa [hN] at this
  have HH := Lib.hid hh
  obtain ⟨n, rfl⟩ : ∃ n, N = n + 2 := ⟨N - 2, by omega⟩
  clear hh hN
  go_enter Try.func41, Try.ntmps41
  go_wp2_with (first | (first | ((with_reducible refine at_load' ?_); (refine BigFrame.wpList_want (by rfl) fun K hK => ws_load hM rfl rfl (by (repeat (first | assumption | (with_reducible exact mZ) | apply mS)); first | done | fail) (n := 5) (by rfl) (by decide +kernel) (hK _ _ ?_); clear hK K)) | fail) | (first | ((with_reducible refine at_load' ?_); (refine BigFrame.wpList_want (by rfl) fun K hK => ws_load1 hM rfl rfl (by (repeat (first | assumption | (with_reducible exact mZ) | apply mS)); first | done | fail) (by first | rfl | assumption) (by decide +kernel) (hK _ _ ?_); clear hK K)) | fail) | (go_at_call 69; have hM0 := hM; clear hM; (first | (with_reducible refine (HZ.out _ _ hM0 (by (repeat (first | assumption | (with_reducible exact mZ) | apply mS)); first | done | fail)).mono ?_) | fail); clear hM0; rintro _ w ⟨rfl, hM⟩))
  go_ret
  exact ⟨by rw [← HH.out]; go_num, hM.sel (by repeat (first | (with_reducible exact Sel.refl) | (with_reducible exact Take.head) | (with_reducible apply Take.tail) | (with_reducible apply Sel.cons) | (with_reducible apply Sel.drop)))⟩
/-- What the functions of a book need of its disk. -/
structure HalfOk (D : Dsk) (h : Nat) : Prop where
  lo : 4 ≤ D.sure.length
  hi : D.sure.length ≤ 65536
  half : (D.sure.length - 2) / 2 = h
theorem HalfOk.le {D : Dsk} {h : Nat} (H : HalfOk D h) : 1 ≤ h ∧ 2 + h + h ≤ D.sure.length ∧ h ≤ 40000 := by
  have := H.lo; have := H.hi; have := H.half
  omega
theorem HalfOk.same {D D' : Dsk} {h : Nat} (H : HalfOk D h) (e : D'.sure.length = D.sure.length) : HalfOk D' h := ⟨by rw [e]; exact H.lo, by rw [e]; exact H.hi, by rw [e]; exact H.half⟩
theorem halfT {h : Nat} (H : HalfOk D h) (w : World) (hM : Star L w) (hb : bkc b a t p e m ∈ L) (hd : diskE a D ∈ L) : Calls Try.prog 41 #[bptr b] w fun r w' => r = .returned (.int .i64 (h : Int)) ∧ Star L w' :=
  half_b rfl (by have := H.lo; omega) H.hi H.half w hM hb hd
set_option maxRecDepth 100000 in
theorem from_b {h u : Nat} (H : HalfOk D h) (hu : u ≤ 1000000) (w : World) (hM : Star L w) (hb : bkc b a t p e m ∈ L) (hd : diskE a D ∈ L) : Calls Try.prog 47 #[bptr b, .int .i64 (u : Int)] w fun r w' => r = .returned (.int .i64 (frT h u : Int)) ∧ Star L w' := by
  have HZ : Hid (∀ (L : List SProp) (w : World), Star L w → bkc b a t p e m ∈ L → diskE a D ∈ L → Calls Try.prog 41 #[bptr b] w fun r w' => r = .returned (.int .i64 (h : Int)) ∧ Star L w') := fun L w hM hb hd => halfT H w hM hb hd
  have h3 := H.le.2.2
  have HF : Hid (2 + u % 2 * h = frT h u) := rfl
  generalize frT h u = z at HF ⊢
  clear H
  rcases Nat.mod_two_eq_zero_or_one u with hm | hm
  all_goals
    rw [hm] at HF
    have hm2 : Int.tmod (u : Int) 2 = ((u % 2 : Nat) : Int) := by rw [Int.tmod_eq_emod_of_nonneg (by omega)]; rfl
    rw [hm] at hm2
    clear hm
    simp only [Int.natCast_zero, Int.natCast_one] at hm2
    go_enter Try.func47, Try.ntmps47
    go_wp2_with (first | (go_at_call 41; have hM0 := hM; clear hM; (first | (with_reducible refine (HZ.out _ _ hM0 (by (repeat (first | assumption | (with_reducible exact mZ) | apply mS)); first | done | fail) (by (repeat (first | assumption | (with_reducible exact mZ) | apply mS)); first | done | fail)).mono ?_) | fail); clear hM0; rintro _ w ⟨rfl, hM⟩))
    go_ret
    refine ⟨?_, hM.sel (by repeat (first | (with_reducible exact Sel.refl) | (with_reducible exact Take.head) | (with_reducible apply Take.tail) | (with_reducible apply Sel.cons) | (with_reducible apply Sel.drop)))⟩
    rw [← HF.out]
    first | go_num | simp
set_option maxRecDepth 100000 in
theorem left_b {h : Nat} (H : HalfOk D h) (ht : t ≤ 1000000) (he : e ≤ frT h t + h) (w : World) (hM : Star L w) (hb : bkc b a t p e m ∈ L) (hd : diskE a D ∈ L) : Calls Try.prog 20 #[bptr b] w fun r w' => r = .returned (.int .i64 ((frT h t + h - e : Nat) : Int)) ∧ Star L w' := by
  have HZ : Hid (∀ (L : List SProp) (w : World), Star L w → bkc b a t p e m ∈ L → diskE a D ∈ L → Calls Try.prog 41 #[bptr b] w fun r w' => r = .returned (.int .i64 (h : Int)) ∧ Star L w') := fun L w hM hb hd => halfT H w hM hb hd
  have HF : Hid (∀ (L : List SProp) (w : World), Star L w → bkc b a t p e m ∈ L → diskE a D ∈ L → Calls Try.prog 47 #[bptr b, .int .i64 (t : Int)] w fun r w' => r = .returned (.int .i64 (frT h t : Int)) ∧ Star L w') := fun L w hM hb hd => from_b H ht w hM hb hd
  have h3 := H.le.2.2
  have h4 := frT_le h t
  generalize frT h t = z at HF he h4 ⊢
  have hsub : ((z : Int) + h - e) = ((z + h - e : Nat) : Int) := by omega
  have HSUB := Lib.hid hsub
  clear H hsub
  go_enter Try.func20, Try.ntmps20
  go_wp2_with fail
  (refine region_RS ([bkc b a t p e m, diskE a D]) [] (by kernel_rfl) hM ?_; clear hM; change RS _ _ _ _ _ _ 15 (Array.replicate 15 false) _ _; refine RS_take (i := 0) rfl (by decide +kernel) (fun _ _ _ h => h) (by first | (intro x hx; (repeat (first | exact hx | apply mS)); done) | ((repeat (refine List.forall_mem_cons.2 ⟨(by (repeat (first | assumption | (with_reducible exact mZ) | apply mS)); first | done | fail), ?_⟩)); intro x hx; first | (cases hx; done) | ((repeat (first | exact hx | apply mS)); done))) (stab_pure (by rfl) (fun w => (by go_simp; try with_reducible rfl))) ?_; simp only [Act.put, List.setIfInBounds_toArray, List.set_cons_zero, List.set_cons_succ]; refine RS_take (i := 1) rfl (by decide +kernel) (fun _ _ _ h => h) (by first | (intro x hx; (repeat (first | exact hx | apply mS)); done) | ((repeat (refine List.forall_mem_cons.2 ⟨(by (repeat (first | assumption | (with_reducible exact mZ) | apply mS)); first | done | fail), ?_⟩)); intro x hx; first | (cases hx; done) | ((repeat (first | exact hx | apply mS)); done))) (stab_pure (by rfl) (fun w => (by go_simp; try with_reducible rfl))) ?_; simp only [Act.put, List.setIfInBounds_toArray, List.set_cons_zero, List.set_cons_succ]; refine RS_take (i := 2) rfl (by decide +kernel) (fun _ _ _ h => h) (by first | (intro x hx; (repeat (first | exact hx | apply mS)); done) | ((repeat (refine List.forall_mem_cons.2 ⟨(by (repeat (first | assumption | (with_reducible exact mZ) | apply mS)); first | done | fail), ?_⟩)); intro x hx; first | (cases hx; done) | ((repeat (first | exact hx | apply mS)); done))) (stab_pure (by rfl) (fun w => (by go_simp; try with_reducible rfl))) ?_; simp only [Act.put, List.setIfInBounds_toArray, List.set_cons_zero, List.set_cons_succ]; refine RS_take (i := 3) rfl (by decide +kernel) (fun _ _ _ h => h) (by first | (intro x hx; (repeat (first | exact hx | apply mS)); done) | ((repeat (refine List.forall_mem_cons.2 ⟨(by (repeat (first | assumption | (with_reducible exact mZ) | apply mS)); first | done | fail), ?_⟩)); intro x hx; first | (cases hx; done) | ((repeat (first | exact hx | apply mS)); done))) (stab_pure (by rfl) (fun w => (by go_simp; try with_reducible rfl))) ?_; simp only [Act.put, List.setIfInBounds_toArray, List.set_cons_zero, List.set_cons_succ]; refine RS_take (i := 4) rfl (by decide +kernel) (fun _ _ _ h => h) (by first | (intro x hx; (repeat (first | exact hx | apply mS)); done) | ((repeat (refine List.forall_mem_cons.2 ⟨(by (repeat (first | assumption | (with_reducible exact mZ) | apply mS)); first | done | fail), ?_⟩)); intro x hx; first | (cases hx; done) | ((repeat (first | exact hx | apply mS)); done))) (stab_read (by rfl) (fun L w hL hM => (by first | exact ex_load1 hM rfl rfl (hL _ (by (repeat (first | assumption | (with_reducible exact mZ) | apply mS)); first | done | fail)) rfl (by kernel_rfl) | exact ex_rowload rfl rfl (hM.row (hL _ (by (repeat (first | assumption | (with_reducible exact mZ) | apply mS)); first | done | fail))) (by assumption) (by kernel_rfl) | exact ex_rowload0 rfl rfl (hM.row (hL _ (by (repeat (first | assumption | (with_reducible exact mZ) | apply mS)); first | done | fail))) (by assumption) (by kernel_rfl)))) ?_; simp only [Act.put, List.setIfInBounds_toArray, List.set_cons_zero, List.set_cons_succ]; refine RS_take (i := 5) rfl (by decide +kernel) (fun _ _ _ h => h) (by first | (intro x hx; (repeat (first | exact hx | apply mS)); done) | ((repeat (refine List.forall_mem_cons.2 ⟨(by (repeat (first | assumption | (with_reducible exact mZ) | apply mS)); first | done | fail), ?_⟩)); intro x hx; first | (cases hx; done) | ((repeat (first | exact hx | apply mS)); done))) (stab_call (by rfl) (fun w => (by go_simp; try with_reducible rfl)) (fun L w hL hM => (HF.out _ w hM (hL _ (by (repeat (first | assumption | (with_reducible exact mZ) | apply mS)); first | done | fail)) (hL _ (by (repeat (first | assumption | (with_reducible exact mZ) | apply mS)); first | done | fail))))) ?_; simp only [Act.put, List.setIfInBounds_toArray, List.set_cons_zero, List.set_cons_succ]; refine RS_take (i := 6) rfl (by decide +kernel) (fun _ _ _ h => h) (by first | (intro x hx; (repeat (first | exact hx | apply mS)); done) | ((repeat (refine List.forall_mem_cons.2 ⟨(by (repeat (first | assumption | (with_reducible exact mZ) | apply mS)); first | done | fail), ?_⟩)); intro x hx; first | (cases hx; done) | ((repeat (first | exact hx | apply mS)); done))) (stab_pure (by rfl) (fun w => (by go_simp; try with_reducible rfl))) ?_; simp only [Act.put, List.setIfInBounds_toArray, List.set_cons_zero, List.set_cons_succ]; refine RS_take (i := 7) rfl (by decide +kernel) (fun _ _ _ h => h) (by first | (intro x hx; (repeat (first | exact hx | apply mS)); done) | ((repeat (refine List.forall_mem_cons.2 ⟨(by (repeat (first | assumption | (with_reducible exact mZ) | apply mS)); first | done | fail), ?_⟩)); intro x hx; first | (cases hx; done) | ((repeat (first | exact hx | apply mS)); done))) (stab_call (by rfl) (fun w => (by go_simp; try with_reducible rfl)) (fun L w hL hM => (HZ.out _ w hM (hL _ (by (repeat (first | assumption | (with_reducible exact mZ) | apply mS)); first | done | fail)) (hL _ (by (repeat (first | assumption | (with_reducible exact mZ) | apply mS)); first | done | fail))))) ?_; simp only [Act.put, List.setIfInBounds_toArray, List.set_cons_zero, List.set_cons_succ]; refine RS_take (i := 8) rfl (by decide +kernel) (fun _ _ _ h => h) (by first | (intro x hx; (repeat (first | exact hx | apply mS)); done) | ((repeat (refine List.forall_mem_cons.2 ⟨(by (repeat (first | assumption | (with_reducible exact mZ) | apply mS)); first | done | fail), ?_⟩)); intro x hx; first | (cases hx; done) | ((repeat (first | exact hx | apply mS)); done))) (stab_pure (by rfl) (fun w => (by go_simp; try with_reducible rfl))) ?_; simp only [Act.put, List.setIfInBounds_toArray, List.set_cons_zero, List.set_cons_succ]; refine RS_take (i := 9) rfl (by decide +kernel) (fun _ _ _ h => h) (by first | (intro x hx; (repeat (first | exact hx | apply mS)); done) | ((repeat (refine List.forall_mem_cons.2 ⟨(by (repeat (first | assumption | (with_reducible exact mZ) | apply mS)); first | done | fail), ?_⟩)); intro x hx; first | (cases hx; done) | ((repeat (first | exact hx | apply mS)); done))) (stab_pure (by rfl) (fun w => (by go_simp; try with_reducible rfl))) ?_; simp only [Act.put, List.setIfInBounds_toArray, List.set_cons_zero, List.set_cons_succ]; refine RS_take (i := 10) rfl (by decide +kernel) (fun _ _ _ h => h) (by first | (intro x hx; (repeat (first | exact hx | apply mS)); done) | ((repeat (refine List.forall_mem_cons.2 ⟨(by (repeat (first | assumption | (with_reducible exact mZ) | apply mS)); first | done | fail), ?_⟩)); intro x hx; first | (cases hx; done) | ((repeat (first | exact hx | apply mS)); done))) (stab_pure (by rfl) (fun w => (by go_simp; try with_reducible rfl))) ?_; simp only [Act.put, List.setIfInBounds_toArray, List.set_cons_zero, List.set_cons_succ]; refine RS_take (i := 11) rfl (by decide +kernel) (fun _ _ _ h => h) (by first | (intro x hx; (repeat (first | exact hx | apply mS)); done) | ((repeat (refine List.forall_mem_cons.2 ⟨(by (repeat (first | assumption | (with_reducible exact mZ) | apply mS)); first | done | fail), ?_⟩)); intro x hx; first | (cases hx; done) | ((repeat (first | exact hx | apply mS)); done))) (stab_pure (by rfl) (fun w => (by go_simp; try with_reducible rfl))) ?_; simp only [Act.put, List.setIfInBounds_toArray, List.set_cons_zero, List.set_cons_succ]; refine RS_take (i := 12) rfl (by decide +kernel) (fun _ _ _ h => h) (by first | (intro x hx; (repeat (first | exact hx | apply mS)); done) | ((repeat (refine List.forall_mem_cons.2 ⟨(by (repeat (first | assumption | (with_reducible exact mZ) | apply mS)); first | done | fail), ?_⟩)); intro x hx; first | (cases hx; done) | ((repeat (first | exact hx | apply mS)); done))) (stab_read (by rfl) (fun L w hL hM => (by first | exact ex_load1 hM rfl rfl (hL _ (by (repeat (first | assumption | (with_reducible exact mZ) | apply mS)); first | done | fail)) rfl (by kernel_rfl) | exact ex_rowload rfl rfl (hM.row (hL _ (by (repeat (first | assumption | (with_reducible exact mZ) | apply mS)); first | done | fail))) (by assumption) (by kernel_rfl) | exact ex_rowload0 rfl rfl (hM.row (hL _ (by (repeat (first | assumption | (with_reducible exact mZ) | apply mS)); first | done | fail))) (by assumption) (by kernel_rfl)))) ?_; simp only [Act.put, List.setIfInBounds_toArray, List.set_cons_zero, List.set_cons_succ]; refine RS_take (i := 13) rfl (by decide +kernel) (fun _ _ _ h => h) (by first | (intro x hx; (repeat (first | exact hx | apply mS)); done) | ((repeat (refine List.forall_mem_cons.2 ⟨(by (repeat (first | assumption | (with_reducible exact mZ) | apply mS)); first | done | fail), ?_⟩)); intro x hx; first | (cases hx; done) | ((repeat (first | exact hx | apply mS)); done))) (stab_pure (by rfl) (fun w => (by go_simp; try with_reducible rfl))) ?_; simp only [Act.put, List.setIfInBounds_toArray, List.set_cons_zero, List.set_cons_succ]; refine RS_take (i := 14) rfl (by decide +kernel) (fun _ _ _ h => h) (by first | (intro x hx; (repeat (first | exact hx | apply mS)); done) | ((repeat (refine List.forall_mem_cons.2 ⟨(by (repeat (first | assumption | (with_reducible exact mZ) | apply mS)); first | done | fail), ?_⟩)); intro x hx; first | (cases hx; done) | ((repeat (first | exact hx | apply mS)); done))) (stab_pure (by rfl) (fun w => (by go_simp; try with_reducible rfl))) ?_; simp only [Act.put, List.setIfInBounds_toArray, List.set_cons_zero, List.set_cons_succ]; refine RS_done (by decide +kernel) (.inl (by first | (intro x hx; (repeat (first | exact hx | apply mS)); done) | ((repeat (refine List.forall_mem_cons.2 ⟨(by (repeat (first | assumption | (with_reducible exact mZ) | apply mS)); first | done | fail), ?_⟩)); intro x hx; first | (cases hx; done) | ((repeat (first | exact hx | apply mS)); done)))) (fun w hM => ?_))
  go_wp2_with fail
  go_ret
  refine ⟨?_, hM.sel (by repeat (first | (with_reducible exact Sel.refl) | (with_reducible exact Take.head) | (with_reducible apply Take.tail) | (with_reducible apply Sel.cons) | (with_reducible apply Sel.drop)))⟩
  rw [← HSUB.out]
  have hw : IntKind.i64.wrap (IntKind.i64.wrap ((z : Int) + h) - e) = (z : Int) + h - e := by rw [IntKind.wrap_i64, IntKind.wrap_i64]; omega
  exact congrArg (fun x => Ending.returned (Value.int .i64 x)) hw
set_option maxRecDepth 100000 in
/-- The turn of a head. -/
theorem parse_ok {t : Nat} (h1 : 1 ≤ t) (ht : t ≤ 1000000) (w : World) (hM : Star L w) : Calls Try.prog 43 #[.string ⟨(pad64 (headT t)).toArray⟩] w fun r w' => r = .returned (.int .i64 (t : Int)) ∧ Star L w' := by
  have hl := headT_len t
  have hpad := pad64_short (s := headT t) (by omega)
  have hpl := pad64_len (headT t)
  have hn := headT_num t (List.replicate (64 - (headT t).length) 0) ht
  rw [← hpad] at hn
  have hb1 : mBytes (pad64 (headT t)) 0 32 = ((pad64 (headT t)).take 32, (pad64 (headT t)).drop 32, 0) := by
    unfold mBytes
    rw [if_pos rfl, if_pos ⟨by omega, by rw [hpl]; omega⟩]
    rfl
  have hq : decide ((pad64 (headT t)).take (headT t).length = headT t) = true := by
    rw [decide_eq_true_iff, hpad, List.take_left']
    rfl
  have HP := Lib.hid (hasP (pad64 (headT t)) (headT t) (by omega) (by omega) true hq)
  have HH : Hid (∀ (L : List SProp) (w : World), Star L w → Calls Try.prog 76 #[.int .i64 (t : Int)] w fun r w' => r = .returned (.string ⟨(headT t).toArray⟩) ∧ Star L w') := fun L w hM => head_b t ht w hM
  generalize headT t = hd at hl hn hb1 HP HH hpl hpad hq ⊢
  generalize pad64 hd = s at hn hb1 HP hpl ⊢
  generalize List.replicate (64 - hd.length) 0 = z at hn
  generalize s.take 32 = x at hb1
  generalize s.drop 32 = y at hb1 hn
  have B1 := Lib.hid hb1
  have N1 := Lib.hid hn
  clear hb1 hn hq hpad
  go_enter Try.func43, Try.ntmps43
  go_wp2_with (first | (go_at_call 71; have hM0 := hM; clear hM; (first | (with_reducible refine (sOpen s hM0).mono ?_) | fail); clear hM0; rintro _ w ⟨g, rfl, hM⟩) | (go_at_call 72; have hM0 := hM; clear hM; (first | (with_reducible refine (sBytes B1.out hM0 (by (repeat (first | (with_reducible exact Take.head) | apply Take.tail)); first | done | fail)).mono ?_) | fail); clear hM0; rintro _ w ⟨rfl, hM⟩) | (go_at_call 73; have hM0 := hM; clear hM; (first | (with_reducible refine (sInt (by omega) N1.out hM0 (by (repeat (first | (with_reducible exact Take.head) | apply Take.tail)); first | done | fail)).mono ?_) | fail); clear hM0; rintro _ w ⟨rfl, hM⟩) | (go_at_call 74; have hM0 := hM; clear hM; (first | (with_reducible refine (sErr hM0 (by (repeat (first | assumption | (with_reducible exact mZ) | apply mS)); first | done | fail)).mono ?_) | fail); clear hM0; rintro _ w ⟨rfl, hM⟩) | (go_at_call 76; have hM0 := hM; clear hM; (first | (with_reducible refine (HH.out _ _ hM0).mono ?_) | fail); clear hM0; rintro _ w ⟨rfl, hM⟩) | (go_at_call 75; refine (HP.out _).mono ?_; rintro _ _ ⟨rfl, rfl⟩))
  go_ret
  exact ⟨rfl, hM.sel (by repeat (first | (with_reducible exact Sel.refl) | (with_reducible exact Take.head) | (with_reducible apply Take.tail) | (with_reducible apply Sel.cons) | (with_reducible apply Sel.drop)))⟩
set_option maxRecDepth 100000 in
theorem parse_no (w : World) (hM : Star L w) : Calls Try.prog 43 #[.string ⟨zs64.toArray⟩] w fun r w' => r = .returned (.int .i64 0) ∧ Star L w' := by
  have hn := zero_num.2.2
  have hb1 : mBytes zs64 0 32 = (zs64.take 32, zs64.drop 32, 0) := by
    unfold mBytes
    rw [if_pos rfl, if_pos ⟨by omega, by rw [zs64_len]; omega⟩]
    rfl
  generalize zs64 = s at hn hb1 ⊢
  generalize List.replicate 31 0 = z at hn
  generalize s.take 32 = x at hb1
  generalize s.drop 32 = y at hb1 hn
  have B1 := Lib.hid hb1
  have N1 := Lib.hid hn
  clear hb1 hn
  go_enter Try.func43, Try.ntmps43
  go_wp2_with (first | (go_at_call 71; have hM0 := hM; clear hM; (first | (with_reducible refine (sOpen s hM0).mono ?_) | fail); clear hM0; rintro _ w ⟨g, rfl, hM⟩) | (go_at_call 72; have hM0 := hM; clear hM; (first | (with_reducible refine (sBytes B1.out hM0 (by (repeat (first | (with_reducible exact Take.head) | apply Take.tail)); first | done | fail)).mono ?_) | fail); clear hM0; rintro _ w ⟨rfl, hM⟩) | (go_at_call 73; have hM0 := hM; clear hM; (first | (with_reducible refine (sInt (by omega) N1.out hM0 (by (repeat (first | (with_reducible exact Take.head) | apply Take.tail)); first | done | fail)).mono ?_) | fail); clear hM0; rintro _ w ⟨rfl, hM⟩) | (go_at_call 74; have hM0 := hM; clear hM; (first | (with_reducible refine (sErr hM0 (by (repeat (first | assumption | (with_reducible exact mZ) | apply mS)); first | done | fail)).mono ?_) | fail); clear hM0; rintro _ w ⟨rfl, hM⟩))
  go_ret
  exact ⟨rfl, hM.sel (by repeat (first | (with_reducible exact Sel.refl) | (with_reducible exact Take.head) | (with_reducible apply Take.tail) | (with_reducible apply Sel.cons) | (with_reducible apply Sel.drop)))⟩
end
end Go.Proofs.Ytnckgkgilnmocaa
set_option linter.unusedSimpArgs false
set_option linter.unusedVariables false
namespace Go.Proofs.Ytnckgkgilnmocaa
open Go.RowKit
attribute [local go_sem] extract_mid extract_drop bget bsize wrap64_u8 i64_u8 u64_u8 bappend
theorem results_row2B {P : Program} {fn : Func} {p u v : Tmp} {ty : TypeId} (h : fn.results = #[.cell p ty, .tmp u, .tmp v]) (tmps : Array Value) (w : World) (g : Nat) (t : TypeId) (cs : Array Value) (n : Nat) (x y : Value) (hp : tmps.getD p undef = .pointer (some ⟨g, 0, none⟩)) (hx : tmps.getD u undef = x) (hy : tmps.getD v undef = y) (hg : Blk w g t cs) (hn : cs.size = n) (hr : rowTy P ty n = true) :
    (results fn tmps).run P w = .ok (.tuple #[.agg cs, x, y]) w := by
  obtain ⟨⟨d, h1, h2⟩, h3⟩ := rowTy_und hr
  have hl := run_loadVar_row w g t ty cs (0, 0) d hg h1 (by cases d <;> simp_all) (by rw [h3, hn])
  simp only [Array.getD_eq_getD_getElem?] at hp hx hy
  unfold results
  simp [h, hp, hx, hy, asAddr, hl, Sem.run_bind, Sem.run_pure]
abbrev rcC (k : Nat) (d : List UInt8) (at_ : Nat) : Array Value := #[.int .i64 (k : Int), .string ⟨d.toArray⟩, .int .i64 (at_ : Int)]
abbrev rc0 : Array Value := #[.int .i64 0, .string ⟨#[]⟩, .int .i64 0]
theorem info_rc : (Try.prog.info? 38).map (fun i => i.zero) = some (some (.agg rc0)) := by kernel_rfl
theorem readT {L R : List SProp} {a : DA} {D : Dsk} (at_ n : Nat) (h : D.ok) (hf : D.armed = false) (hi : at_ + n ≤ D.sure.length) {s : List UInt8} (hs : rd D.nw at_ n = s) (w : World) (hM : Star L w) (hx : Take (diskE a D) L R) :
    Calls Try.prog 42 #[dptr a, .int .i64 (at_ : Int), .int .i64 (n : Int)] w fun r w' => ∃ D', Hid (RPost D D') ∧ r = .returned (.tuple #[.string ⟨s.toArray⟩, .int .i64 0]) ∧ Star (diskE a D' :: R) w' := by
  subst hs
  exact read_u (x := at_) (y := n) at_ n rfl rfl h hi hf w (hM.take hx)
section
variable {F : List SProp} {b t e : Nat} {a : DA} {p : List UInt8} {m : Value} {D : Dsk}
set_option maxRecDepth 100000 in
set_option maxHeartbeats 8000000 in
/-- There is none. -/
theorem look_no {h at_ : Nat} (q : List UInt8) (hok : D.ok) (H : HalfOk D h) (hf : D.armed = false) (ht : t ≤ 1000000) (ha : at_ ≤ frT h t + h) (hz : at_ = frT h t + h ∨ D.nw at_ = zs64) (w : World) (hM : Star (diskE a D :: F) w) (hb : bkc b a t p e m ∈ F) :
    Calls Try.prog 78 #[bptr b, .int .i64 (at_ : Int), .string ⟨q.toArray⟩] w fun r w' => ∃ D', Hid (RPost D D') ∧ r = .returned (.tuple #[.agg rc0, .string ⟨#[]⟩, .int .i64 3]) ∧ Star (diskE a D' :: F) w' := by
  have HHF : Hid (∀ (L : List SProp) (w : World), Star L w → bkc b a t p e m ∈ L → diskE a D ∈ L → Calls Try.prog 41 #[bptr b] w fun r w' => r = .returned (.int .i64 (h : Int)) ∧ Star L w') := fun L w hM hb hd => halfT H w hM hb hd
  have HFR : Hid (∀ (L : List SProp) (w : World), Star L w → bkc b a t p e m ∈ L → diskE a D ∈ L → Calls Try.prog 47 #[bptr b, .int .i64 (t : Int)] w fun r w' => r = .returned (.int .i64 (frT h t : Int)) ∧ Star L w') := fun L w hM hb hd => from_b H ht w hM hb hd
  have h3 := H.le
  have h4 := frT_le h t
  generalize frT h t = z at HFR ha hz h4
  have h5 : h ≤ 40000 := h3.2.2
  by_cases hend : at_ = z + h
  · subst hend
    clear hz H h3
    go_enter Try.func78, Try.ntmps78
    go_wp2_with (first | (first | ((with_reducible refine at_alloc' ?_); (have hM0 := hM; clear hM; refine BigFrame.wpList_want (by rfl) fun K hK => ws_alloc hM0 (t := 38) rfl rc0 info_rc (fun g6 w hM => hK _ _ ?_); clear hM0 hK K)) | fail) | (first | ((with_reducible refine at_load' ?_); (refine BigFrame.wpList_want (by rfl) fun K hK => ws_load1 hM rfl rfl (by (repeat (first | assumption | (with_reducible exact mZ) | apply mS)); first | done | fail) (by first | rfl | assumption) (by decide +kernel) (hK _ _ ?_); clear hK K)) | fail) | (go_at_call 47; have hM0 := hM; clear hM; (first | (with_reducible refine (HFR.out _ _ hM0 (by (repeat (first | assumption | (with_reducible exact mZ) | apply mS)); first | done | fail) (by (repeat (first | assumption | (with_reducible exact mZ) | apply mS)); first | done | fail)).mono ?_) | fail); clear hM0; rintro _ w ⟨rfl, hM⟩) | (go_at_call 41; have hM0 := hM; clear hM; (first | (with_reducible refine (HHF.out _ _ hM0 (by (repeat (first | assumption | (with_reducible exact mZ) | apply mS)); first | done | fail) (by (repeat (first | assumption | (with_reducible exact mZ) | apply mS)); first | done | fail)).mono ?_) | fail); clear hM0; rintro _ w ⟨rfl, hM⟩) | (first | ((with_reducible refine at_store' ?_); (have hM0 := hM; clear hM; refine BigFrame.wpList_want (by rfl) fun K hK => ws_store hM0 rfl rfl rfl (by (repeat (first | (with_reducible exact Take.head) | apply Take.tail)); first | done | fail) (n := 3) (by rfl) (by rfl) (by kernel_rfl) (by simp [Value.oneCell']) (fun w hM => hK _ _ ?_); clear hM0 hK K)) | fail))
    refine bodyPost_ret (results_row2B (P := Try.prog) (ty := 38) rfl _ _ g6 38 rc0 3 _ _ rfl rfl rfl (hM.blk (by (repeat (first | assumption | (with_reducible exact mZ) | apply mS)); first | done | fail)) rfl (by decide +kernel)) rfl ?_
    exact ⟨D, ⟨hok, rfl, rfl, fun _ => rfl, fun _ => rfl⟩, rfl, hM.sel (by repeat (first | (with_reducible exact Sel.refl) | (with_reducible exact Take.head) | (with_reducible apply Take.tail) | (with_reducible apply Sel.cons) | (with_reducible apply Sel.drop)))⟩
  · have hz2 : D.nw at_ = zs64 := hz.resolve_left hend
    have hlt : at_ < z + h := by omega
    have HRD : Hid (∀ (L R : List SProp) (w : World), Star L w → Take (diskE a D) L R → Calls Try.prog 42 #[dptr a, .int .i64 (at_ : Int), .int .i64 1] w fun r w' => ∃ D', Hid (RPost D D') ∧ r = .returned (.tuple #[.string ⟨zs64.toArray⟩, .int .i64 0]) ∧ Star (diskE a D' :: R) w') := fun L R w hM hx =>
      readT at_ 1 hok hf (by omega) (by rw [← rdD_rd, rdD_one, hz2]) w hM hx
    have hn := zero_num
    have hzl : zs64.length = 64 := zs64_len
    generalize zs64 = s at HRD hn hzl
    generalize hy : s.drop 32 = y at hn
    have N1 := Lib.hid hn.1
    have N2 := Lib.hid hn.2.1
    have HY : Hid ((s.take 64).drop 32 = y) := by show _ = _; rw [List.take_of_length_le (by omega), hy]
    clear hz hz2 H h3 hn hend hy
    go_enter Try.func78, Try.ntmps78
    go_wp2_with (first | (first | ((with_reducible refine at_alloc' ?_); (have hM0 := hM; clear hM; refine BigFrame.wpList_want (by rfl) fun K hK => ws_alloc hM0 (t := 38) rfl rc0 info_rc (fun g6 w hM => hK _ _ ?_); clear hM0 hK K)) | fail) | (first | ((with_reducible refine at_load' ?_); (refine BigFrame.wpList_want (by rfl) fun K hK => ws_load1 hM rfl rfl (by (repeat (first | assumption | (with_reducible exact mZ) | apply mS)); first | done | fail) (by first | rfl | assumption) (by decide +kernel) (hK _ _ ?_); clear hK K)) | fail) | (go_at_call 47; have hM0 := hM; clear hM; (first | (with_reducible refine (HFR.out _ _ hM0 (by (repeat (first | assumption | (with_reducible exact mZ) | apply mS)); first | done | fail) (by (repeat (first | assumption | (with_reducible exact mZ) | apply mS)); first | done | fail)).mono ?_) | fail); clear hM0; rintro _ w ⟨rfl, hM⟩) | (go_at_call 41; have hM0 := hM; clear hM; (first | (with_reducible refine (HHF.out _ _ hM0 (by (repeat (first | assumption | (with_reducible exact mZ) | apply mS)); first | done | fail) (by (repeat (first | assumption | (with_reducible exact mZ) | apply mS)); first | done | fail)).mono ?_) | fail); clear hM0; rintro _ w ⟨rfl, hM⟩) | (first | ((with_reducible refine at_store' ?_); (have hM0 := hM; clear hM; refine BigFrame.wpList_want (by rfl) fun K hK => ws_store hM0 rfl rfl rfl (by (repeat (first | (with_reducible exact Take.head) | apply Take.tail)); first | done | fail) (n := 3) (by rfl) (by rfl) (by kernel_rfl) (by simp [Value.oneCell']) (fun w hM => hK _ _ ?_); clear hM0 hK K)) | fail) | (go_at_call 42; have hM0 := hM; clear hM; (first | (with_reducible refine (HRD.out _ _ _ hM0 (by (repeat (first | (with_reducible exact Take.head) | apply Take.tail)); first | done | fail)).mono ?_) | fail); clear hM0; rintro _ w ⟨D1, h1, rfl, hM⟩) | ((go_at_call 71; have hM0 := hM; clear hM; (first | (with_reducible refine (sOpen ((s.take 64).drop 32) hM0).mono ?_) | fail); clear hM0; rintro _ w ⟨gb, rfl, hM⟩); rw [HY.out] at hM) | (go_at_call 73; have hM0 := hM; clear hM; (first | (with_reducible refine (sInt (by omega) N1.out hM0 (by (repeat (first | (with_reducible exact Take.head) | apply Take.tail)); first | done | fail)).mono ?_) | fail); clear hM0; rintro _ w ⟨rfl, hM⟩) | (go_at_call 73; have hM0 := hM; clear hM; (first | (with_reducible refine (sInt (by omega) N2.out hM0 (by (repeat (first | (with_reducible exact Take.head) | apply Take.tail)); first | done | fail)).mono ?_) | fail); clear hM0; rintro _ w ⟨rfl, hM⟩) | (go_at_call 74; have hM0 := hM; clear hM; (first | (with_reducible refine (sErr hM0 (by (repeat (first | assumption | (with_reducible exact mZ) | apply mS)); first | done | fail)).mono ?_) | fail); clear hM0; rintro _ w ⟨rfl, hM⟩))
    refine bodyPost_ret (results_row2B (P := Try.prog) (ty := 38) rfl _ _ g6 38 rc0 3 _ _ rfl rfl rfl (hM.blk (by (repeat (first | assumption | (with_reducible exact mZ) | apply mS)); first | done | fail)) rfl (by decide +kernel)) rfl ?_
    exact ⟨D1, h1, rfl, hM.sel (by repeat (first | (with_reducible exact Sel.refl) | (with_reducible exact Take.head) | (with_reducible apply Take.tail) | (with_reducible apply Sel.cons) | (with_reducible apply Sel.drop)))⟩
set_option maxRecDepth 100000 in
set_option maxHeartbeats 8000000 in
/-- The record that lies there. -/
theorem look_ok {h at_ : Nat} {q : List UInt8} {r : Rc} {z0 : List UInt8} (hg : rcGood r) (hq : q.length = 32) (hok : D.ok) (H : HalfOk D h) (hf : D.armed = false) (ht : t ≤ 1000000) (ha : at_ + rcost r ≤ frT h t + h) (hz : rd D.nw at_ (rcost r) = rtxt q r ++ z0) (w : World) (hM : Star (diskE a D :: F) w) (hb : bkc b a t p e m ∈ F) :
    Calls Try.prog 78 #[bptr b, .int .i64 (at_ : Int), .string ⟨q.toArray⟩] w fun e w' => ∃ D', Hid (RPost D D') ∧ e = .returned (.tuple #[.agg (rcC r.1 r.2 at_), .string ⟨(rsum q r).toArray⟩, .int .i64 0]) ∧ Star (diskE a D' :: F) w' := by
  have HHF : Hid (∀ (L : List SProp) (w : World), Star L w → bkc b a t p e m ∈ L → diskE a D ∈ L → Calls Try.prog 41 #[bptr b] w fun r w' => r = .returned (.int .i64 (h : Int)) ∧ Star L w') := fun L w hM hb hd => halfT H w hM hb hd
  have HFR : Hid (∀ (L : List SProp) (w : World), Star L w → bkc b a t p e m ∈ L → diskE a D ∈ L → Calls Try.prog 47 #[bptr b, .int .i64 (t : Int)] w fun r w' => r = .returned (.int .i64 (frT h t : Int)) ∧ Star L w') := fun L w hM hb hd => from_b H ht w hM hb hd
  have h3 := H.le
  have h4 := frT_le h t
  generalize frT h t = z at HFR ha h4
  have h5 : h ≤ 40000 := h3.2.2
  have hc1 := bcost_pos r.2.length
  obtain ⟨k, d⟩ := r
  have hk1 : 1 ≤ k := hg.1
  have hk2 : k ≤ 200 := hg.2.1
  have hd : d.length ≤ 4096 := hg.2.2
  change at_ + bcost d.length ≤ z + h at ha
  change rd D.nw at_ (bcost d.length) = _ at hz
  change 1 ≤ bcost d.length at hc1
  have hrl := rdD_len hok at_ (bcost d.length) (by omega)
  rw [rdD_rd, hz] at hrl
  have hfl : (rtxt q (k, d) ++ z0).take 64 = D.nw at_ := by
    have := rdD_at hok at_ (bcost d.length) 0 (by omega) (by omega)
    rw [rdD_rd, hz] at this
    simpa using this
  obtain ⟨u, hn1, v, hn2, hvl⟩ := first_nums hg q z0 (by rw [hrl]; omega)
  rw [hfl] at hn1
  have hdat := rtxt_data hg q z0
  have hql := nlen_small (n := d.length) (by omega)
  have hcst : 34 + nlen d.length + d.length ≤ 64 * bcost d.length := by unfold bcost; omega
  have HR1 : Hid (∀ (L R : List SProp) (w : World), Star L w → Take (diskE a D) L R → Calls Try.prog 42 #[dptr a, .int .i64 (at_ : Int), .int .i64 1] w fun r w' => ∃ D', Hid (RPost D D') ∧ r = .returned (.tuple #[.string ⟨(D.nw at_).toArray⟩, .int .i64 0]) ∧ Star (diskE a D' :: R) w') := fun L R w hM hx =>
    readT at_ 1 hok hf (by omega) (by rw [← rdD_rd, rdD_one]) w hM hx
  have HR2 : Hid (∀ (D1 : Dsk), Hid (RPost D D1) → ∀ (L R : List SProp) (w : World), Star L w → Take (diskE a D1) L R → Calls Try.prog 42 #[dptr a, .int .i64 (at_ : Int), .int .i64 (bcost d.length : Int)] w fun r w' => ∃ D', Hid (RPost D D') ∧ r = .returned (.tuple #[.string ⟨(rtxt q (k, d) ++ z0).toArray⟩, .int .i64 0]) ∧ Star (diskE a D' :: R) w') := fun D1 h1 L R w hM hx => by
    have h1 := h1.out
    refine (readT at_ (bcost d.length) h1.ok (h1.armed.trans hf) (by rw [h1.sure]; omega) (s := rtxt q (k, d) ++ z0) (by rw [← hz]; exact rd_congr fun i _ _ => h1.nw i) w hM hx).mono ?_
    rintro r w' ⟨D', h2, e, hM⟩
    have h2 := h2.out
    exact ⟨D', ⟨h2.ok, h2.sure.trans h1.sure, h2.armed.trans h1.armed, fun i => (h2.nw i).trans (h1.nw i), fun i => (h2.l i).trans (h1.l i)⟩, e, hM⟩
  have HC : Hid (∀ (L : List SProp) (w : World), Star L w → Calls Try.prog 21 #[.int .i64 (d.length : Int)] w fun r w' => r = .returned (.int .i64 (bcost d.length : Nat)) ∧ Star L w') := fun L w hM => cost_b d.length (by omega) w hM
  have HSP : Hid (∀ (L : List SProp) (w : World), Star L w → Calls Try.prog 37 #[.string ⟨q.toArray⟩, .int .i64 (k : Int), .string ⟨d.toArray⟩] w fun r w' => r = .returned (.tuple #[.string ⟨(rtxt q (k, d)).toArray⟩, .string ⟨(rsum q (k, d)).toArray⟩]) ∧ Star L w') := fun L w hM => spell_b hk2 hq hd w hM
  have htl : (rtxt q (k, d)).length = 34 + nlen d.length + d.length := rtxt_len hg q
  have HP := Lib.hid (hasP (rtxt q (k, d) ++ z0) (rtxt q (k, d)) (by rw [hrl]; have := bcost_le hd; show 64 * bcost d.length ≤ _; omega) (by rw [List.length_append]; omega) true (by rw [decide_eq_true_iff, List.take_left']; rfl))
  have hfl64 : (D.nw at_).length = 64 := nw_len hok (by omega)
  have hcl := bcost_le hd
  simp only at hn1 hn2 hvl hdat ⊢
  generalize rsum q (k, d) = sm at HSP ⊢
  generalize rtxt q (k, d) = tx at HSP HP HR2 hdat hrl
  generalize tx ++ z0 = all at HP HR2 hdat hrl
  generalize D.nw at_ = s at HR1 hn1 hfl64
  generalize bcost d.length = c at HC HR2 ha hcst hrl hc1 hcl
  obtain ⟨vl, hvv⟩ : ∃ vl, v.length = vl := ⟨_, rfl⟩
  obtain ⟨dl, hdl⟩ : ∃ dl, d.length = dl := ⟨_, rfl⟩
  rw [hvv] at hvl
  rw [hdl] at hvl hdat hql hcst hd hn2 HC
  generalize nlen dl = nl at hvl hdat hql hcst
  obtain ⟨f0, hf0⟩ : ∃ f0, f0 = 34 + nl := ⟨_, rfl⟩
  rw [← hf0] at hdat
  obtain ⟨f1, hf1⟩ : ∃ f1, f1 = f0 + dl := ⟨_, rfl⟩
  have hsl : (all.take f1).drop f0 = d := by rw [List.drop_take, hf1, Nat.add_sub_cancel_left]; exact hdat
  have g1 : 64 - (vl : Int) = (f0 : Int) := by omega
  have g2 : (f0 : Int) + dl = (f1 : Int) := by omega
  have g3 : (at_ : Int) < z + h := by omega
  have g4 : (at_ : Int) + c ≤ z + h := by omega
  have g5 : f1 ≤ all.length := by omega
  have g6 : f0 ≤ f1 := by omega
  have g7 : f0 ≤ 37 := by omega
  have g8 : f1 ≤ 5000 := by omega
  have g9 : vl ≤ 30 := by omega
  obtain ⟨y, hy⟩ : ∃ y, (s.take 64).drop 32 = y := ⟨_, rfl⟩
  have hy2 : s.drop 32 = y := by rw [← hy, List.take_of_length_le (by omega)]
  rw [hy2] at hn1
  have HY := Lib.hid hy
  have N1 := Lib.hid hn1
  have N2 := Lib.hid hn2
  have HSL := Lib.hid hsl
  have HDL := Lib.hid hdl
  clear hvl hf0 hf1 hcst hok H hz hy hy2 hn1 hn2 hsl hdl hdat h3 htl hfl hg hf hrl
  have tok1 : True := trivial
  go_enter Try.func78, Try.ntmps78
  go_wp2_with (first | (first | ((with_reducible refine at_alloc' ?_); (have hM0 := hM; clear hM; refine BigFrame.wpList_want (by rfl) fun K hK => ws_alloc hM0 (t := 38) rfl rc0 info_rc (fun gr w hM => hK _ _ ?_); clear hM0 hK K)) | fail) | (first | ((with_reducible refine at_load' ?_); (refine BigFrame.wpList_want (by rfl) fun K hK => ws_load1 hM rfl rfl (by (repeat (first | assumption | (with_reducible exact mZ) | apply mS)); first | done | fail) (by first | rfl | assumption) (by decide +kernel) (hK _ _ ?_); clear hK K)) | fail) | (go_at_call 47; have hM0 := hM; clear hM; (first | (with_reducible refine (HFR.out _ _ hM0 (by (repeat (first | assumption | (with_reducible exact mZ) | apply mS)); first | done | fail) (by (repeat (first | assumption | (with_reducible exact mZ) | apply mS)); first | done | fail)).mono ?_) | fail); clear hM0; rintro _ w ⟨rfl, hM⟩) | (go_at_call 41; have hM0 := hM; clear hM; (first | (with_reducible refine (HHF.out _ _ hM0 (by (repeat (first | assumption | (with_reducible exact mZ) | apply mS)); first | done | fail) (by (repeat (first | assumption | (with_reducible exact mZ) | apply mS)); first | done | fail)).mono ?_) | fail); clear hM0; rintro _ w ⟨rfl, hM⟩) | (go_at_call 42; have hM0 := hM; clear hM; (first | (with_reducible refine (HR1.out _ _ _ hM0 (by (repeat (first | (with_reducible exact Take.head) | apply Take.tail)); first | done | fail)).mono ?_) | fail); clear hM0; rintro _ w ⟨D1, h1, rfl, hM⟩) | ((go_at_call 71; have hM0 := hM; clear hM; (first | (with_reducible refine (sOpen ((s.take 64).drop 32) hM0).mono ?_) | fail); clear hM0; rintro _ w ⟨gb, rfl, hM⟩); rw [HY.out] at hM) | (go_at_call 73; have hM0 := hM; clear hM; (first | (with_reducible refine (sInt (by omega) N1.out hM0 (by (repeat (first | (with_reducible exact Take.head) | apply Take.tail)); first | done | fail)).mono ?_) | fail); clear hM0; rintro _ w ⟨rfl, hM⟩) | (go_at_call 73; have hM0 := hM; clear hM; (first | (with_reducible refine (sInt (by omega) N2.out hM0 (by (repeat (first | (with_reducible exact Take.head) | apply Take.tail)); first | done | fail)).mono ?_) | fail); clear hM0; rintro _ w ⟨rfl, hM⟩) | (go_at_call 74; have hM0 := hM; clear hM; (first | (with_reducible refine (sErr hM0 (by (repeat (first | assumption | (with_reducible exact mZ) | apply mS)); first | done | fail)).mono ?_) | fail); clear hM0; rintro _ w ⟨rfl, hM⟩) | (go_at_call 21; have hM0 := hM; clear hM; (first | (with_reducible refine (HC.out _ _ hM0).mono ?_) | fail); clear hM0; rintro _ w ⟨rfl, hM⟩))
  (refine region_RS ([bkc b a t p e m]) [] (by kernel_rfl) hM ?_; clear hM; change RS _ _ _ _ _ _ 13 (Array.replicate 13 false) _ _; refine RS_take (i := 0) rfl (by decide +kernel) (fun _ _ _ h => h) (by first | (intro x hx; (repeat (first | exact hx | apply mS)); done) | ((repeat (refine List.forall_mem_cons.2 ⟨(by (repeat (first | assumption | (with_reducible exact mZ) | apply mS)); first | done | fail), ?_⟩)); intro x hx; first | (cases hx; done) | ((repeat (first | exact hx | apply mS)); done))) (stab_pure (by rfl) (fun w => (by go_simp; try with_reducible rfl))) ?_; simp only [Act.put, List.setIfInBounds_toArray, List.set_cons_zero, List.set_cons_succ]; refine RS_take (i := 1) rfl (by decide +kernel) (fun _ _ _ h => h) (by first | (intro x hx; (repeat (first | exact hx | apply mS)); done) | ((repeat (refine List.forall_mem_cons.2 ⟨(by (repeat (first | assumption | (with_reducible exact mZ) | apply mS)); first | done | fail), ?_⟩)); intro x hx; first | (cases hx; done) | ((repeat (first | exact hx | apply mS)); done))) (stab_pure (by rfl) (fun w => (by go_simp; try with_reducible rfl))) ?_; simp only [Act.put, List.setIfInBounds_toArray, List.set_cons_zero, List.set_cons_succ]; refine RS_take (i := 2) rfl (by decide +kernel) (fun _ _ _ h => h) (by first | (intro x hx; (repeat (first | exact hx | apply mS)); done) | ((repeat (refine List.forall_mem_cons.2 ⟨(by (repeat (first | assumption | (with_reducible exact mZ) | apply mS)); first | done | fail), ?_⟩)); intro x hx; first | (cases hx; done) | ((repeat (first | exact hx | apply mS)); done))) (stab_pure (by rfl) (fun w => (by go_simp; try with_reducible rfl))) ?_; simp only [Act.put, List.setIfInBounds_toArray, List.set_cons_zero, List.set_cons_succ]; refine RS_take (i := 3) rfl (by decide +kernel) (fun _ _ _ h => h) (by first | (intro x hx; (repeat (first | exact hx | apply mS)); done) | ((repeat (refine List.forall_mem_cons.2 ⟨(by (repeat (first | assumption | (with_reducible exact mZ) | apply mS)); first | done | fail), ?_⟩)); intro x hx; first | (cases hx; done) | ((repeat (first | exact hx | apply mS)); done))) (stab_read (by rfl) (fun L w hL hM => (by first | exact ex_load1 hM rfl rfl (hL _ (by (repeat (first | assumption | (with_reducible exact mZ) | apply mS)); first | done | fail)) rfl (by kernel_rfl) | exact ex_rowload rfl rfl (hM.row (hL _ (by (repeat (first | assumption | (with_reducible exact mZ) | apply mS)); first | done | fail))) (by assumption) (by kernel_rfl) | exact ex_rowload0 rfl rfl (hM.row (hL _ (by (repeat (first | assumption | (with_reducible exact mZ) | apply mS)); first | done | fail))) (by assumption) (by kernel_rfl)))) ?_; simp only [Act.put, List.setIfInBounds_toArray, List.set_cons_zero, List.set_cons_succ]; refine RS_take (i := 4) rfl (by decide +kernel) (fun _ _ _ h => h) (by first | (intro x hx; (repeat (first | exact hx | apply mS)); done) | ((repeat (refine List.forall_mem_cons.2 ⟨(by (repeat (first | assumption | (with_reducible exact mZ) | apply mS)); first | done | fail), ?_⟩)); intro x hx; first | (cases hx; done) | ((repeat (first | exact hx | apply mS)); done))) (stab_pure (by rfl) (fun w => (by go_simp; try with_reducible rfl))) ?_; simp only [Act.put, List.setIfInBounds_toArray, List.set_cons_zero, List.set_cons_succ]; refine RS_take (i := 5) rfl (by decide +kernel) (fun _ _ _ h => h) (by first | (intro x hx; (repeat (first | exact hx | apply mS)); done) | ((repeat (refine List.forall_mem_cons.2 ⟨(by (repeat (first | assumption | (with_reducible exact mZ) | apply mS)); first | done | fail), ?_⟩)); intro x hx; first | (cases hx; done) | ((repeat (first | exact hx | apply mS)); done))) (stab_pure (by rfl) (fun w => (by go_simp; try with_reducible rfl))) ?_; simp only [Act.put, List.setIfInBounds_toArray, List.set_cons_zero, List.set_cons_succ]; refine RS_take (i := 6) rfl (by decide +kernel) (fun _ _ _ h => h) (by first | (intro x hx; (repeat (first | exact hx | apply mS)); done) | ((repeat (refine List.forall_mem_cons.2 ⟨(by (repeat (first | assumption | (with_reducible exact mZ) | apply mS)); first | done | fail), ?_⟩)); intro x hx; first | (cases hx; done) | ((repeat (first | exact hx | apply mS)); done))) (stab_call (by rfl) (fun w => (by go_simp; try with_reducible rfl)) (fun L w hL hM => (HC.out _ w hM))) ?_; simp only [Act.put, List.setIfInBounds_toArray, List.set_cons_zero, List.set_cons_succ]; refine RS_one (i := 7) (by decide +kernel) rfl (by rfl) (.inl (by first | (intro x hx; (repeat (first | exact hx | apply mS)); done) | ((repeat (refine List.forall_mem_cons.2 ⟨(by (repeat (first | assumption | (with_reducible exact mZ) | apply mS)); first | done | fail), ?_⟩)); intro x hx; first | (cases hx; done) | ((repeat (first | exact hx | apply mS)); done)))) (fun w K hM0 hK => ?_); refine ws_call (by go_simp; try with_reducible rfl) (HR2.out D1 h1 _ _ w hM0 (by (repeat (first | (with_reducible exact Take.head) | apply Take.tail)); first | done | fail)) (fun r w2 hR => ?_); obtain ⟨D2, h2, rfl, hM⟩ := hR; refine ⟨_, rfl, hK _ _ _ hM ?_⟩; clear hM hM0 hK K; simp only [Act.put, List.setIfInBounds_toArray, List.set_cons_zero, List.set_cons_succ]; refine RS_take (i := 8) rfl (by decide +kernel) (fun _ _ _ h => h) (by first | (intro x hx; (repeat (first | exact hx | apply mS)); done) | ((repeat (refine List.forall_mem_cons.2 ⟨(by (repeat (first | assumption | (with_reducible exact mZ) | apply mS)); first | done | fail), ?_⟩)); intro x hx; first | (cases hx; done) | ((repeat (first | exact hx | apply mS)); done))) (stab_pure (by rfl) (fun w => (by go_simp; try with_reducible rfl))) ?_; simp only [Act.put, List.setIfInBounds_toArray, List.set_cons_zero, List.set_cons_succ]; refine RS_take (i := 9) rfl (by decide +kernel) (fun _ _ _ h => h) (by first | (intro x hx; (repeat (first | exact hx | apply mS)); done) | ((repeat (refine List.forall_mem_cons.2 ⟨(by (repeat (first | assumption | (with_reducible exact mZ) | apply mS)); first | done | fail), ?_⟩)); intro x hx; first | (cases hx; done) | ((repeat (first | exact hx | apply mS)); done))) (stab_pure (by rfl) (fun w => (by go_simp; try with_reducible rfl))) ?_; simp only [Act.put, List.setIfInBounds_toArray, List.set_cons_zero, List.set_cons_succ]; refine RS_take (i := 10) rfl (by decide +kernel) (fun _ _ _ h => h) (by first | (intro x hx; (repeat (first | exact hx | apply mS)); done) | ((repeat (refine List.forall_mem_cons.2 ⟨(by (repeat (first | assumption | (with_reducible exact mZ) | apply mS)); first | done | fail), ?_⟩)); intro x hx; first | (cases hx; done) | ((repeat (first | exact hx | apply mS)); done))) (stab_pure (by rfl) (fun w => (by go_simp; try with_reducible rfl))) ?_; simp only [Act.put, List.setIfInBounds_toArray, List.set_cons_zero, List.set_cons_succ]; refine RS_take (i := 11) rfl (by decide +kernel) (fun _ _ _ h => h) (by first | (intro x hx; (repeat (first | exact hx | apply mS)); done) | ((repeat (refine List.forall_mem_cons.2 ⟨(by (repeat (first | assumption | (with_reducible exact mZ) | apply mS)); first | done | fail), ?_⟩)); intro x hx; first | (cases hx; done) | ((repeat (first | exact hx | apply mS)); done))) (stab_pure (by rfl) (fun w => (by go_simp; try with_reducible rfl))) ?_; simp only [Act.put, List.setIfInBounds_toArray, List.set_cons_zero, List.set_cons_succ]; refine RS_take (i := 12) rfl (by decide +kernel) (fun _ _ _ h => h) (by first | (intro x hx; (repeat (first | exact hx | apply mS)); done) | ((repeat (refine List.forall_mem_cons.2 ⟨(by (repeat (first | assumption | (with_reducible exact mZ) | apply mS)); first | done | fail), ?_⟩)); intro x hx; first | (cases hx; done) | ((repeat (first | exact hx | apply mS)); done))) (stab_pure (by rfl) (fun w => (by go_simp; try with_reducible rfl))) ?_; simp only [Act.put, List.setIfInBounds_toArray, List.set_cons_zero, List.set_cons_succ]; refine RS_done (by decide +kernel) (.inl (by first | (intro x hx; (repeat (first | exact hx | apply mS)); done) | ((repeat (refine List.forall_mem_cons.2 ⟨(by (repeat (first | assumption | (with_reducible exact mZ) | apply mS)); first | done | fail), ?_⟩)); intro x hx; first | (cases hx; done) | ((repeat (first | exact hx | apply mS)); done)))) (fun w hM => ?_))
  go_wp2_with (first | (go_at_call 95; have hM0 := hM; clear hM; (first | (with_reducible refine (sLeft hM0 (by (repeat (first | assumption | (with_reducible exact mZ) | apply mS)); first | done | fail)).mono ?_) | fail); clear hM0; rintro _ w ⟨rfl, hM⟩) | (refine BigFrame.wpList_want (by rfl) fun K hK => ws_of_ex (ex_slice_str (l := all) (i := f0) (j := f1) rfl Try.underlying9 rfl rfl rfl g6 g5 HSL.out) (hK _ _ ?_); clear hK K) | (go_at_call 37; have hM0 := hM; clear hM; (first | (with_reducible refine (HSP.out _ _ hM0).mono ?_) | fail); clear hM0; rintro _ w ⟨rfl, hM⟩) | (go_at_call 75; refine (HP.out _).mono ?_; rintro _ _ ⟨rfl, rfl⟩) | (first | ((with_reducible refine at_store' ?_); (have hM0 := hM; clear hM; refine BigFrame.wpList_want (by rfl) fun K hK => ws_store hM0 rfl rfl rfl (by (repeat (first | (with_reducible exact Take.head) | apply Take.tail)); first | done | fail) (n := 3) (by rfl) (by rfl) (by kernel_rfl) (by simp [Value.oneCell']) (fun w hM => hK _ _ ?_); clear hM0 hK K)) | fail))
  refine bodyPost_ret (results_row2B (P := Try.prog) (ty := 38) rfl _ _ gr 38 (rcC k d at_) 3 _ _ rfl rfl rfl (hM.blk (by (repeat (first | assumption | (with_reducible exact mZ) | apply mS)); first | done | fail)) rfl (by decide +kernel)) rfl ?_
  exact ⟨D2, h2, rfl, hM.sel (by repeat (first | (with_reducible exact Sel.refl) | (with_reducible exact Take.head) | (with_reducible apply Take.tail) | (with_reducible apply Sel.cons) | (with_reducible apply Sel.drop)))⟩
end
end Go.Proofs.Ytnckgkgilnmocaa
