/- What the laws share, part 13 (LetU). No condition but those that each theorem names. -/
import Derived.Test.YtlhedbjjlomniaaLt10
import Derived.Test.YtlhedbjjlomniaaLt12
import Derived.Test.YtlhedbjjlomniaaLt4
set_option linter.unusedSimpArgs false
set_option linter.unusedVariables false
namespace Go.Proofs.Ytlhedbjjlomniaa
open Go.RowKit
attribute [local go_sem] extract_mid extract_drop bget bsize wrap64_u8 i64_u8 u64_u8 bappend
theorem rv_eq (k f t q : Int) (id : List UInt8) (wh : Int) (x : List UInt8) (ps hs : List Int) :
    rv (decide (k < 1)) (decide (10 < k)) (addr f) (addr t) (decide (q < 0)) (decide (4294967296 < q)) (decide ((8 : Int) < (ps.length : Int))) (decide ((8 : Int) < (hs.length : Int))) (decide ((512 : Int) < (x.length : Int))) (hasName k) (zeroB id) (!decide (k = 4)) (decide (0 < (ps.length : Int) + hs.length)) (!decide (k = 8)) (!decide (x = [])) (hasWhat k) (decide (wh < 1)) (decide (3 < wh)) (!decide (wh = 0)) (ps.all addr) (hs.all addr) = checkL ⟨k, f, t, q, id, wh, x, ps, hs⟩ := by
  have a1 : (0 < (ps.length : Int) + hs.length) = (0 < ps.length + hs.length) := by rw [eq_iff_iff]; omega
  have a2 : ((8 : Int) < (ps.length : Int)) = (8 < ps.length) := by rw [eq_iff_iff]; omega
  have a3 : ((8 : Int) < (hs.length : Int)) = (8 < hs.length) := by rw [eq_iff_iff]; omega
  have a4 : ((512 : Int) < (x.length : Int)) = (512 < x.length) := by rw [eq_iff_iff]; omega
  unfold rv checkL is4 is8
  simp only [a1, a2, a3, a4, cond_eq_ite, Bool.or_eq_true, Bool.and_eq_true, Bool.not_eq_true', decide_eq_true_eq, decide_eq_false_iff_not, List.all_append, or_assoc, ne_eq]
  by_cases h : ps.all addr = true ∧ hs.all addr = true
  · have h2 : ¬ (ps.all addr = false ∨ hs.all addr = false) := by rw [h.1, h.2]; simp
    rw [if_neg h2, if_pos h]
  · have h2 : ps.all addr = false ∨ hs.all addr = false := by
      rcases h3 : ps.all addr with _ | _
      · exact .inl rfl
      · rcases h4 : hs.all addr with _ | _
        · exact .inr rfl
        · exact absurd ⟨h3, h4⟩ h
    rw [if_pos h2, if_neg h]
theorem rcheck_star {F : List SProp} (k f t q : Int) (id : List UInt8) (hid : id.length ≤ 1000000000) (wh : Int) (x : List UInt8) (A : Option Addr) (ps : List Int) (c : Nat) (B : Option Addr) (hs : List Int) (d : Nat) (hp : ps.length ≤ 1000000000) (hh : hs.length ≤ 1000000000) (w : World) (hM : Star F w) (h1 : rowE 1 A ps.length (ivs ps) ∈ F) (h2 : rowE 1 B hs.length (ivs hs) ∈ F) :
    Calls Try.prog 17 #[.agg (rtC k f t q id wh x A ps.length c B hs.length d)] w fun r w' => r = .returned (.int .i64 (checkL ⟨k, f, t, q, id, wh, x, ps, hs⟩)) ∧ Star F w' := by
  have H := rcheck_core k f t q id wh x A ps ps.length c B hs hs.length d ((ps.length : Int) + hs.length) (decide (k < 1)) (decide (10 < k)) (addr f) (addr t) (decide (q < 0)) (decide (4294967296 < q)) (decide ((8 : Int) < (ps.length : Int))) (decide ((8 : Int) < (hs.length : Int))) (decide ((512 : Int) < (x.length : Int))) (hasName k) (zeroB id) (!decide (k = 4)) (decide (0 < (ps.length : Int) + hs.length)) (!decide (k = 8)) (!decide (x = [])) (hasWhat k) (decide (wh < 1)) (decide (3 < wh)) (!decide (wh = 0)) (ps.all addr) (hs.all addr)
    (by show _ = _; rw [IntWalk.i64_in _ (by omega)]) rfl rfl rfl rfl rfl rfl rfl rfl rfl rfl rfl rfl rfl rfl (fun w => rAddress_any f w) (fun w => rAddress_any t w) (fun w => rName_any k w) (fun w => rWhat_any k w) (fun w => rZero_any id hid w)
    (fun L w hM hx => rAll_star ps A _ c (by omega) w hM hx) (fun L w hM hx => rAll_star hs B _ d (by omega) w hM hx) w hM h1 h2
    (by
      have := kind_class k
      unfold is4 is8 at this
      rcases this with ⟨a, b, c, d⟩ | ⟨a, b, c, d⟩ | ⟨a, b, c, d⟩ | ⟨a, b, c, d⟩ | ⟨a, b, c, d⟩ <;> rw [a, b, c, d] <;> simp)
    (by
      intro _ h
      have h3 : ¬ (0 < (ps.length : Int) + hs.length) := of_decide_eq_false h
      have h4 : ps = [] := List.eq_nil_of_length_eq_zero (by omega)
      have h5 : hs = [] := List.eq_nil_of_length_eq_zero (by omega)
      subst h4 h5
      exact ⟨rfl, rfl⟩)
  rwa [rv_eq] at H
def RP (F : List SProp) (s : List UInt8) (r : Ending) (w' : World) : Prop := ∃ A c B d, r = .returned (.tuple #[.agg (rtC (parseL s).1.k (parseL s).1.f (parseL s).1.t (parseL s).1.q (parseL s).1.id (parseL s).1.w (parseL s).1.x A (parseL s).1.ps.length c B (parseL s).1.hs.length d), .int .i64 (parseL s).2]) ∧ Star (rowE 1 A (parseL s).1.ps.length (ivs (parseL s).1.ps) :: rowE 1 B (parseL s).1.hs.length (ivs (parseL s).1.hs) :: F) w'
theorem RP_none {F : List SProp} {s : List UInt8} {n : Int} {w : World} (h : parseL s = (noL, n)) (hM : Star F w) : RP F s (.returned (.tuple #[.agg (rtC 0 0 0 0 [] 0 [] none 0 0 none 0 0), .int .i64 n])) w := by
  unfold RP
  rw [h]
  exact ⟨none, 0, none, 0, rfl, (hM.nilrow 1).nilrow 1⟩
theorem info_rt : (Try.prog.info? 29).map (fun i => i.zero) = some (some (.agg (rtC 0 0 0 0 [] 0 [] none 0 0 none 0 0))) := by kernel_rfl
set_option maxRecDepth 100000 in
set_option maxHeartbeats 8000000 in
theorem rparse_big {F : List SProp} (s : List UInt8) (hs : s.length ≤ 1000000000) (h : 1024 < s.length) (w : World) (hM : Star F w) : Calls Try.prog 23 #[.string ⟨s.toArray⟩] w (RP F s) := by
  have HV : Hid (parseL s = (noL, 5)) := by show _ = _; unfold parseL; rw [if_pos h]
  have b1 : decide ((1024 : Int) < (s.length : Int)) = true := by simp; omega
  have tok1 : True := trivial
  go_enter Try.func23, Try.ntmps23
  go_wp2_with (first | (have _t := tok1; (first | ((with_reducible refine at_alloc' ?_); (have hM0 := hM; clear hM; refine BigFrame.wpList_want (by rfl) fun K hK => ws_alloc hM0 (t := 29) rfl (rtC 0 0 0 0 [] 0 [] none 0 0 none 0 0) info_rt (fun g2 w hM => hK _ _ ?_); clear hM0 hK K)) | fail); clear tok1) | (first | ((with_reducible refine at_store' ?_); (have hM0 := hM; clear hM; refine BigFrame.wpList_want (by rfl) fun K hK => ws_store hM0 rfl rfl rfl (by (repeat (first | (with_reducible exact Take.head) | apply Take.tail)); first | done | fail) (n := 9) (by rfl) (by rfl) (by kernel_rfl) (by simp [Value.oneCell']) (fun w hM => hK _ _ ?_); clear hM0 hK K)) | fail))
  refine bodyPost_ret (results_row_tmp (P := Try.prog) (ty := 29) rfl _ _ g2 29 (rtC 0 0 0 0 [] 0 [] none 0 0 none 0 0) 9 _ rfl rfl (hM.blk (by (repeat (first | assumption | (with_reducible exact List.mem_cons_self) | apply List.mem_cons_of_mem)); first | done | fail)) rfl (by decide +kernel)) rfl ?_; exact RP_none HV.out (hM.sel (R := F) (by repeat (first | (with_reducible exact Sel.refl) | (with_reducible exact Take.head) | (with_reducible apply Take.tail) | (with_reducible apply Sel.cons) | (with_reducible apply Sel.drop))))
set_option maxRecDepth 100000 in
set_option maxHeartbeats 8000000 in
theorem rparse_form {F : List SProp} (s : List UInt8) (h0 : s.length ≤ 1024) (h : s.take 2 ≠ [99, 118]) (w : World) (hM : Star F w) : Calls Try.prog 23 #[.string ⟨s.toArray⟩] w (RP F s) := by
  have HV : Hid (parseL s = (noL, 2)) := by show _ = _; unfold parseL; rw [if_neg (by omega), if_pos h]
  have tok1 : True := trivial
  rcases s with _ | ⟨a, _ | ⟨b, t⟩⟩
  · clear h h0
    go_enter Try.func23, Try.ntmps23
    go_wp2_with (first | (have _t := tok1; (first | ((with_reducible refine at_alloc' ?_); (have hM0 := hM; clear hM; refine BigFrame.wpList_want (by rfl) fun K hK => ws_alloc hM0 (t := 29) rfl (rtC 0 0 0 0 [] 0 [] none 0 0 none 0 0) info_rt (fun g2 w hM => hK _ _ ?_); clear hM0 hK K)) | fail); clear tok1) | (first | ((with_reducible refine at_store' ?_); (have hM0 := hM; clear hM; refine BigFrame.wpList_want (by rfl) fun K hK => ws_store hM0 rfl rfl rfl (by (repeat (first | (with_reducible exact Take.head) | apply Take.tail)); first | done | fail) (n := 9) (by rfl) (by rfl) (by kernel_rfl) (by simp [Value.oneCell']) (fun w hM => hK _ _ ?_); clear hM0 hK K)) | fail))
    refine bodyPost_ret (results_row_tmp (P := Try.prog) (ty := 29) rfl _ _ g2 29 (rtC 0 0 0 0 [] 0 [] none 0 0 none 0 0) 9 _ rfl rfl (hM.blk (by (repeat (first | assumption | (with_reducible exact List.mem_cons_self) | apply List.mem_cons_of_mem)); first | done | fail)) rfl (by decide +kernel)) rfl ?_; exact RP_none HV.out (hM.sel (R := F) (by repeat (first | (with_reducible exact Sel.refl) | (with_reducible exact Take.head) | (with_reducible apply Take.tail) | (with_reducible apply Sel.cons) | (with_reducible apply Sel.drop))))
  · clear h h0
    go_enter Try.func23, Try.ntmps23
    go_wp2_with (first | (have _t := tok1; (first | ((with_reducible refine at_alloc' ?_); (have hM0 := hM; clear hM; refine BigFrame.wpList_want (by rfl) fun K hK => ws_alloc hM0 (t := 29) rfl (rtC 0 0 0 0 [] 0 [] none 0 0 none 0 0) info_rt (fun g2 w hM => hK _ _ ?_); clear hM0 hK K)) | fail); clear tok1) | (first | ((with_reducible refine at_store' ?_); (have hM0 := hM; clear hM; refine BigFrame.wpList_want (by rfl) fun K hK => ws_store hM0 rfl rfl rfl (by (repeat (first | (with_reducible exact Take.head) | apply Take.tail)); first | done | fail) (n := 9) (by rfl) (by rfl) (by kernel_rfl) (by simp [Value.oneCell']) (fun w hM => hK _ _ ?_); clear hM0 hK K)) | fail))
    refine bodyPost_ret (results_row_tmp (P := Try.prog) (ty := 29) rfl _ _ g2 29 (rtC 0 0 0 0 [] 0 [] none 0 0 none 0 0) 9 _ rfl rfl (hM.blk (by (repeat (first | assumption | (with_reducible exact List.mem_cons_self) | apply List.mem_cons_of_mem)); first | done | fail)) rfl (by decide +kernel)) rfl ?_; exact RP_none HV.out (hM.sel (R := F) (by repeat (first | (with_reducible exact Sel.refl) | (with_reducible exact Take.head) | (with_reducible apply Take.tail) | (with_reducible apply Sel.cons) | (with_reducible apply Sel.drop))))
  · have HB : Hid ((!decide ([a, b] = [99, 118])) = true) := by show _ = _; rw [decide_eq_false (show ¬ ([a, b] = [99, 118]) from fun e => h e)]; rfl
    have b1 : decide ((1024 : Int) < (t.length : Int) + 1 + 1) = false := by simp at h0 ⊢; omega
    have b2 : decide ((t.length : Int) + 1 + 1 < 2) = false := by simp; omega
    have ht' : t.length ≤ 1024 := by simp at h0; omega
    clear h h0
    go_enter Try.func23, Try.ntmps23
    go_wp2_with (first | (have _t := tok1; (first | ((with_reducible refine at_alloc' ?_); (have hM0 := hM; clear hM; refine BigFrame.wpList_want (by rfl) fun K hK => ws_alloc hM0 (t := 29) rfl (rtC 0 0 0 0 [] 0 [] none 0 0 none 0 0) info_rt (fun g2 w hM => hK _ _ ?_); clear hM0 hK K)) | fail); clear tok1) | ((with_reducible refine at_bin' (op := .neq) ?_); refine BigFrame.wpList_want (by rfl) fun K hK => ws_of_ex (ex_nes rfl rfl rfl HB.out) (hK _ _ ?_); clear hK K) | (first | ((with_reducible refine at_store' ?_); (have hM0 := hM; clear hM; refine BigFrame.wpList_want (by rfl) fun K hK => ws_store hM0 rfl rfl rfl (by (repeat (first | (with_reducible exact Take.head) | apply Take.tail)); first | done | fail) (n := 9) (by rfl) (by rfl) (by kernel_rfl) (by simp [Value.oneCell']) (fun w hM => hK _ _ ?_); clear hM0 hK K)) | fail))
    refine bodyPost_ret (results_row_tmp (P := Try.prog) (ty := 29) rfl _ _ g2 29 (rtC 0 0 0 0 [] 0 [] none 0 0 none 0 0) 9 _ rfl rfl (hM.blk (by (repeat (first | assumption | (with_reducible exact List.mem_cons_self) | apply List.mem_cons_of_mem)); first | done | fail)) rfl (by decide +kernel)) rfl ?_; exact RP_none HV.out (hM.sel (R := F) (by repeat (first | (with_reducible exact Sel.refl) | (with_reducible exact Take.head) | (with_reducible apply Take.tail) | (with_reducible apply Sel.cons) | (with_reducible apply Sel.drop))))
set_option maxRecDepth 100000 in
set_option maxHeartbeats 8000000 in
theorem rparse_P {F : List SProp} (t : List UInt8) (h0 : (99 :: 118 :: t).length ≤ 1024) (k : Int) (u1 : List UInt8) (e1 : Int) (h1 : mInt t 0 10 = (k, u1, e1)) (hn : hasName k = false) (h4 : is4 k = false) (h8 : is8 k = false) (hw : hasWhat k = false) (w : World) (hM : Star F w) :
    Calls Try.prog 23 #[.string ⟨(99 :: 118 :: t).toArray⟩] w (RP F (99 :: 118 :: t)) := by
  obtain ⟨f, u2, e2, h2⟩ : ∃ n u f, mInt u1 e1 63 = (n, u, f) := ⟨_, _, _, rfl⟩
  obtain ⟨t', u3, e3, h3⟩ : ∃ n u f, mInt u2 e2 63 = (n, u, f) := ⟨_, _, _, rfl⟩
  obtain ⟨q, u4, e4, h5⟩ : ∃ n u f, mInt u3 e3 4294967296 = (n, u, f) := ⟨_, _, _, rfl⟩
  obtain ⟨u0, c, h12⟩ : ∃ u c, mClose u4 e4 = (u, c) := ⟨_, _, rfl⟩
  have hv : parseL (99 :: 118 :: t) = finL ⟨k, f, t', q, [], 0, [], [], []⟩ c := by
    have := parseL_eq (id := []) (wh := 0) (x := []) (ps := []) (hs := []) (u9 := u4) (e9 := e4) h0 h1 h2 h3 h5 (by rw [hn]; rfl) (by rw [hw]; rfl) (by rw [h8]; rfl) (by rw [h4]; rfl) (by rw [h4]; rfl)
    rwa [h12] at this
  have HV := Lib.hid hv
  have H1 := rInt_any t 0 10 (by omega)
  rw [h1] at H1
  replace H1 := Lib.hid H1
  have H2 := rInt_any u1 e1 63 (by omega)
  rw [h2] at H2
  replace H2 := Lib.hid H2
  have H3 := rInt_any u2 e2 63 (by omega)
  rw [h3] at H3
  replace H3 := Lib.hid H3
  have H5 := rInt_any u3 e3 4294967296 (by omega)
  rw [h5] at H5
  replace H5 := Lib.hid H5
  have H12 := rClose_any u4 e4
  rw [h12] at H12
  replace H12 := Lib.hid H12
  have HN := rName_any k
  have HW := rWhat_any k
  have H4 : decide (k = 4) = is4 k := rfl
  have H8 : decide (k = 8) = is8 k := rfl
  rw [hn] at HN
  rw [h4] at H4
  rw [h8] at H8
  rw [hw] at HW
  replace HN := Lib.hid HN
  replace H4 := Lib.hid H4
  replace H8 := Lib.hid H8
  replace HW := Lib.hid HW
  have b1 : decide ((1024 : Int) < (t.length : Int) + 1 + 1) = false := by simp at h0 ⊢; omega
  have b2 : decide ((t.length : Int) + 1 + 1 < 2) = false := by simp; omega
  have ht' : t.length ≤ 1024 := by simp at h0; omega
  clear hv h1 h2 h3 h5 h12 hn h4 h8 hw h0 
  have tok1 : True := trivial
  have tok2 : True := trivial
  go_enter Try.func23, Try.ntmps23
  go_wp2_with (first | (have _t := tok1; (first | ((with_reducible refine at_alloc' ?_); (have hM0 := hM; clear hM; refine BigFrame.wpList_want (by rfl) fun K hK => ws_alloc hM0 (t := 29) rfl (rtC 0 0 0 0 [] 0 [] none 0 0 none 0 0) info_rt (fun g2 w hM => hK _ _ ?_); clear hM0 hK K)) | fail); clear tok1) | (first | ((with_reducible refine at_alloc' ?_); (have hM0 := hM; clear hM; refine BigFrame.wpList_want (by rfl) fun K hK => ws_alloc hM0 (t := 29) rfl (rtC 0 0 0 0 [] 0 [] none 0 0 none 0 0) info_rt (fun g9 w hM => hK _ _ ?_); clear hM0 hK K)) | fail) | (have _t := tok2; (first | ((with_reducible refine at_alloc' ?_); (have hM0 := hM; clear hM; refine BigFrame.wpList_want (by rfl) fun K hK => ws_alloc hM0 (t := 111) rfl (balC [] 0) info_rb (fun g4 w hM => hK _ _ ?_); clear hM0 hK K)) | fail); clear tok2) | (first | ((with_reducible refine at_alloc' ?_); (have hM0 := hM; clear hM; refine BigFrame.wpList_want (by rfl) fun K hK => ws_alloc hM0 (t := 111) rfl (balC [] 0) info_rb (fun gz w hM => hK _ _ ?_); clear hM0 hK K)) | fail) | (first | ((with_reducible refine at_load' ?_); (refine BigFrame.wpList_want (by rfl) fun K hK => ws_load hM rfl rfl (by (repeat (first | assumption | (with_reducible exact List.mem_cons_self) | apply List.mem_cons_of_mem)); first | done | fail) (n := 2) (by rfl) (by decide +kernel) (hK _ _ ?_); clear hK K)) | fail) | (first | ((with_reducible refine at_load' ?_); (refine BigFrame.wpList_want (by rfl) fun K hK => ws_load hM rfl rfl (by (repeat (first | assumption | (with_reducible exact List.mem_cons_self) | apply List.mem_cons_of_mem)); first | done | fail) (n := 9) (by rfl) (by decide +kernel) (hK _ _ ?_); clear hK K)) | fail) | (first | ((with_reducible refine at_load' ?_); (refine BigFrame.wpList_want (by rfl) fun K hK => ws_load1 hM rfl rfl (by (repeat (first | assumption | (with_reducible exact List.mem_cons_self) | apply List.mem_cons_of_mem)); first | done | fail) (by first | rfl | assumption) (by decide +kernel) (hK _ _ ?_); clear hK K)) | fail) | (go_at_call 68; have hM0 := hM; clear hM; (first | (with_reducible refine (star0 (H1.out _) hM0).mono ?_) | fail); clear hM0; rintro _ w ⟨rfl, hM⟩) | (go_at_call 68; have hM0 := hM; clear hM; (first | (with_reducible refine (star0 (H2.out _) hM0).mono ?_) | fail); clear hM0; rintro _ w ⟨rfl, hM⟩) | (go_at_call 68; have hM0 := hM; clear hM; (first | (with_reducible refine (star0 (H3.out _) hM0).mono ?_) | fail); clear hM0; rintro _ w ⟨rfl, hM⟩) | (go_at_call 68; have hM0 := hM; clear hM; (first | (with_reducible refine (star0 (H5.out _) hM0).mono ?_) | fail); clear hM0; rintro _ w ⟨rfl, hM⟩) | (first | ((with_reducible refine at_store' ?_); (have hM0 := hM; clear hM; refine BigFrame.wpList_want (by rfl) fun K hK => ws_store hM0 rfl rfl rfl (by (repeat (first | (with_reducible exact Take.head) | apply Take.tail)); first | done | fail) (n := 9) (by rfl) (by rfl) (by kernel_rfl) (by simp [Value.oneCell']) (fun w hM => hK _ _ ?_); clear hM0 hK K)) | fail) | (first | ((with_reducible refine at_store' ?_); (have hM0 := hM; clear hM; refine BigFrame.wpList_want (by rfl) fun K hK => ws_store hM0 rfl rfl rfl (by (repeat (first | (with_reducible exact Take.head) | apply Take.tail)); first | done | fail) (n := 2) (by rfl) (by rfl) (by kernel_rfl) (by simp [Value.oneCell']) (fun w hM => hK _ _ ?_); clear hM0 hK K)) | fail) | (go_at_call 25; have hM0 := hM; clear hM; (first | (with_reducible refine (starq (HN.out _) hM0).mono ?_) | fail); clear hM0; rintro _ w ⟨rfl, hM⟩) | (go_at_call 26; have hM0 := hM; clear hM; (first | (with_reducible refine (starq (HW.out _) hM0).mono ?_) | fail); clear hM0; rintro _ w ⟨rfl, hM⟩) | ((with_reducible refine at_bin' (op := .eql) (x := .tmp 80) ?_); refine BigFrame.wpList_want (by rfl) fun K hK => ws_of_ex (ex_eq rfl rfl rfl H8.out) (hK _ _ ?_); clear hK K) | ((with_reducible refine at_bin' (op := .eql) (x := .tmp 90) ?_); refine BigFrame.wpList_want (by rfl) fun K hK => ws_of_ex (ex_eq rfl rfl rfl H4.out) (hK _ _ ?_); clear hK K))
  refine (star0 (H12.out _) hM).mono ?_
  clear hM
  rintro _ w ⟨rfl, hM⟩
  by_cases hc : c ≠ 0
  · have hc1 : (c == 0) = false := by simpa using hc
    have hc2 : (c != 0) = true := by simpa using hc
    replace HV : Hid (parseL (99 :: 118 :: t) = (noL, c)) := by show _ = _; rw [HV.out, finL, if_pos hc]
    clear hc
    go_wp2_with (first | (first | ((with_reducible refine at_load' ?_); (refine BigFrame.wpList_want (by rfl) fun K hK => ws_load hM rfl rfl (by (repeat (first | assumption | (with_reducible exact List.mem_cons_self) | apply List.mem_cons_of_mem)); first | done | fail) (n := 2) (by rfl) (by decide +kernel) (hK _ _ ?_); clear hK K)) | fail) | (go_at_call 72; have hM0 := hM; clear hM; (first | (with_reducible refine (star0 (H12.out _) hM0).mono ?_) | fail); clear hM0; rintro _ w ⟨rfl, hM⟩) | (first | ((with_reducible refine at_store' ?_); (have hM0 := hM; clear hM; refine BigFrame.wpList_want (by rfl) fun K hK => ws_store hM0 rfl rfl rfl (by (repeat (first | (with_reducible exact Take.head) | apply Take.tail)); first | done | fail) (n := 9) (by rfl) (by rfl) (by kernel_rfl) (by simp [Value.oneCell']) (fun w hM => hK _ _ ?_); clear hM0 hK K)) | fail))
    refine bodyPost_ret (results_row_tmp (P := Try.prog) (ty := 29) rfl _ _ g2 29 (rtC 0 0 0 0 [] 0 [] none 0 0 none 0 0) 9 _ rfl rfl (hM.blk (by (repeat (first | assumption | (with_reducible exact List.mem_cons_self) | apply List.mem_cons_of_mem)); first | done | fail)) rfl (by decide +kernel)) rfl ?_; exact RP_none HV.out (hM.sel (R := F) (by repeat (first | (with_reducible exact Sel.refl) | (with_reducible exact Take.head) | (with_reducible apply Take.tail) | (with_reducible apply Sel.cons) | (with_reducible apply Sel.drop))))
  obtain rfl : c = 0 := by simpa using hc
  clear hc
  replace hM := (hM.nilrow 1).nilrow 1
  have HK : ∀ (L : List SProp) (w : World), Star L w → rowE 1 none 0 [] ∈ L → rowE 1 none 0 [] ∈ L → Calls Try.prog 17 #[.agg (rtC k f t' q [] 0 [] none 0 0 none 0 0)] w fun r w' => r = .returned (.int .i64 (checkL ⟨k, f, t', q, [], 0, [], [], []⟩)) ∧ Star L w' := fun L w hM m1 m2 =>
    rcheck_star k f t' q [] (by first | omega | simp) 0 [] none [] 0 none [] 0 (by first | omega | simp) (by first | omega | simp) w hM m1 m2
  generalize hkv : checkL ⟨k, f, t', q, [], 0, [], [], []⟩ = kv at HK
  have HKV := Lib.hid hkv
  clear hkv
  replace HK := Lib.hid HK
  by_cases hk : kv ≠ 0
  · have hk1 : (kv == 0) = false := by simpa using hk
    have hk2 : (kv != 0) = true := by simpa using hk
    replace HV : Hid (parseL (99 :: 118 :: t) = (noL, kv)) := by show _ = _; rw [HV.out, finL, if_neg (by simp), HKV.out, if_pos hk]
    clear hk
    go_wp2_with (first | (first | ((with_reducible refine at_load' ?_); (refine BigFrame.wpList_want (by rfl) fun K hK => ws_load hM rfl rfl (by (repeat (first | assumption | (with_reducible exact List.mem_cons_self) | apply List.mem_cons_of_mem)); first | done | fail) (n := 9) (by rfl) (by decide +kernel) (hK _ _ ?_); clear hK K)) | fail) | (go_at_call 17; have hM0 := hM; clear hM; (first | (with_reducible refine (HK.out _ _ hM0 (by (repeat (first | assumption | (with_reducible exact List.mem_cons_self) | apply List.mem_cons_of_mem)); first | done | fail) (by (repeat (first | assumption | (with_reducible exact List.mem_cons_self) | apply List.mem_cons_of_mem)); first | done | fail)).mono ?_) | fail); clear hM0; rintro _ w ⟨rfl, hM⟩) | (first | ((with_reducible refine at_store' ?_); (have hM0 := hM; clear hM; refine BigFrame.wpList_want (by rfl) fun K hK => ws_store hM0 rfl rfl rfl (by (repeat (first | (with_reducible exact Take.head) | apply Take.tail)); first | done | fail) (n := 9) (by rfl) (by rfl) (by kernel_rfl) (by simp [Value.oneCell']) (fun w hM => hK _ _ ?_); clear hM0 hK K)) | fail))
    refine bodyPost_ret (results_row_tmp (P := Try.prog) (ty := 29) rfl _ _ g2 29 (rtC 0 0 0 0 [] 0 [] none 0 0 none 0 0) 9 _ rfl rfl (hM.blk (by (repeat (first | assumption | (with_reducible exact List.mem_cons_self) | apply List.mem_cons_of_mem)); first | done | fail)) rfl (by decide +kernel)) rfl ?_; exact RP_none HV.out (hM.sel (R := F) (by repeat (first | (with_reducible exact Sel.refl) | (with_reducible exact Take.head) | (with_reducible apply Take.tail) | (with_reducible apply Sel.cons) | (with_reducible apply Sel.drop))))
  obtain rfl : kv = 0 := by simpa using hk
  clear hk
  replace HV : Hid (parseL (99 :: 118 :: t) = (⟨k, f, t', q, [], 0, [], [], []⟩, 0)) := by show _ = _; rw [HV.out, finL, if_neg (by simp), HKV.out, if_neg (by simp)]
  go_wp2_with (first | (first | ((with_reducible refine at_load' ?_); (refine BigFrame.wpList_want (by rfl) fun K hK => ws_load hM rfl rfl (by (repeat (first | assumption | (with_reducible exact List.mem_cons_self) | apply List.mem_cons_of_mem)); first | done | fail) (n := 9) (by rfl) (by decide +kernel) (hK _ _ ?_); clear hK K)) | fail) | (go_at_call 17; have hM0 := hM; clear hM; (first | (with_reducible refine (HK.out _ _ hM0 (by (repeat (first | assumption | (with_reducible exact List.mem_cons_self) | apply List.mem_cons_of_mem)); first | done | fail) (by (repeat (first | assumption | (with_reducible exact List.mem_cons_self) | apply List.mem_cons_of_mem)); first | done | fail)).mono ?_) | fail); clear hM0; rintro _ w ⟨rfl, hM⟩) | (first | ((with_reducible refine at_store' ?_); (have hM0 := hM; clear hM; refine BigFrame.wpList_want (by rfl) fun K hK => ws_store hM0 rfl rfl rfl (by (repeat (first | (with_reducible exact Take.head) | apply Take.tail)); first | done | fail) (n := 9) (by rfl) (by rfl) (by kernel_rfl) (by simp [Value.oneCell']) (fun w hM => hK _ _ ?_); clear hM0 hK K)) | fail))
  refine bodyPost_ret (results_row_tmp (P := Try.prog) (ty := 29) rfl _ _ g2 29 (rtC k f t' q [] 0 [] none 0 0 none 0 0) 9 _ rfl rfl (hM.blk (by (repeat (first | assumption | (with_reducible exact List.mem_cons_self) | apply List.mem_cons_of_mem)); first | done | fail)) rfl (by decide +kernel)) rfl ?_
  unfold RP
  rw [HV.out]
  have hfin := hM.sel (R := rowE 1 none 0 [] :: rowE 1 none 0 [] :: F) (by repeat (first | (with_reducible exact Sel.refl) | (with_reducible exact Take.head) | (with_reducible apply Take.tail) | (with_reducible apply Sel.cons) | (with_reducible apply Sel.drop)))
  exact ⟨none, 0, none, 0, rfl, hfin⟩
set_option maxRecDepth 100000 in
set_option maxHeartbeats 8000000 in
theorem rparse_N {F : List SProp} (t : List UInt8) (h0 : (99 :: 118 :: t).length ≤ 1024) (k : Int) (u1 : List UInt8) (e1 : Int) (h1 : mInt t 0 10 = (k, u1, e1)) (hn : hasName k = true) (h4 : is4 k = true) (h8 : is8 k = false) (hw : hasWhat k = false) (w : World) (hM : Star F w) :
    Calls Try.prog 23 #[.string ⟨(99 :: 118 :: t).toArray⟩] w (RP F (99 :: 118 :: t)) := by
  obtain ⟨f, u2, e2, h2⟩ : ∃ n u f, mInt u1 e1 63 = (n, u, f) := ⟨_, _, _, rfl⟩
  obtain ⟨t', u3, e3, h3⟩ : ∃ n u f, mInt u2 e2 63 = (n, u, f) := ⟨_, _, _, rfl⟩
  obtain ⟨q, u4, e4, h5⟩ : ∃ n u f, mInt u3 e3 4294967296 = (n, u, f) := ⟨_, _, _, rfl⟩
  obtain ⟨id, u5, e5, h6⟩ : ∃ n u f, mBytes u4 e4 32 = (n, u, f) := ⟨_, _, _, rfl⟩
  have H6 := rBytes_any u4 e4 32
  rw [h6] at H6
  replace H6 := Lib.hid H6
  have hid : id.length ≤ 32 := by have := congrArg Prod.fst h6; simp only at this; rw [← this]; unfold mBytes; split <;> (try split) <;> simp <;> omega
  obtain ⟨ps, u8, e8, h10⟩ : ∃ n u f, mList u5 e5 = (n, u, f) := ⟨_, _, _, rfl⟩
  obtain ⟨hs, u9, e9, h11⟩ : ∃ n u f, mList u8 e8 = (n, u, f) := ⟨_, _, _, rfl⟩
  have hps := mList_len h10
  have hhs := mList_len h11
  have H10 := Lib.hid h10
  have H11 := Lib.hid h11
  obtain ⟨u0, c, h12⟩ : ∃ u c, mClose u9 e9 = (u, c) := ⟨_, _, rfl⟩
  have hv : parseL (99 :: 118 :: t) = finL ⟨k, f, t', q, id, 0, [], ps, hs⟩ c := by
    have := parseL_eq (id := id) (wh := 0) (x := []) (ps := ps) (hs := hs) (u9 := u9) (e9 := e9) h0 h1 h2 h3 h5 (by rw [hn]; exact h6) (by rw [hw]; rfl) (by rw [h8]; rfl) (by rw [h4]; exact h10) (by rw [h4]; exact h11)
    rwa [h12] at this
  have HV := Lib.hid hv
  have H1 := rInt_any t 0 10 (by omega)
  rw [h1] at H1
  replace H1 := Lib.hid H1
  have H2 := rInt_any u1 e1 63 (by omega)
  rw [h2] at H2
  replace H2 := Lib.hid H2
  have H3 := rInt_any u2 e2 63 (by omega)
  rw [h3] at H3
  replace H3 := Lib.hid H3
  have H5 := rInt_any u3 e3 4294967296 (by omega)
  rw [h5] at H5
  replace H5 := Lib.hid H5
  have H12 := rClose_any u9 e9
  rw [h12] at H12
  replace H12 := Lib.hid H12
  have HN := rName_any k
  have HW := rWhat_any k
  have H4 : decide (k = 4) = is4 k := rfl
  have H8 : decide (k = 8) = is8 k := rfl
  rw [hn] at HN
  rw [h4] at H4
  rw [h8] at H8
  rw [hw] at HW
  replace HN := Lib.hid HN
  replace H4 := Lib.hid H4
  replace H8 := Lib.hid H8
  replace HW := Lib.hid HW
  have b1 : decide ((1024 : Int) < (t.length : Int) + 1 + 1) = false := by simp at h0 ⊢; omega
  have b2 : decide ((t.length : Int) + 1 + 1 < 2) = false := by simp; omega
  have ht' : t.length ≤ 1024 := by simp at h0; omega
  clear hv h1 h2 h3 h5 h12 hn h4 h8 hw h0 h6 h10 h11
  have tok1 : True := trivial
  have tok2 : True := trivial
  go_enter Try.func23, Try.ntmps23
  go_wp2_with (first | (have _t := tok1; (first | ((with_reducible refine at_alloc' ?_); (have hM0 := hM; clear hM; refine BigFrame.wpList_want (by rfl) fun K hK => ws_alloc hM0 (t := 29) rfl (rtC 0 0 0 0 [] 0 [] none 0 0 none 0 0) info_rt (fun g2 w hM => hK _ _ ?_); clear hM0 hK K)) | fail); clear tok1) | (first | ((with_reducible refine at_alloc' ?_); (have hM0 := hM; clear hM; refine BigFrame.wpList_want (by rfl) fun K hK => ws_alloc hM0 (t := 29) rfl (rtC 0 0 0 0 [] 0 [] none 0 0 none 0 0) info_rt (fun g9 w hM => hK _ _ ?_); clear hM0 hK K)) | fail) | (have _t := tok2; (first | ((with_reducible refine at_alloc' ?_); (have hM0 := hM; clear hM; refine BigFrame.wpList_want (by rfl) fun K hK => ws_alloc hM0 (t := 111) rfl (balC [] 0) info_rb (fun g4 w hM => hK _ _ ?_); clear hM0 hK K)) | fail); clear tok2) | (first | ((with_reducible refine at_alloc' ?_); (have hM0 := hM; clear hM; refine BigFrame.wpList_want (by rfl) fun K hK => ws_alloc hM0 (t := 111) rfl (balC [] 0) info_rb (fun gz w hM => hK _ _ ?_); clear hM0 hK K)) | fail) | (first | ((with_reducible refine at_load' ?_); (refine BigFrame.wpList_want (by rfl) fun K hK => ws_load hM rfl rfl (by (repeat (first | assumption | (with_reducible exact List.mem_cons_self) | apply List.mem_cons_of_mem)); first | done | fail) (n := 2) (by rfl) (by decide +kernel) (hK _ _ ?_); clear hK K)) | fail) | (first | ((with_reducible refine at_load' ?_); (refine BigFrame.wpList_want (by rfl) fun K hK => ws_load hM rfl rfl (by (repeat (first | assumption | (with_reducible exact List.mem_cons_self) | apply List.mem_cons_of_mem)); first | done | fail) (n := 9) (by rfl) (by decide +kernel) (hK _ _ ?_); clear hK K)) | fail) | (first | ((with_reducible refine at_load' ?_); (refine BigFrame.wpList_want (by rfl) fun K hK => ws_load1 hM rfl rfl (by (repeat (first | assumption | (with_reducible exact List.mem_cons_self) | apply List.mem_cons_of_mem)); first | done | fail) (by first | rfl | assumption) (by decide +kernel) (hK _ _ ?_); clear hK K)) | fail) | (go_at_call 68; have hM0 := hM; clear hM; (first | (with_reducible refine (star0 (H1.out _) hM0).mono ?_) | fail); clear hM0; rintro _ w ⟨rfl, hM⟩) | (go_at_call 68; have hM0 := hM; clear hM; (first | (with_reducible refine (star0 (H2.out _) hM0).mono ?_) | fail); clear hM0; rintro _ w ⟨rfl, hM⟩) | (go_at_call 68; have hM0 := hM; clear hM; (first | (with_reducible refine (star0 (H3.out _) hM0).mono ?_) | fail); clear hM0; rintro _ w ⟨rfl, hM⟩) | (go_at_call 68; have hM0 := hM; clear hM; (first | (with_reducible refine (star0 (H5.out _) hM0).mono ?_) | fail); clear hM0; rintro _ w ⟨rfl, hM⟩) | (first | ((with_reducible refine at_store' ?_); (have hM0 := hM; clear hM; refine BigFrame.wpList_want (by rfl) fun K hK => ws_store hM0 rfl rfl rfl (by (repeat (first | (with_reducible exact Take.head) | apply Take.tail)); first | done | fail) (n := 9) (by rfl) (by rfl) (by kernel_rfl) (by simp [Value.oneCell']) (fun w hM => hK _ _ ?_); clear hM0 hK K)) | fail) | (first | ((with_reducible refine at_store' ?_); (have hM0 := hM; clear hM; refine BigFrame.wpList_want (by rfl) fun K hK => ws_store hM0 rfl rfl rfl (by (repeat (first | (with_reducible exact Take.head) | apply Take.tail)); first | done | fail) (n := 2) (by rfl) (by rfl) (by kernel_rfl) (by simp [Value.oneCell']) (fun w hM => hK _ _ ?_); clear hM0 hK K)) | fail) | (go_at_call 25; have hM0 := hM; clear hM; (first | (with_reducible refine (starq (HN.out _) hM0).mono ?_) | fail); clear hM0; rintro _ w ⟨rfl, hM⟩) | (go_at_call 26; have hM0 := hM; clear hM; (first | (with_reducible refine (starq (HW.out _) hM0).mono ?_) | fail); clear hM0; rintro _ w ⟨rfl, hM⟩) | ((with_reducible refine at_bin' (op := .eql) (x := .tmp 80) ?_); refine BigFrame.wpList_want (by rfl) fun K hK => ws_of_ex (ex_eq rfl rfl rfl H8.out) (hK _ _ ?_); clear hK K) | ((with_reducible refine at_bin' (op := .eql) (x := .tmp 90) ?_); refine BigFrame.wpList_want (by rfl) fun K hK => ws_of_ex (ex_eq rfl rfl rfl H4.out) (hK _ _ ?_); clear hK K) | (go_at_call 69; have hM0 := hM; clear hM; (first | (with_reducible refine (star0 (H6.out _) hM0).mono ?_) | fail); clear hM0; rintro _ w ⟨rfl, hM⟩) | (first | ((with_reducible refine at_store' ?_); (have hM0 := hM; clear hM; refine BigFrame.wpList_want (by rfl) fun K hK => ws_store1 hM0 rfl rfl (by go_simp; rfl) (by first | rfl | assumption) (by (repeat (first | (with_reducible exact Take.head) | apply Take.tail)); first | done | fail) (by simp) (by kernel_rfl) (by simp only [List.setIfInBounds_toArray, List.set_cons_zero, List.set_cons_succ]; rfl) (fun w hM => hK _ _ ?_); clear hM0 hK K)) | fail) | (go_at_call 71; have hM0 := hM; clear hM; (first | (with_reducible refine (rtakeList_star H10.out _ hM0).mono ?_) | fail); clear hM0; rintro _ w ⟨A, ca, rfl, hM⟩) | (go_at_call 71; have hM0 := hM; clear hM; (first | (with_reducible refine (rtakeList_star H11.out _ hM0).mono ?_) | fail); clear hM0; rintro _ w ⟨B, cb, rfl, hM⟩))
  refine (star0 (H12.out _) hM).mono ?_
  clear hM
  rintro _ w ⟨rfl, hM⟩
  by_cases hc : c ≠ 0
  · have hc1 : (c == 0) = false := by simpa using hc
    have hc2 : (c != 0) = true := by simpa using hc
    replace HV : Hid (parseL (99 :: 118 :: t) = (noL, c)) := by show _ = _; rw [HV.out, finL, if_pos hc]
    clear hc
    go_wp2_with (first | (first | ((with_reducible refine at_load' ?_); (refine BigFrame.wpList_want (by rfl) fun K hK => ws_load hM rfl rfl (by (repeat (first | assumption | (with_reducible exact List.mem_cons_self) | apply List.mem_cons_of_mem)); first | done | fail) (n := 2) (by rfl) (by decide +kernel) (hK _ _ ?_); clear hK K)) | fail) | (go_at_call 72; have hM0 := hM; clear hM; (first | (with_reducible refine (star0 (H12.out _) hM0).mono ?_) | fail); clear hM0; rintro _ w ⟨rfl, hM⟩) | (first | ((with_reducible refine at_store' ?_); (have hM0 := hM; clear hM; refine BigFrame.wpList_want (by rfl) fun K hK => ws_store hM0 rfl rfl rfl (by (repeat (first | (with_reducible exact Take.head) | apply Take.tail)); first | done | fail) (n := 9) (by rfl) (by rfl) (by kernel_rfl) (by simp [Value.oneCell']) (fun w hM => hK _ _ ?_); clear hM0 hK K)) | fail))
    refine bodyPost_ret (results_row_tmp (P := Try.prog) (ty := 29) rfl _ _ g2 29 (rtC 0 0 0 0 [] 0 [] none 0 0 none 0 0) 9 _ rfl rfl (hM.blk (by (repeat (first | assumption | (with_reducible exact List.mem_cons_self) | apply List.mem_cons_of_mem)); first | done | fail)) rfl (by decide +kernel)) rfl ?_; exact RP_none HV.out (hM.sel (R := F) (by repeat (first | (with_reducible exact Sel.refl) | (with_reducible exact Take.head) | (with_reducible apply Take.tail) | (with_reducible apply Sel.cons) | (with_reducible apply Sel.drop))))
  obtain rfl : c = 0 := by simpa using hc
  clear hc
  have HK : ∀ (L : List SProp) (w : World), Star L w → rowE 1 A ps.length (ivs ps) ∈ L → rowE 1 B hs.length (ivs hs) ∈ L → Calls Try.prog 17 #[.agg (rtC k f t' q id 0 [] A ps.length ca B hs.length cb)] w fun r w' => r = .returned (.int .i64 (checkL ⟨k, f, t', q, id, 0, [], ps, hs⟩)) ∧ Star L w' := fun L w hM m1 m2 =>
    rcheck_star k f t' q id (by first | omega | simp) 0 [] A ps ca B hs cb (by first | omega | simp) (by first | omega | simp) w hM m1 m2
  generalize hkv : checkL ⟨k, f, t', q, id, 0, [], ps, hs⟩ = kv at HK
  have HKV := Lib.hid hkv
  clear hkv
  replace HK := Lib.hid HK
  by_cases hk : kv ≠ 0
  · have hk1 : (kv == 0) = false := by simpa using hk
    have hk2 : (kv != 0) = true := by simpa using hk
    replace HV : Hid (parseL (99 :: 118 :: t) = (noL, kv)) := by show _ = _; rw [HV.out, finL, if_neg (by simp), HKV.out, if_pos hk]
    clear hk
    go_wp2_with (first | (first | ((with_reducible refine at_load' ?_); (refine BigFrame.wpList_want (by rfl) fun K hK => ws_load hM rfl rfl (by (repeat (first | assumption | (with_reducible exact List.mem_cons_self) | apply List.mem_cons_of_mem)); first | done | fail) (n := 9) (by rfl) (by decide +kernel) (hK _ _ ?_); clear hK K)) | fail) | (go_at_call 17; have hM0 := hM; clear hM; (first | (with_reducible refine (HK.out _ _ hM0 (by (repeat (first | assumption | (with_reducible exact List.mem_cons_self) | apply List.mem_cons_of_mem)); first | done | fail) (by (repeat (first | assumption | (with_reducible exact List.mem_cons_self) | apply List.mem_cons_of_mem)); first | done | fail)).mono ?_) | fail); clear hM0; rintro _ w ⟨rfl, hM⟩) | (first | ((with_reducible refine at_store' ?_); (have hM0 := hM; clear hM; refine BigFrame.wpList_want (by rfl) fun K hK => ws_store hM0 rfl rfl rfl (by (repeat (first | (with_reducible exact Take.head) | apply Take.tail)); first | done | fail) (n := 9) (by rfl) (by rfl) (by kernel_rfl) (by simp [Value.oneCell']) (fun w hM => hK _ _ ?_); clear hM0 hK K)) | fail))
    refine bodyPost_ret (results_row_tmp (P := Try.prog) (ty := 29) rfl _ _ g2 29 (rtC 0 0 0 0 [] 0 [] none 0 0 none 0 0) 9 _ rfl rfl (hM.blk (by (repeat (first | assumption | (with_reducible exact List.mem_cons_self) | apply List.mem_cons_of_mem)); first | done | fail)) rfl (by decide +kernel)) rfl ?_; exact RP_none HV.out (hM.sel (R := F) (by repeat (first | (with_reducible exact Sel.refl) | (with_reducible exact Take.head) | (with_reducible apply Take.tail) | (with_reducible apply Sel.cons) | (with_reducible apply Sel.drop))))
  obtain rfl : kv = 0 := by simpa using hk
  clear hk
  replace HV : Hid (parseL (99 :: 118 :: t) = (⟨k, f, t', q, id, 0, [], ps, hs⟩, 0)) := by show _ = _; rw [HV.out, finL, if_neg (by simp), HKV.out, if_neg (by simp)]
  go_wp2_with (first | (first | ((with_reducible refine at_load' ?_); (refine BigFrame.wpList_want (by rfl) fun K hK => ws_load hM rfl rfl (by (repeat (first | assumption | (with_reducible exact List.mem_cons_self) | apply List.mem_cons_of_mem)); first | done | fail) (n := 9) (by rfl) (by decide +kernel) (hK _ _ ?_); clear hK K)) | fail) | (go_at_call 17; have hM0 := hM; clear hM; (first | (with_reducible refine (HK.out _ _ hM0 (by (repeat (first | assumption | (with_reducible exact List.mem_cons_self) | apply List.mem_cons_of_mem)); first | done | fail) (by (repeat (first | assumption | (with_reducible exact List.mem_cons_self) | apply List.mem_cons_of_mem)); first | done | fail)).mono ?_) | fail); clear hM0; rintro _ w ⟨rfl, hM⟩) | (first | ((with_reducible refine at_store' ?_); (have hM0 := hM; clear hM; refine BigFrame.wpList_want (by rfl) fun K hK => ws_store hM0 rfl rfl rfl (by (repeat (first | (with_reducible exact Take.head) | apply Take.tail)); first | done | fail) (n := 9) (by rfl) (by rfl) (by kernel_rfl) (by simp [Value.oneCell']) (fun w hM => hK _ _ ?_); clear hM0 hK K)) | fail))
  refine bodyPost_ret (results_row_tmp (P := Try.prog) (ty := 29) rfl _ _ g2 29 (rtC k f t' q id 0 [] A ps.length ca B hs.length cb) 9 _ rfl rfl (hM.blk (by (repeat (first | assumption | (with_reducible exact List.mem_cons_self) | apply List.mem_cons_of_mem)); first | done | fail)) rfl (by decide +kernel)) rfl ?_
  unfold RP
  rw [HV.out]
  have hfin := hM.sel (R := rowE 1 A ps.length (ivs ps) :: rowE 1 B hs.length (ivs hs) :: F) (by repeat (first | (with_reducible exact Sel.refl) | (with_reducible exact Take.head) | (with_reducible apply Take.tail) | (with_reducible apply Sel.cons) | (with_reducible apply Sel.drop)))
  exact ⟨A, ca, B, cb, rfl, hfin⟩
set_option maxRecDepth 100000 in
set_option maxHeartbeats 8000000 in
theorem rparse_W {F : List SProp} (t : List UInt8) (h0 : (99 :: 118 :: t).length ≤ 1024) (k : Int) (u1 : List UInt8) (e1 : Int) (h1 : mInt t 0 10 = (k, u1, e1)) (hn : hasName k = true) (h4 : is4 k = false) (h8 : is8 k = false) (hw : hasWhat k = true) (w : World) (hM : Star F w) :
    Calls Try.prog 23 #[.string ⟨(99 :: 118 :: t).toArray⟩] w (RP F (99 :: 118 :: t)) := by
  obtain ⟨f, u2, e2, h2⟩ : ∃ n u f, mInt u1 e1 63 = (n, u, f) := ⟨_, _, _, rfl⟩
  obtain ⟨t', u3, e3, h3⟩ : ∃ n u f, mInt u2 e2 63 = (n, u, f) := ⟨_, _, _, rfl⟩
  obtain ⟨q, u4, e4, h5⟩ : ∃ n u f, mInt u3 e3 4294967296 = (n, u, f) := ⟨_, _, _, rfl⟩
  obtain ⟨id, u5, e5, h6⟩ : ∃ n u f, mBytes u4 e4 32 = (n, u, f) := ⟨_, _, _, rfl⟩
  have H6 := rBytes_any u4 e4 32
  rw [h6] at H6
  replace H6 := Lib.hid H6
  have hid : id.length ≤ 32 := by have := congrArg Prod.fst h6; simp only at this; rw [← this]; unfold mBytes; split <;> (try split) <;> simp <;> omega
  obtain ⟨wh, u6, e6, h7⟩ : ∃ n u f, mInt u5 e5 3 = (n, u, f) := ⟨_, _, _, rfl⟩
  have H7 := rInt_any u5 e5 3 (by omega)
  rw [h7] at H7
  replace H7 := Lib.hid H7
  obtain ⟨u0, c, h12⟩ : ∃ u c, mClose u6 e6 = (u, c) := ⟨_, _, rfl⟩
  have hv : parseL (99 :: 118 :: t) = finL ⟨k, f, t', q, id, wh, [], [], []⟩ c := by
    have := parseL_eq (id := id) (wh := wh) (x := []) (ps := []) (hs := []) (u9 := u6) (e9 := e6) h0 h1 h2 h3 h5 (by rw [hn]; exact h6) (by rw [hw]; exact h7) (by rw [h8]; rfl) (by rw [h4]; rfl) (by rw [h4]; rfl)
    rwa [h12] at this
  have HV := Lib.hid hv
  have H1 := rInt_any t 0 10 (by omega)
  rw [h1] at H1
  replace H1 := Lib.hid H1
  have H2 := rInt_any u1 e1 63 (by omega)
  rw [h2] at H2
  replace H2 := Lib.hid H2
  have H3 := rInt_any u2 e2 63 (by omega)
  rw [h3] at H3
  replace H3 := Lib.hid H3
  have H5 := rInt_any u3 e3 4294967296 (by omega)
  rw [h5] at H5
  replace H5 := Lib.hid H5
  have H12 := rClose_any u6 e6
  rw [h12] at H12
  replace H12 := Lib.hid H12
  have HN := rName_any k
  have HW := rWhat_any k
  have H4 : decide (k = 4) = is4 k := rfl
  have H8 : decide (k = 8) = is8 k := rfl
  rw [hn] at HN
  rw [h4] at H4
  rw [h8] at H8
  rw [hw] at HW
  replace HN := Lib.hid HN
  replace H4 := Lib.hid H4
  replace H8 := Lib.hid H8
  replace HW := Lib.hid HW
  have b1 : decide ((1024 : Int) < (t.length : Int) + 1 + 1) = false := by simp at h0 ⊢; omega
  have b2 : decide ((t.length : Int) + 1 + 1 < 2) = false := by simp; omega
  have ht' : t.length ≤ 1024 := by simp at h0; omega
  clear hv h1 h2 h3 h5 h12 hn h4 h8 hw h0 h6 h7
  have tok1 : True := trivial
  have tok2 : True := trivial
  go_enter Try.func23, Try.ntmps23
  go_wp2_with (first | (have _t := tok1; (first | ((with_reducible refine at_alloc' ?_); (have hM0 := hM; clear hM; refine BigFrame.wpList_want (by rfl) fun K hK => ws_alloc hM0 (t := 29) rfl (rtC 0 0 0 0 [] 0 [] none 0 0 none 0 0) info_rt (fun g2 w hM => hK _ _ ?_); clear hM0 hK K)) | fail); clear tok1) | (first | ((with_reducible refine at_alloc' ?_); (have hM0 := hM; clear hM; refine BigFrame.wpList_want (by rfl) fun K hK => ws_alloc hM0 (t := 29) rfl (rtC 0 0 0 0 [] 0 [] none 0 0 none 0 0) info_rt (fun g9 w hM => hK _ _ ?_); clear hM0 hK K)) | fail) | (have _t := tok2; (first | ((with_reducible refine at_alloc' ?_); (have hM0 := hM; clear hM; refine BigFrame.wpList_want (by rfl) fun K hK => ws_alloc hM0 (t := 111) rfl (balC [] 0) info_rb (fun g4 w hM => hK _ _ ?_); clear hM0 hK K)) | fail); clear tok2) | (first | ((with_reducible refine at_alloc' ?_); (have hM0 := hM; clear hM; refine BigFrame.wpList_want (by rfl) fun K hK => ws_alloc hM0 (t := 111) rfl (balC [] 0) info_rb (fun gz w hM => hK _ _ ?_); clear hM0 hK K)) | fail) | (first | ((with_reducible refine at_load' ?_); (refine BigFrame.wpList_want (by rfl) fun K hK => ws_load hM rfl rfl (by (repeat (first | assumption | (with_reducible exact List.mem_cons_self) | apply List.mem_cons_of_mem)); first | done | fail) (n := 2) (by rfl) (by decide +kernel) (hK _ _ ?_); clear hK K)) | fail) | (first | ((with_reducible refine at_load' ?_); (refine BigFrame.wpList_want (by rfl) fun K hK => ws_load hM rfl rfl (by (repeat (first | assumption | (with_reducible exact List.mem_cons_self) | apply List.mem_cons_of_mem)); first | done | fail) (n := 9) (by rfl) (by decide +kernel) (hK _ _ ?_); clear hK K)) | fail) | (first | ((with_reducible refine at_load' ?_); (refine BigFrame.wpList_want (by rfl) fun K hK => ws_load1 hM rfl rfl (by (repeat (first | assumption | (with_reducible exact List.mem_cons_self) | apply List.mem_cons_of_mem)); first | done | fail) (by first | rfl | assumption) (by decide +kernel) (hK _ _ ?_); clear hK K)) | fail) | (go_at_call 68; have hM0 := hM; clear hM; (first | (with_reducible refine (star0 (H1.out _) hM0).mono ?_) | fail); clear hM0; rintro _ w ⟨rfl, hM⟩) | (go_at_call 68; have hM0 := hM; clear hM; (first | (with_reducible refine (star0 (H2.out _) hM0).mono ?_) | fail); clear hM0; rintro _ w ⟨rfl, hM⟩) | (go_at_call 68; have hM0 := hM; clear hM; (first | (with_reducible refine (star0 (H3.out _) hM0).mono ?_) | fail); clear hM0; rintro _ w ⟨rfl, hM⟩) | (go_at_call 68; have hM0 := hM; clear hM; (first | (with_reducible refine (star0 (H5.out _) hM0).mono ?_) | fail); clear hM0; rintro _ w ⟨rfl, hM⟩) | (go_at_call 68; have hM0 := hM; clear hM; (first | (with_reducible refine (star0 (H7.out _) hM0).mono ?_) | fail); clear hM0; rintro _ w ⟨rfl, hM⟩) | (first | ((with_reducible refine at_store' ?_); (have hM0 := hM; clear hM; refine BigFrame.wpList_want (by rfl) fun K hK => ws_store hM0 rfl rfl rfl (by (repeat (first | (with_reducible exact Take.head) | apply Take.tail)); first | done | fail) (n := 9) (by rfl) (by rfl) (by kernel_rfl) (by simp [Value.oneCell']) (fun w hM => hK _ _ ?_); clear hM0 hK K)) | fail) | (first | ((with_reducible refine at_store' ?_); (have hM0 := hM; clear hM; refine BigFrame.wpList_want (by rfl) fun K hK => ws_store hM0 rfl rfl rfl (by (repeat (first | (with_reducible exact Take.head) | apply Take.tail)); first | done | fail) (n := 2) (by rfl) (by rfl) (by kernel_rfl) (by simp [Value.oneCell']) (fun w hM => hK _ _ ?_); clear hM0 hK K)) | fail) | (go_at_call 25; have hM0 := hM; clear hM; (first | (with_reducible refine (starq (HN.out _) hM0).mono ?_) | fail); clear hM0; rintro _ w ⟨rfl, hM⟩) | (go_at_call 26; have hM0 := hM; clear hM; (first | (with_reducible refine (starq (HW.out _) hM0).mono ?_) | fail); clear hM0; rintro _ w ⟨rfl, hM⟩) | ((with_reducible refine at_bin' (op := .eql) (x := .tmp 80) ?_); refine BigFrame.wpList_want (by rfl) fun K hK => ws_of_ex (ex_eq rfl rfl rfl H8.out) (hK _ _ ?_); clear hK K) | ((with_reducible refine at_bin' (op := .eql) (x := .tmp 90) ?_); refine BigFrame.wpList_want (by rfl) fun K hK => ws_of_ex (ex_eq rfl rfl rfl H4.out) (hK _ _ ?_); clear hK K) | (go_at_call 69; have hM0 := hM; clear hM; (first | (with_reducible refine (star0 (H6.out _) hM0).mono ?_) | fail); clear hM0; rintro _ w ⟨rfl, hM⟩) | (first | ((with_reducible refine at_store' ?_); (have hM0 := hM; clear hM; refine BigFrame.wpList_want (by rfl) fun K hK => ws_store1 hM0 rfl rfl (by go_simp; rfl) (by first | rfl | assumption) (by (repeat (first | (with_reducible exact Take.head) | apply Take.tail)); first | done | fail) (by simp) (by kernel_rfl) (by simp only [List.setIfInBounds_toArray, List.set_cons_zero, List.set_cons_succ]; rfl) (fun w hM => hK _ _ ?_); clear hM0 hK K)) | fail))
  refine (star0 (H12.out _) hM).mono ?_
  clear hM
  rintro _ w ⟨rfl, hM⟩
  by_cases hc : c ≠ 0
  · have hc1 : (c == 0) = false := by simpa using hc
    have hc2 : (c != 0) = true := by simpa using hc
    replace HV : Hid (parseL (99 :: 118 :: t) = (noL, c)) := by show _ = _; rw [HV.out, finL, if_pos hc]
    clear hc
    go_wp2_with (first | (first | ((with_reducible refine at_load' ?_); (refine BigFrame.wpList_want (by rfl) fun K hK => ws_load hM rfl rfl (by (repeat (first | assumption | (with_reducible exact List.mem_cons_self) | apply List.mem_cons_of_mem)); first | done | fail) (n := 2) (by rfl) (by decide +kernel) (hK _ _ ?_); clear hK K)) | fail) | (go_at_call 72; have hM0 := hM; clear hM; (first | (with_reducible refine (star0 (H12.out _) hM0).mono ?_) | fail); clear hM0; rintro _ w ⟨rfl, hM⟩) | (first | ((with_reducible refine at_store' ?_); (have hM0 := hM; clear hM; refine BigFrame.wpList_want (by rfl) fun K hK => ws_store hM0 rfl rfl rfl (by (repeat (first | (with_reducible exact Take.head) | apply Take.tail)); first | done | fail) (n := 9) (by rfl) (by rfl) (by kernel_rfl) (by simp [Value.oneCell']) (fun w hM => hK _ _ ?_); clear hM0 hK K)) | fail))
    refine bodyPost_ret (results_row_tmp (P := Try.prog) (ty := 29) rfl _ _ g2 29 (rtC 0 0 0 0 [] 0 [] none 0 0 none 0 0) 9 _ rfl rfl (hM.blk (by (repeat (first | assumption | (with_reducible exact List.mem_cons_self) | apply List.mem_cons_of_mem)); first | done | fail)) rfl (by decide +kernel)) rfl ?_; exact RP_none HV.out (hM.sel (R := F) (by repeat (first | (with_reducible exact Sel.refl) | (with_reducible exact Take.head) | (with_reducible apply Take.tail) | (with_reducible apply Sel.cons) | (with_reducible apply Sel.drop))))
  obtain rfl : c = 0 := by simpa using hc
  clear hc
  replace hM := (hM.nilrow 1).nilrow 1
  have HK : ∀ (L : List SProp) (w : World), Star L w → rowE 1 none 0 [] ∈ L → rowE 1 none 0 [] ∈ L → Calls Try.prog 17 #[.agg (rtC k f t' q id wh [] none 0 0 none 0 0)] w fun r w' => r = .returned (.int .i64 (checkL ⟨k, f, t', q, id, wh, [], [], []⟩)) ∧ Star L w' := fun L w hM m1 m2 =>
    rcheck_star k f t' q id (by first | omega | simp) wh [] none [] 0 none [] 0 (by first | omega | simp) (by first | omega | simp) w hM m1 m2
  generalize hkv : checkL ⟨k, f, t', q, id, wh, [], [], []⟩ = kv at HK
  have HKV := Lib.hid hkv
  clear hkv
  replace HK := Lib.hid HK
  by_cases hk : kv ≠ 0
  · have hk1 : (kv == 0) = false := by simpa using hk
    have hk2 : (kv != 0) = true := by simpa using hk
    replace HV : Hid (parseL (99 :: 118 :: t) = (noL, kv)) := by show _ = _; rw [HV.out, finL, if_neg (by simp), HKV.out, if_pos hk]
    clear hk
    go_wp2_with (first | (first | ((with_reducible refine at_load' ?_); (refine BigFrame.wpList_want (by rfl) fun K hK => ws_load hM rfl rfl (by (repeat (first | assumption | (with_reducible exact List.mem_cons_self) | apply List.mem_cons_of_mem)); first | done | fail) (n := 9) (by rfl) (by decide +kernel) (hK _ _ ?_); clear hK K)) | fail) | (go_at_call 17; have hM0 := hM; clear hM; (first | (with_reducible refine (HK.out _ _ hM0 (by (repeat (first | assumption | (with_reducible exact List.mem_cons_self) | apply List.mem_cons_of_mem)); first | done | fail) (by (repeat (first | assumption | (with_reducible exact List.mem_cons_self) | apply List.mem_cons_of_mem)); first | done | fail)).mono ?_) | fail); clear hM0; rintro _ w ⟨rfl, hM⟩) | (first | ((with_reducible refine at_store' ?_); (have hM0 := hM; clear hM; refine BigFrame.wpList_want (by rfl) fun K hK => ws_store hM0 rfl rfl rfl (by (repeat (first | (with_reducible exact Take.head) | apply Take.tail)); first | done | fail) (n := 9) (by rfl) (by rfl) (by kernel_rfl) (by simp [Value.oneCell']) (fun w hM => hK _ _ ?_); clear hM0 hK K)) | fail))
    refine bodyPost_ret (results_row_tmp (P := Try.prog) (ty := 29) rfl _ _ g2 29 (rtC 0 0 0 0 [] 0 [] none 0 0 none 0 0) 9 _ rfl rfl (hM.blk (by (repeat (first | assumption | (with_reducible exact List.mem_cons_self) | apply List.mem_cons_of_mem)); first | done | fail)) rfl (by decide +kernel)) rfl ?_; exact RP_none HV.out (hM.sel (R := F) (by repeat (first | (with_reducible exact Sel.refl) | (with_reducible exact Take.head) | (with_reducible apply Take.tail) | (with_reducible apply Sel.cons) | (with_reducible apply Sel.drop))))
  obtain rfl : kv = 0 := by simpa using hk
  clear hk
  replace HV : Hid (parseL (99 :: 118 :: t) = (⟨k, f, t', q, id, wh, [], [], []⟩, 0)) := by show _ = _; rw [HV.out, finL, if_neg (by simp), HKV.out, if_neg (by simp)]
  go_wp2_with (first | (first | ((with_reducible refine at_load' ?_); (refine BigFrame.wpList_want (by rfl) fun K hK => ws_load hM rfl rfl (by (repeat (first | assumption | (with_reducible exact List.mem_cons_self) | apply List.mem_cons_of_mem)); first | done | fail) (n := 9) (by rfl) (by decide +kernel) (hK _ _ ?_); clear hK K)) | fail) | (go_at_call 17; have hM0 := hM; clear hM; (first | (with_reducible refine (HK.out _ _ hM0 (by (repeat (first | assumption | (with_reducible exact List.mem_cons_self) | apply List.mem_cons_of_mem)); first | done | fail) (by (repeat (first | assumption | (with_reducible exact List.mem_cons_self) | apply List.mem_cons_of_mem)); first | done | fail)).mono ?_) | fail); clear hM0; rintro _ w ⟨rfl, hM⟩) | (first | ((with_reducible refine at_store' ?_); (have hM0 := hM; clear hM; refine BigFrame.wpList_want (by rfl) fun K hK => ws_store hM0 rfl rfl rfl (by (repeat (first | (with_reducible exact Take.head) | apply Take.tail)); first | done | fail) (n := 9) (by rfl) (by rfl) (by kernel_rfl) (by simp [Value.oneCell']) (fun w hM => hK _ _ ?_); clear hM0 hK K)) | fail))
  refine bodyPost_ret (results_row_tmp (P := Try.prog) (ty := 29) rfl _ _ g2 29 (rtC k f t' q id wh [] none 0 0 none 0 0) 9 _ rfl rfl (hM.blk (by (repeat (first | assumption | (with_reducible exact List.mem_cons_self) | apply List.mem_cons_of_mem)); first | done | fail)) rfl (by decide +kernel)) rfl ?_
  unfold RP
  rw [HV.out]
  have hfin := hM.sel (R := rowE 1 none 0 [] :: rowE 1 none 0 [] :: F) (by repeat (first | (with_reducible exact Sel.refl) | (with_reducible exact Take.head) | (with_reducible apply Take.tail) | (with_reducible apply Sel.cons) | (with_reducible apply Sel.drop)))
  exact ⟨none, 0, none, 0, rfl, hfin⟩
set_option maxRecDepth 100000 in
set_option maxHeartbeats 8000000 in
theorem rparse_B {F : List SProp} (t : List UInt8) (h0 : (99 :: 118 :: t).length ≤ 1024) (k : Int) (u1 : List UInt8) (e1 : Int) (h1 : mInt t 0 10 = (k, u1, e1)) (hn : hasName k = true) (h4 : is4 k = false) (h8 : is8 k = true) (hw : hasWhat k = true) (w : World) (hM : Star F w) :
    Calls Try.prog 23 #[.string ⟨(99 :: 118 :: t).toArray⟩] w (RP F (99 :: 118 :: t)) := by
  obtain ⟨f, u2, e2, h2⟩ : ∃ n u f, mInt u1 e1 63 = (n, u, f) := ⟨_, _, _, rfl⟩
  obtain ⟨t', u3, e3, h3⟩ : ∃ n u f, mInt u2 e2 63 = (n, u, f) := ⟨_, _, _, rfl⟩
  obtain ⟨q, u4, e4, h5⟩ : ∃ n u f, mInt u3 e3 4294967296 = (n, u, f) := ⟨_, _, _, rfl⟩
  obtain ⟨id, u5, e5, h6⟩ : ∃ n u f, mBytes u4 e4 32 = (n, u, f) := ⟨_, _, _, rfl⟩
  have H6 := rBytes_any u4 e4 32
  rw [h6] at H6
  replace H6 := Lib.hid H6
  have hid : id.length ≤ 32 := by have := congrArg Prod.fst h6; simp only at this; rw [← this]; unfold mBytes; split <;> (try split) <;> simp <;> omega
  obtain ⟨wh, u6, e6, h7⟩ : ∃ n u f, mInt u5 e5 3 = (n, u, f) := ⟨_, _, _, rfl⟩
  have H7 := rInt_any u5 e5 3 (by omega)
  rw [h7] at H7
  replace H7 := Lib.hid H7
  obtain ⟨x, u7, e7, h9⟩ : ∃ n u f, mStr u6 e6 512 = (n, u, f) := ⟨_, _, _, rfl⟩
  have H9 := rTakeStr_any u6 e6 512 (by omega)
  rw [h9] at H9
  replace H9 := Lib.hid H9
  obtain ⟨u0, c, h12⟩ : ∃ u c, mClose u7 e7 = (u, c) := ⟨_, _, rfl⟩
  have hv : parseL (99 :: 118 :: t) = finL ⟨k, f, t', q, id, wh, x, [], []⟩ c := by
    have := parseL_eq (id := id) (wh := wh) (x := x) (ps := []) (hs := []) (u9 := u7) (e9 := e7) h0 h1 h2 h3 h5 (by rw [hn]; exact h6) (by rw [hw]; exact h7) (by rw [h8]; exact h9) (by rw [h4]; rfl) (by rw [h4]; rfl)
    rwa [h12] at this
  have HV := Lib.hid hv
  have H1 := rInt_any t 0 10 (by omega)
  rw [h1] at H1
  replace H1 := Lib.hid H1
  have H2 := rInt_any u1 e1 63 (by omega)
  rw [h2] at H2
  replace H2 := Lib.hid H2
  have H3 := rInt_any u2 e2 63 (by omega)
  rw [h3] at H3
  replace H3 := Lib.hid H3
  have H5 := rInt_any u3 e3 4294967296 (by omega)
  rw [h5] at H5
  replace H5 := Lib.hid H5
  have H12 := rClose_any u7 e7
  rw [h12] at H12
  replace H12 := Lib.hid H12
  have HN := rName_any k
  have HW := rWhat_any k
  have H4 : decide (k = 4) = is4 k := rfl
  have H8 : decide (k = 8) = is8 k := rfl
  rw [hn] at HN
  rw [h4] at H4
  rw [h8] at H8
  rw [hw] at HW
  replace HN := Lib.hid HN
  replace H4 := Lib.hid H4
  replace H8 := Lib.hid H8
  replace HW := Lib.hid HW
  have b1 : decide ((1024 : Int) < (t.length : Int) + 1 + 1) = false := by simp at h0 ⊢; omega
  have b2 : decide ((t.length : Int) + 1 + 1 < 2) = false := by simp; omega
  have ht' : t.length ≤ 1024 := by simp at h0; omega
  clear hv h1 h2 h3 h5 h12 hn h4 h8 hw h0 h6 h7 h9
  have tok1 : True := trivial
  have tok2 : True := trivial
  go_enter Try.func23, Try.ntmps23
  go_wp2_with (first | (have _t := tok1; (first | ((with_reducible refine at_alloc' ?_); (have hM0 := hM; clear hM; refine BigFrame.wpList_want (by rfl) fun K hK => ws_alloc hM0 (t := 29) rfl (rtC 0 0 0 0 [] 0 [] none 0 0 none 0 0) info_rt (fun g2 w hM => hK _ _ ?_); clear hM0 hK K)) | fail); clear tok1) | (first | ((with_reducible refine at_alloc' ?_); (have hM0 := hM; clear hM; refine BigFrame.wpList_want (by rfl) fun K hK => ws_alloc hM0 (t := 29) rfl (rtC 0 0 0 0 [] 0 [] none 0 0 none 0 0) info_rt (fun g9 w hM => hK _ _ ?_); clear hM0 hK K)) | fail) | (have _t := tok2; (first | ((with_reducible refine at_alloc' ?_); (have hM0 := hM; clear hM; refine BigFrame.wpList_want (by rfl) fun K hK => ws_alloc hM0 (t := 111) rfl (balC [] 0) info_rb (fun g4 w hM => hK _ _ ?_); clear hM0 hK K)) | fail); clear tok2) | (first | ((with_reducible refine at_alloc' ?_); (have hM0 := hM; clear hM; refine BigFrame.wpList_want (by rfl) fun K hK => ws_alloc hM0 (t := 111) rfl (balC [] 0) info_rb (fun gz w hM => hK _ _ ?_); clear hM0 hK K)) | fail) | (first | ((with_reducible refine at_load' ?_); (refine BigFrame.wpList_want (by rfl) fun K hK => ws_load hM rfl rfl (by (repeat (first | assumption | (with_reducible exact List.mem_cons_self) | apply List.mem_cons_of_mem)); first | done | fail) (n := 2) (by rfl) (by decide +kernel) (hK _ _ ?_); clear hK K)) | fail) | (first | ((with_reducible refine at_load' ?_); (refine BigFrame.wpList_want (by rfl) fun K hK => ws_load hM rfl rfl (by (repeat (first | assumption | (with_reducible exact List.mem_cons_self) | apply List.mem_cons_of_mem)); first | done | fail) (n := 9) (by rfl) (by decide +kernel) (hK _ _ ?_); clear hK K)) | fail) | (first | ((with_reducible refine at_load' ?_); (refine BigFrame.wpList_want (by rfl) fun K hK => ws_load1 hM rfl rfl (by (repeat (first | assumption | (with_reducible exact List.mem_cons_self) | apply List.mem_cons_of_mem)); first | done | fail) (by first | rfl | assumption) (by decide +kernel) (hK _ _ ?_); clear hK K)) | fail) | (go_at_call 68; have hM0 := hM; clear hM; (first | (with_reducible refine (star0 (H1.out _) hM0).mono ?_) | fail); clear hM0; rintro _ w ⟨rfl, hM⟩) | (go_at_call 68; have hM0 := hM; clear hM; (first | (with_reducible refine (star0 (H2.out _) hM0).mono ?_) | fail); clear hM0; rintro _ w ⟨rfl, hM⟩) | (go_at_call 68; have hM0 := hM; clear hM; (first | (with_reducible refine (star0 (H3.out _) hM0).mono ?_) | fail); clear hM0; rintro _ w ⟨rfl, hM⟩) | (go_at_call 68; have hM0 := hM; clear hM; (first | (with_reducible refine (star0 (H5.out _) hM0).mono ?_) | fail); clear hM0; rintro _ w ⟨rfl, hM⟩) | (go_at_call 68; have hM0 := hM; clear hM; (first | (with_reducible refine (star0 (H7.out _) hM0).mono ?_) | fail); clear hM0; rintro _ w ⟨rfl, hM⟩) | (first | ((with_reducible refine at_store' ?_); (have hM0 := hM; clear hM; refine BigFrame.wpList_want (by rfl) fun K hK => ws_store hM0 rfl rfl rfl (by (repeat (first | (with_reducible exact Take.head) | apply Take.tail)); first | done | fail) (n := 9) (by rfl) (by rfl) (by kernel_rfl) (by simp [Value.oneCell']) (fun w hM => hK _ _ ?_); clear hM0 hK K)) | fail) | (first | ((with_reducible refine at_store' ?_); (have hM0 := hM; clear hM; refine BigFrame.wpList_want (by rfl) fun K hK => ws_store hM0 rfl rfl rfl (by (repeat (first | (with_reducible exact Take.head) | apply Take.tail)); first | done | fail) (n := 2) (by rfl) (by rfl) (by kernel_rfl) (by simp [Value.oneCell']) (fun w hM => hK _ _ ?_); clear hM0 hK K)) | fail) | (go_at_call 25; have hM0 := hM; clear hM; (first | (with_reducible refine (starq (HN.out _) hM0).mono ?_) | fail); clear hM0; rintro _ w ⟨rfl, hM⟩) | (go_at_call 26; have hM0 := hM; clear hM; (first | (with_reducible refine (starq (HW.out _) hM0).mono ?_) | fail); clear hM0; rintro _ w ⟨rfl, hM⟩) | ((with_reducible refine at_bin' (op := .eql) (x := .tmp 80) ?_); refine BigFrame.wpList_want (by rfl) fun K hK => ws_of_ex (ex_eq rfl rfl rfl H8.out) (hK _ _ ?_); clear hK K) | ((with_reducible refine at_bin' (op := .eql) (x := .tmp 90) ?_); refine BigFrame.wpList_want (by rfl) fun K hK => ws_of_ex (ex_eq rfl rfl rfl H4.out) (hK _ _ ?_); clear hK K) | (go_at_call 69; have hM0 := hM; clear hM; (first | (with_reducible refine (star0 (H6.out _) hM0).mono ?_) | fail); clear hM0; rintro _ w ⟨rfl, hM⟩) | (first | ((with_reducible refine at_store' ?_); (have hM0 := hM; clear hM; refine BigFrame.wpList_want (by rfl) fun K hK => ws_store1 hM0 rfl rfl (by go_simp; rfl) (by first | rfl | assumption) (by (repeat (first | (with_reducible exact Take.head) | apply Take.tail)); first | done | fail) (by simp) (by kernel_rfl) (by simp only [List.setIfInBounds_toArray, List.set_cons_zero, List.set_cons_succ]; rfl) (fun w hM => hK _ _ ?_); clear hM0 hK K)) | fail) | (go_at_call 70; have hM0 := hM; clear hM; (first | (with_reducible refine (star0 (H9.out _) hM0).mono ?_) | fail); clear hM0; rintro _ w ⟨rfl, hM⟩))
  refine (star0 (H12.out _) hM).mono ?_
  clear hM
  rintro _ w ⟨rfl, hM⟩
  by_cases hc : c ≠ 0
  · have hc1 : (c == 0) = false := by simpa using hc
    have hc2 : (c != 0) = true := by simpa using hc
    replace HV : Hid (parseL (99 :: 118 :: t) = (noL, c)) := by show _ = _; rw [HV.out, finL, if_pos hc]
    clear hc
    go_wp2_with (first | (first | ((with_reducible refine at_load' ?_); (refine BigFrame.wpList_want (by rfl) fun K hK => ws_load hM rfl rfl (by (repeat (first | assumption | (with_reducible exact List.mem_cons_self) | apply List.mem_cons_of_mem)); first | done | fail) (n := 2) (by rfl) (by decide +kernel) (hK _ _ ?_); clear hK K)) | fail) | (go_at_call 72; have hM0 := hM; clear hM; (first | (with_reducible refine (star0 (H12.out _) hM0).mono ?_) | fail); clear hM0; rintro _ w ⟨rfl, hM⟩) | (first | ((with_reducible refine at_store' ?_); (have hM0 := hM; clear hM; refine BigFrame.wpList_want (by rfl) fun K hK => ws_store hM0 rfl rfl rfl (by (repeat (first | (with_reducible exact Take.head) | apply Take.tail)); first | done | fail) (n := 9) (by rfl) (by rfl) (by kernel_rfl) (by simp [Value.oneCell']) (fun w hM => hK _ _ ?_); clear hM0 hK K)) | fail))
    refine bodyPost_ret (results_row_tmp (P := Try.prog) (ty := 29) rfl _ _ g2 29 (rtC 0 0 0 0 [] 0 [] none 0 0 none 0 0) 9 _ rfl rfl (hM.blk (by (repeat (first | assumption | (with_reducible exact List.mem_cons_self) | apply List.mem_cons_of_mem)); first | done | fail)) rfl (by decide +kernel)) rfl ?_; exact RP_none HV.out (hM.sel (R := F) (by repeat (first | (with_reducible exact Sel.refl) | (with_reducible exact Take.head) | (with_reducible apply Take.tail) | (with_reducible apply Sel.cons) | (with_reducible apply Sel.drop))))
  obtain rfl : c = 0 := by simpa using hc
  clear hc
  replace hM := (hM.nilrow 1).nilrow 1
  have HK : ∀ (L : List SProp) (w : World), Star L w → rowE 1 none 0 [] ∈ L → rowE 1 none 0 [] ∈ L → Calls Try.prog 17 #[.agg (rtC k f t' q id wh x none 0 0 none 0 0)] w fun r w' => r = .returned (.int .i64 (checkL ⟨k, f, t', q, id, wh, x, [], []⟩)) ∧ Star L w' := fun L w hM m1 m2 =>
    rcheck_star k f t' q id (by first | omega | simp) wh x none [] 0 none [] 0 (by first | omega | simp) (by first | omega | simp) w hM m1 m2
  generalize hkv : checkL ⟨k, f, t', q, id, wh, x, [], []⟩ = kv at HK
  have HKV := Lib.hid hkv
  clear hkv
  replace HK := Lib.hid HK
  by_cases hk : kv ≠ 0
  · have hk1 : (kv == 0) = false := by simpa using hk
    have hk2 : (kv != 0) = true := by simpa using hk
    replace HV : Hid (parseL (99 :: 118 :: t) = (noL, kv)) := by show _ = _; rw [HV.out, finL, if_neg (by simp), HKV.out, if_pos hk]
    clear hk
    go_wp2_with (first | (first | ((with_reducible refine at_load' ?_); (refine BigFrame.wpList_want (by rfl) fun K hK => ws_load hM rfl rfl (by (repeat (first | assumption | (with_reducible exact List.mem_cons_self) | apply List.mem_cons_of_mem)); first | done | fail) (n := 9) (by rfl) (by decide +kernel) (hK _ _ ?_); clear hK K)) | fail) | (go_at_call 17; have hM0 := hM; clear hM; (first | (with_reducible refine (HK.out _ _ hM0 (by (repeat (first | assumption | (with_reducible exact List.mem_cons_self) | apply List.mem_cons_of_mem)); first | done | fail) (by (repeat (first | assumption | (with_reducible exact List.mem_cons_self) | apply List.mem_cons_of_mem)); first | done | fail)).mono ?_) | fail); clear hM0; rintro _ w ⟨rfl, hM⟩) | (first | ((with_reducible refine at_store' ?_); (have hM0 := hM; clear hM; refine BigFrame.wpList_want (by rfl) fun K hK => ws_store hM0 rfl rfl rfl (by (repeat (first | (with_reducible exact Take.head) | apply Take.tail)); first | done | fail) (n := 9) (by rfl) (by rfl) (by kernel_rfl) (by simp [Value.oneCell']) (fun w hM => hK _ _ ?_); clear hM0 hK K)) | fail))
    refine bodyPost_ret (results_row_tmp (P := Try.prog) (ty := 29) rfl _ _ g2 29 (rtC 0 0 0 0 [] 0 [] none 0 0 none 0 0) 9 _ rfl rfl (hM.blk (by (repeat (first | assumption | (with_reducible exact List.mem_cons_self) | apply List.mem_cons_of_mem)); first | done | fail)) rfl (by decide +kernel)) rfl ?_; exact RP_none HV.out (hM.sel (R := F) (by repeat (first | (with_reducible exact Sel.refl) | (with_reducible exact Take.head) | (with_reducible apply Take.tail) | (with_reducible apply Sel.cons) | (with_reducible apply Sel.drop))))
  obtain rfl : kv = 0 := by simpa using hk
  clear hk
  replace HV : Hid (parseL (99 :: 118 :: t) = (⟨k, f, t', q, id, wh, x, [], []⟩, 0)) := by show _ = _; rw [HV.out, finL, if_neg (by simp), HKV.out, if_neg (by simp)]
  go_wp2_with (first | (first | ((with_reducible refine at_load' ?_); (refine BigFrame.wpList_want (by rfl) fun K hK => ws_load hM rfl rfl (by (repeat (first | assumption | (with_reducible exact List.mem_cons_self) | apply List.mem_cons_of_mem)); first | done | fail) (n := 9) (by rfl) (by decide +kernel) (hK _ _ ?_); clear hK K)) | fail) | (go_at_call 17; have hM0 := hM; clear hM; (first | (with_reducible refine (HK.out _ _ hM0 (by (repeat (first | assumption | (with_reducible exact List.mem_cons_self) | apply List.mem_cons_of_mem)); first | done | fail) (by (repeat (first | assumption | (with_reducible exact List.mem_cons_self) | apply List.mem_cons_of_mem)); first | done | fail)).mono ?_) | fail); clear hM0; rintro _ w ⟨rfl, hM⟩) | (first | ((with_reducible refine at_store' ?_); (have hM0 := hM; clear hM; refine BigFrame.wpList_want (by rfl) fun K hK => ws_store hM0 rfl rfl rfl (by (repeat (first | (with_reducible exact Take.head) | apply Take.tail)); first | done | fail) (n := 9) (by rfl) (by rfl) (by kernel_rfl) (by simp [Value.oneCell']) (fun w hM => hK _ _ ?_); clear hM0 hK K)) | fail))
  refine bodyPost_ret (results_row_tmp (P := Try.prog) (ty := 29) rfl _ _ g2 29 (rtC k f t' q id wh x none 0 0 none 0 0) 9 _ rfl rfl (hM.blk (by (repeat (first | assumption | (with_reducible exact List.mem_cons_self) | apply List.mem_cons_of_mem)); first | done | fail)) rfl (by decide +kernel)) rfl ?_
  unfold RP
  rw [HV.out]
  have hfin := hM.sel (R := rowE 1 none 0 [] :: rowE 1 none 0 [] :: F) (by repeat (first | (with_reducible exact Sel.refl) | (with_reducible exact Take.head) | (with_reducible apply Take.tail) | (with_reducible apply Sel.cons) | (with_reducible apply Sel.drop)))
  exact ⟨none, 0, none, 0, rfl, hfin⟩
set_option maxRecDepth 100000 in
set_option maxHeartbeats 8000000 in
theorem rparse_F {F : List SProp} (t : List UInt8) (h0 : (99 :: 118 :: t).length ≤ 1024) (k : Int) (u1 : List UInt8) (e1 : Int) (h1 : mInt t 0 10 = (k, u1, e1)) (hn : hasName k = true) (h4 : is4 k = false) (h8 : is8 k = false) (hw : hasWhat k = false) (w : World) (hM : Star F w) :
    Calls Try.prog 23 #[.string ⟨(99 :: 118 :: t).toArray⟩] w (RP F (99 :: 118 :: t)) := by
  obtain ⟨f, u2, e2, h2⟩ : ∃ n u f, mInt u1 e1 63 = (n, u, f) := ⟨_, _, _, rfl⟩
  obtain ⟨t', u3, e3, h3⟩ : ∃ n u f, mInt u2 e2 63 = (n, u, f) := ⟨_, _, _, rfl⟩
  obtain ⟨q, u4, e4, h5⟩ : ∃ n u f, mInt u3 e3 4294967296 = (n, u, f) := ⟨_, _, _, rfl⟩
  obtain ⟨id, u5, e5, h6⟩ : ∃ n u f, mBytes u4 e4 32 = (n, u, f) := ⟨_, _, _, rfl⟩
  have H6 := rBytes_any u4 e4 32
  rw [h6] at H6
  replace H6 := Lib.hid H6
  have hid : id.length ≤ 32 := by have := congrArg Prod.fst h6; simp only at this; rw [← this]; unfold mBytes; split <;> (try split) <;> simp <;> omega
  obtain ⟨u0, c, h12⟩ : ∃ u c, mClose u5 e5 = (u, c) := ⟨_, _, rfl⟩
  have hv : parseL (99 :: 118 :: t) = finL ⟨k, f, t', q, id, 0, [], [], []⟩ c := by
    have := parseL_eq (id := id) (wh := 0) (x := []) (ps := []) (hs := []) (u9 := u5) (e9 := e5) h0 h1 h2 h3 h5 (by rw [hn]; exact h6) (by rw [hw]; rfl) (by rw [h8]; rfl) (by rw [h4]; rfl) (by rw [h4]; rfl)
    rwa [h12] at this
  have HV := Lib.hid hv
  have H1 := rInt_any t 0 10 (by omega)
  rw [h1] at H1
  replace H1 := Lib.hid H1
  have H2 := rInt_any u1 e1 63 (by omega)
  rw [h2] at H2
  replace H2 := Lib.hid H2
  have H3 := rInt_any u2 e2 63 (by omega)
  rw [h3] at H3
  replace H3 := Lib.hid H3
  have H5 := rInt_any u3 e3 4294967296 (by omega)
  rw [h5] at H5
  replace H5 := Lib.hid H5
  have H12 := rClose_any u5 e5
  rw [h12] at H12
  replace H12 := Lib.hid H12
  have HN := rName_any k
  have HW := rWhat_any k
  have H4 : decide (k = 4) = is4 k := rfl
  have H8 : decide (k = 8) = is8 k := rfl
  rw [hn] at HN
  rw [h4] at H4
  rw [h8] at H8
  rw [hw] at HW
  replace HN := Lib.hid HN
  replace H4 := Lib.hid H4
  replace H8 := Lib.hid H8
  replace HW := Lib.hid HW
  have b1 : decide ((1024 : Int) < (t.length : Int) + 1 + 1) = false := by simp at h0 ⊢; omega
  have b2 : decide ((t.length : Int) + 1 + 1 < 2) = false := by simp; omega
  have ht' : t.length ≤ 1024 := by simp at h0; omega
  clear hv h1 h2 h3 h5 h12 hn h4 h8 hw h0 h6
  have tok1 : True := trivial
  have tok2 : True := trivial
  go_enter Try.func23, Try.ntmps23
  go_wp2_with (first | (have _t := tok1; (first | ((with_reducible refine at_alloc' ?_); (have hM0 := hM; clear hM; refine BigFrame.wpList_want (by rfl) fun K hK => ws_alloc hM0 (t := 29) rfl (rtC 0 0 0 0 [] 0 [] none 0 0 none 0 0) info_rt (fun g2 w hM => hK _ _ ?_); clear hM0 hK K)) | fail); clear tok1) | (first | ((with_reducible refine at_alloc' ?_); (have hM0 := hM; clear hM; refine BigFrame.wpList_want (by rfl) fun K hK => ws_alloc hM0 (t := 29) rfl (rtC 0 0 0 0 [] 0 [] none 0 0 none 0 0) info_rt (fun g9 w hM => hK _ _ ?_); clear hM0 hK K)) | fail) | (have _t := tok2; (first | ((with_reducible refine at_alloc' ?_); (have hM0 := hM; clear hM; refine BigFrame.wpList_want (by rfl) fun K hK => ws_alloc hM0 (t := 111) rfl (balC [] 0) info_rb (fun g4 w hM => hK _ _ ?_); clear hM0 hK K)) | fail); clear tok2) | (first | ((with_reducible refine at_alloc' ?_); (have hM0 := hM; clear hM; refine BigFrame.wpList_want (by rfl) fun K hK => ws_alloc hM0 (t := 111) rfl (balC [] 0) info_rb (fun gz w hM => hK _ _ ?_); clear hM0 hK K)) | fail) | (first | ((with_reducible refine at_load' ?_); (refine BigFrame.wpList_want (by rfl) fun K hK => ws_load hM rfl rfl (by (repeat (first | assumption | (with_reducible exact List.mem_cons_self) | apply List.mem_cons_of_mem)); first | done | fail) (n := 2) (by rfl) (by decide +kernel) (hK _ _ ?_); clear hK K)) | fail) | (first | ((with_reducible refine at_load' ?_); (refine BigFrame.wpList_want (by rfl) fun K hK => ws_load hM rfl rfl (by (repeat (first | assumption | (with_reducible exact List.mem_cons_self) | apply List.mem_cons_of_mem)); first | done | fail) (n := 9) (by rfl) (by decide +kernel) (hK _ _ ?_); clear hK K)) | fail) | (first | ((with_reducible refine at_load' ?_); (refine BigFrame.wpList_want (by rfl) fun K hK => ws_load1 hM rfl rfl (by (repeat (first | assumption | (with_reducible exact List.mem_cons_self) | apply List.mem_cons_of_mem)); first | done | fail) (by first | rfl | assumption) (by decide +kernel) (hK _ _ ?_); clear hK K)) | fail) | (go_at_call 68; have hM0 := hM; clear hM; (first | (with_reducible refine (star0 (H1.out _) hM0).mono ?_) | fail); clear hM0; rintro _ w ⟨rfl, hM⟩) | (go_at_call 68; have hM0 := hM; clear hM; (first | (with_reducible refine (star0 (H2.out _) hM0).mono ?_) | fail); clear hM0; rintro _ w ⟨rfl, hM⟩) | (go_at_call 68; have hM0 := hM; clear hM; (first | (with_reducible refine (star0 (H3.out _) hM0).mono ?_) | fail); clear hM0; rintro _ w ⟨rfl, hM⟩) | (go_at_call 68; have hM0 := hM; clear hM; (first | (with_reducible refine (star0 (H5.out _) hM0).mono ?_) | fail); clear hM0; rintro _ w ⟨rfl, hM⟩) | (first | ((with_reducible refine at_store' ?_); (have hM0 := hM; clear hM; refine BigFrame.wpList_want (by rfl) fun K hK => ws_store hM0 rfl rfl rfl (by (repeat (first | (with_reducible exact Take.head) | apply Take.tail)); first | done | fail) (n := 9) (by rfl) (by rfl) (by kernel_rfl) (by simp [Value.oneCell']) (fun w hM => hK _ _ ?_); clear hM0 hK K)) | fail) | (first | ((with_reducible refine at_store' ?_); (have hM0 := hM; clear hM; refine BigFrame.wpList_want (by rfl) fun K hK => ws_store hM0 rfl rfl rfl (by (repeat (first | (with_reducible exact Take.head) | apply Take.tail)); first | done | fail) (n := 2) (by rfl) (by rfl) (by kernel_rfl) (by simp [Value.oneCell']) (fun w hM => hK _ _ ?_); clear hM0 hK K)) | fail) | (go_at_call 25; have hM0 := hM; clear hM; (first | (with_reducible refine (starq (HN.out _) hM0).mono ?_) | fail); clear hM0; rintro _ w ⟨rfl, hM⟩) | (go_at_call 26; have hM0 := hM; clear hM; (first | (with_reducible refine (starq (HW.out _) hM0).mono ?_) | fail); clear hM0; rintro _ w ⟨rfl, hM⟩) | ((with_reducible refine at_bin' (op := .eql) (x := .tmp 80) ?_); refine BigFrame.wpList_want (by rfl) fun K hK => ws_of_ex (ex_eq rfl rfl rfl H8.out) (hK _ _ ?_); clear hK K) | ((with_reducible refine at_bin' (op := .eql) (x := .tmp 90) ?_); refine BigFrame.wpList_want (by rfl) fun K hK => ws_of_ex (ex_eq rfl rfl rfl H4.out) (hK _ _ ?_); clear hK K) | (go_at_call 69; have hM0 := hM; clear hM; (first | (with_reducible refine (star0 (H6.out _) hM0).mono ?_) | fail); clear hM0; rintro _ w ⟨rfl, hM⟩) | (first | ((with_reducible refine at_store' ?_); (have hM0 := hM; clear hM; refine BigFrame.wpList_want (by rfl) fun K hK => ws_store1 hM0 rfl rfl (by go_simp; rfl) (by first | rfl | assumption) (by (repeat (first | (with_reducible exact Take.head) | apply Take.tail)); first | done | fail) (by simp) (by kernel_rfl) (by simp only [List.setIfInBounds_toArray, List.set_cons_zero, List.set_cons_succ]; rfl) (fun w hM => hK _ _ ?_); clear hM0 hK K)) | fail))
  refine (star0 (H12.out _) hM).mono ?_
  clear hM
  rintro _ w ⟨rfl, hM⟩
  by_cases hc : c ≠ 0
  · have hc1 : (c == 0) = false := by simpa using hc
    have hc2 : (c != 0) = true := by simpa using hc
    replace HV : Hid (parseL (99 :: 118 :: t) = (noL, c)) := by show _ = _; rw [HV.out, finL, if_pos hc]
    clear hc
    go_wp2_with (first | (first | ((with_reducible refine at_load' ?_); (refine BigFrame.wpList_want (by rfl) fun K hK => ws_load hM rfl rfl (by (repeat (first | assumption | (with_reducible exact List.mem_cons_self) | apply List.mem_cons_of_mem)); first | done | fail) (n := 2) (by rfl) (by decide +kernel) (hK _ _ ?_); clear hK K)) | fail) | (go_at_call 72; have hM0 := hM; clear hM; (first | (with_reducible refine (star0 (H12.out _) hM0).mono ?_) | fail); clear hM0; rintro _ w ⟨rfl, hM⟩) | (first | ((with_reducible refine at_store' ?_); (have hM0 := hM; clear hM; refine BigFrame.wpList_want (by rfl) fun K hK => ws_store hM0 rfl rfl rfl (by (repeat (first | (with_reducible exact Take.head) | apply Take.tail)); first | done | fail) (n := 9) (by rfl) (by rfl) (by kernel_rfl) (by simp [Value.oneCell']) (fun w hM => hK _ _ ?_); clear hM0 hK K)) | fail))
    refine bodyPost_ret (results_row_tmp (P := Try.prog) (ty := 29) rfl _ _ g2 29 (rtC 0 0 0 0 [] 0 [] none 0 0 none 0 0) 9 _ rfl rfl (hM.blk (by (repeat (first | assumption | (with_reducible exact List.mem_cons_self) | apply List.mem_cons_of_mem)); first | done | fail)) rfl (by decide +kernel)) rfl ?_; exact RP_none HV.out (hM.sel (R := F) (by repeat (first | (with_reducible exact Sel.refl) | (with_reducible exact Take.head) | (with_reducible apply Take.tail) | (with_reducible apply Sel.cons) | (with_reducible apply Sel.drop))))
  obtain rfl : c = 0 := by simpa using hc
  clear hc
  replace hM := (hM.nilrow 1).nilrow 1
  have HK : ∀ (L : List SProp) (w : World), Star L w → rowE 1 none 0 [] ∈ L → rowE 1 none 0 [] ∈ L → Calls Try.prog 17 #[.agg (rtC k f t' q id 0 [] none 0 0 none 0 0)] w fun r w' => r = .returned (.int .i64 (checkL ⟨k, f, t', q, id, 0, [], [], []⟩)) ∧ Star L w' := fun L w hM m1 m2 =>
    rcheck_star k f t' q id (by first | omega | simp) 0 [] none [] 0 none [] 0 (by first | omega | simp) (by first | omega | simp) w hM m1 m2
  generalize hkv : checkL ⟨k, f, t', q, id, 0, [], [], []⟩ = kv at HK
  have HKV := Lib.hid hkv
  clear hkv
  replace HK := Lib.hid HK
  by_cases hk : kv ≠ 0
  · have hk1 : (kv == 0) = false := by simpa using hk
    have hk2 : (kv != 0) = true := by simpa using hk
    replace HV : Hid (parseL (99 :: 118 :: t) = (noL, kv)) := by show _ = _; rw [HV.out, finL, if_neg (by simp), HKV.out, if_pos hk]
    clear hk
    go_wp2_with (first | (first | ((with_reducible refine at_load' ?_); (refine BigFrame.wpList_want (by rfl) fun K hK => ws_load hM rfl rfl (by (repeat (first | assumption | (with_reducible exact List.mem_cons_self) | apply List.mem_cons_of_mem)); first | done | fail) (n := 9) (by rfl) (by decide +kernel) (hK _ _ ?_); clear hK K)) | fail) | (go_at_call 17; have hM0 := hM; clear hM; (first | (with_reducible refine (HK.out _ _ hM0 (by (repeat (first | assumption | (with_reducible exact List.mem_cons_self) | apply List.mem_cons_of_mem)); first | done | fail) (by (repeat (first | assumption | (with_reducible exact List.mem_cons_self) | apply List.mem_cons_of_mem)); first | done | fail)).mono ?_) | fail); clear hM0; rintro _ w ⟨rfl, hM⟩) | (first | ((with_reducible refine at_store' ?_); (have hM0 := hM; clear hM; refine BigFrame.wpList_want (by rfl) fun K hK => ws_store hM0 rfl rfl rfl (by (repeat (first | (with_reducible exact Take.head) | apply Take.tail)); first | done | fail) (n := 9) (by rfl) (by rfl) (by kernel_rfl) (by simp [Value.oneCell']) (fun w hM => hK _ _ ?_); clear hM0 hK K)) | fail))
    refine bodyPost_ret (results_row_tmp (P := Try.prog) (ty := 29) rfl _ _ g2 29 (rtC 0 0 0 0 [] 0 [] none 0 0 none 0 0) 9 _ rfl rfl (hM.blk (by (repeat (first | assumption | (with_reducible exact List.mem_cons_self) | apply List.mem_cons_of_mem)); first | done | fail)) rfl (by decide +kernel)) rfl ?_; exact RP_none HV.out (hM.sel (R := F) (by repeat (first | (with_reducible exact Sel.refl) | (with_reducible exact Take.head) | (with_reducible apply Take.tail) | (with_reducible apply Sel.cons) | (with_reducible apply Sel.drop))))
  obtain rfl : kv = 0 := by simpa using hk
  clear hk
  replace HV : Hid (parseL (99 :: 118 :: t) = (⟨k, f, t', q, id, 0, [], [], []⟩, 0)) := by show _ = _; rw [HV.out, finL, if_neg (by simp), HKV.out, if_neg (by simp)]
  go_wp2_with (first | (first | ((with_reducible refine at_load' ?_); (refine BigFrame.wpList_want (by rfl) fun K hK => ws_load hM rfl rfl (by (repeat (first | assumption | (with_reducible exact List.mem_cons_self) | apply List.mem_cons_of_mem)); first | done | fail) (n := 9) (by rfl) (by decide +kernel) (hK _ _ ?_); clear hK K)) | fail) | (go_at_call 17; have hM0 := hM; clear hM; (first | (with_reducible refine (HK.out _ _ hM0 (by (repeat (first | assumption | (with_reducible exact List.mem_cons_self) | apply List.mem_cons_of_mem)); first | done | fail) (by (repeat (first | assumption | (with_reducible exact List.mem_cons_self) | apply List.mem_cons_of_mem)); first | done | fail)).mono ?_) | fail); clear hM0; rintro _ w ⟨rfl, hM⟩) | (first | ((with_reducible refine at_store' ?_); (have hM0 := hM; clear hM; refine BigFrame.wpList_want (by rfl) fun K hK => ws_store hM0 rfl rfl rfl (by (repeat (first | (with_reducible exact Take.head) | apply Take.tail)); first | done | fail) (n := 9) (by rfl) (by rfl) (by kernel_rfl) (by simp [Value.oneCell']) (fun w hM => hK _ _ ?_); clear hM0 hK K)) | fail))
  refine bodyPost_ret (results_row_tmp (P := Try.prog) (ty := 29) rfl _ _ g2 29 (rtC k f t' q id 0 [] none 0 0 none 0 0) 9 _ rfl rfl (hM.blk (by (repeat (first | assumption | (with_reducible exact List.mem_cons_self) | apply List.mem_cons_of_mem)); first | done | fail)) rfl (by decide +kernel)) rfl ?_
  unfold RP
  rw [HV.out]
  have hfin := hM.sel (R := rowE 1 none 0 [] :: rowE 1 none 0 [] :: F) (by repeat (first | (with_reducible exact Sel.refl) | (with_reducible exact Take.head) | (with_reducible apply Take.tail) | (with_reducible apply Sel.cons) | (with_reducible apply Sel.drop)))
  exact ⟨none, 0, none, 0, rfl, hfin⟩
theorem rparse_star {F : List SProp} (s : List UInt8) (hs : s.length ≤ 1000000000) (w : World) (hM : Star F w) : Calls Try.prog 23 #[.string ⟨s.toArray⟩] w (RP F s) := by
  by_cases h1 : 1024 < s.length
  · exact rparse_big s hs h1 w hM
  by_cases h2 : s.take 2 ≠ [99, 118]
  · exact rparse_form s (by omega) h2 w hM
  obtain ⟨t, rfl⟩ : ∃ t, s = 99 :: 118 :: t := by
    have h3 : s.take 2 = [99, 118] := by simpa using h2
    exact ⟨s.drop 2, by have := List.take_append_drop 2 s; rw [h3] at this; exact this.symm⟩
  have h0 : (99 :: 118 :: t).length ≤ 1024 := by omega
  obtain ⟨k, u1, e1, h3⟩ : ∃ n u f, mInt t 0 10 = (n, u, f) := ⟨_, _, _, rfl⟩
  rcases kind_class k with ⟨a, b, c', e⟩ | ⟨a, b, c', e⟩ | ⟨a, b, c', e⟩ | ⟨a, b, c', e⟩ | ⟨a, b, c', e⟩
  · exact rparse_P t h0 k u1 e1 h3 a b c' e w hM
  · exact rparse_N t h0 k u1 e1 h3 a b c' e w hM
  · exact rparse_W t h0 k u1 e1 h3 a b c' e w hM
  · exact rparse_B t h0 k u1 e1 h3 a b c' e w hM
  · exact rparse_F t h0 k u1 e1 h3 a b c' e w hM
end Go.Proofs.Ytlhedbjjlomniaa
