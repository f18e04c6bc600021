/- What the laws share, part 10 (LetG). No condition but those that each theorem names. -/
import Derived.Test.YtlhedbjjlomniaaLt9
set_option linter.unusedSimpArgs false
set_option linter.unusedVariables false
namespace Go.Proofs.Ytlhedbjjlomniaa
open Go.RowKit
attribute [local go_sem] extract_mid extract_drop bget bsize wrap64_u8 i64_u8 u64_u8 bappend
theorem idOf_nil : idOf [] = z32 := by unfold idOf over; simp
theorem zeroB_idOf (l : List UInt8) (h : l.length ≤ 32) : zeroB (idOf l) = zeroB l := by
  unfold idOf over
  rw [z32_len, List.take_of_length_le h, z32_eq]
  unfold zeroB
  have hz : ((List.replicate 32 (0 : UInt8)).drop l.length).all (· == 0) = true := by
    rw [List.drop_replicate, List.all_eq_true]
    intro x hx
    rw [(List.mem_replicate.1 hx).2]
    rfl
  rw [List.all_append, hz, Bool.and_true]
theorem checkL_idOf (k f t q : Int) (id : List UInt8) (wh : Int) (x : List UInt8) (ps hs : List Int) (h : id.length ≤ 32) : checkL ⟨k, f, t, q, idOf id, wh, x, ps, hs⟩ = checkL ⟨k, f, t, q, id, wh, x, ps, hs⟩ := by
  unfold checkL
  simp only [zeroB_idOf id h]
def finL (l : Ltr) (c : Int) : Ltr × Int := if c ≠ 0 then (noL, c) else if checkL l ≠ 0 then (noL, checkL l) else (l, 0)
theorem parseL_eq {t u1 u2 u3 u4 u5 u6 u7 u8 u9 : List UInt8} {e1 e2 e3 e4 e5 e6 e7 e8 e9 k f t' q wh : Int} {id x : List UInt8} {ps hs : List Int} (h : (99 :: 118 :: t).length ≤ 1024)
    (h1 : mInt t 0 10 = (k, u1, e1)) (h2 : mInt u1 e1 63 = (f, u2, e2)) (h3 : mInt u2 e2 63 = (t', u3, e3)) (h4 : mInt u3 e3 4294967296 = (q, u4, e4))
    (h5 : (if hasName k = true then mBytes u4 e4 32 else ([], u4, e4)) = (id, u5, e5)) (h6 : (if hasWhat k = true then mInt u5 e5 3 else (0, u5, e5)) = (wh, u6, e6))
    (h7 : (if is8 k = true then mStr u6 e6 512 else ([], u6, e6)) = (x, u7, e7)) (h8 : (if is4 k = true then mList u7 e7 else ([], u7, e7)) = (ps, u8, e8)) (h9 : (if is4 k = true then mList u8 e8 else ([], u8, e8)) = (hs, u9, e9)) :
    parseL (99 :: 118 :: t) = finL ⟨k, f, t', q, id, wh, x, ps, hs⟩ (mClose u9 e9).2 := by
  have a4 : (k = 4) = (is4 k = true) := by simp [is4]
  have a8 : (k = 8) = (is8 k = true) := by simp [is8]
  have i1 : ∀ (c : Prop) [Decidable c] (p : Par (List UInt8)) (d : List UInt8) l e, (if c then p else Par.ret d) l e = if c then p l e else (d, l, e) := fun c _ p d l e => by split <;> rfl
  have i2 : ∀ (c : Prop) [Decidable c] (p : Par Int) (d : Int) l e, (if c then p else Par.ret d) l e = if c then p l e else (d, l, e) := fun c _ p d l e => by split <;> rfl
  have i3 : ∀ (c : Prop) [Decidable c] (p : Par (List Int)) (d : List Int) l e, (if c then p else Par.ret d) l e = if c then p l e else (d, l, e) := fun c _ p d l e => by split <;> rfl
  have hp : pLtr t 0 = (⟨k, f, t', q, id, wh, x, ps, hs⟩, u9, e9) := by
    unfold pLtr
    simp only [Par.bind, i1, i2, i3, pInt_, pBytes_, pStr_, h1, h2, h3, h4, h5, h6, h7, a4, a8, h8, h9]
    rfl
  unfold parseL
  rw [if_neg (by omega), if_neg (by simp)]
  simp only [List.drop_succ_cons, List.drop_zero, hp, finL]
theorem mStr_len {l u x : List UInt8} {e f top : Int} (h : mStr l e top = (x, u, f)) : x.length ≤ l.length := by
  have h1 : (mStr l e top).1.length ≤ l.length := by
    unfold mStr mBytes
    have := mInt_left_le l e top
    simp only
    split
    · split
      · simp; omega
      · simp
    · simp
  rw [h] at h1
  exact h1
theorem mAdr_len : ∀ (n : Nat) (o l : _) (e : Int), (mAdr n o l e).1.length ≤ o.length + n
  | 0, o, l, e => by simp [mAdr]
  | n + 1, o, l, e => by
    simp only [mAdr]
    split
    · have := mAdr_len n (o ++ [(mInt l e 63).1]) (mInt l e 63).2.1 (mInt l e 63).2.2
      simp at this ⊢; omega
    · simp
theorem mList_len {l u : List UInt8} {o : List Int} {e f : Int} (h : mList l e = (o, u, f)) : o.length ≤ 8 := by
  have h1 := mAdr_len (mInt l e 8).1.toNat [] (mInt l e 8).2.1 (mInt l e 8).2.2
  have h2 := mInt_range l e 8
  have h3 : mAdr (mInt l e 8).1.toNat [] (mInt l e 8).2.1 (mInt l e 8).2.2 = (o, u, f) := h
  rw [h3] at h1
  simp at h1
  omega
def PP (F : List SProp) (s : List UInt8) (r : Ending) (w' : World) : Prop := ∃ A c B d, r = .returned (.tuple #[.agg (ltC (parseL s).1.k (parseL s).1.f (parseL s).1.t (parseL s).1.q (idOf (parseL s).1.id) (parseL s).1.w (parseL s).1.x A (parseL s).1.ps.length c B (parseL s).1.hs.length d), .int .i64 (parseL s).2]) ∧ Star (rowE 1 A (parseL s).1.ps.length (ivs (parseL s).1.ps) :: rowE 1 B (parseL s).1.hs.length (ivs (parseL s).1.hs) :: F) w'
theorem PP_none {F : List SProp} {s : List UInt8} {n : Int} {w : World} (h : parseL s = (noL, n)) (hM : Star F w) : PP F s (.returned (.tuple #[.agg (ltC 0 0 0 0 z32 0 [] none 0 0 none 0 0), .int .i64 n])) w := by
  unfold PP
  rw [h]
  refine ⟨none, 0, none, 0, ?_, (hM.nilrow 1).nilrow 1⟩
  simp only [noL, idOf_nil]
  rfl
set_option maxRecDepth 100000 in
set_option maxHeartbeats 8000000 in
theorem parse_big {F : List SProp} (s : List UInt8) (hs : s.length ≤ 1000000000) (h : 1024 < s.length) (w : World) (hM : Star F w) : Calls Try.prog 19 #[.string ⟨s.toArray⟩] w (PP F s) := by
  have HV : Hid (parseL s = (noL, 5)) := by show _ = _; unfold parseL; rw [if_pos h]
  have b1 : decide ((1024 : Int) < (s.length : Int)) = true := by simp; omega
  have tok1 : True := trivial
  go_enter Try.func19, Try.ntmps19
  go_wp2_with (first | (have _t := tok1; (first | ((with_reducible refine at_alloc' ?_); (have hM0 := hM; clear hM; refine BigFrame.wpList_want (by rfl) fun K hK => ws_alloc hM0 (t := 26) rfl (ltC 0 0 0 0 z32 0 [] none 0 0 none 0 0) info_lt (fun g2 w hM => hK _ _ ?_); clear hM0 hK K)) | fail); clear tok1) | ((with_reducible refine at_build' ?_); refine BigFrame.wpList_want (by rfl) fun K hK => ws_build rfl (.agg (ltC 0 0 0 0 z32 0 [] none 0 0 none 0 0)) (by simp only [List.map_toArray, List.map_cons, List.map_nil]; exact build_lt0 _) (hK _ _ ?_); clear hK K) | (first | ((with_reducible refine at_store' ?_); (have hM0 := hM; clear hM; refine BigFrame.wpList_want (by rfl) fun K hK => ws_store hM0 rfl rfl rfl (by (repeat (first | (with_reducible exact Take.head) | apply Take.tail)); first | done | fail) (n := 40) (by exact ltC_size (by first | exact z32_len | exact idOf_len _)) (by exact ltC_size (by first | exact z32_len | exact idOf_len _)) (by kernel_rfl) (by exact ltC_one) (fun w hM => hK _ _ ?_); clear hM0 hK K)) | fail))
  refine bodyPost_ret (results_row_tmp (P := Try.prog) (ty := 26) rfl _ _ g2 26 _ 40 _ rfl rfl (hM.blk (by (repeat (first | assumption | (with_reducible exact List.mem_cons_self) | apply List.mem_cons_of_mem)); first | done | fail)) (ltC_size z32_len) (by decide +kernel)) rfl ?_; exact PP_none HV.out (hM.sel (R := F) (by repeat (first | (with_reducible exact Sel.refl) | (with_reducible exact Take.head) | (with_reducible apply Take.tail) | (with_reducible apply Sel.cons) | (with_reducible apply Sel.drop))))
set_option maxRecDepth 100000 in
set_option maxHeartbeats 8000000 in
theorem parse_form {F : List SProp} (s : List UInt8) (h0 : s.length ≤ 1024) (h : s.take 2 ≠ [99, 118]) (w : World) (hM : Star F w) : Calls Try.prog 19 #[.string ⟨s.toArray⟩] w (PP F s) := by
  have HV : Hid (parseL s = (noL, 2)) := by show _ = _; unfold parseL; rw [if_neg (by omega), if_pos h]
  have b1 : decide ((1024 : Int) < (s.length : Int)) = false := by simp; omega
  have HC := Lib.hid (cut_no s (by omega) h)
  have tok1 : True := trivial
  clear h
  go_enter Try.func19, Try.ntmps19
  go_wp2_with (first | (have _t := tok1; (first | ((with_reducible refine at_alloc' ?_); (have hM0 := hM; clear hM; refine BigFrame.wpList_want (by rfl) fun K hK => ws_alloc hM0 (t := 26) rfl (ltC 0 0 0 0 z32 0 [] none 0 0 none 0 0) info_lt (fun g2 w hM => hK _ _ ?_); clear hM0 hK K)) | fail); clear tok1) | (go_at_call 58; have hM0 := hM; clear hM; (first | (with_reducible refine (starq (HC.out _) hM0).mono ?_) | fail); clear hM0; rintro _ w ⟨rfl, hM⟩) | ((with_reducible refine at_build' ?_); refine BigFrame.wpList_want (by rfl) fun K hK => ws_build rfl (.agg (ltC 0 0 0 0 z32 0 [] none 0 0 none 0 0)) (by simp only [List.map_toArray, List.map_cons, List.map_nil]; exact build_lt0 _) (hK _ _ ?_); clear hK K) | (first | ((with_reducible refine at_store' ?_); (have hM0 := hM; clear hM; refine BigFrame.wpList_want (by rfl) fun K hK => ws_store hM0 rfl rfl rfl (by (repeat (first | (with_reducible exact Take.head) | apply Take.tail)); first | done | fail) (n := 40) (by exact ltC_size (by first | exact z32_len | exact idOf_len _)) (by exact ltC_size (by first | exact z32_len | exact idOf_len _)) (by kernel_rfl) (by exact ltC_one) (fun w hM => hK _ _ ?_); clear hM0 hK K)) | fail))
  refine bodyPost_ret (results_row_tmp (P := Try.prog) (ty := 26) rfl _ _ g2 26 _ 40 _ rfl rfl (hM.blk (by (repeat (first | assumption | (with_reducible exact List.mem_cons_self) | apply List.mem_cons_of_mem)); first | done | fail)) (ltC_size z32_len) (by decide +kernel)) rfl ?_; exact PP_none HV.out (hM.sel (R := F) (by repeat (first | (with_reducible exact Sel.refl) | (with_reducible exact Take.head) | (with_reducible apply Take.tail) | (with_reducible apply Sel.cons) | (with_reducible apply Sel.drop))))
set_option maxRecDepth 100000 in
set_option maxHeartbeats 8000000 in
theorem parse_P {F : List SProp} (t : List UInt8) (h0 : (99 :: 118 :: t).length ≤ 1024) (k : Int) (u1 : List UInt8) (e1 : Int) (h1 : mInt t 0 10 = (k, u1, e1)) (hn : hasName k = false) (h4 : is4 k = false) (h8 : is8 k = false) (hw : hasWhat k = false) (w : World) (hM : Star F w) :
    Calls Try.prog 19 #[.string ⟨(99 :: 118 :: t).toArray⟩] w (PP F (99 :: 118 :: t)) := by
  obtain ⟨f, u2, e2, h2⟩ : ∃ n u f, mInt u1 e1 63 = (n, u, f) := ⟨_, _, _, rfl⟩
  obtain ⟨t', u3, e3, h3⟩ : ∃ n u f, mInt u2 e2 63 = (n, u, f) := ⟨_, _, _, rfl⟩
  obtain ⟨q, u4, e4, h5⟩ : ∃ n u f, mInt u3 e3 4294967296 = (n, u, f) := ⟨_, _, _, rfl⟩
  obtain ⟨u0, c, h12⟩ : ∃ u c, mClose u4 e4 = (u, c) := ⟨_, _, rfl⟩
  have hv : parseL (99 :: 118 :: t) = finL ⟨k, f, t', q, [], 0, [], [], []⟩ c := by
    have := parseL_eq (id := []) (wh := 0) (x := []) (ps := []) (hs := []) (u9 := u4) (e9 := e4) h0 h1 h2 h3 h5 (by rw [hn]; rfl) (by rw [hw]; rfl) (by rw [h8]; rfl) (by rw [h4]; rfl) (by rw [h4]; rfl)
    rwa [h12] at this
  have HV := Lib.hid hv
  have H1 := Lib.hid h1
  have H2 := Lib.hid h2
  have H3 := Lib.hid h3
  have H5 := Lib.hid h5
  have H12 := Lib.hid h12
  have HN := part_n k
  have H4 := part_l k
  have H8 := part_t k
  have HW := part_w k
  rw [hn] at HN
  rw [h4] at H4
  rw [h8] at H8
  rw [hw] at HW
  replace HN := Lib.hid HN
  replace H4 := Lib.hid H4
  replace H8 := Lib.hid H8
  replace HW := Lib.hid HW
  have b1 : decide ((1024 : Int) < (t.length : Int) + 1 + 1) = false := by simp at h0 ⊢; omega
  have HCU := Lib.hid (cut_yes t (by simp at h0; omega))
  clear hv h1 h2 h3 h5 h12 hn h4 h8 hw h0
  have tok1 : True := trivial
  go_enter Try.func19, Try.ntmps19
  go_wp2_with (first | (have _t := tok1; (first | ((with_reducible refine at_alloc' ?_); (have hM0 := hM; clear hM; refine BigFrame.wpList_want (by rfl) fun K hK => ws_alloc hM0 (t := 26) rfl (ltC 0 0 0 0 z32 0 [] none 0 0 none 0 0) info_lt (fun g2 w hM => hK _ _ ?_); clear hM0 hK K)) | fail); clear tok1) | (first | ((with_reducible refine at_alloc' ?_); (have hM0 := hM; clear hM; refine BigFrame.wpList_want (by rfl) fun K hK => ws_alloc hM0 (t := 26) rfl (ltC 0 0 0 0 z32 0 [] none 0 0 none 0 0) info_lt (fun g7 w hM => hK _ _ ?_); clear hM0 hK K)) | fail) | (go_at_call 58; have hM0 := hM; clear hM; (first | (with_reducible refine (starq (HCU.out _) hM0).mono ?_) | fail); clear hM0; rintro _ w ⟨rfl, hM⟩) | (go_at_call 59; have hM0 := hM; clear hM; (first | (with_reducible refine (sOpen _ hM0).mono ?_) | fail); clear hM0; rintro _ w ⟨b, rfl, hM⟩) | (go_at_call 60; have hM0 := hM; clear hM; (first | (with_reducible refine (sInt (by omega) H1.out hM0 (by (repeat (first | (with_reducible exact Take.head) | apply Take.tail)); first | done | fail)).mono ?_) | fail); clear hM0; rintro _ w ⟨rfl, hM⟩) | (go_at_call 60; have hM0 := hM; clear hM; (first | (with_reducible refine (sInt (by omega) H2.out hM0 (by (repeat (first | (with_reducible exact Take.head) | apply Take.tail)); first | done | fail)).mono ?_) | fail); clear hM0; rintro _ w ⟨rfl, hM⟩) | (go_at_call 60; have hM0 := hM; clear hM; (first | (with_reducible refine (sInt (by omega) H3.out hM0 (by (repeat (first | (with_reducible exact Take.head) | apply Take.tail)); first | done | fail)).mono ?_) | fail); clear hM0; rintro _ w ⟨rfl, hM⟩) | (go_at_call 60; have hM0 := hM; clear hM; (first | (with_reducible refine (sInt (by omega) H5.out hM0 (by (repeat (first | (with_reducible exact Take.head) | apply Take.tail)); first | done | fail)).mono ?_) | fail); clear hM0; rintro _ w ⟨rfl, hM⟩) | ((with_reducible refine at_build' ?_); refine BigFrame.wpList_want (by rfl) fun K hK => ws_build rfl (.agg (ltC k f t' q z32 0 [] none 0 0 none 0 0)) (by simp only [List.map_toArray, List.map_cons, List.map_nil]; exact build_lt k f t' q _) (hK _ _ ?_); clear hK K) | (first | ((with_reducible refine at_store' ?_); (have hM0 := hM; clear hM; refine BigFrame.wpList_want (by rfl) fun K hK => ws_store hM0 rfl rfl rfl (by (repeat (first | (with_reducible exact Take.head) | apply Take.tail)); first | done | fail) (n := 40) (by exact ltC_size (by first | exact z32_len | exact idOf_len _)) (by exact ltC_size (by first | exact z32_len | exact idOf_len _)) (by kernel_rfl) (by exact ltC_one) (fun w hM => hK _ _ ?_); clear hM0 hK K)) | fail) | (first | ((with_reducible refine at_load' ?_); (refine BigFrame.wpList_want (by rfl) fun K hK => ws_load1 hM rfl rfl (by (repeat (first | assumption | (with_reducible exact List.mem_cons_self) | apply List.mem_cons_of_mem)); first | done | fail) (by with_reducible (first | exact ltC_0)) (by decide +kernel) (hK _ _ ?_); clear hK K)) | fail) | (go_at_call 51; have hM0 := hM; clear hM; (first | (with_reducible refine (starq (HN.out _) hM0).mono ?_) | fail); clear hM0; rintro _ w ⟨rfl, hM⟩) | (go_at_call 51; have hM0 := hM; clear hM; (first | (with_reducible refine (starq (H4.out _) hM0).mono ?_) | fail); clear hM0; rintro _ w ⟨rfl, hM⟩) | (go_at_call 51; have hM0 := hM; clear hM; (first | (with_reducible refine (starq (H8.out _) hM0).mono ?_) | fail); clear hM0; rintro _ w ⟨rfl, hM⟩) | (go_at_call 51; have hM0 := hM; clear hM; (first | (with_reducible refine (starq (HW.out _) hM0).mono ?_) | fail); clear hM0; rintro _ w ⟨rfl, hM⟩))
  refine (sClose H12.out hM (by (repeat (first | (with_reducible exact Take.head) | apply Take.tail)); first | done | fail)).mono ?_
  clear hM
  rintro _ w ⟨rfl, hM⟩
  by_cases hc : c ≠ 0
  · have hc1 : (c == 0) = false := by simpa using hc
    have hc2 : (c != 0) = true := by simpa using hc
    replace HV : Hid (parseL (99 :: 118 :: t) = (noL, c)) := by show _ = _; rw [HV.out, finL, if_pos hc]
    clear hc
    go_wp2_with (first | ((with_reducible refine at_build' ?_); refine BigFrame.wpList_want (by rfl) fun K hK => ws_build rfl (.agg (ltC 0 0 0 0 z32 0 [] none 0 0 none 0 0)) (by simp only [List.map_toArray, List.map_cons, List.map_nil]; exact build_lt0 _) (hK _ _ ?_); clear hK K) | (first | ((with_reducible refine at_store' ?_); (have hM0 := hM; clear hM; refine BigFrame.wpList_want (by rfl) fun K hK => ws_store hM0 rfl rfl rfl (by (repeat (first | (with_reducible exact Take.head) | apply Take.tail)); first | done | fail) (n := 40) (by exact ltC_size (by first | exact z32_len | exact idOf_len _)) (by exact ltC_size (by first | exact z32_len | exact idOf_len _)) (by kernel_rfl) (by exact ltC_one) (fun w hM => hK _ _ ?_); clear hM0 hK K)) | fail))
    refine bodyPost_ret (results_row_tmp (P := Try.prog) (ty := 26) rfl _ _ g2 26 _ 40 _ rfl rfl (hM.blk (by (repeat (first | assumption | (with_reducible exact List.mem_cons_self) | apply List.mem_cons_of_mem)); first | done | fail)) (ltC_size z32_len) (by decide +kernel)) rfl ?_; exact PP_none HV.out (hM.sel (R := F) (by repeat (first | (with_reducible exact Sel.refl) | (with_reducible exact Take.head) | (with_reducible apply Take.tail) | (with_reducible apply Sel.cons) | (with_reducible apply Sel.drop))))
  obtain rfl : c = 0 := by simpa using hc
  clear hc
  replace hM := (hM.nilrow 1).nilrow 1
  have HK : ∀ (L : List SProp) (w : World), Star L w → rowE 1 none 0 [] ∈ L → rowE 1 none 0 [] ∈ L → Calls Try.prog 15 #[.agg (ltC k f t' q z32 0 [] none 0 0 none 0 0)] w fun r w' => r = .returned (.int .i64 (checkL ⟨k, f, t', q, [], 0, [], [], []⟩)) ∧ Star L w' := fun L w hM m1 m2 => by
    have := check_star k f t' q z32 z32_len 0 [] none [] 0 none [] 0 (by first | omega | simp) (by first | omega | simp) (by first | omega | simp) w hM m1 m2
    rw [← idOf_nil, checkL_idOf _ _ _ _ [] _ _ _ _ (by simp), idOf_nil] at this; exact this
  generalize hkv : checkL ⟨k, f, t', q, [], 0, [], [], []⟩ = kv at HK
  have HKV := Lib.hid hkv
  clear hkv
  replace HK := Lib.hid HK
  by_cases hk : kv ≠ 0
  · have hk1 : (kv == 0) = false := by simpa using hk
    have hk2 : (kv != 0) = true := by simpa using hk
    replace HV : Hid (parseL (99 :: 118 :: t) = (noL, kv)) := by show _ = _; rw [HV.out, finL, if_neg (by simp), HKV.out, if_pos hk]
    clear hk
    go_wp2_with (first | (first | ((with_reducible refine at_load' ?_); (refine BigFrame.wpList_want (by rfl) fun K hK => ws_load hM rfl rfl (by (repeat (first | assumption | (with_reducible exact List.mem_cons_self) | apply List.mem_cons_of_mem)); first | done | fail) (n := 40) (by exact ltC_size (by first | exact z32_len | exact idOf_len _)) (by decide +kernel) (hK _ _ ?_); clear hK K)) | fail) | (go_at_call 15; have hM0 := hM; clear hM; (first | (with_reducible refine (HK.out _ _ hM0 (by (repeat (first | assumption | (with_reducible exact List.mem_cons_self) | apply List.mem_cons_of_mem)); first | done | fail) (by (repeat (first | assumption | (with_reducible exact List.mem_cons_self) | apply List.mem_cons_of_mem)); first | done | fail)).mono ?_) | fail); clear hM0; rintro _ w ⟨rfl, hM⟩) | ((with_reducible refine at_build' ?_); refine BigFrame.wpList_want (by rfl) fun K hK => ws_build rfl (.agg (ltC 0 0 0 0 z32 0 [] none 0 0 none 0 0)) (by simp only [List.map_toArray, List.map_cons, List.map_nil]; exact build_lt0 _) (hK _ _ ?_); clear hK K) | (first | ((with_reducible refine at_store' ?_); (have hM0 := hM; clear hM; refine BigFrame.wpList_want (by rfl) fun K hK => ws_store hM0 rfl rfl rfl (by (repeat (first | (with_reducible exact Take.head) | apply Take.tail)); first | done | fail) (n := 40) (by exact ltC_size (by first | exact z32_len | exact idOf_len _)) (by exact ltC_size (by first | exact z32_len | exact idOf_len _)) (by kernel_rfl) (by exact ltC_one) (fun w hM => hK _ _ ?_); clear hM0 hK K)) | fail))
    refine bodyPost_ret (results_row_tmp (P := Try.prog) (ty := 26) rfl _ _ g2 26 _ 40 _ rfl rfl (hM.blk (by (repeat (first | assumption | (with_reducible exact List.mem_cons_self) | apply List.mem_cons_of_mem)); first | done | fail)) (ltC_size z32_len) (by decide +kernel)) rfl ?_; exact PP_none HV.out (hM.sel (R := F) (by repeat (first | (with_reducible exact Sel.refl) | (with_reducible exact Take.head) | (with_reducible apply Take.tail) | (with_reducible apply Sel.cons) | (with_reducible apply Sel.drop))))
  obtain rfl : kv = 0 := by simpa using hk
  clear hk
  replace HV : Hid (parseL (99 :: 118 :: t) = (⟨k, f, t', q, [], 0, [], [], []⟩, 0)) := by show _ = _; rw [HV.out, finL, if_neg (by simp), HKV.out, if_neg (by simp)]
  go_wp2_with (first | (first | ((with_reducible refine at_load' ?_); (refine BigFrame.wpList_want (by rfl) fun K hK => ws_load hM rfl rfl (by (repeat (first | assumption | (with_reducible exact List.mem_cons_self) | apply List.mem_cons_of_mem)); first | done | fail) (n := 40) (by exact ltC_size (by first | exact z32_len | exact idOf_len _)) (by decide +kernel) (hK _ _ ?_); clear hK K)) | fail) | (go_at_call 15; have hM0 := hM; clear hM; (first | (with_reducible refine (HK.out _ _ hM0 (by (repeat (first | assumption | (with_reducible exact List.mem_cons_self) | apply List.mem_cons_of_mem)); first | done | fail) (by (repeat (first | assumption | (with_reducible exact List.mem_cons_self) | apply List.mem_cons_of_mem)); first | done | fail)).mono ?_) | fail); clear hM0; rintro _ w ⟨rfl, hM⟩) | (first | ((with_reducible refine at_store' ?_); (have hM0 := hM; clear hM; refine BigFrame.wpList_want (by rfl) fun K hK => ws_store hM0 rfl rfl rfl (by (repeat (first | (with_reducible exact Take.head) | apply Take.tail)); first | done | fail) (n := 40) (by exact ltC_size (by first | exact z32_len | exact idOf_len _)) (by exact ltC_size (by first | exact z32_len | exact idOf_len _)) (by kernel_rfl) (by exact ltC_one) (fun w hM => hK _ _ ?_); clear hM0 hK K)) | fail))
  refine bodyPost_ret (results_row_tmp (P := Try.prog) (ty := 26) rfl _ _ g2 26 (ltC k f t' q z32 0 [] none 0 0 none 0 0) 40 _ rfl rfl (hM.blk (by (repeat (first | assumption | (with_reducible exact List.mem_cons_self) | apply List.mem_cons_of_mem)); first | done | fail)) (ltC_size (by first | exact z32_len | exact idOf_len _)) (by decide +kernel)) rfl ?_
  unfold PP
  rw [HV.out]
  have hfin := hM.sel (R := rowE 1 none 0 [] :: rowE 1 none 0 [] :: F) (by repeat (first | (with_reducible exact Sel.refl) | (with_reducible exact Take.head) | (with_reducible apply Take.tail) | (with_reducible apply Sel.cons) | (with_reducible apply Sel.drop)))
  exact ⟨none, 0, none, 0, by simp only [idOf_nil]; rfl, hfin⟩
set_option maxRecDepth 100000 in
set_option maxHeartbeats 8000000 in
theorem parse_N {F : List SProp} (t : List UInt8) (h0 : (99 :: 118 :: t).length ≤ 1024) (k : Int) (u1 : List UInt8) (e1 : Int) (h1 : mInt t 0 10 = (k, u1, e1)) (hn : hasName k = true) (h4 : is4 k = true) (h8 : is8 k = false) (hw : hasWhat k = false) (w : World) (hM : Star F w) :
    Calls Try.prog 19 #[.string ⟨(99 :: 118 :: t).toArray⟩] w (PP F (99 :: 118 :: t)) := by
  obtain ⟨f, u2, e2, h2⟩ : ∃ n u f, mInt u1 e1 63 = (n, u, f) := ⟨_, _, _, rfl⟩
  obtain ⟨t', u3, e3, h3⟩ : ∃ n u f, mInt u2 e2 63 = (n, u, f) := ⟨_, _, _, rfl⟩
  obtain ⟨q, u4, e4, h5⟩ : ∃ n u f, mInt u3 e3 4294967296 = (n, u, f) := ⟨_, _, _, rfl⟩
  obtain ⟨id, u5, e5, h6⟩ : ∃ n u f, mBytes u4 e4 32 = (n, u, f) := ⟨_, _, _, rfl⟩
  have hid : id.length ≤ 32 := by have := congrArg Prod.fst h6; simp only at this; rw [← this]; unfold mBytes; split <;> (try split) <;> simp <;> omega
  obtain ⟨ps, u8, e8, h10⟩ : ∃ n u f, mList u5 e5 = (n, u, f) := ⟨_, _, _, rfl⟩
  obtain ⟨hs, u9, e9, h11⟩ : ∃ n u f, mList u8 e8 = (n, u, f) := ⟨_, _, _, rfl⟩
  have hps := mList_len h10
  have hhs := mList_len h11
  obtain ⟨u0, c, h12⟩ : ∃ u c, mClose u9 e9 = (u, c) := ⟨_, _, rfl⟩
  have hv : parseL (99 :: 118 :: t) = finL ⟨k, f, t', q, id, 0, [], ps, hs⟩ c := by
    have := parseL_eq (id := id) (wh := 0) (x := []) (ps := ps) (hs := hs) (u9 := u9) (e9 := e9) h0 h1 h2 h3 h5 (by rw [hn]; exact h6) (by rw [hw]; rfl) (by rw [h8]; rfl) (by rw [h4]; exact h10) (by rw [h4]; exact h11)
    rwa [h12] at this
  have HV := Lib.hid hv
  have H1 := Lib.hid h1
  have H2 := Lib.hid h2
  have H3 := Lib.hid h3
  have H5 := Lib.hid h5
  have H12 := Lib.hid h12
  have H6 := Lib.hid h6
  have H10 := Lib.hid h10
  have H11 := Lib.hid h11
  have HN := part_n k
  have H4 := part_l k
  have H8 := part_t k
  have HW := part_w k
  rw [hn] at HN
  rw [h4] at H4
  rw [h8] at H8
  rw [hw] at HW
  replace HN := Lib.hid HN
  replace H4 := Lib.hid H4
  replace H8 := Lib.hid H8
  replace HW := Lib.hid HW
  have b1 : decide ((1024 : Int) < (t.length : Int) + 1 + 1) = false := by simp at h0 ⊢; omega
  have HCU := Lib.hid (cut_yes t (by simp at h0; omega))
  clear hv h1 h2 h3 h5 h12 hn h4 h8 hw h0 h6 h10 h11
  have tok1 : True := trivial
  go_enter Try.func19, Try.ntmps19
  go_wp2_with (first | (have _t := tok1; (first | ((with_reducible refine at_alloc' ?_); (have hM0 := hM; clear hM; refine BigFrame.wpList_want (by rfl) fun K hK => ws_alloc hM0 (t := 26) rfl (ltC 0 0 0 0 z32 0 [] none 0 0 none 0 0) info_lt (fun g2 w hM => hK _ _ ?_); clear hM0 hK K)) | fail); clear tok1) | (first | ((with_reducible refine at_alloc' ?_); (have hM0 := hM; clear hM; refine BigFrame.wpList_want (by rfl) fun K hK => ws_alloc hM0 (t := 26) rfl (ltC 0 0 0 0 z32 0 [] none 0 0 none 0 0) info_lt (fun g7 w hM => hK _ _ ?_); clear hM0 hK K)) | fail) | (go_at_call 58; have hM0 := hM; clear hM; (first | (with_reducible refine (starq (HCU.out _) hM0).mono ?_) | fail); clear hM0; rintro _ w ⟨rfl, hM⟩) | (go_at_call 59; have hM0 := hM; clear hM; (first | (with_reducible refine (sOpen _ hM0).mono ?_) | fail); clear hM0; rintro _ w ⟨b, rfl, hM⟩) | (go_at_call 60; have hM0 := hM; clear hM; (first | (with_reducible refine (sInt (by omega) H1.out hM0 (by (repeat (first | (with_reducible exact Take.head) | apply Take.tail)); first | done | fail)).mono ?_) | fail); clear hM0; rintro _ w ⟨rfl, hM⟩) | (go_at_call 60; have hM0 := hM; clear hM; (first | (with_reducible refine (sInt (by omega) H2.out hM0 (by (repeat (first | (with_reducible exact Take.head) | apply Take.tail)); first | done | fail)).mono ?_) | fail); clear hM0; rintro _ w ⟨rfl, hM⟩) | (go_at_call 60; have hM0 := hM; clear hM; (first | (with_reducible refine (sInt (by omega) H3.out hM0 (by (repeat (first | (with_reducible exact Take.head) | apply Take.tail)); first | done | fail)).mono ?_) | fail); clear hM0; rintro _ w ⟨rfl, hM⟩) | (go_at_call 60; have hM0 := hM; clear hM; (first | (with_reducible refine (sInt (by omega) H5.out hM0 (by (repeat (first | (with_reducible exact Take.head) | apply Take.tail)); first | done | fail)).mono ?_) | fail); clear hM0; rintro _ w ⟨rfl, hM⟩) | ((with_reducible refine at_build' ?_); refine BigFrame.wpList_want (by rfl) fun K hK => ws_build rfl (.agg (ltC k f t' q z32 0 [] none 0 0 none 0 0)) (by simp only [List.map_toArray, List.map_cons, List.map_nil]; exact build_lt k f t' q _) (hK _ _ ?_); clear hK K) | (first | ((with_reducible refine at_store' ?_); (have hM0 := hM; clear hM; refine BigFrame.wpList_want (by rfl) fun K hK => ws_store hM0 rfl rfl rfl (by (repeat (first | (with_reducible exact Take.head) | apply Take.tail)); first | done | fail) (n := 40) (by exact ltC_size (by first | exact z32_len | exact idOf_len _)) (by exact ltC_size (by first | exact z32_len | exact idOf_len _)) (by kernel_rfl) (by exact ltC_one) (fun w hM => hK _ _ ?_); clear hM0 hK K)) | fail) | (first | ((with_reducible refine at_load' ?_); (refine BigFrame.wpList_want (by rfl) fun K hK => ws_load1 hM rfl rfl (by (repeat (first | assumption | (with_reducible exact List.mem_cons_self) | apply List.mem_cons_of_mem)); first | done | fail) (by with_reducible (first | exact ltC_0)) (by decide +kernel) (hK _ _ ?_); clear hK K)) | fail) | (go_at_call 51; have hM0 := hM; clear hM; (first | (with_reducible refine (starq (HN.out _) hM0).mono ?_) | fail); clear hM0; rintro _ w ⟨rfl, hM⟩) | (go_at_call 51; have hM0 := hM; clear hM; (first | (with_reducible refine (starq (H4.out _) hM0).mono ?_) | fail); clear hM0; rintro _ w ⟨rfl, hM⟩) | (go_at_call 51; have hM0 := hM; clear hM; (first | (with_reducible refine (starq (H8.out _) hM0).mono ?_) | fail); clear hM0; rintro _ w ⟨rfl, hM⟩) | (go_at_call 51; have hM0 := hM; clear hM; (first | (with_reducible refine (starq (HW.out _) hM0).mono ?_) | fail); clear hM0; rintro _ w ⟨rfl, hM⟩) | (go_at_call 61; have hM0 := hM; clear hM; (first | (with_reducible refine (sID H6.out hM0 (by (repeat (first | (with_reducible exact Take.head) | apply Take.tail)); first | done | fail)).mono ?_) | fail); clear hM0; rintro _ w ⟨rfl, hM⟩) | ((with_reducible refine at_store' ?_); have hM0 := hM; clear hM; refine BigFrame.wpList_want (by rfl) fun K hK => ws_store_at hM0 rfl (i := 4) rfl (v := .agg (bvs (idOf id)).toArray) rfl (by (repeat (first | (with_reducible exact Take.head) | apply Take.tail)); first | done | fail) 32 (by simp [Value.cells, bvs_len, idOf_len]) (by rw [ltC_size (by first | exact z32_len | exact idOf_len _)]; omega) (by kernel_rfl) (by simpa [Value.cells] using bvs_oneCell (idOf id)) (ltC_putid (by first | exact z32_len | exact idOf_len _) (idOf id) (idOf_len id)) (fun w hM => hK _ _ ?_); clear hM0 hK K) | (go_at_call 63; have hM0 := hM; clear hM; (first | (with_reducible refine (takeList_star H10.out _ hM0 (by (repeat (first | (with_reducible exact Take.head) | apply Take.tail)); first | done | fail)).mono ?_) | fail); clear hM0; rintro _ w ⟨A, ca, rfl, hM⟩) | (go_at_call 63; have hM0 := hM; clear hM; (first | (with_reducible refine (takeList_star H11.out _ hM0 (by (repeat (first | (with_reducible exact Take.head) | apply Take.tail)); first | done | fail)).mono ?_) | fail); clear hM0; rintro _ w ⟨B, cb, rfl, hM⟩) | (first | ((with_reducible refine at_store' ?_); (have hM0 := hM; clear hM; refine BigFrame.wpList_want (by rfl) fun K hK => ws_store1 hM0 rfl rfl (by go_simp; rfl) (by first | rfl | assumption) (by (repeat (first | (with_reducible exact Take.head) | apply Take.tail)); first | done | fail) (by (rw [ltC_size (by first | exact z32_len | exact idOf_len _)]; omega)) (by kernel_rfl) (by first | exact ltC_put38 (by first | exact z32_len | exact idOf_len _) _ _ _ | exact ltC_put39 (by first | exact z32_len | exact idOf_len _) _ _ _) (fun w hM => hK _ _ ?_); clear hM0 hK K)) | fail))
  refine (sClose H12.out hM (by (repeat (first | (with_reducible exact Take.head) | apply Take.tail)); first | done | fail)).mono ?_
  clear hM
  rintro _ w ⟨rfl, hM⟩
  by_cases hc : c ≠ 0
  · have hc1 : (c == 0) = false := by simpa using hc
    have hc2 : (c != 0) = true := by simpa using hc
    replace HV : Hid (parseL (99 :: 118 :: t) = (noL, c)) := by show _ = _; rw [HV.out, finL, if_pos hc]
    clear hc
    go_wp2_with (first | ((with_reducible refine at_build' ?_); refine BigFrame.wpList_want (by rfl) fun K hK => ws_build rfl (.agg (ltC 0 0 0 0 z32 0 [] none 0 0 none 0 0)) (by simp only [List.map_toArray, List.map_cons, List.map_nil]; exact build_lt0 _) (hK _ _ ?_); clear hK K) | (first | ((with_reducible refine at_store' ?_); (have hM0 := hM; clear hM; refine BigFrame.wpList_want (by rfl) fun K hK => ws_store hM0 rfl rfl rfl (by (repeat (first | (with_reducible exact Take.head) | apply Take.tail)); first | done | fail) (n := 40) (by exact ltC_size (by first | exact z32_len | exact idOf_len _)) (by exact ltC_size (by first | exact z32_len | exact idOf_len _)) (by kernel_rfl) (by exact ltC_one) (fun w hM => hK _ _ ?_); clear hM0 hK K)) | fail))
    refine bodyPost_ret (results_row_tmp (P := Try.prog) (ty := 26) rfl _ _ g2 26 _ 40 _ rfl rfl (hM.blk (by (repeat (first | assumption | (with_reducible exact List.mem_cons_self) | apply List.mem_cons_of_mem)); first | done | fail)) (ltC_size z32_len) (by decide +kernel)) rfl ?_; exact PP_none HV.out (hM.sel (R := F) (by repeat (first | (with_reducible exact Sel.refl) | (with_reducible exact Take.head) | (with_reducible apply Take.tail) | (with_reducible apply Sel.cons) | (with_reducible apply Sel.drop))))
  obtain rfl : c = 0 := by simpa using hc
  clear hc
  have HK : ∀ (L : List SProp) (w : World), Star L w → rowE 1 A ps.length (ivs ps) ∈ L → rowE 1 B hs.length (ivs hs) ∈ L → Calls Try.prog 15 #[.agg (ltC k f t' q (idOf id) 0 [] A ps.length ca B hs.length cb)] w fun r w' => r = .returned (.int .i64 (checkL ⟨k, f, t', q, id, 0, [], ps, hs⟩)) ∧ Star L w' := fun L w hM m1 m2 => by
    have := check_star k f t' q (idOf id) (idOf_len id) 0 [] A ps ca B hs cb (by first | omega | simp) (by first | omega | simp) (by first | omega | simp) w hM m1 m2
    rwa [checkL_idOf _ _ _ _ id _ _ _ _ hid] at this
  generalize hkv : checkL ⟨k, f, t', q, id, 0, [], ps, hs⟩ = kv at HK
  have HKV := Lib.hid hkv
  clear hkv
  replace HK := Lib.hid HK
  by_cases hk : kv ≠ 0
  · have hk1 : (kv == 0) = false := by simpa using hk
    have hk2 : (kv != 0) = true := by simpa using hk
    replace HV : Hid (parseL (99 :: 118 :: t) = (noL, kv)) := by show _ = _; rw [HV.out, finL, if_neg (by simp), HKV.out, if_pos hk]
    clear hk
    go_wp2_with (first | (first | ((with_reducible refine at_load' ?_); (refine BigFrame.wpList_want (by rfl) fun K hK => ws_load hM rfl rfl (by (repeat (first | assumption | (with_reducible exact List.mem_cons_self) | apply List.mem_cons_of_mem)); first | done | fail) (n := 40) (by exact ltC_size (by first | exact z32_len | exact idOf_len _)) (by decide +kernel) (hK _ _ ?_); clear hK K)) | fail) | (go_at_call 15; have hM0 := hM; clear hM; (first | (with_reducible refine (HK.out _ _ hM0 (by (repeat (first | assumption | (with_reducible exact List.mem_cons_self) | apply List.mem_cons_of_mem)); first | done | fail) (by (repeat (first | assumption | (with_reducible exact List.mem_cons_self) | apply List.mem_cons_of_mem)); first | done | fail)).mono ?_) | fail); clear hM0; rintro _ w ⟨rfl, hM⟩) | ((with_reducible refine at_build' ?_); refine BigFrame.wpList_want (by rfl) fun K hK => ws_build rfl (.agg (ltC 0 0 0 0 z32 0 [] none 0 0 none 0 0)) (by simp only [List.map_toArray, List.map_cons, List.map_nil]; exact build_lt0 _) (hK _ _ ?_); clear hK K) | (first | ((with_reducible refine at_store' ?_); (have hM0 := hM; clear hM; refine BigFrame.wpList_want (by rfl) fun K hK => ws_store hM0 rfl rfl rfl (by (repeat (first | (with_reducible exact Take.head) | apply Take.tail)); first | done | fail) (n := 40) (by exact ltC_size (by first | exact z32_len | exact idOf_len _)) (by exact ltC_size (by first | exact z32_len | exact idOf_len _)) (by kernel_rfl) (by exact ltC_one) (fun w hM => hK _ _ ?_); clear hM0 hK K)) | fail))
    refine bodyPost_ret (results_row_tmp (P := Try.prog) (ty := 26) rfl _ _ g2 26 _ 40 _ rfl rfl (hM.blk (by (repeat (first | assumption | (with_reducible exact List.mem_cons_self) | apply List.mem_cons_of_mem)); first | done | fail)) (ltC_size z32_len) (by decide +kernel)) rfl ?_; exact PP_none HV.out (hM.sel (R := F) (by repeat (first | (with_reducible exact Sel.refl) | (with_reducible exact Take.head) | (with_reducible apply Take.tail) | (with_reducible apply Sel.cons) | (with_reducible apply Sel.drop))))
  obtain rfl : kv = 0 := by simpa using hk
  clear hk
  replace HV : Hid (parseL (99 :: 118 :: t) = (⟨k, f, t', q, id, 0, [], ps, hs⟩, 0)) := by show _ = _; rw [HV.out, finL, if_neg (by simp), HKV.out, if_neg (by simp)]
  go_wp2_with (first | (first | ((with_reducible refine at_load' ?_); (refine BigFrame.wpList_want (by rfl) fun K hK => ws_load hM rfl rfl (by (repeat (first | assumption | (with_reducible exact List.mem_cons_self) | apply List.mem_cons_of_mem)); first | done | fail) (n := 40) (by exact ltC_size (by first | exact z32_len | exact idOf_len _)) (by decide +kernel) (hK _ _ ?_); clear hK K)) | fail) | (go_at_call 15; have hM0 := hM; clear hM; (first | (with_reducible refine (HK.out _ _ hM0 (by (repeat (first | assumption | (with_reducible exact List.mem_cons_self) | apply List.mem_cons_of_mem)); first | done | fail) (by (repeat (first | assumption | (with_reducible exact List.mem_cons_self) | apply List.mem_cons_of_mem)); first | done | fail)).mono ?_) | fail); clear hM0; rintro _ w ⟨rfl, hM⟩) | (first | ((with_reducible refine at_store' ?_); (have hM0 := hM; clear hM; refine BigFrame.wpList_want (by rfl) fun K hK => ws_store hM0 rfl rfl rfl (by (repeat (first | (with_reducible exact Take.head) | apply Take.tail)); first | done | fail) (n := 40) (by exact ltC_size (by first | exact z32_len | exact idOf_len _)) (by exact ltC_size (by first | exact z32_len | exact idOf_len _)) (by kernel_rfl) (by exact ltC_one) (fun w hM => hK _ _ ?_); clear hM0 hK K)) | fail))
  refine bodyPost_ret (results_row_tmp (P := Try.prog) (ty := 26) rfl _ _ g2 26 (ltC k f t' q (idOf id) 0 [] A ps.length ca B hs.length cb) 40 _ rfl rfl (hM.blk (by (repeat (first | assumption | (with_reducible exact List.mem_cons_self) | apply List.mem_cons_of_mem)); first | done | fail)) (ltC_size (by first | exact z32_len | exact idOf_len _)) (by decide +kernel)) rfl ?_
  unfold PP
  rw [HV.out]
  have hfin := hM.sel (R := rowE 1 A ps.length (ivs ps) :: rowE 1 B hs.length (ivs hs) :: F) (by repeat (first | (with_reducible exact Sel.refl) | (with_reducible exact Take.head) | (with_reducible apply Take.tail) | (with_reducible apply Sel.cons) | (with_reducible apply Sel.drop)))
  exact ⟨A, ca, B, cb, rfl, hfin⟩
set_option maxRecDepth 100000 in
set_option maxHeartbeats 8000000 in
theorem parse_W {F : List SProp} (t : List UInt8) (h0 : (99 :: 118 :: t).length ≤ 1024) (k : Int) (u1 : List UInt8) (e1 : Int) (h1 : mInt t 0 10 = (k, u1, e1)) (hn : hasName k = true) (h4 : is4 k = false) (h8 : is8 k = false) (hw : hasWhat k = true) (w : World) (hM : Star F w) :
    Calls Try.prog 19 #[.string ⟨(99 :: 118 :: t).toArray⟩] w (PP F (99 :: 118 :: t)) := by
  obtain ⟨f, u2, e2, h2⟩ : ∃ n u f, mInt u1 e1 63 = (n, u, f) := ⟨_, _, _, rfl⟩
  obtain ⟨t', u3, e3, h3⟩ : ∃ n u f, mInt u2 e2 63 = (n, u, f) := ⟨_, _, _, rfl⟩
  obtain ⟨q, u4, e4, h5⟩ : ∃ n u f, mInt u3 e3 4294967296 = (n, u, f) := ⟨_, _, _, rfl⟩
  obtain ⟨id, u5, e5, h6⟩ : ∃ n u f, mBytes u4 e4 32 = (n, u, f) := ⟨_, _, _, rfl⟩
  have hid : id.length ≤ 32 := by have := congrArg Prod.fst h6; simp only at this; rw [← this]; unfold mBytes; split <;> (try split) <;> simp <;> omega
  obtain ⟨wh, u6, e6, h7⟩ : ∃ n u f, mInt u5 e5 3 = (n, u, f) := ⟨_, _, _, rfl⟩
  obtain ⟨u0, c, h12⟩ : ∃ u c, mClose u6 e6 = (u, c) := ⟨_, _, rfl⟩
  have hv : parseL (99 :: 118 :: t) = finL ⟨k, f, t', q, id, wh, [], [], []⟩ c := by
    have := parseL_eq (id := id) (wh := wh) (x := []) (ps := []) (hs := []) (u9 := u6) (e9 := e6) h0 h1 h2 h3 h5 (by rw [hn]; exact h6) (by rw [hw]; exact h7) (by rw [h8]; rfl) (by rw [h4]; rfl) (by rw [h4]; rfl)
    rwa [h12] at this
  have HV := Lib.hid hv
  have H1 := Lib.hid h1
  have H2 := Lib.hid h2
  have H3 := Lib.hid h3
  have H5 := Lib.hid h5
  have H12 := Lib.hid h12
  have H6 := Lib.hid h6
  have H7 := Lib.hid h7
  have HN := part_n k
  have H4 := part_l k
  have H8 := part_t k
  have HW := part_w k
  rw [hn] at HN
  rw [h4] at H4
  rw [h8] at H8
  rw [hw] at HW
  replace HN := Lib.hid HN
  replace H4 := Lib.hid H4
  replace H8 := Lib.hid H8
  replace HW := Lib.hid HW
  have b1 : decide ((1024 : Int) < (t.length : Int) + 1 + 1) = false := by simp at h0 ⊢; omega
  have HCU := Lib.hid (cut_yes t (by simp at h0; omega))
  clear hv h1 h2 h3 h5 h12 hn h4 h8 hw h0 h6 h7
  have tok1 : True := trivial
  go_enter Try.func19, Try.ntmps19
  go_wp2_with (first | (have _t := tok1; (first | ((with_reducible refine at_alloc' ?_); (have hM0 := hM; clear hM; refine BigFrame.wpList_want (by rfl) fun K hK => ws_alloc hM0 (t := 26) rfl (ltC 0 0 0 0 z32 0 [] none 0 0 none 0 0) info_lt (fun g2 w hM => hK _ _ ?_); clear hM0 hK K)) | fail); clear tok1) | (first | ((with_reducible refine at_alloc' ?_); (have hM0 := hM; clear hM; refine BigFrame.wpList_want (by rfl) fun K hK => ws_alloc hM0 (t := 26) rfl (ltC 0 0 0 0 z32 0 [] none 0 0 none 0 0) info_lt (fun g7 w hM => hK _ _ ?_); clear hM0 hK K)) | fail) | (go_at_call 58; have hM0 := hM; clear hM; (first | (with_reducible refine (starq (HCU.out _) hM0).mono ?_) | fail); clear hM0; rintro _ w ⟨rfl, hM⟩) | (go_at_call 59; have hM0 := hM; clear hM; (first | (with_reducible refine (sOpen _ hM0).mono ?_) | fail); clear hM0; rintro _ w ⟨b, rfl, hM⟩) | (go_at_call 60; have hM0 := hM; clear hM; (first | (with_reducible refine (sInt (by omega) H1.out hM0 (by (repeat (first | (with_reducible exact Take.head) | apply Take.tail)); first | done | fail)).mono ?_) | fail); clear hM0; rintro _ w ⟨rfl, hM⟩) | (go_at_call 60; have hM0 := hM; clear hM; (first | (with_reducible refine (sInt (by omega) H2.out hM0 (by (repeat (first | (with_reducible exact Take.head) | apply Take.tail)); first | done | fail)).mono ?_) | fail); clear hM0; rintro _ w ⟨rfl, hM⟩) | (go_at_call 60; have hM0 := hM; clear hM; (first | (with_reducible refine (sInt (by omega) H3.out hM0 (by (repeat (first | (with_reducible exact Take.head) | apply Take.tail)); first | done | fail)).mono ?_) | fail); clear hM0; rintro _ w ⟨rfl, hM⟩) | (go_at_call 60; have hM0 := hM; clear hM; (first | (with_reducible refine (sInt (by omega) H5.out hM0 (by (repeat (first | (with_reducible exact Take.head) | apply Take.tail)); first | done | fail)).mono ?_) | fail); clear hM0; rintro _ w ⟨rfl, hM⟩) | (go_at_call 60; have hM0 := hM; clear hM; (first | (with_reducible refine (sInt (by omega) H7.out hM0 (by (repeat (first | (with_reducible exact Take.head) | apply Take.tail)); first | done | fail)).mono ?_) | fail); clear hM0; rintro _ w ⟨rfl, hM⟩) | ((with_reducible refine at_build' ?_); refine BigFrame.wpList_want (by rfl) fun K hK => ws_build rfl (.agg (ltC k f t' q z32 0 [] none 0 0 none 0 0)) (by simp only [List.map_toArray, List.map_cons, List.map_nil]; exact build_lt k f t' q _) (hK _ _ ?_); clear hK K) | (first | ((with_reducible refine at_store' ?_); (have hM0 := hM; clear hM; refine BigFrame.wpList_want (by rfl) fun K hK => ws_store hM0 rfl rfl rfl (by (repeat (first | (with_reducible exact Take.head) | apply Take.tail)); first | done | fail) (n := 40) (by exact ltC_size (by first | exact z32_len | exact idOf_len _)) (by exact ltC_size (by first | exact z32_len | exact idOf_len _)) (by kernel_rfl) (by exact ltC_one) (fun w hM => hK _ _ ?_); clear hM0 hK K)) | fail) | (first | ((with_reducible refine at_load' ?_); (refine BigFrame.wpList_want (by rfl) fun K hK => ws_load1 hM rfl rfl (by (repeat (first | assumption | (with_reducible exact List.mem_cons_self) | apply List.mem_cons_of_mem)); first | done | fail) (by with_reducible (first | exact ltC_0)) (by decide +kernel) (hK _ _ ?_); clear hK K)) | fail) | (go_at_call 51; have hM0 := hM; clear hM; (first | (with_reducible refine (starq (HN.out _) hM0).mono ?_) | fail); clear hM0; rintro _ w ⟨rfl, hM⟩) | (go_at_call 51; have hM0 := hM; clear hM; (first | (with_reducible refine (starq (H4.out _) hM0).mono ?_) | fail); clear hM0; rintro _ w ⟨rfl, hM⟩) | (go_at_call 51; have hM0 := hM; clear hM; (first | (with_reducible refine (starq (H8.out _) hM0).mono ?_) | fail); clear hM0; rintro _ w ⟨rfl, hM⟩) | (go_at_call 51; have hM0 := hM; clear hM; (first | (with_reducible refine (starq (HW.out _) hM0).mono ?_) | fail); clear hM0; rintro _ w ⟨rfl, hM⟩) | (go_at_call 61; have hM0 := hM; clear hM; (first | (with_reducible refine (sID H6.out hM0 (by (repeat (first | (with_reducible exact Take.head) | apply Take.tail)); first | done | fail)).mono ?_) | fail); clear hM0; rintro _ w ⟨rfl, hM⟩) | ((with_reducible refine at_store' ?_); have hM0 := hM; clear hM; refine BigFrame.wpList_want (by rfl) fun K hK => ws_store_at hM0 rfl (i := 4) rfl (v := .agg (bvs (idOf id)).toArray) rfl (by (repeat (first | (with_reducible exact Take.head) | apply Take.tail)); first | done | fail) 32 (by simp [Value.cells, bvs_len, idOf_len]) (by rw [ltC_size (by first | exact z32_len | exact idOf_len _)]; omega) (by kernel_rfl) (by simpa [Value.cells] using bvs_oneCell (idOf id)) (ltC_putid (by first | exact z32_len | exact idOf_len _) (idOf id) (idOf_len id)) (fun w hM => hK _ _ ?_); clear hM0 hK K) | (first | ((with_reducible refine at_store' ?_); (have hM0 := hM; clear hM; refine BigFrame.wpList_want (by rfl) fun K hK => ws_store1 hM0 rfl rfl (by go_simp; rfl) (by first | rfl | assumption) (by (repeat (first | (with_reducible exact Take.head) | apply Take.tail)); first | done | fail) (by (rw [ltC_size (by first | exact z32_len | exact idOf_len _)]; omega)) (by kernel_rfl) (by first | exact ltC_put36 (by first | exact z32_len | exact idOf_len _) _) (fun w hM => hK _ _ ?_); clear hM0 hK K)) | fail))
  refine (sClose H12.out hM (by (repeat (first | (with_reducible exact Take.head) | apply Take.tail)); first | done | fail)).mono ?_
  clear hM
  rintro _ w ⟨rfl, hM⟩
  by_cases hc : c ≠ 0
  · have hc1 : (c == 0) = false := by simpa using hc
    have hc2 : (c != 0) = true := by simpa using hc
    replace HV : Hid (parseL (99 :: 118 :: t) = (noL, c)) := by show _ = _; rw [HV.out, finL, if_pos hc]
    clear hc
    go_wp2_with (first | ((with_reducible refine at_build' ?_); refine BigFrame.wpList_want (by rfl) fun K hK => ws_build rfl (.agg (ltC 0 0 0 0 z32 0 [] none 0 0 none 0 0)) (by simp only [List.map_toArray, List.map_cons, List.map_nil]; exact build_lt0 _) (hK _ _ ?_); clear hK K) | (first | ((with_reducible refine at_store' ?_); (have hM0 := hM; clear hM; refine BigFrame.wpList_want (by rfl) fun K hK => ws_store hM0 rfl rfl rfl (by (repeat (first | (with_reducible exact Take.head) | apply Take.tail)); first | done | fail) (n := 40) (by exact ltC_size (by first | exact z32_len | exact idOf_len _)) (by exact ltC_size (by first | exact z32_len | exact idOf_len _)) (by kernel_rfl) (by exact ltC_one) (fun w hM => hK _ _ ?_); clear hM0 hK K)) | fail))
    refine bodyPost_ret (results_row_tmp (P := Try.prog) (ty := 26) rfl _ _ g2 26 _ 40 _ rfl rfl (hM.blk (by (repeat (first | assumption | (with_reducible exact List.mem_cons_self) | apply List.mem_cons_of_mem)); first | done | fail)) (ltC_size z32_len) (by decide +kernel)) rfl ?_; exact PP_none HV.out (hM.sel (R := F) (by repeat (first | (with_reducible exact Sel.refl) | (with_reducible exact Take.head) | (with_reducible apply Take.tail) | (with_reducible apply Sel.cons) | (with_reducible apply Sel.drop))))
  obtain rfl : c = 0 := by simpa using hc
  clear hc
  replace hM := (hM.nilrow 1).nilrow 1
  have HK : ∀ (L : List SProp) (w : World), Star L w → rowE 1 none 0 [] ∈ L → rowE 1 none 0 [] ∈ L → Calls Try.prog 15 #[.agg (ltC k f t' q (idOf id) wh [] none 0 0 none 0 0)] w fun r w' => r = .returned (.int .i64 (checkL ⟨k, f, t', q, id, wh, [], [], []⟩)) ∧ Star L w' := fun L w hM m1 m2 => by
    have := check_star k f t' q (idOf id) (idOf_len id) wh [] none [] 0 none [] 0 (by first | omega | simp) (by first | omega | simp) (by first | omega | simp) w hM m1 m2
    rwa [checkL_idOf _ _ _ _ id _ _ _ _ hid] at this
  generalize hkv : checkL ⟨k, f, t', q, id, wh, [], [], []⟩ = kv at HK
  have HKV := Lib.hid hkv
  clear hkv
  replace HK := Lib.hid HK
  by_cases hk : kv ≠ 0
  · have hk1 : (kv == 0) = false := by simpa using hk
    have hk2 : (kv != 0) = true := by simpa using hk
    replace HV : Hid (parseL (99 :: 118 :: t) = (noL, kv)) := by show _ = _; rw [HV.out, finL, if_neg (by simp), HKV.out, if_pos hk]
    clear hk
    go_wp2_with (first | (first | ((with_reducible refine at_load' ?_); (refine BigFrame.wpList_want (by rfl) fun K hK => ws_load hM rfl rfl (by (repeat (first | assumption | (with_reducible exact List.mem_cons_self) | apply List.mem_cons_of_mem)); first | done | fail) (n := 40) (by exact ltC_size (by first | exact z32_len | exact idOf_len _)) (by decide +kernel) (hK _ _ ?_); clear hK K)) | fail) | (go_at_call 15; have hM0 := hM; clear hM; (first | (with_reducible refine (HK.out _ _ hM0 (by (repeat (first | assumption | (with_reducible exact List.mem_cons_self) | apply List.mem_cons_of_mem)); first | done | fail) (by (repeat (first | assumption | (with_reducible exact List.mem_cons_self) | apply List.mem_cons_of_mem)); first | done | fail)).mono ?_) | fail); clear hM0; rintro _ w ⟨rfl, hM⟩) | ((with_reducible refine at_build' ?_); refine BigFrame.wpList_want (by rfl) fun K hK => ws_build rfl (.agg (ltC 0 0 0 0 z32 0 [] none 0 0 none 0 0)) (by simp only [List.map_toArray, List.map_cons, List.map_nil]; exact build_lt0 _) (hK _ _ ?_); clear hK K) | (first | ((with_reducible refine at_store' ?_); (have hM0 := hM; clear hM; refine BigFrame.wpList_want (by rfl) fun K hK => ws_store hM0 rfl rfl rfl (by (repeat (first | (with_reducible exact Take.head) | apply Take.tail)); first | done | fail) (n := 40) (by exact ltC_size (by first | exact z32_len | exact idOf_len _)) (by exact ltC_size (by first | exact z32_len | exact idOf_len _)) (by kernel_rfl) (by exact ltC_one) (fun w hM => hK _ _ ?_); clear hM0 hK K)) | fail))
    refine bodyPost_ret (results_row_tmp (P := Try.prog) (ty := 26) rfl _ _ g2 26 _ 40 _ rfl rfl (hM.blk (by (repeat (first | assumption | (with_reducible exact List.mem_cons_self) | apply List.mem_cons_of_mem)); first | done | fail)) (ltC_size z32_len) (by decide +kernel)) rfl ?_; exact PP_none HV.out (hM.sel (R := F) (by repeat (first | (with_reducible exact Sel.refl) | (with_reducible exact Take.head) | (with_reducible apply Take.tail) | (with_reducible apply Sel.cons) | (with_reducible apply Sel.drop))))
  obtain rfl : kv = 0 := by simpa using hk
  clear hk
  replace HV : Hid (parseL (99 :: 118 :: t) = (⟨k, f, t', q, id, wh, [], [], []⟩, 0)) := by show _ = _; rw [HV.out, finL, if_neg (by simp), HKV.out, if_neg (by simp)]
  go_wp2_with (first | (first | ((with_reducible refine at_load' ?_); (refine BigFrame.wpList_want (by rfl) fun K hK => ws_load hM rfl rfl (by (repeat (first | assumption | (with_reducible exact List.mem_cons_self) | apply List.mem_cons_of_mem)); first | done | fail) (n := 40) (by exact ltC_size (by first | exact z32_len | exact idOf_len _)) (by decide +kernel) (hK _ _ ?_); clear hK K)) | fail) | (go_at_call 15; have hM0 := hM; clear hM; (first | (with_reducible refine (HK.out _ _ hM0 (by (repeat (first | assumption | (with_reducible exact List.mem_cons_self) | apply List.mem_cons_of_mem)); first | done | fail) (by (repeat (first | assumption | (with_reducible exact List.mem_cons_self) | apply List.mem_cons_of_mem)); first | done | fail)).mono ?_) | fail); clear hM0; rintro _ w ⟨rfl, hM⟩) | (first | ((with_reducible refine at_store' ?_); (have hM0 := hM; clear hM; refine BigFrame.wpList_want (by rfl) fun K hK => ws_store hM0 rfl rfl rfl (by (repeat (first | (with_reducible exact Take.head) | apply Take.tail)); first | done | fail) (n := 40) (by exact ltC_size (by first | exact z32_len | exact idOf_len _)) (by exact ltC_size (by first | exact z32_len | exact idOf_len _)) (by kernel_rfl) (by exact ltC_one) (fun w hM => hK _ _ ?_); clear hM0 hK K)) | fail))
  refine bodyPost_ret (results_row_tmp (P := Try.prog) (ty := 26) rfl _ _ g2 26 (ltC k f t' q (idOf id) wh [] none 0 0 none 0 0) 40 _ rfl rfl (hM.blk (by (repeat (first | assumption | (with_reducible exact List.mem_cons_self) | apply List.mem_cons_of_mem)); first | done | fail)) (ltC_size (by first | exact z32_len | exact idOf_len _)) (by decide +kernel)) rfl ?_
  unfold PP
  rw [HV.out]
  have hfin := hM.sel (R := rowE 1 none 0 [] :: rowE 1 none 0 [] :: F) (by repeat (first | (with_reducible exact Sel.refl) | (with_reducible exact Take.head) | (with_reducible apply Take.tail) | (with_reducible apply Sel.cons) | (with_reducible apply Sel.drop)))
  exact ⟨none, 0, none, 0, rfl, hfin⟩
set_option maxRecDepth 100000 in
set_option maxHeartbeats 8000000 in
theorem parse_B {F : List SProp} (t : List UInt8) (h0 : (99 :: 118 :: t).length ≤ 1024) (k : Int) (u1 : List UInt8) (e1 : Int) (h1 : mInt t 0 10 = (k, u1, e1)) (hn : hasName k = true) (h4 : is4 k = false) (h8 : is8 k = true) (hw : hasWhat k = true) (w : World) (hM : Star F w) :
    Calls Try.prog 19 #[.string ⟨(99 :: 118 :: t).toArray⟩] w (PP F (99 :: 118 :: t)) := by
  obtain ⟨f, u2, e2, h2⟩ : ∃ n u f, mInt u1 e1 63 = (n, u, f) := ⟨_, _, _, rfl⟩
  obtain ⟨t', u3, e3, h3⟩ : ∃ n u f, mInt u2 e2 63 = (n, u, f) := ⟨_, _, _, rfl⟩
  obtain ⟨q, u4, e4, h5⟩ : ∃ n u f, mInt u3 e3 4294967296 = (n, u, f) := ⟨_, _, _, rfl⟩
  obtain ⟨id, u5, e5, h6⟩ : ∃ n u f, mBytes u4 e4 32 = (n, u, f) := ⟨_, _, _, rfl⟩
  have hid : id.length ≤ 32 := by have := congrArg Prod.fst h6; simp only at this; rw [← this]; unfold mBytes; split <;> (try split) <;> simp <;> omega
  obtain ⟨wh, u6, e6, h7⟩ : ∃ n u f, mInt u5 e5 3 = (n, u, f) := ⟨_, _, _, rfl⟩
  obtain ⟨x, u7, e7, h9⟩ : ∃ n u f, mStr u6 e6 512 = (n, u, f) := ⟨_, _, _, rfl⟩
  have hx : x.length ≤ 1024 := by have a := mStr_len h9; have b := mInt_left_le t 0 10; have c := mInt_left_le u1 e1 63; have d := mInt_left_le u2 e2 63; have e := mInt_left_le u3 e3 4294967296; have f := mBytes_left_le u4 e4 32; have g := mInt_left_le u5 e5 3; rw [h1] at b; rw [h2] at c; rw [h3] at d; rw [h5] at e; rw [h6] at f; rw [h7] at g; simp only [List.length_cons] at *; omega
  obtain ⟨u0, c, h12⟩ : ∃ u c, mClose u7 e7 = (u, c) := ⟨_, _, rfl⟩
  have hv : parseL (99 :: 118 :: t) = finL ⟨k, f, t', q, id, wh, x, [], []⟩ c := by
    have := parseL_eq (id := id) (wh := wh) (x := x) (ps := []) (hs := []) (u9 := u7) (e9 := e7) h0 h1 h2 h3 h5 (by rw [hn]; exact h6) (by rw [hw]; exact h7) (by rw [h8]; exact h9) (by rw [h4]; rfl) (by rw [h4]; rfl)
    rwa [h12] at this
  have HV := Lib.hid hv
  have H1 := Lib.hid h1
  have H2 := Lib.hid h2
  have H3 := Lib.hid h3
  have H5 := Lib.hid h5
  have H12 := Lib.hid h12
  have H6 := Lib.hid h6
  have H7 := Lib.hid h7
  have H9 := Lib.hid h9
  have HN := part_n k
  have H4 := part_l k
  have H8 := part_t k
  have HW := part_w k
  rw [hn] at HN
  rw [h4] at H4
  rw [h8] at H8
  rw [hw] at HW
  replace HN := Lib.hid HN
  replace H4 := Lib.hid H4
  replace H8 := Lib.hid H8
  replace HW := Lib.hid HW
  have b1 : decide ((1024 : Int) < (t.length : Int) + 1 + 1) = false := by simp at h0 ⊢; omega
  have HCU := Lib.hid (cut_yes t (by simp at h0; omega))
  clear hv h1 h2 h3 h5 h12 hn h4 h8 hw h0 h6 h7 h9
  have tok1 : True := trivial
  go_enter Try.func19, Try.ntmps19
  go_wp2_with (first | (have _t := tok1; (first | ((with_reducible refine at_alloc' ?_); (have hM0 := hM; clear hM; refine BigFrame.wpList_want (by rfl) fun K hK => ws_alloc hM0 (t := 26) rfl (ltC 0 0 0 0 z32 0 [] none 0 0 none 0 0) info_lt (fun g2 w hM => hK _ _ ?_); clear hM0 hK K)) | fail); clear tok1) | (first | ((with_reducible refine at_alloc' ?_); (have hM0 := hM; clear hM; refine BigFrame.wpList_want (by rfl) fun K hK => ws_alloc hM0 (t := 26) rfl (ltC 0 0 0 0 z32 0 [] none 0 0 none 0 0) info_lt (fun g7 w hM => hK _ _ ?_); clear hM0 hK K)) | fail) | (go_at_call 58; have hM0 := hM; clear hM; (first | (with_reducible refine (starq (HCU.out _) hM0).mono ?_) | fail); clear hM0; rintro _ w ⟨rfl, hM⟩) | (go_at_call 59; have hM0 := hM; clear hM; (first | (with_reducible refine (sOpen _ hM0).mono ?_) | fail); clear hM0; rintro _ w ⟨b, rfl, hM⟩) | (go_at_call 60; have hM0 := hM; clear hM; (first | (with_reducible refine (sInt (by omega) H1.out hM0 (by (repeat (first | (with_reducible exact Take.head) | apply Take.tail)); first | done | fail)).mono ?_) | fail); clear hM0; rintro _ w ⟨rfl, hM⟩) | (go_at_call 60; have hM0 := hM; clear hM; (first | (with_reducible refine (sInt (by omega) H2.out hM0 (by (repeat (first | (with_reducible exact Take.head) | apply Take.tail)); first | done | fail)).mono ?_) | fail); clear hM0; rintro _ w ⟨rfl, hM⟩) | (go_at_call 60; have hM0 := hM; clear hM; (first | (with_reducible refine (sInt (by omega) H3.out hM0 (by (repeat (first | (with_reducible exact Take.head) | apply Take.tail)); first | done | fail)).mono ?_) | fail); clear hM0; rintro _ w ⟨rfl, hM⟩) | (go_at_call 60; have hM0 := hM; clear hM; (first | (with_reducible refine (sInt (by omega) H5.out hM0 (by (repeat (first | (with_reducible exact Take.head) | apply Take.tail)); first | done | fail)).mono ?_) | fail); clear hM0; rintro _ w ⟨rfl, hM⟩) | (go_at_call 60; have hM0 := hM; clear hM; (first | (with_reducible refine (sInt (by omega) H7.out hM0 (by (repeat (first | (with_reducible exact Take.head) | apply Take.tail)); first | done | fail)).mono ?_) | fail); clear hM0; rintro _ w ⟨rfl, hM⟩) | ((with_reducible refine at_build' ?_); refine BigFrame.wpList_want (by rfl) fun K hK => ws_build rfl (.agg (ltC k f t' q z32 0 [] none 0 0 none 0 0)) (by simp only [List.map_toArray, List.map_cons, List.map_nil]; exact build_lt k f t' q _) (hK _ _ ?_); clear hK K) | (first | ((with_reducible refine at_store' ?_); (have hM0 := hM; clear hM; refine BigFrame.wpList_want (by rfl) fun K hK => ws_store hM0 rfl rfl rfl (by (repeat (first | (with_reducible exact Take.head) | apply Take.tail)); first | done | fail) (n := 40) (by exact ltC_size (by first | exact z32_len | exact idOf_len _)) (by exact ltC_size (by first | exact z32_len | exact idOf_len _)) (by kernel_rfl) (by exact ltC_one) (fun w hM => hK _ _ ?_); clear hM0 hK K)) | fail) | (first | ((with_reducible refine at_load' ?_); (refine BigFrame.wpList_want (by rfl) fun K hK => ws_load1 hM rfl rfl (by (repeat (first | assumption | (with_reducible exact List.mem_cons_self) | apply List.mem_cons_of_mem)); first | done | fail) (by with_reducible (first | exact ltC_0)) (by decide +kernel) (hK _ _ ?_); clear hK K)) | fail) | (go_at_call 51; have hM0 := hM; clear hM; (first | (with_reducible refine (starq (HN.out _) hM0).mono ?_) | fail); clear hM0; rintro _ w ⟨rfl, hM⟩) | (go_at_call 51; have hM0 := hM; clear hM; (first | (with_reducible refine (starq (H4.out _) hM0).mono ?_) | fail); clear hM0; rintro _ w ⟨rfl, hM⟩) | (go_at_call 51; have hM0 := hM; clear hM; (first | (with_reducible refine (starq (H8.out _) hM0).mono ?_) | fail); clear hM0; rintro _ w ⟨rfl, hM⟩) | (go_at_call 51; have hM0 := hM; clear hM; (first | (with_reducible refine (starq (HW.out _) hM0).mono ?_) | fail); clear hM0; rintro _ w ⟨rfl, hM⟩) | (go_at_call 61; have hM0 := hM; clear hM; (first | (with_reducible refine (sID H6.out hM0 (by (repeat (first | (with_reducible exact Take.head) | apply Take.tail)); first | done | fail)).mono ?_) | fail); clear hM0; rintro _ w ⟨rfl, hM⟩) | ((with_reducible refine at_store' ?_); have hM0 := hM; clear hM; refine BigFrame.wpList_want (by rfl) fun K hK => ws_store_at hM0 rfl (i := 4) rfl (v := .agg (bvs (idOf id)).toArray) rfl (by (repeat (first | (with_reducible exact Take.head) | apply Take.tail)); first | done | fail) 32 (by simp [Value.cells, bvs_len, idOf_len]) (by rw [ltC_size (by first | exact z32_len | exact idOf_len _)]; omega) (by kernel_rfl) (by simpa [Value.cells] using bvs_oneCell (idOf id)) (ltC_putid (by first | exact z32_len | exact idOf_len _) (idOf id) (idOf_len id)) (fun w hM => hK _ _ ?_); clear hM0 hK K) | (go_at_call 62; have hM0 := hM; clear hM; (first | (with_reducible refine (sStr (by omega) H9.out hM0 (by (repeat (first | (with_reducible exact Take.head) | apply Take.tail)); first | done | fail)).mono ?_) | fail); clear hM0; rintro _ w ⟨rfl, hM⟩) | (first | ((with_reducible refine at_store' ?_); (have hM0 := hM; clear hM; refine BigFrame.wpList_want (by rfl) fun K hK => ws_store1 hM0 rfl rfl (by go_simp; rfl) (by first | rfl | assumption) (by (repeat (first | (with_reducible exact Take.head) | apply Take.tail)); first | done | fail) (by (rw [ltC_size (by first | exact z32_len | exact idOf_len _)]; omega)) (by kernel_rfl) (by first | exact ltC_put36 (by first | exact z32_len | exact idOf_len _) _ | exact ltC_put37 (by first | exact z32_len | exact idOf_len _) _) (fun w hM => hK _ _ ?_); clear hM0 hK K)) | fail))
  refine (sClose H12.out hM (by (repeat (first | (with_reducible exact Take.head) | apply Take.tail)); first | done | fail)).mono ?_
  clear hM
  rintro _ w ⟨rfl, hM⟩
  by_cases hc : c ≠ 0
  · have hc1 : (c == 0) = false := by simpa using hc
    have hc2 : (c != 0) = true := by simpa using hc
    replace HV : Hid (parseL (99 :: 118 :: t) = (noL, c)) := by show _ = _; rw [HV.out, finL, if_pos hc]
    clear hc
    go_wp2_with (first | ((with_reducible refine at_build' ?_); refine BigFrame.wpList_want (by rfl) fun K hK => ws_build rfl (.agg (ltC 0 0 0 0 z32 0 [] none 0 0 none 0 0)) (by simp only [List.map_toArray, List.map_cons, List.map_nil]; exact build_lt0 _) (hK _ _ ?_); clear hK K) | (first | ((with_reducible refine at_store' ?_); (have hM0 := hM; clear hM; refine BigFrame.wpList_want (by rfl) fun K hK => ws_store hM0 rfl rfl rfl (by (repeat (first | (with_reducible exact Take.head) | apply Take.tail)); first | done | fail) (n := 40) (by exact ltC_size (by first | exact z32_len | exact idOf_len _)) (by exact ltC_size (by first | exact z32_len | exact idOf_len _)) (by kernel_rfl) (by exact ltC_one) (fun w hM => hK _ _ ?_); clear hM0 hK K)) | fail))
    refine bodyPost_ret (results_row_tmp (P := Try.prog) (ty := 26) rfl _ _ g2 26 _ 40 _ rfl rfl (hM.blk (by (repeat (first | assumption | (with_reducible exact List.mem_cons_self) | apply List.mem_cons_of_mem)); first | done | fail)) (ltC_size z32_len) (by decide +kernel)) rfl ?_; exact PP_none HV.out (hM.sel (R := F) (by repeat (first | (with_reducible exact Sel.refl) | (with_reducible exact Take.head) | (with_reducible apply Take.tail) | (with_reducible apply Sel.cons) | (with_reducible apply Sel.drop))))
  obtain rfl : c = 0 := by simpa using hc
  clear hc
  replace hM := (hM.nilrow 1).nilrow 1
  have HK : ∀ (L : List SProp) (w : World), Star L w → rowE 1 none 0 [] ∈ L → rowE 1 none 0 [] ∈ L → Calls Try.prog 15 #[.agg (ltC k f t' q (idOf id) wh x none 0 0 none 0 0)] w fun r w' => r = .returned (.int .i64 (checkL ⟨k, f, t', q, id, wh, x, [], []⟩)) ∧ Star L w' := fun L w hM m1 m2 => by
    have := check_star k f t' q (idOf id) (idOf_len id) wh x none [] 0 none [] 0 (by first | omega | simp) (by first | omega | simp) (by first | omega | simp) w hM m1 m2
    rwa [checkL_idOf _ _ _ _ id _ _ _ _ hid] at this
  generalize hkv : checkL ⟨k, f, t', q, id, wh, x, [], []⟩ = kv at HK
  have HKV := Lib.hid hkv
  clear hkv
  replace HK := Lib.hid HK
  by_cases hk : kv ≠ 0
  · have hk1 : (kv == 0) = false := by simpa using hk
    have hk2 : (kv != 0) = true := by simpa using hk
    replace HV : Hid (parseL (99 :: 118 :: t) = (noL, kv)) := by show _ = _; rw [HV.out, finL, if_neg (by simp), HKV.out, if_pos hk]
    clear hk
    go_wp2_with (first | (first | ((with_reducible refine at_load' ?_); (refine BigFrame.wpList_want (by rfl) fun K hK => ws_load hM rfl rfl (by (repeat (first | assumption | (with_reducible exact List.mem_cons_self) | apply List.mem_cons_of_mem)); first | done | fail) (n := 40) (by exact ltC_size (by first | exact z32_len | exact idOf_len _)) (by decide +kernel) (hK _ _ ?_); clear hK K)) | fail) | (go_at_call 15; have hM0 := hM; clear hM; (first | (with_reducible refine (HK.out _ _ hM0 (by (repeat (first | assumption | (with_reducible exact List.mem_cons_self) | apply List.mem_cons_of_mem)); first | done | fail) (by (repeat (first | assumption | (with_reducible exact List.mem_cons_self) | apply List.mem_cons_of_mem)); first | done | fail)).mono ?_) | fail); clear hM0; rintro _ w ⟨rfl, hM⟩) | ((with_reducible refine at_build' ?_); refine BigFrame.wpList_want (by rfl) fun K hK => ws_build rfl (.agg (ltC 0 0 0 0 z32 0 [] none 0 0 none 0 0)) (by simp only [List.map_toArray, List.map_cons, List.map_nil]; exact build_lt0 _) (hK _ _ ?_); clear hK K) | (first | ((with_reducible refine at_store' ?_); (have hM0 := hM; clear hM; refine BigFrame.wpList_want (by rfl) fun K hK => ws_store hM0 rfl rfl rfl (by (repeat (first | (with_reducible exact Take.head) | apply Take.tail)); first | done | fail) (n := 40) (by exact ltC_size (by first | exact z32_len | exact idOf_len _)) (by exact ltC_size (by first | exact z32_len | exact idOf_len _)) (by kernel_rfl) (by exact ltC_one) (fun w hM => hK _ _ ?_); clear hM0 hK K)) | fail))
    refine bodyPost_ret (results_row_tmp (P := Try.prog) (ty := 26) rfl _ _ g2 26 _ 40 _ rfl rfl (hM.blk (by (repeat (first | assumption | (with_reducible exact List.mem_cons_self) | apply List.mem_cons_of_mem)); first | done | fail)) (ltC_size z32_len) (by decide +kernel)) rfl ?_; exact PP_none HV.out (hM.sel (R := F) (by repeat (first | (with_reducible exact Sel.refl) | (with_reducible exact Take.head) | (with_reducible apply Take.tail) | (with_reducible apply Sel.cons) | (with_reducible apply Sel.drop))))
  obtain rfl : kv = 0 := by simpa using hk
  clear hk
  replace HV : Hid (parseL (99 :: 118 :: t) = (⟨k, f, t', q, id, wh, x, [], []⟩, 0)) := by show _ = _; rw [HV.out, finL, if_neg (by simp), HKV.out, if_neg (by simp)]
  go_wp2_with (first | (first | ((with_reducible refine at_load' ?_); (refine BigFrame.wpList_want (by rfl) fun K hK => ws_load hM rfl rfl (by (repeat (first | assumption | (with_reducible exact List.mem_cons_self) | apply List.mem_cons_of_mem)); first | done | fail) (n := 40) (by exact ltC_size (by first | exact z32_len | exact idOf_len _)) (by decide +kernel) (hK _ _ ?_); clear hK K)) | fail) | (go_at_call 15; have hM0 := hM; clear hM; (first | (with_reducible refine (HK.out _ _ hM0 (by (repeat (first | assumption | (with_reducible exact List.mem_cons_self) | apply List.mem_cons_of_mem)); first | done | fail) (by (repeat (first | assumption | (with_reducible exact List.mem_cons_self) | apply List.mem_cons_of_mem)); first | done | fail)).mono ?_) | fail); clear hM0; rintro _ w ⟨rfl, hM⟩) | (first | ((with_reducible refine at_store' ?_); (have hM0 := hM; clear hM; refine BigFrame.wpList_want (by rfl) fun K hK => ws_store hM0 rfl rfl rfl (by (repeat (first | (with_reducible exact Take.head) | apply Take.tail)); first | done | fail) (n := 40) (by exact ltC_size (by first | exact z32_len | exact idOf_len _)) (by exact ltC_size (by first | exact z32_len | exact idOf_len _)) (by kernel_rfl) (by exact ltC_one) (fun w hM => hK _ _ ?_); clear hM0 hK K)) | fail))
  refine bodyPost_ret (results_row_tmp (P := Try.prog) (ty := 26) rfl _ _ g2 26 (ltC k f t' q (idOf id) wh x none 0 0 none 0 0) 40 _ rfl rfl (hM.blk (by (repeat (first | assumption | (with_reducible exact List.mem_cons_self) | apply List.mem_cons_of_mem)); first | done | fail)) (ltC_size (by first | exact z32_len | exact idOf_len _)) (by decide +kernel)) rfl ?_
  unfold PP
  rw [HV.out]
  have hfin := hM.sel (R := rowE 1 none 0 [] :: rowE 1 none 0 [] :: F) (by repeat (first | (with_reducible exact Sel.refl) | (with_reducible exact Take.head) | (with_reducible apply Take.tail) | (with_reducible apply Sel.cons) | (with_reducible apply Sel.drop)))
  exact ⟨none, 0, none, 0, rfl, hfin⟩
set_option maxRecDepth 100000 in
set_option maxHeartbeats 8000000 in
theorem parse_F {F : List SProp} (t : List UInt8) (h0 : (99 :: 118 :: t).length ≤ 1024) (k : Int) (u1 : List UInt8) (e1 : Int) (h1 : mInt t 0 10 = (k, u1, e1)) (hn : hasName k = true) (h4 : is4 k = false) (h8 : is8 k = false) (hw : hasWhat k = false) (w : World) (hM : Star F w) :
    Calls Try.prog 19 #[.string ⟨(99 :: 118 :: t).toArray⟩] w (PP F (99 :: 118 :: t)) := by
  obtain ⟨f, u2, e2, h2⟩ : ∃ n u f, mInt u1 e1 63 = (n, u, f) := ⟨_, _, _, rfl⟩
  obtain ⟨t', u3, e3, h3⟩ : ∃ n u f, mInt u2 e2 63 = (n, u, f) := ⟨_, _, _, rfl⟩
  obtain ⟨q, u4, e4, h5⟩ : ∃ n u f, mInt u3 e3 4294967296 = (n, u, f) := ⟨_, _, _, rfl⟩
  obtain ⟨id, u5, e5, h6⟩ : ∃ n u f, mBytes u4 e4 32 = (n, u, f) := ⟨_, _, _, rfl⟩
  have hid : id.length ≤ 32 := by have := congrArg Prod.fst h6; simp only at this; rw [← this]; unfold mBytes; split <;> (try split) <;> simp <;> omega
  obtain ⟨u0, c, h12⟩ : ∃ u c, mClose u5 e5 = (u, c) := ⟨_, _, rfl⟩
  have hv : parseL (99 :: 118 :: t) = finL ⟨k, f, t', q, id, 0, [], [], []⟩ c := by
    have := parseL_eq (id := id) (wh := 0) (x := []) (ps := []) (hs := []) (u9 := u5) (e9 := e5) h0 h1 h2 h3 h5 (by rw [hn]; exact h6) (by rw [hw]; rfl) (by rw [h8]; rfl) (by rw [h4]; rfl) (by rw [h4]; rfl)
    rwa [h12] at this
  have HV := Lib.hid hv
  have H1 := Lib.hid h1
  have H2 := Lib.hid h2
  have H3 := Lib.hid h3
  have H5 := Lib.hid h5
  have H12 := Lib.hid h12
  have H6 := Lib.hid h6
  have HN := part_n k
  have H4 := part_l k
  have H8 := part_t k
  have HW := part_w k
  rw [hn] at HN
  rw [h4] at H4
  rw [h8] at H8
  rw [hw] at HW
  replace HN := Lib.hid HN
  replace H4 := Lib.hid H4
  replace H8 := Lib.hid H8
  replace HW := Lib.hid HW
  have b1 : decide ((1024 : Int) < (t.length : Int) + 1 + 1) = false := by simp at h0 ⊢; omega
  have HCU := Lib.hid (cut_yes t (by simp at h0; omega))
  clear hv h1 h2 h3 h5 h12 hn h4 h8 hw h0 h6
  have tok1 : True := trivial
  go_enter Try.func19, Try.ntmps19
  go_wp2_with (first | (have _t := tok1; (first | ((with_reducible refine at_alloc' ?_); (have hM0 := hM; clear hM; refine BigFrame.wpList_want (by rfl) fun K hK => ws_alloc hM0 (t := 26) rfl (ltC 0 0 0 0 z32 0 [] none 0 0 none 0 0) info_lt (fun g2 w hM => hK _ _ ?_); clear hM0 hK K)) | fail); clear tok1) | (first | ((with_reducible refine at_alloc' ?_); (have hM0 := hM; clear hM; refine BigFrame.wpList_want (by rfl) fun K hK => ws_alloc hM0 (t := 26) rfl (ltC 0 0 0 0 z32 0 [] none 0 0 none 0 0) info_lt (fun g7 w hM => hK _ _ ?_); clear hM0 hK K)) | fail) | (go_at_call 58; have hM0 := hM; clear hM; (first | (with_reducible refine (starq (HCU.out _) hM0).mono ?_) | fail); clear hM0; rintro _ w ⟨rfl, hM⟩) | (go_at_call 59; have hM0 := hM; clear hM; (first | (with_reducible refine (sOpen _ hM0).mono ?_) | fail); clear hM0; rintro _ w ⟨b, rfl, hM⟩) | (go_at_call 60; have hM0 := hM; clear hM; (first | (with_reducible refine (sInt (by omega) H1.out hM0 (by (repeat (first | (with_reducible exact Take.head) | apply Take.tail)); first | done | fail)).mono ?_) | fail); clear hM0; rintro _ w ⟨rfl, hM⟩) | (go_at_call 60; have hM0 := hM; clear hM; (first | (with_reducible refine (sInt (by omega) H2.out hM0 (by (repeat (first | (with_reducible exact Take.head) | apply Take.tail)); first | done | fail)).mono ?_) | fail); clear hM0; rintro _ w ⟨rfl, hM⟩) | (go_at_call 60; have hM0 := hM; clear hM; (first | (with_reducible refine (sInt (by omega) H3.out hM0 (by (repeat (first | (with_reducible exact Take.head) | apply Take.tail)); first | done | fail)).mono ?_) | fail); clear hM0; rintro _ w ⟨rfl, hM⟩) | (go_at_call 60; have hM0 := hM; clear hM; (first | (with_reducible refine (sInt (by omega) H5.out hM0 (by (repeat (first | (with_reducible exact Take.head) | apply Take.tail)); first | done | fail)).mono ?_) | fail); clear hM0; rintro _ w ⟨rfl, hM⟩) | ((with_reducible refine at_build' ?_); refine BigFrame.wpList_want (by rfl) fun K hK => ws_build rfl (.agg (ltC k f t' q z32 0 [] none 0 0 none 0 0)) (by simp only [List.map_toArray, List.map_cons, List.map_nil]; exact build_lt k f t' q _) (hK _ _ ?_); clear hK K) | (first | ((with_reducible refine at_store' ?_); (have hM0 := hM; clear hM; refine BigFrame.wpList_want (by rfl) fun K hK => ws_store hM0 rfl rfl rfl (by (repeat (first | (with_reducible exact Take.head) | apply Take.tail)); first | done | fail) (n := 40) (by exact ltC_size (by first | exact z32_len | exact idOf_len _)) (by exact ltC_size (by first | exact z32_len | exact idOf_len _)) (by kernel_rfl) (by exact ltC_one) (fun w hM => hK _ _ ?_); clear hM0 hK K)) | fail) | (first | ((with_reducible refine at_load' ?_); (refine BigFrame.wpList_want (by rfl) fun K hK => ws_load1 hM rfl rfl (by (repeat (first | assumption | (with_reducible exact List.mem_cons_self) | apply List.mem_cons_of_mem)); first | done | fail) (by with_reducible (first | exact ltC_0)) (by decide +kernel) (hK _ _ ?_); clear hK K)) | fail) | (go_at_call 51; have hM0 := hM; clear hM; (first | (with_reducible refine (starq (HN.out _) hM0).mono ?_) | fail); clear hM0; rintro _ w ⟨rfl, hM⟩) | (go_at_call 51; have hM0 := hM; clear hM; (first | (with_reducible refine (starq (H4.out _) hM0).mono ?_) | fail); clear hM0; rintro _ w ⟨rfl, hM⟩) | (go_at_call 51; have hM0 := hM; clear hM; (first | (with_reducible refine (starq (H8.out _) hM0).mono ?_) | fail); clear hM0; rintro _ w ⟨rfl, hM⟩) | (go_at_call 51; have hM0 := hM; clear hM; (first | (with_reducible refine (starq (HW.out _) hM0).mono ?_) | fail); clear hM0; rintro _ w ⟨rfl, hM⟩) | (go_at_call 61; have hM0 := hM; clear hM; (first | (with_reducible refine (sID H6.out hM0 (by (repeat (first | (with_reducible exact Take.head) | apply Take.tail)); first | done | fail)).mono ?_) | fail); clear hM0; rintro _ w ⟨rfl, hM⟩) | ((with_reducible refine at_store' ?_); have hM0 := hM; clear hM; refine BigFrame.wpList_want (by rfl) fun K hK => ws_store_at hM0 rfl (i := 4) rfl (v := .agg (bvs (idOf id)).toArray) rfl (by (repeat (first | (with_reducible exact Take.head) | apply Take.tail)); first | done | fail) 32 (by simp [Value.cells, bvs_len, idOf_len]) (by rw [ltC_size (by first | exact z32_len | exact idOf_len _)]; omega) (by kernel_rfl) (by simpa [Value.cells] using bvs_oneCell (idOf id)) (ltC_putid (by first | exact z32_len | exact idOf_len _) (idOf id) (idOf_len id)) (fun w hM => hK _ _ ?_); clear hM0 hK K))
  refine (sClose H12.out hM (by (repeat (first | (with_reducible exact Take.head) | apply Take.tail)); first | done | fail)).mono ?_
  clear hM
  rintro _ w ⟨rfl, hM⟩
  by_cases hc : c ≠ 0
  · have hc1 : (c == 0) = false := by simpa using hc
    have hc2 : (c != 0) = true := by simpa using hc
    replace HV : Hid (parseL (99 :: 118 :: t) = (noL, c)) := by show _ = _; rw [HV.out, finL, if_pos hc]
    clear hc
    go_wp2_with (first | ((with_reducible refine at_build' ?_); refine BigFrame.wpList_want (by rfl) fun K hK => ws_build rfl (.agg (ltC 0 0 0 0 z32 0 [] none 0 0 none 0 0)) (by simp only [List.map_toArray, List.map_cons, List.map_nil]; exact build_lt0 _) (hK _ _ ?_); clear hK K) | (first | ((with_reducible refine at_store' ?_); (have hM0 := hM; clear hM; refine BigFrame.wpList_want (by rfl) fun K hK => ws_store hM0 rfl rfl rfl (by (repeat (first | (with_reducible exact Take.head) | apply Take.tail)); first | done | fail) (n := 40) (by exact ltC_size (by first | exact z32_len | exact idOf_len _)) (by exact ltC_size (by first | exact z32_len | exact idOf_len _)) (by kernel_rfl) (by exact ltC_one) (fun w hM => hK _ _ ?_); clear hM0 hK K)) | fail))
    refine bodyPost_ret (results_row_tmp (P := Try.prog) (ty := 26) rfl _ _ g2 26 _ 40 _ rfl rfl (hM.blk (by (repeat (first | assumption | (with_reducible exact List.mem_cons_self) | apply List.mem_cons_of_mem)); first | done | fail)) (ltC_size z32_len) (by decide +kernel)) rfl ?_; exact PP_none HV.out (hM.sel (R := F) (by repeat (first | (with_reducible exact Sel.refl) | (with_reducible exact Take.head) | (with_reducible apply Take.tail) | (with_reducible apply Sel.cons) | (with_reducible apply Sel.drop))))
  obtain rfl : c = 0 := by simpa using hc
  clear hc
  replace hM := (hM.nilrow 1).nilrow 1
  have HK : ∀ (L : List SProp) (w : World), Star L w → rowE 1 none 0 [] ∈ L → rowE 1 none 0 [] ∈ L → Calls Try.prog 15 #[.agg (ltC k f t' q (idOf id) 0 [] none 0 0 none 0 0)] w fun r w' => r = .returned (.int .i64 (checkL ⟨k, f, t', q, id, 0, [], [], []⟩)) ∧ Star L w' := fun L w hM m1 m2 => by
    have := check_star k f t' q (idOf id) (idOf_len id) 0 [] none [] 0 none [] 0 (by first | omega | simp) (by first | omega | simp) (by first | omega | simp) w hM m1 m2
    rwa [checkL_idOf _ _ _ _ id _ _ _ _ hid] at this
  generalize hkv : checkL ⟨k, f, t', q, id, 0, [], [], []⟩ = kv at HK
  have HKV := Lib.hid hkv
  clear hkv
  replace HK := Lib.hid HK
  by_cases hk : kv ≠ 0
  · have hk1 : (kv == 0) = false := by simpa using hk
    have hk2 : (kv != 0) = true := by simpa using hk
    replace HV : Hid (parseL (99 :: 118 :: t) = (noL, kv)) := by show _ = _; rw [HV.out, finL, if_neg (by simp), HKV.out, if_pos hk]
    clear hk
    go_wp2_with (first | (first | ((with_reducible refine at_load' ?_); (refine BigFrame.wpList_want (by rfl) fun K hK => ws_load hM rfl rfl (by (repeat (first | assumption | (with_reducible exact List.mem_cons_self) | apply List.mem_cons_of_mem)); first | done | fail) (n := 40) (by exact ltC_size (by first | exact z32_len | exact idOf_len _)) (by decide +kernel) (hK _ _ ?_); clear hK K)) | fail) | (go_at_call 15; have hM0 := hM; clear hM; (first | (with_reducible refine (HK.out _ _ hM0 (by (repeat (first | assumption | (with_reducible exact List.mem_cons_self) | apply List.mem_cons_of_mem)); first | done | fail) (by (repeat (first | assumption | (with_reducible exact List.mem_cons_self) | apply List.mem_cons_of_mem)); first | done | fail)).mono ?_) | fail); clear hM0; rintro _ w ⟨rfl, hM⟩) | ((with_reducible refine at_build' ?_); refine BigFrame.wpList_want (by rfl) fun K hK => ws_build rfl (.agg (ltC 0 0 0 0 z32 0 [] none 0 0 none 0 0)) (by simp only [List.map_toArray, List.map_cons, List.map_nil]; exact build_lt0 _) (hK _ _ ?_); clear hK K) | (first | ((with_reducible refine at_store' ?_); (have hM0 := hM; clear hM; refine BigFrame.wpList_want (by rfl) fun K hK => ws_store hM0 rfl rfl rfl (by (repeat (first | (with_reducible exact Take.head) | apply Take.tail)); first | done | fail) (n := 40) (by exact ltC_size (by first | exact z32_len | exact idOf_len _)) (by exact ltC_size (by first | exact z32_len | exact idOf_len _)) (by kernel_rfl) (by exact ltC_one) (fun w hM => hK _ _ ?_); clear hM0 hK K)) | fail))
    refine bodyPost_ret (results_row_tmp (P := Try.prog) (ty := 26) rfl _ _ g2 26 _ 40 _ rfl rfl (hM.blk (by (repeat (first | assumption | (with_reducible exact List.mem_cons_self) | apply List.mem_cons_of_mem)); first | done | fail)) (ltC_size z32_len) (by decide +kernel)) rfl ?_; exact PP_none HV.out (hM.sel (R := F) (by repeat (first | (with_reducible exact Sel.refl) | (with_reducible exact Take.head) | (with_reducible apply Take.tail) | (with_reducible apply Sel.cons) | (with_reducible apply Sel.drop))))
  obtain rfl : kv = 0 := by simpa using hk
  clear hk
  replace HV : Hid (parseL (99 :: 118 :: t) = (⟨k, f, t', q, id, 0, [], [], []⟩, 0)) := by show _ = _; rw [HV.out, finL, if_neg (by simp), HKV.out, if_neg (by simp)]
  go_wp2_with (first | (first | ((with_reducible refine at_load' ?_); (refine BigFrame.wpList_want (by rfl) fun K hK => ws_load hM rfl rfl (by (repeat (first | assumption | (with_reducible exact List.mem_cons_self) | apply List.mem_cons_of_mem)); first | done | fail) (n := 40) (by exact ltC_size (by first | exact z32_len | exact idOf_len _)) (by decide +kernel) (hK _ _ ?_); clear hK K)) | fail) | (go_at_call 15; have hM0 := hM; clear hM; (first | (with_reducible refine (HK.out _ _ hM0 (by (repeat (first | assumption | (with_reducible exact List.mem_cons_self) | apply List.mem_cons_of_mem)); first | done | fail) (by (repeat (first | assumption | (with_reducible exact List.mem_cons_self) | apply List.mem_cons_of_mem)); first | done | fail)).mono ?_) | fail); clear hM0; rintro _ w ⟨rfl, hM⟩) | (first | ((with_reducible refine at_store' ?_); (have hM0 := hM; clear hM; refine BigFrame.wpList_want (by rfl) fun K hK => ws_store hM0 rfl rfl rfl (by (repeat (first | (with_reducible exact Take.head) | apply Take.tail)); first | done | fail) (n := 40) (by exact ltC_size (by first | exact z32_len | exact idOf_len _)) (by exact ltC_size (by first | exact z32_len | exact idOf_len _)) (by kernel_rfl) (by exact ltC_one) (fun w hM => hK _ _ ?_); clear hM0 hK K)) | fail))
  refine bodyPost_ret (results_row_tmp (P := Try.prog) (ty := 26) rfl _ _ g2 26 (ltC k f t' q (idOf id) 0 [] none 0 0 none 0 0) 40 _ rfl rfl (hM.blk (by (repeat (first | assumption | (with_reducible exact List.mem_cons_self) | apply List.mem_cons_of_mem)); first | done | fail)) (ltC_size (by first | exact z32_len | exact idOf_len _)) (by decide +kernel)) rfl ?_
  unfold PP
  rw [HV.out]
  have hfin := hM.sel (R := rowE 1 none 0 [] :: rowE 1 none 0 [] :: F) (by repeat (first | (with_reducible exact Sel.refl) | (with_reducible exact Take.head) | (with_reducible apply Take.tail) | (with_reducible apply Sel.cons) | (with_reducible apply Sel.drop)))
  exact ⟨none, 0, none, 0, rfl, hfin⟩
theorem parse_star {F : List SProp} (s : List UInt8) (hs : s.length ≤ 1000000000) (w : World) (hM : Star F w) : Calls Try.prog 19 #[.string ⟨s.toArray⟩] w (PP F s) := by
  by_cases h1 : 1024 < s.length
  · exact parse_big s hs h1 w hM
  by_cases h2 : s.take 2 ≠ [99, 118]
  · exact parse_form s (by omega) h2 w hM
  obtain ⟨t, rfl⟩ : ∃ t, s = 99 :: 118 :: t := by
    have h3 : s.take 2 = [99, 118] := by simpa using h2
    exact ⟨s.drop 2, by have := List.take_append_drop 2 s; rw [h3] at this; exact this.symm⟩
  have h0 : (99 :: 118 :: t).length ≤ 1024 := by omega
  obtain ⟨k, u1, e1, h3⟩ : ∃ n u f, mInt t 0 10 = (n, u, f) := ⟨_, _, _, rfl⟩
  rcases kind_class k with ⟨a, b, c', e⟩ | ⟨a, b, c', e⟩ | ⟨a, b, c', e⟩ | ⟨a, b, c', e⟩ | ⟨a, b, c', e⟩
  · exact parse_P t h0 k u1 e1 h3 a b c' e w hM
  · exact parse_N t h0 k u1 e1 h3 a b c' e w hM
  · exact parse_W t h0 k u1 e1 h3 a b c' e w hM
  · exact parse_B t h0 k u1 e1 h3 a b c' e w hM
  · exact parse_F t h0 k u1 e1 h3 a b c' e w hM
end Go.Proofs.Ytlhedbjjlomniaa
