/- The statement MeshOrder, from its walk. No condition but those that each theorem names. -/
import Derived.Test.YtbejifbiffeamaaQ1
import Derived.Test.YtbejifbiffeamaaQ2
set_option linter.unusedSimpArgs false
set_option linter.unusedVariables false
namespace Go.Proofs.Ytbejifbiffeamaa
open Go.RowKit
attribute [local go_sem] extract_mid extract_drop bget bsize wrap64_u8 i64_u8 u64_u8 bappend
attribute [local go_sem] and1
theorem cut20m (l : List UInt8) (w : World) : Calls Try.prog 16 #[.string ⟨l.toArray⟩, .int .i64 20] w fun r w' => r = .returned (.string ⟨(cutP l 20).toArray⟩) ∧ w = w' := cut_any l 20 (by omega) w
theorem cut20m_le (l : List UInt8) : (cutP l 20).length ≤ 20 := by have := cutP_len l 20 (by decide); omega
abbrev oth : List UInt8 := [111, 116, 104, 101, 114]
/-- While they are sent: the second's row is this one. -/
structure OB (m : Nat) (S : List (List UInt8)) (M : Msh) : Prop where
  ok : M.ok
  n : M.n = 6
  two : (M.bx 0).row 2 = S
  ks : ∀ k ∈ (M.bx 0).ks, k = 2 ∨ k = 3 ∨ k = 4
  l0 : 0 ≤ M.lost
  l1 : M.lost ≤ m
theorem OB.zero : OB 0 [] (newM 6) := ⟨newM_ok (by decide) (by decide), rfl, rfl, fun k hk => by simp [newM] at hk, by decide, by decide⟩
theorem OB.ks_send {m : Nat} {S : List (List UInt8)} {M : Msh} (h : OB m S M) (q : Int) (hq : q = 2 ∨ q = 3 ∨ q = 4) (x : List UInt8) : ∀ k ∈ ((sendG M 0 q x).bx 0).ks, k = 2 ∨ k = 3 ∨ k = 4 := by
  have hn := h.n
  unfold sendG
  split
  · intro k hk
    rw [put_bx, if_pos rfl] at hk
    have h2 := (set_mem (h.ok.bx 0 (by omega)) q _ k).1 hk
    rw [row_set] at h2
    by_cases e : k = q
    · rw [e]; exact hq
    · rw [if_neg e] at h2
      exact h.ks k (((h.ok.bx 0 (by omega)).mem k).2 h2)
  · exact h.ks
theorem sendG_lost (M : Msh) (t : Nat) (k : Int) (x : List UInt8) (h : 0 ≤ M.lost) : 0 ≤ (sendG M t k x).lost ∧ (sendG M t k x).lost ≤ M.lost + 1 := by
  unfold sendG
  split
  · show 0 ≤ M.lost ∧ M.lost ≤ _; omega
  · show 0 ≤ M.lost + 1 ∧ M.lost + 1 ≤ _; omega
theorem OB.two_ {m : Nat} {S : List (List UInt8)} {M : Msh} (h : OB m S M) (hS : S.length < 8) (x : List UInt8) (hx : x.length ≤ 20) : OB (m + 1) (S ++ [x]) (sendG M 0 2 x) := by
  have hn := h.n
  have hl := sendG_lost M 0 2 x h.l0
  refine ⟨sendG_ok h.ok (by omega) (by decide) (by omega) _, by rw [sendG_n, hn], ?_, h.ks_send 2 (.inl rfl) x, hl.1, by have := h.l1; omega⟩
  unfold sendG
  rw [if_pos ⟨by omega, by rw [h.two]; exact hS⟩, put_bx, if_pos rfl, row_set, if_pos rfl, h.two]
theorem OB.oth_ {m : Nat} {S : List (List UInt8)} {M : Msh} (h : OB m S M) (q : Int) (hq : q = 3 ∨ q = 4) (x : List UInt8) : OB (m + 1) S (sendG M 0 q x) := by
  have hn := h.n
  have hl := sendG_lost M 0 q x h.l0
  refine ⟨sendG_ok h.ok (by omega) (by omega) (by omega) _, by rw [sendG_n, hn], ?_, h.ks_send q (by omega) x, hl.1, by have := h.l1; omega⟩
  unfold sendG
  split
  · rw [put_bx, if_pos rfl, row_set, if_neg (by omega), h.two]
  · exact h.two
/-- While they are taken. -/
structure TB (i k : Nat) (S : List (List UInt8)) (M : Msh) : Prop where
  ok : M.ok
  n : M.n = 6
  two : (M.bx 0).row 2 = S.drop k
  k : k ≤ S.length
  ks : ∀ k ∈ (M.bx 0).ks, k = 2 ∨ k = 3 ∨ k = 4
  tot : ((M.bx 0).row 2).length + ((M.bx 0).row 3).length + ((M.bx 0).row 4).length + i ≤ 24
theorem OB.tb {m : Nat} {S : List (List UInt8)} {M : Msh} (h : OB m S M) : TB 0 0 S M := by
  have hf := (h.ok.bx 0 (by have := h.n; omega)).few
  have := hf 2
  have := hf 3
  have := hf 4
  exact ⟨h.ok, h.n, by rw [h.two]; rfl, by omega, h.ks, by omega⟩
theorem TB.none_ {i k : Nat} {S : List (List UInt8)} {M : Msh} (h : TB i k S M) (hn : (M.bx 0).nxt = none) : k = S.length := by
  have h1 := nxt_none hn
  have h2 : (M.bx 0).row 2 = [] := by
    by_cases e : (M.bx 0).row 2 = []
    · exact e
    · have := ((h.ok.bx 0 (by have := h.n; omega)).mem 2).2 e
      rw [h1] at this
      cases this
  rw [h.two] at h2
  have := h.k
  have := List.drop_eq_nil_iff.1 h2
  omega
theorem TB.some_ {i k : Nat} {S : List (List UInt8)} {M : Msh} (h : TB i k S M) {q : Int} (hn : (M.bx 0).nxt = some q) : ∃ x r, (M.bx 0).row q = x :: r ∧ i < 24 ∧ ((q = 2 ∧ S[k]? = some x ∧ TB (i + 1) (k + 1) S (takeM M 0 q r)) ∨ (q ≠ 2 ∧ TB (i + 1) k S (takeM M 0 q r))) := by
  have hN := h.n
  have hok := h.ok.bx 0 (by omega)
  have hin := nxt_mem hn
  have hne := (hok.mem q).1 hin
  obtain ⟨x, r, hr⟩ := List.exists_cons_of_ne_nil hne
  have hq := h.ks q hin
  have htot := h.tot
  have hok2 : (takeM M 0 q r).ok := takeG_ok h.ok (by omega) hin hr
  have hks : ∀ j ∈ ((takeM M 0 q r).bx 0).ks, j = 2 ∨ j = 3 ∨ j = 4 := by
    intro j hj
    have hj2 : j ∈ ((M.bx 0).set q r).ks := by
      unfold takeM at hj
      rw [put_bx, if_pos rfl] at hj
      exact hj
    rw [set_mem hok, row_set] at hj2
    by_cases e : j = q
    · rw [e]; exact hq
    · rw [if_neg e] at hj2
      exact h.ks j ((hok.mem j).2 hj2)
  have hrow : ∀ j, ((takeM M 0 q r).bx 0).row j = if j = q then r else (M.bx 0).row j := fun j => by
    unfold takeM
    rw [put_bx, if_pos rfl]
    rfl
  have hlen : ((M.bx 0).row q).length = r.length + 1 := by rw [hr]; rfl
  have htot2 : (((takeM M 0 q r).bx 0).row 2).length + (((takeM M 0 q r).bx 0).row 3).length + (((takeM M 0 q r).bx 0).row 4).length + (i + 1) ≤ 24 ∧ i < 24 := by
    rw [hrow, hrow, hrow]
    rcases hq with rfl | rfl | rfl
    · rw [if_pos rfl, if_neg (by decide), if_neg (by decide)]; omega
    · rw [if_pos rfl, if_neg (by decide), if_neg (by decide)]; omega
    · rw [if_pos rfl, if_neg (by decide), if_neg (by decide)]; omega
  refine ⟨x, r, hr, htot2.2, ?_⟩
  by_cases e : q = 2
  · subst e
    have h2 := h.two
    rw [hr] at h2
    have hkl : k < S.length := by
      have : (S.drop k).length = r.length + 1 := by rw [← h2]; rfl
      rw [List.length_drop] at this
      omega
    have h3 := List.drop_eq_getElem_cons hkl
    rw [h3] at h2
    injection h2 with h4 h5
    exact .inl ⟨rfl, by rw [List.getElem?_eq_getElem hkl, h4], hok2, hN, by rw [hrow, if_pos rfl, h5], by omega, hks, htot2.1⟩
  · exact .inr ⟨e, hok2, hN, by rw [hrow, if_neg (fun e2 => e e2.symm), h.two], h.k, hks, htot2.1⟩
set_option maxRecDepth 100000 in
set_option maxHeartbeats 16000000 in
theorem meshOrder_walk {F : List SProp} (A0 : Option Addr) (n0 c0 : Nat) (l0 : List (List UInt8)) (y0 : n0 ≤ 9223372036854775807) (_z0 : ∀ x ∈ l0, x.length ≤ 9223372036854775807) (A1 : Option Addr) (n1 c1 : Nat) (ch : List Int) (y1 : n1 ≤ 9223372036854775807) (z1 : ∀ x ∈ ch, -9223372036854775808 ≤ x ∧ x ≤ 9223372036854775807) (w : World) (hM : Star F w) (hF0 : rowE 1 A0 n0 (svs l0) ∈ F) (hF1 : rowE 1 A1 n1 (ivs ch) ∈ F) :
    Calls Try.prog 3 #[.slice A0 n0 c0, .slice A1 n1 c1] w fun r w' => r = .returned (.bool true) ∧ Star F w' := by
  have HC := Lib.hid cut20m
  go_enter Try.func3, Try.ntmps3
  go_wp2_with (first | (go_at_call 14; have hM0 := hM; clear hM; (first | (with_reducible refine (awake18 _ hM0).mono ?_) | fail); clear hM0; rintro _ w ⟨rfl, hM⟩) | (go_at_call 15; have hM0 := hM; clear hM; (first | (with_reducible refine (newL 6 (x := 6) rfl (by decide) (by decide) (M := newM 6) rfl _ hM0).mono ?_) | fail); clear hM0; rintro _ w ⟨a, f, l, HT, rfl, hM⟩) | (first | ((with_reducible refine at_slice' ?_); (have hM0 := hM; clear hM; refine BigFrame.wpList_want (by rfl) fun K hK => ws_slice_own hM0 (n := 0) rfl 9 1 (.string ByteArray.empty) [] Try.underlying22 (by kernel_rfl) rfl (by simp [Value.cells, iv, sv, bv]) (by rfl) (by decide) (by decide) (cs := svs []) (by rfl) (fun g5 w hM => hK _ _ ?_); clear hM0 hK K)) | fail))
  go_loopw [6, 7] (fun o i wr => ∃ (j m : Nat) (B : Option Addr) (cb : Nat) (S : List (List UInt8)) (M : Msh) (f : Sls) (l : List (Option Addr × List (List UInt8))), i = .int .i64 j ∧ o = .slice B j cb ∧ j ≤ n0 ∧ j ≤ 8 ∧ Hid (S.length = j) ∧ Hid (OB m S M) ∧ m ≤ 2 * j ∧ Hid (Tied M f l) ∧ Star (ownE 9 1 B j cb (svs S) :: meshE a M f :: rowsE l :: F) wr) (fun _ i _ => n0 - (intOf i).toNat)
  case atStart => exact ⟨0, 0, _, _, [], _, f, l, rfl, rfl, by omega, by omega, rfl, OB.zero, by omega, HT, hM.sel (by repeat (first | (with_reducible exact Sel.refl) | (with_reducible exact Take.head) | (with_reducible apply Take.tail) | (with_reducible apply Sel.cons) | (with_reducible apply Sel.drop)))⟩
  case round =>
    clear hM
    obtain ⟨j, m, B, cb, S, M, f, l, rfl, rfl, hjn, hj8, HSL, HB, hm, HT, hM⟩ := hrel
    by_cases hj : j < n0 ∧ j < 8
    · obtain ⟨hj1, hj2⟩ := hj
      obtain ⟨ad, d, rfl, hv, hg, _⟩ := hM.elemS (A := A0) (n := n0) (l := l0) (by (repeat (first | assumption | (with_reducible exact mZ) | apply mS)); first | done | fail) hj1
      clear hg
      have hx := cut20m_le d
      have HCD := Lib.hid (HC.out d)
      generalize cutP d 20 = x at hx HCD
      have HS : Hid (∀ (g : Nat) (w : World) (L R1 R2 F : List SProp), Star L w → Take (rowE 1 (some ⟨g, 0, none⟩) 1 (ivs [0])) L R1 → Take (meshE a M f) R1 R2 → Take (rowsE l) R2 F → Calls Try.prog 17 #[mptr a, .int .i64 2, .string ⟨x.toArray⟩, .slice (some ⟨g, 0, none⟩) 1 1] w fun r w' => ∃ f' l', Hid (Tied (sendG M 0 2 x) f' l') ∧ r = .returned (.int .i64 (sendE M 0 2 x)) ∧ Star (meshE a (sendG M 0 2 x) f' :: rowsE l' :: F) w') := fun g w L R1 R2 F hM h1 h2 h3 => sendL HB.out.ok 0 2 rfl rfl (by have := HB.out.n; omega) (by have := HB.out.n; omega) x HB.out.l0 (by have := HB.out.l1; omega) rfl rfl HT w hM h1 h2 h3
      have HB2 : Hid (OB (m + 1) (S ++ [x]) (sendG M 0 2 x)) := HB.out.two_ (by rw [HSL.out]; exact hj2) x hx
      obtain ⟨M2, hM2⟩ : ∃ M2, sendG M 0 2 x = M2 := ⟨_, rfl⟩
      rw [hM2] at HS HB2
      clear hM2
      by_cases hjo : j < n1
      · obtain ⟨ad2, v, rfl, hv2, _⟩ := hM.elemI (A := A1) (n := n1) (l := ch) (by (repeat (first | assumption | (with_reducible exact mZ) | apply mS)); first | done | fail) hjo
        have HQ := Lib.hid (by omega : 3 + v % 2 = 3 ∨ 3 + v % 2 = 4)
        have HSO : Hid (∀ (f : Sls) (l : List (Option Addr × List (List UInt8))), Hid (Tied M2 f l) → ∀ (g : Nat) (w : World) (L R1 R2 F : List SProp), Star L w → Take (rowE 1 (some ⟨g, 0, none⟩) 1 (ivs [0])) L R1 → Take (meshE a M2 f) R1 R2 → Take (rowsE l) R2 F → Calls Try.prog 17 #[mptr a, .int .i64 (3 + v % 2), .string ⟨oth.toArray⟩, .slice (some ⟨g, 0, none⟩) 1 1] w fun r w' => ∃ f' l', Hid (Tied (sendG M2 0 (3 + v % 2) oth) f' l') ∧ r = .returned (.int .i64 (sendE M2 0 (3 + v % 2) oth)) ∧ Star (meshE a (sendG M2 0 (3 + v % 2) oth) f' :: rowsE l' :: F) w') := fun f l HT g w L R1 R2 F hM h1 h2 h3 => sendL HB2.out.ok 0 (3 + v % 2).toNat rfl (by have := HQ.out; omega) (by have := HB2.out.n; omega) (by have := HB2.out.n; have := HQ.out; omega) oth HB2.out.l0 (by have := HB2.out.l1; omega) rfl rfl HT w hM h1 h2 h3
        have tok1 : Hid True := trivial
        go_wp2_with (first | (first | ((with_reducible refine at_load' ?_); (refine BigFrame.wpList_want (by rfl) fun K hK => ws_rowload rfl rfl (by first | (apply Star.row hM; (repeat (first | assumption | (with_reducible exact mZ) | apply mS)); done) | (apply Star.own hM; (repeat (first | assumption | (with_reducible exact mZ) | apply mS)); done) | (apply Star.arr hM; (focus ((repeat (first | assumption | (with_reducible exact mZ) | apply mS)); done)); assumption)) (by assumption) (by kernel_rfl) (hK _ _ ?_); clear hK K)) | fail) | (go_at_call 16; have hM0 := hM; clear hM; (first | (with_reducible refine (starq (HCD.out _) hM0).mono ?_) | fail); clear hM0; rintro _ w ⟨rfl, hM⟩) | (first | ((with_reducible refine at_slice' ?_); (have hM0 := hM; clear hM; refine BigFrame.wpList_want (by rfl) fun K hK => ws_slice_row hM0 (n := 1) rfl 9 1 (.string ByteArray.empty) [sv x] Try.underlying22 (by kernel_rfl) rfl (by simp [Value.cells, iv, sv, bv]) (by rfl) (by decide) (cs := svs [x]) (by rfl) (fun g22 w hM => hK _ _ ?_); clear hM0 hK K)) | fail) | (first | ((with_reducible refine at_call' ?_); (have hM0 := hM; clear hM; refine BigFrame.wpList_want (by rfl) fun K hK => ws_append hM0 rfl rfl rfl 9 ((.string ByteArray.empty)) 1 16 Try.underlying22 (by kernel_rfl) (by rfl) (by decide) (by (repeat (first | (with_reducible exact Take.head) | apply Take.tail)); first | done | fail) (by first | (apply Star.row hM0; (repeat (first | assumption | (with_reducible exact mZ) | apply mS)); done) | (apply Star.own hM0; (repeat (first | assumption | (with_reducible exact mZ) | apply mS)); done) | (apply Star.arr hM0; (focus ((repeat (first | assumption | (with_reducible exact mZ) | apply mS)); done)); assumption)) (svs_cells1 _) ((by omega)) (fun A1 c1 w hM hnil => hK _ _ ?_); clear hM0 hK K)) | fail) | (have _t := tok1; (first | ((with_reducible refine at_slice' ?_); (have hM0 := hM; clear hM; refine BigFrame.wpList_want (by rfl) fun K hK => ws_slice_row hM0 (n := 1) rfl 3 1 (.int .i64 0) [.int .i64 0] Try.underlying23 (by kernel_rfl) rfl (by simp [Value.cells, iv, sv, bv]) (by rfl) (by decide) (cs := ivs [0]) (by rfl) (fun g1 w hM => hK _ _ ?_); clear hM0 hK K)) | fail); clear tok1) | (first | ((with_reducible refine at_slice' ?_); (have hM0 := hM; clear hM; refine BigFrame.wpList_want (by rfl) fun K hK => ws_slice_row hM0 (n := 1) rfl 3 1 (.int .i64 0) [.int .i64 0] Try.underlying23 (by kernel_rfl) rfl (by simp [Value.cells, iv, sv, bv]) (by rfl) (by decide) (cs := ivs [0]) (by rfl) (fun g2 w hM => hK _ _ ?_); clear hM0 hK K)) | fail) | (go_at_call 17; have hM0 := hM; clear hM; (first | (with_reducible refine (HS.out _ _ _ _ _ _ hM0 (by (repeat (first | (with_reducible exact Take.head) | apply Take.tail)); first | done | fail) (by (repeat (first | (with_reducible exact Take.head) | apply Take.tail)); first | done | fail) (by (repeat (first | (with_reducible exact Take.head) | apply Take.tail)); first | done | fail)).mono ?_) | fail); clear hM0; rintro _ w ⟨f, l, HT, rfl, hM⟩) | (go_at_call 17; have hM0 := hM; clear hM; (first | (with_reducible refine (HSO.out f l HT _ _ _ _ _ _ hM0 (by (repeat (first | (with_reducible exact Take.head) | apply Take.tail)); first | done | fail) (by (repeat (first | (with_reducible exact Take.head) | apply Take.tail)); first | done | fail) (by (repeat (first | (with_reducible exact Take.head) | apply Take.tail)); first | done | fail)).mono ?_) | fail); clear hM0; rintro _ w ⟨f, l, HT, rfl, hM⟩))
        go_roundw
        case rel =>
          refine ⟨j + 1, m + 2, A1, c1, S ++ [x], _, f, l, rfl, rfl, by omega, by omega, ?_, HB2.out.oth_ _ HQ.out oth, by omega, HT, ?_⟩
          · show _ = _; rw [List.length_append, HSL.out]; rfl
          · rw [svs_app]; exact hM.sel (by repeat (first | (with_reducible exact Sel.refl) | (with_reducible exact Take.head) | (with_reducible apply Take.tail) | (with_reducible apply Sel.cons) | (with_reducible apply Sel.drop)))
        case measure => simp [intOf]; omega
      · have hjo2 : decide ((j : Int) < (n1 : Int)) = false := by simp; omega
        have hjo3 : decide (j < n1) = false := by simp; omega
        go_wp2_with (first | (first | ((with_reducible refine at_load' ?_); (refine BigFrame.wpList_want (by rfl) fun K hK => ws_rowload rfl rfl (by first | (apply Star.row hM; (repeat (first | assumption | (with_reducible exact mZ) | apply mS)); done) | (apply Star.own hM; (repeat (first | assumption | (with_reducible exact mZ) | apply mS)); done) | (apply Star.arr hM; (focus ((repeat (first | assumption | (with_reducible exact mZ) | apply mS)); done)); assumption)) (by assumption) (by kernel_rfl) (hK _ _ ?_); clear hK K)) | fail) | (go_at_call 16; have hM0 := hM; clear hM; (first | (with_reducible refine (starq (HCD.out _) hM0).mono ?_) | fail); clear hM0; rintro _ w ⟨rfl, hM⟩) | (first | ((with_reducible refine at_slice' ?_); (have hM0 := hM; clear hM; refine BigFrame.wpList_want (by rfl) fun K hK => ws_slice_row hM0 (n := 1) rfl 9 1 (.string ByteArray.empty) [sv x] Try.underlying22 (by kernel_rfl) rfl (by simp [Value.cells, iv, sv, bv]) (by rfl) (by decide) (cs := svs [x]) (by rfl) (fun g22 w hM => hK _ _ ?_); clear hM0 hK K)) | fail) | (first | ((with_reducible refine at_call' ?_); (have hM0 := hM; clear hM; refine BigFrame.wpList_want (by rfl) fun K hK => ws_append hM0 rfl rfl rfl 9 ((.string ByteArray.empty)) 1 16 Try.underlying22 (by kernel_rfl) (by rfl) (by decide) (by (repeat (first | (with_reducible exact Take.head) | apply Take.tail)); first | done | fail) (by first | (apply Star.row hM0; (repeat (first | assumption | (with_reducible exact mZ) | apply mS)); done) | (apply Star.own hM0; (repeat (first | assumption | (with_reducible exact mZ) | apply mS)); done) | (apply Star.arr hM0; (focus ((repeat (first | assumption | (with_reducible exact mZ) | apply mS)); done)); assumption)) (svs_cells1 _) ((by omega)) (fun A1 c1 w hM hnil => hK _ _ ?_); clear hM0 hK K)) | fail) | (first | ((with_reducible refine at_slice' ?_); (have hM0 := hM; clear hM; refine BigFrame.wpList_want (by rfl) fun K hK => ws_slice_row hM0 (n := 1) rfl 3 1 (.int .i64 0) [.int .i64 0] Try.underlying23 (by kernel_rfl) rfl (by simp [Value.cells, iv, sv, bv]) (by rfl) (by decide) (cs := ivs [0]) (by rfl) (fun g2 w hM => hK _ _ ?_); clear hM0 hK K)) | fail) | (go_at_call 17; have hM0 := hM; clear hM; (first | (with_reducible refine (HS.out _ _ _ _ _ _ hM0 (by (repeat (first | (with_reducible exact Take.head) | apply Take.tail)); first | done | fail) (by (repeat (first | (with_reducible exact Take.head) | apply Take.tail)); first | done | fail) (by (repeat (first | (with_reducible exact Take.head) | apply Take.tail)); first | done | fail)).mono ?_) | fail); clear hM0; rintro _ w ⟨f, l, HT, rfl, hM⟩))
        go_roundw
        case rel =>
          refine ⟨j + 1, m + 1, A1, c1, S ++ [x], _, f, l, rfl, rfl, by omega, by omega, ?_, HB2, by omega, HT, ?_⟩
          · show _ = _; rw [List.length_append, HSL.out]; rfl
          · rw [svs_app]; exact hM.sel (by repeat (first | (with_reducible exact Sel.refl) | (with_reducible exact Take.head) | (with_reducible apply Take.tail) | (with_reducible apply Sel.cons) | (with_reducible apply Sel.drop)))
        case measure => simp [intOf]; omega
    · have hE : j = n0 ∨ (j < n0 ∧ j = 8) := by omega
      have HTB := Lib.hid HB.out.tb
      have hM2 : Star (rowE 1 B j (svs S) :: meshE a M f :: rowsE l :: F) wr := hM.freeze
      clear hM hj HB
      have hM := hM2
      clear hM2
      rcases hE with hE | ⟨hE1, hE2⟩
      · have d1 : decide ((j : Int) < (n0 : Int)) = false := by simp; omega
        have d2 : decide (j < n0) = false := by simp; omega
        clear hE
        go_wp2_with fail
        go_loopw [9, 52] (fun kv i wr => ∃ (k ii : Nat) (M : Msh) (f : Sls) (l : List (Option Addr × List (List UInt8))), kv = .int .i64 k ∧ i = .int .i64 ii ∧ k ≤ j ∧ ii ≤ 24 ∧ Hid (TB ii k S M) ∧ Hid (Tied M f l) ∧ Star (rowE 1 B j (svs S) :: meshE a M f :: rowsE l :: F) wr) (fun _ i _ => 40 - (intOf i).toNat)
        case atStart => exact ⟨0, 0, M, f, l, rfl, rfl, by omega, by omega, HTB, HT, hM⟩
        case round =>
          clear hM HTB HT
          obtain ⟨k, ii, M, f, l, rfl, rfl, hkj, hi, HTB, HT, hM⟩ := hrel
          have hiI : (ii : Int) < 40 := by omega
          cases hnx : (M.bx 0).nxt with
          | none =>
            obtain rfl : k = j := by rw [← HSL.out]; exact HTB.out.none_ hnx
            have HK : Hid (∀ (w : World) (L R1 F : List SProp), Star L w → Take (meshE a M f) L R1 → Take (rowsE l) R1 F → Calls Try.prog 18 #[mptr a, .int .i64 0] w fun e w' => e = .returned (.tuple #[pktV 0 [], .bool false]) ∧ Star (meshE a M f :: rowsE l :: F) w') := fun w L R1 F hM h1 h2 => takeN HTB.out.ok 0 rfl (by have := HTB.out.n; omega) hnx w hM h1 h2
            clear hnx
            go_wp2_with (first | (go_at_call 18; have hM0 := hM; clear hM; (first | (with_reducible refine (HK.out _ _ _ _ hM0 (by (repeat (first | (with_reducible exact Take.head) | apply Take.tail)); first | done | fail) (by (repeat (first | (with_reducible exact Take.head) | apply Take.tail)); first | done | fail)).mono ?_) | fail); clear hM0; rintro _ w ⟨rfl, hM⟩) | (first | ((with_reducible refine at_alloc' ?_); (have hM0 := hM; clear hM; refine BigFrame.wpList_want (by rfl) fun K hK => ws_alloc hM0 (t := 31) rfl #[.int .i64 0, .string ByteArray.empty] info_pkt (fun g10 w hM => hK _ _ ?_); clear hM0 hK K)) | fail) | (first | ((with_reducible refine at_store' ?_); (have hM0 := hM; clear hM; refine BigFrame.wpList_want (by rfl) fun K hK => ws_store hM0 rfl rfl rfl (by (repeat (first | (with_reducible exact Take.head) | apply Take.tail)); first | done | fail) (n := 2) (by rfl) (by rfl) (by kernel_rfl) (by simp [Value.oneCell']) (fun w hM => hK _ _ ?_); clear hM0 hK K)) | fail) | (first | ((with_reducible refine at_load' ?_); (refine BigFrame.wpList_want (by rfl) fun K hK => ws_load1 hM rfl rfl (by (repeat (first | assumption | (with_reducible exact mZ) | apply mS)); first | done | fail) (by first | rfl | assumption) (by decide +kernel) (hK _ _ ?_); clear hK K)) | fail))
            go_ret
            exact ⟨rfl, hM.sel (by repeat (first | (with_reducible exact Sel.refl) | (with_reducible exact Take.head) | (with_reducible apply Take.tail) | (with_reducible apply Sel.cons) | (with_reducible apply Sel.drop)))⟩
          | some q =>
            obtain ⟨x, r, hr, hi24, hc⟩ := HTB.out.some_ hnx
            have HK : Hid (∀ (w : World) (L R1 F : List SProp), Star L w → Take (meshE a M f) L R1 → Take (rowsE l) R1 F → Calls Try.prog 18 #[mptr a, .int .i64 0] w fun e w' => ∃ f' l', Hid (Tied (takeM M 0 q r) f' l') ∧ e = .returned (.tuple #[pktV q x, .bool true]) ∧ Star (meshE a (takeM M 0 q r) f' :: rowsE l' :: F) w') := fun w L R1 F hM h1 h2 => takeL HTB.out.ok 0 rfl (by have := HTB.out.n; omega) hnx hr rfl HT w hM h1 h2
            clear hnx hr
            rcases hc with ⟨rfl, hg, hT2⟩ | ⟨hq, hT2⟩
            · have HT2 := Lib.hid hT2
              clear hT2
              have hkj2 : k < j := by have := (List.getElem?_eq_some_iff.1 hg).1; rw [HSL.out] at this; exact this
              obtain ⟨ad, y, rfl, hv, hg2, _⟩ := hM.elemS (A := B) (n := j) (l := S) (by (repeat (first | assumption | (with_reducible exact mZ) | apply mS)); first | done | fail) hkj2
              obtain rfl : x = y := by rw [hg] at hg2; injection hg2
              have HV := Lib.hid hv
              clear hg hg2 hv
              have d8 : decide ((j : Int) ≤ (k : Int)) = false := by simp; omega
              have d9 : decide (j ≤ k) = false := by simp; omega
              go_wp2_with (first | (go_at_call 18; have hM0 := hM; clear hM; (first | (with_reducible refine (HK.out _ _ _ _ hM0 (by (repeat (first | (with_reducible exact Take.head) | apply Take.tail)); first | done | fail) (by (repeat (first | (with_reducible exact Take.head) | apply Take.tail)); first | done | fail)).mono ?_) | fail); clear hM0; rintro _ w ⟨f, l, HT, rfl, hM⟩) | (first | ((with_reducible refine at_alloc' ?_); (have hM0 := hM; clear hM; refine BigFrame.wpList_want (by rfl) fun K hK => ws_alloc hM0 (t := 31) rfl #[.int .i64 0, .string ByteArray.empty] info_pkt (fun g10 w hM => hK _ _ ?_); clear hM0 hK K)) | fail) | (first | ((with_reducible refine at_store' ?_); (have hM0 := hM; clear hM; refine BigFrame.wpList_want (by rfl) fun K hK => ws_store hM0 rfl rfl rfl (by (repeat (first | (with_reducible exact Take.head) | apply Take.tail)); first | done | fail) (n := 2) (by rfl) (by rfl) (by kernel_rfl) (by simp [Value.oneCell']) (fun w hM => hK _ _ ?_); clear hM0 hK K)) | fail) | (first | ((with_reducible refine at_load' ?_); (refine BigFrame.wpList_want (by rfl) fun K hK => ws_load1 hM rfl rfl (by (repeat (first | assumption | (with_reducible exact mZ) | apply mS)); first | done | fail) (by first | rfl | assumption) (by decide +kernel) (hK _ _ ?_); clear hK K)) | fail))
              (refine region_RS ([cellsE g10 31 #[.int .i64 2, .string ⟨x.toArray⟩], rowE 1 (some ad) j (svs S)]) [] (by kernel_rfl) hM ?_; clear hM; change RS _ _ _ _ _ _ 13 (Array.replicate 13 false) _ _; refine RS_take (i := 0) rfl (by decide +kernel) (fun _ _ _ h => h) (by first | (intro x hx; (repeat (first | exact hx | apply mS)); done) | ((repeat (refine List.forall_mem_cons.2 ⟨(by (repeat (first | assumption | (with_reducible exact mZ) | apply mS)); first | done | fail), ?_⟩)); intro x hx; first | (cases hx; done) | ((repeat (first | exact hx | apply mS)); done))) (stab_pure (by rfl) (fun w => (by go_simp; try with_reducible rfl))) ?_; simp only [Act.put, List.setIfInBounds_toArray, List.set_cons_zero, List.set_cons_succ]; refine RS_take (i := 1) rfl (by decide +kernel) (fun _ _ _ h => h) (by first | (intro x hx; (repeat (first | exact hx | apply mS)); done) | ((repeat (refine List.forall_mem_cons.2 ⟨(by (repeat (first | assumption | (with_reducible exact mZ) | apply mS)); first | done | fail), ?_⟩)); intro x hx; first | (cases hx; done) | ((repeat (first | exact hx | apply mS)); done))) (stab_pure (by rfl) (fun w => (by go_simp; try with_reducible rfl))) ?_; simp only [Act.put, List.setIfInBounds_toArray, List.set_cons_zero, List.set_cons_succ]; refine RS_take (i := 2) rfl (by decide +kernel) (fun _ _ _ h => h) (by first | (intro x hx; (repeat (first | exact hx | apply mS)); done) | ((repeat (refine List.forall_mem_cons.2 ⟨(by (repeat (first | assumption | (with_reducible exact mZ) | apply mS)); first | done | fail), ?_⟩)); intro x hx; first | (cases hx; done) | ((repeat (first | exact hx | apply mS)); done))) (stab_pure (by rfl) (fun w => (by go_simp; try with_reducible rfl))) ?_; simp only [Act.put, List.setIfInBounds_toArray, List.set_cons_zero, List.set_cons_succ]; refine RS_take (i := 3) rfl (by decide +kernel) (fun _ _ _ h => h) (by first | (intro x hx; (repeat (first | exact hx | apply mS)); done) | ((repeat (refine List.forall_mem_cons.2 ⟨(by (repeat (first | assumption | (with_reducible exact mZ) | apply mS)); first | done | fail), ?_⟩)); intro x hx; first | (cases hx; done) | ((repeat (first | exact hx | apply mS)); done))) (stab_pure (by rfl) (fun w => (by go_simp; try with_reducible rfl))) ?_; simp only [Act.put, List.setIfInBounds_toArray, List.set_cons_zero, List.set_cons_succ]; refine RS_take (i := 4) rfl (by decide +kernel) (fun _ _ _ h => h) (by first | (intro x hx; (repeat (first | exact hx | apply mS)); done) | ((repeat (refine List.forall_mem_cons.2 ⟨(by (repeat (first | assumption | (with_reducible exact mZ) | apply mS)); first | done | fail), ?_⟩)); intro x hx; first | (cases hx; done) | ((repeat (first | exact hx | apply mS)); done))) (stab_pure (by rfl) (fun w => (by go_simp; try with_reducible rfl))) ?_; simp only [Act.put, List.setIfInBounds_toArray, List.set_cons_zero, List.set_cons_succ]; refine RS_take (i := 5) rfl (by decide +kernel) (fun _ _ _ h => h) (by first | (intro x hx; (repeat (first | exact hx | apply mS)); done) | ((repeat (refine List.forall_mem_cons.2 ⟨(by (repeat (first | assumption | (with_reducible exact mZ) | apply mS)); first | done | fail), ?_⟩)); intro x hx; first | (cases hx; done) | ((repeat (first | exact hx | apply mS)); done))) (stab_pure (by rfl) (fun w => (by go_simp; try with_reducible rfl))) ?_; simp only [Act.put, List.setIfInBounds_toArray, List.set_cons_zero, List.set_cons_succ]; refine RS_take (i := 6) rfl (by decide +kernel) (fun _ _ _ h => h) (by first | (intro x hx; (repeat (first | exact hx | apply mS)); done) | ((repeat (refine List.forall_mem_cons.2 ⟨(by (repeat (first | assumption | (with_reducible exact mZ) | apply mS)); first | done | fail), ?_⟩)); intro x hx; first | (cases hx; done) | ((repeat (first | exact hx | apply mS)); done))) (stab_read (by rfl) (fun L w hL hM => (ex_load1 (v := .string ⟨x.toArray⟩) hM rfl rfl (hL _ (by (repeat (first | assumption | (with_reducible exact mZ) | apply mS)); first | done | fail)) rfl (by decide +kernel)))) ?_; simp only [Act.put, List.setIfInBounds_toArray, List.set_cons_zero, List.set_cons_succ]; refine RS_take (i := 7) rfl (by decide +kernel) (fun _ _ _ h => h) (by first | (intro x hx; (repeat (first | exact hx | apply mS)); done) | ((repeat (refine List.forall_mem_cons.2 ⟨(by (repeat (first | assumption | (with_reducible exact mZ) | apply mS)); first | done | fail), ?_⟩)); intro x hx; first | (cases hx; done) | ((repeat (first | exact hx | apply mS)); done))) (stab_pure (by rfl) (fun w => (by go_simp; try with_reducible rfl))) ?_; simp only [Act.put, List.setIfInBounds_toArray, List.set_cons_zero, List.set_cons_succ]; refine RS_take (i := 8) rfl (by decide +kernel) (fun _ _ _ h => h) (by first | (intro x hx; (repeat (first | exact hx | apply mS)); done) | ((repeat (refine List.forall_mem_cons.2 ⟨(by (repeat (first | assumption | (with_reducible exact mZ) | apply mS)); first | done | fail), ?_⟩)); intro x hx; first | (cases hx; done) | ((repeat (first | exact hx | apply mS)); done))) (stab_pure (by rfl) (fun w => (by go_simp; try with_reducible rfl))) ?_; simp only [Act.put, List.setIfInBounds_toArray, List.set_cons_zero, List.set_cons_succ]; refine RS_take (i := 9) rfl (by decide +kernel) (fun _ _ _ h => h) (by first | (intro x hx; (repeat (first | exact hx | apply mS)); done) | ((repeat (refine List.forall_mem_cons.2 ⟨(by (repeat (first | assumption | (with_reducible exact mZ) | apply mS)); first | done | fail), ?_⟩)); intro x hx; first | (cases hx; done) | ((repeat (first | exact hx | apply mS)); done))) (stab_pure (by rfl) (fun w => (by go_simp; try with_reducible rfl))) ?_; simp only [Act.put, List.setIfInBounds_toArray, List.set_cons_zero, List.set_cons_succ]; refine RS_take (i := 10) rfl (by decide +kernel) (fun _ _ _ h => h) (by first | (intro x hx; (repeat (first | exact hx | apply mS)); done) | ((repeat (refine List.forall_mem_cons.2 ⟨(by (repeat (first | assumption | (with_reducible exact mZ) | apply mS)); first | done | fail), ?_⟩)); intro x hx; first | (cases hx; done) | ((repeat (first | exact hx | apply mS)); done))) (stab_read (by rfl) (fun L w hL hM => (ex_rowload (v := .string ⟨x.toArray⟩) rfl (ad := ad) (k := k) rfl (hM.row (hL _ (by (repeat (first | assumption | (with_reducible exact mZ) | apply mS)); first | done | fail))) HV.out (by decide +kernel)))) ?_; simp only [Act.put, List.setIfInBounds_toArray, List.set_cons_zero, List.set_cons_succ]; refine RS_take (i := 11) rfl (by decide +kernel) (fun _ _ _ h => h) (by first | (intro x hx; (repeat (first | exact hx | apply mS)); done) | ((repeat (refine List.forall_mem_cons.2 ⟨(by (repeat (first | assumption | (with_reducible exact mZ) | apply mS)); first | done | fail), ?_⟩)); intro x hx; first | (cases hx; done) | ((repeat (first | exact hx | apply mS)); done))) (stab_read (by rfl) (fun L w hL hM => (ex_nes rfl rfl rfl (b := false) (by simp)))) ?_; simp only [Act.put, List.setIfInBounds_toArray, List.set_cons_zero, List.set_cons_succ]; refine RS_take (i := 12) rfl (by decide +kernel) (fun _ _ _ h => h) (by first | (intro x hx; (repeat (first | exact hx | apply mS)); done) | ((repeat (refine List.forall_mem_cons.2 ⟨(by (repeat (first | assumption | (with_reducible exact mZ) | apply mS)); first | done | fail), ?_⟩)); intro x hx; first | (cases hx; done) | ((repeat (first | exact hx | apply mS)); done))) (stab_pure (by rfl) (fun w => (by go_simp; try with_reducible rfl))) ?_; simp only [Act.put, List.setIfInBounds_toArray, List.set_cons_zero, List.set_cons_succ]; refine RS_done (by decide +kernel) (.inl (by first | (intro x hx; (repeat (first | exact hx | apply mS)); done) | ((repeat (refine List.forall_mem_cons.2 ⟨(by (repeat (first | assumption | (with_reducible exact mZ) | apply mS)); first | done | fail), ?_⟩)); intro x hx; first | (cases hx; done) | ((repeat (first | exact hx | apply mS)); done)))) (fun w hM => ?_))
              all_goals (
                go_wp2_with fail
                go_roundw
                case rel => exact ⟨k + 1, ii + 1, _, f, l, by go_num, rfl, by omega, by omega, HT2, HT, hM.sel (by repeat (first | (with_reducible exact Sel.refl) | (with_reducible exact Take.head) | (with_reducible apply Take.tail) | (with_reducible apply Sel.cons) | (with_reducible apply Sel.drop)))⟩
                case measure => simp [intOf]; omega)
            · have HT2 := Lib.hid hT2
              clear hT2
              have hqb : decide (q = 2) = false := by simpa using hq
              go_wp2_with (first | (go_at_call 18; have hM0 := hM; clear hM; (first | (with_reducible refine (HK.out _ _ _ _ hM0 (by (repeat (first | (with_reducible exact Take.head) | apply Take.tail)); first | done | fail) (by (repeat (first | (with_reducible exact Take.head) | apply Take.tail)); first | done | fail)).mono ?_) | fail); clear hM0; rintro _ w ⟨f, l, HT, rfl, hM⟩) | (first | ((with_reducible refine at_alloc' ?_); (have hM0 := hM; clear hM; refine BigFrame.wpList_want (by rfl) fun K hK => ws_alloc hM0 (t := 31) rfl #[.int .i64 0, .string ByteArray.empty] info_pkt (fun g10 w hM => hK _ _ ?_); clear hM0 hK K)) | fail) | (first | ((with_reducible refine at_store' ?_); (have hM0 := hM; clear hM; refine BigFrame.wpList_want (by rfl) fun K hK => ws_store hM0 rfl rfl rfl (by (repeat (first | (with_reducible exact Take.head) | apply Take.tail)); first | done | fail) (n := 2) (by rfl) (by rfl) (by kernel_rfl) (by simp [Value.oneCell']) (fun w hM => hK _ _ ?_); clear hM0 hK K)) | fail) | (first | ((with_reducible refine at_load' ?_); (refine BigFrame.wpList_want (by rfl) fun K hK => ws_load1 hM rfl rfl (by (repeat (first | assumption | (with_reducible exact mZ) | apply mS)); first | done | fail) (by first | rfl | assumption) (by decide +kernel) (hK _ _ ?_); clear hK K)) | fail))
              go_roundw
              case rel => exact ⟨k, ii + 1, _, f, l, rfl, rfl, by omega, by omega, HT2, HT, hM.sel (by repeat (first | (with_reducible exact Sel.refl) | (with_reducible exact Take.head) | (with_reducible apply Take.tail) | (with_reducible apply Sel.cons) | (with_reducible apply Sel.drop)))⟩
              case measure => simp [intOf]; omega
      · have d1 : decide ((j : Int) < (n0 : Int)) = true := by simp; omega
        have d2 : decide (j < n0) = true := by simp; omega
        have d3 : decide ((j : Int) < 8) = false := by simp; omega
        have d4 : decide (j < 8) = false := by simp; omega
        clear hE1 hE2
        go_wp2_with fail
        go_loopw [9, 52] (fun kv i wr => ∃ (k ii : Nat) (M : Msh) (f : Sls) (l : List (Option Addr × List (List UInt8))), kv = .int .i64 k ∧ i = .int .i64 ii ∧ k ≤ j ∧ ii ≤ 24 ∧ Hid (TB ii k S M) ∧ Hid (Tied M f l) ∧ Star (rowE 1 B j (svs S) :: meshE a M f :: rowsE l :: F) wr) (fun _ i _ => 40 - (intOf i).toNat)
        case atStart => exact ⟨0, 0, M, f, l, rfl, rfl, by omega, by omega, HTB, HT, hM⟩
        case round =>
          clear hM HTB HT
          obtain ⟨k, ii, M, f, l, rfl, rfl, hkj, hi, HTB, HT, hM⟩ := hrel
          have hiI : (ii : Int) < 40 := by omega
          cases hnx : (M.bx 0).nxt with
          | none =>
            obtain rfl : k = j := by rw [← HSL.out]; exact HTB.out.none_ hnx
            have HK : Hid (∀ (w : World) (L R1 F : List SProp), Star L w → Take (meshE a M f) L R1 → Take (rowsE l) R1 F → Calls Try.prog 18 #[mptr a, .int .i64 0] w fun e w' => e = .returned (.tuple #[pktV 0 [], .bool false]) ∧ Star (meshE a M f :: rowsE l :: F) w') := fun w L R1 F hM h1 h2 => takeN HTB.out.ok 0 rfl (by have := HTB.out.n; omega) hnx w hM h1 h2
            clear hnx
            go_wp2_with (first | (go_at_call 18; have hM0 := hM; clear hM; (first | (with_reducible refine (HK.out _ _ _ _ hM0 (by (repeat (first | (with_reducible exact Take.head) | apply Take.tail)); first | done | fail) (by (repeat (first | (with_reducible exact Take.head) | apply Take.tail)); first | done | fail)).mono ?_) | fail); clear hM0; rintro _ w ⟨rfl, hM⟩) | (first | ((with_reducible refine at_alloc' ?_); (have hM0 := hM; clear hM; refine BigFrame.wpList_want (by rfl) fun K hK => ws_alloc hM0 (t := 31) rfl #[.int .i64 0, .string ByteArray.empty] info_pkt (fun g10 w hM => hK _ _ ?_); clear hM0 hK K)) | fail) | (first | ((with_reducible refine at_store' ?_); (have hM0 := hM; clear hM; refine BigFrame.wpList_want (by rfl) fun K hK => ws_store hM0 rfl rfl rfl (by (repeat (first | (with_reducible exact Take.head) | apply Take.tail)); first | done | fail) (n := 2) (by rfl) (by rfl) (by kernel_rfl) (by simp [Value.oneCell']) (fun w hM => hK _ _ ?_); clear hM0 hK K)) | fail) | (first | ((with_reducible refine at_load' ?_); (refine BigFrame.wpList_want (by rfl) fun K hK => ws_load1 hM rfl rfl (by (repeat (first | assumption | (with_reducible exact mZ) | apply mS)); first | done | fail) (by first | rfl | assumption) (by decide +kernel) (hK _ _ ?_); clear hK K)) | fail))
            go_ret
            exact ⟨rfl, hM.sel (by repeat (first | (with_reducible exact Sel.refl) | (with_reducible exact Take.head) | (with_reducible apply Take.tail) | (with_reducible apply Sel.cons) | (with_reducible apply Sel.drop)))⟩
          | some q =>
            obtain ⟨x, r, hr, hi24, hc⟩ := HTB.out.some_ hnx
            have HK : Hid (∀ (w : World) (L R1 F : List SProp), Star L w → Take (meshE a M f) L R1 → Take (rowsE l) R1 F → Calls Try.prog 18 #[mptr a, .int .i64 0] w fun e w' => ∃ f' l', Hid (Tied (takeM M 0 q r) f' l') ∧ e = .returned (.tuple #[pktV q x, .bool true]) ∧ Star (meshE a (takeM M 0 q r) f' :: rowsE l' :: F) w') := fun w L R1 F hM h1 h2 => takeL HTB.out.ok 0 rfl (by have := HTB.out.n; omega) hnx hr rfl HT w hM h1 h2
            clear hnx hr
            rcases hc with ⟨rfl, hg, hT2⟩ | ⟨hq, hT2⟩
            · have HT2 := Lib.hid hT2
              clear hT2
              have hkj2 : k < j := by have := (List.getElem?_eq_some_iff.1 hg).1; rw [HSL.out] at this; exact this
              obtain ⟨ad, y, rfl, hv, hg2, _⟩ := hM.elemS (A := B) (n := j) (l := S) (by (repeat (first | assumption | (with_reducible exact mZ) | apply mS)); first | done | fail) hkj2
              obtain rfl : x = y := by rw [hg] at hg2; injection hg2
              have HV := Lib.hid hv
              clear hg hg2 hv
              have d8 : decide ((j : Int) ≤ (k : Int)) = false := by simp; omega
              have d9 : decide (j ≤ k) = false := by simp; omega
              go_wp2_with (first | (go_at_call 18; have hM0 := hM; clear hM; (first | (with_reducible refine (HK.out _ _ _ _ hM0 (by (repeat (first | (with_reducible exact Take.head) | apply Take.tail)); first | done | fail) (by (repeat (first | (with_reducible exact Take.head) | apply Take.tail)); first | done | fail)).mono ?_) | fail); clear hM0; rintro _ w ⟨f, l, HT, rfl, hM⟩) | (first | ((with_reducible refine at_alloc' ?_); (have hM0 := hM; clear hM; refine BigFrame.wpList_want (by rfl) fun K hK => ws_alloc hM0 (t := 31) rfl #[.int .i64 0, .string ByteArray.empty] info_pkt (fun g10 w hM => hK _ _ ?_); clear hM0 hK K)) | fail) | (first | ((with_reducible refine at_store' ?_); (have hM0 := hM; clear hM; refine BigFrame.wpList_want (by rfl) fun K hK => ws_store hM0 rfl rfl rfl (by (repeat (first | (with_reducible exact Take.head) | apply Take.tail)); first | done | fail) (n := 2) (by rfl) (by rfl) (by kernel_rfl) (by simp [Value.oneCell']) (fun w hM => hK _ _ ?_); clear hM0 hK K)) | fail) | (first | ((with_reducible refine at_load' ?_); (refine BigFrame.wpList_want (by rfl) fun K hK => ws_load1 hM rfl rfl (by (repeat (first | assumption | (with_reducible exact mZ) | apply mS)); first | done | fail) (by first | rfl | assumption) (by decide +kernel) (hK _ _ ?_); clear hK K)) | fail))
              (refine region_RS ([cellsE g10 31 #[.int .i64 2, .string ⟨x.toArray⟩], rowE 1 (some ad) j (svs S)]) [] (by kernel_rfl) hM ?_; clear hM; change RS _ _ _ _ _ _ 13 (Array.replicate 13 false) _ _; refine RS_take (i := 0) rfl (by decide +kernel) (fun _ _ _ h => h) (by first | (intro x hx; (repeat (first | exact hx | apply mS)); done) | ((repeat (refine List.forall_mem_cons.2 ⟨(by (repeat (first | assumption | (with_reducible exact mZ) | apply mS)); first | done | fail), ?_⟩)); intro x hx; first | (cases hx; done) | ((repeat (first | exact hx | apply mS)); done))) (stab_pure (by rfl) (fun w => (by go_simp; try with_reducible rfl))) ?_; simp only [Act.put, List.setIfInBounds_toArray, List.set_cons_zero, List.set_cons_succ]; refine RS_take (i := 1) rfl (by decide +kernel) (fun _ _ _ h => h) (by first | (intro x hx; (repeat (first | exact hx | apply mS)); done) | ((repeat (refine List.forall_mem_cons.2 ⟨(by (repeat (first | assumption | (with_reducible exact mZ) | apply mS)); first | done | fail), ?_⟩)); intro x hx; first | (cases hx; done) | ((repeat (first | exact hx | apply mS)); done))) (stab_pure (by rfl) (fun w => (by go_simp; try with_reducible rfl))) ?_; simp only [Act.put, List.setIfInBounds_toArray, List.set_cons_zero, List.set_cons_succ]; refine RS_take (i := 2) rfl (by decide +kernel) (fun _ _ _ h => h) (by first | (intro x hx; (repeat (first | exact hx | apply mS)); done) | ((repeat (refine List.forall_mem_cons.2 ⟨(by (repeat (first | assumption | (with_reducible exact mZ) | apply mS)); first | done | fail), ?_⟩)); intro x hx; first | (cases hx; done) | ((repeat (first | exact hx | apply mS)); done))) (stab_pure (by rfl) (fun w => (by go_simp; try with_reducible rfl))) ?_; simp only [Act.put, List.setIfInBounds_toArray, List.set_cons_zero, List.set_cons_succ]; refine RS_take (i := 3) rfl (by decide +kernel) (fun _ _ _ h => h) (by first | (intro x hx; (repeat (first | exact hx | apply mS)); done) | ((repeat (refine List.forall_mem_cons.2 ⟨(by (repeat (first | assumption | (with_reducible exact mZ) | apply mS)); first | done | fail), ?_⟩)); intro x hx; first | (cases hx; done) | ((repeat (first | exact hx | apply mS)); done))) (stab_pure (by rfl) (fun w => (by go_simp; try with_reducible rfl))) ?_; simp only [Act.put, List.setIfInBounds_toArray, List.set_cons_zero, List.set_cons_succ]; refine RS_take (i := 4) rfl (by decide +kernel) (fun _ _ _ h => h) (by first | (intro x hx; (repeat (first | exact hx | apply mS)); done) | ((repeat (refine List.forall_mem_cons.2 ⟨(by (repeat (first | assumption | (with_reducible exact mZ) | apply mS)); first | done | fail), ?_⟩)); intro x hx; first | (cases hx; done) | ((repeat (first | exact hx | apply mS)); done))) (stab_pure (by rfl) (fun w => (by go_simp; try with_reducible rfl))) ?_; simp only [Act.put, List.setIfInBounds_toArray, List.set_cons_zero, List.set_cons_succ]; refine RS_take (i := 5) rfl (by decide +kernel) (fun _ _ _ h => h) (by first | (intro x hx; (repeat (first | exact hx | apply mS)); done) | ((repeat (refine List.forall_mem_cons.2 ⟨(by (repeat (first | assumption | (with_reducible exact mZ) | apply mS)); first | done | fail), ?_⟩)); intro x hx; first | (cases hx; done) | ((repeat (first | exact hx | apply mS)); done))) (stab_pure (by rfl) (fun w => (by go_simp; try with_reducible rfl))) ?_; simp only [Act.put, List.setIfInBounds_toArray, List.set_cons_zero, List.set_cons_succ]; refine RS_take (i := 6) rfl (by decide +kernel) (fun _ _ _ h => h) (by first | (intro x hx; (repeat (first | exact hx | apply mS)); done) | ((repeat (refine List.forall_mem_cons.2 ⟨(by (repeat (first | assumption | (with_reducible exact mZ) | apply mS)); first | done | fail), ?_⟩)); intro x hx; first | (cases hx; done) | ((repeat (first | exact hx | apply mS)); done))) (stab_read (by rfl) (fun L w hL hM => (ex_load1 (v := .string ⟨x.toArray⟩) hM rfl rfl (hL _ (by (repeat (first | assumption | (with_reducible exact mZ) | apply mS)); first | done | fail)) rfl (by decide +kernel)))) ?_; simp only [Act.put, List.setIfInBounds_toArray, List.set_cons_zero, List.set_cons_succ]; refine RS_take (i := 7) rfl (by decide +kernel) (fun _ _ _ h => h) (by first | (intro x hx; (repeat (first | exact hx | apply mS)); done) | ((repeat (refine List.forall_mem_cons.2 ⟨(by (repeat (first | assumption | (with_reducible exact mZ) | apply mS)); first | done | fail), ?_⟩)); intro x hx; first | (cases hx; done) | ((repeat (first | exact hx | apply mS)); done))) (stab_pure (by rfl) (fun w => (by go_simp; try with_reducible rfl))) ?_; simp only [Act.put, List.setIfInBounds_toArray, List.set_cons_zero, List.set_cons_succ]; refine RS_take (i := 8) rfl (by decide +kernel) (fun _ _ _ h => h) (by first | (intro x hx; (repeat (first | exact hx | apply mS)); done) | ((repeat (refine List.forall_mem_cons.2 ⟨(by (repeat (first | assumption | (with_reducible exact mZ) | apply mS)); first | done | fail), ?_⟩)); intro x hx; first | (cases hx; done) | ((repeat (first | exact hx | apply mS)); done))) (stab_pure (by rfl) (fun w => (by go_simp; try with_reducible rfl))) ?_; simp only [Act.put, List.setIfInBounds_toArray, List.set_cons_zero, List.set_cons_succ]; refine RS_take (i := 9) rfl (by decide +kernel) (fun _ _ _ h => h) (by first | (intro x hx; (repeat (first | exact hx | apply mS)); done) | ((repeat (refine List.forall_mem_cons.2 ⟨(by (repeat (first | assumption | (with_reducible exact mZ) | apply mS)); first | done | fail), ?_⟩)); intro x hx; first | (cases hx; done) | ((repeat (first | exact hx | apply mS)); done))) (stab_pure (by rfl) (fun w => (by go_simp; try with_reducible rfl))) ?_; simp only [Act.put, List.setIfInBounds_toArray, List.set_cons_zero, List.set_cons_succ]; refine RS_take (i := 10) rfl (by decide +kernel) (fun _ _ _ h => h) (by first | (intro x hx; (repeat (first | exact hx | apply mS)); done) | ((repeat (refine List.forall_mem_cons.2 ⟨(by (repeat (first | assumption | (with_reducible exact mZ) | apply mS)); first | done | fail), ?_⟩)); intro x hx; first | (cases hx; done) | ((repeat (first | exact hx | apply mS)); done))) (stab_read (by rfl) (fun L w hL hM => (ex_rowload (v := .string ⟨x.toArray⟩) rfl (ad := ad) (k := k) rfl (hM.row (hL _ (by (repeat (first | assumption | (with_reducible exact mZ) | apply mS)); first | done | fail))) HV.out (by decide +kernel)))) ?_; simp only [Act.put, List.setIfInBounds_toArray, List.set_cons_zero, List.set_cons_succ]; refine RS_take (i := 11) rfl (by decide +kernel) (fun _ _ _ h => h) (by first | (intro x hx; (repeat (first | exact hx | apply mS)); done) | ((repeat (refine List.forall_mem_cons.2 ⟨(by (repeat (first | assumption | (with_reducible exact mZ) | apply mS)); first | done | fail), ?_⟩)); intro x hx; first | (cases hx; done) | ((repeat (first | exact hx | apply mS)); done))) (stab_read (by rfl) (fun L w hL hM => (ex_nes rfl rfl rfl (b := false) (by simp)))) ?_; simp only [Act.put, List.setIfInBounds_toArray, List.set_cons_zero, List.set_cons_succ]; refine RS_take (i := 12) rfl (by decide +kernel) (fun _ _ _ h => h) (by first | (intro x hx; (repeat (first | exact hx | apply mS)); done) | ((repeat (refine List.forall_mem_cons.2 ⟨(by (repeat (first | assumption | (with_reducible exact mZ) | apply mS)); first | done | fail), ?_⟩)); intro x hx; first | (cases hx; done) | ((repeat (first | exact hx | apply mS)); done))) (stab_pure (by rfl) (fun w => (by go_simp; try with_reducible rfl))) ?_; simp only [Act.put, List.setIfInBounds_toArray, List.set_cons_zero, List.set_cons_succ]; refine RS_done (by decide +kernel) (.inl (by first | (intro x hx; (repeat (first | exact hx | apply mS)); done) | ((repeat (refine List.forall_mem_cons.2 ⟨(by (repeat (first | assumption | (with_reducible exact mZ) | apply mS)); first | done | fail), ?_⟩)); intro x hx; first | (cases hx; done) | ((repeat (first | exact hx | apply mS)); done)))) (fun w hM => ?_))
              all_goals (
                go_wp2_with fail
                go_roundw
                case rel => exact ⟨k + 1, ii + 1, _, f, l, by go_num, rfl, by omega, by omega, HT2, HT, hM.sel (by repeat (first | (with_reducible exact Sel.refl) | (with_reducible exact Take.head) | (with_reducible apply Take.tail) | (with_reducible apply Sel.cons) | (with_reducible apply Sel.drop)))⟩
                case measure => simp [intOf]; omega)
            · have HT2 := Lib.hid hT2
              clear hT2
              have hqb : decide (q = 2) = false := by simpa using hq
              go_wp2_with (first | (go_at_call 18; have hM0 := hM; clear hM; (first | (with_reducible refine (HK.out _ _ _ _ hM0 (by (repeat (first | (with_reducible exact Take.head) | apply Take.tail)); first | done | fail) (by (repeat (first | (with_reducible exact Take.head) | apply Take.tail)); first | done | fail)).mono ?_) | fail); clear hM0; rintro _ w ⟨f, l, HT, rfl, hM⟩) | (first | ((with_reducible refine at_alloc' ?_); (have hM0 := hM; clear hM; refine BigFrame.wpList_want (by rfl) fun K hK => ws_alloc hM0 (t := 31) rfl #[.int .i64 0, .string ByteArray.empty] info_pkt (fun g10 w hM => hK _ _ ?_); clear hM0 hK K)) | fail) | (first | ((with_reducible refine at_store' ?_); (have hM0 := hM; clear hM; refine BigFrame.wpList_want (by rfl) fun K hK => ws_store hM0 rfl rfl rfl (by (repeat (first | (with_reducible exact Take.head) | apply Take.tail)); first | done | fail) (n := 2) (by rfl) (by rfl) (by kernel_rfl) (by simp [Value.oneCell']) (fun w hM => hK _ _ ?_); clear hM0 hK K)) | fail) | (first | ((with_reducible refine at_load' ?_); (refine BigFrame.wpList_want (by rfl) fun K hK => ws_load1 hM rfl rfl (by (repeat (first | assumption | (with_reducible exact mZ) | apply mS)); first | done | fail) (by first | rfl | assumption) (by decide +kernel) (hK _ _ ?_); clear hK K)) | fail))
              go_roundw
              case rel => exact ⟨k, ii + 1, _, f, l, rfl, rfl, by omega, by omega, HT2, HT, hM.sel (by repeat (first | (with_reducible exact Sel.refl) | (with_reducible exact Take.head) | (with_reducible apply Take.tail) | (with_reducible apply Sel.cons) | (with_reducible apply Sel.drop)))⟩
              case measure => simp [intOf]; omega
end Go.Proofs.Ytbejifbiffeamaa
set_option linter.unusedSimpArgs false
set_option linter.unusedVariables false
namespace Go.Proofs.Ytbejifbiffeamaa
open Go.RowKit Go.WideShapes Go.ChangeShapes Go.ChangeAt
theorem meshOrder_law (A0 : Option Addr) (n0 c0 : Nat) (l0 : List (List UInt8)) (y0 : n0 ≤ 9223372036854775807) (z0 : ∀ x ∈ l0, x.length ≤ 9223372036854775807) (A1 : Option Addr) (n1 c1 : Nat) (l1 : List Int) (y1 : n1 ≤ 9223372036854775807) (z1 : ∀ x ∈ l1, -9223372036854775808 ≤ x ∧ x ≤ 9223372036854775807) (W : World) (w0 : Rd W 1 A0 n0 (svs l0)) (w1 : Rd W 1 A1 n1 (ivs l1)) :
    Calls Try.prog 3 #[.slice A0 n0 c0, .slice A1 n1 c1] W fun r w' => r = .returned (.bool true) ∧ Ch [] W w' :=
  (meshOrder_walk A0 n0 c0 l0 y0 z0 A1 n1 c1 l1 y1 z1 W (((Star.start W).of_old (by (repeat (first | assumption | (with_reducible exact mZ) | apply mS)); first | done | fail) w0).of_old (by (repeat (first | assumption | (with_reducible exact mZ) | apply mS)); first | done | fail) w1) (by (repeat (first | assumption | (with_reducible exact mZ) | apply mS)); first | done | fail) (by (repeat (first | assumption | (with_reducible exact mZ) | apply mS)); first | done | fail)).mono fun _ _ ⟨h1, h2⟩ => ⟨h1, h2.old (by (repeat (first | assumption | (with_reducible exact mZ) | apply mS)); first | done | fail)⟩
theorem meshOrder_own : ownKnob Try.prog.godebug = none := by kernel_rfl
set_option maxRecDepth 100000 in
theorem meshOrder_lifted (os : Os) (started : os.Started) (H : Type) (enc : TypeId × Value → H) :
    ReturnsInHanded {} Try.checked os 3 .any (Rows.meshOrderSpec.pre6 enc Try.prog Try.f3 Rows.meshOrderRow.domain false) (Rows.meshOrderSpec.post enc Try.prog Try.f3 false true false false) := by
  refine returnsInHanded_of_change (C := Try.checked) meshOrder_own started (by kernel_rfl) Try.func3
    (ChangeSpec.witness6 (enc := enc) (C := Try.checked) false ⟨#[], #[.slice none 0 0, .slice none 0 0], []⟩ 8 (by kernel_rfl) (by kernel_rfl) (by kernel_rfl) (by kernel_rfl)) ?_
  intro W base args ds gs before hval0 hW hcnd _
  have hval : ∀ (j : Nat) t v, Try.f3.params[j]? = some t → args[j]? = some v → Value.okWide Try.prog W .any base t v := hval0
  have hW' := hW
  obtain ⟨p, q, hA0, hV, rfl, hfz, hnd⟩ := hW
  have hA : DataW.TrodAll enc Try.prog W 0 (fun _ => true) true Try.f3.params.toList args.toList ds p := hA0
  have hA1 := hA
  rw [Try.params3] at hA hval
  obtain ⟨v0, vs0, d0, ds0, p0, q0, hargs, rfl, rfl, h0, r0⟩ := trodAll_cons hA
  obtain ⟨v1, vs1, d1, ds1, p1, q1, rfl, rfl, rfl, h1, r1⟩ := trodAll_cons r0
  obtain ⟨rfl, rfl, rfl⟩ := trodAll_nil r1
  obtain rfl : args = #[v0, v1] := by cases args; simp_all
  obtain ⟨rfl, rfl⟩ := trodVars_none hV
  obtain ⟨A0, n0, c0, l0, rfl, w0, y0, z0⟩ := open_strl Try.underlying22 Try.underlying9 (by kernel_rfl) (hval 0 22 v0 rfl rfl) h0
  obtain ⟨A1, n1, c1, l1, rfl, w1, y1, z1⟩ := open_intl Try.underlying23 Try.underlying3 (by kernel_rfl) (hval 1 23 v1 rfl rfl) h1
  clear hA0 hval0
  refine (meshOrder_law A0 n0 c0 l0 y0 z0 A1 n1 c1 l1 y1 z1 W w0 w1).mono fun e W' ⟨he, hg⟩ => ?_
  subst he
  have hlt := fun x hx => hW'.lt x hx
  exact ⟨_, rfl, post_of_below hW' (fun _ _ _ => (trodAll_cons_mk (shut_bool Try.underlying4 _) trodAll_mk0))
    (fun sp hsp => args_stay (by kernel_rfl) hg.below sp _ _ _ _ (by kernel_rfl) hA1 (fun x hx => hlt x (List.mem_append.2 (.inl hx))) (fun x hx => hsp x (List.mem_append.2 (.inl hx)))) (fun _ _ => rfl) rfl
    hg.below (ok_one (by kernel_rfl) rfl (okWide_bool_mk Try.underlying4 _))⟩
theorem meshOrder_over : Rows.meshOrderRow.holds Try.pinned (OpenSpec.ofChange Rows.meshOrderSpec) :=
  OpenClaim.holds_of_wide 3 Try.f3 rfl rfl rfl rfl rfl rfl rfl ⟨rfl, rfl, rfl, rfl, rfl⟩ rfl rfl rfl rfl rfl (by kernel_rfl) Try.func3 (by kernel_rfl)
    (of_decide_eq_true (by kernel_rfl)) (by unfold Func.isWrapper; first | (rw [if_pos (by decide +kernel)]; kernel_rfl) | (rw [if_neg (by decide +kernel)]; exact ⟨rfl, rfl⟩))
    (fun os started H enc _ => meshOrder_lifted os started H enc)
/-- THE STATEMENT -/
theorem meshOrder_holds : Rows.MeshOrderSaid := meshOrder_over
end Go.Proofs.Ytbejifbiffeamaa
