/- The statement MeshBound, from its walk. No condition but those that each theorem names. -/
import Derived.Test.YtbejifbiffeamaaQ1
import Derived.Test.YtbejifbiffeamaaQ2
set_option linter.unusedSimpArgs false
set_option linter.unusedVariables false
namespace Go.Proofs.Ytbejifbiffeamaa
open Go.RowKit
attribute [local go_sem] extract_mid extract_drop bget bsize wrap64_u8 i64_u8 u64_u8 bappend
theorem cut100m (l : List UInt8) (w : World) : Calls Try.prog 16 #[.string ⟨l.toArray⟩, .int .i64 100] w fun r w' => r = .returned (.string ⟨(cutP l 100).toArray⟩) ∧ w = w' := cut_any l 100 (by omega) w
theorem cut100m_le (l : List UInt8) : (cutP l 100).length ≤ 100 := by have := cutP_len l 100 (by decide); omega
abbrev fl : List UInt8 := [102, 108, 111, 111, 100]
/-- While it is flooded. -/
structure FB (j : Nat) (M : Msh) : Prop where
  ok : M.ok
  n : M.n = 4
  last : (M.bx 0).last = -1
  one : (M.bx 0).row 1 = []
  ks : ∀ k ∈ (M.bx 0).ks, k = 3
  l0 : 0 ≤ M.lost
  l1 : M.lost ≤ j
theorem FB.zero : FB 0 (newM 4) := ⟨newM_ok (by decide) (by decide), rfl, rfl, rfl, fun k hk => by simp [newM] at hk, by decide, by decide⟩
theorem FB.step {j : Nat} {M : Msh} (h : FB j M) : FB (j + 1) (sendG M 0 3 fl) := by
  have hn := h.n
  refine ⟨sendG_ok h.ok (by omega) (by decide) (by omega) _, by rw [sendG_n, hn], ?_, ?_, ?_, ?_, ?_⟩
  all_goals unfold sendG; split
  · exact h.last
  · exact h.last
  · exact h.one
  · exact h.one
  · intro k hk
    rw [put_bx, if_pos rfl] at hk
    have h2 := (set_mem (h.ok.bx 0 (by omega)) 3 _ k).1 hk
    rw [row_set] at h2
    by_cases e : k = 3
    · exact e
    · rw [if_neg e] at h2
      exact h.ks k (((h.ok.bx 0 (by omega)).mem k).2 h2)
  · exact h.ks
  · exact h.l0
  · have := h.l0; show 0 ≤ M.lost + 1; omega
  · have := h.l1; show M.lost ≤ _; omega
  · have := h.l1; show M.lost + 1 ≤ _; omega
theorem FB.nxt {j : Nat} {M : Msh} (h : FB j M) (x : List UInt8) (hx : x.length ≤ 100) : sendE M 0 1 x = 0 ∧ ∃ M', sendG M 0 1 x = M' ∧ M'.ok ∧ M'.n = 4 ∧ (M'.bx 0).nxt = some 1 ∧ (M'.bx 0).row 1 = x :: [] := by
  have hn := h.n
  have hlen : ((M.bx 0).row 1).length < 8 := by rw [h.one]; decide
  refine ⟨by unfold sendE; rw [if_pos (by omega), if_pos hlen], _, rfl, sendG_ok h.ok (by omega) (by decide) (by omega) _, by rw [sendG_n, hn], ?_, ?_⟩
  · have e : ((sendG M 0 1 x).bx 0) = (M.bx 0).set 1 [x] := by
      unfold sendG
      rw [if_pos ⟨by omega, hlen⟩, put_bx, if_pos rfl, h.one]
      rfl
    rw [e]
    have hok : ((M.bx 0).set 1 [x]).ok := by
      have := (sendG_ok h.ok (t := 0) (by omega) (k := 1) (by decide) (by omega) x).bx 0 (by rw [sendG_n]; omega)
      rwa [e] at this
    have h1 : (1 : Int) ∈ ((M.bx 0).set 1 [x]).ks := by
      rw [set_mem (h.ok.bx 0 (by omega)), row_set, if_pos rfl]
      simp
    cases hq : ((M.bx 0).set 1 [x]).nxt with
    | none => rw [nxt_none hq] at h1; cases h1
    | some k =>
      have hk := nxt_mem hq
      have hk3 : k = 1 ∨ k = 3 := by
        by_cases e1 : k = 1
        · exact .inl e1
        · rw [set_mem (h.ok.bx 0 (by omega)), row_set, if_neg e1] at hk
          exact .inr (h.ks k (((h.ok.bx 0 (by omega)).mem k).2 hk))
      have hl : ((M.bx 0).set 1 [x]).last = -1 := h.last
      rcases nxt_spec hok hq with ⟨_, h3⟩ | ⟨h3, _⟩
      · have := h3 1 h1 (by rw [hl]; decide)
        have e1 : k = 1 := by omega
        rw [e1]
      · have := h3 1 h1
        omega
  · unfold sendG
    rw [if_pos ⟨by omega, hlen⟩, put_bx, if_pos rfl, row_set, if_pos rfl, h.one]
    rfl
set_option maxRecDepth 100000 in
set_option maxHeartbeats 8000000 in
theorem meshBound_walk {F : List SProp} (n : Int) (hn1 : -9223372036854775808 ≤ n) (hn2 : n ≤ 9223372036854775807) (l0 : List UInt8) (_w0 : l0.length ≤ 9223372036854775807) (w : World) (hM : Star F w) :
    Calls Try.prog 9 #[.int .i64 n, .string ⟨l0.toArray⟩] w fun r w' => r = .returned (.bool true) ∧ Star F w' := by
  have H1 := cut100m l0
  have k1 := cut100m_le l0
  generalize cutP l0 100 = x at H1 k1
  have HC := Lib.hid H1
  clear H1
  obtain ⟨N, hN⟩ : ∃ N : Nat, min (max n 0) 60 = N := ⟨(min (max n 0) 60).toNat, by omega⟩
  have hN2 : (if (60 : Int) < (if n < 0 then 0 else n) then 60 else (if n < 0 then (0 : Int) else n)) = N := by rw [← hN]; split <;> split at * <;> omega
  have hN60 : N ≤ 60 := by omega
  go_enter Try.func9, Try.ntmps9
  go_wp2_with (first | (go_at_call 14; have hM0 := hM; clear hM; (first | (with_reducible refine (awake18 _ hM0).mono ?_) | fail); clear hM0; rintro _ w ⟨rfl, hM⟩) | (go_at_call 16; have hM0 := hM; clear hM; (first | (with_reducible refine (starq (HC.out _) hM0).mono ?_) | fail); clear hM0; rintro _ w ⟨rfl, hM⟩) | (go_at_call 15; have hM0 := hM; clear hM; (first | (with_reducible refine (newL 4 (x := 4) rfl (by decide) (by decide) (M := newM 4) rfl _ hM0).mono ?_) | fail); clear hM0; rintro _ w ⟨a, f, l, HT, rfl, hM⟩))
  go_loopw [16] (fun i wr => ∃ (j : Nat) (M : Msh) (f : Sls) (l : List (Option Addr × List (List UInt8))), i = .int .i64 j ∧ j ≤ N ∧ FB j M ∧ Hid (Tied M f l) ∧ Star (meshE a M f :: rowsE l :: F) wr) (fun i _ => N - (intOf i).toNat)
  case atStart => exact ⟨0, _, f, l, rfl, by omega, FB.zero, HT, hM⟩
  case round =>
    clear hM
    obtain ⟨j, M, f, l, rfl, hj, hB, HT, hM⟩ := hrel
    have HB := Lib.hid hB
    clear hB
    by_cases hjn : j < N
    · have hjI : (j : Int) < (N : Int) := by omega
      have hd : decide ((j : Int) < (N : Int)) = true := by simp; omega
      have HS : Hid (∀ (g : Nat) (w : World) (L R1 R2 F : List SProp), Star L w → Take (rowE 1 (some ⟨g, 0, none⟩) 1 (ivs [0])) L R1 → Take (meshE a M f) R1 R2 → Take (rowsE l) R2 F → Calls Try.prog 17 #[mptr a, .int .i64 3, .string ⟨fl.toArray⟩, .slice (some ⟨g, 0, none⟩) 1 1] w fun r w' => ∃ f' l', Hid (Tied (sendG M 0 3 fl) f' l') ∧ r = .returned (.int .i64 (sendE M 0 3 fl)) ∧ Star (meshE a (sendG M 0 3 fl) f' :: rowsE l' :: F) w') := fun g w L R1 R2 F hM h1 h2 h3 => sendL HB.out.ok 0 3 rfl rfl (by have := HB.out.n; omega) (by have := HB.out.n; omega) fl HB.out.l0 (by have := HB.out.l1; omega) rfl rfl HT w hM h1 h2 h3
      go_wp2_with (first | (first | ((with_reducible refine at_slice' ?_); (have hM0 := hM; clear hM; refine BigFrame.wpList_want (by rfl) fun K hK => ws_slice_row hM0 (n := 1) rfl 3 1 (.int .i64 0) [.int .i64 0] Try.underlying23 (by kernel_rfl) rfl (by simp [Value.cells, iv, sv, bv]) (by rfl) (by decide) (cs := ivs [0]) (by rfl) (fun g1 w hM => hK _ _ ?_); clear hM0 hK K)) | fail) | (go_at_call 17; have hM0 := hM; clear hM; (first | (with_reducible refine (HS.out _ _ _ _ _ _ hM0 (by (repeat (first | (with_reducible exact Take.head) | apply Take.tail)); first | done | fail) (by (repeat (first | (with_reducible exact Take.head) | apply Take.tail)); first | done | fail) (by (repeat (first | (with_reducible exact Take.head) | apply Take.tail)); first | done | fail)).mono ?_) | fail); clear hM0; rintro _ w ⟨f, l, HT, rfl, hM⟩))
      go_roundw
      case rel => exact ⟨j + 1, _, f, l, rfl, by omega, HB.out.step, HT, hM⟩
      case measure => simp [intOf]; omega
    · obtain rfl : j = N := by omega
      obtain ⟨q1, M', q2, q3, q4, q5, q6⟩ := HB.out.nxt x k1
      obtain ⟨v, hv⟩ : ∃ v : Nat, ((M.bx 0).row 3).length = v := ⟨_, rfl⟩
      have hv8 : v ≤ 8 := by have := (HB.out.ok.bx 0 (by have := HB.out.n; omega)).few 3; omega
      have hv9 : decide ((8 : Int) < (v : Int)) = false := by simp; omega
      have hv7 : decide (8 < v) = false := by simp; omega
      have HW : Hid (∀ (w : World) (L R1 F : List SProp), Star L w → Take (meshE a M f) L R1 → Take (rowsE l) R1 F → Calls Try.prog 27 #[mptr a, .int .i64 0, .int .i64 3] w fun e w' => e = .returned (.int .i64 v) ∧ Star (meshE a M f :: rowsE l :: F) w') := fun w L R1 F hM h1 h2 => waitsL HB.out.ok 0 rfl (by have := HB.out.n; omega) (by decide) (by decide) (by rw [hv]) HT w hM h1 h2
      have HS : Hid (∀ (f : Sls) (l : List (Option Addr × List (List UInt8))), Hid (Tied M f l) → ∀ (g : Nat) (w : World) (L R1 R2 F : List SProp), Star L w → Take (rowE 1 (some ⟨g, 0, none⟩) 1 (ivs [0])) L R1 → Take (meshE a M f) R1 R2 → Take (rowsE l) R2 F → Calls Try.prog 17 #[mptr a, .int .i64 1, .string ⟨x.toArray⟩, .slice (some ⟨g, 0, none⟩) 1 1] w fun r w' => ∃ f' l', Hid (Tied M' f' l') ∧ r = .returned (.int .i64 0) ∧ Star (meshE a M' f' :: rowsE l' :: F) w') := fun f l HT g w L R1 R2 F hM h1 h2 h3 => sendL HB.out.ok 0 1 rfl rfl (by have := HB.out.n; omega) (by have := HB.out.n; omega) x HB.out.l0 (by have := HB.out.l1; omega) q2 q1 HT w hM h1 h2 h3
      have HK : Hid (∀ (f : Sls) (l : List (Option Addr × List (List UInt8))), Hid (Tied M' f l) → ∀ (w : World) (L R1 F : List SProp), Star L w → Take (meshE a M' f) L R1 → Take (rowsE l) R1 F → Calls Try.prog 18 #[mptr a, .int .i64 0] w fun e w' => ∃ f' l', Hid (Tied (takeM M' 0 1 []) f' l') ∧ e = .returned (.tuple #[pktV 1 x, .bool true]) ∧ Star (meshE a (takeM M' 0 1 []) f' :: rowsE l' :: F) w') := fun f l HT w L R1 F hM h1 h2 => takeL q3 0 rfl (by omega) q5 q6 rfl HT w hM h1 h2
      clear q1 q2 q3 q4 q5 q6 hv
      go_wp2_with (first | (go_at_call 27; have hM0 := hM; clear hM; (first | (with_reducible refine (HW.out _ _ _ _ hM0 (by (repeat (first | (with_reducible exact Take.head) | apply Take.tail)); first | done | fail) (by (repeat (first | (with_reducible exact Take.head) | apply Take.tail)); first | done | fail)).mono ?_) | fail); clear hM0; rintro _ w ⟨rfl, hM⟩) | (first | ((with_reducible refine at_slice' ?_); (have hM0 := hM; clear hM; refine BigFrame.wpList_want (by rfl) fun K hK => ws_slice_row hM0 (n := 1) rfl 3 1 (.int .i64 0) [.int .i64 0] Try.underlying23 (by kernel_rfl) rfl (by simp [Value.cells, iv, sv, bv]) (by rfl) (by decide) (cs := ivs [0]) (by rfl) (fun g1 w hM => hK _ _ ?_); clear hM0 hK K)) | fail) | (go_at_call 17; have hM0 := hM; clear hM; (first | (with_reducible refine (HS.out f l HT _ _ _ _ _ _ hM0 (by (repeat (first | (with_reducible exact Take.head) | apply Take.tail)); first | done | fail) (by (repeat (first | (with_reducible exact Take.head) | apply Take.tail)); first | done | fail) (by (repeat (first | (with_reducible exact Take.head) | apply Take.tail)); first | done | fail)).mono ?_) | fail); clear hM0; rintro _ w ⟨f, l, HT, rfl, hM⟩))
      go_loopw [32] (fun i wr => ∃ (f : Sls) (l : List (Option Addr × List (List UInt8))), i = .int .i64 0 ∧ Hid (Tied M' f l) ∧ Star (meshE a M' f :: rowsE l :: F) wr) (fun i _ => 2 - (intOf i).toNat)
      case atStart => exact ⟨f, l, rfl, HT, hM⟩
      case round =>
        clear hM
        obtain ⟨f, l, rfl, HT, hM⟩ := hrel
        go_wp2_with (first | (go_at_call 18; have hM0 := hM; clear hM; (first | (with_reducible refine (HK.out f l HT _ _ _ _ hM0 (by (repeat (first | (with_reducible exact Take.head) | apply Take.tail)); first | done | fail) (by (repeat (first | (with_reducible exact Take.head) | apply Take.tail)); first | done | fail)).mono ?_) | fail); clear hM0; rintro _ w ⟨f, l, HT, rfl, hM⟩) | (first | ((with_reducible refine at_alloc' ?_); (have hM0 := hM; clear hM; refine BigFrame.wpList_want (by rfl) fun K hK => ws_alloc hM0 (t := 31) rfl #[.int .i64 0, .string ByteArray.empty] info_pkt (fun g4 w hM => hK _ _ ?_); clear hM0 hK K)) | fail) | (first | ((with_reducible refine at_store' ?_); (have hM0 := hM; clear hM; refine BigFrame.wpList_want (by rfl) fun K hK => ws_store hM0 rfl rfl rfl (by (repeat (first | (with_reducible exact Take.head) | apply Take.tail)); first | done | fail) (n := 2) (by rfl) (by rfl) (by kernel_rfl) (by simp [Value.oneCell']) (fun w hM => hK _ _ ?_); clear hM0 hK K)) | fail) | (first | ((with_reducible refine at_load' ?_); (refine BigFrame.wpList_want (by rfl) fun K hK => ws_load1 hM rfl rfl (by (repeat (first | assumption | (with_reducible exact mZ) | apply mS)); first | done | fail) (by first | rfl | assumption) (by decide +kernel) (hK _ _ ?_); clear hK K)) | fail))
        go_ret
        exact ⟨rfl, hM.sel (by repeat (first | (with_reducible exact Sel.refl) | (with_reducible exact Take.head) | (with_reducible apply Take.tail) | (with_reducible apply Sel.cons) | (with_reducible apply Sel.drop)))⟩
end Go.Proofs.Ytbejifbiffeamaa
set_option linter.unusedSimpArgs false
set_option linter.unusedVariables false
namespace Go.Proofs.Ytbejifbiffeamaa
open Go.RowKit Go.WideShapes Go.ChangeShapes Go.ChangeAt
theorem meshBound_law (l0 : Int) (w0 : -9223372036854775808 ≤ l0) (y0 : l0 ≤ 9223372036854775807) (l1 : List UInt8) (w1 : l1.length ≤ 9223372036854775807) (W : World)  :
    Calls Try.prog 9 #[.int .i64 l0, .string ⟨l1.toArray⟩] W fun r w' => r = .returned (.bool true) ∧ Ch [] W w' :=
  (meshBound_walk l0 w0 y0 l1 w1 W (Star.start W) ).mono fun _ _ ⟨h1, h2⟩ => ⟨h1, h2.old (by (repeat (first | assumption | (with_reducible exact mZ) | apply mS)); first | done | fail)⟩
theorem meshBound_own : ownKnob Try.prog.godebug = none := by kernel_rfl
set_option maxRecDepth 100000 in
theorem meshBound_lifted (os : Os) (started : os.Started) (H : Type) (enc : TypeId × Value → H) :
    ReturnsInHanded {} Try.checked os 9 .any (Rows.meshBoundSpec.pre6 enc Try.prog Try.f9 Rows.meshBoundRow.domain false) (Rows.meshBoundSpec.post enc Try.prog Try.f9 false true false false) := by
  refine returnsInHanded_of_change (C := Try.checked) meshBound_own started (by kernel_rfl) Try.func9
    (ChangeSpec.witness6 (enc := enc) (C := Try.checked) false ⟨#[], #[.int .i64 0, .string ByteArray.empty], []⟩ 8 (by kernel_rfl) (by kernel_rfl) (by kernel_rfl) (by kernel_rfl)) ?_
  intro W base args ds gs before hval0 hW hcnd _
  have hval : ∀ (j : Nat) t v, Try.f9.params[j]? = some t → args[j]? = some v → Value.okWide Try.prog W .any base t v := hval0
  have hW' := hW
  obtain ⟨p, q, hA0, hV, rfl, hfz, hnd⟩ := hW
  have hA : DataW.TrodAll enc Try.prog W 0 (fun _ => true) true Try.f9.params.toList args.toList ds p := hA0
  have hA1 := hA
  rw [Try.params9] at hA hval
  obtain ⟨v0, vs0, d0, ds0, p0, q0, hargs, rfl, rfl, h0, r0⟩ := trodAll_cons hA
  obtain ⟨v1, vs1, d1, ds1, p1, q1, rfl, rfl, rfl, h1, r1⟩ := trodAll_cons r0
  obtain ⟨rfl, rfl, rfl⟩ := trodAll_nil r1
  obtain rfl : args = #[v0, v1] := by cases args; simp_all
  obtain ⟨rfl, rfl⟩ := trodVars_none hV
  obtain ⟨l0, rfl, w0, y0⟩ := open_i64 Try.underlying3 (hval 0 3 v0 rfl rfl) h0
  obtain ⟨l1, rfl, w1⟩ := open_str Try.underlying9 (hval 1 9 v1 rfl rfl) h1
  clear hA0 hval0
  refine (meshBound_law l0 w0 y0 l1 w1 W).mono fun e W' ⟨he, hg⟩ => ?_
  subst he
  have hlt := fun x hx => hW'.lt x hx
  exact ⟨_, rfl, post_of_below hW' (fun _ _ _ => (trodAll_cons_mk (shut_bool Try.underlying4 _) trodAll_mk0))
    (fun sp hsp => args_stay (by kernel_rfl) hg.below sp _ _ _ _ (by kernel_rfl) hA1 (fun x hx => hlt x (List.mem_append.2 (.inl hx))) (fun x hx => hsp x (List.mem_append.2 (.inl hx)))) (fun _ _ => rfl) rfl
    hg.below (ok_one (by kernel_rfl) rfl (okWide_bool_mk Try.underlying4 _))⟩
theorem meshBound_over : Rows.meshBoundRow.holds Try.pinned (OpenSpec.ofChange Rows.meshBoundSpec) :=
  OpenClaim.holds_of_wide 9 Try.f9 rfl rfl rfl rfl rfl rfl rfl ⟨rfl, rfl, rfl, rfl, rfl⟩ rfl rfl rfl rfl rfl (by kernel_rfl) Try.func9 (by kernel_rfl)
    (of_decide_eq_true (by kernel_rfl)) (by unfold Func.isWrapper; first | (rw [if_pos (by decide +kernel)]; kernel_rfl) | (rw [if_neg (by decide +kernel)]; exact ⟨rfl, rfl⟩))
    (fun os started H enc _ => meshBound_lifted os started H enc)
/-- THE STATEMENT -/
theorem meshBound_holds : Rows.MeshBoundSaid := meshBound_over
end Go.Proofs.Ytbejifbiffeamaa
