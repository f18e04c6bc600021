/- The statement MeshCast, from its walk. No condition but those that each theorem names. -/
import Derived.Test.YtbejifbiffeamaaT1
import Derived.Test.YtbejifbiffeamaaT2
set_option linter.unusedSimpArgs false
set_option linter.unusedVariables false
namespace Go.Proofs.Ytbejifbiffeamaa
open Go.RowKit
attribute [local go_sem] extract_mid extract_drop bget bsize wrap64_u8 i64_u8 u64_u8 bappend
theorem cut100c (l : List UInt8) (w : World) : Calls Try.prog 16 #[.string ⟨l.toArray⟩, .int .i64 100] w fun r w' => r = .returned (.string ⟨(cutP l 100).toArray⟩) ∧ w = w' := cut_any l 100 (by omega) w
theorem cut100c_le (l : List UInt8) : (cutP l 100).length ≤ 100 := by have := cutP_len l 100 (by decide); omega
theorem row_nil {B : Bx} (h : B.ok) (hk : B.ks = []) (k : Int) : B.row k = [] := by
  by_cases e : B.row k = []
  · exact e
  · have := (h.mem k).2 e
    rw [hk] at this
    cases this
theorem nxt_one {B : Bx} {k : Int} (hk : B.ks = [k]) : B.nxt = some k := by
  cases h : B.nxt with
  | none => have := nxt_none h; rw [hk] at this; cases this
  | some j =>
    have := nxt_mem h
    rw [hk] at this
    rw [List.mem_singleton.1 this]
/-- While it is cast: what the first j addresses hold. -/
structure CC (q : Nat) (x : List UInt8) (j : Nat) (M : Msh) : Prop where
  lost : M.lost = 0
  got : ∀ i, i < j → i ≠ q → (M.bx i).ks = [(q : Int)] ∧ (M.bx i).row q = [x]
  not : ∀ i, j ≤ i ∨ i = q → (M.bx i).ks = []
theorem cast_cc {N q : Nat} (h1 : 1 ≤ N) (h2 : N ≤ 64) (hq : q < N) (x : List UInt8) (hx : x.length ≤ 1024) (j : Nat) (hj : j ≤ N) : CC q x j (castM (newM N) q x j) := by
  induction j with
  | zero => exact ⟨rfl, fun i hi => by omega, fun i _ => rfl⟩
  | succ j ih =>
    have ih := ih (by omega)
    have hcb := cast_cb (newM_ok h1 h2) (q := q) hq x (Int.le_refl 0) j (show j ≤ N by omega)
    unfold castM
    split
    · rename_i e
      have e2 : j = q := by omega
      exact ⟨ih.lost, fun i hi hn => ih.got i (by omega) hn, fun i hi => ih.not i (by omega)⟩
    · rename_i e
      have e2 : j ≠ q := by omega
      have hks := ih.not j (.inl (Nat.le_refl _))
      have hjn : j < (castM (newM N) q x j).n := by rw [hcb.n]; show j < N; omega
      have hok := hcb.ok.bx j hjn
      have hrow := row_nil hok hks q
      have hs : sendG (castM (newM N) q x j) j q x = (castM (newM N) q x j).put j (((castM (newM N) q x j).bx j).set q [x]) := by
        unfold sendG
        rw [if_pos ⟨hx, by rw [hrow]; decide⟩, hrow]
        rfl
      rw [hs]
      refine ⟨ih.lost, fun i hi hn => ?_, fun i hi => ?_⟩
      · rw [put_bx]
        by_cases ei : i = j
        · rw [if_pos ei]
          refine ⟨?_, by rw [row_set, if_pos rfl]⟩
          unfold Bx.set
          simp only
          rw [if_neg (by simp), hks]
          rfl
        · rw [if_neg ei]
          exact ih.got i (by omega) hn
      · rw [put_bx, if_neg (by omega)]
        exact ih.not i (by omega)
/-- While it is taken: what the others still hold. -/
structure KB (N q : Nat) (x : List UInt8) (j : Nat) (M : Msh) : Prop where
  ok : M.ok
  n : M.n = N
  lost : M.lost = 0
  got : ∀ i, j ≤ i → i < N → i ≠ q → (M.bx i).ks = [(q : Int)] ∧ (M.bx i).row q = [x]
  not : ∀ i, i < j ∨ i = q → (M.bx i).ks = []
theorem kb_start {N q : Nat} (h1 : 1 ≤ N) (h2 : N ≤ 64) (hq : q < N) (x : List UInt8) (hx : x.length ≤ 1024) : KB N q x 0 (castM (newM N) q x N) := by
  have hcb := cast_cb (newM_ok h1 h2) (q := q) hq x (Int.le_refl 0) N (Nat.le_refl _)
  have hcc := cast_cc h1 h2 hq x hx N (Nat.le_refl _)
  exact ⟨hcb.ok, hcb.n, hcc.lost, fun i _ hi hn => hcc.got i hi hn, fun i hi => hcc.not i (by omega)⟩
theorem KB.skip {N q : Nat} {x : List UInt8} {M : Msh} (h : KB N q x q M) : KB N q x (q + 1) M :=
  ⟨h.ok, h.n, h.lost, fun i a b c => h.got i (by omega) b c, fun i a => h.not i (by omega)⟩
theorem KB.step {N q j : Nat} {x : List UInt8} {M : Msh} (h : KB N q x j M) (hj : j < N) (hn : j ≠ q) : (M.bx j).nxt = some (q : Int) ∧ (M.bx j).row q = [x] ∧ KB N q x (j + 1) (takeM M j q []) := by
  obtain ⟨g1, g2⟩ := h.got j (Nat.le_refl _) hj hn
  have hnx := nxt_one g1
  refine ⟨hnx, g2, takeG_ok h.ok (by rw [h.n]; exact hj) (nxt_mem hnx) g2, h.n, h.lost, fun i a b c => ?_, fun i a => ?_⟩
  · unfold takeM
    rw [put_bx, if_neg (by omega)]
    exact h.got i (by omega) b c
  · unfold takeM
    rw [put_bx]
    by_cases e : i = j
    · rw [if_pos e]
      show ((M.bx j).set q []).ks = []
      rw [set_ks_del, g1]
      simp
    · rw [if_neg e]
      exact h.not i (by omega)
theorem KB.all {N q : Nat} {x : List UInt8} {M : Msh} (h : KB N q x N M) : allM M M.n = 0 := by
  have hh : ∀ j, j ≤ N → allM M j = 0 := fun j => by
    induction j with
    | zero => intro _; rfl
    | succ j ih =>
      intro hj
      show allM M j + totM M j = 0
      rw [ih (by omega)]
      unfold totM
      rw [h.not j (.inl (by omega))]
      rfl
  rw [h.n]
  exact hh N (Nat.le_refl _)
theorem lostL {M : Msh} {v : Int} (hv : M.lost = v) (h1 : 1 ≤ M.n) {a : MA} {f : Sls} {F : List SProp} (w : World) {L : List SProp} (hM0 : Star L w) (hm1 : Take (meshE a M f) L F) :
    Calls Try.prog 32 #[mptr a] w fun e w' => e = .returned (.int .i64 v) ∧ Star (meshE a M f :: F) w' := by
  subst hv
  have hM := hM0.take hm1
  have h2 := hM.mopen (i := 0) h1
  refine (lost_ok (n := M.n) (lo := M.lost) w h2 (List.mem_cons_of_mem _ List.mem_cons_self)).mono fun _ _ ⟨e, h3⟩ => ⟨e, ?_⟩
  exact Star.mjoin h3 h1 rfl fun _ _ => rfl
set_option maxRecDepth 100000 in
set_option maxHeartbeats 16000000 in
theorem meshCast_walk {F : List SProp} (n : Int) (hn1 : -9223372036854775808 ≤ n) (hn2 : n ≤ 9223372036854775807) (v : Int) (hv1 : -9223372036854775808 ≤ v) (hv2 : v ≤ 9223372036854775807) (l0 : List UInt8) (_w0 : l0.length ≤ 9223372036854775807) (w : World) (hM : Star F w) :
    Calls Try.prog 11 #[.int .i64 n, .int .i64 v, .string ⟨l0.toArray⟩] w fun r w' => r = .returned (.bool true) ∧ Star F w' := by
  have H1 := cut100c l0
  have k1 := cut100c_le l0
  generalize cutP l0 100 = x at H1 k1
  have HC := Lib.hid H1
  clear H1
  obtain ⟨N, hN⟩ : ∃ N : Nat, min (max n 1) 20 = N := ⟨(min (max n 1) 20).toNat, by omega⟩
  have hN2 : (if (20 : Int) < (if n < 1 then 1 else n) then 20 else (if n < 1 then (1 : Int) else n)) = N := by rw [← hN]; split <;> split at * <;> omega
  have hN20 : N ≤ 20 := by omega
  have hN1 : 1 ≤ N := by omega
  have hNZ : (N : Int) ≠ 0 := by omega
  obtain ⟨r1, hr1⟩ : ∃ r1, v.tmod N = r1 := ⟨_, rfl⟩
  have hb1 : -(N : Int) < r1 ∧ r1 < N := by
    rw [← hr1]
    rcases Int.le_total 0 v with h | h
    · have := Int.tmod_nonneg (N : Int) h
      have := Int.tmod_lt_of_pos v (show (0 : Int) < N by omega)
      omega
    · have h2 : v.tmod N = -((-v).tmod N) := by rw [Int.neg_tmod]; omega
      have := Int.tmod_nonneg (N : Int) (show 0 ≤ -v by omega)
      have := Int.tmod_lt_of_pos (-v) (show (0 : Int) < N by omega)
      omega
  obtain ⟨q, hq⟩ : ∃ q : Nat, (r1 + (N : Int)).tmod N = q := by
    have := Int.tmod_nonneg (N : Int) (show 0 ≤ r1 + (N : Int) by omega)
    exact ⟨((r1 + (N : Int)).tmod N).toNat, by omega⟩
  have hqN : q < N := by
    have := Int.tmod_lt_of_pos (r1 + (N : Int)) (show (0 : Int) < N by omega)
    omega
  have HR1 := Lib.hid hr1
  have HR2 := Lib.hid hq
  have HNZ := Lib.hid hNZ
  have hbl := hb1.1
  have hbr := hb1.2
  have HKS := Lib.hid (kb_start hN1 (by omega) hqN x (by omega))
  have HOK := Lib.hid (newM_ok hN1 (by omega))
  obtain ⟨MC, hMC⟩ : ∃ MC, castM (newM N) q x N = MC := ⟨_, rfl⟩
  rw [hMC] at HKS
  have HCA : Hid (∀ (a : MA) (f : Sls) (l : List (Option Addr × List (List UInt8))), Hid (Tied (newM N) f l) → ∀ (F : List SProp) (w : World), Star (meshE a (newM N) f :: rowsE l :: F) w → Calls Try.prog 30 #[mptr a, .int .i64 q, .string ⟨x.toArray⟩] w fun r w' => ∃ f' l', Hid (Tied MC f' l') ∧ r = .returned (.tuple #[]) ∧ Star (meshE a MC f' :: rowsE l' :: F) w') := fun a f l HT F w hM => by
    have := cast_ok HOK.out HT.out (k := (q : Int)) q rfl hqN x (Int.le_refl 0) (by show (0 : Int) ≤ 900000; decide) w hM
    show Calls _ _ _ _ _
    rw [← hMC]
    exact this
  clear hb1 hMC
  have hw2 : wrap64 (r1 + (N : Int)) = r1 + (N : Int) := by unfold wrap64; omega
  go_enter Try.func11, Try.ntmps11
  go_wp2_with (first | (go_at_call 14; have hM0 := hM; clear hM; (first | (with_reducible refine (awake18 _ hM0).mono ?_) | fail); clear hM0; rintro _ w ⟨rfl, hM⟩) | (go_at_call 16; have hM0 := hM; clear hM; (first | (with_reducible refine (starq (HC.out _) hM0).mono ?_) | fail); clear hM0; rintro _ w ⟨rfl, hM⟩) | (go_at_call 15; have hM0 := hM; clear hM; (first | (with_reducible refine (newL N (x := (N : Int)) rfl hN1 (by omega) (M := newM N) rfl _ hM0).mono ?_) | fail); clear hM0; rintro _ w ⟨a, f, l, HT, rfl, hM⟩) | (go_at_call 30; have hM0 := hM; clear hM; (first | (with_reducible refine (HCA.out a f l HT _ _ hM0).mono ?_) | fail); clear hM0; rintro _ w ⟨f, l, HT, rfl, hM⟩))
  go_loopw [32] (fun i wr => ∃ (j : Nat) (M : Msh) (f : Sls) (l : List (Option Addr × List (List UInt8))), i = .int .i64 j ∧ j ≤ N ∧ Hid (KB N q x j M) ∧ Hid (Tied M f l) ∧ Star (meshE a M f :: rowsE l :: F) wr) (fun i _ => N - (intOf i).toNat)
  case atStart => exact ⟨0, MC, f, l, rfl, by omega, HKS, HT, hM⟩
  case round =>
    clear hM HKS HT HCA
    obtain ⟨j, M, f, l, rfl, hj, HB, HT, hM⟩ := hrel
    by_cases hjn : j < N
    · have hjI : (j : Int) < (N : Int) := by omega
      by_cases hjq : j = q
      · subst hjq
        have HK : Hid (∀ (w : World) (L R1 F : List SProp), Star L w → Take (meshE a M f) L R1 → Take (rowsE l) R1 F → Calls Try.prog 18 #[mptr a, .int .i64 j] w fun e w' => e = .returned (.tuple #[pktV 0 [], .bool false]) ∧ Star (meshE a M f :: rowsE l :: F) w') := fun w L R1 F hM h1 h2 => takeN HB.out.ok j rfl (by rw [HB.out.n]; exact hjn) (nxt_of_nil (HB.out.not j (.inr rfl))) w hM h1 h2
        go_wp2_with (first | (go_at_call 18; have hM0 := hM; clear hM; (first | (with_reducible refine (HK.out _ _ _ _ hM0 (by (repeat (first | (with_reducible exact Take.head) | apply Take.tail)); first | done | fail) (by (repeat (first | (with_reducible exact Take.head) | apply Take.tail)); first | done | fail)).mono ?_) | fail); clear hM0; rintro _ w ⟨rfl, hM⟩) | (first | ((with_reducible refine at_alloc' ?_); (have hM0 := hM; clear hM; refine BigFrame.wpList_want (by rfl) fun K hK => ws_alloc hM0 (t := 31) rfl #[.int .i64 0, .string ByteArray.empty] info_pkt (fun g10 w hM => hK _ _ ?_); clear hM0 hK K)) | fail) | (first | ((with_reducible refine at_store' ?_); (have hM0 := hM; clear hM; refine BigFrame.wpList_want (by rfl) fun K hK => ws_store hM0 rfl rfl rfl (by (repeat (first | (with_reducible exact Take.head) | apply Take.tail)); first | done | fail) (n := 2) (by rfl) (by rfl) (by kernel_rfl) (by simp [Value.oneCell']) (fun w hM => hK _ _ ?_); clear hM0 hK K)) | fail) | (first | ((with_reducible refine at_load' ?_); (refine BigFrame.wpList_want (by rfl) fun K hK => ws_load1 hM rfl rfl (by (repeat (first | assumption | (with_reducible exact mZ) | apply mS)); first | done | fail) (by first | rfl | assumption) (by decide +kernel) (hK _ _ ?_); clear hK K)) | fail))
        go_roundw
        case rel => exact ⟨j + 1, M, f, l, rfl, by omega, HB.out.skip, HT, hM.sel (by repeat (first | (with_reducible exact Sel.refl) | (with_reducible exact Take.head) | (with_reducible apply Take.tail) | (with_reducible apply Sel.cons) | (with_reducible apply Sel.drop)))⟩
        case measure => simp [intOf]; omega
      · obtain ⟨hnx, hr, hkb⟩ := HB.out.step hjn hjq
        have HKB := Lib.hid hkb
        have HK : Hid (∀ (w : World) (L R1 F : List SProp), Star L w → Take (meshE a M f) L R1 → Take (rowsE l) R1 F → Calls Try.prog 18 #[mptr a, .int .i64 j] w fun e w' => ∃ f' l', Hid (Tied (takeM M j q []) f' l') ∧ e = .returned (.tuple #[pktV q x, .bool true]) ∧ Star (meshE a (takeM M j q []) f' :: rowsE l' :: F) w') := fun w L R1 F hM h1 h2 => takeL HB.out.ok j rfl (by rw [HB.out.n]; exact hjn) hnx hr rfl HT w hM h1 h2
        have e0 : ((j : Int) != (q : Int)) = true := by simp; omega
        have e1 : ((j : Int) == (q : Int)) = false := by simp; omega
        have e2 : decide ((j : Int) = (q : Int)) = false := by simp; omega
        have e3 : decide (j = q) = false := by simp; omega
        clear hnx hr hkb hjq
        go_wp2_with (first | (go_at_call 18; have hM0 := hM; clear hM; (first | (with_reducible refine (HK.out _ _ _ _ hM0 (by (repeat (first | (with_reducible exact Take.head) | apply Take.tail)); first | done | fail) (by (repeat (first | (with_reducible exact Take.head) | apply Take.tail)); first | done | fail)).mono ?_) | fail); clear hM0; rintro _ w ⟨f, l, HT, rfl, hM⟩) | (first | ((with_reducible refine at_alloc' ?_); (have hM0 := hM; clear hM; refine BigFrame.wpList_want (by rfl) fun K hK => ws_alloc hM0 (t := 31) rfl #[.int .i64 0, .string ByteArray.empty] info_pkt (fun g10 w hM => hK _ _ ?_); clear hM0 hK K)) | fail) | (first | ((with_reducible refine at_store' ?_); (have hM0 := hM; clear hM; refine BigFrame.wpList_want (by rfl) fun K hK => ws_store hM0 rfl rfl rfl (by (repeat (first | (with_reducible exact Take.head) | apply Take.tail)); first | done | fail) (n := 2) (by rfl) (by rfl) (by kernel_rfl) (by simp [Value.oneCell']) (fun w hM => hK _ _ ?_); clear hM0 hK K)) | fail) | (first | ((with_reducible refine at_load' ?_); (refine BigFrame.wpList_want (by rfl) fun K hK => ws_load1 hM rfl rfl (by (repeat (first | assumption | (with_reducible exact mZ) | apply mS)); first | done | fail) (by first | rfl | assumption) (by decide +kernel) (hK _ _ ?_); clear hK K)) | fail))
        go_roundw
        case rel => exact ⟨j + 1, _, f, l, rfl, by omega, HKB, HT, hM.sel (by repeat (first | (with_reducible exact Sel.refl) | (with_reducible exact Take.head) | (with_reducible apply Take.tail) | (with_reducible apply Sel.cons) | (with_reducible apply Sel.drop)))⟩
        case measure => simp [intOf]; omega
    · obtain rfl : N = j := by omega
      have HAL : Hid (∀ (w : World) (L R1 F : List SProp), Star L w → Take (meshE a M f) L R1 → Take (rowsE l) R1 F → Calls Try.prog 31 #[mptr a] w fun e w' => e = .returned (.int .i64 0) ∧ Star (meshE a M f :: rowsE l :: F) w') := fun w L R1 F hM h1 h2 => by
        have := all_ok HB.out.ok HT.out w (hM.pull2 h1 h2)
        rwa [HB.out.all] at this
      have HLO : Hid (∀ (w : World) (L F : List SProp), Star L w → Take (meshE a M f) L F → Calls Try.prog 32 #[mptr a] w fun e w' => e = .returned (.int .i64 0) ∧ Star (meshE a M f :: F) w') := fun w L F hM h1 => lostL HB.out.lost HB.out.ok.n1 w hM h1
      go_wp2_with (first | (go_at_call 31; have hM0 := hM; clear hM; (first | (with_reducible refine (HAL.out _ _ _ _ hM0 (by (repeat (first | (with_reducible exact Take.head) | apply Take.tail)); first | done | fail) (by (repeat (first | (with_reducible exact Take.head) | apply Take.tail)); first | done | fail)).mono ?_) | fail); clear hM0; rintro _ w ⟨rfl, hM⟩) | (go_at_call 32; have hM0 := hM; clear hM; (first | (with_reducible refine (HLO.out _ _ _ hM0 (by (repeat (first | (with_reducible exact Take.head) | apply Take.tail)); first | done | fail)).mono ?_) | fail); clear hM0; rintro _ w ⟨rfl, hM⟩))
      go_ret
      exact ⟨rfl, hM.sel (by repeat (first | (with_reducible exact Sel.refl) | (with_reducible exact Take.head) | (with_reducible apply Take.tail) | (with_reducible apply Sel.cons) | (with_reducible apply Sel.drop)))⟩
end Go.Proofs.Ytbejifbiffeamaa
set_option linter.unusedSimpArgs false
set_option linter.unusedVariables false
namespace Go.Proofs.Ytbejifbiffeamaa
open Go.RowKit Go.WideShapes Go.ChangeShapes Go.ChangeAt
theorem meshCast_law (l0 : Int) (w0 : -9223372036854775808 ≤ l0) (y0 : l0 ≤ 9223372036854775807) (l1 : Int) (w1 : -9223372036854775808 ≤ l1) (y1 : l1 ≤ 9223372036854775807) (l2 : List UInt8) (w2 : l2.length ≤ 9223372036854775807) (W : World)  :
    Calls Try.prog 11 #[.int .i64 l0, .int .i64 l1, .string ⟨l2.toArray⟩] W fun r w' => r = .returned (.bool true) ∧ Ch [] W w' :=
  (meshCast_walk l0 w0 y0 l1 w1 y1 l2 w2 W (Star.start W) ).mono fun _ _ ⟨h1, h2⟩ => ⟨h1, h2.old (by (repeat (first | assumption | (with_reducible exact mZ) | apply mS)); first | done | fail)⟩
theorem meshCast_own : ownKnob Try.prog.godebug = none := by kernel_rfl
set_option maxRecDepth 100000 in
theorem meshCast_lifted (os : Os) (started : os.Started) (H : Type) (enc : TypeId × Value → H) :
    ReturnsInHanded {} Try.checked os 11 .any (Rows.meshCastSpec.pre6 enc Try.prog Try.f11 Rows.meshCastRow.domain false) (Rows.meshCastSpec.post enc Try.prog Try.f11 false true false false) := by
  refine returnsInHanded_of_change (C := Try.checked) meshCast_own started (by kernel_rfl) Try.func11
    (ChangeSpec.witness6 (enc := enc) (C := Try.checked) false ⟨#[], #[.int .i64 0, .int .i64 0, .string ByteArray.empty], []⟩ 8 (by kernel_rfl) (by kernel_rfl) (by kernel_rfl) (by kernel_rfl)) ?_
  intro W base args ds gs before hval0 hW hcnd _
  have hval : ∀ (j : Nat) t v, Try.f11.params[j]? = some t → args[j]? = some v → Value.okWide Try.prog W .any base t v := hval0
  have hW' := hW
  obtain ⟨p, q, hA0, hV, rfl, hfz, hnd⟩ := hW
  have hA : DataW.TrodAll enc Try.prog W 0 (fun _ => true) true Try.f11.params.toList args.toList ds p := hA0
  have hA1 := hA
  rw [Try.params11] at hA hval
  obtain ⟨v0, vs0, d0, ds0, p0, q0, hargs, rfl, rfl, h0, r0⟩ := trodAll_cons hA
  obtain ⟨v1, vs1, d1, ds1, p1, q1, rfl, rfl, rfl, h1, r1⟩ := trodAll_cons r0
  obtain ⟨v2, vs2, d2, ds2, p2, q2, rfl, rfl, rfl, h2, r2⟩ := trodAll_cons r1
  obtain ⟨rfl, rfl, rfl⟩ := trodAll_nil r2
  obtain rfl : args = #[v0, v1, v2] := by cases args; simp_all
  obtain ⟨rfl, rfl⟩ := trodVars_none hV
  obtain ⟨l0, rfl, w0, y0⟩ := open_i64 Try.underlying3 (hval 0 3 v0 rfl rfl) h0
  obtain ⟨l1, rfl, w1, y1⟩ := open_i64 Try.underlying3 (hval 1 3 v1 rfl rfl) h1
  obtain ⟨l2, rfl, w2⟩ := open_str Try.underlying9 (hval 2 9 v2 rfl rfl) h2
  clear hA0 hval0
  refine (meshCast_law l0 w0 y0 l1 w1 y1 l2 w2 W).mono fun e W' ⟨he, hg⟩ => ?_
  subst he
  have hlt := fun x hx => hW'.lt x hx
  exact ⟨_, rfl, post_of_below hW' (fun _ _ _ => (trodAll_cons_mk (shut_bool Try.underlying4 _) trodAll_mk0))
    (fun sp hsp => args_stay (by kernel_rfl) hg.below sp _ _ _ _ (by kernel_rfl) hA1 (fun x hx => hlt x (List.mem_append.2 (.inl hx))) (fun x hx => hsp x (List.mem_append.2 (.inl hx)))) (fun _ _ => rfl) rfl
    hg.below (ok_one (by kernel_rfl) rfl (okWide_bool_mk Try.underlying4 _))⟩
theorem meshCast_over : Rows.meshCastRow.holds Try.pinned (OpenSpec.ofChange Rows.meshCastSpec) :=
  OpenClaim.holds_of_wide 11 Try.f11 rfl rfl rfl rfl rfl rfl rfl ⟨rfl, rfl, rfl, rfl, rfl⟩ rfl rfl rfl rfl rfl (by kernel_rfl) Try.func11 (by kernel_rfl)
    (of_decide_eq_true (by kernel_rfl)) (by unfold Func.isWrapper; first | (rw [if_pos (by decide +kernel)]; kernel_rfl) | (rw [if_neg (by decide +kernel)]; exact ⟨rfl, rfl⟩))
    (fun os started H enc _ => meshCast_lifted os started H enc)
/-- THE STATEMENT -/
theorem meshCast_holds : Rows.MeshCastSaid := meshCast_over
end Go.Proofs.Ytbejifbiffeamaa
