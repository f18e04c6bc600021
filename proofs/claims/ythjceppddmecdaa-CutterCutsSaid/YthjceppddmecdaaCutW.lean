/- The walk of (*cutter.Cutter).Write. No condition but sizes. -/
import Derived.Test.YthjceppddmecdaaCut
set_option linter.unusedSimpArgs false
set_option linter.unusedVariables false
namespace Go.Proofs.Ythjceppddmecdaa
open Go.RowKit
attribute [local go_sem] extract_mid extract_drop bget bsize wrap64_u8 i64_u8 u64_u8 bappend
theorem cStep_count (t : List Nat) (st : CS) (c : UInt8) : (cStep t st c).1.length ≤ st.1.length + 1 := by
  unfold cStep
  split <;> simp
theorem cRun_count (t : List Nat) (s : List UInt8) : ∀ st : CS, (cRun t st s).1.length ≤ st.1.length + s.length := by
  induction s with
  | nil => intro st; exact Nat.le_refl _
  | cons c s ih =>
    intro st
    rw [cRun_cons, List.length_cons]
    have := ih (cStep t st c)
    have := cStep_count t st c
    omega
set_option maxRecDepth 100000 in
set_option maxHeartbeats 4000000 in
theorem cwrite_star {F : List SProp} (gt : Nat) (t : List Nat) (ht : t.length = 256) (ps : List (List UInt8)) (hps : ∀ x ∈ ps, x.length ≤ 1000000) (hnp : ps.length ≤ 1000) {gc gq : Nat} (p0 : List UInt8) (hp0 : p0.length ≤ 255) {A0 : Option Addr} {cap0 : Nat} {As : Option Addr} {cp : Nat} (w : World)
    (hM : Star (cutE gc gq A0 p0.length cap0 :: rollE gq gt (gRoll t 0 p0) p0.length :: tailE 5 1 A0 p0.length cap0 (bvs p0) :: F) w) (hT : tabE gt t ∈ F) (hF : rowE 1 As ps.length (svs ps) ∈ F) :
    Calls Try.prog 34 #[.pointer (some ⟨gc, 0, none⟩), .slice As ps.length cp] w fun r w' => ∃ B cb A cap, r = .returned (.slice B (cRun t ([], p0) (cat ps)).1.length cb) ∧
      Star (tailE 9 1 B (cRun t ([], p0) (cat ps)).1.length cb (svs (cRun t ([], p0) (cat ps)).1) :: cutE gc gq A (cRun t ([], p0) (cat ps)).2.length cap :: rollE gq gt (gRoll t 0 (cRun t ([], p0) (cat ps)).2) (cRun t ([], p0) (cat ps)).2.length :: tailE 5 1 A (cRun t ([], p0) (cat ps)).2.length cap (bvs (cRun t ([], p0) (cat ps)).2) :: F) w' := by
  replace hM := hM.niltail 9 1
  obtain ⟨S, hS⟩ : ∃ S, S = cRun t ([], p0) (cat ps) := ⟨_, rfl⟩
  rw [← hS]
  have HS0 := Lib.hid hS
  clear hS
  have HT := Lib.hid ht
  have HP := Lib.hid hps
  have HP0 := Lib.hid hp0
  clear ht hps hp0
  go_enter Try.func34, Try.ntmps34
  go_wp2
  go_loopw [5, 13] (fun ov i wr => ∃ (k : Nat) (B : Option Addr) (cb : Nat) (A : Option Addr) (cap : Nat) (o : List (List UInt8)) (p : List UInt8), k ≤ ps.length ∧ i = .int .i64 k ∧ ov = .slice B o.length cb ∧ Hid ((o, p) = cRun t ([], p0) (cat (ps.take k))) ∧
    Star (tailE 9 1 B o.length cb (svs o) :: cutE gc gq A p.length cap :: rollE gq gt (gRoll t 0 p) p.length :: tailE 5 1 A p.length cap (bvs p) :: F) wr) (fun _ i _ => ps.length - (intOf i).toNat)
  case atStart => exact ⟨0, none, 0, A0, cap0, [], p0, by omega, rfl, rfl, (by show _ = _; rw [List.take_zero]; rfl), hM⟩
  case round =>
    clear hM
    obtain ⟨k, B, cb, A, cap, o, p, hk, rfl, rfl, hst, hM⟩ := hrel
    by_cases hlt : k < ps.length
    · obtain ⟨ad, d, rfl, hv, hg, htk⟩ := hM.elemS (A := As) (n := ps.length) (l := ps) (by simp [hF]) hlt
      have hdl := HP.out d (List.mem_of_getElem? hg)
      have hct := cat_take_le 1000000 ps HP.out k
      have hoc := cRun_count t (cat (ps.take k)) ([], p0)
      rw [← hst.out] at hoc
      have hol : o.length ≤ 1000000000 := by
        have : 1000000 * ps.length ≤ 1000000 * 1000 := Nat.mul_le_mul_left _ hnp
        simp only [List.length_nil, Nat.zero_add] at hoc
        omega
      have hpl : p.length ≤ 255 := by have := cRun_part t (cat (ps.take k)) [] p0 HP0.out; rw [← hst.out] at this; exact this
      have HTK := Lib.hid (cat_take_snoc htk)
      clear hct hoc htk hg
      go_wp2_with (first | (first | (refine BigFrame.wpList_want (by rfl) fun K hK => ws_rowload rfl rfl (by first | (apply Star.row hM; (repeat (first | assumption | (with_reducible exact List.mem_cons_self) | apply List.mem_cons_of_mem)); done) | (apply Star.own hM; (repeat (first | assumption | (with_reducible exact List.mem_cons_self) | apply List.mem_cons_of_mem)); done) | (apply Star.arr hM; (focus ((repeat (first | assumption | (with_reducible exact List.mem_cons_self) | apply List.mem_cons_of_mem)); done)); assumption)) (by assumption) (by kernel_rfl) (hK _ _ ?_); clear hK K) | fail) | (first | (have hM0 := hM; clear hM; refine BigFrame.wpList_want (by rfl) fun K hK => ws_bytes hM0 rfl 5 Try.underlying9 Try.underlying63 Try.underlying5 rfl (fun g c w hM hcap => hK _ _ ?_); clear hM0 hK K) | fail))
      obtain ⟨wq, rfl⟩ : ∃ wq : World, wq = w := ⟨_, rfl⟩
      go_loopw [5, 20] (fun ov j wx => ∃ (m : Nat) (B : Option Addr) (cb : Nat) (A : Option Addr) (cap : Nat) (o1 : List (List UInt8)) (p1 : List UInt8), m ≤ d.length ∧ j = .int .i64 m ∧ ov = .slice B o1.length cb ∧ Hid ((o1, p1) = cRun t (o, p) (d.take m)) ∧
        Star (tailE 9 1 B o1.length cb (svs o1) :: cutE gc gq A p1.length cap :: rollE gq gt (gRoll t 0 p1) p1.length :: tailE 5 1 A p1.length cap (bvs p1) :: rowE 1 (some ⟨g, 0, none⟩) d.length (bvs d) :: F) wx) (fun _ j _ => d.length - (intOf j).toNat)
      case atStart => exact ⟨0, B, cb, A, cap, o, p, by omega, rfl, rfl, (by show _ = _; rw [List.take_zero]; rfl), hM.sel (by repeat (first | (with_reducible exact Sel.refl) | (with_reducible exact Take.head) | (with_reducible apply Take.tail) | (with_reducible apply Sel.cons) | (with_reducible apply Sel.drop)))⟩
      case round =>
        clear hM
        obtain ⟨m, B, cb, A, cap, o1, p1, hm, rfl, rfl, hst1, hM⟩ := hrel
        by_cases hlt2 : m < d.length
        · obtain ⟨e, he⟩ : ∃ e, d[m]? = some e := ⟨_, List.getElem?_eq_getElem hlt2⟩
          have hv := bvs_at he
          have HR : Hid (gStep t (gRoll t 0 p1) e = gRoll t 0 (p1 ++ [e])) := by show _ = _; rw [gRoll_snoc]
          have HS : Hid (cRun t (o, p) (d.take (m + 1)) = cStep t (o1, p1) e) := by show _ = _; rw [take_snoc_at _ _ _ he, cRun_snoc, ← hst1.out]
          have hpl1 : p1.length ≤ 255 := by have := cRun_part t (d.take m) o p hpl; rw [← hst1.out] at this; exact this
          have hol1 : o1.length ≤ 2000000000 := by
            have := cRun_count t (d.take m) (o, p)
            rw [← hst1.out, List.length_take] at this
            simp only at this
            omega
          have HEN : ∀ {L : List SProp} (w : World), Star L w → Calls Try.prog 50 #[.int .i64 ((p1.length : Int) + 1), .int .u64 (gStep t (gRoll t 0 p1) e)] w fun r w' => r = .returned (.bool (cEnd (p1.length + 1) (gRoll t 0 (p1 ++ [e])))) ∧ Star L w' := fun w hM => by
            have := ends_star (p1.length + 1) (gStep t (gRoll t 0 p1) e) (gStep_lt _ _ _) w hM
            rw [HR.out] at this ⊢
            exact this
          obtain ⟨p2, hp2⟩ : ∃ p2, p2 = p1 ++ [e] := ⟨_, rfl⟩
          have HP2 := Lib.hid hp2
          have HL2 : Hid (p2.length = p1.length + 1) := by show _ = _; rw [hp2]; simp
          rw [← hp2] at HR HEN
          clear he hp2
          cases hE : cEnd (p1.length + 1) (gRoll t 0 p2) with
          | true =>
            have HS2 : Hid (cRun t (o, p) (d.take (m + 1)) = (o1 ++ [p2], [])) := by show _ = _; rw [HS.out, cStep_yes (by rw [← HP2.out]; exact hE), ← HP2.out]
            rw [hE] at HEN
            clear hE HS
            go_wp2_with (first | (first | (refine BigFrame.wpList_want (by rfl) fun K hK => ws_rowload0 rfl rfl (by first | (apply Star.row hM; (repeat (first | assumption | (with_reducible exact List.mem_cons_self) | apply List.mem_cons_of_mem)); done) | (apply Star.own hM; (repeat (first | assumption | (with_reducible exact List.mem_cons_self) | apply List.mem_cons_of_mem)); done) | (apply Star.arr hM; (focus ((repeat (first | assumption | (with_reducible exact List.mem_cons_self) | apply List.mem_cons_of_mem)); done)); assumption)) (by assumption) (by kernel_rfl) (hK _ _ ?_); clear hK K) | fail) | (first | (refine BigFrame.wpList_want (by rfl) fun K hK => ws_load1 hM rfl rfl (by (repeat (first | assumption | (with_reducible exact List.mem_cons_self) | apply List.mem_cons_of_mem)); first | done | fail) (by first | rfl | assumption) (by decide +kernel) (hK _ _ ?_); clear hK K) | fail) | (first | (have hM0 := hM; clear hM; refine BigFrame.wpList_want (by rfl) fun K hK => ws_slice_row hM0 (n := 1) rfl 5 1 (.int .u8 0) [bv e] Try.underlying63 (by kernel_rfl) rfl (by simp [Value.cells, iv, sv, bv]) (by rfl) (by decide) (cs := bvs [e]) (by rfl) (fun gr w hM => hK _ _ ?_); clear hM0 hK K) | fail) | (first | (have hM0 := hM; clear hM; refine BigFrame.wpList_want (by rfl) fun K hK => ws_app hM0 rfl rfl 5 ((.int .u8 0)) 1 1 Try.underlying63 (by kernel_rfl) (by rfl) (by (repeat (first | (with_reducible exact Take.head) | apply Take.tail)); first | done | fail) (src_row Try.underlying63 _ (hM0.row (by (repeat (first | assumption | (with_reducible exact List.mem_cons_self) | apply List.mem_cons_of_mem)); first | done | fail)) (bvs_oneCell _)) ((by omega)) (fun A3 c3 w hM => hK _ _ ?_); clear hM0 hK K; (try simp only [Nat.zero_add, Nat.add_zero, List.nil_append, List.append_nil, ← bvs_app] at hM)) | fail) | (first | (have hM0 := hM; clear hM; refine BigFrame.wpList_want (by rfl) fun K hK => ws_store1 hM0 rfl rfl (by go_simp; rfl) (by first | rfl | assumption) (by (repeat (first | (with_reducible exact Take.head) | apply Take.tail)); first | done | fail) (by simp) (by kernel_rfl) (by simp only [List.setIfInBounds_toArray, List.set_cons_zero, List.set_cons_succ]; rfl) (fun w hM => hK _ _ ?_); clear hM0 hK K) | fail) | (go_at_call 49; have hM0 := hM; clear hM; (first | (with_reducible refine (gnext_star (n := p1.length) e HT.out (by omega) _ hM0 (by (repeat (first | (with_reducible exact Take.head) | apply Take.tail)); first | done | fail) (by (repeat (first | assumption | (with_reducible exact List.mem_cons_self) | apply List.mem_cons_of_mem)); first | done | fail)).mono ?_) | fail); clear hM0; rintro _ w ⟨rfl, hM⟩) | (go_at_call 51; have hM0 := hM; clear hM; (first | (with_reducible refine (gcount_star _ hM0 (by (repeat (first | assumption | (with_reducible exact List.mem_cons_self) | apply List.mem_cons_of_mem)); first | done | fail)).mono ?_) | fail); clear hM0; rintro _ w ⟨rfl, hM⟩) | (go_at_call 50; have hM0 := hM; clear hM; (first | (with_reducible refine (HEN _ hM0).mono ?_) | fail); clear hM0; rintro _ w ⟨rfl, hM⟩))
            rw [← HP2.out] at hM
            go_wp2_with (first | (go_at_call 52; have hM0 := hM; clear hM; (first | (with_reducible refine (ctake_star p2 _ hM0 (by (repeat (first | (with_reducible exact Take.head) | apply Take.tail)); first | done | fail) (by (repeat (first | (with_reducible exact Take.head) | apply Take.tail)); first | done | fail) (by (repeat (first | (with_reducible exact Take.head) | apply Take.tail)); first | done | fail)).mono ?_) | fail); clear hM0; rintro _ w ⟨rfl, hM⟩) | (first | (have hM0 := hM; clear hM; refine BigFrame.wpList_want (by rfl) fun K hK => ws_slice_row hM0 (n := 1) rfl 9 1 (.string ByteArray.empty) [sv p2] Try.underlying41 (by kernel_rfl) rfl (by simp [Value.cells, iv, sv, bv]) (by rfl) (by decide) (cs := svs [p2]) (by rfl) (fun gs w hM => hK _ _ ?_); clear hM0 hK K) | fail) | (first | (have hM0 := hM; clear hM; refine BigFrame.wpList_want (by rfl) fun K hK => ws_app hM0 rfl rfl 9 ((.string ByteArray.empty)) 1 16 Try.underlying41 (by kernel_rfl) (by rfl) (by (repeat (first | (with_reducible exact Take.head) | apply Take.tail)); first | done | fail) (src_row Try.underlying41 _ (hM0.row (by (repeat (first | assumption | (with_reducible exact List.mem_cons_self) | apply List.mem_cons_of_mem)); first | done | fail)) (svs_one _)) ((by omega)) (fun A4 c4 w hM => hK _ _ ?_); clear hM0 hK K; (try simp only [Nat.zero_add, Nat.add_zero, List.nil_append, List.append_nil, ← bvs_app] at hM)) | fail))
            go_roundw
            case rel => exact ⟨m + 1, A4, c4, A3, c3, o1 ++ [p2], [], by omega, by go_num, by simp, HS2.out.symm, by rw [svs_app, List.length_append, List.length_singleton]; exact (hM.sel (by repeat (first | (with_reducible exact Sel.refl) | (with_reducible exact Take.head) | (with_reducible apply Take.tail) | (with_reducible apply Sel.cons) | (with_reducible apply Sel.drop))) : Star (tailE 9 1 A4 (o1.length + 1) c4 (svs o1 ++ svs [p2]) :: cutE gc gq A3 0 c3 :: rollE gq gt 0 0 :: tailE 5 1 A3 0 c3 [] :: rowE 1 (some ⟨g, 0, none⟩) d.length (bvs d) :: F) _)⟩
            case measure => simp [intOf]; omega
          | false =>
            have HS2 : Hid (cRun t (o, p) (d.take (m + 1)) = (o1, p2)) := by show _ = _; rw [HS.out, cStep_no (by rw [← HP2.out]; exact hE), ← HP2.out]
            rw [hE] at HEN
            clear hE HS
            go_wp2_with (first | (first | (refine BigFrame.wpList_want (by rfl) fun K hK => ws_rowload0 rfl rfl (by first | (apply Star.row hM; (repeat (first | assumption | (with_reducible exact List.mem_cons_self) | apply List.mem_cons_of_mem)); done) | (apply Star.own hM; (repeat (first | assumption | (with_reducible exact List.mem_cons_self) | apply List.mem_cons_of_mem)); done) | (apply Star.arr hM; (focus ((repeat (first | assumption | (with_reducible exact List.mem_cons_self) | apply List.mem_cons_of_mem)); done)); assumption)) (by assumption) (by kernel_rfl) (hK _ _ ?_); clear hK K) | fail) | (first | (refine BigFrame.wpList_want (by rfl) fun K hK => ws_load1 hM rfl rfl (by (repeat (first | assumption | (with_reducible exact List.mem_cons_self) | apply List.mem_cons_of_mem)); first | done | fail) (by first | rfl | assumption) (by decide +kernel) (hK _ _ ?_); clear hK K) | fail) | (first | (have hM0 := hM; clear hM; refine BigFrame.wpList_want (by rfl) fun K hK => ws_slice_row hM0 (n := 1) rfl 5 1 (.int .u8 0) [bv e] Try.underlying63 (by kernel_rfl) rfl (by simp [Value.cells, iv, sv, bv]) (by rfl) (by decide) (cs := bvs [e]) (by rfl) (fun gr w hM => hK _ _ ?_); clear hM0 hK K) | fail) | (first | (have hM0 := hM; clear hM; refine BigFrame.wpList_want (by rfl) fun K hK => ws_app hM0 rfl rfl 5 ((.int .u8 0)) 1 1 Try.underlying63 (by kernel_rfl) (by rfl) (by (repeat (first | (with_reducible exact Take.head) | apply Take.tail)); first | done | fail) (src_row Try.underlying63 _ (hM0.row (by (repeat (first | assumption | (with_reducible exact List.mem_cons_self) | apply List.mem_cons_of_mem)); first | done | fail)) (bvs_oneCell _)) ((by omega)) (fun A3 c3 w hM => hK _ _ ?_); clear hM0 hK K; (try simp only [Nat.zero_add, Nat.add_zero, List.nil_append, List.append_nil, ← bvs_app] at hM)) | fail) | (first | (have hM0 := hM; clear hM; refine BigFrame.wpList_want (by rfl) fun K hK => ws_store1 hM0 rfl rfl (by go_simp; rfl) (by first | rfl | assumption) (by (repeat (first | (with_reducible exact Take.head) | apply Take.tail)); first | done | fail) (by simp) (by kernel_rfl) (by simp only [List.setIfInBounds_toArray, List.set_cons_zero, List.set_cons_succ]; rfl) (fun w hM => hK _ _ ?_); clear hM0 hK K) | fail) | (go_at_call 49; have hM0 := hM; clear hM; (first | (with_reducible refine (gnext_star (n := p1.length) e HT.out (by omega) _ hM0 (by (repeat (first | (with_reducible exact Take.head) | apply Take.tail)); first | done | fail) (by (repeat (first | assumption | (with_reducible exact List.mem_cons_self) | apply List.mem_cons_of_mem)); first | done | fail)).mono ?_) | fail); clear hM0; rintro _ w ⟨rfl, hM⟩) | (go_at_call 51; have hM0 := hM; clear hM; (first | (with_reducible refine (gcount_star _ hM0 (by (repeat (first | assumption | (with_reducible exact List.mem_cons_self) | apply List.mem_cons_of_mem)); first | done | fail)).mono ?_) | fail); clear hM0; rintro _ w ⟨rfl, hM⟩) | (go_at_call 50; have hM0 := hM; clear hM; (first | (with_reducible refine (HEN _ hM0).mono ?_) | fail); clear hM0; rintro _ w ⟨rfl, hM⟩))
            rw [← HP2.out, HR.out] at hM
            go_roundw
            case rel => exact ⟨m + 1, B, cb, A3, c3, o1, p2, by omega, by go_num, rfl, HS2.out.symm, by rw [HL2.out]; exact hM.sel (by repeat (first | (with_reducible exact Sel.refl) | (with_reducible exact Take.head) | (with_reducible apply Take.tail) | (with_reducible apply Sel.cons) | (with_reducible apply Sel.drop)))⟩
            case measure => simp [intOf]; omega
        · obtain rfl : m = d.length := by omega
          have HS : Hid ((o1, p1) = cRun t ([], p0) (cat (ps.take (k + 1)))) := by show _ = _; rw [HTK.out, cRun_app, ← hst.out, hst1.out, List.take_length]
          go_wp2
          go_roundw
          case rel => exact ⟨k + 1, B, cb, A, cap, o1, p1, by omega, by go_num, rfl, HS, hM.sel (by repeat (first | (with_reducible exact Sel.refl) | (with_reducible exact Take.head) | (with_reducible apply Take.tail) | (with_reducible apply Sel.cons) | (with_reducible apply Sel.drop)))⟩
          case measure => simp [intOf]; omega
    · obtain rfl : k = ps.length := by omega
      have hst2 := hst.out
      rw [List.take_length, ← HS0.out] at hst2
      subst hst2
      go_wp2
      go_ret
      exact ⟨B, cb, rfl, A, cap, hM⟩
end Go.Proofs.Ythjceppddmecdaa
