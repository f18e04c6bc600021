/- The statement SectorEdge, from its walk. No condition but those that each theorem names. -/
import Derived.Test.YtbejifbiffeamaaS2
set_option linter.unusedSimpArgs false
set_option linter.unusedVariables false
namespace Go.Proofs.Ytbejifbiffeamaa
open Go.RowKit
attribute [local go_sem] extract_mid extract_drop bget bsize wrap64_u8 i64_u8 u64_u8 bappend
theorem mkrow {L : List SProp} {w : World} {g m : Nat} (h : Star (cellsE g 9 (List.replicate m (Value.string ByteArray.empty)).toArray :: L) w) : Star (rowE 1 (some ⟨g, 0, none⟩) m (svs (List.replicate m [])) :: L) w := by
  have h2 := h.row_of_blk (n := m) (size := 1) (by simp)
  rw [List.toList_toArray] at h2
  have e : List.replicate m (Value.string ByteArray.empty) = svs (List.replicate m []) := by
    unfold svs
    rw [List.map_replicate]
    rfl
  rwa [e] at h2
theorem mkrow0 {L : List SProp} {w : World} {g : Nat} (h : Star (cellsE g 9 (List.replicate 0 (Value.string ByteArray.empty)).toArray :: L) w) : Star (rowE 1 (some ⟨g, 0, none⟩) 0 (svs []) :: L) w := mkrow h
theorem nobig_empty (m : Nat) : anyBig (List.replicate m []) = false := by
  unfold anyBig
  refine List.any_eq_false.2 fun s hs => ?_
  rw [(List.mem_replicate.1 hs).2]
  simp
section
variable {F : List SProp} {a : DA} {D : Dsk}
/-- A Write of no texts, wherever. -/
theorem write_none (h : D.ok) (hf : D.armed = false) (x : Int) {A : Option Addr} {c : Nat} (w : World) (hM : Star (diskE a D :: F) w) (hF : rowE 1 A 0 (svs []) ∈ F) :
    Calls Try.prog 22 #[dptr a, .int .i64 x, .slice A 0 c] w fun r w' => ∃ (q : Int) (D' : Dsk), r = .returned (.int .i64 q) ∧ Star (diskE a D' :: F) w' := by
  cases hi : inD D.sure.length x 0
  · exact (write_out (ts := []) (n := 0) h x hi w hM).mono fun _ _ ⟨e, h⟩ => ⟨_, _, e, h⟩
  · obtain ⟨at_, m, e1, e2, e3⟩ := (inD_iff _ _ _ (by omega)).1 hi
    have := write_u (x := x) (ts := []) (n := 0) (c := c) at_ e1 h (by omega) (by decide) hf w hM hF
    exact this.mono fun _ _ ⟨D', _, e, h⟩ => ⟨_, D', e, h⟩
end
set_option maxRecDepth 100000 in
set_option maxHeartbeats 8000000 in
theorem sectorEdge_walk {F : List SProp} (size : Int) (_s1 : -9223372036854775808 ≤ size) (_s2 : size ≤ 9223372036854775807) (x : Int) (x1 : -9223372036854775808 ≤ x) (x2 : x ≤ 9223372036854775807) (n : Int) (n1 : -9223372036854775808 ≤ n) (n2 : n ≤ 9223372036854775807) (w : World) (hM : Star F w) :
    Calls Try.prog 7 #[.int .i64 size, .int .i64 x, .int .i64 n] w fun r w' => r = .returned (.bool true) ∧ Star F w' := by
  obtain ⟨N, hN⟩ : ∃ N : Nat, min (max size 0) 40 = (N : Int) := ⟨(min (max size 0) 40).toNat, by omega⟩
  have hN40 : N ≤ 40 := by omega
  by_cases hbig : 1000 < n
  · go_enter Try.func7, Try.ntmps7
    go_wp2_with (first | (go_at_call 19; have hM0 := hM; clear hM; (first | (with_reducible refine (awake03 _ hM0).mono ?_) | fail); clear hM0; rintro _ w ⟨rfl, hM⟩))
    go_ret
    exact ⟨rfl, hM⟩
  · have HNW : Hid (∀ (L : List SProp) (w : World), Star L w → Calls Try.prog 20 #[.int .i64 (N : Int)] w fun r w' => ∃ (a : DA) (D : Dsk), Hid (NPost D N) ∧ r = .returned (dptr a) ∧ Star (diskE a D :: L) w') := fun L w hM => new_u (N := N) (by omega) w hM
    by_cases hn0 : n < 0
    · have hm : max n 0 = ((0 : Nat) : Int) := by omega
      have hm2 : (if n < 0 then (0 : Int) else n) = ((0 : Nat) : Int) := by rw [if_pos hn0]; rfl
      obtain ⟨m, hm0⟩ : ∃ m : Nat, m = 0 := ⟨_, rfl⟩
      go_enter Try.func7, Try.ntmps7
      go_wp2_with (first | (go_at_call 19; have hM0 := hM; clear hM; (first | (with_reducible refine (awake03 _ hM0).mono ?_) | fail); clear hM0; rintro _ w ⟨rfl, hM⟩) | (go_at_call 20; have hM0 := hM; clear hM; (first | (with_reducible refine (HNW.out _ _ hM0).mono ?_) | fail); clear hM0; rintro _ w ⟨a, D0, h0, rfl, hM⟩) | (go_at_call 24; have hM0 := hM; clear hM; (first | (with_reducible refine (read_neg x n hn0 _ hM0).mono ?_) | fail); clear hM0; rintro _ w ⟨rfl, hM⟩) | ((first | ((with_reducible refine at_make' ?_); (have hM0 := hM; clear hM; refine BigFrame.wpList_want (by rfl) fun K hK => ws_make8 hM0 rfl 9 ((.string ByteArray.empty)) 16 Try.underlying22 (by kernel_rfl) rfl (by decide) (n := 0) rfl rfl (by omega) (fun g w hM => hK _ _ ?_); clear hM0 hK K)) | fail); replace hM := mkrow0 hM) | (go_at_call 22; have hM0 := hM; clear hM; (first | (with_reducible refine (write_none h0.out.ok h0.out.armed x _ (hM0.take (x := diskE a D0) (by (repeat (first | (with_reducible exact Take.head) | apply Take.tail)); first | done | fail)) (by (repeat (first | assumption | (with_reducible exact mZ) | apply mS)); first | done | fail)).mono ?_) | fail); clear hM0; rintro _ w ⟨q, D1, rfl, hM⟩))
      go_ret
      exact ⟨rfl, hM.sel (by repeat (first | (with_reducible exact Sel.refl) | (with_reducible exact Take.head) | (with_reducible apply Take.tail) | (with_reducible apply Sel.cons) | (with_reducible apply Sel.drop)))⟩
    · obtain ⟨m, rfl⟩ : ∃ m : Nat, n = m := ⟨n.toNat, by omega⟩
      have hm : max (m : Int) 0 = (m : Int) := by omega
      have hm1000 : m ≤ 1000 := by omega
      by_cases hx0 : x < 0
      · have hin : inD N x m = false := by unfold inD; simp; omega
        have HIN := Lib.hid hin
        clear hin
        go_enter Try.func7, Try.ntmps7
        go_wp2_with (first | (go_at_call 19; have hM0 := hM; clear hM; (first | (with_reducible refine (awake03 _ hM0).mono ?_) | fail); clear hM0; rintro _ w ⟨rfl, hM⟩) | (go_at_call 20; have hM0 := hM; clear hM; (first | (with_reducible refine (HNW.out _ _ hM0).mono ?_) | fail); clear hM0; rintro _ w ⟨a, D0, h0, rfl, hM⟩) | (go_at_call 24; have hM0 := hM; clear hM; (first | (with_reducible refine (read_out h0.out.ok x m (by omega) (by rw [h0.out.len]; exact HIN.out) _ (hM0.take (x := diskE a D0) (by (repeat (first | (with_reducible exact Take.head) | apply Take.tail)); first | done | fail))).mono ?_) | fail); clear hM0; rintro _ w ⟨rfl, hM⟩) | ((first | ((with_reducible refine at_make' ?_); (have hM0 := hM; clear hM; refine BigFrame.wpList_want (by rfl) fun K hK => ws_make8 hM0 rfl 9 ((.string ByteArray.empty)) 16 Try.underlying22 (by kernel_rfl) rfl (by decide) (n := m) rfl rfl (by omega) (fun g w hM => hK _ _ ?_); clear hM0 hK K)) | fail); replace hM := mkrow hM) | (go_at_call 22; have hM0 := hM; clear hM; (first | (with_reducible refine (write_out (ts := List.replicate m []) (n := m) h0.out.ok x (by rw [h0.out.len]; exact HIN.out) _ (hM0.take (x := diskE a D0) (by (repeat (first | (with_reducible exact Take.head) | apply Take.tail)); first | done | fail))).mono ?_) | fail); clear hM0; rintro _ w ⟨rfl, hM⟩))
        go_ret
        exact ⟨rfl, hM.sel (by repeat (first | (with_reducible exact Sel.refl) | (with_reducible exact Take.head) | (with_reducible apply Take.tail) | (with_reducible apply Sel.cons) | (with_reducible apply Sel.drop)))⟩
      · obtain ⟨q, rfl⟩ : ∃ q : Nat, x = q := ⟨x.toNat, by omega⟩
        by_cases hq : q ≤ N
        · by_cases hin : q + m ≤ N
          · have hmn : min (q : Int) (N : Int) = (q : Int) := by omega
            have hle : (m : Int) ≤ (N : Int) - (q : Int) := by omega
            have hr64 : ((m : Nat) : Int) * 64 = ((64 * m : Nat) : Int) := by omega
            have HRL : Hid (∀ D : Dsk, D.ok → D.sure.length = N → (rdD D q m).length = 64 * m) := fun D h e => rdD_len h q m (by omega)
            go_enter Try.func7, Try.ntmps7
            go_wp2_with (first | (go_at_call 19; have hM0 := hM; clear hM; (first | (with_reducible refine (awake03 _ hM0).mono ?_) | fail); clear hM0; rintro _ w ⟨rfl, hM⟩) | (go_at_call 20; have hM0 := hM; clear hM; (first | (with_reducible refine (HNW.out _ _ hM0).mono ?_) | fail); clear hM0; rintro _ w ⟨a, D0, h0, rfl, hM⟩) | ((go_at_call 24; have hM0 := hM; clear hM; (first | (with_reducible refine (read_u (x := (q : Int)) (y := (m : Int)) q m rfl rfl h0.out.ok (by rw [h0.out.len]; exact hin) h0.out.armed _ (hM0.take (x := diskE a D0) (by (repeat (first | (with_reducible exact Take.head) | apply Take.tail)); first | done | fail))).mono ?_) | fail); clear hM0; rintro _ w ⟨D1, h1, rfl, hM⟩); have hlen := HRL.out D0 h0.out.ok h0.out.len; obtain ⟨s, hs⟩ : ∃ s, rdD D0 q m = s := ⟨_, rfl⟩; rw [hs] at hlen ⊢; clear hs) | ((first | ((with_reducible refine at_make' ?_); (have hM0 := hM; clear hM; refine BigFrame.wpList_want (by rfl) fun K hK => ws_make8 hM0 rfl 9 ((.string ByteArray.empty)) 16 Try.underlying22 (by kernel_rfl) rfl (by decide) (n := m) rfl rfl (by omega) (fun g w hM => hK _ _ ?_); clear hM0 hK K)) | fail); replace hM := mkrow hM) | (go_at_call 22; have hM0 := hM; clear hM; (first | (with_reducible refine (write_u (x := (q : Int)) (ts := List.replicate m []) (n := m) q rfl h1.out.ok (by rw [h1.out.sure, h0.out.len]; exact hin) (nobig_empty m) (h1.out.armed.trans h0.out.armed) _ (hM0.take (x := diskE a D1) (by (repeat (first | (with_reducible exact Take.head) | apply Take.tail)); first | done | fail)) (by (repeat (first | assumption | (with_reducible exact mZ) | apply mS)); first | done | fail)).mono ?_) | fail); clear hM0; rintro _ w ⟨D2, h2, rfl, hM⟩))
            go_ret
            exact ⟨rfl, hM.sel (by repeat (first | (with_reducible exact Sel.refl) | (with_reducible exact Take.head) | (with_reducible apply Take.tail) | (with_reducible apply Sel.cons) | (with_reducible apply Sel.drop)))⟩
          · have hmn : min (q : Int) (N : Int) = (q : Int) := by omega
            have hle : decide ((m : Int) ≤ (N : Int) - (q : Int)) = false := by simp; omega
            have hle2 : ¬ ((m : Int) ≤ (N : Int) - (q : Int)) := by omega
            have HIN : Hid (inD N (q : Int) m = false) := by show _ = _; unfold inD; simp; omega
            go_enter Try.func7, Try.ntmps7
            go_wp2_with (first | (go_at_call 19; have hM0 := hM; clear hM; (first | (with_reducible refine (awake03 _ hM0).mono ?_) | fail); clear hM0; rintro _ w ⟨rfl, hM⟩) | (go_at_call 20; have hM0 := hM; clear hM; (first | (with_reducible refine (HNW.out _ _ hM0).mono ?_) | fail); clear hM0; rintro _ w ⟨a, D0, h0, rfl, hM⟩) | (go_at_call 24; have hM0 := hM; clear hM; (first | (with_reducible refine (read_out h0.out.ok (q : Int) m (by omega) (by rw [h0.out.len]; exact HIN.out) _ (hM0.take (x := diskE a D0) (by (repeat (first | (with_reducible exact Take.head) | apply Take.tail)); first | done | fail))).mono ?_) | fail); clear hM0; rintro _ w ⟨rfl, hM⟩) | ((first | ((with_reducible refine at_make' ?_); (have hM0 := hM; clear hM; refine BigFrame.wpList_want (by rfl) fun K hK => ws_make8 hM0 rfl 9 ((.string ByteArray.empty)) 16 Try.underlying22 (by kernel_rfl) rfl (by decide) (n := m) rfl rfl (by omega) (fun g w hM => hK _ _ ?_); clear hM0 hK K)) | fail); replace hM := mkrow hM) | (go_at_call 22; have hM0 := hM; clear hM; (first | (with_reducible refine (write_out (ts := List.replicate m []) (n := m) h0.out.ok (q : Int) (by rw [h0.out.len]; exact HIN.out) _ (hM0.take (x := diskE a D0) (by (repeat (first | (with_reducible exact Take.head) | apply Take.tail)); first | done | fail))).mono ?_) | fail); clear hM0; rintro _ w ⟨rfl, hM⟩))
            go_ret
            exact ⟨rfl, hM.sel (by repeat (first | (with_reducible exact Sel.refl) | (with_reducible exact Take.head) | (with_reducible apply Take.tail) | (with_reducible apply Sel.cons) | (with_reducible apply Sel.drop)))⟩
        · have HIN : Hid (inD N (q : Int) m = false) := by show _ = _; unfold inD; simp; omega
          have hq2 : decide ((q : Int) ≤ (N : Int)) = false := by simp; omega
          go_enter Try.func7, Try.ntmps7
          go_wp2_with (first | (go_at_call 19; have hM0 := hM; clear hM; (first | (with_reducible refine (awake03 _ hM0).mono ?_) | fail); clear hM0; rintro _ w ⟨rfl, hM⟩) | (go_at_call 20; have hM0 := hM; clear hM; (first | (with_reducible refine (HNW.out _ _ hM0).mono ?_) | fail); clear hM0; rintro _ w ⟨a, D0, h0, rfl, hM⟩) | (go_at_call 24; have hM0 := hM; clear hM; (first | (with_reducible refine (read_out h0.out.ok (q : Int) m (by omega) (by rw [h0.out.len]; exact HIN.out) _ (hM0.take (x := diskE a D0) (by (repeat (first | (with_reducible exact Take.head) | apply Take.tail)); first | done | fail))).mono ?_) | fail); clear hM0; rintro _ w ⟨rfl, hM⟩) | ((first | ((with_reducible refine at_make' ?_); (have hM0 := hM; clear hM; refine BigFrame.wpList_want (by rfl) fun K hK => ws_make8 hM0 rfl 9 ((.string ByteArray.empty)) 16 Try.underlying22 (by kernel_rfl) rfl (by decide) (n := m) rfl rfl (by omega) (fun g w hM => hK _ _ ?_); clear hM0 hK K)) | fail); replace hM := mkrow hM) | (go_at_call 22; have hM0 := hM; clear hM; (first | (with_reducible refine (write_out (ts := List.replicate m []) (n := m) h0.out.ok (q : Int) (by rw [h0.out.len]; exact HIN.out) _ (hM0.take (x := diskE a D0) (by (repeat (first | (with_reducible exact Take.head) | apply Take.tail)); first | done | fail))).mono ?_) | fail); clear hM0; rintro _ w ⟨rfl, hM⟩))
          go_ret
          exact ⟨rfl, hM.sel (by repeat (first | (with_reducible exact Sel.refl) | (with_reducible exact Take.head) | (with_reducible apply Take.tail) | (with_reducible apply Sel.cons) | (with_reducible apply Sel.drop)))⟩
end Go.Proofs.Ytbejifbiffeamaa
set_option linter.unusedSimpArgs false
set_option linter.unusedVariables false
namespace Go.Proofs.Ytbejifbiffeamaa
open Go.RowKit Go.WideShapes Go.ChangeShapes Go.ChangeAt
theorem sectorEdge_law (l0 : Int) (w0 : -9223372036854775808 ≤ l0) (y0 : l0 ≤ 9223372036854775807) (l1 : Int) (w1 : -9223372036854775808 ≤ l1) (y1 : l1 ≤ 9223372036854775807) (l2 : Int) (w2 : -9223372036854775808 ≤ l2) (y2 : l2 ≤ 9223372036854775807) (W : World)  :
    Calls Try.prog 7 #[.int .i64 l0, .int .i64 l1, .int .i64 l2] W fun r w' => r = .returned (.bool true) ∧ Ch [] W w' :=
  (sectorEdge_walk l0 w0 y0 l1 w1 y1 l2 w2 y2 W (Star.start W) ).mono fun _ _ ⟨h1, h2⟩ => ⟨h1, h2.old (by (repeat (first | assumption | (with_reducible exact mZ) | apply mS)); first | done | fail)⟩
theorem sectorEdge_own : ownKnob Try.prog.godebug = none := by kernel_rfl
set_option maxRecDepth 100000 in
theorem sectorEdge_lifted (os : Os) (started : os.Started) (H : Type) (enc : TypeId × Value → H) :
    ReturnsInHanded {} Try.checked os 7 .any (Rows.sectorEdgeSpec.pre6 enc Try.prog Try.f7 Rows.sectorEdgeRow.domain false) (Rows.sectorEdgeSpec.post enc Try.prog Try.f7 false true false false) := by
  refine returnsInHanded_of_change (C := Try.checked) sectorEdge_own started (by kernel_rfl) Try.func7
    (ChangeSpec.witness6 (enc := enc) (C := Try.checked) false ⟨#[], #[.int .i64 0, .int .i64 0, .int .i64 0], []⟩ 8 (by kernel_rfl) (by kernel_rfl) (by kernel_rfl) (by kernel_rfl)) ?_
  intro W base args ds gs before hval0 hW hcnd _
  have hval : ∀ (j : Nat) t v, Try.f7.params[j]? = some t → args[j]? = some v → Value.okWide Try.prog W .any base t v := hval0
  have hW' := hW
  obtain ⟨p, q, hA0, hV, rfl, hfz, hnd⟩ := hW
  have hA : DataW.TrodAll enc Try.prog W 0 (fun _ => true) true Try.f7.params.toList args.toList ds p := hA0
  have hA1 := hA
  rw [Try.params7] at hA hval
  obtain ⟨v0, vs0, d0, ds0, p0, q0, hargs, rfl, rfl, h0, r0⟩ := trodAll_cons hA
  obtain ⟨v1, vs1, d1, ds1, p1, q1, rfl, rfl, rfl, h1, r1⟩ := trodAll_cons r0
  obtain ⟨v2, vs2, d2, ds2, p2, q2, rfl, rfl, rfl, h2, r2⟩ := trodAll_cons r1
  obtain ⟨rfl, rfl, rfl⟩ := trodAll_nil r2
  obtain rfl : args = #[v0, v1, v2] := by cases args; simp_all
  obtain ⟨rfl, rfl⟩ := trodVars_none hV
  obtain ⟨l0, rfl, w0, y0⟩ := open_i64 Try.underlying3 (hval 0 3 v0 rfl rfl) h0
  obtain ⟨l1, rfl, w1, y1⟩ := open_i64 Try.underlying3 (hval 1 3 v1 rfl rfl) h1
  obtain ⟨l2, rfl, w2, y2⟩ := open_i64 Try.underlying3 (hval 2 3 v2 rfl rfl) h2
  clear hA0 hval0
  refine (sectorEdge_law l0 w0 y0 l1 w1 y1 l2 w2 y2 W).mono fun e W' ⟨he, hg⟩ => ?_
  subst he
  have hlt := fun x hx => hW'.lt x hx
  exact ⟨_, rfl, post_of_below hW' (fun _ _ _ => (trodAll_cons_mk (shut_bool Try.underlying4 _) trodAll_mk0))
    (fun sp hsp => args_stay (by kernel_rfl) hg.below sp _ _ _ _ (by kernel_rfl) hA1 (fun x hx => hlt x (List.mem_append.2 (.inl hx))) (fun x hx => hsp x (List.mem_append.2 (.inl hx)))) (fun _ _ => rfl) rfl
    hg.below (ok_one (by kernel_rfl) rfl (okWide_bool_mk Try.underlying4 _))⟩
theorem sectorEdge_over : Rows.sectorEdgeRow.holds Try.pinned (OpenSpec.ofChange Rows.sectorEdgeSpec) :=
  OpenClaim.holds_of_wide 7 Try.f7 rfl rfl rfl rfl rfl rfl rfl ⟨rfl, rfl, rfl, rfl, rfl⟩ rfl rfl rfl rfl rfl (by kernel_rfl) Try.func7 (by kernel_rfl)
    (of_decide_eq_true (by kernel_rfl)) (by unfold Func.isWrapper; first | (rw [if_pos (by decide +kernel)]; kernel_rfl) | (rw [if_neg (by decide +kernel)]; exact ⟨rfl, rfl⟩))
    (fun os started H enc _ => sectorEdge_lifted os started H enc)
/-- THE STATEMENT -/
theorem sectorEdge_holds : Rows.SectorEdgeSaid := sectorEdge_over
end Go.Proofs.Ytbejifbiffeamaa
