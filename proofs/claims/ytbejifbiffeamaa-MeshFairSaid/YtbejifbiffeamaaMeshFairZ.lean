/- The statement MeshFair, from its walk. No condition but those that each theorem names. -/
import Derived.Test.YtbejifbiffeamaaQ1
import Derived.Test.YtbejifbiffeamaaQ2
set_option linter.unusedSimpArgs false
set_option linter.unusedVariables false
namespace Go.Proofs.Ytbejifbiffeamaa
open Go.RowKit
attribute [local go_sem] extract_mid extract_drop bget bsize wrap64_u8 i64_u8 u64_u8 bappend
attribute [local go_sem] and7
structure FA (m : Nat) (M : Msh) : Prop where
  ok : M.ok
  n : M.n = 10
  ks : ∀ k ∈ (M.bx 0).ks, k < 10
  l0 : 0 ≤ M.lost
  l1 : M.lost ≤ m
theorem FA.zero : FA 0 (newM 10) := ⟨newM_ok (by decide) (by decide), rfl, fun k hk => by simp [newM] at hk, by decide, by decide⟩
theorem FA.send {m : Nat} {M : Msh} (h : FA m M) (q : Int) (q0 : 0 ≤ q) (q1 : q < 10) (x : List UInt8) : FA (m + 1) (sendG M 0 q x) := by
  have hn := h.n
  refine ⟨sendG_ok h.ok (by omega) q0 (by omega) _, by rw [sendG_n, hn], ?_, ?_, ?_⟩
  all_goals unfold sendG; split
  · intro k hk
    rw [put_bx, if_pos rfl] at hk
    have h2 := (set_mem (h.ok.bx 0 (by omega)) q _ k).1 hk
    rw [row_set] at h2
    by_cases e : k = q
    · rw [e]; exact q1
    · rw [if_neg e] at h2
      exact h.ks k (((h.ok.bx 0 (by omega)).mem k).2 h2)
  · exact h.ks
  · exact h.l0
  · have := h.l0; show 0 ≤ M.lost + 1; omega
  · have := h.l1; show M.lost ≤ _; omega
  · have := h.l1; show M.lost + 1 ≤ _; omega
/-- What a Take leaves. -/
structure TK (M M' : Msh) (q : Int) : Prop where
  ok : M'.ok
  n : M'.n = M.n
  lost : M'.lost = M.lost
  last : (M'.bx 0).last = q
  sub : ∀ j ∈ (M'.bx 0).ks, j ∈ (M.bx 0).ks
  sup : ∀ j ∈ (M.bx 0).ks, j ≠ q → j ∈ (M'.bx 0).ks
theorem tk_take {M : Msh} (h : M.ok) {q : Int} (hn : (M.bx 0).nxt = some q) : ∃ x r, (M.bx 0).row q = x :: r ∧ TK M (takeM M 0 q r) q := by
  have hN := h.n1
  have hok := h.bx 0 (by omega)
  have hin := nxt_mem hn
  have hne := (hok.mem q).1 hin
  obtain ⟨x, r, hr⟩ := List.exists_cons_of_ne_nil hne
  have e : ((takeM M 0 q r).bx 0).ks = ((M.bx 0).set q r).ks := by unfold takeM; rw [put_bx, if_pos rfl]
  refine ⟨x, r, hr, takeG_ok h (by omega) hin hr, rfl, rfl, by unfold takeM; rw [put_bx, if_pos rfl], fun j hj => ?_, fun j hj hq => ?_⟩
  · rw [e, set_mem hok, row_set] at hj
    by_cases e : j = q
    · rw [e]; exact hin
    · rw [if_neg e] at hj
      exact (hok.mem j).2 hj
  · rw [e, set_mem hok, row_set, if_neg hq]
    exact (hok.mem j).1 hj
theorem FA.take {m : Nat} {M M' : Msh} (h : FA m M) {q : Int} (t : TK M M' q) : FA m M' := ⟨t.ok, by rw [t.n, h.n], fun k hk => h.ks k (t.sub k hk), by rw [t.lost]; exact h.l0, by rw [t.lost]; exact h.l1⟩
/-- Of which sources none was taken yet. -/
structure UB (K : List Int) (z : Int) (U : List Int) (M : Msh) : Prop where
  ok : M.ok
  nd : U.Nodup
  inU : ∀ k ∈ U, k ∈ (M.bx 0).ks
  inK : ∀ k ∈ (M.bx 0).ks, k ∈ K
  ph : (z ≤ (M.bx 0).last ∧ ∀ k, k ∈ U ↔ k ∈ K ∧ ((M.bx 0).last < k ∨ k ≤ z)) ∨ (∀ k, k ∈ U ↔ k ∈ K ∧ (M.bx 0).last < k ∧ k ≤ z)
theorem UB.start {M : Msh} (h : M.ok) : UB (M.bx 0).ks (M.bx 0).last (M.bx 0).ks M :=
  ⟨h, rises_nodup (h.bx 0 h.n1).rises, fun _ h => h, fun _ h => h, .inl ⟨Int.le_refl _, fun k => ⟨fun h => ⟨h, by omega⟩, fun h => h.1⟩⟩⟩
theorem erase_len {U : List Int} (h : U.Nodup) {q : Int} (hq : q ∈ U) : (U.filter fun x => decide (x ≠ q)).length + 1 = U.length := by
  have := (perm_out h hq).length_eq
  rw [List.length_cons] at this
  omega
theorem UB.next {K U : List Int} {z : Int} {M : Msh} (h : UB K z U M) (hU : U ≠ []) : ∃ q, (M.bx 0).nxt = some q ∧ q ∈ U ∧ ∀ M', TK M M' q → UB K z (U.filter fun x => decide (x ≠ q)) M' := by
  have hok := h.ok.bx 0 h.ok.n1
  obtain ⟨u, hu⟩ := List.exists_mem_of_ne_nil U hU
  have huk := h.inU u hu
  cases hn : (M.bx 0).nxt with
  | none => rw [nxt_none hn] at huk; cases huk
  | some q =>
    have hqk := nxt_mem hn
    have hqK := h.inK q hqk
    have hsp := nxt_spec hok hn
    have memU : ∀ k, k ∈ U.filter (fun x => decide (x ≠ q)) ↔ k ∈ U ∧ k ≠ q := fun k => by rw [List.mem_filter]; simp
    have key : q ∈ U ∧ ((z ≤ q ∧ ∀ k, (k ∈ U ∧ k ≠ q) ↔ k ∈ K ∧ (q < k ∨ k ≤ z)) ∨ (∀ k, (k ∈ U ∧ k ≠ q) ↔ k ∈ K ∧ q < k ∧ k ≤ z)) := by
      rcases h.ph with ⟨hz, hU2⟩ | hU2
      · rcases hsp with ⟨h1, h2⟩ | ⟨h1, h2⟩
        · refine ⟨(hU2 q).2 ⟨hqK, .inl h1⟩, .inl ⟨by omega, fun k => ⟨fun ⟨a, b⟩ => ?_, fun ⟨a, b⟩ => ?_⟩⟩⟩
          · obtain ⟨c1, c2⟩ := (hU2 k).1 a
            refine ⟨c1, ?_⟩
            rcases c2 with c2 | c2
            · have := h2 k (h.inU k a) c2; left; omega
            · exact .inr c2
          · exact ⟨(hU2 k).2 ⟨a, by omega⟩, by omega⟩
        · have hno : ∀ k ∈ U, k ≤ z := fun k hk => by
            have := h1 k (h.inU k hk)
            have := ((hU2 k).1 hk).2
            omega
          have hqu := h2 u huk
          have huz := hno u hu
          refine ⟨(hU2 q).2 ⟨hqK, .inr (by omega)⟩, .inr fun k => ⟨fun ⟨a, b⟩ => ?_, fun ⟨a, b, c⟩ => ?_⟩⟩
          · have := h2 k (h.inU k a)
            exact ⟨((hU2 k).1 a).1, by omega, hno k a⟩
          · exact ⟨(hU2 k).2 ⟨a, .inr c⟩, by omega⟩
      · obtain ⟨c1, c2, c3⟩ := (hU2 u).1 hu
        rcases hsp with ⟨h1, h2⟩ | ⟨h1, h2⟩
        · have hqu := h2 u huk c2
          refine ⟨(hU2 q).2 ⟨hqK, h1, by omega⟩, .inr fun k => ⟨fun ⟨a, b⟩ => ?_, fun ⟨a, b, c⟩ => ?_⟩⟩
          · obtain ⟨d1, d2, d3⟩ := (hU2 k).1 a
            have := h2 k (h.inU k a) d2
            exact ⟨d1, by omega, d3⟩
          · exact ⟨(hU2 k).2 ⟨a, by omega, c⟩, by omega⟩
        · have := h1 u huk
          omega
    refine ⟨q, rfl, key.1, fun M' t => ⟨t.ok, h.nd.sublist List.filter_sublist, fun k hk => ?_, fun k hk => h.inK k (t.sub k hk), ?_⟩⟩
    · obtain ⟨a, b⟩ := (memU k).1 hk
      exact t.sup k (h.inU k a) b
    · rw [t.last]
      rcases key.2 with ⟨a, b⟩ | b
      · exact .inl ⟨a, fun k => (memU k).trans (b k)⟩
      · exact .inr fun k => (memU k).trans (b k)
/-- Whom one packet is still wanted of. -/
def wantM (K U : List Int) : List (Value × Value) := K.map fun k => (.int .i64 k, .int .i64 (if k ∈ U then 1 else 0))
theorem want_out {K U : List Int} (hK : K.Nodup) {q : Int} (hq : q ∈ U) (hqK : q ∈ K) : (wantM K U).Perm ((.int .i64 q, .int .i64 1) :: wantM (K.filter fun x => decide (x ≠ q)) U) := by
  have h := (perm_out hK hqK).map fun k => (Value.int .i64 k, Value.int .i64 (if k ∈ U then 1 else 0))
  rw [List.map_cons, if_pos hq] at h
  exact h
theorem want_in {K U : List Int} (hK : K.Nodup) {q : Int} (hqK : q ∈ K) : ((Value.int .i64 q, Value.int .i64 0) :: wantM (K.filter fun x => decide (x ≠ q)) U).Perm (wantM K (U.filter fun x => decide (x ≠ q))) := by
  have h := (perm_out hK hqK).map fun k => (Value.int .i64 k, Value.int .i64 (if k ∈ U.filter (fun x => decide (x ≠ q)) then 1 else 0))
  rw [List.map_cons, if_neg (by simp)] at h
  refine List.Perm.trans ?_ h.symm
  refine List.Perm.cons _ (List.Perm.of_eq (List.map_congr_left fun k hk => ?_))
  have hne : k ≠ q := by have := (List.mem_filter.1 hk).2; simpa using this
  have e : (k ∈ U.filter (fun x => decide (x ≠ q))) ↔ k ∈ U := by rw [List.mem_filter]; simp [hne]
  simp only [e]
/-- While they are counted. -/
def cntK (K : List Int) (i : Nat) : List Int := K.filter fun k => decide (k < (i : Int))
abbrev cntM (K : List Int) (i : Nat) : List (Value × Value) := (cntK K i).map fun k => (.int .i64 k, .int .i64 1)
theorem cnt_yes {K : List Int} (hK : K.Nodup) {i : Nat} (hi : (i : Int) ∈ K) : ((Value.int .i64 i, Value.int .i64 1) :: cntM K i).Perm (cntM K (i + 1)) := by
  have h : ((i : Int) :: cntK K i).Perm (cntK K (i + 1)) := (List.perm_ext_iff_of_nodup (List.nodup_cons.2 ⟨by simp [cntK], hK.sublist List.filter_sublist⟩) (hK.sublist List.filter_sublist)).2 fun x => by
    show x ∈ (i : Int) :: List.filter (fun k => decide (k < (i : Int))) K ↔ x ∈ List.filter (fun k => decide (k < ((i + 1 : Nat) : Int))) K
    rw [List.mem_cons, List.mem_filter, List.mem_filter]
    simp only [decide_eq_true_eq]
    constructor
    · rintro (rfl | ⟨a, b⟩)
      · exact ⟨hi, by omega⟩
      · exact ⟨a, by omega⟩
    · rintro ⟨a, b⟩
      by_cases e : x = i
      · exact .inl e
      · exact .inr ⟨a, by omega⟩
  exact h.map fun k => (Value.int .i64 k, Value.int .i64 1)
theorem cnt_no {K : List Int} {i : Nat} (hi : (i : Int) ∉ K) : cntK K (i + 1) = cntK K i := by
  unfold cntK
  refine List.filter_congr fun x hx => ?_
  have : x ≠ i := fun e => hi (e ▸ hx)
  rw [decide_eq_decide]
  omega
theorem cnt_miss (K : List Int) (i : Nat) : ∀ p ∈ cntM K i, p.1 ≠ Value.int .i64 i := fun p hp => by
  obtain ⟨k, hk, rfl⟩ := List.mem_map.1 hp
  unfold cntK at hk
  have := (List.mem_filter.1 hk).2
  intro e
  injection e with _ e
  simp at this
  omega
theorem cnt_all {K : List Int} {i : Nat} (h : ∀ k ∈ K, k < (i : Int)) : cntM K i = wantM K K := by
  have e : cntK K i = K := List.filter_eq_self.2 fun k hk => by simpa using h k hk
  unfold cntM wantM
  rw [e]
  refine List.map_congr_left fun k hk => ?_
  rw [if_pos hk]
theorem cnt_zero {K : List Int} (h : ∀ k ∈ K, 0 ≤ k) : cntM K 0 = [] := by
  have e : cntK K 0 = [] := List.filter_eq_nil_iff.2 fun k hk => by have := h k hk; simp; omega
  unfold cntM
  rw [e]
  rfl
theorem zero_int (w : World) : (zeroValue 3).run Try.prog w = .ok (.int .i64 0) w := by kernel_rfl
set_option maxRecDepth 100000 in
set_option maxHeartbeats 16000000 in
theorem meshFair_walk {F : List SProp} (A0 : Option Addr) (n0 c0 : Nat) (ch : List Int) (y0 : n0 ≤ 9223372036854775807) (z0 : ∀ x ∈ ch, -9223372036854775808 ≤ x ∧ x ≤ 9223372036854775807) (n : Int) (hn1 : -9223372036854775808 ≤ n) (hn2 : n ≤ 9223372036854775807) (w : World) (hM : Star F w) (hF0 : rowE 1 A0 n0 (ivs ch) ∈ F) :
    Calls Try.prog 8 #[.slice A0 n0 c0, .int .i64 n] w fun r w' => r = .returned (.bool true) ∧ Star F w' := by
  obtain ⟨N, hN⟩ : ∃ N : Nat, min (max n 0) 40 = N := ⟨(min (max n 0) 40).toNat, by omega⟩
  have hN2 : (if (40 : Int) < (if n < 0 then 0 else n) then 40 else (if n < 0 then (0 : Int) else n)) = N := by rw [← hN]; split <;> split at * <;> omega
  have hN40 : N ≤ 40 := by omega
  go_enter Try.func8, Try.ntmps8
  go_wp2_with (first | (go_at_call 14; have hM0 := hM; clear hM; (first | (with_reducible refine (awake18 _ hM0).mono ?_) | fail); clear hM0; rintro _ w ⟨rfl, hM⟩) | (go_at_call 15; have hM0 := hM; clear hM; (first | (with_reducible refine (newL 10 (x := 10) rfl (by decide) (by decide) (M := newM 10) rfl _ hM0).mono ?_) | fail); clear hM0; rintro _ w ⟨a, f, l, HT, rfl, hM⟩))
  go_loopw [6] (fun i wr => ∃ (j m : Nat) (M : Msh) (f : Sls) (l : List (Option Addr × List (List UInt8))), i = .int .i64 j ∧ j ≤ 9 ∧ j ≤ n0 ∧ m ≤ 8 * j ∧ Hid (FA m M) ∧ Hid (Tied M f l) ∧ Star (meshE a M f :: rowsE l :: F) wr) (fun i _ => 9 - (intOf i).toNat)
  case atStart => exact ⟨0, 0, _, f, l, rfl, by omega, by omega, by omega, FA.zero, HT, hM⟩
  case round =>
    clear hM HT
    obtain ⟨j, m, M, f, l, rfl, hj9, hjn, hm, HB, HT, hM⟩ := hrel
    by_cases hj : j < n0 ∧ j < 9
    · obtain ⟨hj1, hj2⟩ := hj
      obtain ⟨ad, v, rfl, hv, _⟩ := hM.elemI (A := A0) (n := n0) (l := ch) (by (repeat (first | assumption | (with_reducible exact mZ) | apply mS)); first | done | fail) hj1
      go_wp2_with (first | (first | ((with_reducible refine at_load' ?_); (refine BigFrame.wpList_want (by rfl) fun K hK => ws_rowload rfl rfl (by first | (apply Star.row hM; (repeat (first | assumption | (with_reducible exact mZ) | apply mS)); done) | (apply Star.own hM; (repeat (first | assumption | (with_reducible exact mZ) | apply mS)); done) | (apply Star.arr hM; (focus ((repeat (first | assumption | (with_reducible exact mZ) | apply mS)); done)); assumption)) (by assumption) (by kernel_rfl) (hK _ _ ?_); clear hK K)) | fail))
      obtain ⟨wq, rfl⟩ : ∃ wq : World, wq = wr := ⟨_, rfl⟩
      go_loopw [31] (fun i wr2 => ∃ (s m2 : Nat) (M : Msh) (f : Sls) (l : List (Option Addr × List (List UInt8))), i = .int .i64 s ∧ (s : Int) ≤ 1 + v % 8 ∧ m2 ≤ 8 * j + s ∧ Hid (FA m2 M) ∧ Hid (Tied M f l) ∧ Star (meshE a M f :: rowsE l :: F) wr2) (fun i _ => 8 - (intOf i).toNat)
      case atStart => exact ⟨0, m, M, f, l, rfl, by omega, by omega, HB, HT, hM⟩
      case round =>
        clear hM HT HB
        obtain ⟨s, m2, M, f, l, rfl, hs, hm2, HB, HT, hM⟩ := hrel
        by_cases hsv : (s : Int) < 1 + v % 8
        · have hw : IntKind.i64.wrap ((j : Int) + 1) = ((j + 1 : Nat) : Int) := by simp [IntKind.wrap, IntKind.bits, IntKind.signed]; omega
          have HS : Hid (∀ (g : Nat) (w : World) (L R1 R2 F : List SProp), Star L w → Take (rowE 1 (some ⟨g, 0, none⟩) 1 (ivs [0])) L R1 → Take (meshE a M f) R1 R2 → Take (rowsE l) R2 F → Calls Try.prog 17 #[mptr a, .int .i64 ((j : Int) + 1), .string ⟨#[120]⟩, .slice (some ⟨g, 0, none⟩) 1 1] w fun r w' => ∃ f' l', Hid (Tied (sendG M 0 ((j : Int) + 1) [120]) f' l') ∧ r = .returned (.int .i64 (sendE M 0 ((j : Int) + 1) [120])) ∧ Star (meshE a (sendG M 0 ((j : Int) + 1) [120]) f' :: rowsE l' :: F) w') := fun g w L R1 R2 F hM h1 h2 h3 => sendL HB.out.ok 0 (j + 1) rfl (by omega) (by have := HB.out.n; omega) (by have := HB.out.n; omega) [120] HB.out.l0 (by have := HB.out.l1; omega) rfl rfl HT w hM h1 h2 h3
          go_wp2_with (first | (first | ((with_reducible refine at_slice' ?_); (have hM0 := hM; clear hM; refine BigFrame.wpList_want (by rfl) fun K hK => ws_slice_row hM0 (n := 1) rfl 3 1 (.int .i64 0) [.int .i64 0] Try.underlying23 (by kernel_rfl) rfl (by simp [Value.cells, iv, sv, bv]) (by rfl) (by decide) (cs := ivs [0]) (by rfl) (fun g1 w hM => hK _ _ ?_); clear hM0 hK K)) | fail) | (go_at_call 17; have hM0 := hM; clear hM; (first | (with_reducible refine (HS.out _ _ _ _ _ _ hM0 (by (repeat (first | (with_reducible exact Take.head) | apply Take.tail)); first | done | fail) (by (repeat (first | (with_reducible exact Take.head) | apply Take.tail)); first | done | fail) (by (repeat (first | (with_reducible exact Take.head) | apply Take.tail)); first | done | fail)).mono ?_) | fail); clear hM0; rintro _ w ⟨f, l, HT, rfl, hM⟩))
          go_roundw
          case rel => exact ⟨s + 1, m2 + 1, _, f, l, rfl, by omega, by omega, HB.out.send _ (by omega) (by omega) _, HT, hM⟩
          case measure => simp [intOf]; omega
        · go_wp2_with fail
          go_roundw
          case rel => exact ⟨j + 1, m2, M, f, l, rfl, by omega, by omega, by omega, HB, HT, hM⟩
          case measure => simp [intOf]; omega
    · have hE : j = n0 ∨ (j < n0 ∧ j = 9) := by omega
      clear hj
      rcases hE with hE | ⟨hE1, hE2⟩
      · have d1 : decide ((j : Int) < (n0 : Int)) = false := by simp; omega
        have d2 : decide (j < n0) = false := by simp; omega
        clear hE
        go_wp2_with fail
        go_loopw [42] (fun i wr => ∃ (k m : Nat) (M : Msh) (f : Sls) (l : List (Option Addr × List (List UInt8))), i = .int .i64 k ∧ k ≤ N ∧ m ≤ 72 ∧ Hid (FA m M) ∧ Hid (Tied M f l) ∧ Star (meshE a M f :: rowsE l :: F) wr) (fun i _ => N - (intOf i).toNat)
        case atStart => exact ⟨0, m, M, f, l, rfl, by omega, by omega, HB, HT, hM⟩
        case round =>
          clear hM HT HB
          obtain ⟨k, m, M, f, l, rfl, hkN, hm, HB, HT, hM⟩ := hrel
          by_cases hk : k < N
          · have hkI : (k : Int) < (N : Int) := by omega
            cases hnx : (M.bx 0).nxt with
            | none =>
              have HK : Hid (∀ (w : World) (L R1 F : List SProp), Star L w → Take (meshE a M f) L R1 → Take (rowsE l) R1 F → Calls Try.prog 18 #[mptr a, .int .i64 0] w fun e w' => e = .returned (.tuple #[pktV 0 [], .bool false]) ∧ Star (meshE a M f :: rowsE l :: F) w') := fun w L R1 F hM h1 h2 => takeN HB.out.ok 0 rfl (by have := HB.out.n; omega) hnx w hM h1 h2
              clear hnx
              go_wp2_with (first | (go_at_call 18; have hM0 := hM; clear hM; (first | (with_reducible refine (HK.out _ _ _ _ hM0 (by (repeat (first | (with_reducible exact Take.head) | apply Take.tail)); first | done | fail) (by (repeat (first | (with_reducible exact Take.head) | apply Take.tail)); first | done | fail)).mono ?_) | fail); clear hM0; rintro _ w ⟨rfl, hM⟩))
              go_roundw
              case rel => exact ⟨k + 1, m, M, f, l, rfl, by omega, by omega, HB, HT, hM⟩
              case measure => simp [intOf]; omega
            | some q =>
              obtain ⟨x, r, hr, htk⟩ := tk_take HB.out.ok hnx
              have HK : Hid (∀ (w : World) (L R1 F : List SProp), Star L w → Take (meshE a M f) L R1 → Take (rowsE l) R1 F → Calls Try.prog 18 #[mptr a, .int .i64 0] w fun e w' => ∃ f' l', Hid (Tied (takeM M 0 q r) f' l') ∧ e = .returned (.tuple #[pktV q x, .bool true]) ∧ Star (meshE a (takeM M 0 q r) f' :: rowsE l' :: F) w') := fun w L R1 F hM h1 h2 => takeL HB.out.ok 0 rfl (by have := HB.out.n; omega) hnx hr rfl HT w hM h1 h2
              have HB2 : Hid (FA m (takeM M 0 q r)) := HB.out.take htk
              clear hnx hr htk
              go_wp2_with (first | (go_at_call 18; have hM0 := hM; clear hM; (first | (with_reducible refine (HK.out _ _ _ _ hM0 (by (repeat (first | (with_reducible exact Take.head) | apply Take.tail)); first | done | fail) (by (repeat (first | (with_reducible exact Take.head) | apply Take.tail)); first | done | fail)).mono ?_) | fail); clear hM0; rintro _ w ⟨f, l, HT, rfl, hM⟩))
              go_roundw
              case rel => exact ⟨k + 1, m, _, f, l, rfl, by omega, by omega, HB2, HT, hM⟩
              case measure => simp [intOf]; omega
          · obtain rfl : k = N := by omega
            have HKS : Hid (∀ k ∈ (M.bx 0).ks, 0 ≤ k ∧ k < 10) := fun k hk => ⟨((HB.out.ok.bx 0 (by have := HB.out.n; omega)).src k hk).1, HB.out.ks k hk⟩
            have HND : Hid ((M.bx 0).ks.Nodup) := rises_nodup (HB.out.ok.bx 0 (by have := HB.out.n; omega)).rises
            obtain ⟨KK, hKK⟩ : ∃ KK, (M.bx 0).ks = KK := ⟨_, rfl⟩
            rw [hKK] at HKS HND
            have HKK := Lib.hid hKK
            clear hKK
            go_wp2_with (first | (first | ((with_reducible refine at_makemap' ?_); (have hM0 := hM; clear hM; refine BigFrame.wpList_want (by rfl) fun K hK => ws_makemap hM0 rfl 3 (fun b w hM => hK _ _ ?_); clear hM0 hK K)) | fail))
            have hM2 : Star (mapE Try.prog 3 b (cntM KK 0) :: meshE a M f :: rowsE l :: F) w := by rw [cnt_zero (fun k hk => (HKS.out k hk).1)]; exact hM
            clear hM
            have hM := hM2
            clear hM2
            go_loopw [48] (fun i wr => ∃ (s : Nat), i = .int .i64 s ∧ s ≤ 10 ∧ Star (mapE Try.prog 3 b (cntM KK s) :: meshE a M f :: rowsE l :: F) wr) (fun i _ => 10 - (intOf i).toNat)
            case atStart => exact ⟨0, rfl, by omega, hM⟩
            case round =>
              clear hM
              obtain ⟨s, rfl, hs10, hM⟩ := hrel
              by_cases hs : s < 10
              · have hsI : (s : Int) < 10 := by omega
                obtain ⟨v, hv⟩ : ∃ v : Nat, ((M.bx 0).row s).length = v := ⟨_, rfl⟩
                have HW : Hid (∀ (w : World) (L R1 F : List SProp), Star L w → Take (meshE a M f) L R1 → Take (rowsE l) R1 F → Calls Try.prog 27 #[mptr a, .int .i64 0, .int .i64 s] w fun e w' => e = .returned (.int .i64 v) ∧ Star (meshE a M f :: rowsE l :: F) w') := fun w L R1 F hM h1 h2 => waitsL HB.out.ok 0 rfl (by have := HB.out.n; omega) (by omega) (by omega) (by rw [hv]) HT w hM h1 h2
                have HKI := Lib.hid (int_keyI (k := (s : Int)) (by omega) (by omega))
                have HMS := Lib.hid (cnt_miss KK s)
                by_cases hin : (s : Int) ∈ KK
                · have hv0 : 0 < v := by
                    rw [← HKK.out, (HB.out.ok.bx 0 (by have := HB.out.n; omega)).mem] at hin
                    rw [← hv]
                    exact List.length_pos_iff.2 hin
                  have hv1 : (0 : Int) < (v : Int) := by omega
                  have HY := Lib.hid (cnt_yes HND.out hin)
                  clear hin hv
                  go_wp2_with (first | (go_at_call 27; have hM0 := hM; clear hM; (first | (with_reducible refine (HW.out _ _ _ _ hM0 (by (repeat (first | (with_reducible exact Take.head) | apply Take.tail)); first | done | fail) (by (repeat (first | (with_reducible exact Take.head) | apply Take.tail)); first | done | fail)).mono ?_) | fail); clear hM0; rintro _ w ⟨rfl, hM⟩) | (first | ((with_reducible refine at_lookup' ?_); (refine BigFrame.wpList_want (by rfl) fun K hK => ws_of_ex (ex_miss1 (key := .int .i64 s) hM rfl Try.underlying47 zero_int rfl rfl (by (repeat (first | assumption | (with_reducible exact mZ) | apply mS)); first | done | fail) keyed_i2 HKI.out HMS.out) (hK _ _ ?_); clear hK K)) | fail) | (first | ((with_reducible refine at_update' ?_); (have hM0 := hM; clear hM; refine BigFrame.wpList_want (by rfl) fun K hK => ws_update_new (key := .int .i64 s) (v := .int .i64 1) hM0 rfl Try.underlying47 rfl rfl rfl (by (repeat (first | (with_reducible exact Take.head) | apply Take.tail)); first | done | fail) keyed_i2 HKI.out HMS.out (fun w hM => hK _ _ ?_); clear hM0 hK K)) | fail))
                  go_roundw
                  case rel => exact ⟨s + 1, rfl, by omega, (hM.map_perm HY.out).sel (by repeat (first | (with_reducible exact Sel.refl) | (with_reducible exact Take.head) | (with_reducible apply Take.tail) | (with_reducible apply Sel.cons) | (with_reducible apply Sel.drop)))⟩
                  case measure => simp [intOf]; omega
                · have hv0 : v = 0 := by
                    rw [← HKK.out, (HB.out.ok.bx 0 (by have := HB.out.n; omega)).mem] at hin
                    rw [← hv]
                    have : (M.bx 0).row s = [] := by
                      by_cases e : (M.bx 0).row s = []
                      · exact e
                      · exact absurd e hin
                    rw [this]; rfl
                  subst hv0
                  have HNO := Lib.hid (cnt_no hin)
                  clear hin hv
                  go_wp2_with (first | (go_at_call 27; have hM0 := hM; clear hM; (first | (with_reducible refine (HW.out _ _ _ _ hM0 (by (repeat (first | (with_reducible exact Take.head) | apply Take.tail)); first | done | fail) (by (repeat (first | (with_reducible exact Take.head) | apply Take.tail)); first | done | fail)).mono ?_) | fail); clear hM0; rintro _ w ⟨rfl, hM⟩))
                  go_roundw
                  case rel =>
                    refine ⟨s + 1, rfl, by omega, ?_⟩
                    show Star (mapE _ _ _ ((cntK KK (s + 1)).map _) :: _) _
                    rw [HNO.out]
                    exact hM.sel (by repeat (first | (with_reducible exact Sel.refl) | (with_reducible exact Take.head) | (with_reducible apply Take.tail) | (with_reducible apply Sel.cons) | (with_reducible apply Sel.drop)))
                  case measure => simp [intOf]; omega
              · obtain rfl : s = 10 := by omega
                have hM2 : Star (mapE Try.prog 3 b (wantM KK KK) :: meshE a M f :: rowsE l :: F) wr := by rw [← cnt_all (i := 10) (fun k hk => (HKS.out k hk).2)]; exact hM
                clear hM
                have hM := hM2
                clear hM2
                obtain ⟨nk, hnk⟩ : ∃ nk, (wantM KK KK).length = nk := ⟨_, rfl⟩
                have HNK := Lib.hid (by rw [← hnk]; simp [wantM] : KK.length = nk)
                have HLN := Lib.hid hnk
                clear hnk
                have HUB : Hid (UB KK (M.bx 0).last KK M) := by have := UB.start HB.out.ok; rwa [HKK.out] at this
                obtain ⟨z, hz⟩ : ∃ z, (M.bx 0).last = z := ⟨_, rfl⟩
                rw [hz] at HUB
                have hnk64 : nk ≤ 64 := by have := (HB.out.ok.bx 0 (by have := HB.out.n; omega)).cnt64; rw [HKK.out, HNK.out] at this; exact this
                have HU0 : Hid (∃ U : List Int, U = KK ∧ UB KK z U M) := ⟨KK, rfl, HUB.out⟩
                clear hz HUB
                go_wp2_with (first | ((refine BigFrame.wpList_want (by rfl) fun K hK => ws_of_ex (ex_len_map (m := wantM KK KK) hM rfl Try.underlying47 rfl (by (repeat (first | assumption | (with_reducible exact mZ) | apply mS)); first | done | fail)) (hK _ _ ?_)); clear hK K; rw [HLN.out]))
                go_loopw [63] (fun i wr => ∃ (s : Nat) (U : List Int) (M : Msh) (f : Sls) (l : List (Option Addr × List (List UInt8))), i = .int .i64 s ∧ s ≤ nk ∧ Hid (U.length + s = nk) ∧ Hid (UB KK z U M) ∧ Hid (Tied M f l) ∧ Star (mapE Try.prog 3 b (wantM KK U) :: meshE a M f :: rowsE l :: F) wr) (fun i _ => nk - (intOf i).toNat)
                case atStart =>
                  obtain ⟨U, rfl, hU⟩ := HU0.out
                  exact ⟨0, U, M, f, l, rfl, by omega, HNK.out, hU, HT, hM⟩
                case round =>
                  clear hM HU0 HT HB HKK HKS
                  obtain ⟨s, U, M, f, l, rfl, hsn, HUL, HUB, HT, hM⟩ := hrel
                  by_cases hs : s < nk
                  · have hsI : (s : Int) < (nk : Int) := by omega
                    obtain ⟨q, hnx, hqU, hst⟩ := HUB.out.next (by intro e; have := HUL.out; rw [e] at this; simp at this; omega)
                    obtain ⟨x, r, hr, htk⟩ := tk_take HUB.out.ok hnx
                    have hqK := HUB.out.inK q (HUB.out.inU q hqU)
                    have HK : Hid (∀ (w : World) (L R1 F : List SProp), Star L w → Take (meshE a M f) L R1 → Take (rowsE l) R1 F → Calls Try.prog 18 #[mptr a, .int .i64 0] w fun e w' => ∃ f' l', Hid (Tied (takeM M 0 q r) f' l') ∧ e = .returned (.tuple #[pktV q x, .bool true]) ∧ Star (meshE a (takeM M 0 q r) f' :: rowsE l' :: F) w') := fun w L R1 F hM h1 h2 => takeL HUB.out.ok 0 rfl HUB.out.ok.n1 hnx hr rfl HT w hM h1 h2
                    have HUB2 := Lib.hid (hst _ htk)
                    have hqs := (HUB.out.ok.bx 0 HUB.out.ok.n1).src q (HUB.out.inU q hqU)
                    have HKI := Lib.hid (int_keyI (k := q) (by omega) (by omega))
                    have HWO := Lib.hid (want_out HND.out hqU hqK)
                    have HHIT : Hid ((Value.int .i64 q, Value.int .i64 1) ∈ wantM KK U) := HWO.out.mem_iff.2 List.mem_cons_self
                    have HWI := Lib.hid (want_in (U := U) HND.out hqK)
                    have HEL := Lib.hid (erase_len HUB.out.nd hqU)
                    clear hnx hqU hst hr htk hqK hqs
                    go_wp2_with (first | (go_at_call 18; have hM0 := hM; clear hM; (first | (with_reducible refine (HK.out _ _ _ _ hM0 (by (repeat (first | (with_reducible exact Take.head) | apply Take.tail)); first | done | fail) (by (repeat (first | (with_reducible exact Take.head) | apply Take.tail)); first | done | fail)).mono ?_) | fail); clear hM0; rintro _ w ⟨f, l, HT, rfl, hM⟩) | (first | ((with_reducible refine at_alloc' ?_); (have hM0 := hM; clear hM; refine BigFrame.wpList_want (by rfl) fun K hK => ws_alloc hM0 (t := 31) rfl #[.int .i64 0, .string ByteArray.empty] info_pkt (fun g10 w hM => hK _ _ ?_); clear hM0 hK K)) | fail) | (first | ((with_reducible refine at_store' ?_); (have hM0 := hM; clear hM; refine BigFrame.wpList_want (by rfl) fun K hK => ws_store hM0 rfl rfl rfl (by (repeat (first | (with_reducible exact Take.head) | apply Take.tail)); first | done | fail) (n := 2) (by rfl) (by rfl) (by kernel_rfl) (by simp [Value.oneCell']) (fun w hM => hK _ _ ?_); clear hM0 hK K)) | fail) | (first | ((with_reducible refine at_load' ?_); (refine BigFrame.wpList_want (by rfl) fun K hK => ws_load1 hM rfl rfl (by (repeat (first | assumption | (with_reducible exact mZ) | apply mS)); first | done | fail) (by first | rfl | assumption) (by decide +kernel) (hK _ _ ?_); clear hK K)) | fail) | (first | ((with_reducible refine at_lookup' ?_); (refine BigFrame.wpList_want (by rfl) fun K hK => ws_of_ex (ex_hit1 (key := .int .i64 q) hM rfl Try.underlying47 rfl rfl (by (repeat (first | assumption | (with_reducible exact mZ) | apply mS)); first | done | fail) keyed_i2 HKI.out HHIT.out) (hK _ _ ?_); clear hK K)) | fail) | (first | ((with_reducible refine at_update' ?_); (have hM0 := hM; clear hM; refine BigFrame.wpList_want (by rfl) fun K hK => ws_update_old (key := .int .i64 q) (v := .int .i64 0) hM0 rfl Try.underlying47 rfl rfl rfl (by (repeat (first | (with_reducible exact Take.head) | apply Take.tail)); first | done | fail) keyed_i2 HKI.out HWO.out (fun w hM => hK _ _ ?_); clear hM0 hK K)) | fail))
                    go_roundw
                    case rel =>
                      refine ⟨s + 1, U.filter fun x => decide (x ≠ q), _, f, l, rfl, by omega, ?_, HUB2, HT, (hM.map_perm HWI.out).sel (by repeat (first | (with_reducible exact Sel.refl) | (with_reducible exact Take.head) | (with_reducible apply Take.tail) | (with_reducible apply Sel.cons) | (with_reducible apply Sel.drop)))⟩
                      show _ = _
                      have := HUL.out
                      have := HEL.out
                      omega
                    case measure => simp [intOf]; omega
                  · obtain rfl : s = nk := by omega
                    go_wp2_with fail
                    go_ret
                    exact ⟨rfl, hM.sel (by repeat (first | (with_reducible exact Sel.refl) | (with_reducible exact Take.head) | (with_reducible apply Take.tail) | (with_reducible apply Sel.cons) | (with_reducible apply Sel.drop)))⟩
      · have d1 : decide ((j : Int) < (n0 : Int)) = true := by simp; omega
        have d2 : decide (j < n0) = true := by simp; omega
        have d3 : decide ((j : Int) < 9) = false := by simp; omega
        have d4 : decide (j < 9) = false := by simp; omega
        clear hE1 hE2
        go_wp2_with fail
        go_loopw [42] (fun i wr => ∃ (k m : Nat) (M : Msh) (f : Sls) (l : List (Option Addr × List (List UInt8))), i = .int .i64 k ∧ k ≤ N ∧ m ≤ 72 ∧ Hid (FA m M) ∧ Hid (Tied M f l) ∧ Star (meshE a M f :: rowsE l :: F) wr) (fun i _ => N - (intOf i).toNat)
        case atStart => exact ⟨0, m, M, f, l, rfl, by omega, by omega, HB, HT, hM⟩
        case round =>
          clear hM HT HB
          obtain ⟨k, m, M, f, l, rfl, hkN, hm, HB, HT, hM⟩ := hrel
          by_cases hk : k < N
          · have hkI : (k : Int) < (N : Int) := by omega
            cases hnx : (M.bx 0).nxt with
            | none =>
              have HK : Hid (∀ (w : World) (L R1 F : List SProp), Star L w → Take (meshE a M f) L R1 → Take (rowsE l) R1 F → Calls Try.prog 18 #[mptr a, .int .i64 0] w fun e w' => e = .returned (.tuple #[pktV 0 [], .bool false]) ∧ Star (meshE a M f :: rowsE l :: F) w') := fun w L R1 F hM h1 h2 => takeN HB.out.ok 0 rfl (by have := HB.out.n; omega) hnx w hM h1 h2
              clear hnx
              go_wp2_with (first | (go_at_call 18; have hM0 := hM; clear hM; (first | (with_reducible refine (HK.out _ _ _ _ hM0 (by (repeat (first | (with_reducible exact Take.head) | apply Take.tail)); first | done | fail) (by (repeat (first | (with_reducible exact Take.head) | apply Take.tail)); first | done | fail)).mono ?_) | fail); clear hM0; rintro _ w ⟨rfl, hM⟩))
              go_roundw
              case rel => exact ⟨k + 1, m, M, f, l, rfl, by omega, by omega, HB, HT, hM⟩
              case measure => simp [intOf]; omega
            | some q =>
              obtain ⟨x, r, hr, htk⟩ := tk_take HB.out.ok hnx
              have HK : Hid (∀ (w : World) (L R1 F : List SProp), Star L w → Take (meshE a M f) L R1 → Take (rowsE l) R1 F → Calls Try.prog 18 #[mptr a, .int .i64 0] w fun e w' => ∃ f' l', Hid (Tied (takeM M 0 q r) f' l') ∧ e = .returned (.tuple #[pktV q x, .bool true]) ∧ Star (meshE a (takeM M 0 q r) f' :: rowsE l' :: F) w') := fun w L R1 F hM h1 h2 => takeL HB.out.ok 0 rfl (by have := HB.out.n; omega) hnx hr rfl HT w hM h1 h2
              have HB2 : Hid (FA m (takeM M 0 q r)) := HB.out.take htk
              clear hnx hr htk
              go_wp2_with (first | (go_at_call 18; have hM0 := hM; clear hM; (first | (with_reducible refine (HK.out _ _ _ _ hM0 (by (repeat (first | (with_reducible exact Take.head) | apply Take.tail)); first | done | fail) (by (repeat (first | (with_reducible exact Take.head) | apply Take.tail)); first | done | fail)).mono ?_) | fail); clear hM0; rintro _ w ⟨f, l, HT, rfl, hM⟩))
              go_roundw
              case rel => exact ⟨k + 1, m, _, f, l, rfl, by omega, by omega, HB2, HT, hM⟩
              case measure => simp [intOf]; omega
          · obtain rfl : k = N := by omega
            have HKS : Hid (∀ k ∈ (M.bx 0).ks, 0 ≤ k ∧ k < 10) := fun k hk => ⟨((HB.out.ok.bx 0 (by have := HB.out.n; omega)).src k hk).1, HB.out.ks k hk⟩
            have HND : Hid ((M.bx 0).ks.Nodup) := rises_nodup (HB.out.ok.bx 0 (by have := HB.out.n; omega)).rises
            obtain ⟨KK, hKK⟩ : ∃ KK, (M.bx 0).ks = KK := ⟨_, rfl⟩
            rw [hKK] at HKS HND
            have HKK := Lib.hid hKK
            clear hKK
            go_wp2_with (first | (first | ((with_reducible refine at_makemap' ?_); (have hM0 := hM; clear hM; refine BigFrame.wpList_want (by rfl) fun K hK => ws_makemap hM0 rfl 3 (fun b w hM => hK _ _ ?_); clear hM0 hK K)) | fail))
            have hM2 : Star (mapE Try.prog 3 b (cntM KK 0) :: meshE a M f :: rowsE l :: F) w := by rw [cnt_zero (fun k hk => (HKS.out k hk).1)]; exact hM
            clear hM
            have hM := hM2
            clear hM2
            go_loopw [48] (fun i wr => ∃ (s : Nat), i = .int .i64 s ∧ s ≤ 10 ∧ Star (mapE Try.prog 3 b (cntM KK s) :: meshE a M f :: rowsE l :: F) wr) (fun i _ => 10 - (intOf i).toNat)
            case atStart => exact ⟨0, rfl, by omega, hM⟩
            case round =>
              clear hM
              obtain ⟨s, rfl, hs10, hM⟩ := hrel
              by_cases hs : s < 10
              · have hsI : (s : Int) < 10 := by omega
                obtain ⟨v, hv⟩ : ∃ v : Nat, ((M.bx 0).row s).length = v := ⟨_, rfl⟩
                have HW : Hid (∀ (w : World) (L R1 F : List SProp), Star L w → Take (meshE a M f) L R1 → Take (rowsE l) R1 F → Calls Try.prog 27 #[mptr a, .int .i64 0, .int .i64 s] w fun e w' => e = .returned (.int .i64 v) ∧ Star (meshE a M f :: rowsE l :: F) w') := fun w L R1 F hM h1 h2 => waitsL HB.out.ok 0 rfl (by have := HB.out.n; omega) (by omega) (by omega) (by rw [hv]) HT w hM h1 h2
                have HKI := Lib.hid (int_keyI (k := (s : Int)) (by omega) (by omega))
                have HMS := Lib.hid (cnt_miss KK s)
                by_cases hin : (s : Int) ∈ KK
                · have hv0 : 0 < v := by
                    rw [← HKK.out, (HB.out.ok.bx 0 (by have := HB.out.n; omega)).mem] at hin
                    rw [← hv]
                    exact List.length_pos_iff.2 hin
                  have hv1 : (0 : Int) < (v : Int) := by omega
                  have HY := Lib.hid (cnt_yes HND.out hin)
                  clear hin hv
                  go_wp2_with (first | (go_at_call 27; have hM0 := hM; clear hM; (first | (with_reducible refine (HW.out _ _ _ _ hM0 (by (repeat (first | (with_reducible exact Take.head) | apply Take.tail)); first | done | fail) (by (repeat (first | (with_reducible exact Take.head) | apply Take.tail)); first | done | fail)).mono ?_) | fail); clear hM0; rintro _ w ⟨rfl, hM⟩) | (first | ((with_reducible refine at_lookup' ?_); (refine BigFrame.wpList_want (by rfl) fun K hK => ws_of_ex (ex_miss1 (key := .int .i64 s) hM rfl Try.underlying47 zero_int rfl rfl (by (repeat (first | assumption | (with_reducible exact mZ) | apply mS)); first | done | fail) keyed_i2 HKI.out HMS.out) (hK _ _ ?_); clear hK K)) | fail) | (first | ((with_reducible refine at_update' ?_); (have hM0 := hM; clear hM; refine BigFrame.wpList_want (by rfl) fun K hK => ws_update_new (key := .int .i64 s) (v := .int .i64 1) hM0 rfl Try.underlying47 rfl rfl rfl (by (repeat (first | (with_reducible exact Take.head) | apply Take.tail)); first | done | fail) keyed_i2 HKI.out HMS.out (fun w hM => hK _ _ ?_); clear hM0 hK K)) | fail))
                  go_roundw
                  case rel => exact ⟨s + 1, rfl, by omega, (hM.map_perm HY.out).sel (by repeat (first | (with_reducible exact Sel.refl) | (with_reducible exact Take.head) | (with_reducible apply Take.tail) | (with_reducible apply Sel.cons) | (with_reducible apply Sel.drop)))⟩
                  case measure => simp [intOf]; omega
                · have hv0 : v = 0 := by
                    rw [← HKK.out, (HB.out.ok.bx 0 (by have := HB.out.n; omega)).mem] at hin
                    rw [← hv]
                    have : (M.bx 0).row s = [] := by
                      by_cases e : (M.bx 0).row s = []
                      · exact e
                      · exact absurd e hin
                    rw [this]; rfl
                  subst hv0
                  have HNO := Lib.hid (cnt_no hin)
                  clear hin hv
                  go_wp2_with (first | (go_at_call 27; have hM0 := hM; clear hM; (first | (with_reducible refine (HW.out _ _ _ _ hM0 (by (repeat (first | (with_reducible exact Take.head) | apply Take.tail)); first | done | fail) (by (repeat (first | (with_reducible exact Take.head) | apply Take.tail)); first | done | fail)).mono ?_) | fail); clear hM0; rintro _ w ⟨rfl, hM⟩))
                  go_roundw
                  case rel =>
                    refine ⟨s + 1, rfl, by omega, ?_⟩
                    show Star (mapE _ _ _ ((cntK KK (s + 1)).map _) :: _) _
                    rw [HNO.out]
                    exact hM.sel (by repeat (first | (with_reducible exact Sel.refl) | (with_reducible exact Take.head) | (with_reducible apply Take.tail) | (with_reducible apply Sel.cons) | (with_reducible apply Sel.drop)))
                  case measure => simp [intOf]; omega
              · obtain rfl : s = 10 := by omega
                have hM2 : Star (mapE Try.prog 3 b (wantM KK KK) :: meshE a M f :: rowsE l :: F) wr := by rw [← cnt_all (i := 10) (fun k hk => (HKS.out k hk).2)]; exact hM
                clear hM
                have hM := hM2
                clear hM2
                obtain ⟨nk, hnk⟩ : ∃ nk, (wantM KK KK).length = nk := ⟨_, rfl⟩
                have HNK := Lib.hid (by rw [← hnk]; simp [wantM] : KK.length = nk)
                have HLN := Lib.hid hnk
                clear hnk
                have HUB : Hid (UB KK (M.bx 0).last KK M) := by have := UB.start HB.out.ok; rwa [HKK.out] at this
                obtain ⟨z, hz⟩ : ∃ z, (M.bx 0).last = z := ⟨_, rfl⟩
                rw [hz] at HUB
                have hnk64 : nk ≤ 64 := by have := (HB.out.ok.bx 0 (by have := HB.out.n; omega)).cnt64; rw [HKK.out, HNK.out] at this; exact this
                have HU0 : Hid (∃ U : List Int, U = KK ∧ UB KK z U M) := ⟨KK, rfl, HUB.out⟩
                clear hz HUB
                go_wp2_with (first | ((refine BigFrame.wpList_want (by rfl) fun K hK => ws_of_ex (ex_len_map (m := wantM KK KK) hM rfl Try.underlying47 rfl (by (repeat (first | assumption | (with_reducible exact mZ) | apply mS)); first | done | fail)) (hK _ _ ?_)); clear hK K; rw [HLN.out]))
                go_loopw [63] (fun i wr => ∃ (s : Nat) (U : List Int) (M : Msh) (f : Sls) (l : List (Option Addr × List (List UInt8))), i = .int .i64 s ∧ s ≤ nk ∧ Hid (U.length + s = nk) ∧ Hid (UB KK z U M) ∧ Hid (Tied M f l) ∧ Star (mapE Try.prog 3 b (wantM KK U) :: meshE a M f :: rowsE l :: F) wr) (fun i _ => nk - (intOf i).toNat)
                case atStart =>
                  obtain ⟨U, rfl, hU⟩ := HU0.out
                  exact ⟨0, U, M, f, l, rfl, by omega, HNK.out, hU, HT, hM⟩
                case round =>
                  clear hM HU0 HT HB HKK HKS
                  obtain ⟨s, U, M, f, l, rfl, hsn, HUL, HUB, HT, hM⟩ := hrel
                  by_cases hs : s < nk
                  · have hsI : (s : Int) < (nk : Int) := by omega
                    obtain ⟨q, hnx, hqU, hst⟩ := HUB.out.next (by intro e; have := HUL.out; rw [e] at this; simp at this; omega)
                    obtain ⟨x, r, hr, htk⟩ := tk_take HUB.out.ok hnx
                    have hqK := HUB.out.inK q (HUB.out.inU q hqU)
                    have HK : Hid (∀ (w : World) (L R1 F : List SProp), Star L w → Take (meshE a M f) L R1 → Take (rowsE l) R1 F → Calls Try.prog 18 #[mptr a, .int .i64 0] w fun e w' => ∃ f' l', Hid (Tied (takeM M 0 q r) f' l') ∧ e = .returned (.tuple #[pktV q x, .bool true]) ∧ Star (meshE a (takeM M 0 q r) f' :: rowsE l' :: F) w') := fun w L R1 F hM h1 h2 => takeL HUB.out.ok 0 rfl HUB.out.ok.n1 hnx hr rfl HT w hM h1 h2
                    have HUB2 := Lib.hid (hst _ htk)
                    have hqs := (HUB.out.ok.bx 0 HUB.out.ok.n1).src q (HUB.out.inU q hqU)
                    have HKI := Lib.hid (int_keyI (k := q) (by omega) (by omega))
                    have HWO := Lib.hid (want_out HND.out hqU hqK)
                    have HHIT : Hid ((Value.int .i64 q, Value.int .i64 1) ∈ wantM KK U) := HWO.out.mem_iff.2 List.mem_cons_self
                    have HWI := Lib.hid (want_in (U := U) HND.out hqK)
                    have HEL := Lib.hid (erase_len HUB.out.nd hqU)
                    clear hnx hqU hst hr htk hqK hqs
                    go_wp2_with (first | (go_at_call 18; have hM0 := hM; clear hM; (first | (with_reducible refine (HK.out _ _ _ _ hM0 (by (repeat (first | (with_reducible exact Take.head) | apply Take.tail)); first | done | fail) (by (repeat (first | (with_reducible exact Take.head) | apply Take.tail)); first | done | fail)).mono ?_) | fail); clear hM0; rintro _ w ⟨f, l, HT, rfl, hM⟩) | (first | ((with_reducible refine at_alloc' ?_); (have hM0 := hM; clear hM; refine BigFrame.wpList_want (by rfl) fun K hK => ws_alloc hM0 (t := 31) rfl #[.int .i64 0, .string ByteArray.empty] info_pkt (fun g10 w hM => hK _ _ ?_); clear hM0 hK K)) | fail) | (first | ((with_reducible refine at_store' ?_); (have hM0 := hM; clear hM; refine BigFrame.wpList_want (by rfl) fun K hK => ws_store hM0 rfl rfl rfl (by (repeat (first | (with_reducible exact Take.head) | apply Take.tail)); first | done | fail) (n := 2) (by rfl) (by rfl) (by kernel_rfl) (by simp [Value.oneCell']) (fun w hM => hK _ _ ?_); clear hM0 hK K)) | fail) | (first | ((with_reducible refine at_load' ?_); (refine BigFrame.wpList_want (by rfl) fun K hK => ws_load1 hM rfl rfl (by (repeat (first | assumption | (with_reducible exact mZ) | apply mS)); first | done | fail) (by first | rfl | assumption) (by decide +kernel) (hK _ _ ?_); clear hK K)) | fail) | (first | ((with_reducible refine at_lookup' ?_); (refine BigFrame.wpList_want (by rfl) fun K hK => ws_of_ex (ex_hit1 (key := .int .i64 q) hM rfl Try.underlying47 rfl rfl (by (repeat (first | assumption | (with_reducible exact mZ) | apply mS)); first | done | fail) keyed_i2 HKI.out HHIT.out) (hK _ _ ?_); clear hK K)) | fail) | (first | ((with_reducible refine at_update' ?_); (have hM0 := hM; clear hM; refine BigFrame.wpList_want (by rfl) fun K hK => ws_update_old (key := .int .i64 q) (v := .int .i64 0) hM0 rfl Try.underlying47 rfl rfl rfl (by (repeat (first | (with_reducible exact Take.head) | apply Take.tail)); first | done | fail) keyed_i2 HKI.out HWO.out (fun w hM => hK _ _ ?_); clear hM0 hK K)) | fail))
                    go_roundw
                    case rel =>
                      refine ⟨s + 1, U.filter fun x => decide (x ≠ q), _, f, l, rfl, by omega, ?_, HUB2, HT, (hM.map_perm HWI.out).sel (by repeat (first | (with_reducible exact Sel.refl) | (with_reducible exact Take.head) | (with_reducible apply Take.tail) | (with_reducible apply Sel.cons) | (with_reducible apply Sel.drop)))⟩
                      show _ = _
                      have := HUL.out
                      have := HEL.out
                      omega
                    case measure => simp [intOf]; omega
                  · obtain rfl : s = nk := by omega
                    go_wp2_with fail
                    go_ret
                    exact ⟨rfl, hM.sel (by repeat (first | (with_reducible exact Sel.refl) | (with_reducible exact Take.head) | (with_reducible apply Take.tail) | (with_reducible apply Sel.cons) | (with_reducible apply Sel.drop)))⟩
end Go.Proofs.Ytbejifbiffeamaa
set_option linter.unusedSimpArgs false
set_option linter.unusedVariables false
namespace Go.Proofs.Ytbejifbiffeamaa
open Go.RowKit Go.WideShapes Go.ChangeShapes Go.ChangeAt
theorem meshFair_law (A0 : Option Addr) (n0 c0 : Nat) (l0 : List Int) (y0 : n0 ≤ 9223372036854775807) (z0 : ∀ x ∈ l0, -9223372036854775808 ≤ x ∧ x ≤ 9223372036854775807) (l1 : Int) (w1 : -9223372036854775808 ≤ l1) (y1 : l1 ≤ 9223372036854775807) (W : World) (w0 : Rd W 1 A0 n0 (ivs l0)) :
    Calls Try.prog 8 #[.slice A0 n0 c0, .int .i64 l1] W fun r w' => r = .returned (.bool true) ∧ Ch [] W w' :=
  (meshFair_walk A0 n0 c0 l0 y0 z0 l1 w1 y1 W ((Star.start W).of_old (by (repeat (first | assumption | (with_reducible exact mZ) | apply mS)); first | done | fail) w0) (by (repeat (first | assumption | (with_reducible exact mZ) | apply mS)); first | done | fail)).mono fun _ _ ⟨h1, h2⟩ => ⟨h1, h2.old (by (repeat (first | assumption | (with_reducible exact mZ) | apply mS)); first | done | fail)⟩
theorem meshFair_own : ownKnob Try.prog.godebug = none := by kernel_rfl
set_option maxRecDepth 100000 in
theorem meshFair_lifted (os : Os) (started : os.Started) (H : Type) (enc : TypeId × Value → H) :
    ReturnsInHanded {} Try.checked os 8 .any (Rows.meshFairSpec.pre6 enc Try.prog Try.f8 Rows.meshFairRow.domain false) (Rows.meshFairSpec.post enc Try.prog Try.f8 false true false false) := by
  refine returnsInHanded_of_change (C := Try.checked) meshFair_own started (by kernel_rfl) Try.func8
    (ChangeSpec.witness6 (enc := enc) (C := Try.checked) false ⟨#[], #[.slice none 0 0, .int .i64 0], []⟩ 8 (by kernel_rfl) (by kernel_rfl) (by kernel_rfl) (by kernel_rfl)) ?_
  intro W base args ds gs before hval0 hW hcnd _
  have hval : ∀ (j : Nat) t v, Try.f8.params[j]? = some t → args[j]? = some v → Value.okWide Try.prog W .any base t v := hval0
  have hW' := hW
  obtain ⟨p, q, hA0, hV, rfl, hfz, hnd⟩ := hW
  have hA : DataW.TrodAll enc Try.prog W 0 (fun _ => true) true Try.f8.params.toList args.toList ds p := hA0
  have hA1 := hA
  rw [Try.params8] at hA hval
  obtain ⟨v0, vs0, d0, ds0, p0, q0, hargs, rfl, rfl, h0, r0⟩ := trodAll_cons hA
  obtain ⟨v1, vs1, d1, ds1, p1, q1, rfl, rfl, rfl, h1, r1⟩ := trodAll_cons r0
  obtain ⟨rfl, rfl, rfl⟩ := trodAll_nil r1
  obtain rfl : args = #[v0, v1] := by cases args; simp_all
  obtain ⟨rfl, rfl⟩ := trodVars_none hV
  obtain ⟨A0, n0, c0, l0, rfl, w0, y0, z0⟩ := open_intl Try.underlying23 Try.underlying3 (by kernel_rfl) (hval 0 23 v0 rfl rfl) h0
  obtain ⟨l1, rfl, w1, y1⟩ := open_i64 Try.underlying3 (hval 1 3 v1 rfl rfl) h1
  clear hA0 hval0
  refine (meshFair_law A0 n0 c0 l0 y0 z0 l1 w1 y1 W w0).mono fun e W' ⟨he, hg⟩ => ?_
  subst he
  have hlt := fun x hx => hW'.lt x hx
  exact ⟨_, rfl, post_of_below hW' (fun _ _ _ => (trodAll_cons_mk (shut_bool Try.underlying4 _) trodAll_mk0))
    (fun sp hsp => args_stay (by kernel_rfl) hg.below sp _ _ _ _ (by kernel_rfl) hA1 (fun x hx => hlt x (List.mem_append.2 (.inl hx))) (fun x hx => hsp x (List.mem_append.2 (.inl hx)))) (fun _ _ => rfl) rfl
    hg.below (ok_one (by kernel_rfl) rfl (okWide_bool_mk Try.underlying4 _))⟩
theorem meshFair_over : Rows.meshFairRow.holds Try.pinned (OpenSpec.ofChange Rows.meshFairSpec) :=
  OpenClaim.holds_of_wide 8 Try.f8 rfl rfl rfl rfl rfl rfl rfl ⟨rfl, rfl, rfl, rfl, rfl⟩ rfl rfl rfl rfl rfl (by kernel_rfl) Try.func8 (by kernel_rfl)
    (of_decide_eq_true (by kernel_rfl)) (by unfold Func.isWrapper; first | (rw [if_pos (by decide +kernel)]; kernel_rfl) | (rw [if_neg (by decide +kernel)]; exact ⟨rfl, rfl⟩))
    (fun os started H enc _ => meshFair_lifted os started H enc)
/-- THE STATEMENT -/
theorem meshFair_holds : Rows.MeshFairSaid := meshFair_over
end Go.Proofs.Ytbejifbiffeamaa
