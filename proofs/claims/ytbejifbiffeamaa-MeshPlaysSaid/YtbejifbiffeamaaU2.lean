/- What the laws share, part 2 (MshB, MshS, MshT, MshU, MshV, MshN, MshE). No condition but those that each theorem names. -/
import Derived.Test.YtbejifbiffeamaaU1
set_option linter.unusedSimpArgs false
set_option linter.unusedVariables false
namespace Go.Proofs.Ytbejifbiffeamaa
open Go.RowKit
attribute [local go_sem] extract_mid extract_drop bget bsize wrap64_u8 i64_u8 u64_u8 bappend
section
variable {L R : List SProp} {a : MA}
set_option maxRecDepth 100000 in
theorem at_no {N : Nat} {lost : Int} (x : Int) (h : x < 0 ∨ (N : Int) ≤ x) (w : World) (hM : Star L w) (hx : mshE a N lost ∈ L) :
    Calls Try.prog 44 #[mptr a, .int .i64 x] w fun r w' => r = .returned (.pointer none) ∧ Star L w' := by
  by_cases h0 : x < 0
  · go_enter Try.func44, Try.ntmps44
    go_wp2_with (first | (first | ((with_reducible refine at_load' ?_); (refine BigFrame.wpList_want (by rfl) fun K hK => ws_load1 hM rfl rfl (by (repeat (first | assumption | (with_reducible exact mZ) | apply mS)); first | done | fail) (by first | rfl | assumption) (by decide +kernel) (hK _ _ ?_); clear hK K)) | fail))
    go_ret
    exact ⟨rfl, hM⟩
  · have h1 : (N : Int) ≤ x := by omega
    clear h
    go_enter Try.func44, Try.ntmps44
    go_wp2_with (first | (first | ((with_reducible refine at_load' ?_); (refine BigFrame.wpList_want (by rfl) fun K hK => ws_load1 hM rfl rfl (by (repeat (first | assumption | (with_reducible exact mZ) | apply mS)); first | done | fail) (by first | rfl | assumption) (by decide +kernel) (hK _ _ ?_); clear hK K)) | fail))
    go_ret
    exact ⟨rfl, hM⟩
set_option maxRecDepth 100000 in
theorem at_yes {N : Nat} {lost : Int} {x : Int} (i : Nat) (hx0 : x = i) (hi : i < N) (w : World) (hM : Star L w) (hx : mshE a N lost ∈ L) :
    Calls Try.prog 44 #[mptr a, .int .i64 x] w fun r w' => r = .returned (bptr a i) ∧ Star L w' := by
  subst hx0
  have h0 : ¬ ((i : Int) < 0) := by omega
  have h1 : (i : Int) < (N : Int) := by omega
  have h2 : decide ((N : Int) ≤ (i : Int)) = false := by simp; omega
  have h3 : decide (N ≤ i) = false := by simp; omega
  go_enter Try.func44, Try.ntmps44
  go_wp2_with (first | (first | ((with_reducible refine at_load' ?_); (refine BigFrame.wpList_want (by rfl) fun K hK => ws_load1 hM rfl rfl (by (repeat (first | assumption | (with_reducible exact mZ) | apply mS)); first | done | fail) (by first | rfl | assumption) (by decide +kernel) (hK _ _ ?_); clear hK K)) | fail))
  go_ret
  exact ⟨rfl, hM⟩
theorem find_first {l : List Int} {p : Int → Bool} {q : Nat} {k : Int} (h : ∀ j x, j < q → l[j]? = some x → p x = false) (hk : l[q]? = some k) (hp : p k = true) : l.find? p = some k := by
  induction l generalizing q with
  | nil => cases hk
  | cons y l ih =>
    cases q with
    | zero =>
      simp at hk
      subst hk
      simp [List.find?, hp]
    | succ q =>
      have hy := h 0 y (by omega) rfl
      simp only [List.find?, hy]
      exact ih (q := q) (fun j x hj hx => h (j + 1) x (by omega) (by simpa using hx)) (by simpa using hk)
theorem nxt_found {B : Bx} {q : Nat} {k : Int} (h : ∀ j x, j < q → B.ks[j]? = some x → x ≤ B.last) (hk : B.ks[q]? = some k) (hl : B.last < k) : B.nxt = some k := by
  unfold Bx.nxt
  rw [find_first (fun j x hj hx => by have := h j x hj hx; simpa using this) hk (by simpa using hl)]
theorem nxt_wrap {B : Bx} (h : ∀ j x, j < B.ks.length → B.ks[j]? = some x → x ≤ B.last) : B.nxt = B.ks.head? := by
  unfold Bx.nxt
  have : B.ks.find? (fun k => decide (B.last < k)) = none := by
    rw [List.find?_eq_none]
    intro x hx
    obtain ⟨j, hj, he⟩ := List.mem_iff_getElem.1 hx
    have := h j x hj (by rw [List.getElem?_eq_getElem hj, he])
    simpa using this
  rw [this]
def nxtV (o : Option Int) : Array Value := match o with
  | some k => #[.int .i64 k, .bool true]
  | none => #[.int .i64 0, .bool false]
set_option maxRecDepth 100000 in
set_option maxHeartbeats 4000000 in
theorem next_b {g i b : Nat} {t : TypeId} {cs : Array Value} {f : Int → Value} {B : Bx} (hB : B.ok) (h0 : cs[i * 2]? = some (.map (some b))) (h1 : cs[i * 2 + 1]? = some (.int .i64 B.last)) (w : World) (hM : Star L w) (hx : cellsE g t cs ∈ L) (hm : mapE Try.prog 3 b (B.ks.map fun k => (.int .i64 k, f k)) ∈ L) :
    Calls Try.prog 46 #[.pointer (some ⟨g, i * 2, none⟩)] w fun r w' => r = .returned (.tuple (nxtV B.nxt)) ∧ Star L w' := by
  have H0 := Lib.hid h0
  have H1 := Lib.hid h1
  have HR := Lib.hid hB.rises
  have HB : Hid (B.ks.length ≤ 1000000) := hB.cnt
  have HI := Lib.hid hB.i64
  have hcnt := hB.cnt
  obtain ⟨N, hN⟩ : ∃ N, B.ks.length = N := ⟨_, rfl⟩
  have HS : Hid (∀ (g2 : Nat) (w : World), SortReady Try.prog 92 b g2 B.ks L w → Calls Try.prog 54 #[.func (.func 81) #[] #[.pointer (some ⟨g2, 0, none⟩)]] w fun r w' => ∃ A c, r = .returned (.slice A N c) ∧ Star (rowE 1 A N (ivs B.ks) :: L) w') := fun g2 w h => by
    have := sortB_star HR.out HB.out w h
    rwa [hN] at this
  have HN := Lib.hid hN
  rw [hN] at hcnt
  clear h0 h1 hN
  go_enter Try.func46, Try.ntmps46
  go_wp2_with (first | (first | ((with_reducible refine at_load' ?_); (refine BigFrame.wpList_want (by rfl) fun K hK => ws_load1 hM rfl rfl (by (repeat (first | assumption | (with_reducible exact mZ) | apply mS)); first | done | fail) (by first | exact H0.out | exact H1.out) (by decide +kernel) (hK _ _ ?_); clear hK K)) | fail) | (go_at_call 73; have hM0 := hM; clear hM; (first | (with_reducible refine (keysB_star _ hM0 (by (repeat (first | assumption | (with_reducible exact mZ) | apply mS)); first | done | fail)).mono ?_) | fail); clear hM0; rintro _ w ⟨g2, rfl, hSR, hM⟩) | (go_at_call 54; have hM0 := hM; clear hM; (first | (with_reducible refine (HS.out _ _ hSR.out).mono ?_) | fail); clear hM0; rintro _ w ⟨A, c, rfl, hM⟩))
  go_loopw [15] (fun v wr => ∃ q : Nat, q ≤ N ∧ v = .int .i64 q ∧ Hid (∀ j x, j < q → B.ks[j]? = some x → x ≤ B.last) ∧ Star (rowE 1 A N (ivs B.ks) :: L) wr) (fun v _ => N - (intOf v).toNat)
  case atStart => exact ⟨0, by omega, rfl, fun j x hj => (by omega), hM⟩
  case round =>
    clear hM
    obtain ⟨q, hq, rfl, hle, hM⟩ := hrel
    by_cases hlt : q < N
    · obtain ⟨ad, k, rfl, hv, hg, _⟩ := hM.elemI (A := A) (n := N) (l := B.ks) (by (repeat (first | assumption | (with_reducible exact mZ) | apply mS)); first | done | fail) hlt
      have hki := HI.out k (List.mem_of_getElem? hg)
      have HG := Lib.hid hg
      clear hg
      by_cases hkl : B.last < k
      · go_wp2_with (first | (first | ((with_reducible refine at_load' ?_); (refine BigFrame.wpList_want (by rfl) fun K hK => ws_rowload rfl rfl (by first | (apply Star.row hM; (repeat (first | assumption | (with_reducible exact mZ) | apply mS)); done) | (apply Star.own hM; (repeat (first | assumption | (with_reducible exact mZ) | apply mS)); done) | (apply Star.arr hM; (focus ((repeat (first | assumption | (with_reducible exact mZ) | apply mS)); done)); assumption)) (by assumption) (by kernel_rfl) (hK _ _ ?_); clear hK K)) | fail) | (first | ((with_reducible refine at_load' ?_); (refine BigFrame.wpList_want (by rfl) fun K hK => ws_load1 hM rfl rfl (by (repeat (first | assumption | (with_reducible exact mZ) | apply mS)); first | done | fail) (by first | exact H0.out | exact H1.out) (by decide +kernel) (hK _ _ ?_); clear hK K)) | fail))
        go_ret2
        exact ⟨by rw [nxt_found hle.out HG.out hkl]; rfl, hM.tail⟩
      · go_wp2_with (first | (first | ((with_reducible refine at_load' ?_); (refine BigFrame.wpList_want (by rfl) fun K hK => ws_rowload rfl rfl (by first | (apply Star.row hM; (repeat (first | assumption | (with_reducible exact mZ) | apply mS)); done) | (apply Star.own hM; (repeat (first | assumption | (with_reducible exact mZ) | apply mS)); done) | (apply Star.arr hM; (focus ((repeat (first | assumption | (with_reducible exact mZ) | apply mS)); done)); assumption)) (by assumption) (by kernel_rfl) (hK _ _ ?_); clear hK K)) | fail) | (first | ((with_reducible refine at_load' ?_); (refine BigFrame.wpList_want (by rfl) fun K hK => ws_load1 hM rfl rfl (by (repeat (first | assumption | (with_reducible exact mZ) | apply mS)); first | done | fail) (by first | exact H0.out | exact H1.out) (by decide +kernel) (hK _ _ ?_); clear hK K)) | fail))
        go_roundw
        case rel => exact ⟨q + 1, by omega, by go_num, fun j x hj hx => by
          by_cases e : j = q
          · subst e; rw [HG.out] at hx; injection hx with hx; subst hx; omega
          · exact hle.out j x (by omega) hx, hM⟩
        case measure => simp [intOf]; omega
    · obtain rfl : q = N := by omega
      have hw := nxt_wrap (B := B) (by rw [HN.out]; exact hle.out)
      have HW := Lib.hid hw
      clear hw
      cases hks : B.ks with
      | nil =>
        obtain rfl : q = 0 := by have := HN.out; rw [hks] at this; simpa using this.symm
        have HK := Lib.hid hks
        clear hks
        go_wp2_with fail
        go_ret2
        exact ⟨by rw [HW.out, HK.out]; rfl, hM.tail⟩
      | cons k tl =>
        have hq0 : 0 < q := by have := HN.out; rw [hks] at this; simp at this; omega
        have hq1 : ((q : Int) == 0) = false := by simp; omega
        have hq2 : ¬ ((q : Int) = 0) := by omega
        obtain ⟨ad, k2, rfl, hv, hg, _⟩ := hM.elemI (A := A) (n := q) (l := B.ks) (by (repeat (first | assumption | (with_reducible exact mZ) | apply mS)); first | done | fail) hq0
        have HK : Hid (B.ks.head? = some k2) := by show _ = _; rw [hks] at hg ⊢; exact hg
        clear hks hg
        have hqI : (0 : Int) < (q : Int) := by omega
        go_wp2_with (first | (first | ((with_reducible refine at_load' ?_); (refine BigFrame.wpList_want (by rfl) fun K hK => ws_rowload rfl rfl (by first | (apply Star.row hM; (repeat (first | assumption | (with_reducible exact mZ) | apply mS)); done) | (apply Star.own hM; (repeat (first | assumption | (with_reducible exact mZ) | apply mS)); done) | (apply Star.arr hM; (focus ((repeat (first | assumption | (with_reducible exact mZ) | apply mS)); done)); assumption)) (by assumption) (by kernel_rfl) (hK _ _ ?_); clear hK K)) | fail))
        go_ret2
        exact ⟨by rw [HW.out, HK.out]; rfl, hM.tail⟩
theorem int_keyI {k : Int} (h1 : -9223372036854775808 ≤ k) (h2 : k ≤ 9223372036854775807) : keyOf Try.prog 3 (.int .i64 k) = some (.int .i64 k) := Maps.keyOf_int_mk Try.underlying3 (by simp [Lit.wf, IntKind.min, IntKind.max, IntKind.signed, IntKind.bits]; omega)
theorem keyed_i2 : Maps.Keyed Try.prog 3 := Maps.int_keyed Try.underlying3
theorem perm_out {ks : List Int} (h : ks.Nodup) {k : Int} (hk : k ∈ ks) : ks.Perm (k :: ks.filter fun x => decide (x ≠ k)) := by
  refine (List.perm_ext_iff_of_nodup h (List.nodup_cons.2 ⟨by simp, h.sublist List.filter_sublist⟩)).2 fun x => ?_
  simp only [List.mem_cons, List.mem_filter, decide_eq_true_eq]
  by_cases e : x = k
  · subst e; simp [hk]
  · simp [e]
set_option maxRecDepth 100000 in
theorem set_del {g i b c : Nat} {A : Option Addr} {t : TypeId} {cs : Array Value} {f : Int → Value} {ks : List Int} (hks : ks.Nodup) {k : Int} (hk : k ∈ ks) (k1 : -9223372036854775808 ≤ k) (k2 : k ≤ 9223372036854775807) (h0 : cs[i * 2]? = some (.map (some b))) (w : World) (hM : Star (mapE Try.prog 3 b (ks.map fun k => (.int .i64 k, f k)) :: L) w) (hx : cellsE g t cs ∈ L) :
    Calls Try.prog 47 #[.pointer (some ⟨g, i * 2, none⟩), .int .i64 k, .slice A 0 c] w fun r w' => r = .returned (.tuple #[]) ∧ Star (mapE Try.prog 3 b ((ks.filter fun x => decide (x ≠ k)).map fun k => (.int .i64 k, f k)) :: L) w' := by
  have H0 := Lib.hid h0
  have HP := Lib.hid ((perm_out hks hk).map fun k => (Value.int .i64 k, f k))
  have HK := Lib.hid (int_keyI k1 k2)
  clear h0 hks hk
  go_enter Try.func47, Try.ntmps47
  go_wp2_with (first | (first | ((with_reducible refine at_load' ?_); (refine BigFrame.wpList_want (by rfl) fun K hK => ws_load1 hM rfl rfl (by (repeat (first | assumption | (with_reducible exact mZ) | apply mS)); first | done | fail) (by exact H0.out) (by decide +kernel) (hK _ _ ?_); clear hK K)) | fail) | (first | ((with_reducible refine at_call' ?_); (have hM0 := hM; clear hM; refine BigFrame.wpList_want (by rfl) fun K hK => ws_delete_hit (key := .int .i64 k) hM0 rfl Try.underlying92 rfl rfl (by (repeat (first | (with_reducible exact Take.head) | apply Take.tail)); first | done | fail) keyed_i2 HK.out HP.out (fun w hM => hK _ _ ?_); clear hM0 hK K)) | fail))
  refine bodyPost_ret (results_none rfl _ _ _) rfl ?_
  exact ⟨rfl, hM⟩
set_option maxRecDepth 100000 in
theorem set_row {g i b n c : Nat} {A : Option Addr} {t : TypeId} {cs : Array Value} {f : Int → Value} {ks : List Int} (hks : ks.Nodup) {k : Int} (hk : k ∈ ks) (k1 : -9223372036854775808 ≤ k) (k2 : k ≤ 9223372036854775807) (hn : 0 < n) (h0 : cs[i * 2]? = some (.map (some b))) (w : World) (hM : Star (mapE Try.prog 3 b (ks.map fun k => (.int .i64 k, f k)) :: L) w) (hx : cellsE g t cs ∈ L) :
    Calls Try.prog 47 #[.pointer (some ⟨g, i * 2, none⟩), .int .i64 k, .slice A n c] w fun r w' => r = .returned (.tuple #[]) ∧ Star (mapE Try.prog 3 b (ks.map fun j => (.int .i64 j, if j = k then .slice A n c else f j)) :: L) w' := by
  have H0 := Lib.hid h0
  have HP := Lib.hid ((perm_out hks hk).map fun k => (Value.int .i64 k, f k))
  have HK := Lib.hid (int_keyI k1 k2)
  have HP2 : Hid (((Value.int .i64 k, Value.slice A n c) :: (ks.filter fun x => decide (x ≠ k)).map fun k => (Value.int .i64 k, f k)).Perm (ks.map fun j => (.int .i64 j, if j = k then .slice A n c else f j))) := by
    have h := (perm_out hks hk).map fun j => (Value.int .i64 j, if j = k then Value.slice A n c else f j)
    refine List.Perm.trans ?_ h.symm
    rw [List.map_cons, if_pos rfl]
    refine List.Perm.cons _ (List.Perm.of_eq (List.map_congr_left fun j hj => ?_))
    rw [if_neg (by have := (List.mem_filter.1 hj).2; simpa using this)]
  have hn1 : ((n : Int) == 0) = false := by simp; omega
  have hn2 : ¬ ((n : Int) = 0) := by omega
  clear h0 hks hk
  go_enter Try.func47, Try.ntmps47
  go_wp2_with (first | (first | ((with_reducible refine at_load' ?_); (refine BigFrame.wpList_want (by rfl) fun K hK => ws_load1 hM rfl rfl (by (repeat (first | assumption | (with_reducible exact mZ) | apply mS)); first | done | fail) (by exact H0.out) (by decide +kernel) (hK _ _ ?_); clear hK K)) | fail) | (first | ((with_reducible refine at_update' ?_); (have hM0 := hM; clear hM; refine BigFrame.wpList_want (by rfl) fun K hK => ws_update_old (key := .int .i64 k) (v := .slice A n c) hM0 rfl Try.underlying92 rfl rfl rfl (by (repeat (first | (with_reducible exact Take.head) | apply Take.tail)); first | done | fail) keyed_i2 HK.out HP.out (fun w hM => hK _ _ ?_); clear hM0 hK K)) | fail))
  go_end0
  exact ⟨rfl, hM.map_perm HP2.out⟩
end
end Go.Proofs.Ytbejifbiffeamaa
set_option linter.unusedSimpArgs false
set_option linter.unusedVariables false
namespace Go.Proofs.Ytbejifbiffeamaa
open Go.RowKit
attribute [local go_sem] extract_mid extract_drop bget bsize wrap64_u8 i64_u8 u64_u8 bappend
section
variable {L : List SProp}
theorem eqlS (ad : Addr) (n c : Nat) (w : World) : (binOp .eql 22 (.slice (some ad) n c) (.slice none 0 0)).run Try.prog w = .ok (.bool false) w := by kernel_rfl
theorem eqlN (w : World) : (binOp .eql 22 (.slice none 0 0) (.slice none 0 0)).run Try.prog w = .ok (.bool true) w := by kernel_rfl
attribute [local go_sem] eqlS eqlN
theorem zero_row (w : World) : (zeroValue 22).run Try.prog w = .ok (.slice none 0 0) w := by kernel_rfl
theorem svs_cells1 (l : List (List UInt8)) : ∀ u ∈ svs l, u.oneCell' = true := fun u hu => by obtain ⟨s, _, rfl⟩ := List.mem_map.1 hu; rfl
set_option maxRecDepth 100000 in
theorem clone_some {ad : Addr} {n c : Nat} {r : List (List UInt8)} (hn : n ≤ 1000000) (w : World) (hM : Star L w) (hx : rowE 1 (some ad) n (svs r) ∈ L) :
    Calls Try.prog 45 #[.slice (some ad) n c] w fun e w' => ∃ A' c', e = .returned (.slice A' n c') ∧ Star (ownE 9 1 A' n c' (svs r) :: L) w' := by
  go_enter Try.func45, Try.ntmps45
  go_wp2_with (first | (first | ((with_reducible refine at_slice' ?_); (have hM0 := hM; clear hM; refine BigFrame.wpList_want (by rfl) fun K hK => ws_slice_own hM0 (n := 0) rfl 9 1 (.string ByteArray.empty) [] Try.underlying22 (by kernel_rfl) rfl (by simp [Value.cells, iv, sv, bv]) (by rfl) (by decide) (by decide) (cs := svs []) (by rfl) (fun g w hM => hK _ _ ?_); clear hM0 hK K)) | fail) | (first | ((with_reducible refine at_call' ?_); (have hM0 := hM; clear hM; refine BigFrame.wpList_want (by rfl) fun K hK => ws_append hM0 rfl rfl rfl 9 ((.string ByteArray.empty)) 1 16 Try.underlying22 (by kernel_rfl) (by rfl) (by decide) (by (repeat (first | (with_reducible exact Take.head) | apply Take.tail)); first | done | fail) (by first | (apply Star.row hM0; (repeat (first | assumption | (with_reducible exact mZ) | apply mS)); done) | (apply Star.own hM0; (repeat (first | assumption | (with_reducible exact mZ) | apply mS)); done) | (apply Star.arr hM0; (focus ((repeat (first | assumption | (with_reducible exact mZ) | apply mS)); done)); assumption)) (svs_cells1 _) ((by omega)) (fun A1 c1 w hM hnil => hK _ _ ?_); clear hM0 hK K)) | fail))
  go_ret
  have e : 0 + n = n := by omega
  have hM2 : Star (ownE 9 1 A1 n c1 (svs r) :: L) w := by have h := hM; rw [e] at h; exact h
  exact ⟨_, _, rfl, hM2⟩
set_option maxRecDepth 100000 in
theorem clone_nil (w : World) (hM : Star L w) :
    Calls Try.prog 45 #[.slice none 0 0] w fun e w' => ∃ A' c', e = .returned (.slice A' 0 c') ∧ Star (ownE 9 1 A' 0 c' (svs []) :: L) w' := by
  go_enter Try.func45, Try.ntmps45
  go_wp2
  go_ret
  exact ⟨_, _, rfl, hM.nilown _ _⟩
end
theorem boxesC_same {a : MA} {M M' : Msh} (hn : M'.n = M.n) (h : ∀ i, (M'.bx i).last = (M.bx i).last) : boxesC a M' = boxesC a M := by
  unfold boxesC
  rw [hn]
  rw [List.flatMap_def, List.flatMap_def]
  congr 1
  exact List.map_congr_left fun i _ => by unfold boxC; rw [h]
theorem Star.mopen2 {a : MA} {M : Msh} {f : Sls} {l : List (Option Addr × List (List UInt8))} {F : List SProp} {w : World} (h : Star (meshE a M f :: rowsE l :: F) w) {i : Nat} (hi : i < M.n) : Star (mpE a M f i :: mshE a M.n M.lost :: bxsE a M :: rowsE l :: (((List.range M.n).erase i).map (mpE a M f) ++ F)) w := by
  refine (h.mopen hi).perm ?_
  refine List.Perm.cons _ (List.Perm.cons _ (List.Perm.cons _ ?_))
  exact List.perm_middle
theorem Star.mjoin2 {a : MA} {M M' : Msh} {f f' : Sls} {l : List (Option Addr × List (List UInt8))} {F : List SProp} {w : World} {i : Nat} (h : Star (mpE a M' f' i :: mshE a M'.n M'.lost :: bxsE a M' :: rowsE l :: (((List.range M.n).erase i).map (mpE a M f) ++ F)) w) (hi : i < M.n) (hn : M'.n = M.n) (hq : ∀ j, j ≠ i → bmap M' f' j = bmap M f j) : Star (meshE a M' f' :: rowsE l :: F) w :=
  Star.mjoin (M := M) (f := f) (h.perm (List.Perm.cons _ (List.Perm.cons _ (List.Perm.cons _ List.perm_middle.symm)))) hi hn hq
/-- A packet came. -/
def sendM (M : Msh) (t : Nat) (k : Int) (x : List UInt8) : Msh := M.put t ((M.bx t).set k ((M.bx t).row k ++ [x]))
def putF (f : Sls) (t : Nat) (k : Int) (v : Value) : Sls := fun i j => if i = t then (if j = k then v else f i j) else f i j
theorem row_set (B : Bx) (k : Int) (r : List (List UInt8)) (j : Int) : (B.set k r).row j = if j = k then r else B.row j := rfl
theorem put_bx (M : Msh) (t : Nat) (B : Bx) (j : Nat) : (M.put t B).bx j = if j = t then B else M.bx j := rfl
theorem tied_put {M : Msh} (hM : M.ok) {f : Sls} {l : List (Option Addr × List (List UInt8))} (h : Tied M f l) {t : Nat} (ht : t < M.n) (k : Int) {r : List (List UInt8)} {A : Option Addr} {n c : Nat} (hn : n = r.length) (hc : n ≤ c) {l' : List (Option Addr × List (List UInt8))} (hl : ∀ p ∈ l, p ∈ l') (hA : r ≠ [] → (A, r) ∈ l') : Tied (M.put t ((M.bx t).set k r)) (putF f t k (.slice A n c)) l' where
  at_ i hi j hj := by
    rw [put_bx] at hj ⊢
    unfold putF
    by_cases e : i = t
    · subst e
      rw [if_pos rfl] at hj ⊢
      rw [if_pos rfl]
      have hj2 := (set_mem (hM.bx i ht) k r j).1 hj
      rw [row_set] at hj2 ⊢
      by_cases e2 : j = k
      · rw [if_pos e2] at hj2 ⊢
        rw [if_pos e2]
        exact ⟨A, c, by rw [hn], by omega, hA hj2⟩
      · rw [if_neg e2] at hj2 ⊢
        rw [if_neg e2]
        obtain ⟨A', c', q1, q2, q4⟩ := h.at_ i ht j (((hM.bx i ht).mem j).2 hj2)
        exact ⟨A', c', q1, q2, hl _ q4⟩
    · rw [if_neg e] at hj ⊢
      rw [if_neg e]
      obtain ⟨A', c', q1, q2, q4⟩ := h.at_ i hi j hj
      exact ⟨A', c', q1, q2, hl _ q4⟩
theorem bmap_put_ne (M : Msh) (f : Sls) (t : Nat) (B : Bx) (k : Int) (v : Value) (j : Nat) (hj : j ≠ t) : bmap (M.put t B) (putF f t k v) j = bmap M f j := by
  unfold bmap putF
  rw [put_bx, if_neg hj]
  simp only [if_neg hj]
theorem bmap_put_eq (M : Msh) (f : Sls) (t : Nat) (B : Bx) (k : Int) (v : Value) : bmap (M.put t B) (putF f t k v) t = B.ks.map fun j => (.int .i64 j, if j = k then v else f t j) := by
  unfold bmap putF
  rw [put_bx, if_pos rfl]
  simp only [if_true]
theorem set_ks {B : Bx} (h : B.ok) (k : Int) {r : List (List UInt8)} (hr : r ≠ []) {g : Int → Value} {v : Value} : ((Value.int .i64 k, v) :: (B.ks.filter fun x => decide (x ≠ k)).map fun j => (Value.int .i64 j, g j)).Perm ((B.set k r).ks.map fun j => (.int .i64 j, if j = k then v else g j)) := by
  have e : (B.set k r).ks = insS k B.ks := by unfold Bx.set; simp only; rw [if_neg hr]
  rw [e]
  have hp : (k :: B.ks.filter fun x => decide (x ≠ k)).Perm (insS k B.ks) := (List.perm_ext_iff_of_nodup (List.nodup_cons.2 ⟨by simp, (rises_nodup h.rises).sublist List.filter_sublist⟩) (rises_nodup (insS_rises h.rises))).2 fun x => by
    rw [mem_insS, List.mem_cons, List.mem_filter]
    by_cases e : x = k
    · simp [e]
    · simp [e]
  refine List.Perm.trans ?_ (hp.map _)
  rw [List.map_cons, if_pos rfl]
  refine List.Perm.cons _ (List.Perm.of_eq (List.map_congr_left fun j hj => ?_))
  rw [if_neg (by have := (List.mem_filter.1 hj).2; simpa using this)]
/-- The row of an address's source was written anew. -/
theorem put_join {F : List SProp} {a : MA} {M : Msh} {f : Sls} {l l' : List (Option Addr × List (List UInt8))} {w : World} (hok : M.ok) (hT : Tied M f l) {t : Nat} (ht : t < M.n) {k : Int} {r : List (List UInt8)} {A : Option Addr} {n c : Nat} (hn : n = r.length) (hc : n ≤ c) (hr : r ≠ []) (hl : ∀ p ∈ l, p ∈ l') (hA : (A, r) ∈ l') {m : List (Value × Value)} (hm : m.Perm ((.int .i64 k, .slice A n c) :: ((M.bx t).ks.filter fun x => decide (x ≠ k)).map fun j => (Value.int .i64 j, f t j)))
    (hM : Star (mapE Try.prog 3 (a.b t) m :: mshE a M.n M.lost :: bxsE a M :: rowsE l' :: (((List.range M.n).erase t).map (mpE a M f) ++ F)) w) :
    ∃ f', Tied (M.put t ((M.bx t).set k r)) f' l' ∧ Star (meshE a (M.put t ((M.bx t).set k r)) f' :: rowsE l' :: F) w := by
  refine ⟨putF f t k (.slice A n c), tied_put hok hT ht k hn hc hl (fun _ => hA), ?_⟩
  refine Star.mjoin2 (M := M) (f := f) (i := t) ?_ ht rfl (fun j hj => bmap_put_ne M f t _ k _ j hj)
  have e : boxesC a (M.put t ((M.bx t).set k r)) = boxesC a M := boxesC_same rfl fun i => by
    rw [put_bx]
    split
    · rename_i e; subst e; rfl
    · rfl
  have h1 := hM.map_perm (hm.trans (set_ks (hok.bx t ht) k hr))
  rw [← bmap_put_eq M f t _ k _] at h1
  unfold bxsE
  rw [e]
  exact h1
theorem send_join {F : List SProp} {a : MA} {M : Msh} {f : Sls} {l : List (Option Addr × List (List UInt8))} {w : World} (hok : M.ok) (hT : Tied M f l) {t : Nat} (ht : t < M.n) {k : Int} {r : List (List UInt8)} {A : Option Addr} {n c : Nat} (hn : n = r.length) (hr : r ≠ []) {m : List (Value × Value)} (hm : m.Perm ((.int .i64 k, .slice A n c) :: ((M.bx t).ks.filter fun x => decide (x ≠ k)).map fun j => (Value.int .i64 j, f t j)))
    (hM : Star (mapE Try.prog 3 (a.b t) m :: ownE 9 1 A n c (svs r) :: mshE a M.n M.lost :: bxsE a M :: rowsE l :: (((List.range M.n).erase t).map (mpE a M f) ++ F)) w) :
    ∃ f' l', Tied (M.put t ((M.bx t).set k r)) f' l' ∧ Star (meshE a (M.put t ((M.bx t).set k r)) f' :: rowsE l' :: F) w := by
  have hc : n ≤ c := by
    have h := hM.all _ (List.mem_cons_of_mem _ List.mem_cons_self)
    rcases h.2 with ⟨e, h0⟩ | ⟨g, cap, cur, e, _, _, h4, _⟩
    · omega
    · injection e with _ _ e; omega
  have h2 : Star (rowE 1 A r.length (svs r) :: rowsE l :: mapE Try.prog 3 (a.b t) m :: mshE a M.n M.lost :: bxsE a M :: (((List.range M.n).erase t).map (mpE a M f) ++ F)) w := by
    rw [← hn]
    refine Star.freeze (e := 9) (c := c) (hM.perm ?_)
    refine (List.Perm.swap _ _ _).trans (List.Perm.cons _ ?_)
    exact (List.perm_middle (a := rowsE l) (l₁ := [mapE Try.prog 3 (a.b t) m, mshE a M.n M.lost, bxsE a M]) (l₂ := (((List.range M.n).erase t).map (mpE a M f) ++ F)))
  obtain ⟨f', h3, h4⟩ := put_join (l' := (A, r) :: l) hok hT ht hn hc hr (fun p hp => List.mem_cons_of_mem _ hp) List.mem_cons_self hm (h2.rows_add.perm (List.perm_middle (a := rowsE ((A, r) :: l)) (l₁ := [mapE Try.prog 3 (a.b t) m, mshE a M.n M.lost, bxsE a M]) (l₂ := (((List.range M.n).erase t).map (mpE a M f) ++ F))).symm)
  exact ⟨f', _, h3, h4⟩
theorem insS_old {k : Int} {l : List Int} (h : l.Pairwise (· < ·)) (hk : k ∈ l) : insS k l = l := by
  induction l with
  | nil => cases hk
  | cons y l ih =>
    obtain ⟨h1, h2⟩ := List.pairwise_cons.1 h
    unfold insS
    rcases List.mem_cons.1 hk with rfl | hk
    · rw [if_neg (by omega), if_pos rfl]
    · have := h1 k hk
      rw [if_neg (by omega), if_neg (by omega), ih h2 hk]
theorem set_ks_old {B : Bx} (h : B.ok) {k : Int} (hk : k ∈ B.ks) {r : List (List UInt8)} (hr : r ≠ []) : (B.set k r).ks = B.ks := by
  unfold Bx.set
  simp only
  rw [if_neg hr, insS_old h.rises hk]
section
variable {F : List SProp} {a : MA} {M : Msh} {f : Sls} {l : List (Option Addr × List (List UInt8))}
set_option maxRecDepth 100000 in
set_option maxHeartbeats 8000000 in
theorem send_ok (hok : M.ok) (hT : Tied M f l) {g : Nat} {tI k : Int} (t q : Nat) (ht0 : tI = t) (hk0 : k = q) (ht : t < M.n) (hq : q < M.n) (x : List UInt8) (hx : x.length ≤ 1024) (hfew : ((M.bx t).row k).length < 8) (w : World) (hM : Star (meshE a M f :: rowsE l :: F) w) (hF : rowE 1 (some ⟨g, 0, none⟩) 1 (ivs [tI]) ∈ F) :
    Calls Try.prog 17 #[mptr a, .int .i64 k, .string ⟨x.toArray⟩, .slice (some ⟨g, 0, none⟩) 1 1] w fun r w' => ∃ f' l', Hid (Tied (sendM M t k x) f' l') ∧ r = .returned (.int .i64 0) ∧ Star (meshE a (sendM M t k x) f' :: rowsE l' :: F) w' := by
  have hn64 := hok.n64
  have hB := hok.bx t ht
  have k1 : -9223372036854775808 ≤ k := by omega
  have k2 : k ≤ 9223372036854775807 := by omega
  have HK := Lib.hid (int_keyI k1 k2)
  have HB0 := Lib.hid (boxesC_at a M (i := t) (j := 0) ht (by omega))
  have hM2 := hM.mopen2 ht
  clear hM
  have hM := hM2
  clear hM2
  obtain ⟨R, hR⟩ : ∃ R, R = ((List.range M.n).erase t).map (mpE a M f) ++ F := ⟨_, rfl⟩
  have hFR : rowE 1 (some ⟨g, 0, none⟩) 1 (ivs [tI]) ∈ R := by rw [hR]; exact List.mem_append.2 (.inr hF)
  rw [← hR] at hM
  have HR := Lib.hid hR
  have HQ : Hid (∀ (L : List SProp) (w : World), Star L w → mshE a M.n M.lost ∈ L → Calls Try.prog 44 #[mptr a, .int .i64 k] w fun r w' => r = .returned (bptr a q) ∧ Star L w') := fun L w hM hx => at_yes q hk0 hq w hM hx
  have HTT : Hid (∀ (L : List SProp) (w : World), Star L w → mshE a M.n M.lost ∈ L → Calls Try.prog 44 #[mptr a, .int .i64 tI] w fun r w' => r = .returned (bptr a t) ∧ Star L w') := fun L w hM hx => at_yes t ht0 ht w hM hx
  have HTI := Lib.hid hT
  have HOK := Lib.hid hok
  have HBK := Lib.hid hB
  have HV : Hid ((ivs [tI])[0]? = some (.int .i64 tI)) := rfl
  have hxI : (x.length : Int) ≤ 1024 := by omega
  have ht64 : t < 64 := by omega
  clear hR hT hok hB hk0 ht0
  by_cases hin : k ∈ (M.bx t).ks
  · obtain ⟨A, c, hf, hnc, hAl⟩ := HTI.out.at_ t ht k hin
    have hne := (HBK.out.mem k).1 hin
    obtain ⟨r, hr⟩ : ∃ r, (M.bx t).row k = r := ⟨_, rfl⟩
    rw [hr] at hf hnc hAl hne hfew
    have hM2 := hM.rows_view (l := l) (by (repeat (first | assumption | (with_reducible exact mZ) | apply mS)); first | done | fail) hAl
    clear hM
    have hM := hM2
    clear hM2
    obtain ⟨n, hn⟩ : ∃ n, r.length = n := ⟨_, rfl⟩
    rw [hn] at hM hf hnc hfew
    have hn1 : 0 < n := by rw [← hn]; exact List.length_pos_iff.2 hne
    obtain ⟨ad, rfl⟩ : ∃ ad, A = some ad := by
      obtain ⟨ad, e, _⟩ := (hM.row (A := A) (n := n) (xs := svs r) (by (repeat (first | assumption | (with_reducible exact mZ) | apply mS)); first | done | fail)).2 hn1
      exact ⟨ad, e⟩
    have HHIT : Hid ((Value.int .i64 k, Value.slice (some ad) n c) ∈ bmap M f t) := by
      show _ ∈ _
      rw [← hf]
      exact List.mem_map.2 ⟨k, hin, rfl⟩
    have HP : Hid ((bmap M f t).Perm ((.int .i64 k, f t k) :: ((M.bx t).ks.filter fun x => decide (x ≠ k)).map fun k => (Value.int .i64 k, f t k))) := (perm_out (rises_nodup HBK.out.rises) hin).map fun k => (Value.int .i64 k, f t k)
    have HRW := Lib.hid hr
    have HNE := Lib.hid hne
    have HIN := Lib.hid hin
    have HN := Lib.hid hn
    have HN8 := Lib.hid (by omega : n ≤ 1000000)
    have HFK := Lib.hid hf
    have hn8 : decide ((8 : Int) ≤ (n : Int)) = false := by simp; omega
    clear hin hf hr hne hn hAl
    go_enter Try.func17, Try.ntmps17
    go_wp2_with fail
    go_loopw [9, 15] (fun e i wr => (e = .int .i64 0 ∧ i = .int .i64 0 ∧ Star (rowE 1 (some ad) n (svs r) :: mpE a M f t :: mshE a M.n M.lost :: bxsE a M :: rowsE l :: R) wr) ∨ (e = .int .i64 0 ∧ i = .int .i64 1 ∧ ∃ f' l', Hid (Tied (sendM M t k x) f' l') ∧ Star (meshE a (sendM M t k x) f' :: rowsE l' :: F) wr)) (fun _ i _ => 1 - (intOf i).toNat)
    case atStart => exact .inl ⟨rfl, rfl, hM⟩
    case round =>
      clear hM
      rcases hrel with ⟨rfl, rfl, hM⟩ | ⟨rfl, rfl, f', l', hT', hM⟩
      · go_wp2_with (first | ((with_reducible refine at_load' ?_); refine BigFrame.wpList_want (by rfl) fun K hK => ws_rowload0 (k := 0) rfl rfl (hM.row (A := some ⟨g, 0, none⟩) (n := 1) (xs := ivs [tI]) (by (repeat (first | assumption | (with_reducible exact mZ) | apply mS)); first | done | fail)) HV.out (by decide +kernel) (hK _ _ ?_); clear hK K) | (go_at_call 44; have hM0 := hM; clear hM; (first | (with_reducible refine (HTT.out _ _ hM0 (by (repeat (first | assumption | (with_reducible exact mZ) | apply mS)); first | done | fail)).mono ?_) | fail); clear hM0; rintro _ w ⟨rfl, hM⟩) | (go_at_call 44; have hM0 := hM; clear hM; (first | (with_reducible refine (HQ.out _ _ hM0 (by (repeat (first | assumption | (with_reducible exact mZ) | apply mS)); first | done | fail)).mono ?_) | fail); clear hM0; rintro _ w ⟨rfl, hM⟩) | (first | ((with_reducible refine at_load' ?_); (refine BigFrame.wpList_want (by rfl) fun K hK => ws_load1 hM rfl rfl (by (repeat (first | assumption | (with_reducible exact mZ) | apply mS)); first | done | fail) (by exact HB0.out) (by decide +kernel) (hK _ _ ?_); clear hK K)) | fail) | (first | ((with_reducible refine at_lookup' ?_); (refine BigFrame.wpList_want (by rfl) fun K hK => ws_of_ex (ex_hit1 (key := .int .i64 k) hM rfl Try.underlying92 rfl rfl (by (repeat (first | assumption | (with_reducible exact mZ) | apply mS)); first | done | fail) keyed_i2 HK.out HHIT.out) (hK _ _ ?_); clear hK K)) | fail))
        (refine region_RS ([mpE a M f t, bxsE a M, rowE 1 (some ad) n (svs r)]) [15] (by kernel_rfl) hM ?_; clear hM; change RS _ _ _ _ _ _ 16 (Array.replicate 16 false) _ _; refine RS_take (i := 0) rfl (by decide +kernel) (fun _ _ _ h => h) (by first | (intro x hx; (repeat (first | exact hx | apply mS)); done) | ((repeat (refine List.forall_mem_cons.2 ⟨(by (repeat (first | assumption | (with_reducible exact mZ) | apply mS)); first | done | fail), ?_⟩)); intro x hx; first | (cases hx; done) | ((repeat (first | exact hx | apply mS)); done))) (stab_pure (by rfl) (fun w => (by go_simp; try with_reducible rfl))) ?_; simp only [Act.put, List.setIfInBounds_toArray, List.set_cons_zero, List.set_cons_succ]; refine RS_take (i := 1) rfl (by decide +kernel) (fun _ _ _ h => h) (by first | (intro x hx; (repeat (first | exact hx | apply mS)); done) | ((repeat (refine List.forall_mem_cons.2 ⟨(by (repeat (first | assumption | (with_reducible exact mZ) | apply mS)); first | done | fail), ?_⟩)); intro x hx; first | (cases hx; done) | ((repeat (first | exact hx | apply mS)); done))) (stab_pure (by rfl) (fun w => (by go_simp; try with_reducible rfl))) ?_; simp only [Act.put, List.setIfInBounds_toArray, List.set_cons_zero, List.set_cons_succ]; refine RS_take (i := 2) rfl (by decide +kernel) (fun _ _ _ h => h) (by first | (intro x hx; (repeat (first | exact hx | apply mS)); done) | ((repeat (refine List.forall_mem_cons.2 ⟨(by (repeat (first | assumption | (with_reducible exact mZ) | apply mS)); first | done | fail), ?_⟩)); intro x hx; first | (cases hx; done) | ((repeat (first | exact hx | apply mS)); done))) (stab_pure (by rfl) (fun w => (by go_simp; try with_reducible rfl))) ?_; simp only [Act.put, List.setIfInBounds_toArray, List.set_cons_zero, List.set_cons_succ]; refine RS_take (i := 3) rfl (by decide +kernel) (fun _ _ _ h => h) (by first | (intro x hx; (repeat (first | exact hx | apply mS)); done) | ((repeat (refine List.forall_mem_cons.2 ⟨(by (repeat (first | assumption | (with_reducible exact mZ) | apply mS)); first | done | fail), ?_⟩)); intro x hx; first | (cases hx; done) | ((repeat (first | exact hx | apply mS)); done))) (stab_read (by rfl) (fun L w hL hM => (ex_load1 (v := .map (some (a.b t))) hM rfl rfl (hL _ (by (repeat (first | assumption | (with_reducible exact mZ) | apply mS)); first | done | fail)) HB0.out (by decide +kernel)))) ?_; simp only [Act.put, List.setIfInBounds_toArray, List.set_cons_zero, List.set_cons_succ]; refine RS_take (i := 4) rfl (by decide +kernel) (fun _ _ _ h => h) (by first | (intro x hx; (repeat (first | exact hx | apply mS)); done) | ((repeat (refine List.forall_mem_cons.2 ⟨(by (repeat (first | assumption | (with_reducible exact mZ) | apply mS)); first | done | fail), ?_⟩)); intro x hx; first | (cases hx; done) | ((repeat (first | exact hx | apply mS)); done))) (stab_pure (by rfl) (fun w => (by go_simp; try with_reducible rfl))) ?_; simp only [Act.put, List.setIfInBounds_toArray, List.set_cons_zero, List.set_cons_succ]; refine RS_take (i := 5) rfl (by decide +kernel) (fun _ _ _ h => h) (by first | (intro x hx; (repeat (first | exact hx | apply mS)); done) | ((repeat (refine List.forall_mem_cons.2 ⟨(by (repeat (first | assumption | (with_reducible exact mZ) | apply mS)); first | done | fail), ?_⟩)); intro x hx; first | (cases hx; done) | ((repeat (first | exact hx | apply mS)); done))) (stab_pure (by rfl) (fun w => (by go_simp; try with_reducible rfl))) ?_; simp only [Act.put, List.setIfInBounds_toArray, List.set_cons_zero, List.set_cons_succ]; refine RS_take (i := 6) rfl (by decide +kernel) (fun _ _ _ h => h) (by first | (intro x hx; (repeat (first | exact hx | apply mS)); done) | ((repeat (refine List.forall_mem_cons.2 ⟨(by (repeat (first | assumption | (with_reducible exact mZ) | apply mS)); first | done | fail), ?_⟩)); intro x hx; first | (cases hx; done) | ((repeat (first | exact hx | apply mS)); done))) (stab_pure (by rfl) (fun w => (by go_simp; try with_reducible rfl))) ?_; simp only [Act.put, List.setIfInBounds_toArray, List.set_cons_zero, List.set_cons_succ]; refine RS_take (i := 7) rfl (by decide +kernel) (fun _ _ _ h => h) (by first | (intro x hx; (repeat (first | exact hx | apply mS)); done) | ((repeat (refine List.forall_mem_cons.2 ⟨(by (repeat (first | assumption | (with_reducible exact mZ) | apply mS)); first | done | fail), ?_⟩)); intro x hx; first | (cases hx; done) | ((repeat (first | exact hx | apply mS)); done))) (stab_pure (by rfl) (fun w => (by go_simp; try with_reducible rfl))) ?_; simp only [Act.put, List.setIfInBounds_toArray, List.set_cons_zero, List.set_cons_succ]; refine RS_take (i := 8) rfl (by decide +kernel) (fun _ _ _ h => h) (by first | (intro x hx; (repeat (first | exact hx | apply mS)); done) | ((repeat (refine List.forall_mem_cons.2 ⟨(by (repeat (first | assumption | (with_reducible exact mZ) | apply mS)); first | done | fail), ?_⟩)); intro x hx; first | (cases hx; done) | ((repeat (first | exact hx | apply mS)); done))) (stab_read (by rfl) (fun L w hL hM => (ex_load1 (v := .map (some (a.b t))) hM rfl rfl (hL _ (by (repeat (first | assumption | (with_reducible exact mZ) | apply mS)); first | done | fail)) HB0.out (by decide +kernel)))) ?_; simp only [Act.put, List.setIfInBounds_toArray, List.set_cons_zero, List.set_cons_succ]; refine RS_take (i := 9) rfl (by decide +kernel) (fun _ _ _ h => h) (by first | (intro x hx; (repeat (first | exact hx | apply mS)); done) | ((repeat (refine List.forall_mem_cons.2 ⟨(by (repeat (first | assumption | (with_reducible exact mZ) | apply mS)); first | done | fail), ?_⟩)); intro x hx; first | (cases hx; done) | ((repeat (first | exact hx | apply mS)); done))) (stab_pure (by rfl) (fun w => (by go_simp; try with_reducible rfl))) ?_; simp only [Act.put, List.setIfInBounds_toArray, List.set_cons_zero, List.set_cons_succ]; refine RS_take (i := 10) rfl (by decide +kernel) (fun _ _ _ h => h) (by first | (intro x hx; (repeat (first | exact hx | apply mS)); done) | ((repeat (refine List.forall_mem_cons.2 ⟨(by (repeat (first | assumption | (with_reducible exact mZ) | apply mS)); first | done | fail), ?_⟩)); intro x hx; first | (cases hx; done) | ((repeat (first | exact hx | apply mS)); done))) (stab_read (by rfl) (fun L w hL hM => (ex_hit1 (key := .int .i64 k) hM rfl Try.underlying92 rfl rfl (hL _ (by (repeat (first | assumption | (with_reducible exact mZ) | apply mS)); first | done | fail)) keyed_i2 HK.out HHIT.out))) ?_; simp only [Act.put, List.setIfInBounds_toArray, List.set_cons_zero, List.set_cons_succ]; refine RS_take (i := 12) rfl (by decide +kernel) (fun _ _ _ h => h) (by first | (intro x hx; (repeat (first | exact hx | apply mS)); done) | ((repeat (refine List.forall_mem_cons.2 ⟨(by (repeat (first | assumption | (with_reducible exact mZ) | apply mS)); first | done | fail), ?_⟩)); intro x hx; first | (cases hx; done) | ((repeat (first | exact hx | apply mS)); done))) (stab_pure (by rfl) (fun w => (by go_simp; try with_reducible rfl))) ?_; simp only [Act.put, List.setIfInBounds_toArray, List.set_cons_zero, List.set_cons_succ]; refine RS_ready (rs := [11, 13]) (by decide +kernel) (by simp) (.inl (by first | (intro x hx; (repeat (first | exact hx | apply mS)); done) | ((repeat (refine List.forall_mem_cons.2 ⟨(by (repeat (first | assumption | (with_reducible exact mZ) | apply mS)); first | done | fail), ?_⟩)); intro x hx; first | (cases hx; done) | ((repeat (first | exact hx | apply mS)); done)))) ?_; refine (List.forall_mem_cons.2 ⟨?_, (List.forall_mem_cons.2 ⟨?_, (fun _ h => by cases h)⟩)⟩); rotate_right 1; (focus (refine RS_way (i := 13) rfl (by rfl) (fun w K hM0 hK => ?_); refine ws_slice_row hM0 (n := 1) rfl 9 1 (.string ByteArray.empty) [sv x] Try.underlying22 (by kernel_rfl) rfl (by simp [Value.cells, iv, sv, bv]) (by rfl) (by decide) (cs := svs [x]) (by rfl) (fun g35 w hM => hK _ _ _ hM ?_); clear hM hM0 hK K; simp only [Act.put, List.setIfInBounds_toArray, List.set_cons_zero, List.set_cons_succ]; refine RS_one (i := 11) (by decide +kernel) rfl (by rfl) (.inl (by first | (intro x hx; (repeat (first | exact hx | apply mS)); done) | ((repeat (refine List.forall_mem_cons.2 ⟨(by (repeat (first | assumption | (with_reducible exact mZ) | apply mS)); first | done | fail), ?_⟩)); intro x hx; first | (cases hx; done) | ((repeat (first | exact hx | apply mS)); done)))) (fun w K hM0 hK => ?_); refine ws_call (by go_simp; try with_reducible rfl) (clone_some (ad := ad) (c := c) (r := r) HN8.out w hM0 (by (repeat (first | assumption | (with_reducible exact mZ) | apply mS)); first | done | fail)) (fun r w2 hR => ?_); obtain ⟨A2, c2, rfl, hM⟩ := hR; refine ⟨_, rfl, hK _ _ _ hM ?_⟩; clear hM hM0 hK K; simp only [Act.put, List.setIfInBounds_toArray, List.set_cons_zero, List.set_cons_succ]; refine RS_one (i := 14) (by decide +kernel) rfl (by rfl) (.inl (by first | (intro x hx; (repeat (first | exact hx | apply mS)); done) | ((repeat (refine List.forall_mem_cons.2 ⟨(by (repeat (first | assumption | (with_reducible exact mZ) | apply mS)); first | done | fail), ?_⟩)); intro x hx; first | (cases hx; done) | ((repeat (first | exact hx | apply mS)); done)))) (fun w K hM0 hK => ?_); refine ws_append hM0 rfl rfl rfl 9 ((.string ByteArray.empty)) 1 16 Try.underlying22 (by kernel_rfl) (by rfl) (by decide) (by (repeat (first | (with_reducible exact Take.head) | apply Take.tail)); first | done | fail) (by first | (apply Star.row hM0; (repeat (first | assumption | (with_reducible exact mZ) | apply mS)); done) | (apply Star.own hM0; (repeat (first | assumption | (with_reducible exact mZ) | apply mS)); done) | (apply Star.arr hM0; (focus ((repeat (first | assumption | (with_reducible exact mZ) | apply mS)); done)); assumption)) (svs_cells1 _) ((by omega)) (fun A1 c1 w hM hnil => hK _ _ _ hM ?_); clear hM hM0 hK K; simp only [Act.put, List.setIfInBounds_toArray, List.set_cons_zero, List.set_cons_succ]; refine RS_one (i := 15) (by decide +kernel) rfl (by rfl) (.inl (by first | (intro x hx; (repeat (first | exact hx | apply mS)); done) | ((repeat (refine List.forall_mem_cons.2 ⟨(by (repeat (first | assumption | (with_reducible exact mZ) | apply mS)); first | done | fail), ?_⟩)); intro x hx; first | (cases hx; done) | ((repeat (first | exact hx | apply mS)); done)))) (fun w K hM0 hK => ?_); refine ws_update_old (key := .int .i64 k) (v := .slice A1 (n+1) c1) hM0 rfl Try.underlying92 rfl rfl rfl (by (repeat (first | (with_reducible exact Take.head) | apply Take.tail)); first | done | fail) keyed_i2 HK.out HP.out (fun w hM => hK _ _ _ hM ?_); clear hM hM0 hK K; simp only [Act.put, List.setIfInBounds_toArray, List.set_cons_zero, List.set_cons_succ]; refine RS_done (by decide +kernel) (.inr (by decide +kernel)) (fun w hM => ?_))); rotate_right 1; (focus (refine RS_way (i := 11) rfl (by rfl) (fun w K hM0 hK => ?_); refine ws_call (by go_simp; try with_reducible rfl) (clone_some (ad := ad) (c := c) (r := r) HN8.out w hM0 (by (repeat (first | assumption | (with_reducible exact mZ) | apply mS)); first | done | fail)) (fun r w2 hR => ?_); obtain ⟨A2, c2, rfl, hM⟩ := hR; refine ⟨_, rfl, hK _ _ _ hM ?_⟩; clear hM hM0 hK K; simp only [Act.put, List.setIfInBounds_toArray, List.set_cons_zero, List.set_cons_succ]; refine RS_one (i := 13) (by decide +kernel) rfl (by rfl) (.inl (by first | (intro x hx; (repeat (first | exact hx | apply mS)); done) | ((repeat (refine List.forall_mem_cons.2 ⟨(by (repeat (first | assumption | (with_reducible exact mZ) | apply mS)); first | done | fail), ?_⟩)); intro x hx; first | (cases hx; done) | ((repeat (first | exact hx | apply mS)); done)))) (fun w K hM0 hK => ?_); refine ws_slice_row hM0 (n := 1) rfl 9 1 (.string ByteArray.empty) [sv x] Try.underlying22 (by kernel_rfl) rfl (by simp [Value.cells, iv, sv, bv]) (by rfl) (by decide) (cs := svs [x]) (by rfl) (fun g35 w hM => hK _ _ _ hM ?_); clear hM hM0 hK K; simp only [Act.put, List.setIfInBounds_toArray, List.set_cons_zero, List.set_cons_succ]; refine RS_one (i := 14) (by decide +kernel) rfl (by rfl) (.inl (by first | (intro x hx; (repeat (first | exact hx | apply mS)); done) | ((repeat (refine List.forall_mem_cons.2 ⟨(by (repeat (first | assumption | (with_reducible exact mZ) | apply mS)); first | done | fail), ?_⟩)); intro x hx; first | (cases hx; done) | ((repeat (first | exact hx | apply mS)); done)))) (fun w K hM0 hK => ?_); refine ws_append hM0 rfl rfl rfl 9 ((.string ByteArray.empty)) 1 16 Try.underlying22 (by kernel_rfl) (by rfl) (by decide) (by (repeat (first | (with_reducible exact Take.head) | apply Take.tail)); first | done | fail) (by first | (apply Star.row hM0; (repeat (first | assumption | (with_reducible exact mZ) | apply mS)); done) | (apply Star.own hM0; (repeat (first | assumption | (with_reducible exact mZ) | apply mS)); done) | (apply Star.arr hM0; (focus ((repeat (first | assumption | (with_reducible exact mZ) | apply mS)); done)); assumption)) (svs_cells1 _) ((by omega)) (fun A1 c1 w hM hnil => hK _ _ _ hM ?_); clear hM hM0 hK K; simp only [Act.put, List.setIfInBounds_toArray, List.set_cons_zero, List.set_cons_succ]; refine RS_one (i := 15) (by decide +kernel) rfl (by rfl) (.inl (by first | (intro x hx; (repeat (first | exact hx | apply mS)); done) | ((repeat (refine List.forall_mem_cons.2 ⟨(by (repeat (first | assumption | (with_reducible exact mZ) | apply mS)); first | done | fail), ?_⟩)); intro x hx; first | (cases hx; done) | ((repeat (first | exact hx | apply mS)); done)))) (fun w K hM0 hK => ?_); refine ws_update_old (key := .int .i64 k) (v := .slice A1 (n+1) c1) hM0 rfl Try.underlying92 rfl rfl rfl (by (repeat (first | (with_reducible exact Take.head) | apply Take.tail)); first | done | fail) keyed_i2 HK.out HP.out (fun w hM => hK _ _ _ hM ?_); clear hM hM0 hK K; simp only [Act.put, List.setIfInBounds_toArray, List.set_cons_zero, List.set_cons_succ]; refine RS_done (by decide +kernel) (.inr (by decide +kernel)) (fun w hM => ?_))))
        all_goals (
          have hM2 : Star (mapE Try.prog 3 (a.b t) ((.int .i64 k, .slice A1 (n + 1) c1) :: ((M.bx t).ks.filter fun x => decide (x ≠ k)).map fun j => (Value.int .i64 j, f t j)) :: ownE 9 1 A1 (n + 1) c1 (svs ((M.bx t).row k ++ [x])) :: mshE a M.n M.lost :: bxsE a M :: rowsE l :: R) w := by
            have h := hM.sel (R := mapE Try.prog 3 (a.b t) ((.int .i64 k, .slice A1 (n + 1) c1) :: ((M.bx t).ks.filter fun x => decide (x ≠ k)).map fun j => (Value.int .i64 j, f t j)) :: ownE 9 1 A1 (n + 1) c1 (svs r ++ svs [x]) :: mshE a M.n M.lost :: bxsE a M :: rowsE l :: R) (by repeat (first | (with_reducible exact Sel.refl) | (with_reducible exact Take.head) | (with_reducible apply Take.tail) | (with_reducible apply Sel.cons) | (with_reducible apply Sel.drop)))
            have e : svs r ++ svs [x] = svs ((M.bx t).row k ++ [x]) := by rw [HRW.out]; simp [svs]
            rw [e] at h
            exact h
          clear hM
          rw [HR.out] at hM2
          obtain ⟨f', l', hT', hM3⟩ := send_join HOK.out HTI.out ht (by rw [HRW.out, List.length_append, HN.out]; rfl) (by simp) (List.Perm.refl _) hM2
          clear hM2
          have hM := hM3
          clear hM3
          have HT' : Hid (Tied (sendM M t k x) f' l') := hT'
          clear hT'
          go_wp2_with fail
          go_roundw
          case rel => exact .inr ⟨rfl, rfl, f', l', HT', hM⟩
          case measure => simp [intOf])
      · go_wp2_with fail
        go_ret
        exact ⟨f', l', hT', rfl, hM⟩
  · have hr : (M.bx t).row k = [] := by
      by_cases e : (M.bx t).row k = []
      · exact e
      · exact absurd ((HBK.out.mem k).2 e) hin
    have HRW := Lib.hid hr
    have HMISS : Hid (∀ p ∈ bmap M f t, p.1 ≠ Value.int .i64 k) := fun p hp => by
      obtain ⟨j, hj, rfl⟩ := List.mem_map.1 hp
      intro e
      injection e with _ e
      exact hin (e ▸ hj)
    have HPN : Hid (∀ v : Value, ((Value.int .i64 k, v) :: bmap M f t).Perm ((.int .i64 k, v) :: ((M.bx t).ks.filter fun x => decide (x ≠ k)).map fun j => (Value.int .i64 j, f t j))) := fun v => by
      refine List.Perm.cons _ (List.Perm.of_eq ?_)
      have e : ((M.bx t).ks.filter fun x => decide (x ≠ k)) = (M.bx t).ks := List.filter_eq_self.2 fun x hx => by
        have : x ≠ k := fun e => hin (e ▸ hx)
        simpa using this
      rw [e]
      rfl
    clear hin hr hfew
    go_enter Try.func17, Try.ntmps17
    go_wp2_with fail
    go_loopw [9, 15] (fun e i wr => (e = .int .i64 0 ∧ i = .int .i64 0 ∧ Star (mpE a M f t :: mshE a M.n M.lost :: bxsE a M :: rowsE l :: R) wr) ∨ (e = .int .i64 0 ∧ i = .int .i64 1 ∧ ∃ f' l', Hid (Tied (sendM M t k x) f' l') ∧ Star (meshE a (sendM M t k x) f' :: rowsE l' :: F) wr)) (fun _ i _ => 1 - (intOf i).toNat)
    case atStart => exact .inl ⟨rfl, rfl, hM⟩
    case round =>
      clear hM
      rcases hrel with ⟨rfl, rfl, hM⟩ | ⟨rfl, rfl, f', l', hT', hM⟩
      · go_wp2_with (first | ((with_reducible refine at_load' ?_); refine BigFrame.wpList_want (by rfl) fun K hK => ws_rowload0 (k := 0) rfl rfl (hM.row (A := some ⟨g, 0, none⟩) (n := 1) (xs := ivs [tI]) (by (repeat (first | assumption | (with_reducible exact mZ) | apply mS)); first | done | fail)) HV.out (by decide +kernel) (hK _ _ ?_); clear hK K) | (go_at_call 44; have hM0 := hM; clear hM; (first | (with_reducible refine (HTT.out _ _ hM0 (by (repeat (first | assumption | (with_reducible exact mZ) | apply mS)); first | done | fail)).mono ?_) | fail); clear hM0; rintro _ w ⟨rfl, hM⟩) | (go_at_call 44; have hM0 := hM; clear hM; (first | (with_reducible refine (HQ.out _ _ hM0 (by (repeat (first | assumption | (with_reducible exact mZ) | apply mS)); first | done | fail)).mono ?_) | fail); clear hM0; rintro _ w ⟨rfl, hM⟩) | (first | ((with_reducible refine at_load' ?_); (refine BigFrame.wpList_want (by rfl) fun K hK => ws_load1 hM rfl rfl (by (repeat (first | assumption | (with_reducible exact mZ) | apply mS)); first | done | fail) (by exact HB0.out) (by decide +kernel) (hK _ _ ?_); clear hK K)) | fail) | (first | ((with_reducible refine at_lookup' ?_); (refine BigFrame.wpList_want (by rfl) fun K hK => ws_of_ex (ex_miss1 (key := .int .i64 k) hM rfl Try.underlying92 zero_row rfl rfl (by (repeat (first | assumption | (with_reducible exact mZ) | apply mS)); first | done | fail) keyed_i2 HK.out HMISS.out) (hK _ _ ?_); clear hK K)) | fail))
        (refine region_RS ([mpE a M f t, bxsE a M]) [15] (by kernel_rfl) hM ?_; clear hM; change RS _ _ _ _ _ _ 16 (Array.replicate 16 false) _ _; refine RS_take (i := 0) rfl (by decide +kernel) (fun _ _ _ h => h) (by first | (intro x hx; (repeat (first | exact hx | apply mS)); done) | ((repeat (refine List.forall_mem_cons.2 ⟨(by (repeat (first | assumption | (with_reducible exact mZ) | apply mS)); first | done | fail), ?_⟩)); intro x hx; first | (cases hx; done) | ((repeat (first | exact hx | apply mS)); done))) (stab_pure (by rfl) (fun w => (by go_simp; try with_reducible rfl))) ?_; simp only [Act.put, List.setIfInBounds_toArray, List.set_cons_zero, List.set_cons_succ]; refine RS_take (i := 1) rfl (by decide +kernel) (fun _ _ _ h => h) (by first | (intro x hx; (repeat (first | exact hx | apply mS)); done) | ((repeat (refine List.forall_mem_cons.2 ⟨(by (repeat (first | assumption | (with_reducible exact mZ) | apply mS)); first | done | fail), ?_⟩)); intro x hx; first | (cases hx; done) | ((repeat (first | exact hx | apply mS)); done))) (stab_pure (by rfl) (fun w => (by go_simp; try with_reducible rfl))) ?_; simp only [Act.put, List.setIfInBounds_toArray, List.set_cons_zero, List.set_cons_succ]; refine RS_take (i := 2) rfl (by decide +kernel) (fun _ _ _ h => h) (by first | (intro x hx; (repeat (first | exact hx | apply mS)); done) | ((repeat (refine List.forall_mem_cons.2 ⟨(by (repeat (first | assumption | (with_reducible exact mZ) | apply mS)); first | done | fail), ?_⟩)); intro x hx; first | (cases hx; done) | ((repeat (first | exact hx | apply mS)); done))) (stab_pure (by rfl) (fun w => (by go_simp; try with_reducible rfl))) ?_; simp only [Act.put, List.setIfInBounds_toArray, List.set_cons_zero, List.set_cons_succ]; refine RS_take (i := 3) rfl (by decide +kernel) (fun _ _ _ h => h) (by first | (intro x hx; (repeat (first | exact hx | apply mS)); done) | ((repeat (refine List.forall_mem_cons.2 ⟨(by (repeat (first | assumption | (with_reducible exact mZ) | apply mS)); first | done | fail), ?_⟩)); intro x hx; first | (cases hx; done) | ((repeat (first | exact hx | apply mS)); done))) (stab_read (by rfl) (fun L w hL hM => (ex_load1 (v := .map (some (a.b t))) hM rfl rfl (hL _ (by (repeat (first | assumption | (with_reducible exact mZ) | apply mS)); first | done | fail)) HB0.out (by decide +kernel)))) ?_; simp only [Act.put, List.setIfInBounds_toArray, List.set_cons_zero, List.set_cons_succ]; refine RS_take (i := 4) rfl (by decide +kernel) (fun _ _ _ h => h) (by first | (intro x hx; (repeat (first | exact hx | apply mS)); done) | ((repeat (refine List.forall_mem_cons.2 ⟨(by (repeat (first | assumption | (with_reducible exact mZ) | apply mS)); first | done | fail), ?_⟩)); intro x hx; first | (cases hx; done) | ((repeat (first | exact hx | apply mS)); done))) (stab_pure (by rfl) (fun w => (by go_simp; try with_reducible rfl))) ?_; simp only [Act.put, List.setIfInBounds_toArray, List.set_cons_zero, List.set_cons_succ]; refine RS_take (i := 5) rfl (by decide +kernel) (fun _ _ _ h => h) (by first | (intro x hx; (repeat (first | exact hx | apply mS)); done) | ((repeat (refine List.forall_mem_cons.2 ⟨(by (repeat (first | assumption | (with_reducible exact mZ) | apply mS)); first | done | fail), ?_⟩)); intro x hx; first | (cases hx; done) | ((repeat (first | exact hx | apply mS)); done))) (stab_pure (by rfl) (fun w => (by go_simp; try with_reducible rfl))) ?_; simp only [Act.put, List.setIfInBounds_toArray, List.set_cons_zero, List.set_cons_succ]; refine RS_take (i := 6) rfl (by decide +kernel) (fun _ _ _ h => h) (by first | (intro x hx; (repeat (first | exact hx | apply mS)); done) | ((repeat (refine List.forall_mem_cons.2 ⟨(by (repeat (first | assumption | (with_reducible exact mZ) | apply mS)); first | done | fail), ?_⟩)); intro x hx; first | (cases hx; done) | ((repeat (first | exact hx | apply mS)); done))) (stab_pure (by rfl) (fun w => (by go_simp; try with_reducible rfl))) ?_; simp only [Act.put, List.setIfInBounds_toArray, List.set_cons_zero, List.set_cons_succ]; refine RS_take (i := 7) rfl (by decide +kernel) (fun _ _ _ h => h) (by first | (intro x hx; (repeat (first | exact hx | apply mS)); done) | ((repeat (refine List.forall_mem_cons.2 ⟨(by (repeat (first | assumption | (with_reducible exact mZ) | apply mS)); first | done | fail), ?_⟩)); intro x hx; first | (cases hx; done) | ((repeat (first | exact hx | apply mS)); done))) (stab_pure (by rfl) (fun w => (by go_simp; try with_reducible rfl))) ?_; simp only [Act.put, List.setIfInBounds_toArray, List.set_cons_zero, List.set_cons_succ]; refine RS_take (i := 8) rfl (by decide +kernel) (fun _ _ _ h => h) (by first | (intro x hx; (repeat (first | exact hx | apply mS)); done) | ((repeat (refine List.forall_mem_cons.2 ⟨(by (repeat (first | assumption | (with_reducible exact mZ) | apply mS)); first | done | fail), ?_⟩)); intro x hx; first | (cases hx; done) | ((repeat (first | exact hx | apply mS)); done))) (stab_read (by rfl) (fun L w hL hM => (ex_load1 (v := .map (some (a.b t))) hM rfl rfl (hL _ (by (repeat (first | assumption | (with_reducible exact mZ) | apply mS)); first | done | fail)) HB0.out (by decide +kernel)))) ?_; simp only [Act.put, List.setIfInBounds_toArray, List.set_cons_zero, List.set_cons_succ]; refine RS_take (i := 9) rfl (by decide +kernel) (fun _ _ _ h => h) (by first | (intro x hx; (repeat (first | exact hx | apply mS)); done) | ((repeat (refine List.forall_mem_cons.2 ⟨(by (repeat (first | assumption | (with_reducible exact mZ) | apply mS)); first | done | fail), ?_⟩)); intro x hx; first | (cases hx; done) | ((repeat (first | exact hx | apply mS)); done))) (stab_pure (by rfl) (fun w => (by go_simp; try with_reducible rfl))) ?_; simp only [Act.put, List.setIfInBounds_toArray, List.set_cons_zero, List.set_cons_succ]; refine RS_take (i := 10) rfl (by decide +kernel) (fun _ _ _ h => h) (by first | (intro x hx; (repeat (first | exact hx | apply mS)); done) | ((repeat (refine List.forall_mem_cons.2 ⟨(by (repeat (first | assumption | (with_reducible exact mZ) | apply mS)); first | done | fail), ?_⟩)); intro x hx; first | (cases hx; done) | ((repeat (first | exact hx | apply mS)); done))) (stab_read (by rfl) (fun L w hL hM => (ex_miss1 (key := .int .i64 k) hM rfl Try.underlying92 zero_row rfl rfl (hL _ (by (repeat (first | assumption | (with_reducible exact mZ) | apply mS)); first | done | fail)) keyed_i2 HK.out HMISS.out))) ?_; simp only [Act.put, List.setIfInBounds_toArray, List.set_cons_zero, List.set_cons_succ]; refine RS_take (i := 12) rfl (by decide +kernel) (fun _ _ _ h => h) (by first | (intro x hx; (repeat (first | exact hx | apply mS)); done) | ((repeat (refine List.forall_mem_cons.2 ⟨(by (repeat (first | assumption | (with_reducible exact mZ) | apply mS)); first | done | fail), ?_⟩)); intro x hx; first | (cases hx; done) | ((repeat (first | exact hx | apply mS)); done))) (stab_pure (by rfl) (fun w => (by go_simp; try with_reducible rfl))) ?_; simp only [Act.put, List.setIfInBounds_toArray, List.set_cons_zero, List.set_cons_succ]; refine RS_ready (rs := [11, 13]) (by decide +kernel) (by simp) (.inl (by first | (intro x hx; (repeat (first | exact hx | apply mS)); done) | ((repeat (refine List.forall_mem_cons.2 ⟨(by (repeat (first | assumption | (with_reducible exact mZ) | apply mS)); first | done | fail), ?_⟩)); intro x hx; first | (cases hx; done) | ((repeat (first | exact hx | apply mS)); done)))) ?_; refine (List.forall_mem_cons.2 ⟨?_, (List.forall_mem_cons.2 ⟨?_, (fun _ h => by cases h)⟩)⟩); rotate_right 1; (focus (refine RS_way (i := 13) rfl (by rfl) (fun w K hM0 hK => ?_); refine ws_slice_row hM0 (n := 1) rfl 9 1 (.string ByteArray.empty) [sv x] Try.underlying22 (by kernel_rfl) rfl (by simp [Value.cells, iv, sv, bv]) (by rfl) (by decide) (cs := svs [x]) (by rfl) (fun g35 w hM => hK _ _ _ hM ?_); clear hM hM0 hK K; simp only [Act.put, List.setIfInBounds_toArray, List.set_cons_zero, List.set_cons_succ]; refine RS_one (i := 11) (by decide +kernel) rfl (by rfl) (.inl (by first | (intro x hx; (repeat (first | exact hx | apply mS)); done) | ((repeat (refine List.forall_mem_cons.2 ⟨(by (repeat (first | assumption | (with_reducible exact mZ) | apply mS)); first | done | fail), ?_⟩)); intro x hx; first | (cases hx; done) | ((repeat (first | exact hx | apply mS)); done)))) (fun w K hM0 hK => ?_); refine ws_call (by go_simp; try with_reducible rfl) (clone_nil w hM0) (fun r w2 hR => ?_); obtain ⟨A2, c2, rfl, hM⟩ := hR; refine ⟨_, rfl, hK _ _ _ hM ?_⟩; clear hM hM0 hK K; simp only [Act.put, List.setIfInBounds_toArray, List.set_cons_zero, List.set_cons_succ]; refine RS_one (i := 14) (by decide +kernel) rfl (by rfl) (.inl (by first | (intro x hx; (repeat (first | exact hx | apply mS)); done) | ((repeat (refine List.forall_mem_cons.2 ⟨(by (repeat (first | assumption | (with_reducible exact mZ) | apply mS)); first | done | fail), ?_⟩)); intro x hx; first | (cases hx; done) | ((repeat (first | exact hx | apply mS)); done)))) (fun w K hM0 hK => ?_); refine ws_append hM0 rfl rfl rfl 9 ((.string ByteArray.empty)) 1 16 Try.underlying22 (by kernel_rfl) (by rfl) (by decide) (by (repeat (first | (with_reducible exact Take.head) | apply Take.tail)); first | done | fail) (by first | (apply Star.row hM0; (repeat (first | assumption | (with_reducible exact mZ) | apply mS)); done) | (apply Star.own hM0; (repeat (first | assumption | (with_reducible exact mZ) | apply mS)); done) | (apply Star.arr hM0; (focus ((repeat (first | assumption | (with_reducible exact mZ) | apply mS)); done)); assumption)) (svs_cells1 _) ((by omega)) (fun A1 c1 w hM hnil => hK _ _ _ hM ?_); clear hM hM0 hK K; simp only [Act.put, List.setIfInBounds_toArray, List.set_cons_zero, List.set_cons_succ]; refine RS_one (i := 15) (by decide +kernel) rfl (by rfl) (.inl (by first | (intro x hx; (repeat (first | exact hx | apply mS)); done) | ((repeat (refine List.forall_mem_cons.2 ⟨(by (repeat (first | assumption | (with_reducible exact mZ) | apply mS)); first | done | fail), ?_⟩)); intro x hx; first | (cases hx; done) | ((repeat (first | exact hx | apply mS)); done)))) (fun w K hM0 hK => ?_); refine ws_update_new (key := .int .i64 k) (v := .slice A1 1 c1) hM0 rfl Try.underlying92 rfl rfl rfl (by (repeat (first | (with_reducible exact Take.head) | apply Take.tail)); first | done | fail) keyed_i2 HK.out HMISS.out (fun w hM => hK _ _ _ hM ?_); clear hM hM0 hK K; simp only [Act.put, List.setIfInBounds_toArray, List.set_cons_zero, List.set_cons_succ]; refine RS_done (by decide +kernel) (.inr (by decide +kernel)) (fun w hM => ?_))); rotate_right 1; (focus (refine RS_way (i := 11) rfl (by rfl) (fun w K hM0 hK => ?_); refine ws_call (by go_simp; try with_reducible rfl) (clone_nil w hM0) (fun r w2 hR => ?_); obtain ⟨A2, c2, rfl, hM⟩ := hR; refine ⟨_, rfl, hK _ _ _ hM ?_⟩; clear hM hM0 hK K; simp only [Act.put, List.setIfInBounds_toArray, List.set_cons_zero, List.set_cons_succ]; refine RS_one (i := 13) (by decide +kernel) rfl (by rfl) (.inl (by first | (intro x hx; (repeat (first | exact hx | apply mS)); done) | ((repeat (refine List.forall_mem_cons.2 ⟨(by (repeat (first | assumption | (with_reducible exact mZ) | apply mS)); first | done | fail), ?_⟩)); intro x hx; first | (cases hx; done) | ((repeat (first | exact hx | apply mS)); done)))) (fun w K hM0 hK => ?_); refine ws_slice_row hM0 (n := 1) rfl 9 1 (.string ByteArray.empty) [sv x] Try.underlying22 (by kernel_rfl) rfl (by simp [Value.cells, iv, sv, bv]) (by rfl) (by decide) (cs := svs [x]) (by rfl) (fun g35 w hM => hK _ _ _ hM ?_); clear hM hM0 hK K; simp only [Act.put, List.setIfInBounds_toArray, List.set_cons_zero, List.set_cons_succ]; refine RS_one (i := 14) (by decide +kernel) rfl (by rfl) (.inl (by first | (intro x hx; (repeat (first | exact hx | apply mS)); done) | ((repeat (refine List.forall_mem_cons.2 ⟨(by (repeat (first | assumption | (with_reducible exact mZ) | apply mS)); first | done | fail), ?_⟩)); intro x hx; first | (cases hx; done) | ((repeat (first | exact hx | apply mS)); done)))) (fun w K hM0 hK => ?_); refine ws_append hM0 rfl rfl rfl 9 ((.string ByteArray.empty)) 1 16 Try.underlying22 (by kernel_rfl) (by rfl) (by decide) (by (repeat (first | (with_reducible exact Take.head) | apply Take.tail)); first | done | fail) (by first | (apply Star.row hM0; (repeat (first | assumption | (with_reducible exact mZ) | apply mS)); done) | (apply Star.own hM0; (repeat (first | assumption | (with_reducible exact mZ) | apply mS)); done) | (apply Star.arr hM0; (focus ((repeat (first | assumption | (with_reducible exact mZ) | apply mS)); done)); assumption)) (svs_cells1 _) ((by omega)) (fun A1 c1 w hM hnil => hK _ _ _ hM ?_); clear hM hM0 hK K; simp only [Act.put, List.setIfInBounds_toArray, List.set_cons_zero, List.set_cons_succ]; refine RS_one (i := 15) (by decide +kernel) rfl (by rfl) (.inl (by first | (intro x hx; (repeat (first | exact hx | apply mS)); done) | ((repeat (refine List.forall_mem_cons.2 ⟨(by (repeat (first | assumption | (with_reducible exact mZ) | apply mS)); first | done | fail), ?_⟩)); intro x hx; first | (cases hx; done) | ((repeat (first | exact hx | apply mS)); done)))) (fun w K hM0 hK => ?_); refine ws_update_new (key := .int .i64 k) (v := .slice A1 1 c1) hM0 rfl Try.underlying92 rfl rfl rfl (by (repeat (first | (with_reducible exact Take.head) | apply Take.tail)); first | done | fail) keyed_i2 HK.out HMISS.out (fun w hM => hK _ _ _ hM ?_); clear hM hM0 hK K; simp only [Act.put, List.setIfInBounds_toArray, List.set_cons_zero, List.set_cons_succ]; refine RS_done (by decide +kernel) (.inr (by decide +kernel)) (fun w hM => ?_))))
        all_goals (
          have hM2 : Star (mapE Try.prog 3 (a.b t) ((.int .i64 k, .slice A1 1 c1) :: bmap M f t) :: ownE 9 1 A1 1 c1 (svs ((M.bx t).row k ++ [x])) :: mshE a M.n M.lost :: bxsE a M :: rowsE l :: R) w := by
            have h := hM.sel (R := mapE Try.prog 3 (a.b t) ((.int .i64 k, .slice A1 1 c1) :: bmap M f t) :: ownE 9 1 A1 1 c1 (svs [] ++ svs [x]) :: mshE a M.n M.lost :: bxsE a M :: rowsE l :: R) (by repeat (first | (with_reducible exact Sel.refl) | (with_reducible exact Take.head) | (with_reducible apply Take.tail) | (with_reducible apply Sel.cons) | (with_reducible apply Sel.drop)))
            have e : svs [] ++ svs [x] = svs ((M.bx t).row k ++ [x]) := by rw [HRW.out]; simp [svs]
            rw [e] at h
            exact h
          clear hM
          rw [HR.out] at hM2
          obtain ⟨f', l', hT', hM3⟩ := send_join HOK.out HTI.out ht (by rw [HRW.out]; rfl) (by simp) (HPN.out _) hM2
          clear hM2
          have hM := hM3
          clear hM3
          have HT' : Hid (Tied (sendM M t k x) f' l') := hT'
          clear hT'
          go_wp2_with fail
          go_roundw
          case rel => exact .inr ⟨rfl, rfl, f', l', HT', hM⟩
          case measure => simp [intOf])
      · go_wp2_with fail
        go_ret
        exact ⟨f', l', hT', rfl, hM⟩
end
end Go.Proofs.Ytbejifbiffeamaa
set_option linter.unusedSimpArgs false
set_option linter.unusedVariables false
namespace Go.Proofs.Ytbejifbiffeamaa
open Go.RowKit
attribute [local go_sem] extract_mid extract_drop bget bsize wrap64_u8 i64_u8 u64_u8 bappend
/-- A packet is taken: what is left, whose turn was last. -/
def takeM (M : Msh) (t : Nat) (k : Int) (r : List (List UInt8)) : Msh := M.put t { (M.bx t).set k r with last := k }
theorem tied_same {M M' : Msh} {f : Sls} {l : List (Option Addr × List (List UInt8))} (h : Tied M f l) (hn : M'.n = M.n) (hk : ∀ i, (M'.bx i).ks = (M.bx i).ks) (hr : ∀ i, (M'.bx i).row = (M.bx i).row) : Tied M' f l where
  at_ i hi j hj := by
    rw [hr]
    rw [hk] at hj
    exact h.at_ i (by omega) j hj
theorem Star.row_cutS2 {L : List SProp} {w : World} {A : Option Addr} {n k c : Nat} {l : List (List UInt8)} (h : Star L w) (hx : rowE 1 A n (svs l) ∈ L) (hk : k ≤ n) (hc : n ≤ c) :
    Star (rowE 1 (if c = k then A else A.map (·.add k)) (n - k) (svs (l.drop k)) :: L) w := by
  have h9 := (h.row hx).cut hk hc
  rw [Nat.mul_one] at h9
  have e : (svs l).drop k = svs (l.drop k) := by simp [svs]
  rw [e] at h9
  refine h.view hx rfl rfl (fun b ⟨ad, e2, h1, h2⟩ => ?_) h9
  split at e2
  · exact ⟨ad, e2, by omega, h2⟩
  · cases A with
    | none => cases e2
    | some ad2 => injection e2 with e2; subst e2; exact ⟨ad2, rfl, by omega, by rw [h2]; exact block_of_add _ _⟩
theorem tied_del {M : Msh} (hM : M.ok) {f : Sls} {l : List (Option Addr × List (List UInt8))} (h : Tied M f l) {t : Nat} (ht : t < M.n) (k : Int) : Tied (M.put t ((M.bx t).set k [])) f l where
  at_ i hi j hj := by
    rw [put_bx] at hj ⊢
    by_cases e : i = t
    · subst e
      rw [if_pos rfl] at hj ⊢
      have hj2 := (set_mem (hM.bx i ht) k [] j).1 hj
      rw [row_set] at hj2 ⊢
      by_cases e2 : j = k
      · rw [if_pos e2] at hj2; exact absurd rfl hj2
      · rw [if_neg e2] at hj2 ⊢
        exact h.at_ i ht j (((hM.bx i ht).mem j).2 hj2)
    · rw [if_neg e] at hj ⊢
      exact h.at_ i hi j hj
theorem set_ks_del (B : Bx) (k : Int) : (B.set k []).ks = B.ks.filter fun x => decide (x ≠ k) := by
  unfold Bx.set
  simp
theorem last_join {F : List SProp} {a : MA} {M M1 : Msh} {f f1 : Sls} {l : List (Option Addr × List (List UInt8))} {w : World} {t : Nat} (ht : t < M.n) {k : Int} {B : Bx} (hB : M1 = M.put t B) (hT : Tied M1 f1 l) (hf : ∀ j, j ≠ t → bmap M1 f1 j = bmap M f j) {m : List (Value × Value)} (hm : m.Perm (B.ks.map fun j => (Value.int .i64 j, f1 t j)))
    (hM : Star (mapE Try.prog 3 (a.b t) m :: cellsE a.g 94 (boxesC a (M.put t { B with last := k }) ++ a.sp).toArray :: mshE a M.n M.lost :: rowsE l :: (((List.range M.n).erase t).map (mpE a M f) ++ F)) w) :
    ∃ f' l', Tied (M.put t { B with last := k }) f' l' ∧ Star (meshE a (M.put t { B with last := k }) f' :: rowsE l' :: F) w := by
  subst hB
  have hk : ∀ i, ((M.put t { B with last := k }).bx i).ks = ((M.put t B).bx i).ks := fun i => by
    rw [put_bx, put_bx]
    split <;> rfl
  have hr : ∀ i, ((M.put t { B with last := k }).bx i).row = ((M.put t B).bx i).row := fun i => by
    rw [put_bx, put_bx]
    split <;> rfl
  have hb : ∀ i, bmap (M.put t { B with last := k }) f1 i = bmap (M.put t B) f1 i := fun i => by
    unfold bmap
    rw [hk]
  refine ⟨f1, l, tied_same hT rfl hk hr, ?_⟩
  refine Star.mjoin2 (M := M) (f := f) (i := t) ?_ ht rfl (fun j hj => by rw [hb, hf j hj])
  have h1 := hM.map_perm hm
  have e : (B.ks.map fun j => (Value.int .i64 j, f1 t j)) = bmap (M.put t { B with last := k }) f1 t := by
    rw [hb]
    unfold bmap
    rw [put_bx, if_pos rfl]
  rw [e] at h1
  exact h1.perm (List.Perm.cons _ (List.Perm.swap _ _ _))
abbrev pktV (k : Int) (x : List UInt8) : Value := .agg #[.int .i64 k, .string ⟨x.toArray⟩]
section
variable {F : List SProp} {a : MA} {M : Msh} {f : Sls} {l : List (Option Addr × List (List UInt8))}
theorem info_pkt : (Try.prog.info? 31).map (fun i => i.zero) = some (some (pktV 0 [])) := by kernel_rfl
set_option maxRecDepth 100000 in
set_option maxHeartbeats 8000000 in
theorem take_ok (hok : M.ok) (hT : Tied M f l) {tI : Int} (t : Nat) (ht0 : tI = t) (ht : t < M.n) {k : Int} {x : List UInt8} {r : List (List UInt8)} (hnx : (M.bx t).nxt = some k) (hrow : (M.bx t).row k = x :: r) (w : World) (hM : Star (meshE a M f :: rowsE l :: F) w) :
    Calls Try.prog 18 #[mptr a, .int .i64 tI] w fun e w' => ∃ f' l', Hid (Tied (takeM M t k r) f' l') ∧ e = .returned (.tuple #[pktV k x, .bool true]) ∧ Star (meshE a (takeM M t k r) f' :: rowsE l' :: F) w' := by
  have hn64 := hok.n64
  have hB := hok.bx t ht
  have hin := nxt_mem hnx
  have k1 := (hB.i64 k hin).1
  have k2 := (hB.i64 k hin).2
  have HK := Lib.hid (int_keyI k1 k2)
  have HB0 := Lib.hid (boxesC_at a M (i := t) (j := 0) ht (by omega))
  have HB1 := Lib.hid (boxesC_at a M (i := t) (j := 1) ht (by omega))
  have hM2 := hM.mopen2 ht
  clear hM
  have hM := hM2
  clear hM2
  obtain ⟨R, hR⟩ : ∃ R, R = ((List.range M.n).erase t).map (mpE a M f) ++ F := ⟨_, rfl⟩
  rw [← hR] at hM
  have HR := Lib.hid hR
  have HTT : Hid (∀ (L : List SProp) (w : World), Star L w → mshE a M.n M.lost ∈ L → Calls Try.prog 44 #[mptr a, .int .i64 tI] w fun r w' => r = .returned (bptr a t) ∧ Star L w') := fun L w hM hx => at_yes t ht0 ht w hM hx
  have HNX : Hid (∀ (L : List SProp) (w : World), Star L w → bxsE a M ∈ L → mpE a M f t ∈ L → Calls Try.prog 46 #[bptr a t] w fun r w' => r = .returned (.tuple #[.int .i64 k, .bool true]) ∧ Star L w') := fun L w hM hx hm => by
    have := next_b hB HB0.out HB1.out w hM hx hm
    rw [hnx] at this
    exact this
  obtain ⟨A, c, hf, hnc, hAl⟩ := hT.at_ t ht k hin
  rw [hrow] at hf hnc hAl
  have hM2 := hM.rows_view (l := l) (by (repeat (first | assumption | (with_reducible exact mZ) | apply mS)); first | done | fail) hAl
  clear hM
  have hM := hM2
  clear hM2
  obtain ⟨n, hn⟩ : ∃ n, r.length = n := ⟨_, rfl⟩
  have hn1 : (x :: r).length = n + 1 := by simp [hn]
  rw [hn1] at hM hf hnc
  obtain ⟨ad, rfl⟩ : ∃ ad, A = some ad := by
    obtain ⟨ad, e, _⟩ := (hM.row (A := A) (n := n + 1) (xs := svs (x :: r)) (by (repeat (first | assumption | (with_reducible exact mZ) | apply mS)); first | done | fail)).2 (by omega)
    exact ⟨ad, e⟩
  have hM2 := hM.row_cutS2 (A := some ad) (n := n + 1) (k := 1) (c := c) (l := x :: r) (by (repeat (first | assumption | (with_reducible exact mZ) | apply mS)); first | done | fail) (by omega) hnc
  clear hM
  obtain ⟨A9, hA9⟩ : ∃ A9, (if c = 1 then some ad else some (ad.add 1)) = A9 := ⟨_, rfl⟩
  have hM : Star (rowE 1 A9 n (svs r) :: rowE 1 (some ad) (n + 1) (svs (x :: r)) :: mpE a M f t :: mshE a M.n M.lost :: bxsE a M :: rowsE l :: R) w := by rw [← hA9]; exact hM2
  clear hM2
  have hfew := hB.few k
  rw [hrow, hn1] at hfew
  have HV : Hid ((svs (x :: r))[0]? = some (.string ⟨x.toArray⟩)) := rfl
  have HHIT : Hid ((Value.int .i64 k, Value.slice (some ad) (n + 1) c) ∈ bmap M f t) := by
    show _ ∈ _
    rw [← hf]
    exact List.mem_map.2 ⟨k, hin, rfl⟩
  have HTI := Lib.hid hT
  have HOK := Lib.hid hok
  have HBK := Lib.hid hB
  have HIN := Lib.hid hin
  have HN := Lib.hid hn
  have HA9 := Lib.hid hA9
  have HROW := Lib.hid hrow
  have HNC := Lib.hid hnc
  have hc1 : 1 ≤ c := by omega
  have hn1b : (1 : Int) ≤ ((n + 1 : Nat) : Int) := by omega
  have HSET := Lib.hid (boxesC_set a M (x := k) ht { (M.bx t).set k r with last := k } rfl)
  have HLT : Hid (t * 2 + 1 < (boxesC a M).length + a.sp.length) := by show _ < _; rw [boxesC_len]; omega
  clear hR hT hok hB ht0 hn hn1 hA9 hf hrow hnx hin hAl hnc
  cases r with
  | nil =>
    obtain rfl : n = 0 := by have := HN.out; simpa using this.symm
    have HD : Hid (∀ (A : Option Addr) (c : Nat) (L : List SProp) (w : World), Star (mpE a M f t :: L) w → bxsE a M ∈ L → Calls Try.prog 47 #[bptr a t, .int .i64 k, .slice A 0 c] w fun r w' => r = .returned (.tuple #[]) ∧ Star (mapE Try.prog 3 (a.b t) (((M.bx t).ks.filter fun x => decide (x ≠ k)).map fun j => (.int .i64 j, f t j)) :: L) w') := fun A c L w hM hx => set_del (f := f t) (rises_nodup HBK.out.rises) HIN.out k1 k2 HB0.out w hM hx
    have tok1 : Hid True := trivial
    go_enter Try.func18, Try.ntmps18
    go_wp2_with (first | (go_at_call 44; have hM0 := hM; clear hM; (first | (with_reducible refine (HTT.out _ _ hM0 (by (repeat (first | assumption | (with_reducible exact mZ) | apply mS)); first | done | fail)).mono ?_) | fail); clear hM0; rintro _ w ⟨rfl, hM⟩) | (go_at_call 46; have hM0 := hM; clear hM; (first | (with_reducible refine (HNX.out _ _ hM0 (by (repeat (first | assumption | (with_reducible exact mZ) | apply mS)); first | done | fail) (by (repeat (first | assumption | (with_reducible exact mZ) | apply mS)); first | done | fail)).mono ?_) | fail); clear hM0; rintro _ w ⟨rfl, hM⟩) | (have _t := tok1; (first | ((with_reducible refine at_alloc' ?_); (have hM0 := hM; clear hM; refine BigFrame.wpList_want (by rfl) fun K hK => ws_alloc hM0 (t := 31) rfl #[.int .i64 0, .string ByteArray.empty] info_pkt (fun g4 w hM => hK _ _ ?_); clear hM0 hK K)) | fail); clear tok1) | (first | ((with_reducible refine at_alloc' ?_); (have hM0 := hM; clear hM; refine BigFrame.wpList_want (by rfl) fun K hK => ws_alloc hM0 (t := 31) rfl #[.int .i64 0, .string ByteArray.empty] info_pkt (fun g9 w hM => hK _ _ ?_); clear hM0 hK K)) | fail) | (first | ((with_reducible refine at_load' ?_); (refine BigFrame.wpList_want (by rfl) fun K hK => ws_load1 hM rfl rfl (by (repeat (first | assumption | (with_reducible exact mZ) | apply mS)); first | done | fail) (by exact HB0.out) (by decide +kernel) (hK _ _ ?_); clear hK K)) | fail) | (first | ((with_reducible refine at_lookup' ?_); (refine BigFrame.wpList_want (by rfl) fun K hK => ws_of_ex (ex_hit1 (key := .int .i64 k) hM rfl Try.underlying92 rfl rfl (by (repeat (first | assumption | (with_reducible exact mZ) | apply mS)); first | done | fail) keyed_i2 HK.out HHIT.out) (hK _ _ ?_); clear hK K)) | fail) | (first | ((with_reducible refine at_load' ?_); (refine BigFrame.wpList_want (by rfl) fun K hK => ws_rowload rfl rfl (by first | (apply Star.row hM; (repeat (first | assumption | (with_reducible exact mZ) | apply mS)); done) | (apply Star.own hM; (repeat (first | assumption | (with_reducible exact mZ) | apply mS)); done) | (apply Star.arr hM; (focus ((repeat (first | assumption | (with_reducible exact mZ) | apply mS)); done)); assumption)) (by assumption) (by kernel_rfl) (hK _ _ ?_); clear hK K)) | fail) | (first | ((with_reducible refine at_load' ?_); (refine BigFrame.wpList_want (by rfl) fun K hK => ws_load hM rfl rfl (by (repeat (first | assumption | (with_reducible exact mZ) | apply mS)); first | done | fail) (n := 2) (by rfl) (by decide +kernel) (hK _ _ ?_); clear hK K)) | fail) | (first | ((with_reducible refine at_store' ?_); (have hM0 := hM; clear hM; refine BigFrame.wpList_want (by rfl) fun K hK => ws_store hM0 rfl rfl rfl (by (repeat (first | (with_reducible exact Take.head) | apply Take.tail)); first | done | fail) (n := 2) (by rfl) (by rfl) (by kernel_rfl) (by simp [Value.oneCell']) (fun w hM => hK _ _ ?_); clear hM0 hK K)) | fail) | (go_at_call 47; have hM0 := hM; clear hM; (first | (with_reducible refine (HD.out _ _ _ _ (hM0.take (x := mpE a M f t) (by (repeat (first | (with_reducible exact Take.head) | apply Take.tail)); first | done | fail)) (by (repeat (first | assumption | (with_reducible exact mZ) | apply mS)); first | done | fail)).mono ?_) | fail); clear hM0; rintro _ w ⟨rfl, hM⟩) | (first | ((with_reducible refine at_store' ?_); (have hM0 := hM; clear hM; refine BigFrame.wpList_want (by rfl) fun K hK => ws_store1 hM0 rfl rfl (by go_simp; rfl) (by first | rfl | assumption) (by (repeat (first | (with_reducible exact Take.head) | apply Take.tail)); first | done | fail) (by simpa using HLT.out) (by kernel_rfl) (by exact HSET.out) (fun w hM => hK _ _ ?_); clear hM0 hK K)) | fail))
    all_goals (
      refine bodyPost_ret (results_row_tmp (P := Try.prog) (ty := 31) rfl _ _ g4 31 #[.int .i64 k, .string ⟨x.toArray⟩] 2 (.bool true) rfl rfl (hM.blk (by (repeat (first | assumption | (with_reducible exact mZ) | apply mS)); first | done | fail)) rfl (by decide +kernel)) rfl ?_
      have hM2 := hM.sel (R := mapE Try.prog 3 (a.b t) (((M.bx t).ks.filter fun x => decide (x ≠ k)).map fun j => (.int .i64 j, f t j)) :: cellsE a.g 94 (boxesC a (M.put t { (M.bx t).set k [] with last := k }) ++ a.sp).toArray :: mshE a M.n M.lost :: rowsE l :: R) (by repeat (first | (with_reducible exact Sel.refl) | (with_reducible exact Take.head) | (with_reducible apply Take.tail) | (with_reducible apply Sel.cons) | (with_reducible apply Sel.drop)))
      rw [HR.out] at hM2
      obtain ⟨f', l', h1, h2⟩ := last_join (k := k) (M1 := M.put t ((M.bx t).set k [])) ht rfl (tied_del HOK.out HTI.out ht k) (fun j hj => by unfold bmap; rw [put_bx, if_neg hj]) (by rw [set_ks_del]) hM2
      exact ⟨f', l', h1, rfl, h2⟩)
  | cons y r =>
    have HD : Hid (∀ (A : Option Addr) (c : Nat) (L : List SProp) (w : World), Star (mpE a M f t :: L) w → bxsE a M ∈ L → Calls Try.prog 47 #[bptr a t, .int .i64 k, .slice A n c] w fun r w' => r = .returned (.tuple #[]) ∧ Star (mapE Try.prog 3 (a.b t) ((M.bx t).ks.map fun j => (.int .i64 j, if j = k then .slice A n c else f t j)) :: L) w') := fun A c L w hM hx => set_row (f := f t) (rises_nodup HBK.out.rises) HIN.out k1 k2 (by have := HN.out; simp at this; omega) HB0.out w hM hx
    have hc2 : ¬ (c = 1) := by have := HN.out; have := HNC.out; simp at *; omega
    have hc3 : 1 < c := by omega
    obtain rfl : A9 = some ⟨ad.block, ad.off + 1, none⟩ := by rw [← HA9.out, if_neg hc2]; rfl
    have tok1 : Hid True := trivial
    go_enter Try.func18, Try.ntmps18
    go_wp2_with (first | (go_at_call 44; have hM0 := hM; clear hM; (first | (with_reducible refine (HTT.out _ _ hM0 (by (repeat (first | assumption | (with_reducible exact mZ) | apply mS)); first | done | fail)).mono ?_) | fail); clear hM0; rintro _ w ⟨rfl, hM⟩) | (go_at_call 46; have hM0 := hM; clear hM; (first | (with_reducible refine (HNX.out _ _ hM0 (by (repeat (first | assumption | (with_reducible exact mZ) | apply mS)); first | done | fail) (by (repeat (first | assumption | (with_reducible exact mZ) | apply mS)); first | done | fail)).mono ?_) | fail); clear hM0; rintro _ w ⟨rfl, hM⟩) | (have _t := tok1; (first | ((with_reducible refine at_alloc' ?_); (have hM0 := hM; clear hM; refine BigFrame.wpList_want (by rfl) fun K hK => ws_alloc hM0 (t := 31) rfl #[.int .i64 0, .string ByteArray.empty] info_pkt (fun g4 w hM => hK _ _ ?_); clear hM0 hK K)) | fail); clear tok1) | (first | ((with_reducible refine at_alloc' ?_); (have hM0 := hM; clear hM; refine BigFrame.wpList_want (by rfl) fun K hK => ws_alloc hM0 (t := 31) rfl #[.int .i64 0, .string ByteArray.empty] info_pkt (fun g9 w hM => hK _ _ ?_); clear hM0 hK K)) | fail) | (first | ((with_reducible refine at_load' ?_); (refine BigFrame.wpList_want (by rfl) fun K hK => ws_load1 hM rfl rfl (by (repeat (first | assumption | (with_reducible exact mZ) | apply mS)); first | done | fail) (by exact HB0.out) (by decide +kernel) (hK _ _ ?_); clear hK K)) | fail) | (first | ((with_reducible refine at_lookup' ?_); (refine BigFrame.wpList_want (by rfl) fun K hK => ws_of_ex (ex_hit1 (key := .int .i64 k) hM rfl Try.underlying92 rfl rfl (by (repeat (first | assumption | (with_reducible exact mZ) | apply mS)); first | done | fail) keyed_i2 HK.out HHIT.out) (hK _ _ ?_); clear hK K)) | fail) | ((with_reducible refine at_load' ?_); refine BigFrame.wpList_want (by rfl) fun K hK => ws_rowload (ad := ad) (k := 0) rfl rfl (hM.row (A := some ad) (n := n + 1) (xs := svs (x :: y :: r)) (by (repeat (first | assumption | (with_reducible exact mZ) | apply mS)); first | done | fail)) HV.out (by decide +kernel) (hK _ _ ?_); clear hK K) | (first | ((with_reducible refine at_load' ?_); (refine BigFrame.wpList_want (by rfl) fun K hK => ws_load hM rfl rfl (by (repeat (first | assumption | (with_reducible exact mZ) | apply mS)); first | done | fail) (n := 2) (by rfl) (by decide +kernel) (hK _ _ ?_); clear hK K)) | fail) | (first | ((with_reducible refine at_store' ?_); (have hM0 := hM; clear hM; refine BigFrame.wpList_want (by rfl) fun K hK => ws_store hM0 rfl rfl rfl (by (repeat (first | (with_reducible exact Take.head) | apply Take.tail)); first | done | fail) (n := 2) (by rfl) (by rfl) (by kernel_rfl) (by simp [Value.oneCell']) (fun w hM => hK _ _ ?_); clear hM0 hK K)) | fail) | (go_at_call 47; have hM0 := hM; clear hM; (first | (with_reducible refine (HD.out _ _ _ _ (hM0.take (x := mpE a M f t) (by (repeat (first | (with_reducible exact Take.head) | apply Take.tail)); first | done | fail)) (by (repeat (first | assumption | (with_reducible exact mZ) | apply mS)); first | done | fail)).mono ?_) | fail); clear hM0; rintro _ w ⟨rfl, hM⟩) | (first | ((with_reducible refine at_store' ?_); (have hM0 := hM; clear hM; refine BigFrame.wpList_want (by rfl) fun K hK => ws_store1 hM0 rfl rfl (by go_simp; rfl) (by first | rfl | assumption) (by (repeat (first | (with_reducible exact Take.head) | apply Take.tail)); first | done | fail) (by simpa using HLT.out) (by kernel_rfl) (by exact HSET.out) (fun w hM => hK _ _ ?_); clear hM0 hK K)) | fail))
    all_goals (
      refine bodyPost_ret (results_row_tmp (P := Try.prog) (ty := 31) rfl _ _ g4 31 #[.int .i64 k, .string ⟨x.toArray⟩] 2 (.bool true) rfl rfl (hM.blk (by (repeat (first | assumption | (with_reducible exact mZ) | apply mS)); first | done | fail)) rfl (by decide +kernel)) rfl ?_
      have hM2 : Star (mapE Try.prog 3 (a.b t) ((M.bx t).ks.map fun j => (.int .i64 j, if j = k then .slice (some ⟨ad.block, ad.off + 1, none⟩) n (c - 1) else f t j)) :: cellsE a.g 94 (boxesC a (M.put t { (M.bx t).set k (y :: r) with last := k }) ++ a.sp).toArray :: mshE a M.n M.lost :: rowsE l :: rowE 1 (some ⟨ad.block, ad.off + 1, none⟩) n (svs (y :: r)) :: R) w := hM.sel (by repeat (first | (with_reducible exact Sel.refl) | (with_reducible exact Take.head) | (with_reducible apply Take.tail) | (with_reducible apply Sel.cons) | (with_reducible apply Sel.drop)))
      clear hM
      have hnr : (y :: r).length = n := HN.out
      have hM3 : Star (mapE Try.prog 3 (a.b t) ((M.bx t).ks.map fun j => (.int .i64 j, if j = k then .slice (some ⟨ad.block, ad.off + 1, none⟩) n (c - 1) else f t j)) :: cellsE a.g 94 (boxesC a (M.put t { (M.bx t).set k (y :: r) with last := k }) ++ a.sp).toArray :: mshE a M.n M.lost :: rowsE ((some ⟨ad.block, ad.off + 1, none⟩, y :: r) :: l) :: R) w := by
        rw [← hnr] at hM2 ⊢
        have h := hM2.sel (R := rowE 1 (some ⟨ad.block, ad.off + 1, none⟩) (y :: r).length (svs (y :: r)) :: rowsE l :: mapE Try.prog 3 (a.b t) ((M.bx t).ks.map fun j => (.int .i64 j, if j = k then .slice (some ⟨ad.block, ad.off + 1, none⟩) (y :: r).length (c - 1) else f t j)) :: cellsE a.g 94 (boxesC a (M.put t { (M.bx t).set k (y :: r) with last := k }) ++ a.sp).toArray :: mshE a M.n M.lost :: R) (by repeat (first | (with_reducible exact Sel.refl) | (with_reducible exact Take.head) | (with_reducible apply Take.tail) | (with_reducible apply Sel.cons) | (with_reducible apply Sel.drop)))
        exact h.rows_add.perm (List.perm_middle (a := rowsE _) (l₁ := [_, _, _]) (l₂ := R)).symm
      rw [HR.out] at hM3
      obtain ⟨f', l', h1, h2⟩ := last_join (k := k) (M1 := M.put t ((M.bx t).set k (y :: r))) ht rfl (tied_put HOK.out HTI.out ht k (A := some ⟨ad.block, ad.off + 1, none⟩) (c := c - 1) hnr.symm (by have := HNC.out; omega) (fun p hp => List.mem_cons_of_mem _ hp) (fun _ => List.mem_cons_self)) (fun j hj => bmap_put_ne M f t _ k _ j hj) (by
        have e : ((M.bx t).set k (y :: r)).ks = (M.bx t).ks := set_ks_old HBK.out HIN.out (by simp)
        rw [e]
        refine List.Perm.of_eq (List.map_congr_left fun j hj => ?_)
        unfold putF
        rw [if_pos rfl]) hM3
      exact ⟨f', l', h1, rfl, h2⟩)
end
end Go.Proofs.Ytbejifbiffeamaa
set_option linter.unusedSimpArgs false
set_option linter.unusedVariables false
namespace Go.Proofs.Ytbejifbiffeamaa
open Go.RowKit
attribute [local go_sem] extract_mid extract_drop bget bsize wrap64_u8 i64_u8 u64_u8 bappend
section
variable {F : List SProp} {a : MA} {M : Msh} {f : Sls} {l : List (Option Addr × List (List UInt8))}
theorem Star.mclose {a : MA} {M : Msh} {f : Sls} {l : List (Option Addr × List (List UInt8))} {F : List SProp} {w : World} {t : Nat} (h : Star (mpE a M f t :: mshE a M.n M.lost :: bxsE a M :: rowsE l :: (((List.range M.n).erase t).map (mpE a M f) ++ F)) w) (ht : t < M.n) : Star (meshE a M f :: rowsE l :: F) w :=
  h.mjoin2 ht rfl fun _ _ => rfl
set_option maxRecDepth 100000 in
theorem take_none (hok : M.ok) {tI : Int} (t : Nat) (ht0 : tI = t) (ht : t < M.n) (hnx : (M.bx t).nxt = none) (w : World) (hM : Star (meshE a M f :: rowsE l :: F) w) :
    Calls Try.prog 18 #[mptr a, .int .i64 tI] w fun e w' => e = .returned (.tuple #[pktV 0 [], .bool false]) ∧ Star (meshE a M f :: rowsE l :: F) w' := by
  have hn64 := hok.n64
  have hB := hok.bx t ht
  have HB0 := Lib.hid (boxesC_at a M (i := t) (j := 0) ht (by omega))
  have HB1 := Lib.hid (boxesC_at a M (i := t) (j := 1) ht (by omega))
  have hM2 := hM.mopen2 ht
  clear hM
  have hM := hM2
  clear hM2
  obtain ⟨R, hR⟩ : ∃ R, R = ((List.range M.n).erase t).map (mpE a M f) ++ F := ⟨_, rfl⟩
  rw [← hR] at hM
  have HR := Lib.hid hR
  have HTT : Hid (∀ (L : List SProp) (w : World), Star L w → mshE a M.n M.lost ∈ L → Calls Try.prog 44 #[mptr a, .int .i64 tI] w fun r w' => r = .returned (bptr a t) ∧ Star L w') := fun L w hM hx => at_yes t ht0 ht w hM hx
  have HNX : Hid (∀ (L : List SProp) (w : World), Star L w → bxsE a M ∈ L → mpE a M f t ∈ L → Calls Try.prog 46 #[bptr a t] w fun r w' => r = .returned (.tuple #[.int .i64 0, .bool false]) ∧ Star L w') := fun L w hM hx hm => by
    have := next_b hB HB0.out HB1.out w hM hx hm
    rw [hnx] at this
    exact this
  clear hR hok hB ht0 hnx
  have tok1 : Hid True := trivial
  go_enter Try.func18, Try.ntmps18
  go_wp2_with (first | (go_at_call 44; have hM0 := hM; clear hM; (first | (with_reducible refine (HTT.out _ _ hM0 (by (repeat (first | assumption | (with_reducible exact mZ) | apply mS)); first | done | fail)).mono ?_) | fail); clear hM0; rintro _ w ⟨rfl, hM⟩) | (go_at_call 46; have hM0 := hM; clear hM; (first | (with_reducible refine (HNX.out _ _ hM0 (by (repeat (first | assumption | (with_reducible exact mZ) | apply mS)); first | done | fail) (by (repeat (first | assumption | (with_reducible exact mZ) | apply mS)); first | done | fail)).mono ?_) | fail); clear hM0; rintro _ w ⟨rfl, hM⟩) | (first | ((with_reducible refine at_alloc' ?_); (have hM0 := hM; clear hM; refine BigFrame.wpList_want (by rfl) fun K hK => ws_alloc hM0 (t := 31) rfl #[.int .i64 0, .string ByteArray.empty] info_pkt (fun g4 w hM => hK _ _ ?_); clear hM0 hK K)) | fail) | (first | ((with_reducible refine at_store' ?_); (have hM0 := hM; clear hM; refine BigFrame.wpList_want (by rfl) fun K hK => ws_store hM0 rfl rfl rfl (by (repeat (first | (with_reducible exact Take.head) | apply Take.tail)); first | done | fail) (n := 2) (by rfl) (by rfl) (by kernel_rfl) (by simp [Value.oneCell']) (fun w hM => hK _ _ ?_); clear hM0 hK K)) | fail))
  refine bodyPost_ret (results_row_tmp (P := Try.prog) (ty := 31) rfl _ _ g4 31 #[.int .i64 0, .string ⟨#[]⟩] 2 (.bool false) rfl rfl (hM.blk (by (repeat (first | assumption | (with_reducible exact mZ) | apply mS)); first | done | fail)) rfl (by decide +kernel)) rfl ?_
  have hM2 := hM.tail
  rw [HR.out] at hM2
  exact ⟨rfl, hM2.mclose ht⟩
set_option maxRecDepth 100000 in
theorem waits_ok (hok : M.ok) (hT : Tied M f l) {tI k : Int} (t : Nat) (ht0 : tI = t) (ht : t < M.n) (k1 : -9223372036854775808 ≤ k) (k2 : k ≤ 9223372036854775807) (w : World) (hM : Star (meshE a M f :: rowsE l :: F) w) :
    Calls Try.prog 27 #[mptr a, .int .i64 tI, .int .i64 k] w fun e w' => e = .returned (.int .i64 (((M.bx t).row k).length : Nat)) ∧ Star (meshE a M f :: rowsE l :: F) w' := by
  have hn64 := hok.n64
  have hB := hok.bx t ht
  have HK := Lib.hid (int_keyI k1 k2)
  have HB0 := Lib.hid (boxesC_at a M (i := t) (j := 0) ht (by omega))
  have hM2 := hM.mopen2 ht
  clear hM
  have hM := hM2
  clear hM2
  obtain ⟨R, hR⟩ : ∃ R, R = ((List.range M.n).erase t).map (mpE a M f) ++ F := ⟨_, rfl⟩
  rw [← hR] at hM
  have HR := Lib.hid hR
  have HTT : Hid (∀ (L : List SProp) (w : World), Star L w → mshE a M.n M.lost ∈ L → Calls Try.prog 44 #[mptr a, .int .i64 tI] w fun r w' => r = .returned (bptr a t) ∧ Star L w') := fun L w hM hx => at_yes t ht0 ht w hM hx
  obtain ⟨n, hn⟩ : ∃ n, ((M.bx t).row k).length = n := ⟨_, rfl⟩
  by_cases hin : k ∈ (M.bx t).ks
  · obtain ⟨A, c, hf, hnc, hAl⟩ := hT.at_ t ht k hin
    rw [hn] at hf ⊢
    have HHIT : Hid ((Value.int .i64 k, Value.slice A n c) ∈ bmap M f t) := by
      show _ ∈ _
      rw [← hf]
      exact List.mem_map.2 ⟨k, hin, rfl⟩
    clear hR hok hB ht0 hT hin hf hn
    go_enter Try.func27, Try.ntmps27
    go_wp2_with (first | (go_at_call 44; have hM0 := hM; clear hM; (first | (with_reducible refine (HTT.out _ _ hM0 (by (repeat (first | assumption | (with_reducible exact mZ) | apply mS)); first | done | fail)).mono ?_) | fail); clear hM0; rintro _ w ⟨rfl, hM⟩) | (first | ((with_reducible refine at_load' ?_); (refine BigFrame.wpList_want (by rfl) fun K hK => ws_load1 hM rfl rfl (by (repeat (first | assumption | (with_reducible exact mZ) | apply mS)); first | done | fail) (by exact HB0.out) (by decide +kernel) (hK _ _ ?_); clear hK K)) | fail) | (first | ((with_reducible refine at_lookup' ?_); (refine BigFrame.wpList_want (by rfl) fun K hK => ws_of_ex (ex_hit1 (key := .int .i64 k) hM rfl Try.underlying92 rfl rfl (by (repeat (first | assumption | (with_reducible exact mZ) | apply mS)); first | done | fail) keyed_i2 HK.out HHIT.out) (hK _ _ ?_); clear hK K)) | fail))
    go_ret
    rw [HR.out] at hM
    exact ⟨rfl, hM.mclose ht⟩
  · have hr : (M.bx t).row k = [] := by
      by_cases e : (M.bx t).row k = []
      · exact e
      · exact absurd ((hB.mem k).2 e) hin
    have HMISS : Hid (∀ p ∈ bmap M f t, p.1 ≠ Value.int .i64 k) := fun p hp => by
      obtain ⟨j, hj, rfl⟩ := List.mem_map.1 hp
      intro e
      injection e with _ e
      exact hin (e ▸ hj)
    rw [hr]
    clear hR hok hB ht0 hT hin hr hn
    go_enter Try.func27, Try.ntmps27
    go_wp2_with (first | (go_at_call 44; have hM0 := hM; clear hM; (first | (with_reducible refine (HTT.out _ _ hM0 (by (repeat (first | assumption | (with_reducible exact mZ) | apply mS)); first | done | fail)).mono ?_) | fail); clear hM0; rintro _ w ⟨rfl, hM⟩) | (first | ((with_reducible refine at_load' ?_); (refine BigFrame.wpList_want (by rfl) fun K hK => ws_load1 hM rfl rfl (by (repeat (first | assumption | (with_reducible exact mZ) | apply mS)); first | done | fail) (by exact HB0.out) (by decide +kernel) (hK _ _ ?_); clear hK K)) | fail) | (first | ((with_reducible refine at_lookup' ?_); (refine BigFrame.wpList_want (by rfl) fun K hK => ws_of_ex (ex_miss1 (key := .int .i64 k) hM rfl Try.underlying92 zero_row rfl rfl (by (repeat (first | assumption | (with_reducible exact mZ) | apply mS)); first | done | fail) keyed_i2 HK.out HMISS.out) (hK _ _ ?_); clear hK K)) | fail))
    go_ret
    rw [HR.out] at hM
    exact ⟨rfl, hM.mclose ht⟩
set_option maxRecDepth 100000 in
theorem lost_ok {L : List SProp} {n : Nat} {lo : Int} (w : World) (hM : Star L w) (hx : mshE a n lo ∈ L) :
    Calls Try.prog 32 #[mptr a] w fun e w' => e = .returned (.int .i64 lo) ∧ Star L w' := by
  go_enter Try.func32, Try.ntmps32
  go_wp2_with (first | (first | ((with_reducible refine at_load' ?_); (refine BigFrame.wpList_want (by rfl) fun K hK => ws_load1 hM rfl rfl (by (repeat (first | assumption | (with_reducible exact mZ) | apply mS)); first | done | fail) (by first | rfl | assumption) (by decide +kernel) (hK _ _ ?_); clear hK K)) | fail))
  go_ret
  exact ⟨rfl, hM⟩
set_option maxRecDepth 100000 in
theorem len_ok {L : List SProp} {n : Nat} {lo : Int} (w : World) (hM : Star L w) (hx : mshE a n lo ∈ L) :
    Calls Try.prog 43 #[mptr a] w fun e w' => e = .returned (.int .i64 (n : Nat)) ∧ Star L w' := by
  go_enter Try.func43, Try.ntmps43
  go_wp2_with (first | (first | ((with_reducible refine at_load' ?_); (refine BigFrame.wpList_want (by rfl) fun K hK => ws_load1 hM rfl rfl (by (repeat (first | assumption | (with_reducible exact mZ) | apply mS)); first | done | fail) (by first | rfl | assumption) (by decide +kernel) (hK _ _ ?_); clear hK K)) | fail))
  go_ret
  exact ⟨rfl, hM⟩
end
end Go.Proofs.Ytbejifbiffeamaa
set_option linter.unusedSimpArgs false
set_option linter.unusedVariables false
namespace Go.Proofs.Ytbejifbiffeamaa
open Go.RowKit
attribute [local go_sem] extract_mid extract_drop bget bsize wrap64_u8 i64_u8 u64_u8 bappend
section
variable {F : List SProp} {a : MA} {M : Msh} {f : Sls} {l : List (Option Addr × List (List UInt8))}
theorem wrapL {x : Int} (h0 : 0 ≤ x) (h1 : x ≤ 1000000) : IntKind.i64.wrap (x + 1) = x + 1 := by simp [IntKind.wrap, IntKind.bits, IntKind.signed]; omega
set_option maxRecDepth 100000 in
set_option maxHeartbeats 8000000 in
theorem send_big (hok : M.ok) {g : Nat} {tI k : Int} (t q : Nat) (ht0 : tI = t) (hk0 : k = q) (ht : t < M.n) (hq : q < M.n) (x : List UInt8) (hx : 1024 < x.length) (hl0 : 0 ≤ M.lost) (hl1 : M.lost ≤ 1000000) (w : World) (hM : Star (meshE a M f :: rowsE l :: F) w) (hF : rowE 1 (some ⟨g, 0, none⟩) 1 (ivs [tI]) ∈ F) :
    Calls Try.prog 17 #[mptr a, .int .i64 k, .string ⟨x.toArray⟩, .slice (some ⟨g, 0, none⟩) 1 1] w fun r w' => r = .returned (.int .i64 5) ∧ Star (meshE a { M with lost := M.lost + 1 } f :: rowsE l :: F) w' := by
  have hn64 := hok.n64
  have hM2 := hM.mopen2 ht
  clear hM
  have hM := hM2
  clear hM2
  obtain ⟨R, hR⟩ : ∃ R, R = ((List.range M.n).erase t).map (mpE a M f) ++ F := ⟨_, rfl⟩
  have hFR : rowE 1 (some ⟨g, 0, none⟩) 1 (ivs [tI]) ∈ R := by rw [hR]; exact List.mem_append.2 (.inr hF)
  rw [← hR] at hM
  have HR := Lib.hid hR
  have HQ : Hid (∀ (L : List SProp) (w : World), Star L w → mshE a M.n M.lost ∈ L → Calls Try.prog 44 #[mptr a, .int .i64 k] w fun r w' => r = .returned (bptr a q) ∧ Star L w') := fun L w hM hx => at_yes q hk0 hq w hM hx
  have HTT : Hid (∀ (L : List SProp) (w : World), Star L w → mshE a M.n M.lost ∈ L → Calls Try.prog 44 #[mptr a, .int .i64 tI] w fun r w' => r = .returned (bptr a t) ∧ Star L w') := fun L w hM hx => at_yes t ht0 ht w hM hx
  have HV : Hid ((ivs [tI])[0]? = some (.int .i64 tI)) := rfl
  have hxI : (1024 : Int) < (x.length : Int) := by omega
  have HW : IntKind.i64.wrap (M.lost + 1) = M.lost + 1 := wrapL hl0 hl1
  clear hR hok hk0 ht0 hl0 hl1
  go_enter Try.func17, Try.ntmps17
  go_wp2_with fail
  go_loopw [9, 15] (fun e i wr => (e = .int .i64 0 ∧ i = .int .i64 0 ∧ Star (mpE a M f t :: mshE a M.n M.lost :: bxsE a M :: rowsE l :: R) wr) ∨ (e = .int .i64 5 ∧ i = .int .i64 1 ∧ Star (mpE a M f t :: mshE a M.n (M.lost + 1) :: bxsE a M :: rowsE l :: R) wr)) (fun _ i _ => 1 - (intOf i).toNat)
  case atStart => exact .inl ⟨rfl, rfl, hM⟩
  case round =>
    clear hM
    rcases hrel with ⟨rfl, rfl, hM⟩ | ⟨rfl, rfl, hM⟩
    · go_wp2_with (first | ((with_reducible refine at_load' ?_); refine BigFrame.wpList_want (by rfl) fun K hK => ws_rowload0 (k := 0) rfl rfl (hM.row (A := some ⟨g, 0, none⟩) (n := 1) (xs := ivs [tI]) (by (repeat (first | assumption | (with_reducible exact mZ) | apply mS)); first | done | fail)) HV.out (by decide +kernel) (hK _ _ ?_); clear hK K) | (go_at_call 44; have hM0 := hM; clear hM; (first | (with_reducible refine (HTT.out _ _ hM0 (by (repeat (first | assumption | (with_reducible exact mZ) | apply mS)); first | done | fail)).mono ?_) | fail); clear hM0; rintro _ w ⟨rfl, hM⟩) | (go_at_call 44; have hM0 := hM; clear hM; (first | (with_reducible refine (HQ.out _ _ hM0 (by (repeat (first | assumption | (with_reducible exact mZ) | apply mS)); first | done | fail)).mono ?_) | fail); clear hM0; rintro _ w ⟨rfl, hM⟩) | (first | ((with_reducible refine at_load' ?_); (refine BigFrame.wpList_want (by rfl) fun K hK => ws_load1 hM rfl rfl (by (repeat (first | assumption | (with_reducible exact mZ) | apply mS)); first | done | fail) (by first | rfl | assumption) (by decide +kernel) (hK _ _ ?_); clear hK K)) | fail) | (first | ((with_reducible refine at_store' ?_); (have hM0 := hM; clear hM; refine BigFrame.wpList_want (by rfl) fun K hK => ws_store1 hM0 rfl rfl (by go_simp; rfl) (by first | rfl | assumption) (by (repeat (first | (with_reducible exact Take.head) | apply Take.tail)); first | done | fail) (by simp) (by kernel_rfl) (by simp only [List.setIfInBounds_toArray, List.set_cons_zero, List.set_cons_succ]; rfl) (fun w hM => hK _ _ ?_); clear hM0 hK K)) | fail))
      go_roundw
      case rel => exact .inr ⟨rfl, rfl, hM.sel (by repeat (first | (with_reducible exact Sel.refl) | (with_reducible exact Take.head) | (with_reducible apply Take.tail) | (with_reducible apply Sel.cons) | (with_reducible apply Sel.drop)))⟩
      case measure => simp [intOf]
    · go_wp2_with fail
      go_ret
      rw [HR.out] at hM
      exact ⟨rfl, Star.mclose (M := { M with lost := M.lost + 1 }) hM ht⟩
set_option maxRecDepth 100000 in
set_option maxHeartbeats 8000000 in
theorem send_full (hok : M.ok) (hT : Tied M f l) {g : Nat} {tI k : Int} (t q : Nat) (ht0 : tI = t) (hk0 : k = q) (ht : t < M.n) (hq : q < M.n) (x : List UInt8) (hx : x.length ≤ 1024) (hfull : 8 ≤ ((M.bx t).row k).length) (hl0 : 0 ≤ M.lost) (hl1 : M.lost ≤ 1000000) (w : World) (hM : Star (meshE a M f :: rowsE l :: F) w) (hF : rowE 1 (some ⟨g, 0, none⟩) 1 (ivs [tI]) ∈ F) :
    Calls Try.prog 17 #[mptr a, .int .i64 k, .string ⟨x.toArray⟩, .slice (some ⟨g, 0, none⟩) 1 1] w fun r w' => r = .returned (.int .i64 14) ∧ Star (meshE a { M with lost := M.lost + 1 } f :: rowsE l :: F) w' := by
  have hn64 := hok.n64
  have hB := hok.bx t ht
  have k1 : -9223372036854775808 ≤ k := by omega
  have k2 : k ≤ 9223372036854775807 := by omega
  have HK := Lib.hid (int_keyI k1 k2)
  have HB0 := Lib.hid (boxesC_at a M (i := t) (j := 0) ht (by omega))
  have hM2 := hM.mopen2 ht
  clear hM
  have hM := hM2
  clear hM2
  obtain ⟨R, hR⟩ : ∃ R, R = ((List.range M.n).erase t).map (mpE a M f) ++ F := ⟨_, rfl⟩
  have hFR : rowE 1 (some ⟨g, 0, none⟩) 1 (ivs [tI]) ∈ R := by rw [hR]; exact List.mem_append.2 (.inr hF)
  rw [← hR] at hM
  have HR := Lib.hid hR
  have HQ : Hid (∀ (L : List SProp) (w : World), Star L w → mshE a M.n M.lost ∈ L → Calls Try.prog 44 #[mptr a, .int .i64 k] w fun r w' => r = .returned (bptr a q) ∧ Star L w') := fun L w hM hx => at_yes q hk0 hq w hM hx
  have HTT : Hid (∀ (L : List SProp) (w : World), Star L w → mshE a M.n M.lost ∈ L → Calls Try.prog 44 #[mptr a, .int .i64 tI] w fun r w' => r = .returned (bptr a t) ∧ Star L w') := fun L w hM hx => at_yes t ht0 ht w hM hx
  have HV : Hid ((ivs [tI])[0]? = some (.int .i64 tI)) := rfl
  have hxI : (x.length : Int) ≤ 1024 := by omega
  have hin : k ∈ (M.bx t).ks := (hB.mem k).2 fun e => by rw [e] at hfull; simp at hfull
  obtain ⟨A, c, hf, hnc, hAl⟩ := hT.at_ t ht k hin
  obtain ⟨n, hn⟩ : ∃ n, ((M.bx t).row k).length = n := ⟨_, rfl⟩
  rw [hn] at hf hfull
  have HHIT : Hid ((Value.int .i64 k, Value.slice A n c) ∈ bmap M f t) := by
    show _ ∈ _
    rw [← hf]
    exact List.mem_map.2 ⟨k, hin, rfl⟩
  have hn8 : decide ((8 : Int) ≤ (n : Int)) = true := by simp; omega
  have hn9 : decide (8 ≤ n) = true := by simp; omega
  have hn7 : (8 : Int) ≤ (n : Int) := by omega
  have HW : IntKind.i64.wrap (M.lost + 1) = M.lost + 1 := wrapL hl0 hl1
  clear hR hok hk0 ht0 hl0 hl1 hin hf hnc hAl hn hB hT
  go_enter Try.func17, Try.ntmps17
  go_wp2_with fail
  go_loopw [9, 15] (fun e i wr => (e = .int .i64 0 ∧ i = .int .i64 0 ∧ Star (mpE a M f t :: mshE a M.n M.lost :: bxsE a M :: rowsE l :: R) wr) ∨ (e = .int .i64 14 ∧ i = .int .i64 1 ∧ Star (mpE a M f t :: mshE a M.n (M.lost + 1) :: bxsE a M :: rowsE l :: R) wr)) (fun _ i _ => 1 - (intOf i).toNat)
  case atStart => exact .inl ⟨rfl, rfl, hM⟩
  case round =>
    clear hM
    rcases hrel with ⟨rfl, rfl, hM⟩ | ⟨rfl, rfl, hM⟩
    · go_wp2_with (first | ((with_reducible refine at_load' ?_); refine BigFrame.wpList_want (by rfl) fun K hK => ws_rowload0 (k := 0) rfl rfl (hM.row (A := some ⟨g, 0, none⟩) (n := 1) (xs := ivs [tI]) (by (repeat (first | assumption | (with_reducible exact mZ) | apply mS)); first | done | fail)) HV.out (by decide +kernel) (hK _ _ ?_); clear hK K) | (go_at_call 44; have hM0 := hM; clear hM; (first | (with_reducible refine (HTT.out _ _ hM0 (by (repeat (first | assumption | (with_reducible exact mZ) | apply mS)); first | done | fail)).mono ?_) | fail); clear hM0; rintro _ w ⟨rfl, hM⟩) | (go_at_call 44; have hM0 := hM; clear hM; (first | (with_reducible refine (HQ.out _ _ hM0 (by (repeat (first | assumption | (with_reducible exact mZ) | apply mS)); first | done | fail)).mono ?_) | fail); clear hM0; rintro _ w ⟨rfl, hM⟩) | (first | ((with_reducible refine at_load' ?_); (refine BigFrame.wpList_want (by rfl) fun K hK => ws_load1 hM rfl rfl (by (repeat (first | assumption | (with_reducible exact mZ) | apply mS)); first | done | fail) (by exact HB0.out) (by decide +kernel) (hK _ _ ?_); clear hK K)) | fail) | (first | ((with_reducible refine at_load' ?_); (refine BigFrame.wpList_want (by rfl) fun K hK => ws_load1 hM rfl rfl (by (repeat (first | assumption | (with_reducible exact mZ) | apply mS)); first | done | fail) (by first | rfl | assumption) (by decide +kernel) (hK _ _ ?_); clear hK K)) | fail) | (first | ((with_reducible refine at_lookup' ?_); (refine BigFrame.wpList_want (by rfl) fun K hK => ws_of_ex (ex_hit1 (key := .int .i64 k) hM rfl Try.underlying92 rfl rfl (by (repeat (first | assumption | (with_reducible exact mZ) | apply mS)); first | done | fail) keyed_i2 HK.out HHIT.out) (hK _ _ ?_); clear hK K)) | fail) | (first | ((with_reducible refine at_store' ?_); (have hM0 := hM; clear hM; refine BigFrame.wpList_want (by rfl) fun K hK => ws_store1 hM0 rfl rfl (by go_simp; rfl) (by first | rfl | assumption) (by (repeat (first | (with_reducible exact Take.head) | apply Take.tail)); first | done | fail) (by simp) (by kernel_rfl) (by simp only [List.setIfInBounds_toArray, List.set_cons_zero, List.set_cons_succ]; rfl) (fun w hM => hK _ _ ?_); clear hM0 hK K)) | fail))
      go_roundw
      case rel => exact .inr ⟨rfl, rfl, hM.sel (by repeat (first | (with_reducible exact Sel.refl) | (with_reducible exact Take.head) | (with_reducible apply Take.tail) | (with_reducible apply Sel.cons) | (with_reducible apply Sel.drop)))⟩
      case measure => simp [intOf]
    · go_wp2_with fail
      go_ret
      rw [HR.out] at hM
      exact ⟨rfl, Star.mclose (M := { M with lost := M.lost + 1 }) hM ht⟩
/-- Any Send to an address that is there, from one that is there; the argument's row is left. -/
theorem send_any (hok : M.ok) (hT : Tied M f l) {g : Nat} {tI k : Int} (t q : Nat) (ht0 : tI = t) (hk0 : k = q) (ht : t < M.n) (hq : q < M.n) (x : List UInt8) (hl0 : 0 ≤ M.lost) (hl1 : M.lost ≤ 1000000) (w : World) (hM : Star (meshE a M f :: rowsE l :: rowE 1 (some ⟨g, 0, none⟩) 1 (ivs [tI]) :: F) w) :
    Calls Try.prog 17 #[mptr a, .int .i64 k, .string ⟨x.toArray⟩, .slice (some ⟨g, 0, none⟩) 1 1] w fun r w' => ∃ f' l', Hid (Tied (sendG M t k x) f' l') ∧ r = .returned (.int .i64 (sendE M t k x)) ∧ Star (meshE a (sendG M t k x) f' :: rowsE l' :: F) w' := by
  have hF : rowE 1 (some ⟨g, 0, none⟩) 1 (ivs [tI]) ∈ rowE 1 (some ⟨g, 0, none⟩) 1 (ivs [tI]) :: F := List.mem_cons_self
  by_cases hx : x.length ≤ 1024
  · by_cases hr : ((M.bx t).row k).length < 8
    · have e1 : sendG M t k x = sendM M t k x := by unfold sendG; rw [if_pos ⟨hx, hr⟩]; rfl
      have e2 : sendE M t k x = 0 := by unfold sendE; rw [if_pos hx, if_pos hr]
      rw [e1, e2]
      exact (send_ok hok hT t q ht0 hk0 ht hq x hx hr w hM hF).mono fun _ _ ⟨f', l', h1, h2, h3⟩ => ⟨f', l', h1, h2, h3.sel (by repeat (first | (with_reducible exact Sel.refl) | (with_reducible exact Take.head) | (with_reducible apply Take.tail) | (with_reducible apply Sel.cons) | (with_reducible apply Sel.drop)))⟩
    · have e1 : sendG M t k x = { M with lost := M.lost + 1 } := by unfold sendG; rw [if_neg (fun h => hr h.2)]
      have e2 : sendE M t k x = 14 := by unfold sendE; rw [if_pos hx, if_neg hr]
      rw [e1, e2]
      exact (send_full hok hT t q ht0 hk0 ht hq x hx (by omega) hl0 hl1 w hM hF).mono fun _ _ ⟨h2, h3⟩ => ⟨f, l, tied_same hT rfl (fun _ => rfl) (fun _ => rfl), h2, h3.sel (by repeat (first | (with_reducible exact Sel.refl) | (with_reducible exact Take.head) | (with_reducible apply Take.tail) | (with_reducible apply Sel.cons) | (with_reducible apply Sel.drop)))⟩
  · have e1 : sendG M t k x = { M with lost := M.lost + 1 } := by unfold sendG; rw [if_neg (fun h => hx h.1)]
    have e2 : sendE M t k x = 5 := by unfold sendE; rw [if_neg hx]
    rw [e1, e2]
    exact (send_big hok t q ht0 hk0 ht hq x (by omega) hl0 hl1 w hM hF).mono fun _ _ ⟨h2, h3⟩ => ⟨f, l, tied_same hT rfl (fun _ => rfl) (fun _ => rfl), h2, h3.sel (by repeat (first | (with_reducible exact Sel.refl) | (with_reducible exact Take.head) | (with_reducible apply Take.tail) | (with_reducible apply Sel.cons) | (with_reducible apply Sel.drop)))⟩
end
end Go.Proofs.Ytbejifbiffeamaa
set_option linter.unusedSimpArgs false
set_option linter.unusedVariables false
namespace Go.Proofs.Ytbejifbiffeamaa
open Go.RowKit
attribute [local go_sem] extract_mid extract_drop bget bsize wrap64_u8 i64_u8 u64_u8 bappend
def boxN (b : Nat) : List Value := [.map (some b), .int .i64 (-1)]
def boxesN (bs : List Nat) : List Value := bs.flatMap boxN
theorem boxesN_one (bs : List Nat) : ∀ u ∈ boxesN bs, u.oneCell' = true := fun u hu => by
  obtain ⟨b, _, hb⟩ := List.mem_flatMap.1 hu
  rcases List.mem_cons.1 hb with rfl | hb
  · rfl
  · rcases List.mem_cons.1 hb with rfl | hb
    · rfl
    · cases hb
abbrev mpN (b : Nat) : SProp := mapE Try.prog 3 b []
theorem boxesN_range (bs : List Nat) : boxesN bs = (List.range bs.length).flatMap fun i => boxN (bs.getD i 0) := by
  have e : bs = (List.range bs.length).map fun i => bs.getD i 0 := by
    apply List.ext_getElem
    · simp
    · intro i h1 h2
      simp [h1]
  conv => lhs; rw [e]
  unfold boxesN
  rw [List.flatMap_map]
theorem mpN_range (bs : List Nat) : bs.map mpN = (List.range bs.length).map fun i => mpN (bs.getD i 0) := by
  apply List.ext_getElem
  · simp
  · intro i h1 h2
    simp at h1
    simp [h1]
theorem Star.own_cells {L : List SProp} {w : World} {e : TypeId} {size n c : Nat} {g : Nat} {xs : List Value} (h : Star (ownE e size (some ⟨g, 0, none⟩) n c xs :: L) w) : ∃ sp, Star (cellsE g e (xs ++ sp).toArray :: L) w := by
  rcases h.head.2 with ⟨e1, _⟩ | ⟨g', cap, cur, e1, _, hg, _, _, _, h2⟩
  · cases e1
  · injection e1 with e1 _ _
    injection e1 with e1
    injection e1 with e1
    subst e1
    refine ⟨cur.toList.drop (n * size), h.as_ rfl (fun k hk => ⟨_, rfl, hk⟩) fun _ => ?_⟩
    show w.heap[g]? = some (.cells _ e (0, 0))
    rw [hg, ← h2, List.take_append_drop]
section
variable {F : List SProp}
set_option maxRecDepth 100000 in
set_option maxHeartbeats 8000000 in
theorem new_ok {x : Int} (n : Nat) (hx : x = n) (h1 : 1 ≤ n) (h2 : n ≤ 64) (w : World) (hM : Star F w) :
    Calls Try.prog 15 #[.int .i64 x] w fun r w' => ∃ a f l, Hid (Tied (newM n) f l) ∧ r = .returned (mptr a) ∧ Star (meshE a (newM n) f :: rowsE l :: F) w' := by
  subst hx
  have e1 : min (n : Int) 64 = n := by omega
  have e2 : max 0 (n : Int) = n := by omega
  have e3 : (if (64 : Int) < n then 64 else (n : Int)) = n := by split <;> omega
  have e4 : (if (0 : Int) < n then (n : Int) else 0) = n := by split <;> omega
  have HOO := Lib.hid boxesN_one
  go_enter Try.func15, Try.ntmps15
  go_wp2_with (first | (first | ((with_reducible refine at_box' ?_); (have hM0 := hM; clear hM; refine BigFrame.wpList_want (by rfl) fun K hK => ws_box hM0 rfl rfl (cs := #[.slice none 0 0, .int .i64 0]) rfl (fun g w hM => hK _ _ ?_); clear hM0 hK K)) | fail))
  have hM2 : Star (cellsE g 91 #[.slice none 0 0, .int .i64 0] :: ownE 94 2 none 0 0 (boxesN []) :: (([] : List Nat).map mpN ++ F)) w := (hM.nilown 94 2).perm (List.Perm.swap _ _ _)
  clear hM
  have hM := hM2
  clear hM2
  go_loopw [9] (fun i wr => ∃ (j : Nat) (A : Option Addr) (c : Nat) (bs : List Nat), i = .int .i64 j ∧ j ≤ n ∧ bs.length = j ∧ Star (cellsE g 91 #[.slice A j c, .int .i64 0] :: ownE 94 2 A j c (boxesN bs) :: (bs.map mpN ++ F)) wr) (fun i _ => n - (intOf i).toNat)
  case atStart => exact ⟨0, none, 0, [], rfl, by omega, rfl, hM⟩
  case round =>
    clear hM
    obtain ⟨j, A, c, bs, rfl, hj, hbs, hM⟩ := hrel
    have HBS := Lib.hid hbs
    clear hbs
    by_cases hjn : j < n
    · have hjI : (j : Int) < (n : Int) := by omega
      go_wp2_with (first | (first | ((with_reducible refine at_load' ?_); (refine BigFrame.wpList_want (by rfl) fun K hK => ws_load1 hM rfl rfl (by (repeat (first | assumption | (with_reducible exact mZ) | apply mS)); first | done | fail) (by first | rfl | assumption) (by decide +kernel) (hK _ _ ?_); clear hK K)) | fail) | (first | ((with_reducible refine at_makemap' ?_); (have hM0 := hM; clear hM; refine BigFrame.wpList_want (by rfl) fun K hK => ws_makemap hM0 rfl 3 (fun b w hM => hK _ _ ?_); clear hM0 hK K)) | fail) | (first | ((with_reducible refine at_slice' ?_); (have hM0 := hM; clear hM; refine BigFrame.wpList_want (by rfl) fun K hK => ws_slice_row hM0 (n := 1) rfl 94 2 (.agg #[.map none, .int .i64 0]) [.agg #[.map (some b), .int .i64 (-1)]] Try.underlying89 (by kernel_rfl) rfl (by simp [Value.cells, iv, sv, bv]) (by rfl) (by decide) (cs := boxesN [b]) (by rfl) (fun g5 w hM => hK _ _ ?_); clear hM0 hK K)) | fail) | (first | ((with_reducible refine at_call' ?_); (have hM0 := hM; clear hM; refine BigFrame.wpList_want (by rfl) fun K hK => ws_append hM0 rfl rfl rfl 94 ((.agg #[.map none, .int .i64 0])) 2 16 Try.underlying89 (by kernel_rfl) (by rfl) (by decide) (by (repeat (first | (with_reducible exact Take.head) | apply Take.tail)); first | done | fail) (by first | (apply Star.row hM0; (repeat (first | assumption | (with_reducible exact mZ) | apply mS)); done) | (apply Star.own hM0; (repeat (first | assumption | (with_reducible exact mZ) | apply mS)); done) | (apply Star.arr hM0; (focus ((repeat (first | assumption | (with_reducible exact mZ) | apply mS)); done)); assumption)) (HOO.out _) ((by omega)) (fun A1 c1 w hM hnil => hK _ _ ?_); clear hM0 hK K)) | fail) | (first | ((with_reducible refine at_store' ?_); (have hM0 := hM; clear hM; refine BigFrame.wpList_want (by rfl) fun K hK => ws_store1 hM0 rfl rfl (by go_simp; rfl) (by first | rfl | assumption) (by (repeat (first | (with_reducible exact Take.head) | apply Take.tail)); first | done | fail) (by simp) (by kernel_rfl) (by simp only [List.setIfInBounds_toArray, List.set_cons_zero, List.set_cons_succ]; rfl) (fun w hM => hK _ _ ?_); clear hM0 hK K)) | fail))
      go_roundw
      case rel =>
        refine ⟨j + 1, A1, c1, bs ++ [b], rfl, by omega, by rw [List.length_append, HBS.out]; rfl, ?_⟩
        have e : boxesN (bs ++ [b]) = boxesN bs ++ boxesN [b] := by unfold boxesN; rw [List.flatMap_append]
        rw [e, List.map_append, List.append_assoc]
        have h := hM.sel (R := cellsE g 91 #[.slice A1 (j + 1) c1, .int .i64 0] :: ownE 94 2 A1 (j + 1) c1 (boxesN bs ++ boxesN [b]) :: mpN b :: (bs.map mpN ++ F)) (by repeat (first | (with_reducible exact Sel.refl) | (with_reducible exact Take.head) | (with_reducible apply Take.tail) | (with_reducible apply Sel.cons) | (with_reducible apply Sel.drop)))
        exact h.perm (List.Perm.cons _ (List.Perm.cons _ List.perm_middle.symm))
      case measure => simp [intOf]; omega
    · obtain rfl : j = n := by omega
      go_wp2_with fail
      go_ret
      obtain ⟨ad, rfl⟩ : ∃ ad : Nat, A = some ⟨ad, 0, none⟩ := by
        rcases (hM.all _ (List.mem_cons_of_mem _ List.mem_cons_self)).2 with ⟨e1, h0⟩ | ⟨g', cap, cur, e1, _⟩
        · omega
        · injection e1 with e1 _ _
          exact ⟨g', e1⟩
      obtain ⟨sp, hM2⟩ := (hM.perm (List.Perm.swap _ _ _)).own_cells
      refine ⟨⟨g, ad, fun i => bs.getD i 0, c, sp⟩, fun _ _ => .slice none 0 0, [], ⟨fun i _ k hk => by cases hk⟩, rfl, ?_⟩
      have e1 := boxesN_range bs
      have e2 := mpN_range bs
      rw [HBS.out] at e1 e2
      rw [e1, e2] at hM2
      have h3 : Star ((mshE ⟨g, ad, fun i => bs.getD i 0, c, sp⟩ j 0 :: bxsE ⟨g, ad, fun i => bs.getD i 0, c, sp⟩ (newM j) :: (List.range j).map (mpE ⟨g, ad, fun i => bs.getD i 0, c, sp⟩ (newM j) fun _ _ => .slice none 0 0)) ++ F) _ := hM2.perm (List.Perm.swap _ _ _)
      have h4 := Star.joinL h3 fun x hx => by
        rcases List.mem_cons.1 hx with rfl | hx
        · rfl
        · rcases List.mem_cons.1 hx with rfl | hx
          · rfl
          · obtain ⟨i, _, rfl⟩ := List.mem_map.1 hx; rfl
      exact h4.rows_nil.perm (List.Perm.swap _ _ _)
end
end Go.Proofs.Ytbejifbiffeamaa
set_option linter.unusedSimpArgs false
set_option linter.unusedVariables false
namespace Go.Proofs.Ytbejifbiffeamaa
open Go.RowKit
attribute [local go_sem] extract_mid extract_drop bget bsize wrap64_u8 i64_u8 u64_u8 bappend
theorem Star.send_sel {a : MA} {M : Msh} {f : Sls} {l : List (Option Addr × List (List UInt8))} {g : Nat} {v : Int} {F : List SProp} {w : World} (h : Star (rowE 1 (some ⟨g, 0, none⟩) 1 (ivs [v]) :: meshE a M f :: rowsE l :: F) w) : Star (meshE a M f :: rowsE l :: rowE 1 (some ⟨g, 0, none⟩) 1 (ivs [v]) :: F) w :=
  h.perm ((List.Perm.swap _ _ _).trans (List.Perm.cons _ (List.Perm.swap _ _ _)))
theorem Star.pull2 {L R1 R : List SProp} {x y : SProp} {w : World} (h : Star L w) (h1 : Take x L R1) (h2 : Take y R1 R) : Star (x :: y :: R) w :=
  ((h.take h1).take (Take.tail h2)).perm (List.Perm.swap _ _ _)
theorem Star.pull3 {L R1 R2 R : List SProp} {x y z : SProp} {w : World} (h : Star L w) (h1 : Take x L R1) (h2 : Take y R1 R2) (h3 : Take z R2 R) : Star (x :: y :: z :: R) w :=
  ((h.take h1).take (Take.tail h2)).perm (List.Perm.swap _ _ _) |>.take (Take.tail (Take.tail h3)) |>.perm ((List.Perm.swap _ _ _).trans (List.Perm.cons _ (List.Perm.swap _ _ _)))
/-- A Send whose end is known. -/
theorem sendL {M M' : Msh} {tI k e : Int} (hok : M.ok) (t q : Nat) (ht0 : tI = t) (hk0 : k = q) (ht : t < M.n) (hq : q < M.n) (x : List UInt8) (hl0 : 0 ≤ M.lost) (hl1 : M.lost ≤ 1000000) (hM' : sendG M t k x = M') (he : sendE M t k x = e) {a : MA} {f : Sls} {l : List (Option Addr × List (List UInt8))} {g : Nat} {F : List SProp} (hT : Hid (Tied M f l)) (w : World) {L R1 R2 : List SProp} (hM : Star L w) (hm1 : Take (rowE 1 (some ⟨g, 0, none⟩) 1 (ivs [tI])) L R1) (hm2 : Take (meshE a M f) R1 R2) (hm3 : Take (rowsE l) R2 F) :
    Calls Try.prog 17 #[mptr a, .int .i64 k, .string ⟨x.toArray⟩, .slice (some ⟨g, 0, none⟩) 1 1] w fun r w' => ∃ f' l', Hid (Tied M' f' l') ∧ r = .returned (.int .i64 e) ∧ Star (meshE a M' f' :: rowsE l' :: F) w' := by
  subst hM' he
  exact send_any hok hT.out t q ht0 hk0 ht hq x hl0 hl1 w (hM.pull3 hm1 hm2 hm3).send_sel
/-- A Take whose end is known. -/
theorem takeL {M M' : Msh} {tI k : Int} {x : List UInt8} {r : List (List UInt8)} (hok : M.ok) (t : Nat) (ht0 : tI = t) (ht : t < M.n) (hnx : (M.bx t).nxt = some k) (hrow : (M.bx t).row k = x :: r) (hM' : takeM M t k r = M') {a : MA} {f : Sls} {l : List (Option Addr × List (List UInt8))} {F : List SProp} (hT : Hid (Tied M f l)) (w : World) {L R1 : List SProp} (hM : Star L w) (hm1 : Take (meshE a M f) L R1) (hm2 : Take (rowsE l) R1 F) :
    Calls Try.prog 18 #[mptr a, .int .i64 tI] w fun e w' => ∃ f' l', Hid (Tied M' f' l') ∧ e = .returned (.tuple #[pktV k x, .bool true]) ∧ Star (meshE a M' f' :: rowsE l' :: F) w' := by
  subst hM'
  exact take_ok hok hT.out t ht0 ht hnx hrow w (hM.pull2 hm1 hm2)
theorem newL (n : Nat) {x : Int} (hx : x = n) (h1 : 1 ≤ n) (h2 : n ≤ 64) {M : Msh} (hM' : newM n = M) {F : List SProp} (w : World) (hM : Star F w) :
    Calls Try.prog 15 #[.int .i64 x] w fun r w' => ∃ a f l, Hid (Tied M f l) ∧ r = .returned (mptr a) ∧ Star (meshE a M f :: rowsE l :: F) w' := by
  subst hM'
  exact new_ok n hx h1 h2 w hM
theorem len_okL {M : Msh} {n : Nat} (hn : M.n = n) {a : MA} {f : Sls} {F : List SProp} (w : World) {L : List SProp} (hM0 : Star L w) (hm1 : Take (meshE a M f) L F) (h1 : 1 ≤ n) :
    Calls Try.prog 43 #[mptr a] w fun e w' => e = .returned (.int .i64 (n : Nat)) ∧ Star (meshE a M f :: F) w' := by
  subst hn
  have hM := hM0.take hm1
  have h2 := hM.mopen (i := 0) h1
  refine (len_ok (n := M.n) (lo := M.lost) w h2 (List.mem_cons_of_mem _ List.mem_cons_self)).mono fun _ _ ⟨e, h3⟩ => ⟨e, ?_⟩
  exact Star.mjoin h3 h1 rfl fun _ _ => rfl
def aw0 : Msh := newM 3
def aw1 : Msh := sendG aw0 0 1 [97]
def aw2 : Msh := sendG aw1 0 1 [98]
def aw3 : Msh := sendG aw2 0 2 [99]
def aw4 : Msh := takeM aw3 0 1 [[98]]
def aw5 : Msh := takeM aw4 0 2 []
def aw6 : Msh := takeM aw5 0 1 []
theorem aw0_ok : aw0.ok := newM_ok (by decide) (by decide)
theorem aw1_ok : aw1.ok := sendG_ok aw0_ok (by decide) (by decide) (by decide) _
theorem aw2_ok : aw2.ok := sendG_ok aw1_ok (by decide) (by decide) (by decide) _
theorem aw3_ok : aw3.ok := sendG_ok aw2_ok (by decide) (by decide) (by decide) _
theorem aw4_ok : aw4.ok := takeG_ok aw3_ok (t := 0) (x := [97]) (by decide) (by decide) (by decide)
theorem aw5_ok : aw5.ok := takeG_ok aw4_ok (t := 0) (x := [99]) (by decide) (by decide) (by decide)
set_option maxRecDepth 100000 in
theorem awake18 {F : List SProp} (w : World) (hM : Star F w) : Calls Try.prog 14 #[] w fun r w' => r = .returned (.bool true) ∧ Star F w' := by
  have tok1 : Hid True := trivial
  have tok2 : Hid True := trivial
  have tok3 : Hid True := trivial
  have tok4 : Hid True := trivial
  have tok5 : Hid True := trivial
  go_enter Try.func14, Try.ntmps14
  go_wp2_with (first | (go_at_call 15; have hM0 := hM; clear hM; (first | (with_reducible refine (newL 3 (x := 3) rfl (by decide) (by decide) (M := aw0) rfl _ hM0).mono ?_) | fail); clear hM0; rintro _ w ⟨a, f, l, HT, rfl, hM⟩) | (have _t := tok1; (first | ((with_reducible refine at_slice' ?_); (have hM0 := hM; clear hM; refine BigFrame.wpList_want (by rfl) fun K hK => ws_slice_row hM0 (n := 1) rfl 3 1 (.int .i64 0) [.int .i64 0] Try.underlying23 (by kernel_rfl) rfl (by simp [Value.cells, iv, sv, bv]) (by rfl) (by decide) (cs := ivs [0]) (by rfl) (fun g1 w hM => hK _ _ ?_); clear hM0 hK K)) | fail); clear tok1) | (have _t := tok2; (first | ((with_reducible refine at_slice' ?_); (have hM0 := hM; clear hM; refine BigFrame.wpList_want (by rfl) fun K hK => ws_slice_row hM0 (n := 1) rfl 3 1 (.int .i64 0) [.int .i64 0] Try.underlying23 (by kernel_rfl) rfl (by simp [Value.cells, iv, sv, bv]) (by rfl) (by decide) (cs := ivs [0]) (by rfl) (fun g2 w hM => hK _ _ ?_); clear hM0 hK K)) | fail); clear tok2) | (first | ((with_reducible refine at_slice' ?_); (have hM0 := hM; clear hM; refine BigFrame.wpList_want (by rfl) fun K hK => ws_slice_row hM0 (n := 1) rfl 3 1 (.int .i64 0) [.int .i64 0] Try.underlying23 (by kernel_rfl) rfl (by simp [Value.cells, iv, sv, bv]) (by rfl) (by decide) (cs := ivs [0]) (by rfl) (fun g3 w hM => hK _ _ ?_); clear hM0 hK K)) | fail) | (go_at_call 17; have hM0 := hM; clear hM; (first | (with_reducible refine (sendL (tI := 0) (k := 1) (x := [97]) aw0_ok 0 1 rfl rfl (by decide) (by decide) (by decide) (by decide) (M' := aw1) (e := 0) rfl (by decide) HT _ hM0 (by (repeat (first | (with_reducible exact Take.head) | apply Take.tail)); first | done | fail) (by (repeat (first | (with_reducible exact Take.head) | apply Take.tail)); first | done | fail) (by (repeat (first | (with_reducible exact Take.head) | apply Take.tail)); first | done | fail)).mono ?_) | fail); clear hM0; rintro _ w ⟨f, l, HT, rfl, hM⟩) | (go_at_call 17; have hM0 := hM; clear hM; (first | (with_reducible refine (sendL (tI := 0) (k := 1) (x := [98]) aw1_ok 0 1 rfl rfl (by decide) (by decide) (by decide) (by decide) (M' := aw2) (e := 0) rfl (by decide) HT _ hM0 (by (repeat (first | (with_reducible exact Take.head) | apply Take.tail)); first | done | fail) (by (repeat (first | (with_reducible exact Take.head) | apply Take.tail)); first | done | fail) (by (repeat (first | (with_reducible exact Take.head) | apply Take.tail)); first | done | fail)).mono ?_) | fail); clear hM0; rintro _ w ⟨f, l, HT, rfl, hM⟩) | (go_at_call 17; have hM0 := hM; clear hM; (first | (with_reducible refine (sendL (tI := 0) (k := 2) (x := [99]) aw2_ok 0 2 rfl rfl (by decide) (by decide) (by decide) (by decide) (M' := aw3) (e := 0) rfl (by decide) HT _ hM0 (by (repeat (first | (with_reducible exact Take.head) | apply Take.tail)); first | done | fail) (by (repeat (first | (with_reducible exact Take.head) | apply Take.tail)); first | done | fail) (by (repeat (first | (with_reducible exact Take.head) | apply Take.tail)); first | done | fail)).mono ?_) | fail); clear hM0; rintro _ w ⟨f, l, HT, rfl, hM⟩) | (go_at_call 18; have hM0 := hM; clear hM; (first | (with_reducible refine (takeL (tI := 0) (k := 1) (x := [97]) (r := [[98]]) aw3_ok 0 rfl (by decide) (by decide) (by decide) (M' := aw4) rfl HT _ hM0 (by (repeat (first | (with_reducible exact Take.head) | apply Take.tail)); first | done | fail) (by (repeat (first | (with_reducible exact Take.head) | apply Take.tail)); first | done | fail)).mono ?_) | fail); clear hM0; rintro _ w ⟨f, l, HT, rfl, hM⟩) | (go_at_call 18; have hM0 := hM; clear hM; (first | (with_reducible refine (takeL (tI := 0) (k := 2) (x := [99]) (r := []) aw4_ok 0 rfl (by decide) (by decide) (by decide) (M' := aw5) rfl HT _ hM0 (by (repeat (first | (with_reducible exact Take.head) | apply Take.tail)); first | done | fail) (by (repeat (first | (with_reducible exact Take.head) | apply Take.tail)); first | done | fail)).mono ?_) | fail); clear hM0; rintro _ w ⟨f, l, HT, rfl, hM⟩) | (go_at_call 18; have hM0 := hM; clear hM; (first | (with_reducible refine (takeL (tI := 0) (k := 1) (x := [98]) (r := []) aw5_ok 0 rfl (by decide) (by decide) (by decide) (M' := aw6) rfl HT _ hM0 (by (repeat (first | (with_reducible exact Take.head) | apply Take.tail)); first | done | fail) (by (repeat (first | (with_reducible exact Take.head) | apply Take.tail)); first | done | fail)).mono ?_) | fail); clear hM0; rintro _ w ⟨f, l, HT, rfl, hM⟩) | (have _t := tok4; (first | ((with_reducible refine at_alloc' ?_); (have hM0 := hM; clear hM; refine BigFrame.wpList_want (by rfl) fun K hK => ws_alloc hM0 (t := 31) rfl #[.int .i64 0, .string ByteArray.empty] info_pkt (fun g4 w hM => hK _ _ ?_); clear hM0 hK K)) | fail); clear tok4) | (have _t := tok5; (first | ((with_reducible refine at_alloc' ?_); (have hM0 := hM; clear hM; refine BigFrame.wpList_want (by rfl) fun K hK => ws_alloc hM0 (t := 31) rfl #[.int .i64 0, .string ByteArray.empty] info_pkt (fun g5 w hM => hK _ _ ?_); clear hM0 hK K)) | fail); clear tok5) | (first | ((with_reducible refine at_alloc' ?_); (have hM0 := hM; clear hM; refine BigFrame.wpList_want (by rfl) fun K hK => ws_alloc hM0 (t := 31) rfl #[.int .i64 0, .string ByteArray.empty] info_pkt (fun g6 w hM => hK _ _ ?_); clear hM0 hK K)) | fail) | (first | ((with_reducible refine at_store' ?_); (have hM0 := hM; clear hM; refine BigFrame.wpList_want (by rfl) fun K hK => ws_store hM0 rfl rfl rfl (by (repeat (first | (with_reducible exact Take.head) | apply Take.tail)); first | done | fail) (n := 2) (by rfl) (by rfl) (by kernel_rfl) (by simp [Value.oneCell']) (fun w hM => hK _ _ ?_); clear hM0 hK K)) | fail) | (first | ((with_reducible refine at_load' ?_); (refine BigFrame.wpList_want (by rfl) fun K hK => ws_load1 hM rfl rfl (by (repeat (first | assumption | (with_reducible exact mZ) | apply mS)); first | done | fail) (by first | rfl | assumption) (by decide +kernel) (hK _ _ ?_); clear hK K)) | fail) | (go_at_call 43; have hM0 := hM; clear hM; (first | (with_reducible refine (len_okL (M := aw6) (n := 3) rfl _ hM0 (by (repeat (first | (with_reducible exact Take.head) | apply Take.tail)); first | done | fail) (by decide)).mono ?_) | fail); clear hM0; rintro _ w ⟨rfl, hM⟩))
  go_ret
  exact ⟨rfl, hM.sel (by repeat (first | (with_reducible exact Sel.refl) | (with_reducible exact Take.head) | (with_reducible apply Take.tail) | (with_reducible apply Sel.cons) | (with_reducible apply Sel.drop)))⟩
end Go.Proofs.Ytbejifbiffeamaa
