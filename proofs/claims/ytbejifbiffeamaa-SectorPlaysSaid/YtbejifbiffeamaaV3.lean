/- What the laws share, part 3 (SecE, SrA, SrB). No condition but those that each theorem names. -/
import Derived.Test.YtbejifbiffeamaaV1
import Derived.Test.YtbejifbiffeamaaV2
set_option linter.unusedSimpArgs false
set_option linter.unusedVariables false
namespace Go.Proofs.Ytbejifbiffeamaa
open Go.RowKit
attribute [local go_sem] extract_mid extract_drop bget bsize wrap64_u8 i64_u8 u64_u8 bappend
theorem wrD_nw {D : Dsk} (h : D.ok) (at_ : Nat) (ts : List (List UInt8)) (k : Nat) (hk : at_ + k ≤ D.sure.length) (i : Nat) :
    (wrD D at_ ts k).nw i = (if at_ ≤ i ∧ i < at_ + k then pad64 (ts.getD (i - at_) []) else D.nw i) ∧ (wrD D at_ ts k).l i = (decide (at_ ≤ i ∧ i < at_ + k) || D.l i) := by
  induction k with
  | zero =>
    have h1 : ¬ (at_ ≤ i ∧ i < at_ + 0) := by omega
    rw [if_neg h1, decide_eq_false h1]
    exact ⟨rfl, rfl⟩
  | succ k ih =>
    have h2 := wrD_ok h at_ ts k (by omega)
    have h3 : at_ + k < (wrD D at_ ts k).sure.length := by rw [(wrD_sure D at_ ts k).1]; omega
    obtain ⟨i1, i2⟩ := ih (by omega)
    rw [wrD_succ, put_nw h2 h3, put_l h2 h3, i1, i2]
    by_cases e : i = at_ + k
    · subst e
      rw [if_pos rfl, if_pos rfl, if_pos (by omega), decide_eq_true (by omega : at_ ≤ at_ + k ∧ at_ + k < at_ + (k + 1)), Nat.add_sub_cancel_left]
      exact ⟨rfl, rfl⟩
    · rw [if_neg e, if_neg e]
      have h4 : (at_ ≤ i ∧ i < at_ + (k + 1)) ↔ (at_ ≤ i ∧ i < at_ + k) := by omega
      refine ⟨?_, ?_⟩ <;> simp only [h4]
structure WPost (D D' : Dsk) (at_ : Nat) (ts : List (List UInt8)) : Prop where
  ok : D'.ok
  sure : D'.sure = D.sure
  armed : D'.armed = D.armed
  nw : ∀ i, D'.nw i = if at_ ≤ i ∧ i < at_ + ts.length then pad64 (ts.getD (i - at_) []) else D.nw i
  l : ∀ i, D'.l i = (decide (at_ ≤ i ∧ i < at_ + ts.length) || D.l i)
structure SPost (D D' : Dsk) : Prop where
  ok : D'.ok
  len : D'.sure.length = D.sure.length
  armed : D'.armed = D.armed
  nw : ∀ i, D'.nw i = D.nw i
  su : ∀ i, D'.su i = D.nw i
  l : ∀ i, D'.l i = false
structure CPost (D D' : Dsk) (ch : List Int) : Prop where
  ok : D'.ok
  len : D'.sure.length = D.sure.length
  armed : D'.armed = false
  nw : ∀ i, D'.nw i = D'.su i
  l : ∀ i, D'.l i = false
  calm : ∀ i, D.l i = false → i < D.sure.length → D'.su i = D.su i
  torn : ∀ i j, D.keys[j]? = some i → D'.su i = crB D ch i j
theorem crD_post {D : Dsk} (h : D.ok) (ch : List Int) : CPost D (crD D ch) ch where
  ok := crD_ok h ch
  len := upd_len _ _
  armed := rfl
  nw _ := rfl
  l i := getD_rep _ i
  calm i hl hi := by
    have hnd : ((crL D ch).map (·.1)).Nodup := by rw [crL_fst]; exact keys_nodup D
    have h2 := (upd_get (S := D.sure) hnd i).2 fun b hb => by
      have h3 : i ∈ D.keys := by rw [← crL_fst D ch]; exact List.mem_map.2 ⟨_, hb, rfl⟩
      have := ((mem_keys D i).1 h3).2
      rw [hl] at this
      cases this
    show (upd D.sure (crL D ch)).getD i [] = D.sure.getD i []
    rw [List.getD_eq_getElem?_getD, h2, List.getD_eq_getElem?_getD]
  torn i j hj := by
    have hnd : ((crL D ch).map (·.1)).Nodup := by rw [crL_fst]; exact keys_nodup D
    have h2 := (upd_get (S := D.sure) hnd i).1 _ (List.mem_of_getElem? (crL_get (ch := ch) hj)) ((mem_keys D i).1 (List.mem_of_getElem? hj)).1
    show (upd D.sure (crL D ch)).getD i [] = _
    rw [List.getD_eq_getElem?_getD, h2]
    rfl
theorem rdD_one (D : Dsk) (at_ : Nat) : rdD D at_ 1 = D.nw at_ := by simp [rdD]
section
variable {F : List SProp} {a : DA} {D : Dsk}
theorem write_u {ts : List (List UInt8)} {A : Option Addr} {n c : Nat} {x : Int} (at_ : Nat) (hx : x = at_) (h : D.ok) (hi : at_ + n ≤ D.sure.length) (hb : anyBig ts = false) (hf : D.armed = false) (w : World) (hM : Star (diskE a D :: F) w) (hF : rowE 1 A n (svs ts) ∈ F) :
    Calls Try.prog 22 #[dptr a, .int .i64 x, .slice A n c] w fun r w' => ∃ D', Hid (WPost D D' at_ ts) ∧ r = .returned (.int .i64 0) ∧ Star (diskE a D' :: F) w' := by
  subst hx
  have hf2 : D.armed = true → D.left ≠ 0 := fun e => by rw [hf] at e; cases e
  have hl : ts.length = n := svs_row (hM.row (A := A) (n := n) (xs := svs ts) (List.mem_cons_of_mem _ hF))
  have hok := dec_ok h hf2
  refine (write_ok h at_ hi hb hf2 w hM hF).mono fun r w' ⟨e, hM⟩ => ⟨_, ⟨wrD_ok hok at_ ts n hi, (wrD_sure _ _ _ _).1, (wrD_sure _ _ _ _).2.1, fun i => ?_, fun i => ?_⟩, e, hM⟩
  · rw [hl]; exact (wrD_nw hok at_ ts n hi i).1
  · rw [hl]; exact (wrD_nw hok at_ ts n hi i).2
theorem sync_u (h : D.ok) (hf : D.armed = false) (w : World) (hM : Star (diskE a D :: F) w) :
    Calls Try.prog 23 #[dptr a] w fun r w' => ∃ D', Hid (SPost D D') ∧ r = .returned (.int .i64 0) ∧ Star (diskE a D' :: F) w' := by
  have hf2 : D.armed = true → D.left ≠ 0 := fun e => by rw [hf] at e; cases e
  refine (sync_ok h hf2 w hM).mono fun r w' ⟨e, hM⟩ => ⟨_, ⟨calm_ok (dec_ok h hf2) h.n64 h.ln, h.ln, rfl, fun i => rfl, fun i => rfl, fun i => getD_rep _ i⟩, e, hM⟩
theorem crash_u (h : D.ok) {ch : List Int} {CA : Option Addr} {cn cc : Nat} (hcn : cn ≤ 9223372036854775807) (hch : ∀ x ∈ ch, -9223372036854775808 ≤ x ∧ x ≤ 9223372036854775807) (w : World) (hM : Star (diskE a D :: F) w) (hF : rowE 1 CA cn (ivs ch) ∈ F) :
    Calls Try.prog 25 #[dptr a, .slice CA cn cc] w fun r w' => ∃ D', Hid (CPost D D' ch) ∧ r = .returned (.tuple #[]) ∧ Star (diskE a D' :: F) w' :=
  (crash_d h hcn hch w hM hF).mono fun r w' ⟨e, hM⟩ => ⟨_, crD_post h ch, e, hM⟩
/-- What a Read leaves. -/
structure RPost (D D' : Dsk) : Prop where
  ok : D'.ok
  sure : D'.sure = D.sure
  armed : D'.armed = D.armed
  nw : ∀ i, D'.nw i = D.nw i
  l : ∀ i, D'.l i = D.l i
theorem read_u {x y : Int} (at_ n : Nat) (hx : x = at_) (hy : y = n) (h : D.ok) (hi : at_ + n ≤ D.sure.length) (hf : D.armed = false) (w : World) (hM : Star (diskE a D :: F) w) :
    Calls Try.prog 24 #[dptr a, .int .i64 x, .int .i64 y] w fun r w' => ∃ D', Hid (RPost D D') ∧ r = .returned (.tuple #[.string ⟨(rdD D at_ n).toArray⟩, .int .i64 0]) ∧ Star (diskE a D' :: F) w' := by
  subst hx hy
  have hf2 : D.armed = true → D.left ≠ 0 := fun e => by rw [hf] at e; cases e
  exact (read_ok h at_ n hi hf2 w hM).mono fun r w' ⟨e, hM⟩ => ⟨_, ⟨dec_ok h hf2, rfl, rfl, fun i => rfl, fun i => rfl⟩, e, hM⟩
/-- An empty disk, by what holds of it. -/
structure NPost (D : Dsk) (N : Nat) : Prop where
  ok : D.ok
  len : D.sure.length = N
  armed : D.armed = false
  nw : ∀ i, i < N → D.nw i = z64
  l : ∀ i, D.l i = false
theorem new_u {n : Int} {N : Nat} (hn : max 0 (min n 65536) = (N : Int)) (w : World) (hM : Star F w) :
    Calls Try.prog 20 #[.int .i64 n] w fun r w' => ∃ (a : DA) (D : Dsk), Hid (NPost D N) ∧ r = .returned (dptr a) ∧ Star (diskE a D :: F) w' :=
  (new_d hn w hM).mono fun r w' ⟨a, e, hM⟩ => ⟨a, newD N, ⟨newD_ok (by omega), newD_len N, rfl, fun i hi => by show (List.replicate N z64).getD i [] = _; rw [List.getD_eq_getElem?_getD, List.getElem?_replicate, if_pos hi]; rfl, fun i => getD_rep _ i⟩, e, hM⟩
end
theorem keys_one {D : Dsk} (hn : 0 < D.sure.length) (h0 : D.l 0 = true) : D.keys[0]? = some 0 := by
  unfold Dsk.keys
  obtain ⟨n, hn⟩ : ∃ n, D.sure.length = n + 1 := ⟨D.sure.length - 1, by omega⟩
  rw [hn, List.range_succ_eq_map, List.filter_cons_of_pos h0]
  rfl
set_option maxRecDepth 100000 in
set_option maxHeartbeats 4000000 in
theorem awake03 {F : List SProp} (w : World) (hM : Star F w) : Calls Try.prog 19 #[] w fun r w' => r = .returned (.bool true) ∧ Star F w' := by
  have tok1 : True := trivial
  have tok2 : True := trivial
  go_enter Try.func19, Try.ntmps19
  go_wp2_with (first | (go_at_call 20; have hM0 := hM; clear hM; (first | (with_reducible refine (new_u (N := 2) (by decide) _ hM0).mono ?_) | fail); clear hM0; rintro _ w ⟨a, D0, h0, rfl, hM⟩) | (have _t := tok1; (first | ((with_reducible refine at_slice' ?_); (have hM0 := hM; clear hM; refine BigFrame.wpList_want (by rfl) fun K hK => ws_slice_row hM0 (n := 1) rfl 9 1 (.string ByteArray.empty) [sv [97, 98]] Try.underlying22 (by kernel_rfl) rfl (by simp [Value.cells, iv, sv, bv]) (by rfl) (by decide) (cs := svs [[97, 98]]) (by rfl) (fun g9 w hM => hK _ _ ?_); clear hM0 hK K)) | fail); clear tok1) | (have _t := tok2; (first | ((with_reducible refine at_slice' ?_); (have hM0 := hM; clear hM; refine BigFrame.wpList_want (by rfl) fun K hK => ws_slice_row hM0 (n := 1) rfl 9 1 (.string ByteArray.empty) [sv [120, 121]] Try.underlying22 (by kernel_rfl) rfl (by simp [Value.cells, iv, sv, bv]) (by rfl) (by decide) (cs := svs [[120, 121]]) (by rfl) (fun g20 w hM => hK _ _ ?_); clear hM0 hK K)) | fail); clear tok2) | (first | ((with_reducible refine at_slice' ?_); (have hM0 := hM; clear hM; refine BigFrame.wpList_want (by rfl) fun K hK => ws_slice_row hM0 (n := 1) rfl 3 1 (.int .i64 0) [.int .i64 1] Try.underlying23 (by kernel_rfl) rfl (by simp [Value.cells, iv, sv, bv]) (by rfl) (by decide) (cs := ivs [1]) (by rfl) (fun g25 w hM => hK _ _ ?_); clear hM0 hK K)) | fail) | ((go_at_call 22; have hM0 := hM; clear hM; (first | (with_reducible refine (write_u (x := 0) (ts := [[97, 98]]) 0 rfl h0.out.ok (by rw [h0.out.len]; decide) (by decide) h0.out.armed _ (hM0.take (x := diskE a D0) (by (repeat (first | (with_reducible exact Take.head) | apply Take.tail)); first | done | fail)) (by (repeat (first | assumption | (with_reducible exact mZ) | apply mS)); first | done | fail)).mono ?_) | fail); clear hM0; rintro _ w ⟨D1, h1, rfl, hM⟩)) | (go_at_call 23; have hM0 := hM; clear hM; (first | (with_reducible refine (sync_u h1.out.ok (h1.out.armed.trans h0.out.armed) _ (hM0.take (x := diskE a D1) (by (repeat (first | (with_reducible exact Take.head) | apply Take.tail)); first | done | fail))).mono ?_) | fail); clear hM0; rintro _ w ⟨D2, h2, rfl, hM⟩) | (go_at_call 22; have hM0 := hM; clear hM; (first | (with_reducible refine (write_u (x := 0) (ts := [[120, 121]]) 0 rfl h2.out.ok (by rw [h2.out.len, h1.out.sure, h0.out.len]; decide) (by decide) (h2.out.armed.trans (h1.out.armed.trans h0.out.armed)) _ (hM0.take (x := diskE a D2) (by (repeat (first | (with_reducible exact Take.head) | apply Take.tail)); first | done | fail)) (by (repeat (first | assumption | (with_reducible exact mZ) | apply mS)); first | done | fail)).mono ?_) | fail); clear hM0; rintro _ w ⟨D3, h3, rfl, hM⟩) | (go_at_call 25; have hM0 := hM; clear hM; (first | (with_reducible refine (crash_u (ch := [1]) h3.out.ok (by decide) (by decide) _ (hM0.take (x := diskE a D3) (by (repeat (first | (with_reducible exact Take.head) | apply Take.tail)); first | done | fail)) (by (repeat (first | assumption | (with_reducible exact mZ) | apply mS)); first | done | fail)).mono ?_) | fail); clear hM0; rintro _ w ⟨D4, h4, rfl, hM⟩))
  have e3 : D3.sure.length = 2 := by rw [h3.out.sure, h2.out.len, h1.out.sure, h0.out.len]
  have e4 : D4.nw 0 = (pad64 [120, 121]).take 1 ++ (pad64 [97, 98]).drop 1 := by
    rw [h4.out.nw, h4.out.torn 0 0 (keys_one (by rw [e3]; decide) (by rw [h3.out.l]; rfl))]
    unfold crB
    have e5 : D3.su 0 = pad64 [97, 98] := by
      show D3.sure.getD 0 [] = _
      rw [h3.out.sure]
      show D2.su 0 = _
      rw [h2.out.su, h1.out.nw, if_pos (by decide)]
      rfl
    rw [e5, h3.out.nw, if_pos (by decide)]
    rfl
  have e6 : D4.sure.length = 2 := by rw [h4.out.len, e3]
  obtain ⟨s, hs⟩ : ∃ s, s = (pad64 [120, 121]).take 1 ++ (pad64 [97, 98]).drop 1 := ⟨_, rfl⟩
  have HS : Hid (rdD D4 0 1 = s) := by show _ = _; rw [rdD_one, e4, hs]
  have hs1 : s.length = 64 := by rw [hs]; decide +kernel
  have hs2 : s.take 3 = [120, 98, 0] := by rw [hs]; decide +kernel
  have HR : Hid (∀ (L : List SProp) (w : World), Star (diskE a D4 :: L) w → Calls Try.prog 24 #[dptr a, .int .i64 0, .int .i64 1] w fun r w' => ∃ D', Hid (RPost D4 D') ∧ r = .returned (.tuple #[.string ⟨s.toArray⟩, .int .i64 0]) ∧ Star (diskE a D' :: L) w') := fun L w hM => by
    have := read_u (x := 0) (y := 1) 0 1 rfl rfl h4.out.ok (by rw [e6]; decide) h4.out.armed w hM
    rwa [HS.out] at this
  have E6 := Lib.hid e6
  clear hs e3 e4 e6
  go_wp2_with (first | (go_at_call 24; have hM0 := hM; clear hM; (first | (with_reducible refine (HR.out _ _ (hM0.take (x := diskE a D4) (by (repeat (first | (with_reducible exact Take.head) | apply Take.tail)); first | done | fail))).mono ?_) | fail); clear hM0; rintro _ w ⟨D5, h5, rfl, hM⟩) | ((go_at_call 48; have hM0 := hM; clear hM; (first | (with_reducible refine (size_d _ (hM0.take (x := diskE a D5) (by (repeat (first | (with_reducible exact Take.head) | apply Take.tail)); first | done | fail))).mono ?_) | fail); clear hM0; rintro _ w ⟨rfl, hM⟩); rw [h5.out.sure, E6.out]))
  go_ret
  exact ⟨rfl, hM.sel (by repeat (first | (with_reducible exact Sel.refl) | (with_reducible exact Take.head) | (with_reducible apply Take.tail) | (with_reducible apply Sel.cons) | (with_reducible apply Sel.drop)))⟩
end Go.Proofs.Ytbejifbiffeamaa
set_option linter.unusedSimpArgs false
set_option linter.unusedVariables false
namespace Go.Proofs.Ytbejifbiffeamaa
open Go.RowKit
attribute [local go_sem] extract_mid extract_drop bget bsize wrap64_u8 i64_u8 u64_u8 bappend
abbrev srV (A : Option Addr) (c : Nat) (B : Option Addr) (d : Nat) (C : Option Addr) (e : Nat) (N : Nat) (fu : Int) : Array Value := #[.slice A N c, .slice B N d, .slice C N e, .int .i64 fu]
def lovs (l : List Bool) : List Value := l.map fun b => .bool b
/-- The fuse's number. -/
def fuD (D : Dsk) : Int := if D.armed then D.left else -1
theorem info_srz : (Try.prog.info? 63).map (fun i => i.zero) = some (some (.agg #[.slice none 0 0, .slice none 0 0, .slice none 0 0, .int .i64 0])) := by kernel_rfl
theorem Star.dup_rowS {L : List SProp} {w : World} {size n : Nat} {A : Option Addr} {xs : List Value} (h : Star L w) (hx : rowE size A n xs ∈ L) : Star (rowE size A n xs :: L) w := h.view hx rfl rfl (fun _ hb => hb) (h.all _ hx)
theorem fuD_fail {D : Dsk} (h : D.ok) : (fuD D = 0) ↔ failD D = true := by
  have h3 := h.arm
  unfold fuD failD
  cases ha : D.armed with
  | true => simp
  | false => simp
theorem fuD_dec {D : Dsk} (h : D.ok) (hf : failD D = false) : fuD D.dec = if 0 < fuD D then fuD D - 1 else fuD D := by
  have h1 := h.arm
  have h2 := h.i64b
  unfold failD at hf
  unfold fuD
  show (if D.armed = true then IntKind.i64.wrap (D.left - 1) else -1) = _
  cases ha : D.armed with
  | true =>
    rw [ha] at hf
    have h3 := h1 ha
    have h4 : D.left ≠ 0 := by simpa using hf
    rw [if_pos rfl, if_pos rfl, IntWalk.i64_in _ (by omega), if_pos (by omega)]
  | false => rfl
theorem fuD_ge {D : Dsk} (h : D.ok) : -1 ≤ fuD D ∧ fuD D ≤ 9223372036854775807 := by
  have h1 := h.arm
  have h2 := h.i64b
  unfold fuD
  split
  · rename_i ha; have := h1 ha; omega
  · omega
section
variable {F : List SProp} {A B C : Option Addr} {c d e N : Nat} {fu : Int}
theorem pad64_eqS (b : List UInt8) (h : b.length ≤ 64) : pad64 b = b ++ List.replicate (64 - b.length) 0 := by
  unfold pad64 z64 over
  rw [List.length_replicate, List.take_of_length_le h, List.drop_replicate]
set_option maxRecDepth 100000 in
set_option maxHeartbeats 4000000 in
theorem fill_s (s : List UInt8) (hs : s.length ≤ 64) (w : World) (hM : Star F w) : Calls Try.prog 56 #[.string ⟨s.toArray⟩] w fun r w' => r = .returned (.string ⟨(pad64 s).toArray⟩) ∧ Star F w' := by
  have HP := Lib.hid (pad64_eqS s hs)
  obtain ⟨k, hk⟩ : ∃ k, s.length = k := ⟨_, rfl⟩
  have HK := Lib.hid hk
  rw [hk] at hs
  clear hk
  go_enter Try.func56, Try.ntmps56
  go_wp2_with fail
  go_loopw [0, 3] (fun v i wr => ∃ (j m : Nat) (l : List UInt8), i = .int .i64 j ∧ v = .string ⟨l.toArray⟩ ∧ Hid (l = s ++ List.replicate j 0) ∧ l.length = m ∧ m = k + j ∧ m ≤ 64 ∧ Star F wr) (fun _ i _ => 64 - (intOf i).toNat)
  case atStart => exact ⟨0, k, s, rfl, rfl, by show _ = _; simp, HK.out, rfl, hs, hM⟩
  case round =>
    clear hM
    obtain ⟨j, m, l, rfl, rfl, hl, hlm, hm, hm64, hM⟩ := hrel
    by_cases hg : m < 64
    · have h1 : (m : Int) < 64 := by omega
      have h2 : (j : Int) < 64 := by omega
      have hb : ¬ (9223372036854775807 < l.length + [(0 : UInt8)].length) := by simp; omega
      go_wp2_with fail
      go_roundw
      case rel => exact ⟨j + 1, m + 1, l ++ [0], rfl, rfl, by show _ = _; rw [hl.out, List.append_assoc, List.replicate_succ'], by rw [List.length_append, hlm]; rfl, by omega, by omega, hM⟩
      case measure => simp [intOf]; omega
    · obtain rfl : m = 64 := by omega
      have HE : Hid (l = pad64 s) := by show _ = _; rw [hl.out, HP.out, HK.out]; congr 2; omega
      by_cases hj : j < 64
      · have h2 : (j : Int) < 64 := by omega
        go_wp2_with fail
        go_ret
        exact ⟨by rw [HE.out]; rfl, hM⟩
      · have hj64 : j = 64 := by omega
        clear hm hlm hl
        subst hj64
        go_wp2_with fail
        go_ret
        exact ⟨by rw [HE.out]; rfl, hM⟩
set_option maxRecDepth 100000 in
set_option maxHeartbeats 4000000 in
theorem in_s (at_ n : Int) {b : Bool} (hb : decide (0 ≤ at_ ∧ 0 ≤ n ∧ n ≤ N ∧ at_ ≤ N - n) = b) (hN : N ≤ 100000) (w : World) (hM : Star F w) :
    Calls Try.prog 62 #[.agg (srV A c B d C e N fu), .int .i64 at_, .int .i64 n] w fun r w' => r = .returned (.bool b) ∧ Star F w' := by
  by_cases h0 : 0 ≤ at_
  · by_cases h1 : 0 ≤ n
    · by_cases h2 : n ≤ N
      · have hw : IntKind.i64.wrap ((N : Int) - n) = N - n := by rw [IntWalk.i64_in _ (by omega)]
        have hb2 : decide (at_ ≤ (N : Int) - n) = b := by rw [← hb, decide_eq_decide]; exact ⟨fun h => ⟨h0, h1, h2, h⟩, fun h => h.2.2.2⟩
        clear hb
        go_enter Try.func62, Try.ntmps62
        go_wp2_with (first | (first | ((with_reducible refine at_box' ?_); (have hM0 := hM; clear hM; refine BigFrame.wpList_want (by rfl) fun K hK => ws_box hM0 rfl rfl (cs := srV A c B d C e N fu) rfl (fun g w hM => hK _ _ ?_); clear hM0 hK K)) | fail) | (first | ((with_reducible refine at_load' ?_); (refine BigFrame.wpList_want (by rfl) fun K hK => ws_load1 hM rfl rfl (by (repeat (first | assumption | (with_reducible exact mZ) | apply mS)); first | done | fail) (by first | rfl | assumption) (by decide +kernel) (hK _ _ ?_); clear hK K)) | fail))
        go_ret
        exact ⟨rfl, hM.tail⟩
      · obtain rfl : b = false := by rw [← hb, decide_eq_false]; omega
        have h3 : decide (n ≤ (N : Int)) = false := by simp; omega
        clear hb
        go_enter Try.func62, Try.ntmps62
        go_wp2_with (first | (first | ((with_reducible refine at_box' ?_); (have hM0 := hM; clear hM; refine BigFrame.wpList_want (by rfl) fun K hK => ws_box hM0 rfl rfl (cs := srV A c B d C e N fu) rfl (fun g w hM => hK _ _ ?_); clear hM0 hK K)) | fail) | (first | ((with_reducible refine at_load' ?_); (refine BigFrame.wpList_want (by rfl) fun K hK => ws_load1 hM rfl rfl (by (repeat (first | assumption | (with_reducible exact mZ) | apply mS)); first | done | fail) (by first | rfl | assumption) (by decide +kernel) (hK _ _ ?_); clear hK K)) | fail))
        go_ret
        exact ⟨rfl, hM.tail⟩
    · obtain rfl : b = false := by rw [← hb, decide_eq_false]; omega
      have h3 : decide (0 ≤ n) = false := by simp; omega
      clear hb
      go_enter Try.func62, Try.ntmps62
      go_wp2_with (first | (first | ((with_reducible refine at_box' ?_); (have hM0 := hM; clear hM; refine BigFrame.wpList_want (by rfl) fun K hK => ws_box hM0 rfl rfl (cs := srV A c B d C e N fu) rfl (fun g w hM => hK _ _ ?_); clear hM0 hK K)) | fail) | (first | ((with_reducible refine at_load' ?_); (refine BigFrame.wpList_want (by rfl) fun K hK => ws_load1 hM rfl rfl (by (repeat (first | assumption | (with_reducible exact mZ) | apply mS)); first | done | fail) (by first | rfl | assumption) (by decide +kernel) (hK _ _ ?_); clear hK K)) | fail))
      go_ret
      exact ⟨rfl, hM.tail⟩
  · obtain rfl : b = false := by rw [← hb, decide_eq_false]; omega
    have h1 : decide (0 ≤ at_) = false := by simp; omega
    clear hb
    go_enter Try.func62, Try.ntmps62
    go_wp2_with (first | (first | ((with_reducible refine at_box' ?_); (have hM0 := hM; clear hM; refine BigFrame.wpList_want (by rfl) fun K hK => ws_box hM0 rfl rfl (cs := srV A c B d C e N fu) rfl (fun g w hM => hK _ _ ?_); clear hM0 hK K)) | fail) | (first | ((with_reducible refine at_load' ?_); (refine BigFrame.wpList_want (by rfl) fun K hK => ws_load1 hM rfl rfl (by (repeat (first | assumption | (with_reducible exact mZ) | apply mS)); first | done | fail) (by first | rfl | assumption) (by decide +kernel) (hK _ _ ?_); clear hK K)) | fail))
    go_ret
    exact ⟨rfl, hM.tail⟩
set_option maxRecDepth 100000 in
set_option maxHeartbeats 4000000 in
theorem call_s (hf : -1 ≤ fu) (hf2 : fu ≤ 9223372036854775807) (w : World) (hM : Star F w) :
    Calls Try.prog 63 #[.agg (srV A c B d C e N fu)] w fun r w' => r = .returned (.tuple #[.agg (srV A c B d C e N (if 0 < fu then fu - 1 else fu)), .bool (fu == 0)]) ∧ Star F w' := by
  rcases (by omega : fu = 0 ∨ fu = -1 ∨ 0 < fu) with rfl | rfl | h
  · go_enter Try.func63, Try.ntmps63
    go_wp2_with (first | (first | ((with_reducible refine at_box' ?_); (have hM0 := hM; clear hM; refine BigFrame.wpList_want (by rfl) fun K hK => ws_box hM0 rfl rfl (cs := srV A c B d C e N 0) rfl (fun g1 w hM => hK _ _ ?_); clear hM0 hK K)) | fail) | (first | ((with_reducible refine at_alloc' ?_); (have hM0 := hM; clear hM; refine BigFrame.wpList_want (by rfl) fun K hK => ws_alloc hM0 (t := 63) rfl #[.slice none 0 0, .slice none 0 0, .slice none 0 0, .int .i64 0] info_srz (fun g2 w hM => hK _ _ ?_); clear hM0 hK K)) | fail) | (first | ((with_reducible refine at_load' ?_); (refine BigFrame.wpList_want (by rfl) fun K hK => ws_load1 hM rfl rfl (by (repeat (first | assumption | (with_reducible exact mZ) | apply mS)); first | done | fail) (by first | rfl | assumption) (by decide +kernel) (hK _ _ ?_); clear hK K)) | fail) | (first | ((with_reducible refine at_load' ?_); (refine BigFrame.wpList_want (by rfl) fun K hK => ws_load hM rfl rfl (by (repeat (first | assumption | (with_reducible exact mZ) | apply mS)); first | done | fail) (n := 4) (by rfl) (by decide +kernel) (hK _ _ ?_); clear hK K)) | fail) | (first | ((with_reducible refine at_store' ?_); (have hM0 := hM; clear hM; refine BigFrame.wpList_want (by rfl) fun K hK => ws_store hM0 rfl rfl rfl (by (repeat (first | (with_reducible exact Take.head) | apply Take.tail)); first | done | fail) (n := 4) (by rfl) (by rfl) (by kernel_rfl) (by simp [Value.oneCell']) (fun w hM => hK _ _ ?_); clear hM0 hK K)) | fail))
    refine bodyPost_ret (results_row_tmp (P := Try.prog) (ty := 63) rfl _ _ g2 63 (srV A c B d C e N 0) 4 (.bool true) rfl rfl (hM.blk (by (repeat (first | assumption | (with_reducible exact mZ) | apply mS)); first | done | fail)) rfl (by decide +kernel)) rfl ?_
    exact ⟨rfl, hM.sel (by repeat (first | (with_reducible exact Sel.refl) | (with_reducible exact Take.head) | (with_reducible apply Take.tail) | (with_reducible apply Sel.cons) | (with_reducible apply Sel.drop)))⟩
  · go_enter Try.func63, Try.ntmps63
    go_wp2_with (first | (first | ((with_reducible refine at_box' ?_); (have hM0 := hM; clear hM; refine BigFrame.wpList_want (by rfl) fun K hK => ws_box hM0 rfl rfl (cs := srV A c B d C e N (-1)) rfl (fun g1 w hM => hK _ _ ?_); clear hM0 hK K)) | fail) | (first | ((with_reducible refine at_alloc' ?_); (have hM0 := hM; clear hM; refine BigFrame.wpList_want (by rfl) fun K hK => ws_alloc hM0 (t := 63) rfl #[.slice none 0 0, .slice none 0 0, .slice none 0 0, .int .i64 0] info_srz (fun g2 w hM => hK _ _ ?_); clear hM0 hK K)) | fail) | (first | ((with_reducible refine at_load' ?_); (refine BigFrame.wpList_want (by rfl) fun K hK => ws_load1 hM rfl rfl (by (repeat (first | assumption | (with_reducible exact mZ) | apply mS)); first | done | fail) (by first | rfl | assumption) (by decide +kernel) (hK _ _ ?_); clear hK K)) | fail) | (first | ((with_reducible refine at_load' ?_); (refine BigFrame.wpList_want (by rfl) fun K hK => ws_load hM rfl rfl (by (repeat (first | assumption | (with_reducible exact mZ) | apply mS)); first | done | fail) (n := 4) (by rfl) (by decide +kernel) (hK _ _ ?_); clear hK K)) | fail) | (first | ((with_reducible refine at_store' ?_); (have hM0 := hM; clear hM; refine BigFrame.wpList_want (by rfl) fun K hK => ws_store hM0 rfl rfl rfl (by (repeat (first | (with_reducible exact Take.head) | apply Take.tail)); first | done | fail) (n := 4) (by rfl) (by rfl) (by kernel_rfl) (by simp [Value.oneCell']) (fun w hM => hK _ _ ?_); clear hM0 hK K)) | fail))
    refine bodyPost_ret (results_row_tmp (P := Try.prog) (ty := 63) rfl _ _ g2 63 (srV A c B d C e N (-1)) 4 (.bool false) rfl rfl (hM.blk (by (repeat (first | assumption | (with_reducible exact mZ) | apply mS)); first | done | fail)) rfl (by decide +kernel)) rfl ?_
    exact ⟨rfl, hM.sel (by repeat (first | (with_reducible exact Sel.refl) | (with_reducible exact Take.head) | (with_reducible apply Take.tail) | (with_reducible apply Sel.cons) | (with_reducible apply Sel.drop)))⟩
  · have e1 : decide (fu = 0) = false := by simp; omega
    have e2 : (fu == 0) = false := by simp; omega
    have hw : IntKind.i64.wrap (fu - 1) = fu - 1 := by rw [IntWalk.i64_in _ (by omega)]
    rw [if_pos h, e2]
    go_enter Try.func63, Try.ntmps63
    go_wp2_with (first | (first | ((with_reducible refine at_box' ?_); (have hM0 := hM; clear hM; refine BigFrame.wpList_want (by rfl) fun K hK => ws_box hM0 rfl rfl (cs := srV A c B d C e N fu) rfl (fun g1 w hM => hK _ _ ?_); clear hM0 hK K)) | fail) | (first | ((with_reducible refine at_alloc' ?_); (have hM0 := hM; clear hM; refine BigFrame.wpList_want (by rfl) fun K hK => ws_alloc hM0 (t := 63) rfl #[.slice none 0 0, .slice none 0 0, .slice none 0 0, .int .i64 0] info_srz (fun g2 w hM => hK _ _ ?_); clear hM0 hK K)) | fail) | (first | ((with_reducible refine at_load' ?_); (refine BigFrame.wpList_want (by rfl) fun K hK => ws_load1 hM rfl rfl (by (repeat (first | assumption | (with_reducible exact mZ) | apply mS)); first | done | fail) (by first | rfl | assumption) (by decide +kernel) (hK _ _ ?_); clear hK K)) | fail) | (first | ((with_reducible refine at_load' ?_); (refine BigFrame.wpList_want (by rfl) fun K hK => ws_load hM rfl rfl (by (repeat (first | assumption | (with_reducible exact mZ) | apply mS)); first | done | fail) (n := 4) (by rfl) (by decide +kernel) (hK _ _ ?_); clear hK K)) | fail) | (first | ((with_reducible refine at_store' ?_); (have hM0 := hM; clear hM; refine BigFrame.wpList_want (by rfl) fun K hK => ws_store hM0 rfl rfl rfl (by (repeat (first | (with_reducible exact Take.head) | apply Take.tail)); first | done | fail) (n := 4) (by rfl) (by rfl) (by kernel_rfl) (by simp [Value.oneCell']) (fun w hM => hK _ _ ?_); clear hM0 hK K)) | fail) | (first | ((with_reducible refine at_store' ?_); (have hM0 := hM; clear hM; refine BigFrame.wpList_want (by rfl) fun K hK => ws_store1 hM0 rfl rfl (by go_simp; rfl) (by first | rfl | assumption) (by (repeat (first | (with_reducible exact Take.head) | apply Take.tail)); first | done | fail) (by simp) (by kernel_rfl) (by simp only [List.setIfInBounds_toArray, List.set_cons_zero, List.set_cons_succ]; rfl) (fun w hM => hK _ _ ?_); clear hM0 hK K)) | fail))
    refine bodyPost_ret (results_row_tmp (P := Try.prog) (ty := 63) rfl _ _ g2 63 (srV A c B d C e N (fu - 1)) 4 (.bool false) rfl rfl (hM.blk (by (repeat (first | assumption | (with_reducible exact mZ) | apply mS)); first | done | fail)) rfl (by decide +kernel)) rfl ?_
    exact ⟨rfl, hM.sel (by repeat (first | (with_reducible exact Sel.refl) | (with_reducible exact Take.head) | (with_reducible apply Take.tail) | (with_reducible apply Sel.cons) | (with_reducible apply Sel.drop)))⟩
end
end Go.Proofs.Ytbejifbiffeamaa
set_option linter.unusedSimpArgs false
set_option linter.unusedVariables false
namespace Go.Proofs.Ytbejifbiffeamaa
open Go.RowKit
attribute [local go_sem] extract_mid extract_drop bget bsize wrap64_u8 i64_u8 u64_u8 bappend
theorem svs_oneS (l : List (List UInt8)) : ∀ u ∈ svs l, u.oneCell' = true := fun u hu => by obtain ⟨s, _, rfl⟩ := List.mem_map.1 hu; rfl
theorem lovs_oneS (l : List Bool) : ∀ u ∈ lovs l, u.oneCell' = true := fun u hu => by obtain ⟨s, _, rfl⟩ := List.mem_map.1 hu; rfl
theorem mkrowB {L : List SProp} {w : World} {g m : Nat} (h : Star (cellsE g 4 (List.replicate m (Value.bool false)).toArray :: L) w) : Star (rowE 1 (some ⟨g, 0, none⟩) m (lovs (List.replicate m false)) :: L) w := by
  have h2 := h.row_of_blk (n := m) (size := 1) (by simp)
  rw [List.toList_toArray] at h2
  have e : List.replicate m (Value.bool false) = lovs (List.replicate m false) := by
    unfold lovs
    rw [List.map_replicate]
  rwa [e] at h2
theorem results_row_tmp2S {P : Program} {fn : Func} {p u v : Tmp} {ty : TypeId} (h : fn.results = #[.cell p ty, .tmp u, .tmp v]) (tmps : Array Value) (w : World) (g : Nat) (t : TypeId) (cs : Array Value) (n : Nat) (x y : Value) (hp : tmps.getD p undef = .pointer (some ⟨g, 0, none⟩)) (hx : tmps.getD u undef = x) (hy : tmps.getD v undef = y) (hg : Blk w g t cs) (hn : cs.size = n) (hr : rowTy P ty n = true) :
    (results fn tmps).run P w = .ok (.tuple #[.agg cs, x, y]) w := by
  obtain ⟨⟨d, h1, h2⟩, h3⟩ := rowTy_und hr
  have hl := run_loadVar_row w g t ty cs (0, 0) d hg h1 (by cases d <;> simp_all) (by rw [h3, hn])
  simp only [Array.getD_eq_getD_getElem?] at hp hx hy
  unfold results
  simp [h, hp, hx, hy, asAddr, hl, Sem.run_bind, Sem.run_pure]
section
variable {F : List SProp} {A B C A0 : Option Addr} {c d e N n c0 : Nat} {fu : Int}
set_option maxRecDepth 100000 in
set_option maxHeartbeats 4000000 in
theorem sure_s {l : List (List UInt8)} (hn : n ≤ 100000) (w : World) (hM : Star F w) (hF : rowE 1 A0 n (svs l) ∈ F) :
    Calls Try.prog 64 #[.agg (srV A c B d C e N fu), .slice A0 n c0] w fun r w' => ∃ B' d' C' e', r = .returned (.agg #[.slice A0 n c0, .slice B' n d', .slice C' n e', .int .i64 fu]) ∧ Star (rowE 1 B' n (svs l) :: rowE 1 C' n (lovs (List.replicate n false)) :: F) w' := by
  have HO := Lib.hid svs_oneS
  go_enter Try.func64, Try.ntmps64
  go_wp2_with (first | (first | ((with_reducible refine at_box' ?_); (have hM0 := hM; clear hM; refine BigFrame.wpList_want (by rfl) fun K hK => ws_box hM0 rfl rfl (cs := srV A c B d C e N fu) rfl (fun g2 w hM => hK _ _ ?_); clear hM0 hK K)) | fail) | (first | ((with_reducible refine at_alloc' ?_); (have hM0 := hM; clear hM; refine BigFrame.wpList_want (by rfl) fun K hK => ws_alloc hM0 (t := 63) rfl #[.slice none 0 0, .slice none 0 0, .slice none 0 0, .int .i64 0] info_srz (fun g4 w hM => hK _ _ ?_); clear hM0 hK K)) | fail) | (first | ((with_reducible refine at_load' ?_); (refine BigFrame.wpList_want (by rfl) fun K hK => ws_load1 hM rfl rfl (by (repeat (first | assumption | (with_reducible exact mZ) | apply mS)); first | done | fail) (by first | rfl | assumption) (by decide +kernel) (hK _ _ ?_); clear hK K)) | fail) | (first | ((with_reducible refine at_load' ?_); (refine BigFrame.wpList_want (by rfl) fun K hK => ws_load hM rfl rfl (by (repeat (first | assumption | (with_reducible exact mZ) | apply mS)); first | done | fail) (n := 4) (by rfl) (by decide +kernel) (hK _ _ ?_); clear hK K)) | fail) | (first | ((with_reducible refine at_store' ?_); (have hM0 := hM; clear hM; refine BigFrame.wpList_want (by rfl) fun K hK => ws_store hM0 rfl rfl rfl (by (repeat (first | (with_reducible exact Take.head) | apply Take.tail)); first | done | fail) (n := 4) (by rfl) (by rfl) (by kernel_rfl) (by simp [Value.oneCell']) (fun w hM => hK _ _ ?_); clear hM0 hK K)) | fail) | (first | ((with_reducible refine at_store' ?_); (have hM0 := hM; clear hM; refine BigFrame.wpList_want (by rfl) fun K hK => ws_store1 hM0 rfl rfl (by go_simp; rfl) (by first | rfl | assumption) (by (repeat (first | (with_reducible exact Take.head) | apply Take.tail)); first | done | fail) (by simp) (by kernel_rfl) (by simp only [List.setIfInBounds_toArray, List.set_cons_zero, List.set_cons_succ]; rfl) (fun w hM => hK _ _ ?_); clear hM0 hK K)) | fail) | (first | ((with_reducible refine at_slice' ?_); (have hM0 := hM; clear hM; refine BigFrame.wpList_want (by rfl) fun K hK => ws_slice_own hM0 (n := 0) rfl 9 1 (.string ByteArray.empty) [] Try.underlying22 (by kernel_rfl) rfl (by simp [Value.cells, iv, sv, bv]) (by rfl) (by decide) (by decide) (cs := svs []) (by rfl) (fun g5 w hM => hK _ _ ?_); clear hM0 hK K)) | fail) | ((first | ((with_reducible refine at_call' ?_); (have hM0 := hM; clear hM; refine BigFrame.wpList_want (by rfl) fun K hK => ws_append hM0 rfl rfl rfl 9 ((.string ByteArray.empty)) 1 16 Try.underlying22 (by kernel_rfl) (by rfl) (by decide) (by (repeat (first | (with_reducible exact Take.head) | apply Take.tail)); first | done | fail) (by first | (apply Star.row hM0; (repeat (first | assumption | (with_reducible exact mZ) | apply mS)); done) | (apply Star.own hM0; (repeat (first | assumption | (with_reducible exact mZ) | apply mS)); done) | (apply Star.arr hM0; (focus ((repeat (first | assumption | (with_reducible exact mZ) | apply mS)); done)); assumption)) (HO.out _) ((by omega)) (fun A1 c1 w hM hnil => hK _ _ ?_); clear hM0 hK K)) | fail); rw [Nat.zero_add] at hM) | (first | ((with_reducible refine at_make' ?_); (have hM0 := hM; clear hM; refine BigFrame.wpList_want (by rfl) fun K hK => ws_make8 hM0 rfl 4 ((.bool false)) 1 Try.underlying61 (by kernel_rfl) rfl (by decide) (n := n) rfl rfl (by omega) (fun g6 w hM => hK _ _ ?_); clear hM0 hK K)) | fail))
  refine bodyPost_ret (results_row (P := Try.prog) (ty := 63) rfl _ _ g4 63 #[.slice A0 n c0, .slice A1 n c1, .slice (some ⟨g6, 0, none⟩) n n, .int .i64 fu] 4 rfl (hM.blk (by (repeat (first | assumption | (with_reducible exact mZ) | apply mS)); first | done | fail)) rfl (by decide +kernel)) rfl ?_
  have h1 : Star (cellsE g6 4 (List.replicate n (Value.bool false)).toArray :: ownE 9 1 A1 n c1 (svs [] ++ svs l) :: F) w := hM.sel (by repeat (first | (with_reducible exact Sel.refl) | (with_reducible exact Take.head) | (with_reducible apply Take.tail) | (with_reducible apply Sel.cons) | (with_reducible apply Sel.drop)))
  have h2 : Star (ownE 9 1 A1 n c1 (svs l) :: rowE 1 (some ⟨g6, 0, none⟩) n (lovs (List.replicate n false)) :: F) w := (mkrowB h1).perm (List.Perm.swap _ _ _)
  exact ⟨A1, c1, _, _, rfl, h2.freeze⟩
theorem sure_o {l : List (List UInt8)} (hn : n ≤ 100000) (w : World) {L R : List SProp} (hM : Star L w) (hx : Take (ownE 9 1 A0 n c0 (svs [] ++ svs l)) L R) :
    Calls Try.prog 64 #[.agg (srV A c B d C e N fu), .slice A0 n c0] w fun r w' => ∃ B' d' C' e', r = .returned (.agg #[.slice A0 n c0, .slice B' n d', .slice C' n e', .int .i64 fu]) ∧ Star (rowE 1 A0 n (svs l) :: rowE 1 B' n (svs l) :: rowE 1 C' n (lovs (List.replicate n false)) :: R) w' := by
  have h1 : Star (rowE 1 A0 n (svs l) :: R) w := (hM.take hx).freeze
  refine (sure_s (A := A) (c := c) (B := B) (d := d) (C := C) (e := e) (N := N) (c0 := c0) (fu := fu) hn w h1 List.mem_cons_self).mono fun r w' ⟨B', d', C', e', h, hM⟩ => ⟨B', d', C', e', h, ?_⟩
  exact hM.perm ((List.Perm.cons _ (List.Perm.swap _ _ _)).trans (List.Perm.swap _ _ _))
set_option maxRecDepth 100000 in
set_option maxHeartbeats 4000000 in
theorem sync_s0 (w : World) (hM : Star F w) :
    Calls Try.prog 58 #[.agg (srV A c B d C e N 0)] w fun r w' => r = .returned (.tuple #[.agg (srV A c B d C e N 0), .int .i64 13]) ∧ Star F w' := by
  have HC : Hid (∀ (L : List SProp) (w : World), Star L w → Calls Try.prog 63 #[.agg (srV A c B d C e N 0)] w fun r w' => r = .returned (.tuple #[.agg (srV A c B d C e N 0), .bool true]) ∧ Star L w') := fun L w hM => call_s (by decide) (by decide) w hM
  go_enter Try.func58, Try.ntmps58
  go_wp2_with (first | (first | ((with_reducible refine at_box' ?_); (have hM0 := hM; clear hM; refine BigFrame.wpList_want (by rfl) fun K hK => ws_box hM0 rfl rfl (cs := srV A c B d C e N 0) rfl (fun g1 w hM => hK _ _ ?_); clear hM0 hK K)) | fail) | (first | ((with_reducible refine at_alloc' ?_); (have hM0 := hM; clear hM; refine BigFrame.wpList_want (by rfl) fun K hK => ws_alloc hM0 (t := 63) rfl #[.slice none 0 0, .slice none 0 0, .slice none 0 0, .int .i64 0] info_srz (fun g2 w hM => hK _ _ ?_); clear hM0 hK K)) | fail) | (first | ((with_reducible refine at_load' ?_); (refine BigFrame.wpList_want (by rfl) fun K hK => ws_load hM rfl rfl (by (repeat (first | assumption | (with_reducible exact mZ) | apply mS)); first | done | fail) (n := 4) (by rfl) (by decide +kernel) (hK _ _ ?_); clear hK K)) | fail) | (first | ((with_reducible refine at_store' ?_); (have hM0 := hM; clear hM; refine BigFrame.wpList_want (by rfl) fun K hK => ws_store hM0 rfl rfl rfl (by (repeat (first | (with_reducible exact Take.head) | apply Take.tail)); first | done | fail) (n := 4) (by rfl) (by rfl) (by kernel_rfl) (by simp [Value.oneCell']) (fun w hM => hK _ _ ?_); clear hM0 hK K)) | fail) | (go_at_call 63; have hM0 := hM; clear hM; (first | (with_reducible refine (HC.out _ _ hM0).mono ?_) | fail); clear hM0; rintro _ w ⟨rfl, hM⟩))
  refine bodyPost_ret (results_row_tmp (P := Try.prog) (ty := 63) rfl _ _ g2 63 (srV A c B d C e N 0) 4 (.int .i64 13) rfl rfl (hM.blk (by (repeat (first | assumption | (with_reducible exact mZ) | apply mS)); first | done | fail)) rfl (by decide +kernel)) rfl ?_
  exact ⟨rfl, hM.sel (by repeat (first | (with_reducible exact Sel.refl) | (with_reducible exact Take.head) | (with_reducible apply Take.tail) | (with_reducible apply Sel.cons) | (with_reducible apply Sel.drop)))⟩
set_option maxRecDepth 100000 in
set_option maxHeartbeats 4000000 in
theorem sync_s1 {nw : List (List UInt8)} (hN : N ≤ 100000) (h1 : -1 ≤ fu) (h2 : fu ≤ 9223372036854775807) (h0 : fu ≠ 0) (w : World) (hM : Star F w) (hB : rowE 1 B N (svs nw) ∈ F) :
    Calls Try.prog 58 #[.agg (srV A c B d C e N fu)] w fun r w' => ∃ A' c' B' d' C' e', r = .returned (.tuple #[.agg (srV A' c' B' d' C' e' N (if 0 < fu then fu - 1 else fu)), .int .i64 0]) ∧ Star (rowE 1 A' N (svs nw) :: rowE 1 B' N (svs nw) :: rowE 1 C' N (lovs (List.replicate N false)) :: F) w' := by
  have e0 : (fu == 0) = false := by simpa using h0
  obtain ⟨fv, hfv⟩ : ∃ fv, (if 0 < fu then fu - 1 else fu) = fv := ⟨_, rfl⟩
  have HC : Hid (∀ (L : List SProp) (w : World), Star L w → Calls Try.prog 63 #[.agg (srV A c B d C e N fu)] w fun r w' => r = .returned (.tuple #[.agg (srV A c B d C e N fv), .bool false]) ∧ Star L w') := fun L w hM => by
    have := call_s (A := A) (c := c) (B := B) (d := d) (C := C) (e := e) (N := N) h1 h2 w hM
    rwa [hfv, e0] at this
  have HSU : Hid (∀ (A0 : Option Addr) (m c0 : Nat) (w : World) (L R : List SProp), Star L w → Take (ownE 9 1 A0 m c0 (svs [] ++ svs nw)) L R → m = N → Calls Try.prog 64 #[.agg (srV A c B d C e N fv), .slice A0 m c0] w fun r w' => ∃ B' d' C' e', r = .returned (.agg #[.slice A0 N c0, .slice B' N d', .slice C' N e', .int .i64 fv]) ∧ Star (rowE 1 A0 N (svs nw) :: rowE 1 B' N (svs nw) :: rowE 1 C' N (lovs (List.replicate N false)) :: R) w') := fun A0 m c0 w L R hM hx hm => by subst hm; exact sure_o hN w hM hx
  rw [hfv]
  have HO := Lib.hid svs_oneS
  clear e0 hfv h0 h1 h2
  go_enter Try.func58, Try.ntmps58
  go_wp2_with (first | (first | ((with_reducible refine at_box' ?_); (have hM0 := hM; clear hM; refine BigFrame.wpList_want (by rfl) fun K hK => ws_box hM0 rfl rfl (cs := srV A c B d C e N fu) rfl (fun g1 w hM => hK _ _ ?_); clear hM0 hK K)) | fail) | (first | ((with_reducible refine at_alloc' ?_); (have hM0 := hM; clear hM; refine BigFrame.wpList_want (by rfl) fun K hK => ws_alloc hM0 (t := 63) rfl #[.slice none 0 0, .slice none 0 0, .slice none 0 0, .int .i64 0] info_srz (fun g2 w hM => hK _ _ ?_); clear hM0 hK K)) | fail) | (first | ((with_reducible refine at_load' ?_); (refine BigFrame.wpList_want (by rfl) fun K hK => ws_load hM rfl rfl (by (repeat (first | assumption | (with_reducible exact mZ) | apply mS)); first | done | fail) (n := 4) (by rfl) (by decide +kernel) (hK _ _ ?_); clear hK K)) | fail) | (first | ((with_reducible refine at_store' ?_); (have hM0 := hM; clear hM; refine BigFrame.wpList_want (by rfl) fun K hK => ws_store hM0 rfl rfl rfl (by (repeat (first | (with_reducible exact Take.head) | apply Take.tail)); first | done | fail) (n := 4) (by rfl) (by rfl) (by kernel_rfl) (by simp [Value.oneCell']) (fun w hM => hK _ _ ?_); clear hM0 hK K)) | fail) | (go_at_call 63; have hM0 := hM; clear hM; (first | (with_reducible refine (HC.out _ _ hM0).mono ?_) | fail); clear hM0; rintro _ w ⟨rfl, hM⟩))
  (refine region_RS ([cellsE g1 63 (srV A c B d C e N fv), rowE 1 B N (svs nw)]) [] (by kernel_rfl) hM ?_; clear hM; change RS _ _ _ _ _ _ 8 (Array.replicate 8 false) _ _; refine RS_take (i := 0) rfl (by decide +kernel) (fun _ _ _ h => h) (by first | (intro x hx; (repeat (first | exact hx | apply mS)); done) | ((repeat (refine List.forall_mem_cons.2 ⟨(by (repeat (first | assumption | (with_reducible exact mZ) | apply mS)); first | done | fail), ?_⟩)); intro x hx; first | (cases hx; done) | ((repeat (first | exact hx | apply mS)); done))) (stab_read (by rfl) (fun L w hL hM => (ex_load hM rfl rfl (hL _ (by (repeat (first | assumption | (with_reducible exact mZ) | apply mS)); first | done | fail)) (n := 4) rfl (by decide +kernel)))) ?_; simp only [Act.put, List.setIfInBounds_toArray, List.set_cons_zero, List.set_cons_succ]; refine RS_take (i := 2) rfl (by decide +kernel) (fun _ _ _ h => h) (by first | (intro x hx; (repeat (first | exact hx | apply mS)); done) | ((repeat (refine List.forall_mem_cons.2 ⟨(by (repeat (first | assumption | (with_reducible exact mZ) | apply mS)); first | done | fail), ?_⟩)); intro x hx; first | (cases hx; done) | ((repeat (first | exact hx | apply mS)); done))) (stab_pure (by rfl) (fun w => (by go_simp; try with_reducible rfl))) ?_; simp only [Act.put, List.setIfInBounds_toArray, List.set_cons_zero, List.set_cons_succ]; refine RS_take (i := 3) rfl (by decide +kernel) (fun _ _ _ h => h) (by first | (intro x hx; (repeat (first | exact hx | apply mS)); done) | ((repeat (refine List.forall_mem_cons.2 ⟨(by (repeat (first | assumption | (with_reducible exact mZ) | apply mS)); first | done | fail), ?_⟩)); intro x hx; first | (cases hx; done) | ((repeat (first | exact hx | apply mS)); done))) (stab_read (by rfl) (fun L w hL hM => (ex_load1 hM rfl rfl (hL _ (by (repeat (first | assumption | (with_reducible exact mZ) | apply mS)); first | done | fail)) rfl (by decide +kernel)))) ?_; simp only [Act.put, List.setIfInBounds_toArray, List.set_cons_zero, List.set_cons_succ]; refine RS_one (i := 1) (by decide +kernel) rfl (by rfl) (.inl (by first | (intro x hx; (repeat (first | exact hx | apply mS)); done) | ((repeat (refine List.forall_mem_cons.2 ⟨(by (repeat (first | assumption | (with_reducible exact mZ) | apply mS)); first | done | fail), ?_⟩)); intro x hx; first | (cases hx; done) | ((repeat (first | exact hx | apply mS)); done)))) (fun w K hM0 hK => ?_); refine ws_slice_own hM0 (n := 0) rfl 9 1 (.string ByteArray.empty) [] Try.underlying22 (by kernel_rfl) rfl (by simp [Value.cells, iv, sv, bv]) (by rfl) (by decide) (by decide) (cs := svs []) (by rfl) (fun g5 w hM => hK _ _ _ hM ?_); clear hM hM0 hK K; simp only [Act.put, List.setIfInBounds_toArray, List.set_cons_zero, List.set_cons_succ]; refine RS_one (i := 4) (by decide +kernel) rfl (by rfl) (.inl (by first | (intro x hx; (repeat (first | exact hx | apply mS)); done) | ((repeat (refine List.forall_mem_cons.2 ⟨(by (repeat (first | assumption | (with_reducible exact mZ) | apply mS)); first | done | fail), ?_⟩)); intro x hx; first | (cases hx; done) | ((repeat (first | exact hx | apply mS)); done)))) (fun w K hM0 hK => ?_); refine ws_append hM0 rfl rfl rfl 9 ((.string ByteArray.empty)) 1 16 Try.underlying22 (by kernel_rfl) (by rfl) (by decide) (by (repeat (first | (with_reducible exact Take.head) | apply Take.tail)); first | done | fail) (by first | (apply Star.row hM0; (repeat (first | assumption | (with_reducible exact mZ) | apply mS)); done) | (apply Star.own hM0; (repeat (first | assumption | (with_reducible exact mZ) | apply mS)); done) | (apply Star.arr hM0; (focus ((repeat (first | assumption | (with_reducible exact mZ) | apply mS)); done)); assumption)) (HO.out _) ((by omega)) (fun A1 c1 w hM hnil => hK _ _ _ hM ?_); clear hM hM0 hK K; simp only [Act.put, List.setIfInBounds_toArray, List.set_cons_zero, List.set_cons_succ]; refine RS_one (i := 5) (by decide +kernel) rfl (by rfl) (.inl (by first | (intro x hx; (repeat (first | exact hx | apply mS)); done) | ((repeat (refine List.forall_mem_cons.2 ⟨(by (repeat (first | assumption | (with_reducible exact mZ) | apply mS)); first | done | fail), ?_⟩)); intro x hx; first | (cases hx; done) | ((repeat (first | exact hx | apply mS)); done)))) (fun w K hM0 hK => ?_); refine ws_call (by go_simp; try with_reducible rfl) (HSU.out A1 (0 + N) c1 _ _ _ hM0 (by (repeat (first | (with_reducible exact Take.head) | apply Take.tail)); first | done | fail) (Nat.zero_add N)) (fun r w2 hR => ?_); obtain ⟨B', d', C', e', rfl, hM⟩ := hR; refine ⟨_, rfl, hK _ _ _ hM ?_⟩; clear hM hM0 hK K; simp only [Act.put, List.setIfInBounds_toArray, List.set_cons_zero, List.set_cons_succ]; refine RS_one (i := 6) (by decide +kernel) rfl (by rfl) (.inl (by first | (intro x hx; (repeat (first | exact hx | apply mS)); done) | ((repeat (refine List.forall_mem_cons.2 ⟨(by (repeat (first | assumption | (with_reducible exact mZ) | apply mS)); first | done | fail), ?_⟩)); intro x hx; first | (cases hx; done) | ((repeat (first | exact hx | apply mS)); done)))) (fun w K hM0 hK => ?_); refine ws_store hM0 rfl rfl rfl (by (repeat (first | (with_reducible exact Take.head) | apply Take.tail)); first | done | fail) (n := 4) (by rfl) (by rfl) (by kernel_rfl) (by simp [Value.oneCell']) (fun w hM => hK _ _ _ hM ?_); clear hM hM0 hK K; simp only [Act.put, List.setIfInBounds_toArray, List.set_cons_zero, List.set_cons_succ]; refine RS_take (i := 7) rfl (by decide +kernel) (fun _ _ _ h => h) (by first | (intro x hx; (repeat (first | exact hx | apply mS)); done) | ((repeat (refine List.forall_mem_cons.2 ⟨(by (repeat (first | assumption | (with_reducible exact mZ) | apply mS)); first | done | fail), ?_⟩)); intro x hx; first | (cases hx; done) | ((repeat (first | exact hx | apply mS)); done))) (stab_pure (by rfl) (fun w => (by go_simp; try with_reducible rfl))) ?_; simp only [Act.put, List.setIfInBounds_toArray, List.set_cons_zero, List.set_cons_succ]; refine RS_done (by decide +kernel) (.inl (by first | (intro x hx; (repeat (first | exact hx | apply mS)); done) | ((repeat (refine List.forall_mem_cons.2 ⟨(by (repeat (first | assumption | (with_reducible exact mZ) | apply mS)); first | done | fail), ?_⟩)); intro x hx; first | (cases hx; done) | ((repeat (first | exact hx | apply mS)); done)))) (fun w hM => ?_))
  all_goals (
    go_wp2_with fail
    refine bodyPost_ret (results_row_tmp (P := Try.prog) (ty := 63) rfl _ _ g2 63 #[.slice A1 N c1, .slice B' N d', .slice C' N e', .int .i64 fv] 4 (.int .i64 0) rfl rfl (hM.blk (by (repeat (first | assumption | (with_reducible exact mZ) | apply mS)); first | done | fail)) rfl (by decide +kernel)) rfl ?_
    exact ⟨A1, c1, B', d', C', e', rfl, hM.sel (by repeat (first | (with_reducible exact Sel.refl) | (with_reducible exact Take.head) | (with_reducible apply Take.tail) | (with_reducible apply Sel.cons) | (with_reducible apply Sel.drop)))⟩)
/-- Are they there? -/
def inP (N : Nat) (x n : Int) : Prop := 0 ≤ x ∧ 0 ≤ n ∧ n ≤ N ∧ x ≤ N - n
instance (N : Nat) (x n : Int) : Decidable (inP N x n) := inferInstanceAs (Decidable (_ ∧ _ ∧ _ ∧ _))
theorem in_sP (x n : Int) (hN : N ≤ 100000) {b : Bool} (hb : decide (inP N x n) = b) (L : List SProp) (w : World) (hM : Star L w) :
    Calls Try.prog 62 #[.agg (srV A c B d C e N fu), .int .i64 x, .int .i64 n] w fun r w' => r = .returned (.bool b) ∧ Star L w' := in_s x n hb hN w hM
set_option maxRecDepth 100000 in
set_option maxHeartbeats 4000000 in
theorem read_s10 (x n : Int) (hN : N ≤ 100000) (hi : ¬ inP N x n) (w : World) (hM : Star F w) :
    Calls Try.prog 37 #[.agg (srV A c B d C e N fu), .int .i64 x, .int .i64 n] w fun r w' => r = .returned (.tuple #[.agg (srV A c B d C e N fu), .string ⟨([] : List UInt8).toArray⟩, .int .i64 10]) ∧ Star F w' := by
  have HI := Lib.hid (in_sP (A := A) (c := c) (B := B) (d := d) (C := C) (e := e) (N := N) (fu := fu) x n hN (decide_eq_false hi))
  have HC : Hid (∀ (L : List SProp) (w : World), Star L w → Calls Try.prog 63 #[.agg (srV A c B d C e N 0)] w fun r w' => r = .returned (.tuple #[.agg (srV A c B d C e N 0), .bool true]) ∧ Star L w') := fun L w hM => call_s (by decide) (by decide) w hM
  clear hi
  go_enter Try.func37, Try.ntmps37
  go_wp2_with (first | (first | ((with_reducible refine at_box' ?_); (have hM0 := hM; clear hM; refine BigFrame.wpList_want (by rfl) fun K hK => ws_box hM0 rfl rfl (cs := srV A c B d C e N fu) rfl (fun g3 w hM => hK _ _ ?_); clear hM0 hK K)) | fail) | (first | ((with_reducible refine at_alloc' ?_); (have hM0 := hM; clear hM; refine BigFrame.wpList_want (by rfl) fun K hK => ws_alloc hM0 (t := 63) rfl #[.slice none 0 0, .slice none 0 0, .slice none 0 0, .int .i64 0] info_srz (fun g6 w hM => hK _ _ ?_); clear hM0 hK K)) | fail) | (first | ((with_reducible refine at_load' ?_); (refine BigFrame.wpList_want (by rfl) fun K hK => ws_load1 hM rfl rfl (by (repeat (first | assumption | (with_reducible exact mZ) | apply mS)); first | done | fail) (by first | rfl | assumption) (by decide +kernel) (hK _ _ ?_); clear hK K)) | fail) | (first | ((with_reducible refine at_load' ?_); (refine BigFrame.wpList_want (by rfl) fun K hK => ws_load hM rfl rfl (by (repeat (first | assumption | (with_reducible exact mZ) | apply mS)); first | done | fail) (n := 4) (by rfl) (by decide +kernel) (hK _ _ ?_); clear hK K)) | fail) | (first | ((with_reducible refine at_store' ?_); (have hM0 := hM; clear hM; refine BigFrame.wpList_want (by rfl) fun K hK => ws_store hM0 rfl rfl rfl (by (repeat (first | (with_reducible exact Take.head) | apply Take.tail)); first | done | fail) (n := 4) (by rfl) (by rfl) (by kernel_rfl) (by simp [Value.oneCell']) (fun w hM => hK _ _ ?_); clear hM0 hK K)) | fail) | (go_at_call 62; have hM0 := hM; clear hM; (first | (with_reducible refine (HI.out _ _ hM0).mono ?_) | fail); clear hM0; rintro _ w ⟨rfl, hM⟩) | (go_at_call 63; have hM0 := hM; clear hM; (first | (with_reducible refine (HC.out _ _ hM0).mono ?_) | fail); clear hM0; rintro _ w ⟨rfl, hM⟩))
  refine bodyPost_ret (results_row_tmp2S (P := Try.prog) (ty := 63) rfl _ _ g6 63 (srV A c B d C e N fu) 4 (.string ⟨([] : List UInt8).toArray⟩) (.int .i64 10) rfl rfl rfl (hM.blk (by (repeat (first | assumption | (with_reducible exact mZ) | apply mS)); first | done | fail)) rfl (by decide +kernel)) rfl ?_
  exact ⟨rfl, hM.sel (by repeat (first | (with_reducible exact Sel.refl) | (with_reducible exact Take.head) | (with_reducible apply Take.tail) | (with_reducible apply Sel.cons) | (with_reducible apply Sel.drop)))⟩
set_option maxRecDepth 100000 in
set_option maxHeartbeats 4000000 in
theorem read_s13 (x n : Int) (hN : N ≤ 100000) (hi : inP N x n) (hf : fu = 0) (w : World) (hM : Star F w) :
    Calls Try.prog 37 #[.agg (srV A c B d C e N fu), .int .i64 x, .int .i64 n] w fun r w' => r = .returned (.tuple #[.agg (srV A c B d C e N fu), .string ⟨([] : List UInt8).toArray⟩, .int .i64 13]) ∧ Star F w' := by
  subst hf
  obtain ⟨fu, hfu⟩ : ∃ fu : Int, fu = 0 := ⟨_, rfl⟩
  have HI := Lib.hid (in_sP (A := A) (c := c) (B := B) (d := d) (C := C) (e := e) (N := N) (fu := 0) x n hN (decide_eq_true hi))
  have HC : Hid (∀ (L : List SProp) (w : World), Star L w → Calls Try.prog 63 #[.agg (srV A c B d C e N 0)] w fun r w' => r = .returned (.tuple #[.agg (srV A c B d C e N 0), .bool true]) ∧ Star L w') := fun L w hM => call_s (by decide) (by decide) w hM
  rw [← hfu] at HC HI ⊢
  clear hi hfu
  go_enter Try.func37, Try.ntmps37
  go_wp2_with (first | (first | ((with_reducible refine at_box' ?_); (have hM0 := hM; clear hM; refine BigFrame.wpList_want (by rfl) fun K hK => ws_box hM0 rfl rfl (cs := srV A c B d C e N fu) rfl (fun g3 w hM => hK _ _ ?_); clear hM0 hK K)) | fail) | (first | ((with_reducible refine at_alloc' ?_); (have hM0 := hM; clear hM; refine BigFrame.wpList_want (by rfl) fun K hK => ws_alloc hM0 (t := 63) rfl #[.slice none 0 0, .slice none 0 0, .slice none 0 0, .int .i64 0] info_srz (fun g6 w hM => hK _ _ ?_); clear hM0 hK K)) | fail) | (first | ((with_reducible refine at_load' ?_); (refine BigFrame.wpList_want (by rfl) fun K hK => ws_load1 hM rfl rfl (by (repeat (first | assumption | (with_reducible exact mZ) | apply mS)); first | done | fail) (by first | rfl | assumption) (by decide +kernel) (hK _ _ ?_); clear hK K)) | fail) | (first | ((with_reducible refine at_load' ?_); (refine BigFrame.wpList_want (by rfl) fun K hK => ws_load hM rfl rfl (by (repeat (first | assumption | (with_reducible exact mZ) | apply mS)); first | done | fail) (n := 4) (by rfl) (by decide +kernel) (hK _ _ ?_); clear hK K)) | fail) | (first | ((with_reducible refine at_store' ?_); (have hM0 := hM; clear hM; refine BigFrame.wpList_want (by rfl) fun K hK => ws_store hM0 rfl rfl rfl (by (repeat (first | (with_reducible exact Take.head) | apply Take.tail)); first | done | fail) (n := 4) (by rfl) (by rfl) (by kernel_rfl) (by simp [Value.oneCell']) (fun w hM => hK _ _ ?_); clear hM0 hK K)) | fail) | (go_at_call 62; have hM0 := hM; clear hM; (first | (with_reducible refine (HI.out _ _ hM0).mono ?_) | fail); clear hM0; rintro _ w ⟨rfl, hM⟩) | (go_at_call 63; have hM0 := hM; clear hM; (first | (with_reducible refine (HC.out _ _ hM0).mono ?_) | fail); clear hM0; rintro _ w ⟨rfl, hM⟩))
  refine bodyPost_ret (results_row_tmp2S (P := Try.prog) (ty := 63) rfl _ _ g6 63 (srV A c B d C e N fu) 4 (.string ⟨([] : List UInt8).toArray⟩) (.int .i64 13) rfl rfl rfl (hM.blk (by (repeat (first | assumption | (with_reducible exact mZ) | apply mS)); first | done | fail)) rfl (by decide +kernel)) rfl ?_
  exact ⟨rfl, hM.sel (by repeat (first | (with_reducible exact Sel.refl) | (with_reducible exact Take.head) | (with_reducible apply Take.tail) | (with_reducible apply Sel.cons) | (with_reducible apply Sel.drop)))⟩
set_option maxRecDepth 100000 in
set_option maxHeartbeats 4000000 in
theorem read_s0 {D : Dsk} (h : D.ok) (hDN : D.sure.length = N) (hN : N ≤ 100000) (at_ n : Nat) (hi : at_ + n ≤ N) (h1 : -1 ≤ fu) (h2 : fu ≤ 9223372036854775807) (h0 : fu ≠ 0) (w : World) (hM : Star F w) (hB : rowE 1 B N (svs D.now) ∈ F) :
    Calls Try.prog 37 #[.agg (srV A c B d C e N fu), .int .i64 at_, .int .i64 n] w fun r w' => r = .returned (.tuple #[.agg (srV A c B d C e N (if 0 < fu then fu - 1 else fu)), .string ⟨(rdD D at_ n).toArray⟩, .int .i64 0]) ∧ Star F w' := by
  have e0 : (fu == 0) = false := by simpa using h0
  obtain ⟨fv, hfv⟩ : ∃ fv, (if 0 < fu then fu - 1 else fu) = fv := ⟨_, rfl⟩
  have HI := Lib.hid (in_sP (A := A) (c := c) (B := B) (d := d) (C := C) (e := e) (N := N) (fu := fu) at_ n hN (decide_eq_true (⟨by omega, by omega, by omega, by omega⟩)))
  have HC : Hid (∀ (L : List SProp) (w : World), Star L w → Calls Try.prog 63 #[.agg (srV A c B d C e N fu)] w fun r w' => r = .returned (.tuple #[.agg (srV A c B d C e N fv), .bool false]) ∧ Star L w') := fun L w hM => by
    have := call_s (A := A) (c := c) (B := B) (d := d) (C := C) (e := e) (N := N) h1 h2 w hM
    rwa [hfv, e0] at this
  rw [hfv]
  have HH := Lib.hid h
  have HDN := Lib.hid hDN
  have HADD : IntKind.i64.wrap ((at_ : Int) + (n : Int)) = ((at_ + n : Nat) : Int) := by rw [IntWalk.i64_in _ (by omega)]; omega
  clear e0 hfv h0 h1 h2 h hDN
  go_enter Try.func37, Try.ntmps37
  go_wp2_with (first | (first | ((with_reducible refine at_box' ?_); (have hM0 := hM; clear hM; refine BigFrame.wpList_want (by rfl) fun K hK => ws_box hM0 rfl rfl (cs := srV A c B d C e N fu) rfl (fun g3 w hM => hK _ _ ?_); clear hM0 hK K)) | fail) | (first | ((with_reducible refine at_alloc' ?_); (have hM0 := hM; clear hM; refine BigFrame.wpList_want (by rfl) fun K hK => ws_alloc hM0 (t := 63) rfl #[.slice none 0 0, .slice none 0 0, .slice none 0 0, .int .i64 0] info_srz (fun g6 w hM => hK _ _ ?_); clear hM0 hK K)) | fail) | (first | ((with_reducible refine at_load' ?_); (refine BigFrame.wpList_want (by rfl) fun K hK => ws_load1 hM rfl rfl (by (repeat (first | assumption | (with_reducible exact mZ) | apply mS)); first | done | fail) (by first | rfl | assumption) (by decide +kernel) (hK _ _ ?_); clear hK K)) | fail) | (first | ((with_reducible refine at_load' ?_); (refine BigFrame.wpList_want (by rfl) fun K hK => ws_load hM rfl rfl (by (repeat (first | assumption | (with_reducible exact mZ) | apply mS)); first | done | fail) (n := 4) (by rfl) (by decide +kernel) (hK _ _ ?_); clear hK K)) | fail) | (first | ((with_reducible refine at_store' ?_); (have hM0 := hM; clear hM; refine BigFrame.wpList_want (by rfl) fun K hK => ws_store hM0 rfl rfl rfl (by (repeat (first | (with_reducible exact Take.head) | apply Take.tail)); first | done | fail) (n := 4) (by rfl) (by rfl) (by kernel_rfl) (by simp [Value.oneCell']) (fun w hM => hK _ _ ?_); clear hM0 hK K)) | fail) | (go_at_call 62; have hM0 := hM; clear hM; (first | (with_reducible refine (HI.out _ _ hM0).mono ?_) | fail); clear hM0; rintro _ w ⟨rfl, hM⟩) | (go_at_call 63; have hM0 := hM; clear hM; (first | (with_reducible refine (HC.out _ _ hM0).mono ?_) | fail); clear hM0; rintro _ w ⟨rfl, hM⟩))
  obtain ⟨Q, hQ⟩ : ∃ Q, at_ + n = Q := ⟨_, rfl⟩
  rw [hQ] at HADD hi
  go_loopw [10, 11] (fun s i wr => ∃ (k q m : Nat) (l : List UInt8), k ≤ n ∧ i = .int .i64 q ∧ s = .string ⟨l.toArray⟩ ∧ Hid (l = rdD D at_ k) ∧ q = at_ + k ∧ l.length = m ∧ m = 64 * k ∧ Star (cellsE g3 63 (srV A c B d C e N fv) :: cellsE g6 63 #[.slice none 0 0, .slice none 0 0, .slice none 0 0, .int .i64 0] :: F) wr) (fun _ i _ => Q - (intOf i).toNat)
  case atStart => exact ⟨0, at_, 0, [], by omega, rfl, rfl, rfl, rfl, rfl, rfl, hM⟩
  case round =>
    clear hM
    obtain ⟨k, q, m, l, hk, rfl, rfl, hl, hq, hlm, hm, hM⟩ := hrel
    by_cases hlt : k < n
    · obtain ⟨ad, s, rfl, hv, hg, _⟩ := hM.elemS (A := B) (n := N) (l := D.now) (List.mem_cons_of_mem _ (List.mem_cons_of_mem _ hB)) (show q < N by omega)
      have hs : s = D.nw q := by
        have h3 := nw_mem HH.out (i := q) (by rw [HDN.out]; omega)
        rw [h3] at hg
        injection hg with hg
        exact hg.symm
      have hs64 : s.length = 64 := by rw [hs]; exact nw_len HH.out (by rw [HDN.out]; omega)
      have HL : Hid (l ++ s = rdD D at_ (k + 1)) := by show _ = _; rw [rdD_succ, hl.out, hs, hq]
      have hqI : (q : Int) < (Q : Int) := by omega
      have hqN : q < N := by omega
      have hqNI : (q : Int) < (N : Int) := by omega
      have hb : ¬ (9223372036854775807 < l.length + s.length) := by omega
      have hqs := Lib.hid hq
      clear hs hg hq
      go_wp2_with (first | (first | ((with_reducible refine at_load' ?_); (refine BigFrame.wpList_want (by rfl) fun K hK => ws_load1 hM rfl rfl (by (repeat (first | assumption | (with_reducible exact mZ) | apply mS)); first | done | fail) (by first | rfl | assumption) (by decide +kernel) (hK _ _ ?_); clear hK K)) | fail) | (first | ((with_reducible refine at_load' ?_); (refine BigFrame.wpList_want (by rfl) fun K hK => ws_rowload rfl rfl (by first | (apply Star.row hM; (repeat (first | assumption | (with_reducible exact mZ) | apply mS)); done) | (apply Star.own hM; (repeat (first | assumption | (with_reducible exact mZ) | apply mS)); done) | (apply Star.arr hM; (focus ((repeat (first | assumption | (with_reducible exact mZ) | apply mS)); done)); assumption)) (by assumption) (by kernel_rfl) (hK _ _ ?_); clear hK K)) | fail))
      go_roundw
      case rel => exact ⟨k + 1, q + 1, m + 64, l ++ s, by omega, rfl, rfl, HL, by have := hqs.out; omega, by rw [List.length_append, hlm, hs64], by omega, hM⟩
      case measure => simp [intOf]; omega
    · obtain rfl : k = n := by omega
      obtain rfl : Q = q := by omega
      clear hq hQ
      go_wp2_with (first | (first | ((with_reducible refine at_load' ?_); (refine BigFrame.wpList_want (by rfl) fun K hK => ws_load hM rfl rfl (by (repeat (first | assumption | (with_reducible exact mZ) | apply mS)); first | done | fail) (n := 4) (by rfl) (by decide +kernel) (hK _ _ ?_); clear hK K)) | fail) | (first | ((with_reducible refine at_store' ?_); (have hM0 := hM; clear hM; refine BigFrame.wpList_want (by rfl) fun K hK => ws_store hM0 rfl rfl rfl (by (repeat (first | (with_reducible exact Take.head) | apply Take.tail)); first | done | fail) (n := 4) (by rfl) (by rfl) (by kernel_rfl) (by simp [Value.oneCell']) (fun w hM => hK _ _ ?_); clear hM0 hK K)) | fail))
      refine bodyPost_ret (results_row_tmp2S (P := Try.prog) (ty := 63) rfl _ _ g6 63 (srV A c B d C e N fv) 4 (.string ⟨l.toArray⟩) (.int .i64 0) rfl rfl rfl (hM.blk (by (repeat (first | assumption | (with_reducible exact mZ) | apply mS)); first | done | fail)) rfl (by decide +kernel)) rfl ?_
      exact ⟨by rw [hl.out], hM.sel (by repeat (first | (with_reducible exact Sel.refl) | (with_reducible exact Take.head) | (with_reducible apply Take.tail) | (with_reducible apply Sel.cons) | (with_reducible apply Sel.drop)))⟩
end
end Go.Proofs.Ytbejifbiffeamaa
