/- What the laws share, part 2 (SecA, SecR, SecW, SecS, Shelf, MapS, Region, SecC, SecN). No condition but those that each theorem names. -/
import Derived.Test.YtbejifbiffeamaaV1
import Derived.Deep.LoopGhost
import Derived.Shelf.SlIterI.Nil
import Derived.Shelf.SortM.Plain
import Derived.Shelf.SortM.SortNone
import Derived.Test.YtbejifbiffeamaaProg
set_option linter.unusedSimpArgs false
set_option linter.unusedVariables false
namespace Go.Proofs.Ytbejifbiffeamaa
open Go.RowKit
attribute [local go_sem] extract_mid extract_drop bget bsize wrap64_u8 i64_u8 u64_u8 bappend
/-- Parts as one. -/
def joinE (l : List SProp) : SProp where
  fp k := ∃ x ∈ l, x.fp k
  ro := false
  holds w := Star l w ∧ ∀ x ∈ l, x.ro = false
  lt w h k hk := by
    obtain ⟨x, hx, hk⟩ := hk
    exact x.lt w (h.1.all x hx) k hk
  stable w w' ho h := ⟨⟨fun x hx => x.stable w w' ⟨ho.os, ho.tape, ho.output, ho.size, fun k hk => ho.block k ⟨x, hx, hk⟩⟩ (h.1.all x hx), h.1.pair⟩, h.2⟩
theorem compat_not {x u : SProp} (h : compat x u) (hx : x.ro = false) : ∀ k, x.fp k → ¬ u.fp k := by
  rcases h with ⟨h, _⟩ | h
  · rw [hx] at h; cases h
  · exact h
theorem Star.joinL {l L : List SProp} {w : World} (h : Star (l ++ L) w) (hr : ∀ x ∈ l, x.ro = false) : Star (joinE l :: L) w := by
  obtain ⟨ha, hp⟩ := h
  obtain ⟨p1, p2, p3⟩ := List.pairwise_append.1 hp
  refine ⟨fun u hu => ?_, List.pairwise_cons.2 ⟨fun u hu => .inr fun k hk => ?_, p2⟩⟩
  · rcases List.mem_cons.1 hu with rfl | hu
    · exact ⟨⟨fun x hx => ha x (List.mem_append.2 (.inl hx)), p1⟩, hr⟩
    · exact ha u (List.mem_append.2 (.inr hu))
  · obtain ⟨x, hx, hk⟩ := hk
    exact compat_not (p3 x hx u hu) (hr x hx) k hk
theorem Star.openL {l L : List SProp} {w : World} (h : Star (joinE l :: L) w) : Star (l ++ L) w := by
  obtain ⟨ha, hp⟩ := h
  obtain ⟨p1, p2⟩ := List.pairwise_cons.1 hp
  obtain ⟨⟨h1, h2⟩, _⟩ := ha _ List.mem_cons_self
  refine ⟨fun u hu => ?_, List.pairwise_append.2 ⟨h2, p2, fun x hx u hu => .inr fun k hk => compat_not (p1 u hu) rfl k ⟨x, hx, hk⟩⟩⟩
  rcases List.mem_append.1 hu with hu | hu
  · exact h1 u hu
  · exact ha u (List.mem_cons_of_mem _ hu)
/-- Where a disk lies. -/
structure DA where
  d : Nat
  f : Nat
  m : Nat
  g : Nat
abbrev dE (a : DA) (n : Nat) : SProp := cellsE a.d 56 #[.pointer (some ⟨a.f, 0, none⟩), .slice (some ⟨a.g, 0, none⟩) n n, .map (some a.m)]
abbrev fE (a : DA) (b : Bool) (l : Int) : SProp := cellsE a.f 101 #[.bool b, .int .i64 l]
abbrev sE (a : DA) (S : List (List UInt8)) : SProp := cellsE a.g 106 (bvs S.flatten).toArray
abbrev mE (a : DA) (m : List (Value × Value)) : SProp := mapE Try.prog 3 a.m m
def diskE (a : DA) (D : Dsk) : SProp := joinE [dE a D.sure.length, fE a D.armed D.left, sE a D.sure, mE a (lmv D)]
theorem Star.dopen {a : DA} {D : Dsk} {L : List SProp} {w : World} (h : Star (diskE a D :: L) w) : Star (dE a D.sure.length :: fE a D.armed D.left :: sE a D.sure :: mE a (lmv D) :: L) w := h.openL
theorem Star.djoin {a : DA} {D : Dsk} {L : List SProp} {w : World} (h : Star (dE a D.sure.length :: fE a D.armed D.left :: sE a D.sure :: mE a (lmv D) :: L) w) : Star (diskE a D :: L) w :=
  Star.joinL (l := [dE a D.sure.length, fE a D.armed D.left, sE a D.sure, mE a (lmv D)]) h (by
    intro x hx
    simp only [List.mem_cons, List.not_mem_nil, or_false] at hx
    rcases hx with rfl | rfl | rfl | rfl <;> rfl)
abbrev dptr (a : DA) : Value := .pointer (some ⟨a.d, 0, none⟩)
abbrev fptr (a : DA) : Value := .pointer (some ⟨a.f, 0, none⟩)
section
variable {F : List SProp} {a : DA}
set_option maxRecDepth 100000 in
theorem size_d {D : Dsk} (w : World) (hM : Star (diskE a D :: F) w) : Calls Try.prog 48 #[dptr a] w fun r w' => r = .returned (.int .i64 (D.sure.length : Int)) ∧ Star (diskE a D :: F) w' := by
  replace hM := hM.dopen
  go_enter Try.func48, Try.ntmps48
  go_wp2_with (first | (first | ((with_reducible refine at_load' ?_); (refine BigFrame.wpList_want (by rfl) fun K hK => ws_load1 hM rfl rfl (by (repeat (first | assumption | (with_reducible exact mZ) | apply mS)); first | done | fail) (by first | rfl | assumption) (by decide +kernel) (hK _ _ ?_); clear hK K)) | fail))
  go_ret
  exact ⟨rfl, hM.djoin⟩
/-- Are they there? -/
def inD (N : Nat) (at_ n : Int) : Bool := decide (0 ≤ at_) && (decide (n ≤ (N : Int)) && decide (at_ ≤ (N : Int) - n))
set_option maxRecDepth 100000 in
set_option maxHeartbeats 2000000 in
theorem in_d {D : Dsk} (h : D.ok) (at_ n : Int) (hn : 0 ≤ n) (w : World) (hM : Star (diskE a D :: F) w) :
    Calls Try.prog 49 #[dptr a, .int .i64 at_, .int .i64 n] w fun r w' => r = .returned (.bool (inD D.sure.length at_ n)) ∧ Star (diskE a D :: F) w' := by
  replace hM := hM.dopen
  have hs := h.size
  obtain ⟨N, hN⟩ : ∃ N, N = D.sure.length := ⟨_, rfl⟩
  have HN := Lib.hid hN
  rw [← hN] at hs
  rw [← hN] at hM ⊢
  clear hN h
  unfold inD
  by_cases h1 : 0 ≤ at_
  · by_cases h2 : n ≤ (N : Int)
    · by_cases h3 : at_ ≤ (N : Int) - n
      all_goals
        go_enter Try.func49, Try.ntmps49
        go_wp2_with (first | (first | ((with_reducible refine at_load' ?_); (refine BigFrame.wpList_want (by rfl) fun K hK => ws_load1 hM rfl rfl (by (repeat (first | assumption | (with_reducible exact mZ) | apply mS)); first | done | fail) (by first | rfl | assumption) (by decide +kernel) (hK _ _ ?_); clear hK K)) | fail))
        go_ret
        exact ⟨ret_bool (by simp [h1, h2, h3]), by have := hM; rw [HN.out] at this; exact this.djoin⟩
    · go_enter Try.func49, Try.ntmps49
      go_wp2_with (first | (first | ((with_reducible refine at_load' ?_); (refine BigFrame.wpList_want (by rfl) fun K hK => ws_load1 hM rfl rfl (by (repeat (first | assumption | (with_reducible exact mZ) | apply mS)); first | done | fail) (by first | rfl | assumption) (by decide +kernel) (hK _ _ ?_); clear hK K)) | fail))
      go_ret
      exact ⟨ret_bool (by simp [h1]; omega), by have := hM; rw [HN.out] at this; exact this.djoin⟩
  · go_enter Try.func49, Try.ntmps49
    go_wp2_with (first | (first | ((with_reducible refine at_load' ?_); (refine BigFrame.wpList_want (by rfl) fun K hK => ws_load1 hM rfl rfl (by (repeat (first | assumption | (with_reducible exact mZ) | apply mS)); first | done | fail) (by first | rfl | assumption) (by decide +kernel) (hK _ _ ?_); clear hK K)) | fail))
    go_ret
    exact ⟨ret_bool (by simp; omega), by have := hM; rw [HN.out] at this; exact this.djoin⟩
/-- The number of an error of a call of the disk. -/
def failD (D : Dsk) : Bool := D.armed && D.left == 0
set_option maxRecDepth 100000 in
set_option maxHeartbeats 2000000 in
theorem call_fail (w : World) (hM : Star (fE a true 0 :: F) w) :
    Calls Try.prog 52 #[fptr a] w fun r w' => r = .returned (.int .i64 13) ∧ Star (fE a true 0 :: F) w' := by
  go_enter Try.func52, Try.ntmps52
  go_wp2_with (first | (first | ((with_reducible refine at_load' ?_); (refine BigFrame.wpList_want (by rfl) fun K hK => ws_load1 hM rfl rfl (by (repeat (first | assumption | (with_reducible exact mZ) | apply mS)); first | done | fail) (by first | rfl | assumption) (by decide +kernel) (hK _ _ ?_); clear hK K)) | fail) | (first | ((with_reducible refine at_store' ?_); (have hM0 := hM; clear hM; refine BigFrame.wpList_want (by rfl) fun K hK => ws_store1 hM0 rfl rfl (by go_simp; rfl) (by first | rfl | assumption) (by (repeat (first | (with_reducible exact Take.head) | apply Take.tail)); first | done | fail) (by simp) (by kernel_rfl) (by simp only [List.setIfInBounds_toArray, List.set_cons_zero, List.set_cons_succ]; rfl) (fun w hM => hK _ _ ?_); clear hM0 hK K)) | fail))
  go_ret
  exact ⟨rfl, hM⟩
theorem call_bad {b : Bool} {l : Int} (hb : b = true) (hl : l = 0) (w : World) (hM : Star (fE a b l :: F) w) :
    Calls Try.prog 52 #[fptr a] w fun r w' => r = .returned (.int .i64 13) ∧ Star (fE a b l :: F) w' := by subst hb hl; exact call_fail w hM
set_option maxRecDepth 100000 in
set_option maxHeartbeats 2000000 in
theorem call_go (b : Bool) (l : Int) (h : b = true → l ≠ 0) (w : World) (hM : Star (fE a b l :: F) w) :
    Calls Try.prog 52 #[fptr a] w fun r w' => r = .returned (.int .i64 0) ∧ Star (fE a b (IntKind.i64.wrap (l - 1)) :: F) w' := by
  obtain ⟨l2, hl2⟩ : ∃ l2, IntKind.i64.wrap (l - 1) = l2 := ⟨_, rfl⟩
  rw [hl2]
  cases b
  · clear h
    go_enter Try.func52, Try.ntmps52
    go_wp2_with (first | (first | ((with_reducible refine at_load' ?_); (refine BigFrame.wpList_want (by rfl) fun K hK => ws_load1 hM rfl rfl (by (repeat (first | assumption | (with_reducible exact mZ) | apply mS)); first | done | fail) (by first | rfl | assumption) (by decide +kernel) (hK _ _ ?_); clear hK K)) | fail) | (first | ((with_reducible refine at_store' ?_); (have hM0 := hM; clear hM; refine BigFrame.wpList_want (by rfl) fun K hK => ws_store1 hM0 rfl rfl (by go_simp; rfl) (by first | rfl | assumption) (by (repeat (first | (with_reducible exact Take.head) | apply Take.tail)); first | done | fail) (by simp) (by kernel_rfl) (by simp only [List.setIfInBounds_toArray, List.set_cons_zero, List.set_cons_succ]; rfl) (fun w hM => hK _ _ ?_); clear hM0 hK K)) | fail))
    go_ret
    exact ⟨rfl, hM⟩
  · have h0 := h rfl
    clear h
    have c1 : (l == 0) = false := by simpa using h0
    go_enter Try.func52, Try.ntmps52
    go_wp2_with (first | (first | ((with_reducible refine at_load' ?_); (refine BigFrame.wpList_want (by rfl) fun K hK => ws_load1 hM rfl rfl (by (repeat (first | assumption | (with_reducible exact mZ) | apply mS)); first | done | fail) (by first | rfl | assumption) (by decide +kernel) (hK _ _ ?_); clear hK K)) | fail) | (first | ((with_reducible refine at_store' ?_); (have hM0 := hM; clear hM; refine BigFrame.wpList_want (by rfl) fun K hK => ws_store1 hM0 rfl rfl (by go_simp; rfl) (by first | rfl | assumption) (by (repeat (first | (with_reducible exact Take.head) | apply Take.tail)); first | done | fail) (by simp) (by kernel_rfl) (by simp only [List.setIfInBounds_toArray, List.set_cons_zero, List.set_cons_succ]; rfl) (fun w hM => hK _ _ ?_); clear hM0 hK K)) | fail))
    go_ret
    exact ⟨rfl, hM⟩
set_option maxRecDepth 100000 in
set_option maxHeartbeats 2000000 in
theorem arm_f (b : Bool) (l n : Int) (w : World) (hM : Star (fE a b l :: F) w) :
    Calls Try.prog 28 #[fptr a, .int .i64 n] w fun r w' => r = .returned (.tuple #[]) ∧ Star (fE a true (if n < 0 then 0 else n) :: F) w' := by
  obtain ⟨m, hm⟩ : ∃ m, (if n < 0 then (0 : Int) else n) = m := ⟨_, rfl⟩
  have hm2 : max n 0 = m := by rw [← hm]; split <;> omega
  rw [hm]
  go_enter Try.func28, Try.ntmps28
  go_wp2_with (first | (first | ((with_reducible refine at_load' ?_); (refine BigFrame.wpList_want (by rfl) fun K hK => ws_load1 hM rfl rfl (by (repeat (first | assumption | (with_reducible exact mZ) | apply mS)); first | done | fail) (by first | rfl | assumption) (by decide +kernel) (hK _ _ ?_); clear hK K)) | fail) | (first | ((with_reducible refine at_store' ?_); (have hM0 := hM; clear hM; refine BigFrame.wpList_want (by rfl) fun K hK => ws_store1 hM0 rfl rfl (by go_simp; rfl) (by first | rfl | assumption) (by (repeat (first | (with_reducible exact Take.head) | apply Take.tail)); first | done | fail) (by simp) (by kernel_rfl) (by simp only [List.setIfInBounds_toArray, List.set_cons_zero, List.set_cons_succ]; rfl) (fun w hM => hK _ _ ?_); clear hM0 hK K)) | fail))
  go_end0
  exact ⟨rfl, hM⟩
set_option maxRecDepth 100000 in
theorem clear_f (b : Bool) (l : Int) (w : World) (hM : Star (fE a b l :: F) w) :
    Calls Try.prog 29 #[fptr a] w fun r w' => r = .returned (.tuple #[]) ∧ Star (fE a false l :: F) w' := by
  go_enter Try.func29, Try.ntmps29
  go_wp2_with (first | (first | ((with_reducible refine at_load' ?_); (refine BigFrame.wpList_want (by rfl) fun K hK => ws_load1 hM rfl rfl (by (repeat (first | assumption | (with_reducible exact mZ) | apply mS)); first | done | fail) (by first | rfl | assumption) (by decide +kernel) (hK _ _ ?_); clear hK K)) | fail) | (first | ((with_reducible refine at_store' ?_); (have hM0 := hM; clear hM; refine BigFrame.wpList_want (by rfl) fun K hK => ws_store1 hM0 rfl rfl (by go_simp; rfl) (by first | rfl | assumption) (by (repeat (first | (with_reducible exact Take.head) | apply Take.tail)); first | done | fail) (by simp) (by kernel_rfl) (by simp only [List.setIfInBounds_toArray, List.set_cons_zero, List.set_cons_succ]; rfl) (fun w hM => hK _ _ ?_); clear hM0 hK K)) | fail))
  go_end0
  exact ⟨rfl, hM⟩
set_option maxRecDepth 100000 in
theorem armed_f (b : Bool) (l : Int) (w : World) (hM : Star (fE a b l :: F) w) :
    Calls Try.prog 61 #[fptr a] w fun r w' => r = .returned (.tuple #[.int .i64 (if b then l else 0), .bool b]) ∧ Star (fE a b l :: F) w' := by
  cases b
  · go_enter Try.func61, Try.ntmps61
    go_wp2_with (first | (first | ((with_reducible refine at_load' ?_); (refine BigFrame.wpList_want (by rfl) fun K hK => ws_load1 hM rfl rfl (by (repeat (first | assumption | (with_reducible exact mZ) | apply mS)); first | done | fail) (by first | rfl | assumption) (by decide +kernel) (hK _ _ ?_); clear hK K)) | fail))
    go_ret2
    exact ⟨rfl, hM⟩
  · go_enter Try.func61, Try.ntmps61
    go_wp2_with (first | (first | ((with_reducible refine at_load' ?_); (refine BigFrame.wpList_want (by rfl) fun K hK => ws_load1 hM rfl rfl (by (repeat (first | assumption | (with_reducible exact mZ) | apply mS)); first | done | fail) (by first | rfl | assumption) (by decide +kernel) (hK _ _ ?_); clear hK K)) | fail))
    go_ret2
    exact ⟨rfl, hM⟩
theorem info_blk : (Try.prog.info? 106).map (fun i => i.zero) = some (some (.agg (bvs (List.replicate 64 0)).toArray)) := by kernel_rfl
theorem info_blkn : (Try.prog.info? 106).map (·.size) = some 64 := by kernel_rfl
theorem int_key (i : Nat) (h : i ≤ 9223372036854775807) : keyOf Try.prog 3 (iv64 i) = some (.int .i64 (i : Int)) := Maps.keyOf_int_mk Try.underlying3 (by simp [Lit.wf, IntKind.min, IntKind.max, IntKind.signed, IntKind.bits]; omega)
theorem keyed_i : Maps.Keyed Try.prog 3 := Maps.int_keyed Try.underlying3
set_option maxRecDepth 100000 in
set_option maxHeartbeats 2000000 in
theorem now_d {D : Dsk} (h : D.ok) (i : Nat) (hi : i < D.sure.length) (w : World) (hM : Star (diskE a D :: F) w) :
    Calls Try.prog 53 #[dptr a, .int .i64 i] w fun r w' => r = .returned (avb (D.nw i)) ∧ Star (diskE a D :: F) w' := by
  replace hM := hM.dopen
  have hsz := h.size
  have HNL := Lib.hid (nw_len h hi)
  have HSL := Lib.hid (flat_64 h.s64)
  have HK := Lib.hid (int_key i (by omega))
  have tok1 : True := trivial
  by_cases hl : D.l i = true
  · have HH := Lib.hid (lmv_hit hi hl)
    go_enter Try.func53, Try.ntmps53
    go_wp2_with (first | (have _t := tok1; (first | ((with_reducible refine at_alloc' ?_); (have hM0 := hM; clear hM; refine BigFrame.wpList_want (by rfl) fun K hK => ws_alloc hM0 (t := 106) rfl (bvs (List.replicate 64 0)).toArray info_blk (fun g4 w hM => hK _ _ ?_); clear hM0 hK K)) | fail); clear tok1) | (first | ((with_reducible refine at_alloc' ?_); (have hM0 := hM; clear hM; refine BigFrame.wpList_want (by rfl) fun K hK => ws_alloc hM0 (t := 106) rfl (bvs (List.replicate 64 0)).toArray info_blk (fun g5 w hM => hK _ _ ?_); clear hM0 hK K)) | fail) | (first | ((with_reducible refine at_load' ?_); (refine BigFrame.wpList_want (by rfl) fun K hK => ws_load1 hM rfl rfl (by (repeat (first | assumption | (with_reducible exact mZ) | apply mS)); first | done | fail) (by first | rfl | assumption) (by decide +kernel) (hK _ _ ?_); clear hK K)) | fail) | (first | ((with_reducible refine at_lookup' ?_); (refine BigFrame.wpList_want (by rfl) fun K hK => ws_of_ex (ex_hit2 (key := iv64 i) hM rfl Try.underlying54 rfl rfl (by (repeat (first | assumption | (with_reducible exact mZ) | apply mS)); first | done | fail) keyed_i HK.out HH.out) (hK _ _ ?_); clear hK K)) | fail) | (first | ((with_reducible refine at_store' ?_); (have hM0 := hM; clear hM; refine BigFrame.wpList_want (by rfl) fun K hK => ws_store hM0 rfl rfl rfl (by (repeat (first | (with_reducible exact Take.head) | apply Take.tail)); first | done | fail) (n := 64) (by first | rfl | (simp [bvs_len, HNL.out]; done)) (by first | rfl | (simp [bvs_len, HNL.out]; done)) (by kernel_rfl) (by simpa using bvs_oneCell _) (fun w hM => hK _ _ ?_); clear hM0 hK K)) | fail) | (first | ((with_reducible refine at_load' ?_); (refine BigFrame.wpList_want (by rfl) fun K hK => ws_load hM rfl rfl (by (repeat (first | assumption | (with_reducible exact mZ) | apply mS)); first | done | fail) (n := 64) (by simp [bvs_len, HNL.out]) (by decide +kernel) (hK _ _ ?_); clear hK K)) | fail))
    exact bodyPost_ret (results_cell_row rfl _ _ g4 106 (bvs (D.nw i)).toArray (0, 0) _ rfl (hM.blk (by (repeat (first | assumption | (with_reducible exact mZ) | apply mS)); first | done | fail)) Try.underlying106 rfl (by rw [info_blkn]; simp [bvs_len, HNL.out])) rfl ⟨rfl, (hM.sel (by repeat (first | (with_reducible exact Sel.refl) | (with_reducible exact Take.head) | (with_reducible apply Take.tail) | (with_reducible apply Sel.cons) | (with_reducible apply Sel.drop))) : Star (dE a D.sure.length :: fE a D.armed D.left :: sE a D.sure :: mE a (lmv D) :: F) _).djoin⟩
  · have hlf : D.l i = false := by simpa using hl
    have HH := Lib.hid (lmv_miss hi hlf)
    have HZ : Hid (∀ w, (zeroValue 106).run Try.prog w = .ok (.agg (bvs (List.replicate 64 0)).toArray) w) := fun w => by kernel_rfl
    have HC : Hid (∀ (j : Nat) (v : Value), (bvs (D.nw i))[j]? = some v → (bvs D.sure.flatten).toArray[i * 64 + j]? = some v) := fun j v hv => by
      have hj : j < 64 := by have := (List.getElem?_eq_some_iff.1 hv).1; rw [bvs_len, HNL.out] at this; exact this
      rw [h.same i hi hlf] at hv
      rw [List.getElem?_toArray, bvs, List.getElem?_map, show i * 64 + j = 64 * i + j by omega, flat_at h.s64 hi hj]
      rw [Dsk.su, List.getD_eq_getElem?_getD, List.getElem?_eq_getElem hi, bvs, List.getElem?_map] at hv
      exact hv
    have hiI : (i : Int) < (D.sure.length : Int) := by omega
    go_enter Try.func53, Try.ntmps53
    go_wp2_with (first | (have _t := tok1; (first | ((with_reducible refine at_alloc' ?_); (have hM0 := hM; clear hM; refine BigFrame.wpList_want (by rfl) fun K hK => ws_alloc hM0 (t := 106) rfl (bvs (List.replicate 64 0)).toArray info_blk (fun g4 w hM => hK _ _ ?_); clear hM0 hK K)) | fail); clear tok1) | (first | ((with_reducible refine at_alloc' ?_); (have hM0 := hM; clear hM; refine BigFrame.wpList_want (by rfl) fun K hK => ws_alloc hM0 (t := 106) rfl (bvs (List.replicate 64 0)).toArray info_blk (fun g5 w hM => hK _ _ ?_); clear hM0 hK K)) | fail) | (first | ((with_reducible refine at_load' ?_); (refine BigFrame.wpList_want (by rfl) fun K hK => ws_load1 hM rfl rfl (by (repeat (first | assumption | (with_reducible exact mZ) | apply mS)); first | done | fail) (by first | rfl | assumption) (by decide +kernel) (hK _ _ ?_); clear hK K)) | fail) | (first | ((with_reducible refine at_lookup' ?_); (refine BigFrame.wpList_want (by rfl) fun K hK => ws_of_ex (ex_miss2 (key := iv64 i) hM rfl Try.underlying54 HZ.out rfl rfl (by (repeat (first | assumption | (with_reducible exact mZ) | apply mS)); first | done | fail) keyed_i HK.out HH.out) (hK _ _ ?_); clear hK K)) | fail) | (first | ((with_reducible refine at_store' ?_); (have hM0 := hM; clear hM; refine BigFrame.wpList_want (by rfl) fun K hK => ws_store hM0 rfl rfl rfl (by (repeat (first | (with_reducible exact Take.head) | apply Take.tail)); first | done | fail) (n := 64) (by first | rfl | (simp [bvs_len, HNL.out]; done)) (by first | rfl | (simp [bvs_len, HNL.out]; done)) (by kernel_rfl) (by simpa using bvs_oneCell _) (fun w hM => hK _ _ ?_); clear hM0 hK K)) | fail) | (first | ((with_reducible refine at_load' ?_); (refine BigFrame.wpList_want (by rfl) fun K hK => ws_load hM rfl rfl (by (repeat (first | assumption | (with_reducible exact mZ) | apply mS)); first | done | fail) (n := 64) (by simp [bvs_len, HNL.out]) (by decide +kernel) (hK _ _ ?_); clear hK K)) | fail) | ((with_reducible refine at_load' ?_); refine BigFrame.wpList_want (by rfl) fun K hK => ws_load_mid hM rfl (by go_simp; rfl) (by (repeat (first | assumption | (with_reducible exact mZ) | apply mS)); first | done | fail) (bvs (D.nw i)) HC.out (n := 64) (by simp [bvs_len, HNL.out]) (by decide +kernel) (hK _ _ ?_); clear hK K))
    exact bodyPost_ret (results_cell_row rfl _ _ g4 106 (bvs (D.nw i)).toArray (0, 0) _ rfl (hM.blk (by (repeat (first | assumption | (with_reducible exact mZ) | apply mS)); first | done | fail)) Try.underlying106 rfl (by rw [info_blkn]; simp [bvs_len, HNL.out])) rfl ⟨rfl, (hM.sel (by repeat (first | (with_reducible exact Sel.refl) | (with_reducible exact Take.head) | (with_reducible apply Take.tail) | (with_reducible apply Sel.cons) | (with_reducible apply Sel.drop))) : Star (dE a D.sure.length :: fE a D.armed D.left :: sE a D.sure :: mE a (lmv D) :: F) _).djoin⟩
end
end Go.Proofs.Ytbejifbiffeamaa
set_option linter.unusedSimpArgs false
set_option linter.unusedVariables false
namespace Go.Proofs.Ytbejifbiffeamaa
open Go.RowKit
attribute [local go_sem] extract_mid extract_drop bget bsize wrap64_u8 i64_u8 u64_u8 bappend
theorem inD_yes {N at_ n : Nat} (h : at_ + n ≤ N) : inD N (at_ : Int) (n : Int) = true := by
  unfold inD
  simp
  omega
theorem Rd.of_bblk {w : World} {g n : Nat} {t : TypeId} {l : List UInt8} (h : Blk w g t (bvs l).toArray) (hl : l.length = n) : Rd w 1 (some ⟨g, 0, none⟩) n (bvs l) := by
  have := Rd.of_blk (size := 1) (n := n) h (by simp [bvs_len, hl])
  simpa using this
/-- What a Read gives. -/
def rdD (D : Dsk) (at_ n : Nat) : List UInt8 := (List.range n).flatMap fun j => D.nw (at_ + j)
theorem rdD_succ (D : Dsk) (at_ n : Nat) : rdD D at_ (n + 1) = rdD D at_ n ++ D.nw (at_ + n) := by
  unfold rdD
  rw [List.range_succ, List.flatMap_append]
  simp
section
variable {F : List SProp} {a : DA} {D : Dsk}
theorem in_no (h : D.ok) (at_ n : Int) (hn : 0 ≤ n) (hi : inD D.sure.length at_ n = false) (L : List SProp) (w : World) (hM : Star (diskE a D :: L) w) :
    Calls Try.prog 49 #[dptr a, .int .i64 at_, .int .i64 n] w fun r w' => r = .returned (.bool false) ∧ Star (diskE a D :: L) w' := by
  have := in_d h at_ n hn w hM
  rwa [hi] at this
theorem in_yes (h : D.ok) (at_ n : Nat) (hi : at_ + n ≤ D.sure.length) (L : List SProp) (w : World) (hM : Star (diskE a D :: L) w) :
    Calls Try.prog 49 #[dptr a, .int .i64 at_, .int .i64 n] w fun r w' => r = .returned (.bool true) ∧ Star (dE a D.sure.length :: fE a D.armed D.left :: sE a D.sure :: mE a (lmv D) :: L) w' := by
  have := in_d h at_ n (by omega) w hM
  rw [inD_yes hi] at this
  exact this.mono fun _ _ ⟨e, h⟩ => ⟨e, h.dopen⟩
set_option maxRecDepth 100000 in
theorem read_neg (at_ n : Int) (hn : n < 0) (w : World) (hM : Star F w) :
    Calls Try.prog 24 #[dptr a, .int .i64 at_, .int .i64 n] w fun r w' => r = .returned (.tuple #[.string ⟨([] : List UInt8).toArray⟩, .int .i64 10]) ∧ Star F w' := by
  go_enter Try.func24, Try.ntmps24
  go_wp2_with fail
  go_ret2
  exact ⟨rfl, hM⟩
set_option maxRecDepth 100000 in
theorem read_out (h : D.ok) (at_ n : Int) (hn : 0 ≤ n) (hi : inD D.sure.length at_ n = false) (w : World) (hM : Star (diskE a D :: F) w) :
    Calls Try.prog 24 #[dptr a, .int .i64 at_, .int .i64 n] w fun r w' => r = .returned (.tuple #[.string ⟨([] : List UInt8).toArray⟩, .int .i64 10]) ∧ Star (diskE a D :: F) w' := by
  have HI := Lib.hid (in_no (a := a) h at_ n hn hi)
  clear hi h
  go_enter Try.func24, Try.ntmps24
  go_wp2_with (first | (go_at_call 49; have hM0 := hM; clear hM; (first | (with_reducible refine (HI.out _ _ hM0).mono ?_) | fail); clear hM0; rintro _ w ⟨rfl, hM⟩))
  go_ret2
  exact ⟨rfl, hM⟩
set_option maxRecDepth 100000 in
theorem read_fail (h : D.ok) (at_ n : Nat) (hi : at_ + n ≤ D.sure.length) (h1 : D.armed = true) (h2 : D.left = 0) (w : World) (hM : Star (diskE a D :: F) w) :
    Calls Try.prog 24 #[dptr a, .int .i64 at_, .int .i64 n] w fun r w' => r = .returned (.tuple #[.string ⟨([] : List UInt8).toArray⟩, .int .i64 13]) ∧ Star (diskE a D :: F) w' := by
  have HI := Lib.hid (in_yes (a := a) h at_ n hi)
  clear hi
  go_enter Try.func24, Try.ntmps24
  go_wp2_with (first | (go_at_call 49; have hM0 := hM; clear hM; (first | (with_reducible refine (HI.out _ _ hM0).mono ?_) | fail); clear hM0; rintro _ w ⟨rfl, hM⟩) | (first | ((with_reducible refine at_load' ?_); (refine BigFrame.wpList_want (by rfl) fun K hK => ws_load1 hM rfl rfl (by (repeat (first | assumption | (with_reducible exact mZ) | apply mS)); first | done | fail) (by first | rfl | assumption) (by decide +kernel) (hK _ _ ?_); clear hK K)) | fail) | (go_at_call 52; have hM0 := hM; clear hM; (first | (with_reducible refine (call_bad h1 h2 _ (hM0.take (x := fE a D.armed D.left) (by (repeat (first | (with_reducible exact Take.head) | apply Take.tail)); first | done | fail))).mono ?_) | fail); clear hM0; rintro _ w ⟨rfl, hM⟩))
  go_ret2
  exact ⟨rfl, (hM.sel (by repeat (first | (with_reducible exact Sel.refl) | (with_reducible exact Take.head) | (with_reducible apply Take.tail) | (with_reducible apply Sel.cons) | (with_reducible apply Sel.drop))) : Star (dE a D.sure.length :: fE a D.armed D.left :: sE a D.sure :: mE a (lmv D) :: F) _).djoin⟩
set_option maxRecDepth 100000 in
set_option maxHeartbeats 2000000 in
theorem read_ok (h : D.ok) (at_ n : Nat) (hi : at_ + n ≤ D.sure.length) (hf : D.armed = true → D.left ≠ 0) (w : World) (hM : Star (diskE a D :: F) w) :
    Calls Try.prog 24 #[dptr a, .int .i64 at_, .int .i64 n] w fun r w' => r = .returned (.tuple #[.string ⟨(rdD D at_ n).toArray⟩, .int .i64 0]) ∧ Star (diskE a D.dec :: F) w' := by
  have HI := Lib.hid (in_yes (a := a) h at_ n hi)
  have hok := dec_ok h hf
  have hsz := h.size
  have HF := Lib.hid hf
  clear hf
  go_enter Try.func24, Try.ntmps24
  go_wp2_with (first | (go_at_call 49; have hM0 := hM; clear hM; (first | (with_reducible refine (HI.out _ _ hM0).mono ?_) | fail); clear hM0; rintro _ w ⟨rfl, hM⟩) | (first | ((with_reducible refine at_load' ?_); (refine BigFrame.wpList_want (by rfl) fun K hK => ws_load1 hM rfl rfl (by (repeat (first | assumption | (with_reducible exact mZ) | apply mS)); first | done | fail) (by first | rfl | assumption) (by decide +kernel) (hK _ _ ?_); clear hK K)) | fail) | (go_at_call 52; have hM0 := hM; clear hM; (first | (with_reducible refine (call_go D.armed D.left HF.out _ (hM0.take (x := fE a D.armed D.left) (by (repeat (first | (with_reducible exact Take.head) | apply Take.tail)); first | done | fail))).mono ?_) | fail); clear hM0; rintro _ w ⟨rfl, hM⟩))
  have hM2 : Star (diskE a D.dec :: F) w := (hM.sel (by repeat (first | (with_reducible exact Sel.refl) | (with_reducible exact Take.head) | (with_reducible apply Take.tail) | (with_reducible apply Sel.cons) | (with_reducible apply Sel.drop))) : Star (dE a D.sure.length :: fE a D.armed (IntKind.i64.wrap (D.left - 1)) :: sE a D.sure :: mE a (lmv D) :: F) w).djoin
  clear hM
  have hM := hM2.niltail 5 1
  clear hM2
  go_loopw [9, 30] (fun out i wr => ∃ (k m : Nat) (A : Option Addr) (c : Nat), k ≤ n ∧ i = .int .i64 k ∧ Hid (m = 64 * k) ∧ out = .slice A m c ∧ Star (tailE 5 1 A m c (bvs (rdD D at_ k)) :: diskE a D.dec :: F) wr) (fun _ i _ => n - (intOf i).toNat)
  case atStart => exact ⟨0, 0, none, 0, by omega, rfl, rfl, rfl, hM⟩
  case round =>
    clear hM
    obtain ⟨k, m, A, c, hk, rfl, hm, rfl, hM⟩ := hrel
    have hmb : m ≤ 4194304 := by have := hm.out; omega
    by_cases hlt : k < n
    · have HN : Hid (∀ (L : List SProp) (w : World), Star (diskE a D.dec :: L) w → Calls Try.prog 53 #[dptr a, .int .i64 ((at_ : Int) + (k : Int))] w fun r w' => r = .returned (avb (D.nw (at_ + k))) ∧ Star (diskE a D.dec :: L) w') := fun L w hM => by
        have := now_d hok (at_ + k) (by show _ < D.sure.length; omega) w hM
        rwa [Int.natCast_add] at this
      have HNL := Lib.hid (nw_len h (show at_ + k < D.sure.length by omega))
      have HS := Lib.hid (rdD_succ D at_ k)
      go_wp2_with (first | (go_at_call 53; have hM0 := hM; clear hM; (first | (with_reducible refine (HN.out _ _ (hM0.take (x := diskE a D.dec) (by (repeat (first | (with_reducible exact Take.head) | apply Take.tail)); first | done | fail))).mono ?_) | fail); clear hM0; rintro _ w ⟨rfl, hM⟩) | (first | ((with_reducible refine at_alloc' ?_); (have hM0 := hM; clear hM; refine BigFrame.wpList_want (by rfl) fun K hK => ws_alloc hM0 (t := 106) rfl (bvs (List.replicate 64 0)).toArray info_blk (fun g11 w hM => hK _ _ ?_); clear hM0 hK K)) | fail) | (first | ((with_reducible refine at_store' ?_); (have hM0 := hM; clear hM; refine BigFrame.wpList_want (by rfl) fun K hK => ws_store hM0 rfl rfl rfl (by (repeat (first | (with_reducible exact Take.head) | apply Take.tail)); first | done | fail) (n := 64) (by simp [bvs_len, HNL.out]) (by rfl) (by kernel_rfl) (by simpa using bvs_oneCell _) (fun w hM => hK _ _ ?_); clear hM0 hK K)) | fail) | (first | ((with_reducible refine at_call' ?_); (have hM0 := hM; clear hM; refine BigFrame.wpList_want (by rfl) fun K hK => ws_app hM0 rfl rfl 5 ((.int .u8 0)) 1 1 Try.underlying107 (by kernel_rfl) (by rfl) (by (repeat (first | (with_reducible exact Take.head) | apply Take.tail)); first | done | fail) (src_row Try.underlying107 _ (Rd.of_bblk (hM0.blk (g := g11) (by (repeat (first | assumption | (with_reducible exact mZ) | apply mS)); first | done | fail)) HNL.out) (bvs_oneCell _)) ((by omega)) (fun A1 c1 w hM => hK _ _ ?_); clear hM0 hK K; (try simp only [Nat.zero_add, Nat.add_zero, List.nil_append, List.append_nil, ← bvs_app] at hM))) | fail))
      go_roundw
      case rel => exact ⟨k + 1, m + 64, A1, c1, by omega, by go_num, (by show _ = _; have := hm.out; omega), rfl, by rw [HS.out]; exact hM.sel (by repeat (first | (with_reducible exact Sel.refl) | (with_reducible exact Take.head) | (with_reducible apply Take.tail) | (with_reducible apply Sel.cons) | (with_reducible apply Sel.drop)))⟩
      case measure => simp [intOf]; omega
    · obtain rfl : k = n := by omega
      replace hM := hM.tail_freeze
      go_wp2_with (first | (first | ((with_reducible refine at_convert' ?_); (refine BigFrame.wpList_want (by rfl) fun K hK => ws_string (l := rdD D at_ k) rfl 5 Try.underlying107 Try.underlying9 Try.underlying5 rfl (by first | (apply Star.row hM; (repeat (first | assumption | (with_reducible exact mZ) | apply mS)); done) | (apply Star.own hM; (repeat (first | assumption | (with_reducible exact mZ) | apply mS)); done) | (apply Star.arr hM; (focus ((repeat (first | assumption | (with_reducible exact mZ) | apply mS)); done)); assumption)) (hK _ _ ?_); clear hK K)) | fail))
      go_ret2
      exact ⟨rfl, hM.sel (by repeat (first | (with_reducible exact Sel.refl) | (with_reducible exact Take.head) | (with_reducible apply Take.tail) | (with_reducible apply Sel.cons) | (with_reducible apply Sel.drop)))⟩
end
end Go.Proofs.Ytbejifbiffeamaa
set_option linter.unusedSimpArgs false
set_option linter.unusedVariables false
namespace Go.Proofs.Ytbejifbiffeamaa
open Go.RowKit
attribute [local go_sem] extract_mid extract_drop bget bsize wrap64_u8 i64_u8 u64_u8 bappend
def z64 : List UInt8 := List.replicate 64 0
/-- A text, filled up with zeros. -/
def pad64 (s : List UInt8) : List UInt8 := over z64 s
theorem z64_len : z64.length = 64 := by simp [z64]
theorem pad64_len (s : List UInt8) : (pad64 s).length = 64 := by unfold pad64; rw [over_len, z64_len]
/-- Texts go into sectors, one each. -/
def wrD (D : Dsk) (at_ : Nat) (ts : List (List UInt8)) (k : Nat) : Dsk := (List.range k).foldl (fun D j => D.put (at_ + j) (pad64 (ts.getD j []))) D
theorem wrD_succ (D : Dsk) (at_ : Nat) (ts : List (List UInt8)) (k : Nat) : wrD D at_ ts (k + 1) = (wrD D at_ ts k).put (at_ + k) (pad64 (ts.getD k [])) := by
  unfold wrD
  rw [List.range_succ, List.foldl_append]
  rfl
theorem wrD_sure (D : Dsk) (at_ : Nat) (ts : List (List UInt8)) (k : Nat) : (wrD D at_ ts k).sure = D.sure ∧ (wrD D at_ ts k).armed = D.armed ∧ (wrD D at_ ts k).left = D.left := by
  induction k with
  | zero => exact ⟨rfl, rfl, rfl⟩
  | succ k ih => rw [wrD_succ]; exact ih
theorem wrD_ok {D : Dsk} (h : D.ok) (at_ : Nat) (ts : List (List UInt8)) (k : Nat) (hk : at_ + k ≤ D.sure.length) : (wrD D at_ ts k).ok := by
  induction k with
  | zero => exact h
  | succ k ih =>
    rw [wrD_succ]
    exact put_ok (ih (by omega)) (by rw [(wrD_sure D at_ ts k).1]; omega) (pad64_len _)
def anyBig (ts : List (List UInt8)) : Bool := ts.any fun s => decide (64 < s.length)
section
variable {F : List SProp} {a : DA} {D : Dsk}
set_option maxRecDepth 100000 in
theorem wlam (s : List UInt8) (w : World) (hM : Star F w) : Calls Try.prog 51 #[.string ⟨s.toArray⟩] w fun r w' => r = .returned (.bool (decide (64 < s.length))) ∧ Star F w' := by
  go_enter Try.func51, Try.ntmps51
  go_wp2_with fail
  go_ret
  exact ⟨ret_bool (by simp only [decide_eq_decide]; omega), hM⟩
/-- The place of the first text that is too long, or -1. -/
def IdxP (ts : List (List UInt8)) (q : Int) : Prop := (anyBig ts = true → 0 ≤ q) ∧ (anyBig ts = false → q = -1)
theorem firstBig_some {ts : List (List UInt8)} {k : Nat} {s : List UInt8} (h : ∀ j s, j < k → ts[j]? = some s → s.length ≤ 64) (hk : ts[k]? = some s) (hs : 64 < s.length) : anyBig ts = true := by
  unfold anyBig
  exact List.any_eq_true.2 ⟨s, List.mem_of_getElem? hk, by simpa using hs⟩
set_option maxRecDepth 100000 in
set_option maxHeartbeats 2000000 in
theorem idxf {ts : List (List UInt8)} {A : Option Addr} {n c : Nat} (hn : n ≤ 9223372036854775807) (w : World) (hM : Star F w) (hF : rowE 1 A n (svs ts) ∈ F) :
    Calls Try.prog 74 #[.slice A n c, .func (.func 51) #[] #[]] w fun r w' => ∃ q : Int, r = .returned (.int .i64 q) ∧ IdxP ts q ∧ Star F w' := by
  have HL := Lib.hid (svs_row (hM.row hF))
  go_enter Try.func74, Try.ntmps74
  go_wp2_with fail
  go_loopw [8] (fun i wr => ∃ k : Nat, k ≤ n ∧ i = .int .i64 k ∧ Hid (∀ j s, j < k → ts[j]? = some s → s.length ≤ 64) ∧ Star F wr) (fun i _ => n - (intOf i).toNat)
  case atStart => exact ⟨0, by omega, rfl, fun j s hj => (by omega), hM⟩
  case round =>
    clear hM
    obtain ⟨k, hk, rfl, hb, hM⟩ := hrel
    by_cases hlt : k < n
    · obtain ⟨ad, s, rfl, hv, hg, _⟩ := hM.elemS (A := A) (n := n) (l := ts) (by (repeat (first | assumption | (with_reducible exact mZ) | apply mS)); first | done | fail) hlt
      have HG := Lib.hid hg
      clear hg
      by_cases hs : 64 < s.length
      · go_wp2_with (first | (first | ((with_reducible refine at_load' ?_); (refine BigFrame.wpList_want (by rfl) fun K hK => ws_rowload rfl rfl (by first | (apply Star.row hM; (repeat (first | assumption | (with_reducible exact mZ) | apply mS)); done) | (apply Star.own hM; (repeat (first | assumption | (with_reducible exact mZ) | apply mS)); done) | (apply Star.arr hM; (focus ((repeat (first | assumption | (with_reducible exact mZ) | apply mS)); done)); assumption)) (by assumption) (by kernel_rfl) (hK _ _ ?_); clear hK K)) | fail) | (go_at_call 51; have hM0 := hM; clear hM; (first | (with_reducible refine (wlam s _ hM0).mono ?_) | fail); clear hM0; rintro _ w ⟨rfl, hM⟩))
        go_ret
        exact ⟨_, rfl, ⟨fun _ => by omega, fun h => by rw [firstBig_some hb.out HG.out hs] at h; cases h⟩, hM⟩
      · go_wp2_with (first | (first | ((with_reducible refine at_load' ?_); (refine BigFrame.wpList_want (by rfl) fun K hK => ws_rowload rfl rfl (by first | (apply Star.row hM; (repeat (first | assumption | (with_reducible exact mZ) | apply mS)); done) | (apply Star.own hM; (repeat (first | assumption | (with_reducible exact mZ) | apply mS)); done) | (apply Star.arr hM; (focus ((repeat (first | assumption | (with_reducible exact mZ) | apply mS)); done)); assumption)) (by assumption) (by kernel_rfl) (hK _ _ ?_); clear hK K)) | fail) | (go_at_call 51; have hM0 := hM; clear hM; (first | (with_reducible refine (wlam s _ hM0).mono ?_) | fail); clear hM0; rintro _ w ⟨rfl, hM⟩))
        go_roundw
        case rel => exact ⟨k + 1, by omega, by go_num, fun j s' hj hjs => by
          by_cases e : j = k
          · subst e; rw [HG.out] at hjs; injection hjs with hjs; subst hjs; omega
          · exact hb.out j s' (by omega) hjs, hM⟩
        case measure => simp [intOf]; omega
    · obtain rfl : k = n := by omega
      go_wp2_with fail
      go_ret
      refine ⟨-1, rfl, ⟨fun h => ?_, fun _ => rfl⟩, hM⟩
      obtain ⟨s, hs, hl⟩ := List.any_eq_true.1 h
      obtain ⟨j, hj, hjs⟩ := List.mem_iff_getElem.1 hs
      have := hb.out j s (by rw [← HL.out]; exact hj) (by rw [List.getElem?_eq_getElem hj, hjs])
      simp at hl
      omega
set_option maxRecDepth 100000 in
theorem containsf {ts : List (List UInt8)} {A : Option Addr} {n c : Nat} (hn : n ≤ 9223372036854775807) (w : World) (hM : Star F w) (hF : rowE 1 A n (svs ts) ∈ F) :
    Calls Try.prog 50 #[.slice A n c, .func (.func 51) #[] #[]] w fun r w' => r = .returned (.bool (anyBig ts)) ∧ Star F w' := by
  go_enter Try.func50, Try.ntmps50
  go_wp2_with (first | (go_at_call 74; have hM0 := hM; clear hM; (first | (with_reducible refine (idxf hn _ hM0 (by (repeat (first | assumption | (with_reducible exact mZ) | apply mS)); first | done | fail)).mono ?_) | fail); clear hM0; rintro _ w ⟨q, rfl, hq, hM⟩))
  go_ret
  refine ⟨ret_bool ?_, hM⟩
  cases hb : anyBig ts
  · rw [hq.2 hb]; rfl
  · have := hq.1 hb; simpa using this
set_option maxRecDepth 100000 in
theorem write_out {ts : List (List UInt8)} {A : Option Addr} {n c : Nat} (h : D.ok) (at_ : Int) (hi : inD D.sure.length at_ n = false) (w : World) (hM : Star (diskE a D :: F) w) :
    Calls Try.prog 22 #[dptr a, .int .i64 at_, .slice A n c] w fun r w' => r = .returned (.int .i64 10) ∧ Star (diskE a D :: F) w' := by
  have HI := Lib.hid (in_no (a := a) h at_ n (by omega) hi)
  clear hi h
  go_enter Try.func22, Try.ntmps22
  go_wp2_with (first | (go_at_call 49; have hM0 := hM; clear hM; (first | (with_reducible refine (HI.out _ _ hM0).mono ?_) | fail); clear hM0; rintro _ w ⟨rfl, hM⟩))
  go_ret
  exact ⟨rfl, hM⟩
set_option maxRecDepth 100000 in
theorem write_big {ts : List (List UInt8)} {A : Option Addr} {n c : Nat} (h : D.ok) (at_ : Nat) (hi : at_ + n ≤ D.sure.length) (hb : anyBig ts = true) (w : World) (hM : Star (diskE a D :: F) w) (hF : rowE 1 A n (svs ts) ∈ F) :
    Calls Try.prog 22 #[dptr a, .int .i64 at_, .slice A n c] w fun r w' => r = .returned (.int .i64 10) ∧ Star (diskE a D :: F) w' := by
  have HI := Lib.hid (in_yes (a := a) h at_ n hi)
  have hsz := h.size
  have HC : Hid (∀ (L : List SProp) (w : World), Star L w → rowE 1 A n (svs ts) ∈ L → Calls Try.prog 50 #[.slice A n c, .func (.func 51) #[] #[]] w fun r w' => r = .returned (.bool true) ∧ Star L w') := fun L w hM hx => by
    have := containsf (c := c) (by omega) w hM hx
    rwa [hb] at this
  clear hi h hb
  go_enter Try.func22, Try.ntmps22
  go_wp2_with (first | (go_at_call 49; have hM0 := hM; clear hM; (first | (with_reducible refine (HI.out _ _ hM0).mono ?_) | fail); clear hM0; rintro _ w ⟨rfl, hM⟩) | (go_at_call 50; have hM0 := hM; clear hM; (first | (with_reducible refine (HC.out _ _ hM0 (by (repeat (first | assumption | (with_reducible exact mZ) | apply mS)); first | done | fail)).mono ?_) | fail); clear hM0; rintro _ w ⟨rfl, hM⟩))
  go_ret
  exact ⟨rfl, (hM.sel (by repeat (first | (with_reducible exact Sel.refl) | (with_reducible exact Take.head) | (with_reducible apply Take.tail) | (with_reducible apply Sel.cons) | (with_reducible apply Sel.drop))) : Star (dE a D.sure.length :: fE a D.armed D.left :: sE a D.sure :: mE a (lmv D) :: F) _).djoin⟩
theorem info_blkz : (Try.prog.info? 106).map (fun i => i.zero) = some (some (.agg (bvs z64).toArray)) := by kernel_rfl
theorem nobig (ts : List (List UInt8)) (hb : anyBig ts = false) : ∀ s ∈ ts, s.length ≤ 64 := fun s hs => by
  unfold anyBig at hb
  have := List.any_eq_false.1 hb s hs
  simpa using this
set_option maxRecDepth 100000 in
theorem write_fail {ts : List (List UInt8)} {A : Option Addr} {n c : Nat} (h : D.ok) (at_ : Nat) (hi : at_ + n ≤ D.sure.length) (hb : anyBig ts = false) (h1 : D.armed = true) (h2 : D.left = 0) (w : World) (hM : Star (diskE a D :: F) w) (hF : rowE 1 A n (svs ts) ∈ F) :
    Calls Try.prog 22 #[dptr a, .int .i64 at_, .slice A n c] w fun r w' => r = .returned (.int .i64 13) ∧ Star (diskE a D :: F) w' := by
  have HI := Lib.hid (in_yes (a := a) h at_ n hi)
  have hsz := h.size
  have HC : Hid (∀ (L : List SProp) (w : World), Star L w → rowE 1 A n (svs ts) ∈ L → Calls Try.prog 50 #[.slice A n c, .func (.func 51) #[] #[]] w fun r w' => r = .returned (.bool false) ∧ Star L w') := fun L w hM hx => by
    have := containsf (c := c) (by omega) w hM hx
    rwa [hb] at this
  have HCA := Lib.hid (fun (L : List SProp) (w : World) (hM : Star (fE a D.armed D.left :: L) w) => call_bad h1 h2 w hM)
  clear hi h hb h1 h2
  go_enter Try.func22, Try.ntmps22
  go_wp2_with (first | (go_at_call 49; have hM0 := hM; clear hM; (first | (with_reducible refine (HI.out _ _ hM0).mono ?_) | fail); clear hM0; rintro _ w ⟨rfl, hM⟩) | (go_at_call 50; have hM0 := hM; clear hM; (first | (with_reducible refine (HC.out _ _ hM0 (by (repeat (first | assumption | (with_reducible exact mZ) | apply mS)); first | done | fail)).mono ?_) | fail); clear hM0; rintro _ w ⟨rfl, hM⟩) | (first | ((with_reducible refine at_load' ?_); (refine BigFrame.wpList_want (by rfl) fun K hK => ws_load1 hM rfl rfl (by (repeat (first | assumption | (with_reducible exact mZ) | apply mS)); first | done | fail) (by first | rfl | assumption) (by decide +kernel) (hK _ _ ?_); clear hK K)) | fail) | (go_at_call 52; have hM0 := hM; clear hM; (first | (with_reducible refine (HCA.out _ _ (hM0.take (x := fE a D.armed D.left) (by (repeat (first | (with_reducible exact Take.head) | apply Take.tail)); first | done | fail))).mono ?_) | fail); clear hM0; rintro _ w ⟨rfl, hM⟩))
  go_ret
  exact ⟨rfl, (hM.sel (by repeat (first | (with_reducible exact Sel.refl) | (with_reducible exact Take.head) | (with_reducible apply Take.tail) | (with_reducible apply Sel.cons) | (with_reducible apply Sel.drop))) : Star (dE a D.sure.length :: fE a D.armed D.left :: sE a D.sure :: mE a (lmv D) :: F) _).djoin⟩
set_option maxRecDepth 100000 in
set_option maxHeartbeats 4000000 in
theorem write_ok {ts : List (List UInt8)} {A : Option Addr} {n c : Nat} (h : D.ok) (at_ : Nat) (hi : at_ + n ≤ D.sure.length) (hb : anyBig ts = false) (hf : D.armed = true → D.left ≠ 0) (w : World) (hM : Star (diskE a D :: F) w) (hF : rowE 1 A n (svs ts) ∈ F) :
    Calls Try.prog 22 #[dptr a, .int .i64 at_, .slice A n c] w fun r w' => r = .returned (.int .i64 0) ∧ Star (diskE a (wrD D.dec at_ ts n) :: F) w' := by
  have HI := Lib.hid (in_yes (a := a) h at_ n hi)
  have hsz := h.size
  have HC : Hid (∀ (L : List SProp) (w : World), Star L w → rowE 1 A n (svs ts) ∈ L → Calls Try.prog 50 #[.slice A n c, .func (.func 51) #[] #[]] w fun r w' => r = .returned (.bool false) ∧ Star L w') := fun L w hM hx => by
    have := containsf (c := c) (by omega) w hM hx
    rwa [hb] at this
  have HCA := Lib.hid (fun (L : List SProp) (w : World) (hM : Star (fE a D.armed D.left :: L) w) => call_go D.armed D.left hf w hM)
  have hok := dec_ok h hf
  have HNB := Lib.hid (nobig ts hb)
  have HOK := Lib.hid hok
  clear h hb hf hok
  go_enter Try.func22, Try.ntmps22
  go_wp2_with (first | (go_at_call 49; have hM0 := hM; clear hM; (first | (with_reducible refine (HI.out _ _ hM0).mono ?_) | fail); clear hM0; rintro _ w ⟨rfl, hM⟩) | (go_at_call 50; have hM0 := hM; clear hM; (first | (with_reducible refine (HC.out _ _ hM0 (by (repeat (first | assumption | (with_reducible exact mZ) | apply mS)); first | done | fail)).mono ?_) | fail); clear hM0; rintro _ w ⟨rfl, hM⟩) | (first | ((with_reducible refine at_load' ?_); (refine BigFrame.wpList_want (by rfl) fun K hK => ws_load1 hM rfl rfl (by (repeat (first | assumption | (with_reducible exact mZ) | apply mS)); first | done | fail) (by first | rfl | assumption) (by decide +kernel) (hK _ _ ?_); clear hK K)) | fail) | (go_at_call 52; have hM0 := hM; clear hM; (first | (with_reducible refine (HCA.out _ _ (hM0.take (x := fE a D.armed D.left) (by (repeat (first | (with_reducible exact Take.head) | apply Take.tail)); first | done | fail))).mono ?_) | fail); clear hM0; rintro _ w ⟨rfl, hM⟩))
  have hM2 : Star (diskE a D.dec :: F) w := (hM.sel (by repeat (first | (with_reducible exact Sel.refl) | (with_reducible exact Take.head) | (with_reducible apply Take.tail) | (with_reducible apply Sel.cons) | (with_reducible apply Sel.drop))) : Star (dE a D.sure.length :: fE a D.armed (IntKind.i64.wrap (D.left - 1)) :: sE a D.sure :: mE a (lmv D) :: F) w).djoin
  clear hM
  have hM := hM2
  clear hM2
  go_loopw [31] (fun i wr => ∃ k : Nat, k ≤ n ∧ i = .int .i64 k ∧ Star (diskE a (wrD D.dec at_ ts k) :: F) wr) (fun i _ => n - (intOf i).toNat)
  case atStart => exact ⟨0, by omega, rfl, hM⟩
  case round =>
    clear hM
    obtain ⟨k, hk, rfl, hM⟩ := hrel
    by_cases hlt : k < n
    · obtain ⟨ad, s, rfl, hv, hg, _⟩ := hM.elemS (A := A) (n := n) (l := ts) (List.mem_cons_of_mem _ hF) hlt
      have hs64 := HNB.out s (List.mem_of_getElem? hg)
      have HW := Lib.hid (wrD_succ D.dec at_ ts k)
      have HS : Hid (ts.getD k [] = s) := by show _ = _; rw [List.getD_eq_getElem?_getD, hg]; rfl
      have hEk := wrD_ok HOK.out at_ ts k (by show _ ≤ D.sure.length; omega)
      have hEs := (wrD_sure D.dec at_ ts k).1
      obtain ⟨E, hE⟩ : ∃ E, E = wrD D.dec at_ ts k := ⟨_, rfl⟩
      rw [← hE] at hM hEk hEs HW
      have hik : at_ + k < E.sure.length := by rw [hEs]; show _ < D.sure.length; omega
      have HEK := Lib.hid hEk
      have HIK := Lib.hid hik
      have HK := Lib.hid (int_key (at_ + k) (by omega))
      have HADD : Hid (IntKind.i64.wrap ((at_ : Int) + (k : Int)) = ((at_ + k : Nat) : Int)) := by show _ = _; rw [IntWalk.i64_in _ (by omega)]; omega
      have HPL := Lib.hid (pad64_len s)
      replace hM := hM.dopen
      clear hE hEk hEs hik hg hs64
      have HZL := Lib.hid z64_len
      go_wp2_with (first | (first | ((with_reducible refine at_load' ?_); (refine BigFrame.wpList_want (by rfl) fun K hK => ws_rowload rfl rfl (by first | (apply Star.row hM; (repeat (first | assumption | (with_reducible exact mZ) | apply mS)); done) | (apply Star.own hM; (repeat (first | assumption | (with_reducible exact mZ) | apply mS)); done) | (apply Star.arr hM; (focus ((repeat (first | assumption | (with_reducible exact mZ) | apply mS)); done)); assumption)) (by assumption) (by kernel_rfl) (hK _ _ ?_); clear hK K)) | fail) | (first | ((with_reducible refine at_alloc' ?_); (have hM0 := hM; clear hM; refine BigFrame.wpList_want (by rfl) fun K hK => ws_alloc hM0 (t := 106) rfl (bvs z64).toArray info_blkz (fun g10 w hM => hK _ _ ?_); clear hM0 hK K)) | fail) | (first | ((with_reducible refine at_call' ?_); (have hM0 := hM; clear hM; refine BigFrame.wpList_want (by rfl) fun K hK => ws_copy_str hM0 rfl rfl rfl 5 Try.underlying107 (by kernel_rfl) (by (repeat (first | (with_reducible exact Take.head) | apply Take.tail)); first | done | fail) (by rw [HZL.out]) (fun w hM => hK _ _ ?_); clear hM0 hK K)) | fail))
      by_cases hl : E.l (at_ + k) = true
      · obtain ⟨r, hp1, hp2⟩ := lmv_put_old HEK.out HIK.out (pad64 s) hl
        have HP1 := Lib.hid hp1
        have HP2 := Lib.hid hp2
        clear hp1 hp2 hl
        (refine region_RS ([dE a E.sure.length, cellsE g10 106 (bvs (over z64 s)).toArray]) [8] (by kernel_rfl) hM ?_; clear hM; change RS _ _ _ _ _ _ 9 (Array.replicate 9 false) _ _; refine RS_take (i := 0) rfl (by decide +kernel) (fun _ _ _ h => h) (by first | (intro x hx; (repeat (first | exact hx | apply mS)); done) | ((repeat (refine List.forall_mem_cons.2 ⟨(by (repeat (first | assumption | (with_reducible exact mZ) | apply mS)); first | done | fail), ?_⟩)); intro x hx; first | (cases hx; done) | ((repeat (first | exact hx | apply mS)); done))) (stab_pure (by rfl) (fun w => (by go_simp; try with_reducible rfl))) ?_; simp only [Act.put, List.setIfInBounds_toArray, List.set_cons_zero, List.set_cons_succ]; refine RS_take (i := 1) rfl (by decide +kernel) (fun _ _ _ h => h) (by first | (intro x hx; (repeat (first | exact hx | apply mS)); done) | ((repeat (refine List.forall_mem_cons.2 ⟨(by (repeat (first | assumption | (with_reducible exact mZ) | apply mS)); first | done | fail), ?_⟩)); intro x hx; first | (cases hx; done) | ((repeat (first | exact hx | apply mS)); done))) (stab_pure (by rfl) (fun w => (by go_simp; try with_reducible rfl))) ?_; simp only [Act.put, List.setIfInBounds_toArray, List.set_cons_zero, List.set_cons_succ]; refine RS_take (i := 2) rfl (by decide +kernel) (fun _ _ _ h => h) (by first | (intro x hx; (repeat (first | exact hx | apply mS)); done) | ((repeat (refine List.forall_mem_cons.2 ⟨(by (repeat (first | assumption | (with_reducible exact mZ) | apply mS)); first | done | fail), ?_⟩)); intro x hx; first | (cases hx; done) | ((repeat (first | exact hx | apply mS)); done))) (stab_pure (by rfl) (fun w => (by go_simp; try with_reducible rfl))) ?_; simp only [Act.put, List.setIfInBounds_toArray, List.set_cons_zero, List.set_cons_succ]; refine RS_take (i := 3) rfl (by decide +kernel) (fun _ _ _ h => h) (by first | (intro x hx; (repeat (first | exact hx | apply mS)); done) | ((repeat (refine List.forall_mem_cons.2 ⟨(by (repeat (first | assumption | (with_reducible exact mZ) | apply mS)); first | done | fail), ?_⟩)); intro x hx; first | (cases hx; done) | ((repeat (first | exact hx | apply mS)); done))) (stab_read (by rfl) (fun L w hL hM => (ex_load1 (v := .map (some a.m)) hM rfl rfl (hL _ (by (repeat (first | assumption | (with_reducible exact mZ) | apply mS)); first | done | fail)) rfl (by decide +kernel)))) ?_; simp only [Act.put, List.setIfInBounds_toArray, List.set_cons_zero, List.set_cons_succ]; refine RS_take (i := 4) rfl (by decide +kernel) (fun _ _ _ h => h) (by first | (intro x hx; (repeat (first | exact hx | apply mS)); done) | ((repeat (refine List.forall_mem_cons.2 ⟨(by (repeat (first | assumption | (with_reducible exact mZ) | apply mS)); first | done | fail), ?_⟩)); intro x hx; first | (cases hx; done) | ((repeat (first | exact hx | apply mS)); done))) (stab_pure (by rfl) (fun w => (by go_simp; try with_reducible rfl))) ?_; simp only [Act.put, List.setIfInBounds_toArray, List.set_cons_zero, List.set_cons_succ]; refine RS_take (i := 5) rfl (by decide +kernel) (fun _ _ _ h => h) (by first | (intro x hx; (repeat (first | exact hx | apply mS)); done) | ((repeat (refine List.forall_mem_cons.2 ⟨(by (repeat (first | assumption | (with_reducible exact mZ) | apply mS)); first | done | fail), ?_⟩)); intro x hx; first | (cases hx; done) | ((repeat (first | exact hx | apply mS)); done))) (stab_pure (by rfl) (fun w => (by go_simp; try with_reducible rfl))) ?_; simp only [Act.put, List.setIfInBounds_toArray, List.set_cons_zero, List.set_cons_succ]; refine RS_take (i := 6) rfl (by decide +kernel) (fun _ _ _ h => h) (by first | (intro x hx; (repeat (first | exact hx | apply mS)); done) | ((repeat (refine List.forall_mem_cons.2 ⟨(by (repeat (first | assumption | (with_reducible exact mZ) | apply mS)); first | done | fail), ?_⟩)); intro x hx; first | (cases hx; done) | ((repeat (first | exact hx | apply mS)); done))) (stab_read (by rfl) (fun L w hL hM => (ex_add rfl rfl rfl HADD.out))) ?_; simp only [Act.put, List.setIfInBounds_toArray, List.set_cons_zero, List.set_cons_succ]; refine RS_take (i := 7) rfl (by decide +kernel) (fun _ _ _ h => h) (by first | (intro x hx; (repeat (first | exact hx | apply mS)); done) | ((repeat (refine List.forall_mem_cons.2 ⟨(by (repeat (first | assumption | (with_reducible exact mZ) | apply mS)); first | done | fail), ?_⟩)); intro x hx; first | (cases hx; done) | ((repeat (first | exact hx | apply mS)); done))) (stab_read (by rfl) (fun L w hL hM => (ex_load hM rfl rfl (hL _ (by (repeat (first | assumption | (with_reducible exact mZ) | apply mS)); first | done | fail)) (n := 64) (by simp [bvs_len, over_len, HZL.out]) (by decide +kernel)))) ?_; simp only [Act.put, List.setIfInBounds_toArray, List.set_cons_zero, List.set_cons_succ]; refine RS_one (i := 8) (by decide +kernel) rfl (by rfl) (.inl (by first | (intro x hx; (repeat (first | exact hx | apply mS)); done) | ((repeat (refine List.forall_mem_cons.2 ⟨(by (repeat (first | assumption | (with_reducible exact mZ) | apply mS)); first | done | fail), ?_⟩)); intro x hx; first | (cases hx; done) | ((repeat (first | exact hx | apply mS)); done)))) (fun w K hM0 hK => ?_); refine ws_update_old (key := iv64 (at_ + k)) (v := avb (pad64 s)) hM0 rfl Try.underlying54 rfl rfl rfl (by (repeat (first | (with_reducible exact Take.head) | apply Take.tail)); first | done | fail) keyed_i HK.out HP1.out (fun w hM => hK _ _ _ hM ?_); clear hM hM0 hK K; simp only [Act.put, List.setIfInBounds_toArray, List.set_cons_zero, List.set_cons_succ]; refine RS_done (by decide +kernel) (.inr (by decide +kernel)) (fun w hM => ?_))
        go_wp2
        go_roundw
        case rel => exact ⟨k + 1, by omega, by go_num, by rw [HW.out, HS.out]; exact ((hM.sel (by repeat (first | (with_reducible exact Sel.refl) | (with_reducible exact Take.head) | (with_reducible apply Take.tail) | (with_reducible apply Sel.cons) | (with_reducible apply Sel.drop))) : Star (dE a E.sure.length :: fE a E.armed E.left :: sE a E.sure :: mE a ((iv64 (at_ + k), avb (pad64 s)) :: r) :: F) _).take (x := mE a ((iv64 (at_ + k), avb (pad64 s)) :: r)) (by (repeat (first | (with_reducible exact Take.head) | apply Take.tail)); first | done | fail)).map_perm HP2.out |> fun hM => Star.djoin (D := E.put (at_ + k) (pad64 s)) (hM.sel (by repeat (first | (with_reducible exact Sel.refl) | (with_reducible exact Take.head) | (with_reducible apply Take.tail) | (with_reducible apply Sel.cons) | (with_reducible apply Sel.drop))) : Star (dE a E.sure.length :: fE a E.armed E.left :: sE a E.sure :: mE a (lmv (E.put (at_ + k) (pad64 s))) :: F) _)⟩
        case measure => simp [intOf]; omega
      · have hlf : E.l (at_ + k) = false := by simpa using hl
        have HMS : Hid (∀ p ∈ lmv E, p.1 ≠ iv64 (at_ + k)) := lmv_miss HIK.out hlf
        have HP2 := Lib.hid (lmv_put_new HEK.out HIK.out (pad64 s) hlf)
        clear hl hlf
        (refine region_RS ([dE a E.sure.length, cellsE g10 106 (bvs (over z64 s)).toArray]) [8] (by kernel_rfl) hM ?_; clear hM; change RS _ _ _ _ _ _ 9 (Array.replicate 9 false) _ _; refine RS_take (i := 0) rfl (by decide +kernel) (fun _ _ _ h => h) (by first | (intro x hx; (repeat (first | exact hx | apply mS)); done) | ((repeat (refine List.forall_mem_cons.2 ⟨(by (repeat (first | assumption | (with_reducible exact mZ) | apply mS)); first | done | fail), ?_⟩)); intro x hx; first | (cases hx; done) | ((repeat (first | exact hx | apply mS)); done))) (stab_pure (by rfl) (fun w => (by go_simp; try with_reducible rfl))) ?_; simp only [Act.put, List.setIfInBounds_toArray, List.set_cons_zero, List.set_cons_succ]; refine RS_take (i := 1) rfl (by decide +kernel) (fun _ _ _ h => h) (by first | (intro x hx; (repeat (first | exact hx | apply mS)); done) | ((repeat (refine List.forall_mem_cons.2 ⟨(by (repeat (first | assumption | (with_reducible exact mZ) | apply mS)); first | done | fail), ?_⟩)); intro x hx; first | (cases hx; done) | ((repeat (first | exact hx | apply mS)); done))) (stab_pure (by rfl) (fun w => (by go_simp; try with_reducible rfl))) ?_; simp only [Act.put, List.setIfInBounds_toArray, List.set_cons_zero, List.set_cons_succ]; refine RS_take (i := 2) rfl (by decide +kernel) (fun _ _ _ h => h) (by first | (intro x hx; (repeat (first | exact hx | apply mS)); done) | ((repeat (refine List.forall_mem_cons.2 ⟨(by (repeat (first | assumption | (with_reducible exact mZ) | apply mS)); first | done | fail), ?_⟩)); intro x hx; first | (cases hx; done) | ((repeat (first | exact hx | apply mS)); done))) (stab_pure (by rfl) (fun w => (by go_simp; try with_reducible rfl))) ?_; simp only [Act.put, List.setIfInBounds_toArray, List.set_cons_zero, List.set_cons_succ]; refine RS_take (i := 3) rfl (by decide +kernel) (fun _ _ _ h => h) (by first | (intro x hx; (repeat (first | exact hx | apply mS)); done) | ((repeat (refine List.forall_mem_cons.2 ⟨(by (repeat (first | assumption | (with_reducible exact mZ) | apply mS)); first | done | fail), ?_⟩)); intro x hx; first | (cases hx; done) | ((repeat (first | exact hx | apply mS)); done))) (stab_read (by rfl) (fun L w hL hM => (ex_load1 (v := .map (some a.m)) hM rfl rfl (hL _ (by (repeat (first | assumption | (with_reducible exact mZ) | apply mS)); first | done | fail)) rfl (by decide +kernel)))) ?_; simp only [Act.put, List.setIfInBounds_toArray, List.set_cons_zero, List.set_cons_succ]; refine RS_take (i := 4) rfl (by decide +kernel) (fun _ _ _ h => h) (by first | (intro x hx; (repeat (first | exact hx | apply mS)); done) | ((repeat (refine List.forall_mem_cons.2 ⟨(by (repeat (first | assumption | (with_reducible exact mZ) | apply mS)); first | done | fail), ?_⟩)); intro x hx; first | (cases hx; done) | ((repeat (first | exact hx | apply mS)); done))) (stab_pure (by rfl) (fun w => (by go_simp; try with_reducible rfl))) ?_; simp only [Act.put, List.setIfInBounds_toArray, List.set_cons_zero, List.set_cons_succ]; refine RS_take (i := 5) rfl (by decide +kernel) (fun _ _ _ h => h) (by first | (intro x hx; (repeat (first | exact hx | apply mS)); done) | ((repeat (refine List.forall_mem_cons.2 ⟨(by (repeat (first | assumption | (with_reducible exact mZ) | apply mS)); first | done | fail), ?_⟩)); intro x hx; first | (cases hx; done) | ((repeat (first | exact hx | apply mS)); done))) (stab_pure (by rfl) (fun w => (by go_simp; try with_reducible rfl))) ?_; simp only [Act.put, List.setIfInBounds_toArray, List.set_cons_zero, List.set_cons_succ]; refine RS_take (i := 6) rfl (by decide +kernel) (fun _ _ _ h => h) (by first | (intro x hx; (repeat (first | exact hx | apply mS)); done) | ((repeat (refine List.forall_mem_cons.2 ⟨(by (repeat (first | assumption | (with_reducible exact mZ) | apply mS)); first | done | fail), ?_⟩)); intro x hx; first | (cases hx; done) | ((repeat (first | exact hx | apply mS)); done))) (stab_read (by rfl) (fun L w hL hM => (ex_add rfl rfl rfl HADD.out))) ?_; simp only [Act.put, List.setIfInBounds_toArray, List.set_cons_zero, List.set_cons_succ]; refine RS_take (i := 7) rfl (by decide +kernel) (fun _ _ _ h => h) (by first | (intro x hx; (repeat (first | exact hx | apply mS)); done) | ((repeat (refine List.forall_mem_cons.2 ⟨(by (repeat (first | assumption | (with_reducible exact mZ) | apply mS)); first | done | fail), ?_⟩)); intro x hx; first | (cases hx; done) | ((repeat (first | exact hx | apply mS)); done))) (stab_read (by rfl) (fun L w hL hM => (ex_load hM rfl rfl (hL _ (by (repeat (first | assumption | (with_reducible exact mZ) | apply mS)); first | done | fail)) (n := 64) (by simp [bvs_len, over_len, HZL.out]) (by decide +kernel)))) ?_; simp only [Act.put, List.setIfInBounds_toArray, List.set_cons_zero, List.set_cons_succ]; refine RS_one (i := 8) (by decide +kernel) rfl (by rfl) (.inl (by first | (intro x hx; (repeat (first | exact hx | apply mS)); done) | ((repeat (refine List.forall_mem_cons.2 ⟨(by (repeat (first | assumption | (with_reducible exact mZ) | apply mS)); first | done | fail), ?_⟩)); intro x hx; first | (cases hx; done) | ((repeat (first | exact hx | apply mS)); done)))) (fun w K hM0 hK => ?_); refine ws_update_new (key := iv64 (at_ + k)) (v := avb (pad64 s)) hM0 rfl Try.underlying54 rfl rfl rfl (by (repeat (first | (with_reducible exact Take.head) | apply Take.tail)); first | done | fail) keyed_i HK.out HMS.out (fun w hM => hK _ _ _ hM ?_); clear hM hM0 hK K; simp only [Act.put, List.setIfInBounds_toArray, List.set_cons_zero, List.set_cons_succ]; refine RS_done (by decide +kernel) (.inr (by decide +kernel)) (fun w hM => ?_))
        go_wp2
        go_roundw
        case rel => exact ⟨k + 1, by omega, by go_num, by rw [HW.out, HS.out]; exact ((hM.sel (by repeat (first | (with_reducible exact Sel.refl) | (with_reducible exact Take.head) | (with_reducible apply Take.tail) | (with_reducible apply Sel.cons) | (with_reducible apply Sel.drop))) : Star (dE a E.sure.length :: fE a E.armed E.left :: sE a E.sure :: mE a ((iv64 (at_ + k), avb (pad64 s)) :: lmv E) :: F) _).take (x := mE a ((iv64 (at_ + k), avb (pad64 s)) :: lmv E)) (by (repeat (first | (with_reducible exact Take.head) | apply Take.tail)); first | done | fail)).map_perm HP2.out |> fun hM => Star.djoin (D := E.put (at_ + k) (pad64 s)) (hM.sel (by repeat (first | (with_reducible exact Sel.refl) | (with_reducible exact Take.head) | (with_reducible apply Take.tail) | (with_reducible apply Sel.cons) | (with_reducible apply Sel.drop))) : Star (dE a E.sure.length :: fE a E.armed E.left :: sE a E.sure :: mE a (lmv (E.put (at_ + k) (pad64 s))) :: F) _)⟩
        case measure => simp [intOf]; omega
    · obtain rfl : k = n := by omega
      go_wp2_with fail
      go_ret
      exact ⟨rfl, hM⟩
end
end Go.Proofs.Ytbejifbiffeamaa
set_option linter.unusedSimpArgs false
set_option linter.unusedVariables false
namespace Go.Proofs.Ytbejifbiffeamaa
open Go.RowKit
attribute [local go_sem] extract_mid extract_drop bget bsize wrap64_u8 i64_u8 u64_u8 bappend
theorem bvs_flat_set {S : List (List UInt8)} (h : ∀ b ∈ S, b.length = 64) {i : Nat} (hi : i < S.length) (b : List UInt8) : ((bvs S.flatten).take (i * 64) ++ bvs b ++ (bvs S.flatten).drop (i * 64 + 64)) = bvs (S.set i b).flatten := by
  rw [flat_set h hi, bvs_app, bvs_app, Nat.mul_comm i 64]
  simp only [bvs, List.map_take, List.map_drop]
section
variable {P : Program} {w : World} {ops : Array Oper} {o : Oper} {ac : Act} {Q : Exit → Act → World → Prop} {L R : List SProp} {K : Act → World → Prop}
theorem ws_store_sec {a : DA} (hM : Star L w) {ty : TypeId} {x y : Operand} (ho : o.op = .store ty x y) (i : Nat) {S : List (List UInt8)} {b : List UInt8} (hx : ac.eval x = .pointer (some ⟨a.g, i * 64, none⟩)) (hy : ac.eval y = avb b) (hS : ∀ b ∈ S, b.length = 64) (hi : i < S.length) (hb64 : b.length = 64) (hb : Take (sE a S) L R) (hs : (P.info? ty).map (·.size) = some 64)
    (h : ∀ w1, Star (sE a (S.set i b) :: R) w1 → K (ac.put o.dst undef) w1) : Oper.wp P o ac w K Q := by
  have hl : S.flatten.length = 64 * S.length := flat_64 hS
  refine ws_store_at hM ho hx hy hb 64 (by simp [avb, Value.cells, bvs_len, hb64]) (by rw [List.size_toArray, bvs_len, hl]; omega) hs (fun u hu => bvs_oneCell b u (by simpa [avb, Value.cells] using hu)) ?_ h
  have := bvs_flat_set hS hi b
  simp only [avb, Value.cells, List.toList_toArray]
  rw [this]
end
theorem upd_all {D : Dsk} (h : D.ok) {vis : List Nat} (hv : vis.Perm D.keys) : upd D.sure (vis.map fun i => (i, D.nw i)) = D.now := by
  have hn : ((vis.map fun i => (i, D.nw i)).map (·.1)).Nodup := by
    rw [List.map_map]
    have : ((fun x : Nat × List UInt8 => x.1) ∘ fun i => (i, D.nw i)) = id := rfl
    rw [this, List.map_id]
    exact hv.nodup_iff.2 (keys_nodup D)
  apply List.ext_getElem?
  intro j
  by_cases hj : j < D.sure.length
  · obtain ⟨g1, g2⟩ := upd_get (S := D.sure) hn j
    rw [nw_mem h hj]
    by_cases hl : D.l j = true
    · exact g1 _ (List.mem_map.2 ⟨j, hv.mem_iff.2 ((mem_keys D j).2 ⟨hj, hl⟩), rfl⟩) hj
    · have hlf : D.l j = false := by simpa using hl
      rw [g2 fun b hb => ?_, h.same j hj hlf]
      · unfold Dsk.su
        rw [List.getD_eq_getElem?_getD, List.getElem?_eq_getElem hj]
        rfl
      · obtain ⟨i, hi, e⟩ := List.mem_map.1 hb
        injection e with e _
        subst e
        have := ((mem_keys D i).1 (hv.mem_iff.1 hi)).2
        rw [hlf] at this
        cases this
  · rw [List.getElem?_eq_none (by rw [upd_len]; omega), List.getElem?_eq_none (by rw [h.ln]; omega)]
section
variable {F : List SProp} {a : DA} {D : Dsk}
set_option maxRecDepth 100000 in
theorem sync_fail (h1 : D.armed = true) (h2 : D.left = 0) (w : World) (hM : Star (diskE a D :: F) w) :
    Calls Try.prog 23 #[dptr a] w fun r w' => r = .returned (.int .i64 13) ∧ Star (diskE a D :: F) w' := by
  have HCA := Lib.hid (fun (L : List SProp) (w : World) (hM : Star (fE a D.armed D.left :: L) w) => call_bad h1 h2 w hM)
  clear h1 h2
  replace hM := hM.dopen
  go_enter Try.func23, Try.ntmps23
  go_wp2_with (first | (first | ((with_reducible refine at_load' ?_); (refine BigFrame.wpList_want (by rfl) fun K hK => ws_load1 hM rfl rfl (by (repeat (first | assumption | (with_reducible exact mZ) | apply mS)); first | done | fail) (by first | rfl | assumption) (by decide +kernel) (hK _ _ ?_); clear hK K)) | fail) | (go_at_call 52; have hM0 := hM; clear hM; (first | (with_reducible refine (HCA.out _ _ (hM0.take (x := fE a D.armed D.left) (by (repeat (first | (with_reducible exact Take.head) | apply Take.tail)); first | done | fail))).mono ?_) | fail); clear hM0; rintro _ w ⟨rfl, hM⟩))
  go_ret
  exact ⟨rfl, (hM.sel (by repeat (first | (with_reducible exact Sel.refl) | (with_reducible exact Take.head) | (with_reducible apply Take.tail) | (with_reducible apply Sel.cons) | (with_reducible apply Sel.drop))) : Star (dE a D.sure.length :: fE a D.armed D.left :: sE a D.sure :: mE a (lmv D) :: F) _).djoin⟩
abbrev encK (D : Dsk) (i : Nat) : Value × Value := (iv64 i, avb (D.nw i))
set_option maxRecDepth 100000 in
set_option maxHeartbeats 4000000 in
theorem sync_ok (h : D.ok) (hf : D.armed = true → D.left ≠ 0) (w : World) (hM : Star (diskE a D :: F) w) :
    Calls Try.prog 23 #[dptr a] w fun r w' => r = .returned (.int .i64 0) ∧ Star (diskE a (D.dec.calm D.now) :: F) w' := by
  have HCA := Lib.hid (fun (L : List SProp) (w : World) (hM : Star (fE a D.armed D.left :: L) w) => call_go D.armed D.left hf w hM)
  have HH := Lib.hid h
  have hsz := h.size
  clear hf h
  replace hM := hM.dopen
  go_enter Try.func23, Try.ntmps23
  go_wp2_with (first | (first | ((with_reducible refine at_load' ?_); (refine BigFrame.wpList_want (by rfl) fun K hK => ws_load1 hM rfl rfl (by (repeat (first | assumption | (with_reducible exact mZ) | apply mS)); first | done | fail) (by first | rfl | assumption) (by decide +kernel) (hK _ _ ?_); clear hK K)) | fail) | (go_at_call 52; have hM0 := hM; clear hM; (first | (with_reducible refine (HCA.out _ _ (hM0.take (x := fE a D.armed D.left) (by (repeat (first | (with_reducible exact Take.head) | apply Take.tail)); first | done | fail))).mono ?_) | fail); clear hM0; rintro _ w ⟨rfl, hM⟩) | (first | ((with_reducible refine at_range' ?_); (have hM0 := hM; clear hM; refine BigFrame.wpList_want (by rfl) fun K hK => ws_range_map hM0 rfl Try.underlying54 rfl (by (repeat (first | (with_reducible exact Take.head) | apply Take.tail)); first | done | fail) (fun gi w hM => hK _ _ ?_); clear hM0 hK K)) | fail))
  go_frame
  go_loopg [] D.keys.length (fun gk wx => ∃ (vis lft : List Nat), gk = lft.length ∧ Hid ((vis ++ lft).Perm D.keys) ∧ Star (rangeE Try.prog 3 a.m gi (lmv D) (lft.map (encK D)) :: dE a D.sure.length :: fE a D.armed (IntKind.i64.wrap (D.left - 1)) :: sE a (upd D.sure (vis.map fun i => (i, D.nw i))) :: F) wx)
  case atStart => exact ⟨[], D.keys, rfl, List.Perm.refl _, (hM.sel (by repeat (first | (with_reducible exact Sel.refl) | (with_reducible exact Take.head) | (with_reducible apply Take.tail) | (with_reducible apply Sel.cons) | (with_reducible apply Sel.drop))) : Star (rangeE Try.prog 3 a.m gi (lmv D) (lmv D) :: dE a D.sure.length :: fE a D.armed (IntKind.i64.wrap (D.left - 1)) :: sE a D.sure :: F) _)⟩
  case round =>
    clear hM
    obtain ⟨vis, lft, hgk, hv, hM⟩ := hrel
    have hS64 : ∀ b ∈ upd D.sure (vis.map fun i => (i, D.nw i)), b.length = 64 := upd_64 HH.out.s64 fun p hp => by
      obtain ⟨i, hi, rfl⟩ := List.mem_map.1 hp
      exact nw_len HH.out ((mem_keys D i).1 (hv.out.mem_iff.1 (List.mem_append.2 (.inl hi)))).1
    have hSl : (upd D.sure (vis.map fun i => (i, D.nw i))).length = D.sure.length := upd_len _ _
    obtain ⟨S, hS⟩ : ∃ S, S = upd D.sure (vis.map fun i => (i, D.nw i)) := ⟨_, rfl⟩
    rw [← hS] at hM hS64 hSl
    have HS := Lib.hid hS
    have HS64 := Lib.hid hS64
    have HSL := Lib.hid hSl
    clear hS hS64 hSl
    go_wp2_with (first | ((with_reducible refine at_next' ?_); have hM0 := hM; clear hM; refine BigFrame.wpList_want (by rfl) fun K hK => ws_next_enc (encK D) hM0 rfl rfl (by (repeat (first | (with_reducible exact Take.head) | apply Take.tail)); first | done | fail) (fun he w hM => hK _ _ ?_) (fun i lft' w hp hM => hK _ _ ?_); clear hM0 hK K; rotate_left; have HNL := Lib.hid (nw_len HH.out ((mem_keys D i).1 (hv.out.mem_iff.1 (List.mem_append.2 (.inr (hp.mem_iff.2 List.mem_cons_self))))).1); rotate_left) | (first | ((with_reducible refine at_load' ?_); (refine BigFrame.wpList_want (by rfl) fun K hK => ws_load1 hM rfl rfl (by (repeat (first | assumption | (with_reducible exact mZ) | apply mS)); first | done | fail) (by first | rfl | assumption) (by decide +kernel) (hK _ _ ?_); clear hK K)) | fail) | (first | ((with_reducible refine at_call' ?_); (have hM0 := hM; clear hM; refine BigFrame.wpList_want (by rfl) fun K hK => ws_clear_map hM0 rfl Try.underlying54 rfl (by (repeat (first | (with_reducible exact Take.head) | apply Take.tail)); first | done | fail) (fun w hM => hK _ _ ?_); clear hM0 hK K)) | fail) | (first | ((with_reducible refine at_entry' ?_); (refine BigFrame.wpList_want (by rfl) fun K hK => ws_of_ex (ex_entry hM rfl rfl (by (repeat (first | assumption | (with_reducible exact mZ) | apply mS)); first | done | fail)) (hK _ _ ?_); clear hK K)) | fail) | (first | ((with_reducible refine at_alloc' ?_); (have hM0 := hM; clear hM; refine BigFrame.wpList_want (by rfl) fun K hK => ws_alloc hM0 (t := 106) rfl (bvs z64).toArray info_blkz (fun g5 w hM => hK _ _ ?_); clear hM0 hK K)) | fail) | (first | ((with_reducible refine at_store' ?_); (have hM0 := hM; clear hM; refine BigFrame.wpList_want (by rfl) fun K hK => ws_store hM0 rfl rfl rfl (by (repeat (first | (with_reducible exact Take.head) | apply Take.tail)); first | done | fail) (n := 64) (by simp [bvs_len, HNL.out]) (by rfl) (by kernel_rfl) (by simpa using bvs_oneCell _) (fun w hM => hK _ _ ?_); clear hM0 hK K)) | fail))
    · go_ret
      subst he
      have hup := upd_all HH.out (by simpa using hv.out)
      rw [← HS.out] at hup
      refine ⟨rfl, ?_⟩
      have hM3 : Star (dE a D.sure.length :: fE a D.armed (IntKind.i64.wrap (D.left - 1)) :: sE a S :: mE a [] :: F) _ := hM.sel (by repeat (first | (with_reducible exact Sel.refl) | (with_reducible exact Take.head) | (with_reducible apply Take.tail) | (with_reducible apply Sel.cons) | (with_reducible apply Sel.drop)))
      rw [hup] at hM3
      refine Star.djoin (D := D.dec.calm D.now) ?_
      rw [calm_lmv]
      show Star (dE a D.now.length :: fE a D.armed (IntKind.i64.wrap (D.left - 1)) :: sE a D.now :: mE a [] :: F) _
      rw [HH.out.ln]
      exact hM3
    · have HP1 := Lib.hid hp
      have hik : i ∈ D.keys := hv.out.mem_iff.1 (List.mem_append.2 (.inr (hp.mem_iff.2 List.mem_cons_self)))
      have hin := ((mem_keys D i).1 hik).1
      have hiI : (i : Int) < (D.sure.length : Int) := by omega
      have HIS : Hid (i < S.length) := by show _ < _; rw [HSL.out]; exact hin
      have HNX : Hid (upd D.sure ((vis ++ [i]).map fun i => (i, D.nw i)) = S.set i (D.nw i)) := by show _ = _; rw [List.map_append, HS.out]; exact upd_snoc _ _ _
      clear hp hik hin
      (refine region_RS ([dE a D.sure.length, cellsE g5 106 (bvs (D.nw i)).toArray]) [7] (by kernel_rfl) hM ?_; clear hM; change RS _ _ _ _ _ _ 8 (Array.replicate 8 false) _ _; refine RS_take (i := 0) rfl (by decide +kernel) (fun _ _ _ h => h) (by first | (intro x hx; (repeat (first | exact hx | apply mS)); done) | ((repeat (refine List.forall_mem_cons.2 ⟨(by (repeat (first | assumption | (with_reducible exact mZ) | apply mS)); first | done | fail), ?_⟩)); intro x hx; first | (cases hx; done) | ((repeat (first | exact hx | apply mS)); done))) (stab_pure (by rfl) (fun w => (by go_simp; try with_reducible rfl))) ?_; simp only [Act.put, List.setIfInBounds_toArray, List.set_cons_zero, List.set_cons_succ]; refine RS_take (i := 1) rfl (by decide +kernel) (fun _ _ _ h => h) (by first | (intro x hx; (repeat (first | exact hx | apply mS)); done) | ((repeat (refine List.forall_mem_cons.2 ⟨(by (repeat (first | assumption | (with_reducible exact mZ) | apply mS)); first | done | fail), ?_⟩)); intro x hx; first | (cases hx; done) | ((repeat (first | exact hx | apply mS)); done))) (stab_pure (by rfl) (fun w => (by go_simp; try with_reducible rfl))) ?_; simp only [Act.put, List.setIfInBounds_toArray, List.set_cons_zero, List.set_cons_succ]; refine RS_take (i := 2) rfl (by decide +kernel) (fun _ _ _ h => h) (by first | (intro x hx; (repeat (first | exact hx | apply mS)); done) | ((repeat (refine List.forall_mem_cons.2 ⟨(by (repeat (first | assumption | (with_reducible exact mZ) | apply mS)); first | done | fail), ?_⟩)); intro x hx; first | (cases hx; done) | ((repeat (first | exact hx | apply mS)); done))) (stab_pure (by rfl) (fun w => (by go_simp; try with_reducible rfl))) ?_; simp only [Act.put, List.setIfInBounds_toArray, List.set_cons_zero, List.set_cons_succ]; refine RS_take (i := 3) rfl (by decide +kernel) (fun _ _ _ h => h) (by first | (intro x hx; (repeat (first | exact hx | apply mS)); done) | ((repeat (refine List.forall_mem_cons.2 ⟨(by (repeat (first | assumption | (with_reducible exact mZ) | apply mS)); first | done | fail), ?_⟩)); intro x hx; first | (cases hx; done) | ((repeat (first | exact hx | apply mS)); done))) (stab_read (by rfl) (fun L w hL hM => (ex_load1 (v := .slice (some ⟨a.g, 0, none⟩) D.sure.length D.sure.length) hM rfl rfl (hL _ (by (repeat (first | assumption | (with_reducible exact mZ) | apply mS)); first | done | fail)) rfl (by decide +kernel)))) ?_; simp only [Act.put, List.setIfInBounds_toArray, List.set_cons_zero, List.set_cons_succ]; refine RS_take (i := 4) rfl (by decide +kernel) (fun _ _ _ h => h) (by first | (intro x hx; (repeat (first | exact hx | apply mS)); done) | ((repeat (refine List.forall_mem_cons.2 ⟨(by (repeat (first | assumption | (with_reducible exact mZ) | apply mS)); first | done | fail), ?_⟩)); intro x hx; first | (cases hx; done) | ((repeat (first | exact hx | apply mS)); done))) (stab_pure (by rfl) (fun w => (by go_simp; try with_reducible rfl))) ?_; simp only [Act.put, List.setIfInBounds_toArray, List.set_cons_zero, List.set_cons_succ]; refine RS_take (i := 5) rfl (by decide +kernel) (fun _ _ _ h => h) (by first | (intro x hx; (repeat (first | exact hx | apply mS)); done) | ((repeat (refine List.forall_mem_cons.2 ⟨(by (repeat (first | assumption | (with_reducible exact mZ) | apply mS)); first | done | fail), ?_⟩)); intro x hx; first | (cases hx; done) | ((repeat (first | exact hx | apply mS)); done))) (stab_read (by rfl) (fun L w hL hM => (ex_load hM rfl rfl (hL _ (by (repeat (first | assumption | (with_reducible exact mZ) | apply mS)); first | done | fail)) (n := 64) (by simp [bvs_len, HNL.out]) (by decide +kernel)))) ?_; simp only [Act.put, List.setIfInBounds_toArray, List.set_cons_zero, List.set_cons_succ]; refine RS_take (i := 6) rfl (by decide +kernel) (fun _ _ _ h => h) (by first | (intro x hx; (repeat (first | exact hx | apply mS)); done) | ((repeat (refine List.forall_mem_cons.2 ⟨(by (repeat (first | assumption | (with_reducible exact mZ) | apply mS)); first | done | fail), ?_⟩)); intro x hx; first | (cases hx; done) | ((repeat (first | exact hx | apply mS)); done))) (stab_pure (by rfl) (fun w => (by go_simp; try with_reducible rfl))) ?_; simp only [Act.put, List.setIfInBounds_toArray, List.set_cons_zero, List.set_cons_succ]; refine RS_one (i := 7) (by decide +kernel) rfl (by rfl) (.inl (by first | (intro x hx; (repeat (first | exact hx | apply mS)); done) | ((repeat (refine List.forall_mem_cons.2 ⟨(by (repeat (first | assumption | (with_reducible exact mZ) | apply mS)); first | done | fail), ?_⟩)); intro x hx; first | (cases hx; done) | ((repeat (first | exact hx | apply mS)); done)))) (fun w K hM0 hK => ?_); refine ws_store_sec hM0 rfl i rfl rfl HS64.out HIS.out HNL.out (by (repeat (first | (with_reducible exact Take.head) | apply Take.tail)); first | done | fail) (by kernel_rfl) (fun w hM => hK _ _ _ hM ?_); clear hM hM0 hK K; simp only [Act.put, List.setIfInBounds_toArray, List.set_cons_zero, List.set_cons_succ]; refine RS_done (by decide +kernel) (.inr (by decide +kernel)) (fun w hM => ?_))
      go_wp2
      go_roundg lft'.length
      case measure => have := HP1.out.length_eq; simp at this; omega
      case rel =>
        have hM3 : Star (entryE Try.prog 3 a.m gi (lmv D) (lft'.map (encK D)) (iv64 i) (avb (D.nw i)) :: dE a D.sure.length :: fE a D.armed (IntKind.i64.wrap (D.left - 1)) :: sE a (S.set i (D.nw i)) :: F) _ := hM.sel (by repeat (first | (with_reducible exact Sel.refl) | (with_reducible exact Take.head) | (with_reducible apply Take.tail) | (with_reducible apply Sel.cons) | (with_reducible apply Sel.drop)))
        refine ⟨vis ++ [i], lft', rfl, ?_, ?_⟩
        · show List.Perm _ _
          rw [List.append_assoc]
          exact (HP1.out.symm.append_left vis).trans hv.out
        · rw [HNX.out]
          exact hM3.range_of_entry
end
end Go.Proofs.Ytbejifbiffeamaa
set_option linter.unusedSimpArgs false
set_option linter.unusedVariables false
namespace Go.Proofs.Ytbejifbiffeamaa
open Go.RowKit Go.Maps Go.Sort Go.Shelf
def shKeysA_ren : Go.Shelf.Ren := ⟨fun | 7 => 55 | 10 => 77 | n => n, fun | 23 => 54 | 26 => 3 | 3 => 106 | 28 => 111 | 0 => 0 | 27 => 110 | 33 => 132 | 4 => 4 | n => n, fun | n => n⟩
theorem shKeysA : Go.Proofs.SlLaysZI.n7 Try.prog shKeysA_ren := {
  mixed := by kernel_rfl
  f7 := ⟨Try.f55.name, by decide, Try.func55.trans (congrArg some (by kernel_rfl))⟩
  f10 := ⟨Try.f77.name, by decide, Try.func77.trans (congrArg some (by kernel_rfl))⟩
  t0 := Try.underlying0
  a0 := Try.isAgg0
  z0 := Try.sizeOf0
  v0 := Try.zeroValue0
  t4 := Try.underlying4
  a4 := Try.isAgg4
  z4 := Try.sizeOf4
  v4 := Try.zeroValue4
  t23 := Try.underlying54
  a23 := Try.isAgg54
  z23 := Try.sizeOf54
  v23 := Try.zeroValue54
  t26 := Try.underlying3
  a26 := Try.isAgg3
  z26 := Try.sizeOf3
  v26 := Try.zeroValue3
  t27 := Try.underlying110
  a27 := Try.isAgg110
  z27 := Try.sizeOf110
  v27 := Try.zeroValue110
  t28 := Try.underlying111
  a28 := Try.isAgg111
  z28 := Try.sizeOf111
  v28 := Try.zeroValue111
  t33 := Try.underlying132
  a33 := Try.isAgg132
  z33 := Try.sizeOf132
  v33 := Try.zeroValue132 }
def shSorted_ren : Go.Shelf.Ren := ⟨fun | 6 => 54 | 8 => 75 | 9 => 76 | 11 => 82 | 13 => 84 | 12 => 83 | 23 => 94 | 24 => 95 | 14 => 85 | 15 => 86 | 16 => 87 | 17 => 88 | 18 => 89 | 19 => 90 | 20 => 91 | 21 => 92 | 22 => 93 | 25 => 96 | 26 => 97 | 27 => 98 | 28 => 99 | 29 => 100 | 30 => 101 | 31 => 102 | n => n, fun | 26 => 3 | 28 => 111 | 24 => 23 | 0 => 0 | 3 => 3 | 37 => 140 | 48 => 149 | 50 => 151 | 4 => 4 | 40 => 143 | 39 => 142 | 45 => 97 | 5 => 5 | 9 => 9 | 51 => 152 | 55 => 156 | 57 => 158 | 58 => 159 | 33 => 132 | n => n, fun | n => n⟩
theorem shSorted : Go.Proofs.SlLaysZI.n6 Try.prog shSorted_ren := {
  mixed := by kernel_rfl
  f6 := ⟨Try.f54.name, by decide, Try.func54.trans (congrArg some (by kernel_rfl))⟩
  f8 := ⟨Try.f75.name, by decide, Try.func75.trans (congrArg some (by kernel_rfl))⟩
  f11 := ⟨Try.f82.name, by decide, Try.func82.trans (congrArg some (by kernel_rfl))⟩
  t0 := Try.underlying0
  a0 := Try.isAgg0
  z0 := Try.sizeOf0
  v0 := Try.zeroValue0
  t24 := Try.underlying23
  a24 := Try.isAgg23
  z24 := Try.sizeOf23
  v24 := Try.zeroValue23
  t26 := Try.underlying3
  a26 := Try.isAgg3
  z26 := Try.sizeOf3
  v26 := Try.zeroValue3
  t28 := Try.underlying111
  a28 := Try.isAgg111
  z28 := Try.sizeOf111
  v28 := Try.zeroValue111
  i26 := by kernel_rfl }
def shSort_ren : Go.Shelf.Ren := ⟨fun | 5 => 76 | 8 => 84 | 7 => 83 | 19 => 94 | 20 => 95 | 10 => 85 | 11 => 86 | 12 => 87 | 13 => 88 | 14 => 89 | 15 => 90 | 16 => 91 | 17 => 92 | 18 => 93 | 30 => 96 | 31 => 97 | 32 => 98 | 33 => 99 | 34 => 100 | 35 => 101 | 40 => 102 | n => n, fun | 23 => 23 | 25 => 3 | 3 => 3 | 32 => 140 | 22 => 23 | 0 => 0 | 44 => 149 | 46 => 151 | 4 => 4 | 36 => 143 | 35 => 142 | 41 => 97 | 5 => 5 | 9 => 9 | 53 => 152 | 57 => 156 | 63 => 158 | 64 => 159 | n => n, fun | n => n⟩
theorem shSort : Go.Proofs.SlLaysM.n5 Try.prog shSort_ren := {
  mixed := by kernel_rfl
  f5 := ⟨Try.f76.name, by decide, Try.func76.trans (congrArg some (by kernel_rfl))⟩
  f7 := ⟨Try.f83.name, by decide, Try.func83.trans (congrArg some (by kernel_rfl))⟩
  f8 := Try.func84.trans (congrArg some (by kernel_rfl))
  f10 := ⟨Try.f85.name, by decide, Try.func85.trans (congrArg some (by kernel_rfl))⟩
  f11 := ⟨Try.f86.name, by decide, Try.func86.trans (congrArg some (by kernel_rfl))⟩
  f12 := ⟨Try.f87.name, by decide, Try.func87.trans (congrArg some (by kernel_rfl))⟩
  f13 := ⟨Try.f88.name, by decide, Try.func88.trans (congrArg some (by kernel_rfl))⟩
  f14 := ⟨Try.f89.name, by decide, Try.func89.trans (congrArg some (by kernel_rfl))⟩
  f15 := ⟨Try.f90.name, by decide, Try.func90.trans (congrArg some (by kernel_rfl))⟩
  f16 := ⟨Try.f91.name, by decide, Try.func91.trans (congrArg some (by kernel_rfl))⟩
  f17 := ⟨Try.f92.name, by decide, Try.func92.trans (congrArg some (by kernel_rfl))⟩
  f18 := ⟨Try.f93.name, by decide, Try.func93.trans (congrArg some (by kernel_rfl))⟩
  f19 := Try.func94.trans (congrArg some (by kernel_rfl))
  f20 := Try.func95.trans (congrArg some (by kernel_rfl))
  f30 := ⟨Try.f96.name, by decide, Try.func96.trans (congrArg some (by kernel_rfl))⟩
  f31 := Try.func97.trans (congrArg some (by kernel_rfl))
  f32 := Try.func98.trans (congrArg some (by kernel_rfl))
  f33 := ⟨Try.f99.name, by decide, Try.func99.trans (congrArg some (by kernel_rfl))⟩
  f34 := ⟨Try.f100.name, by decide, Try.func100.trans (congrArg some (by kernel_rfl))⟩
  f35 := ⟨Try.f101.name, by decide, Try.func101.trans (congrArg some (by kernel_rfl))⟩
  f40 := ⟨Try.f102.name, by decide, Try.func102.trans (congrArg some (by kernel_rfl))⟩
  t0 := Try.underlying0
  a0 := Try.isAgg0
  z0 := Try.sizeOf0
  v0 := Try.zeroValue0
  t3 := Try.underlying3
  a3 := Try.isAgg3
  z3 := Try.sizeOf3
  v3 := Try.zeroValue3
  t4 := Try.underlying4
  a4 := Try.isAgg4
  z4 := Try.sizeOf4
  v4 := Try.zeroValue4
  t5 := Try.underlying5
  a5 := Try.isAgg5
  z5 := Try.sizeOf5
  v5 := Try.zeroValue5
  t9 := Try.underlying9
  a9 := Try.isAgg9
  z9 := Try.sizeOf9
  v9 := Try.zeroValue9
  t22 := Try.underlying23
  a22 := Try.isAgg23
  z22 := Try.sizeOf23
  v22 := Try.zeroValue23
  t23 := Try.underlying23
  a23 := Try.isAgg23
  z23 := Try.sizeOf23
  v23 := Try.zeroValue23
  t25 := Try.underlying3
  a25 := Try.isAgg3
  z25 := Try.sizeOf3
  v25 := Try.zeroValue3
  t32 := Try.underlying140
  a32 := Try.isAgg140
  z32 := Try.sizeOf140
  v32 := Try.zeroValue140
  t35 := Try.underlying142
  a35 := Try.isAgg142
  z35 := Try.sizeOf142
  v35 := Try.zeroValue142
  t36 := Try.underlying143
  a36 := Try.isAgg143
  z36 := Try.sizeOf143
  v36 := Try.zeroValue143
  t41 := Try.underlying97
  a41 := Try.isAgg97
  z41 := Try.sizeOf97
  v41 := Try.zeroValue97
  t44 := Try.underlying149
  a44 := Try.isAgg149
  z44 := Try.sizeOf149
  v44 := Try.zeroValue149
  t46 := Try.underlying151
  a46 := Try.isAgg151
  z46 := Try.sizeOf151
  v46 := Try.zeroValue151
  t53 := Try.underlying152
  a53 := Try.isAgg152
  z53 := Try.sizeOf152
  v53 := Try.zeroValue152
  t57 := Try.underlying156
  a57 := Try.isAgg156
  z57 := Try.sizeOf156
  v57 := Try.zeroValue156
  t63 := Try.underlying158
  a63 := Try.isAgg158
  z63 := Try.sizeOf158
  v63 := Try.zeroValue158
  t64 := Try.underlying159
  a64 := Try.isAgg159
  z64 := Try.sizeOf159
  v64 := Try.zeroValue159 }
theorem shSorts (m : Nat) : AnyZI.SortsIn Try.prog shSorted_ren Fence.wide m :=
  ⟨fun blk off cap ss W hH hblk hsz => callsIn_wide.2 (AnyM.slices_Sort_int shSort blk off cap ss W hH hblk hsz),
   fun p cap W => callsIn_wide.2 (AnyM.slices_Sort_int_none shSort p cap W)⟩
theorem keys_A (mb : Option Nat) (W : World) : Calls Try.prog 55 #[.map mb] W fun e w' => e = .returned (.func (.func 77) #[] #[.pointer (some ⟨W.heap.size, 0, none⟩)]) ∧ w' = W.alloc (.cells #[.map mb] 54) :=
  (callsIn_wide (n := 5)).1 (AnyZI.keys_in shKeysA Fence.wide 5 trivial rfl mb W)
set_option maxHeartbeats 1000000 in
theorem sorted_A {H : Type} (b nn : Nat) (D0 : DataW H) (R : Value → Option (DataW H × List MemPlace)) (w : World) (hown : w.ownsMap Try.prog 3 R b nn D0) (hmax : Maps.size D0 ≤ maxLen) (hbytes : Maps.size D0 * 8 ≤ 140737488355328) :
    Calls Try.prog 54 #[.func (.func 77) #[] #[.pointer (some ⟨w.heap.size, 0, none⟩)]] (w.alloc (.cells #[.map (some b)] 54)) fun e w' => ∃ (v : Value) (ss : List Int), e = .returned v ∧ ss.Perm (intKeys D0) ∧
      w'.ownsRow (w.alloc (.cells #[.map (some b)] 54)).heap.size 3 1 v ss.length ((ss.mergeSort (fun x y => decide (x ≤ y))).map encZ) ∧ (v = .slice none 0 0 ↔ ss = []) ∧ Below (w.alloc (.cells #[.map (some b)] 54)).heap.size (w.alloc (.cells #[.map (some b)] 54)) w' := by
  refine (callsIn_wide (n := 5)).1 ?_
  have hbl := hown.lt
  have hseq : SeqGives Fence.wide 2 Try.prog 77 #[.pointer (some ⟨w.heap.size, 0, none⟩)] encZ (fun ss => ss.Perm (intKeys D0)) (Maps.size D0) (w.alloc (.cells #[.map (some b)] 54)) :=
    AnyZI.keys_gives (ρ := shKeysA_ren) { shKeysA with } Fence.wide _ trivial rfl (by omega) w.heap.size b nn D0 _ (by simp) (by simp) (by
      obtain ⟨es, clock, hb, Ft, hs, hD⟩ := hown
      exact ⟨es, clock, (Below.heap_alloc _ _ b hbl).trans hb, Ft, hs, hD⟩)
  exact AnyZI.sorted_in shSorted Fence.wide 5 trivial trivial trivial trivial rfl (by omega) (shSorts _) (enters_of Try.func76 (by kernel_rfl) rfl) 77 #[.pointer (some ⟨w.heap.size, 0, none⟩)] trivial (enters_of Try.func77 (by kernel_rfl) rfl) _ _ hmax hbytes _ hseq
end Go.Proofs.Ytbejifbiffeamaa
set_option linter.unusedSimpArgs false
set_option linter.unusedVariables false
namespace Go.Proofs.Ytbejifbiffeamaa
open Go.RowKit Go.Maps Go.Sort Go.Shelf
abbrev R1 : Value → Option (DataW Unit × List MemPlace) := fun _ => some (.lit (.bool true), [])
theorem own_of_map {P : Program} {k : TypeId} {w : World} {b : Nat} {ks : List Int} {f : Int → Value} (hk : P.underlying k = some (.int .i64)) (h : (mapE P k b (ks.map fun i => (.int .i64 i, f i))).holds w) (hl : ks.length ≤ maxLen) :
    ∃ D0 : DataW Unit, w.ownsMap P k R1 b ks.length D0 ∧ Maps.size D0 = ks.length ∧ (intKeys D0).Perm ks := by
  obtain ⟨es, clock, h1, h2, h3, h4⟩ := h
  have hn : es.size = ks.length := by have := h4.length_eq; simpa using this
  refine ⟨_, ⟨es, clock, h1, ⟨by omega, h2, fun x hx => ?_⟩, by omega, rfl⟩, ?_, ?_⟩
  · obtain ⟨l, hl⟩ := h3 x hx
    exact ⟨_, WideElems.rd_mk hl rfl⟩
  · show ((es.toList.map (WideElems.rg P k R1)).foldr DataW.insert []).length = _
    rw [(WideShapes.sorted_perm _).length_eq]
    simp [hn]
  · show (((es.toList.map (WideElems.rg P k R1)).foldr DataW.insert []).map fun p => Go.intOf p.1).Perm ks
    refine ((WideShapes.sorted_perm _).map _).trans ?_
    rw [List.map_map]
    have h5 : (es.toList.map ((fun p => Go.intOf p.1) ∘ WideElems.rg P k R1)) = (es.toList.map fun e => (e.key, e.val)).map fun p => (match p.1 with | .int _ a => a | _ => 0) := by
      rw [List.map_map]
      refine List.map_congr_left fun x hx => ?_
      obtain ⟨l, hl⟩ := h3 x hx
      obtain ⟨i, e1, e2, _⟩ := Maps.keyOf_i64 hk hl
      have hr1 : WideElems.rd P k R1 x = some (l, .lit (.bool true)) := WideElems.rd_mk (R := R1) (yv := (.lit (.bool true), [])) (val := x.val) (born := x.born) hl rfl
      have hr : WideElems.rg P k R1 x = (l, .lit (.bool true)) := WideElems.rg_of hr1
      simp only [Function.comp, hr, e2, e1, Go.intOf]
    rw [h5]
    refine (h4.map _).trans ?_
    rw [List.map_map]
    have : ((fun p : Value × Value => (match p.1 with | .int _ a => a | _ => 0 : Int)) ∘ fun i => (Value.int .i64 i, f i)) = id := rfl
    rw [this, List.map_id]
theorem sort_rises {ks : List Int} (h : ks.Pairwise (· < ·)) {ss : List Int} (hp : ss.Perm ks) : ss.mergeSort (fun x y => decide (x ≤ y)) = ks := by
  rw [mergeSort_of_perm_i hp]
  exact List.mergeSort_of_pairwise (h.imp fun {a b} hab => by simp; omega)
theorem ch_of_below {w w' : World} (h : Below w.heap.size w w') : Ch [] w w' := ⟨h.os, h.tape, h.output, h.size, fun k hk _ => h.block k hk⟩
theorem rows_star {e : TypeId} {L : List SProp} {w w' : World} {v : Value} {n : Nat} {l : List Int} (hM : Star L w) (hb : Below w.heap.size w w') (hr : w'.ownsRow w.heap.size e 1 v n (l.map encZ)) : ∃ A c, v = .slice A n c ∧ Star (rowE 1 A n (ivs l) :: L) w' := by
  have hx : ivs l = l.map encZ := rfl
  rcases hr.2 with ⟨h1, h2⟩ | ⟨g, cap, cur, h1, _⟩
  · subst h2
    exact ⟨none, 0, h1, by rw [hx]; exact (hM.mk_own (ch_of_below hb) (h1 ▸ hr)).freeze⟩
  · exact ⟨some ⟨g, 0, none⟩, cap, h1, by rw [hx]; exact (hM.mk_own (ch_of_below hb) (h1 ▸ hr)).freeze⟩
/-- Where maps.Keys has been called: the map, what lay there before. -/
def SortReady (P : Program) (T : TypeId) (b g : Nat) (ks : List Int) (L : List SProp) (w : World) : Prop := ∃ (w0 : World) (f : Int → Value), w = w0.alloc (.cells #[.map (some b)] T) ∧ g = w0.heap.size ∧ Star L w0 ∧ mapE P 3 b (ks.map fun i => (.int .i64 i, f i)) ∈ L
theorem keysA_star {L : List SProp} {b : Nat} {ks : List Int} {f : Int → Value} (w : World) (hM : Star L w) (hx : mapE Try.prog 3 b (ks.map fun i => (.int .i64 i, f i)) ∈ L) :
    Calls Try.prog 55 #[.map (some b)] w fun r w' => ∃ g, r = .returned (.func (.func 77) #[] #[.pointer (some ⟨g, 0, none⟩)]) ∧ Hid (SortReady Try.prog 54 b g ks L w') ∧ Star L w' :=
  (keys_A (some b) w).mono fun _ _ ⟨e, h⟩ => ⟨_, e, ⟨w, f, h, rfl, hM, hx⟩, h ▸ hM.step ((Ch.refl _ _).alloc _)⟩
theorem sortA_star {L : List SProp} {b g : Nat} {ks : List Int} (hs : ks.Pairwise (· < ·)) (hl : ks.length ≤ 1000000) (w : World) (hS : SortReady Try.prog 54 b g ks L w) :
    Calls Try.prog 54 #[.func (.func 77) #[] #[.pointer (some ⟨g, 0, none⟩)]] w fun r w' => ∃ A c, r = .returned (.slice A ks.length c) ∧ Star (rowE 1 A ks.length (ivs ks) :: L) w' := by
  obtain ⟨w0, f, rfl, rfl, hM, hx⟩ := hS
  obtain ⟨D0, hown, hsz, hp⟩ := own_of_map Try.underlying3 (hM.all _ hx) (by unfold maxLen; omega)
  have hM1 : Star L (w0.alloc (.cells #[.map (some b)] 54)) := hM.step ((Ch.refl _ _).alloc _)
  refine (sorted_A b _ D0 R1 w0 hown (by rw [hsz]; unfold maxLen; omega) (by rw [hsz]; omega)).mono fun r w' ⟨v, ss, e, h1, h2, _, h4⟩ => ?_
  have hks := sort_rises hs (h1.trans hp)
  have hlen : ss.length = ks.length := (h1.trans hp).length_eq
  rw [hks, hlen] at h2
  obtain ⟨A, c, hv, hR⟩ := rows_star hM1 h4 h2
  exact ⟨A, c, by rw [e, hv], hR⟩
end Go.Proofs.Ytbejifbiffeamaa
set_option linter.unusedSimpArgs false
set_option linter.unusedVariables false
namespace Go.Proofs.Ytbejifbiffeamaa
open Go.RowKit
section
variable {P : Program} {ops : Array Oper} {Q : Exit → Act → World → Prop}
variable {o : Oper} {a : Act} {w : World} {K : Act → World → Prop}
end
theorem run_copy_row {P : Program} (w : World) (dT sT ty elem : TypeId) (g off n c : Nat) (t : TypeId) (old : Array Value) (ad : Addr) (c2 : Nat) (news : List Value)
    (hu : P.underlying dT = some (.slice elem)) (hs : (P.info? elem).map (·.size) = some 1) (hn : news.length = n) (hc : ∀ j u, news[j]? = some u → w.cell? (ad.add j) = some u)
    (hg : Blk w g t old) (hfit : off + n ≤ old.size) (h1 : ∀ u ∈ news, u.oneCell' = true) :
    (Builtin.copy_ #[dT, sT] ty #[.slice (some ⟨g, off, none⟩) n c, .slice (some ad) n c2]).run P w = .ok (goInt n) (w.setRow g (old.toList.take off ++ news ++ old.toList.drop (off + news.length)).toArray) := by
  subst hn
  have hl := run_loadCells_list (P := P) w ad news hc
  have hst := run_storeCells_at P g off t news 0 old w hg (by simpa using hfit) h1
  cases hq : P.info? elem with
  | none => simp [hq] at hs
  | some i =>
    have hi : i.size = 1 := by simpa [hq] using hs
    have hm : Nat.min news.length news.length = news.length := Nat.min_self _
    simp only [Nat.add_zero] at hst
    simp [Builtin.copy_, run_underlying hu, Builtin.lenOf, Builtin.firstCells, sizeOf, typeInfo, hq, hi, hm, hl, hst]
end Go.Proofs.Ytbejifbiffeamaa
set_option linter.unusedSimpArgs false
set_option linter.unusedVariables false
namespace Go.Proofs.Ytbejifbiffeamaa
open Go.RowKit
attribute [local go_sem] extract_mid extract_drop bget bsize wrap64_u8 i64_u8 u64_u8 bappend
def ksI (D : Dsk) : List Int := D.keys.map fun i : Nat => (i : Int)
theorem ksI_len (D : Dsk) : (ksI D).length = D.keys.length := by simp [ksI]
theorem ksI_rises (D : Dsk) : (ksI D).Pairwise (· < ·) := by
  unfold ksI
  rw [List.pairwise_map]
  exact (keys_sorted D).imp fun {a b} h => by omega
theorem lmv_ks (D : Dsk) : lmv D = (ksI D).map fun i => (.int .i64 i, avb (D.nw i.toNat)) := by
  unfold lmv ksI
  rw [List.map_map]
  rfl
theorem bvs_flat_part {S : List (List UInt8)} (h : ∀ b ∈ S, b.length = 64) {i n : Nat} (hi : i < S.length) (hn : n ≤ 64) {b : List UInt8} (hb : b.length = 64) :
    ((bvs S.flatten).take (i * 64) ++ bvs (b.take n) ++ (bvs S.flatten).drop (i * 64 + (bvs (b.take n)).length)) = bvs (S.set i (b.take n ++ (S.getD i []).drop n)).flatten := by
  obtain ⟨e, hl⟩ := flat_cut h hi
  have h64 : S[i].length = 64 := h _ (List.getElem_mem hi)
  have hg : S.getD i [] = S[i] := by rw [List.getD_eq_getElem?_getD, List.getElem?_eq_getElem hi]; rfl
  have hbn : (bvs (b.take n)).length = n := by rw [bvs_len, List.length_take]; omega
  have e1 : S.flatten.take (i * 64) = (S.take i).flatten := by rw [e, List.append_assoc, List.take_append_of_le_length (by omega), List.take_of_length_le (by omega)]
  have e2 : S.flatten.drop (i * 64 + n) = S[i].drop n ++ (S.drop (i + 1)).flatten := by
    rw [e, List.append_assoc, List.drop_append, List.drop_of_length_le (by omega), List.nil_append, List.drop_append_of_le_length (by omega), show i * 64 + n - (S.take i).flatten.length = n by omega]
  have e3 : (S.set i (b.take n ++ (S.getD i []).drop n)).flatten = (S.take i).flatten ++ (b.take n ++ S[i].drop n) ++ (S.drop (i + 1)).flatten := by
    rw [hg, List.set_eq_take_append_cons_drop, if_pos hi]
    simp
  rw [hbn, e3, ← e1]
  have e4 : (bvs S.flatten).drop (i * 64 + n) = bvs (S[i].drop n ++ (S.drop (i + 1)).flatten) := by rw [← e2]; simp only [bvs, List.map_drop]
  rw [e4]
  simp only [bvs, List.map_append, List.map_take, List.append_assoc]
section
variable {P : Program} {w : World} {ops : Array Oper} {o : Oper} {ac : Act} {Q : Exit → Act → World → Prop} {L R : List SProp} {K : Act → World → Prop}
theorem ws_copy_sec {a : DA} (hM : Star L w) {d s : Operand} {dT sT : TypeId} (ho : o.op = .call { callee := .builtin .copy, args := #[d, s], argTypes := #[dT, sT] }) (elem : TypeId) (hu : P.underlying dT = some (.slice elem)) (hs : (P.info? elem).map (·.size) = some 1) (i n : Nat) {c c2 g7 : Nat} {t7 : TypeId} {S : List (List UInt8)} {b : List UInt8} (hd : ac.eval d = .slice (some ⟨a.g, i * 64, none⟩) n c) (hx : ac.eval s = .slice (some ⟨g7, 0, none⟩) n c2) (h7 : cellsE g7 t7 (bvs b).toArray ∈ L) (hS : ∀ b ∈ S, b.length = 64) (hi : i < S.length) (hb64 : b.length = 64) (hn : n ≤ 64) (hb : Take (sE a S) L R)
    (h : ∀ w1, Star (sE a (S.set i (b.take n ++ (S.getD i []).drop n)) :: R) w1 → K (ac.put o.dst (goInt n)) w1) : Oper.wp P o ac w K Q := by
  have hB : Blk w a.g 106 (bvs S.flatten).toArray := (hM.take hb).head
  have h7b := hM.blk h7
  have hl : S.flatten.length = 64 * S.length := flat_64 hS
  have hbn : (bvs (b.take n)).length = n := by rw [bvs_len, List.length_take]; omega
  have hrun := run_copy_row (P := P) w dT sT o.type elem a.g (i * 64) n c 106 (bvs S.flatten).toArray ⟨g7, 0, none⟩ c2 (bvs (b.take n)) hu hs hbn (fun j u hj => by
    rw [add_lit, Nat.zero_add, h7b.cell]
    have hj2 : j < n := by have := (List.getElem?_eq_some_iff.1 hj).1; omega
    simp only [bvs, List.map_take, List.getElem?_take, hj2, if_true] at hj
    simpa [bvs] using hj) hB (by rw [List.size_toArray, bvs_len, hl]; omega) (fun u hu => bvs_oneCell _ u hu)
  have hcs := bvs_flat_part hS hi hn hb64
  rw [List.toList_toArray, hcs] at hrun
  unfold Oper.wp
  simp only [execOp, ho, resolve, invoke, builtin, Sem.run_bind, Sem.run_pure, Result.andThen_ok, List.map_toArray, List.map_cons, List.map_nil, hd, hx, hrun]
  exact h _ ((hM.take hb).put (bs := [a.g]) rfl (setRow_ch w a.g _) (fun b hb => .inl (List.mem_singleton.1 hb)) (setRow_blk hB _) fun k hk => .inl hk)
end
/-- The first n elements of an array. -/
theorem ex_slice_arr {P : Program} {w : World} {o : Oper} {ac : Act} {t e : TypeId} {x y : Operand} (ho : o.op = .slice t x none (some y) none) {N : Nat} (ht : P.underlying t = some (.array N e)) (hs : (P.info? e).map (·.size) = some 1) {ad : Addr} (hx : ac.eval x = .pointer (some ad)) (hN : 0 < N) {n : Nat} (hy : ac.eval y = .int .i64 (n : Int)) (hn : n ≤ N) :
    (execOp ac.eval o).run P w = .ok (.value (.slice (some ad) n N)) w := by
  have hr : (Instr.sliceAt t (.pointer (some ad)) none (some (.int .i64 (n : Int))) none).run P w = .ok (.slice (some ad) n N) w := by
    obtain ⟨j, hj, hj1⟩ : ∃ j, P.info? e = some j ∧ j.size = 1 := by
      cases h : P.info? e with
      | none => rw [h] at hs; cases hs
      | some j => rw [h] at hs; exact ⟨j, rfl, by simpa using hs⟩
    have h2 : (n : Int) ≤ (N : Int) := by omega
    simp [Instr.sliceAt, Instr.sureAddr, Instr.sliceBounds, Instr.sliceBound, go_sem, run_underlying ht, sizeOf, typeInfo, hj, asIntOf, h2, hn]
  unfold execOp
  simp only [ho, hx, hy, Option.map_none, Option.map_some, hr, Sem.run_bind, Sem.run_pure, Result.andThen_ok]
/-- How many bytes of the j-th loose sector are kept. -/
def chN (ch : List Int) (j : Nat) : Nat := match ch[j]? with
  | some x => if 64 < (if x < 0 then (0 : Int) else x) then 64 else (if x < 0 then (0 : Int) else x).toNat
  | none => 0
theorem chN_le (ch : List Int) (j : Nat) : chN ch j ≤ 64 := by
  have h : ∀ y : Int, (if 64 < y then 64 else y.toNat) ≤ 64 := fun y => by split <;> omega
  unfold chN
  split
  · exact h _
  · omega
def crB (D : Dsk) (ch : List Int) (i j : Nat) : List UInt8 := (D.nw i).take (chN ch j) ++ (D.su i).drop (chN ch j)
def crL (D : Dsk) (ch : List Int) : List (Nat × List UInt8) := D.keys.zipIdx.map fun p => (p.1, crB D ch p.1 p.2)
/-- Behind a crash. -/
def crD (D : Dsk) (ch : List Int) : Dsk := { D.calm (upd D.sure (crL D ch)) with armed := false }
theorem crL_len (D : Dsk) (ch : List Int) : (crL D ch).length = D.keys.length := by simp [crL]
theorem crL_fst (D : Dsk) (ch : List Int) : (crL D ch).map (·.1) = D.keys := by
  unfold crL
  rw [List.map_map]
  exact List.zipIdx_map_fst 0 D.keys
theorem crL_get {D : Dsk} {ch : List Int} {k i : Nat} (h : D.keys[k]? = some i) : (crL D ch)[k]? = some (i, crB D ch i k) := by
  unfold crL
  rw [List.getElem?_map, List.getElem?_zipIdx, h]
  simp
theorem crB_len {D : Dsk} (h : D.ok) (ch : List Int) {i : Nat} (hi : i < D.sure.length) (j : Nat) : (crB D ch i j).length = 64 := by
  have h1 := nw_len h hi
  have h2 := su_len h hi
  have h3 := chN_le ch j
  unfold crB
  rw [List.length_append, List.length_take, List.length_drop]
  omega
theorem crL_64 {D : Dsk} (h : D.ok) (ch : List Int) : ∀ p ∈ crL D ch, p.2.length = 64 := by
  intro p hp
  obtain ⟨q, hq, rfl⟩ := List.mem_map.1 hp
  have hk : q.1 ∈ D.keys := by
    have h9 : q.1 ∈ D.keys.zipIdx.map Prod.fst := List.mem_map.2 ⟨q, hq, rfl⟩
    rwa [List.zipIdx_map_fst] at h9
  exact crB_len h ch ((mem_keys D _).1 hk).1 _
theorem crD_ok {D : Dsk} (h : D.ok) (ch : List Int) : (crD D ch).ok := by
  have h1 := calm_ok h (s := upd D.sure (crL D ch)) (upd_64 h.s64 (crL_64 h ch)) (upd_len _ _)
  exact ⟨h1.ln, h1.ll, h1.s64, h1.n64, h1.same, h1.size, h1.i64a, h1.i64b, fun e => by cases e⟩
section
variable {F : List SProp} {a : DA} {D : Dsk}
set_option maxRecDepth 100000 in
set_option maxHeartbeats 2000000 in
theorem loose_d (h : D.ok) (w : World) (hM : Star (diskE a D :: F) w) :
    Calls Try.prog 26 #[dptr a] w fun r w' => ∃ A c, r = .returned (.slice A D.keys.length c) ∧ Star (rowE 1 A D.keys.length (ivs (ksI D)) :: diskE a D :: F) w' := by
  have hkl := keys_le D
  have hsz := h.size
  have HR := Lib.hid (ksI_rises D)
  have HKL := Lib.hid (ksI_len D)
  replace hM := hM.dopen
  have HB : Hid ((ksI D).length ≤ 1000000) := by show _ ≤ _; rw [ksI_len]; omega
  have hLM := lmv_ks D
  obtain ⟨ks, hks⟩ : ∃ ks, ks = ksI D := ⟨_, rfl⟩
  rw [← hks] at HR HKL HB hLM
  rw [hLM] at hM
  have HLM := Lib.hid hLM
  have HKS := Lib.hid hks
  clear hLM hks h hkl
  go_enter Try.func26, Try.ntmps26
  go_wp2_with (first | (first | ((with_reducible refine at_load' ?_); (refine BigFrame.wpList_want (by rfl) fun K hK => ws_load1 hM rfl rfl (by (repeat (first | assumption | (with_reducible exact mZ) | apply mS)); first | done | fail) (by first | rfl | assumption) (by decide +kernel) (hK _ _ ?_); clear hK K)) | fail) | (go_at_call 55; have hM0 := hM; clear hM; (first | (with_reducible refine (keysA_star _ hM0 (by (repeat (first | assumption | (with_reducible exact mZ) | apply mS)); first | done | fail)).mono ?_) | fail); clear hM0; rintro _ w ⟨g, rfl, hSR, hM⟩) | (go_at_call 54; have hM0 := hM; clear hM; (first | (with_reducible refine (sortA_star HR.out HB.out _ hSR.out).mono ?_) | fail); clear hM0; rintro _ w ⟨A, c, rfl, hM⟩))
  go_ret
  have hM3 : Star (rowE 1 A ks.length (ivs ks) :: dE a D.sure.length :: fE a D.armed D.left :: sE a D.sure :: mE a (ks.map fun i => (.int .i64 i, avb (D.nw i.toNat))) :: F) _ := hM.sel (by repeat (first | (with_reducible exact Sel.refl) | (with_reducible exact Take.head) | (with_reducible apply Take.tail) | (with_reducible apply Sel.cons) | (with_reducible apply Sel.drop)))
  rw [← HLM.out, HKL.out] at hM3
  rw [HKL.out]
  refine ⟨A, c, rfl, ?_⟩
  rw [← HKS.out]
  exact (Star.djoin (D := D) (hM3.sel (by repeat (first | (with_reducible exact Sel.refl) | (with_reducible exact Take.head) | (with_reducible apply Take.tail) | (with_reducible apply Sel.cons) | (with_reducible apply Sel.drop))) : Star (dE a D.sure.length :: fE a D.armed D.left :: sE a D.sure :: mE a (lmv D) :: rowE 1 A D.keys.length (ivs ks) :: F) _)).sel (by repeat (first | (with_reducible exact Sel.refl) | (with_reducible exact Take.head) | (with_reducible apply Take.tail) | (with_reducible apply Sel.cons) | (with_reducible apply Sel.drop)))
set_option maxRecDepth 100000 in
set_option maxHeartbeats 4000000 in
theorem crash_d (h : D.ok) {ch : List Int} {CA : Option Addr} {cn cc : Nat} (hcn : cn ≤ 9223372036854775807) (hch : ∀ x ∈ ch, -9223372036854775808 ≤ x ∧ x ≤ 9223372036854775807) (w : World) (hM : Star (diskE a D :: F) w) (hF : rowE 1 CA cn (ivs ch) ∈ F) :
    Calls Try.prog 25 #[dptr a, .slice CA cn cc] w fun r w' => r = .returned (.tuple #[]) ∧ Star (diskE a (crD D ch) :: F) w' := by
  have hsz := h.size
  have hkl := keys_le D
  have HH := Lib.hid h
  have HCH := Lib.hid hch
  have HCL : Hid (ch.length = cn) := by have h9 := (hM.row (A := CA) (n := cn) (xs := ivs ch) (List.mem_cons_of_mem _ hF)).1; rw [ivs_len, Nat.mul_one] at h9; exact h9
  obtain ⟨N, hN⟩ : ∃ N, D.keys.length = N := ⟨_, rfl⟩
  have HL : Hid (∀ (L : List SProp) (w : World), Star (diskE a D :: L) w → Calls Try.prog 26 #[dptr a] w fun r w' => ∃ A c, r = .returned (.slice A N c) ∧ Star (rowE 1 A N (ivs (ksI D)) :: dE a D.sure.length :: fE a D.armed D.left :: sE a D.sure :: mE a (lmv D) :: L) w') := fun L w hM => by
    have := loose_d h w hM
    rw [hN] at this
    exact this.mono fun _ _ ⟨A, c, e, h⟩ => ⟨A, c, e, (h.take (.tail .head)).dopen.sel (by repeat (first | (with_reducible exact Sel.refl) | (with_reducible exact Take.head) | (with_reducible apply Take.tail) | (with_reducible apply Sel.cons) | (with_reducible apply Sel.drop)))⟩
  have HN := Lib.hid hN
  rw [hN] at hkl
  clear h hch hN
  go_enter Try.func25, Try.ntmps25
  go_wp2_with (first | (go_at_call 26; have hM0 := hM; clear hM; (first | (with_reducible refine (HL.out _ _ hM0).mono ?_) | fail); clear hM0; rintro _ w ⟨A, c, rfl, hM⟩))
  go_loopw [11] (fun i wr => ∃ k : Nat, k ≤ N ∧ i = .int .i64 k ∧ Star (rowE 1 A N (ivs (ksI D)) :: dE a D.sure.length :: fE a D.armed D.left :: sE a (upd D.sure ((crL D ch).take k)) :: mE a (lmv D) :: F) wr) (fun i _ => N - (intOf i).toNat)
  case atStart => exact ⟨0, by omega, rfl, (hM.sel (by repeat (first | (with_reducible exact Sel.refl) | (with_reducible exact Take.head) | (with_reducible apply Take.tail) | (with_reducible apply Sel.cons) | (with_reducible apply Sel.drop))) : Star (rowE 1 A N (ivs (ksI D)) :: dE a D.sure.length :: fE a D.armed D.left :: sE a D.sure :: mE a (lmv D) :: F) _)⟩
  case round =>
    clear hM
    obtain ⟨k, hk, rfl, hM⟩ := hrel
    by_cases hlt : k < N
    · obtain ⟨ad, ki, rfl, hv, hg, _⟩ := hM.elemI (A := A) (n := N) (l := ksI D) (by (repeat (first | assumption | (with_reducible exact mZ) | apply mS)); first | done | fail) hlt
      obtain ⟨i, hi, rfl⟩ : ∃ i, D.keys[k]? = some i ∧ ki = (i : Int) := by
        unfold ksI at hg
        rw [List.getElem?_map] at hg
        obtain ⟨i, h1, h2⟩ := Option.map_eq_some_iff.1 hg
        exact ⟨i, h1, h2.symm⟩
      have hik := (mem_keys D i).1 (List.mem_of_getElem? hi)
      have hin := hik.1
      have hiI : (i : Int) < (D.sure.length : Int) := by omega
      have HK := Lib.hid (int_key i (by omega))
      have HHIT := Lib.hid (lmv_hit hik.1 hik.2)
      have HNL := Lib.hid (nw_len HH.out hin)
      have HG := Lib.hid (crL_get (ch := ch) hi)
      have hS64 : ∀ b ∈ upd D.sure ((crL D ch).take k), b.length = 64 := upd_64 HH.out.s64 fun p hp => crL_64 HH.out ch p (List.mem_of_mem_take hp)
      have hSl : (upd D.sure ((crL D ch).take k)).length = D.sure.length := upd_len _ _
      have hSi : (upd D.sure ((crL D ch).take k)).getD i [] = D.su i := by
        have hnd : (((crL D ch).take k).map (·.1)).Nodup := by
          rw [List.map_take, crL_fst]
          exact (keys_nodup D).sublist (List.take_sublist _ _)
        have h2 := (upd_get (S := D.sure) hnd i).2 fun b hb => by
          have h3 : i ∈ (D.keys.take k) := by
            rw [← crL_fst D ch, ← List.map_take]
            exact List.mem_map.2 ⟨_, hb, rfl⟩
          obtain ⟨j, hj, hje⟩ := List.mem_iff_getElem.1 h3
          rw [List.length_take] at hj
          have h4 : D.keys[j]? = some i := by
            rw [List.getElem_take] at hje
            rw [List.getElem?_eq_getElem (by omega), hje]
          have := (List.getElem?_inj (by omega) (keys_nodup D)).1 (h4.trans hi.symm)
          omega
        rw [List.getD_eq_getElem?_getD, h2]
        rfl
      obtain ⟨S, hS⟩ : ∃ S, S = upd D.sure ((crL D ch).take k) := ⟨_, rfl⟩
      rw [← hS] at hM hS64 hSl hSi
      have HS64 := Lib.hid hS64
      have HIS : Hid (i < S.length) := by show _ < _; omega
      have HNX : Hid (upd D.sure ((crL D ch).take (k + 1)) = S.set i ((D.nw i).take (chN ch k) ++ (S.getD i []).drop (chN ch k))) := by
        show _ = _
        rw [take_snoc_at _ _ _ HG.out, upd_snoc, hSi, hS]
        rfl
      have hn64 := chN_le ch k
      obtain ⟨n, hn⟩ : ∃ n, n = chN ch k := ⟨_, rfl⟩
      rw [← hn] at HNX hn64
      clear hS hS64 hSl hSi hg hi hik
      have HN64 := Lib.hid hn64
      by_cases hkc : k < cn
      · obtain ⟨adP, p, rfl, hpc, hpg, _⟩ := hM.elemI (A := CA) (n := cn) (l := ch) (List.mem_cons_of_mem _ (List.mem_cons_of_mem _ (List.mem_cons_of_mem _ (List.mem_cons_of_mem _ (List.mem_cons_of_mem _ hF))))) hkc
        have hpok := HCH.out p (List.mem_of_getElem? hpg)
        obtain ⟨m1, hm1⟩ : ∃ m1 : Int, (if p < 0 then (0 : Int) else p) = m1 := ⟨_, rfl⟩
        have hm2 : (if 64 < m1 then (64 : Int) else m1) = (n : Int) := by
          rw [hn]
          unfold chN
          rw [hpg]
          simp only [hm1]
          have : 0 ≤ m1 := by rw [← hm1]; split <;> omega
          split <;> omega
        have hm3 : min (max p 0) 64 = (n : Int) := by rw [← hm2, ← hm1]; split <;> split <;> omega
        have hkcI : (k : Int) < (cn : Int) := by omega
        clear hn hpg
        go_wp2_with (first | (first | ((with_reducible refine at_load' ?_); (refine BigFrame.wpList_want (by rfl) fun K hK => ws_rowload rfl rfl (by first | (apply Star.row hM; (repeat (first | assumption | (with_reducible exact mZ) | apply mS)); done) | (apply Star.own hM; (repeat (first | assumption | (with_reducible exact mZ) | apply mS)); done) | (apply Star.arr hM; (focus ((repeat (first | assumption | (with_reducible exact mZ) | apply mS)); done)); assumption)) (by assumption) (by kernel_rfl) (hK _ _ ?_); clear hK K)) | fail) | (first | ((with_reducible refine at_load' ?_); (refine BigFrame.wpList_want (by rfl) fun K hK => ws_load1 hM rfl rfl (by (repeat (first | assumption | (with_reducible exact mZ) | apply mS)); first | done | fail) (by first | rfl | assumption) (by decide +kernel) (hK _ _ ?_); clear hK K)) | fail) | (first | ((with_reducible refine at_lookup' ?_); (refine BigFrame.wpList_want (by rfl) fun K hK => ws_of_ex (ex_hit1 (key := iv64 i) hM rfl Try.underlying54 rfl rfl (by (repeat (first | assumption | (with_reducible exact mZ) | apply mS)); first | done | fail) keyed_i HK.out HHIT.out) (hK _ _ ?_); clear hK K)) | fail) | (first | ((with_reducible refine at_alloc' ?_); (have hM0 := hM; clear hM; refine BigFrame.wpList_want (by rfl) fun K hK => ws_alloc hM0 (t := 106) rfl (bvs z64).toArray info_blkz (fun g7 w hM => hK _ _ ?_); clear hM0 hK K)) | fail) | (first | ((with_reducible refine at_store' ?_); (have hM0 := hM; clear hM; refine BigFrame.wpList_want (by rfl) fun K hK => ws_store hM0 rfl rfl rfl (by (repeat (first | (with_reducible exact Take.head) | apply Take.tail)); first | done | fail) (n := 64) (by simp [bvs_len, HNL.out]) (by rfl) (by kernel_rfl) (by simpa using bvs_oneCell _) (fun w hM => hK _ _ ?_); clear hM0 hK K)) | fail))
        (refine region_RS ([dE a D.sure.length, cellsE g7 106 (bvs (D.nw i)).toArray]) [10] (by kernel_rfl) hM ?_; clear hM; change RS _ _ _ _ _ _ 11 (Array.replicate 11 false) _ _; refine RS_take (i := 0) rfl (by decide +kernel) (fun _ _ _ h => h) (by first | (intro x hx; (repeat (first | exact hx | apply mS)); done) | ((repeat (refine List.forall_mem_cons.2 ⟨(by (repeat (first | assumption | (with_reducible exact mZ) | apply mS)); first | done | fail), ?_⟩)); intro x hx; first | (cases hx; done) | ((repeat (first | exact hx | apply mS)); done))) (stab_pure (by rfl) (fun w => (by go_simp; try with_reducible rfl))) ?_; simp only [Act.put, List.setIfInBounds_toArray, List.set_cons_zero, List.set_cons_succ]; refine RS_take (i := 1) rfl (by decide +kernel) (fun _ _ _ h => h) (by first | (intro x hx; (repeat (first | exact hx | apply mS)); done) | ((repeat (refine List.forall_mem_cons.2 ⟨(by (repeat (first | assumption | (with_reducible exact mZ) | apply mS)); first | done | fail), ?_⟩)); intro x hx; first | (cases hx; done) | ((repeat (first | exact hx | apply mS)); done))) (stab_pure (by rfl) (fun w => (by go_simp; try with_reducible rfl))) ?_; simp only [Act.put, List.setIfInBounds_toArray, List.set_cons_zero, List.set_cons_succ]; refine RS_take (i := 2) rfl (by decide +kernel) (fun _ _ _ h => h) (by first | (intro x hx; (repeat (first | exact hx | apply mS)); done) | ((repeat (refine List.forall_mem_cons.2 ⟨(by (repeat (first | assumption | (with_reducible exact mZ) | apply mS)); first | done | fail), ?_⟩)); intro x hx; first | (cases hx; done) | ((repeat (first | exact hx | apply mS)); done))) (stab_pure (by rfl) (fun w => (by go_simp; try with_reducible rfl))) ?_; simp only [Act.put, List.setIfInBounds_toArray, List.set_cons_zero, List.set_cons_succ]; refine RS_take (i := 3) rfl (by decide +kernel) (fun _ _ _ h => h) (by first | (intro x hx; (repeat (first | exact hx | apply mS)); done) | ((repeat (refine List.forall_mem_cons.2 ⟨(by (repeat (first | assumption | (with_reducible exact mZ) | apply mS)); first | done | fail), ?_⟩)); intro x hx; first | (cases hx; done) | ((repeat (first | exact hx | apply mS)); done))) (stab_read (by rfl) (fun L w hL hM => (ex_load1 (v := .slice (some ⟨a.g, 0, none⟩) D.sure.length D.sure.length) hM rfl rfl (hL _ (by (repeat (first | assumption | (with_reducible exact mZ) | apply mS)); first | done | fail)) rfl (by decide +kernel)))) ?_; simp only [Act.put, List.setIfInBounds_toArray, List.set_cons_zero, List.set_cons_succ]; refine RS_take (i := 4) rfl (by decide +kernel) (fun _ _ _ h => h) (by first | (intro x hx; (repeat (first | exact hx | apply mS)); done) | ((repeat (refine List.forall_mem_cons.2 ⟨(by (repeat (first | assumption | (with_reducible exact mZ) | apply mS)); first | done | fail), ?_⟩)); intro x hx; first | (cases hx; done) | ((repeat (first | exact hx | apply mS)); done))) (stab_pure (by rfl) (fun w => (by go_simp; try with_reducible rfl))) ?_; simp only [Act.put, List.setIfInBounds_toArray, List.set_cons_zero, List.set_cons_succ]; refine RS_take (i := 5) rfl (by decide +kernel) (fun _ _ _ h => h) (by first | (intro x hx; (repeat (first | exact hx | apply mS)); done) | ((repeat (refine List.forall_mem_cons.2 ⟨(by (repeat (first | assumption | (with_reducible exact mZ) | apply mS)); first | done | fail), ?_⟩)); intro x hx; first | (cases hx; done) | ((repeat (first | exact hx | apply mS)); done))) (stab_pure (by rfl) (fun w => (by go_simp; try with_reducible rfl))) ?_; simp only [Act.put, List.setIfInBounds_toArray, List.set_cons_zero, List.set_cons_succ]; refine RS_take (i := 6) rfl (by decide +kernel) (fun _ _ _ h => h) (by first | (intro x hx; (repeat (first | exact hx | apply mS)); done) | ((repeat (refine List.forall_mem_cons.2 ⟨(by (repeat (first | assumption | (with_reducible exact mZ) | apply mS)); first | done | fail), ?_⟩)); intro x hx; first | (cases hx; done) | ((repeat (first | exact hx | apply mS)); done))) (stab_pure (by rfl) (fun w => (by go_simp; try with_reducible rfl))) ?_; simp only [Act.put, List.setIfInBounds_toArray, List.set_cons_zero, List.set_cons_succ]; refine RS_take (i := 7) rfl (by decide +kernel) (fun _ _ _ h => h) (by first | (intro x hx; (repeat (first | exact hx | apply mS)); done) | ((repeat (refine List.forall_mem_cons.2 ⟨(by (repeat (first | assumption | (with_reducible exact mZ) | apply mS)); first | done | fail), ?_⟩)); intro x hx; first | (cases hx; done) | ((repeat (first | exact hx | apply mS)); done))) (stab_read (by rfl) (fun L w hL hM => (ex_slice_arr rfl Try.underlying106 (by kernel_rfl) rfl (by decide) rfl HN64.out))) ?_; simp only [Act.put, List.setIfInBounds_toArray, List.set_cons_zero, List.set_cons_succ]; refine RS_take (i := 8) rfl (by decide +kernel) (fun _ _ _ h => h) (by first | (intro x hx; (repeat (first | exact hx | apply mS)); done) | ((repeat (refine List.forall_mem_cons.2 ⟨(by (repeat (first | assumption | (with_reducible exact mZ) | apply mS)); first | done | fail), ?_⟩)); intro x hx; first | (cases hx; done) | ((repeat (first | exact hx | apply mS)); done))) (stab_pure (by rfl) (fun w => (by go_simp; try with_reducible rfl))) ?_; simp only [Act.put, List.setIfInBounds_toArray, List.set_cons_zero, List.set_cons_succ]; refine RS_take (i := 9) rfl (by decide +kernel) (fun _ _ _ h => h) (by first | (intro x hx; (repeat (first | exact hx | apply mS)); done) | ((repeat (refine List.forall_mem_cons.2 ⟨(by (repeat (first | assumption | (with_reducible exact mZ) | apply mS)); first | done | fail), ?_⟩)); intro x hx; first | (cases hx; done) | ((repeat (first | exact hx | apply mS)); done))) (stab_read (by rfl) (fun L w hL hM => (ex_slice_arr rfl Try.underlying106 (by kernel_rfl) rfl (by decide) rfl HN64.out))) ?_; simp only [Act.put, List.setIfInBounds_toArray, List.set_cons_zero, List.set_cons_succ]; refine RS_one (i := 10) (by decide +kernel) rfl (by rfl) (.inl (by first | (intro x hx; (repeat (first | exact hx | apply mS)); done) | ((repeat (refine List.forall_mem_cons.2 ⟨(by (repeat (first | assumption | (with_reducible exact mZ) | apply mS)); first | done | fail), ?_⟩)); intro x hx; first | (cases hx; done) | ((repeat (first | exact hx | apply mS)); done)))) (fun w K hM0 hK => ?_); refine ws_copy_sec hM0 rfl 5 Try.underlying107 (by kernel_rfl) i n rfl rfl (by (repeat (first | assumption | (with_reducible exact mZ) | apply mS)); first | done | fail) HS64.out HIS.out HNL.out HN64.out (by (repeat (first | (with_reducible exact Take.head) | apply Take.tail)); first | done | fail) (fun w hM => hK _ _ _ hM ?_); clear hM hM0 hK K; simp only [Act.put, List.setIfInBounds_toArray, List.set_cons_zero, List.set_cons_succ]; refine RS_done (by decide +kernel) (.inr (by decide +kernel)) (fun w hM => ?_))
        go_wp2
        go_roundw
        case rel => exact ⟨k + 1, by omega, by go_num, by rw [HNX.out]; exact hM.sel (by repeat (first | (with_reducible exact Sel.refl) | (with_reducible exact Take.head) | (with_reducible apply Take.tail) | (with_reducible apply Sel.cons) | (with_reducible apply Sel.drop)))⟩
        case measure => simp [intOf]; omega
      · have hz : n = 0 := by
          rw [hn]
          unfold chN
          rw [List.getElem?_eq_none (by rw [HCL.out]; omega)]
        subst hz
        have hkcI : decide ((k : Int) < (cn : Int)) = false := by simp; omega
        clear hn
        go_wp2_with (first | (first | ((with_reducible refine at_load' ?_); (refine BigFrame.wpList_want (by rfl) fun K hK => ws_rowload rfl rfl (by first | (apply Star.row hM; (repeat (first | assumption | (with_reducible exact mZ) | apply mS)); done) | (apply Star.own hM; (repeat (first | assumption | (with_reducible exact mZ) | apply mS)); done) | (apply Star.arr hM; (focus ((repeat (first | assumption | (with_reducible exact mZ) | apply mS)); done)); assumption)) (by assumption) (by kernel_rfl) (hK _ _ ?_); clear hK K)) | fail) | (first | ((with_reducible refine at_load' ?_); (refine BigFrame.wpList_want (by rfl) fun K hK => ws_load1 hM rfl rfl (by (repeat (first | assumption | (with_reducible exact mZ) | apply mS)); first | done | fail) (by first | rfl | assumption) (by decide +kernel) (hK _ _ ?_); clear hK K)) | fail) | (first | ((with_reducible refine at_lookup' ?_); (refine BigFrame.wpList_want (by rfl) fun K hK => ws_of_ex (ex_hit1 (key := iv64 i) hM rfl Try.underlying54 rfl rfl (by (repeat (first | assumption | (with_reducible exact mZ) | apply mS)); first | done | fail) keyed_i HK.out HHIT.out) (hK _ _ ?_); clear hK K)) | fail) | (first | ((with_reducible refine at_alloc' ?_); (have hM0 := hM; clear hM; refine BigFrame.wpList_want (by rfl) fun K hK => ws_alloc hM0 (t := 106) rfl (bvs z64).toArray info_blkz (fun g7 w hM => hK _ _ ?_); clear hM0 hK K)) | fail) | (first | ((with_reducible refine at_store' ?_); (have hM0 := hM; clear hM; refine BigFrame.wpList_want (by rfl) fun K hK => ws_store hM0 rfl rfl rfl (by (repeat (first | (with_reducible exact Take.head) | apply Take.tail)); first | done | fail) (n := 64) (by simp [bvs_len, HNL.out]) (by rfl) (by kernel_rfl) (by simpa using bvs_oneCell _) (fun w hM => hK _ _ ?_); clear hM0 hK K)) | fail))
        (refine region_RS ([dE a D.sure.length, cellsE g7 106 (bvs (D.nw i)).toArray]) [10] (by kernel_rfl) hM ?_; clear hM; change RS _ _ _ _ _ _ 11 (Array.replicate 11 false) _ _; refine RS_take (i := 0) rfl (by decide +kernel) (fun _ _ _ h => h) (by first | (intro x hx; (repeat (first | exact hx | apply mS)); done) | ((repeat (refine List.forall_mem_cons.2 ⟨(by (repeat (first | assumption | (with_reducible exact mZ) | apply mS)); first | done | fail), ?_⟩)); intro x hx; first | (cases hx; done) | ((repeat (first | exact hx | apply mS)); done))) (stab_pure (by rfl) (fun w => (by go_simp; try with_reducible rfl))) ?_; simp only [Act.put, List.setIfInBounds_toArray, List.set_cons_zero, List.set_cons_succ]; refine RS_take (i := 1) rfl (by decide +kernel) (fun _ _ _ h => h) (by first | (intro x hx; (repeat (first | exact hx | apply mS)); done) | ((repeat (refine List.forall_mem_cons.2 ⟨(by (repeat (first | assumption | (with_reducible exact mZ) | apply mS)); first | done | fail), ?_⟩)); intro x hx; first | (cases hx; done) | ((repeat (first | exact hx | apply mS)); done))) (stab_pure (by rfl) (fun w => (by go_simp; try with_reducible rfl))) ?_; simp only [Act.put, List.setIfInBounds_toArray, List.set_cons_zero, List.set_cons_succ]; refine RS_take (i := 2) rfl (by decide +kernel) (fun _ _ _ h => h) (by first | (intro x hx; (repeat (first | exact hx | apply mS)); done) | ((repeat (refine List.forall_mem_cons.2 ⟨(by (repeat (first | assumption | (with_reducible exact mZ) | apply mS)); first | done | fail), ?_⟩)); intro x hx; first | (cases hx; done) | ((repeat (first | exact hx | apply mS)); done))) (stab_pure (by rfl) (fun w => (by go_simp; try with_reducible rfl))) ?_; simp only [Act.put, List.setIfInBounds_toArray, List.set_cons_zero, List.set_cons_succ]; refine RS_take (i := 3) rfl (by decide +kernel) (fun _ _ _ h => h) (by first | (intro x hx; (repeat (first | exact hx | apply mS)); done) | ((repeat (refine List.forall_mem_cons.2 ⟨(by (repeat (first | assumption | (with_reducible exact mZ) | apply mS)); first | done | fail), ?_⟩)); intro x hx; first | (cases hx; done) | ((repeat (first | exact hx | apply mS)); done))) (stab_read (by rfl) (fun L w hL hM => (ex_load1 (v := .slice (some ⟨a.g, 0, none⟩) D.sure.length D.sure.length) hM rfl rfl (hL _ (by (repeat (first | assumption | (with_reducible exact mZ) | apply mS)); first | done | fail)) rfl (by decide +kernel)))) ?_; simp only [Act.put, List.setIfInBounds_toArray, List.set_cons_zero, List.set_cons_succ]; refine RS_take (i := 4) rfl (by decide +kernel) (fun _ _ _ h => h) (by first | (intro x hx; (repeat (first | exact hx | apply mS)); done) | ((repeat (refine List.forall_mem_cons.2 ⟨(by (repeat (first | assumption | (with_reducible exact mZ) | apply mS)); first | done | fail), ?_⟩)); intro x hx; first | (cases hx; done) | ((repeat (first | exact hx | apply mS)); done))) (stab_pure (by rfl) (fun w => (by go_simp; try with_reducible rfl))) ?_; simp only [Act.put, List.setIfInBounds_toArray, List.set_cons_zero, List.set_cons_succ]; refine RS_take (i := 5) rfl (by decide +kernel) (fun _ _ _ h => h) (by first | (intro x hx; (repeat (first | exact hx | apply mS)); done) | ((repeat (refine List.forall_mem_cons.2 ⟨(by (repeat (first | assumption | (with_reducible exact mZ) | apply mS)); first | done | fail), ?_⟩)); intro x hx; first | (cases hx; done) | ((repeat (first | exact hx | apply mS)); done))) (stab_pure (by rfl) (fun w => (by go_simp; try with_reducible rfl))) ?_; simp only [Act.put, List.setIfInBounds_toArray, List.set_cons_zero, List.set_cons_succ]; refine RS_take (i := 6) rfl (by decide +kernel) (fun _ _ _ h => h) (by first | (intro x hx; (repeat (first | exact hx | apply mS)); done) | ((repeat (refine List.forall_mem_cons.2 ⟨(by (repeat (first | assumption | (with_reducible exact mZ) | apply mS)); first | done | fail), ?_⟩)); intro x hx; first | (cases hx; done) | ((repeat (first | exact hx | apply mS)); done))) (stab_pure (by rfl) (fun w => (by go_simp; try with_reducible rfl))) ?_; simp only [Act.put, List.setIfInBounds_toArray, List.set_cons_zero, List.set_cons_succ]; refine RS_take (i := 7) rfl (by decide +kernel) (fun _ _ _ h => h) (by first | (intro x hx; (repeat (first | exact hx | apply mS)); done) | ((repeat (refine List.forall_mem_cons.2 ⟨(by (repeat (first | assumption | (with_reducible exact mZ) | apply mS)); first | done | fail), ?_⟩)); intro x hx; first | (cases hx; done) | ((repeat (first | exact hx | apply mS)); done))) (stab_pure (by rfl) (fun w => (by go_simp; try with_reducible rfl))) ?_; simp only [Act.put, List.setIfInBounds_toArray, List.set_cons_zero, List.set_cons_succ]; refine RS_take (i := 8) rfl (by decide +kernel) (fun _ _ _ h => h) (by first | (intro x hx; (repeat (first | exact hx | apply mS)); done) | ((repeat (refine List.forall_mem_cons.2 ⟨(by (repeat (first | assumption | (with_reducible exact mZ) | apply mS)); first | done | fail), ?_⟩)); intro x hx; first | (cases hx; done) | ((repeat (first | exact hx | apply mS)); done))) (stab_pure (by rfl) (fun w => (by go_simp; try with_reducible rfl))) ?_; simp only [Act.put, List.setIfInBounds_toArray, List.set_cons_zero, List.set_cons_succ]; refine RS_take (i := 9) rfl (by decide +kernel) (fun _ _ _ h => h) (by first | (intro x hx; (repeat (first | exact hx | apply mS)); done) | ((repeat (refine List.forall_mem_cons.2 ⟨(by (repeat (first | assumption | (with_reducible exact mZ) | apply mS)); first | done | fail), ?_⟩)); intro x hx; first | (cases hx; done) | ((repeat (first | exact hx | apply mS)); done))) (stab_pure (by rfl) (fun w => (by go_simp; try with_reducible rfl))) ?_; simp only [Act.put, List.setIfInBounds_toArray, List.set_cons_zero, List.set_cons_succ]; refine RS_one (i := 10) (by decide +kernel) rfl (by rfl) (.inl (by first | (intro x hx; (repeat (first | exact hx | apply mS)); done) | ((repeat (refine List.forall_mem_cons.2 ⟨(by (repeat (first | assumption | (with_reducible exact mZ) | apply mS)); first | done | fail), ?_⟩)); intro x hx; first | (cases hx; done) | ((repeat (first | exact hx | apply mS)); done)))) (fun w K hM0 hK => ?_); refine ws_copy_sec hM0 rfl 5 Try.underlying107 (by kernel_rfl) i 0 rfl rfl (by (repeat (first | assumption | (with_reducible exact mZ) | apply mS)); first | done | fail) HS64.out HIS.out HNL.out HN64.out (by (repeat (first | (with_reducible exact Take.head) | apply Take.tail)); first | done | fail) (fun w hM => hK _ _ _ hM ?_); clear hM hM0 hK K; simp only [Act.put, List.setIfInBounds_toArray, List.set_cons_zero, List.set_cons_succ]; refine RS_done (by decide +kernel) (.inr (by decide +kernel)) (fun w hM => ?_))
        go_wp2
        go_roundw
        case rel => exact ⟨k + 1, by omega, by go_num, by rw [HNX.out]; exact hM.sel (by repeat (first | (with_reducible exact Sel.refl) | (with_reducible exact Take.head) | (with_reducible apply Take.tail) | (with_reducible apply Sel.cons) | (with_reducible apply Sel.drop)))⟩
        case measure => simp [intOf]; omega
    · obtain rfl : k = N := by omega
      have HALL : Hid ((crL D ch).take k = crL D ch) := List.take_of_length_le (by rw [crL_len, HN.out]; omega)
      rw [HALL.out] at hM
      go_wp2_with (first | (first | ((with_reducible refine at_load' ?_); (refine BigFrame.wpList_want (by rfl) fun K hK => ws_load1 hM rfl rfl (by (repeat (first | assumption | (with_reducible exact mZ) | apply mS)); first | done | fail) (by first | rfl | assumption) (by decide +kernel) (hK _ _ ?_); clear hK K)) | fail) | (first | ((with_reducible refine at_call' ?_); (have hM0 := hM; clear hM; refine BigFrame.wpList_want (by rfl) fun K hK => ws_clear_map hM0 rfl Try.underlying54 rfl (by (repeat (first | (with_reducible exact Take.head) | apply Take.tail)); first | done | fail) (fun w hM => hK _ _ ?_); clear hM0 hK K)) | fail) | (go_at_call 29; have hM0 := hM; clear hM; (first | (with_reducible refine (clear_f D.armed D.left _ (hM0.take (x := fE a D.armed D.left) (by (repeat (first | (with_reducible exact Take.head) | apply Take.tail)); first | done | fail))).mono ?_) | fail); clear hM0; rintro _ w ⟨rfl, hM⟩))
      go_end0
      refine ⟨rfl, Star.djoin (D := crD D ch) ?_⟩
      have e1 : lmv (crD D ch) = [] := calm_lmv D _
      rw [e1]
      show Star (dE a (upd D.sure (crL D ch)).length :: fE a false D.left :: sE a (upd D.sure (crL D ch)) :: mE a [] :: F) _
      rw [upd_len]
      exact hM.sel (by repeat (first | (with_reducible exact Sel.refl) | (with_reducible exact Take.head) | (with_reducible apply Take.tail) | (with_reducible apply Sel.cons) | (with_reducible apply Sel.drop)))
end
end Go.Proofs.Ytbejifbiffeamaa
set_option linter.unusedSimpArgs false
set_option linter.unusedVariables false
namespace Go.Proofs.Ytbejifbiffeamaa
open Go.RowKit
attribute [local go_sem] extract_mid extract_drop bget bsize wrap64_u8 i64_u8 u64_u8 bappend
/-- An empty disk. -/
def newD (N : Nat) : Dsk := ⟨List.replicate N z64, List.replicate N z64, List.replicate N false, false, 0⟩
theorem newD_len (N : Nat) : (newD N).sure.length = N := by simp [newD]
theorem newD_ok {N : Nat} (h : N ≤ 65536) : (newD N).ok where
  ln := rfl
  ll := by simp [newD]
  s64 b hb := by rw [(List.mem_replicate.1 hb).2]; exact z64_len
  n64 b hb := by rw [(List.mem_replicate.1 hb).2]; exact z64_len
  same _ _ _ := rfl
  size := by rw [newD_len]; exact h
  i64a := by show (-9223372036854775808 : Int) ≤ 0; decide
  i64b := by show (0 : Int) ≤ 9223372036854775807; decide
  arm h := by cases h
theorem newD_keys (N : Nat) : (newD N).keys = [] := by
  refine List.filter_eq_nil_iff.2 fun i _ => ?_
  show ¬ ((List.replicate N false).getD i false = true)
  rw [getD_rep]
  simp
theorem newD_lmv (N : Nat) : lmv (newD N) = [] := by unfold lmv; rw [newD_keys]; rfl
theorem flat_rep (N : Nat) : (List.replicate N z64).flatten = List.replicate (N * 64) 0 := by
  unfold z64
  rw [List.flatten_replicate_replicate]
section
variable {P : Program} {w : World} {ops : Array Oper} {o : Oper} {a : Act} {Q : Exit → Act → World → Prop} {L R : List SProp} {K : Act → World → Prop}
/-- make([]T, n), T some cells that are all alike. -/
theorem ws_make_rows (hM : Star L w) {t : TypeId} {x y : Operand} (ho : o.op = .makeSlice t x y) (e : TypeId) (z : Value) (size bytes : Nat) (u : Value) (ht : P.underlying t = some (.slice e)) (hi : (P.info? e).map (fun i => (i.zero, i.size, i.bytes)) = some (some z, size, bytes)) (hz : z.cells = (List.replicate size u).toArray) (hz0 : 0 < size) (hby : bytes ≤ 100)
    {n : Nat} (hx : a.eval x = .int .i64 (n : Int)) (hy : a.eval y = .int .i64 (n : Int)) (hsm : n ≤ 1000000000)
    (h : ∀ g w1, Star (cellsE g e (List.replicate (n * size) u).toArray :: L) w1 → K (a.put o.dst (.slice (some ⟨g, 0, none⟩) n n)) w1) : Oper.wp P o a w K Q := by
  obtain ⟨i, hi0, hz1, hsize, hb1⟩ := info_parts hi
  have hb : (i.bytes : Int) * (n : Int) ≤ 281474976710656 := by
    have h1 : i.bytes * n ≤ 100 * 1000000000 := Nat.mul_le_mul (by omega) hsm
    have : ((i.bytes * n : Nat) : Int) ≤ 281474976710656 := by omega
    rwa [Int.natCast_mul] at this
  have hr := run_make (P := P) w t e i z ht hi0 hz1 .i64 .i64 n n (by omega) (by omega) hb (by omega)
  simp only [Int.toNat_natCast] at hr
  have hc : madeCells z.cells (n * i.size) = (List.replicate (n * size) u).toArray := by
    rw [hz, hsize]
    apply Array.ext
    · simp [madeCells]
    · intro j h1 h2
      have : j % size < size := Nat.mod_lt _ hz0
      simp [madeCells, this]
  rw [hc] at hr
  unfold Oper.wp
  simp only [execOp, ho, hx, hy, hr, Sem.run_bind, Sem.run_pure, Result.andThen_ok]
  exact h _ _ (hM.new_ ((Ch.refl _ _).alloc _) (Blk.new w e _) fun k hk => by rw [hk]; exact Nat.le_refl _)
end
theorem info_blk3 : (Try.prog.info? 106).map (fun i => (i.zero, i.size, i.bytes)) = some (some (.agg (List.replicate 64 (bv 0)).toArray), 64, 64) := by kernel_rfl
section
variable {F : List SProp}
set_option maxRecDepth 100000 in
set_option maxHeartbeats 2000000 in
theorem new_d {n : Int} {N : Nat} (hn : max 0 (min n 65536) = (N : Int)) (w : World) (hM : Star F w) :
    Calls Try.prog 20 #[.int .i64 n] w fun r w' => ∃ a : DA, r = .returned (dptr a) ∧ Star (diskE a (newD N) :: F) w' := by
  have hN : N ≤ 65536 := by omega
  have hn2 : (if (0 : Int) < (if 65536 < n then 65536 else n) then (if 65536 < n then 65536 else n) else 0) = (N : Int) := by split <;> split at * <;> omega
  go_enter Try.func20, Try.ntmps20
  go_wp2_with (first | (refine BigFrame.wpList_want (by rfl) fun K hK => ws_build rfl (.agg #[.bool false, .int .i64 0]) (by kernel_rfl) (hK _ _ ?_); clear hK K) | (first | ((with_reducible refine at_box' ?_); (have hM0 := hM; clear hM; refine BigFrame.wpList_want (by rfl) fun K hK => ws_box hM0 rfl rfl (cs := #[.bool false, .int .i64 0]) rfl (fun f w hM => hK _ _ ?_); clear hM0 hK K)) | fail) | ((with_reducible refine at_make' ?_); have hM0 := hM; clear hM; refine BigFrame.wpList_want (by rfl) fun K hK => ws_make_rows (n := N) hM0 rfl 106 _ 64 64 (bv 0) Try.underlying53 info_blk3 rfl (by decide) (by decide) rfl rfl (by omega) (fun g w hM => hK _ _ ?_); clear hM0 hK K) | (first | ((with_reducible refine at_makemap' ?_); (have hM0 := hM; clear hM; refine BigFrame.wpList_want (by rfl) fun K hK => ws_makemap hM0 rfl 3 (fun m w hM => hK _ _ ?_); clear hM0 hK K)) | fail) | (first | ((with_reducible refine at_box' ?_); (have hM0 := hM; clear hM; refine BigFrame.wpList_want (by rfl) fun K hK => ws_box hM0 rfl rfl (cs := #[.pointer (some ⟨f, 0, none⟩), .slice (some ⟨g, 0, none⟩) N N, .map (some m)]) rfl (fun d w hM => hK _ _ ?_); clear hM0 hK K)) | fail))
  go_ret
  refine ⟨⟨d, f, m, g⟩, rfl, Star.djoin (D := newD N) ?_⟩
  rw [newD_lmv, newD_len]
  have e1 : (List.replicate (N * 64) (bv 0)) = bvs (newD N).sure.flatten := by
    show _ = bvs (List.replicate N z64).flatten
    rw [flat_rep]
    simp [bvs]
  rw [e1] at hM
  exact (hM.sel (by repeat (first | (with_reducible exact Sel.refl) | (with_reducible exact Take.head) | (with_reducible apply Take.tail) | (with_reducible apply Sel.cons) | (with_reducible apply Sel.drop))) : Star (cellsE d 56 #[.pointer (some ⟨f, 0, none⟩), .slice (some ⟨g, 0, none⟩) N N, .map (some m)] :: cellsE f 101 #[.bool false, .int .i64 0] :: cellsE g 106 (bvs (newD N).sure.flatten).toArray :: mapE Try.prog 3 m [] :: F) _)
end
end Go.Proofs.Ytbejifbiffeamaa
