/- What the laws share, part 9 (WvR). No condition but those that each theorem names. -/
import Derived.Test.YtlhedbjjlomniaaW8
set_option linter.unusedSimpArgs false
set_option linter.unusedVariables false
namespace Go.Proofs.Ytlhedbjjlomniaa
open Go.RowKit
attribute [local go_sem] extract_mid extract_drop bget bsize wrap64_u8 i64_u8 u64_u8 bappend
abbrev rwC (A : Option Addr) (n c : Nat) (o : List UInt8) (g : Int) : Array Value := #[.slice A n c, .string ⟨o.toArray⟩, .int .i64 g]
abbrev rsC (id : List UInt8) (z lv : Int) : Array Value := #[.string ⟨id.toArray⟩, .int .i64 z, .int .i64 lv]
theorem info_rw : (Try.prog.info? 90).map (fun i => i.zero) = some (some (.agg (rwC none 0 0 [] 0))) := by kernel_rfl
theorem info_rs : (Try.prog.info? 149).map (fun i => i.zero) = some (some (.agg (rsC [] 0 0))) := by kernel_rfl
theorem info_rnd2 : (Try.prog.info? 57).map (fun i => i.zero) = some (some (.agg (ndC 0 none 0 0))) := by kernel_rfl
/-- What the walks need of a text at the reference. -/
structure RTxt (x : List UInt8) : Prop where
  len : x.length ≤ 140737488351232
  of : ∀ kd : UInt8, ∀ (L : List SProp) (w : World), Star L w → Calls Try.prog 78 #[.int .i64 kd.toNat, .string ⟨x.toArray⟩] w fun r w' => r = .returned (.string ⟨(onm kd x).toArray⟩) ∧ Star L w'
  parse : ∀ (L : List SProp) (w : World), Star L w → Calls Try.prog 29 #[.string ⟨x.toArray⟩] w (RN L x)
theorem ex_slice1 {P : Program} {w : World} {o : Oper} {a : Act} {t : TypeId} {x : Operand} (ho : o.op = .slice t x (some (.const (.int .i64 1))) none none) {e : TypeId} (ht : P.underlying t = some (.slice e)) {i : Nat} (hi2 : (P.info? e).map (·.size) = some i) {A : Option Addr} {n c : Nat} (hx : a.eval x = .slice A n c) (hn : 1 ≤ n) (hc : n ≤ c) {R : Option Addr} (hR : (if c = 1 then A else A.map (·.add i)) = R) :
    (execOp a.eval o).run P w = .ok (.value (.slice R (n - 1) (c - 1))) w := by
  subst hR
  have hr : (Instr.sliceAt t (.slice A n c) (some (.int .i64 1)) none none).run P w = .ok (.slice (if c = 1 then A else A.map (·.add i)) (n - 1) (c - 1)) w := by
    obtain ⟨j, hj, rfl⟩ : ∃ j, P.info? e = some j ∧ j.size = i := by
      cases h : P.info? e with
      | none => rw [h] at hi2; cases hi2
      | some j => rw [h] at hi2; exact ⟨j, rfl, by simpa using hi2⟩
    have h2 : (1 : Int) ≤ (n : Int) := by omega
    have h4 : ¬ ((n : Int) < 1) := by omega
    have h5 : ¬ (n = 0) := by omega
    simp [Instr.sliceAt, Instr.slice, Instr.sliceBounds, Instr.sliceBound, go_sem, run_underlying ht, sizeOf, typeInfo, hj, asIntOf, h2, h4, h5]
  have he : a.eval (.const (.int .i64 1)) = .int .i64 1 := rfl
  unfold execOp
  simp only [ho, hx, he, Option.map_some, Option.map_none, hr, Sem.run_bind, Sem.run_pure, Result.andThen_ok]
theorem rest_row {L : List SProp} {w : World} {ad : Addr} {k c : Nat} {s : Stp} {rest : List Stp} (h : Star L w) (hx : rowE 3 (some ad) (k + 1) (usvs (s :: rest)) ∈ L) (hc : k + 1 ≤ c) (hk : rest.length = k) : Star (rowE 3 (if c = 1 then some ad else some (ad.add 3)) k (usvs rest) :: L) w := by
  by_cases h1 : c = 1
  · obtain rfl : k = 0 := by omega
    obtain rfl : rest = [] := List.eq_nil_of_length_eq_zero hk
    exact h.free (fun k ⟨_, _, hn, _⟩ => by omega) ⟨by simp [usvs], fun hn => by omega⟩
  · rw [if_neg h1]
    have := h.row_midG (f := uscs) hx (by omega) (fun _ => rfl) (i := 1) (g := k) (by omega)
    rwa [List.drop_succ_cons, List.drop_zero, List.take_of_length_le (by omega), Nat.one_mul] at this
set_option maxRecDepth 100000 in
theorem kind_w {F : List SProp} (id : List UInt8) (z lv : Int) (w : World) (hM : Star F w) : Calls Try.prog 87 #[.agg (rsC id z lv)] w fun r w' => r = .returned (.int .i64 (kindB ((id, z), lv)).toNat) ∧ Star F w' := by
  by_cases h : lv = 0
  · subst h
    go_enter Try.func87, Try.ntmps87
    go_wp2_with (first | (first | ((with_reducible refine at_box' ?_); (have hM0 := hM; clear hM; refine BigFrame.wpList_want (by rfl) fun K hK => ws_box hM0 rfl rfl (cs := rsC id z 0) rfl (fun g1 w hM => hK _ _ ?_); clear hM0 hK K)) | fail) | (first | ((with_reducible refine at_load' ?_); (refine BigFrame.wpList_want (by rfl) fun K hK => ws_load1 hM rfl rfl (by (repeat (first | assumption | (with_reducible exact mZ) | apply mS)); first | done | fail) (by first | rfl | assumption) (by decide +kernel) (hK _ _ ?_); clear hK K)) | fail))
    go_ret
    exact ⟨rfl, hM.sel (by repeat (first | (with_reducible exact Sel.refl) | (with_reducible exact Take.head) | (with_reducible apply Take.tail) | (with_reducible apply Sel.cons) | (with_reducible apply Sel.drop)))⟩
  · have h1 : (lv == 0) = false := by simpa using h
    have hk : (kindB ((id, z), lv)).toNat = 2 := by unfold kindB; rw [if_neg h]; rfl
    rw [hk]
    clear hk
    go_enter Try.func87, Try.ntmps87
    go_wp2_with (first | (first | ((with_reducible refine at_box' ?_); (have hM0 := hM; clear hM; refine BigFrame.wpList_want (by rfl) fun K hK => ws_box hM0 rfl rfl (cs := rsC id z lv) rfl (fun g1 w hM => hK _ _ ?_); clear hM0 hK K)) | fail) | (first | ((with_reducible refine at_load' ?_); (refine BigFrame.wpList_want (by rfl) fun K hK => ws_load1 hM rfl rfl (by (repeat (first | assumption | (with_reducible exact mZ) | apply mS)); first | done | fail) (by first | rfl | assumption) (by decide +kernel) (hK _ _ ?_); clear hK K)) | fail))
    go_ret
    exact ⟨rfl, hM.sel (by repeat (first | (with_reducible exact Sel.refl) | (with_reducible exact Take.head) | (with_reducible apply Take.tail) | (with_reducible apply Sel.cons) | (with_reducible apply Sel.drop)))⟩
set_option maxRecDepth 100000 in
set_option maxHeartbeats 4000000 in
theorem rsize_w {F : List SProp} (nl : Int) (A : Option Addr) (n c : Nat) (l : List Pt) (hb : ∀ p ∈ l, 0 ≤ p.2 ∧ p.2 ≤ 1000000) (hn : n ≤ 1000) (w : World) (hM : Star F w) (hF : rowE 2 A n (qvs l) ∈ F) :
    Calls Try.prog 88 #[.agg (ndC nl A n c)] w fun r w' => r = .returned (.int .i64 (sumP l)) ∧ Star F w' := by
  have hlen := qvs_row (hM.row hF)
  have HL := Lib.hid hlen
  have HB := Lib.hid hb
  clear hlen hb
  go_enter Try.func88, Try.ntmps88
  go_wp2_with (first | (first | ((with_reducible refine at_box' ?_); (have hM0 := hM; clear hM; refine BigFrame.wpList_want (by rfl) fun K hK => ws_box hM0 rfl rfl (cs := ndC nl A n c) rfl (fun gx w hM => hK _ _ ?_); clear hM0 hK K)) | fail) | (first | ((with_reducible refine at_load' ?_); (refine BigFrame.wpList_want (by rfl) fun K hK => ws_load1 hM rfl rfl (by (repeat (first | assumption | (with_reducible exact mZ) | apply mS)); first | done | fail) (by first | rfl | assumption) (by decide +kernel) (hK _ _ ?_); clear hK K)) | fail))
  go_loopw [3, 9] (fun v i wr => ∃ (k : Nat) (s : Int), k ≤ n ∧ i = .int .i64 k ∧ v = .int .i64 s ∧ Hid (s = sumP (l.take k)) ∧ Star F wr) (fun _ i _ => n - (intOf i).toNat)
  case atStart => exact ⟨0, 0, by omega, rfl, rfl, rfl, hM.sub (by repeat (first | exact List.Sublist.refl _ | apply List.Sublist.cons))⟩
  case round =>
    clear hM
    obtain ⟨k, s, hk, rfl, rfl, HS, hM⟩ := hrel
    by_cases hlt : k < n
    · obtain ⟨ad, ⟨di, x⟩, rfl, hc, hg, ht⟩ := Rd.elems (l := l) (f := qcs) (hM.row hF) (fun x hx => qcs_len x) (by omega) hlt
      have hdm := List.mem_of_getElem? hg
      have hd2 := HB.out _ hdm
      have hsb := sumP_le 1000000 (l.take k) fun p hp => HB.out p (List.mem_of_mem_take hp)
      have hlk : (l.take k).length ≤ 1000 := by rw [List.length_take]; omega
      rw [← HS.out] at hsb
      have HT : Hid (s + x = sumP (l.take (k + 1))) := by show _ = _; rw [ht, sumP_app, HS.out]; simp [sumP]
      have hs1 : 0 ≤ s := hsb.1
      have hs2 : s ≤ 1000000 * 1000 := by have := hsb.2; omega
      simp only at hd2
      clear ht hg hdm hsb hlk
      go_wp2_with (first | ((with_reducible refine at_load' ?_); refine BigFrame.wpList_want (by rfl) fun K hK => ws_load_at rfl rfl [.string ⟨di.toArray⟩, .int .i64 x] hc (n := 2) rfl (by decide +kernel) (hK _ _ ?_); clear hK K) | (first | ((with_reducible refine at_alloc' ?_); (have hM0 := hM; clear hM; refine BigFrame.wpList_want (by rfl) fun K hK => ws_alloc hM0 (t := 69) rfl (qtC [] 0) info_qt (fun g5 w hM => hK _ _ ?_); clear hM0 hK K)) | fail) | (first | ((with_reducible refine at_store' ?_); (have hM0 := hM; clear hM; refine BigFrame.wpList_want (by rfl) fun K hK => ws_store hM0 rfl rfl rfl (by (repeat (first | (with_reducible exact Take.head) | apply Take.tail)); first | done | fail) (n := 2) (by rfl) (by rfl) (by kernel_rfl) (by simp [Value.oneCell']) (fun w hM => hK _ _ ?_); clear hM0 hK K)) | fail) | (first | ((with_reducible refine at_load' ?_); (refine BigFrame.wpList_want (by rfl) fun K hK => ws_load1 hM rfl rfl (by (repeat (first | assumption | (with_reducible exact mZ) | apply mS)); first | done | fail) (by first | rfl | assumption) (by decide +kernel) (hK _ _ ?_); clear hK K)) | fail))
      go_roundw
      case rel => exact ⟨k + 1, s + x, by omega, by go_num, rfl, HT.out, hM.sub (by repeat (first | exact List.Sublist.refl _ | apply List.Sublist.cons))⟩
      case measure => simp [intOf]; omega
    · go_wp2
      go_ret
      exact ⟨ret_int (by rw [HS.out, List.take_of_length_le (by rw [HL.out]; omega)]), hM⟩
set_option maxRecDepth 100000 in
theorem rnew_w {F : List SProp} (id : List UInt8) (z : Int) (w : World) (hM : Star F w) :
    Calls Try.prog 44 #[.agg (qtC id z)] w fun r w' => ∃ A c, r = .returned (.agg (rwC A 1 c [] 0)) ∧ 1 ≤ c ∧ c ≤ 9223372036854775807 ∧ Star (rowE 3 A 1 (usvs [((id, z), -1)]) :: F) w' := by
  go_enter Try.func44, Try.ntmps44
  go_wp2_with (first | (first | ((with_reducible refine at_box' ?_); (have hM0 := hM; clear hM; refine BigFrame.wpList_want (by rfl) fun K hK => ws_box hM0 rfl rfl (cs := qtC id z) rfl (fun g1 w hM => hK _ _ ?_); clear hM0 hK K)) | fail) | (first | ((with_reducible refine at_alloc' ?_); (have hM0 := hM; clear hM; refine BigFrame.wpList_want (by rfl) fun K hK => ws_alloc hM0 (t := 90) rfl (rwC none 0 0 [] 0) info_rw (fun g2 w hM => hK _ _ ?_); clear hM0 hK K)) | fail) | (first | ((with_reducible refine at_load' ?_); (refine BigFrame.wpList_want (by rfl) fun K hK => ws_load hM rfl rfl (by (repeat (first | assumption | (with_reducible exact mZ) | apply mS)); first | done | fail) (n := 2) (by rfl) (by decide +kernel) (hK _ _ ?_); clear hK K)) | fail) | (first | ((with_reducible refine at_slice' ?_); (have hM0 := hM; clear hM; refine BigFrame.wpList_want (by rfl) fun K hK => ws_slice_row hM0 (n := 1) rfl 149 3 (.agg (rsC [] 0 0)) [.agg (rsC id z (-1))] Try.underlying88 (by kernel_rfl) rfl (by simp [Value.cells, iv, sv, bv]) (by rfl) (by decide) (cs := usvs [((id, z), -1)]) (by rfl) (fun g5 w hM => hK _ _ ?_); clear hM0 hK K)) | fail) | (first | ((with_reducible refine at_store' ?_); (have hM0 := hM; clear hM; refine BigFrame.wpList_want (by rfl) fun K hK => ws_store hM0 rfl rfl rfl (by (repeat (first | (with_reducible exact Take.head) | apply Take.tail)); first | done | fail) (n := 3) (by rfl) (by rfl) (by kernel_rfl) (by simp [Value.oneCell']) (fun w hM => hK _ _ ?_); clear hM0 hK K)) | fail))
  refine bodyPost_ret (results_row (P := Try.prog) (ty := 90) rfl _ _ g2 90 _ 3 rfl (hM.blk (by (repeat (first | assumption | (with_reducible exact mZ) | apply mS)); first | done | fail)) rfl (by decide +kernel)) rfl ?_
  exact ⟨_, _, rfl, by omega, by omega, hM.sel (by repeat (first | (with_reducible exact Sel.refl) | (with_reducible exact Take.head) | (with_reducible apply Take.tail) | (with_reducible apply Sel.cons) | (with_reducible apply Sel.drop)))⟩
end Go.Proofs.Ytlhedbjjlomniaa
