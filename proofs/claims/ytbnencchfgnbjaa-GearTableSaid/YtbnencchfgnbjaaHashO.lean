/- The walks of hash.Of, hash.Hex, caravanlaw01.awake. No condition but that not too many bytes come. -/
import Derived.Test.YtbnencchfgnbjaaHashS
set_option linter.unusedSimpArgs false
set_option linter.unusedVariables false
namespace Go.Proofs.Ytbnencchfgnbjaa
open Go.RowKit
attribute [local go_sem] extract_mid extract_drop bget bsize wrap64_u8 i64_u8 u64_u8 bappend
set_option maxRecDepth 100000 in
set_option maxHeartbeats 2000000 in
theorem of_star {F : List SProp} (ps : List (List UInt8)) (As : Option Addr) (np cp : Nat) (hps : ∀ x ∈ ps, x.length ≤ 1000000000) (hnp : np ≤ 1000) (w : World) (hM : Star F w) (hF : rowE 1 As np (svs ps) ∈ F) :
    Calls Try.prog 33 #[.slice As np cp] w fun r w' => r = .returned (.agg (bvs (sha (cat ps))).toArray) ∧ Star F w' := by
  have hl := svs_row (hM.row hF)
  have hb : (cat ps).length ≤ 1000000000000 := by have := cat_le 1000000000 ps hps; rw [hl] at this; omega
  have HL := Lib.hid hl
  have HP := Lib.hid hps
  have hshl := sha_len (cat ps)
  have HSL := Lib.hid hshl
  clear hl hps hshl
  go_enter Try.func33, Try.ntmps33
  go_wp2_with (first | (first | (have hM0 := hM; clear hM; refine BigFrame.wpList_want (by rfl) fun K hK => ws_alloc hM0 (t := 37) rfl (bvs z32).toArray info_sum (fun g2 w hM => hK _ _ ?_); clear hM0 hK K) | fail) | (go_at_call 37; have hM0 := hM; clear hM; (first | (with_reducible refine (new_star _ hM0).mono ?_) | fail); clear hM0; rintro _ w ⟨gh, rfl, hM⟩) | (go_at_call 38; have hM0 := hM; clear hM; (first | (with_reducible refine (write_star gh [] ps As np cp HP.out hnp (by simp) none 0 0 _ hM0 (by simp [hF])).mono ?_) | fail); clear hM0; rintro _ w ⟨A1, n1, c1, rfl, hM⟩) | ((go_at_call 39; have hM0 := hM; clear hM; (first | (with_reducible refine (sum_star gh ([] ++ cat ps) (by simp only [List.nil_append]; omega) A1 n1 c1 _ hM0).mono ?_) | fail); clear hM0; rintro _ w ⟨rfl, hM⟩); simp only [List.nil_append] at hM ⊢) | (first | (have hM0 := hM; clear hM; refine BigFrame.wpList_want (by rfl) fun K hK => ws_store hM0 rfl rfl rfl (by (repeat (first | (with_reducible exact Take.head) | apply Take.tail)); first | done | fail) (n := 32) (by simp [bvs_len, HSL.out]) (by simp [bvs_len, z32_len]) (by kernel_rfl) (by simpa using bvs_oneCell _) (fun w hM => hK _ _ ?_); clear hM0 hK K) | fail))
  exact bodyPost_ret (results_cell_row rfl _ _ g2 37 (bvs (sha (cat ps))).toArray (0, 0) _ rfl (hM.blk (by (repeat (first | assumption | (with_reducible exact List.mem_cons_self) | apply List.mem_cons_of_mem)); first | done | fail)) Try.underlying37 rfl (by rw [info_sumn]; simp [bvs_len, HSL.out])) rfl ⟨rfl, hM.sel (by repeat (first | (with_reducible exact Sel.refl) | (with_reducible exact Take.head) | (with_reducible apply Take.tail) | (with_reducible apply Sel.cons) | (with_reducible apply Sel.drop)))⟩
def hexDigits : List UInt8 := [48, 49, 50, 51, 52, 53, 54, 55, 56, 57, 97, 98, 99, 100, 101, 102]
def hexd (n : Nat) : UInt8 := hexDigits.getD n 0
def hex1 (c : UInt8) : List UInt8 := [hexd (c.toNat / 16), hexd (c.toNat % 16)]
def hexOf (l : List UInt8) : List UInt8 := l.flatMap hex1
theorem hexOf_snoc (l : List UInt8) (c : UInt8) : hexOf (l ++ [c]) = hexOf l ++ hex1 c := by simp [hexOf]
theorem hexOf_len (l : List UInt8) : (hexOf l).length = 2 * l.length := by
  induction l with
  | nil => rfl
  | cons c l ih => simp only [hexOf, List.flatMap_cons, List.length_append, List.length_cons, hex1] at ih ⊢; simp at ih ⊢; omega
theorem hexDigits_get (n : Nat) (h : n < 16) : hexDigits[n]? = some (hexd n) := by
  unfold hexd
  rw [List.getD_eq_getElem?_getD, List.getElem?_eq_getElem (by simpa [hexDigits] using h)]
  rfl
/-- A byte of a text at a reckoned place. -/
theorem ex_index_str {P : Program} {w : World} {o : Oper} {a : Act} {t : TypeId} {x y : Operand} (ho : o.op = .index t x y) (ht : P.underlying t = some .string) {l : List UInt8} (hx : a.eval x = .string ⟨l.toArray⟩) {k : IntKind} {n : Nat} (hy : a.eval y = .int k (n : Int)) {c : UInt8} (hc : l[n]? = some c) :
    (execOp a.eval o).run P w = .ok (.value (.int .u8 (c.toNat : Int))) w := by
  obtain ⟨hn, rfl⟩ := List.getElem?_eq_some_iff.1 hc
  have hr : (Instr.index t (.string ⟨l.toArray⟩) (.int k (n : Int))).run P w = .ok (.int .u8 (l[n].toNat : Int)) w := by
    simp [Instr.index, go_sem, hn, bsize, bget, run_underlying ht]
  unfold execOp
  simp only [ho, hx, hy, Sem.run_bind, hr, Result.andThen_ok, Sem.run_pure]
theorem and15 (c : UInt8) : bits BinOp.and IntKind.u8 (c.toNat : Int) 15 = ((c.toNat % 16 : Nat) : Int) := by
  have h := c.toNat_lt
  have := u8_and_nat c.toNat 15 (by omega) (by omega)
  rw [Nat.and_two_pow_sub_one_eq_mod c.toNat 4] at this
  exact this
theorem bvs_at {l : List UInt8} {k : Nat} {d : UInt8} (h : l[k]? = some d) : (bvs l)[k]? = some (.int .u8 (d.toNat : Int)) := by simp [bvs, h, bv]
set_option maxRecDepth 100000 in
set_option maxHeartbeats 2000000 in
theorem hex_star {F : List SProp} (l : List UInt8) (hl : l.length = 32) (w : World) (hM : Star F w) :
    Calls Try.prog 36 #[.agg (bvs l).toArray] w fun r w' => r = .returned (.string ⟨(hexOf l).toArray⟩) ∧ Star F w' := by
  have HL := Lib.hid hl
  clear hl
  go_enter Try.func36, Try.ntmps36
  go_wp2_with (first | (first | (have hM0 := hM; clear hM; refine BigFrame.wpList_want (by rfl) fun K hK => ws_box hM0 rfl rfl (cs := (bvs l).toArray) rfl (fun g1 w hM => hK _ _ ?_); clear hM0 hK K) | fail) | (first | (refine BigFrame.wpList_want (by rfl) fun K hK => ws_load hM rfl rfl (by (repeat (first | assumption | (with_reducible exact List.mem_cons_self) | apply List.mem_cons_of_mem)); first | done | fail) (n := 32) (by simp [bvs_len, HL.out]) (by kernel_rfl) (hK _ _ ?_); clear hK K) | fail))
  replace hM := hM.niltail 5 1
  go_loopw [3, 7] (fun out i wr => ∃ (k : Nat) (A : Option Addr) (n c : Nat), k ≤ 32 ∧ i = .int .i64 k ∧ Hid (n = 2 * k) ∧ out = .slice A n c ∧ Star (tailE 5 1 A n c (bvs (hexOf (l.take k))) :: cellsE g1 37 (bvs l).toArray :: F) wr) (fun _ i _ => 32 - (intOf i).toNat)
  case atStart => exact ⟨0, none, 0, 0, by omega, rfl, rfl, rfl, hM⟩
  case round =>
    clear hM
    obtain ⟨k, A, n, c, hk, rfl, hn, rfl, hM⟩ := hrel
    have hnb : n ≤ 64 := by have := hn.out; omega
    by_cases hlt : k < 32
    · obtain ⟨d, hd⟩ : ∃ d, l[k]? = some d := ⟨_, List.getElem?_eq_getElem (by rw [HL.out]; exact hlt)⟩
      have HT := Lib.hid (take_snoc_at _ _ _ hd)
      have HV := Lib.hid (bvs_at hd)
      have HD := Lib.hid hd
      clear hd
      have hd256 := d.toNat_lt
      obtain ⟨a1, e1⟩ : ∃ a, a = d.toNat / 16 := ⟨_, rfl⟩
      obtain ⟨a2, e2⟩ : ∃ a, a = d.toNat % 16 := ⟨_, rfl⟩
      have q1 : (d.toNat : Int) / 16 = (a1 : Int) := by omega
      have q2 : bits BinOp.and IntKind.u8 (d.toNat : Int) 15 = (a2 : Int) := by rw [and15, e2]
      have E1 : Hid (hexDigits[a1]? = some (hexd (d.toNat / 16))) := by show _ = _; rw [e1]; exact hexDigits_get _ (by omega)
      have E2 : Hid (hexDigits[a2]? = some (hexd (d.toNat % 16))) := by show _ = _; rw [e2]; exact hexDigits_get _ (by omega)
      clear e1 e2
      obtain ⟨c1, hc1⟩ : ∃ x, x = hexd (d.toNat / 16) := ⟨_, rfl⟩
      obtain ⟨c2, hc2⟩ : ∃ x, x = hexd (d.toNat % 16) := ⟨_, rfl⟩
      rw [← hc1] at E1
      rw [← hc2] at E2
      have HH : Hid (hex1 d = [c1, c2]) := by show _ = _; rw [hex1, hc1, hc2]
      clear hc1 hc2
      go_wp2_with (first | (refine op_index rfl 37 (.tmp 6) (.tmp 7) rfl (bvs l) rfl k rfl 32 5 _ Try.underlying37 Try.underlying5 info_u8n _ HV.out hlt ?_))
      (refine region_RS ([]) [] (by kernel_rfl) hM ?_; clear hM; change RS _ _ _ _ _ _ 10 (Array.replicate 10 false) _ _; refine RS_take (i := 0) rfl (by decide +kernel) (fun _ _ _ h => h) (by first | (intro x hx; (repeat (first | exact hx | apply List.mem_cons_of_mem)); done) | ((repeat (refine List.forall_mem_cons.2 ⟨(by (repeat (first | assumption | (with_reducible exact List.mem_cons_self) | apply List.mem_cons_of_mem)); first | done | fail), ?_⟩)); intro x hx; first | (cases hx; done) | ((repeat (first | exact hx | apply List.mem_cons_of_mem)); done))) (stab_pure (by rfl) (fun w => (by go_simp; try with_reducible rfl))) ?_; simp only [Act.put, List.setIfInBounds_toArray, List.set_cons_zero, List.set_cons_succ]; refine RS_take (i := 1) rfl (by decide +kernel) (fun _ _ _ h => h) (by first | (intro x hx; (repeat (first | exact hx | apply List.mem_cons_of_mem)); done) | ((repeat (refine List.forall_mem_cons.2 ⟨(by (repeat (first | assumption | (with_reducible exact List.mem_cons_self) | apply List.mem_cons_of_mem)); first | done | fail), ?_⟩)); intro x hx; first | (cases hx; done) | ((repeat (first | exact hx | apply List.mem_cons_of_mem)); done))) (stab_pure (by rfl) (fun w => (by go_simp; try with_reducible rfl))) ?_; simp only [Act.put, List.setIfInBounds_toArray, List.set_cons_zero, List.set_cons_succ]; refine RS_take (i := 2) rfl (by decide +kernel) (fun _ _ _ h => h) (by first | (intro x hx; (repeat (first | exact hx | apply List.mem_cons_of_mem)); done) | ((repeat (refine List.forall_mem_cons.2 ⟨(by (repeat (first | assumption | (with_reducible exact List.mem_cons_self) | apply List.mem_cons_of_mem)); first | done | fail), ?_⟩)); intro x hx; first | (cases hx; done) | ((repeat (first | exact hx | apply List.mem_cons_of_mem)); done))) (stab_pure (by rfl) (fun w => (by go_simp; try with_reducible rfl))) ?_; simp only [Act.put, List.setIfInBounds_toArray, List.set_cons_zero, List.set_cons_succ]; refine RS_take (i := 3) rfl (by decide +kernel) (fun _ _ _ h => h) (by first | (intro x hx; (repeat (first | exact hx | apply List.mem_cons_of_mem)); done) | ((repeat (refine List.forall_mem_cons.2 ⟨(by (repeat (first | assumption | (with_reducible exact List.mem_cons_self) | apply List.mem_cons_of_mem)); first | done | fail), ?_⟩)); intro x hx; first | (cases hx; done) | ((repeat (first | exact hx | apply List.mem_cons_of_mem)); done))) (stab_read (by rfl) (fun L w hL hM => (ex_index_str rfl Try.underlying9 rfl rfl E1.out))) ?_; simp only [Act.put, List.setIfInBounds_toArray, List.set_cons_zero, List.set_cons_succ]; refine RS_take (i := 4) rfl (by decide +kernel) (fun _ _ _ h => h) (by first | (intro x hx; (repeat (first | exact hx | apply List.mem_cons_of_mem)); done) | ((repeat (refine List.forall_mem_cons.2 ⟨(by (repeat (first | assumption | (with_reducible exact List.mem_cons_self) | apply List.mem_cons_of_mem)); first | done | fail), ?_⟩)); intro x hx; first | (cases hx; done) | ((repeat (first | exact hx | apply List.mem_cons_of_mem)); done))) (stab_pure (by rfl) (fun w => (by go_simp; try with_reducible rfl))) ?_; simp only [Act.put, List.setIfInBounds_toArray, List.set_cons_zero, List.set_cons_succ]; refine RS_take (i := 5) rfl (by decide +kernel) (fun _ _ _ h => h) (by first | (intro x hx; (repeat (first | exact hx | apply List.mem_cons_of_mem)); done) | ((repeat (refine List.forall_mem_cons.2 ⟨(by (repeat (first | assumption | (with_reducible exact List.mem_cons_self) | apply List.mem_cons_of_mem)); first | done | fail), ?_⟩)); intro x hx; first | (cases hx; done) | ((repeat (first | exact hx | apply List.mem_cons_of_mem)); done))) (stab_pure (by rfl) (fun w => (by go_simp; try with_reducible rfl))) ?_; simp only [Act.put, List.setIfInBounds_toArray, List.set_cons_zero, List.set_cons_succ]; refine RS_take (i := 6) rfl (by decide +kernel) (fun _ _ _ h => h) (by first | (intro x hx; (repeat (first | exact hx | apply List.mem_cons_of_mem)); done) | ((repeat (refine List.forall_mem_cons.2 ⟨(by (repeat (first | assumption | (with_reducible exact List.mem_cons_self) | apply List.mem_cons_of_mem)); first | done | fail), ?_⟩)); intro x hx; first | (cases hx; done) | ((repeat (first | exact hx | apply List.mem_cons_of_mem)); done))) (stab_read (by rfl) (fun L w hL hM => (ex_index_str rfl Try.underlying9 rfl rfl E2.out))) ?_; simp only [Act.put, List.setIfInBounds_toArray, List.set_cons_zero, List.set_cons_succ]; refine RS_one (i := 7) (by decide +kernel) rfl (by rfl) (.inl (by first | (intro x hx; (repeat (first | exact hx | apply List.mem_cons_of_mem)); done) | ((repeat (refine List.forall_mem_cons.2 ⟨(by (repeat (first | assumption | (with_reducible exact List.mem_cons_self) | apply List.mem_cons_of_mem)); first | done | fail), ?_⟩)); intro x hx; first | (cases hx; done) | ((repeat (first | exact hx | apply List.mem_cons_of_mem)); done)))) (fun w K hM0 hK => ?_); refine ws_slice_tail hM0 (n := 2) rfl 5 1 (.int .u8 0) [bv c1, bv c2] Try.underlying40 (by kernel_rfl) rfl (by simp [Value.cells, iv, sv, bv]) (by rfl) (by decide) (by decide) (cs := bvs [c1, c2]) (by rfl) (fun g5 w hM => hK _ _ _ hM ?_); clear hM hM0 hK K; simp only [Act.put, List.setIfInBounds_toArray, List.set_cons_zero, List.set_cons_succ]; refine RS_one (i := 8) (by decide +kernel) rfl (by rfl) (.inl (by first | (intro x hx; (repeat (first | exact hx | apply List.mem_cons_of_mem)); done) | ((repeat (refine List.forall_mem_cons.2 ⟨(by (repeat (first | assumption | (with_reducible exact List.mem_cons_self) | apply List.mem_cons_of_mem)); first | done | fail), ?_⟩)); intro x hx; first | (cases hx; done) | ((repeat (first | exact hx | apply List.mem_cons_of_mem)); done)))) (fun w K hM0 hK => ?_); refine ws_app hM0 rfl rfl 5 ((.int .u8 0)) 1 1 Try.underlying40 (by kernel_rfl) (by rfl) (by (repeat (first | (with_reducible exact Take.head) | apply Take.tail)); first | done | fail) (src_row Try.underlying40 _ (hM0.tail_row (by (repeat (first | assumption | (with_reducible exact List.mem_cons_self) | apply List.mem_cons_of_mem)); first | done | fail)) (bvs_oneCell _)) ((by simp; omega)) (fun A3 c3 w hM => hK _ _ _ hM ?_); clear hM hM0 hK K; simp only [Act.put, List.setIfInBounds_toArray, List.set_cons_zero, List.set_cons_succ]; refine RS_take (i := 9) rfl (by decide +kernel) (fun _ _ _ h => h) (by first | (intro x hx; (repeat (first | exact hx | apply List.mem_cons_of_mem)); done) | ((repeat (refine List.forall_mem_cons.2 ⟨(by (repeat (first | assumption | (with_reducible exact List.mem_cons_self) | apply List.mem_cons_of_mem)); first | done | fail), ?_⟩)); intro x hx; first | (cases hx; done) | ((repeat (first | exact hx | apply List.mem_cons_of_mem)); done))) (stab_pure (by rfl) (fun w => (by go_simp; try with_reducible rfl))) ?_; simp only [Act.put, List.setIfInBounds_toArray, List.set_cons_zero, List.set_cons_succ]; refine RS_done (by decide +kernel) (.inl (by first | (intro x hx; (repeat (first | exact hx | apply List.mem_cons_of_mem)); done) | ((repeat (refine List.forall_mem_cons.2 ⟨(by (repeat (first | assumption | (with_reducible exact List.mem_cons_self) | apply List.mem_cons_of_mem)); first | done | fail), ?_⟩)); intro x hx; first | (cases hx; done) | ((repeat (first | exact hx | apply List.mem_cons_of_mem)); done)))) (fun w hM => ?_))
      go_wp2
      go_roundw
      case rel =>
        refine ⟨k + 1, A3, n + 2, c3, by omega, by go_num, (by show _ = _; have := hn.out; omega), rfl, ?_⟩
        rw [HT.out, hexOf_snoc, HH.out, bvs_app]
        exact hM.sel (by repeat (first | (with_reducible exact Sel.refl) | (with_reducible exact Take.head) | (with_reducible apply Take.tail) | (with_reducible apply Sel.cons) | (with_reducible apply Sel.drop)))
      case measure => simp [intOf]; omega
    · obtain rfl : k = 32 := by omega
      have ht : l.take 32 = l := List.take_of_length_le (by rw [HL.out]; omega)
      rw [ht] at hM
      clear ht
      replace hM := hM.tail_freeze
      go_wp2_with (first | (first | (refine BigFrame.wpList_want (by rfl) fun K hK => ws_string (l := hexOf l) rfl 5 Try.underlying40 Try.underlying9 Try.underlying5 rfl (by first | (apply Star.row hM; (repeat (first | assumption | (with_reducible exact List.mem_cons_self) | apply List.mem_cons_of_mem)); done) | (apply Star.own hM; (repeat (first | assumption | (with_reducible exact List.mem_cons_self) | apply List.mem_cons_of_mem)); done) | (apply Star.arr hM; (focus ((repeat (first | assumption | (with_reducible exact List.mem_cons_self) | apply List.mem_cons_of_mem)); done)); assumption)) (hK _ _ ?_); clear hK K) | fail))
      go_ret
      exact ⟨rfl, hM.sel (by repeat (first | (with_reducible exact Sel.refl) | (with_reducible exact Take.head) | (with_reducible apply Take.tail) | (with_reducible apply Sel.cons) | (with_reducible apply Sel.drop)))⟩
theorem hex_abc : hexOf (sha [97, 98, 99]) = [98, 97, 55, 56, 49, 54, 98, 102, 56, 102, 48, 49, 99, 102, 101, 97, 52, 49, 52, 49, 52, 48, 100, 101, 53, 100, 97, 101, 50, 50, 50, 51, 98, 48, 48, 51, 54, 49, 97, 51, 57, 54, 49, 55, 55, 97, 57, 99, 98, 52, 49, 48, 102, 102, 54, 49, 102, 50, 48, 48, 49, 53, 97, 100] := by rw [sha_abc]; decide +kernel
set_option maxRecDepth 100000 in
set_option maxHeartbeats 2000000 in
theorem awake01 {F : List SProp} (w : World) (hM : Star F w) : Calls Try.prog 34 #[] w fun r w' => r = .returned (.bool true) ∧ Star F w' := by
  have hx := hex_star (F := F) (sha (cat [[97, 98, 99]])) (sha_len _)
  rw [show hexOf (sha (cat [[97, 98, 99]])) = _ from hex_abc] at hx
  have HX := Lib.hid hx
  clear hx
  go_enter Try.func34, Try.ntmps34
  go_wp2_with (first | (go_at_call 37; have hM0 := hM; clear hM; (first | (with_reducible refine (new_star _ hM0).mono ?_) | fail); clear hM0; rintro _ w ⟨gh, rfl, hM⟩) | (first | (have hM0 := hM; clear hM; refine BigFrame.wpList_want (by rfl) fun K hK => ws_slice_row hM0 (n := 1) rfl 9 1 (.string ByteArray.empty) [sv [97, 98, 99]] Try.underlying34 (by kernel_rfl) rfl (by simp [Value.cells, iv, sv, bv]) (by rfl) (by decide) (cs := svs [[97, 98, 99]]) (by rfl) (fun g w hM => hK _ _ ?_); clear hM0 hK K) | fail) | (go_at_call 33; have hM0 := hM; clear hM; (first | (with_reducible refine (of_star [[97, 98, 99]] _ 1 1 (by simp) (by omega) _ hM0 (by (repeat (first | assumption | (with_reducible exact List.mem_cons_self) | apply List.mem_cons_of_mem)); first | done | fail)).mono ?_) | fail); clear hM0; rintro _ w ⟨rfl, hM⟩) | (go_at_call 36; have hM0 := hM; clear hM; (first | (with_reducible refine (HX.out _ (hM0.sel (by repeat (first | (with_reducible exact Sel.refl) | (with_reducible exact Take.head) | (with_reducible apply Take.tail) | (with_reducible apply Sel.cons) | (with_reducible apply Sel.drop))))).mono ?_) | fail); clear hM0; rintro _ w ⟨rfl, hM⟩))
  go_ret
  exact ⟨rfl, hM⟩
end Go.Proofs.Ytbnencchfgnbjaa
