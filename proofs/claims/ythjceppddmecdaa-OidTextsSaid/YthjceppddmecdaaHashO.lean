/- The walks of hash.Of, hash.Hex, caravanlaw01.awake. No condition but that not too many bytes come. -/
import Derived.Test.YthjceppddmecdaaHashS
set_option linter.unusedSimpArgs false
set_option linter.unusedVariables false
namespace Go.Proofs.Ythjceppddmecdaa
open Go.RowKit
attribute [local go_sem] extract_mid extract_drop bget bsize wrap64_u8 i64_u8 u64_u8 bappend
set_option maxRecDepth 100000 in
set_option maxHeartbeats 2000000 in
theorem of_star {F : List SProp} (ps : List (List UInt8)) (As : Option Addr) (np cp : Nat) (hps : ∀ x ∈ ps, x.length ≤ 1000000000) (hnp : np ≤ 1000) (w : World) (hM : Star F w) (hF : rowE 1 As np (svs ps) ∈ F) :
    Calls Try.prog 45 #[.slice As np cp] w fun r w' => r = .returned (.agg (bvs (sha (cat ps))).toArray) ∧ Star F w' := by
  have hl := svs_row (hM.row hF)
  have hb : (cat ps).length ≤ 1000000000000 := by have := cat_le 1000000000 ps hps; rw [hl] at this; omega
  have HL := Lib.hid hl
  have HP := Lib.hid hps
  have hshl := sha_len (cat ps)
  have HSL := Lib.hid hshl
  clear hl hps hshl
  go_enter Try.func45, Try.ntmps45
  go_wp2_with (first | (first | (have hM0 := hM; clear hM; refine BigFrame.wpList_want (by rfl) fun K hK => ws_alloc hM0 (t := 22) rfl (bvs z32).toArray info_sum (fun g2 w hM => hK _ _ ?_); clear hM0 hK K) | fail) | (go_at_call 57; have hM0 := hM; clear hM; (first | (with_reducible refine (new_star _ hM0).mono ?_) | fail); clear hM0; rintro _ w ⟨gh, rfl, hM⟩) | (go_at_call 58; have hM0 := hM; clear hM; (first | (with_reducible refine (write_star gh [] ps As np cp HP.out hnp (by simp) none 0 0 _ hM0 (by simp [hF])).mono ?_) | fail); clear hM0; rintro _ w ⟨A1, n1, c1, rfl, hM⟩) | ((go_at_call 59; have hM0 := hM; clear hM; (first | (with_reducible refine (sum_star gh ([] ++ cat ps) (by simp only [List.nil_append]; omega) A1 n1 c1 _ hM0).mono ?_) | fail); clear hM0; rintro _ w ⟨rfl, hM⟩); simp only [List.nil_append] at hM ⊢) | (first | (have hM0 := hM; clear hM; refine BigFrame.wpList_want (by rfl) fun K hK => ws_store hM0 rfl rfl rfl (by (repeat (first | (with_reducible exact Take.head) | apply Take.tail)); first | done | fail) (n := 32) (by simp [bvs_len, HSL.out]) (by simp [bvs_len, z32_len]) (by kernel_rfl) (by simpa using bvs_oneCell _) (fun w hM => hK _ _ ?_); clear hM0 hK K) | fail))
  exact bodyPost_ret (results_cell_row rfl _ _ g2 22 (bvs (sha (cat ps))).toArray (0, 0) _ rfl (hM.blk (by (repeat (first | assumption | (with_reducible exact List.mem_cons_self) | apply List.mem_cons_of_mem)); first | done | fail)) Try.underlying22 rfl (by rw [info_sumn]; simp [bvs_len, HSL.out])) rfl ⟨rfl, hM.sel (by repeat (first | (with_reducible exact Sel.refl) | (with_reducible exact Take.head) | (with_reducible apply Take.tail) | (with_reducible apply Sel.cons) | (with_reducible apply Sel.drop)))⟩
def hexDigits : List UInt8 := [48, 49, 50, 51, 52, 53, 54, 55, 56, 57, 97, 98, 99, 100, 101, 102]
def hexd (n : Nat) : UInt8 := hexDigits.getD n 0
def hex1 (c : UInt8) : List UInt8 := [hexd (c.toNat / 16), hexd (c.toNat % 16)]
def hexOf (l : List UInt8) : List UInt8 := l.flatMap hex1
theorem hexOf_snoc (l : List UInt8) (c : UInt8) : hexOf (l ++ [c]) = hexOf l ++ hex1 c := by simp [hexOf]
theorem hexOf_len (l : List UInt8) : (hexOf l).length = 2 * l.length := by
  induction l with
  | nil => rfl
  | cons c l ih => simp only [hexOf, List.flatMap_cons, List.length_append, List.length_cons, hex1] at ih ⊢; simp at ih ⊢; omega
theorem hexDigits_get (n : Nat) (h : n < 16) : hexDigits[n]? = some (hexd n) := by
  unfold hexd
  rw [List.getD_eq_getElem?_getD, List.getElem?_eq_getElem (by simpa [hexDigits] using h)]
  rfl
/-- A byte of a text at a reckoned place. -/
theorem ex_index_str {P : Program} {w : World} {o : Oper} {a : Act} {t : TypeId} {x y : Operand} (ho : o.op = .index t x y) (ht : P.underlying t = some .string) {l : List UInt8} (hx : a.eval x = .string ⟨l.toArray⟩) {k : IntKind} {n : Nat} (hy : a.eval y = .int k (n : Int)) {c : UInt8} (hc : l[n]? = some c) :
    (execOp a.eval o).run P w = .ok (.value (.int .u8 (c.toNat : Int))) w := by
  obtain ⟨hn, rfl⟩ := List.getElem?_eq_some_iff.1 hc
  have hr : (Instr.index t (.string ⟨l.toArray⟩) (.int k (n : Int))).run P w = .ok (.int .u8 (l[n].toNat : Int)) w := by
    simp [Instr.index, go_sem, hn, bsize, bget, run_underlying ht]
  unfold execOp
  simp only [ho, hx, hy, Sem.run_bind, hr, Result.andThen_ok, Sem.run_pure]
theorem and15 (c : UInt8) : bits BinOp.and IntKind.u8 (c.toNat : Int) 15 = ((c.toNat % 16 : Nat) : Int) := by
  have h := c.toNat_lt
  have := u8_and_nat c.toNat 15 (by omega) (by omega)
  rw [Nat.and_two_pow_sub_one_eq_mod c.toNat 4] at this
  exact this
theorem bvs_at {l : List UInt8} {k : Nat} {d : UInt8} (h : l[k]? = some d) : (bvs l)[k]? = some (.int .u8 (d.toNat : Int)) := by simp [bvs, h, bv]
theorem hex_abc : hexOf (sha [97, 98, 99]) = [98, 97, 55, 56, 49, 54, 98, 102, 56, 102, 48, 49, 99, 102, 101, 97, 52, 49, 52, 49, 52, 48, 100, 101, 53, 100, 97, 101, 50, 50, 50, 51, 98, 48, 48, 51, 54, 49, 97, 51, 57, 54, 49, 55, 55, 97, 57, 99, 98, 52, 49, 48, 102, 102, 54, 49, 102, 50, 48, 48, 49, 53, 97, 100] := by rw [sha_abc]; decide +kernel
end Go.Proofs.Ythjceppddmecdaa
