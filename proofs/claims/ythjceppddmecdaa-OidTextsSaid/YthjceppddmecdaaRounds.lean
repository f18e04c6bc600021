/- hash.rounds: the table of the 64 constants. No condition. -/
import Derived.Test.YthjceppddmecdaaSpread
set_option linter.unusedSimpArgs false
set_option linter.unusedVariables false
namespace Go.Proofs.Ythjceppddmecdaa
open Go.RowKit
attribute [local go_sem] extract_mid extract_drop bget bsize wrap64_u8 i64_u8 u64_u8 bappend
theorem build_any {P : Program} {w : World} {ops : Array Oper} {rest : List Oper} {o : Oper} {a : Act} {Q : Exit → Act → World → Prop} (hgd : o.guard = none) (t : TypeId) (parts : Array (Nat × Operand)) (ho : o.op = .build t parts) (v : Value)
    (hrun : (Instr.build t (parts.map fun x => (x.1, a.eval x.2))).run P w = .ok v w) (h : wpList P ops Q rest (a.put o.dst v) w) : wpList P ops Q (o :: rest) a w := by
  refine wpList_plain hgd fun K hK => ?_
  unfold Oper.wp
  simp only [execOp, ho, Sem.run_bind, hrun, Result.andThen_ok, Sem.run_pure]
  exact hK _ _ h
set_option maxRecDepth 100000 in
set_option maxHeartbeats 2000000 in
theorem rounds_any (w : World) : Calls Try.prog 75 #[] w fun r w' => r = .returned (.agg (wvs K64).toArray) ∧ Ch [] w w' := by
  go_enter Try.func75, Try.ntmps75
  go_wp2_with (first | (refine op_alloc rfl 110 rfl (wvs z64).toArray info_w64 ?_; intro g w1 hb1 hg hlt hC1) | (refine build_any rfl 110 _ rfl (.agg (wvs K64).toArray) (by as_aux_lemma => kernel_rfl) ?_) | (refine op_store rfl 110 (.tmp 0) (.tmp 1) rfl g rfl 110 (wvs K64).toArray (wvs z64).toArray rfl hb1 (by simp [wvs_len, K64_len, z64_len]) (w64sz _ K64_len) (by simpa using wvs_one K64) ?_; intro w4 hb4 hC4))
  refine bodyPost_ret (results_cell_row rfl _ _ g 110 (wvs K64).toArray (0, 0) _ rfl hb4 Try.underlying110 rfl (w64sz _ K64_len)) rfl ⟨rfl, ?_⟩
  exact hC1.one hC4 (.inr hg)
end Go.Proofs.Ythjceppddmecdaa
