/- '==' on arrays of bytes. No condition but lengths. -/
import Derived.Test.YthjceppddmecdaaMore
import Derived.Laws.StructEq
set_option linter.unusedSimpArgs false
set_option linter.unusedVariables false
namespace Go.Proofs.Ythjceppddmecdaa
open Go.RowKit
attribute [local go_sem] extract_mid extract_drop bget bsize wrap64_u8 i64_u8 u64_u8 bappend
theorem run_eql_sum {P : Program} (w : World) (t e : TypeId) (n : Nat) (ht : P.underlying t = some (.array n e)) (he : P.underlying e = some (.int .u8)) (hi : (P.info? e).map (·.size) = some 1) (xs ys : List UInt8) (hx : xs.length = n) (h : xs = ys) :
    (binOp .eql t (.agg (bvs xs).toArray) (.agg (bvs ys).toArray)).run P w = .ok (.bool true) w := by
  have h1 := run_eql_bytes w t e n ht he hi xs ys hx (h ▸ hx) 9998
  rw [decide_eq_true h] at h1
  simp only [binOp]
  simp [Op.equal, Op.maxDepth, h1]
theorem ws_eql_sum {P : Program} {w : World} {o : Oper} {a : Act} {Q : Exit → Act → World → Prop} {K : Act → World → Prop} {t ty : TypeId} {x y : Operand} (ho : o.op = .binOp .eql t x y ty) {xs ys : List UInt8} (hx : a.eval x = .agg (bvs xs).toArray) (hy : a.eval y = .agg (bvs ys).toArray)
    {e : TypeId} {n : Nat} (ht : P.underlying t = some (.array n e)) (he : P.underlying e = some (.int .u8)) (hi : (P.info? e).map (·.size) = some 1) (hl : xs.length = n) (hm : P.eqGuardType P.depth t = false) (h : xs = ys) (hK : K (a.put o.dst (.bool true)) w) : Oper.wp P o a w K Q := by
  have hr := run_eql_sum (P := P) w t e n ht he hi xs ys hl h
  unfold Oper.wp execOp
  simp only [ho, hx, hy, run_eqGuard_agg (P := P) w .eql t x y _ _ hm, hr, Sem.run_bind, Sem.run_pure, Result.andThen_ok]
  exact hK
/-- '==' on two arrays of bytes, any answer. -/
theorem run_bin_arr {P : Program} (w : World) (t e : TypeId) (n : Nat) (ht : P.underlying t = some (.array n e)) (he : P.underlying e = some (.int .u8)) (hi : (P.info? e).map (·.size) = some 1) (xs ys : List UInt8) (hx : xs.length = n) (hy : ys.length = n) :
    (binOp .eql t (.agg (bvs xs).toArray) (.agg (bvs ys).toArray)).run P w = .ok (.bool (decide (xs = ys))) w := by
  have h1 := run_eql_bytes w t e n ht he hi xs ys hx hy 9998
  simp only [binOp]
  simp [Op.equal, Op.maxDepth, h1]
theorem run_bin_arrN {P : Program} (w : World) (t e : TypeId) (n : Nat) (ht : P.underlying t = some (.array n e)) (he : P.underlying e = some (.int .u8)) (hi : (P.info? e).map (·.size) = some 1) (xs ys : List UInt8) (hx : xs.length = n) (hy : ys.length = n) :
    (binOp .neq t (.agg (bvs xs).toArray) (.agg (bvs ys).toArray)).run P w = .ok (.bool (!decide (xs = ys))) w := by
  have h1 := run_eql_bytes w t e n ht he hi xs ys hx hy 9998
  simp only [binOp]
  simp [Op.equal, Op.maxDepth, h1]
section
variable {P : Program} {w : World} {o : Oper} {a : Act} {t ty : TypeId} {x y : Operand}
theorem ex_eql_arr (ho : o.op = .binOp .eql t x y ty) {xs ys : List UInt8} (hx : a.eval x = .agg (bvs xs).toArray) (hy : a.eval y = .agg (bvs ys).toArray)
    {e : TypeId} {n : Nat} (ht : P.underlying t = some (.array n e)) (he : P.underlying e = some (.int .u8)) (hi : (P.info? e).map (·.size) = some 1) (hl : xs.length = n) (hl2 : ys.length = n) (hm : P.eqGuardType P.depth t = false) {b : Bool} (hb : decide (xs = ys) = b) :
    (execOp a.eval o).run P w = .ok (.value (.bool b)) w := by
  have hr := run_bin_arr (P := P) w t e n ht he hi xs ys hl hl2
  rw [hb] at hr
  unfold execOp
  simp only [ho, hx, hy, run_eqGuard_agg (P := P) w .eql t x y _ _ hm, hr, Sem.run_bind, Sem.run_pure, Result.andThen_ok]
theorem ex_neq_arr (ho : o.op = .binOp .neq t x y ty) {xs ys : List UInt8} (hx : a.eval x = .agg (bvs xs).toArray) (hy : a.eval y = .agg (bvs ys).toArray)
    {e : TypeId} {n : Nat} (ht : P.underlying t = some (.array n e)) (he : P.underlying e = some (.int .u8)) (hi : (P.info? e).map (·.size) = some 1) (hl : xs.length = n) (hl2 : ys.length = n) (hm : P.eqGuardType P.depth t = false) {b : Bool} (hb : (!decide (xs = ys)) = b) :
    (execOp a.eval o).run P w = .ok (.value (.bool b)) w := by
  have hr := run_bin_arrN (P := P) w t e n ht he hi xs ys hl hl2
  rw [hb] at hr
  unfold execOp
  simp only [ho, hx, hy, run_eqGuard_agg (P := P) w .neq t x y _ _ hm, hr, Sem.run_bind, Sem.run_pure, Result.andThen_ok]
theorem ws_of_ex {K : Act → World → Prop} {Q : Exit → Act → World → Prop} {v : Value} (h : (execOp a.eval o).run P w = .ok (.value v) w) (hK : K (a.put o.dst v) w) : Oper.wp P o a w K Q := by
  unfold Oper.wp
  rw [h]
  exact hK
end
end Go.Proofs.Ythjceppddmecdaa
