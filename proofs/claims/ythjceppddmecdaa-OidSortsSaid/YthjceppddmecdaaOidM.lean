/- Operations that build an array, take the less of two numbers, compare numbers. No condition. -/
import Derived.Test.YthjceppddmecdaaOidA
set_option linter.unusedSimpArgs false
set_option linter.unusedVariables false
namespace Go.Proofs.Ythjceppddmecdaa
open Go.RowKit
attribute [local go_sem] extract_mid extract_drop bget bsize wrap64_u8 i64_u8 u64_u8 bappend
section
variable {P : Program} {w : World} {o : Oper} {a : Act} {x y : Operand} {t ty : TypeId} {ts : Array TypeId}
theorem ex_build {parts : Array (Nat × Operand)} (ho : o.op = .build t parts) (v : Value)
    (hrun : (Instr.build t (parts.map fun x => (x.1, a.eval x.2))).run P w = .ok v w) : (execOp a.eval o).run P w = .ok (.value v) w := by
  simp only [execOp, ho, Sem.run_bind, hrun, Result.andThen_ok, Sem.run_pure]
theorem ex_min (ho : o.op = .call { callee := .builtin .min, args := #[x, y], argTypes := ts }) {i j k : Int} (hx : a.eval x = .int .i64 i) (hy : a.eval y = .int .i64 j) (hm : (if j < i then j else i) = k) :
    (execOp a.eval o).run P w = .ok (.value (.int .i64 k)) w := by
  subst hm
  unfold execOp
  simp only [ho, resolve, invoke, builtin, Sem.run_bind, Sem.run_pure, Result.andThen_ok, List.map_toArray, List.map_cons, List.map_nil, hx, hy]
  simp [go_sem, Builtin.min_, Builtin.min2]
theorem ex_geq (ho : o.op = .binOp .geq t x y ty) {i j : Int} (hx : a.eval x = .int .i64 i) (hy : a.eval y = .int .i64 j) (h : j ≤ i) : (execOp a.eval o).run P w = .ok (.value (.bool true)) w := by
  unfold execOp
  simp only [ho, hx, hy]
  simp [go_sem, h]
end
end Go.Proofs.Ythjceppddmecdaa
