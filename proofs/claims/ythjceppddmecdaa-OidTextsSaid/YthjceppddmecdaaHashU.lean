/- Laws that the walks over package hash share: '==' on arrays of bytes; a part of a text; Write and Sum where the state lies anywhere in the list. No condition but those that each theorem names. -/
import Derived.Test.YthjceppddmecdaaHashO
import Derived.Test.YthjceppddmecdaaMore
import Derived.Test.YthjceppddmecdaaArrEq
set_option linter.unusedSimpArgs false
set_option linter.unusedVariables false
namespace Go.Proofs.Ythjceppddmecdaa
open Go.RowKit
attribute [local go_sem] extract_mid extract_drop bget bsize wrap64_u8 i64_u8 u64_u8 bappend
/-- A part of a text. -/
theorem ex_slice_str {P : Program} {w : World} {o : Oper} {a : Act} {t : TypeId} {x y z : Operand} (ho : o.op = .slice t x (some y) (some z) none) (ht : P.underlying t = some .string) {l : List UInt8} (hx : a.eval x = .string ⟨l.toArray⟩) {k k2 : IntKind} {i j : Nat} (hy : a.eval y = .int k (i : Int)) (hz : a.eval z = .int k2 (j : Int))
    (hij : i ≤ j) (hj : j ≤ l.length) {m : List UInt8} (hm : (l.take j).drop i = m) : (execOp a.eval o).run P w = .ok (.value (.string ⟨m.toArray⟩)) w := by
  subst hm
  have hi : (i : Int) ≤ (j : Int) := by omega
  have hj2 : (j : Int) ≤ (l.length : Int) := by omega
  have hr : (Instr.sliceAt t (.string ⟨l.toArray⟩) (some (.int k (i : Int))) (some (.int k2 (j : Int))) none).run P w = .ok (.string ⟨((l.take j).drop i).toArray⟩) w := by
    have h9 := run_slice_string (P := P) w t ⟨l.toArray⟩ k k2 (i : Int) (j : Int) ht (by omega) hi (by rw [bsize]; exact hj2)
    simp only [Int.toNat_natCast, extract_mid] at h9
    simp [Instr.sliceAt, go_sem, run_underlying ht, h9]
  unfold execOp
  simp only [ho, hx, hy, hz, Option.map_some, Option.map_none, hr, Sem.run_bind, Sem.run_pure, Result.andThen_ok]
theorem Star.nilsvs {L : List SProp} {w : World} (h : Star L w) : Star (rowE 1 none 0 (svs []) :: L) w := h.nilrow 1
section
variable {L R1 R2 : List SProp}
theorem write2 (g : Nat) (all : List UInt8) (ps : List (List UInt8)) {As : Option Addr} {np cp : Nat} {A : Option Addr} {n c : Nat} (h1 : Take (cellsE g 104 (shCells all A n c)) L R1) (h2 : Take (tailE 5 1 A n c (bvs (rest all))) R1 R2)
    (hF : rowE 1 As np (svs ps) ∈ R2) (hps : ∀ x ∈ ps, x.length ≤ 1000000000) (hnp : np ≤ 1000) (hall : all.length ≤ 1000000000000) (w : World) (hM : Star L w) :
    Calls Try.prog 58 #[.pointer (some ⟨g, 0, none⟩), .slice As np cp] w fun r w' => ∃ A' n' c', r = .returned (.pointer (some ⟨g, 0, none⟩)) ∧ Star (tailE 5 1 A' n' c' (bvs (rest (all ++ cat ps))) :: cellsE g 104 (shCells (all ++ cat ps) A' n' c') :: R2) w' :=
  write_star g all ps As np cp hps hnp hall A n c w ((hM.take h1).take (.tail h2)) hF
theorem sum2 (g : Nat) (all : List UInt8) {A : Option Addr} {n c : Nat} (h1 : Take (cellsE g 104 (shCells all A n c)) L R1) (h2 : Take (tailE 5 1 A n c (bvs (rest all))) R1 R2)
    (hall : all.length ≤ 3000000000000) (w : World) (hM : Star L w) :
    Calls Try.prog 59 #[.pointer (some ⟨g, 0, none⟩)] w fun r w' => r = .returned (.agg (bvs (sha all)).toArray) ∧ Star L w' :=
  (sum_star g all hall A n c w ((hM.take h1).take (.tail h2))).mono fun _ _ ⟨e, h⟩ => ⟨e, h.perm (((List.Perm.swap _ _ _).trans (List.Perm.cons _ h2.perm.symm)).trans h1.perm.symm)⟩
end

end Go.Proofs.Ythjceppddmecdaa
