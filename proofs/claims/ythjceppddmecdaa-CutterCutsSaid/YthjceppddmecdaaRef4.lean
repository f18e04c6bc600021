/- The walks of the reference of layer 4: each answers as the plain function of the same name. No condition but lengths. -/
import Derived.Test.YthjceppddmecdaaBaleE
import Derived.Test.YthjceppddmecdaaArr
set_option linter.unusedSimpArgs false
set_option linter.unusedVariables false
namespace Go.Proofs.Ythjceppddmecdaa
open Go.RowKit
attribute [local go_sem] extract_mid extract_drop bget bsize wrap64_u8 i64_u8 u64_u8 bappend

theorem Blk.two {w : World} {g : Nat} {t : TypeId} {a b : Value} (h : Blk w g t #[a, b]) : w.cell? ⟨g, 0, none⟩ = some a ∧ w.cell? ⟨g, 1, none⟩ = some b ∧ w.frozen? ⟨g, 0, none⟩ = false ∧ w.frozen? ⟨g, 1, none⟩ = false :=
  ⟨h.cell 0, h.cell 1, h.frozen 0, h.frozen 1⟩
/-- The reference's Bytes where it begins with no error. -/
theorem numOf_step (v : Nat) (d : UInt8) (hv : v < 72057594037927936) : IntKind.u64.wrap (IntKind.u64.wrap ((v : Int) * 256) + (d.toNat : Int)) = ((v * 256 + d.toNat : Nat) : Int) := by
  have := d.toNat_lt
  rw [IntWalk.u64_in ((v : Int) * 256) (by omega), IntWalk.u64_in _ (by omega)]
  omega
end Go.Proofs.Ythjceppddmecdaa
