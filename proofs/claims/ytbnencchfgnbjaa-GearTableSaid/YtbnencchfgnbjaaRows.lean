/-
  No cell of these rows narrows 'for every input' (looked for: loops, veiled, ifaces, maps, wideKeys, modest, calm, conditions, laid).
  DERIVED. THE GIVEN ROWS OF THIS SEAT. 12 by the template 'for every input the law returns true; each argument reads behind the call as it read before'; 0 by the template 'total and deterministic' (their statements: YtbnencchfgnbjaaTotals.lean).
  GIVEN WITH THE SEED: the statements are not yours to turn. If you find one false, say at which input.
  Laid BY PROGRAM, IN A SANDBOX (cutbox-rows.mjs): the forced cells as the released guide's own fill.sh prints them over the translation 78e393e2586e180d… (all of the seat's roots in one cut). By AI agents, Wed Nov 11 2026. No macro, syntax, notation, axiom, sorry.
-/
import Derived.Test.YtbnencchfgnbjaaChecked
import GoSem.Claim
import GoSem.ClaimJoined
import GoSem.ClaimMapViews
import Derived.JoinedTies
import Derived.KernelRfl
namespace Go.Proofs.Ytbnencchfgnbjaa
/- THE CELL 'sum', in the pinned program and in every row, IS THE sha256 OF THE DUMP (.gsa) THAT YtbnencchfgnbjaaProg.lean LOADS. Nothing in Lean hashes anything: it is a label: what it is worth is what the hold of that sum in a sandbox is worth. -/
noncomputable def Try.pinned : Pinned := { name := "ytbnencchfgnbjaa", sum := "78e393e2586e180dd3ccae871e7ba36e8c40d5e24544d38148a22651c9aeb54a", checked := Try.checked }
namespace Rows
def none {H : Type} : Left H := { results := [], args := [] }

/-- 'caravanlaw04.BaleOne': WHATEVER THE INPUT: true; the input reads as it did. -/
def baleOneSpec : ChangeSpec := { name := "baleOne", fn := fun _ => fun
  | [d] => { results := [.lit (.bool true)], args := [d] }
  | _ => none }
def baleOneRow : OpenClaim := { program := "ytbnencchfgnbjaa", sum := "78e393e2586e180dd3ccae871e7ba36e8c40d5e24544d38148a22651c9aeb54a", func := "caravan/caravanlaw04.BaleOne", spec := "baleOne", apart := false }
def BaleOneSaid : Prop := baleOneRow.holds Try.pinned (OpenSpec.ofChange baleOneSpec)

/-- ITS FALSE NEIGHBOUR: 'it returns false'. Refute it at one input. -/
def baleOneWrong : ChangeSpec := { name := "baleOne", fn := fun _ => fun
  | [d] => { results := [.lit (.bool false)], args := [d] }
  | _ => none }
def BaleOneWrongFalsely : Prop := baleOneRow.holds Try.pinned (OpenSpec.ofChange baleOneWrong)

/-- 'caravanlaw04.BalePuts': WHATEVER THE INPUT: true; the input reads as it did. -/
def balePutsSpec : ChangeSpec := { name := "balePuts", fn := fun _ => fun
  | [d1, d2, d3, d4] => { results := [.lit (.bool true)], args := [d1, d2, d3, d4] }
  | _ => none }
def balePutsRow : OpenClaim := { program := "ytbnencchfgnbjaa", sum := "78e393e2586e180dd3ccae871e7ba36e8c40d5e24544d38148a22651c9aeb54a", func := "caravan/caravanlaw04.BalePuts", spec := "balePuts", apart := false }
def BalePutsSaid : Prop := balePutsRow.holds Try.pinned (OpenSpec.ofChange balePutsSpec)

/-- ITS FALSE NEIGHBOUR: 'it returns false'. Refute it at one input. -/
def balePutsWrong : ChangeSpec := { name := "balePuts", fn := fun _ => fun
  | [d1, d2, d3, d4] => { results := [.lit (.bool false)], args := [d1, d2, d3, d4] }
  | _ => none }
def BalePutsWrongFalsely : Prop := balePutsRow.holds Try.pinned (OpenSpec.ofChange balePutsWrong)

/-- 'caravanlaw04.BaleStays': WHATEVER THE INPUT: true; the input reads as it did. -/
def baleStaysSpec : ChangeSpec := { name := "baleStays", fn := fun _ => fun
  | [d1, d2] => { results := [.lit (.bool true)], args := [d1, d2] }
  | _ => none }
def baleStaysRow : OpenClaim := { program := "ytbnencchfgnbjaa", sum := "78e393e2586e180dd3ccae871e7ba36e8c40d5e24544d38148a22651c9aeb54a", func := "caravan/caravanlaw04.BaleStays", spec := "baleStays", apart := false }
def BaleStaysSaid : Prop := baleStaysRow.holds Try.pinned (OpenSpec.ofChange baleStaysSpec)

/-- ITS FALSE NEIGHBOUR: 'it returns false'. Refute it at one input. -/
def baleStaysWrong : ChangeSpec := { name := "baleStays", fn := fun _ => fun
  | [d1, d2] => { results := [.lit (.bool false)], args := [d1, d2] }
  | _ => none }
def BaleStaysWrongFalsely : Prop := baleStaysRow.holds Try.pinned (OpenSpec.ofChange baleStaysWrong)

/-- 'caravanlaw01.HashOf': WHATEVER THE INPUT: true; the input reads as it did. -/
def hashOfSpec : ChangeSpec := { name := "hashOf", fn := fun _ => fun
  | [d] => { results := [.lit (.bool true)], args := [d] }
  | _ => none }
def hashOfRow : OpenClaim := { program := "ytbnencchfgnbjaa", sum := "78e393e2586e180dd3ccae871e7ba36e8c40d5e24544d38148a22651c9aeb54a", func := "caravan/caravanlaw01.HashOf", spec := "hashOf", apart := false }
def HashOfSaid : Prop := hashOfRow.holds Try.pinned (OpenSpec.ofChange hashOfSpec)

/-- ITS FALSE NEIGHBOUR: 'it returns false'. Refute it at one input. -/
def hashOfWrong : ChangeSpec := { name := "hashOf", fn := fun _ => fun
  | [d] => { results := [.lit (.bool false)], args := [d] }
  | _ => none }
def HashOfWrongFalsely : Prop := hashOfRow.holds Try.pinned (OpenSpec.ofChange hashOfWrong)

/-- 'caravanlaw01.HashParts': WHATEVER THE INPUT: true; the input reads as it did. -/
def hashPartsSpec : ChangeSpec := { name := "hashParts", fn := fun _ => fun
  | [d1, d2] => { results := [.lit (.bool true)], args := [d1, d2] }
  | _ => none }
def hashPartsRow : OpenClaim := { program := "ytbnencchfgnbjaa", sum := "78e393e2586e180dd3ccae871e7ba36e8c40d5e24544d38148a22651c9aeb54a", func := "caravan/caravanlaw01.HashParts", spec := "hashParts", apart := false }
def HashPartsSaid : Prop := hashPartsRow.holds Try.pinned (OpenSpec.ofChange hashPartsSpec)

/-- ITS FALSE NEIGHBOUR: 'it returns false'. Refute it at one input. -/
def hashPartsWrong : ChangeSpec := { name := "hashParts", fn := fun _ => fun
  | [d1, d2] => { results := [.lit (.bool false)], args := [d1, d2] }
  | _ => none }
def HashPartsWrongFalsely : Prop := hashPartsRow.holds Try.pinned (OpenSpec.ofChange hashPartsWrong)

/-- 'caravanlaw01.HashLong': WHATEVER THE INPUT: true; the input reads as it did. -/
def hashLongSpec : ChangeSpec := { name := "hashLong", fn := fun _ => fun
  | [d1, d2] => { results := [.lit (.bool true)], args := [d1, d2] }
  | _ => none }
def hashLongRow : OpenClaim := { program := "ytbnencchfgnbjaa", sum := "78e393e2586e180dd3ccae871e7ba36e8c40d5e24544d38148a22651c9aeb54a", func := "caravan/caravanlaw01.HashLong", spec := "hashLong", apart := false }
def HashLongSaid : Prop := hashLongRow.holds Try.pinned (OpenSpec.ofChange hashLongSpec)

/-- ITS FALSE NEIGHBOUR: 'it returns false'. Refute it at one input. -/
def hashLongWrong : ChangeSpec := { name := "hashLong", fn := fun _ => fun
  | [d1, d2] => { results := [.lit (.bool false)], args := [d1, d2] }
  | _ => none }
def HashLongWrongFalsely : Prop := hashLongRow.holds Try.pinned (OpenSpec.ofChange hashLongWrong)

/-- 'caravanlaw01.HashMore': WHATEVER THE INPUT: true; the input reads as it did. -/
def hashMoreSpec : ChangeSpec := { name := "hashMore", fn := fun _ => fun
  | [d1, d2, d3] => { results := [.lit (.bool true)], args := [d1, d2, d3] }
  | _ => none }
def hashMoreRow : OpenClaim := { program := "ytbnencchfgnbjaa", sum := "78e393e2586e180dd3ccae871e7ba36e8c40d5e24544d38148a22651c9aeb54a", func := "caravan/caravanlaw01.HashMore", spec := "hashMore", apart := false }
def HashMoreSaid : Prop := hashMoreRow.holds Try.pinned (OpenSpec.ofChange hashMoreSpec)

/-- ITS FALSE NEIGHBOUR: 'it returns false'. Refute it at one input. -/
def hashMoreWrong : ChangeSpec := { name := "hashMore", fn := fun _ => fun
  | [d1, d2, d3] => { results := [.lit (.bool false)], args := [d1, d2, d3] }
  | _ => none }
def HashMoreWrongFalsely : Prop := hashMoreRow.holds Try.pinned (OpenSpec.ofChange hashMoreWrong)

/-- 'caravanlaw04.BaleBack': WHATEVER THE INPUT: true; the input reads as it did. -/
def baleBackSpec : ChangeSpec := { name := "baleBack", fn := fun _ => fun
  | [d1, d2, d3, d4, d5] => { results := [.lit (.bool true)], args := [d1, d2, d3, d4, d5] }
  | _ => none }
def baleBackRow : OpenClaim := { program := "ytbnencchfgnbjaa", sum := "78e393e2586e180dd3ccae871e7ba36e8c40d5e24544d38148a22651c9aeb54a", func := "caravan/caravanlaw04.BaleBack", spec := "baleBack", apart := false }
def BaleBackSaid : Prop := baleBackRow.holds Try.pinned (OpenSpec.ofChange baleBackSpec)

/-- ITS FALSE NEIGHBOUR: 'it returns false'. Refute it at one input. -/
def baleBackWrong : ChangeSpec := { name := "baleBack", fn := fun _ => fun
  | [d1, d2, d3, d4, d5] => { results := [.lit (.bool false)], args := [d1, d2, d3, d4, d5] }
  | _ => none }
def BaleBackWrongFalsely : Prop := baleBackRow.holds Try.pinned (OpenSpec.ofChange baleBackWrong)

/-- 'caravanlaw07.GearLocal': WHATEVER THE INPUT: true; the input reads as it did. -/
def gearLocalSpec : ChangeSpec := { name := "gearLocal", fn := fun _ => fun
  | [d1, d2, d3] => { results := [.lit (.bool true)], args := [d1, d2, d3] }
  | _ => none }
def gearLocalRow : OpenClaim := { program := "ytbnencchfgnbjaa", sum := "78e393e2586e180dd3ccae871e7ba36e8c40d5e24544d38148a22651c9aeb54a", func := "caravan/caravanlaw07.GearLocal", spec := "gearLocal", apart := false }
def GearLocalSaid : Prop := gearLocalRow.holds Try.pinned (OpenSpec.ofChange gearLocalSpec)

/-- ITS FALSE NEIGHBOUR: 'it returns false'. Refute it at one input. -/
def gearLocalWrong : ChangeSpec := { name := "gearLocal", fn := fun _ => fun
  | [d1, d2, d3] => { results := [.lit (.bool false)], args := [d1, d2, d3] }
  | _ => none }
def GearLocalWrongFalsely : Prop := gearLocalRow.holds Try.pinned (OpenSpec.ofChange gearLocalWrong)

/-- 'caravanlaw07.GearMasks': WHATEVER THE INPUT: true; the input reads as it did. -/
def gearMasksSpec : ChangeSpec := { name := "gearMasks", fn := fun _ => fun
  | [d1, d2] => { results := [.lit (.bool true)], args := [d1, d2] }
  | _ => none }
def gearMasksRow : OpenClaim := { program := "ytbnencchfgnbjaa", sum := "78e393e2586e180dd3ccae871e7ba36e8c40d5e24544d38148a22651c9aeb54a", func := "caravan/caravanlaw07.GearMasks", spec := "gearMasks", apart := false }
def GearMasksSaid : Prop := gearMasksRow.holds Try.pinned (OpenSpec.ofChange gearMasksSpec)

/-- ITS FALSE NEIGHBOUR: 'it returns false'. Refute it at one input. -/
def gearMasksWrong : ChangeSpec := { name := "gearMasks", fn := fun _ => fun
  | [d1, d2] => { results := [.lit (.bool false)], args := [d1, d2] }
  | _ => none }
def GearMasksWrongFalsely : Prop := gearMasksRow.holds Try.pinned (OpenSpec.ofChange gearMasksWrong)

/-- 'caravanlaw07.GearRolls': WHATEVER THE INPUT: true; the input reads as it did. -/
def gearRollsSpec : ChangeSpec := { name := "gearRolls", fn := fun _ => fun
  | [d] => { results := [.lit (.bool true)], args := [d] }
  | _ => none }
def gearRollsRow : OpenClaim := { program := "ytbnencchfgnbjaa", sum := "78e393e2586e180dd3ccae871e7ba36e8c40d5e24544d38148a22651c9aeb54a", func := "caravan/caravanlaw07.GearRolls", spec := "gearRolls", apart := false }
def GearRollsSaid : Prop := gearRollsRow.holds Try.pinned (OpenSpec.ofChange gearRollsSpec)

/-- ITS FALSE NEIGHBOUR: 'it returns false'. Refute it at one input. -/
def gearRollsWrong : ChangeSpec := { name := "gearRolls", fn := fun _ => fun
  | [d] => { results := [.lit (.bool false)], args := [d] }
  | _ => none }
def GearRollsWrongFalsely : Prop := gearRollsRow.holds Try.pinned (OpenSpec.ofChange gearRollsWrong)

/-- 'caravanlaw07.GearTable': WHATEVER THE INPUT: true; the input reads as it did. -/
def gearTableSpec : ChangeSpec := { name := "gearTable", fn := fun _ => fun
  | [d] => { results := [.lit (.bool true)], args := [d] }
  | _ => none }
def gearTableRow : OpenClaim := { program := "ytbnencchfgnbjaa", sum := "78e393e2586e180dd3ccae871e7ba36e8c40d5e24544d38148a22651c9aeb54a", func := "caravan/caravanlaw07.GearTable", spec := "gearTable", inPlace := ["internal/abi.NoEscape"], apart := false }
def GearTableSaid : Prop := gearTableRow.holds Try.pinned (OpenSpec.ofChange gearTableSpec)

/-- ITS FALSE NEIGHBOUR: 'it returns false'. Refute it at one input. -/
def gearTableWrong : ChangeSpec := { name := "gearTable", fn := fun _ => fun
  | [d] => { results := [.lit (.bool false)], args := [d] }
  | _ => none }
def GearTableWrongFalsely : Prop := gearTableRow.holds Try.pinned (OpenSpec.ofChange gearTableWrong)

/- THE SECOND FORM. 'bulk': how many values and letters a reading holds, each counted each time it is reached (what is shared counts as often as it is met; a slice's spare places count too). A statement '..UptoSaid' is the law's where the arguments, and the package variables that the reading takes, are together of bulk at most 1048576: NARROWER than '..Said'. Prove '..Said' where nothing that the law and all that it calls make is longer than what came in: it says more and counts as full. Else prove '..UptoSaid'. A law counts once. -/
mutual
def uptoBulk {H : Type} : DataW H → Nat
  | .lit (.string bytes) => bytes.length + 1
  | .lit _ => 1
  | .nil => 1
  | .ptr d => uptoBulk d + 1
  | .slice elems spare => uptoBulkAll elems + uptoBulkAll spare + 1
  | .agg parts => uptoBulkAll parts + 1
  | .iface _ d => uptoBulk d + 1
  | .map entries => uptoBulkEntries entries + 1
  | .held _ => 1
def uptoBulkAll {H : Type} : List (DataW H) → Nat
  | [] => 0
  | d :: r => uptoBulk d + uptoBulkAll r
def uptoBulkEntries {H : Type} : List (Lit × DataW H) → Nat
  | [] => 0
  | x :: r => uptoBulkEntry x + uptoBulkEntries r
def uptoBulkEntry {H : Type} : Lit × DataW H → Nat
  | (.string bytes, d) => bytes.length + uptoBulk d + 1
  | (_, d) => uptoBulk d + 1
 end
def uptoSmall : (H : Type) → List (DataW H) → Bool := fun _ ds => decide (uptoBulkAll ds ≤ 1048576)
def OpenSpec.upto (s : _root_.Go.ChangeSpec) : _root_.Go.OpenSpec := { _root_.Go.OpenSpec.ofChange s with cond := some uptoSmall }

/-- 'caravanlaw04.BaleOne', WHERE WHAT IT READS IS OF BULK AT MOST 1048576: true; the input reads as it did. -/
def baleOneUptoRow : OpenClaim := { program := "ytbnencchfgnbjaa", sum := "78e393e2586e180dd3ccae871e7ba36e8c40d5e24544d38148a22651c9aeb54a", func := "caravan/caravanlaw04.BaleOne", spec := "baleOne", apart := false, narrowed := true }
def BaleOneUptoSaid : Prop := baleOneUptoRow.holds Try.pinned (OpenSpec.upto baleOneSpec)

/-- 'caravanlaw04.BalePuts', WHERE WHAT IT READS IS OF BULK AT MOST 1048576: true; the input reads as it did. -/
def balePutsUptoRow : OpenClaim := { program := "ytbnencchfgnbjaa", sum := "78e393e2586e180dd3ccae871e7ba36e8c40d5e24544d38148a22651c9aeb54a", func := "caravan/caravanlaw04.BalePuts", spec := "balePuts", apart := false, narrowed := true }
def BalePutsUptoSaid : Prop := balePutsUptoRow.holds Try.pinned (OpenSpec.upto balePutsSpec)

/-- 'caravanlaw04.BaleStays', WHERE WHAT IT READS IS OF BULK AT MOST 1048576: true; the input reads as it did. -/
def baleStaysUptoRow : OpenClaim := { program := "ytbnencchfgnbjaa", sum := "78e393e2586e180dd3ccae871e7ba36e8c40d5e24544d38148a22651c9aeb54a", func := "caravan/caravanlaw04.BaleStays", spec := "baleStays", apart := false, narrowed := true }
def BaleStaysUptoSaid : Prop := baleStaysUptoRow.holds Try.pinned (OpenSpec.upto baleStaysSpec)

/-- 'caravanlaw01.HashOf', WHERE WHAT IT READS IS OF BULK AT MOST 1048576: true; the input reads as it did. -/
def hashOfUptoRow : OpenClaim := { program := "ytbnencchfgnbjaa", sum := "78e393e2586e180dd3ccae871e7ba36e8c40d5e24544d38148a22651c9aeb54a", func := "caravan/caravanlaw01.HashOf", spec := "hashOf", apart := false, narrowed := true }
def HashOfUptoSaid : Prop := hashOfUptoRow.holds Try.pinned (OpenSpec.upto hashOfSpec)

/-- 'caravanlaw01.HashParts', WHERE WHAT IT READS IS OF BULK AT MOST 1048576: true; the input reads as it did. -/
def hashPartsUptoRow : OpenClaim := { program := "ytbnencchfgnbjaa", sum := "78e393e2586e180dd3ccae871e7ba36e8c40d5e24544d38148a22651c9aeb54a", func := "caravan/caravanlaw01.HashParts", spec := "hashParts", apart := false, narrowed := true }
def HashPartsUptoSaid : Prop := hashPartsUptoRow.holds Try.pinned (OpenSpec.upto hashPartsSpec)

/-- 'caravanlaw01.HashLong', WHERE WHAT IT READS IS OF BULK AT MOST 1048576: true; the input reads as it did. -/
def hashLongUptoRow : OpenClaim := { program := "ytbnencchfgnbjaa", sum := "78e393e2586e180dd3ccae871e7ba36e8c40d5e24544d38148a22651c9aeb54a", func := "caravan/caravanlaw01.HashLong", spec := "hashLong", apart := false, narrowed := true }
def HashLongUptoSaid : Prop := hashLongUptoRow.holds Try.pinned (OpenSpec.upto hashLongSpec)

/-- 'caravanlaw01.HashMore', WHERE WHAT IT READS IS OF BULK AT MOST 1048576: true; the input reads as it did. -/
def hashMoreUptoRow : OpenClaim := { program := "ytbnencchfgnbjaa", sum := "78e393e2586e180dd3ccae871e7ba36e8c40d5e24544d38148a22651c9aeb54a", func := "caravan/caravanlaw01.HashMore", spec := "hashMore", apart := false, narrowed := true }
def HashMoreUptoSaid : Prop := hashMoreUptoRow.holds Try.pinned (OpenSpec.upto hashMoreSpec)

/-- 'caravanlaw04.BaleBack', WHERE WHAT IT READS IS OF BULK AT MOST 1048576: true; the input reads as it did. -/
def baleBackUptoRow : OpenClaim := { program := "ytbnencchfgnbjaa", sum := "78e393e2586e180dd3ccae871e7ba36e8c40d5e24544d38148a22651c9aeb54a", func := "caravan/caravanlaw04.BaleBack", spec := "baleBack", apart := false, narrowed := true }
def BaleBackUptoSaid : Prop := baleBackUptoRow.holds Try.pinned (OpenSpec.upto baleBackSpec)

/-- 'caravanlaw07.GearLocal', WHERE WHAT IT READS IS OF BULK AT MOST 1048576: true; the input reads as it did. -/
def gearLocalUptoRow : OpenClaim := { program := "ytbnencchfgnbjaa", sum := "78e393e2586e180dd3ccae871e7ba36e8c40d5e24544d38148a22651c9aeb54a", func := "caravan/caravanlaw07.GearLocal", spec := "gearLocal", apart := false, narrowed := true }
def GearLocalUptoSaid : Prop := gearLocalUptoRow.holds Try.pinned (OpenSpec.upto gearLocalSpec)

/-- 'caravanlaw07.GearMasks', WHERE WHAT IT READS IS OF BULK AT MOST 1048576: true; the input reads as it did. -/
def gearMasksUptoRow : OpenClaim := { program := "ytbnencchfgnbjaa", sum := "78e393e2586e180dd3ccae871e7ba36e8c40d5e24544d38148a22651c9aeb54a", func := "caravan/caravanlaw07.GearMasks", spec := "gearMasks", apart := false, narrowed := true }
def GearMasksUptoSaid : Prop := gearMasksUptoRow.holds Try.pinned (OpenSpec.upto gearMasksSpec)

/-- 'caravanlaw07.GearRolls', WHERE WHAT IT READS IS OF BULK AT MOST 1048576: true; the input reads as it did. -/
def gearRollsUptoRow : OpenClaim := { program := "ytbnencchfgnbjaa", sum := "78e393e2586e180dd3ccae871e7ba36e8c40d5e24544d38148a22651c9aeb54a", func := "caravan/caravanlaw07.GearRolls", spec := "gearRolls", apart := false, narrowed := true }
def GearRollsUptoSaid : Prop := gearRollsUptoRow.holds Try.pinned (OpenSpec.upto gearRollsSpec)

/-- 'caravanlaw07.GearTable', WHERE WHAT IT READS IS OF BULK AT MOST 1048576: true; the input reads as it did. -/
def gearTableUptoRow : OpenClaim := { program := "ytbnencchfgnbjaa", sum := "78e393e2586e180dd3ccae871e7ba36e8c40d5e24544d38148a22651c9aeb54a", func := "caravan/caravanlaw07.GearTable", spec := "gearTable", inPlace := ["internal/abi.NoEscape"], apart := false, narrowed := true }
def GearTableUptoSaid : Prop := gearTableUptoRow.holds Try.pinned (OpenSpec.upto gearTableSpec)

end Rows
end Go.Proofs.Ytbnencchfgnbjaa
