/-
  No cell of these rows narrows 'for every input' (looked for: loops, veiled, ifaces, maps, wideKeys, modest, calm, conditions, laid).
  DERIVED. THE GIVEN ROWS OF THIS SEAT. 10 by the template 'for every input the law returns true; each argument reads behind the call as it read before'; 0 by the template 'total and deterministic' (their statements: YthjceppddmecdaaTotals.lean).
  GIVEN WITH THE SEED: the statements are not yours to turn. If you find one false, say at which input.
  Laid BY PROGRAM, IN A SANDBOX (cutbox-rows.mjs): the forced cells as the released guide's own fill.sh prints them over the translation 5cfe9f88d7247f8b… (all of the seat's roots in one cut). By AI agents, Wed Nov 11 2026. No macro, syntax, notation, axiom, sorry.
-/
import Derived.Test.YthjceppddmecdaaChecked
import GoSem.Claim
import GoSem.ClaimJoined
import GoSem.ClaimMapViews
import Derived.JoinedTies
import Derived.KernelRfl
namespace Go.Proofs.Ythjceppddmecdaa
/- THE CELL 'sum', in the pinned program and in every row, IS THE sha256 OF THE DUMP (.gsa) THAT YthjceppddmecdaaProg.lean LOADS. Nothing in Lean hashes anything: it is a label: what it is worth is what the hold of that sum in a sandbox is worth. -/
noncomputable def Try.pinned : Pinned := { name := "ythjceppddmecdaa", sum := "5cfe9f88d7247f8bb26dfaea3f2df5f221c23c45dc6b07b8573faaf55e37641f", checked := Try.checked }
namespace Rows
def none {H : Type} : Left H := { results := [], args := [] }

/-- 'caravanlaw02.OidNear': WHATEVER THE INPUT: true; the input reads as it did. -/
def oidNearSpec : ChangeSpec := { name := "oidNear", fn := fun _ => fun
  | [d1, d2, d3] => { results := [.lit (.bool true)], args := [d1, d2, d3] }
  | _ => none }
def oidNearRow : OpenClaim := { program := "ythjceppddmecdaa", sum := "5cfe9f88d7247f8bb26dfaea3f2df5f221c23c45dc6b07b8573faaf55e37641f", func := "caravan/caravanlaw02.OidNear", spec := "oidNear", inPlace := ["internal/bytealg.Compare", "internal/abi.NoEscape"], apart := false }
def OidNearSaid : Prop := oidNearRow.holds Try.pinned (OpenSpec.ofChange oidNearSpec)

/-- ITS FALSE NEIGHBOUR: 'it returns false'. Refute it at one input. -/
def oidNearWrong : ChangeSpec := { name := "oidNear", fn := fun _ => fun
  | [d1, d2, d3] => { results := [.lit (.bool false)], args := [d1, d2, d3] }
  | _ => none }
def OidNearWrongFalsely : Prop := oidNearRow.holds Try.pinned (OpenSpec.ofChange oidNearWrong)

/-- 'caravanlaw02.OidDistance': WHATEVER THE INPUT: true; the input reads as it did. -/
def oidDistanceSpec : ChangeSpec := { name := "oidDistance", fn := fun _ => fun
  | [d1, d2, d3] => { results := [.lit (.bool true)], args := [d1, d2, d3] }
  | _ => none }
def oidDistanceRow : OpenClaim := { program := "ythjceppddmecdaa", sum := "5cfe9f88d7247f8bb26dfaea3f2df5f221c23c45dc6b07b8573faaf55e37641f", func := "caravan/caravanlaw02.OidDistance", spec := "oidDistance", inPlace := ["internal/bytealg.Compare", "internal/abi.NoEscape"], apart := false }
def OidDistanceSaid : Prop := oidDistanceRow.holds Try.pinned (OpenSpec.ofChange oidDistanceSpec)

/-- ITS FALSE NEIGHBOUR: 'it returns false'. Refute it at one input. -/
def oidDistanceWrong : ChangeSpec := { name := "oidDistance", fn := fun _ => fun
  | [d1, d2, d3] => { results := [.lit (.bool false)], args := [d1, d2, d3] }
  | _ => none }
def OidDistanceWrongFalsely : Prop := oidDistanceRow.holds Try.pinned (OpenSpec.ofChange oidDistanceWrong)

/-- 'caravanlaw02.OidSorts': WHATEVER THE INPUT: true; the input reads as it did. -/
def oidSortsSpec : ChangeSpec := { name := "oidSorts", fn := fun _ => fun
  | [d1, d2, d3, d4] => { results := [.lit (.bool true)], args := [d1, d2, d3, d4] }
  | _ => none }
def oidSortsRow : OpenClaim := { program := "ythjceppddmecdaa", sum := "5cfe9f88d7247f8bb26dfaea3f2df5f221c23c45dc6b07b8573faaf55e37641f", func := "caravan/caravanlaw02.OidSorts", spec := "oidSorts", inPlace := ["internal/bytealg.Compare", "internal/abi.NoEscape"], unfollowed := true, recurses := true, apart := false }
def OidSortsSaid : Prop := oidSortsRow.holds Try.pinned (OpenSpec.ofChange oidSortsSpec)

/-- ITS FALSE NEIGHBOUR: 'it returns false'. Refute it at one input. -/
def oidSortsWrong : ChangeSpec := { name := "oidSorts", fn := fun _ => fun
  | [d1, d2, d3, d4] => { results := [.lit (.bool false)], args := [d1, d2, d3, d4] }
  | _ => none }
def OidSortsWrongFalsely : Prop := oidSortsRow.holds Try.pinned (OpenSpec.ofChange oidSortsWrong)

/-- 'caravanlaw02.OidTakes': WHATEVER THE INPUT: true; the input reads as it did. -/
def oidTakesSpec : ChangeSpec := { name := "oidTakes", fn := fun _ => fun
  | [d] => { results := [.lit (.bool true)], args := [d] }
  | _ => none }
def oidTakesRow : OpenClaim := { program := "ythjceppddmecdaa", sum := "5cfe9f88d7247f8bb26dfaea3f2df5f221c23c45dc6b07b8573faaf55e37641f", func := "caravan/caravanlaw02.OidTakes", spec := "oidTakes", inPlace := ["internal/bytealg.Compare", "internal/abi.NoEscape"], apart := false }
def OidTakesSaid : Prop := oidTakesRow.holds Try.pinned (OpenSpec.ofChange oidTakesSpec)

/-- ITS FALSE NEIGHBOUR: 'it returns false'. Refute it at one input. -/
def oidTakesWrong : ChangeSpec := { name := "oidTakes", fn := fun _ => fun
  | [d] => { results := [.lit (.bool false)], args := [d] }
  | _ => none }
def OidTakesWrongFalsely : Prop := oidTakesRow.holds Try.pinned (OpenSpec.ofChange oidTakesWrong)

/-- 'caravanlaw08.CutterCuts': WHATEVER THE INPUT: true; the input reads as it did. -/
def cutterCutsSpec : ChangeSpec := { name := "cutterCuts", fn := fun _ => fun
  | [d1, d2, d3] => { results := [.lit (.bool true)], args := [d1, d2, d3] }
  | _ => none }
def cutterCutsRow : OpenClaim := { program := "ythjceppddmecdaa", sum := "5cfe9f88d7247f8bb26dfaea3f2df5f221c23c45dc6b07b8573faaf55e37641f", func := "caravan/caravanlaw08.CutterCuts", spec := "cutterCuts", unfollowed := true, recurses := true, apart := false }
def CutterCutsSaid : Prop := cutterCutsRow.holds Try.pinned (OpenSpec.ofChange cutterCutsSpec)

/-- ITS FALSE NEIGHBOUR: 'it returns false'. Refute it at one input. -/
def cutterCutsWrong : ChangeSpec := { name := "cutterCuts", fn := fun _ => fun
  | [d1, d2, d3] => { results := [.lit (.bool false)], args := [d1, d2, d3] }
  | _ => none }
def CutterCutsWrongFalsely : Prop := cutterCutsRow.holds Try.pinned (OpenSpec.ofChange cutterCutsWrong)

/-- 'caravanlaw08.CutterSizes': WHATEVER THE INPUT: true; the input reads as it did. -/
def cutterSizesSpec : ChangeSpec := { name := "cutterSizes", fn := fun _ => fun
  | [d1, d2] => { results := [.lit (.bool true)], args := [d1, d2] }
  | _ => none }
def cutterSizesRow : OpenClaim := { program := "ythjceppddmecdaa", sum := "5cfe9f88d7247f8bb26dfaea3f2df5f221c23c45dc6b07b8573faaf55e37641f", func := "caravan/caravanlaw08.CutterSizes", spec := "cutterSizes", unfollowed := true, recurses := true, apart := false }
def CutterSizesSaid : Prop := cutterSizesRow.holds Try.pinned (OpenSpec.ofChange cutterSizesSpec)

/-- ITS FALSE NEIGHBOUR: 'it returns false'. Refute it at one input. -/
def cutterSizesWrong : ChangeSpec := { name := "cutterSizes", fn := fun _ => fun
  | [d1, d2] => { results := [.lit (.bool false)], args := [d1, d2] }
  | _ => none }
def CutterSizesWrongFalsely : Prop := cutterSizesRow.holds Try.pinned (OpenSpec.ofChange cutterSizesWrong)

/-- 'caravanlaw08.CutterLocal': WHATEVER THE INPUT: true; the input reads as it did. -/
def cutterLocalSpec : ChangeSpec := { name := "cutterLocal", fn := fun _ => fun
  | [d1, d2, d3, d4] => { results := [.lit (.bool true)], args := [d1, d2, d3, d4] }
  | _ => none }
def cutterLocalRow : OpenClaim := { program := "ythjceppddmecdaa", sum := "5cfe9f88d7247f8bb26dfaea3f2df5f221c23c45dc6b07b8573faaf55e37641f", func := "caravan/caravanlaw08.CutterLocal", spec := "cutterLocal", unfollowed := true, recurses := true, apart := false }
def CutterLocalSaid : Prop := cutterLocalRow.holds Try.pinned (OpenSpec.ofChange cutterLocalSpec)

/-- ITS FALSE NEIGHBOUR: 'it returns false'. Refute it at one input. -/
def cutterLocalWrong : ChangeSpec := { name := "cutterLocal", fn := fun _ => fun
  | [d1, d2, d3, d4] => { results := [.lit (.bool false)], args := [d1, d2, d3, d4] }
  | _ => none }
def CutterLocalWrongFalsely : Prop := cutterLocalRow.holds Try.pinned (OpenSpec.ofChange cutterLocalWrong)

/-- 'caravanlaw08.CutterAgain': WHATEVER THE INPUT: true; the input reads as it did. -/
def cutterAgainSpec : ChangeSpec := { name := "cutterAgain", fn := fun _ => fun
  | [d1, d2, d3] => { results := [.lit (.bool true)], args := [d1, d2, d3] }
  | _ => none }
def cutterAgainRow : OpenClaim := { program := "ythjceppddmecdaa", sum := "5cfe9f88d7247f8bb26dfaea3f2df5f221c23c45dc6b07b8573faaf55e37641f", func := "caravan/caravanlaw08.CutterAgain", spec := "cutterAgain", unfollowed := true, recurses := true, apart := false }
def CutterAgainSaid : Prop := cutterAgainRow.holds Try.pinned (OpenSpec.ofChange cutterAgainSpec)

/-- ITS FALSE NEIGHBOUR: 'it returns false'. Refute it at one input. -/
def cutterAgainWrong : ChangeSpec := { name := "cutterAgain", fn := fun _ => fun
  | [d1, d2, d3] => { results := [.lit (.bool false)], args := [d1, d2, d3] }
  | _ => none }
def CutterAgainWrongFalsely : Prop := cutterAgainRow.holds Try.pinned (OpenSpec.ofChange cutterAgainWrong)

/-- 'caravanlaw08.CutterParts': WHATEVER THE INPUT: true; the input reads as it did. -/
def cutterPartsSpec : ChangeSpec := { name := "cutterParts", fn := fun _ => fun
  | [d1, d2, d3] => { results := [.lit (.bool true)], args := [d1, d2, d3] }
  | _ => none }
def cutterPartsRow : OpenClaim := { program := "ythjceppddmecdaa", sum := "5cfe9f88d7247f8bb26dfaea3f2df5f221c23c45dc6b07b8573faaf55e37641f", func := "caravan/caravanlaw08.CutterParts", spec := "cutterParts", unfollowed := true, recurses := true, apart := false }
def CutterPartsSaid : Prop := cutterPartsRow.holds Try.pinned (OpenSpec.ofChange cutterPartsSpec)

/-- ITS FALSE NEIGHBOUR: 'it returns false'. Refute it at one input. -/
def cutterPartsWrong : ChangeSpec := { name := "cutterParts", fn := fun _ => fun
  | [d1, d2, d3] => { results := [.lit (.bool false)], args := [d1, d2, d3] }
  | _ => none }
def CutterPartsWrongFalsely : Prop := cutterPartsRow.holds Try.pinned (OpenSpec.ofChange cutterPartsWrong)

/-- 'caravanlaw02.OidTexts': WHATEVER THE INPUT: true; the input reads as it did. -/
def oidTextsSpec : ChangeSpec := { name := "oidTexts", fn := fun _ => fun
  | [d1, d2] => { results := [.lit (.bool true)], args := [d1, d2] }
  | _ => none }
def oidTextsRow : OpenClaim := { program := "ythjceppddmecdaa", sum := "5cfe9f88d7247f8bb26dfaea3f2df5f221c23c45dc6b07b8573faaf55e37641f", func := "caravan/caravanlaw02.OidTexts", spec := "oidTexts", inPlace := ["internal/abi.NoEscape", "internal/bytealg.IndexByteString", "internal/bytealg.Compare"], apart := false }
def OidTextsSaid : Prop := oidTextsRow.holds Try.pinned (OpenSpec.ofChange oidTextsSpec)

/-- ITS FALSE NEIGHBOUR: 'it returns false'. Refute it at one input. -/
def oidTextsWrong : ChangeSpec := { name := "oidTexts", fn := fun _ => fun
  | [d1, d2] => { results := [.lit (.bool false)], args := [d1, d2] }
  | _ => none }
def OidTextsWrongFalsely : Prop := oidTextsRow.holds Try.pinned (OpenSpec.ofChange oidTextsWrong)

/- THE SECOND FORM. 'bulk': how many values and letters a reading holds, each counted each time it is reached (what is shared counts as often as it is met; a slice's spare places count too). A statement '..UptoSaid' is the law's where the arguments, and the package variables that the reading takes, are together of bulk at most 1048576: NARROWER than '..Said'. Prove '..Said' where nothing that the law and all that it calls make is longer than what came in: it says more and counts as full. Else prove '..UptoSaid'. A law counts once. -/
mutual
def uptoBulk {H : Type} : DataW H → Nat
  | .lit (.string bytes) => bytes.length + 1
  | .lit _ => 1
  | .nil => 1
  | .ptr d => uptoBulk d + 1
  | .slice elems spare => uptoBulkAll elems + uptoBulkAll spare + 1
  | .agg parts => uptoBulkAll parts + 1
  | .iface _ d => uptoBulk d + 1
  | .map entries => uptoBulkEntries entries + 1
  | .held _ => 1
def uptoBulkAll {H : Type} : List (DataW H) → Nat
  | [] => 0
  | d :: r => uptoBulk d + uptoBulkAll r
def uptoBulkEntries {H : Type} : List (Lit × DataW H) → Nat
  | [] => 0
  | x :: r => uptoBulkEntry x + uptoBulkEntries r
def uptoBulkEntry {H : Type} : Lit × DataW H → Nat
  | (.string bytes, d) => bytes.length + uptoBulk d + 1
  | (_, d) => uptoBulk d + 1
 end
def uptoSmall : (H : Type) → List (DataW H) → Bool := fun _ ds => decide (uptoBulkAll ds ≤ 1048576)
def OpenSpec.upto (s : _root_.Go.ChangeSpec) : _root_.Go.OpenSpec := { _root_.Go.OpenSpec.ofChange s with cond := some uptoSmall }

/-- 'caravanlaw02.OidNear', WHERE WHAT IT READS IS OF BULK AT MOST 1048576: true; the input reads as it did. -/
def oidNearUptoRow : OpenClaim := { program := "ythjceppddmecdaa", sum := "5cfe9f88d7247f8bb26dfaea3f2df5f221c23c45dc6b07b8573faaf55e37641f", func := "caravan/caravanlaw02.OidNear", spec := "oidNear", inPlace := ["internal/bytealg.Compare", "internal/abi.NoEscape"], apart := false, narrowed := true }
def OidNearUptoSaid : Prop := oidNearUptoRow.holds Try.pinned (OpenSpec.upto oidNearSpec)

/-- 'caravanlaw02.OidDistance', WHERE WHAT IT READS IS OF BULK AT MOST 1048576: true; the input reads as it did. -/
def oidDistanceUptoRow : OpenClaim := { program := "ythjceppddmecdaa", sum := "5cfe9f88d7247f8bb26dfaea3f2df5f221c23c45dc6b07b8573faaf55e37641f", func := "caravan/caravanlaw02.OidDistance", spec := "oidDistance", inPlace := ["internal/bytealg.Compare", "internal/abi.NoEscape"], apart := false, narrowed := true }
def OidDistanceUptoSaid : Prop := oidDistanceUptoRow.holds Try.pinned (OpenSpec.upto oidDistanceSpec)

/-- 'caravanlaw02.OidSorts', WHERE WHAT IT READS IS OF BULK AT MOST 1048576: true; the input reads as it did. -/
def oidSortsUptoRow : OpenClaim := { program := "ythjceppddmecdaa", sum := "5cfe9f88d7247f8bb26dfaea3f2df5f221c23c45dc6b07b8573faaf55e37641f", func := "caravan/caravanlaw02.OidSorts", spec := "oidSorts", inPlace := ["internal/bytealg.Compare", "internal/abi.NoEscape"], unfollowed := true, recurses := true, apart := false, narrowed := true }
def OidSortsUptoSaid : Prop := oidSortsUptoRow.holds Try.pinned (OpenSpec.upto oidSortsSpec)

/-- 'caravanlaw02.OidTakes', WHERE WHAT IT READS IS OF BULK AT MOST 1048576: true; the input reads as it did. -/
def oidTakesUptoRow : OpenClaim := { program := "ythjceppddmecdaa", sum := "5cfe9f88d7247f8bb26dfaea3f2df5f221c23c45dc6b07b8573faaf55e37641f", func := "caravan/caravanlaw02.OidTakes", spec := "oidTakes", inPlace := ["internal/bytealg.Compare", "internal/abi.NoEscape"], apart := false, narrowed := true }
def OidTakesUptoSaid : Prop := oidTakesUptoRow.holds Try.pinned (OpenSpec.upto oidTakesSpec)

/-- 'caravanlaw08.CutterCuts', WHERE WHAT IT READS IS OF BULK AT MOST 1048576: true; the input reads as it did. -/
def cutterCutsUptoRow : OpenClaim := { program := "ythjceppddmecdaa", sum := "5cfe9f88d7247f8bb26dfaea3f2df5f221c23c45dc6b07b8573faaf55e37641f", func := "caravan/caravanlaw08.CutterCuts", spec := "cutterCuts", unfollowed := true, recurses := true, apart := false, narrowed := true }
def CutterCutsUptoSaid : Prop := cutterCutsUptoRow.holds Try.pinned (OpenSpec.upto cutterCutsSpec)

/-- 'caravanlaw08.CutterSizes', WHERE WHAT IT READS IS OF BULK AT MOST 1048576: true; the input reads as it did. -/
def cutterSizesUptoRow : OpenClaim := { program := "ythjceppddmecdaa", sum := "5cfe9f88d7247f8bb26dfaea3f2df5f221c23c45dc6b07b8573faaf55e37641f", func := "caravan/caravanlaw08.CutterSizes", spec := "cutterSizes", unfollowed := true, recurses := true, apart := false, narrowed := true }
def CutterSizesUptoSaid : Prop := cutterSizesUptoRow.holds Try.pinned (OpenSpec.upto cutterSizesSpec)

/-- 'caravanlaw08.CutterLocal', WHERE WHAT IT READS IS OF BULK AT MOST 1048576: true; the input reads as it did. -/
def cutterLocalUptoRow : OpenClaim := { program := "ythjceppddmecdaa", sum := "5cfe9f88d7247f8bb26dfaea3f2df5f221c23c45dc6b07b8573faaf55e37641f", func := "caravan/caravanlaw08.CutterLocal", spec := "cutterLocal", unfollowed := true, recurses := true, apart := false, narrowed := true }
def CutterLocalUptoSaid : Prop := cutterLocalUptoRow.holds Try.pinned (OpenSpec.upto cutterLocalSpec)

/-- 'caravanlaw08.CutterAgain', WHERE WHAT IT READS IS OF BULK AT MOST 1048576: true; the input reads as it did. -/
def cutterAgainUptoRow : OpenClaim := { program := "ythjceppddmecdaa", sum := "5cfe9f88d7247f8bb26dfaea3f2df5f221c23c45dc6b07b8573faaf55e37641f", func := "caravan/caravanlaw08.CutterAgain", spec := "cutterAgain", unfollowed := true, recurses := true, apart := false, narrowed := true }
def CutterAgainUptoSaid : Prop := cutterAgainUptoRow.holds Try.pinned (OpenSpec.upto cutterAgainSpec)

/-- 'caravanlaw08.CutterParts', WHERE WHAT IT READS IS OF BULK AT MOST 1048576: true; the input reads as it did. -/
def cutterPartsUptoRow : OpenClaim := { program := "ythjceppddmecdaa", sum := "5cfe9f88d7247f8bb26dfaea3f2df5f221c23c45dc6b07b8573faaf55e37641f", func := "caravan/caravanlaw08.CutterParts", spec := "cutterParts", unfollowed := true, recurses := true, apart := false, narrowed := true }
def CutterPartsUptoSaid : Prop := cutterPartsUptoRow.holds Try.pinned (OpenSpec.upto cutterPartsSpec)

/-- 'caravanlaw02.OidTexts', WHERE WHAT IT READS IS OF BULK AT MOST 1048576: true; the input reads as it did. -/
def oidTextsUptoRow : OpenClaim := { program := "ythjceppddmecdaa", sum := "5cfe9f88d7247f8bb26dfaea3f2df5f221c23c45dc6b07b8573faaf55e37641f", func := "caravan/caravanlaw02.OidTexts", spec := "oidTexts", inPlace := ["internal/abi.NoEscape", "internal/bytealg.IndexByteString", "internal/bytealg.Compare"], apart := false, narrowed := true }
def OidTextsUptoSaid : Prop := oidTextsUptoRow.holds Try.pinned (OpenSpec.upto oidTextsSpec)

end Rows
end Go.Proofs.Ythjceppddmecdaa
