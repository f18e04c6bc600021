/-
  No cell of these rows narrows 'for every input' (looked for: loops, veiled, ifaces, maps, wideKeys, modest, calm, conditions, laid).
  DERIVED. THE GIVEN ROWS OF THIS SEAT. 11 by the template 'for every input the law returns true; each argument reads behind the call as it read before'; 0 by the template 'total and deterministic' (their statements: YtbejifbiffeamaaTotals.lean).
  GIVEN WITH THE SEED: the statements are not yours to turn. If you find one false, say at which input.
  Laid BY PROGRAM, IN A SANDBOX (cutbox-rows.mjs): the forced cells as the released guide's own fill.sh prints them over the translation d692dcd4306ee68e… (all of the seat's roots in one cut). By AI agents, Wed Nov 11 2026. No macro, syntax, notation, axiom, sorry.
-/
import Derived.Test.YtbejifbiffeamaaChecked
import GoSem.Claim
import GoSem.ClaimJoined
import GoSem.ClaimMapViews
import Derived.JoinedTies
import Derived.KernelRfl
namespace Go.Proofs.Ytbejifbiffeamaa
/- THE CELL 'sum', in the pinned program and in every row, IS THE sha256 OF THE DUMP (.gsa) THAT YtbejifbiffeamaaProg.lean LOADS. Nothing in Lean hashes anything: it is a label: what it is worth is what the hold of that sum in a sandbox is worth. -/
noncomputable def Try.pinned : Pinned := { name := "ytbejifbiffeamaa", sum := "d692dcd4306ee68e3c384d148dc6666db35149c3bda24405e686d6efc3aa9a7e", checked := Try.checked }
namespace Rows
def none {H : Type} : Left H := { results := [], args := [] }

/-- 'caravanlaw18.MeshOrder': WHATEVER THE INPUT: true; the input reads as it did. -/
def meshOrderSpec : ChangeSpec := { name := "meshOrder", fn := fun _ => fun
  | [d1, d2] => { results := [.lit (.bool true)], args := [d1, d2] }
  | _ => none }
def meshOrderRow : OpenClaim := { program := "ytbejifbiffeamaa", sum := "d692dcd4306ee68e3c384d148dc6666db35149c3bda24405e686d6efc3aa9a7e", func := "caravan/caravanlaw18.MeshOrder", spec := "meshOrder", unfollowed := true, recurses := true, apart := false }
def MeshOrderSaid : Prop := meshOrderRow.holds Try.pinned (OpenSpec.ofChange meshOrderSpec)

/-- ITS FALSE NEIGHBOUR: 'it returns false'. Refute it at one input. -/
def meshOrderWrong : ChangeSpec := { name := "meshOrder", fn := fun _ => fun
  | [d1, d2] => { results := [.lit (.bool false)], args := [d1, d2] }
  | _ => none }
def MeshOrderWrongFalsely : Prop := meshOrderRow.holds Try.pinned (OpenSpec.ofChange meshOrderWrong)

/-- 'caravanlaw03.SectorSure': WHATEVER THE INPUT: true; the input reads as it did. -/
def sectorSureSpec : ChangeSpec := { name := "sectorSure", fn := fun _ => fun
  | [d1, d2, d3, d4] => { results := [.lit (.bool true)], args := [d1, d2, d3, d4] }
  | _ => none }
def sectorSureRow : OpenClaim := { program := "ytbejifbiffeamaa", sum := "d692dcd4306ee68e3c384d148dc6666db35149c3bda24405e686d6efc3aa9a7e", func := "caravan/caravanlaw03.SectorSure", spec := "sectorSure", unfollowed := true, recurses := true, apart := false }
def SectorSureSaid : Prop := sectorSureRow.holds Try.pinned (OpenSpec.ofChange sectorSureSpec)

/-- ITS FALSE NEIGHBOUR: 'it returns false'. Refute it at one input. -/
def sectorSureWrong : ChangeSpec := { name := "sectorSure", fn := fun _ => fun
  | [d1, d2, d3, d4] => { results := [.lit (.bool false)], args := [d1, d2, d3, d4] }
  | _ => none }
def SectorSureWrongFalsely : Prop := sectorSureRow.holds Try.pinned (OpenSpec.ofChange sectorSureWrong)

/-- 'caravanlaw03.SectorTorn': WHATEVER THE INPUT: true; the input reads as it did. -/
def sectorTornSpec : ChangeSpec := { name := "sectorTorn", fn := fun _ => fun
  | [d1, d2, d3] => { results := [.lit (.bool true)], args := [d1, d2, d3] }
  | _ => none }
def sectorTornRow : OpenClaim := { program := "ytbejifbiffeamaa", sum := "d692dcd4306ee68e3c384d148dc6666db35149c3bda24405e686d6efc3aa9a7e", func := "caravan/caravanlaw03.SectorTorn", spec := "sectorTorn", unfollowed := true, recurses := true, apart := false }
def SectorTornSaid : Prop := sectorTornRow.holds Try.pinned (OpenSpec.ofChange sectorTornSpec)

/-- ITS FALSE NEIGHBOUR: 'it returns false'. Refute it at one input. -/
def sectorTornWrong : ChangeSpec := { name := "sectorTorn", fn := fun _ => fun
  | [d1, d2, d3] => { results := [.lit (.bool false)], args := [d1, d2, d3] }
  | _ => none }
def SectorTornWrongFalsely : Prop := sectorTornRow.holds Try.pinned (OpenSpec.ofChange sectorTornWrong)

/-- 'caravanlaw03.SectorPads': WHATEVER THE INPUT: true; the input reads as it did. -/
def sectorPadsSpec : ChangeSpec := { name := "sectorPads", fn := fun _ => fun
  | [d1, d2, d3] => { results := [.lit (.bool true)], args := [d1, d2, d3] }
  | _ => none }
def sectorPadsRow : OpenClaim := { program := "ytbejifbiffeamaa", sum := "d692dcd4306ee68e3c384d148dc6666db35149c3bda24405e686d6efc3aa9a7e", func := "caravan/caravanlaw03.SectorPads", spec := "sectorPads", unfollowed := true, recurses := true, apart := false }
def SectorPadsSaid : Prop := sectorPadsRow.holds Try.pinned (OpenSpec.ofChange sectorPadsSpec)

/-- ITS FALSE NEIGHBOUR: 'it returns false'. Refute it at one input. -/
def sectorPadsWrong : ChangeSpec := { name := "sectorPads", fn := fun _ => fun
  | [d1, d2, d3] => { results := [.lit (.bool false)], args := [d1, d2, d3] }
  | _ => none }
def SectorPadsWrongFalsely : Prop := sectorPadsRow.holds Try.pinned (OpenSpec.ofChange sectorPadsWrong)

/-- 'caravanlaw03.SectorEdge': WHATEVER THE INPUT: true; the input reads as it did. -/
def sectorEdgeSpec : ChangeSpec := { name := "sectorEdge", fn := fun _ => fun
  | [d1, d2, d3] => { results := [.lit (.bool true)], args := [d1, d2, d3] }
  | _ => none }
def sectorEdgeRow : OpenClaim := { program := "ytbejifbiffeamaa", sum := "d692dcd4306ee68e3c384d148dc6666db35149c3bda24405e686d6efc3aa9a7e", func := "caravan/caravanlaw03.SectorEdge", spec := "sectorEdge", unfollowed := true, recurses := true, apart := false }
def SectorEdgeSaid : Prop := sectorEdgeRow.holds Try.pinned (OpenSpec.ofChange sectorEdgeSpec)

/-- ITS FALSE NEIGHBOUR: 'it returns false'. Refute it at one input. -/
def sectorEdgeWrong : ChangeSpec := { name := "sectorEdge", fn := fun _ => fun
  | [d1, d2, d3] => { results := [.lit (.bool false)], args := [d1, d2, d3] }
  | _ => none }
def SectorEdgeWrongFalsely : Prop := sectorEdgeRow.holds Try.pinned (OpenSpec.ofChange sectorEdgeWrong)

/-- 'caravanlaw18.MeshFair': WHATEVER THE INPUT: true; the input reads as it did. -/
def meshFairSpec : ChangeSpec := { name := "meshFair", fn := fun _ => fun
  | [d1, d2] => { results := [.lit (.bool true)], args := [d1, d2] }
  | _ => none }
def meshFairRow : OpenClaim := { program := "ytbejifbiffeamaa", sum := "d692dcd4306ee68e3c384d148dc6666db35149c3bda24405e686d6efc3aa9a7e", func := "caravan/caravanlaw18.MeshFair", spec := "meshFair", unfollowed := true, recurses := true, apart := false }
def MeshFairSaid : Prop := meshFairRow.holds Try.pinned (OpenSpec.ofChange meshFairSpec)

/-- ITS FALSE NEIGHBOUR: 'it returns false'. Refute it at one input. -/
def meshFairWrong : ChangeSpec := { name := "meshFair", fn := fun _ => fun
  | [d1, d2] => { results := [.lit (.bool false)], args := [d1, d2] }
  | _ => none }
def MeshFairWrongFalsely : Prop := meshFairRow.holds Try.pinned (OpenSpec.ofChange meshFairWrong)

/-- 'caravanlaw18.MeshBound': WHATEVER THE INPUT: true; the input reads as it did. -/
def meshBoundSpec : ChangeSpec := { name := "meshBound", fn := fun _ => fun
  | [d1, d2] => { results := [.lit (.bool true)], args := [d1, d2] }
  | _ => none }
def meshBoundRow : OpenClaim := { program := "ytbejifbiffeamaa", sum := "d692dcd4306ee68e3c384d148dc6666db35149c3bda24405e686d6efc3aa9a7e", func := "caravan/caravanlaw18.MeshBound", spec := "meshBound", unfollowed := true, recurses := true, apart := false }
def MeshBoundSaid : Prop := meshBoundRow.holds Try.pinned (OpenSpec.ofChange meshBoundSpec)

/-- ITS FALSE NEIGHBOUR: 'it returns false'. Refute it at one input. -/
def meshBoundWrong : ChangeSpec := { name := "meshBound", fn := fun _ => fun
  | [d1, d2] => { results := [.lit (.bool false)], args := [d1, d2] }
  | _ => none }
def MeshBoundWrongFalsely : Prop := meshBoundRow.holds Try.pinned (OpenSpec.ofChange meshBoundWrong)

/-- 'caravanlaw03.SectorFails': WHATEVER THE INPUT: true; the input reads as it did. -/
def sectorFailsSpec : ChangeSpec := { name := "sectorFails", fn := fun _ => fun
  | [d1, d2] => { results := [.lit (.bool true)], args := [d1, d2] }
  | _ => none }
def sectorFailsRow : OpenClaim := { program := "ytbejifbiffeamaa", sum := "d692dcd4306ee68e3c384d148dc6666db35149c3bda24405e686d6efc3aa9a7e", func := "caravan/caravanlaw03.SectorFails", spec := "sectorFails", unfollowed := true, recurses := true, apart := false }
def SectorFailsSaid : Prop := sectorFailsRow.holds Try.pinned (OpenSpec.ofChange sectorFailsSpec)

/-- ITS FALSE NEIGHBOUR: 'it returns false'. Refute it at one input. -/
def sectorFailsWrong : ChangeSpec := { name := "sectorFails", fn := fun _ => fun
  | [d1, d2] => { results := [.lit (.bool false)], args := [d1, d2] }
  | _ => none }
def SectorFailsWrongFalsely : Prop := sectorFailsRow.holds Try.pinned (OpenSpec.ofChange sectorFailsWrong)

/-- 'caravanlaw18.MeshCast': WHATEVER THE INPUT: true; the input reads as it did. -/
def meshCastSpec : ChangeSpec := { name := "meshCast", fn := fun _ => fun
  | [d1, d2, d3] => { results := [.lit (.bool true)], args := [d1, d2, d3] }
  | _ => none }
def meshCastRow : OpenClaim := { program := "ytbejifbiffeamaa", sum := "d692dcd4306ee68e3c384d148dc6666db35149c3bda24405e686d6efc3aa9a7e", func := "caravan/caravanlaw18.MeshCast", spec := "meshCast", unfollowed := true, recurses := true, apart := false }
def MeshCastSaid : Prop := meshCastRow.holds Try.pinned (OpenSpec.ofChange meshCastSpec)

/-- ITS FALSE NEIGHBOUR: 'it returns false'. Refute it at one input. -/
def meshCastWrong : ChangeSpec := { name := "meshCast", fn := fun _ => fun
  | [d1, d2, d3] => { results := [.lit (.bool false)], args := [d1, d2, d3] }
  | _ => none }
def MeshCastWrongFalsely : Prop := meshCastRow.holds Try.pinned (OpenSpec.ofChange meshCastWrong)

/-- 'caravanlaw03.SectorPlays': WHATEVER THE INPUT: true; the input reads as it did. -/
def sectorPlaysSpec : ChangeSpec := { name := "sectorPlays", fn := fun _ => fun
  | [d1, d2] => { results := [.lit (.bool true)], args := [d1, d2] }
  | _ => none }
def sectorPlaysRow : OpenClaim := { program := "ytbejifbiffeamaa", sum := "d692dcd4306ee68e3c384d148dc6666db35149c3bda24405e686d6efc3aa9a7e", func := "caravan/caravanlaw03.SectorPlays", spec := "sectorPlays", unfollowed := true, recurses := true, apart := false }
def SectorPlaysSaid : Prop := sectorPlaysRow.holds Try.pinned (OpenSpec.ofChange sectorPlaysSpec)

/-- ITS FALSE NEIGHBOUR: 'it returns false'. Refute it at one input. -/
def sectorPlaysWrong : ChangeSpec := { name := "sectorPlays", fn := fun _ => fun
  | [d1, d2] => { results := [.lit (.bool false)], args := [d1, d2] }
  | _ => none }
def SectorPlaysWrongFalsely : Prop := sectorPlaysRow.holds Try.pinned (OpenSpec.ofChange sectorPlaysWrong)

/-- 'caravanlaw18.MeshPlays': WHATEVER THE INPUT: true; the input reads as it did. -/
def meshPlaysSpec : ChangeSpec := { name := "meshPlays", fn := fun _ => fun
  | [d1, d2] => { results := [.lit (.bool true)], args := [d1, d2] }
  | _ => none }
def meshPlaysRow : OpenClaim := { program := "ytbejifbiffeamaa", sum := "d692dcd4306ee68e3c384d148dc6666db35149c3bda24405e686d6efc3aa9a7e", func := "caravan/caravanlaw18.MeshPlays", spec := "meshPlays", unfollowed := true, recurses := true, apart := false }
def MeshPlaysSaid : Prop := meshPlaysRow.holds Try.pinned (OpenSpec.ofChange meshPlaysSpec)

/-- ITS FALSE NEIGHBOUR: 'it returns false'. Refute it at one input. -/
def meshPlaysWrong : ChangeSpec := { name := "meshPlays", fn := fun _ => fun
  | [d1, d2] => { results := [.lit (.bool false)], args := [d1, d2] }
  | _ => none }
def MeshPlaysWrongFalsely : Prop := meshPlaysRow.holds Try.pinned (OpenSpec.ofChange meshPlaysWrong)

/- THE SECOND FORM. 'bulk': how many values and letters a reading holds, each counted each time it is reached (what is shared counts as often as it is met; a slice's spare places count too). A statement '..UptoSaid' is the law's where the arguments, and the package variables that the reading takes, are together of bulk at most 1048576: NARROWER than '..Said'. Prove '..Said' where nothing that the law and all that it calls make is longer than what came in: it says more and counts as full. Else prove '..UptoSaid'. A law counts once. -/
mutual
def uptoBulk {H : Type} : DataW H → Nat
  | .lit (.string bytes) => bytes.length + 1
  | .lit _ => 1
  | .nil => 1
  | .ptr d => uptoBulk d + 1
  | .slice elems spare => uptoBulkAll elems + uptoBulkAll spare + 1
  | .agg parts => uptoBulkAll parts + 1
  | .iface _ d => uptoBulk d + 1
  | .map entries => uptoBulkEntries entries + 1
  | .held _ => 1
def uptoBulkAll {H : Type} : List (DataW H) → Nat
  | [] => 0
  | d :: r => uptoBulk d + uptoBulkAll r
def uptoBulkEntries {H : Type} : List (Lit × DataW H) → Nat
  | [] => 0
  | x :: r => uptoBulkEntry x + uptoBulkEntries r
def uptoBulkEntry {H : Type} : Lit × DataW H → Nat
  | (.string bytes, d) => bytes.length + uptoBulk d + 1
  | (_, d) => uptoBulk d + 1
 end
def uptoSmall : (H : Type) → List (DataW H) → Bool := fun _ ds => decide (uptoBulkAll ds ≤ 1048576)
def OpenSpec.upto (s : _root_.Go.ChangeSpec) : _root_.Go.OpenSpec := { _root_.Go.OpenSpec.ofChange s with cond := some uptoSmall }

/-- 'caravanlaw18.MeshOrder', WHERE WHAT IT READS IS OF BULK AT MOST 1048576: true; the input reads as it did. -/
def meshOrderUptoRow : OpenClaim := { program := "ytbejifbiffeamaa", sum := "d692dcd4306ee68e3c384d148dc6666db35149c3bda24405e686d6efc3aa9a7e", func := "caravan/caravanlaw18.MeshOrder", spec := "meshOrder", unfollowed := true, recurses := true, apart := false, narrowed := true }
def MeshOrderUptoSaid : Prop := meshOrderUptoRow.holds Try.pinned (OpenSpec.upto meshOrderSpec)

/-- 'caravanlaw03.SectorSure', WHERE WHAT IT READS IS OF BULK AT MOST 1048576: true; the input reads as it did. -/
def sectorSureUptoRow : OpenClaim := { program := "ytbejifbiffeamaa", sum := "d692dcd4306ee68e3c384d148dc6666db35149c3bda24405e686d6efc3aa9a7e", func := "caravan/caravanlaw03.SectorSure", spec := "sectorSure", unfollowed := true, recurses := true, apart := false, narrowed := true }
def SectorSureUptoSaid : Prop := sectorSureUptoRow.holds Try.pinned (OpenSpec.upto sectorSureSpec)

/-- 'caravanlaw03.SectorTorn', WHERE WHAT IT READS IS OF BULK AT MOST 1048576: true; the input reads as it did. -/
def sectorTornUptoRow : OpenClaim := { program := "ytbejifbiffeamaa", sum := "d692dcd4306ee68e3c384d148dc6666db35149c3bda24405e686d6efc3aa9a7e", func := "caravan/caravanlaw03.SectorTorn", spec := "sectorTorn", unfollowed := true, recurses := true, apart := false, narrowed := true }
def SectorTornUptoSaid : Prop := sectorTornUptoRow.holds Try.pinned (OpenSpec.upto sectorTornSpec)

/-- 'caravanlaw03.SectorPads', WHERE WHAT IT READS IS OF BULK AT MOST 1048576: true; the input reads as it did. -/
def sectorPadsUptoRow : OpenClaim := { program := "ytbejifbiffeamaa", sum := "d692dcd4306ee68e3c384d148dc6666db35149c3bda24405e686d6efc3aa9a7e", func := "caravan/caravanlaw03.SectorPads", spec := "sectorPads", unfollowed := true, recurses := true, apart := false, narrowed := true }
def SectorPadsUptoSaid : Prop := sectorPadsUptoRow.holds Try.pinned (OpenSpec.upto sectorPadsSpec)

/-- 'caravanlaw03.SectorEdge', WHERE WHAT IT READS IS OF BULK AT MOST 1048576: true; the input reads as it did. -/
def sectorEdgeUptoRow : OpenClaim := { program := "ytbejifbiffeamaa", sum := "d692dcd4306ee68e3c384d148dc6666db35149c3bda24405e686d6efc3aa9a7e", func := "caravan/caravanlaw03.SectorEdge", spec := "sectorEdge", unfollowed := true, recurses := true, apart := false, narrowed := true }
def SectorEdgeUptoSaid : Prop := sectorEdgeUptoRow.holds Try.pinned (OpenSpec.upto sectorEdgeSpec)

/-- 'caravanlaw18.MeshFair', WHERE WHAT IT READS IS OF BULK AT MOST 1048576: true; the input reads as it did. -/
def meshFairUptoRow : OpenClaim := { program := "ytbejifbiffeamaa", sum := "d692dcd4306ee68e3c384d148dc6666db35149c3bda24405e686d6efc3aa9a7e", func := "caravan/caravanlaw18.MeshFair", spec := "meshFair", unfollowed := true, recurses := true, apart := false, narrowed := true }
def MeshFairUptoSaid : Prop := meshFairUptoRow.holds Try.pinned (OpenSpec.upto meshFairSpec)

/-- 'caravanlaw18.MeshBound', WHERE WHAT IT READS IS OF BULK AT MOST 1048576: true; the input reads as it did. -/
def meshBoundUptoRow : OpenClaim := { program := "ytbejifbiffeamaa", sum := "d692dcd4306ee68e3c384d148dc6666db35149c3bda24405e686d6efc3aa9a7e", func := "caravan/caravanlaw18.MeshBound", spec := "meshBound", unfollowed := true, recurses := true, apart := false, narrowed := true }
def MeshBoundUptoSaid : Prop := meshBoundUptoRow.holds Try.pinned (OpenSpec.upto meshBoundSpec)

/-- 'caravanlaw03.SectorFails', WHERE WHAT IT READS IS OF BULK AT MOST 1048576: true; the input reads as it did. -/
def sectorFailsUptoRow : OpenClaim := { program := "ytbejifbiffeamaa", sum := "d692dcd4306ee68e3c384d148dc6666db35149c3bda24405e686d6efc3aa9a7e", func := "caravan/caravanlaw03.SectorFails", spec := "sectorFails", unfollowed := true, recurses := true, apart := false, narrowed := true }
def SectorFailsUptoSaid : Prop := sectorFailsUptoRow.holds Try.pinned (OpenSpec.upto sectorFailsSpec)

/-- 'caravanlaw18.MeshCast', WHERE WHAT IT READS IS OF BULK AT MOST 1048576: true; the input reads as it did. -/
def meshCastUptoRow : OpenClaim := { program := "ytbejifbiffeamaa", sum := "d692dcd4306ee68e3c384d148dc6666db35149c3bda24405e686d6efc3aa9a7e", func := "caravan/caravanlaw18.MeshCast", spec := "meshCast", unfollowed := true, recurses := true, apart := false, narrowed := true }
def MeshCastUptoSaid : Prop := meshCastUptoRow.holds Try.pinned (OpenSpec.upto meshCastSpec)

/-- 'caravanlaw03.SectorPlays', WHERE WHAT IT READS IS OF BULK AT MOST 1048576: true; the input reads as it did. -/
def sectorPlaysUptoRow : OpenClaim := { program := "ytbejifbiffeamaa", sum := "d692dcd4306ee68e3c384d148dc6666db35149c3bda24405e686d6efc3aa9a7e", func := "caravan/caravanlaw03.SectorPlays", spec := "sectorPlays", unfollowed := true, recurses := true, apart := false, narrowed := true }
def SectorPlaysUptoSaid : Prop := sectorPlaysUptoRow.holds Try.pinned (OpenSpec.upto sectorPlaysSpec)

/-- 'caravanlaw18.MeshPlays', WHERE WHAT IT READS IS OF BULK AT MOST 1048576: true; the input reads as it did. -/
def meshPlaysUptoRow : OpenClaim := { program := "ytbejifbiffeamaa", sum := "d692dcd4306ee68e3c384d148dc6666db35149c3bda24405e686d6efc3aa9a7e", func := "caravan/caravanlaw18.MeshPlays", spec := "meshPlays", unfollowed := true, recurses := true, apart := false, narrowed := true }
def MeshPlaysUptoSaid : Prop := meshPlaysUptoRow.holds Try.pinned (OpenSpec.upto meshPlaysSpec)

end Rows
end Go.Proofs.Ytbejifbiffeamaa
