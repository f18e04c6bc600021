/-
  No cell of these rows narrows 'for every input' (looked for: loops, veiled, ifaces, maps, wideKeys, modest, calm, conditions, laid).
  DERIVED. THE GIVEN ROWS OF THIS SEAT. 5 by the template 'for every input the law returns true; each argument reads behind the call as it read before'; 0 by the template 'total and deterministic' (their statements: YtnckgkgilnmocaaTotals.lean).
  GIVEN WITH THE SEED: the statements are not yours to turn. If you find one false, say at which input.
  Laid BY PROGRAM, IN A SANDBOX (cutbox-rows.mjs): the forced cells as the released guide's own fill.sh prints them over the translation 236a07e45d9c3b4f… (all of the seat's roots in one cut). By AI agents, Wed Nov 11 2026. No macro, syntax, notation, axiom, sorry.
-/
import Derived.Test.YtnckgkgilnmocaaChecked
import GoSem.Claim
import GoSem.ClaimJoined
import GoSem.ClaimMapViews
import Derived.JoinedTies
import Derived.KernelRfl
namespace Go.Proofs.Ytnckgkgilnmocaa
/- THE CELL 'sum', in the pinned program and in every row, IS THE sha256 OF THE DUMP (.gsa) THAT YtnckgkgilnmocaaProg.lean LOADS. Nothing in Lean hashes anything: it is a label: what it is worth is what the hold of that sum in a sandbox is worth. -/
noncomputable def Try.pinned : Pinned := { name := "ytnckgkgilnmocaa", sum := "236a07e45d9c3b4fed3f13f040147c02a8d24c245b65baadc3d13fa6407de581", checked := Try.checked }
namespace Rows
def none {H : Type} : Left H := { results := [], args := [] }

/-- 'caravanlaw12.BookTurns': WHATEVER THE INPUT: true; the input reads as it did. -/
def bookTurnsSpec : ChangeSpec := { name := "bookTurns", fn := fun _ => fun
  | [d1, d2] => { results := [.lit (.bool true)], args := [d1, d2] }
  | _ => none }
def bookTurnsRow : OpenClaim := { program := "ytnckgkgilnmocaa", sum := "236a07e45d9c3b4fed3f13f040147c02a8d24c245b65baadc3d13fa6407de581", func := "caravan/caravanlaw12.BookTurns", spec := "bookTurns", unfollowed := true, recurses := true, plainKeys := false, apart := false }
def BookTurnsSaid : Prop := bookTurnsRow.holds Try.pinned (OpenSpec.ofChange bookTurnsSpec)

/-- ITS FALSE NEIGHBOUR: 'it returns false'. Refute it at one input. -/
def bookTurnsWrong : ChangeSpec := { name := "bookTurns", fn := fun _ => fun
  | [d1, d2] => { results := [.lit (.bool false)], args := [d1, d2] }
  | _ => none }
def BookTurnsWrongFalsely : Prop := bookTurnsRow.holds Try.pinned (OpenSpec.ofChange bookTurnsWrong)

/-- 'caravanlaw12.BookSmall': WHATEVER THE INPUT: true; the input reads as it did. -/
def bookSmallSpec : ChangeSpec := { name := "bookSmall", fn := fun _ => fun
  | [d] => { results := [.lit (.bool true)], args := [d] }
  | _ => none }
def bookSmallRow : OpenClaim := { program := "ytnckgkgilnmocaa", sum := "236a07e45d9c3b4fed3f13f040147c02a8d24c245b65baadc3d13fa6407de581", func := "caravan/caravanlaw12.BookSmall", spec := "bookSmall", unfollowed := true, recurses := true, plainKeys := false, apart := false }
def BookSmallSaid : Prop := bookSmallRow.holds Try.pinned (OpenSpec.ofChange bookSmallSpec)

/-- ITS FALSE NEIGHBOUR: 'it returns false'. Refute it at one input. -/
def bookSmallWrong : ChangeSpec := { name := "bookSmall", fn := fun _ => fun
  | [d] => { results := [.lit (.bool false)], args := [d] }
  | _ => none }
def BookSmallWrongFalsely : Prop := bookSmallRow.holds Try.pinned (OpenSpec.ofChange bookSmallWrong)

/-- 'caravanlaw12.BookTail': WHATEVER THE INPUT: true; the input reads as it did. -/
def bookTailSpec : ChangeSpec := { name := "bookTail", fn := fun _ => fun
  | [d1, d2] => { results := [.lit (.bool true)], args := [d1, d2] }
  | _ => none }
def bookTailRow : OpenClaim := { program := "ytnckgkgilnmocaa", sum := "236a07e45d9c3b4fed3f13f040147c02a8d24c245b65baadc3d13fa6407de581", func := "caravan/caravanlaw12.BookTail", spec := "bookTail", unfollowed := true, recurses := true, plainKeys := false, apart := false }
def BookTailSaid : Prop := bookTailRow.holds Try.pinned (OpenSpec.ofChange bookTailSpec)

/-- ITS FALSE NEIGHBOUR: 'it returns false'. Refute it at one input. -/
def bookTailWrong : ChangeSpec := { name := "bookTail", fn := fun _ => fun
  | [d1, d2] => { results := [.lit (.bool false)], args := [d1, d2] }
  | _ => none }
def BookTailWrongFalsely : Prop := bookTailRow.holds Try.pinned (OpenSpec.ofChange bookTailWrong)

/-- 'caravanlaw13.DepotOnce': WHATEVER THE INPUT: true; the input reads as it did. -/
def depotOnceSpec : ChangeSpec := { name := "depotOnce", fn := fun _ => fun
  | [d1, d2] => { results := [.lit (.bool true)], args := [d1, d2] }
  | _ => none }
def depotOnceRow : OpenClaim := { program := "ytnckgkgilnmocaa", sum := "236a07e45d9c3b4fed3f13f040147c02a8d24c245b65baadc3d13fa6407de581", func := "caravan/caravanlaw13.DepotOnce", spec := "depotOnce", inPlace := ["internal/bytealg.Compare"], unfollowed := true, recurses := true, plainKeys := false, apart := false }
def DepotOnceSaid : Prop := depotOnceRow.holds Try.pinned (OpenSpec.ofChange depotOnceSpec)

/-- ITS FALSE NEIGHBOUR: 'it returns false'. Refute it at one input. -/
def depotOnceWrong : ChangeSpec := { name := "depotOnce", fn := fun _ => fun
  | [d1, d2] => { results := [.lit (.bool false)], args := [d1, d2] }
  | _ => none }
def DepotOnceWrongFalsely : Prop := depotOnceRow.holds Try.pinned (OpenSpec.ofChange depotOnceWrong)

/-- 'caravanlaw13.DepotLacks': WHATEVER THE INPUT: true; the input reads as it did. -/
def depotLacksSpec : ChangeSpec := { name := "depotLacks", fn := fun _ => fun
  | [d1, d2, d3] => { results := [.lit (.bool true)], args := [d1, d2, d3] }
  | _ => none }
def depotLacksRow : OpenClaim := { program := "ytnckgkgilnmocaa", sum := "236a07e45d9c3b4fed3f13f040147c02a8d24c245b65baadc3d13fa6407de581", func := "caravan/caravanlaw13.DepotLacks", spec := "depotLacks", inPlace := ["internal/bytealg.Compare"], unfollowed := true, recurses := true, plainKeys := false, apart := false }
def DepotLacksSaid : Prop := depotLacksRow.holds Try.pinned (OpenSpec.ofChange depotLacksSpec)

/-- ITS FALSE NEIGHBOUR: 'it returns false'. Refute it at one input. -/
def depotLacksWrong : ChangeSpec := { name := "depotLacks", fn := fun _ => fun
  | [d1, d2, d3] => { results := [.lit (.bool false)], args := [d1, d2, d3] }
  | _ => none }
def DepotLacksWrongFalsely : Prop := depotLacksRow.holds Try.pinned (OpenSpec.ofChange depotLacksWrong)

/- THE SECOND FORM. 'bulk': how many values and letters a reading holds, each counted each time it is reached (what is shared counts as often as it is met; a slice's spare places count too). A statement '..UptoSaid' is the law's where the arguments, and the package variables that the reading takes, are together of bulk at most 1048576: NARROWER than '..Said'. Prove '..Said' where nothing that the law and all that it calls make is longer than what came in: it says more and counts as full. Else prove '..UptoSaid'. A law counts once. -/
mutual
def uptoBulk {H : Type} : DataW H → Nat
  | .lit (.string bytes) => bytes.length + 1
  | .lit _ => 1
  | .nil => 1
  | .ptr d => uptoBulk d + 1
  | .slice elems spare => uptoBulkAll elems + uptoBulkAll spare + 1
  | .agg parts => uptoBulkAll parts + 1
  | .iface _ d => uptoBulk d + 1
  | .map entries => uptoBulkEntries entries + 1
  | .held _ => 1
def uptoBulkAll {H : Type} : List (DataW H) → Nat
  | [] => 0
  | d :: r => uptoBulk d + uptoBulkAll r
def uptoBulkEntries {H : Type} : List (Lit × DataW H) → Nat
  | [] => 0
  | x :: r => uptoBulkEntry x + uptoBulkEntries r
def uptoBulkEntry {H : Type} : Lit × DataW H → Nat
  | (.string bytes, d) => bytes.length + uptoBulk d + 1
  | (_, d) => uptoBulk d + 1
 end
def uptoSmall : (H : Type) → List (DataW H) → Bool := fun _ ds => decide (uptoBulkAll ds ≤ 1048576)
def OpenSpec.upto (s : _root_.Go.ChangeSpec) : _root_.Go.OpenSpec := { _root_.Go.OpenSpec.ofChange s with cond := some uptoSmall }

/-- 'caravanlaw12.BookTurns', WHERE WHAT IT READS IS OF BULK AT MOST 1048576: true; the input reads as it did. -/
def bookTurnsUptoRow : OpenClaim := { program := "ytnckgkgilnmocaa", sum := "236a07e45d9c3b4fed3f13f040147c02a8d24c245b65baadc3d13fa6407de581", func := "caravan/caravanlaw12.BookTurns", spec := "bookTurns", unfollowed := true, recurses := true, plainKeys := false, apart := false, narrowed := true }
def BookTurnsUptoSaid : Prop := bookTurnsUptoRow.holds Try.pinned (OpenSpec.upto bookTurnsSpec)

/-- 'caravanlaw12.BookSmall', WHERE WHAT IT READS IS OF BULK AT MOST 1048576: true; the input reads as it did. -/
def bookSmallUptoRow : OpenClaim := { program := "ytnckgkgilnmocaa", sum := "236a07e45d9c3b4fed3f13f040147c02a8d24c245b65baadc3d13fa6407de581", func := "caravan/caravanlaw12.BookSmall", spec := "bookSmall", unfollowed := true, recurses := true, plainKeys := false, apart := false, narrowed := true }
def BookSmallUptoSaid : Prop := bookSmallUptoRow.holds Try.pinned (OpenSpec.upto bookSmallSpec)

/-- 'caravanlaw12.BookTail', WHERE WHAT IT READS IS OF BULK AT MOST 1048576: true; the input reads as it did. -/
def bookTailUptoRow : OpenClaim := { program := "ytnckgkgilnmocaa", sum := "236a07e45d9c3b4fed3f13f040147c02a8d24c245b65baadc3d13fa6407de581", func := "caravan/caravanlaw12.BookTail", spec := "bookTail", unfollowed := true, recurses := true, plainKeys := false, apart := false, narrowed := true }
def BookTailUptoSaid : Prop := bookTailUptoRow.holds Try.pinned (OpenSpec.upto bookTailSpec)

/-- 'caravanlaw13.DepotOnce', WHERE WHAT IT READS IS OF BULK AT MOST 1048576: true; the input reads as it did. -/
def depotOnceUptoRow : OpenClaim := { program := "ytnckgkgilnmocaa", sum := "236a07e45d9c3b4fed3f13f040147c02a8d24c245b65baadc3d13fa6407de581", func := "caravan/caravanlaw13.DepotOnce", spec := "depotOnce", inPlace := ["internal/bytealg.Compare"], unfollowed := true, recurses := true, plainKeys := false, apart := false, narrowed := true }
def DepotOnceUptoSaid : Prop := depotOnceUptoRow.holds Try.pinned (OpenSpec.upto depotOnceSpec)

/-- 'caravanlaw13.DepotLacks', WHERE WHAT IT READS IS OF BULK AT MOST 1048576: true; the input reads as it did. -/
def depotLacksUptoRow : OpenClaim := { program := "ytnckgkgilnmocaa", sum := "236a07e45d9c3b4fed3f13f040147c02a8d24c245b65baadc3d13fa6407de581", func := "caravan/caravanlaw13.DepotLacks", spec := "depotLacks", inPlace := ["internal/bytealg.Compare"], unfollowed := true, recurses := true, plainKeys := false, apart := false, narrowed := true }
def DepotLacksUptoSaid : Prop := depotLacksUptoRow.holds Try.pinned (OpenSpec.upto depotLacksSpec)

end Rows
end Go.Proofs.Ytnckgkgilnmocaa
