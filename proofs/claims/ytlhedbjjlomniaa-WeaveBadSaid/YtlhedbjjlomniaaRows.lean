/-
  No cell of these rows narrows 'for every input' (looked for: loops, veiled, ifaces, maps, wideKeys, modest, calm, conditions, laid).
  DERIVED. THE GIVEN ROWS OF THIS SEAT. 10 by the template 'for every input the law returns true; each argument reads behind the call as it read before'; 0 by the template 'total and deterministic' (their statements: YtlhedbjjlomniaaTotals.lean).
  GIVEN WITH THE SEED: the statements are not yours to turn. If you find one false, say at which input.
  Laid BY PROGRAM, IN A SANDBOX (cutbox-rows.mjs): the forced cells as the released guide's own fill.sh prints them over the translation 76cbce778b67ed4a… (all of the seat's roots in one cut). By AI agents, Wed Nov 11 2026. No macro, syntax, notation, axiom, sorry.
-/
import Derived.Test.YtlhedbjjlomniaaChecked
import GoSem.Claim
import GoSem.ClaimJoined
import GoSem.ClaimMapViews
import Derived.JoinedTies
import Derived.KernelRfl
namespace Go.Proofs.Ytlhedbjjlomniaa
/- THE CELL 'sum', in the pinned program and in every row, IS THE sha256 OF THE DUMP (.gsa) THAT YtlhedbjjlomniaaProg.lean LOADS. Nothing in Lean hashes anything: it is a label: what it is worth is what the hold of that sum in a sandbox is worth. -/
noncomputable def Try.pinned : Pinned := { name := "ytlhedbjjlomniaa", sum := "76cbce778b67ed4a4eb8332bac84c1accee5af00b41c94582b3c2d920cc6caa4", checked := Try.checked }
namespace Rows
def none {H : Type} : Left H := { results := [], args := [] }

/-- 'caravanlaw17.LetterChecks': WHATEVER THE INPUT: true; the input reads as it did. -/
def letterChecksSpec : ChangeSpec := { name := "letterChecks", fn := fun _ => fun
  | [d] => { results := [.lit (.bool true)], args := [d] }
  | _ => none }
def letterChecksRow : OpenClaim := { program := "ytlhedbjjlomniaa", sum := "76cbce778b67ed4a4eb8332bac84c1accee5af00b41c94582b3c2d920cc6caa4", func := "caravan/caravanlaw17.LetterChecks", spec := "letterChecks", inPlace := ["internal/bytealg.IndexByteString"], apart := false }
def LetterChecksSaid : Prop := letterChecksRow.holds Try.pinned (OpenSpec.ofChange letterChecksSpec)

/-- ITS FALSE NEIGHBOUR: 'it returns false'. Refute it at one input. -/
def letterChecksWrong : ChangeSpec := { name := "letterChecks", fn := fun _ => fun
  | [d] => { results := [.lit (.bool false)], args := [d] }
  | _ => none }
def LetterChecksWrongFalsely : Prop := letterChecksRow.holds Try.pinned (OpenSpec.ofChange letterChecksWrong)

/-- 'caravanlaw17.LetterReads': WHATEVER THE INPUT: true; the input reads as it did. -/
def letterReadsSpec : ChangeSpec := { name := "letterReads", fn := fun _ => fun
  | [d] => { results := [.lit (.bool true)], args := [d] }
  | _ => none }
def letterReadsRow : OpenClaim := { program := "ytlhedbjjlomniaa", sum := "76cbce778b67ed4a4eb8332bac84c1accee5af00b41c94582b3c2d920cc6caa4", func := "caravan/caravanlaw17.LetterReads", spec := "letterReads", inPlace := ["internal/bytealg.IndexByteString"], apart := false }
def LetterReadsSaid : Prop := letterReadsRow.holds Try.pinned (OpenSpec.ofChange letterReadsSpec)

/-- ITS FALSE NEIGHBOUR: 'it returns false'. Refute it at one input. -/
def letterReadsWrong : ChangeSpec := { name := "letterReads", fn := fun _ => fun
  | [d] => { results := [.lit (.bool false)], args := [d] }
  | _ => none }
def LetterReadsWrongFalsely : Prop := letterReadsRow.holds Try.pinned (OpenSpec.ofChange letterReadsWrong)

/-- 'caravanlaw17.LetterReplies': WHATEVER THE INPUT: true; the input reads as it did. -/
def letterRepliesSpec : ChangeSpec := { name := "letterReplies", fn := fun _ => fun
  | [d1, d2] => { results := [.lit (.bool true)], args := [d1, d2] }
  | _ => none }
def letterRepliesRow : OpenClaim := { program := "ytlhedbjjlomniaa", sum := "76cbce778b67ed4a4eb8332bac84c1accee5af00b41c94582b3c2d920cc6caa4", func := "caravan/caravanlaw17.LetterReplies", spec := "letterReplies", inPlace := ["internal/bytealg.IndexByteString"], apart := false }
def LetterRepliesSaid : Prop := letterRepliesRow.holds Try.pinned (OpenSpec.ofChange letterRepliesSpec)

/-- ITS FALSE NEIGHBOUR: 'it returns false'. Refute it at one input. -/
def letterRepliesWrong : ChangeSpec := { name := "letterReplies", fn := fun _ => fun
  | [d1, d2] => { results := [.lit (.bool false)], args := [d1, d2] }
  | _ => none }
def LetterRepliesWrongFalsely : Prop := letterRepliesRow.holds Try.pinned (OpenSpec.ofChange letterRepliesWrong)

/-- 'caravanlaw17.LetterApart': WHATEVER THE INPUT: true; the input reads as it did. -/
def letterApartSpec : ChangeSpec := { name := "letterApart", fn := fun _ => fun
  | [d1, d2] => { results := [.lit (.bool true)], args := [d1, d2] }
  | _ => none }
def letterApartRow : OpenClaim := { program := "ytlhedbjjlomniaa", sum := "76cbce778b67ed4a4eb8332bac84c1accee5af00b41c94582b3c2d920cc6caa4", func := "caravan/caravanlaw17.LetterApart", spec := "letterApart", inPlace := ["internal/bytealg.IndexByteString"], apart := false }
def LetterApartSaid : Prop := letterApartRow.holds Try.pinned (OpenSpec.ofChange letterApartSpec)

/-- ITS FALSE NEIGHBOUR: 'it returns false'. Refute it at one input. -/
def letterApartWrong : ChangeSpec := { name := "letterApart", fn := fun _ => fun
  | [d1, d2] => { results := [.lit (.bool false)], args := [d1, d2] }
  | _ => none }
def LetterApartWrongFalsely : Prop := letterApartRow.holds Try.pinned (OpenSpec.ofChange letterApartWrong)

/-- 'caravanlaw17.LetterCut': WHATEVER THE INPUT: true; the input reads as it did. -/
def letterCutSpec : ChangeSpec := { name := "letterCut", fn := fun _ => fun
  | [d1, d2] => { results := [.lit (.bool true)], args := [d1, d2] }
  | _ => none }
def letterCutRow : OpenClaim := { program := "ytlhedbjjlomniaa", sum := "76cbce778b67ed4a4eb8332bac84c1accee5af00b41c94582b3c2d920cc6caa4", func := "caravan/caravanlaw17.LetterCut", spec := "letterCut", inPlace := ["internal/bytealg.IndexByteString"], apart := false }
def LetterCutSaid : Prop := letterCutRow.holds Try.pinned (OpenSpec.ofChange letterCutSpec)

/-- ITS FALSE NEIGHBOUR: 'it returns false'. Refute it at one input. -/
def letterCutWrong : ChangeSpec := { name := "letterCut", fn := fun _ => fun
  | [d1, d2] => { results := [.lit (.bool false)], args := [d1, d2] }
  | _ => none }
def LetterCutWrongFalsely : Prop := letterCutRow.holds Try.pinned (OpenSpec.ofChange letterCutWrong)

/-- 'caravanlaw09.MerkleReads': WHATEVER THE INPUT: true; the input reads as it did. -/
def merkleReadsSpec : ChangeSpec := { name := "merkleReads", fn := fun _ => fun
  | [d] => { results := [.lit (.bool true)], args := [d] }
  | _ => none }
def merkleReadsRow : OpenClaim := { program := "ytlhedbjjlomniaa", sum := "76cbce778b67ed4a4eb8332bac84c1accee5af00b41c94582b3c2d920cc6caa4", func := "caravan/caravanlaw09.MerkleReads", spec := "merkleReads", unfollowed := true, recurses := true, apart := false }
def MerkleReadsSaid : Prop := merkleReadsRow.holds Try.pinned (OpenSpec.ofChange merkleReadsSpec)

/-- ITS FALSE NEIGHBOUR: 'it returns false'. Refute it at one input. -/
def merkleReadsWrong : ChangeSpec := { name := "merkleReads", fn := fun _ => fun
  | [d] => { results := [.lit (.bool false)], args := [d] }
  | _ => none }
def MerkleReadsWrongFalsely : Prop := merkleReadsRow.holds Try.pinned (OpenSpec.ofChange merkleReadsWrong)

/-- 'caravanlaw09.MerkleBuilds': WHATEVER THE INPUT: true; the input reads as it did. -/
def merkleBuildsSpec : ChangeSpec := { name := "merkleBuilds", fn := fun _ => fun
  | [d1, d2] => { results := [.lit (.bool true)], args := [d1, d2] }
  | _ => none }
def merkleBuildsRow : OpenClaim := { program := "ytlhedbjjlomniaa", sum := "76cbce778b67ed4a4eb8332bac84c1accee5af00b41c94582b3c2d920cc6caa4", func := "caravan/caravanlaw09.MerkleBuilds", spec := "merkleBuilds", unfollowed := true, recurses := true, apart := false }
def MerkleBuildsSaid : Prop := merkleBuildsRow.holds Try.pinned (OpenSpec.ofChange merkleBuildsSpec)

/-- ITS FALSE NEIGHBOUR: 'it returns false'. Refute it at one input. -/
def merkleBuildsWrong : ChangeSpec := { name := "merkleBuilds", fn := fun _ => fun
  | [d1, d2] => { results := [.lit (.bool false)], args := [d1, d2] }
  | _ => none }
def MerkleBuildsWrongFalsely : Prop := merkleBuildsRow.holds Try.pinned (OpenSpec.ofChange merkleBuildsWrong)

/-- 'caravanlaw09.MerkleDepth': WHATEVER THE INPUT: true; the input reads as it did. -/
def merkleDepthSpec : ChangeSpec := { name := "merkleDepth", fn := fun _ => fun
  | [d] => { results := [.lit (.bool true)], args := [d] }
  | _ => none }
def merkleDepthRow : OpenClaim := { program := "ytlhedbjjlomniaa", sum := "76cbce778b67ed4a4eb8332bac84c1accee5af00b41c94582b3c2d920cc6caa4", func := "caravan/caravanlaw09.MerkleDepth", spec := "merkleDepth", unfollowed := true, recurses := true, apart := false }
def MerkleDepthSaid : Prop := merkleDepthRow.holds Try.pinned (OpenSpec.ofChange merkleDepthSpec)

/-- ITS FALSE NEIGHBOUR: 'it returns false'. Refute it at one input. -/
def merkleDepthWrong : ChangeSpec := { name := "merkleDepth", fn := fun _ => fun
  | [d] => { results := [.lit (.bool false)], args := [d] }
  | _ => none }
def MerkleDepthWrongFalsely : Prop := merkleDepthRow.holds Try.pinned (OpenSpec.ofChange merkleDepthWrong)

/-- 'caravanlaw10.WeaveBad': WHATEVER THE INPUT: true; the input reads as it did. -/
def weaveBadSpec : ChangeSpec := { name := "weaveBad", fn := fun _ => fun
  | [d1, d2, d3] => { results := [.lit (.bool true)], args := [d1, d2, d3] }
  | _ => none }
def weaveBadRow : OpenClaim := { program := "ytlhedbjjlomniaa", sum := "76cbce778b67ed4a4eb8332bac84c1accee5af00b41c94582b3c2d920cc6caa4", func := "caravan/caravanlaw10.WeaveBad", spec := "weaveBad", inPlace := ["internal/abi.NoEscape"], unfollowed := true, recurses := true, apart := false }
def WeaveBadSaid : Prop := weaveBadRow.holds Try.pinned (OpenSpec.ofChange weaveBadSpec)

/-- ITS FALSE NEIGHBOUR: 'it returns false'. Refute it at one input. -/
def weaveBadWrong : ChangeSpec := { name := "weaveBad", fn := fun _ => fun
  | [d1, d2, d3] => { results := [.lit (.bool false)], args := [d1, d2, d3] }
  | _ => none }
def WeaveBadWrongFalsely : Prop := weaveBadRow.holds Try.pinned (OpenSpec.ofChange weaveBadWrong)

/-- 'caravanlaw10.WeavePlays': WHATEVER THE INPUT: true; the input reads as it did. -/
def weavePlaysSpec : ChangeSpec := { name := "weavePlays", fn := fun _ => fun
  | [d1, d2, d3, d4] => { results := [.lit (.bool true)], args := [d1, d2, d3, d4] }
  | _ => none }
def weavePlaysRow : OpenClaim := { program := "ytlhedbjjlomniaa", sum := "76cbce778b67ed4a4eb8332bac84c1accee5af00b41c94582b3c2d920cc6caa4", func := "caravan/caravanlaw10.WeavePlays", spec := "weavePlays", inPlace := ["internal/abi.NoEscape"], unfollowed := true, recurses := true, apart := false }
def WeavePlaysSaid : Prop := weavePlaysRow.holds Try.pinned (OpenSpec.ofChange weavePlaysSpec)

/-- ITS FALSE NEIGHBOUR: 'it returns false'. Refute it at one input. -/
def weavePlaysWrong : ChangeSpec := { name := "weavePlays", fn := fun _ => fun
  | [d1, d2, d3, d4] => { results := [.lit (.bool false)], args := [d1, d2, d3, d4] }
  | _ => none }
def WeavePlaysWrongFalsely : Prop := weavePlaysRow.holds Try.pinned (OpenSpec.ofChange weavePlaysWrong)

/- THE SECOND FORM. 'bulk': how many values and letters a reading holds, each counted each time it is reached (what is shared counts as often as it is met; a slice's spare places count too). A statement '..UptoSaid' is the law's where the arguments, and the package variables that the reading takes, are together of bulk at most 1048576: NARROWER than '..Said'. Prove '..Said' where nothing that the law and all that it calls make is longer than what came in: it says more and counts as full. Else prove '..UptoSaid'. A law counts once. -/
mutual
def uptoBulk {H : Type} : DataW H → Nat
  | .lit (.string bytes) => bytes.length + 1
  | .lit _ => 1
  | .nil => 1
  | .ptr d => uptoBulk d + 1
  | .slice elems spare => uptoBulkAll elems + uptoBulkAll spare + 1
  | .agg parts => uptoBulkAll parts + 1
  | .iface _ d => uptoBulk d + 1
  | .map entries => uptoBulkEntries entries + 1
  | .held _ => 1
def uptoBulkAll {H : Type} : List (DataW H) → Nat
  | [] => 0
  | d :: r => uptoBulk d + uptoBulkAll r
def uptoBulkEntries {H : Type} : List (Lit × DataW H) → Nat
  | [] => 0
  | x :: r => uptoBulkEntry x + uptoBulkEntries r
def uptoBulkEntry {H : Type} : Lit × DataW H → Nat
  | (.string bytes, d) => bytes.length + uptoBulk d + 1
  | (_, d) => uptoBulk d + 1
 end
def uptoSmall : (H : Type) → List (DataW H) → Bool := fun _ ds => decide (uptoBulkAll ds ≤ 1048576)
def OpenSpec.upto (s : _root_.Go.ChangeSpec) : _root_.Go.OpenSpec := { _root_.Go.OpenSpec.ofChange s with cond := some uptoSmall }

/-- 'caravanlaw17.LetterChecks', WHERE WHAT IT READS IS OF BULK AT MOST 1048576: true; the input reads as it did. -/
def letterChecksUptoRow : OpenClaim := { program := "ytlhedbjjlomniaa", sum := "76cbce778b67ed4a4eb8332bac84c1accee5af00b41c94582b3c2d920cc6caa4", func := "caravan/caravanlaw17.LetterChecks", spec := "letterChecks", inPlace := ["internal/bytealg.IndexByteString"], apart := false, narrowed := true }
def LetterChecksUptoSaid : Prop := letterChecksUptoRow.holds Try.pinned (OpenSpec.upto letterChecksSpec)

/-- 'caravanlaw17.LetterReads', WHERE WHAT IT READS IS OF BULK AT MOST 1048576: true; the input reads as it did. -/
def letterReadsUptoRow : OpenClaim := { program := "ytlhedbjjlomniaa", sum := "76cbce778b67ed4a4eb8332bac84c1accee5af00b41c94582b3c2d920cc6caa4", func := "caravan/caravanlaw17.LetterReads", spec := "letterReads", inPlace := ["internal/bytealg.IndexByteString"], apart := false, narrowed := true }
def LetterReadsUptoSaid : Prop := letterReadsUptoRow.holds Try.pinned (OpenSpec.upto letterReadsSpec)

/-- 'caravanlaw17.LetterReplies', WHERE WHAT IT READS IS OF BULK AT MOST 1048576: true; the input reads as it did. -/
def letterRepliesUptoRow : OpenClaim := { program := "ytlhedbjjlomniaa", sum := "76cbce778b67ed4a4eb8332bac84c1accee5af00b41c94582b3c2d920cc6caa4", func := "caravan/caravanlaw17.LetterReplies", spec := "letterReplies", inPlace := ["internal/bytealg.IndexByteString"], apart := false, narrowed := true }
def LetterRepliesUptoSaid : Prop := letterRepliesUptoRow.holds Try.pinned (OpenSpec.upto letterRepliesSpec)

/-- 'caravanlaw17.LetterApart', WHERE WHAT IT READS IS OF BULK AT MOST 1048576: true; the input reads as it did. -/
def letterApartUptoRow : OpenClaim := { program := "ytlhedbjjlomniaa", sum := "76cbce778b67ed4a4eb8332bac84c1accee5af00b41c94582b3c2d920cc6caa4", func := "caravan/caravanlaw17.LetterApart", spec := "letterApart", inPlace := ["internal/bytealg.IndexByteString"], apart := false, narrowed := true }
def LetterApartUptoSaid : Prop := letterApartUptoRow.holds Try.pinned (OpenSpec.upto letterApartSpec)

/-- 'caravanlaw17.LetterCut', WHERE WHAT IT READS IS OF BULK AT MOST 1048576: true; the input reads as it did. -/
def letterCutUptoRow : OpenClaim := { program := "ytlhedbjjlomniaa", sum := "76cbce778b67ed4a4eb8332bac84c1accee5af00b41c94582b3c2d920cc6caa4", func := "caravan/caravanlaw17.LetterCut", spec := "letterCut", inPlace := ["internal/bytealg.IndexByteString"], apart := false, narrowed := true }
def LetterCutUptoSaid : Prop := letterCutUptoRow.holds Try.pinned (OpenSpec.upto letterCutSpec)

/-- 'caravanlaw09.MerkleReads', WHERE WHAT IT READS IS OF BULK AT MOST 1048576: true; the input reads as it did. -/
def merkleReadsUptoRow : OpenClaim := { program := "ytlhedbjjlomniaa", sum := "76cbce778b67ed4a4eb8332bac84c1accee5af00b41c94582b3c2d920cc6caa4", func := "caravan/caravanlaw09.MerkleReads", spec := "merkleReads", unfollowed := true, recurses := true, apart := false, narrowed := true }
def MerkleReadsUptoSaid : Prop := merkleReadsUptoRow.holds Try.pinned (OpenSpec.upto merkleReadsSpec)

/-- 'caravanlaw09.MerkleBuilds', WHERE WHAT IT READS IS OF BULK AT MOST 1048576: true; the input reads as it did. -/
def merkleBuildsUptoRow : OpenClaim := { program := "ytlhedbjjlomniaa", sum := "76cbce778b67ed4a4eb8332bac84c1accee5af00b41c94582b3c2d920cc6caa4", func := "caravan/caravanlaw09.MerkleBuilds", spec := "merkleBuilds", unfollowed := true, recurses := true, apart := false, narrowed := true }
def MerkleBuildsUptoSaid : Prop := merkleBuildsUptoRow.holds Try.pinned (OpenSpec.upto merkleBuildsSpec)

/-- 'caravanlaw09.MerkleDepth', WHERE WHAT IT READS IS OF BULK AT MOST 1048576: true; the input reads as it did. -/
def merkleDepthUptoRow : OpenClaim := { program := "ytlhedbjjlomniaa", sum := "76cbce778b67ed4a4eb8332bac84c1accee5af00b41c94582b3c2d920cc6caa4", func := "caravan/caravanlaw09.MerkleDepth", spec := "merkleDepth", unfollowed := true, recurses := true, apart := false, narrowed := true }
def MerkleDepthUptoSaid : Prop := merkleDepthUptoRow.holds Try.pinned (OpenSpec.upto merkleDepthSpec)

/-- 'caravanlaw10.WeaveBad', WHERE WHAT IT READS IS OF BULK AT MOST 1048576: true; the input reads as it did. -/
def weaveBadUptoRow : OpenClaim := { program := "ytlhedbjjlomniaa", sum := "76cbce778b67ed4a4eb8332bac84c1accee5af00b41c94582b3c2d920cc6caa4", func := "caravan/caravanlaw10.WeaveBad", spec := "weaveBad", inPlace := ["internal/abi.NoEscape"], unfollowed := true, recurses := true, apart := false, narrowed := true }
def WeaveBadUptoSaid : Prop := weaveBadUptoRow.holds Try.pinned (OpenSpec.upto weaveBadSpec)

/-- 'caravanlaw10.WeavePlays', WHERE WHAT IT READS IS OF BULK AT MOST 1048576: true; the input reads as it did. -/
def weavePlaysUptoRow : OpenClaim := { program := "ytlhedbjjlomniaa", sum := "76cbce778b67ed4a4eb8332bac84c1accee5af00b41c94582b3c2d920cc6caa4", func := "caravan/caravanlaw10.WeavePlays", spec := "weavePlays", inPlace := ["internal/abi.NoEscape"], unfollowed := true, recurses := true, apart := false, narrowed := true }
def WeavePlaysUptoSaid : Prop := weavePlaysUptoRow.holds Try.pinned (OpenSpec.upto weavePlaysSpec)

end Rows
end Go.Proofs.Ytlhedbjjlomniaa
