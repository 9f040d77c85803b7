/-
  No cell of these rows narrows 'for every input' (looked for: loops, veiled, ifaces, maps, wideKeys, modest, calm, conditions, laid).
  DERIVED. THE GIVEN ROWS OF THIS SEAT. 10 by the template 'for every input the law returns true; each argument reads behind the call as it read before'; 0 by the template 'total and deterministic' (their statements: YtnhngaadegebfaaTotals.lean).
  GIVEN WITH THE SEED: the statements are not yours to turn. If you find one false, say at which input.
  Laid BY PROGRAM, IN A SANDBOX (cutbox-rows.mjs): the forced cells as the released guide's own fill.sh prints them over the translation aa1ef7d41569392c… (all of the seat's roots in one cut). By AI agents, Wed Nov 11 2026. No macro, syntax, notation, axiom, sorry.
-/
import Derived.Test.YtnhngaadegebfaaChecked
import GoSem.Claim
import GoSem.ClaimJoined
import GoSem.ClaimMapViews
import Derived.JoinedTies
import Derived.KernelRfl
namespace Go.Proofs.Ytnhngaadegebfaa
/- THE CELL 'sum', in the pinned program and in every row, IS THE sha256 OF THE DUMP (.gsa) THAT YtnhngaadegebfaaProg.lean LOADS. Nothing in Lean hashes anything: it is a label: what it is worth is what the hold of that sum in a sandbox is worth. -/
noncomputable def Try.pinned : Pinned := { name := "ytnhngaadegebfaa", sum := "aa1ef7d41569392cb803ae54447131647fbd2a92fb018043a96376d38b9d5a0b", checked := Try.checked }
namespace Rows
def none {H : Type} : Left H := { results := [], args := [] }

/-- 'merinolaw02.TreeOf': WHATEVER THE INPUT: true; the input reads as it did. -/
def treeOfSpec : ChangeSpec := { name := "treeOf", fn := fun _ => fun
  | [d] => { results := [.lit (.bool true)], args := [d] }
  | _ => none }
def treeOfRow : OpenClaim := { program := "ytnhngaadegebfaa", sum := "aa1ef7d41569392cb803ae54447131647fbd2a92fb018043a96376d38b9d5a0b", func := "merino/merinolaw02.TreeOf", spec := "treeOf", unfollowed := true, recurses := true, apart := false }
def TreeOfSaid : Prop := treeOfRow.holds Try.pinned (OpenSpec.ofChange treeOfSpec)

/-- ITS FALSE NEIGHBOUR: 'it returns false'. Refute it at one input. -/
def treeOfWrong : ChangeSpec := { name := "treeOf", fn := fun _ => fun
  | [d] => { results := [.lit (.bool false)], args := [d] }
  | _ => none }
def TreeOfWrongFalsely : Prop := treeOfRow.holds Try.pinned (OpenSpec.ofChange treeOfWrong)

/-- 'merinolaw02.TreeStrings': WHATEVER THE INPUT: true; the input reads as it did. -/
def treeStringsSpec : ChangeSpec := { name := "treeStrings", fn := fun _ => fun
  | [d1, d2, d3] => { results := [.lit (.bool true)], args := [d1, d2, d3] }
  | _ => none }
def treeStringsRow : OpenClaim := { program := "ytnhngaadegebfaa", sum := "aa1ef7d41569392cb803ae54447131647fbd2a92fb018043a96376d38b9d5a0b", func := "merino/merinolaw02.TreeStrings", spec := "treeStrings", unfollowed := true, recurses := true, apart := false }
def TreeStringsSaid : Prop := treeStringsRow.holds Try.pinned (OpenSpec.ofChange treeStringsSpec)

/-- ITS FALSE NEIGHBOUR: 'it returns false'. Refute it at one input. -/
def treeStringsWrong : ChangeSpec := { name := "treeStrings", fn := fun _ => fun
  | [d1, d2, d3] => { results := [.lit (.bool false)], args := [d1, d2, d3] }
  | _ => none }
def TreeStringsWrongFalsely : Prop := treeStringsRow.holds Try.pinned (OpenSpec.ofChange treeStringsWrong)

/-- 'merinolaw02.TreeDepth': WHATEVER THE INPUT: true; the input reads as it did. -/
def treeDepthSpec : ChangeSpec := { name := "treeDepth", fn := fun _ => fun
  | [d1, d2, d3] => { results := [.lit (.bool true)], args := [d1, d2, d3] }
  | _ => none }
def treeDepthRow : OpenClaim := { program := "ytnhngaadegebfaa", sum := "aa1ef7d41569392cb803ae54447131647fbd2a92fb018043a96376d38b9d5a0b", func := "merino/merinolaw02.TreeDepth", spec := "treeDepth", recurses := true, apart := false }
def TreeDepthSaid : Prop := treeDepthRow.holds Try.pinned (OpenSpec.ofChange treeDepthSpec)

/-- ITS FALSE NEIGHBOUR: 'it returns false'. Refute it at one input. -/
def treeDepthWrong : ChangeSpec := { name := "treeDepth", fn := fun _ => fun
  | [d1, d2, d3] => { results := [.lit (.bool false)], args := [d1, d2, d3] }
  | _ => none }
def TreeDepthWrongFalsely : Prop := treeDepthRow.holds Try.pinned (OpenSpec.ofChange treeDepthWrong)

/-- 'merinolaw02.TreePlays': WHATEVER THE INPUT: true; the input reads as it did. -/
def treePlaysSpec : ChangeSpec := { name := "treePlays", fn := fun _ => fun
  | [d] => { results := [.lit (.bool true)], args := [d] }
  | _ => none }
def treePlaysRow : OpenClaim := { program := "ytnhngaadegebfaa", sum := "aa1ef7d41569392cb803ae54447131647fbd2a92fb018043a96376d38b9d5a0b", func := "merino/merinolaw02.TreePlays", spec := "treePlays", unfollowed := true, recurses := true, apart := false }
def TreePlaysSaid : Prop := treePlaysRow.holds Try.pinned (OpenSpec.ofChange treePlaysSpec)

/-- ITS FALSE NEIGHBOUR: 'it returns false'. Refute it at one input. -/
def treePlaysWrong : ChangeSpec := { name := "treePlays", fn := fun _ => fun
  | [d] => { results := [.lit (.bool false)], args := [d] }
  | _ => none }
def TreePlaysWrongFalsely : Prop := treePlaysRow.holds Try.pinned (OpenSpec.ofChange treePlaysWrong)

/-- 'merinolaw02.TreeSets': WHATEVER THE INPUT: true; the input reads as it did. -/
def treeSetsSpec : ChangeSpec := { name := "treeSets", fn := fun _ => fun
  | [d1, d2, d3, d4] => { results := [.lit (.bool true)], args := [d1, d2, d3, d4] }
  | _ => none }
def treeSetsRow : OpenClaim := { program := "ytnhngaadegebfaa", sum := "aa1ef7d41569392cb803ae54447131647fbd2a92fb018043a96376d38b9d5a0b", func := "merino/merinolaw02.TreeSets", spec := "treeSets", unfollowed := true, recurses := true, apart := false }
def TreeSetsSaid : Prop := treeSetsRow.holds Try.pinned (OpenSpec.ofChange treeSetsSpec)

/-- ITS FALSE NEIGHBOUR: 'it returns false'. Refute it at one input. -/
def treeSetsWrong : ChangeSpec := { name := "treeSets", fn := fun _ => fun
  | [d1, d2, d3, d4] => { results := [.lit (.bool false)], args := [d1, d2, d3, d4] }
  | _ => none }
def TreeSetsWrongFalsely : Prop := treeSetsRow.holds Try.pinned (OpenSpec.ofChange treeSetsWrong)

/-- 'merinolaw02.TreeRanges': WHATEVER THE INPUT: true; the input reads as it did. -/
def treeRangesSpec : ChangeSpec := { name := "treeRanges", fn := fun _ => fun
  | [d1, d2, d3, d4, d5] => { results := [.lit (.bool true)], args := [d1, d2, d3, d4, d5] }
  | _ => none }
def treeRangesRow : OpenClaim := { program := "ytnhngaadegebfaa", sum := "aa1ef7d41569392cb803ae54447131647fbd2a92fb018043a96376d38b9d5a0b", func := "merino/merinolaw02.TreeRanges", spec := "treeRanges", unfollowed := true, recurses := true, apart := false }
def TreeRangesSaid : Prop := treeRangesRow.holds Try.pinned (OpenSpec.ofChange treeRangesSpec)

/-- ITS FALSE NEIGHBOUR: 'it returns false'. Refute it at one input. -/
def treeRangesWrong : ChangeSpec := { name := "treeRanges", fn := fun _ => fun
  | [d1, d2, d3, d4, d5] => { results := [.lit (.bool false)], args := [d1, d2, d3, d4, d5] }
  | _ => none }
def TreeRangesWrongFalsely : Prop := treeRangesRow.holds Try.pinned (OpenSpec.ofChange treeRangesWrong)

/-- 'merinolaw02.TreeWalks': WHATEVER THE INPUT: true; the input reads as it did. -/
def treeWalksSpec : ChangeSpec := { name := "treeWalks", fn := fun _ => fun
  | [d1, d2, d3] => { results := [.lit (.bool true)], args := [d1, d2, d3] }
  | _ => none }
def treeWalksRow : OpenClaim := { program := "ytnhngaadegebfaa", sum := "aa1ef7d41569392cb803ae54447131647fbd2a92fb018043a96376d38b9d5a0b", func := "merino/merinolaw02.TreeWalks", spec := "treeWalks", unfollowed := true, recurses := true, apart := false }
def TreeWalksSaid : Prop := treeWalksRow.holds Try.pinned (OpenSpec.ofChange treeWalksSpec)

/-- ITS FALSE NEIGHBOUR: 'it returns false'. Refute it at one input. -/
def treeWalksWrong : ChangeSpec := { name := "treeWalks", fn := fun _ => fun
  | [d1, d2, d3] => { results := [.lit (.bool false)], args := [d1, d2, d3] }
  | _ => none }
def TreeWalksWrongFalsely : Prop := treeWalksRow.holds Try.pinned (OpenSpec.ofChange treeWalksWrong)

/-- 'merinolaw02.TreeLooks': WHATEVER THE INPUT: true; the input reads as it did. -/
def treeLooksSpec : ChangeSpec := { name := "treeLooks", fn := fun _ => fun
  | [d1, d2, d3] => { results := [.lit (.bool true)], args := [d1, d2, d3] }
  | _ => none }
def treeLooksRow : OpenClaim := { program := "ytnhngaadegebfaa", sum := "aa1ef7d41569392cb803ae54447131647fbd2a92fb018043a96376d38b9d5a0b", func := "merino/merinolaw02.TreeLooks", spec := "treeLooks", unfollowed := true, recurses := true, apart := false }
def TreeLooksSaid : Prop := treeLooksRow.holds Try.pinned (OpenSpec.ofChange treeLooksSpec)

/-- ITS FALSE NEIGHBOUR: 'it returns false'. Refute it at one input. -/
def treeLooksWrong : ChangeSpec := { name := "treeLooks", fn := fun _ => fun
  | [d1, d2, d3] => { results := [.lit (.bool false)], args := [d1, d2, d3] }
  | _ => none }
def TreeLooksWrongFalsely : Prop := treeLooksRow.holds Try.pinned (OpenSpec.ofChange treeLooksWrong)

/-- 'merinolaw02.TreeDiffs': WHATEVER THE INPUT: true; the input reads as it did. -/
def treeDiffsSpec : ChangeSpec := { name := "treeDiffs", fn := fun _ => fun
  | [d1, d2, d3] => { results := [.lit (.bool true)], args := [d1, d2, d3] }
  | _ => none }
def treeDiffsRow : OpenClaim := { program := "ytnhngaadegebfaa", sum := "aa1ef7d41569392cb803ae54447131647fbd2a92fb018043a96376d38b9d5a0b", func := "merino/merinolaw02.TreeDiffs", spec := "treeDiffs", unfollowed := true, recurses := true, apart := false }
def TreeDiffsSaid : Prop := treeDiffsRow.holds Try.pinned (OpenSpec.ofChange treeDiffsSpec)

/-- ITS FALSE NEIGHBOUR: 'it returns false'. Refute it at one input. -/
def treeDiffsWrong : ChangeSpec := { name := "treeDiffs", fn := fun _ => fun
  | [d1, d2, d3] => { results := [.lit (.bool false)], args := [d1, d2, d3] }
  | _ => none }
def TreeDiffsWrongFalsely : Prop := treeDiffsRow.holds Try.pinned (OpenSpec.ofChange treeDiffsWrong)

/-- 'merinolaw02.TreePatch': WHATEVER THE INPUT: true; the input reads as it did. -/
def treePatchSpec : ChangeSpec := { name := "treePatch", fn := fun _ => fun
  | [d1, d2, d3] => { results := [.lit (.bool true)], args := [d1, d2, d3] }
  | _ => none }
def treePatchRow : OpenClaim := { program := "ytnhngaadegebfaa", sum := "aa1ef7d41569392cb803ae54447131647fbd2a92fb018043a96376d38b9d5a0b", func := "merino/merinolaw02.TreePatch", spec := "treePatch", unfollowed := true, recurses := true, apart := false }
def TreePatchSaid : Prop := treePatchRow.holds Try.pinned (OpenSpec.ofChange treePatchSpec)

/-- ITS FALSE NEIGHBOUR: 'it returns false'. Refute it at one input. -/
def treePatchWrong : ChangeSpec := { name := "treePatch", fn := fun _ => fun
  | [d1, d2, d3] => { results := [.lit (.bool false)], args := [d1, d2, d3] }
  | _ => none }
def TreePatchWrongFalsely : Prop := treePatchRow.holds Try.pinned (OpenSpec.ofChange treePatchWrong)

/- THE SECOND FORM. 'bulk': how many values and letters a reading holds, each counted each time it is reached (what is shared counts as often as it is met; a slice's spare places count too). A statement '..UptoSaid' is the law's where the arguments, and the package variables that the reading takes, are together of bulk at most 1048576: NARROWER than '..Said'. Prove '..Said' where nothing that the law and all that it calls make is longer than what came in: it says more and counts as full. Else prove '..UptoSaid'. A law counts once. -/
mutual
def uptoBulk {H : Type} : DataW H → Nat
  | .lit (.string bytes) => bytes.length + 1
  | .lit _ => 1
  | .nil => 1
  | .ptr d => uptoBulk d + 1
  | .slice elems spare => uptoBulkAll elems + uptoBulkAll spare + 1
  | .agg parts => uptoBulkAll parts + 1
  | .iface _ d => uptoBulk d + 1
  | .map entries => uptoBulkEntries entries + 1
  | .held _ => 1
def uptoBulkAll {H : Type} : List (DataW H) → Nat
  | [] => 0
  | d :: r => uptoBulk d + uptoBulkAll r
def uptoBulkEntries {H : Type} : List (Lit × DataW H) → Nat
  | [] => 0
  | x :: r => uptoBulkEntry x + uptoBulkEntries r
def uptoBulkEntry {H : Type} : Lit × DataW H → Nat
  | (.string bytes, d) => bytes.length + uptoBulk d + 1
  | (_, d) => uptoBulk d + 1
 end
def uptoSmall : (H : Type) → List (DataW H) → Bool := fun _ ds => decide (uptoBulkAll ds ≤ 1048576)
def OpenSpec.upto (s : _root_.Go.ChangeSpec) : _root_.Go.OpenSpec := { _root_.Go.OpenSpec.ofChange s with cond := some uptoSmall }

/-- 'merinolaw02.TreeOf', WHERE WHAT IT READS IS OF BULK AT MOST 1048576: true; the input reads as it did. -/
def treeOfUptoRow : OpenClaim := { program := "ytnhngaadegebfaa", sum := "aa1ef7d41569392cb803ae54447131647fbd2a92fb018043a96376d38b9d5a0b", func := "merino/merinolaw02.TreeOf", spec := "treeOf", unfollowed := true, recurses := true, apart := false, narrowed := true }
def TreeOfUptoSaid : Prop := treeOfUptoRow.holds Try.pinned (OpenSpec.upto treeOfSpec)

/-- 'merinolaw02.TreeStrings', WHERE WHAT IT READS IS OF BULK AT MOST 1048576: true; the input reads as it did. -/
def treeStringsUptoRow : OpenClaim := { program := "ytnhngaadegebfaa", sum := "aa1ef7d41569392cb803ae54447131647fbd2a92fb018043a96376d38b9d5a0b", func := "merino/merinolaw02.TreeStrings", spec := "treeStrings", unfollowed := true, recurses := true, apart := false, narrowed := true }
def TreeStringsUptoSaid : Prop := treeStringsUptoRow.holds Try.pinned (OpenSpec.upto treeStringsSpec)

/-- 'merinolaw02.TreeDepth', WHERE WHAT IT READS IS OF BULK AT MOST 1048576: true; the input reads as it did. -/
def treeDepthUptoRow : OpenClaim := { program := "ytnhngaadegebfaa", sum := "aa1ef7d41569392cb803ae54447131647fbd2a92fb018043a96376d38b9d5a0b", func := "merino/merinolaw02.TreeDepth", spec := "treeDepth", recurses := true, apart := false, narrowed := true }
def TreeDepthUptoSaid : Prop := treeDepthUptoRow.holds Try.pinned (OpenSpec.upto treeDepthSpec)

/-- 'merinolaw02.TreePlays', WHERE WHAT IT READS IS OF BULK AT MOST 1048576: true; the input reads as it did. -/
def treePlaysUptoRow : OpenClaim := { program := "ytnhngaadegebfaa", sum := "aa1ef7d41569392cb803ae54447131647fbd2a92fb018043a96376d38b9d5a0b", func := "merino/merinolaw02.TreePlays", spec := "treePlays", unfollowed := true, recurses := true, apart := false, narrowed := true }
def TreePlaysUptoSaid : Prop := treePlaysUptoRow.holds Try.pinned (OpenSpec.upto treePlaysSpec)

/-- 'merinolaw02.TreeSets', WHERE WHAT IT READS IS OF BULK AT MOST 1048576: true; the input reads as it did. -/
def treeSetsUptoRow : OpenClaim := { program := "ytnhngaadegebfaa", sum := "aa1ef7d41569392cb803ae54447131647fbd2a92fb018043a96376d38b9d5a0b", func := "merino/merinolaw02.TreeSets", spec := "treeSets", unfollowed := true, recurses := true, apart := false, narrowed := true }
def TreeSetsUptoSaid : Prop := treeSetsUptoRow.holds Try.pinned (OpenSpec.upto treeSetsSpec)

/-- 'merinolaw02.TreeRanges', WHERE WHAT IT READS IS OF BULK AT MOST 1048576: true; the input reads as it did. -/
def treeRangesUptoRow : OpenClaim := { program := "ytnhngaadegebfaa", sum := "aa1ef7d41569392cb803ae54447131647fbd2a92fb018043a96376d38b9d5a0b", func := "merino/merinolaw02.TreeRanges", spec := "treeRanges", unfollowed := true, recurses := true, apart := false, narrowed := true }
def TreeRangesUptoSaid : Prop := treeRangesUptoRow.holds Try.pinned (OpenSpec.upto treeRangesSpec)

/-- 'merinolaw02.TreeWalks', WHERE WHAT IT READS IS OF BULK AT MOST 1048576: true; the input reads as it did. -/
def treeWalksUptoRow : OpenClaim := { program := "ytnhngaadegebfaa", sum := "aa1ef7d41569392cb803ae54447131647fbd2a92fb018043a96376d38b9d5a0b", func := "merino/merinolaw02.TreeWalks", spec := "treeWalks", unfollowed := true, recurses := true, apart := false, narrowed := true }
def TreeWalksUptoSaid : Prop := treeWalksUptoRow.holds Try.pinned (OpenSpec.upto treeWalksSpec)

/-- 'merinolaw02.TreeLooks', WHERE WHAT IT READS IS OF BULK AT MOST 1048576: true; the input reads as it did. -/
def treeLooksUptoRow : OpenClaim := { program := "ytnhngaadegebfaa", sum := "aa1ef7d41569392cb803ae54447131647fbd2a92fb018043a96376d38b9d5a0b", func := "merino/merinolaw02.TreeLooks", spec := "treeLooks", unfollowed := true, recurses := true, apart := false, narrowed := true }
def TreeLooksUptoSaid : Prop := treeLooksUptoRow.holds Try.pinned (OpenSpec.upto treeLooksSpec)

/-- 'merinolaw02.TreeDiffs', WHERE WHAT IT READS IS OF BULK AT MOST 1048576: true; the input reads as it did. -/
def treeDiffsUptoRow : OpenClaim := { program := "ytnhngaadegebfaa", sum := "aa1ef7d41569392cb803ae54447131647fbd2a92fb018043a96376d38b9d5a0b", func := "merino/merinolaw02.TreeDiffs", spec := "treeDiffs", unfollowed := true, recurses := true, apart := false, narrowed := true }
def TreeDiffsUptoSaid : Prop := treeDiffsUptoRow.holds Try.pinned (OpenSpec.upto treeDiffsSpec)

/-- 'merinolaw02.TreePatch', WHERE WHAT IT READS IS OF BULK AT MOST 1048576: true; the input reads as it did. -/
def treePatchUptoRow : OpenClaim := { program := "ytnhngaadegebfaa", sum := "aa1ef7d41569392cb803ae54447131647fbd2a92fb018043a96376d38b9d5a0b", func := "merino/merinolaw02.TreePatch", spec := "treePatch", unfollowed := true, recurses := true, apart := false, narrowed := true }
def TreePatchUptoSaid : Prop := treePatchUptoRow.holds Try.pinned (OpenSpec.upto treePatchSpec)

end Rows
end Go.Proofs.Ytnhngaadegebfaa
