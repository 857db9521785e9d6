/-
  No cell of these rows narrows 'for every input' (looked for: loops, veiled, ifaces, maps, wideKeys, modest, calm, conditions, laid).
  DERIVED. THE GIVEN ROWS OF THIS SEAT. 19 by the template 'for every input the law returns true; each argument reads behind the call as it read before'; 0 by the template 'total and deterministic' (their statements: YthhedpdldjmfpaaTotals.lean).
  GIVEN WITH THE SEED: the statements are not yours to turn. If you find one false, say at which input.
  Laid BY PROGRAM, IN A SANDBOX (cutbox-rows.mjs): the forced cells as the released guide's own fill.sh prints them over the translation c1093f4c6cb3f14c… (all of the seat's roots in one cut). By AI agents, Wed Nov 11 2026. No macro, syntax, notation, axiom, sorry.
-/
import Derived.Test.YthhedpdldjmfpaaChecked
import GoSem.Claim
import GoSem.ClaimJoined
import GoSem.ClaimMapViews
import Derived.JoinedTies
import Derived.KernelRfl
namespace Go.Proofs.Ythhedpdldjmfpaa
/- THE CELL 'sum', in the pinned program and in every row, IS THE sha256 OF THE DUMP (.gsa) THAT YthhedpdldjmfpaaProg.lean LOADS. Nothing in Lean hashes anything: it is a label: what it is worth is what the hold of that sum in a sandbox is worth. -/
noncomputable def Try.pinned : Pinned := { name := "ythhedpdldjmfpaa", sum := "c1093f4c6cb3f14c34d041493adcda99c5b21578c3debf0958f79dace9781687", checked := Try.checked }
namespace Rows
def none {H : Type} : Left H := { results := [], args := [] }

/-- 'laws.FnExactHolds': WHATEVER THE INPUT: true; the input reads as it did. -/
def fnExactHoldsSpec : ChangeSpec := { name := "fnExactHolds", fn := fun _ => fun
  | [d] => { results := [.lit (.bool true)], args := [d] }
  | _ => none }
def fnExactHoldsRow : OpenClaim := { program := "ythhedpdldjmfpaa", sum := "c1093f4c6cb3f14c34d041493adcda99c5b21578c3debf0958f79dace9781687", func := "loop.example/g00916/laws.FnExactHolds", spec := "fnExactHolds", apart := false }
def FnExactHoldsSaid : Prop := fnExactHoldsRow.holds Try.pinned (OpenSpec.ofChange fnExactHoldsSpec)

/-- ITS FALSE NEIGHBOUR: 'it returns false'. Refute it at one input. -/
def fnExactHoldsWrong : ChangeSpec := { name := "fnExactHolds", fn := fun _ => fun
  | [d] => { results := [.lit (.bool false)], args := [d] }
  | _ => none }
def FnExactHoldsWrongFalsely : Prop := fnExactHoldsRow.holds Try.pinned (OpenSpec.ofChange fnExactHoldsWrong)

/-- 'laws.FnExactAreBlocks': WHATEVER THE INPUT: true; the input reads as it did. -/
def fnExactAreBlocksSpec : ChangeSpec := { name := "fnExactAreBlocks", fn := fun _ => fun
  | [d1, d2] => { results := [.lit (.bool true)], args := [d1, d2] }
  | _ => none }
def fnExactAreBlocksRow : OpenClaim := { program := "ythhedpdldjmfpaa", sum := "c1093f4c6cb3f14c34d041493adcda99c5b21578c3debf0958f79dace9781687", func := "loop.example/g00916/laws.FnExactAreBlocks", spec := "fnExactAreBlocks", unfollowed := true, recurses := true, apart := false }
def FnExactAreBlocksSaid : Prop := fnExactAreBlocksRow.holds Try.pinned (OpenSpec.ofChange fnExactAreBlocksSpec)

/-- ITS FALSE NEIGHBOUR: 'it returns false'. Refute it at one input. -/
def fnExactAreBlocksWrong : ChangeSpec := { name := "fnExactAreBlocks", fn := fun _ => fun
  | [d1, d2] => { results := [.lit (.bool false)], args := [d1, d2] }
  | _ => none }
def FnExactAreBlocksWrongFalsely : Prop := fnExactAreBlocksRow.holds Try.pinned (OpenSpec.ofChange fnExactAreBlocksWrong)

/-- 'laws.FnExactDefaultBlocks': WHATEVER THE INPUT: true; the input reads as it did. -/
def fnExactDefaultBlocksSpec : ChangeSpec := { name := "fnExactDefaultBlocks", fn := fun _ => fun
  | [d] => { results := [.lit (.bool true)], args := [d] }
  | _ => none }
def fnExactDefaultBlocksRow : OpenClaim := { program := "ythhedpdldjmfpaa", sum := "c1093f4c6cb3f14c34d041493adcda99c5b21578c3debf0958f79dace9781687", func := "loop.example/g00916/laws.FnExactDefaultBlocks", spec := "fnExactDefaultBlocks", apart := false }
def FnExactDefaultBlocksSaid : Prop := fnExactDefaultBlocksRow.holds Try.pinned (OpenSpec.ofChange fnExactDefaultBlocksSpec)

/-- ITS FALSE NEIGHBOUR: 'it returns false'. Refute it at one input. -/
def fnExactDefaultBlocksWrong : ChangeSpec := { name := "fnExactDefaultBlocks", fn := fun _ => fun
  | [d] => { results := [.lit (.bool false)], args := [d] }
  | _ => none }
def FnExactDefaultBlocksWrongFalsely : Prop := fnExactDefaultBlocksRow.holds Try.pinned (OpenSpec.ofChange fnExactDefaultBlocksWrong)

/-- 'laws.FnExactHoldingSegment': WHATEVER THE INPUT: true; the input reads as it did. -/
def fnExactHoldingSegmentSpec : ChangeSpec := { name := "fnExactHoldingSegment", fn := fun _ => fun
  | [d1, d2, d3] => { results := [.lit (.bool true)], args := [d1, d2, d3] }
  | _ => none }
def fnExactHoldingSegmentRow : OpenClaim := { program := "ythhedpdldjmfpaa", sum := "c1093f4c6cb3f14c34d041493adcda99c5b21578c3debf0958f79dace9781687", func := "loop.example/g00916/laws.FnExactHoldingSegment", spec := "fnExactHoldingSegment", unfollowed := true, recurses := true, apart := false }
def FnExactHoldingSegmentSaid : Prop := fnExactHoldingSegmentRow.holds Try.pinned (OpenSpec.ofChange fnExactHoldingSegmentSpec)

/-- ITS FALSE NEIGHBOUR: 'it returns false'. Refute it at one input. -/
def fnExactHoldingSegmentWrong : ChangeSpec := { name := "fnExactHoldingSegment", fn := fun _ => fun
  | [d1, d2, d3] => { results := [.lit (.bool false)], args := [d1, d2, d3] }
  | _ => none }
def FnExactHoldingSegmentWrongFalsely : Prop := fnExactHoldingSegmentRow.holds Try.pinned (OpenSpec.ofChange fnExactHoldingSegmentWrong)

/-- 'laws.FnBlocks': WHATEVER THE INPUT: true; the input reads as it did. -/
def fnBlocksSpec : ChangeSpec := { name := "fnBlocks", fn := fun _ => fun
  | [d] => { results := [.lit (.bool true)], args := [d] }
  | _ => none }
def fnBlocksRow : OpenClaim := { program := "ythhedpdldjmfpaa", sum := "c1093f4c6cb3f14c34d041493adcda99c5b21578c3debf0958f79dace9781687", func := "loop.example/g00916/laws.FnBlocks", spec := "fnBlocks", unfollowed := true, recurses := true, apart := false }
def FnBlocksSaid : Prop := fnBlocksRow.holds Try.pinned (OpenSpec.ofChange fnBlocksSpec)

/-- ITS FALSE NEIGHBOUR: 'it returns false'. Refute it at one input. -/
def fnBlocksWrong : ChangeSpec := { name := "fnBlocks", fn := fun _ => fun
  | [d] => { results := [.lit (.bool false)], args := [d] }
  | _ => none }
def FnBlocksWrongFalsely : Prop := fnBlocksRow.holds Try.pinned (OpenSpec.ofChange fnBlocksWrong)

/-- 'laws.FnExactBlockOfSegment': WHATEVER THE INPUT: true; the input reads as it did. -/
def fnExactBlockOfSegmentSpec : ChangeSpec := { name := "fnExactBlockOfSegment", fn := fun _ => fun
  | [d1, d2, d3] => { results := [.lit (.bool true)], args := [d1, d2, d3] }
  | _ => none }
def fnExactBlockOfSegmentRow : OpenClaim := { program := "ythhedpdldjmfpaa", sum := "c1093f4c6cb3f14c34d041493adcda99c5b21578c3debf0958f79dace9781687", func := "loop.example/g00916/laws.FnExactBlockOfSegment", spec := "fnExactBlockOfSegment", unfollowed := true, recurses := true, apart := false }
def FnExactBlockOfSegmentSaid : Prop := fnExactBlockOfSegmentRow.holds Try.pinned (OpenSpec.ofChange fnExactBlockOfSegmentSpec)

/-- ITS FALSE NEIGHBOUR: 'it returns false'. Refute it at one input. -/
def fnExactBlockOfSegmentWrong : ChangeSpec := { name := "fnExactBlockOfSegment", fn := fun _ => fun
  | [d1, d2, d3] => { results := [.lit (.bool false)], args := [d1, d2, d3] }
  | _ => none }
def FnExactBlockOfSegmentWrongFalsely : Prop := fnExactBlockOfSegmentRow.holds Try.pinned (OpenSpec.ofChange fnExactBlockOfSegmentWrong)

/-- 'laws.FnExactBlockStart': WHATEVER THE INPUT: true; the input reads as it did. -/
def fnExactBlockStartSpec : ChangeSpec := { name := "fnExactBlockStart", fn := fun _ => fun
  | [d1, d2, d3] => { results := [.lit (.bool true)], args := [d1, d2, d3] }
  | _ => none }
def fnExactBlockStartRow : OpenClaim := { program := "ythhedpdldjmfpaa", sum := "c1093f4c6cb3f14c34d041493adcda99c5b21578c3debf0958f79dace9781687", func := "loop.example/g00916/laws.FnExactBlockStart", spec := "fnExactBlockStart", unfollowed := true, recurses := true, apart := false }
def FnExactBlockStartSaid : Prop := fnExactBlockStartRow.holds Try.pinned (OpenSpec.ofChange fnExactBlockStartSpec)

/-- ITS FALSE NEIGHBOUR: 'it returns false'. Refute it at one input. -/
def fnExactBlockStartWrong : ChangeSpec := { name := "fnExactBlockStart", fn := fun _ => fun
  | [d1, d2, d3] => { results := [.lit (.bool false)], args := [d1, d2, d3] }
  | _ => none }
def FnExactBlockStartWrongFalsely : Prop := fnExactBlockStartRow.holds Try.pinned (OpenSpec.ofChange fnExactBlockStartWrong)

/-- 'laws.FnExactBlockLength': WHATEVER THE INPUT: true; the input reads as it did. -/
def fnExactBlockLengthSpec : ChangeSpec := { name := "fnExactBlockLength", fn := fun _ => fun
  | [d1, d2, d3] => { results := [.lit (.bool true)], args := [d1, d2, d3] }
  | _ => none }
def fnExactBlockLengthRow : OpenClaim := { program := "ythhedpdldjmfpaa", sum := "c1093f4c6cb3f14c34d041493adcda99c5b21578c3debf0958f79dace9781687", func := "loop.example/g00916/laws.FnExactBlockLength", spec := "fnExactBlockLength", unfollowed := true, recurses := true, apart := false }
def FnExactBlockLengthSaid : Prop := fnExactBlockLengthRow.holds Try.pinned (OpenSpec.ofChange fnExactBlockLengthSpec)

/-- ITS FALSE NEIGHBOUR: 'it returns false'. Refute it at one input. -/
def fnExactBlockLengthWrong : ChangeSpec := { name := "fnExactBlockLength", fn := fun _ => fun
  | [d1, d2, d3] => { results := [.lit (.bool false)], args := [d1, d2, d3] }
  | _ => none }
def FnExactBlockLengthWrongFalsely : Prop := fnExactBlockLengthRow.holds Try.pinned (OpenSpec.ofChange fnExactBlockLengthWrong)

/-- 'laws.FnExactBlockAt': WHATEVER THE INPUT: true; the input reads as it did. -/
def fnExactBlockAtSpec : ChangeSpec := { name := "fnExactBlockAt", fn := fun _ => fun
  | [d1, d2, d3] => { results := [.lit (.bool true)], args := [d1, d2, d3] }
  | _ => none }
def fnExactBlockAtRow : OpenClaim := { program := "ythhedpdldjmfpaa", sum := "c1093f4c6cb3f14c34d041493adcda99c5b21578c3debf0958f79dace9781687", func := "loop.example/g00916/laws.FnExactBlockAt", spec := "fnExactBlockAt", unfollowed := true, recurses := true, apart := false }
def FnExactBlockAtSaid : Prop := fnExactBlockAtRow.holds Try.pinned (OpenSpec.ofChange fnExactBlockAtSpec)

/-- ITS FALSE NEIGHBOUR: 'it returns false'. Refute it at one input. -/
def fnExactBlockAtWrong : ChangeSpec := { name := "fnExactBlockAt", fn := fun _ => fun
  | [d1, d2, d3] => { results := [.lit (.bool false)], args := [d1, d2, d3] }
  | _ => none }
def FnExactBlockAtWrongFalsely : Prop := fnExactBlockAtRow.holds Try.pinned (OpenSpec.ofChange fnExactBlockAtWrong)

/-- 'laws.FnExactMergeBlocks': WHATEVER THE INPUT: true; the input reads as it did. -/
def fnExactMergeBlocksSpec : ChangeSpec := { name := "fnExactMergeBlocks", fn := fun _ => fun
  | [d1, d2, d3] => { results := [.lit (.bool true)], args := [d1, d2, d3] }
  | _ => none }
def fnExactMergeBlocksRow : OpenClaim := { program := "ythhedpdldjmfpaa", sum := "c1093f4c6cb3f14c34d041493adcda99c5b21578c3debf0958f79dace9781687", func := "loop.example/g00916/laws.FnExactMergeBlocks", spec := "fnExactMergeBlocks", unfollowed := true, recurses := true, apart := false }
def FnExactMergeBlocksSaid : Prop := fnExactMergeBlocksRow.holds Try.pinned (OpenSpec.ofChange fnExactMergeBlocksSpec)

/-- ITS FALSE NEIGHBOUR: 'it returns false'. Refute it at one input. -/
def fnExactMergeBlocksWrong : ChangeSpec := { name := "fnExactMergeBlocks", fn := fun _ => fun
  | [d1, d2, d3] => { results := [.lit (.bool false)], args := [d1, d2, d3] }
  | _ => none }
def FnExactMergeBlocksWrongFalsely : Prop := fnExactMergeBlocksRow.holds Try.pinned (OpenSpec.ofChange fnExactMergeBlocksWrong)

/-- 'laws.FnMergedBlocks': WHATEVER THE INPUT: true; the input reads as it did. -/
def fnMergedBlocksSpec : ChangeSpec := { name := "fnMergedBlocks", fn := fun _ => fun
  | [d] => { results := [.lit (.bool true)], args := [d] }
  | _ => none }
def fnMergedBlocksRow : OpenClaim := { program := "ythhedpdldjmfpaa", sum := "c1093f4c6cb3f14c34d041493adcda99c5b21578c3debf0958f79dace9781687", func := "loop.example/g00916/laws.FnMergedBlocks", spec := "fnMergedBlocks", unfollowed := true, recurses := true, apart := false }
def FnMergedBlocksSaid : Prop := fnMergedBlocksRow.holds Try.pinned (OpenSpec.ofChange fnMergedBlocksSpec)

/-- ITS FALSE NEIGHBOUR: 'it returns false'. Refute it at one input. -/
def fnMergedBlocksWrong : ChangeSpec := { name := "fnMergedBlocks", fn := fun _ => fun
  | [d] => { results := [.lit (.bool false)], args := [d] }
  | _ => none }
def FnMergedBlocksWrongFalsely : Prop := fnMergedBlocksRow.holds Try.pinned (OpenSpec.ofChange fnMergedBlocksWrong)

/-- 'laws.FnBlockLookup': WHATEVER THE INPUT: true; the input reads as it did. -/
def fnBlockLookupSpec : ChangeSpec := { name := "fnBlockLookup", fn := fun _ => fun
  | [d] => { results := [.lit (.bool true)], args := [d] }
  | _ => none }
def fnBlockLookupRow : OpenClaim := { program := "ythhedpdldjmfpaa", sum := "c1093f4c6cb3f14c34d041493adcda99c5b21578c3debf0958f79dace9781687", func := "loop.example/g00916/laws.FnBlockLookup", spec := "fnBlockLookup", unfollowed := true, recurses := true, apart := false }
def FnBlockLookupSaid : Prop := fnBlockLookupRow.holds Try.pinned (OpenSpec.ofChange fnBlockLookupSpec)

/-- ITS FALSE NEIGHBOUR: 'it returns false'. Refute it at one input. -/
def fnBlockLookupWrong : ChangeSpec := { name := "fnBlockLookup", fn := fun _ => fun
  | [d] => { results := [.lit (.bool false)], args := [d] }
  | _ => none }
def FnBlockLookupWrongFalsely : Prop := fnBlockLookupRow.holds Try.pinned (OpenSpec.ofChange fnBlockLookupWrong)

/-- 'laws.FnExactEntryBounds': WHATEVER THE INPUT: true; the input reads as it did. -/
def fnExactEntryBoundsSpec : ChangeSpec := { name := "fnExactEntryBounds", fn := fun _ => fun
  | [d1, d2, d3] => { results := [.lit (.bool true)], args := [d1, d2, d3] }
  | _ => none }
def fnExactEntryBoundsRow : OpenClaim := { program := "ythhedpdldjmfpaa", sum := "c1093f4c6cb3f14c34d041493adcda99c5b21578c3debf0958f79dace9781687", func := "loop.example/g00916/laws.FnExactEntryBounds", spec := "fnExactEntryBounds", unfollowed := true, recurses := true, apart := false }
def FnExactEntryBoundsSaid : Prop := fnExactEntryBoundsRow.holds Try.pinned (OpenSpec.ofChange fnExactEntryBoundsSpec)

/-- ITS FALSE NEIGHBOUR: 'it returns false'. Refute it at one input. -/
def fnExactEntryBoundsWrong : ChangeSpec := { name := "fnExactEntryBounds", fn := fun _ => fun
  | [d1, d2, d3] => { results := [.lit (.bool false)], args := [d1, d2, d3] }
  | _ => none }
def FnExactEntryBoundsWrongFalsely : Prop := fnExactEntryBoundsRow.holds Try.pinned (OpenSpec.ofChange fnExactEntryBoundsWrong)

/-- 'laws.FnExactMayEnter': WHATEVER THE INPUT: true; the input reads as it did. -/
def fnExactMayEnterSpec : ChangeSpec := { name := "fnExactMayEnter", fn := fun _ => fun
  | [d1, d2, d3, d4] => { results := [.lit (.bool true)], args := [d1, d2, d3, d4] }
  | _ => none }
def fnExactMayEnterRow : OpenClaim := { program := "ythhedpdldjmfpaa", sum := "c1093f4c6cb3f14c34d041493adcda99c5b21578c3debf0958f79dace9781687", func := "loop.example/g00916/laws.FnExactMayEnter", spec := "fnExactMayEnter", unfollowed := true, recurses := true, apart := false }
def FnExactMayEnterSaid : Prop := fnExactMayEnterRow.holds Try.pinned (OpenSpec.ofChange fnExactMayEnterSpec)

/-- ITS FALSE NEIGHBOUR: 'it returns false'. Refute it at one input. -/
def fnExactMayEnterWrong : ChangeSpec := { name := "fnExactMayEnter", fn := fun _ => fun
  | [d1, d2, d3, d4] => { results := [.lit (.bool false)], args := [d1, d2, d3, d4] }
  | _ => none }
def FnExactMayEnterWrongFalsely : Prop := fnExactMayEnterRow.holds Try.pinned (OpenSpec.ofChange fnExactMayEnterWrong)

/-- 'laws.FnEntryBounds': WHATEVER THE INPUT: true; the input reads as it did. -/
def fnEntryBoundsSpec : ChangeSpec := { name := "fnEntryBounds", fn := fun _ => fun
  | [d] => { results := [.lit (.bool true)], args := [d] }
  | _ => none }
def fnEntryBoundsRow : OpenClaim := { program := "ythhedpdldjmfpaa", sum := "c1093f4c6cb3f14c34d041493adcda99c5b21578c3debf0958f79dace9781687", func := "loop.example/g00916/laws.FnEntryBounds", spec := "fnEntryBounds", unfollowed := true, recurses := true, apart := false }
def FnEntryBoundsSaid : Prop := fnEntryBoundsRow.holds Try.pinned (OpenSpec.ofChange fnEntryBoundsSpec)

/-- ITS FALSE NEIGHBOUR: 'it returns false'. Refute it at one input. -/
def fnEntryBoundsWrong : ChangeSpec := { name := "fnEntryBounds", fn := fun _ => fun
  | [d] => { results := [.lit (.bool false)], args := [d] }
  | _ => none }
def FnEntryBoundsWrongFalsely : Prop := fnEntryBoundsRow.holds Try.pinned (OpenSpec.ofChange fnEntryBoundsWrong)

/-- 'laws.FnExactStopBound': WHATEVER THE INPUT: true; the input reads as it did. -/
def fnExactStopBoundSpec : ChangeSpec := { name := "fnExactStopBound", fn := fun _ => fun
  | [d1, d2, d3, d4] => { results := [.lit (.bool true)], args := [d1, d2, d3, d4] }
  | _ => none }
def fnExactStopBoundRow : OpenClaim := { program := "ythhedpdldjmfpaa", sum := "c1093f4c6cb3f14c34d041493adcda99c5b21578c3debf0958f79dace9781687", func := "loop.example/g00916/laws.FnExactStopBound", spec := "fnExactStopBound", unfollowed := true, recurses := true, apart := false }
def FnExactStopBoundSaid : Prop := fnExactStopBoundRow.holds Try.pinned (OpenSpec.ofChange fnExactStopBoundSpec)

/-- ITS FALSE NEIGHBOUR: 'it returns false'. Refute it at one input. -/
def fnExactStopBoundWrong : ChangeSpec := { name := "fnExactStopBound", fn := fun _ => fun
  | [d1, d2, d3, d4] => { results := [.lit (.bool false)], args := [d1, d2, d3, d4] }
  | _ => none }
def FnExactStopBoundWrongFalsely : Prop := fnExactStopBoundRow.holds Try.pinned (OpenSpec.ofChange fnExactStopBoundWrong)

/-- 'laws.FnExactOccupiedBlocks': WHATEVER THE INPUT: true; the input reads as it did. -/
def fnExactOccupiedBlocksSpec : ChangeSpec := { name := "fnExactOccupiedBlocks", fn := fun _ => fun
  | [d1, d2, d3, d4] => { results := [.lit (.bool true)], args := [d1, d2, d3, d4] }
  | _ => none }
def fnExactOccupiedBlocksRow : OpenClaim := { program := "ythhedpdldjmfpaa", sum := "c1093f4c6cb3f14c34d041493adcda99c5b21578c3debf0958f79dace9781687", func := "loop.example/g00916/laws.FnExactOccupiedBlocks", spec := "fnExactOccupiedBlocks", unfollowed := true, recurses := true, apart := false }
def FnExactOccupiedBlocksSaid : Prop := fnExactOccupiedBlocksRow.holds Try.pinned (OpenSpec.ofChange fnExactOccupiedBlocksSpec)

/-- ITS FALSE NEIGHBOUR: 'it returns false'. Refute it at one input. -/
def fnExactOccupiedBlocksWrong : ChangeSpec := { name := "fnExactOccupiedBlocks", fn := fun _ => fun
  | [d1, d2, d3, d4] => { results := [.lit (.bool false)], args := [d1, d2, d3, d4] }
  | _ => none }
def FnExactOccupiedBlocksWrongFalsely : Prop := fnExactOccupiedBlocksRow.holds Try.pinned (OpenSpec.ofChange fnExactOccupiedBlocksWrong)

/-- 'laws.FnExactBlockLoads': WHATEVER THE INPUT: true; the input reads as it did. -/
def fnExactBlockLoadsSpec : ChangeSpec := { name := "fnExactBlockLoads", fn := fun _ => fun
  | [d1, d2, d3, d4] => { results := [.lit (.bool true)], args := [d1, d2, d3, d4] }
  | _ => none }
def fnExactBlockLoadsRow : OpenClaim := { program := "ythhedpdldjmfpaa", sum := "c1093f4c6cb3f14c34d041493adcda99c5b21578c3debf0958f79dace9781687", func := "loop.example/g00916/laws.FnExactBlockLoads", spec := "fnExactBlockLoads", unfollowed := true, recurses := true, apart := false }
def FnExactBlockLoadsSaid : Prop := fnExactBlockLoadsRow.holds Try.pinned (OpenSpec.ofChange fnExactBlockLoadsSpec)

/-- ITS FALSE NEIGHBOUR: 'it returns false'. Refute it at one input. -/
def fnExactBlockLoadsWrong : ChangeSpec := { name := "fnExactBlockLoads", fn := fun _ => fun
  | [d1, d2, d3, d4] => { results := [.lit (.bool false)], args := [d1, d2, d3, d4] }
  | _ => none }
def FnExactBlockLoadsWrongFalsely : Prop := fnExactBlockLoadsRow.holds Try.pinned (OpenSpec.ofChange fnExactBlockLoadsWrong)

/-- 'laws.FnOccupied': WHATEVER THE INPUT: true; the input reads as it did. -/
def fnOccupiedSpec : ChangeSpec := { name := "fnOccupied", fn := fun _ => fun
  | [d] => { results := [.lit (.bool true)], args := [d] }
  | _ => none }
def fnOccupiedRow : OpenClaim := { program := "ythhedpdldjmfpaa", sum := "c1093f4c6cb3f14c34d041493adcda99c5b21578c3debf0958f79dace9781687", func := "loop.example/g00916/laws.FnOccupied", spec := "fnOccupied", unfollowed := true, recurses := true, apart := false }
def FnOccupiedSaid : Prop := fnOccupiedRow.holds Try.pinned (OpenSpec.ofChange fnOccupiedSpec)

/-- ITS FALSE NEIGHBOUR: 'it returns false'. Refute it at one input. -/
def fnOccupiedWrong : ChangeSpec := { name := "fnOccupied", fn := fun _ => fun
  | [d] => { results := [.lit (.bool false)], args := [d] }
  | _ => none }
def FnOccupiedWrongFalsely : Prop := fnOccupiedRow.holds Try.pinned (OpenSpec.ofChange fnOccupiedWrong)

/- THE SECOND FORM. 'bulk': how many values and letters a reading holds, each counted each time it is reached (what is shared counts as often as it is met; a slice's spare places count too). A statement '..UptoSaid' is the law's where the arguments, and the package variables that the reading takes, are together of bulk at most 1048576: NARROWER than '..Said'. Prove '..Said' where nothing that the law and all that it calls make is longer than what came in: it says more and counts as full. Else prove '..UptoSaid'. A law counts once. -/
mutual
def uptoBulk {H : Type} : DataW H → Nat
  | .lit (.string bytes) => bytes.length + 1
  | .lit _ => 1
  | .nil => 1
  | .ptr d => uptoBulk d + 1
  | .slice elems spare => uptoBulkAll elems + uptoBulkAll spare + 1
  | .agg parts => uptoBulkAll parts + 1
  | .iface _ d => uptoBulk d + 1
  | .map entries => uptoBulkEntries entries + 1
  | .held _ => 1
def uptoBulkAll {H : Type} : List (DataW H) → Nat
  | [] => 0
  | d :: r => uptoBulk d + uptoBulkAll r
def uptoBulkEntries {H : Type} : List (Lit × DataW H) → Nat
  | [] => 0
  | x :: r => uptoBulkEntry x + uptoBulkEntries r
def uptoBulkEntry {H : Type} : Lit × DataW H → Nat
  | (.string bytes, d) => bytes.length + uptoBulk d + 1
  | (_, d) => uptoBulk d + 1
 end
def uptoSmall : (H : Type) → List (DataW H) → Bool := fun _ ds => decide (uptoBulkAll ds ≤ 1048576)
def OpenSpec.upto (s : _root_.Go.ChangeSpec) : _root_.Go.OpenSpec := { _root_.Go.OpenSpec.ofChange s with cond := some uptoSmall }

/-- 'laws.FnExactHolds', WHERE WHAT IT READS IS OF BULK AT MOST 1048576: true; the input reads as it did. -/
def fnExactHoldsUptoRow : OpenClaim := { program := "ythhedpdldjmfpaa", sum := "c1093f4c6cb3f14c34d041493adcda99c5b21578c3debf0958f79dace9781687", func := "loop.example/g00916/laws.FnExactHolds", spec := "fnExactHolds", apart := false, narrowed := true }
def FnExactHoldsUptoSaid : Prop := fnExactHoldsUptoRow.holds Try.pinned (OpenSpec.upto fnExactHoldsSpec)

/-- 'laws.FnExactAreBlocks', WHERE WHAT IT READS IS OF BULK AT MOST 1048576: true; the input reads as it did. -/
def fnExactAreBlocksUptoRow : OpenClaim := { program := "ythhedpdldjmfpaa", sum := "c1093f4c6cb3f14c34d041493adcda99c5b21578c3debf0958f79dace9781687", func := "loop.example/g00916/laws.FnExactAreBlocks", spec := "fnExactAreBlocks", unfollowed := true, recurses := true, apart := false, narrowed := true }
def FnExactAreBlocksUptoSaid : Prop := fnExactAreBlocksUptoRow.holds Try.pinned (OpenSpec.upto fnExactAreBlocksSpec)

/-- 'laws.FnExactDefaultBlocks', WHERE WHAT IT READS IS OF BULK AT MOST 1048576: true; the input reads as it did. -/
def fnExactDefaultBlocksUptoRow : OpenClaim := { program := "ythhedpdldjmfpaa", sum := "c1093f4c6cb3f14c34d041493adcda99c5b21578c3debf0958f79dace9781687", func := "loop.example/g00916/laws.FnExactDefaultBlocks", spec := "fnExactDefaultBlocks", apart := false, narrowed := true }
def FnExactDefaultBlocksUptoSaid : Prop := fnExactDefaultBlocksUptoRow.holds Try.pinned (OpenSpec.upto fnExactDefaultBlocksSpec)

/-- 'laws.FnExactHoldingSegment', WHERE WHAT IT READS IS OF BULK AT MOST 1048576: true; the input reads as it did. -/
def fnExactHoldingSegmentUptoRow : OpenClaim := { program := "ythhedpdldjmfpaa", sum := "c1093f4c6cb3f14c34d041493adcda99c5b21578c3debf0958f79dace9781687", func := "loop.example/g00916/laws.FnExactHoldingSegment", spec := "fnExactHoldingSegment", unfollowed := true, recurses := true, apart := false, narrowed := true }
def FnExactHoldingSegmentUptoSaid : Prop := fnExactHoldingSegmentUptoRow.holds Try.pinned (OpenSpec.upto fnExactHoldingSegmentSpec)

/-- 'laws.FnBlocks', WHERE WHAT IT READS IS OF BULK AT MOST 1048576: true; the input reads as it did. -/
def fnBlocksUptoRow : OpenClaim := { program := "ythhedpdldjmfpaa", sum := "c1093f4c6cb3f14c34d041493adcda99c5b21578c3debf0958f79dace9781687", func := "loop.example/g00916/laws.FnBlocks", spec := "fnBlocks", unfollowed := true, recurses := true, apart := false, narrowed := true }
def FnBlocksUptoSaid : Prop := fnBlocksUptoRow.holds Try.pinned (OpenSpec.upto fnBlocksSpec)

/-- 'laws.FnExactBlockOfSegment', WHERE WHAT IT READS IS OF BULK AT MOST 1048576: true; the input reads as it did. -/
def fnExactBlockOfSegmentUptoRow : OpenClaim := { program := "ythhedpdldjmfpaa", sum := "c1093f4c6cb3f14c34d041493adcda99c5b21578c3debf0958f79dace9781687", func := "loop.example/g00916/laws.FnExactBlockOfSegment", spec := "fnExactBlockOfSegment", unfollowed := true, recurses := true, apart := false, narrowed := true }
def FnExactBlockOfSegmentUptoSaid : Prop := fnExactBlockOfSegmentUptoRow.holds Try.pinned (OpenSpec.upto fnExactBlockOfSegmentSpec)

/-- 'laws.FnExactBlockStart', WHERE WHAT IT READS IS OF BULK AT MOST 1048576: true; the input reads as it did. -/
def fnExactBlockStartUptoRow : OpenClaim := { program := "ythhedpdldjmfpaa", sum := "c1093f4c6cb3f14c34d041493adcda99c5b21578c3debf0958f79dace9781687", func := "loop.example/g00916/laws.FnExactBlockStart", spec := "fnExactBlockStart", unfollowed := true, recurses := true, apart := false, narrowed := true }
def FnExactBlockStartUptoSaid : Prop := fnExactBlockStartUptoRow.holds Try.pinned (OpenSpec.upto fnExactBlockStartSpec)

/-- 'laws.FnExactBlockLength', WHERE WHAT IT READS IS OF BULK AT MOST 1048576: true; the input reads as it did. -/
def fnExactBlockLengthUptoRow : OpenClaim := { program := "ythhedpdldjmfpaa", sum := "c1093f4c6cb3f14c34d041493adcda99c5b21578c3debf0958f79dace9781687", func := "loop.example/g00916/laws.FnExactBlockLength", spec := "fnExactBlockLength", unfollowed := true, recurses := true, apart := false, narrowed := true }
def FnExactBlockLengthUptoSaid : Prop := fnExactBlockLengthUptoRow.holds Try.pinned (OpenSpec.upto fnExactBlockLengthSpec)

/-- 'laws.FnExactBlockAt', WHERE WHAT IT READS IS OF BULK AT MOST 1048576: true; the input reads as it did. -/
def fnExactBlockAtUptoRow : OpenClaim := { program := "ythhedpdldjmfpaa", sum := "c1093f4c6cb3f14c34d041493adcda99c5b21578c3debf0958f79dace9781687", func := "loop.example/g00916/laws.FnExactBlockAt", spec := "fnExactBlockAt", unfollowed := true, recurses := true, apart := false, narrowed := true }
def FnExactBlockAtUptoSaid : Prop := fnExactBlockAtUptoRow.holds Try.pinned (OpenSpec.upto fnExactBlockAtSpec)

/-- 'laws.FnExactMergeBlocks', WHERE WHAT IT READS IS OF BULK AT MOST 1048576: true; the input reads as it did. -/
def fnExactMergeBlocksUptoRow : OpenClaim := { program := "ythhedpdldjmfpaa", sum := "c1093f4c6cb3f14c34d041493adcda99c5b21578c3debf0958f79dace9781687", func := "loop.example/g00916/laws.FnExactMergeBlocks", spec := "fnExactMergeBlocks", unfollowed := true, recurses := true, apart := false, narrowed := true }
def FnExactMergeBlocksUptoSaid : Prop := fnExactMergeBlocksUptoRow.holds Try.pinned (OpenSpec.upto fnExactMergeBlocksSpec)

/-- 'laws.FnMergedBlocks', WHERE WHAT IT READS IS OF BULK AT MOST 1048576: true; the input reads as it did. -/
def fnMergedBlocksUptoRow : OpenClaim := { program := "ythhedpdldjmfpaa", sum := "c1093f4c6cb3f14c34d041493adcda99c5b21578c3debf0958f79dace9781687", func := "loop.example/g00916/laws.FnMergedBlocks", spec := "fnMergedBlocks", unfollowed := true, recurses := true, apart := false, narrowed := true }
def FnMergedBlocksUptoSaid : Prop := fnMergedBlocksUptoRow.holds Try.pinned (OpenSpec.upto fnMergedBlocksSpec)

/-- 'laws.FnBlockLookup', WHERE WHAT IT READS IS OF BULK AT MOST 1048576: true; the input reads as it did. -/
def fnBlockLookupUptoRow : OpenClaim := { program := "ythhedpdldjmfpaa", sum := "c1093f4c6cb3f14c34d041493adcda99c5b21578c3debf0958f79dace9781687", func := "loop.example/g00916/laws.FnBlockLookup", spec := "fnBlockLookup", unfollowed := true, recurses := true, apart := false, narrowed := true }
def FnBlockLookupUptoSaid : Prop := fnBlockLookupUptoRow.holds Try.pinned (OpenSpec.upto fnBlockLookupSpec)

/-- 'laws.FnExactEntryBounds', WHERE WHAT IT READS IS OF BULK AT MOST 1048576: true; the input reads as it did. -/
def fnExactEntryBoundsUptoRow : OpenClaim := { program := "ythhedpdldjmfpaa", sum := "c1093f4c6cb3f14c34d041493adcda99c5b21578c3debf0958f79dace9781687", func := "loop.example/g00916/laws.FnExactEntryBounds", spec := "fnExactEntryBounds", unfollowed := true, recurses := true, apart := false, narrowed := true }
def FnExactEntryBoundsUptoSaid : Prop := fnExactEntryBoundsUptoRow.holds Try.pinned (OpenSpec.upto fnExactEntryBoundsSpec)

/-- 'laws.FnExactMayEnter', WHERE WHAT IT READS IS OF BULK AT MOST 1048576: true; the input reads as it did. -/
def fnExactMayEnterUptoRow : OpenClaim := { program := "ythhedpdldjmfpaa", sum := "c1093f4c6cb3f14c34d041493adcda99c5b21578c3debf0958f79dace9781687", func := "loop.example/g00916/laws.FnExactMayEnter", spec := "fnExactMayEnter", unfollowed := true, recurses := true, apart := false, narrowed := true }
def FnExactMayEnterUptoSaid : Prop := fnExactMayEnterUptoRow.holds Try.pinned (OpenSpec.upto fnExactMayEnterSpec)

/-- 'laws.FnEntryBounds', WHERE WHAT IT READS IS OF BULK AT MOST 1048576: true; the input reads as it did. -/
def fnEntryBoundsUptoRow : OpenClaim := { program := "ythhedpdldjmfpaa", sum := "c1093f4c6cb3f14c34d041493adcda99c5b21578c3debf0958f79dace9781687", func := "loop.example/g00916/laws.FnEntryBounds", spec := "fnEntryBounds", unfollowed := true, recurses := true, apart := false, narrowed := true }
def FnEntryBoundsUptoSaid : Prop := fnEntryBoundsUptoRow.holds Try.pinned (OpenSpec.upto fnEntryBoundsSpec)

/-- 'laws.FnExactStopBound', WHERE WHAT IT READS IS OF BULK AT MOST 1048576: true; the input reads as it did. -/
def fnExactStopBoundUptoRow : OpenClaim := { program := "ythhedpdldjmfpaa", sum := "c1093f4c6cb3f14c34d041493adcda99c5b21578c3debf0958f79dace9781687", func := "loop.example/g00916/laws.FnExactStopBound", spec := "fnExactStopBound", unfollowed := true, recurses := true, apart := false, narrowed := true }
def FnExactStopBoundUptoSaid : Prop := fnExactStopBoundUptoRow.holds Try.pinned (OpenSpec.upto fnExactStopBoundSpec)

/-- 'laws.FnExactOccupiedBlocks', WHERE WHAT IT READS IS OF BULK AT MOST 1048576: true; the input reads as it did. -/
def fnExactOccupiedBlocksUptoRow : OpenClaim := { program := "ythhedpdldjmfpaa", sum := "c1093f4c6cb3f14c34d041493adcda99c5b21578c3debf0958f79dace9781687", func := "loop.example/g00916/laws.FnExactOccupiedBlocks", spec := "fnExactOccupiedBlocks", unfollowed := true, recurses := true, apart := false, narrowed := true }
def FnExactOccupiedBlocksUptoSaid : Prop := fnExactOccupiedBlocksUptoRow.holds Try.pinned (OpenSpec.upto fnExactOccupiedBlocksSpec)

/-- 'laws.FnExactBlockLoads', WHERE WHAT IT READS IS OF BULK AT MOST 1048576: true; the input reads as it did. -/
def fnExactBlockLoadsUptoRow : OpenClaim := { program := "ythhedpdldjmfpaa", sum := "c1093f4c6cb3f14c34d041493adcda99c5b21578c3debf0958f79dace9781687", func := "loop.example/g00916/laws.FnExactBlockLoads", spec := "fnExactBlockLoads", unfollowed := true, recurses := true, apart := false, narrowed := true }
def FnExactBlockLoadsUptoSaid : Prop := fnExactBlockLoadsUptoRow.holds Try.pinned (OpenSpec.upto fnExactBlockLoadsSpec)

/-- 'laws.FnOccupied', WHERE WHAT IT READS IS OF BULK AT MOST 1048576: true; the input reads as it did. -/
def fnOccupiedUptoRow : OpenClaim := { program := "ythhedpdldjmfpaa", sum := "c1093f4c6cb3f14c34d041493adcda99c5b21578c3debf0958f79dace9781687", func := "loop.example/g00916/laws.FnOccupied", spec := "fnOccupied", unfollowed := true, recurses := true, apart := false, narrowed := true }
def FnOccupiedUptoSaid : Prop := fnOccupiedUptoRow.holds Try.pinned (OpenSpec.upto fnOccupiedSpec)

end Rows
end Go.Proofs.Ythhedpdldjmfpaa
