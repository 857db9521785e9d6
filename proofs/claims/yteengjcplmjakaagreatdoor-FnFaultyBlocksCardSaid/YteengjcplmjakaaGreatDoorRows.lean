/-
  NARROWER THAN 'FOR EVERY INPUT', by the rows' own cells (each row's printed sentence says how): FnTimes: laid · FnFaultyBlocks: laid · FnReactions: laid.
  DERIVED. THE GIVEN ROWS OF THIS SEAT. 3 by the template 'for every input the law returns true; each argument reads behind the call as it read before'; 0 by the template 'total and deterministic' (their statements: YteengjcplmjakaaGreatDoorTotals.lean).
  GIVEN WITH THE SEED: the statements are not yours to turn. If you find one false, say at which input.
  Laid BY PROGRAM, IN A SANDBOX (cutbox-rows.mjs): the forced cells as the released guide's own fill.sh prints them over the translation 18cc562fca857deb… (all of the seat's roots in one cut). By AI agents, Wed Nov 11 2026. No macro, syntax, notation, axiom, sorry.
-/
import Derived.Test.YteengjcplmjakaaGreatDoorChecked
import GoSem.Claim
import GoSem.ClaimJoined
import GoSem.ClaimMapViews
import Derived.JoinedTies
import Derived.KernelRfl
namespace Go.Proofs.YteengjcplmjakaaGreatDoor
/- THE CELL 'sum', in the pinned program and in every row, IS THE sha256 OF THE DUMP (.gsa) THAT YteengjcplmjakaaGreatDoorProg.lean LOADS. Nothing in Lean hashes anything: it is a label: what it is worth is what the hold of that sum in a sandbox is worth. -/
noncomputable def Tryz.pinned : Pinned := { name := "yteengjcplmjakaagreatdoor", sum := "18cc562fca857deb1b8e96dcb3e4a966dcea829c83925097a27c567e4e5526a6", checked := Tryz.checked }
namespace Rows
def none {H : Type} : Left H := { results := [], args := [] }

/- WHAT THE LISTED PACKAGE-LEVEL VARIABLES READ AS WHEN THE CALL BEGINS. Each datum BY PROGRAM (the guide's laid-datum.mjs) off the statement by which the dump's own 'gosem.cut.vars' lays the variable. In a bare row this is a premise. The card (YteengjcplmjakaaGreatDoorCards.lean) ties it to the program's text. -/
def laid_loop_example_g00916_impl_keywords {H : Type} : DataW H := .agg [.lit (.string [112, 114, 111, 103, 114, 97, 109]), .lit (.string [105, 110]), .lit (.string [118, 97, 114]), .lit (.string [111, 117, 116]), .lit (.string [103, 117, 97, 114, 100]), .lit (.string [101, 110, 100]), .lit (.string [97, 110, 100]), .lit (.string [111, 114]), .lit (.string [110, 111, 116]), .lit (.string [116, 114, 117, 101]), .lit (.string [102, 97, 108, 115, 101]), .lit (.string [111, 110]), .lit (.string [111, 102, 102]), .lit (.string [114, 105, 115, 101]), .lit (.string [108, 97, 116, 99, 104]), .lit (.string [99, 111, 117, 110, 116]), .lit (.string [112, 97, 105, 114])]

/-- 'laws.FnTimes': WHATEVER THE INPUT: true; the input reads as it did. -/
def fnTimesSpec : ChangeSpec := { name := "fnTimes", vars := ["loop.example/g00916/impl.keywords"], fn := fun _ => fun
  | [d, g1] => { results := [.lit (.bool true)], args := [d], vars := [g1] }
  | _ => none }
def fnTimesRow : OpenClaim := { program := "yteengjcplmjakaagreatdoor", sum := "18cc562fca857deb1b8e96dcb3e4a966dcea829c83925097a27c567e4e5526a6", func := "loop.example/g00916/laws.FnTimes", spec := "fnTimes", inPlace := ["internal/bytealg.IndexByteString", "slices.overlaps[loop.example/g00916/impl.Instruction]"], unfollowed := true, recurses := true, named := ["loop.example/g00916/impl.keywords"], apart := false, laid := [("loop.example/g00916/impl.keywords", laid_loop_example_g00916_impl_keywords)] }
def FnTimesSaid : Prop := fnTimesRow.holds Tryz.pinned (OpenSpec.ofChange fnTimesSpec)

/-- ITS FALSE NEIGHBOUR: 'it returns false'. Refute it at one input. -/
def fnTimesWrong : ChangeSpec := { name := "fnTimes", vars := ["loop.example/g00916/impl.keywords"], fn := fun _ => fun
  | [d, g1] => { results := [.lit (.bool false)], args := [d], vars := [g1] }
  | _ => none }
def FnTimesWrongFalsely : Prop := fnTimesRow.holds Tryz.pinned (OpenSpec.ofChange fnTimesWrong)

/-- 'laws.FnFaultyBlocks': WHATEVER THE INPUT: true; the input reads as it did. -/
def fnFaultyBlocksSpec : ChangeSpec := { name := "fnFaultyBlocks", vars := ["loop.example/g00916/impl.keywords"], fn := fun _ => fun
  | [d, g1] => { results := [.lit (.bool true)], args := [d], vars := [g1] }
  | _ => none }
def fnFaultyBlocksRow : OpenClaim := { program := "yteengjcplmjakaagreatdoor", sum := "18cc562fca857deb1b8e96dcb3e4a966dcea829c83925097a27c567e4e5526a6", func := "loop.example/g00916/laws.FnFaultyBlocks", spec := "fnFaultyBlocks", inPlace := ["internal/bytealg.IndexByteString"], unfollowed := true, recurses := true, named := ["loop.example/g00916/impl.keywords"], apart := false, laid := [("loop.example/g00916/impl.keywords", laid_loop_example_g00916_impl_keywords)] }
def FnFaultyBlocksSaid : Prop := fnFaultyBlocksRow.holds Tryz.pinned (OpenSpec.ofChange fnFaultyBlocksSpec)

/-- ITS FALSE NEIGHBOUR: 'it returns false'. Refute it at one input. -/
def fnFaultyBlocksWrong : ChangeSpec := { name := "fnFaultyBlocks", vars := ["loop.example/g00916/impl.keywords"], fn := fun _ => fun
  | [d, g1] => { results := [.lit (.bool false)], args := [d], vars := [g1] }
  | _ => none }
def FnFaultyBlocksWrongFalsely : Prop := fnFaultyBlocksRow.holds Tryz.pinned (OpenSpec.ofChange fnFaultyBlocksWrong)

/-- 'laws.FnReactions': WHATEVER THE INPUT: true; the input reads as it did. -/
def fnReactionsSpec : ChangeSpec := { name := "fnReactions", vars := ["loop.example/g00916/impl.keywords"], fn := fun _ => fun
  | [d, g1] => { results := [.lit (.bool true)], args := [d], vars := [g1] }
  | _ => none }
def fnReactionsRow : OpenClaim := { program := "yteengjcplmjakaagreatdoor", sum := "18cc562fca857deb1b8e96dcb3e4a966dcea829c83925097a27c567e4e5526a6", func := "loop.example/g00916/laws.FnReactions", spec := "fnReactions", inPlace := ["internal/bytealg.IndexByteString"], unfollowed := true, recurses := true, named := ["loop.example/g00916/impl.keywords"], apart := false, laid := [("loop.example/g00916/impl.keywords", laid_loop_example_g00916_impl_keywords)] }
def FnReactionsSaid : Prop := fnReactionsRow.holds Tryz.pinned (OpenSpec.ofChange fnReactionsSpec)

/-- ITS FALSE NEIGHBOUR: 'it returns false'. Refute it at one input. -/
def fnReactionsWrong : ChangeSpec := { name := "fnReactions", vars := ["loop.example/g00916/impl.keywords"], fn := fun _ => fun
  | [d, g1] => { results := [.lit (.bool false)], args := [d], vars := [g1] }
  | _ => none }
def FnReactionsWrongFalsely : Prop := fnReactionsRow.holds Tryz.pinned (OpenSpec.ofChange fnReactionsWrong)

/- THE SECOND FORM. 'bulk': how many values and letters a reading holds, each counted each time it is reached (what is shared counts as often as it is met; a slice's spare places count too). A statement '..UptoSaid' is the law's where the arguments, and the package variables that the reading takes, are together of bulk at most 1048576: NARROWER than '..Said'. Prove '..Said' where nothing that the law and all that it calls make is longer than what came in: it says more and counts as full. Else prove '..UptoSaid'. A law counts once. -/
mutual
def uptoBulk {H : Type} : DataW H → Nat
  | .lit (.string bytes) => bytes.length + 1
  | .lit _ => 1
  | .nil => 1
  | .ptr d => uptoBulk d + 1
  | .slice elems spare => uptoBulkAll elems + uptoBulkAll spare + 1
  | .agg parts => uptoBulkAll parts + 1
  | .iface _ d => uptoBulk d + 1
  | .map entries => uptoBulkEntries entries + 1
  | .held _ => 1
def uptoBulkAll {H : Type} : List (DataW H) → Nat
  | [] => 0
  | d :: r => uptoBulk d + uptoBulkAll r
def uptoBulkEntries {H : Type} : List (Lit × DataW H) → Nat
  | [] => 0
  | x :: r => uptoBulkEntry x + uptoBulkEntries r
def uptoBulkEntry {H : Type} : Lit × DataW H → Nat
  | (.string bytes, d) => bytes.length + uptoBulk d + 1
  | (_, d) => uptoBulk d + 1
 end
def uptoSmall : (H : Type) → List (DataW H) → Bool := fun _ ds => decide (uptoBulkAll ds ≤ 1048576)
def OpenSpec.upto (s : _root_.Go.ChangeSpec) : _root_.Go.OpenSpec := { _root_.Go.OpenSpec.ofChange s with cond := some uptoSmall }

/-- 'laws.FnTimes', WHERE WHAT IT READS IS OF BULK AT MOST 1048576: true; the input reads as it did. -/
def fnTimesUptoRow : OpenClaim := { program := "yteengjcplmjakaagreatdoor", sum := "18cc562fca857deb1b8e96dcb3e4a966dcea829c83925097a27c567e4e5526a6", func := "loop.example/g00916/laws.FnTimes", spec := "fnTimes", inPlace := ["internal/bytealg.IndexByteString", "slices.overlaps[loop.example/g00916/impl.Instruction]"], unfollowed := true, recurses := true, named := ["loop.example/g00916/impl.keywords"], apart := false, laid := [("loop.example/g00916/impl.keywords", laid_loop_example_g00916_impl_keywords)], narrowed := true }
def FnTimesUptoSaid : Prop := fnTimesUptoRow.holds Tryz.pinned (OpenSpec.upto fnTimesSpec)

/-- 'laws.FnFaultyBlocks', WHERE WHAT IT READS IS OF BULK AT MOST 1048576: true; the input reads as it did. -/
def fnFaultyBlocksUptoRow : OpenClaim := { program := "yteengjcplmjakaagreatdoor", sum := "18cc562fca857deb1b8e96dcb3e4a966dcea829c83925097a27c567e4e5526a6", func := "loop.example/g00916/laws.FnFaultyBlocks", spec := "fnFaultyBlocks", inPlace := ["internal/bytealg.IndexByteString"], unfollowed := true, recurses := true, named := ["loop.example/g00916/impl.keywords"], apart := false, laid := [("loop.example/g00916/impl.keywords", laid_loop_example_g00916_impl_keywords)], narrowed := true }
def FnFaultyBlocksUptoSaid : Prop := fnFaultyBlocksUptoRow.holds Tryz.pinned (OpenSpec.upto fnFaultyBlocksSpec)

/-- 'laws.FnReactions', WHERE WHAT IT READS IS OF BULK AT MOST 1048576: true; the input reads as it did. -/
def fnReactionsUptoRow : OpenClaim := { program := "yteengjcplmjakaagreatdoor", sum := "18cc562fca857deb1b8e96dcb3e4a966dcea829c83925097a27c567e4e5526a6", func := "loop.example/g00916/laws.FnReactions", spec := "fnReactions", inPlace := ["internal/bytealg.IndexByteString"], unfollowed := true, recurses := true, named := ["loop.example/g00916/impl.keywords"], apart := false, laid := [("loop.example/g00916/impl.keywords", laid_loop_example_g00916_impl_keywords)], narrowed := true }
def FnReactionsUptoSaid : Prop := fnReactionsUptoRow.holds Tryz.pinned (OpenSpec.upto fnReactionsSpec)

end Rows
end Go.Proofs.YteengjcplmjakaaGreatDoor
