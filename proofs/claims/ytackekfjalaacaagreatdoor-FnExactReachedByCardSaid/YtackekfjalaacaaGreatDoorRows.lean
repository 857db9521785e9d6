/-
  NARROWER THAN 'FOR EVERY INPUT', by the rows' own cells (each row's printed sentence says how): FnExactReachedBy: laid · FnExactReactionTime: laid · FnReactions: laid.
  DERIVED. THE GIVEN ROWS OF THIS SEAT. 3 by the template 'for every input the law returns true; each argument reads behind the call as it read before'; 0 by the template 'total and deterministic' (their statements: YtackekfjalaacaaGreatDoorTotals.lean).
  GIVEN WITH THE SEED: the statements are not yours to turn. If you find one false, say at which input.
  Laid BY PROGRAM, IN A SANDBOX (cutbox-rows.mjs): the forced cells as the released guide's own fill.sh prints them over the translation fb621a2d709471e2… (all of the seat's roots in one cut). By AI agents, Wed Nov 11 2026. No macro, syntax, notation, axiom, sorry.
-/
import Derived.Test.YtackekfjalaacaaGreatDoorChecked
import GoSem.Claim
import GoSem.ClaimJoined
import GoSem.ClaimMapViews
import Derived.JoinedTies
import Derived.KernelRfl
namespace Go.Proofs.YtackekfjalaacaaGreatDoor
/- THE CELL 'sum', in the pinned program and in every row, IS THE sha256 OF THE DUMP (.gsa) THAT YtackekfjalaacaaGreatDoorProg.lean LOADS. Nothing in Lean hashes anything: it is a label: what it is worth is what the hold of that sum in a sandbox is worth. -/
noncomputable def Tryz.pinned : Pinned := { name := "ytackekfjalaacaagreatdoor", sum := "fb621a2d709471e211272c94f53175d9679edde1e9e607d76b25a0c62241a4fb", checked := Tryz.checked }
namespace Rows
def none {H : Type} : Left H := { results := [], args := [] }

/- WHAT THE LISTED PACKAGE-LEVEL VARIABLES READ AS WHEN THE CALL BEGINS. Each datum BY PROGRAM (the guide's laid-datum.mjs) off the statement by which the dump's own 'gosem.cut.vars' lays the variable. In a bare row this is a premise. The card (YtackekfjalaacaaGreatDoorCards.lean) ties it to the program's text. -/
def laid_loop_example_g00916_impl_keywords {H : Type} : DataW H := .agg [.lit (.string [112, 114, 111, 103, 114, 97, 109]), .lit (.string [105, 110]), .lit (.string [118, 97, 114]), .lit (.string [111, 117, 116]), .lit (.string [103, 117, 97, 114, 100]), .lit (.string [101, 110, 100]), .lit (.string [97, 110, 100]), .lit (.string [111, 114]), .lit (.string [110, 111, 116]), .lit (.string [116, 114, 117, 101]), .lit (.string [102, 97, 108, 115, 101]), .lit (.string [111, 110]), .lit (.string [111, 102, 102]), .lit (.string [114, 105, 115, 101]), .lit (.string [108, 97, 116, 99, 104]), .lit (.string [99, 111, 117, 110, 116]), .lit (.string [112, 97, 105, 114])]

/-- 'laws.FnExactReachedBy': WHATEVER THE INPUT: true; the input reads as it did. -/
def fnExactReachedBySpec : ChangeSpec := { name := "fnExactReachedBy", vars := ["loop.example/g00916/impl.keywords"], fn := fun _ => fun
  | [d1, d2, g1] => { results := [.lit (.bool true)], args := [d1, d2], vars := [g1] }
  | _ => none }
def fnExactReachedByRow : OpenClaim := { program := "ytackekfjalaacaagreatdoor", sum := "fb621a2d709471e211272c94f53175d9679edde1e9e607d76b25a0c62241a4fb", func := "loop.example/g00916/laws.FnExactReachedBy", spec := "fnExactReachedBy", inPlace := ["internal/bytealg.IndexByteString"], unfollowed := true, recurses := true, named := ["loop.example/g00916/impl.keywords"], apart := false, laid := [("loop.example/g00916/impl.keywords", laid_loop_example_g00916_impl_keywords)] }
def FnExactReachedBySaid : Prop := fnExactReachedByRow.holds Tryz.pinned (OpenSpec.ofChange fnExactReachedBySpec)

/-- ITS FALSE NEIGHBOUR: 'it returns false'. Refute it at one input. -/
def fnExactReachedByWrong : ChangeSpec := { name := "fnExactReachedBy", vars := ["loop.example/g00916/impl.keywords"], fn := fun _ => fun
  | [d1, d2, g1] => { results := [.lit (.bool false)], args := [d1, d2], vars := [g1] }
  | _ => none }
def FnExactReachedByWrongFalsely : Prop := fnExactReachedByRow.holds Tryz.pinned (OpenSpec.ofChange fnExactReachedByWrong)

/-- 'laws.FnExactReactionTime': WHATEVER THE INPUT: true; the input reads as it did. -/
def fnExactReactionTimeSpec : ChangeSpec := { name := "fnExactReactionTime", vars := ["loop.example/g00916/impl.keywords"], fn := fun _ => fun
  | [d1, d2, d3, d4, g1] => { results := [.lit (.bool true)], args := [d1, d2, d3, d4], vars := [g1] }
  | _ => none }
def fnExactReactionTimeRow : OpenClaim := { program := "ytackekfjalaacaagreatdoor", sum := "fb621a2d709471e211272c94f53175d9679edde1e9e607d76b25a0c62241a4fb", func := "loop.example/g00916/laws.FnExactReactionTime", spec := "fnExactReactionTime", inPlace := ["internal/bytealg.IndexByteString"], unfollowed := true, recurses := true, named := ["loop.example/g00916/impl.keywords"], apart := false, laid := [("loop.example/g00916/impl.keywords", laid_loop_example_g00916_impl_keywords)] }
def FnExactReactionTimeSaid : Prop := fnExactReactionTimeRow.holds Tryz.pinned (OpenSpec.ofChange fnExactReactionTimeSpec)

/-- ITS FALSE NEIGHBOUR: 'it returns false'. Refute it at one input. -/
def fnExactReactionTimeWrong : ChangeSpec := { name := "fnExactReactionTime", vars := ["loop.example/g00916/impl.keywords"], fn := fun _ => fun
  | [d1, d2, d3, d4, g1] => { results := [.lit (.bool false)], args := [d1, d2, d3, d4], vars := [g1] }
  | _ => none }
def FnExactReactionTimeWrongFalsely : Prop := fnExactReactionTimeRow.holds Tryz.pinned (OpenSpec.ofChange fnExactReactionTimeWrong)

/-- 'laws.FnReactions': WHATEVER THE INPUT: true; the input reads as it did. -/
def fnReactionsSpec : ChangeSpec := { name := "fnReactions", vars := ["loop.example/g00916/impl.keywords"], fn := fun _ => fun
  | [d, g1] => { results := [.lit (.bool true)], args := [d], vars := [g1] }
  | _ => none }
def fnReactionsRow : OpenClaim := { program := "ytackekfjalaacaagreatdoor", sum := "fb621a2d709471e211272c94f53175d9679edde1e9e607d76b25a0c62241a4fb", func := "loop.example/g00916/laws.FnReactions", spec := "fnReactions", inPlace := ["internal/bytealg.IndexByteString"], unfollowed := true, recurses := true, named := ["loop.example/g00916/impl.keywords"], apart := false, laid := [("loop.example/g00916/impl.keywords", laid_loop_example_g00916_impl_keywords)] }
def FnReactionsSaid : Prop := fnReactionsRow.holds Tryz.pinned (OpenSpec.ofChange fnReactionsSpec)

/-- ITS FALSE NEIGHBOUR: 'it returns false'. Refute it at one input. -/
def fnReactionsWrong : ChangeSpec := { name := "fnReactions", vars := ["loop.example/g00916/impl.keywords"], fn := fun _ => fun
  | [d, g1] => { results := [.lit (.bool false)], args := [d], vars := [g1] }
  | _ => none }
def FnReactionsWrongFalsely : Prop := fnReactionsRow.holds Tryz.pinned (OpenSpec.ofChange fnReactionsWrong)

/- THE SECOND FORM. 'bulk': how many values and letters a reading holds, each counted each time it is reached (what is shared counts as often as it is met; a slice's spare places count too). A statement '..UptoSaid' is the law's where the arguments, and the package variables that the reading takes, are together of bulk at most 1048576: NARROWER than '..Said'. Prove '..Said' where nothing that the law and all that it calls make is longer than what came in: it says more and counts as full. Else prove '..UptoSaid'. A law counts once. -/
mutual
def uptoBulk {H : Type} : DataW H → Nat
  | .lit (.string bytes) => bytes.length + 1
  | .lit _ => 1
  | .nil => 1
  | .ptr d => uptoBulk d + 1
  | .slice elems spare => uptoBulkAll elems + uptoBulkAll spare + 1
  | .agg parts => uptoBulkAll parts + 1
  | .iface _ d => uptoBulk d + 1
  | .map entries => uptoBulkEntries entries + 1
  | .held _ => 1
def uptoBulkAll {H : Type} : List (DataW H) → Nat
  | [] => 0
  | d :: r => uptoBulk d + uptoBulkAll r
def uptoBulkEntries {H : Type} : List (Lit × DataW H) → Nat
  | [] => 0
  | x :: r => uptoBulkEntry x + uptoBulkEntries r
def uptoBulkEntry {H : Type} : Lit × DataW H → Nat
  | (.string bytes, d) => bytes.length + uptoBulk d + 1
  | (_, d) => uptoBulk d + 1
 end
def uptoSmall : (H : Type) → List (DataW H) → Bool := fun _ ds => decide (uptoBulkAll ds ≤ 1048576)
def OpenSpec.upto (s : _root_.Go.ChangeSpec) : _root_.Go.OpenSpec := { _root_.Go.OpenSpec.ofChange s with cond := some uptoSmall }

/-- 'laws.FnExactReachedBy', WHERE WHAT IT READS IS OF BULK AT MOST 1048576: true; the input reads as it did. -/
def fnExactReachedByUptoRow : OpenClaim := { program := "ytackekfjalaacaagreatdoor", sum := "fb621a2d709471e211272c94f53175d9679edde1e9e607d76b25a0c62241a4fb", func := "loop.example/g00916/laws.FnExactReachedBy", spec := "fnExactReachedBy", inPlace := ["internal/bytealg.IndexByteString"], unfollowed := true, recurses := true, named := ["loop.example/g00916/impl.keywords"], apart := false, laid := [("loop.example/g00916/impl.keywords", laid_loop_example_g00916_impl_keywords)], narrowed := true }
def FnExactReachedByUptoSaid : Prop := fnExactReachedByUptoRow.holds Tryz.pinned (OpenSpec.upto fnExactReachedBySpec)

/-- 'laws.FnExactReactionTime', WHERE WHAT IT READS IS OF BULK AT MOST 1048576: true; the input reads as it did. -/
def fnExactReactionTimeUptoRow : OpenClaim := { program := "ytackekfjalaacaagreatdoor", sum := "fb621a2d709471e211272c94f53175d9679edde1e9e607d76b25a0c62241a4fb", func := "loop.example/g00916/laws.FnExactReactionTime", spec := "fnExactReactionTime", inPlace := ["internal/bytealg.IndexByteString"], unfollowed := true, recurses := true, named := ["loop.example/g00916/impl.keywords"], apart := false, laid := [("loop.example/g00916/impl.keywords", laid_loop_example_g00916_impl_keywords)], narrowed := true }
def FnExactReactionTimeUptoSaid : Prop := fnExactReactionTimeUptoRow.holds Tryz.pinned (OpenSpec.upto fnExactReactionTimeSpec)

/-- 'laws.FnReactions', WHERE WHAT IT READS IS OF BULK AT MOST 1048576: true; the input reads as it did. -/
def fnReactionsUptoRow : OpenClaim := { program := "ytackekfjalaacaagreatdoor", sum := "fb621a2d709471e211272c94f53175d9679edde1e9e607d76b25a0c62241a4fb", func := "loop.example/g00916/laws.FnReactions", spec := "fnReactions", inPlace := ["internal/bytealg.IndexByteString"], unfollowed := true, recurses := true, named := ["loop.example/g00916/impl.keywords"], apart := false, laid := [("loop.example/g00916/impl.keywords", laid_loop_example_g00916_impl_keywords)], narrowed := true }
def FnReactionsUptoSaid : Prop := fnReactionsUptoRow.holds Tryz.pinned (OpenSpec.upto fnReactionsSpec)

end Rows
end Go.Proofs.YtackekfjalaacaaGreatDoor
