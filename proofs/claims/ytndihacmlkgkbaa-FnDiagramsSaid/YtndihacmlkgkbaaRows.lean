/-
  No cell of these rows narrows 'for every input' (looked for: loops, veiled, ifaces, maps, wideKeys, modest, calm, conditions, laid).
  DERIVED. THE GIVEN ROWS OF THIS SEAT. 8 by the template 'for every input the law returns true; each argument reads behind the call as it read before'; 0 by the template 'total and deterministic' (their statements: YtndihacmlkgkbaaTotals.lean).
  GIVEN WITH THE SEED: the statements are not yours to turn. If you find one false, say at which input.
  Laid BY PROGRAM, IN A SANDBOX (cutbox-rows.mjs): the forced cells as the released guide's own fill.sh prints them over the translation 2bf5db13ed149860… (all of the seat's roots in one cut). By AI agents, Wed Nov 11 2026. No macro, syntax, notation, axiom, sorry.
-/
import Derived.Test.YtndihacmlkgkbaaChecked
import GoSem.Claim
import GoSem.ClaimJoined
import GoSem.ClaimMapViews
import Derived.JoinedTies
import Derived.KernelRfl
namespace Go.Proofs.Ytndihacmlkgkbaa
/- THE CELL 'sum', in the pinned program and in every row, IS THE sha256 OF THE DUMP (.gsa) THAT YtndihacmlkgkbaaProg.lean LOADS. Nothing in Lean hashes anything: it is a label: what it is worth is what the hold of that sum in a sandbox is worth. -/
noncomputable def Try.pinned : Pinned := { name := "ytndihacmlkgkbaa", sum := "2bf5db13ed14986022d33cbf1358458b0a670afd34766803d7f1fd84621d5201", checked := Try.checked }
namespace Rows
def none {H : Type} : Left H := { results := [], args := [] }

/-- 'laws.FnExactIsDiagram': WHATEVER THE INPUT: true; the input reads as it did. -/
def fnExactIsDiagramSpec : ChangeSpec := { name := "fnExactIsDiagram", fn := fun _ => fun
  | [d] => { results := [.lit (.bool true)], args := [d] }
  | _ => none }
def fnExactIsDiagramRow : OpenClaim := { program := "ytndihacmlkgkbaa", sum := "2bf5db13ed14986022d33cbf1358458b0a670afd34766803d7f1fd84621d5201", func := "loop.example/g00916/laws.FnExactIsDiagram", spec := "fnExactIsDiagram", unfollowed := true, recurses := true, plainKeys := false, apart := false }
def FnExactIsDiagramSaid : Prop := fnExactIsDiagramRow.holds Try.pinned (OpenSpec.ofChange fnExactIsDiagramSpec)

/-- ITS FALSE NEIGHBOUR: 'it returns false'. Refute it at one input. -/
def fnExactIsDiagramWrong : ChangeSpec := { name := "fnExactIsDiagram", fn := fun _ => fun
  | [d] => { results := [.lit (.bool false)], args := [d] }
  | _ => none }
def FnExactIsDiagramWrongFalsely : Prop := fnExactIsDiagramRow.holds Try.pinned (OpenSpec.ofChange fnExactIsDiagramWrong)

/-- 'laws.FnExactCountOnes': WHATEVER THE INPUT: true; the input reads as it did. -/
def fnExactCountOnesSpec : ChangeSpec := { name := "fnExactCountOnes", fn := fun _ => fun
  | [d] => { results := [.lit (.bool true)], args := [d] }
  | _ => none }
def fnExactCountOnesRow : OpenClaim := { program := "ytndihacmlkgkbaa", sum := "2bf5db13ed14986022d33cbf1358458b0a670afd34766803d7f1fd84621d5201", func := "loop.example/g00916/laws.FnExactCountOnes", spec := "fnExactCountOnes", unfollowed := true, recurses := true, plainKeys := false, apart := false }
def FnExactCountOnesSaid : Prop := fnExactCountOnesRow.holds Try.pinned (OpenSpec.ofChange fnExactCountOnesSpec)

/-- ITS FALSE NEIGHBOUR: 'it returns false'. Refute it at one input. -/
def fnExactCountOnesWrong : ChangeSpec := { name := "fnExactCountOnes", fn := fun _ => fun
  | [d] => { results := [.lit (.bool false)], args := [d] }
  | _ => none }
def FnExactCountOnesWrongFalsely : Prop := fnExactCountOnesRow.holds Try.pinned (OpenSpec.ofChange fnExactCountOnesWrong)

/-- 'laws.FnExactFirstOne': WHATEVER THE INPUT: true; the input reads as it did. -/
def fnExactFirstOneSpec : ChangeSpec := { name := "fnExactFirstOne", fn := fun _ => fun
  | [d] => { results := [.lit (.bool true)], args := [d] }
  | _ => none }
def fnExactFirstOneRow : OpenClaim := { program := "ytndihacmlkgkbaa", sum := "2bf5db13ed14986022d33cbf1358458b0a670afd34766803d7f1fd84621d5201", func := "loop.example/g00916/laws.FnExactFirstOne", spec := "fnExactFirstOne", unfollowed := true, recurses := true, plainKeys := false, apart := false }
def FnExactFirstOneSaid : Prop := fnExactFirstOneRow.holds Try.pinned (OpenSpec.ofChange fnExactFirstOneSpec)

/-- ITS FALSE NEIGHBOUR: 'it returns false'. Refute it at one input. -/
def fnExactFirstOneWrong : ChangeSpec := { name := "fnExactFirstOne", fn := fun _ => fun
  | [d] => { results := [.lit (.bool false)], args := [d] }
  | _ => none }
def FnExactFirstOneWrongFalsely : Prop := fnExactFirstOneRow.holds Try.pinned (OpenSpec.ofChange fnExactFirstOneWrong)

/-- 'laws.FnExactNotDiagram': WHATEVER THE INPUT: true; the input reads as it did. -/
def fnExactNotDiagramSpec : ChangeSpec := { name := "fnExactNotDiagram", fn := fun _ => fun
  | [d] => { results := [.lit (.bool true)], args := [d] }
  | _ => none }
def fnExactNotDiagramRow : OpenClaim := { program := "ytndihacmlkgkbaa", sum := "2bf5db13ed14986022d33cbf1358458b0a670afd34766803d7f1fd84621d5201", func := "loop.example/g00916/laws.FnExactNotDiagram", spec := "fnExactNotDiagram", unfollowed := true, recurses := true, plainKeys := false, apart := false }
def FnExactNotDiagramSaid : Prop := fnExactNotDiagramRow.holds Try.pinned (OpenSpec.ofChange fnExactNotDiagramSpec)

/-- ITS FALSE NEIGHBOUR: 'it returns false'. Refute it at one input. -/
def fnExactNotDiagramWrong : ChangeSpec := { name := "fnExactNotDiagram", fn := fun _ => fun
  | [d] => { results := [.lit (.bool false)], args := [d] }
  | _ => none }
def FnExactNotDiagramWrongFalsely : Prop := fnExactNotDiagramRow.holds Try.pinned (OpenSpec.ofChange fnExactNotDiagramWrong)

/-- 'laws.FnExactValueOf': WHATEVER THE INPUT: true; the input reads as it did. -/
def fnExactValueOfSpec : ChangeSpec := { name := "fnExactValueOf", fn := fun _ => fun
  | [d1, d2] => { results := [.lit (.bool true)], args := [d1, d2] }
  | _ => none }
def fnExactValueOfRow : OpenClaim := { program := "ytndihacmlkgkbaa", sum := "2bf5db13ed14986022d33cbf1358458b0a670afd34766803d7f1fd84621d5201", func := "loop.example/g00916/laws.FnExactValueOf", spec := "fnExactValueOf", unfollowed := true, recurses := true, plainKeys := false, apart := false }
def FnExactValueOfSaid : Prop := fnExactValueOfRow.holds Try.pinned (OpenSpec.ofChange fnExactValueOfSpec)

/-- ITS FALSE NEIGHBOUR: 'it returns false'. Refute it at one input. -/
def fnExactValueOfWrong : ChangeSpec := { name := "fnExactValueOf", fn := fun _ => fun
  | [d1, d2] => { results := [.lit (.bool false)], args := [d1, d2] }
  | _ => none }
def FnExactValueOfWrongFalsely : Prop := fnExactValueOfRow.holds Try.pinned (OpenSpec.ofChange fnExactValueOfWrong)

/-- 'laws.FnExactFixInput': WHATEVER THE INPUT: true; the input reads as it did. -/
def fnExactFixInputSpec : ChangeSpec := { name := "fnExactFixInput", fn := fun _ => fun
  | [d1, d2, d3] => { results := [.lit (.bool true)], args := [d1, d2, d3] }
  | _ => none }
def fnExactFixInputRow : OpenClaim := { program := "ytndihacmlkgkbaa", sum := "2bf5db13ed14986022d33cbf1358458b0a670afd34766803d7f1fd84621d5201", func := "loop.example/g00916/laws.FnExactFixInput", spec := "fnExactFixInput", unfollowed := true, recurses := true, plainKeys := false, apart := false }
def FnExactFixInputSaid : Prop := fnExactFixInputRow.holds Try.pinned (OpenSpec.ofChange fnExactFixInputSpec)

/-- ITS FALSE NEIGHBOUR: 'it returns false'. Refute it at one input. -/
def fnExactFixInputWrong : ChangeSpec := { name := "fnExactFixInput", fn := fun _ => fun
  | [d1, d2, d3] => { results := [.lit (.bool false)], args := [d1, d2, d3] }
  | _ => none }
def FnExactFixInputWrongFalsely : Prop := fnExactFixInputRow.holds Try.pinned (OpenSpec.ofChange fnExactFixInputWrong)

/-- 'laws.FnExactJoinDiagrams': WHATEVER THE INPUT: true; the input reads as it did. -/
def fnExactJoinDiagramsSpec : ChangeSpec := { name := "fnExactJoinDiagrams", fn := fun _ => fun
  | [d1, d2, d3] => { results := [.lit (.bool true)], args := [d1, d2, d3] }
  | _ => none }
def fnExactJoinDiagramsRow : OpenClaim := { program := "ytndihacmlkgkbaa", sum := "2bf5db13ed14986022d33cbf1358458b0a670afd34766803d7f1fd84621d5201", func := "loop.example/g00916/laws.FnExactJoinDiagrams", spec := "fnExactJoinDiagrams", unfollowed := true, recurses := true, plainKeys := false, apart := false }
def FnExactJoinDiagramsSaid : Prop := fnExactJoinDiagramsRow.holds Try.pinned (OpenSpec.ofChange fnExactJoinDiagramsSpec)

/-- ITS FALSE NEIGHBOUR: 'it returns false'. Refute it at one input. -/
def fnExactJoinDiagramsWrong : ChangeSpec := { name := "fnExactJoinDiagrams", fn := fun _ => fun
  | [d1, d2, d3] => { results := [.lit (.bool false)], args := [d1, d2, d3] }
  | _ => none }
def FnExactJoinDiagramsWrongFalsely : Prop := fnExactJoinDiagramsRow.holds Try.pinned (OpenSpec.ofChange fnExactJoinDiagramsWrong)

/-- 'laws.FnDiagrams': WHATEVER THE INPUT: true; the input reads as it did. -/
def fnDiagramsSpec : ChangeSpec := { name := "fnDiagrams", fn := fun _ => fun
  | [d] => { results := [.lit (.bool true)], args := [d] }
  | _ => none }
def fnDiagramsRow : OpenClaim := { program := "ytndihacmlkgkbaa", sum := "2bf5db13ed14986022d33cbf1358458b0a670afd34766803d7f1fd84621d5201", func := "loop.example/g00916/laws.FnDiagrams", spec := "fnDiagrams", unfollowed := true, recurses := true, plainKeys := false, apart := false }
def FnDiagramsSaid : Prop := fnDiagramsRow.holds Try.pinned (OpenSpec.ofChange fnDiagramsSpec)

/-- ITS FALSE NEIGHBOUR: 'it returns false'. Refute it at one input. -/
def fnDiagramsWrong : ChangeSpec := { name := "fnDiagrams", fn := fun _ => fun
  | [d] => { results := [.lit (.bool false)], args := [d] }
  | _ => none }
def FnDiagramsWrongFalsely : Prop := fnDiagramsRow.holds Try.pinned (OpenSpec.ofChange fnDiagramsWrong)

/- THE SECOND FORM. 'bulk': how many values and letters a reading holds, each counted each time it is reached (what is shared counts as often as it is met; a slice's spare places count too). A statement '..UptoSaid' is the law's where the arguments, and the package variables that the reading takes, are together of bulk at most 1048576: NARROWER than '..Said'. Prove '..Said' where nothing that the law and all that it calls make is longer than what came in: it says more and counts as full. Else prove '..UptoSaid'. A law counts once. -/
mutual
def uptoBulk {H : Type} : DataW H → Nat
  | .lit (.string bytes) => bytes.length + 1
  | .lit _ => 1
  | .nil => 1
  | .ptr d => uptoBulk d + 1
  | .slice elems spare => uptoBulkAll elems + uptoBulkAll spare + 1
  | .agg parts => uptoBulkAll parts + 1
  | .iface _ d => uptoBulk d + 1
  | .map entries => uptoBulkEntries entries + 1
  | .held _ => 1
def uptoBulkAll {H : Type} : List (DataW H) → Nat
  | [] => 0
  | d :: r => uptoBulk d + uptoBulkAll r
def uptoBulkEntries {H : Type} : List (Lit × DataW H) → Nat
  | [] => 0
  | x :: r => uptoBulkEntry x + uptoBulkEntries r
def uptoBulkEntry {H : Type} : Lit × DataW H → Nat
  | (.string bytes, d) => bytes.length + uptoBulk d + 1
  | (_, d) => uptoBulk d + 1
 end
def uptoSmall : (H : Type) → List (DataW H) → Bool := fun _ ds => decide (uptoBulkAll ds ≤ 1048576)
def OpenSpec.upto (s : _root_.Go.ChangeSpec) : _root_.Go.OpenSpec := { _root_.Go.OpenSpec.ofChange s with cond := some uptoSmall }

/-- 'laws.FnExactIsDiagram', WHERE WHAT IT READS IS OF BULK AT MOST 1048576: true; the input reads as it did. -/
def fnExactIsDiagramUptoRow : OpenClaim := { program := "ytndihacmlkgkbaa", sum := "2bf5db13ed14986022d33cbf1358458b0a670afd34766803d7f1fd84621d5201", func := "loop.example/g00916/laws.FnExactIsDiagram", spec := "fnExactIsDiagram", unfollowed := true, recurses := true, plainKeys := false, apart := false, narrowed := true }
def FnExactIsDiagramUptoSaid : Prop := fnExactIsDiagramUptoRow.holds Try.pinned (OpenSpec.upto fnExactIsDiagramSpec)

/-- 'laws.FnExactCountOnes', WHERE WHAT IT READS IS OF BULK AT MOST 1048576: true; the input reads as it did. -/
def fnExactCountOnesUptoRow : OpenClaim := { program := "ytndihacmlkgkbaa", sum := "2bf5db13ed14986022d33cbf1358458b0a670afd34766803d7f1fd84621d5201", func := "loop.example/g00916/laws.FnExactCountOnes", spec := "fnExactCountOnes", unfollowed := true, recurses := true, plainKeys := false, apart := false, narrowed := true }
def FnExactCountOnesUptoSaid : Prop := fnExactCountOnesUptoRow.holds Try.pinned (OpenSpec.upto fnExactCountOnesSpec)

/-- 'laws.FnExactFirstOne', WHERE WHAT IT READS IS OF BULK AT MOST 1048576: true; the input reads as it did. -/
def fnExactFirstOneUptoRow : OpenClaim := { program := "ytndihacmlkgkbaa", sum := "2bf5db13ed14986022d33cbf1358458b0a670afd34766803d7f1fd84621d5201", func := "loop.example/g00916/laws.FnExactFirstOne", spec := "fnExactFirstOne", unfollowed := true, recurses := true, plainKeys := false, apart := false, narrowed := true }
def FnExactFirstOneUptoSaid : Prop := fnExactFirstOneUptoRow.holds Try.pinned (OpenSpec.upto fnExactFirstOneSpec)

/-- 'laws.FnExactNotDiagram', WHERE WHAT IT READS IS OF BULK AT MOST 1048576: true; the input reads as it did. -/
def fnExactNotDiagramUptoRow : OpenClaim := { program := "ytndihacmlkgkbaa", sum := "2bf5db13ed14986022d33cbf1358458b0a670afd34766803d7f1fd84621d5201", func := "loop.example/g00916/laws.FnExactNotDiagram", spec := "fnExactNotDiagram", unfollowed := true, recurses := true, plainKeys := false, apart := false, narrowed := true }
def FnExactNotDiagramUptoSaid : Prop := fnExactNotDiagramUptoRow.holds Try.pinned (OpenSpec.upto fnExactNotDiagramSpec)

/-- 'laws.FnExactValueOf', WHERE WHAT IT READS IS OF BULK AT MOST 1048576: true; the input reads as it did. -/
def fnExactValueOfUptoRow : OpenClaim := { program := "ytndihacmlkgkbaa", sum := "2bf5db13ed14986022d33cbf1358458b0a670afd34766803d7f1fd84621d5201", func := "loop.example/g00916/laws.FnExactValueOf", spec := "fnExactValueOf", unfollowed := true, recurses := true, plainKeys := false, apart := false, narrowed := true }
def FnExactValueOfUptoSaid : Prop := fnExactValueOfUptoRow.holds Try.pinned (OpenSpec.upto fnExactValueOfSpec)

/-- 'laws.FnExactFixInput', WHERE WHAT IT READS IS OF BULK AT MOST 1048576: true; the input reads as it did. -/
def fnExactFixInputUptoRow : OpenClaim := { program := "ytndihacmlkgkbaa", sum := "2bf5db13ed14986022d33cbf1358458b0a670afd34766803d7f1fd84621d5201", func := "loop.example/g00916/laws.FnExactFixInput", spec := "fnExactFixInput", unfollowed := true, recurses := true, plainKeys := false, apart := false, narrowed := true }
def FnExactFixInputUptoSaid : Prop := fnExactFixInputUptoRow.holds Try.pinned (OpenSpec.upto fnExactFixInputSpec)

/-- 'laws.FnExactJoinDiagrams', WHERE WHAT IT READS IS OF BULK AT MOST 1048576: true; the input reads as it did. -/
def fnExactJoinDiagramsUptoRow : OpenClaim := { program := "ytndihacmlkgkbaa", sum := "2bf5db13ed14986022d33cbf1358458b0a670afd34766803d7f1fd84621d5201", func := "loop.example/g00916/laws.FnExactJoinDiagrams", spec := "fnExactJoinDiagrams", unfollowed := true, recurses := true, plainKeys := false, apart := false, narrowed := true }
def FnExactJoinDiagramsUptoSaid : Prop := fnExactJoinDiagramsUptoRow.holds Try.pinned (OpenSpec.upto fnExactJoinDiagramsSpec)

/-- 'laws.FnDiagrams', WHERE WHAT IT READS IS OF BULK AT MOST 1048576: true; the input reads as it did. -/
def fnDiagramsUptoRow : OpenClaim := { program := "ytndihacmlkgkbaa", sum := "2bf5db13ed14986022d33cbf1358458b0a670afd34766803d7f1fd84621d5201", func := "loop.example/g00916/laws.FnDiagrams", spec := "fnDiagrams", unfollowed := true, recurses := true, plainKeys := false, apart := false, narrowed := true }
def FnDiagramsUptoSaid : Prop := fnDiagramsUptoRow.holds Try.pinned (OpenSpec.upto fnDiagramsSpec)

end Rows
end Go.Proofs.Ytndihacmlkgkbaa
