/-
  No cell of these rows narrows 'for every input' (looked for: loops, veiled, ifaces, maps, wideKeys, modest, calm, conditions, laid).
  DERIVED. THE GIVEN ROWS OF THIS SEAT. 4 by the template 'for every input the law returns true; each argument reads behind the call as it read before'; 0 by the template 'total and deterministic' (their statements: YtaloheljfefdeaaTotals.lean).
  GIVEN WITH THE SEED: the statements are not yours to turn. If you find one false, say at which input.
  Laid BY PROGRAM, IN A SANDBOX (cutbox-rows.mjs): the forced cells as the released guide's own fill.sh prints them over the translation 1027f90e7f46529c… (all of the seat's roots in one cut). By AI agents, Wed Nov 11 2026. No macro, syntax, notation, axiom, sorry.
-/
import Derived.Test.YtaloheljfefdeaaChecked
import GoSem.Claim
import GoSem.ClaimJoined
import GoSem.ClaimMapViews
import Derived.JoinedTies
import Derived.KernelRfl
namespace Go.Proofs.Ytaloheljfefdeaa
/- THE CELL 'sum', in the pinned program and in every row, IS THE sha256 OF THE DUMP (.gsa) THAT YtaloheljfefdeaaProg.lean LOADS. Nothing in Lean hashes anything: it is a label: what it is worth is what the hold of that sum in a sandbox is worth. -/
noncomputable def Try.pinned : Pinned := { name := "ytaloheljfefdeaa", sum := "1027f90e7f46529c32972166d8773aa74b9a8236974e6e835921f09d4693d5ba", checked := Try.checked }
namespace Rows
def none {H : Type} : Left H := { results := [], args := [] }

/-- 'laws.FnCounterexamples': WHATEVER THE INPUT: true; the input reads as it did. -/
def fnCounterexamplesSpec : ChangeSpec := { name := "fnCounterexamples", fn := fun _ => fun
  | [d] => { results := [.lit (.bool true)], args := [d] }
  | _ => none }
def fnCounterexamplesRow : OpenClaim := { program := "ytaloheljfefdeaa", sum := "1027f90e7f46529c32972166d8773aa74b9a8236974e6e835921f09d4693d5ba", func := "loop.example/g00916/laws.FnCounterexamples", spec := "fnCounterexamples", inPlace := ["internal/bytealg.IndexByteString"], unfollowed := true, recurses := true, apart := false }
def FnCounterexamplesSaid : Prop := fnCounterexamplesRow.holds Try.pinned (OpenSpec.ofChange fnCounterexamplesSpec)

/-- ITS FALSE NEIGHBOUR: 'it returns false'. Refute it at one input. -/
def fnCounterexamplesWrong : ChangeSpec := { name := "fnCounterexamples", fn := fun _ => fun
  | [d] => { results := [.lit (.bool false)], args := [d] }
  | _ => none }
def FnCounterexamplesWrongFalsely : Prop := fnCounterexamplesRow.holds Try.pinned (OpenSpec.ofChange fnCounterexamplesWrong)

/-- 'laws.FnNext': WHATEVER THE INPUT: true; the input reads as it did. -/
def fnNextSpec : ChangeSpec := { name := "fnNext", fn := fun _ => fun
  | [d] => { results := [.lit (.bool true)], args := [d] }
  | _ => none }
def fnNextRow : OpenClaim := { program := "ytaloheljfefdeaa", sum := "1027f90e7f46529c32972166d8773aa74b9a8236974e6e835921f09d4693d5ba", func := "loop.example/g00916/laws.FnNext", spec := "fnNext", inPlace := ["internal/bytealg.IndexByteString"], unfollowed := true, recurses := true, apart := false }
def FnNextSaid : Prop := fnNextRow.holds Try.pinned (OpenSpec.ofChange fnNextSpec)

/-- ITS FALSE NEIGHBOUR: 'it returns false'. Refute it at one input. -/
def fnNextWrong : ChangeSpec := { name := "fnNext", fn := fun _ => fun
  | [d] => { results := [.lit (.bool false)], args := [d] }
  | _ => none }
def FnNextWrongFalsely : Prop := fnNextRow.holds Try.pinned (OpenSpec.ofChange fnNextWrong)

/-- 'laws.FnReachable': WHATEVER THE INPUT: true; the input reads as it did. -/
def fnReachableSpec : ChangeSpec := { name := "fnReachable", fn := fun _ => fun
  | [d] => { results := [.lit (.bool true)], args := [d] }
  | _ => none }
def fnReachableRow : OpenClaim := { program := "ytaloheljfefdeaa", sum := "1027f90e7f46529c32972166d8773aa74b9a8236974e6e835921f09d4693d5ba", func := "loop.example/g00916/laws.FnReachable", spec := "fnReachable", inPlace := ["internal/bytealg.IndexByteString"], unfollowed := true, recurses := true, apart := false }
def FnReachableSaid : Prop := fnReachableRow.holds Try.pinned (OpenSpec.ofChange fnReachableSpec)

/-- ITS FALSE NEIGHBOUR: 'it returns false'. Refute it at one input. -/
def fnReachableWrong : ChangeSpec := { name := "fnReachable", fn := fun _ => fun
  | [d] => { results := [.lit (.bool false)], args := [d] }
  | _ => none }
def FnReachableWrongFalsely : Prop := fnReachableRow.holds Try.pinned (OpenSpec.ofChange fnReachableWrong)

/-- 'laws.FnDead': WHATEVER THE INPUT: true; the input reads as it did. -/
def fnDeadSpec : ChangeSpec := { name := "fnDead", fn := fun _ => fun
  | [d] => { results := [.lit (.bool true)], args := [d] }
  | _ => none }
def fnDeadRow : OpenClaim := { program := "ytaloheljfefdeaa", sum := "1027f90e7f46529c32972166d8773aa74b9a8236974e6e835921f09d4693d5ba", func := "loop.example/g00916/laws.FnDead", spec := "fnDead", inPlace := ["internal/bytealg.IndexByteString"], unfollowed := true, recurses := true, apart := false }
def FnDeadSaid : Prop := fnDeadRow.holds Try.pinned (OpenSpec.ofChange fnDeadSpec)

/-- ITS FALSE NEIGHBOUR: 'it returns false'. Refute it at one input. -/
def fnDeadWrong : ChangeSpec := { name := "fnDead", fn := fun _ => fun
  | [d] => { results := [.lit (.bool false)], args := [d] }
  | _ => none }
def FnDeadWrongFalsely : Prop := fnDeadRow.holds Try.pinned (OpenSpec.ofChange fnDeadWrong)

/- THE SECOND FORM. 'bulk': how many values and letters a reading holds, each counted each time it is reached (what is shared counts as often as it is met; a slice's spare places count too). A statement '..UptoSaid' is the law's where the arguments, and the package variables that the reading takes, are together of bulk at most 1048576: NARROWER than '..Said'. Prove '..Said' where nothing that the law and all that it calls make is longer than what came in: it says more and counts as full. Else prove '..UptoSaid'. A law counts once. -/
mutual
def uptoBulk {H : Type} : DataW H → Nat
  | .lit (.string bytes) => bytes.length + 1
  | .lit _ => 1
  | .nil => 1
  | .ptr d => uptoBulk d + 1
  | .slice elems spare => uptoBulkAll elems + uptoBulkAll spare + 1
  | .agg parts => uptoBulkAll parts + 1
  | .iface _ d => uptoBulk d + 1
  | .map entries => uptoBulkEntries entries + 1
  | .held _ => 1
def uptoBulkAll {H : Type} : List (DataW H) → Nat
  | [] => 0
  | d :: r => uptoBulk d + uptoBulkAll r
def uptoBulkEntries {H : Type} : List (Lit × DataW H) → Nat
  | [] => 0
  | x :: r => uptoBulkEntry x + uptoBulkEntries r
def uptoBulkEntry {H : Type} : Lit × DataW H → Nat
  | (.string bytes, d) => bytes.length + uptoBulk d + 1
  | (_, d) => uptoBulk d + 1
 end
def uptoSmall : (H : Type) → List (DataW H) → Bool := fun _ ds => decide (uptoBulkAll ds ≤ 1048576)
def OpenSpec.upto (s : _root_.Go.ChangeSpec) : _root_.Go.OpenSpec := { _root_.Go.OpenSpec.ofChange s with cond := some uptoSmall }

/-- 'laws.FnCounterexamples', WHERE WHAT IT READS IS OF BULK AT MOST 1048576: true; the input reads as it did. -/
def fnCounterexamplesUptoRow : OpenClaim := { program := "ytaloheljfefdeaa", sum := "1027f90e7f46529c32972166d8773aa74b9a8236974e6e835921f09d4693d5ba", func := "loop.example/g00916/laws.FnCounterexamples", spec := "fnCounterexamples", inPlace := ["internal/bytealg.IndexByteString"], unfollowed := true, recurses := true, apart := false, narrowed := true }
def FnCounterexamplesUptoSaid : Prop := fnCounterexamplesUptoRow.holds Try.pinned (OpenSpec.upto fnCounterexamplesSpec)

/-- 'laws.FnNext', WHERE WHAT IT READS IS OF BULK AT MOST 1048576: true; the input reads as it did. -/
def fnNextUptoRow : OpenClaim := { program := "ytaloheljfefdeaa", sum := "1027f90e7f46529c32972166d8773aa74b9a8236974e6e835921f09d4693d5ba", func := "loop.example/g00916/laws.FnNext", spec := "fnNext", inPlace := ["internal/bytealg.IndexByteString"], unfollowed := true, recurses := true, apart := false, narrowed := true }
def FnNextUptoSaid : Prop := fnNextUptoRow.holds Try.pinned (OpenSpec.upto fnNextSpec)

/-- 'laws.FnReachable', WHERE WHAT IT READS IS OF BULK AT MOST 1048576: true; the input reads as it did. -/
def fnReachableUptoRow : OpenClaim := { program := "ytaloheljfefdeaa", sum := "1027f90e7f46529c32972166d8773aa74b9a8236974e6e835921f09d4693d5ba", func := "loop.example/g00916/laws.FnReachable", spec := "fnReachable", inPlace := ["internal/bytealg.IndexByteString"], unfollowed := true, recurses := true, apart := false, narrowed := true }
def FnReachableUptoSaid : Prop := fnReachableUptoRow.holds Try.pinned (OpenSpec.upto fnReachableSpec)

/-- 'laws.FnDead', WHERE WHAT IT READS IS OF BULK AT MOST 1048576: true; the input reads as it did. -/
def fnDeadUptoRow : OpenClaim := { program := "ytaloheljfefdeaa", sum := "1027f90e7f46529c32972166d8773aa74b9a8236974e6e835921f09d4693d5ba", func := "loop.example/g00916/laws.FnDead", spec := "fnDead", inPlace := ["internal/bytealg.IndexByteString"], unfollowed := true, recurses := true, apart := false, narrowed := true }
def FnDeadUptoSaid : Prop := fnDeadUptoRow.holds Try.pinned (OpenSpec.upto fnDeadSpec)

end Rows
end Go.Proofs.Ytaloheljfefdeaa
