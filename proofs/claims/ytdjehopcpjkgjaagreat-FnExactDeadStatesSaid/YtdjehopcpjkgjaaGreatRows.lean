/-
  No cell of these rows narrows 'for every input' (looked for: loops, veiled, ifaces, maps, wideKeys, modest, calm, conditions, laid).
  DERIVED. THE GIVEN ROWS OF THIS SEAT. 3 by the template 'for every input the law returns true; each argument reads behind the call as it read before'; 0 by the template 'total and deterministic' (their statements: YtdjehopcpjkgjaaGreatTotals.lean).
  GIVEN WITH THE SEED: the statements are not yours to turn. If you find one false, say at which input.
  Laid BY PROGRAM, IN A SANDBOX (cutbox-rows.mjs): the forced cells as the released guide's own fill.sh prints them over the translation 31239e3b2fde3ed8… (all of the seat's roots in one cut). By AI agents, Wed Nov 11 2026. No macro, syntax, notation, axiom, sorry.
-/
import Derived.Test.YtdjehopcpjkgjaaGreatChecked
import GoSem.Claim
import GoSem.ClaimJoined
import GoSem.ClaimMapViews
import Derived.JoinedTies
import Derived.KernelRfl
namespace Go.Proofs.YtdjehopcpjkgjaaGreat
/- THE CELL 'sum', in the pinned program and in every row, IS THE sha256 OF THE DUMP (.gsa) THAT YtdjehopcpjkgjaaGreatProg.lean LOADS. Nothing in Lean hashes anything: it is a label: what it is worth is what the hold of that sum in a sandbox is worth. -/
noncomputable def Tryz.pinned : Pinned := { name := "ytdjehopcpjkgjaagreat", sum := "31239e3b2fde3ed894cfdae8b278195968f97914d7a2a3ac9831c73cc07679b9", checked := Tryz.checked }
namespace Rows
def none {H : Type} : Left H := { results := [], args := [] }

/-- 'laws.FnExactNextStates': WHATEVER THE INPUT: true; the input reads as it did. -/
def fnExactNextStatesSpec : ChangeSpec := { name := "fnExactNextStates", fn := fun _ => fun
  | [d1, d2] => { results := [.lit (.bool true)], args := [d1, d2] }
  | _ => none }
def fnExactNextStatesRow : OpenClaim := { program := "ytdjehopcpjkgjaagreat", sum := "31239e3b2fde3ed894cfdae8b278195968f97914d7a2a3ac9831c73cc07679b9", func := "loop.example/g00916/laws.FnExactNextStates", spec := "fnExactNextStates", inPlace := ["internal/bytealg.IndexByteString"], unfollowed := true, recurses := true, apart := false }
def FnExactNextStatesSaid : Prop := fnExactNextStatesRow.holds Tryz.pinned (OpenSpec.ofChange fnExactNextStatesSpec)

/-- ITS FALSE NEIGHBOUR: 'it returns false'. Refute it at one input. -/
def fnExactNextStatesWrong : ChangeSpec := { name := "fnExactNextStates", fn := fun _ => fun
  | [d1, d2] => { results := [.lit (.bool false)], args := [d1, d2] }
  | _ => none }
def FnExactNextStatesWrongFalsely : Prop := fnExactNextStatesRow.holds Tryz.pinned (OpenSpec.ofChange fnExactNextStatesWrong)

/-- 'laws.FnExactDeadStates': WHATEVER THE INPUT: true; the input reads as it did. -/
def fnExactDeadStatesSpec : ChangeSpec := { name := "fnExactDeadStates", fn := fun _ => fun
  | [d] => { results := [.lit (.bool true)], args := [d] }
  | _ => none }
def fnExactDeadStatesRow : OpenClaim := { program := "ytdjehopcpjkgjaagreat", sum := "31239e3b2fde3ed894cfdae8b278195968f97914d7a2a3ac9831c73cc07679b9", func := "loop.example/g00916/laws.FnExactDeadStates", spec := "fnExactDeadStates", inPlace := ["internal/bytealg.IndexByteString"], unfollowed := true, recurses := true, apart := false }
def FnExactDeadStatesSaid : Prop := fnExactDeadStatesRow.holds Tryz.pinned (OpenSpec.ofChange fnExactDeadStatesSpec)

/-- ITS FALSE NEIGHBOUR: 'it returns false'. Refute it at one input. -/
def fnExactDeadStatesWrong : ChangeSpec := { name := "fnExactDeadStates", fn := fun _ => fun
  | [d] => { results := [.lit (.bool false)], args := [d] }
  | _ => none }
def FnExactDeadStatesWrongFalsely : Prop := fnExactDeadStatesRow.holds Tryz.pinned (OpenSpec.ofChange fnExactDeadStatesWrong)

/-- 'laws.FnExactReachableStates': WHATEVER THE INPUT: true; the input reads as it did. -/
def fnExactReachableStatesSpec : ChangeSpec := { name := "fnExactReachableStates", fn := fun _ => fun
  | [d] => { results := [.lit (.bool true)], args := [d] }
  | _ => none }
def fnExactReachableStatesRow : OpenClaim := { program := "ytdjehopcpjkgjaagreat", sum := "31239e3b2fde3ed894cfdae8b278195968f97914d7a2a3ac9831c73cc07679b9", func := "loop.example/g00916/laws.FnExactReachableStates", spec := "fnExactReachableStates", inPlace := ["internal/bytealg.IndexByteString"], unfollowed := true, recurses := true, apart := false }
def FnExactReachableStatesSaid : Prop := fnExactReachableStatesRow.holds Tryz.pinned (OpenSpec.ofChange fnExactReachableStatesSpec)

/-- ITS FALSE NEIGHBOUR: 'it returns false'. Refute it at one input. -/
def fnExactReachableStatesWrong : ChangeSpec := { name := "fnExactReachableStates", fn := fun _ => fun
  | [d] => { results := [.lit (.bool false)], args := [d] }
  | _ => none }
def FnExactReachableStatesWrongFalsely : Prop := fnExactReachableStatesRow.holds Tryz.pinned (OpenSpec.ofChange fnExactReachableStatesWrong)

/- THE SECOND FORM. 'bulk': how many values and letters a reading holds, each counted each time it is reached (what is shared counts as often as it is met; a slice's spare places count too). A statement '..UptoSaid' is the law's where the arguments, and the package variables that the reading takes, are together of bulk at most 1048576: NARROWER than '..Said'. Prove '..Said' where nothing that the law and all that it calls make is longer than what came in: it says more and counts as full. Else prove '..UptoSaid'. A law counts once. -/
mutual
def uptoBulk {H : Type} : DataW H → Nat
  | .lit (.string bytes) => bytes.length + 1
  | .lit _ => 1
  | .nil => 1
  | .ptr d => uptoBulk d + 1
  | .slice elems spare => uptoBulkAll elems + uptoBulkAll spare + 1
  | .agg parts => uptoBulkAll parts + 1
  | .iface _ d => uptoBulk d + 1
  | .map entries => uptoBulkEntries entries + 1
  | .held _ => 1
def uptoBulkAll {H : Type} : List (DataW H) → Nat
  | [] => 0
  | d :: r => uptoBulk d + uptoBulkAll r
def uptoBulkEntries {H : Type} : List (Lit × DataW H) → Nat
  | [] => 0
  | x :: r => uptoBulkEntry x + uptoBulkEntries r
def uptoBulkEntry {H : Type} : Lit × DataW H → Nat
  | (.string bytes, d) => bytes.length + uptoBulk d + 1
  | (_, d) => uptoBulk d + 1
 end
def uptoSmall : (H : Type) → List (DataW H) → Bool := fun _ ds => decide (uptoBulkAll ds ≤ 1048576)
def OpenSpec.upto (s : _root_.Go.ChangeSpec) : _root_.Go.OpenSpec := { _root_.Go.OpenSpec.ofChange s with cond := some uptoSmall }

/-- 'laws.FnExactNextStates', WHERE WHAT IT READS IS OF BULK AT MOST 1048576: true; the input reads as it did. -/
def fnExactNextStatesUptoRow : OpenClaim := { program := "ytdjehopcpjkgjaagreat", sum := "31239e3b2fde3ed894cfdae8b278195968f97914d7a2a3ac9831c73cc07679b9", func := "loop.example/g00916/laws.FnExactNextStates", spec := "fnExactNextStates", inPlace := ["internal/bytealg.IndexByteString"], unfollowed := true, recurses := true, apart := false, narrowed := true }
def FnExactNextStatesUptoSaid : Prop := fnExactNextStatesUptoRow.holds Tryz.pinned (OpenSpec.upto fnExactNextStatesSpec)

/-- 'laws.FnExactDeadStates', WHERE WHAT IT READS IS OF BULK AT MOST 1048576: true; the input reads as it did. -/
def fnExactDeadStatesUptoRow : OpenClaim := { program := "ytdjehopcpjkgjaagreat", sum := "31239e3b2fde3ed894cfdae8b278195968f97914d7a2a3ac9831c73cc07679b9", func := "loop.example/g00916/laws.FnExactDeadStates", spec := "fnExactDeadStates", inPlace := ["internal/bytealg.IndexByteString"], unfollowed := true, recurses := true, apart := false, narrowed := true }
def FnExactDeadStatesUptoSaid : Prop := fnExactDeadStatesUptoRow.holds Tryz.pinned (OpenSpec.upto fnExactDeadStatesSpec)

/-- 'laws.FnExactReachableStates', WHERE WHAT IT READS IS OF BULK AT MOST 1048576: true; the input reads as it did. -/
def fnExactReachableStatesUptoRow : OpenClaim := { program := "ytdjehopcpjkgjaagreat", sum := "31239e3b2fde3ed894cfdae8b278195968f97914d7a2a3ac9831c73cc07679b9", func := "loop.example/g00916/laws.FnExactReachableStates", spec := "fnExactReachableStates", inPlace := ["internal/bytealg.IndexByteString"], unfollowed := true, recurses := true, apart := false, narrowed := true }
def FnExactReachableStatesUptoSaid : Prop := fnExactReachableStatesUptoRow.holds Tryz.pinned (OpenSpec.upto fnExactReachableStatesSpec)

end Rows
end Go.Proofs.YtdjehopcpjkgjaaGreat
