/-
  No cell of these rows narrows 'for every input' (looked for: loops, veiled, ifaces, maps, wideKeys, modest, calm, conditions, laid).
  DERIVED. THE GIVEN ROWS OF THIS SEAT. 7 by the template 'for every input the law returns true; each argument reads behind the call as it read before'; 0 by the template 'total and deterministic' (their statements: YticlpjljcedfmaaTotals.lean).
  GIVEN WITH THE SEED: the statements are not yours to turn. If you find one false, say at which input.
  Laid BY PROGRAM, IN A SANDBOX (cutbox-rows.mjs): the forced cells as the released guide's own fill.sh prints them over the translation 3c14e9152856fdd9… (all of the seat's roots in one cut). By AI agents, Wed Nov 11 2026. No macro, syntax, notation, axiom, sorry.
-/
import Derived.Test.YticlpjljcedfmaaChecked
import GoSem.Claim
import GoSem.ClaimJoined
import GoSem.ClaimMapViews
import Derived.JoinedTies
import Derived.KernelRfl
namespace Go.Proofs.Yticlpjljcedfmaa
/- THE CELL 'sum', in the pinned program and in every row, IS THE sha256 OF THE DUMP (.gsa) THAT YticlpjljcedfmaaProg.lean LOADS. Nothing in Lean hashes anything: it is a label: what it is worth is what the hold of that sum in a sandbox is worth. -/
noncomputable def Try.pinned : Pinned := { name := "yticlpjljcedfmaa", sum := "3c14e9152856fdd9b0aa200c9b30d2305c552e902c3dd1419f21e99b8c992aaf", checked := Try.checked }
namespace Rows
def none {H : Type} : Left H := { results := [], args := [] }

/-- 'laws.FnExactIsModel': WHATEVER THE INPUT: true; the input reads as it did. -/
def fnExactIsModelSpec : ChangeSpec := { name := "fnExactIsModel", fn := fun _ => fun
  | [d] => { results := [.lit (.bool true)], args := [d] }
  | _ => none }
def fnExactIsModelRow : OpenClaim := { program := "yticlpjljcedfmaa", sum := "3c14e9152856fdd9b0aa200c9b30d2305c552e902c3dd1419f21e99b8c992aaf", func := "loop.example/g00916/laws.FnExactIsModel", spec := "fnExactIsModel", inPlace := ["internal/bytealg.IndexByteString"], unfollowed := true, recurses := true, apart := false }
def FnExactIsModelSaid : Prop := fnExactIsModelRow.holds Try.pinned (OpenSpec.ofChange fnExactIsModelSpec)

/-- ITS FALSE NEIGHBOUR: 'it returns false'. Refute it at one input. -/
def fnExactIsModelWrong : ChangeSpec := { name := "fnExactIsModel", fn := fun _ => fun
  | [d] => { results := [.lit (.bool false)], args := [d] }
  | _ => none }
def FnExactIsModelWrongFalsely : Prop := fnExactIsModelRow.holds Try.pinned (OpenSpec.ofChange fnExactIsModelWrong)

/-- 'laws.FnExactCountTests': WHATEVER THE INPUT: true; the input reads as it did. -/
def fnExactCountTestsSpec : ChangeSpec := { name := "fnExactCountTests", fn := fun _ => fun
  | [d] => { results := [.lit (.bool true)], args := [d] }
  | _ => none }
def fnExactCountTestsRow : OpenClaim := { program := "yticlpjljcedfmaa", sum := "3c14e9152856fdd9b0aa200c9b30d2305c552e902c3dd1419f21e99b8c992aaf", func := "loop.example/g00916/laws.FnExactCountTests", spec := "fnExactCountTests", inPlace := ["internal/bytealg.IndexByteString"], unfollowed := true, recurses := true, apart := false }
def FnExactCountTestsSaid : Prop := fnExactCountTestsRow.holds Try.pinned (OpenSpec.ofChange fnExactCountTestsSpec)

/-- ITS FALSE NEIGHBOUR: 'it returns false'. Refute it at one input. -/
def fnExactCountTestsWrong : ChangeSpec := { name := "fnExactCountTests", fn := fun _ => fun
  | [d] => { results := [.lit (.bool false)], args := [d] }
  | _ => none }
def FnExactCountTestsWrongFalsely : Prop := fnExactCountTestsRow.holds Try.pinned (OpenSpec.ofChange fnExactCountTestsWrong)

/-- 'laws.FnExactHoldsIn': WHATEVER THE INPUT: true; the input reads as it did. -/
def fnExactHoldsInSpec : ChangeSpec := { name := "fnExactHoldsIn", fn := fun _ => fun
  | [d1, d2, d3] => { results := [.lit (.bool true)], args := [d1, d2, d3] }
  | _ => none }
def fnExactHoldsInRow : OpenClaim := { program := "yticlpjljcedfmaa", sum := "3c14e9152856fdd9b0aa200c9b30d2305c552e902c3dd1419f21e99b8c992aaf", func := "loop.example/g00916/laws.FnExactHoldsIn", spec := "fnExactHoldsIn", inPlace := ["internal/bytealg.IndexByteString"], unfollowed := true, recurses := true, apart := false }
def FnExactHoldsInSaid : Prop := fnExactHoldsInRow.holds Try.pinned (OpenSpec.ofChange fnExactHoldsInSpec)

/-- ITS FALSE NEIGHBOUR: 'it returns false'. Refute it at one input. -/
def fnExactHoldsInWrong : ChangeSpec := { name := "fnExactHoldsIn", fn := fun _ => fun
  | [d1, d2, d3] => { results := [.lit (.bool false)], args := [d1, d2, d3] }
  | _ => none }
def FnExactHoldsInWrongFalsely : Prop := fnExactHoldsInRow.holds Try.pinned (OpenSpec.ofChange fnExactHoldsInWrong)

/-- 'laws.FnExactIsCounterexample': WHATEVER THE INPUT: true; the input reads as it did. -/
def fnExactIsCounterexampleSpec : ChangeSpec := { name := "fnExactIsCounterexample", fn := fun _ => fun
  | [d1, d2, d3] => { results := [.lit (.bool true)], args := [d1, d2, d3] }
  | _ => none }
def fnExactIsCounterexampleRow : OpenClaim := { program := "yticlpjljcedfmaa", sum := "3c14e9152856fdd9b0aa200c9b30d2305c552e902c3dd1419f21e99b8c992aaf", func := "loop.example/g00916/laws.FnExactIsCounterexample", spec := "fnExactIsCounterexample", inPlace := ["internal/bytealg.IndexByteString"], unfollowed := true, recurses := true, apart := false }
def FnExactIsCounterexampleSaid : Prop := fnExactIsCounterexampleRow.holds Try.pinned (OpenSpec.ofChange fnExactIsCounterexampleSpec)

/-- ITS FALSE NEIGHBOUR: 'it returns false'. Refute it at one input. -/
def fnExactIsCounterexampleWrong : ChangeSpec := { name := "fnExactIsCounterexample", fn := fun _ => fun
  | [d1, d2, d3] => { results := [.lit (.bool false)], args := [d1, d2, d3] }
  | _ => none }
def FnExactIsCounterexampleWrongFalsely : Prop := fnExactIsCounterexampleRow.holds Try.pinned (OpenSpec.ofChange fnExactIsCounterexampleWrong)

/-- 'laws.FnExactEnabledRules': WHATEVER THE INPUT: true; the input reads as it did. -/
def fnExactEnabledRulesSpec : ChangeSpec := { name := "fnExactEnabledRules", fn := fun _ => fun
  | [d1, d2] => { results := [.lit (.bool true)], args := [d1, d2] }
  | _ => none }
def fnExactEnabledRulesRow : OpenClaim := { program := "yticlpjljcedfmaa", sum := "3c14e9152856fdd9b0aa200c9b30d2305c552e902c3dd1419f21e99b8c992aaf", func := "loop.example/g00916/laws.FnExactEnabledRules", spec := "fnExactEnabledRules", inPlace := ["internal/bytealg.IndexByteString"], unfollowed := true, recurses := true, apart := false }
def FnExactEnabledRulesSaid : Prop := fnExactEnabledRulesRow.holds Try.pinned (OpenSpec.ofChange fnExactEnabledRulesSpec)

/-- ITS FALSE NEIGHBOUR: 'it returns false'. Refute it at one input. -/
def fnExactEnabledRulesWrong : ChangeSpec := { name := "fnExactEnabledRules", fn := fun _ => fun
  | [d1, d2] => { results := [.lit (.bool false)], args := [d1, d2] }
  | _ => none }
def FnExactEnabledRulesWrongFalsely : Prop := fnExactEnabledRulesRow.holds Try.pinned (OpenSpec.ofChange fnExactEnabledRulesWrong)

/-- 'laws.FnExactApplyRule': WHATEVER THE INPUT: true; the input reads as it did. -/
def fnExactApplyRuleSpec : ChangeSpec := { name := "fnExactApplyRule", fn := fun _ => fun
  | [d1, d2, d3] => { results := [.lit (.bool true)], args := [d1, d2, d3] }
  | _ => none }
def fnExactApplyRuleRow : OpenClaim := { program := "yticlpjljcedfmaa", sum := "3c14e9152856fdd9b0aa200c9b30d2305c552e902c3dd1419f21e99b8c992aaf", func := "loop.example/g00916/laws.FnExactApplyRule", spec := "fnExactApplyRule", inPlace := ["internal/bytealg.IndexByteString"], unfollowed := true, recurses := true, apart := false }
def FnExactApplyRuleSaid : Prop := fnExactApplyRuleRow.holds Try.pinned (OpenSpec.ofChange fnExactApplyRuleSpec)

/-- ITS FALSE NEIGHBOUR: 'it returns false'. Refute it at one input. -/
def fnExactApplyRuleWrong : ChangeSpec := { name := "fnExactApplyRule", fn := fun _ => fun
  | [d1, d2, d3] => { results := [.lit (.bool false)], args := [d1, d2, d3] }
  | _ => none }
def FnExactApplyRuleWrongFalsely : Prop := fnExactApplyRuleRow.holds Try.pinned (OpenSpec.ofChange fnExactApplyRuleWrong)

/-- 'laws.FnExactFollowTrace': WHATEVER THE INPUT: true; the input reads as it did. -/
def fnExactFollowTraceSpec : ChangeSpec := { name := "fnExactFollowTrace", fn := fun _ => fun
  | [d1, d2] => { results := [.lit (.bool true)], args := [d1, d2] }
  | _ => none }
def fnExactFollowTraceRow : OpenClaim := { program := "yticlpjljcedfmaa", sum := "3c14e9152856fdd9b0aa200c9b30d2305c552e902c3dd1419f21e99b8c992aaf", func := "loop.example/g00916/laws.FnExactFollowTrace", spec := "fnExactFollowTrace", inPlace := ["internal/bytealg.IndexByteString"], unfollowed := true, recurses := true, apart := false }
def FnExactFollowTraceSaid : Prop := fnExactFollowTraceRow.holds Try.pinned (OpenSpec.ofChange fnExactFollowTraceSpec)

/-- ITS FALSE NEIGHBOUR: 'it returns false'. Refute it at one input. -/
def fnExactFollowTraceWrong : ChangeSpec := { name := "fnExactFollowTrace", fn := fun _ => fun
  | [d1, d2] => { results := [.lit (.bool false)], args := [d1, d2] }
  | _ => none }
def FnExactFollowTraceWrongFalsely : Prop := fnExactFollowTraceRow.holds Try.pinned (OpenSpec.ofChange fnExactFollowTraceWrong)

/- THE SECOND FORM. 'bulk': how many values and letters a reading holds, each counted each time it is reached (what is shared counts as often as it is met; a slice's spare places count too). A statement '..UptoSaid' is the law's where the arguments, and the package variables that the reading takes, are together of bulk at most 1048576: NARROWER than '..Said'. Prove '..Said' where nothing that the law and all that it calls make is longer than what came in: it says more and counts as full. Else prove '..UptoSaid'. A law counts once. -/
mutual
def uptoBulk {H : Type} : DataW H → Nat
  | .lit (.string bytes) => bytes.length + 1
  | .lit _ => 1
  | .nil => 1
  | .ptr d => uptoBulk d + 1
  | .slice elems spare => uptoBulkAll elems + uptoBulkAll spare + 1
  | .agg parts => uptoBulkAll parts + 1
  | .iface _ d => uptoBulk d + 1
  | .map entries => uptoBulkEntries entries + 1
  | .held _ => 1
def uptoBulkAll {H : Type} : List (DataW H) → Nat
  | [] => 0
  | d :: r => uptoBulk d + uptoBulkAll r
def uptoBulkEntries {H : Type} : List (Lit × DataW H) → Nat
  | [] => 0
  | x :: r => uptoBulkEntry x + uptoBulkEntries r
def uptoBulkEntry {H : Type} : Lit × DataW H → Nat
  | (.string bytes, d) => bytes.length + uptoBulk d + 1
  | (_, d) => uptoBulk d + 1
 end
def uptoSmall : (H : Type) → List (DataW H) → Bool := fun _ ds => decide (uptoBulkAll ds ≤ 1048576)
def OpenSpec.upto (s : _root_.Go.ChangeSpec) : _root_.Go.OpenSpec := { _root_.Go.OpenSpec.ofChange s with cond := some uptoSmall }

/-- 'laws.FnExactIsModel', WHERE WHAT IT READS IS OF BULK AT MOST 1048576: true; the input reads as it did. -/
def fnExactIsModelUptoRow : OpenClaim := { program := "yticlpjljcedfmaa", sum := "3c14e9152856fdd9b0aa200c9b30d2305c552e902c3dd1419f21e99b8c992aaf", func := "loop.example/g00916/laws.FnExactIsModel", spec := "fnExactIsModel", inPlace := ["internal/bytealg.IndexByteString"], unfollowed := true, recurses := true, apart := false, narrowed := true }
def FnExactIsModelUptoSaid : Prop := fnExactIsModelUptoRow.holds Try.pinned (OpenSpec.upto fnExactIsModelSpec)

/-- 'laws.FnExactCountTests', WHERE WHAT IT READS IS OF BULK AT MOST 1048576: true; the input reads as it did. -/
def fnExactCountTestsUptoRow : OpenClaim := { program := "yticlpjljcedfmaa", sum := "3c14e9152856fdd9b0aa200c9b30d2305c552e902c3dd1419f21e99b8c992aaf", func := "loop.example/g00916/laws.FnExactCountTests", spec := "fnExactCountTests", inPlace := ["internal/bytealg.IndexByteString"], unfollowed := true, recurses := true, apart := false, narrowed := true }
def FnExactCountTestsUptoSaid : Prop := fnExactCountTestsUptoRow.holds Try.pinned (OpenSpec.upto fnExactCountTestsSpec)

/-- 'laws.FnExactHoldsIn', WHERE WHAT IT READS IS OF BULK AT MOST 1048576: true; the input reads as it did. -/
def fnExactHoldsInUptoRow : OpenClaim := { program := "yticlpjljcedfmaa", sum := "3c14e9152856fdd9b0aa200c9b30d2305c552e902c3dd1419f21e99b8c992aaf", func := "loop.example/g00916/laws.FnExactHoldsIn", spec := "fnExactHoldsIn", inPlace := ["internal/bytealg.IndexByteString"], unfollowed := true, recurses := true, apart := false, narrowed := true }
def FnExactHoldsInUptoSaid : Prop := fnExactHoldsInUptoRow.holds Try.pinned (OpenSpec.upto fnExactHoldsInSpec)

/-- 'laws.FnExactIsCounterexample', WHERE WHAT IT READS IS OF BULK AT MOST 1048576: true; the input reads as it did. -/
def fnExactIsCounterexampleUptoRow : OpenClaim := { program := "yticlpjljcedfmaa", sum := "3c14e9152856fdd9b0aa200c9b30d2305c552e902c3dd1419f21e99b8c992aaf", func := "loop.example/g00916/laws.FnExactIsCounterexample", spec := "fnExactIsCounterexample", inPlace := ["internal/bytealg.IndexByteString"], unfollowed := true, recurses := true, apart := false, narrowed := true }
def FnExactIsCounterexampleUptoSaid : Prop := fnExactIsCounterexampleUptoRow.holds Try.pinned (OpenSpec.upto fnExactIsCounterexampleSpec)

/-- 'laws.FnExactEnabledRules', WHERE WHAT IT READS IS OF BULK AT MOST 1048576: true; the input reads as it did. -/
def fnExactEnabledRulesUptoRow : OpenClaim := { program := "yticlpjljcedfmaa", sum := "3c14e9152856fdd9b0aa200c9b30d2305c552e902c3dd1419f21e99b8c992aaf", func := "loop.example/g00916/laws.FnExactEnabledRules", spec := "fnExactEnabledRules", inPlace := ["internal/bytealg.IndexByteString"], unfollowed := true, recurses := true, apart := false, narrowed := true }
def FnExactEnabledRulesUptoSaid : Prop := fnExactEnabledRulesUptoRow.holds Try.pinned (OpenSpec.upto fnExactEnabledRulesSpec)

/-- 'laws.FnExactApplyRule', WHERE WHAT IT READS IS OF BULK AT MOST 1048576: true; the input reads as it did. -/
def fnExactApplyRuleUptoRow : OpenClaim := { program := "yticlpjljcedfmaa", sum := "3c14e9152856fdd9b0aa200c9b30d2305c552e902c3dd1419f21e99b8c992aaf", func := "loop.example/g00916/laws.FnExactApplyRule", spec := "fnExactApplyRule", inPlace := ["internal/bytealg.IndexByteString"], unfollowed := true, recurses := true, apart := false, narrowed := true }
def FnExactApplyRuleUptoSaid : Prop := fnExactApplyRuleUptoRow.holds Try.pinned (OpenSpec.upto fnExactApplyRuleSpec)

/-- 'laws.FnExactFollowTrace', WHERE WHAT IT READS IS OF BULK AT MOST 1048576: true; the input reads as it did. -/
def fnExactFollowTraceUptoRow : OpenClaim := { program := "yticlpjljcedfmaa", sum := "3c14e9152856fdd9b0aa200c9b30d2305c552e902c3dd1419f21e99b8c992aaf", func := "loop.example/g00916/laws.FnExactFollowTrace", spec := "fnExactFollowTrace", inPlace := ["internal/bytealg.IndexByteString"], unfollowed := true, recurses := true, apart := false, narrowed := true }
def FnExactFollowTraceUptoSaid : Prop := fnExactFollowTraceUptoRow.holds Try.pinned (OpenSpec.upto fnExactFollowTraceSpec)

end Rows
end Go.Proofs.Yticlpjljcedfmaa
