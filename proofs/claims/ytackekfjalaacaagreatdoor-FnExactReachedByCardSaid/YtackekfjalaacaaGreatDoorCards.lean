/-
  DERIVED. GIVEN WITH THE SEED: THE CARDS: each row of YtackekfjalaacaaGreatDoorRows.lean that lists a variable, with what it lists TIED to the program's text (the seventh form; the later family's looks); each row that meets fmt, with fmt's text TOLD by the authors' own Lean function (tested against real Go, not proved from fmt's source: count such statements apart). THE CARD IS WHAT COUNTS. Prove the row's statement (the work); the ties are given (YtackekfjalaacaaGreatDoorTie.lean); close each card by the builder's one call (the guide's Derived/Test/ToyasCard.lean, 'card_holds'). Laid BY PROGRAM, IN A SANDBOX (cutbox-door.mjs). By AI agents, Wed Nov 11 2026. No macro, syntax, notation, axiom, sorry.
-/
import Derived.Test.YtackekfjalaacaaGreatDoorRows
import GoSem.ClaimSeven
namespace Go.Proofs.YtackekfjalaacaaGreatDoor
namespace Rows

/-- THE TIED CARD OF 'laws.FnExactReachedBy'. -/
def fnExactReachedByCard : Claim7 := { stood := { row := fnExactReachedByRow, standIns := [], harness := (true, "20b863515ebef36cbdd9fb05c4cfb7a79dddd0bf44757eaf8aee3ed349495cc0"), looks := false }, kinds := [], alts := [], laidByText := true, laidKinds := [.widerDeep], laidTests := true, laidLooks := .later }
def FnExactReachedByCardSaid : Prop := Claim7.holds Tryz.pinned (.plain (OpenSpec.ofChange fnExactReachedBySpec)) fnExactReachedByCard

/-- THE TIED CARD OF 'laws.FnExactReactionTime'. -/
def fnExactReactionTimeCard : Claim7 := { stood := { row := fnExactReactionTimeRow, standIns := [], harness := (true, "20b863515ebef36cbdd9fb05c4cfb7a79dddd0bf44757eaf8aee3ed349495cc0"), looks := false }, kinds := [], alts := [], laidByText := true, laidKinds := [.widerDeep], laidTests := true, laidLooks := .later }
def FnExactReactionTimeCardSaid : Prop := Claim7.holds Tryz.pinned (.plain (OpenSpec.ofChange fnExactReactionTimeSpec)) fnExactReactionTimeCard

/-- THE TIED CARD OF 'laws.FnReactions'. -/
def fnReactionsCard : Claim7 := { stood := { row := fnReactionsRow, standIns := [], harness := (true, "20b863515ebef36cbdd9fb05c4cfb7a79dddd0bf44757eaf8aee3ed349495cc0"), looks := false }, kinds := [], alts := [], laidByText := true, laidKinds := [.widerDeep], laidTests := true, laidLooks := .later }
def FnReactionsCardSaid : Prop := Claim7.holds Tryz.pinned (.plain (OpenSpec.ofChange fnReactionsSpec)) fnReactionsCard

/-- THE SECOND FORM's CARD OF 'laws.FnExactReachedBy'. -/
def fnExactReachedByUptoCard : Claim7 := { stood := { row := fnExactReachedByUptoRow, standIns := [], harness := (true, "20b863515ebef36cbdd9fb05c4cfb7a79dddd0bf44757eaf8aee3ed349495cc0"), looks := false }, kinds := [], alts := [], laidByText := true, laidKinds := [.widerDeep], laidTests := true, laidLooks := .later }
def FnExactReachedByUptoCardSaid : Prop := Claim7.holds Tryz.pinned (.plain (OpenSpec.upto fnExactReachedBySpec)) fnExactReachedByUptoCard

/-- THE SECOND FORM's CARD OF 'laws.FnExactReactionTime'. -/
def fnExactReactionTimeUptoCard : Claim7 := { stood := { row := fnExactReactionTimeUptoRow, standIns := [], harness := (true, "20b863515ebef36cbdd9fb05c4cfb7a79dddd0bf44757eaf8aee3ed349495cc0"), looks := false }, kinds := [], alts := [], laidByText := true, laidKinds := [.widerDeep], laidTests := true, laidLooks := .later }
def FnExactReactionTimeUptoCardSaid : Prop := Claim7.holds Tryz.pinned (.plain (OpenSpec.upto fnExactReactionTimeSpec)) fnExactReactionTimeUptoCard

/-- THE SECOND FORM's CARD OF 'laws.FnReactions'. -/
def fnReactionsUptoCard : Claim7 := { stood := { row := fnReactionsUptoRow, standIns := [], harness := (true, "20b863515ebef36cbdd9fb05c4cfb7a79dddd0bf44757eaf8aee3ed349495cc0"), looks := false }, kinds := [], alts := [], laidByText := true, laidKinds := [.widerDeep], laidTests := true, laidLooks := .later }
def FnReactionsUptoCardSaid : Prop := Claim7.holds Tryz.pinned (.plain (OpenSpec.upto fnReactionsSpec)) fnReactionsUptoCard
end Rows
end Go.Proofs.YtackekfjalaacaaGreatDoor
