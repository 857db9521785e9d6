/-
  DERIVED. GIVEN WITH THE SEED: THE CARDS: each row of YteengjcplmjakaaGreatDoorRows.lean that lists a variable, with what it lists TIED to the program's text (the seventh form; the later family's looks); each row that meets fmt, with fmt's text TOLD by the authors' own Lean function (tested against real Go, not proved from fmt's source: count such statements apart). THE CARD IS WHAT COUNTS. Prove the row's statement (the work); the ties are given (YteengjcplmjakaaGreatDoorTie.lean); close each card by the builder's one call (the guide's Derived/Test/ToyasCard.lean, 'card_holds'). Laid BY PROGRAM, IN A SANDBOX (cutbox-door.mjs). By AI agents, Wed Nov 11 2026. No macro, syntax, notation, axiom, sorry.
-/
import Derived.Test.YteengjcplmjakaaGreatDoorRows
import GoSem.ClaimSeven
namespace Go.Proofs.YteengjcplmjakaaGreatDoor
namespace Rows

/-- THE TIED CARD OF 'laws.FnTimes'. -/
def fnTimesCard : Claim7 := { stood := { row := fnTimesRow, standIns := [], harness := (true, "fa8df97568323f3047536124c717d00a2156d6f25e8d570efe5449f0fec275db"), looks := false }, kinds := [], alts := [], laidByText := true, laidKinds := [.widerDeep], laidTests := true, laidLooks := .later }
def FnTimesCardSaid : Prop := Claim7.holds Tryz.pinned (.plain (OpenSpec.ofChange fnTimesSpec)) fnTimesCard

/-- THE TIED CARD OF 'laws.FnFaultyBlocks'. -/
def fnFaultyBlocksCard : Claim7 := { stood := { row := fnFaultyBlocksRow, standIns := [], harness := (true, "fa8df97568323f3047536124c717d00a2156d6f25e8d570efe5449f0fec275db"), looks := false }, kinds := [], alts := [], laidByText := true, laidKinds := [.widerDeep], laidTests := true, laidLooks := .later }
def FnFaultyBlocksCardSaid : Prop := Claim7.holds Tryz.pinned (.plain (OpenSpec.ofChange fnFaultyBlocksSpec)) fnFaultyBlocksCard

/-- THE TIED CARD OF 'laws.FnReactions'. -/
def fnReactionsCard : Claim7 := { stood := { row := fnReactionsRow, standIns := [], harness := (true, "fa8df97568323f3047536124c717d00a2156d6f25e8d570efe5449f0fec275db"), looks := false }, kinds := [], alts := [], laidByText := true, laidKinds := [.widerDeep], laidTests := true, laidLooks := .later }
def FnReactionsCardSaid : Prop := Claim7.holds Tryz.pinned (.plain (OpenSpec.ofChange fnReactionsSpec)) fnReactionsCard

/-- THE SECOND FORM's CARD OF 'laws.FnTimes'. -/
def fnTimesUptoCard : Claim7 := { stood := { row := fnTimesUptoRow, standIns := [], harness := (true, "fa8df97568323f3047536124c717d00a2156d6f25e8d570efe5449f0fec275db"), looks := false }, kinds := [], alts := [], laidByText := true, laidKinds := [.widerDeep], laidTests := true, laidLooks := .later }
def FnTimesUptoCardSaid : Prop := Claim7.holds Tryz.pinned (.plain (OpenSpec.upto fnTimesSpec)) fnTimesUptoCard

/-- THE SECOND FORM's CARD OF 'laws.FnFaultyBlocks'. -/
def fnFaultyBlocksUptoCard : Claim7 := { stood := { row := fnFaultyBlocksUptoRow, standIns := [], harness := (true, "fa8df97568323f3047536124c717d00a2156d6f25e8d570efe5449f0fec275db"), looks := false }, kinds := [], alts := [], laidByText := true, laidKinds := [.widerDeep], laidTests := true, laidLooks := .later }
def FnFaultyBlocksUptoCardSaid : Prop := Claim7.holds Tryz.pinned (.plain (OpenSpec.upto fnFaultyBlocksSpec)) fnFaultyBlocksUptoCard

/-- THE SECOND FORM's CARD OF 'laws.FnReactions'. -/
def fnReactionsUptoCard : Claim7 := { stood := { row := fnReactionsUptoRow, standIns := [], harness := (true, "fa8df97568323f3047536124c717d00a2156d6f25e8d570efe5449f0fec275db"), looks := false }, kinds := [], alts := [], laidByText := true, laidKinds := [.widerDeep], laidTests := true, laidLooks := .later }
def FnReactionsUptoCardSaid : Prop := Claim7.holds Tryz.pinned (.plain (OpenSpec.upto fnReactionsSpec)) fnReactionsUptoCard
end Rows
end Go.Proofs.YteengjcplmjakaaGreatDoor
