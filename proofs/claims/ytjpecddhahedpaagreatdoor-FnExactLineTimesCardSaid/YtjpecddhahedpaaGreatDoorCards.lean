/-
  DERIVED. GIVEN WITH THE SEED: THE CARDS: each row of YtjpecddhahedpaaGreatDoorRows.lean that lists a variable, with what it lists TIED to the program's text (the seventh form; the later family's looks); each row that meets fmt, with fmt's text TOLD by the authors' own Lean function (tested against real Go, not proved from fmt's source: count such statements apart). THE CARD IS WHAT COUNTS. Prove the row's statement (the work); the ties are given (YtjpecddhahedpaaGreatDoorTie.lean); close each card by the builder's one call (the guide's Derived/Test/ToyasCard.lean, 'card_holds'). Laid BY PROGRAM, IN A SANDBOX (cutbox-door.mjs). By AI agents, Wed Nov 11 2026. No macro, syntax, notation, axiom, sorry.
-/
import Derived.Test.YtjpecddhahedpaaGreatDoorRows
import GoSem.ClaimSeven
namespace Go.Proofs.YtjpecddhahedpaaGreatDoor
namespace Rows

/-- THE TIED CARD OF 'laws.FnExactLineTimes'. -/
def fnExactLineTimesCard : Claim7 := { stood := { row := fnExactLineTimesRow, standIns := [], harness := (true, "754588a78e25ff1c6169cba3522dc8f94a79c266cc688d9d8a58acd67b7d4877"), looks := false }, kinds := [], alts := [], laidByText := true, laidKinds := [.widerDeep], laidTests := true, laidLooks := .later }
def FnExactLineTimesCardSaid : Prop := Claim7.holds Tryz.pinned (.plain (OpenSpec.ofChange fnExactLineTimesSpec)) fnExactLineTimesCard

/-- THE TIED CARD OF 'laws.FnTimes'. -/
def fnTimesCard : Claim7 := { stood := { row := fnTimesRow, standIns := [], harness := (true, "754588a78e25ff1c6169cba3522dc8f94a79c266cc688d9d8a58acd67b7d4877"), looks := false }, kinds := [], alts := [], laidByText := true, laidKinds := [.widerDeep], laidTests := true, laidLooks := .later }
def FnTimesCardSaid : Prop := Claim7.holds Tryz.pinned (.plain (OpenSpec.ofChange fnTimesSpec)) fnTimesCard

/-- THE TIED CARD OF 'laws.FnFaultyBlocks'. -/
def fnFaultyBlocksCard : Claim7 := { stood := { row := fnFaultyBlocksRow, standIns := [], harness := (true, "754588a78e25ff1c6169cba3522dc8f94a79c266cc688d9d8a58acd67b7d4877"), looks := false }, kinds := [], alts := [], laidByText := true, laidKinds := [.widerDeep], laidTests := true, laidLooks := .later }
def FnFaultyBlocksCardSaid : Prop := Claim7.holds Tryz.pinned (.plain (OpenSpec.ofChange fnFaultyBlocksSpec)) fnFaultyBlocksCard

/-- THE SECOND FORM's CARD OF 'laws.FnExactLineTimes'. -/
def fnExactLineTimesUptoCard : Claim7 := { stood := { row := fnExactLineTimesUptoRow, standIns := [], harness := (true, "754588a78e25ff1c6169cba3522dc8f94a79c266cc688d9d8a58acd67b7d4877"), looks := false }, kinds := [], alts := [], laidByText := true, laidKinds := [.widerDeep], laidTests := true, laidLooks := .later }
def FnExactLineTimesUptoCardSaid : Prop := Claim7.holds Tryz.pinned (.plain (OpenSpec.upto fnExactLineTimesSpec)) fnExactLineTimesUptoCard

/-- THE SECOND FORM's CARD OF 'laws.FnTimes'. -/
def fnTimesUptoCard : Claim7 := { stood := { row := fnTimesUptoRow, standIns := [], harness := (true, "754588a78e25ff1c6169cba3522dc8f94a79c266cc688d9d8a58acd67b7d4877"), looks := false }, kinds := [], alts := [], laidByText := true, laidKinds := [.widerDeep], laidTests := true, laidLooks := .later }
def FnTimesUptoCardSaid : Prop := Claim7.holds Tryz.pinned (.plain (OpenSpec.upto fnTimesSpec)) fnTimesUptoCard

/-- THE SECOND FORM's CARD OF 'laws.FnFaultyBlocks'. -/
def fnFaultyBlocksUptoCard : Claim7 := { stood := { row := fnFaultyBlocksUptoRow, standIns := [], harness := (true, "754588a78e25ff1c6169cba3522dc8f94a79c266cc688d9d8a58acd67b7d4877"), looks := false }, kinds := [], alts := [], laidByText := true, laidKinds := [.widerDeep], laidTests := true, laidLooks := .later }
def FnFaultyBlocksUptoCardSaid : Prop := Claim7.holds Tryz.pinned (.plain (OpenSpec.upto fnFaultyBlocksSpec)) fnFaultyBlocksUptoCard
end Rows
end Go.Proofs.YtjpecddhahedpaaGreatDoor
