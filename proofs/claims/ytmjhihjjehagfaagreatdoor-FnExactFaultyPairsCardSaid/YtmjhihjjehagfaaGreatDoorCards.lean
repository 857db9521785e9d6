/-
  DERIVED. GIVEN WITH THE SEED: THE CARDS: each row of YtmjhihjjehagfaaGreatDoorRows.lean that lists a variable, with what it lists TIED to the program's text (the seventh form; the later family's looks); each row that meets fmt, with fmt's text TOLD by the authors' own Lean function (tested against real Go, not proved from fmt's source: count such statements apart). THE CARD IS WHAT COUNTS. Prove the row's statement (the work); the ties are given (YtmjhihjjehagfaaGreatDoorTie.lean); close each card by the builder's one call (the guide's Derived/Test/ToyasCard.lean, 'card_holds'). Laid BY PROGRAM, IN A SANDBOX (cutbox-door.mjs). By AI agents, Wed Nov 11 2026. No macro, syntax, notation, axiom, sorry.
-/
import Derived.Test.YtmjhihjjehagfaaGreatDoorRows
import GoSem.ClaimSeven
namespace Go.Proofs.YtmjhihjjehagfaaGreatDoor
namespace Rows

/-- THE TIED CARD OF 'laws.FnExactLineTimes'. -/
def fnExactLineTimesCard : Claim7 := { stood := { row := fnExactLineTimesRow, standIns := [], harness := (true, "449da991cba51a12b2af0191e0a5e442aa8684895f66135a3aa398d622866949"), looks := false }, kinds := [], alts := [], laidByText := true, laidKinds := [.widerDeep], laidTests := true, laidLooks := .later }
def FnExactLineTimesCardSaid : Prop := Claim7.holds Tryz.pinned (.plain (OpenSpec.ofChange fnExactLineTimesSpec)) fnExactLineTimesCard

/-- THE TIED CARD OF 'laws.FnExactFaultyPairs'. -/
def fnExactFaultyPairsCard : Claim7 := { stood := { row := fnExactFaultyPairsRow, standIns := [], harness := (true, "449da991cba51a12b2af0191e0a5e442aa8684895f66135a3aa398d622866949"), looks := false }, kinds := [], alts := [], laidByText := true, laidKinds := [.widerDeep], laidTests := true, laidLooks := .later }
def FnExactFaultyPairsCardSaid : Prop := Claim7.holds Tryz.pinned (.plain (OpenSpec.ofChange fnExactFaultyPairsSpec)) fnExactFaultyPairsCard

/-- THE SECOND FORM's CARD OF 'laws.FnExactLineTimes'. -/
def fnExactLineTimesUptoCard : Claim7 := { stood := { row := fnExactLineTimesUptoRow, standIns := [], harness := (true, "449da991cba51a12b2af0191e0a5e442aa8684895f66135a3aa398d622866949"), looks := false }, kinds := [], alts := [], laidByText := true, laidKinds := [.widerDeep], laidTests := true, laidLooks := .later }
def FnExactLineTimesUptoCardSaid : Prop := Claim7.holds Tryz.pinned (.plain (OpenSpec.upto fnExactLineTimesSpec)) fnExactLineTimesUptoCard

/-- THE SECOND FORM's CARD OF 'laws.FnExactFaultyPairs'. -/
def fnExactFaultyPairsUptoCard : Claim7 := { stood := { row := fnExactFaultyPairsUptoRow, standIns := [], harness := (true, "449da991cba51a12b2af0191e0a5e442aa8684895f66135a3aa398d622866949"), looks := false }, kinds := [], alts := [], laidByText := true, laidKinds := [.widerDeep], laidTests := true, laidLooks := .later }
def FnExactFaultyPairsUptoCardSaid : Prop := Claim7.holds Tryz.pinned (.plain (OpenSpec.upto fnExactFaultyPairsSpec)) fnExactFaultyPairsUptoCard
end Rows
end Go.Proofs.YtmjhihjjehagfaaGreatDoor
