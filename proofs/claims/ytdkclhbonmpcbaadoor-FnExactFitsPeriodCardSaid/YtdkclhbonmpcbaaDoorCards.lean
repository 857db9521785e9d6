/-
  DERIVED. GIVEN WITH THE SEED: THE CARDS: each row of YtdkclhbonmpcbaaDoorRows.lean that lists a variable, with what it lists TIED to the program's text (the seventh form; the later family's looks); each row that meets fmt, with fmt's text TOLD by the authors' own Lean function (tested against real Go, not proved from fmt's source: count such statements apart). THE CARD IS WHAT COUNTS. Prove the row's statement (the work); the ties are given (YtdkclhbonmpcbaaDoorTie.lean); close each card by the builder's one call (the guide's Derived/Test/ToyasCard.lean, 'card_holds'). Laid BY PROGRAM, IN A SANDBOX (cutbox-door.mjs). By AI agents, Wed Nov 11 2026. No macro, syntax, notation, axiom, sorry.
-/
import Derived.Test.YtdkclhbonmpcbaaDoorRows
import GoSem.ClaimSeven
namespace Go.Proofs.YtdkclhbonmpcbaaDoor
namespace Rows

/-- THE TIED CARD OF 'laws.FnExactTimeOf'. -/
def fnExactTimeOfCard : Claim7 := { stood := { row := fnExactTimeOfRow, standIns := [], harness := (true, "1d6bb9c06c988ae21be3a1471fdbbffe092c11f621508808abef2190c65670fd"), looks := false }, kinds := [], alts := [], laidByText := true, laidKinds := [.widerDeep], laidTests := true, laidLooks := .later }
def FnExactTimeOfCardSaid : Prop := Claim7.holds Tryd.pinned (.plain (OpenSpec.ofChange fnExactTimeOfSpec)) fnExactTimeOfCard

/-- THE TIED CARD OF 'laws.FnExactScanTime'. -/
def fnExactScanTimeCard : Claim7 := { stood := { row := fnExactScanTimeRow, standIns := [], harness := (true, "1d6bb9c06c988ae21be3a1471fdbbffe092c11f621508808abef2190c65670fd"), looks := false }, kinds := [], alts := [], laidByText := true, laidKinds := [.widerDeep], laidTests := true, laidLooks := .later }
def FnExactScanTimeCardSaid : Prop := Claim7.holds Tryd.pinned (.plain (OpenSpec.ofChange fnExactScanTimeSpec)) fnExactScanTimeCard

/-- THE TIED CARD OF 'laws.FnExactFitsPeriod'. -/
def fnExactFitsPeriodCard : Claim7 := { stood := { row := fnExactFitsPeriodRow, standIns := [], harness := (true, "1d6bb9c06c988ae21be3a1471fdbbffe092c11f621508808abef2190c65670fd"), looks := false }, kinds := [], alts := [], laidByText := true, laidKinds := [.widerDeep], laidTests := true, laidLooks := .later }
def FnExactFitsPeriodCardSaid : Prop := Claim7.holds Tryd.pinned (.plain (OpenSpec.ofChange fnExactFitsPeriodSpec)) fnExactFitsPeriodCard

/-- THE SECOND FORM's CARD OF 'laws.FnExactTimeOf'. -/
def fnExactTimeOfUptoCard : Claim7 := { stood := { row := fnExactTimeOfUptoRow, standIns := [], harness := (true, "1d6bb9c06c988ae21be3a1471fdbbffe092c11f621508808abef2190c65670fd"), looks := false }, kinds := [], alts := [], laidByText := true, laidKinds := [.widerDeep], laidTests := true, laidLooks := .later }
def FnExactTimeOfUptoCardSaid : Prop := Claim7.holds Tryd.pinned (.plain (OpenSpec.upto fnExactTimeOfSpec)) fnExactTimeOfUptoCard

/-- THE SECOND FORM's CARD OF 'laws.FnExactScanTime'. -/
def fnExactScanTimeUptoCard : Claim7 := { stood := { row := fnExactScanTimeUptoRow, standIns := [], harness := (true, "1d6bb9c06c988ae21be3a1471fdbbffe092c11f621508808abef2190c65670fd"), looks := false }, kinds := [], alts := [], laidByText := true, laidKinds := [.widerDeep], laidTests := true, laidLooks := .later }
def FnExactScanTimeUptoCardSaid : Prop := Claim7.holds Tryd.pinned (.plain (OpenSpec.upto fnExactScanTimeSpec)) fnExactScanTimeUptoCard

/-- THE SECOND FORM's CARD OF 'laws.FnExactFitsPeriod'. -/
def fnExactFitsPeriodUptoCard : Claim7 := { stood := { row := fnExactFitsPeriodUptoRow, standIns := [], harness := (true, "1d6bb9c06c988ae21be3a1471fdbbffe092c11f621508808abef2190c65670fd"), looks := false }, kinds := [], alts := [], laidByText := true, laidKinds := [.widerDeep], laidTests := true, laidLooks := .later }
def FnExactFitsPeriodUptoCardSaid : Prop := Claim7.holds Tryd.pinned (.plain (OpenSpec.upto fnExactFitsPeriodSpec)) fnExactFitsPeriodUptoCard
end Rows
end Go.Proofs.YtdkclhbonmpcbaaDoor
