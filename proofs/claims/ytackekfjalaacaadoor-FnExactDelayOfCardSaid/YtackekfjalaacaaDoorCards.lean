/-
  DERIVED. GIVEN WITH THE SEED: THE CARDS: each row of YtackekfjalaacaaDoorRows.lean that lists a variable, with what it lists TIED to the program's text (the seventh form; the later family's looks); each row that meets fmt, with fmt's text TOLD by the authors' own Lean function (tested against real Go, not proved from fmt's source: count such statements apart). THE CARD IS WHAT COUNTS. Prove the row's statement (the work); the ties are given (YtackekfjalaacaaDoorTie.lean); close each card by the builder's one call (the guide's Derived/Test/ToyasCard.lean, 'card_holds'). Laid BY PROGRAM, IN A SANDBOX (cutbox-door.mjs). By AI agents, Wed Nov 11 2026. No macro, syntax, notation, axiom, sorry.
-/
import Derived.Test.YtackekfjalaacaaDoorRows
import GoSem.ClaimSeven
namespace Go.Proofs.YtackekfjalaacaaDoor
namespace Rows

/-- THE TIED CARD OF 'laws.FnExactDelayOf'. -/
def fnExactDelayOfCard : Claim7 := { stood := { row := fnExactDelayOfRow, standIns := [], harness := (true, "a6d5054f08c509deac6292bf0b14c86026a12b8c6a57629be9784bd292cbfa9e"), looks := false }, kinds := [], alts := [], laidByText := true, laidKinds := [.widerDeep], laidTests := true, laidLooks := .later }
def FnExactDelayOfCardSaid : Prop := Claim7.holds Tryd.pinned (.plain (OpenSpec.ofChange fnExactDelayOfSpec)) fnExactDelayOfCard

/-- THE SECOND FORM's CARD OF 'laws.FnExactDelayOf'. -/
def fnExactDelayOfUptoCard : Claim7 := { stood := { row := fnExactDelayOfUptoRow, standIns := [], harness := (true, "a6d5054f08c509deac6292bf0b14c86026a12b8c6a57629be9784bd292cbfa9e"), looks := false }, kinds := [], alts := [], laidByText := true, laidKinds := [.widerDeep], laidTests := true, laidLooks := .later }
def FnExactDelayOfUptoCardSaid : Prop := Claim7.holds Tryd.pinned (.plain (OpenSpec.upto fnExactDelayOfSpec)) fnExactDelayOfUptoCard
end Rows
end Go.Proofs.YtackekfjalaacaaDoor
