/-
  DERIVED. GIVEN WITH THE SEED: THE CARDS: each row of YtgpmglfcdbpgkaaDoorRows.lean that lists a variable, with what it lists TIED to the program's text (the seventh form; the later family's looks); each row that meets fmt, with fmt's text TOLD by the authors' own Lean function (tested against real Go, not proved from fmt's source: count such statements apart). THE CARD IS WHAT COUNTS. Prove the row's statement (the work); the ties are given (YtgpmglfcdbpgkaaDoorTie.lean); close each card by the builder's one call (the guide's Derived/Test/ToyasCard.lean, 'card_holds'). Laid BY PROGRAM, IN A SANDBOX (cutbox-door.mjs). By AI agents, Wed Nov 11 2026. No macro, syntax, notation, axiom, sorry.
-/
import Derived.Test.YtgpmglfcdbpgkaaDoorRows
import GoSem.ClaimSeven
namespace Go.Proofs.YtgpmglfcdbpgkaaDoor
namespace Rows

/-- THE TIED CARD OF 'laws.FnExactModelText'. -/
def fnExactModelTextCard : Claim7 := { stood := { row := fnExactModelTextRow, standIns := [], harness := (true, "38a8ddc112010ba531bcfeb4e8d22857ece62b96a11bea7bc7bf2924e061dfb9"), looks := false }, kinds := [], alts := [], laidByText := true, laidKinds := [.data, .data, .data], laidTests := true, laidLooks := .later }
def FnExactModelTextCardSaid : Prop := Claim7.holds Tryd.pinned (.plain (OpenSpec.ofChange fnExactModelTextSpec)) fnExactModelTextCard

/-- THE SECOND FORM's CARD OF 'laws.FnExactModelText'. -/
def fnExactModelTextUptoCard : Claim7 := { stood := { row := fnExactModelTextUptoRow, standIns := [], harness := (true, "38a8ddc112010ba531bcfeb4e8d22857ece62b96a11bea7bc7bf2924e061dfb9"), looks := false }, kinds := [], alts := [], laidByText := true, laidKinds := [.data, .data, .data], laidTests := true, laidLooks := .later }
def FnExactModelTextUptoCardSaid : Prop := Claim7.holds Tryd.pinned (.plain (OpenSpec.upto fnExactModelTextSpec)) fnExactModelTextUptoCard
end Rows
end Go.Proofs.YtgpmglfcdbpgkaaDoor
