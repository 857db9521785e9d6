/-
  DERIVED. GIVEN WITH THE SEED: THE CARDS: each row of YtgpmglfcdbpgkaaGreatDoorRows.lean that lists a variable, with what it lists TIED to the program's text (the seventh form; the later family's looks); each row that meets fmt, with fmt's text TOLD by the authors' own Lean function (tested against real Go, not proved from fmt's source: count such statements apart). THE CARD IS WHAT COUNTS. Prove the row's statement (the work); the ties are given (YtgpmglfcdbpgkaaGreatDoorTie.lean); close each card by the builder's one call (the guide's Derived/Test/ToyasCard.lean, 'card_holds'). Laid BY PROGRAM, IN A SANDBOX (cutbox-door.mjs). By AI agents, Wed Nov 11 2026. No macro, syntax, notation, axiom, sorry.
-/
import Derived.Test.YtgpmglfcdbpgkaaGreatDoorRows
import GoSem.ClaimSeven
namespace Go.Proofs.YtgpmglfcdbpgkaaGreatDoor
namespace Rows

/-- THE TIED CARD OF 'laws.FnExactReadModel'. -/
def fnExactReadModelCard : Claim7 := { stood := { row := fnExactReadModelRow, standIns := [], harness := (true, "557956a19453c069399d42428f39a51d617f0e03697e0da424fd50f8ed85b179"), looks := true }, kinds := [], alts := [], laidByText := true, laidKinds := [.data, .data, .data, .data, .sentinel, .sentinel, .pinned], laidTests := true, laidLooks := .later }
def FnExactReadModelCardSaid : Prop := Claim7.holds Tryz.pinned (.plain (OpenSpec.ofChange fnExactReadModelSpec)) fnExactReadModelCard

/-- THE TIED CARD OF 'laws.FnModels'. -/
def fnModelsCard : Claim7 := { stood := { row := fnModelsRow, standIns := [], harness := (true, "557956a19453c069399d42428f39a51d617f0e03697e0da424fd50f8ed85b179"), looks := true }, kinds := [], alts := [], laidByText := true, laidKinds := [.data, .data, .data, .data, .sentinel, .sentinel, .pinned], laidTests := true, laidLooks := .later }
def FnModelsCardSaid : Prop := Claim7.holds Tryz.pinned (.plain (OpenSpec.ofChange fnModelsSpec)) fnModelsCard

/-- THE SECOND FORM's CARD OF 'laws.FnExactReadModel'. -/
def fnExactReadModelUptoCard : Claim7 := { stood := { row := fnExactReadModelUptoRow, standIns := [], harness := (true, "557956a19453c069399d42428f39a51d617f0e03697e0da424fd50f8ed85b179"), looks := true }, kinds := [], alts := [], laidByText := true, laidKinds := [.data, .data, .data, .data, .sentinel, .sentinel, .pinned], laidTests := true, laidLooks := .later }
def FnExactReadModelUptoCardSaid : Prop := Claim7.holds Tryz.pinned (.plain (OpenSpec.upto fnExactReadModelSpec)) fnExactReadModelUptoCard

/-- THE SECOND FORM's CARD OF 'laws.FnModels'. -/
def fnModelsUptoCard : Claim7 := { stood := { row := fnModelsUptoRow, standIns := [], harness := (true, "557956a19453c069399d42428f39a51d617f0e03697e0da424fd50f8ed85b179"), looks := true }, kinds := [], alts := [], laidByText := true, laidKinds := [.data, .data, .data, .data, .sentinel, .sentinel, .pinned], laidTests := true, laidLooks := .later }
def FnModelsUptoCardSaid : Prop := Claim7.holds Tryz.pinned (.plain (OpenSpec.upto fnModelsSpec)) fnModelsUptoCard
end Rows
end Go.Proofs.YtgpmglfcdbpgkaaGreatDoor
