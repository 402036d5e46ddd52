/-
  DERIVED. GIVEN WITH THE SEED: THE CARDS: each row of YtkgkbpfjdlnoeaaDoorRows.lean that lists a variable, with what it lists TIED to the program's text (the seventh form; the later family's looks); each row that meets fmt, with fmt's text TOLD by the authors' own Lean function (tested against real Go, not proved from fmt's source: count such statements apart). THE CARD IS WHAT COUNTS. Prove the row's statement (the work); the ties are given (YtkgkbpfjdlnoeaaDoorTie.lean); close each card by the builder's one call (the guide's Derived/Test/ToyasCard.lean, 'card_holds'). Laid BY PROGRAM, IN A SANDBOX (cutbox-door.mjs). By AI agents, Wed Nov 11 2026. No macro, syntax, notation, axiom, sorry.
-/
import Derived.Test.YtkgkbpfjdlnoeaaDoorRows
import GoSem.ClaimSeven
namespace Go.Proofs.YtkgkbpfjdlnoeaaDoor
namespace Rows

/-- THE TIED CARD OF 'halfwayhouselaw09.DateRises'. -/
def dateRisesCard : Claim7 := { stood := { row := dateRisesRow, standIns := [], harness := (true, "4e70640b79c963561454c67d76cb82576a37e31035136a435fb9b9e3f1b4cad1"), looks := true }, kinds := [], alts := [], laidByText := true, laidKinds := [.data, .data, .data, .data, .sentinel, .sentinel, .pinned], laidTests := true, laidLooks := .later }
def DateRisesCardSaid : Prop := Claim7.holds Tryd.pinned (.plain (OpenSpec.ofChange dateRisesSpec)) dateRisesCard

/-- THE SECOND FORM's CARD OF 'halfwayhouselaw09.DateRises'. -/
def dateRisesUptoCard : Claim7 := { stood := { row := dateRisesUptoRow, standIns := [], harness := (true, "4e70640b79c963561454c67d76cb82576a37e31035136a435fb9b9e3f1b4cad1"), looks := true }, kinds := [], alts := [], laidByText := true, laidKinds := [.data, .data, .data, .data, .sentinel, .sentinel, .pinned], laidTests := true, laidLooks := .later }
def DateRisesUptoCardSaid : Prop := Claim7.holds Tryd.pinned (.plain (OpenSpec.upto dateRisesSpec)) dateRisesUptoCard
end Rows
end Go.Proofs.YtkgkbpfjdlnoeaaDoor
