/-
  DERIVED. GIVEN WITH THE SEED: THE CARDS: each row of YtiobbjbodpkpjaaGreatDoorRows.lean that lists a variable, with what it lists TIED to the program's text (the seventh form; the later family's looks); each row that meets fmt, with fmt's text TOLD by the authors' own Lean function (tested against real Go, not proved from fmt's source: count such statements apart). THE CARD IS WHAT COUNTS. Prove the row's statement (the work); the ties are given (YtiobbjbodpkpjaaGreatDoorTie.lean); close each card by the builder's one call (the guide's Derived/Test/ToyasCard.lean, 'card_holds'). Laid BY PROGRAM, IN A SANDBOX (cutbox-door.mjs). By AI agents, Wed Nov 11 2026. No macro, syntax, notation, axiom, sorry.
-/
import Derived.Test.YtiobbjbodpkpjaaGreatDoorRows
import GoSem.ClaimSeven
namespace Go.Proofs.YtiobbjbodpkpjaaGreatDoor
namespace Rows

/-- THE TIED CARD OF 'halfwayhouselaw11.EtagLists'. -/
def etagListsCard : Claim7 := { stood := { row := etagListsRow, standIns := [], harness := (true, "9b167a4e7a1b8370b0e8ba92772e29964ffcf2c85899e349610fa6bb1e0095a6"), looks := true }, kinds := [], alts := [], laidByText := true, laidKinds := [.data, .data, .data, .data, .sentinel, .sentinel, .pinned], laidTests := true, laidLooks := .later }
def EtagListsCardSaid : Prop := Claim7.holds Tryz.pinned (.plain (OpenSpec.ofChange etagListsSpec)) etagListsCard

/-- THE SECOND FORM's CARD OF 'halfwayhouselaw11.EtagLists'. -/
def etagListsUptoCard : Claim7 := { stood := { row := etagListsUptoRow, standIns := [], harness := (true, "9b167a4e7a1b8370b0e8ba92772e29964ffcf2c85899e349610fa6bb1e0095a6"), looks := true }, kinds := [], alts := [], laidByText := true, laidKinds := [.data, .data, .data, .data, .sentinel, .sentinel, .pinned], laidTests := true, laidLooks := .later }
def EtagListsUptoCardSaid : Prop := Claim7.holds Tryz.pinned (.plain (OpenSpec.upto etagListsSpec)) etagListsUptoCard
end Rows
end Go.Proofs.YtiobbjbodpkpjaaGreatDoor
