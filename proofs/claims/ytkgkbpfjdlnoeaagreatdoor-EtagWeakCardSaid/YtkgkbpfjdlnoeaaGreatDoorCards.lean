/-
  DERIVED. GIVEN WITH THE SEED: THE CARDS: each row of YtkgkbpfjdlnoeaaGreatDoorRows.lean that lists a variable, with what it lists TIED to the program's text (the seventh form; the later family's looks); each row that meets fmt, with fmt's text TOLD by the authors' own Lean function (tested against real Go, not proved from fmt's source: count such statements apart). THE CARD IS WHAT COUNTS. Prove the row's statement (the work); the ties are given (YtkgkbpfjdlnoeaaGreatDoorTie.lean); close each card by the builder's one call (the guide's Derived/Test/ToyasCard.lean, 'card_holds'). Laid BY PROGRAM, IN A SANDBOX (cutbox-door.mjs). By AI agents, Wed Nov 11 2026. No macro, syntax, notation, axiom, sorry.
-/
import Derived.Test.YtkgkbpfjdlnoeaaGreatDoorRows
import GoSem.ClaimSeven
namespace Go.Proofs.YtkgkbpfjdlnoeaaGreatDoor
namespace Rows

/-- THE TIED CARD OF 'halfwayhouselaw11.EtagWeak'. -/
def etagWeakCard : Claim7 := { stood := { row := etagWeakRow, standIns := [], harness := (true, "f4a2f2134874bcb368155bcf68f4fe58786aade145c84712360f0bc08f5e29bd"), looks := true }, kinds := [], alts := [], laidByText := true, laidKinds := [.data, .data, .data, .data, .sentinel, .sentinel, .pinned], laidTests := true, laidLooks := .later }
def EtagWeakCardSaid : Prop := Claim7.holds Tryz.pinned (.plain (OpenSpec.ofChange etagWeakSpec)) etagWeakCard

/-- THE SECOND FORM's CARD OF 'halfwayhouselaw11.EtagWeak'. -/
def etagWeakUptoCard : Claim7 := { stood := { row := etagWeakUptoRow, standIns := [], harness := (true, "f4a2f2134874bcb368155bcf68f4fe58786aade145c84712360f0bc08f5e29bd"), looks := true }, kinds := [], alts := [], laidByText := true, laidKinds := [.data, .data, .data, .data, .sentinel, .sentinel, .pinned], laidTests := true, laidLooks := .later }
def EtagWeakUptoCardSaid : Prop := Claim7.holds Tryz.pinned (.plain (OpenSpec.upto etagWeakSpec)) etagWeakUptoCard
end Rows
end Go.Proofs.YtkgkbpfjdlnoeaaGreatDoor
