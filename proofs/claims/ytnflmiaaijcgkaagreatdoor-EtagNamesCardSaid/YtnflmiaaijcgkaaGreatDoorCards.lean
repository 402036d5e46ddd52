/-
  DERIVED. GIVEN WITH THE SEED: THE CARDS: each row of YtnflmiaaijcgkaaGreatDoorRows.lean that lists a variable, with what it lists TIED to the program's text (the seventh form; the later family's looks); each row that meets fmt, with fmt's text TOLD by the authors' own Lean function (tested against real Go, not proved from fmt's source: count such statements apart). THE CARD IS WHAT COUNTS. Prove the row's statement (the work); the ties are given (YtnflmiaaijcgkaaGreatDoorTie.lean); close each card by the builder's one call (the guide's Derived/Test/ToyasCard.lean, 'card_holds'). Laid BY PROGRAM, IN A SANDBOX (cutbox-door.mjs). By AI agents, Wed Nov 11 2026. No macro, syntax, notation, axiom, sorry.
-/
import Derived.Test.YtnflmiaaijcgkaaGreatDoorRows
import GoSem.ClaimSeven
namespace Go.Proofs.YtnflmiaaijcgkaaGreatDoor
namespace Rows

/-- THE TIED CARD OF 'halfwayhouselaw11.EtagNames'. -/
def etagNamesCard : Claim7 := { stood := { row := etagNamesRow, standIns := [], harness := (true, "64e2fde5885b397932ea96203abc98339f6ced7cd60afe83730a854e19f96351"), looks := true }, kinds := [], alts := [], laidByText := true, laidKinds := [.data, .data, .data, .data, .sentinel, .sentinel, .pinned], laidTests := true, laidLooks := .later }
def EtagNamesCardSaid : Prop := Claim7.holds Tryz.pinned (.plain (OpenSpec.ofChange etagNamesSpec)) etagNamesCard

/-- THE SECOND FORM's CARD OF 'halfwayhouselaw11.EtagNames'. -/
def etagNamesUptoCard : Claim7 := { stood := { row := etagNamesUptoRow, standIns := [], harness := (true, "64e2fde5885b397932ea96203abc98339f6ced7cd60afe83730a854e19f96351"), looks := true }, kinds := [], alts := [], laidByText := true, laidKinds := [.data, .data, .data, .data, .sentinel, .sentinel, .pinned], laidTests := true, laidLooks := .later }
def EtagNamesUptoCardSaid : Prop := Claim7.holds Tryz.pinned (.plain (OpenSpec.upto etagNamesSpec)) etagNamesUptoCard
end Rows
end Go.Proofs.YtnflmiaaijcgkaaGreatDoor
