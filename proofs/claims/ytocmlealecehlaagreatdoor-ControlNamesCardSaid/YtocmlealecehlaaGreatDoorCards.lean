/-
  DERIVED. GIVEN WITH THE SEED: THE CARDS: each row of YtocmlealecehlaaGreatDoorRows.lean that lists a variable, with what it lists TIED to the program's text (the seventh form; the later family's looks); each row that meets fmt, with fmt's text TOLD by the authors' own Lean function (tested against real Go, not proved from fmt's source: count such statements apart). THE CARD IS WHAT COUNTS. Prove the row's statement (the work); the ties are given (YtocmlealecehlaaGreatDoorTie.lean); close each card by the builder's one call (the guide's Derived/Test/ToyasCard.lean, 'card_holds'). Laid BY PROGRAM, IN A SANDBOX (cutbox-door.mjs). By AI agents, Wed Nov 11 2026. No macro, syntax, notation, axiom, sorry.
-/
import Derived.Test.YtocmlealecehlaaGreatDoorRows
import GoSem.ClaimSeven
namespace Go.Proofs.YtocmlealecehlaaGreatDoor
namespace Rows

/-- THE TIED CARD OF 'halfwayhouselaw10.ControlNames'. -/
def controlNamesCard : Claim7 := { stood := { row := controlNamesRow, standIns := [], harness := (true, "518f29f6f438867204df431d49c834d046129694f8654c23428053564b323b46"), looks := true }, kinds := [], alts := [], laidByText := true, laidKinds := [.data, .data, .data, .data, .sentinel, .sentinel, .pinned], laidTests := true, laidLooks := .later }
def ControlNamesCardSaid : Prop := Claim7.holds Tryz.pinned (.plain (OpenSpec.ofChange controlNamesSpec)) controlNamesCard

/-- THE TIED CARD OF 'halfwayhouselaw17.ReviseNames'. -/
def reviseNamesCard : Claim7 := { stood := { row := reviseNamesRow, standIns := [], harness := (true, "518f29f6f438867204df431d49c834d046129694f8654c23428053564b323b46"), looks := true }, kinds := [], alts := [], laidByText := true, laidKinds := [.data, .data, .data, .data, .sentinel, .sentinel, .pinned], laidTests := true, laidLooks := .later }
def ReviseNamesCardSaid : Prop := Claim7.holds Tryz.pinned (.plain (OpenSpec.ofChange reviseNamesSpec)) reviseNamesCard

/-- THE SECOND FORM's CARD OF 'halfwayhouselaw10.ControlNames'. -/
def controlNamesUptoCard : Claim7 := { stood := { row := controlNamesUptoRow, standIns := [], harness := (true, "518f29f6f438867204df431d49c834d046129694f8654c23428053564b323b46"), looks := true }, kinds := [], alts := [], laidByText := true, laidKinds := [.data, .data, .data, .data, .sentinel, .sentinel, .pinned], laidTests := true, laidLooks := .later }
def ControlNamesUptoCardSaid : Prop := Claim7.holds Tryz.pinned (.plain (OpenSpec.upto controlNamesSpec)) controlNamesUptoCard

/-- THE SECOND FORM's CARD OF 'halfwayhouselaw17.ReviseNames'. -/
def reviseNamesUptoCard : Claim7 := { stood := { row := reviseNamesUptoRow, standIns := [], harness := (true, "518f29f6f438867204df431d49c834d046129694f8654c23428053564b323b46"), looks := true }, kinds := [], alts := [], laidByText := true, laidKinds := [.data, .data, .data, .data, .sentinel, .sentinel, .pinned], laidTests := true, laidLooks := .later }
def ReviseNamesUptoCardSaid : Prop := Claim7.holds Tryz.pinned (.plain (OpenSpec.upto reviseNamesSpec)) reviseNamesUptoCard
end Rows
end Go.Proofs.YtocmlealecehlaaGreatDoor
