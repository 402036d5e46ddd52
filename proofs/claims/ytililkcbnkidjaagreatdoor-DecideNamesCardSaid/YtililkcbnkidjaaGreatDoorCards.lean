/-
  DERIVED. GIVEN WITH THE SEED: THE CARDS: each row of YtililkcbnkidjaaGreatDoorRows.lean that lists a variable, with what it lists TIED to the program's text (the seventh form; the later family's looks); each row that meets fmt, with fmt's text TOLD by the authors' own Lean function (tested against real Go, not proved from fmt's source: count such statements apart). THE CARD IS WHAT COUNTS. Prove the row's statement (the work); the ties are given (YtililkcbnkidjaaGreatDoorTie.lean); close each card by the builder's one call (the guide's Derived/Test/ToyasCard.lean, 'card_holds'). Laid BY PROGRAM, IN A SANDBOX (cutbox-door.mjs). By AI agents, Wed Nov 11 2026. No macro, syntax, notation, axiom, sorry.
-/
import Derived.Test.YtililkcbnkidjaaGreatDoorRows
import GoSem.ClaimSeven
namespace Go.Proofs.YtililkcbnkidjaaGreatDoor
namespace Rows

/-- THE TIED CARD OF 'halfwayhouselaw10.ControlNames'. -/
def controlNamesCard : Claim7 := { stood := { row := controlNamesRow, standIns := [], harness := (true, "e473d2b13dae19374484f22b691f1ddd0cdc883c415608aa651c099ef2d19ca9"), looks := true }, kinds := [], alts := [], laidByText := true, laidKinds := [.data, .data, .data, .data, .sentinel, .sentinel, .pinned], laidTests := true, laidLooks := .later }
def ControlNamesCardSaid : Prop := Claim7.holds Tryz.pinned (.plain (OpenSpec.ofChange controlNamesSpec)) controlNamesCard

/-- THE TIED CARD OF 'halfwayhouselaw14.AgeNames'. -/
def ageNamesCard : Claim7 := { stood := { row := ageNamesRow, standIns := [], harness := (true, "e473d2b13dae19374484f22b691f1ddd0cdc883c415608aa651c099ef2d19ca9"), looks := true }, kinds := [], alts := [], laidByText := true, laidKinds := [.data, .data, .data, .data, .sentinel, .sentinel, .pinned], laidTests := true, laidLooks := .later }
def AgeNamesCardSaid : Prop := Claim7.holds Tryz.pinned (.plain (OpenSpec.ofChange ageNamesSpec)) ageNamesCard

/-- THE TIED CARD OF 'halfwayhouselaw15.DecideNames'. -/
def decideNamesCard : Claim7 := { stood := { row := decideNamesRow, standIns := [], harness := (true, "e473d2b13dae19374484f22b691f1ddd0cdc883c415608aa651c099ef2d19ca9"), looks := true }, kinds := [], alts := [], laidByText := true, laidKinds := [.data, .data, .data, .data, .sentinel, .sentinel, .pinned], laidTests := true, laidLooks := .later }
def DecideNamesCardSaid : Prop := Claim7.holds Tryz.pinned (.plain (OpenSpec.ofChange decideNamesSpec)) decideNamesCard

/-- THE SECOND FORM's CARD OF 'halfwayhouselaw10.ControlNames'. -/
def controlNamesUptoCard : Claim7 := { stood := { row := controlNamesUptoRow, standIns := [], harness := (true, "e473d2b13dae19374484f22b691f1ddd0cdc883c415608aa651c099ef2d19ca9"), looks := true }, kinds := [], alts := [], laidByText := true, laidKinds := [.data, .data, .data, .data, .sentinel, .sentinel, .pinned], laidTests := true, laidLooks := .later }
def ControlNamesUptoCardSaid : Prop := Claim7.holds Tryz.pinned (.plain (OpenSpec.upto controlNamesSpec)) controlNamesUptoCard

/-- THE SECOND FORM's CARD OF 'halfwayhouselaw14.AgeNames'. -/
def ageNamesUptoCard : Claim7 := { stood := { row := ageNamesUptoRow, standIns := [], harness := (true, "e473d2b13dae19374484f22b691f1ddd0cdc883c415608aa651c099ef2d19ca9"), looks := true }, kinds := [], alts := [], laidByText := true, laidKinds := [.data, .data, .data, .data, .sentinel, .sentinel, .pinned], laidTests := true, laidLooks := .later }
def AgeNamesUptoCardSaid : Prop := Claim7.holds Tryz.pinned (.plain (OpenSpec.upto ageNamesSpec)) ageNamesUptoCard

/-- THE SECOND FORM's CARD OF 'halfwayhouselaw15.DecideNames'. -/
def decideNamesUptoCard : Claim7 := { stood := { row := decideNamesUptoRow, standIns := [], harness := (true, "e473d2b13dae19374484f22b691f1ddd0cdc883c415608aa651c099ef2d19ca9"), looks := true }, kinds := [], alts := [], laidByText := true, laidKinds := [.data, .data, .data, .data, .sentinel, .sentinel, .pinned], laidTests := true, laidLooks := .later }
def DecideNamesUptoCardSaid : Prop := Claim7.holds Tryz.pinned (.plain (OpenSpec.upto decideNamesSpec)) decideNamesUptoCard
end Rows
end Go.Proofs.YtililkcbnkidjaaGreatDoor
