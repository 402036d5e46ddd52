/-
  DERIVED. GIVEN WITH THE SEED: THE CARDS: each row of YtiobbjbodpkpjaaDoorRows.lean that lists a variable, with what it lists TIED to the program's text (the seventh form; the later family's looks); each row that meets fmt, with fmt's text TOLD by the authors' own Lean function (tested against real Go, not proved from fmt's source: count such statements apart). THE CARD IS WHAT COUNTS. Prove the row's statement (the work); the ties are given (YtiobbjbodpkpjaaDoorTie.lean); close each card by the builder's one call (the guide's Derived/Test/ToyasCard.lean, 'card_holds'). Laid BY PROGRAM, IN A SANDBOX (cutbox-door.mjs). By AI agents, Wed Nov 11 2026. No macro, syntax, notation, axiom, sorry.
-/
import Derived.Test.YtiobbjbodpkpjaaDoorRows
import GoSem.ClaimSeven
namespace Go.Proofs.YtiobbjbodpkpjaaDoor
namespace Rows

/-- THE TIED CARD OF 'halfwayhouselaw04.FramingBare'. -/
def framingBareCard : Claim7 := { stood := { row := framingBareRow, standIns := [], harness := (true, "ccf78b99a3b0814bb967c4f158f0a58032aea4eae15e45eefe9cc7641862b80a"), looks := true }, kinds := [], alts := [], laidByText := true, laidKinds := [.data, .data, .data, .data, .sentinel, .sentinel, .pinned], laidTests := true, laidLooks := .later }
def FramingBareCardSaid : Prop := Claim7.holds Tryd.pinned (.plain (OpenSpec.ofChange framingBareSpec)) framingBareCard

/-- THE TIED CARD OF 'halfwayhouselaw04.FramingOne'. -/
def framingOneCard : Claim7 := { stood := { row := framingOneRow, standIns := [], harness := (true, "ccf78b99a3b0814bb967c4f158f0a58032aea4eae15e45eefe9cc7641862b80a"), looks := true }, kinds := [], alts := [], laidByText := true, laidKinds := [.data, .data, .data, .data, .sentinel, .sentinel, .pinned], laidTests := true, laidLooks := .later }
def FramingOneCardSaid : Prop := Claim7.holds Tryd.pinned (.plain (OpenSpec.ofChange framingOneSpec)) framingOneCard

/-- THE TIED CARD OF 'halfwayhouselaw04.FramingLengths'. -/
def framingLengthsCard : Claim7 := { stood := { row := framingLengthsRow, standIns := [], harness := (true, "ccf78b99a3b0814bb967c4f158f0a58032aea4eae15e45eefe9cc7641862b80a"), looks := true }, kinds := [], alts := [], laidByText := true, laidKinds := [.data, .data, .data, .data, .sentinel, .sentinel, .pinned], laidTests := true, laidLooks := .later }
def FramingLengthsCardSaid : Prop := Claim7.holds Tryd.pinned (.plain (OpenSpec.ofChange framingLengthsSpec)) framingLengthsCard

/-- THE SECOND FORM's CARD OF 'halfwayhouselaw04.FramingBare'. -/
def framingBareUptoCard : Claim7 := { stood := { row := framingBareUptoRow, standIns := [], harness := (true, "ccf78b99a3b0814bb967c4f158f0a58032aea4eae15e45eefe9cc7641862b80a"), looks := true }, kinds := [], alts := [], laidByText := true, laidKinds := [.data, .data, .data, .data, .sentinel, .sentinel, .pinned], laidTests := true, laidLooks := .later }
def FramingBareUptoCardSaid : Prop := Claim7.holds Tryd.pinned (.plain (OpenSpec.upto framingBareSpec)) framingBareUptoCard

/-- THE SECOND FORM's CARD OF 'halfwayhouselaw04.FramingOne'. -/
def framingOneUptoCard : Claim7 := { stood := { row := framingOneUptoRow, standIns := [], harness := (true, "ccf78b99a3b0814bb967c4f158f0a58032aea4eae15e45eefe9cc7641862b80a"), looks := true }, kinds := [], alts := [], laidByText := true, laidKinds := [.data, .data, .data, .data, .sentinel, .sentinel, .pinned], laidTests := true, laidLooks := .later }
def FramingOneUptoCardSaid : Prop := Claim7.holds Tryd.pinned (.plain (OpenSpec.upto framingOneSpec)) framingOneUptoCard

/-- THE SECOND FORM's CARD OF 'halfwayhouselaw04.FramingLengths'. -/
def framingLengthsUptoCard : Claim7 := { stood := { row := framingLengthsUptoRow, standIns := [], harness := (true, "ccf78b99a3b0814bb967c4f158f0a58032aea4eae15e45eefe9cc7641862b80a"), looks := true }, kinds := [], alts := [], laidByText := true, laidKinds := [.data, .data, .data, .data, .sentinel, .sentinel, .pinned], laidTests := true, laidLooks := .later }
def FramingLengthsUptoCardSaid : Prop := Claim7.holds Tryd.pinned (.plain (OpenSpec.upto framingLengthsSpec)) framingLengthsUptoCard
end Rows
end Go.Proofs.YtiobbjbodpkpjaaDoor
