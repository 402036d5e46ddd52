/-
  DERIVED. GIVEN WITH THE SEED: THE CARDS: each row of YtnflmiaaijcgkaaDoorRows.lean that lists a variable, with what it lists TIED to the program's text (the seventh form; the later family's looks); each row that meets fmt, with fmt's text TOLD by the authors' own Lean function (tested against real Go, not proved from fmt's source: count such statements apart). THE CARD IS WHAT COUNTS. Prove the row's statement (the work); the ties are given (YtnflmiaaijcgkaaDoorTie.lean); close each card by the builder's one call (the guide's Derived/Test/ToyasCard.lean, 'card_holds'). Laid BY PROGRAM, IN A SANDBOX (cutbox-door.mjs). By AI agents, Wed Nov 11 2026. No macro, syntax, notation, axiom, sorry.
-/
import Derived.Test.YtnflmiaaijcgkaaDoorRows
import GoSem.ClaimSeven
namespace Go.Proofs.YtnflmiaaijcgkaaDoor
namespace Rows

/-- THE TIED CARD OF 'halfwayhouselaw09.DateNames'. -/
def dateNamesCard : Claim7 := { stood := { row := dateNamesRow, standIns := [], harness := (true, "3675e4ea5bf71fa0005ed58bb84d3a36810656fa4a9f92e41915a4884c474c73"), looks := true }, kinds := [], alts := [], laidByText := true, laidKinds := [.data, .data, .data, .data, .sentinel, .sentinel, .pinned], laidTests := true, laidLooks := .later }
def DateNamesCardSaid : Prop := Claim7.holds Tryd.pinned (.plain (OpenSpec.ofChange dateNamesSpec)) dateNamesCard

/-- THE TIED CARD OF 'halfwayhouselaw04.FramingNames'. -/
def framingNamesCard : Claim7 := { stood := { row := framingNamesRow, standIns := [], harness := (true, "3675e4ea5bf71fa0005ed58bb84d3a36810656fa4a9f92e41915a4884c474c73"), looks := true }, kinds := [], alts := [], laidByText := true, laidKinds := [.data, .data, .data, .data, .sentinel, .sentinel, .pinned], laidTests := true, laidLooks := .later }
def FramingNamesCardSaid : Prop := Claim7.holds Tryd.pinned (.plain (OpenSpec.ofChange framingNamesSpec)) framingNamesCard

/-- THE SECOND FORM's CARD OF 'halfwayhouselaw09.DateNames'. -/
def dateNamesUptoCard : Claim7 := { stood := { row := dateNamesUptoRow, standIns := [], harness := (true, "3675e4ea5bf71fa0005ed58bb84d3a36810656fa4a9f92e41915a4884c474c73"), looks := true }, kinds := [], alts := [], laidByText := true, laidKinds := [.data, .data, .data, .data, .sentinel, .sentinel, .pinned], laidTests := true, laidLooks := .later }
def DateNamesUptoCardSaid : Prop := Claim7.holds Tryd.pinned (.plain (OpenSpec.upto dateNamesSpec)) dateNamesUptoCard

/-- THE SECOND FORM's CARD OF 'halfwayhouselaw04.FramingNames'. -/
def framingNamesUptoCard : Claim7 := { stood := { row := framingNamesUptoRow, standIns := [], harness := (true, "3675e4ea5bf71fa0005ed58bb84d3a36810656fa4a9f92e41915a4884c474c73"), looks := true }, kinds := [], alts := [], laidByText := true, laidKinds := [.data, .data, .data, .data, .sentinel, .sentinel, .pinned], laidTests := true, laidLooks := .later }
def FramingNamesUptoCardSaid : Prop := Claim7.holds Tryd.pinned (.plain (OpenSpec.upto framingNamesSpec)) framingNamesUptoCard
end Rows
end Go.Proofs.YtnflmiaaijcgkaaDoor
