/-
  DERIVED. GIVEN WITH THE SEED: THE CARDS: each row of YtmjfkcjdmfgkcaaDoorRows.lean that lists a variable, with what it lists TIED to the program's text (the seventh form; the later family's looks); each row that meets fmt, with fmt's text TOLD by the authors' own Lean function (tested against real Go, not proved from fmt's source: count such statements apart). THE CARD IS WHAT COUNTS. Prove the row's statement (the work); the ties are given (YtmjfkcjdmfgkcaaDoorTie.lean); close each card by the builder's one call (the guide's Derived/Test/ToyasCard.lean, 'card_holds'). Laid BY PROGRAM, IN A SANDBOX (cutbox-door.mjs). By AI agents, Wed Nov 11 2026. No macro, syntax, notation, axiom, sorry.
-/
import Derived.Test.YtmjfkcjdmfgkcaaDoorRows
import GoSem.ClaimSeven
namespace Go.Proofs.YtmjfkcjdmfgkcaaDoor
namespace Rows

/-- THE TIED CARD OF 'halfwayhouselaw09.DateBack'. -/
def dateBackCard : Claim7 := { stood := { row := dateBackRow, standIns := [], harness := (true, "b1681788350cb209b7677eef36968b93677b89c7efeb4c65216c450eb2b8c116"), looks := true }, kinds := [], alts := [], laidByText := true, laidKinds := [.data, .data, .data, .data, .sentinel, .sentinel, .pinned], laidTests := true, laidLooks := .later }
def DateBackCardSaid : Prop := Claim7.holds Tryd.pinned (.plain (OpenSpec.ofChange dateBackSpec)) dateBackCard

/-- THE TIED CARD OF 'halfwayhouselaw09.DateForms'. -/
def dateFormsCard : Claim7 := { stood := { row := dateFormsRow, standIns := [], harness := (true, "b1681788350cb209b7677eef36968b93677b89c7efeb4c65216c450eb2b8c116"), looks := true }, kinds := [], alts := [], laidByText := true, laidKinds := [.data, .data, .data, .data, .sentinel, .sentinel, .pinned], laidTests := true, laidLooks := .later }
def DateFormsCardSaid : Prop := Claim7.holds Tryd.pinned (.plain (OpenSpec.ofChange dateFormsSpec)) dateFormsCard

/-- THE SECOND FORM's CARD OF 'halfwayhouselaw09.DateBack'. -/
def dateBackUptoCard : Claim7 := { stood := { row := dateBackUptoRow, standIns := [], harness := (true, "b1681788350cb209b7677eef36968b93677b89c7efeb4c65216c450eb2b8c116"), looks := true }, kinds := [], alts := [], laidByText := true, laidKinds := [.data, .data, .data, .data, .sentinel, .sentinel, .pinned], laidTests := true, laidLooks := .later }
def DateBackUptoCardSaid : Prop := Claim7.holds Tryd.pinned (.plain (OpenSpec.upto dateBackSpec)) dateBackUptoCard

/-- THE SECOND FORM's CARD OF 'halfwayhouselaw09.DateForms'. -/
def dateFormsUptoCard : Claim7 := { stood := { row := dateFormsUptoRow, standIns := [], harness := (true, "b1681788350cb209b7677eef36968b93677b89c7efeb4c65216c450eb2b8c116"), looks := true }, kinds := [], alts := [], laidByText := true, laidKinds := [.data, .data, .data, .data, .sentinel, .sentinel, .pinned], laidTests := true, laidLooks := .later }
def DateFormsUptoCardSaid : Prop := Claim7.holds Tryd.pinned (.plain (OpenSpec.upto dateFormsSpec)) dateFormsUptoCard
end Rows
end Go.Proofs.YtmjfkcjdmfgkcaaDoor
