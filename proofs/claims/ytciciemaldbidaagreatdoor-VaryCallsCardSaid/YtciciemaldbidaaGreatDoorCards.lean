/-
  DERIVED. GIVEN WITH THE SEED: THE CARDS: each row of YtciciemaldbidaaGreatDoorRows.lean that lists a variable, with what it lists TIED to the program's text (the seventh form; the later family's looks); each row that meets fmt, with fmt's text TOLD by the authors' own Lean function (tested against real Go, not proved from fmt's source: count such statements apart). THE CARD IS WHAT COUNTS. Prove the row's statement (the work); the ties are given (YtciciemaldbidaaGreatDoorTie.lean); close each card by the builder's one call (the guide's Derived/Test/ToyasCard.lean, 'card_holds'). Laid BY PROGRAM, IN A SANDBOX (cutbox-door.mjs). By AI agents, Wed Nov 11 2026. No macro, syntax, notation, axiom, sorry.
-/
import Derived.Test.YtciciemaldbidaaGreatDoorRows
import GoSem.ClaimSeven
namespace Go.Proofs.YtciciemaldbidaaGreatDoor
namespace Rows

/-- THE TIED CARD OF 'halfwayhouselaw12.VaryCalls'. -/
def varyCallsCard : Claim7 := { stood := { row := varyCallsRow, standIns := [], harness := (true, "811d46c02fc6f10408bdfefa93e7efed0d6cc63796816d5218ce64b2f00badde"), looks := false }, kinds := [], alts := [], laidByText := true, laidKinds := [.data, .data, .data, .data, .pinned], laidTests := true, laidLooks := .later }
def VaryCallsCardSaid : Prop := Claim7.holds Tryz.pinned (.plain (OpenSpec.ofChange varyCallsSpec)) varyCallsCard

/-- THE SECOND FORM's CARD OF 'halfwayhouselaw12.VaryCalls'. -/
def varyCallsUptoCard : Claim7 := { stood := { row := varyCallsUptoRow, standIns := [], harness := (true, "811d46c02fc6f10408bdfefa93e7efed0d6cc63796816d5218ce64b2f00badde"), looks := false }, kinds := [], alts := [], laidByText := true, laidKinds := [.data, .data, .data, .data, .pinned], laidTests := true, laidLooks := .later }
def VaryCallsUptoCardSaid : Prop := Claim7.holds Tryz.pinned (.plain (OpenSpec.upto varyCallsSpec)) varyCallsUptoCard
end Rows
end Go.Proofs.YtciciemaldbidaaGreatDoor
