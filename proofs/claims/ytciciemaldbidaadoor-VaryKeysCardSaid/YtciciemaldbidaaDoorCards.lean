/-
  DERIVED. GIVEN WITH THE SEED: THE CARDS: each row of YtciciemaldbidaaDoorRows.lean that lists a variable, with what it lists TIED to the program's text (the seventh form; the later family's looks); each row that meets fmt, with fmt's text TOLD by the authors' own Lean function (tested against real Go, not proved from fmt's source: count such statements apart). THE CARD IS WHAT COUNTS. Prove the row's statement (the work); the ties are given (YtciciemaldbidaaDoorTie.lean); close each card by the builder's one call (the guide's Derived/Test/ToyasCard.lean, 'card_holds'). Laid BY PROGRAM, IN A SANDBOX (cutbox-door.mjs). By AI agents, Wed Nov 11 2026. No macro, syntax, notation, axiom, sorry.
-/
import Derived.Test.YtciciemaldbidaaDoorRows
import GoSem.ClaimSeven
namespace Go.Proofs.YtciciemaldbidaaDoor
namespace Rows

/-- THE TIED CARD OF 'halfwayhouselaw04.FramingCalls'. -/
def framingCallsCard : Claim7 := { stood := { row := framingCallsRow, standIns := [], harness := (true, "fdd1d2e8377974ffbcbc772cb6fe42b4150b1a8a52552abfc720c6edcb8345c9"), looks := true }, kinds := [], alts := [], laidByText := true, laidKinds := [.data, .data, .data, .data, .sentinel, .sentinel, .pinned], laidTests := true, laidLooks := .later }
def FramingCallsCardSaid : Prop := Claim7.holds Tryd.pinned (.plain (OpenSpec.ofChange framingCallsSpec)) framingCallsCard

/-- THE TIED CARD OF 'halfwayhouselaw12.VaryRises'. -/
def varyRisesCard : Claim7 := { stood := { row := varyRisesRow, standIns := [], harness := (true, "fdd1d2e8377974ffbcbc772cb6fe42b4150b1a8a52552abfc720c6edcb8345c9"), looks := true }, kinds := [], alts := [], laidByText := true, laidKinds := [.data, .pinned], laidTests := true, laidLooks := .later }
def VaryRisesCardSaid : Prop := Claim7.holds Tryd.pinned (.plain (OpenSpec.ofChange varyRisesSpec)) varyRisesCard

/-- THE TIED CARD OF 'halfwayhouselaw12.VaryWhite'. -/
def varyWhiteCard : Claim7 := { stood := { row := varyWhiteRow, standIns := [], harness := (true, "fdd1d2e8377974ffbcbc772cb6fe42b4150b1a8a52552abfc720c6edcb8345c9"), looks := true }, kinds := [], alts := [], laidByText := true, laidKinds := [.data, .pinned], laidTests := true, laidLooks := .later }
def VaryWhiteCardSaid : Prop := Claim7.holds Tryd.pinned (.plain (OpenSpec.ofChange varyWhiteSpec)) varyWhiteCard

/-- THE TIED CARD OF 'halfwayhouselaw12.VaryKeys'. -/
def varyKeysCard : Claim7 := { stood := { row := varyKeysRow, standIns := [], harness := (true, "fdd1d2e8377974ffbcbc772cb6fe42b4150b1a8a52552abfc720c6edcb8345c9"), looks := true }, kinds := [], alts := [], laidByText := true, laidKinds := [.data, .data, .data, .data, .pinned], laidTests := true, laidLooks := .later }
def VaryKeysCardSaid : Prop := Claim7.holds Tryd.pinned (.plain (OpenSpec.ofChange varyKeysSpec)) varyKeysCard

/-- THE SECOND FORM's CARD OF 'halfwayhouselaw04.FramingCalls'. -/
def framingCallsUptoCard : Claim7 := { stood := { row := framingCallsUptoRow, standIns := [], harness := (true, "fdd1d2e8377974ffbcbc772cb6fe42b4150b1a8a52552abfc720c6edcb8345c9"), looks := true }, kinds := [], alts := [], laidByText := true, laidKinds := [.data, .data, .data, .data, .sentinel, .sentinel, .pinned], laidTests := true, laidLooks := .later }
def FramingCallsUptoCardSaid : Prop := Claim7.holds Tryd.pinned (.plain (OpenSpec.upto framingCallsSpec)) framingCallsUptoCard

/-- THE SECOND FORM's CARD OF 'halfwayhouselaw12.VaryRises'. -/
def varyRisesUptoCard : Claim7 := { stood := { row := varyRisesUptoRow, standIns := [], harness := (true, "fdd1d2e8377974ffbcbc772cb6fe42b4150b1a8a52552abfc720c6edcb8345c9"), looks := true }, kinds := [], alts := [], laidByText := true, laidKinds := [.data, .pinned], laidTests := true, laidLooks := .later }
def VaryRisesUptoCardSaid : Prop := Claim7.holds Tryd.pinned (.plain (OpenSpec.upto varyRisesSpec)) varyRisesUptoCard

/-- THE SECOND FORM's CARD OF 'halfwayhouselaw12.VaryWhite'. -/
def varyWhiteUptoCard : Claim7 := { stood := { row := varyWhiteUptoRow, standIns := [], harness := (true, "fdd1d2e8377974ffbcbc772cb6fe42b4150b1a8a52552abfc720c6edcb8345c9"), looks := true }, kinds := [], alts := [], laidByText := true, laidKinds := [.data, .pinned], laidTests := true, laidLooks := .later }
def VaryWhiteUptoCardSaid : Prop := Claim7.holds Tryd.pinned (.plain (OpenSpec.upto varyWhiteSpec)) varyWhiteUptoCard

/-- THE SECOND FORM's CARD OF 'halfwayhouselaw12.VaryKeys'. -/
def varyKeysUptoCard : Claim7 := { stood := { row := varyKeysUptoRow, standIns := [], harness := (true, "fdd1d2e8377974ffbcbc772cb6fe42b4150b1a8a52552abfc720c6edcb8345c9"), looks := true }, kinds := [], alts := [], laidByText := true, laidKinds := [.data, .data, .data, .data, .pinned], laidTests := true, laidLooks := .later }
def VaryKeysUptoCardSaid : Prop := Claim7.holds Tryd.pinned (.plain (OpenSpec.upto varyKeysSpec)) varyKeysUptoCard
end Rows
end Go.Proofs.YtciciemaldbidaaDoor
