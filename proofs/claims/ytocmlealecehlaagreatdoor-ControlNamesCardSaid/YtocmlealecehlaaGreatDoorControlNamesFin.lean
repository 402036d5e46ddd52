/- The law ControlNames returns true, whatever the memory and the schedule, the listed variables of Go's library holding what the program's text lays; nothing that was there is changed. Its card, tied. No other conditions. -/
import Derived.Test.YtocmlealecehlaaGreatDoorRows
import Derived.Test.YtocmlealecehlaaGreatDoorCards
import Derived.Test.YtocmlealecehlaaGreatDoorTie
import Derived.Test.YtocmlealecehlaaGreatDoorVe12
import Derived.Test.YtocmlealecehlaaGreatDoorControlNamesRun
import Derived.Test.YtocmlealecehlaaGreatDoorControlNamesPow
import Derived.ProofKit
import Derived.OpenShut
import Derived.LaidMore
import Derived.Lay
import Derived.SevenTiedAt
import Derived.Stop.Joined
namespace Go.Proofs.YtocmlealecehlaaGreatDoor.controlNames
open Go.Ve Go.ChangeShapes Go.WideShapes Go.ChangeAt Go.RowKit

theorem own : ownKnob Tryz.prog.godebug = none := by kernel_rfl
theorem allNames : Tryz.prog.funcs.all (fun fn => !(fn.name == "runtime.NumGoroutine")) = true := by kernel_rfl
theorem mixed : Tryz.prog.follows .mixedOrders = true := by kernel_rfl

set_option maxHeartbeats 4000000 in
set_option maxRecDepth 100000 in
theorem lifted (os : Os) (started : os.Started) (H : Type) (enc : TypeId × Value → H) :
    ReturnsInHanded {} Tryz.checked os 3 .any (fun w args => (Rows.controlNamesSpec.pre enc Tryz.prog Tryz.f3 Rows.controlNamesRow.domain false w args ∧ laidMetH Tryz.prog Rows.controlNamesRow.laid w) ∧ sizedMet enc Tryz.prog Tryz.f3 (OpenSpec.ofChange Rows.controlNamesSpec) false w args)
      (Rows.controlNamesSpec.post enc Tryz.prog Tryz.f3 false true false false) := by
  refine returnsInHanded_of_change_and (C := Tryz.checked) (X := fun w _ => laidMetH Tryz.prog Rows.controlNamesRow.laid w) (fun _ _ _ hh h => h.of_heap hh) own started (by kernel_rfl) Tryz.func3
    (ChangeSpec.witness_shaped (enc := enc) (C := Tryz.checked) (os := os) (X := fun w _ => laidMetH Tryz.prog Rows.controlNamesRow.laid w) false (World.laidAll Tryz.prog os Rows.controlNamesRow.laid) #[] 8 (World.laidAll_os _ _ _)
      (World.shaped_of_ZipB (by kernel_rfl) (by kernel_rfl)) (by kernel_rfl) (by kernel_rfl) (by kernel_rfl)
      (by rw [MakeChecks.laidMetH_plain _ _ _ (by kernel_rfl)]; exact laidMet_laidAll _ (by kernel_rfl) (by kernel_rfl))) ?_
  intro W base args ds gs before hval hW hcnd _ hL _
  exact contract_of_evG (E := env) allNames mixed envOk (tb := 4) (by kernel_rfl) (by kernel_rfl) rfl Tryz.underlying4 rfl
    (fun ds h => match ds, h with | [], _ => ⟨rfl, rfl, rfl⟩) opensArgs_nil (pow_rel hL) (fun _ _ => ⟨1, _, answers⟩) hval hW

theorem over : Rows.controlNamesRow.holds Tryz.pinned (OpenSpec.ofChange Rows.controlNamesSpec) :=
  OpenClaim.holds_of_wide 3 Tryz.f3 rfl rfl rfl rfl rfl rfl rfl ⟨rfl, rfl, rfl, rfl, rfl⟩ rfl rfl rfl rfl rfl (by kernel_rfl) Tryz.func3 (by kernel_rfl)
    (of_decide_eq_true (by kernel_rfl)) (by unfold Func.isWrapper; first | (rw [if_pos (by decide +kernel)]; kernel_rfl) | (rw [if_neg (by decide +kernel)]; exact ⟨rfl, rfl⟩))
    (fun os started H enc _ => lifted os started H enc)

/-- THE STATEMENT. -/
theorem proved : Rows.ControlNamesCardSaid :=
  Claim7.holds_tied_plain_at .later [] Rows.controlNamesCard.laidKinds true Rows.controlNamesCard.stood.harness Rows.controlNamesCard.stood.looks
    over (fun _ h => by cases h) (by kernel_rfl) (fun _ h => by cases h) controlNames_row_tie rfl ⟨rfl, rfl⟩ (by kernel_rfl) rfl
    (fun f fn hf hfn => by
      obtain rfl : f = 3 := Option.some.inj ((show Tryz.prog.funcNamed "halfwayhouse/halfwayhouselaw10.ControlNames" = some 3 by kernel_rfl).symm.trans hf) |>.symm
      obtain rfl : fn = Tryz.f3 := (Option.some.inj (Tryz.func3.symm.trans hfn)).symm
      exact ⟨by kernel_rfl, fun j t ht => by
        rw [Tryz.params3] at ht
        simp at ht⟩)
    (by kernel_rfl)
#print axioms proved
end Go.Proofs.YtocmlealecehlaaGreatDoor.controlNames
