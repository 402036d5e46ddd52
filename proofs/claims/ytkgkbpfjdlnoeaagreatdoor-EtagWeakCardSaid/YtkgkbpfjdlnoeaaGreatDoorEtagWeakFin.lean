/- The law EtagWeak returns true for any three tags, whatever the memory and the schedule, the listed variables of Go's library holding what the program's text lays; nothing that was there is changed. Its card, tied. No other conditions. -/
import Derived.Test.YtkgkbpfjdlnoeaaGreatDoorRows
import Derived.Test.YtkgkbpfjdlnoeaaGreatDoorCards
import Derived.Test.YtkgkbpfjdlnoeaaGreatDoorTie
import Derived.Test.YtkgkbpfjdlnoeaaGreatDoorVe12
import Derived.Test.YtkgkbpfjdlnoeaaGreatDoorVeS
import Derived.Test.YtkgkbpfjdlnoeaaGreatDoorTagLaw
import Derived.ProofKit
import Derived.OpenShut
import Derived.LaidMore
import Derived.Lay
import Derived.SevenTiedAt
import Derived.Stop.Joined
namespace Go.Proofs.YtkgkbpfjdlnoeaaGreatDoor.etagWeak
open Go.Ve Go.ChangeShapes Go.WideShapes Go.ChangeAt Go.RowKit

theorem own : ownKnob Tryz.prog.godebug = none := by kernel_rfl
theorem allNames : Tryz.prog.funcs.all (fun fn => !(fn.name == "runtime.NumGoroutine")) = true := by kernel_rfl
theorem mixed : Tryz.prog.follows .mixedOrders = true := by kernel_rfl

set_option maxHeartbeats 4000000 in
set_option maxRecDepth 100000 in
theorem lifted (os : Os) (started : os.Started) (H : Type) (enc : TypeId × Value → H) :
    ReturnsInHanded {} Tryz.checked os 3 .any (fun w args => (Rows.etagWeakSpec.pre enc Tryz.prog Tryz.f3 Rows.etagWeakRow.domain false w args ∧ laidMetH Tryz.prog Rows.etagWeakRow.laid w) ∧ sizedMet enc Tryz.prog Tryz.f3 (OpenSpec.ofChange Rows.etagWeakSpec) false w args)
      (Rows.etagWeakSpec.post enc Tryz.prog Tryz.f3 false true false false) := by
  refine returnsInHanded_of_change_and (C := Tryz.checked) (X := fun w _ => laidMetH Tryz.prog Rows.etagWeakRow.laid w) (fun _ _ _ hh h => h.of_heap hh) own started (by kernel_rfl) Tryz.func3
    (ChangeSpec.witness_shaped (enc := enc) (C := Tryz.checked) (os := os) (X := fun w _ => laidMetH Tryz.prog Rows.etagWeakRow.laid w) false (World.laidAll Tryz.prog os Rows.etagWeakRow.laid) #[.agg #[.bool false, .string ByteArray.empty], .agg #[.bool false, .string ByteArray.empty], .agg #[.bool false, .string ByteArray.empty]] 8 (World.laidAll_os _ _ _)
      (World.shaped_of_ZipB (by kernel_rfl) (by kernel_rfl)) (by kernel_rfl) (by kernel_rfl) (by kernel_rfl)
      (by rw [MakeChecks.laidMetH_plain _ _ _ (by kernel_rfl)]; exact laidMet_laidAll _ (by kernel_rfl) (by kernel_rfl))) ?_
  intro W base args ds gs before hval hW hcnd _ _ _
  exact contract_of_ev (E := env) allNames mixed envOk (tb := 4) (by kernel_rfl) (by kernel_rfl) rfl Tryz.underlying4 rfl
    (fun ds h => match ds, h with | [_, _, _], _ => ⟨rfl, rfl, rfl⟩) (opensArgs_cons (t := 23) (b := true) (by kernel_rfl) (flat_struct (n := 2) Tryz.underlying23 (flatFs_cons (n := 1) (flat_bool Tryz.underlying4) (flatFs_cons (n := 1) (flat_str Tryz.underlying9) (flatFs_nil 2)))).opens (opensArgs_cons (t := 23) (b := true) (by kernel_rfl) (flat_struct (n := 2) Tryz.underlying23 (flatFs_cons (n := 1) (flat_bool Tryz.underlying4) (flatFs_cons (n := 1) (flat_str Tryz.underlying9) (flatFs_nil 2)))).opens (opensArgs_cons (t := 23) (b := true) (by kernel_rfl) (flat_struct (n := 2) Tryz.underlying23 (flatFs_cons (n := 1) (flat_bool Tryz.underlying4) (flatFs_cons (n := 1) (flat_str Tryz.underlying9) (flatFs_nil 2)))).opens opensArgs_nil))) (fun x _ => (tags_law x.1.1 x.2.1.1 x.2.2.1.1 x.1.2.1 x.2.1.2.1 x.2.2.1.2.1).to) hval hW

theorem over : Rows.etagWeakRow.holds Tryz.pinned (OpenSpec.ofChange Rows.etagWeakSpec) :=
  OpenClaim.holds_of_wide 3 Tryz.f3 rfl rfl rfl rfl rfl rfl rfl ⟨rfl, rfl, rfl, rfl, rfl⟩ rfl rfl rfl rfl rfl (by kernel_rfl) Tryz.func3 (by kernel_rfl)
    (of_decide_eq_true (by kernel_rfl)) (by unfold Func.isWrapper; first | (rw [if_pos (by decide +kernel)]; kernel_rfl) | (rw [if_neg (by decide +kernel)]; exact ⟨rfl, rfl⟩))
    (fun os started H enc _ => lifted os started H enc)

/-- THE STATEMENT. -/
theorem proved : Rows.EtagWeakCardSaid :=
  Claim7.holds_tied_plain_at .later [] Rows.etagWeakCard.laidKinds true Rows.etagWeakCard.stood.harness Rows.etagWeakCard.stood.looks
    over (fun _ h => by cases h) (by kernel_rfl) (fun _ h => by cases h) etagWeak_row_tie rfl ⟨rfl, rfl⟩ (by kernel_rfl) rfl
    (fun f fn hf hfn => by
      obtain rfl : f = 3 := Option.some.inj ((show Tryz.prog.funcNamed "halfwayhouse/halfwayhouselaw11.EtagWeak" = some 3 by kernel_rfl).symm.trans hf) |>.symm
      obtain rfl : fn = Tryz.f3 := (Option.some.inj (Tryz.func3.symm.trans hfn)).symm
      exact ⟨by kernel_rfl, fun j t ht => by
        rw [Tryz.params3] at ht
        have hm : t ∈ [23, 23, 23] := by simpa using Array.mem_of_getElem? ht
        have hall : ([23, 23, 23].all fun u => !Tryz.prog.wantsStandIn u) = true := by kernel_rfl
        exact (show Tryz.prog.wantsStandIn t = false by simpa using List.all_eq_true.1 hall t hm)⟩)
    (by kernel_rfl)
#print axioms proved
end Go.Proofs.YtkgkbpfjdlnoeaaGreatDoor.etagWeak
