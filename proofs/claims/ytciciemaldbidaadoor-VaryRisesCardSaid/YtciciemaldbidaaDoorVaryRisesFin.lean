/- The law VaryRises returns true for any fields, whatever the memory and the schedule, the listed variables of Go's library holding what the program's text lays; nothing that was there is changed. Its card, tied. No other conditions. -/
import Derived.Test.YtciciemaldbidaaDoorRows
import Derived.Test.YtciciemaldbidaaDoorCards
import Derived.Test.YtciciemaldbidaaDoorTie
import Derived.Test.YtciciemaldbidaaDoorSd
import Derived.Test.YtciciemaldbidaaDoorVrX
import Derived.Test.YtciciemaldbidaaDoorSf
import Derived.ProofKit
import Derived.OpenShut
import Derived.LaidMore
import Derived.Lay
import Derived.SevenTiedAt
import Derived.Stop.Joined
set_option linter.unusedSimpArgs false
set_option linter.unusedVariables false
namespace Go.Proofs.YtciciemaldbidaaDoor.varyRises
open Go.Ve Go.ChangeShapes Go.WideShapes Go.ChangeAt Go.RowKit

theorem fact (x : SlA (List UInt8 × List UInt8) × Unit) (h1 : (∀ y ∈ x.1.all, y.1.length ≤ reachBytes ∧ y.2.length ≤ reachBytes) ∧ x.1.all.length ≤ maxLen) :
    SC Tryd.prog 4 [x.1.av 0] (x.1.blk (fun t => [.str t.1, .str t.2]) 0) fun v _ => v = .bool true := by
  obtain ⟨s, _⟩ := x
  match s, h1 with
  | .nil, _ => exact rises_N
  | .zero, _ => exact rises_Z
  | .at l r, h1 =>
    refine rises_A l r fun f hf => ?_
    have h3 := h1.1 f (List.mem_append_left _ hf)
    have h4 := reachBytes_lt
    omega

theorem own : ownKnob Tryd.prog.godebug = none := by kernel_rfl
theorem allNames : Tryd.prog.funcs.all (fun fn => !(fn.name == "runtime.NumGoroutine")) = true := by kernel_rfl
theorem mixed : Tryd.prog.follows .mixedOrders = true := by kernel_rfl

set_option maxHeartbeats 4000000 in
set_option maxRecDepth 100000 in
theorem lifted (os : Os) (started : os.Started) (H : Type) (enc : TypeId × Value → H) :
    ReturnsInHanded {} Tryd.checked os 4 .any (fun w args => (Rows.varyRisesSpec.pre enc Tryd.prog Tryd.f4 Rows.varyRisesRow.domain false w args ∧ laidMetH Tryd.prog Rows.varyRisesRow.laid w) ∧ sizedMet enc Tryd.prog Tryd.f4 (OpenSpec.ofChange Rows.varyRisesSpec) false w args)
      (Rows.varyRisesSpec.post enc Tryd.prog Tryd.f4 false true false false) := by
  refine returnsInHanded_of_change_and (C := Tryd.checked) (X := fun w _ => laidMetH Tryd.prog Rows.varyRisesRow.laid w) (fun _ _ _ hh h => h.of_heap hh) own started (by kernel_rfl) Tryd.func4
    (ChangeSpec.witness_shaped (enc := enc) (C := Tryd.checked) (os := os) (X := fun w _ => laidMetH Tryd.prog Rows.varyRisesRow.laid w) false (World.laidAll Tryd.prog os Rows.varyRisesRow.laid) #[.slice none 0 0] 8 (World.laidAll_os _ _ _)
      (World.shaped_of_ZipB (by kernel_rfl) (by kernel_rfl)) (by kernel_rfl) (by kernel_rfl) (by kernel_rfl)
      (by rw [MakeChecks.laidMetH_plain _ _ _ (by kernel_rfl)]; exact laidMet_laidAll _ (by kernel_rfl) (by kernel_rfl))) ?_
  intro W base args ds gs before hval hW hcnd hsz _ _
  exact contract_of_scS (tb := 4) (by kernel_rfl) (by kernel_rfl) rfl Tryd.underlying4 rfl
    (fun ds h => match ds, h with | [_], _ => ⟨rfl, rfl, rfl⟩)
    (opensArgsS_cons (t := 22) (b := false) (by kernel_rfl) (opensS_slice (e := 42) Tryd.underlying22 (of_decide_eq_true (by kernel_rfl)) ((flatS_struct (n := 2) Tryd.underlying42 (flatFsS_cons (n := 1) (flatS_str Tryd.underlying9) (flatFsS_cons (n := 1) (flatS_str Tryd.underlying9) (flatFsS_nil 2)))).turn (fun x => (x.1, x.2.1)) (fun t : List UInt8 × List UInt8 => [.str t.1, .str t.2]) (fun t => t.1.length ≤ reachBytes ∧ t.2.length ≤ reachBytes) (fun _ => rfl) (fun _ h => ⟨h.1, h.2.1⟩)) (fun _ => (by kernel_rfl : 2 = Tryd.prog.cellsOf 42)) 0) opensArgsS_nil)
    (fun x hx => by
      have := fact x hx.1
      rw [← List.append_nil (x.1.blk _ 0)] at this
      exact this) hval hW (sz_of rfl hW hsz)

theorem over : Rows.varyRisesRow.holds Tryd.pinned (OpenSpec.ofChange Rows.varyRisesSpec) :=
  OpenClaim.holds_of_wide 4 Tryd.f4 rfl rfl rfl rfl rfl rfl rfl ⟨rfl, rfl, rfl, rfl, rfl⟩ rfl rfl rfl rfl rfl (by kernel_rfl) Tryd.func4 (by kernel_rfl)
    (of_decide_eq_true (by kernel_rfl)) (by unfold Func.isWrapper; first | (rw [if_pos (by decide +kernel)]; kernel_rfl) | (rw [if_neg (by decide +kernel)]; exact ⟨rfl, rfl⟩))
    (fun os started H enc _ => lifted os started H enc)

/-- THE STATEMENT. -/
theorem proved : Rows.VaryRisesCardSaid :=
  Claim7.holds_tied_plain_at .later [] Rows.varyRisesCard.laidKinds true Rows.varyRisesCard.stood.harness Rows.varyRisesCard.stood.looks
    over (fun _ h => by cases h) (by kernel_rfl) (fun _ h => by cases h) varyRises_row_tie rfl ⟨rfl, rfl⟩ (by kernel_rfl) rfl
    (fun f fn hf hfn => by
      obtain rfl : f = 4 := Option.some.inj ((show Tryd.prog.funcNamed "halfwayhouse/halfwayhouselaw12.VaryRises" = some 4 by kernel_rfl).symm.trans hf) |>.symm
      obtain rfl : fn = Tryd.f4 := (Option.some.inj (Tryd.func4.symm.trans hfn)).symm
      exact ⟨by kernel_rfl, fun j t ht => by
        rw [Tryd.params4] at ht
        have hm : t ∈ [22] := by simpa using Array.mem_of_getElem? ht
        have hall : ([22].all fun u => !Tryd.prog.wantsStandIn u) = true := by kernel_rfl
        exact (show Tryd.prog.wantsStandIn t = false by simpa using List.all_eq_true.1 hall t hm)⟩)
    (by kernel_rfl)
#print axioms proved
end Go.Proofs.YtciciemaldbidaaDoor.varyRises
