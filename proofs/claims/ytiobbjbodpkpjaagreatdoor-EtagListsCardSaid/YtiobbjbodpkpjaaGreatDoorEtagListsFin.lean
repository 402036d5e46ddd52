/- The law EtagLists returns true for any tags and any place, whatever the memory and the schedule, the listed variables of Go's library holding what the program's text lays; nothing that was there is changed. Its card, tied. No other conditions. -/
import Derived.Test.YtiobbjbodpkpjaaGreatDoorRows
import Derived.Test.YtiobbjbodpkpjaaGreatDoorCards
import Derived.Test.YtiobbjbodpkpjaaGreatDoorTie
import Derived.Test.YtiobbjbodpkpjaaGreatDoorSd
import Derived.Test.YtiobbjbodpkpjaaGreatDoorListsE
import Derived.Test.YtiobbjbodpkpjaaGreatDoorLivesRun
import Derived.ProofKit
import Derived.OpenShut
import Derived.LaidMore
import Derived.Lay
import Derived.SevenTiedAt
import Derived.Stop.Joined
set_option linter.unusedSimpArgs false
set_option linter.unusedVariables false
namespace Go.Proofs.YtiobbjbodpkpjaaGreatDoor.etagLists
open Go.Ve Go.ChangeShapes Go.WideShapes Go.ChangeAt Go.RowKit

set_option maxRecDepth 20000 in
theorem lives_e : EntryOk Tryz.prog 4 (flatE gLives) := by
  refine flatE_ok fun args b v hg hb => ?_
  unfold gLives at hg
  split at hg
  · cases hg
    exact ⟨rfl, rfl, (SC.of_call lives.call1 (callI_of_sev lives.Vok lives.runs)).mono fun v H h => h⟩
  · cases hg
theorem fact (x : SlA (Bool × List UInt8) × Int × Unit) (h1 : (∀ y ∈ x.1.all, y.2.length ≤ reachBytes) ∧ x.1.all.length ≤ maxLen) (h2 : (Lit.int .i64 x.2.1).wf = true) :
    SC Tryz.prog 3 [x.1.av 0, .int .i64 x.2.1] (x.1.blk (fun t => [.bool t.1, .str t.2]) 0) fun v _ => v = .bool true :=
  law_sc lives_e x.1 x.2.1 (inK_wf h2) fun t ht => by
    have h3 := h1.1 t ht
    have h4 := reachBytes_lt
    omega

theorem own : ownKnob Tryz.prog.godebug = none := by kernel_rfl
theorem allNames : Tryz.prog.funcs.all (fun fn => !(fn.name == "runtime.NumGoroutine")) = true := by kernel_rfl
theorem mixed : Tryz.prog.follows .mixedOrders = true := by kernel_rfl

set_option maxHeartbeats 4000000 in
set_option maxRecDepth 100000 in
theorem lifted (os : Os) (started : os.Started) (H : Type) (enc : TypeId × Value → H) :
    ReturnsInHanded {} Tryz.checked os 3 .any (fun w args => (Rows.etagListsSpec.pre enc Tryz.prog Tryz.f3 Rows.etagListsRow.domain false w args ∧ laidMetH Tryz.prog Rows.etagListsRow.laid w) ∧ sizedMet enc Tryz.prog Tryz.f3 (OpenSpec.ofChange Rows.etagListsSpec) false w args)
      (Rows.etagListsSpec.post enc Tryz.prog Tryz.f3 false true false false) := by
  refine returnsInHanded_of_change_and (C := Tryz.checked) (X := fun w _ => laidMetH Tryz.prog Rows.etagListsRow.laid w) (fun _ _ _ hh h => h.of_heap hh) own started (by kernel_rfl) Tryz.func3
    (ChangeSpec.witness_shaped (enc := enc) (C := Tryz.checked) (os := os) (X := fun w _ => laidMetH Tryz.prog Rows.etagListsRow.laid w) false (World.laidAll Tryz.prog os Rows.etagListsRow.laid) #[.slice none 0 0, .int .i64 0] 8 (World.laidAll_os _ _ _)
      (World.shaped_of_ZipB (by kernel_rfl) (by kernel_rfl)) (by kernel_rfl) (by kernel_rfl) (by kernel_rfl)
      (by rw [MakeChecks.laidMetH_plain _ _ _ (by kernel_rfl)]; exact laidMet_laidAll _ (by kernel_rfl) (by kernel_rfl))) ?_
  intro W base args ds gs before hval hW hcnd hsz _ _
  exact contract_of_scS (tb := 4) (by kernel_rfl) (by kernel_rfl) rfl Tryz.underlying4 rfl
    (fun ds h => match ds, h with | [_, _], _ => ⟨rfl, rfl, rfl⟩)
    (opensArgsS_cons (t := 22) (b := false) (by kernel_rfl) (opensS_slice (e := 29) Tryz.underlying22 (of_decide_eq_true (by kernel_rfl)) ((flatS_struct (n := 2) Tryz.underlying29 (flatFsS_cons (n := 1) (flat_bool Tryz.underlying4).sized (flatFsS_cons (n := 1) (flatS_str Tryz.underlying9) (flatFsS_nil 2)))).turn (fun x => (x.1, x.2.1)) (fun t : Bool × List UInt8 => [.bool t.1, .str t.2]) (fun t => t.2.length ≤ reachBytes) (fun _ => rfl) (fun _ h => h.2.1)) (fun _ => (by kernel_rfl : 2 = Tryz.prog.cellsOf 29)) 0) (opensArgsS_cons (t := 3) (b := false) (by kernel_rfl) (flat_int Tryz.underlying3).sized.opens opensArgsS_nil))
    (fun x hx => by
      have := fact x hx.1 hx.2.1
      rw [← List.append_nil (x.1.blk _ 0)] at this
      exact this) hval hW (sz_of rfl hW hsz)

theorem over : Rows.etagListsRow.holds Tryz.pinned (OpenSpec.ofChange Rows.etagListsSpec) :=
  OpenClaim.holds_of_wide 3 Tryz.f3 rfl rfl rfl rfl rfl rfl rfl ⟨rfl, rfl, rfl, rfl, rfl⟩ rfl rfl rfl rfl rfl (by kernel_rfl) Tryz.func3 (by kernel_rfl)
    (of_decide_eq_true (by kernel_rfl)) (by unfold Func.isWrapper; first | (rw [if_pos (by decide +kernel)]; kernel_rfl) | (rw [if_neg (by decide +kernel)]; exact ⟨rfl, rfl⟩))
    (fun os started H enc _ => lifted os started H enc)

/-- THE STATEMENT. -/
theorem proved : Rows.EtagListsCardSaid :=
  Claim7.holds_tied_plain_at .later [] Rows.etagListsCard.laidKinds true Rows.etagListsCard.stood.harness Rows.etagListsCard.stood.looks
    over (fun _ h => by cases h) (by kernel_rfl) (fun _ h => by cases h) etagLists_row_tie rfl ⟨rfl, rfl⟩ (by kernel_rfl) rfl
    (fun f fn hf hfn => by
      obtain rfl : f = 3 := Option.some.inj ((show Tryz.prog.funcNamed "halfwayhouse/halfwayhouselaw11.EtagLists" = some 3 by kernel_rfl).symm.trans hf) |>.symm
      obtain rfl : fn = Tryz.f3 := (Option.some.inj (Tryz.func3.symm.trans hfn)).symm
      exact ⟨by kernel_rfl, fun j t ht => by
        rw [Tryz.params3] at ht
        have hm : t ∈ [22, 3] := by simpa using Array.mem_of_getElem? ht
        have hall : ([22, 3].all fun u => !Tryz.prog.wantsStandIn u) = true := by kernel_rfl
        exact (show Tryz.prog.wantsStandIn t = false by simpa using List.all_eq_true.1 hall t hm)⟩)
    (by kernel_rfl)
#print axioms proved
end Go.Proofs.YtiobbjbodpkpjaaGreatDoor.etagLists
