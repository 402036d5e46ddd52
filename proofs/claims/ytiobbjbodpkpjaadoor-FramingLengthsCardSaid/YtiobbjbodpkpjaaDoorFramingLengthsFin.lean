/- The law FramingLengths returns true for any four numbers, whatever the memory and the schedule, the listed variables of Go's library holding what the program's text lays; nothing that was there is changed. Its card, tied. No other conditions. -/
import Derived.Test.YtiobbjbodpkpjaaDoorRows
import Derived.Test.YtiobbjbodpkpjaaDoorCards
import Derived.Test.YtiobbjbodpkpjaaDoorTie
import Derived.Test.YtiobbjbodpkpjaaDoorSd
import Derived.Test.YtiobbjbodpkpjaaDoorLen2
import Derived.Test.YtiobbjbodpkpjaaDoorSf
import Derived.ProofKit
import Derived.OpenShut
import Derived.LaidMore
import Derived.Lay
import Derived.SevenTiedAt
import Derived.Stop.Joined
set_option linter.unusedSimpArgs false
set_option linter.unusedVariables false
namespace Go.Proofs.YtiobbjbodpkpjaaDoor.framingLengths
open Go.Ve Go.ChangeShapes Go.WideShapes Go.ChangeAt Go.RowKit

theorem err_rel {W : World} (h : laidMetH Tryd.prog Rows.framingLengthsRow.laid W) : ∃ te : Nat, Rel (Base.all W) [⟨1, 0, 0⟩] [gErr te] W := by
  rw [MakeChecks.laidMetH_plain _ _ _ (by kernel_rfl)] at h
  obtain ⟨ps, ⟨_, _, _, _, _, _, _, _, _, _, ⟨_, _, _, _, _, _, _, _, _, _, ⟨_, _, _, _, _, _, _, _, _, _, ⟨_, _, _, _, _, _, _, _, _, _, ⟨g, t, cs, fuel, p, q, hg, ht, hv, hd, _, _⟩, _⟩, _⟩, _⟩, _⟩, _, _⟩ := h
  obtain rfl := Option.some.inj ((show Tryd.prog.globalNamed "strconv.ErrRange" = some 1 by kernel_rfl).symm.trans hg)
  obtain rfl := Option.some.inj ((show (Tryd.prog.globals[1]?).map (·.type) = some 65 by kernel_rfl).symm.trans ht)
  obtain ⟨u, v, hc, hn⟩ := trod_iface_at Tryd.underlying65 rfl hd
  have hcell : W.cell? ⟨1, 0, none⟩ = some (.iface u v) := by
    rw [World.var?_cell hg hv 0, ← Array.getElem?_toList, hc]; rfl
  refine ⟨u, glob_rel (n := 0) ?_ fun j w hj => ?_⟩
  · refine Decidable.byContradiction fun hn => ?_
    unfold World.cell? at hcell
    rw [Array.getElem?_eq_none (by simpa using hn)] at hcell
    cases hcell
  · cases j with
    | zero => cases hj; exact ⟨_, .iface _ (.bad v), hcell⟩
    | succ j => simp at hj
theorem fact (te : Nat) (x : Int × Int × Int × Int × Unit) :
    SC Tryd.prog 5 [.int .i64 x.1, .int .i64 x.2.1, .int .i64 x.2.2.1, .int .i64 x.2.2.2.1] ([gErr te] ++ []) fun v _ => v = .bool true := by
  obtain ⟨n, times, o, a, _⟩ := x
  exact lengths_sc te n o times a

theorem own : ownKnob Tryd.prog.godebug = none := by kernel_rfl
theorem allNames : Tryd.prog.funcs.all (fun fn => !(fn.name == "runtime.NumGoroutine")) = true := by kernel_rfl
theorem mixed : Tryd.prog.follows .mixedOrders = true := by kernel_rfl

set_option maxHeartbeats 4000000 in
set_option maxRecDepth 100000 in
theorem lifted (os : Os) (started : os.Started) (H : Type) (enc : TypeId × Value → H) :
    ReturnsInHanded {} Tryd.checked os 5 .any (fun w args => (Rows.framingLengthsSpec.pre enc Tryd.prog Tryd.f5 Rows.framingLengthsRow.domain false w args ∧ laidMetH Tryd.prog Rows.framingLengthsRow.laid w) ∧ sizedMet enc Tryd.prog Tryd.f5 (OpenSpec.ofChange Rows.framingLengthsSpec) false w args)
      (Rows.framingLengthsSpec.post enc Tryd.prog Tryd.f5 false true false false) := by
  refine returnsInHanded_of_change_and (C := Tryd.checked) (X := fun w _ => laidMetH Tryd.prog Rows.framingLengthsRow.laid w) (fun _ _ _ hh h => h.of_heap hh) own started (by kernel_rfl) Tryd.func5
    (ChangeSpec.witness_shaped (enc := enc) (C := Tryd.checked) (os := os) (X := fun w _ => laidMetH Tryd.prog Rows.framingLengthsRow.laid w) false (World.laidAll Tryd.prog os Rows.framingLengthsRow.laid) #[.int .i64 0, .int .i64 0, .int .i64 0, .int .i64 0] 8 (World.laidAll_os _ _ _)
      (World.shaped_of_ZipB (by kernel_rfl) (by kernel_rfl)) (by kernel_rfl) (by kernel_rfl) (by kernel_rfl)
      (by rw [MakeChecks.laidMetH_plain _ _ _ (by kernel_rfl)]; exact laidMet_laidAll _ (by kernel_rfl) (by kernel_rfl))) ?_
  intro W base args ds gs before hval hW hcnd hsz hlaid _
  obtain ⟨te, herr⟩ := err_rel hlaid
  exact contract_of_scG (tb := 4) (by kernel_rfl) (by kernel_rfl) rfl Tryd.underlying4 rfl
    (fun ds h => match ds, h with | [_, _, _, _], _ => ⟨rfl, rfl, rfl⟩)
    (opensArgsS_cons (t := 2) (b := false) (by kernel_rfl) (flat_int Tryd.underlying2).sized.opens (opensArgsS_cons (t := 3) (b := false) (by kernel_rfl) (flat_int Tryd.underlying3).sized.opens (opensArgsS_cons (t := 2) (b := false) (by kernel_rfl) (flat_int Tryd.underlying2).sized.opens (opensArgsS_cons (t := 3) (b := false) (by kernel_rfl) (flat_int Tryd.underlying3).sized.opens opensArgsS_nil))))
    herr
    (fun x hx => fact te x) hval hW (sz_of rfl hW hsz)

theorem over : Rows.framingLengthsRow.holds Tryd.pinned (OpenSpec.ofChange Rows.framingLengthsSpec) :=
  OpenClaim.holds_of_wide 5 Tryd.f5 rfl rfl rfl rfl rfl rfl rfl ⟨rfl, rfl, rfl, rfl, rfl⟩ rfl rfl rfl rfl rfl (by kernel_rfl) Tryd.func5 (by kernel_rfl)
    (of_decide_eq_true (by kernel_rfl)) (by unfold Func.isWrapper; first | (rw [if_pos (by decide +kernel)]; kernel_rfl) | (rw [if_neg (by decide +kernel)]; exact ⟨rfl, rfl⟩))
    (fun os started H enc _ => lifted os started H enc)

/-- THE STATEMENT. -/
theorem proved : Rows.FramingLengthsCardSaid :=
  Claim7.holds_tied_plain_at .later [] Rows.framingLengthsCard.laidKinds true Rows.framingLengthsCard.stood.harness Rows.framingLengthsCard.stood.looks
    over (fun _ h => by cases h) (by kernel_rfl) (fun _ h => by cases h) framingLengths_row_tie rfl ⟨rfl, rfl⟩ (by kernel_rfl) rfl
    (fun f fn hf hfn => by
      obtain rfl : f = 5 := Option.some.inj ((show Tryd.prog.funcNamed "halfwayhouse/halfwayhouselaw04.FramingLengths" = some 5 by kernel_rfl).symm.trans hf) |>.symm
      obtain rfl : fn = Tryd.f5 := (Option.some.inj (Tryd.func5.symm.trans hfn)).symm
      exact ⟨by kernel_rfl, fun j t ht => by
        rw [Tryd.params5] at ht
        have hm : t ∈ [2, 3, 2, 3] := by simpa using Array.mem_of_getElem? ht
        have hall : ([2, 3, 2, 3].all fun u => !Tryd.prog.wantsStandIn u) = true := by kernel_rfl
        exact (show Tryd.prog.wantsStandIn t = false by simpa using List.all_eq_true.1 hall t hm)⟩)
    (by kernel_rfl)
#print axioms proved
end Go.Proofs.YtiobbjbodpkpjaaDoor.framingLengths
