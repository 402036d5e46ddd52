/- The law DateForms returns true for any two seconds, whatever the memory and the schedule, the listed variables of Go's library holding what the program's text lays; nothing that was there is changed. Its card, tied. No other conditions. -/
import Derived.Test.YtmjfkcjdmfgkcaaDoorRows
import Derived.Test.YtmjfkcjdmfgkcaaDoorCards
import Derived.Test.YtmjfkcjdmfgkcaaDoorTie
import Derived.Test.YtmjfkcjdmfgkcaaDoorSd
import Derived.Test.YtmjfkcjdmfgkcaaDoorDaK
import Derived.Test.YtmjfkcjdmfgkcaaDoorSf
import Derived.ProofKit
import Derived.OpenShut
import Derived.LaidMore
import Derived.Lay
import Derived.SevenTiedAt
import Derived.Stop.Joined
set_option linter.unusedSimpArgs false
set_option linter.unusedVariables false
namespace Go.Proofs.YtmjfkcjdmfgkcaaDoor.dateForms
open Go.Ve Go.ChangeShapes Go.WideShapes Go.ChangeAt Go.RowKit

open Dig
open Go.Cal
theorem err_rel {W : World} (h : laidMetH Tryd.prog Rows.dateFormsRow.laid W) : ∃ te : Nat, Rel (Base.all W) [⟨4, 0, 0⟩] [gErr te] W := by
  rw [MakeChecks.laidMetH_plain _ _ _ (by kernel_rfl)] at h
  obtain ⟨ps, ⟨_, _, _, _, _, _, _, _, _, _, ⟨_, _, _, _, _, _, _, _, _, _, ⟨_, _, _, _, _, _, _, _, _, _, ⟨_, _, _, _, _, _, _, _, _, _, ⟨g, t, cs, fuel, p, q, hg, ht, hv, hd, _, _⟩, _⟩, _⟩, _⟩, _⟩, _, _⟩ := h
  obtain rfl := Option.some.inj ((show Tryd.prog.globalNamed "strconv.ErrRange" = some 4 by kernel_rfl).symm.trans hg)
  obtain rfl := Option.some.inj ((show (Tryd.prog.globals[4]?).map (·.type) = some 65 by kernel_rfl).symm.trans ht)
  obtain ⟨u, v, hc, hn⟩ := trod_iface_at Tryd.underlying65 rfl hd
  have hcell : W.cell? ⟨4, 0, none⟩ = some (.iface u v) := by
    rw [World.var?_cell hg hv 0, ← Array.getElem?_toList, hc]; rfl
  refine ⟨u, glob_rel (n := 0) ?_ (fun j w hj => ?_) fun j hj => ?_⟩
  · refine Decidable.byContradiction fun hn => ?_
    unfold World.cell? at hcell
    rw [Array.getElem?_eq_none (by simpa using hn)] at hcell
    cases hcell
  · cases j with
    | zero => cases hj; exact ⟨_, .iface _ (.bad v), hcell⟩
    | succ j => simp at hj
  · rw [World.var?_cell hg hv j, ← Array.getElem?_toList, hc]
    exact List.getElem?_eq_none (by simpa using hj)
theorem fact (te : Nat) (x : Int × Int × Unit) : SC Tryd.prog 4 [.int .i64 x.1, .int .i64 x.2.1] [gErr te] fun v _ => v = .bool true :=
  (SC.ofF (V := VDX) names0 mixed0 TDX_ok noO_ok (forms_vc x.1 x.2.1 te)).mono fun v H' h => by
    obtain ⟨_, _, h1, h2⟩ := outE_one h
    exact h1

theorem own : ownKnob Tryd.prog.godebug = none := by kernel_rfl
theorem allNames : Tryd.prog.funcs.all (fun fn => !(fn.name == "runtime.NumGoroutine")) = true := by kernel_rfl
theorem mixed : Tryd.prog.follows .mixedOrders = true := by kernel_rfl

set_option maxHeartbeats 4000000 in
set_option maxRecDepth 100000 in
theorem lifted (os : Os) (started : os.Started) (H : Type) (enc : TypeId × Value → H) :
    ReturnsInHanded {} Tryd.checked os 4 .any (fun w args => (Rows.dateFormsSpec.pre enc Tryd.prog Tryd.f4 Rows.dateFormsRow.domain false w args ∧ laidMetH Tryd.prog Rows.dateFormsRow.laid w) ∧ sizedMet enc Tryd.prog Tryd.f4 (OpenSpec.ofChange Rows.dateFormsSpec) false w args)
      (Rows.dateFormsSpec.post enc Tryd.prog Tryd.f4 false true false false) := by
  refine returnsInHanded_of_change_and (C := Tryd.checked) (X := fun w _ => laidMetH Tryd.prog Rows.dateFormsRow.laid w) (fun _ _ _ hh h => h.of_heap hh) own started (by kernel_rfl) Tryd.func4
    (ChangeSpec.witness_shaped (enc := enc) (C := Tryd.checked) (os := os) (X := fun w _ => laidMetH Tryd.prog Rows.dateFormsRow.laid w) false (World.laidAll Tryd.prog os Rows.dateFormsRow.laid) #[.int .i64 0, .int .i64 0] 8 (World.laidAll_os _ _ _)
      (World.shaped_of_ZipB (by kernel_rfl) (by kernel_rfl)) (by kernel_rfl) (by kernel_rfl) (by kernel_rfl)
      (by rw [MakeChecks.laidMetH_plain _ _ _ (by kernel_rfl)]; exact laidMet_laidAll _ (by kernel_rfl) (by kernel_rfl))) ?_
  intro W base args ds gs before hval hW hcnd hsz hlaid _
  obtain ⟨te, herr⟩ := err_rel hlaid
  exact contract_of_scG (tb := 4) (by kernel_rfl) (by kernel_rfl) rfl Tryd.underlying4 rfl
    (fun ds h => match ds, h with | [_, _], _ => ⟨rfl, rfl, rfl⟩)
    (opensArgsS_cons (t := 2) (b := false) (by kernel_rfl) (flat_int Tryd.underlying2).sized.opens (opensArgsS_cons (t := 2) (b := false) (by kernel_rfl) (flat_int Tryd.underlying2).sized.opens opensArgsS_nil))
    herr
    (fun x hx => fact te x) hval hW (sz_of rfl hW hsz)

theorem over : Rows.dateFormsRow.holds Tryd.pinned (OpenSpec.ofChange Rows.dateFormsSpec) :=
  OpenClaim.holds_of_wide 4 Tryd.f4 rfl rfl rfl rfl rfl rfl rfl ⟨rfl, rfl, rfl, rfl, rfl⟩ rfl rfl rfl rfl rfl (by kernel_rfl) Tryd.func4 (by kernel_rfl)
    (of_decide_eq_true (by kernel_rfl)) (by unfold Func.isWrapper; first | (rw [if_pos (by decide +kernel)]; kernel_rfl) | (rw [if_neg (by decide +kernel)]; exact ⟨rfl, rfl⟩))
    (fun os started H enc _ => lifted os started H enc)

/-- THE STATEMENT. -/
theorem proved : Rows.DateFormsCardSaid :=
  Claim7.holds_tied_plain_at .later [] Rows.dateFormsCard.laidKinds true Rows.dateFormsCard.stood.harness Rows.dateFormsCard.stood.looks
    over (fun _ h => by cases h) (by kernel_rfl) (fun _ h => by cases h) dateForms_row_tie rfl ⟨rfl, rfl⟩ (by kernel_rfl) rfl
    (fun f fn hf hfn => by
      obtain rfl : f = 4 := Option.some.inj ((show Tryd.prog.funcNamed "halfwayhouse/halfwayhouselaw09.DateForms" = some 4 by kernel_rfl).symm.trans hf) |>.symm
      obtain rfl : fn = Tryd.f4 := (Option.some.inj (Tryd.func4.symm.trans hfn)).symm
      exact ⟨by kernel_rfl, fun j t ht => by
        rw [Tryd.params4] at ht
        have hm : t ∈ [2, 2] := by simpa using Array.mem_of_getElem? ht
        have hall : ([2, 2].all fun u => !Tryd.prog.wantsStandIn u) = true := by kernel_rfl
        exact (show Tryd.prog.wantsStandIn t = false by simpa using List.all_eq_true.1 hall t hm)⟩)
    (by kernel_rfl)
#print axioms proved
end Go.Proofs.YtmjfkcjdmfgkcaaDoor.dateForms
