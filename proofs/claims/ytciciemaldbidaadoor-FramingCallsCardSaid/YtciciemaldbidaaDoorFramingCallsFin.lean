/- The law FramingCalls returns true for any fields, method, status and minor version, whatever the memory and the schedule, the listed variables of Go's library holding what the program's text lays; nothing that was there is changed. Its card, tied. No other conditions. -/
import Derived.Test.YtciciemaldbidaaDoorRows
import Derived.Test.YtciciemaldbidaaDoorCards
import Derived.Test.YtciciemaldbidaaDoorTie
import Derived.Test.YtciciemaldbidaaDoorSd
import Derived.Test.YtciciemaldbidaaDoorFrC
import Derived.Test.YtciciemaldbidaaDoorSf
import Derived.ProofKit
import Derived.OpenShut
import Derived.LaidMore
import Derived.Lay
import Derived.SevenTiedAt
import Derived.Stop.Joined
set_option linter.unusedSimpArgs false
set_option linter.unusedVariables false
namespace Go.Proofs.YtciciemaldbidaaDoor.framingCalls
open Go.Ve Go.ChangeShapes Go.WideShapes Go.ChangeAt Go.RowKit

theorem err_rel {W : World} (h : laidMetH Tryd.prog Rows.framingCallsRow.laid W) : ∃ te : Nat, Rel (Base.all W) [⟨1, 0, 0⟩] [gErr te] W := by
  rw [MakeChecks.laidMetH_plain _ _ _ (by kernel_rfl)] at h
  obtain ⟨ps, ⟨_, _, _, _, _, _, _, _, _, _, ⟨_, _, _, _, _, _, _, _, _, _, ⟨_, _, _, _, _, _, _, _, _, _, ⟨_, _, _, _, _, _, _, _, _, _, ⟨g, t, cs, fuel, p, q, hg, ht, hv, hd, _, _⟩, _⟩, _⟩, _⟩, _⟩, _, _⟩ := h
  obtain rfl := Option.some.inj ((show Tryd.prog.globalNamed "strconv.ErrRange" = some 1 by kernel_rfl).symm.trans hg)
  obtain rfl := Option.some.inj ((show (Tryd.prog.globals[1]?).map (·.type) = some 75 by kernel_rfl).symm.trans ht)
  obtain ⟨u, v, hc, hn⟩ := trod_iface_at Tryd.underlying75 rfl hd
  have hcell : W.cell? ⟨1, 0, none⟩ = some (.iface u v) := by
    rw [World.var?_cell hg hv 0, ← Array.getElem?_toList, hc]; rfl
  refine ⟨u, glob_rel (n := 0) ?_ fun j w hj => ?_⟩
  · refine Decidable.byContradiction fun hn => ?_
    unfold World.cell? at hcell
    rw [Array.getElem?_eq_none (by simpa using hn)] at hcell
    cases hcell
  · cases j with
    | zero => cases hj; exact ⟨_, .iface _ (.bad v), hcell⟩
    | succ j => simp at hj
theorem fact (te : Nat) (x : SlA (List UInt8 × List UInt8) × List UInt8 × Int × Int × Unit) (h1 : (∀ y ∈ x.1.all, y.1.length ≤ reachBytes ∧ y.2.length ≤ reachBytes) ∧ x.1.all.length ≤ maxLen) (h2 : (Lit.int .i64 x.2.2.1).wf = true) :
    SC Tryd.prog 3 [x.1.av 1, .str x.2.1, .int .i64 x.2.2.1, .int .i64 x.2.2.2.1] ([gErr te] ++ x.1.blk (fun t => [.str t.1, .str t.2]) 0) fun v _ => v = .bool true := by
  obtain ⟨s, m, st, minor, _⟩ := x
  have hst := inK_wf h2
  match s, h1 with
  | .nil, _ => exact calls_N te m st minor hst
  | .zero, _ => exact calls_Z te m st minor hst
  | .at l r, h1 =>
    refine calls_A te l r m st minor hst fun f hf => ?_
    have h3 := h1.1 f (List.mem_append_left _ hf)
    have h4 := reachBytes_lt
    omega

theorem own : ownKnob Tryd.prog.godebug = none := by kernel_rfl
theorem allNames : Tryd.prog.funcs.all (fun fn => !(fn.name == "runtime.NumGoroutine")) = true := by kernel_rfl
theorem mixed : Tryd.prog.follows .mixedOrders = true := by kernel_rfl

set_option maxHeartbeats 4000000 in
set_option maxRecDepth 100000 in
theorem lifted (os : Os) (started : os.Started) (H : Type) (enc : TypeId × Value → H) :
    ReturnsInHanded {} Tryd.checked os 3 .any (fun w args => (Rows.framingCallsSpec.pre enc Tryd.prog Tryd.f3 Rows.framingCallsRow.domain false w args ∧ laidMetH Tryd.prog Rows.framingCallsRow.laid w) ∧ sizedMet enc Tryd.prog Tryd.f3 (OpenSpec.ofChange Rows.framingCallsSpec) false w args)
      (Rows.framingCallsSpec.post enc Tryd.prog Tryd.f3 false true false false) := by
  refine returnsInHanded_of_change_and (C := Tryd.checked) (X := fun w _ => laidMetH Tryd.prog Rows.framingCallsRow.laid w) (fun _ _ _ hh h => h.of_heap hh) own started (by kernel_rfl) Tryd.func3
    (ChangeSpec.witness_shaped (enc := enc) (C := Tryd.checked) (os := os) (X := fun w _ => laidMetH Tryd.prog Rows.framingCallsRow.laid w) false (World.laidAll Tryd.prog os Rows.framingCallsRow.laid) #[.slice none 0 0, .string ByteArray.empty, .int .i64 0, .int .i64 0] 8 (World.laidAll_os _ _ _)
      (World.shaped_of_ZipB (by kernel_rfl) (by kernel_rfl)) (by kernel_rfl) (by kernel_rfl) (by kernel_rfl)
      (by rw [MakeChecks.laidMetH_plain _ _ _ (by kernel_rfl)]; exact laidMet_laidAll _ (by kernel_rfl) (by kernel_rfl))) ?_
  intro W base args ds gs before hval hW hcnd hsz hlaid _
  obtain ⟨te, herr⟩ := err_rel hlaid
  exact contract_of_scG (tb := 4) (by kernel_rfl) (by kernel_rfl) rfl Tryd.underlying4 rfl
    (fun ds h => match ds, h with | [_, _, _, _], _ => ⟨rfl, rfl, rfl⟩)
    (opensArgsS_cons (t := 22) (b := false) (by kernel_rfl) (opensS_slice (e := 42) Tryd.underlying22 (of_decide_eq_true (by kernel_rfl)) ((flatS_struct (n := 2) Tryd.underlying42 (flatFsS_cons (n := 1) (flatS_str Tryd.underlying9) (flatFsS_cons (n := 1) (flatS_str Tryd.underlying9) (flatFsS_nil 2)))).turn (fun x => (x.1, x.2.1)) (fun t : List UInt8 × List UInt8 => [.str t.1, .str t.2]) (fun t => t.1.length ≤ reachBytes ∧ t.2.length ≤ reachBytes) (fun _ => rfl) (fun _ h => ⟨h.1, h.2.1⟩)) (fun _ => (by kernel_rfl : 2 = Tryd.prog.cellsOf 42)) 0) (opensArgsS_cons (t := 9) (b := false) (by kernel_rfl) (flatS_str Tryd.underlying9).opens (opensArgsS_cons (t := 3) (b := false) (by kernel_rfl) (flat_int Tryd.underlying3).sized.opens (opensArgsS_cons (t := 3) (b := false) (by kernel_rfl) (flat_int Tryd.underlying3).sized.opens opensArgsS_nil))))
    herr
    (fun x hx => by
      have := fact te x hx.1 hx.2.2.1
      rw [← List.append_nil (x.1.blk _ 0)] at this
      exact this) hval hW (sz_of rfl hW hsz)

theorem over : Rows.framingCallsRow.holds Tryd.pinned (OpenSpec.ofChange Rows.framingCallsSpec) :=
  OpenClaim.holds_of_wide 3 Tryd.f3 rfl rfl rfl rfl rfl rfl rfl ⟨rfl, rfl, rfl, rfl, rfl⟩ rfl rfl rfl rfl rfl (by kernel_rfl) Tryd.func3 (by kernel_rfl)
    (of_decide_eq_true (by kernel_rfl)) (by unfold Func.isWrapper; first | (rw [if_pos (by decide +kernel)]; kernel_rfl) | (rw [if_neg (by decide +kernel)]; exact ⟨rfl, rfl⟩))
    (fun os started H enc _ => lifted os started H enc)

/-- THE STATEMENT. -/
theorem proved : Rows.FramingCallsCardSaid :=
  Claim7.holds_tied_plain_at .later [] Rows.framingCallsCard.laidKinds true Rows.framingCallsCard.stood.harness Rows.framingCallsCard.stood.looks
    over (fun _ h => by cases h) (by kernel_rfl) (fun _ h => by cases h) framingCalls_row_tie rfl ⟨rfl, rfl⟩ (by kernel_rfl) rfl
    (fun f fn hf hfn => by
      obtain rfl : f = 3 := Option.some.inj ((show Tryd.prog.funcNamed "halfwayhouse/halfwayhouselaw04.FramingCalls" = some 3 by kernel_rfl).symm.trans hf) |>.symm
      obtain rfl : fn = Tryd.f3 := (Option.some.inj (Tryd.func3.symm.trans hfn)).symm
      exact ⟨by kernel_rfl, fun j t ht => by
        rw [Tryd.params3] at ht
        have hm : t ∈ [22, 9, 3, 3] := by simpa using Array.mem_of_getElem? ht
        have hall : ([22, 9, 3, 3].all fun u => !Tryd.prog.wantsStandIn u) = true := by kernel_rfl
        exact (show Tryd.prog.wantsStandIn t = false by simpa using List.all_eq_true.1 hall t hm)⟩)
    (by kernel_rfl)
#print axioms proved
end Go.Proofs.YtciciemaldbidaaDoor.framingCalls
