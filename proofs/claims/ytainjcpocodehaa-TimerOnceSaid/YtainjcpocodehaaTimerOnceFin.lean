/- The law TimerOnce of layer 18 returns true for any calls; nothing that was there is changed. No conditions. -/
import Derived.Test.YtainjcpocodehaaRows
import Derived.Test.YtainjcpocodehaaOnL
set_option linter.unusedSimpArgs false
set_option linter.unusedVariables false
namespace Go.Proofs.Ytainjcpocodehaa.timerOnce
open Go.Ve Go.ChangeShapes Go.WideShapes Go.ChangeAt Go.RowKit
set_option maxRecDepth 20000
theorem Flat.turn {H : Type} {enc : TypeId × Value → H} {P : Program} {w : World} {t : TypeId} {α β : Type} {f : α → List AV} {G : α → Prop} (h : Flat enc P w t f G) (g : α → β) (f' : β → List AV) (G' : β → Prop) (hf : ∀ x, f x = f' (g x)) (hG : ∀ x, G x → G' (g x)) : Flat enc P w t f' G' := by
  intro fuel cs d ps hd
  obtain ⟨x, h1, h2⟩ := h fuel cs d ps hd
  exact ⟨g x, hG x h1, fun φ => by rw [← hf]; exact h2 φ⟩
set_option maxHeartbeats 4000000 in
set_option maxHeartbeats 4000000 in
set_option maxRecDepth 100000 in
theorem act_flat {H : Type} {enc : TypeId × Value → H} {w : World} : Flat enc Try.prog w 49 (fun a : Int × Int × Int => [.int .i64 a.1, .int .i64 a.2.1, .int .i64 a.2.2]) (fun _ => True) :=
  Flat.turn (flat_struct (n := 3) Try.underlying49 (flatFs_cons (n := 1) (flat_int Try.underlying3) (flatFs_cons (n := 1) (flat_int Try.underlying3) (flatFs_cons (n := 1) (flat_int Try.underlying2) (flatFs_nil 3))))) (fun x => (x.1, x.2.1, x.2.2.1)) (fun a : Int × Int × Int => [.int .i64 a.1, .int .i64 a.2.1, .int .i64 a.2.2]) (fun _ => True) (fun _ => rfl) (fun _ _ => trivial)
theorem TOn_ok : SpecOk Try.prog (tabS TOn noS) := by
  refine tabS_ok (fun p hp => ?_) noS_ok
  simp only [TOn, List.mem_cons, List.mem_nil_iff, or_false] at hp
  rcases hp with rfl | rfl | rfl | rfl | rfl | rfl
  · exact eLv_ok
  · exact eSet_ok
  · exact eCan_ok
  · exact eDue_ok
  · exact eLen_ok
  · exact gPickN_ok
theorem factN : SC Try.prog 7 [.nilsl] [] fun v _ => v = .bool true := by
  have h : HoldsN vOnN := onN_vc
  unfold vOnN at h
  have h2 := oneS (SC.ofN (V := VOn) names0 mixed0 TOn_ok noO_ok h)
  exact h2.mono fun v H h => h.1
theorem factZ : SC Try.prog 7 [.slz] [] fun v _ => v = .bool true := by
  have h : HoldsN vOnZ := onZ_vc
  unfold vOnZ at h
  have h2 := oneS (SC.ofN (V := VOn) names0 mixed0 TOn_ok noO_ok h)
  exact h2.mono fun v H h => h.1
theorem fact (x : SlA (Int × Int × Int) × Unit) :
    SC Try.prog 7 [x.1.av 0] (x.1.blk (fun a => [.int .i64 a.1, .int .i64 a.2.1, .int .i64 a.2.2]) 0) fun v _ => v = .bool true := by
  obtain ⟨s, _⟩ := x
  match s with
  | .nil => exact factN
  | .zero => exact factZ
  | .at l r =>
    refine (SC.ofF (V := VOn) names0 mixed0 TOn_ok noO_ok (on_vc l r 0 true _ true)).mono fun v H h => ?_
    obtain ⟨_, _, h1, _⟩ := outE_one h
    exact h1

theorem own : ownKnob Try.prog.godebug = none := by kernel_rfl
theorem allNames : Try.prog.funcs.all (fun fn => !(fn.name == "runtime.NumGoroutine")) = true := by kernel_rfl
theorem mixed : Try.prog.follows .mixedOrders = true := by kernel_rfl

set_option maxHeartbeats 4000000 in
set_option maxRecDepth 100000 in
theorem lifted (os : Os) (started : os.Started) (H : Type) (enc : TypeId × Value → H) :
    ReturnsInHanded {} Try.checked os 7 .any (Rows.timerOnceSpec.pre6 enc Try.prog Try.f7 Rows.timerOnceRow.domain false) (Rows.timerOnceSpec.post enc Try.prog Try.f7 false true false false) := by
  refine returnsInHanded_of_change (C := Try.checked) own started (by kernel_rfl) Try.func7
    (ChangeSpec.witness6 (enc := enc) (C := Try.checked) false ⟨#[], #[.slice none 0 0], []⟩ 8 (by kernel_rfl) (by kernel_rfl) (by kernel_rfl) (by kernel_rfl)) ?_
  intro W base args ds gs before hval hW hcnd _
  exact contract_of_sc (tb := 4) (by kernel_rfl) (by kernel_rfl) rfl Try.underlying4 rfl
    (fun ds h => match ds, h with | [_], _ => ⟨rfl, rfl, rfl⟩) (opensArgs_cons (t := 43) (b := false) (by kernel_rfl) (opens_slice (e := 49) Try.underlying43 (of_decide_eq_true (by kernel_rfl)) act_flat (fun _ => (by kernel_rfl : 3 = Try.prog.cellsOf 49)) 0) opensArgs_nil) (fun x hx => (List.append_nil (x.1.blk (fun a => [AV.int .i64 a.1, .int .i64 a.2.1, .int .i64 a.2.2]) 0)).symm ▸ fact x) hval hW

theorem over : Rows.timerOnceRow.holds Try.pinned (OpenSpec.ofChange Rows.timerOnceSpec) :=
  OpenClaim.holds_of_wide 7 Try.f7 rfl rfl rfl rfl rfl rfl rfl ⟨rfl, rfl, rfl, rfl, rfl⟩ rfl rfl rfl rfl rfl (by kernel_rfl) Try.func7 (by kernel_rfl)
    (of_decide_eq_true (by kernel_rfl)) (by unfold Func.isWrapper; first | (rw [if_pos (by decide +kernel)]; kernel_rfl) | (rw [if_neg (by decide +kernel)]; exact ⟨rfl, rfl⟩))
    (fun os started H enc _ => lifted os started H enc)

/-- THE STATEMENT. -/
theorem proved : Rows.TimerOnceSaid :=
  over
#print axioms proved
end Go.Proofs.Ytainjcpocodehaa.timerOnce
