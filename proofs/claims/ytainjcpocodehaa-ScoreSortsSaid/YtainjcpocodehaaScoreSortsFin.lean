/- The law ScoreSorts of layer 23 returns true for any numbers; nothing that was there is changed. No conditions. -/
import Derived.Test.YtainjcpocodehaaRows
import Derived.Test.YtainjcpocodehaaSoL
import Derived.Test.YtainjcpocodehaaScZ
import Derived.Test.YtainjcpocodehaaScQ
import Derived.Test.YtainjcpocodehaaScY
set_option linter.unusedSimpArgs false
set_option linter.unusedVariables false
namespace Go.Proofs.Ytainjcpocodehaa.scoreSorts
open Go.Ve Go.ChangeShapes Go.WideShapes Go.ChangeAt Go.RowKit
set_option maxRecDepth 20000

theorem eLiv_ok : EntryOk Try.prog 10 (flatE gLiv) := by
  refine flatE_ok fun args b v hg hb => ?_
  unfold gLiv at hg
  split at hg
  · cases hg
    exact ⟨rfl, rfl, oneS (SC.ofF (V := VLv) names0 mixed0 TLv_ok noO_ok liv_vc.h)⟩
  · cases hg
theorem eBsN_ok : EntryOk Try.prog 58 eBsN := by
  intro args H sr hs K hk
  unfold eBsN at hs
  split at hs
  · rename_i b n c ex s
    split at hs
    · rename_i cs e ro hb
      cases hs
      obtain ⟨hn, ⟨rf, h0⟩, h2⟩ := cond_need hk
      have hB : bestV (eqI s 1) ((getF cs).take n) = ic (bI (eqI s 1) ((getF cs).take n)) := by
        unfold bestV
        rw [if_neg (by rw [List.length_take]; have := rf.n1; omega)]; rfl
      refine eBs_ok _ H (.need (eqI s (-1) || eqI s 1) (.needP (RF cs n) (.ok (.int .i64 (bestV (eqI s 1) ((getF cs).take n))) none))) (by unfold eBs; simp only [hb]) K (need_intro hn ⟨rf, ?_⟩)
      rw [hB]
      exact h2
    · cases hs
  · cases hs
theorem eSo1_ok (h : EntryOk Try.prog 19 eSo) : EntryOk Try.prog 19 eSo1 := by
  intro args H sr hs K hk
  unfold eSo1 at hs
  split at hs
  · rename_i b n c ex
    split at hs
    · rename_i cs e ro hb
      cases hs
      obtain ⟨hn, rf, h2⟩ := cond_need hk
      have hn : Nat.beq n 0 = false := by rwa [not_t] at hn
      refine h _ H (.needP (RF cs n) (.br (Nat.beq n 0) (.ok .nilsl none) (.ok (.sl H.length 0 n n false) (some (H ++ [.cells (fC (isF ((getF cs).take n) n)) eF false]))))) (by unfold eSo; simp only [hb]) K ⟨rf, ?_⟩
      simp only [SR.run, hn, cond_false]
      exact h2
    · cases hs
  · cases hs
theorem TSS_ok : SpecOk Try.prog (tabS TSS noS) := by
  refine tabS_ok (fun p hp => ?_) noS_ok
  simp only [TSS, List.mem_cons, List.mem_nil_iff, or_false] at hp
  rcases hp with rfl | rfl | rfl | rfl | rfl
  · exact eLiv_ok
  · exact gCmpF_ok
  · exact eBsN_ok
  · exact eSo1_ok (eSrt_ok eClF_ok eSrF_ok)
  · exact eSame_ok
theorem TSE_ok : SpecOk Try.prog (tabS TSE noS) := by
  refine tabS_ok (fun p hp => ?_) noS_ok
  simp only [TSE, List.mem_cons, List.mem_nil_iff, or_false] at hp
  rcases hp with rfl | rfl | rfl | rfl | rfl
  · exact eLiv_ok
  · exact gCmpF_ok
  · exact eBs_ok
  · exact eSrt_ok eClF_ok eSrF_ok
  · exact eSame_ok
theorem fls_flatMap (l : FL) : l.flatMap (fun n => [AV.float .f64 n]) = fC l := by
  unfold fC
  induction l with
  | nil => rfl
  | cons a r ih => rw [List.flatMap_cons, ih]; rfl
theorem fact (x : SlA Nat × Unit) (h4 : (∀ y ∈ x.1.all, y < 2 ^ 64) ∧ x.1.all.length ≤ maxLen) :
    SC Try.prog 4 [x.1.av 0] (x.1.blk (fun n => [.float .f64 n]) 0) fun v _ => v = .bool true := by
  obtain ⟨s, _⟩ := x
  match s, h4 with
  | .nil, _ =>
    have h : HoldsK vSSN := ssN_vc
    unfold vSSN at h
    exact (oneS (SC.ofFK (V := VSE) names0 mixed0 TSE_ok noO_ok h)).mono fun v H h => h.1
  | .zero, _ =>
    have h : HoldsK vSSZ := ssZ_vc
    unfold vSSZ at h
    exact (oneS (SC.ofFK (V := VSE) names0 mixed0 TSE_ok noO_ok h)).mono fun v H h => h.1
  | .at l r, h4 =>
    show SC _ _ _ [ABlk.cells ((l ++ r).flatMap fun n => [AV.float .f64 n]) 0 true] _
    rw [fls_flatMap]
    have o : ok64 (l ++ r) := fun z hz => decide_eq_true (h4.1 z hz)
    cases l with
    | nil =>
      refine (SC.ofF (V := VSE) names0 mixed0 TSE_ok noO_ok (ss0_vc r 0 true _ true o)).mono fun v H h => ?_
      obtain ⟨_, _, h1, _⟩ := outE_one h
      exact h1
    | cons a t =>
      refine (SC.ofF (V := VSS) names0 mixed0 TSS_ok noO_ok (ss_vc (a :: t) r 0 true _ true (by simp) o)).mono fun v H h => ?_
      obtain ⟨_, _, h1, _⟩ := outE_one h
      exact h1

theorem own : ownKnob Try.prog.godebug = none := by kernel_rfl
theorem allNames : Try.prog.funcs.all (fun fn => !(fn.name == "runtime.NumGoroutine")) = true := by kernel_rfl
theorem mixed : Try.prog.follows .mixedOrders = true := by kernel_rfl

set_option maxHeartbeats 4000000 in
set_option maxRecDepth 100000 in
theorem lifted (os : Os) (started : os.Started) (H : Type) (enc : TypeId × Value → H) :
    ReturnsInHanded {} Try.checked os 4 .any (Rows.scoreSortsSpec.pre6 enc Try.prog Try.f4 Rows.scoreSortsRow.domain false) (Rows.scoreSortsSpec.post enc Try.prog Try.f4 false true false false) := by
  refine returnsInHanded_of_change (C := Try.checked) own started (by kernel_rfl) Try.func4
    (ChangeSpec.witness6 (enc := enc) (C := Try.checked) false ⟨#[], #[.slice none 0 0], []⟩ 8 (by kernel_rfl) (by kernel_rfl) (by kernel_rfl) (by kernel_rfl)) ?_
  intro W base args ds gs before hval hW hcnd _
  exact contract_of_sc (tb := 4) (by kernel_rfl) (by kernel_rfl) rfl Try.underlying4 rfl
    (fun ds h => match ds, h with | [_], _ => ⟨rfl, rfl, rfl⟩) (opensArgs_cons (t := 25) (b := false) (by kernel_rfl) (opens_slice (e := 22) Try.underlying25 (of_decide_eq_true (by kernel_rfl)) (flat_float Try.underlying22) (fun _ => (by kernel_rfl : 1 = Try.prog.cellsOf 22)) 0) opensArgs_nil) (fun x hx => (List.append_nil (x.1.blk (fun n => [AV.float .f64 n]) 0)).symm ▸ fact x hx.1) hval hW

theorem over : Rows.scoreSortsRow.holds Try.pinned (OpenSpec.ofChange Rows.scoreSortsSpec) :=
  OpenClaim.holds_of_wide 4 Try.f4 rfl rfl rfl rfl rfl rfl rfl ⟨rfl, rfl, rfl, rfl, rfl⟩ rfl rfl rfl rfl rfl (by kernel_rfl) Try.func4 (by kernel_rfl)
    (of_decide_eq_true (by kernel_rfl)) (by unfold Func.isWrapper; first | (rw [if_pos (by decide +kernel)]; kernel_rfl) | (rw [if_neg (by decide +kernel)]; exact ⟨rfl, rfl⟩))
    (fun os started H enc _ => lifted os started H enc)

/-- THE STATEMENT. -/
theorem proved : Rows.ScoreSortsSaid :=
  over
#print axioms proved
end Go.Proofs.Ytainjcpocodehaa.scoreSorts
