/- The variable ErrRange is there; what it holds does not matter. -/
import Derived.Test.YtnflmiaaijcgkaaDoorRows
import Derived.Test.YtnflmiaaijcgkaaDoorVe1
import Derived.ProofKit
import Derived.OpenShut
import Derived.LaidMore
import Derived.Lay
import Derived.SevenTiedAt
namespace Go.Proofs.YtnflmiaaijcgkaaDoor.framingNames
open Go Go.Ve Go.ChangeShapes Go.WideShapes Go.ChangeAt Go.RowKit

theorem trod_iface_one {H : Type} {enc : TypeId × Value → H} {P : Program} {w : World} {base : Nat} {spare : Nat → Bool} {held : Bool} {fuel t : Nat} {d : TypeDesc} {cs : List Value} {x : DataW H × List MemPlace} (ht : P.underlying t = some d) (hi : (match d with | .interface _ => true | _ => false) = true)
    (h : DataW.trod enc P w base spare held fuel t cs = some x) : ∃ v, cs = [v] ∧ v.oneCell' = true := by
  cases d <;> first | (cases hi; done) | skip
  cases fuel with
  | zero => simp [DataW.trod] at h
  | succ n =>
    unfold DataW.trod at h
    rw [ht] at h
    split at h <;> first | (simp only [reduceCtorEq, Option.some.injEq] at *; done) | exact ⟨_, rfl, rfl⟩ | simp_all

theorem err_cell {W : World} (h : laidMetH Tryd.prog Rows.framingNamesRow.laid W) : ∃ v, v.oneCell' = true ∧ W.cell? ⟨2, 0, none⟩ = some v := by
  rw [MakeChecks.laidMetH_plain _ _ _ (by kernel_rfl)] at h
  obtain ⟨ps, ⟨_, _, _, _, _, _, _, _, _, _, ⟨_, _, _, _, _, _, _, _, _, _, ⟨_, _, _, _, _, _, _, _, _, _, ⟨_, _, _, _, _, _, _, _, _, _, ⟨g, t, cs, fuel, p, q, hg, ht, hv, hd, _, _⟩, _⟩, _⟩, _⟩, _⟩, _, _⟩ := h
  obtain rfl := Option.some.inj ((show Tryd.prog.globalNamed "strconv.ErrRange" = some 2 by kernel_rfl).symm.trans hg)
  obtain rfl := Option.some.inj ((show (Tryd.prog.globals[2]?).map (·.type) = some 81 by kernel_rfl).symm.trans ht)
  rw [World.var?_cell hg hv 0]
  obtain ⟨v, hc, h1⟩ := trod_iface_one Tryd.underlying81 rfl hd
  exact ⟨v, h1, by rw [← Array.getElem?_toList, hc]; rfl⟩

theorem err_rel {W : World} (h : laidMetH Tryd.prog Rows.framingNamesRow.laid W) : Rel (Base.all W) [⟨2, 0, 0⟩] [.glob 2 [.opq]] W := by
  obtain ⟨v0, h1, hc⟩ := err_cell h
  have hlt : 2 < W.heap.size := by
    refine Decidable.byContradiction fun hn => ?_
    unfold World.cell? at hc
    rw [Array.getElem?_eq_none (by simpa using hn)] at hc
    cases hc
  refine ⟨rfl, BelowB.refl _, fun b k l hk hl => ?_, fun b b' k k' l l' hk hk' hl hl' ho ho' _ => ?_⟩
  · cases b with
    | zero =>
      cases hk; cases hl
      refine ⟨hlt, rfl, rfl, fun j v hj => ?_⟩
      cases j with
      | zero => cases hj; exact ⟨v0, VR.opq h1, hc⟩
      | succ j => simp at hj
    | succ b => simp at hk
  · cases b with
    | zero => cases b' with
      | zero => rfl
      | succ b' => simp at hk'
    | succ b => simp at hk
end Go.Proofs.YtnflmiaaijcgkaaDoor.framingNames
