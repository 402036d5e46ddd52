/- A row of an own block laid anew, as the kit's sort says it. -/
import Derived.Test.YtainjcpocodehaaSf
import Derived.Sort.Grow
set_option linter.unusedSimpArgs false
set_option linter.unusedVariables false
namespace Go.Ve
open Go Go.RowKit Go.Sort

theorem Rel.putRow {α : Type} [Inhabited α] {enc : α → Value} {w0 : Base} {φ : List Loc} {H : AH} {w : World} (hr : Rel w0 φ H w) {b : Nat} {vs vs' : List AV} {e : Nat} {l : Loc} (hb : H[b]? = some (.cells vs e false)) (hl : φ[b]? = some l) {d : Array α} (hlen : vs'.length = vs.length) (hsz : d.size = vs.length)
    (henc : ∀ (j : Nat) (v : AV), vs'[j]? = some v → VR φ v (enc d[j]!)) (n : Nat) (os : Array Obj) : Rel w0 φ (H.set b (.cells vs' e false)) (grow (Sort.putRow enc (Sort.ahead w n) l.blk l.sh d) os) := by
  obtain ⟨⟨h1, c, et, fz, h2, h3, h4, h6⟩, h5⟩ := hr.blocks b _ l hb hl
  have hlt : l.blk < w.heap.size := (Array.getElem?_eq_some_iff.1 h2).1
  have hheap : ∀ k, k < w.heap.size → (grow (Sort.putRow enc (Sort.ahead w n) l.blk l.sh d) os).heap[k]? = if l.blk = k then (w.heap[k]?).map (onCells (putCells enc l.sh d)) else w.heap[k]? := by
    intro k hk
    rw [heap_grow_old _ _ (by simpa [Sort.putRow, mapBlock, Sort.ahead] using hk)]
    simp only [Sort.putRow, mapBlock, Sort.ahead, Array.getElem?_modify]
  have hk := hheap l.blk hlt
  rw [if_pos rfl, h2] at hk
  have hk' : (grow (Sort.putRow enc (Sort.ahead w n) l.blk l.sh d) os).heap[l.blk]? = some (.cells (putCells enc l.sh d c) et fz) := hk
  have hcs : (putCells enc l.sh d c).size = c.size := by simp [putCells]
  refine hr.upd hb rfl hl rfl rfl rfl (by simp [grow, Sort.putRow, mapBlock, Sort.ahead]) (fun j hj hjlt => by rw [hheap j hjlt, if_neg (Ne.symm hj)]) ?_ (by show w.drawn ≤ w.drawn + n; omega)
  refine ⟨⟨h1, putCells enc l.sh d c, et, fz, hk', by rw [hcs, hlen]; exact h3, fun j hj => ?_, h6⟩, fun j v hv => ?_⟩
  · have := h4 j (by rw [← hlen]; exact hj)
    simp only [World.frozen?, h2] at this
    simp only [World.frozen?, hk']
    exact this
  · have hj : j < vs.length := by rw [← hlen]; exact (List.getElem?_eq_some_iff.1 hv).1
    refine ⟨enc d[j]!, henc j v hv, ?_⟩
    have hjc : l.sh + j < c.size := by omega
    simp only [World.cell?, hk', Option.isSome_none, Bool.false_eq_true, if_false]
    simp only [putCells, Array.getElem?_mapIdx, Array.getElem?_eq_getElem hjc, Option.map_some]
    rw [if_pos ⟨by omega, by omega⟩, show l.sh + j - l.sh = j by omega]
theorem Rel.frozen {w0 : Base} {φ : List Loc} {H : AH} {w : World} (h : Rel w0 φ H w) {b : Nat} {vs : List AV} {e : Nat} {l : Loc} (hb : H[b]? = some (.cells vs e false)) (hl : φ[b]? = some l) {j : Nat} (hj : j < vs.length) : w.frozen? ⟨l.blk, l.sh + j, none⟩ = false := by
  obtain ⟨⟨_, _, _, _, _, _, h4, _⟩, _⟩ := h.blocks b _ l hb hl
  exact h4 j (by omega)
theorem SC.rowed {P : Program} {f : FuncId} {args : List AV} {H : AH} {v : AV} {H2 : AH}
    (h : ∀ w0 φ w us, Rel w0 φ H w → VRs φ args us.toList → Calls P f us w fun e w' => ∃ u, e = .returned u ∧ VR φ v u ∧ Rel w0 φ H2 w') : SC P f args H (fun v' H' => v' = v ∧ H' = H2) := by
  intro w0 φ w us hr ha
  refine (h w0 φ w us hr ha).mono ?_
  rintro e w' ⟨u, rfl, hu, hb⟩
  exact ⟨u, v, H2, φ, ⟨rfl, rfl⟩, rfl, Ext.refl _, hu, hb⟩
end Go.Ve

