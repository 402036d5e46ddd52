/- A contract of the kit's shelf (a result, and what was there is as it was), told of abstract values. -/
import Derived.Test.YtainjcpocodehaaSd
set_option linter.unusedSimpArgs false
set_option linter.unusedVariables false
namespace Go.Ve
open Go Go.RowKit

theorem Rel.cell {w0 : Base} {φ : List Loc} {H : AH} {w : World} (h : Rel w0 φ H w) {b : Nat} {vs : List AV} {e : Nat} {ro : Bool} {l : Loc} (hb : H[b]? = some (.cells vs e ro)) (hl : φ[b]? = some l) {j : Nat} {v : AV} (hj : vs[j]? = some v) :
    ∃ u, VR φ v u ∧ w.cell? ⟨l.blk, l.sh + j, none⟩ = some u := by
  have h1 := h.blocks b _ l hb hl
  cases ro with
  | true => exact h1.2.2 j v hj
  | false => exact h1.2 j v hj
theorem Rel.blk_lt {w0 : Base} {φ : List Loc} {H : AH} {w : World} (h : Rel w0 φ H w) {b : Nat} {k : ABlk} {l : Loc} (hb : H[b]? = some k) (hd : k ≠ .dead) (hl : φ[b]? = some l) : l.blk < w.heap.size :=
  (h.blocks b k l hb hl).lt h.below.size hd
end Go.Ve

namespace Go.Ve
open Go Go.RowKit
end Go.Ve
namespace Go.Ve
open Go Go.RowKit
theorem SC.reads {P : Program} {f : FuncId} {args0 : List AV} {H0 : AH} {K0 K : AV → AH → Prop} (h : SC P f args0 H0 K0) (hk : ∀ k ∈ H0, k ≠ .dead ∧ ∀ ρ, k.ren ρ = k) {H : AH} {σ : List Nat} (hnd : σ.Nodup) (hlen : H0.length = σ.length) (hb : ∀ (i b : Nat), σ[i]? = some b → H[b]? = H0[i]?)
    (hK : ∀ v0 H0', K0 v0 H0' → ∃ T, H0' = H0 ++ T ∧ (∀ t ∈ T, t.own = true ∨ t = .dead) ∧ K (v0.ren (upN σ H0.length H.length)) (H ++ T.map (ABlk.ren (upN σ H0.length H.length)))) :
    SC P f (AV.rens (rn σ H.length) args0) H K := by
  have hget : ∀ (i b : Nat), σ[i]? = some b → ∃ k, H0[i]? = some k ∧ H[b]? = some k := fun i b hi => by
    have hlt : i < H0.length := by rw [hlen]; exact (List.getElem?_eq_some_iff.1 hi).1
    exact ⟨_, List.getElem?_eq_getElem hlt, by rw [hb i b hi, List.getElem?_eq_getElem hlt]⟩
  have hlt : ∀ b ∈ σ, b < H.length := fun b hb' => by
    obtain ⟨i, hi, rfl⟩ := List.getElem_of_mem hb'
    obtain ⟨k, _, h2⟩ := hget i _ (List.getElem?_eq_getElem hi)
    exact (List.getElem?_eq_some_iff.1 h2).1
  refine SC.frame h ⟨hlen, hlt, hnd, (fun i k' hk' => ?_)⟩ ?_
  · have hi : i < σ.length := by rw [← hlen]; exact (List.getElem?_eq_some_iff.1 hk').1
    obtain ⟨k, h1, h2⟩ := hget i _ (List.getElem?_eq_getElem hi)
    rw [hk'] at h1; cases h1
    have hm := hk k' (List.mem_of_getElem? hk')
    refine ⟨_, k', List.getElem?_eq_getElem hi, h2, ⟨fun w0 φ φ' w l _ hp hbr => ?_, fun h => h⟩, rfl, hm.1, hm.1⟩
    rw [← hm.2 (rn σ H.length)] at hbr
    exact hbr.unren hp
  · intro v0 H0' h0
    obtain ⟨T, rfl, hT, hKT⟩ := hK v0 H0' h0
    refine ⟨H ++ T.map (ABlk.ren (upN σ H0.length H.length)), ⟨by simp, by simp, fun b' hb' _ => List.getElem?_append_left hb', fun i b' hi => ?_, fun i k' hi hk' => ?_⟩, hKT⟩
    · obtain ⟨k, h1, h2⟩ := hget i b' hi
      have hm := hk k (List.mem_of_getElem? h1)
      have hbl : b' < H.length := hlt b' (List.mem_of_getElem? hi)
      have hil : i < H0.length := (List.getElem?_eq_some_iff.1 h1).1
      refine .inl ⟨k, by rw [List.getElem?_append_left hil]; exact h1, by rw [hm.2, List.getElem?_append_left hbl]; exact h2, fun ho => .inr ⟨k, h2, ho, hm.1⟩⟩
    · rw [List.getElem?_append_right (by omega)] at hk'
      refine ⟨?_, hT k' (List.mem_of_getElem? hk')⟩
      rw [List.getElem?_append_right (by omega), Nat.add_sub_cancel_left, List.getElem?_map, hk']
      rfl
end Go.Ve

