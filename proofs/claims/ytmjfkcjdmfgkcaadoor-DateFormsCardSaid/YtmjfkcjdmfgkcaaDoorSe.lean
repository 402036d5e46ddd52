/- A contract of the kit's shelf (a result, and what was there is as it was), told of abstract values. -/
import Derived.Test.YtmjfkcjdmfgkcaaDoorSd
set_option linter.unusedSimpArgs false
set_option linter.unusedVariables false
namespace Go.Ve
open Go Go.RowKit

theorem Rel.under {w0 : Base} {φ : List Loc} {H : AH} {w w' : World} (h : Rel w0 φ H w) (hb : Below w.heap.size w w') : Rel w0 φ H w' := by
  have hlt : ∀ j, w0.keep j → j < w.heap.size := fun j hj => Nat.lt_of_lt_of_le (w0.lt j hj) h.below.size
  refine ⟨h.len, ⟨hb.os.trans h.below.os, hb.tape.trans h.below.tape, hb.output.trans h.below.output, Nat.le_trans h.below.size hb.size, fun k hk => (hb.block k (hlt k hk)).trans (h.below.block k hk)⟩, fun b k l hk hl => ?_, h.inj⟩
  have h1 := h.blocks b k l hk hl
  by_cases hd : k = .dead
  · subst hd; trivial
  · exact h1.keep (hb.block _ (h1.lt h.below.size hd))
/-- A shelf's contract of a flat answer. -/
theorem SC.under {P : Program} {f : FuncId} {args : List AV} {H : AH} {v : AV}
    (h : ∀ w0 φ w us, Rel w0 φ H w → VRs φ args us.toList → Calls P f us w fun e w' => ∃ u, e = .returned u ∧ VR φ v u ∧ Below w.heap.size w w') : SC P f args H (fun v' H' => v' = v ∧ H' = H) := by
  intro w0 φ w us hr ha
  refine (h w0 φ w us hr ha).mono ?_
  rintro e w' ⟨u, rfl, hu, hb⟩
  exact ⟨u, v, H, φ, ⟨rfl, rfl⟩, rfl, Ext.refl _, hu, hr.under hb⟩
/-- What a row of cells holds, in the world. -/
theorem Rel.cell {w0 : Base} {φ : List Loc} {H : AH} {w : World} (h : Rel w0 φ H w) {b : Nat} {vs : List AV} {e : Nat} {ro : Bool} {l : Loc} (hb : H[b]? = some (.cells vs e ro)) (hl : φ[b]? = some l) {j : Nat} {v : AV} (hj : vs[j]? = some v) :
    ∃ u, VR φ v u ∧ w.cell? ⟨l.blk, l.sh + j, none⟩ = some u := by
  have h1 := h.blocks b _ l hb hl
  cases ro with
  | true => exact h1.2.2 j v hj
  | false => exact h1.2 j v hj
theorem Rel.blk_lt {w0 : Base} {φ : List Loc} {H : AH} {w : World} (h : Rel w0 φ H w) {b : Nat} {k : ABlk} {l : Loc} (hb : H[b]? = some k) (hd : k ≠ .dead) (hl : φ[b]? = some l) : l.blk < w.heap.size :=
  (h.blocks b k l hb hl).lt h.below.size hd
theorem Rel.gcell {w0 : Base} {φ : List Loc} {H : AH} {w : World} (h : Rel w0 φ H w) {b g : Nat} {vs : List AV} (hb : H[b]? = some (.glob g vs)) {j : Nat} {v : AV} (hj : vs[j]? = some v) :
    ∃ u, VR φ v u ∧ w.cell? ⟨g, j, none⟩ = some u := by
  have hlt : b < φ.length := by rw [h.len]; exact (List.getElem?_eq_some_iff.1 hb).1
  obtain ⟨_, h1, ⟨h2, _⟩, h3⟩ := h.blocks b _ _ hb (List.getElem?_eq_getElem hlt)
  have := h3 j v hj
  rw [h1, h2, Nat.zero_add] at this
  exact this
/-- Behind the last cell of a known variable there is none. -/
theorem Rel.gend {w0 : Base} {φ : List Loc} {H : AH} {w : World} (h : Rel w0 φ H w) {b g : Nat} {vs : List AV} (hb : H[b]? = some (.glob g vs)) {j : Nat} (hj : vs.length ≤ j) : w.cell? ⟨g, j, none⟩ = none := by
  have hlt : b < φ.length := by rw [h.len]; exact (List.getElem?_eq_some_iff.1 hb).1
  obtain ⟨_, h1, ⟨_, h2⟩, _⟩ := h.blocks b _ _ hb (List.getElem?_eq_getElem hlt)
  rw [← h1]; exact h2 j hj
end Go.Ve

namespace Go.Ve
open Go Go.RowKit
theorem SC.reads1 {P : Program} {f : FuncId} {args0 : List AV} {k : ABlk} {K0 K : AV → AH → Prop} (h : SC P f args0 [k] K0) (hk : ∀ ρ, k.ren ρ = k) (hd : k ≠ .dead) {H : AH} {b : Nat} (hb : H[b]? = some k)
    (hK : ∀ v0 H0', K0 v0 H0' → ∃ T, H0' = k :: T ∧ (∀ t ∈ T, t.own = true ∨ t = .dead) ∧ K (v0.ren (upN [b] 1 H.length)) (H ++ T.map (ABlk.ren (upN [b] 1 H.length)))) :
    SC P f (AV.rens (rn [b] H.length) args0) H K := by
  have hlt : b < H.length := (List.getElem?_eq_some_iff.1 hb).1
  refine SC.frame h ⟨rfl, (fun i hi => by simp at hi; subst hi; exact hlt), (by simp), (fun i k' hk' => ?_)⟩ ?_
  · cases i with
    | zero =>
      simp at hk'
      subst hk'
      refine ⟨b, k, rfl, hb, ⟨fun w0 φ φ' w l _ hp hbr => ?_, fun h => h⟩, rfl, hd, hd⟩
      rw [← hk (rn [b] H.length)] at hbr
      exact hbr.unren hp
    | succ i => simp at hk'
  · intro v0 H0' h0
    obtain ⟨T, rfl, hT, hKT⟩ := hK v0 H0' h0
    refine ⟨H ++ T.map (ABlk.ren (upN [b] 1 H.length)), ⟨by simp, by simp, fun b' hb' _ => List.getElem?_append_left hb', fun i b' hi => ?_, fun i k' hi hk' => ?_⟩, hKT⟩
    · cases i with
      | zero =>
        simp at hi
        subst hi
        refine .inl ⟨k, rfl, by rw [hk, List.getElem?_append_left hlt]; exact hb, fun ho => .inr ⟨k, hb, ho, hd⟩⟩
      | succ i => simp at hi
    · cases i with
      | zero => simp at hi
      | succ i =>
        simp at hk'
        refine ⟨?_, hT k' (List.mem_of_getElem? hk')⟩
        rw [show H.length + (i + 1 - [k].length) = H.length + i by simp, List.getElem?_append_right (by omega), Nat.add_sub_cancel_left, List.getElem?_map, hk']
        rfl
end Go.Ve
namespace Go.Ve
open Go Go.RowKit
/-- A call that reads some blocks of flat cells and makes new ones. -/
theorem SC.reads {P : Program} {f : FuncId} {args0 : List AV} {H0 : AH} {K0 K : AV → AH → Prop} (h : SC P f args0 H0 K0) (hk : ∀ k ∈ H0, k ≠ .dead ∧ ∀ ρ, k.ren ρ = k) {H : AH} {σ : List Nat} (hnd : σ.Nodup) (hlen : H0.length = σ.length) (hb : ∀ (i b : Nat), σ[i]? = some b → H[b]? = H0[i]?)
    (hK : ∀ v0 H0', K0 v0 H0' → ∃ T, H0' = H0 ++ T ∧ (∀ t ∈ T, t.own = true ∨ t = .dead) ∧ K (v0.ren (upN σ H0.length H.length)) (H ++ T.map (ABlk.ren (upN σ H0.length H.length)))) :
    SC P f (AV.rens (rn σ H.length) args0) H K := by
  have hget : ∀ (i b : Nat), σ[i]? = some b → ∃ k, H0[i]? = some k ∧ H[b]? = some k := fun i b hi => by
    have hlt : i < H0.length := by rw [hlen]; exact (List.getElem?_eq_some_iff.1 hi).1
    exact ⟨_, List.getElem?_eq_getElem hlt, by rw [hb i b hi, List.getElem?_eq_getElem hlt]⟩
  have hlt : ∀ b ∈ σ, b < H.length := fun b hb' => by
    obtain ⟨i, hi, rfl⟩ := List.getElem_of_mem hb'
    obtain ⟨k, _, h2⟩ := hget i _ (List.getElem?_eq_getElem hi)
    exact (List.getElem?_eq_some_iff.1 h2).1
  refine SC.frame h ⟨hlen, hlt, hnd, (fun i k' hk' => ?_)⟩ ?_
  · have hi : i < σ.length := by rw [← hlen]; exact (List.getElem?_eq_some_iff.1 hk').1
    obtain ⟨k, h1, h2⟩ := hget i _ (List.getElem?_eq_getElem hi)
    rw [hk'] at h1; cases h1
    have hm := hk k' (List.mem_of_getElem? hk')
    refine ⟨_, k', List.getElem?_eq_getElem hi, h2, ⟨fun w0 φ φ' w l _ hp hbr => ?_, fun h => h⟩, rfl, hm.1, hm.1⟩
    rw [← hm.2 (rn σ H.length)] at hbr
    exact hbr.unren hp
  · intro v0 H0' h0
    obtain ⟨T, rfl, hT, hKT⟩ := hK v0 H0' h0
    refine ⟨H ++ T.map (ABlk.ren (upN σ H0.length H.length)), ⟨by simp, by simp, fun b' hb' _ => List.getElem?_append_left hb', fun i b' hi => ?_, fun i k' hi hk' => ?_⟩, hKT⟩
    · obtain ⟨k, h1, h2⟩ := hget i b' hi
      have hm := hk k (List.mem_of_getElem? h1)
      have hbl : b' < H.length := hlt b' (List.mem_of_getElem? hi)
      have hil : i < H0.length := (List.getElem?_eq_some_iff.1 h1).1
      refine .inl ⟨k, by rw [List.getElem?_append_left hil]; exact h1, by rw [hm.2, List.getElem?_append_left hbl]; exact h2, fun ho => .inr ⟨k, h2, ho, hm.1⟩⟩
    · rw [List.getElem?_append_right (by omega)] at hk'
      refine ⟨?_, hT k' (List.mem_of_getElem? hk')⟩
      rw [List.getElem?_append_right (by omega), Nat.add_sub_cancel_left, List.getElem?_map, hk']
      rfl
end Go.Ve

