/- A call that reads some blocks, changes own ones, and makes new ones, told in a small memory, used in a great one. -/
import Derived.Test.YtainjcpocodehaaTmF
import Derived.Test.YtainjcpocodehaaSg
set_option linter.unusedSimpArgs false
set_option linter.unusedVariables false
namespace Go.Ve
open Go Go.RowKit
theorem putL_same : ∀ (σ : List Nat) (L : List ABlk) (H : AH), (∀ (i b : Nat), σ[i]? = some b → H[b]? = L[i]?) → putL σ L H = H
  | [], _, _, _ => rfl
  | _ :: _, [], _, _ => rfl
  | b :: σ, k :: L, H, h => by
    have h0 := h 0 b rfl
    simp only [List.getElem?_cons_zero] at h0
    have e : H.set b k = H := by
      obtain ⟨hb, hk⟩ := List.getElem?_eq_some_iff.1 h0
      rw [← hk]; exact List.set_getElem_self hb
    rw [putL, e]
    exact putL_same σ L H fun i x hx => by simpa using h (i + 1) x (by simpa using hx)
/-- A call that reads some blocks, changes own ones, and makes new ones, told in a small memory, used in a great one. -/
theorem SC.owns2 {P : Program} {f : FuncId} {args0 : List AV} {H0 : AH} {K0 K : AV → AH → Prop} (h : SC P f args0 H0 K0) {H : AH} {σ : List Nat} (hnd : σ.Nodup) (hlen : H0.length = σ.length)
    (hb : ∀ (i b : Nat) (s : ABlk), σ[i]? = some b → H0[i]? = some s → H[b]? = some (s.ren (rn σ H.length)) ∧ s ≠ .dead)
    (hK : ∀ v0 H0', K0 v0 H0' → ∃ L T, H0' = L ++ T ∧ L.length = σ.length ∧ (∀ (i : Nat) (k s : ABlk), L[i]? = some k → H0[i]? = some s → k.own = true ∨ k = .dead ∨ s.own = false) ∧ (∀ k ∈ T, k.own = true ∨ k = .dead) ∧ K (v0.ren (upN σ H0.length H.length)) (putL σ (L.map (ABlk.ren (upN σ H0.length H.length))) H ++ T.map (ABlk.ren (upN σ H0.length H.length)))) :
    SC P f (AV.rens (rn σ H.length) args0) H K := by
  have hget : ∀ (i b : Nat), σ[i]? = some b → ∃ s, H0[i]? = some s := fun i b hi => by
    have : i < H0.length := by rw [hlen]; exact (List.getElem?_eq_some_iff.1 hi).1
    exact ⟨_, List.getElem?_eq_getElem this⟩
  have hlt : ∀ b ∈ σ, b < H.length := fun b hb' => by
    obtain ⟨i, hi, rfl⟩ := List.getElem_of_mem hb'
    obtain ⟨s, h1⟩ := hget i _ (List.getElem?_eq_getElem hi)
    exact (List.getElem?_eq_some_iff.1 (hb i _ s (List.getElem?_eq_getElem hi) h1).1).1
  refine SC.frame h ⟨hlen, hlt, hnd, (fun i k hk => ?_)⟩ ?_
  · have hi : i < σ.length := by rw [← hlen]; exact (List.getElem?_eq_some_iff.1 hk).1
    obtain ⟨h1, h2⟩ := hb i _ k (List.getElem?_eq_getElem hi) hk
    refine ⟨_, _, List.getElem?_eq_getElem hi, h1, ⟨fun w0 φ φ' w l _ hp hbr => hbr.unren hp, fun ho => by rw [ABlk.ren_own]; exact ho⟩, ABlk.ren_own k, h2, fun e => h2 (ABlk.ren_dead e)⟩
  · intro v0 H0' h0
    obtain ⟨L, T, rfl, hL, hO, hT, hKT⟩ := hK v0 H0' h0
    refine ⟨_, ⟨by rw [hlen, List.length_append]; omega, ?_, fun b hb' hn => ?_, fun i b hi => .inl ?_, fun i k hi hk => ?_⟩, hKT⟩
    · rw [List.length_append, putL_len, List.length_map, List.length_append, hlen]; omega
    · rw [List.getElem?_append_left (by rw [putL_len]; exact hb'), putL_not σ _ _ b hn]
    · have hil : i < L.length := by rw [hL]; exact (List.getElem?_eq_some_iff.1 hi).1
      refine ⟨L[i], by rw [List.getElem?_append_left hil, List.getElem?_eq_getElem hil], ?_, fun ho => ?_⟩
      · rw [List.getElem?_append_left (by rw [putL_len]; exact hlt b (List.mem_of_getElem? hi)), putL_get σ _ H hnd hlt (by rw [List.length_map, hL]) i b hi, List.getElem?_map, List.getElem?_eq_getElem hil]; rfl
      · obtain ⟨s, hs⟩ := hget i b hi
        obtain ⟨h1, h2⟩ := hb i b s hi hs
        rcases hO i L[i] s (List.getElem?_eq_getElem hil) hs with h | h | h
        · rw [h] at ho; cases ho
        · exact .inl h
        · exact .inr ⟨_, h1, by rw [ABlk.ren_own]; exact h, fun e => h2 (ABlk.ren_dead e)⟩
    · rw [hlen] at hi
      rw [List.getElem?_append_right (by omega)] at hk
      refine ⟨?_, hT k (List.mem_of_getElem? (by rw [hL] at hk; exact hk))⟩
      rw [List.getElem?_append_right (by rw [putL_len]; omega), putL_len, hlen, Nat.add_sub_cancel_left, List.getElem?_map, ← hL, hk]; rfl
/-- A world behind another, of which nothing was changed. -/
theorem grow_of {W w' : World} (h : BelowB (Base.all W) w') : ∃ (q : Nat) (os : Array Obj), w' = Sort.grow (W.drewN q) os := by
  refine ⟨w'.drawn - W.drawn, w'.heap.extract W.heap.size w'.heap.size, ?_⟩
  have h1 := h.os
  have h2 := h.tape
  have h3 := h.output
  have h4 : W.drawn ≤ w'.drawn := h.drawn
  have h5 : W.heap.size ≤ w'.heap.size := h.size
  have h6 : w'.heap = W.heap ++ w'.heap.extract W.heap.size w'.heap.size := by
    refine Array.ext_getElem? fun i => ?_
    rcases Nat.lt_or_ge i W.heap.size with hi | hi
    · rw [Array.getElem?_append_left hi]; exact h.block i hi
    · rw [Array.getElem?_append_right hi, Array.getElem?_extract]
      split
      · congr 1; omega
      · rw [Array.getElem?_eq_none]; omega
  obtain ⟨hp, tp, dr, os, ou⟩ := w'
  obtain ⟨Hp, Tp, Dr, Os_, Ou⟩ := W
  simp only [Base.all] at h1 h2 h3 h4 h5 h6
  simp only [Sort.grow, World.drewN, World.mk.injEq]
  exact ⟨h6, h2, by omega, h1, h3⟩
end Go.Ve
