/- A call that changes some own blocks and makes new ones, told in a small memory, used in a great one. -/
import Derived.Test.YtainjcpocodehaaSe
set_option linter.unusedSimpArgs false
set_option linter.unusedVariables false
namespace Go.Ve
open Go Go.RowKit

def putL : List Nat → List ABlk → AH → AH
  | b :: σ, k :: L, H => putL σ L (H.set b k)
  | _, _, H => H
theorem putL_len : ∀ (σ : List Nat) (L : List ABlk) (H : AH), (putL σ L H).length = H.length
  | [], _, _ => rfl
  | _ :: _, [], _ => rfl
  | b :: σ, k :: L, H => by rw [putL, putL_len σ L, List.length_set]
theorem putL_not : ∀ (σ : List Nat) (L : List ABlk) (H : AH) (b : Nat), b ∉ σ → (putL σ L H)[b]? = H[b]?
  | [], _, _, _, _ => rfl
  | _ :: _, [], _, _, _ => rfl
  | a :: σ, k :: L, H, b, h => by
    simp only [List.mem_cons, not_or] at h
    rw [putL, putL_not σ L _ b h.2, List.getElem?_set_ne (Ne.symm h.1)]
theorem putL_get : ∀ (σ : List Nat) (L : List ABlk) (H : AH), σ.Nodup → (∀ b ∈ σ, b < H.length) → σ.length = L.length → ∀ (i b : Nat), σ[i]? = some b → (putL σ L H)[b]? = L[i]?
  | [], _, _, _, _, _, i, b, h => by simp at h
  | _ :: _, [], _, _, _, hl, _, _, _ => by simp at hl
  | a :: σ, k :: L, H, hn, hlt, hl, 0, b, h => by
    simp only [List.getElem?_cons_zero, Option.some.injEq] at h
    subst h
    simp only [List.nodup_cons] at hn
    rw [putL, putL_not σ L _ a hn.1, List.getElem?_set_self (hlt a (by simp))]; rfl
  | a :: σ, k :: L, H, hn, hlt, hl, i + 1, b, h => by
    simp only [List.nodup_cons] at hn
    rw [putL, putL_get σ L _ hn.2 (fun x hx => by rw [List.length_set]; exact hlt x (by simp [hx])) (by simpa using hl) i b (by simpa using h)]; rfl
theorem SC.owns {P : Program} {f : FuncId} {args0 : List AV} {H0 : AH} {K0 K : AV → AH → Prop} (h : SC P f args0 H0 K0) {H : AH} {σ : List Nat} (hnd : σ.Nodup) (hlen : H0.length = σ.length)
    (hb : ∀ (i b : Nat) (s : ABlk), σ[i]? = some b → H0[i]? = some s → H[b]? = some (s.ren (rn σ H.length)) ∧ s.own = true)
    (hK : ∀ v0 H0', K0 v0 H0' → ∃ L T, H0' = L ++ T ∧ L.length = σ.length ∧ (∀ k ∈ L ++ T, k.own = true ∨ k = .dead) ∧ K (v0.ren (upN σ H0.length H.length)) (putL σ (L.map (ABlk.ren (upN σ H0.length H.length))) H ++ T.map (ABlk.ren (upN σ H0.length H.length)))) :
    SC P f (AV.rens (rn σ H.length) args0) H K := by
  have hget : ∀ (i b : Nat), σ[i]? = some b → ∃ s, H0[i]? = some s := fun i b hi => by
    have : i < H0.length := by rw [hlen]; exact (List.getElem?_eq_some_iff.1 hi).1
    exact ⟨_, List.getElem?_eq_getElem this⟩
  have hlt : ∀ b ∈ σ, b < H.length := fun b hb' => by
    obtain ⟨i, hi, rfl⟩ := List.getElem_of_mem hb'
    obtain ⟨s, h1⟩ := hget i _ (List.getElem?_eq_getElem hi)
    exact (List.getElem?_eq_some_iff.1 (hb i _ s (List.getElem?_eq_getElem hi) h1).1).1
  have ownd : ∀ k : ABlk, k.own = true → k ≠ .dead := fun k h e => by subst e; cases h
  refine SC.frame h ⟨hlen, hlt, hnd, (fun i k hk => ?_)⟩ ?_
  · have hi : i < σ.length := by rw [← hlen]; exact (List.getElem?_eq_some_iff.1 hk).1
    obtain ⟨h1, h2⟩ := hb i _ k (List.getElem?_eq_getElem hi) hk
    refine ⟨_, _, List.getElem?_eq_getElem hi, h1, ⟨fun w0 φ φ' w l _ hp hbr => hbr.unren hp, fun _ => by rw [ABlk.ren_own]; exact h2⟩, ABlk.ren_own k, ownd k h2, fun e => ownd k h2 (ABlk.ren_dead e)⟩
  · intro v0 H0' h0
    obtain ⟨L, T, rfl, hL, hO, hKT⟩ := hK v0 H0' h0
    refine ⟨_, ⟨by rw [hlen, List.length_append]; omega, ?_, fun b hb' hn => ?_, fun i b hi => .inl ?_, fun i k hi hk => ?_⟩, hKT⟩
    · rw [List.length_append, putL_len, List.length_map, List.length_append, hlen]; omega
    · rw [List.getElem?_append_left (by rw [putL_len]; exact hb'), putL_not σ _ _ b hn]
    · have hil : i < L.length := by rw [hL]; exact (List.getElem?_eq_some_iff.1 hi).1
      refine ⟨L[i], by rw [List.getElem?_append_left hil, List.getElem?_eq_getElem hil], ?_, fun ho => .inl ?_⟩
      · rw [List.getElem?_append_left (by rw [putL_len]; exact hlt b (List.mem_of_getElem? hi)), putL_get σ _ H hnd hlt (by rw [List.length_map, hL]) i b hi, List.getElem?_map, List.getElem?_eq_getElem hil]; rfl
      · rcases hO L[i] (List.mem_append_left _ (List.getElem_mem hil)) with h | h
        · rw [h] at ho; cases ho
        · exact h
    · rw [hlen] at hi
      rw [List.getElem?_append_right (by omega)] at hk
      refine ⟨?_, hO k (List.mem_append_right _ (List.mem_of_getElem? hk))⟩
      rw [List.getElem?_append_right (by rw [putL_len]; omega), putL_len, hlen, Nat.add_sub_cancel_left, List.getElem?_map, ← hL, hk]; rfl
end Go.Ve
