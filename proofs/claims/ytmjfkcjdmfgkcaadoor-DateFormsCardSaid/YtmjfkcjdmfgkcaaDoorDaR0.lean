/- A call that changes some blocks of flat cells and makes none, told in a small memory, used in a great one. -/
import Derived.Test.YtmjfkcjdmfgkcaaDoorSe
set_option linter.unusedSimpArgs false
set_option linter.unusedVariables false
namespace Go.Ve
open Go Go.RowKit
/-- Some blocks, put to their places. -/
def putB : List Nat → List ABlk → AH → AH
  | b :: σ, k :: L, H => putB σ L (H.set b k)
  | _, _, H => H
theorem putB_len : ∀ (σ : List Nat) (L : List ABlk) (H : AH), (putB σ L H).length = H.length
  | [], _, _ => rfl
  | _ :: _, [], _ => rfl
  | b :: σ, k :: L, H => by rw [putB, putB_len σ L, List.length_set]
theorem putB_not : ∀ (σ : List Nat) (L : List ABlk) (H : AH) (b : Nat), b ∉ σ → (putB σ L H)[b]? = H[b]?
  | [], _, _, _, _ => rfl
  | _ :: _, [], _, _, _ => rfl
  | a :: σ, k :: L, H, b, h => by
    simp only [List.mem_cons, not_or] at h
    rw [putB, putB_not σ L _ b h.2, List.getElem?_set_ne (Ne.symm h.1)]
theorem putB_get : ∀ (σ : List Nat) (L : List ABlk) (H : AH), σ.Nodup → (∀ b ∈ σ, b < H.length) → σ.length = L.length → ∀ (i b : Nat), σ[i]? = some b → (putB σ L H)[b]? = L[i]?
  | [], _, _, _, _, _, i, b, h => by simp at h
  | _ :: _, [], _, _, _, hl, _, _, _ => by simp at hl
  | a :: σ, k :: L, H, hn, hlt, hl, 0, b, h => by
    simp only [List.getElem?_cons_zero, Option.some.injEq] at h
    subst h
    simp only [List.nodup_cons] at hn
    rw [putB, putB_not σ L _ a hn.1, List.getElem?_set_self (hlt a (by simp))]; rfl
  | a :: σ, k :: L, H, hn, hlt, hl, i + 1, b, h => by
    simp only [List.nodup_cons] at hn
    rw [putB, putB_get σ L _ hn.2 (fun x hx => by rw [List.length_set]; exact hlt x (by simp [hx])) (by simpa using hl) i b (by simpa using h)]; rfl
/-- Flat blocks are changed, each stays of its kind; nothing new. -/
theorem SC.fixed {P : Program} {f : FuncId} {args0 : List AV} {H0 H1 : AH} {v0 : AV} (h : SC P f args0 H0 (fun v H' => v = v0 ∧ H' = H1)) (hv : v0.flat = true) {H : AH} {σ : List Nat} (hnd : σ.Nodup) (hlen : H0.length = σ.length) (hl1 : H1.length = σ.length)
    (hb : ∀ (i b : Nat), σ[i]? = some b → H[b]? = H0[i]?) (hk : ∀ k ∈ H0, k ≠ .dead ∧ ∀ ρ, k.ren ρ = k) (hk1 : ∀ k ∈ H1, ∀ ρ, k.ren ρ = k) (ho : ∀ (i : Nat) (k k' : ABlk), H0[i]? = some k → H1[i]? = some k' → k'.own = k.own) :
    SC P f (AV.rens (rn σ H.length) args0) H (fun v H' => v = v0 ∧ H' = putB σ H1 H) := by
  have hget : ∀ (i b : Nat), σ[i]? = some b → ∃ s, H0[i]? = some s ∧ H[b]? = some s := fun i b hi => by
    have : i < H0.length := by rw [hlen]; exact (List.getElem?_eq_some_iff.1 hi).1
    exact ⟨_, List.getElem?_eq_getElem this, (hb i b hi).trans (List.getElem?_eq_getElem this)⟩
  have hlt : ∀ b ∈ σ, b < H.length := fun b hb' => by
    obtain ⟨i, hi, rfl⟩ := List.getElem_of_mem hb'
    obtain ⟨s, _, h2⟩ := hget i _ (List.getElem?_eq_getElem hi)
    exact (List.getElem?_eq_some_iff.1 h2).1
  refine SC.frame h ⟨hlen, hlt, hnd, fun i k hki => ?_⟩ ?_
  · have hi : i < σ.length := by rw [← hlen]; exact (List.getElem?_eq_some_iff.1 hki).1
    obtain ⟨s, h1, h2⟩ := hget i _ (List.getElem?_eq_getElem hi)
    rw [hki] at h1; cases h1
    obtain ⟨k1, k2⟩ := hk k (List.mem_of_getElem? hki)
    exact ⟨_, k, List.getElem?_eq_getElem hi, h2, ⟨fun w0 φ φ' w l _ hp hbr => by have := hbr; rw [← k2 (rn σ H.length)] at this; exact this.unren hp, fun h => h⟩, rfl, k1, k1⟩
  · rintro v0' H0' ⟨rfl, rfl⟩
    refine ⟨putB σ H0' H, ⟨by omega, by rw [putB_len, hl1, hlen]; omega, fun b _ hn => putB_not σ _ H b hn, fun i b hi => .inl ?_, fun i k hi hki => ?_⟩, AV.ren_flat hv, rfl⟩
    · have hil : i < H0'.length := by rw [hl1]; exact (List.getElem?_eq_some_iff.1 hi).1
      obtain ⟨s, h1, h2⟩ := hget i b hi
      refine ⟨H0'[i], List.getElem?_eq_getElem hil, ?_, fun ho' => .inr ⟨s, h2, ?_, (hk s (List.mem_of_getElem? h1)).1⟩⟩
      · rw [putB_get σ _ H hnd hlt (by omega) i b hi, List.getElem?_eq_getElem hil, hk1 _ (List.getElem_mem hil)]
      · rw [← ho i s _ h1 (List.getElem?_eq_getElem hil)]; exact ho'
    · have := (List.getElem?_eq_some_iff.1 hki).1
      omega
end Go.Ve
