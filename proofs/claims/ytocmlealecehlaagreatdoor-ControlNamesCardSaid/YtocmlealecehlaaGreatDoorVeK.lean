/- Calls that are answered from tables reckoned in a memory that holds package variables. -/
import Derived.Test.YtocmlealecehlaaGreatDoorVeP
namespace Go.Ve
open Go Go.RowKit

/-- The heap begins with these variables. -/
noncomputable def pre : AH → AH → Bool
  | [], _ => true
  | .glob g vs :: G, .glob g' vs' :: H => Nat.beq g g' && (argsEqP vs vs' && pre G H)
  | _, _ => false
theorem pre_ok : ∀ {G H : AH}, pre G H = true → ∃ R, H = G ++ R
  | [], H, _ => ⟨H, rfl⟩
  | .glob g vs :: G, .glob g' vs' :: H, h => by
    simp only [pre, Bool.and_eq_true] at h
    obtain ⟨R, e⟩ := pre_ok h.2.2
    exact ⟨R, by rw [Nat.eq_of_beq_eq_true h.1, argsEqP_ok h.2.1, e]; rfl⟩
  | .glob g vs :: G, [], h => by simp [pre] at h
  | .glob g vs :: G, .dead :: H, h => by simp [pre] at h
  | .glob g vs :: G, .cells _ _ _ :: H, h => by simp [pre] at h
  | .glob g vs :: G, .map _ _ :: H, h => by simp [pre] at h
  | .glob g vs :: G, .siter _ _ :: H, h => by simp [pre] at h
  | .glob g vs :: G, .defr :: H, h => by simp [pre] at h
  | .glob g vs :: G, .loop _ _ _ _ _ _ _ :: H, h => by simp [pre] at h
  | .dead :: G, H, h => by simp [pre] at h
  | .cells _ _ _ :: G, H, h => by simp [pre] at h
  | .map _ _ :: G, H, h => by simp [pre] at h
  | .siter _ _ :: G, H, h => by simp [pre] at h
  | .defr :: G, H, h => by simp [pre] at h
  | .loop _ _ _ _ _ _ _ :: G, H, h => by simp [pre] at h
def isGlobF : ABlk → Bool
  | .glob _ vs => AV.flats vs
  | _ => false
theorem flats_get : ∀ {vs : List AV} {j : Nat} {v : AV}, AV.flats vs = true → vs[j]? = some v → v.flat = true
  | [], j, v, _, h => by simp at h
  | x :: vs, 0, v, h, hj => by
    simp [AV.flats] at h
    simp at hj
    rw [← hj]; exact h.1
  | x :: vs, j + 1, v, h, hj => by
    simp [AV.flats] at h
    exact flats_get h.2 (by simpa using hj)
theorem liftG {P : Program} {call : CallF} (hC : CallOk P call) {f : FuncId} {args : List AV} {v : AV} {G0 R : AH} (hg : G0.all isGlobF = true) (h : call f args G0 = some (v, none)) (ha : AV.flats args = true) (hv : v.flat = true)
    {w0 : Base} {φ : List Loc} {w : World} {us : Array Value} (hr : Rel w0 φ (G0 ++ R) w) (hu : VRs φ args us.toList) : Calls P f us w (CallPost w0 φ (G0 ++ R) v none) := by
  have hlen := hr.len
  rw [List.length_append] at hlen
  have up : ∀ {b : Nat} {k : ABlk}, G0[b]? = some k → (G0 ++ R)[b]? = some k := fun {b k} hb => by
    rw [List.getElem?_append_left (List.getElem?_eq_some_iff.1 hb).1]; exact hb
  have upl : ∀ {b : Nat} {l : Loc}, (φ.take G0.length)[b]? = some l → φ[b]? = some l := fun {b l} hb => by
    rw [List.getElem?_take] at hb
    split at hb
    · exact hb
    · cases hb
  have h0 : Rel (Base.all w) (φ.take G0.length) G0 w := by
    refine ⟨by rw [List.length_take]; omega, BelowB.refl w, fun b k l hb hl => ?_, fun b b' k k' l l' hb hb' hl hl' => hr.inj b b' k k' l l' (up hb) (up hb') (upl hl) (upl hl')⟩
    have hbr := hr.blocks b k l (up hb) (upl hl)
    have hk := List.all_eq_true.1 hg k (List.mem_of_getElem? hb)
    cases k with
    | glob g vs =>
      obtain ⟨h1, h2, h3, h4⟩ := hbr
      exact ⟨Nat.lt_of_lt_of_le (w0.lt _ h1) hr.below.size, h2, h3, fun j x hx => let ⟨u, e1, e2⟩ := h4 j x hx; ⟨u, VR.flat _ (flats_get hk hx) e1, e2⟩⟩
    | _ => cases hk
  refine ((hC f args G0 v none h).1 (Base.all w) (φ.take G0.length) w us h0 (VRs.flat _ ha hu)).mono ?_
  rintro e w' ⟨u, φ', rfl, _, h2, rfl, h3⟩
  refine ⟨u, φ, rfl, Ext.refl _, VR.flat φ hv h2, rfl, ?_⟩
  refine ⟨hr.len, ⟨h3.below.os.trans hr.below.os, h3.below.tape.trans hr.below.tape, h3.below.output.trans hr.below.output, Nat.le_trans hr.below.size h3.below.size, fun j hj => ?_⟩, fun b k l hb hl => ?_, hr.inj⟩
  · exact (h3.below.block j (Nat.lt_of_lt_of_le (w0.lt j hj) hr.below.size)).trans (hr.below.block j hj)
  · by_cases hd : k = .dead
    · subst hd; trivial
    · have hbr := hr.blocks b k l hb hl
      exact hbr.keep (h3.below.block l.blk (hbr.lt hr.below.size hd))
/-- The table first, where the heap begins with the variables; what it does not tell the rest answers. -/
noncomputable def orcG (G0 : AH) (T : List (Nat × Ans)) (rest : CallF) : CallF := fun f args H =>
  match ansP (assoc [] T f) args with
  | some v => Bool.rec (motive := fun _ => Option (AV × Option (AH × Nat))) (rest f args H) (some (v, none)) (pre G0 H)
  | none => rest f args H
def EntOkG (P : Program) (G0 : AH) (e : Ent) : Prop := AV.flats e.args = true ∧ e.v.flat = true ∧ ∃ call : CallF, CallOk P call ∧ call e.f e.args G0 = some (e.v, none)
def AnsOkG (P : Program) (G0 : AH) (f : Nat) (l : Ans) : Prop := ∀ e ∈ l, EntOkG P G0 ⟨f, e.1, e.2⟩
theorem orcG_ok {P : Program} {G0 : AH} {T : List (Nat × Ans)} {rest : CallF} (hg : G0.all isGlobF = true) (hT : ∀ p ∈ T, AnsOkG P G0 p.1 p.2) (hr : CallOk P rest) : CallOk P (orcG G0 T rest) := by
  intro f args H v ch h
  unfold orcG at h
  split at h
  · rename_i v' ha
    cases hp : pre G0 H with
    | false => rw [hp] at h; exact hr f args H v ch h
    | true =>
      rw [hp] at h
      cases h
      obtain ⟨R, rfl⟩ := pre_ok hp
      have hm := ansP_ok ha
      rcases assoc_mem (d := ([] : Ans)) (l := T) (n := f) with e | e
      · rw [e] at hm; cases hm
      · obtain ⟨h1, h2, call, h3, h4⟩ := hT _ e _ hm
        exact ⟨fun w0 φ w us hr hu => liftG h3 hg h4 h1 h2 hr hu, fun H' lo hh => by cases hh⟩
  · exact hr f args H v ch h
end Go.Ve
