/- Calls that are answered from a table: each was reckoned in empty memory, with plain data, and answers the same in any. -/
import Derived.Test.YtkgkbpfjdlnoeaaDoorVe13
namespace Go.Ve
open Go Go.RowKit

theorem lift0 {P : Program} {call : CallF} (hC : CallOk P call) {f : FuncId} {args : List AV} {v : AV} (h : call f args [] = some (v, none)) (ha : AV.flats args = true) (hv : v.flat = true)
    {w0 : Base} {φ : List Loc} {H : AH} {w : World} {us : Array Value} (hr : Rel w0 φ H w) (hu : VRs φ args us.toList) : Calls P f us w (CallPost w0 φ H v none) := by
  have h0 : Rel (Base.all w) [] [] w := ⟨rfl, BelowB.refl w, fun b k l hb => by simp at hb, fun b b' k k' l l' hb => by simp at hb⟩
  refine ((hC f args [] v none h).1 (Base.all w) [] w us h0 (VRs.flat [] ha hu)).mono ?_
  rintro e w' ⟨u, φ', rfl, _, h2, rfl, h3⟩
  refine ⟨u, φ, rfl, Ext.refl _, VR.flat φ hv h2, rfl, ?_⟩
  refine ⟨hr.len, ⟨h3.below.os.trans hr.below.os, h3.below.tape.trans hr.below.tape, h3.below.output.trans hr.below.output, Nat.le_trans hr.below.size h3.below.size, fun j hj => ?_⟩, fun b k l hb hl => ?_, hr.inj⟩
  · exact (h3.below.block j (Nat.lt_of_lt_of_le (w0.lt j hj) hr.below.size)).trans (hr.below.block j hj)
  · by_cases hd : k = .dead
    · subst hd; trivial
    · have hbr := hr.blocks b k l hb hl
      exact hbr.keep (h3.below.block l.blk (hbr.lt hr.below.size hd))

/-! ### Plain data, compared -/
noncomputable def bytesEq (a b : List UInt8) : Bool := List.rec (motive := fun _ => List UInt8 → Bool) (fun b => List.rec (motive := fun _ => Bool) true (fun _ _ _ => false) b) (fun x _ ih b => List.rec (motive := fun _ => Bool) false (fun y t _ => Bool.and (Nat.beq x.toNat y.toNat) (ih t)) b) a b
theorem bytesEq_ok : ∀ {a b : List UInt8}, bytesEq a b = true → a = b
  | [], [], _ => rfl
  | [], _ :: _, h => by cases h
  | _ :: _, [], h => by cases h
  | x :: a, y :: b, h => by
    have h' : (Nat.beq x.toNat y.toNat && bytesEq a b) = true := h
    rw [Bool.and_eq_true] at h'
    rw [UInt8.toNat_inj.1 (Nat.eq_of_beq_eq_true h'.1), bytesEq_ok h'.2]
def leafEq : AV → AV → Bool
  | .bool a, .bool b => a == b
  | .int k a, .int k' b => decide (k = k') && decide (a = b)
  | _, _ => false
theorem leafEq_ok {a b : AV} (h : leafEq a b = true) : a = b := by
  unfold leafEq at h
  split at h
  · simpa using h
  · simp only [Bool.and_eq_true, decide_eq_true_eq] at h
    rw [h.1, h.2]
  · cases h
noncomputable def argEq (a b : AV) : Bool :=
  match a, b with
  | .str s, .str t => bytesEq s t
  | a, b => leafEq a b
theorem argEq_ok {a b : AV} (h : argEq a b = true) : a = b := by
  unfold argEq at h
  split at h
  · rw [bytesEq_ok h]
  · exact leafEq_ok h
noncomputable def argsEq : List AV → List AV → Bool
  | [], [] => true
  | a :: as, b :: bs => argEq a b && argsEq as bs
  | _, _ => false
theorem argsEq_ok : ∀ {a b : List AV}, argsEq a b = true → a = b
  | [], [], _ => rfl
  | a :: as, b :: bs, h => by
    simp only [argsEq, Bool.and_eq_true] at h
    rw [argEq_ok h.1, argsEq_ok h.2]
  | [], _ :: _, h => by simp [argsEq] at h
  | _ :: _, [], h => by simp [argsEq] at h
/-- One answer. -/
structure Ent where
  f : FuncId
  args : List AV
  v : AV
noncomputable def orcT : List Ent → CallF
  | [], _, _, _ => none
  | e :: T, f, args, H => if (Nat.beq e.f f && argsEq e.args args) = true then some (e.v, none) else orcT T f args H
def EntOk (P : Program) (e : Ent) : Prop := AV.flats e.args = true ∧ e.v.flat = true ∧ ∃ call : CallF, CallOk P call ∧ call e.f e.args [] = some (e.v, none)
theorem orcT_ok {P : Program} : ∀ {T : List Ent}, (∀ e ∈ T, EntOk P e) → CallOk P (orcT T)
  | [], _, f, args, H, v, ch, h => by simp [orcT] at h
  | e :: T, hT, f, args, H, v, ch, h => by
    unfold orcT at h
    split at h
    · rename_i hc
      simp only [Bool.and_eq_true] at hc
      have e1 : e.f = f := Nat.eq_of_beq_eq_true hc.1
      have e2 := argsEq_ok hc.2
      cases h
      obtain ⟨h1, h2, call, h3, h4⟩ := hT e (by simp)
      subst e1; subst e2
      exact ⟨fun w0 φ w us hr hu => lift0 h3 h4 h1 h2 hr hu, fun H' lo hh => by cases hh⟩
    · exact orcT_ok (fun e' he => hT e' (by simp [he])) f args H v ch h
end Go.Ve
