/- Calls that are answered from tables, function by function, level by level. -/
import Derived.Test.YtkgkbpfjdlnoeaaVeO
import Derived.Test.YtkgkbpfjdlnoeaaVeJ
namespace Go.Ve
open Go Go.RowKit

def leafEqP : AV → AV → Bool
  | .int k a, .int k' b => Bool.and (Nat.beq (kidx k) (kidx k')) (eqI a b)
  | .bool a, .bool b => a == b
  | _, _ => false
theorem leafEqP_ok {a b : AV} (h : leafEqP a b = true) : a = b := by
  unfold leafEqP at h
  split at h
  · have h' := (Bool.and_eq_true _ _).mp h
    rw [eqI_eq, decide_eq_true_eq] at h'
    rw [kidx_inj h'.1, h'.2]
  · simpa using h
  · cases h
noncomputable def argEqQ (a b : AV) : Bool :=
  match a, b with
  | .str s, .str t => bytesEq s t
  | a, b => leafEqP a b
theorem argEqQ_ok {a b : AV} (h : argEqQ a b = true) : a = b := by
  unfold argEqQ at h
  split at h
  · rw [bytesEq_ok h]
  · exact leafEqP_ok h
noncomputable def argsEqQ (a b : List AV) : Bool :=
  List.rec (motive := fun _ => List AV → Bool) (fun b => List.rec (motive := fun _ => Bool) true (fun _ _ _ => false) b) (fun x _ ih b => List.rec (motive := fun _ => Bool) false (fun y t _ => Bool.rec (motive := fun _ => Bool) false (ih t) (argEqQ x y)) b) a b
theorem argsEqQ_ok : ∀ {a b : List AV}, argsEqQ a b = true → a = b
  | [], [], _ => rfl
  | [], _ :: _, h => by cases h
  | _ :: _, [], h => by cases h
  | x :: a, y :: b, h => by
    have h' : Bool.rec (motive := fun _ => Bool) false (argsEqQ a b) (argEqQ x y) = true := h
    cases hx : argEqQ x y with
    | false => rw [hx] at h'; cases h'
    | true =>
      rw [hx] at h'
      rw [argEqQ_ok hx, argsEqQ_ok h']
noncomputable def argEqP (a b : AV) : Bool :=
  match a, b with
  | .str s, .str t => bytesEq s t
  | .agg xs, .agg ys => argsEqQ xs ys
  | a, b => leafEqP a b
theorem argEqP_ok {a b : AV} (h : argEqP a b = true) : a = b := by
  unfold argEqP at h
  split at h
  · rw [bytesEq_ok h]
  · rw [argsEqQ_ok h]
  · exact leafEqP_ok h
noncomputable def argsEqP (a b : List AV) : Bool :=
  List.rec (motive := fun _ => List AV → Bool) (fun b => List.rec (motive := fun _ => Bool) true (fun _ _ _ => false) b) (fun x _ ih b => List.rec (motive := fun _ => Bool) false (fun y t _ => Bool.rec (motive := fun _ => Bool) false (ih t) (argEqP x y)) b) a b
theorem argsEqP_ok : ∀ {a b : List AV}, argsEqP a b = true → a = b
  | [], [], _ => rfl
  | [], _ :: _, h => by cases h
  | _ :: _, [], h => by cases h
  | x :: a, y :: b, h => by
    have h' : Bool.rec (motive := fun _ => Bool) false (argsEqP a b) (argEqP x y) = true := h
    cases hx : argEqP x y with
    | false => rw [hx] at h'; cases h'
    | true =>
      rw [hx] at h'
      rw [argEqP_ok hx, argsEqP_ok h']
abbrev Ans := List (List AV × AV)
noncomputable def ansP (l : Ans) (args : List AV) : Option AV :=
  List.rec (motive := fun _ => Option AV) none (fun p _ ih => Bool.rec (motive := fun _ => Option AV) ih (some p.2) (argsEqP p.1 args)) l
theorem ansP_ok : ∀ {l : Ans} {args : List AV} {v : AV}, ansP l args = some v → (args, v) ∈ l
  | [], _, _, h => by cases h
  | p :: l, args, v, h => by
    have h' : Bool.rec (motive := fun _ => Option AV) (ansP l args) (some p.2) (argsEqP p.1 args) = some v := h
    cases hx : argsEqP p.1 args with
    | false => rw [hx] at h'; exact List.mem_cons_of_mem _ (ansP_ok h')
    | true =>
      rw [hx] at h'
      have e : p.2 = v := Option.some.inj h'
      rw [← argsEqP_ok hx, ← e]
      exact List.mem_cons_self
/-- The table first; what it does not tell the rest answers. -/
noncomputable def orcP (T : List (Nat × Ans)) (rest : CallF) : CallF := fun f args H =>
  match ansP (assoc [] T f) args with
  | some v => some (v, none)
  | none => rest f args H
def AnsOk (P : Program) (f : Nat) (l : Ans) : Prop := ∀ e ∈ l, EntOk P ⟨f, e.1, e.2⟩
theorem assoc_mem {α : Type} {d : α} : ∀ {l : List (Nat × α)} {n : Nat}, assoc d l n = d ∨ (n, assoc d l n) ∈ l
  | [], _ => .inl rfl
  | p :: l, n => by
    rw [assoc_cons]
    split
    · rename_i h
      right
      rw [← Nat.eq_of_beq_eq_true h]
      exact List.mem_cons_self
    · exact (assoc_mem (l := l) (n := n)).imp id (List.mem_cons_of_mem _)
theorem orcP_ok {P : Program} {T : List (Nat × Ans)} {rest : CallF} (hT : ∀ p ∈ T, AnsOk P p.1 p.2) (hr : CallOk P rest) : CallOk P (orcP T rest) := by
  intro f args H v ch h
  unfold orcP at h
  split at h
  · rename_i v' ha
    cases h
    have hm := ansP_ok ha
    rcases assoc_mem (d := ([] : Ans)) (l := T) (n := f) with e | e
    · rw [e] at hm; cases hm
    · obtain ⟨h1, h2, call, h3, h4⟩ := hT _ e _ hm
      exact ⟨fun w0 φ w us hr hu => lift0 h3 h4 h1 h2 hr hu, fun H' lo hh => by cases hh⟩
  · exact hr f args H v ch h
end Go.Ve
