/- What the end of a card wants: sizes of what came in, readings turned. -/
import Derived.Test.YtmjfkcjdmfgkcaaDoorSc
set_option linter.unusedSimpArgs false
set_option linter.unusedVariables false
namespace Go.Ve
open Go Go.RowKit Go.WideShapes Go.ChangeShapes

section
variable {H : Type} {enc : TypeId × Value → H} {P : Program} {w : World} {t : TypeId}
theorem weights_more {vt : List TypeId} : ∀ {ts : List TypeId} {ds : List (DataW H)} {n : Nat}, n ∈ DataW.weightsEach P ts ds → n ∈ DataW.weightsEach P (ts ++ vt) ds
  | [], _, n, h => by simp [DataW.weightsEach] at h
  | _ :: _, [], n, h => by simp [DataW.weightsEach] at h
  | t :: ts, d :: ds, n, h => by
    simp only [List.cons_append, DataW.weightsEach, List.mem_append] at h ⊢
    rcases h with h | h
    · exact .inl h
    · exact .inr (weights_more h)
theorem sz_of {fn : Func} {s : ChangeSpec} {vt : List TypeId} (hv : s.vars = []) {W : World} {args : Array Value} {ds gs : List (DataW H)} {before : List MemPlace}
    (hW : DataW.Whole enc P fn.params.toList s.vars false W args.toList ds gs before) (hz : (DataW.weightsEach P (fn.params.toList ++ vt) (ds ++ gs)).all (· ≤ reachBytes) = true) :
    ∃ ds2 p2, DataW.TrodAll enc P W 0 (fun _ => true) true fn.params.toList args.toList ds2 p2 ∧ Sz (DataW.weightsEach P fn.params.toList ds2) := by
  obtain ⟨p, q, hA, hV, _⟩ := hW
  rw [hv] at hV
  obtain ⟨rfl, rfl⟩ := trodVars_none hV
  rw [List.append_nil] at hz
  refine ⟨ds, p, hA, fun n hn => ?_⟩
  have := List.all_eq_true.1 hz n (weights_more hn)
  simpa using this
theorem FlatS.turn {α β : Type} {f : α → List AV} {G : α → Prop} (h : FlatS enc P w t f G) (g : α → β) (f' : β → List AV) (G' : β → Prop) (hf : ∀ x, f x = f' (g x)) (hG : ∀ x, G x → G' (g x)) : FlatS enc P w t f' G' := by
  intro fuel cs d ps hd hw
  obtain ⟨x, h1, h2⟩ := h fuel cs d ps hd hw
  exact ⟨g x, hG x h1, fun φ => by rw [← hf]; exact h2 φ⟩
theorem inK_wf {k : IntKind} {n : Int} (h : (Lit.int k n).wf = true) : inK k n = true := by
  simp only [Lit.wf, Bool.and_eq_true, decide_eq_true_eq] at h
  cases k <;> simp only [inK, leI_eq, Bool.and_eq_true, decide_eq_true_eq] <;> simpa [IntKind.min, IntKind.max, IntKind.signed, IntKind.bits] using h
end
end Go.Ve

