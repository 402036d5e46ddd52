/- What the end of a card wants: sizes of what came in, readings turned. -/
import Derived.Test.YtainjcpocodehaaSc
set_option linter.unusedSimpArgs false
set_option linter.unusedVariables false
namespace Go.Ve
open Go Go.RowKit Go.WideShapes Go.ChangeShapes

section
variable {H : Type} {enc : TypeId × Value → H} {P : Program} {w : World} {t : TypeId}
theorem FlatS.turn {α β : Type} {f : α → List AV} {G : α → Prop} (h : FlatS enc P w t f G) (g : α → β) (f' : β → List AV) (G' : β → Prop) (hf : ∀ x, f x = f' (g x)) (hG : ∀ x, G x → G' (g x)) : FlatS enc P w t f' G' := by
  intro fuel cs d ps hd hw
  obtain ⟨x, h1, h2⟩ := h fuel cs d ps hd hw
  exact ⟨g x, hG x h1, fun φ => by rw [← hf]; exact h2 φ⟩
end
end Go.Ve

