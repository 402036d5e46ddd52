/- Reading arguments that are structs of plain data. -/
import Derived.Test.YtkgkbpfjdlnoeaaVe12
namespace Go.Ve
open Go Go.RowKit Go.WideShapes Go.ChangeShapes

section
variable {H : Type} {enc : TypeId × Value → H} {P : Program} {w : World} {t : TypeId}

/-- The fields of a struct, from the cell 'off' on. -/
def FlatFs (enc : TypeId × Value → H) (P : Program) (w : World) (off : Nat) (l : List Field) {α : Type} (f : α → List AV) (G : α → Prop) (total : Nat) : Prop :=
  ∀ fuel (cs : List Value) ds, cs.length = total → (l.mapM fun fd => DataW.trod enc P w 0 (fun _ => true) true fuel fd.type ((cs.drop fd.offset).take (P.cellsOf fd.type))) = some ds → ∃ x : α, G x ∧ ∀ φ, VRs φ (f x) (cs.drop off)
theorem flatFs_nil (n : Nat) : FlatFs enc P w n [] (fun _ : Unit => []) (fun _ => True) n := by
  intro fuel cs ds hl _
  refine ⟨(), trivial, fun φ => ?_⟩
  rw [List.drop_eq_nil_of_le (by omega)]
  exact .nil
theorem flatFs_cons {off n total : Nat} {fd : Field} {l : List Field} {α β : Type} {f1 : α → List AV} {G1 : α → Prop} {f2 : β → List AV} {G2 : β → Prop}
    (h1 : Flat enc P w fd.type f1 G1) (h2 : FlatFs enc P w (off + n) l f2 G2 total) (ho : fd.offset = off := by rfl) (hn : P.cellsOf fd.type = n := by kernel_rfl) :
    FlatFs enc P w off (fd :: l) (fun x : α × β => f1 x.1 ++ f2 x.2) (fun x => G1 x.1 ∧ G2 x.2) total := by
  intro fuel cs ds hl hd
  rw [List.mapM_cons] at hd
  cases ha : DataW.trod enc P w 0 (fun _ => true) true fuel fd.type ((cs.drop fd.offset).take (P.cellsOf fd.type)) with
  | none => rw [ha] at hd; cases hd
  | some y =>
    rw [ha] at hd
    cases hb : (l.mapM fun fd => DataW.trod enc P w 0 (fun _ => true) true fuel fd.type ((cs.drop fd.offset).take (P.cellsOf fd.type))) with
    | none => rw [hb] at hd; cases hd
    | some ys =>
      obtain ⟨x1, h3, h4⟩ := h1 _ _ _ _ ha
      obtain ⟨x2, h5, h6⟩ := h2 _ _ _ hl hb
      refine ⟨(x1, x2), ⟨h3, h5⟩, fun φ => ?_⟩
      have e : cs.drop off = (cs.drop off).take n ++ cs.drop (off + n) := by
        rw [← List.drop_drop]; exact (List.take_append_drop n _).symm
      rw [e]
      have h4 := h4 φ
      rw [ho, hn] at h4
      exact h4.append (h6 φ)
theorem flat_struct {fs : Array Field} {n : Nat} {α : Type} {f : α → List AV} {G : α → Prop} (ht : P.underlying t = some (.struct fs)) (h : FlatFs enc P w 0 fs.toList f G n) (hn : P.cellsOf t = n := by kernel_rfl) : Flat enc P w t f G := by
  intro fuel cs d ps hd
  cases fuel with
  | zero => simp [DataW.trod] at hd
  | succ fuel =>
    unfold DataW.trod at hd
    rw [ht] at hd
    simp only at hd
    split at hd
    · rename_i hl
      cases hm : (fs.toList.mapM fun f => DataW.trod enc P w 0 (fun _ => true) true fuel f.type ((cs.drop f.offset).take (P.cellsOf f.type))) with
      | none => rw [hm] at hd; cases hd
      | some xs =>
        obtain ⟨x, h1, h2⟩ := h fuel cs xs (by rw [hl, hn]) hm
        exact ⟨x, h1, fun φ => by simpa using h2 φ⟩
    · cases hd
end
end Go.Ve
