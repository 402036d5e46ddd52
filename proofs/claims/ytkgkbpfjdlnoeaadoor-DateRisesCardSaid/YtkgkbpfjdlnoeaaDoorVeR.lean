/- Iterators over strings. -/
import Derived.Test.YtkgkbpfjdlnoeaaDoorVeM
namespace Go.Ve
open Go Go.RowKit

section
variable {P : Program} {w0 : Base} {w : World} {φ : List Loc} {H : AH}

def arange (P : Program) (t : TypeId) (x : AV) (H : AH) : Option AH :=
  match P.underlying t, x with
  | some .string, .str s => some (H ++ [.siter s 0])
  | _, _ => none
theorem arange_ok (hr : Rel w0 φ H w) {t : TypeId} {x : AV} {xu : Value} {H' : AH} (h : arange P t x H = some H') (hx : VR φ x xu) :
    ∃ u w' φ', (Instr.range t xu).run P w = .ok u w' ∧ Ext φ φ' ∧ VR φ' (.ptr H.length 0) u ∧ Rel w0 φ' H' w' := by
  unfold arange at h
  split at h
  · rename_i s hu
    cases h
    cases hx
    have hnew : Rel w0 (φ ++ [⟨w.heap.size, 0, 0⟩]) (H ++ [.siter s 0]) { w with heap := w.heap.push (.stringIter ⟨⟨s⟩⟩ 0) } := by
      refine hr.alloc (.stringIter ⟨⟨s⟩⟩ 0) (l := ⟨w.heap.size, 0, 0⟩) rfl ⟨hr.below.fresh (Nat.le_refl _), rfl, ?_⟩
      simp
    refine ⟨.pointer (some ⟨w.heap.size, 0, none⟩), _, _, ?_, Ext.snoc _ _, hr.newPtr 0 0, hnew⟩
    unfold Instr.range
    rw [Sem.run_bind, run_underlying hu]
    rfl
  · cases h
def anext (it : AV) (isString : Bool) (H : AH) : Option (AV × Option (AH × Nat)) :=
  match it, isString with
  | .ptr b 0, true =>
    match H[b]? with
    | some (.siter s pos) =>
      if pos < s.length then
        some (.tuple [.bool true, .int .i64 pos, .int .i32 (Utf8.decode ⟨⟨s⟩⟩ pos).1], some (H.set b (.siter s (pos + (Utf8.decode ⟨⟨s⟩⟩ pos).2)), b))
      else some (.tuple [.bool false], none)
    | _ => none
  | _, _ => none
theorem anext_ok (hr : Rel w0 φ H w) {it v : AV} {iu : Value} {isString : Bool} {ty : TypeId} {ch : Option (AH × Nat)} (h : anext it isString H = some (v, ch)) (hi : VR φ it iu) :
    ∃ u w', (Instr.next iu isString ty).run P w = .ok u w' ∧ VR φ v u ∧ ChOk w0 w φ H φ w' ch := by
  unfold anext at h
  split at h
  · rename_i b
    split at h
    · rename_i s pos hb
      cases hi with
      | ptr hl =>
        rename_i l
        obtain ⟨h1, h2, h3⟩ := hr.blocks _ _ _ hb hl
        have hlt : l.blk < w.heap.size := (Array.getElem?_eq_some_iff.1 h3).1
        split at h
        · rename_i hp
          cases h
          refine ⟨.tuple #[.bool true, goInt pos, .int .i32 (Utf8.decode ⟨⟨s⟩⟩ pos).1], { w with heap := w.heap.setIfInBounds l.blk (.stringIter ⟨⟨s⟩⟩ (pos + (Utf8.decode ⟨⟨s⟩⟩ pos).2)) }, ?_, .tuple (.cons (.bool _) (.cons (.int _ _) (.cons (.int _ _) .nil))), ?_, Keeps.set _ _ _⟩
          · unfold Instr.next
            simp only [h2]
            have hs : (⟨⟨s⟩⟩ : ByteArray).size = s.length := rfl
            simp [getObj, Sem.run, h3, hs, hp, setObj]
          · refine hr.upd (k := .siter s pos) hb rfl hl rfl rfl rfl (by simp) (fun j hj _ => ?_) ⟨h1, h2, ?_⟩
            · simp only [Array.getElem?_setIfInBounds]
              rw [if_neg (Ne.symm hj)]
            · simp [hlt]
        · rename_i hp
          cases h
          refine ⟨.tuple #[.bool false], w, ?_, .tuple (.cons (.bool _) .nil), rfl, rfl⟩
          unfold Instr.next
          simp only [h2]
          have hs : (⟨⟨s⟩⟩ : ByteArray).size = s.length := rfl
          simp [getObj, Sem.run, h3, hs, hp]
    · cases h
  · cases h
theorem anext_keeps {it v : AV} {isString : Bool} {H' : AH} {lo : Nat} (h : anext it isString H = some (v, some (H', lo))) : Keeps lo H H' := by
  unfold anext at h
  (repeat' split at h) <;> first | (cases h; done) | (cases h; exact Keeps.set _ _ _)
end
end Go.Ve
