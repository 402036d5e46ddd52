/- The document's queue: a sorted slice. -/
import Derived.Test.YtainjcpocodehaaOnP
set_option linter.unusedSimpArgs false
set_option linter.unusedVariables false
namespace Go.Proofs.Ytainjcpocodehaa
open Go Go.Ve
set_option maxRecDepth 20000
noncomputable def eR : Nat := btag Try.prog 102 2
def oB (most : Int) (rb off n eq : Nat) : ABlk := .cells [.int .i64 most, .sl rb off n n false] eq false
def oH (most : Int) (p s : TL) (eq er : Nat) : AH := [oB most 1 (p.length * 2) s.length eq, .cells (tC (p ++ s)) er false]
noncomputable def aPl (n : Int) (s : TL) : Anns := [(2, [.mk Nat (fun i => [(5, .int .i64 i)]) (fun _ => none) (fun i => i ≤ s.length ∧ ∀ j, j < i → (pk s j).1 ≠ n) (fun i => s.length - i) gcB gcB (fun i => [(22, .int .i64 (pk s i).1)]) (fun _ => [])])]
noncomputable def faRf (n : Int) (s : TL) (f : FuncId) : Option FA := match Nat.beq f 66 with | true => some ⟨[], aPl n s, []⟩ | false => match Nat.beq f 67 with | true => some ⟨[(1, .perm [1, 2, 3, 5, 6, 7, 8] [0, 4, 9, 10])], [], [(9, .nilmap), (14, .nilmap)]⟩ | false => some ⟨[], [], []⟩
noncomputable def VRf (n : Int) (s : TL) : VE := ⟨Try.prog, noS, noO, faRf n s⟩
theorem ers_ne {n : Int} {s : TL} {i : Nat} (d : Dn s) (hi : i < s.length) (e : (pk s i).1 = n) : ers n s = s.take i ++ s.drop (i + 1) := by
  rw [← e, ers_idx d hi, List.eraseIdx_eq_take_drop_succ]
theorem tmOf_at {n : Int} {s : TL} {i : Nat} (d : Dn s) (hi : i < s.length) (e : (pk s i).1 = n) : tmOf n s = some (pk s i).2 := by
  rw [← e]; exact tmOf_some d (pk_mem hi)
theorem tmOf_no {n : Int} {s : TL} (h : ∀ j, j < s.length → (pk s j).1 ≠ n) : tmOf n s = none := tmOf_none fun t ht e => by
  obtain ⟨i, hi, rfl⟩ := mem_pk ht
  exact h i hi e
theorem pk_off {p s : TL} {i : Nat} (hi : i < s.length) : pk (p ++ s) (p.length + i) = pk s i := by
  unfold pk
  rw [List.getD_eq_getElem?_getD, List.getD_eq_getElem?_getD, List.getElem?_append_right (by omega), Nat.add_sub_cancel_left]
theorem row_get0 (p s : TL) {i : Nat} (hi : i < s.length) : (tC (p ++ s))[p.length * 2 + i * 2 + 0]? = some (.int .i64 (pk s i).1) := by
  have := tC_get0 (p ++ s) (p.length + i) (by rw [List.length_append]; omega)
  rw [pk_off hi] at this
  rw [← this]; congr 1; omega
theorem row_get1 (p s : TL) {i : Nat} (hi : i < s.length) : (tC (p ++ s))[p.length * 2 + i * 2 + 1]? = some (.int .i64 (pk s i).2) := by
  have := tC_get1 (p ++ s) (p.length + i) (by rw [List.length_append]; omega)
  rw [pk_off hi] at this
  rw [← this]; congr 1; omega
end Go.Proofs.Ytainjcpocodehaa
