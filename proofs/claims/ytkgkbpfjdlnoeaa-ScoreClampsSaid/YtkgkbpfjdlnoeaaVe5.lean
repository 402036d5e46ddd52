/- The evaluator's operations, continued: build, make, append, copy, conversions. -/
import Derived.Test.YtkgkbpfjdlnoeaaVe4
namespace Go.Ve
open Go Go.RowKit

section
variable {P : Program} {w0 : Base} {w : World} {φ : List Loc} {H : AH}

def aplaces (P : Program) (fs : List Field) : Option (List (Nat × Nat)) :=
  match fs with
  | [] => some []
  | f :: fs =>
    match P.info? f.type, aplaces P fs with
    | some i, some r => some ((f.offset, i.size) :: r)
    | _, _ => none
theorem mapM_toList {α β : Type} (f : α → Sem β) (xs : Array α) (w : World) (r : List β) (h : (xs.toList.mapM f).run P w = .ok r w) : (xs.mapM f).run P w = .ok r.toArray w := by
  rw [Array.mapM_eq_mapM_toList]
  rw [Sem.run_map, h]
  rfl
theorem aplaces_ok (w : World) : ∀ {fs : List Field} {r : List (Nat × Nat)}, aplaces P fs = some r → (fs.mapM (m := Sem) fun f => do pure (f.offset, ← sizeOf f.type)).run P w = .ok r w
  | [], r, h => by simp [aplaces] at h; subst h; rfl
  | f :: fs, r, h => by
    simp only [aplaces] at h
    split at h
    · rename_i i r' hi hr
      cases h
      have := aplaces_ok w hr
      simp only [List.mapM_cons, Sem.run_bind, sizeOf, typeInfo, run_program, hi, Result.andThen_ok, Sem.run_pure]
      simp only [sizeOf, typeInfo] at this
      rw [this]
      rfl
    · cases h
def abuild (P : Program) (t : TypeId) (parts : List (Nat × AV)) : Option AV :=
  match azero P t, P.underlying t with
  | some z, some (.struct fs) =>
    match aplaces P fs.toList with
    | some pl => (afill (pl[·]?) z parts).map .agg
    | none => none
  | some z, some (.array _ e) =>
    match P.info? e with
    | some i => (afill (fun k => some (k * i.size, i.size)) z parts).map .agg
    | none => none
  | _, _ => none
theorem abuild_ok {t : TypeId} {ps : List (Nat × AV)} {qs : Array (Nat × Value)} {v : AV} (h : abuild P t ps = some v) (hp : PartsR φ ps qs.toList) : ∃ u, VR φ v u ∧ (Instr.build t qs).run P w = .ok u w := by
  unfold abuild at h
  split at h
  · rename_i z fs hz hu
    obtain ⟨i, zv, h1, h2, h3⟩ := azero_ok hz φ
    split at h
    · rename_i pl hpl
      cases hf : afill (pl[·]?) z ps with
      | none => rw [hf] at h; cases h
      | some r =>
        rw [hf] at h; cases h
        obtain ⟨ys, h4, h5⟩ := afill_ok hf hp h3
        refine ⟨.agg ys, .agg h5, ?_⟩
        have hm := mapM_toList (P := P) (fun f => do pure (f.offset, ← sizeOf f.type)) fs w pl (aplaces_ok w hpl)
        unfold Instr.build
        simp only [Sem.run_bind, zeroValue, typeInfo, run_program, h1, h2, Result.andThen_ok, Sem.run_pure, run_underlying hu, hm]
        have e : (fun x : Nat => (pl.toArray)[x]?) = (fun x : Nat => pl[x]?) := by funext x; simp
        simp only [e, h4]
        rfl
    · cases h
  · rename_i z n e hz hu
    obtain ⟨i0, zv, h1, h2, h3⟩ := azero_ok hz φ
    split at h
    · rename_i i hi
      cases hf : afill (fun k => some (k * i.size, i.size)) z ps with
      | none => rw [hf] at h; cases h
      | some r =>
        rw [hf] at h; cases h
        obtain ⟨ys, h4, h5⟩ := afill_ok hf hp h3
        refine ⟨.agg ys, .agg h5, ?_⟩
        unfold Instr.build
        simp only [Sem.run_bind, zeroValue, typeInfo, run_program, h1, h2, Result.andThen_ok, Sem.run_pure, run_underlying hu, sizeOf, hi, h4]
    · cases h
  · cases h

/-- n times the cells of a zero value. -/
def azeros (n : Nat) (z : List AV) : List AV := (List.replicate n z).flatten
theorem azeros_ok {z : List AV} {zu : List Value} (h : VRs φ z zu) : ∀ n, VRs φ (azeros n z) (List.replicate n zu).flatten
  | 0 => .nil
  | n + 1 => by
    have := azeros_ok h n
    simp only [azeros, List.replicate_succ, List.flatten_cons]
    exact h.append this
theorem range_mod (z : Array Value) : ∀ n, ((Array.range (n * z.size)).map fun i => z[i % z.size]!).toList = (List.replicate n z.toList).flatten
  | 0 => by simp
  | n + 1 => by
    have ih := range_mod z n
    simp only [Array.toList_map, Array.toList_range] at ih ⊢
    rw [Nat.add_mul, Nat.one_mul, List.range_add, List.map_append, ih, List.replicate_succ', List.flatten_append]
    congr 1
    simp only [List.map_map, List.flatten_cons, List.flatten_nil, List.append_nil]
    apply List.ext_getElem
    · simp
    · intro i h1 h2
      simp at h1 h2
      simp [Nat.mul_add_mod_self_right, Nat.mod_eq_of_lt h2, h2]
theorem range_mod' (z : Array Value) (m n : Nat) (hm : m = n * z.size) : ((Array.range m).map (z[· % z.size]!)).toList = (List.replicate n z.toList).flatten := by
  subst hm; exact range_mod z n

def abuildSlice (P : Program) (t : TypeId) (len : Nat) (parts : List (Nat × AV)) (H : AH) : Option (AV × AH) :=
  match P.underlying t with
  | some (.slice e) =>
    match P.info? e, azero P e with
    | some i, some z =>
      if len * i.size ≤ 16777216 ∧ i.size = z.length then
        match afill (fun k => some (k * i.size, i.size)) (azeros len z) parts with
        | some cs => some (.sl H.length 0 len len true, H ++ [.cells cs 0 false])
        | none => none
      else none
    | _, _ => none
  | _ => none
theorem abuildSlice_ok (hr : Rel w0 φ H w) {t : TypeId} {len : Nat} {ps : List (Nat × AV)} {qs : Array (Nat × Value)} {v : AV} {H' : AH} (h : abuildSlice P t len ps H = some (v, H')) (hp : PartsR φ ps qs.toList) :
    ∃ u w' φ', (Instr.buildSlice t len qs).run P w = .ok u w' ∧ Ext φ φ' ∧ VR φ' v u ∧ Rel w0 φ' H' w' := by
  unfold abuildSlice at h
  split at h
  · rename_i e hu
    split at h
    · rename_i i z hi hz
      obtain ⟨i', zv, h1, h2, h3⟩ := azero_ok hz φ
      rw [hi] at h1; cases h1
      split at h
      · rename_i hc
        obtain ⟨hc1, hc2⟩ := hc
        split at h
        · rename_i cs hf
          cases h
          have hzl := h3.length
          simp only [Array.length_toList] at hzl
          have hz0 : VRs φ (azeros len z) ((Array.range (len * i.size)).map ((if len * i.size = 0 then #[] else zv.cells)[· % (if len * i.size = 0 then #[] else zv.cells).size]!)).toList := by
            by_cases h0 : len * i.size = 0
            · simp only [h0]
              have : azeros len z = [] := by
                rcases Nat.mul_eq_zero.1 h0 with h | h
                · subst h; rfl
                · have : z = [] := by apply List.eq_nil_of_length_eq_zero; omega
                  subst this; simp [azeros]
              rw [this]; simpa using VRs.nil
            · simp only [h0, if_false]
              rw [range_mod' zv.cells _ len (by rw [hc2, hzl])]
              exact azeros_ok h3 len
          obtain ⟨ys, h4, h5⟩ := afill_ok hf hp hz0
          have hnew := hr.newCells e h5 0 0 #[] (by simp)
          refine ⟨.slice (some ⟨w.heap.size, 0, none⟩) len len, _, _, ?_, Ext.snoc _ _, ?_, by simpa using hnew⟩
          · unfold Instr.buildSlice
            simp only [Sem.run_bind, run_underlying hu, Result.andThen_ok, sizeOf, typeInfo, run_program, hi, Sem.run_pure]
            rw [if_neg (by omega)]
            by_cases h0 : len * i.size = 0
            · simp only [h0, if_true] at h4 ⊢
              simp only [pure_bind, h4]
              rfl
            · simp only [h0, if_false] at h4 ⊢
              simp only [zeroValue, Sem.run_bind, typeInfo, run_program, hi, h2, Sem.run_pure, Result.andThen_ok, h4]
              rfl
          · have : (φ ++ [(⟨w.heap.size, 0, 0⟩ : Loc)])[H.length]? = some ⟨w.heap.size, 0, 0⟩ := by rw [← hr.len]; simp
            simpa using VR.sl (off := 0) (len := len) (cap := len) (ex := true) this
        · cases h
      · cases h
    · cases h
  · cases h

def amakeSlice (P : Program) (t : TypeId) (len cap : AV) (H : AH) : Option (AV × AH) :=
  match P.underlying t, len, cap with
  | some (.slice e), .int _ l, .int _ c =>
    match P.info? e, azero P e with
    | some i, some z =>
      if 0 ≤ l ∧ l ≤ c ∧ c ≤ (maxLen : Int) ∧ (i.bytes : Int) * c ≤ 140737488355328 ∧ i.size = z.length then
        some (.sl H.length 0 l.toNat c.toNat true, H ++ [.cells (azeros c.toNat z) (mtag P e) false])
      else none
    | _, _ => none
  | _, _, _ => none
theorem wrap_i64 {n : Int} (h0 : 0 ≤ n) (h1 : n ≤ (maxLen : Int)) : IntKind.i64.wrap n = n := by
  have : (maxLen : Int) = 9223372036854775807 := by unfold maxLen; rfl
  rw [this] at h1
  exact IntWalk.i64_in _ (by omega)
theorem amakeSlice_ok (hr : Rel w0 φ H w) {t : TypeId} {len cap v : AV} {lu cu : Value} {H' : AH} (h : amakeSlice P t len cap H = some (v, H')) (hl : VR φ len lu) (hc : VR φ cap cu) :
    ∃ u w' φ', (Instr.makeSlice t lu cu).run P w = .ok u w' ∧ Ext φ φ' ∧ VR φ' v u ∧ Rel w0 φ' H' w' := by
  unfold amakeSlice at h
  split at h
  · rename_i e k l k' c hu
    cases hl; cases hc
    split at h
    · rename_i i z hi hz
      obtain ⟨i', zv, h1, h2, h3⟩ := azero_ok hz φ
      rw [hi] at h1; cases h1
      split at h
      · rename_i hcond
        obtain ⟨c1, c2, c3, c4, c5⟩ := hcond
        cases h
        have hzl := h3.length
        simp only [Array.length_toList] at hzl
        have hl2 := wrap_i64 c1 (Int.le_trans c2 c3)
        have hc2 := wrap_i64 (Int.le_trans c1 c2) c3
        have hz0 : VRs φ (azeros c.toNat z) ((Array.range (c.toNat * i.size)).map ((if c.toNat * i.size = 0 then #[] else zv.cells)[· % (if c.toNat * i.size = 0 then #[] else zv.cells).size]!)).toList := by
          by_cases h0 : c.toNat * i.size = 0
          · simp only [h0]
            have : azeros c.toNat z = [] := by
              rcases Nat.mul_eq_zero.1 h0 with h | h
              · rw [h]; rfl
              · have : z = [] := by apply List.eq_nil_of_length_eq_zero; omega
                subst this; simp [azeros]
            rw [this]; simpa using VRs.nil
          · simp only [h0, if_false]
            rw [range_mod' zv.cells _ c.toNat (by rw [c5, hzl])]
            exact azeros_ok h3 _
        have hnew := hr.newCells e hz0 (mtag P e) 0 #[] (by simp) (fun t h => tyOf_mtag h)
        refine ⟨.slice (some ⟨w.heap.size, 0, none⟩) l.toNat c.toNat, _, _, ?_, Ext.snoc _ _, ?_, by simpa using hnew⟩
        · unfold Instr.makeSlice
          simp only [Sem.run_bind, run_underlying hu, Result.andThen_ok, asInt, asIntOf, typeInfo, run_program, hi, Sem.run_pure, hl2, hc2]
          have t1 : ¬ ((i.bytes : Int) * c > 2 ^ 48) := by
            have : (2 : Int) ^ 48 = 281474976710656 := by decide
            omega
          have t2 : ¬ (c < 0) := by omega
          have t3 : ¬ (l < 0) := by omega
          have t4 : ¬ (l > c) := by omega
          simp only [t1, t2, t3, t4, decide_false, Bool.or_self, Bool.false_eq_true, if_false, run_askRoom, Result.andThen_ok, sizeOf, typeInfo, Sem.run_bind, run_program, hi, Sem.run_pure]
          by_cases h0 : c.toNat * i.size = 0
          · simp only [h0, if_true]
            rfl
          · simp only [h0, if_false]
            simp only [zeroValue, Sem.run_bind, typeInfo, run_program, hi, h2, Sem.run_pure, Result.andThen_ok]
            rfl
        · have : (φ ++ [(⟨w.heap.size, 0, 0⟩ : Loc)])[H.length]? = some ⟨w.heap.size, 0, 0⟩ := by rw [← hr.len]; simp
          simpa using VR.sl (off := 0) (len := l.toNat) (cap := c.toNat) (ex := true) this
      · cases h
    · cases h
  · cases h
end
end Go.Ve
