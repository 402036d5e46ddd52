/- The evaluator's operations, continued: slice expressions' law, literals, make, append, copy, conversions. -/
import Derived.Test.YtkgkbpfjdlnoeaaDoorVe3
namespace Go.Ve
open Go Go.RowKit

section
variable {P : Program} {w0 : Base} {w : World} {φ : List Loc} {H : AH}

theorem sliceAt_slice {t e : TypeId} (hu : P.underlying t = some (.slice e)) (x : Value) (lo hi mx : Option Value) : (Instr.sliceAt t x lo hi mx).run P w = (Instr.slice t x lo hi mx).run P w := by
  unfold Instr.sliceAt
  rw [Sem.run_bind, run_underlying hu]
  rfl
theorem slice_run {t e : TypeId} {inf : TypeInfo} (hu : P.underlying t = some (.slice e)) (hi : P.info? e = some inf) (a : Option Addr) (len cap l h m : Nat) (lo hv mx : Option Value)
    (hb : (Instr.sliceBounds true len cap lo hv mx).run P w = .ok (l, h, m) w) :
    (Instr.sliceAt t (.slice a len cap) lo hv mx).run P w = .ok (.slice (if m = l then a else a.map (·.add (l * inf.size))) (h - l) (m - l)) w := by
  rw [sliceAt_slice hu]
  unfold Instr.slice
  rw [Sem.run_bind, run_underlying hu]
  simp only [Result.andThen_ok, Sem.run_bind, hb, sizeOf, typeInfo, run_program, hi]
  rfl
theorem if_some_add {b off n : Nat} (c : Prop) [Decidable c] : (if c then some (⟨b, off, none⟩ : Addr) else (some (⟨b, off, none⟩ : Addr)).map (·.add n)) = some ⟨b, if c then off else off + n, none⟩ := by
  split
  · rfl
  · simp [add_mk]

theorem aslice_ok {t : TypeId} {x v : AV} {xu : Value} {lo hi mx : Option AV} {lou hiu mxu : Option Value} (h : aslice P t x lo hi mx = some v) (hx : VR φ x xu) (hlo : VRo φ lo lou) (hhi : VRo φ hi hiu) (hmx : VRo φ mx mxu) :
    ∃ u, VR φ v u ∧ (Instr.sliceAt t xu lou hiu mxu).run P w = .ok u w := by
  unfold aslice at h
  split at h
  · rename_i hu
    split at h
    · rename_i s
      have hm : mxu = none := by cases mxu with | none => rfl | some _ => exact hmx.elim
      subst hm
      split at h
      · rename_i hh hhe
        split at h
        · rename_i l hle
          cases h
          cases hx
          obtain ⟨h1, h2, h3⟩ := bounds2_ok (P := P) (w := w) (s := false) hhe hle hlo hhi (Nat.le_refl _) (Nat.le_refl _)
          refine ⟨.string ((⟨⟨s⟩⟩ : ByteArray).extract l hh), ?_, ?_⟩
          · have e : (⟨⟨s⟩⟩ : ByteArray).extract l hh = ⟨⟨(s.drop l).take (hh - l)⟩⟩ := by
              have e1 := ByteArray.data_extract (a := (⟨⟨s⟩⟩ : ByteArray)) (b := l) (e := hh)
              cases he : (⟨⟨s⟩⟩ : ByteArray).extract l hh with
              | mk d =>
                rw [he] at e1
                simp only at e1
                subst e1
                congr 1
                apply Array.toList_inj.1
                simp [List.extract]
            rw [e]
            exact .str _
          · unfold Instr.sliceAt
            rw [Sem.run_bind, run_underlying hu]
            show (Instr.slice t _ lou hiu none).run P w = _
            unfold Instr.slice
            rw [Sem.run_bind, run_underlying hu]
            simp [size_mk, h3]
        · cases h
      · cases h
    · cases h
  · rename_i e hu
    split at h
    · cases h
    · rename_i inf hinf
      split at h
      · rename_i b off len cap ex
        split at h
        · rename_i hlc
          cases hx with
          | sl hl =>
            rename_i lc
            split at h
            · rename_i m
              split at h
              · rename_i _x1 _x2 mm hv0 hmm
                split at h
                · rename_i hh hhe
                  split at h
                  · rename_i l hle
                    cases h
                    cases mxu with
                    | none => exact hmx.elim
                    | some mu =>
                      cases hiu with
                      | none => exact hhi.elim
                      | some hu2 =>
                        obtain ⟨h1, h2, h3, h4⟩ := bounds3_ok (P := P) (w := w) (s := true) (len := len) (cap' := cap + if ex = true then 0 else lc.slk) hmm hhe hle hlo hhi hmx (Nat.le_add_right _ _)
                        refine ⟨_, ?_, slice_run hu hinf _ _ _ _ _ _ _ _ _ h4⟩
                        rw [if_some_add]
                        have := VR.sl (φ := φ) (b := b) (off := if mm = l then off else off + l * inf.size) (len := hh - l) (cap := mm - l) (ex := true) hl
                        have e : (if mm = l then lc.sh + off else lc.sh + off + l * inf.size) = lc.sh + (if mm = l then off else off + l * inf.size) := by split <;> omega
                        rw [e]
                        simpa using this
                  · cases h
                · cases h
              · cases h
            · have hm : mxu = none := by cases mxu with | none => rfl | some _ => exact hmx.elim
              subst hm
              split at h
              · rename_i hh hhe
                split at h
                · rename_i l hle
                  obtain ⟨h1, h2, h3⟩ := bounds2_ok (P := P) (w := w) (s := true) (cap' := cap + if ex = true then 0 else lc.slk) hhe hle hlo hhi (Nat.le_add_right _ _) hlc
                  refine ⟨_, ?_, slice_run hu hinf _ _ _ _ _ _ _ _ _ h3⟩
                  rw [if_some_add]
                  split at h
                  · rename_i hex
                    subst hex
                    cases h
                    have := VR.sl (φ := φ) (b := b) (off := if cap = l then off else off + l * inf.size) (len := hh - l) (cap := cap - l) (ex := true) hl
                    have e : (if cap = l then lc.sh + off else lc.sh + off + l * inf.size) = lc.sh + (if cap = l then off else off + l * inf.size) := by split <;> omega
                    simp only [if_true, Nat.add_zero]
                    rw [e]
                    simpa using this
                  · rename_i hex
                    have hex' : ex = false := by simpa using hex
                    subst hex'
                    split at h
                    · rename_i hlcap
                      cases h
                      subst hlcap
                      have he : hh = l := by omega
                      subst he
                      have := VR.sle (φ := φ) (b := b) (off := off) (adv := hh * inf.size) hl
                      simp only [Nat.sub_self, Bool.false_eq_true, if_false]
                      rw [show hh + lc.slk - hh = lc.slk by omega]
                      have e : (if hh + lc.slk = hh then lc.sh + off else lc.sh + off + hh * inf.size) = lc.sh + off + (if lc.slk = 0 then 0 else hh * inf.size) := by
                        by_cases h0 : lc.slk = 0
                        · rw [if_pos (by omega), if_pos h0]; omega
                        · rw [if_neg (by omega), if_neg h0]
                      rw [e]
                      simpa using this
                    · rename_i hlcap
                      cases h
                      have := VR.sl (φ := φ) (b := b) (off := off + l * inf.size) (len := hh - l) (cap := cap - l) (ex := false) hl
                      simp only [Bool.false_eq_true, if_false] at *
                      rw [if_neg (by omega)]
                      rw [show cap + lc.slk - l = cap - l + lc.slk by omega, Nat.add_assoc]
                      exact this
                · cases h
              · cases h
        · cases h
      · cases hx
        split at h
        · cases h
        · have hm : mxu = none := by cases mxu with | none => rfl | some _ => exact hmx.elim
          subst hm
          split at h
          · rename_i hh hhe
            split at h
            · rename_i l hle
              cases h
              obtain ⟨h1, h2, h3⟩ := bounds2_ok (P := P) (w := w) (s := true) (cap' := 0) hhe hle hlo hhi (Nat.le_refl _) (Nat.le_refl _)
              refine ⟨_, ?_, slice_run hu hinf _ _ _ _ _ _ _ _ _ h3⟩
              have e1 : hh = 0 := by omega
              have e2 : l = 0 := by omega
              subst e1; subst e2
              exact .nilsl
            · cases h
          · cases h
      · rename_i b off adv
        cases hx with
        | sle hl =>
          rename_i lc
          split at h
          · rename_i m
            split at h
            · rename_i _x1 _x2 mm hv0 hmm
              split at h
              · rename_i hh hhe
                split at h
                · rename_i l hle
                  cases h
                  cases mxu with
                  | none => exact hmx.elim
                  | some mu =>
                    cases hiu with
                    | none => exact hhi.elim
                    | some hu2 =>
                      obtain ⟨h1, h2, h3, h4⟩ := bounds3_ok (P := P) (w := w) (s := true) (len := 0) (cap' := lc.slk) hmm hhe hle hlo hhi hmx (Nat.zero_le _)
                      refine ⟨_, ?_, slice_run hu hinf _ _ _ _ _ _ _ _ _ h4⟩
                      have e1 : mm = 0 := by omega
                      have e2 : hh = 0 := by omega
                      have e3 : l = 0 := by omega
                      subst e1; subst e2; subst e3
                      exact .slz _
                · cases h
              · cases h
            · cases h
          · have hm : mxu = none := by cases mxu with | none => rfl | some _ => exact hmx.elim
            subst hm
            split at h
            · rename_i hh hhe
              split at h
              · rename_i l hle
                cases h
                obtain ⟨h1, h2, h3⟩ := bounds2_ok (P := P) (w := w) (s := true) (cap' := lc.slk) hhe hle hlo hhi (Nat.zero_le _) (Nat.le_refl _)
                refine ⟨_, ?_, slice_run hu hinf _ _ _ _ _ _ _ _ _ h3⟩
                have e1 : hh = 0 := by omega
                have e2 : l = 0 := by omega
                subst e1; subst e2
                rw [if_some_add]
                simp only [Nat.zero_mul, Nat.add_zero, Nat.sub_zero, ite_self]
                exact .sle hl
              · cases h
            · cases h
      · cases hx with
        | slz a =>
          split at h
          · rename_i m
            split at h
            · rename_i _x1 _x2 mm hv0 hmm
              split at h
              · rename_i hh hhe
                split at h
                · rename_i l hle
                  cases h
                  cases mxu with
                  | none => exact hmx.elim
                  | some mu =>
                    cases hiu with
                    | none => exact hhi.elim
                    | some hu2 =>
                      obtain ⟨h1, h2, h3, h4⟩ := bounds3_ok (P := P) (w := w) (s := true) (len := 0) (cap' := 0) hmm hhe hle hlo hhi hmx (Nat.zero_le _)
                      refine ⟨_, ?_, slice_run hu hinf _ _ _ _ _ _ _ _ _ h4⟩
                      have e1 : mm = 0 := by omega
                      have e2 : hh = 0 := by omega
                      have e3 : l = 0 := by omega
                      subst e1; subst e2; subst e3
                      exact .slz _
                · cases h
              · cases h
            · cases h
          · have hm : mxu = none := by cases mxu with | none => rfl | some _ => exact hmx.elim
            subst hm
            split at h
            · rename_i hh hhe
              split at h
              · rename_i l hle
                cases h
                obtain ⟨h1, h2, h3⟩ := bounds2_ok (P := P) (w := w) (s := true) (cap' := 0) hhe hle hlo hhi (Nat.zero_le _) (Nat.le_refl _)
                refine ⟨_, ?_, slice_run hu hinf _ _ _ _ _ _ _ _ _ h3⟩
                have e1 : hh = 0 := by omega
                have e2 : l = 0 := by omega
                subst e1; subst e2
                exact .slz _
              · cases h
            · cases h
      · cases h
  · rename_i n e hu
    split at h
    · rename_i inf b off hinf
      have hm : mxu = none := by cases mxu with | none => rfl | some _ => exact hmx.elim
      subst hm
      split at h
      · rename_i hh hhe
        split at h
        · rename_i l hle
          cases h
          cases hx with
          | ptr hl =>
            rename_i lc
            obtain ⟨h1, h2, h3⟩ := bounds2_ok (P := P) (w := w) (s := false) (cap' := n) hhe hle hlo hhi (Nat.le_refl _) (Nat.le_refl _)
            refine ⟨.slice (some (if n = l then ⟨lc.blk, lc.sh + off, none⟩ else (⟨lc.blk, lc.sh + off, none⟩ : Addr).add (l * inf.size))) (hh - l) (n - l), ?_, ?_⟩
            · have := VR.sl (φ := φ) (b := b) (off := if n = l then off else off + l * inf.size) (len := hh - l) (cap := n - l) (ex := true) hl
              have e : (if n = l then (⟨lc.blk, lc.sh + off, none⟩ : Addr) else (⟨lc.blk, lc.sh + off, none⟩ : Addr).add (l * inf.size)) = ⟨lc.blk, lc.sh + (if n = l then off else off + l * inf.size), none⟩ := by
                split
                · rfl
                · rw [add_mk, Nat.add_assoc]
              rw [e]
              simpa using this
            · unfold Instr.sliceAt
              rw [Sem.run_bind, run_underlying hu]
              simp only [Result.andThen_ok, Instr.sureAddr, Sem.run_bind, Sem.run_pure, h3, sizeOf, typeInfo, run_program, hinf]
        · cases h
      · cases h
    · cases h
  · cases h

/-! ### Struct, array and slice literals -/
theorem setMany_cells : ∀ {cs vs : List AV} {us : List Value} {xs : Array Value} (off : Nat), VRs φ cs us → VRs φ vs xs.toList → off + cs.length ≤ vs.length →
    VRs φ (setMany vs off cs) ((us.zipIdx 0).foldl (fun c p => c.setIfInBounds (off + p.2) p.1) xs).toList := by
  intro cs
  suffices ∀ (k off : Nat) (vs : List AV) (us : List Value) (xs : Array Value), VRs φ cs us → VRs φ vs xs.toList →
      VRs φ (setMany vs (off + k) cs) ((us.zipIdx k).foldl (fun c p => c.setIfInBounds (off + p.2) p.1) xs).toList by
    intro vs us xs off h1 h2 _
    exact this 0 off vs us xs h1 h2
  induction cs with
  | nil => intro k off vs us xs h1 h2; cases h1; exact h2
  | cons c cs ih =>
    intro k off vs us xs h1 h2
    cases h1 with
    | cons a b =>
      rename_i u us
      simp only [setMany, List.zipIdx_cons, List.foldl_cons]
      have := ih (k + 1) off (vs.set (off + k) c) us (xs.setIfInBounds (off + k) u) b (by simpa using h2.set (off + k) a)
      exact this

def afill (place : Nat → Option (Nat × Nat)) (cells : List AV) : List (Nat × AV) → Option (List AV)
  | [] => some cells
  | (i, v) :: rest =>
    match place i with
    | none => none
    | some (off, size) => if v.cells.length = size ∧ off + v.cells.length ≤ cells.length ∧ AV.allOne v.cells = true then afill place (setManyF cells off v.cells) rest else none
/-- The parts of a literal. -/
def PartsR (φ : List Loc) : List (Nat × AV) → List (Nat × Value) → Prop
  | [], [] => True
  | a :: as, b :: bs => a.1 = b.1 ∧ VR φ a.2 b.2 ∧ PartsR φ as bs
  | _, _ => False
theorem afill_ok {place : Nat → Option (Nat × Nat)} : ∀ {ps : List (Nat × AV)} {qs : List (Nat × Value)} {cells r : List AV} {xs : Array Value}, afill place cells ps = some r → PartsR φ ps qs → VRs φ cells xs.toList →
    ∃ ys : Array Value, Instr.fill place xs qs = some ys ∧ VRs φ r ys.toList
  | [], [], cells, r, xs, h, _, hc => by simp [afill] at h; subst h; exact ⟨xs, rfl, hc⟩
  | (i, v) :: ps, (j, u) :: qs, cells, r, xs, h, hp, hc => by
    obtain ⟨e, hv, hp⟩ := hp
    simp only at e hv
    subst e
    simp only [afill] at h
    split at h
    · cases h
    · rename_i off size hpl
      split at h
      · rename_i hcond
        obtain ⟨h1, h2, h3⟩ := hcond
        have hcs := hv.cells (allOne_ne_bad h3)
        have hl := hcs.length
        have hl2 := hc.length
        simp only [Array.length_toList] at hl hl2
        have e2 : u.cells.zipIdx.foldl (fun cs (x : Value × Nat) => cs.setIfInBounds (off + x.2) x.1) xs = (u.cells.toList.zipIdx 0).foldl (fun c p => c.setIfInBounds (off + p.2) p.1) xs := by
          rw [← Array.foldl_toList, Array.toList_zipIdx]
        have hset := setMany_cells off hcs hc (by omega)
        rw [← e2, ← setManyF_eq] at hset
        obtain ⟨ys, h4, h5⟩ := afill_ok h hp hset
        refine ⟨ys, ?_, h5⟩
        simp only [Instr.fill, hpl]
        rw [if_neg (by simp; omega)]
        exact h4
      · cases h
  | [], _ :: _, _, _, _, _, hp, _ => hp.elim
  | _ :: _, [], _, _, _, _, hp, _ => hp.elim
end
end Go.Ve
