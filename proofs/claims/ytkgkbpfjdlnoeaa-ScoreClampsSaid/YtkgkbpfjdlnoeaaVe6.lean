/- The evaluator's operations, continued: append, copy, len, conversions. -/
import Derived.Test.YtkgkbpfjdlnoeaaVe5
import Derived.Laws.IdiomCopy
import Derived.Laws.Append
namespace Go.Ve
open Go Go.RowKit

theorem setCells_other (b : Nat) : ∀ (vs : List Value) (o : Nat) (w : World) (j : Nat), j ≠ b → (w.setCells b o vs).heap[j]? = w.heap[j]?
  | [], _, _, _, _ => rfl
  | v :: r, o, w, j, h => by
    rw [World.setCells, setCells_other b r (o + 1) _ j h]
    simp only [World.setCell, Array.getElem?_modify]
    rw [if_neg (Ne.symm h)]
theorem setCells_same (b : Nat) : ∀ (vs : List Value) (o : Nat) (w : World) (c : Array Value) (e : TypeId) (fz : Nat × Nat), w.heap[b]? = some (.cells c e fz) →
    ∃ c', (w.setCells b o vs).heap[b]? = some (.cells c' e fz) ∧ c'.size = c.size
  | [], _, _, c, _, _, h => ⟨c, h, rfl⟩
  | v :: r, o, w, c, e, fz, h => by
    have h1 : (w.setCell ⟨b, o, none⟩ v).heap[b]? = some (.cells (c.setIfInBounds o v) e fz) := by
      simp only [World.setCell, Array.getElem?_modify, if_true, h, Option.map_some]
      simp
    obtain ⟨c', h2, h3⟩ := setCells_same b r (o + 1) _ _ _ _ h1
    exact ⟨c', h2, by simpa using h3⟩
theorem setCells_rest (b : Nat) : ∀ (vs : List Value) (o : Nat) (w : World), (w.setCells b o vs).os = w.os ∧ (w.setCells b o vs).tape = w.tape ∧ (w.setCells b o vs).output = w.output ∧ (w.setCells b o vs).heap.size = w.heap.size
  | [], _, _ => ⟨rfl, rfl, rfl, rfl⟩
  | v :: r, o, w => by
    obtain ⟨h1, h2, h3, h4⟩ := setCells_rest b r (o + 1) (w.setCell ⟨b, o, none⟩ v)
    exact ⟨h1, h2, h3, by rw [World.setCells, h4]; simp⟩

section
variable {P : Program} {w0 : Base} {w : World} {φ : List Loc} {H : AH}

theorem cell_in {c : Array Value} {e : TypeId} {fz : Nat × Nat} {b j : Nat} (h : w.heap[b]? = some (.cells c e fz)) (hj : j < c.size) : (w.cell? ⟨b, j, none⟩).isSome = true := by
  simp [World.cell?, h, hj]

/-- The old block is given up: a new name for its memory, which now reaches into what was spare. -/
theorem Rel.into (h : Rel w0 φ H w) {b esz : Nat} {vs cs : List AV} {us : List Value} {l : Loc} (hb : H[b]? = some (.cells vs esz false)) (hl : φ[b]? = some l) (off n : Nat) (hoff : off ≤ vs.length) (hn : n ≤ l.slk)
    (hcs : VRs φ cs us) (hlen : cs.length = n * szOf esz) (hone : ∀ c ∈ cs, c.one = true) (hty : ∀ t, tyOf esz = some t → szOf esz = 1) :
    (storeCells ⟨l.blk, l.sh + vs.length, none⟩ us 0).run P w = .ok () (w.setCells l.blk (l.sh + vs.length) us) ∧
    Rel w0 (φ ++ [⟨l.blk, l.sh + off, l.slk - n⟩]) (H.set b .dead ++ [.cells (vs.drop off ++ cs) esz false]) (w.setCells l.blk (l.sh + vs.length) us) := by
  obtain ⟨⟨h1, c, e, fz, h2, h3, h4, h10⟩, h5⟩ := h.blocks b _ l hb hl
  have hul : us.length = n * szOf esz := by rw [← hlen, hcs.length]
  have hmul : n * szOf esz ≤ l.slk * szOf esz := Nat.mul_le_mul_right _ hn
  have hsub : (l.slk - n) * szOf esz = l.slk * szOf esz - n * szOf esz := Nat.sub_mul _ _ _
  have hblen : b < H.length := (List.getElem?_eq_some_iff.1 hb).1
  obtain ⟨r1, r2, r3, r4⟩ := setCells_rest l.blk us (l.sh + vs.length) w
  have huone : ∀ v ∈ us, v.oneCell' = true := by
    intro v hv
    obtain ⟨j, hj⟩ := List.getElem?_of_mem hv
    have hjl : j < cs.length := by have := (List.getElem?_eq_some_iff.1 hj).1; omega
    obtain ⟨u, hu1, hu2⟩ := hcs.get (List.getElem?_eq_getElem hjl)
    rw [hj] at hu1; cases hu1
    exact hu2.one_cell (hone _ (List.getElem_mem hjl))
  have hcell : ∀ j, j < us.length → (w.cell? ⟨l.blk, l.sh + vs.length + 0 + j, none⟩).isSome = true := fun j hj => cell_in h2 (by omega)
  have hcell' : ∀ j, j < us.length → (w.cell? ⟨l.blk, l.sh + vs.length + j, none⟩).isSome = true := fun j hj => cell_in h2 (by omega)
  have hfz : ∀ j, j < us.length → w.frozen? ⟨l.blk, l.sh + vs.length + 0 + j, none⟩ = false := fun j hj => by
    have := h4 (vs.length + j) (by omega)
    rwa [show l.sh + (vs.length + j) = l.sh + vs.length + 0 + j by omega] at this
  refine ⟨by simpa using run_storeCells_cells (P := P) l.blk (l.sh + vs.length) us 0 w hcell hfz huone, ?_⟩
  obtain ⟨c', h6, h7⟩ := setCells_same l.blk us (l.sh + vs.length) w c e fz h2
  have hext : Ext φ (φ ++ [(⟨l.blk, l.sh + off, l.slk - n⟩ : Loc)]) := Ext.snoc _ _
  have hnew : BR w0 (φ ++ [⟨l.blk, l.sh + off, l.slk - n⟩]) (w.setCells l.blk (l.sh + vs.length) us) ⟨l.blk, l.sh + off, l.slk - n⟩ (.cells (vs.drop off ++ cs) esz false) := by
    refine ⟨⟨h1, c', e, fz, h6, ?_, fun j hj => ?_, fun t ht => ⟨(h10 t ht).1, by rw [hty t ht]; exact Nat.mod_one _⟩⟩, ?_⟩
    · simp only [List.length_append, List.length_drop]
      omega
    · simp only [List.length_append, List.length_drop] at hj
      rw [World.frozen?_setCells]
      have := h4 (off + j) (by omega)
      rwa [show l.sh + (off + j) = l.sh + off + j by omega] at this
    · intro j v hj
      by_cases hjl : j < vs.length - off
      · rw [List.getElem?_append_left (by simpa using hjl), List.getElem?_drop] at hj
        obtain ⟨u, hu1, hu2⟩ := h5 _ _ hj
        refine ⟨u, hu1.mono hext, ?_⟩
        rw [World.cell?_setCells_out]
        · show w.cell? ⟨l.blk, l.sh + off + j, none⟩ = some u
          rw [show l.sh + off + j = l.sh + (off + j) by omega]; exact hu2
        · intro _ _; left; show l.sh + off + j < l.sh + vs.length; omega
      · rw [List.getElem?_append_right (by simpa using Nat.le_of_not_lt hjl)] at hj
        simp only [List.length_drop] at hj
        obtain ⟨u, hu1, hu2⟩ := hcs.get hj
        have hk := (List.getElem?_eq_some_iff.1 hu1).1
        refine ⟨u, hu2.mono hext, ?_⟩
        have := World.cell?_setCells_in l.blk us (l.sh + vs.length) w hcell' (j - (vs.length - off)) hk
        rw [List.getElem?_eq_getElem hk] at hu1
        cases hu1
        rw [← this]
        show (w.setCells _ _ _).cell? ⟨l.blk, l.sh + off + j, none⟩ = _
        rw [show l.sh + off + j = l.sh + vs.length + (j - (vs.length - off)) by omega]
  have split : ∀ (b' : Nat) (k' : ABlk) (l' : Loc), (H.set b .dead ++ [.cells (vs.drop off ++ cs) esz false])[b']? = some k' → (φ ++ [(⟨l.blk, l.sh + off, l.slk - n⟩ : Loc)])[b']? = some l' →
      (b' = b ∧ k' = .dead) ∨ (b' ≠ b ∧ H[b']? = some k' ∧ φ[b']? = some l') ∨ (b' = H.length ∧ k' = .cells (vs.drop off ++ cs) esz false ∧ l' = ⟨l.blk, l.sh + off, l.slk - n⟩) := fun b' k' l' hb' hl' => by
    rcases Nat.lt_trichotomy b' H.length with hlt | heq | hgt
    · rw [List.getElem?_append_left (by simpa using hlt)] at hb'
      rw [List.getElem?_append_left (by rw [h.len]; exact hlt)] at hl'
      by_cases e : b' = b
      · subst e
        rw [List.getElem?_set_self hlt] at hb'
        simp at hb'
        exact .inl ⟨rfl, hb'.symm⟩
      · rw [List.getElem?_set_ne (Ne.symm e)] at hb'
        exact .inr (.inl ⟨e, hb', hl'⟩)
    · right; right
      subst heq
      rw [List.getElem?_append_right (by simp)] at hb'
      rw [List.getElem?_append_right (by rw [h.len]; omega), h.len] at hl'
      simp at hb' hl'
      exact ⟨rfl, hb'.symm, hl'.symm⟩
    · rw [List.getElem?_eq_none (by simp; omega)] at hb'; simp at hb'
  refine ⟨by simp [h.len], ⟨r1.trans h.below.os, r2.trans h.below.tape, r3.trans h.below.output, by rw [r4]; exact h.below.size, fun j hj => ?_⟩, ?_, ?_⟩
  · rw [setCells_other _ _ _ _ _ (by intro e; rw [e] at hj; exact h1 hj)]; exact h.below.block j hj
  · intro b' k' l' hb' hl'
    rcases split b' k' l' hb' hl' with ⟨_, rfl⟩ | ⟨e1, e2, e3⟩ | ⟨_, rfl, rfl⟩
    · trivial
    · by_cases hd : k' = .dead
      · subst hd; trivial
      · have hbr := h.blocks b' k' l' e2 e3
        refine (hbr.keep (setCells_other _ _ _ _ _ ?_)).mono hext
        intro he
        cases ho2 : k'.own with
        | true => exact e1 (h.inj b' b k' _ l' l e2 hb e3 hl ho2 rfl he)
        | false => exact h1 (he ▸ hbr.ro_lt ho2 hd)
    · exact hnew
  · intro b1 b2 k1 k2 l1 l2 hb1 hb2 hl1 hl2 o1 o2 he
    rcases split b1 k1 l1 hb1 hl1 with ⟨_, rfl⟩ | ⟨e1, e2, e3⟩ | ⟨q1, rfl, rfl⟩
    · simp [ABlk.own] at o1
    · rcases split b2 k2 l2 hb2 hl2 with ⟨_, rfl⟩ | ⟨e1', e2', e3'⟩ | ⟨q2, rfl, rfl⟩
      · simp [ABlk.own] at o2
      · exact h.inj b1 b2 k1 k2 l1 l2 e2 e2' e3 e3' o1 o2 he
      · exact absurd (h.inj b1 b k1 _ l1 l e2 hb e3 hl o1 rfl he) e1
    · rcases split b2 k2 l2 hb2 hl2 with ⟨_, rfl⟩ | ⟨e1', e2', e3'⟩ | ⟨q2, rfl, rfl⟩
      · simp [ABlk.own] at o2
      · exact absurd (h.inj b2 b k2 _ l2 l e2' hb e3' hl o2 rfl he.symm) e1'
      · omega

/-- A block is forgotten. -/
theorem Rel.kill (h : Rel w0 φ H w) (b : Nat) : Rel w0 φ (H.set b .dead) w := by
  have aux : ∀ (b1 : Nat) (k1 : ABlk), (H.set b .dead)[b1]? = some k1 → k1 = .dead ∨ H[b1]? = some k1 := fun b1 k1 hb1 => by
    by_cases e : b1 = b
    · subst e
      have := (List.getElem?_eq_some_iff.1 hb1).1
      rw [List.getElem?_set_self (by simpa using this)] at hb1
      simp at hb1; exact .inl hb1.symm
    · rw [List.getElem?_set_ne (Ne.symm e)] at hb1; exact .inr hb1
  refine ⟨by simp [h.len], h.below, fun b1 k1 l1 hb1 hl1 => ?_, fun b1 b2 k1 k2 l1 l2 hb1 hb2 hl1 hl2 o1 o2 he => ?_⟩
  · rcases aux b1 k1 hb1 with rfl | hq
    · trivial
    · exact h.blocks b1 k1 l1 hq hl1
  · rcases aux b1 k1 hb1 with rfl | hq1
    · simp [ABlk.own] at o1
    · rcases aux b2 k2 hb2 with rfl | hq2
      · simp [ABlk.own] at o2
      · exact h.inj b1 b2 k1 k2 l1 l2 hq1 hq2 hl1 hl2 o1 o2 he

/-- What is appended: how many elements, and their cells. -/
def anews (H : AH) (size : Nat) : AV → Option (Nat × List AV)
  | .sl b off n _ _ =>
    match cellsOf? H b with
    | some vs => if off + n * size ≤ vs.length then some (n, (vs.drop off).take (n * size)) else none
    | none => none
  | .nilsl => some (0, [])
  | .sle _ _ _ => some (0, [])
  | .slz => some (0, [])
  | .str s => if size = 1 then some (s.length, s.map fun c => .int .u8 c.toNat) else none
  | _ => none
theorem anews_len {size : Nat} {x : AV} {n : Nat} {cs : List AV} (h : anews H size x = some (n, cs)) : cs.length = n * size := by
  unfold anews at h
  split at h
  · split at h
    · split at h
      · cases h; simp; omega
      · cases h
    · cases h
  · cases h; simp
  · cases h; simp
  · cases h; simp
  · split at h
    · rename_i hs; subst hs; cases h; simp
    · cases h
  · cases h
theorem anews_ok (hr : Rel w0 φ H w) {size : Nat} {x : AV} {xu : Value} {n : Nat} {cs : List AV} (h : anews H size x = some (n, cs)) (hx : VR φ x xu) :
    (Builtin.lenOf xu).run P w = .ok n w ∧ ∃ us : Array Value, VRs φ cs us.toList ∧ (Builtin.firstCells size n xu).run P w = .ok us w := by
  unfold anews at h
  split at h
  · split at h
    · rename_i b off n1 cap1 ex1 _x vs hb
      split at h
      · rename_i hle
        cases h
        cases hx with
        | sl hl =>
          obtain ⟨us, h1, h2, h3⟩ := (hr.cellsR hb hl).get off _ hle
          have hload := run_loadCells_list (P := P) w _ us (fun j u hu => by rw [add_mk]; exact h3 j u hu)
          rw [h1] at hload
          exact ⟨rfl, us.toArray, by simpa using h2, hload⟩
      · cases h
    · cases h
  · cases h; cases hx; exact ⟨rfl, #[], .nil, rfl⟩
  · cases h
    cases hx with
    | sle hl =>
      refine ⟨rfl, #[], .nil, ?_⟩
      simp [Builtin.firstCells, loadCells, loadCellsFrom]
  · cases h
    cases hx with
    | slz a =>
      refine ⟨rfl, #[], .nil, ?_⟩
      simp [Builtin.firstCells, loadCells, loadCellsFrom]
  · split at h
    · rename_i s hs
      cases h; cases hx
      refine ⟨rfl, (s.map fun c => Value.int .u8 c.toNat).toArray, ?_, ?_⟩
      · simpa using VRs.map_of (φ := φ) s (fun c => AV.int .u8 c.toNat) (fun c => Value.int .u8 c.toNat) (fun c _ => .int _ _)
      · simp only [Builtin.firstCells]
        have e : ((⟨⟨s⟩⟩ : ByteArray).extract 0 s.length).data = ⟨s⟩ := by
          rw [ByteArray.data_extract]
          apply Array.toList_inj.1
          simp [List.extract]
        rw [e]
        simp
    · cases h
  · cases h

def isIntD : TypeDesc → Bool
  | .int _ => true
  | _ => false
theorem isIntD_eq (d : TypeDesc) : (match d with | .int _ => true | _ => false) = isIntD d := by cases d <;> rfl

theorem append_in {t t2 e ty : TypeId} {d2 : TypeDesc} {inf : TypeInfo} {base : Option Addr} {sLen sCap n : Nat} {x : Value} {us : Array Value} (hu : P.underlying t = some (.slice e)) (h2 : P.underlying t2 = some d2) (hd : isIntD d2 = false)
    (hi : P.info? e = some inf) (hlen : (Builtin.lenOf x).run P w = .ok n w) (hnew : (Builtin.firstCells inf.size n x).run P w = .ok us w) (hcap : sLen + n ≤ sCap) :
    (Builtin.append_ #[t, t2] ty #[.slice base sLen sCap, x]).run P w =
      ((match base with | some a => storeCells (a.add (sLen * inf.size)) us.toList | none => pure () : Sem Unit).run P w).andThen fun _ w' => .ok (.slice base (sLen + n) sCap) w' := by
  have hz : ∀ d, isIntD d = false → (match d with | .int _ => true | _ => false) = false := fun d h => by rw [isIntD_eq]; exact h
  unfold Builtin.append_
  simp only [List.getElem?_toArray, List.getElem?_cons_zero, List.getElem?_cons_succ, Sem.run_bind, run_underlying hu, run_underlying h2, Result.andThen_ok, sizeOf, typeInfo, run_program, hi, Sem.run_pure]
  cases d2 <;> simp only [isIntD] at hd <;> try cases hd
  all_goals
    simp only [Bool.false_eq_true, if_false, hlen, Result.andThen_ok, hcap, if_true, Bool.not_false, Sem.run_bind, hnew]
    cases base <;> simp

theorem append_out {t t2 e ty : TypeId} {d2 : TypeDesc} {inf : TypeInfo} {z : Value} {base : Option Addr} {sLen sCap n : Nat} {x : Value} {us os : Array Value} (hu : P.underlying t = some (.slice e)) (h2 : P.underlying t2 = some d2) (hd : isIntD d2 = false)
    (hi : P.info? e = some inf) (hz : inf.zero = some z) (hlen : (Builtin.lenOf x).run P w = .ok n w) (hnew : (Builtin.firstCells inf.size n x).run P { w with drawn := w.drawn + 1 } = .ok us { w with drawn := w.drawn + 1 })
    (hold : (Builtin.firstCells inf.size sLen (.slice base sLen sCap)).run P { w with drawn := w.drawn + 1 } = .ok os { w with drawn := w.drawn + 1 })
    (hcap : ¬ sLen + n ≤ sCap) (h63 : sLen + n ≤ maxLen) (hby : (sLen + n) * inf.bytes ≤ 140737488355328) :
    ∃ newCap extra, sLen + n ≤ newCap ∧ extra.size = (newCap - (sLen + n)) * z.cells.size ∧
    (Builtin.append_ #[t, t2] ty #[.slice base sLen sCap, x]).run P w =
      .ok (.slice (some ⟨w.heap.size, 0, none⟩) (sLen + n) newCap) { w with drawn := w.drawn + 1, heap := w.heap.push (.cells (os ++ us ++ extra) e) } := by
  refine ⟨(Question.appendCap (sLen + n) sCap e).cut (w.tape w.drawn (.appendCap (sLen + n) sCap e)), Builtin.zeroCells z.cells ((Question.appendCap (sLen + n) sCap e).cut (w.tape w.drawn (.appendCap (sLen + n) sCap e)) - (sLen + n)), ?_, ?_, ?_⟩
  · simp [Question.cut]
  · simp [Builtin.zeroCells]
  · have hfit := growslice_fits (need := sLen + n) (old := sCap) (bytes := inf.bytes) (by omega) hby
    have hm := maxLen_i64
    have e1 : ¬ (((sLen + n : Nat) : Int) > IntKind.i64.max) := by omega
    have e2 : ¬ (Builtin.nextslicecap (sLen + n) sCap * inf.bytes > 2 ^ 48) := by
      have : (2 : Nat) ^ 48 = 281474976710656 := by decide
      omega
    unfold Builtin.append_
    simp only [List.getElem?_toArray, List.getElem?_cons_zero, List.getElem?_cons_succ, Sem.run_bind, run_underlying hu, run_underlying h2, Result.andThen_ok, sizeOf, typeInfo, run_program, hi, Sem.run_pure]
    cases d2 <;> simp only [isIntD] at hd <;> try cases hd
    all_goals
      simp only [Bool.false_eq_true, if_false, hlen, Result.andThen_ok, hcap, Bool.not_false, if_true, Sem.run_bind, e1, false_and, e2, run_choose, Question.forced, run_program, hi, Sem.run_pure, run_askRoom, hold, hnew, zeroValue, typeInfo, hz, newRow, run_newObj]

def aappend (P : Program) (t t2 : TypeId) (s x : AV) (H : AH) : Option (AV × AH) :=
  match P.underlying t, P.underlying t2 with
  | some (.slice e), some d2 =>
    match isIntD d2, P.info? e, azero P e with
    | false, some inf, some z =>
      if z.length = inf.size ∧ inf.size < 65536 then
        match anews H inf.size x with
        | none => none
        | some (n, cs) =>
          match s with
          | .nilsl =>
            if n = 0 then some (.nilsl, H)
            else if n ≤ maxLen ∧ n * inf.bytes ≤ 140737488355328 then some (.sl H.length 0 n n false, H ++ [.cells cs (btag P e inf.size) false])
            else none
          | .sl b off len cap ex =>
            match H[b]? with
            | some (.cells vs esz ro) =>
              if len ≤ cap ∧ off + len * inf.size ≤ vs.length then
                if n = 0 then some (.sl b off len cap ex, H)
                else if len + n ≤ cap then
                  if ro = false ∧ off + (len + n) * inf.size ≤ vs.length ∧ AV.allOne cs = true then some (.sl b off (len + n) cap ex, H.set b (.cells (setManyF vs (off + len * inf.size) cs) esz false)) else none
                else if len + n ≤ maxLen ∧ (len + n) * inf.bytes ≤ 140737488355328 then
                  if ex then some (.sl H.length 0 (len + n) (len + n) false, H ++ [.cells ((vs.drop off).take (len * inf.size) ++ cs) (btag P e inf.size) false])
                  else if ro = false ∧ len = cap ∧ off + len * inf.size = vs.length ∧ esz = btag P e inf.size ∧ AV.allOne cs = true then
                    some (.sl H.length 0 (len + n) (len + n) false, H.set b .dead ++ [.cells (vs.drop off ++ cs) (btag P e inf.size) false])
                  else none
                else none
              else none
            | _ => none
          | .sle b off adv =>
            if n = 0 then some (.sle b off adv, H)
            else if n ≤ maxLen ∧ n * inf.bytes ≤ 140737488355328 then
              match H[b]? with
              | some (.cells vs esz ro) =>
                if ro = false ∧ off + adv = vs.length ∧ esz = btag P e inf.size ∧ AV.allOne cs = true then
                  some (.sl H.length 0 n n false, H.set b .dead ++ [.cells cs (btag P e inf.size) false])
                else none
              | _ => none
            else none
          | .slz =>
            if n = 0 then some (.slz, H)
            else if n ≤ maxLen ∧ n * inf.bytes ≤ 140737488355328 then some (.sl H.length 0 n n false, H ++ [.cells cs (btag P e inf.size) false])
            else none
          | _ => none
      else none
    | _, _, _ => none
  | _, _ => none

theorem newSl (h : φ.length = H.length) (l : Loc) (len cap : Nat) : VR (φ ++ [l]) (.sl H.length 0 len cap false) (.slice (some ⟨l.blk, l.sh, none⟩) len (cap + l.slk)) := by
  have : (φ ++ [l])[H.length]? = some l := by rw [← h]; simp
  simpa using VR.sl (off := 0) (len := len) (cap := cap) (ex := false) this
theorem Rel.drew' (h : Rel w0 φ H w) : Rel w0 φ H { w with drawn := w.drawn + 1 } := h.same rfl rfl rfl rfl

/-- A new array for what there is and what is appended. -/
theorem append_new (hr : Rel w0 φ H w) {t t2 e ty : TypeId} {d2 : TypeDesc} {inf : TypeInfo} {z : List AV} {base : Option Addr} {sLen sCap n : Nat} {x : AV} {xu : Value} {cs olds : List AV} {os : Array Value}
    (hu : P.underlying t = some (.slice e)) (h2 : P.underlying t2 = some d2) (hd : isIntD d2 = false) (hi : P.info? e = some inf) (hz : azero P e = some z) (hzs : z.length = inf.size) (hsm : inf.size < 65536)
    (hn : anews H inf.size x = some (n, cs)) (hx : VR φ x xu) (hos : VRs φ olds os.toList)
    (hold : (Builtin.firstCells inf.size sLen (.slice base sLen sCap)).run P { w with drawn := w.drawn + 1 } = .ok os { w with drawn := w.drawn + 1 })
    (hcap : ¬ sLen + n ≤ sCap) (h63 : sLen + n ≤ maxLen) (hby : (sLen + n) * inf.bytes ≤ 140737488355328) :
    ∃ u w' φ', (Builtin.append_ #[t, t2] ty #[.slice base sLen sCap, xu]).run P w = .ok u w' ∧ Ext φ φ' ∧ VR φ' (.sl H.length 0 (sLen + n) (sLen + n) false) u ∧ Rel w0 φ' (H ++ [.cells (olds ++ cs) (btag P e inf.size) false]) w' := by
  obtain ⟨i', zv, g1, g2, g3⟩ := azero_ok hz φ
  rw [hi] at g1; cases g1
  have hzl := g3.length
  simp only [Array.length_toList] at hzl
  obtain ⟨hlen, _⟩ := anews_ok (P := P) hr hn hx
  obtain ⟨_, us, hus, hnew⟩ := anews_ok (P := P) hr.drew' hn hx
  obtain ⟨newCap, extra, c1, c2, c3⟩ := append_out (ty := ty) hu h2 hd hi g2 hlen hnew hold hcap h63 hby
  refine ⟨_, _, φ ++ [⟨w.heap.size, 0, newCap - (sLen + n)⟩], c3, Ext.snoc _ _, ?_, ?_⟩
  · have := newSl hr.len ⟨w.heap.size, 0, newCap - (sLen + n)⟩ (sLen + n) (sLen + n)
    simp only at this
    rwa [show sLen + n + (newCap - (sLen + n)) = newCap by omega] at this
  · have hall : VRs φ (olds ++ cs) (os ++ us).toList := by simpa using hos.append hus
    exact hr.drew'.newCells e hall (btag P e inf.size) (newCap - (sLen + n)) extra (by rw [szOf_btag hsm, c2, ← hzl, hzs]) (fun t h => (tyOf_btag hsm h).1)
end
end Go.Ve
