/- Maps whose keys are integers, strings or truth values, and iterators over strings. -/
import Derived.Test.YtkgkbpfjdlnoeaaVe8
namespace Go.Ve
open Go Go.RowKit

section
variable {P : Program} {w0 : Base} {w : World} {φ : List Loc} {H : AH}

def keyV : AV → Option Value
  | .bool b => some (.bool b)
  | .int k n => some (.int k n)
  | .str s => some (.string ⟨⟨s⟩⟩)
  | _ => none
theorem keyV_ok {v : AV} {u u' : Value} (h : keyV v = some u) (hv : VR φ v u') : u' = u := by
  cases hv <;> simp [keyV] at h <;> exact h
def plainKey : TypeDesc → Bool
  | .int _ => true
  | .string => true
  | .bool => true
  | _ => false
theorem checkKey_ok {t : TypeId} {d : TypeDesc} (hd : P.underlying t = some d) (hp : plainKey d = true) (e : Bool) (k : Value) : (Instr.checkKey e 10000 t k).run P w = .ok () w := by
  show (Instr.checkKey e (9999 + 1) t k).run P w = .ok () w
  unfold Instr.checkKey
  rw [Sem.run_bind, run_underlying hd]
  cases d <;> first | (simp [plainKey] at hp; done) | rfl

def afind (d : TypeDesc) (k : Value) : List (AV × AV) → Nat → Option (Option (Nat × AV))
  | [], _ => some none
  | e :: es, i =>
    match keyV e.1 with
    | none => none
    | some u =>
      match Instr.sameNow d k u with
      | some true => some (some (i, e.2))
      | some false => afind d k es (i + 1)
      | none => none
theorem afind_ok {d : TypeDesc} {k : Value} : ∀ {es : List (AV × AV)} {ms : List MapEntry} {i : Nat} {r : Option (Nat × AV)}, afind d k es i = some r → EntryR φ es ms →
    match r with
    | none => Instr.findNow d k ms i = some none
    | some (j, v) => i ≤ j ∧ ∃ u m e, Instr.findNow d k ms i = some (some (j, u)) ∧ VR φ v u ∧ ms[j - i]? = some m ∧ es[j - i]? = some e ∧ keyV e.1 = some m.key ∧ Instr.sameNow d k m.key = some true
  | [], [], i, r, h, _ => by simp only [afind] at h; cases h; rfl
  | e :: es, m :: ms, i, r, h, hm => by
    simp only [afind] at h
    split at h
    · cases h
    · rename_i u hu
      have hk := keyV_ok hu hm.1
      simp only [Instr.findNow]
      split at h
      · rename_i hs
        cases h
        rw [hk, hs]
        exact ⟨Nat.le_refl _, m.val, m, e, rfl, hm.2.1, by simp, by simp, by rw [hu, hk], by rw [hk]; exact hs⟩
      · rename_i hs
        rw [hk, hs]
        have ih := afind_ok h hm.2.2
        split
        · exact ih
        · rename_i j v
          obtain ⟨h1, u2, m2, e2, h2, h3, h4, h5, h6⟩ := ih
          have : j - i = (j - (i + 1)) + 1 := by omega
          exact ⟨by omega, u2, m2, e2, h2, h3, by rw [this]; simpa using h4, by rw [this]; simpa using h5, h6⟩
      · cases h
  | [], _ :: _, _, _, _, h => h.elim
  | _ :: _, [], _, _, _, h => h.elim

def entriesOf (H : AH) : AV → Option (List (AV × AV))
  | .nilmap => some []
  | .map b =>
    match H[b]? with
    | some (.map es _) => some es
    | _ => none
  | _ => none

def azeroV (P : Program) (t : TypeId) : Option AV :=
  match P.info? t with
  | some i => i.zero.map ofV
  | none => none
theorem azeroV_ok {t : TypeId} {v : AV} (h : azeroV P t = some v) (φ : List Loc) : ∃ z, VR φ v z ∧ (zeroValue t).run P w = .ok z w := by
  unfold azeroV at h
  split at h
  · rename_i i hi
    cases hz : i.zero with
    | none => simp [hz] at h
    | some z =>
      simp [hz] at h; subst h
      exact ⟨z, ofV_ok φ z, by simp [zeroValue, typeInfo, hi, hz]⟩
  · cases h

def alookup (P : Program) (t : TypeId) (x k : AV) (ok : Bool) (H : AH) : Option AV :=
  match P.underlying t with
  | some (.map kt et) =>
    match P.underlying kt, keyV k, entriesOf H x with
    | some d, some ku, some es =>
      if plainKey d then
        match afind d ku es 0 with
        | some (some r) => some (if ok then .tuple [r.2, .bool true] else r.2)
        | some none => (azeroV P et).map fun z => if ok then .tuple [z, .bool false] else z
        | none => none
      else none
    | _, _, _ => none
  | _ => none
theorem findKey_ok {kt : TypeId} {d : TypeDesc} (hd : P.underlying kt = some d) {k : Value} {ms : List MapEntry} {r : Option (Nat × Value)} (h : Instr.findNow d k ms 0 = some r) : (Instr.findKey kt k ms).run P w = .ok r w := by
  unfold Instr.findKey
  rw [Sem.run_bind, run_underlying hd]
  simp only [Result.andThen_ok, h]
  rfl
theorem alookup_ok (hr : Rel w0 φ H w) {t : TypeId} {x k v : AV} {xu ku : Value} {ok : Bool} (h : alookup P t x k ok H = some v) (hx : VR φ x xu) (hk : VR φ k ku) :
    ∃ u, VR φ v u ∧ (Instr.lookup t xu ku ok).run P w = .ok u w := by
  unfold alookup at h
  split at h
  · rename_i kt et hu
    split at h
    · rename_i d ku' es hd hku hes
      split at h
      · rename_i hp
        have hkk := keyV_ok hku hk
        subst hkk
        have key : ∃ ms : Array MapEntry, EntryR φ es ms.toList ∧ ((xu = .map none ∧ ms = #[]) ∨ ∃ r c, xu = .map (some r) ∧ w.heap[r]? = some (.map ms c)) := by
          unfold entriesOf at hes
          split at hes
          · cases hes
            cases hx
            exact ⟨#[], trivial, .inl ⟨rfl, rfl⟩⟩
          · split at hes
            · rename_i b es' ro hb
              cases hes
              cases hx with
              | map hl =>
                obtain ⟨_, ms, c, h2, h3⟩ := hr.blocks _ _ _ hb hl
                exact ⟨ms, h3, .inr ⟨_, c, rfl, h2⟩⟩
            · cases hes
          · cases hes
        obtain ⟨ms, h1, h2⟩ := key
        split at h
        · rename_i r hf
          cases h
          obtain ⟨_, u, m, e, h3, h4, _⟩ := afind_ok hf h1
          refine ⟨if ok then .tuple #[u, .bool true] else u, ?_, ?_⟩
          · cases ok
            · exact h4
            · exact .tuple (.cons h4 (.cons (.bool _) .nil))
          · unfold Instr.lookup
            rcases h2 with ⟨rfl, rfl⟩ | ⟨r, c, rfl, h2⟩
            · simp only [Instr.findNow] at h3
              cases h3
            · simp [run_underlying hu, getObj, Sem.run, h2, checkKey_ok hd hp, findKey_ok hd h3]
        · rename_i hf
          have h3 := afind_ok hf h1
          cases hz : azeroV P et with
          | none => rw [hz] at h; cases h
          | some z =>
            rw [hz] at h; cases h
            obtain ⟨zv, h4, h5⟩ := azeroV_ok (w := w) hz φ
            refine ⟨if ok then .tuple #[zv, .bool false] else zv, ?_, ?_⟩
            · cases ok
              · exact h4
              · exact .tuple (.cons h4 (.cons (.bool _) .nil))
            · unfold Instr.lookup
              rcases h2 with ⟨rfl, rfl⟩ | ⟨r, c, rfl, h2⟩
              · simp [run_underlying hu, checkKey_ok hd hp, findKey_ok hd h3, h5]
              · simp [run_underlying hu, getObj, Sem.run, h2, checkKey_ok hd hp, findKey_ok hd h3, h5]
        · cases h
      · cases h
    · cases h
  · cases h

/-! ### Changes -/
def amapUpdate (P : Program) (t : TypeId) (m k x : AV) (H : AH) : Option AH :=
  match P.underlying t with
  | some (.map kt _) =>
    match m with
    | .map b =>
      match P.underlying kt, keyV k, H[b]? with
      | some d, some ku, some (.map es false) =>
        if plainKey d then
          match afind d ku es 0 with
          | some (some r) => some (H.set b (.map (es.set r.1 (k, x)) false))
          | some none => some (H.set b (.map (es ++ [(k, x)]) false))
          | none => none
        else none
      | _, _, _ => none
    | _ => none
  | _ => none
def adelete (P : Program) (t : TypeId) (m k : AV) (H : AH) : Option AH :=
  match P.underlying t with
  | some (.map kt _) =>
    match m with
    | .map b =>
      match P.underlying kt, keyV k, H[b]? with
      | some d, some ku, some (.map es false) =>
        if plainKey d then
          match afind d ku es 0 with
          | some (some r) => some (H.set b (.map (es.eraseIdx r.1) false))
          | some none => some (H.set b (.map es false))
          | none => none
        else none
      | _, _, _ => none
    | _ => none
  | _ => none
theorem EntryR.set : ∀ {es : List (AV × AV)} {ms : List MapEntry} {i : Nat} {e : AV × AV} {m : MapEntry}, EntryR φ es ms → VR φ e.1 m.key → VR φ e.2 m.val → EntryR φ (es.set i e) (ms.set i m)
  | [], [], _, _, _, _, _, _ => trivial
  | _ :: _, _ :: _, 0, _, _, h, h1, h2 => ⟨h1, h2, h.2.2⟩
  | _ :: _, _ :: _, _ + 1, _, _, h, h1, h2 => ⟨h.1, h.2.1, EntryR.set h.2.2 h1 h2⟩
  | [], _ :: _, _, _, _, h, _, _ => h.elim
  | _ :: _, [], _, _, _, h, _, _ => h.elim
theorem EntryR.snoc : ∀ {es : List (AV × AV)} {ms : List MapEntry} {e : AV × AV} {m : MapEntry}, EntryR φ es ms → VR φ e.1 m.key → VR φ e.2 m.val → EntryR φ (es ++ [e]) (ms ++ [m])
  | [], [], _, _, _, h1, h2 => ⟨h1, h2, trivial⟩
  | _ :: _, _ :: _, _, _, h, h1, h2 => ⟨h.1, h.2.1, EntryR.snoc h.2.2 h1 h2⟩
  | [], _ :: _, _, _, h, _, _ => h.elim
  | _ :: _, [], _, _, h, _, _ => h.elim
theorem EntryR.erase : ∀ {es : List (AV × AV)} {ms : List MapEntry} {i : Nat}, EntryR φ es ms → EntryR φ (es.eraseIdx i) (ms.eraseIdx i)
  | [], [], _, _ => trivial
  | _ :: _, _ :: _, 0, h => h.2.2
  | _ :: _, _ :: _, _ + 1, h => ⟨h.1, h.2.1, EntryR.erase h.2.2⟩
  | [], _ :: _, _, h => h.elim
  | _ :: _, [], _, h => h.elim
/-- A map's entries are others. -/
theorem Rel.setMap (hr : Rel w0 φ H w) {b : Nat} {es es' : List (AV × AV)} {l : Loc} (hb : H[b]? = some (.map es false)) (hl : φ[b]? = some l) {ms' : Array MapEntry} {c' : Nat} (he : EntryR φ es' ms'.toList) :
    Rel w0 φ (H.set b (.map es' false)) { w with heap := w.heap.setIfInBounds l.blk (.map ms' c') } := by
  obtain ⟨h1, ms, c, h2, h3⟩ := hr.blocks _ _ _ hb hl
  have hlt : l.blk < w.heap.size := (Array.getElem?_eq_some_iff.1 h2).1
  refine hr.upd (k := .map es false) hb rfl hl rfl rfl rfl (by simp) (fun j hj _ => ?_) ⟨h1, ms', c', ?_, he⟩
  · simp only [Array.getElem?_setIfInBounds]
    rw [if_neg (Ne.symm hj)]
  · simp [hlt]
theorem same_bits {d : TypeDesc} {a b : Value} (h : Instr.sameNow d a b = some true) : Instr.sameBits 10000 b a = true := by
  show Instr.sameBits (9999 + 1) b a = true
  unfold Instr.sameNow at h
  split at h
  · split at h
    · rename_i hk
      simp at h
      simp [Instr.sameBits, hk, h]
    · cases h
  · rename_i a b
    simp only [Option.some.injEq] at h
    have e : a = b := by cases a; cases b; exact congrArg ByteArray.mk (eq_of_beq h)
    subst e
    exact h
  · simp only [Option.some.injEq] at h
    rename_i a b
    cases a <;> cases b <;> first | rfl | (exact h)
  · cases h
theorem list_modify_set {α : Type} (f : α → α) : ∀ (l : List α) (i : Nat) (a : α), l[i]? = some a → l.modify i f = l.set i (f a)
  | [], _, _, h => by simp at h
  | x :: l, 0, a, h => by simp at h; subst h; rfl
  | x :: l, i + 1, a, h => by
    simp at h
    simp [list_modify_set f l i a h]
theorem amapUpdate_ok (hr : Rel w0 φ H w) {t : TypeId} {m k x : AV} {mu ku xu : Value} {H' : AH} (h : amapUpdate P t m k x H = some H') (hm : VR φ m mu) (hk : VR φ k ku) (hx : VR φ x xu) :
    ∃ w', (Instr.mapUpdate t mu ku xu).run P w = .ok () w' ∧ Rel w0 φ H' w' ∧ ∃ b, m = .map b ∧ Keeps b H H' := by
  unfold amapUpdate at h
  split at h
  · rename_i kt et hu
    split at h
    · rename_i b
      split at h
      · rename_i d ku' es hd hku hb
        split at h
        · rename_i hp
          have hkk := keyV_ok hku hk
          subst hkk
          cases hm with
          | map hl =>
            rename_i l
            obtain ⟨h1, ms, c, h2, h3⟩ := hr.blocks _ _ _ hb hl
            have pre : ∀ f : Option (Nat × Value) → Sem Unit, ∀ r, Instr.findNow d ku ms.toList 0 = some r → (do
                Instr.checkKey false 10000 kt ku
                f (← Instr.findKey kt ku ms.toList)).run P w = (f r).run P w := fun f r hfr => by
              rw [Sem.run_bind, checkKey_ok hd hp]
              simp only [Result.andThen_ok]
              rw [Sem.run_bind, findKey_ok hd hfr]
              rfl
            split at h
            · rename_i r hf
              cases h
              obtain ⟨_, u, m0, e, h4, h5, h6, h7, h8, h9⟩ := afind_ok hf h3
              simp only [Nat.sub_zero] at h6 h7
              refine ⟨_, ?_, hr.setMap hb hl (ms' := ms.modify r.1 fun e => { e with key := ku, val := xu }) (c' := c) ?_, b, rfl, Keeps.set _ _ _⟩
              · unfold Instr.mapUpdate
                rw [Sem.run_bind, run_underlying hu]
                simp only [Result.andThen_ok]
                rw [Sem.run_bind]
                simp only [getObj, Sem.run, h2, Result.andThen_ok]
                refine (pre _ _ h4).trans ?_
                have h6' : ms[r.1]? = some m0 := by simpa using h6
                simp only [Instr.keyThatStays, h6', Option.map_some, Option.getD_some, same_bits h9, if_true]
                simp [setObj, Sem.run, h2]
              · rw [Array.toList_modify, list_modify_set _ _ _ _ h6]
                exact h3.set hk hx
            · rename_i hf
              cases h
              have h4 := afind_ok hf h3
              refine ⟨_, ?_, hr.setMap hb hl (ms' := ms.push { key := ku, val := xu, born := c }) (c' := c + 1) ?_, b, rfl, Keeps.set _ _ _⟩
              · unfold Instr.mapUpdate
                rw [Sem.run_bind, run_underlying hu]
                simp only [Result.andThen_ok]
                rw [Sem.run_bind]
                simp only [getObj, Sem.run, h2, Result.andThen_ok]
                refine (pre _ _ h4).trans ?_
                simp [setObj, Sem.run, h2]
              · rw [Array.toList_push]
                exact h3.snoc hk hx
            · cases h
        · cases h
      · cases h
    · cases h
  · cases h
theorem adelete_ok (hr : Rel w0 φ H w) {t ty : TypeId} {ts : List TypeId} {m k : AV} {mu ku : Value} {H' : AH} (h : adelete P t m k H = some H') (hm : VR φ m mu) (hk : VR φ k ku) :
    ∃ w', (Builtin.delete_ (t :: ts).toArray ty [mu, ku].toArray).run P w = .ok (.tuple #[]) w' ∧ Rel w0 φ H' w' ∧ ∃ b, m = .map b ∧ Keeps b H H' := by
  unfold adelete at h
  split at h
  · rename_i kt et hu
    split at h
    · rename_i b
      split at h
      · rename_i d ku' es hd hku hb
        split at h
        · rename_i hp
          have hkk := keyV_ok hku hk
          subst hkk
          cases hm with
          | map hl =>
            rename_i l
            obtain ⟨h1, ms, c, h2, h3⟩ := hr.blocks _ _ _ hb hl
            have pre : ∀ (f : Option (Nat × Value) → Sem Value) (e : Bool), ∀ r, Instr.findNow d ku ms.toList 0 = some r → (do
                Instr.checkKey e 10000 kt ku
                f (← Instr.findKey kt ku ms.toList)).run P w = (f r).run P w := fun f e r hfr => by
              rw [Sem.run_bind, checkKey_ok hd hp]
              simp only [Result.andThen_ok]
              rw [Sem.run_bind, findKey_ok hd hfr]
              rfl
            split at h
            · rename_i r hf
              cases h
              obtain ⟨_, u, m0, e, h4, h5, h6, h7, h8, h9⟩ := afind_ok hf h3
              refine ⟨_, ?_, hr.setMap hb hl (ms' := ms.eraseIdxIfInBounds r.1) (c' := c) ?_, b, rfl, Keeps.set _ _ _⟩
              · unfold Builtin.delete_
                simp only [List.getElem?_toArray, List.getElem?_cons_zero, List.getElem?_cons_succ]
                rw [Sem.run_bind, run_underlying hu]
                simp only [Result.andThen_ok]
                simp [getObj, Sem.run, h2, checkKey_ok hd hp, findKey_ok hd h4, setObj]
              · rw [Array.toList_eraseIdxIfInBounds]
                exact h3.erase
            · rename_i hf
              cases h
              have h4 := afind_ok hf h3
              refine ⟨_, ?_, hr.setMap hb hl (ms' := ms) (c' := c) h3, b, rfl, Keeps.set _ _ _⟩
              unfold Builtin.delete_
              simp only [List.getElem?_toArray, List.getElem?_cons_zero, List.getElem?_cons_succ]
              rw [Sem.run_bind, run_underlying hu]
              simp only [Result.andThen_ok]
              simp [getObj, Sem.run, h2, checkKey_ok hd hp, findKey_ok hd h4, setObj]
            · cases h
        · cases h
      · cases h
    · cases h
  · cases h
theorem Rel.newMap (hr : Rel w0 φ H w) : Rel w0 (φ ++ [⟨w.heap.size, 0, 0⟩]) (H ++ [.map [] false]) { w with heap := w.heap.push (.map #[] 0) } := by
  refine hr.alloc (.map #[] 0) (l := ⟨w.heap.size, 0, 0⟩) rfl ⟨hr.below.fresh (Nat.le_refl _), #[], 0, ?_, trivial⟩
  simp
def mapOf : AV → Nat
  | .map b => b
  | _ => 0
theorem amapUpdate_keeps {t : TypeId} {m k x : AV} {H' : AH} (h : amapUpdate P t m k x H = some H') : Keeps (mapOf m) H H' := by
  unfold amapUpdate at h
  (repeat' split at h) <;> first | (cases h; done) | (cases h; exact Keeps.set _ _ _)
theorem adelete_keeps {t : TypeId} {m k : AV} {H' : AH} (h : adelete P t m k H = some H') : Keeps (mapOf m) H H' := by
  unfold adelete at h
  (repeat' split at h) <;> first | (cases h; done) | (cases h; exact Keeps.set _ _ _)
end
end Go.Ve
