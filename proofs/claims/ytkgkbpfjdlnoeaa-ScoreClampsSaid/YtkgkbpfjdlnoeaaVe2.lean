/- The evaluator's operations on memory and numbers, each held against the model's. -/
import Derived.Test.YtkgkbpfjdlnoeaaVe1
namespace Go.Ve
open Go Go.RowKit

section
variable {P : Program} {w0 : Base} {w : World} {φ : List Loc} {H : AH}

/-! ### What touches no memory -/
def pureRun {α : Type} (P : Program) : Sem α → Option α
  | .pure a => some a
  | .program k => pureRun P (k P)
  | .mark _ k => pureRun P k
  | _ => none
theorem pureRun_ok {α : Type} (w : World) {s : Sem α} {a : α} (h : pureRun P s = some a) : s.run P w = .ok a w := by
  induction s with
  | pure b => simp [pureRun] at h; subst h; rfl
  | program k ih => simp only [pureRun] at h; exact ih P h
  | mark m k ih => simp only [pureRun] at h; exact ih h
  | _ => simp [pureRun] at h

def AV.sc : AV → Option Value
  | .bool b => some (.bool b)
  | .int k n => some (.int k n)
  | .float k n => some (.float k n)
  | _ => none
theorem sc_ok {v : AV} {u u' : Value} (h : v.sc = some u) (hv : VR φ v u') : u' = u := by
  cases hv <;> simp [AV.sc] at h <;> exact h

/-! ### The frame -/
def aeval (fr : List AV) : Operand → AV
  | .tmp t => fr.getD t (.tuple [])
  | .const v => ofV v
  | .global g => .gptr g 0
  | .func f => .fn (.func f) [] []
theorem array_getD_toList (a : Array Value) (t : Nat) (d : Value) : a.getD t d = a.toList.getD t d := by
  simp [Array.getD_eq_getD_getElem?, List.getD_eq_getElem?_getD]
theorem aeval_ok {fr : List AV} {a : Act} (h : VRs φ fr a.tmps.toList) (x : Operand) : VR φ (aeval fr x) (a.eval x) := by
  cases x with
  | tmp t =>
    show VR φ (fr.getD t (.tuple [])) (a.tmps.getD t undef)
    rw [array_getD_toList]
    exact h.getD t (.tuple .nil)
  | const v => exact ofV_ok φ v
  | global g => exact .gptr g 0
  | func f => exact .fn _ .nil .nil
def aput (fr : List AV) (d : Option Tmp) (v : AV) : List AV :=
  match d with
  | some d => fr.set d v
  | none => fr
theorem aput_ok {fr : List AV} {a : Act} (h : VRs φ fr a.tmps.toList) (d : Option Tmp) {v : AV} {u : Value} (hv : VR φ v u) : VRs φ (aput fr d v) (a.put d u).tmps.toList := by
  cases d with
  | none => exact h
  | some d => simpa [aput, Act.put] using h.set d hv

/-! ### Cells -/
theorem add_mk (b o n : Nat) : (⟨b, o, none⟩ : Addr).add n = ⟨b, o + n, none⟩ := by
  unfold Addr.add
  split
  · rename_i h; subst h; rfl
  · rfl
theorem CellsR.get {l : Loc} {vs : List AV} (h : CellsR φ w l vs) (off : Nat) : ∀ n, off + n ≤ vs.length → ∃ us : List Value, us.length = n ∧ VRs φ ((vs.drop off).take n) us ∧ ∀ j u, us[j]? = some u → w.cell? ⟨l.blk, l.sh + off + j, none⟩ = some u := by
  intro n
  induction n generalizing off with
  | zero => intro _; exact ⟨[], rfl, by simpa using .nil, by simp⟩
  | succ n ih =>
    intro hn
    have hlt : off < vs.length := by omega
    obtain ⟨u, hu, hc⟩ := h off vs[off] (List.getElem?_eq_getElem hlt)
    obtain ⟨us, h1, h2, h3⟩ := ih (off + 1) (by omega)
    refine ⟨u :: us, by simp [h1], ?_, ?_⟩
    · rw [List.drop_eq_getElem_cons hlt]
      exact .cons hu h2
    · intro j x hx
      cases j with
      | zero => simp at hx; subst hx; exact hc
      | succ j =>
        have := h3 j x (by simpa using hx)
        rw [show l.sh + off + (j + 1) = l.sh + (off + 1) + j by omega]; exact this
theorem BR.cellsR {l : Loc} {vs : List AV} {esz : Nat} {ro : Bool} (h : BR w0 φ w l (.cells vs esz ro)) : CellsR φ w l vs := by
  cases ro with
  | true => exact h.2.2
  | false => exact h.2

def cellsOf? (H : AH) (b : Nat) : Option (List AV) :=
  match H[b]? with
  | some (.cells vs _ _) => some vs
  | _ => none
theorem Rel.cellsR (h : Rel w0 φ H w) {b : Nat} {vs : List AV} (hb : cellsOf? H b = some vs) {l : Loc} (hl : φ[b]? = some l) : CellsR φ w l vs := by
  unfold cellsOf? at hb
  split at hb
  · rename_i vs' e r hk
    simp at hb; subst hb
    exact (h.blocks b _ l hk hl).cellsR
  · cases hb
theorem Rel.cellsLoc (h : Rel w0 φ H w) {b : Nat} {vs : List AV} (hb : cellsOf? H b = some vs) : ∃ l, φ[b]? = some l := by
  unfold cellsOf? at hb
  split at hb
  · rename_i vs' e r hk; exact h.loc hk
  · cases hb

def isAggP (P : Program) (t : TypeId) : Option Bool :=
  match P.underlying t with
  | some (.struct _) | some (.array _ _) => some true
  | some _ => some false
  | none => none
theorem isAgg_ok {t : TypeId} {b : Bool} (h : isAggP P t = some b) : (isAgg t).run P w = .ok b w := by
  unfold isAggP at h
  unfold isAgg underlying
  split at h <;> simp_all

/-- Reading a variable of type t. -/
def aloadAt (P : Program) (t : TypeId) (vs : List AV) (off : Nat) : Option AV :=
  match isAggP P t with
  | some true =>
    match P.info? t with
    | some i => if off + i.size ≤ vs.length then some (.agg ((vs.drop off).take i.size)) else none
    | none => none
  | some false => vs[off]?
  | none => none
theorem aloadAt_ok {t : TypeId} {vs : List AV} {off : Nat} {v : AV} {l : Loc} (hv : aloadAt P t vs off = some v) (hc : CellsR φ w l vs) :
    ∃ u, VR φ v u ∧ (loadVar t ⟨l.blk, l.sh + off, none⟩).run P w = .ok u w := by
  unfold aloadAt at hv
  split at hv
  · rename_i hg
    split at hv
    · rename_i i hi
      split at hv
      · rename_i hle
        simp at hv; subst hv
        obtain ⟨us, h1, h2, h3⟩ := hc.get off i.size hle
        refine ⟨.agg us.toArray, .agg (by simpa using h2), ?_⟩
        have hl := run_loadCells_list (P := P) w ⟨l.blk, l.sh + off, none⟩ us (fun j u hu => by rw [add_mk]; exact h3 j u hu)
        rw [h1] at hl
        simp [loadVar, isAgg_ok hg, sizeOf, typeInfo, hi, hl]
      · cases hv
    · cases hv
  · rename_i hg
    obtain ⟨u, h1, h2⟩ := hc off v hv
    exact ⟨u, h1, by simp [loadVar, isAgg_ok hg, h2]⟩
  · cases hv
/-- The cells of a package's variable. -/
def globOf? (g : Nat) : AH → Option (List AV)
  | [] => none
  | .glob g' vs :: r => if g' = g then some vs else globOf? g r
  | _ :: r => globOf? g r
theorem globOf?_ok {g : Nat} {vs : List AV} : ∀ {H : AH}, globOf? g H = some vs → ∃ b : Nat, H[b]? = some (ABlk.glob g vs) := by
  intro H
  induction H with
  | nil => intro h; cases h
  | cons k r ih =>
    intro h
    have rest : globOf? g r = some vs → ∃ b : Nat, (k :: r)[b]? = some (ABlk.glob g vs) := fun h => by
      obtain ⟨b, hb⟩ := ih h
      exact ⟨b + 1, by simpa using hb⟩
    cases k with
    | glob g' vs' =>
      simp only [globOf?] at h
      split at h
      · rename_i e
        cases h
        exact ⟨0, by rw [e]; rfl⟩
      · exact rest h
    | _ => exact rest h
def aload (P : Program) (t : TypeId) (H : AH) : AV → Option AV
  | .ptr b off =>
    match cellsOf? H b with
    | some vs => aloadAt P t vs off
    | none => none
  | .gptr g off =>
    match globOf? g H with
    | some vs => aloadAt P t vs off
    | none => none
  | _ => none
theorem aload_ok (h : Rel w0 φ H w) {t : TypeId} {p v : AV} {pu : Value} (hp : VR φ p pu) (hv : aload P t H p = some v) :
    ∃ a u, pu = .pointer (some a) ∧ VR φ v u ∧ (loadVar t a).run P w = .ok u w := by
  unfold aload at hv
  split at hv
  · rename_i b off
    split at hv
    · rename_i vs hb
      cases hp with
      | ptr hl =>
        obtain ⟨u, h1, h2⟩ := aloadAt_ok (P := P) hv (h.cellsR hb hl)
        exact ⟨_, u, rfl, h1, h2⟩
    · cases hv
  · rename_i g off
    split at hv
    · rename_i vs hb
      cases hp with
      | gptr =>
        obtain ⟨b, hb'⟩ := globOf?_ok hb
        obtain ⟨l, hl⟩ := h.loc hb'
        obtain ⟨_, e1, e2, hc⟩ := h.blocks b _ l hb' hl
        obtain ⟨u, h1, h2⟩ := aloadAt_ok (P := P) (off := off) hv hc
        rw [e1, e2, Nat.zero_add] at h2
        exact ⟨_, u, rfl, h1, h2⟩
    · cases hv
  · cases hv

/-- Writing cells, one by one. -/
def setMany : List AV → Nat → List AV → List AV
  | vs, _, [] => vs
  | vs, off, c :: cs => setMany (vs.set off c) (off + 1) cs
theorem setMany_length : ∀ (cs vs : List AV) (off : Nat), (setMany vs off cs).length = vs.length
  | [], _, _ => rfl
  | c :: cs, vs, off => by simp [setMany, setMany_length cs]
/-- The same, at once. -/
def setManyF (vs : List AV) (off : Nat) : List AV → List AV
  | [c] => vs.set off c
  | cs => if off + cs.length ≤ vs.length then vs.take off ++ (cs ++ vs.drop (off + cs.length)) else setMany vs off cs
theorem setMany_all : ∀ (cs vs : List AV) (off : Nat), off + cs.length ≤ vs.length → setMany vs off cs = vs.take off ++ (cs ++ vs.drop (off + cs.length))
  | [], vs, off, _ => by simp [setMany]
  | c :: cs, vs, off, h => by
    simp only [List.length_cons] at h
    rw [setMany, setMany_all cs _ _ (by simp; omega)]
    have h1 : off < vs.length := by omega
    have e1 : (vs.set off c).take (off + 1) = vs.take off ++ [c] := by
      rw [List.take_add_one, List.getElem?_set_self h1]
      simp [List.take_set_of_le]
    have e2 : (vs.set off c).drop (off + 1 + cs.length) = vs.drop (off + (c :: cs).length) := by
      rw [List.drop_set_of_lt (by omega)]
      simp only [List.length_cons]
      congr 1
      omega
    rw [e1, e2]
    simp
theorem setManyF_eq (vs : List AV) (off : Nat) (cs : List AV) : setManyF vs off cs = setMany vs off cs := by
  unfold setManyF
  split
  · rfl
  · split
    · rename_i h; rw [setMany_all _ _ _ h]
    · rfl
theorem storeCells_ok {b esz : Nat} {l : Loc} (hl : φ[b]? = some l) : ∀ (cs : List AV) (us : List Value) (vs : List AV) (off i : Nat) (H : AH) (w : World), Rel w0 φ H w → H[b]? = some (.cells vs esz false) →
    VRs φ cs us → (∀ c ∈ cs, c.one = true) → off + i + cs.length ≤ vs.length →
    ∃ w', (storeCells ⟨l.blk, l.sh + off, none⟩ us i).run P w = .ok () w' ∧ Rel w0 φ (H.set b (.cells (setMany vs (off + i) cs) esz false)) w' := by
  intro cs
  induction cs with
  | nil =>
    intro us vs off i H w h hb hv _ _
    cases hv
    refine ⟨w, by simp [storeCells], ?_⟩
    have : H.set b (.cells (setMany vs (off + i) []) esz false) = H := by
      apply List.ext_getElem?
      intro j
      by_cases e : b = j
      · subst e; rw [List.getElem?_set_self (List.getElem?_eq_some_iff.1 hb).1, hb]; rfl
      · rw [List.getElem?_set_ne e]
    rw [this]; exact h
  | cons c cs ih =>
    intro us vs off i H w h hb hv hone hn
    cases hv with
    | cons h1 h2 =>
      rename_i u us
      simp at hn
      obtain ⟨hr, ⟨old, hold⟩, hfz⟩ := h.set hb hl (off := off + i) (by omega) h1
      have hblen : b < H.length := (List.getElem?_eq_some_iff.1 hb).1
      obtain ⟨w', h3, h4⟩ := ih us (vs.set (off + i) c) off (i + 1) _ _ hr (by rw [List.getElem?_set_self hblen]) h2 (fun c hc => hone c (by simp [hc])) (by simp; omega)
      refine ⟨w', ?_, ?_⟩
      · have hone1 := h1.one_cell (hone c (by simp))
        have ea : l.sh + off + i = l.sh + (off + i) := by omega
        simp only [storeCells, Sem.run_bind, add_mk, run_store P w _ u .plain hone1, ea, hold, hfz]
        simpa [add_mk] using h3
      · rw [List.set_set] at h4
        exact h4
def AV.allOne : List AV → Bool
  | [] => true
  | c :: cs => c.one && AV.allOne cs
theorem allOne_mem {cs : List AV} (h : AV.allOne cs = true) : ∀ c ∈ cs, c.one = true := by
  induction cs with
  | nil => simp
  | cons c cs ih => simp [AV.allOne] at h; intro x hx; simp at hx; rcases hx with rfl | hx; exact h.1; exact ih h.2 x hx
def astore (P : Program) (t : TypeId) (H : AH) (p v : AV) : Option AH :=
  match p with
  | .ptr b off =>
    match H[b]?, P.info? t with
    | some (.cells vs esz false), some i =>
      if AV.allOne v.cells = true ∧ v.cells.length = i.size ∧ off + v.cells.length ≤ vs.length then some (H.set b (.cells (setManyF vs off v.cells) esz false)) else none
    | _, _ => none
  | _ => none
theorem allOne_ne_bad {v : AV} (h : AV.allOne v.cells = true) : v ≠ .bad := by
  intro e; subst e; simp [AV.cells, AV.allOne, AV.one] at h
theorem astore_ok (h : Rel w0 φ H w) {t : TypeId} {p v : AV} {pu u : Value} {H' : AH} (hp : VR φ p pu) (hv : VR φ v u) (hs : astore P t H p v = some H') :
    ∃ a w', pu = .pointer (some a) ∧ (storeVar t a u).run P w = .ok () w' ∧ Rel w0 φ H' w' := by
  unfold astore at hs
  split at hs
  · rename_i b off
    split at hs
    · rename_i vs esz i hb hi
      split at hs
      · rename_i hc
        obtain ⟨h1, h2, h3⟩ := hc
        simp [setManyF_eq] at hs; subst hs
        cases hp with
        | ptr hl =>
          rename_i l
          have hcs := hv.cells (allOne_ne_bad h1)
          obtain ⟨w', h4, h5⟩ := storeCells_ok (P := P) hl v.cells u.cells.toList vs off 0 H w h hb hcs (allOne_mem h1) (by omega)
          refine ⟨_, w', rfl, ?_, by simpa using h5⟩
          have hsz : u.cells.size = i.size := by rw [← h2, hcs.length]; simp
          simp [storeVar, sizeOf, typeInfo, hi, hsz, h4]
      · cases hs
    · cases hs
  · cases hs

/-! ### New blocks -/
theorem Rel.newCells (h : Rel w0 φ H w) {vs : List AV} {c : Array Value} (e : TypeId) (hv : VRs φ vs c.toList) (esz slk : Nat) (extra : Array Value) (hx : extra.size = slk * szOf esz) (ht : ∀ t, tyOf esz = some t → t = e := by intro t ht; cases ht) :
    Rel w0 (φ ++ [⟨w.heap.size, 0, slk⟩]) (H ++ [.cells vs esz false]) { w with heap := w.heap.push (.cells (c ++ extra) e) } := by
  refine h.alloc (.cells (c ++ extra) e) rfl ⟨⟨h.below.fresh (Nat.le_refl _), c ++ extra, e, (0, 0), by simp, ?_, ?_, fun t h => ⟨(ht t h).symm, Nat.zero_mod _⟩⟩, ?_⟩
  · have := hv.length
    simp only [Array.length_toList] at this
    simp [this, hx]
  · intro j _
    exact World.frozen?_alloc_new w (c ++ extra) e (0 + j)
  · intro j v hj
    obtain ⟨u, h1, h2⟩ := hv.get hj
    refine ⟨u, h2.mono (Ext.snoc _ _), ?_⟩
    have e1 := World.cell?_alloc_new w (c ++ extra) e (0 + j)
    rw [show (World.alloc w (.cells (c ++ extra) e)) = { w with heap := w.heap.push (.cells (c ++ extra) e) } from rfl] at e1
    rw [e1]
    have hlt : j < c.size := by have := (List.getElem?_eq_some_iff.1 h1).1; simpa using this
    rw [Nat.zero_add, Array.getElem?_append_left hlt]
    simpa using h1
/-- The number of a row whose elements may be bytes; that of a variable that may hold its own address. -/
def isByteT (P : Program) (e : TypeId) : Bool :=
  match P.underlying e with
  | some (.int .u8) => true
  | _ => false
def btag (P : Program) (e : TypeId) (sz : Nat) : Nat := if sz = 1 ∧ isByteT P e = true then 1 + 65536 * (e + 1) else sz
def mtag (P : Program) (e : TypeId) : Nat := if isByteT P e = true then 1 + 65536 * (e + 1) else 0
def selfRef (P : Program) (e : TypeId) : Bool :=
  match P.underlying e with
  | some (.struct fs) =>
    match fs[0]? with
    | some f =>
      match P.underlying f.type with
      | some (.pointer a) => a == e
      | _ => false
    | none => false
  | _ => false
def etag (P : Program) (e : TypeId) (sz : Nat) : Nat := if selfRef P e = true ∧ sz < 65536 then sz + 65536 * (e + 1) else 0
theorem szOf_tag (sz e : Nat) (h : sz < 65536) : szOf (sz + 65536 * (e + 1)) = sz := by unfold szOf; omega
theorem tyOf_tag (sz e : Nat) (h : sz < 65536) : tyOf (sz + 65536 * (e + 1)) = some e := by
  unfold tyOf
  have : (sz + 65536 * (e + 1)) / 65536 = e + 1 := by omega
  rw [this]; simp
theorem tyOf_mtag {e t : TypeId} (ht : tyOf (mtag P e) = some t) : t = e := by
  unfold mtag at ht
  split at ht
  · rw [tyOf_tag 1 e (by omega)] at ht; cases ht; rfl
  · cases ht
theorem tyOf_small (sz : Nat) (h : sz < 65536) : tyOf sz = none := by
  unfold tyOf
  rw [if_pos (by omega)]
theorem szOf_btag {e : TypeId} {sz : Nat} (h : sz < 65536) : szOf (btag P e sz) = sz := by
  unfold btag
  split
  · rename_i h1; rw [szOf_tag 1 e (by omega), h1.1]
  · unfold szOf; omega
theorem tyOf_btag {e t : TypeId} {sz : Nat} (h : sz < 65536) (ht : tyOf (btag P e sz) = some t) : t = e ∧ szOf (btag P e sz) = 1 := by
  unfold btag at *
  split at ht
  · rename_i h1
    rw [if_pos h1, szOf_tag 1 e (by omega)]
    rw [tyOf_tag 1 e (by omega)] at ht
    cases ht; exact ⟨rfl, rfl⟩
  · rw [tyOf_small _ h] at ht; cases ht
theorem tyOf_etag {e t : TypeId} {sz : Nat} (ht : tyOf (etag P e sz) = some t) : t = e := by
  unfold etag at ht
  split at ht
  · rename_i h1; rw [tyOf_tag _ e h1.2] at ht; cases ht; rfl
  · cases ht
theorem Rel.newPtr (h : Rel w0 φ H w) (slk : Nat) (off : Nat) : VR (φ ++ [⟨w.heap.size, 0, slk⟩]) (.ptr H.length off) (.pointer (some ⟨w.heap.size, off, none⟩)) := by
  have : (φ ++ [(⟨w.heap.size, 0, slk⟩ : Loc)])[H.length]? = some ⟨w.heap.size, 0, slk⟩ := by rw [← h.len]; simp
  simpa using VR.ptr (off := off) this

def azero (P : Program) (t : TypeId) : Option (List AV) :=
  match P.info? t with
  | some i => i.zero.map fun z => z.cells.toList.map ofV1
  | none => none
theorem azero_ok {t : TypeId} {vs : List AV} (hz : azero P t = some vs) (φ : List Loc) : ∃ i z, P.info? t = some i ∧ i.zero = some z ∧ VRs φ vs z.cells.toList := by
  unfold azero at hz
  split at hz
  · rename_i i hi
    cases hzz : i.zero with
    | none => simp [hzz] at hz
    | some z =>
      simp [hzz] at hz; subst hz
      refine ⟨i, z, hi, hzz, ?_⟩
      have := VRs.map_of (φ := φ) z.cells.toList ofV1 id (fun x _ => ofV1_ok φ x)
      simpa using this
  · cases hz
end
end Go.Ve
