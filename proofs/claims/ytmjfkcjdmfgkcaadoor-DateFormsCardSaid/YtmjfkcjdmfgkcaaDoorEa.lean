/- A small evaluator over abstract values and an abstract heap, and how it stands to the model: values, blocks, the relation between an abstract and a concrete world. -/
import Derived.WalkKit
import Derived.Deep.Draws
import Derived.Deep.Quiet
import Derived.KernelRfl
import Derived.Laws.IdiomCopy
import Derived.Laws.Append
import Derived.Laws.BytesString
namespace Go.Ve
open Go Go.RowKit

/-- Where an abstract block lies: its block, the shift of its cells, its spare elements. -/
structure Loc where
  blk : Nat
  sh : Nat
  slk : Nat

inductive AV where
  | bad
  | bool (b : Bool)
  | int (k : IntKind) (n : Int)
  | float (k : FloatKind) (bits : Nat)
  | nan (k : FloatKind)
  | str (s : List UInt8)
  | nilptr
  | ptr (b off : Nat)
  | gptr (g off : Nat)
  | nilsl
  | sl (b off len cap : Nat) (ex : Bool)
  | sle (b off adv : Nat)
  | slz
  | nilmap
  | map (b : Nat)
  | yld (b : Nat)
  | opq
  | fn (f : Fn) (first cap : List AV)
  | nilfn
  | iface (t : TypeId) (v : AV)
  | niliface
  | agg (cs : List AV)
  | tuple (vs : List AV)

mutual
inductive VR (φ : List Loc) : AV → Value → Prop
  | bad (v : Value) : VR φ .bad v
  | bool (b : Bool) : VR φ (.bool b) (.bool b)
  | int (k : IntKind) (n : Int) : VR φ (.int k n) (.int k n)
  | float (k : FloatKind) (n : Nat) : VR φ (.float k n) (.float k n)
  | nan {k : FloatKind} {n : Nat} (h : (k.format.read n).isNaN = true) : VR φ (.nan k) (.float k n)
  | str (s : List UInt8) : VR φ (.str s) (.string ⟨⟨s⟩⟩)
  | nilptr : VR φ .nilptr (.pointer none)
  | ptr {b off : Nat} {l : Loc} (h : φ[b]? = some l) : VR φ (.ptr b off) (.pointer (some ⟨l.blk, l.sh + off, none⟩))
  | gptr (g off : Nat) : VR φ (.gptr g off) (.pointer (some ⟨g, off, none⟩))
  | nilsl : VR φ .nilsl (.slice none 0 0)
  | sl {b off len cap : Nat} {ex : Bool} {l : Loc} (h : φ[b]? = some l) :
      VR φ (.sl b off len cap ex) (.slice (some ⟨l.blk, l.sh + off, none⟩) len (cap + if ex then 0 else l.slk))
  | sle {b off adv : Nat} {l : Loc} (h : φ[b]? = some l) :
      VR φ (.sle b off adv) (.slice (some ⟨l.blk, l.sh + off + (if l.slk = 0 then 0 else adv), none⟩) 0 l.slk)
  | slz (a : Addr) : VR φ .slz (.slice (some a) 0 0)
  | nilmap : VR φ .nilmap (.map none)
  | map {b : Nat} {l : Loc} (h : φ[b]? = some l) : VR φ (.map b) (.map (some l.blk))
  | yld {b : Nat} {l : Loc} (h : φ[b]? = some l) : VR φ (.yld b) (.func (.yield l.blk) #[] #[])
  | opq {u : Value} (h : u.oneCell' = true) : VR φ .opq u
  | fn (f : Fn) {xs cs : List AV} {us ds : Array Value} (hx : VRs φ xs us.toList) (hc : VRs φ cs ds.toList) : VR φ (.fn f xs cs) (.func f us ds)
  | nilfn : VR φ .nilfn .nilFunc
  | iface (t : TypeId) {v : AV} {u : Value} (h : VR φ v u) : VR φ (.iface t v) (.iface t u)
  | niliface : VR φ .niliface .nilIface
  | agg {cs : List AV} {us : Array Value} (h : VRs φ cs us.toList) : VR φ (.agg cs) (.agg us)
  | tuple {cs : List AV} {us : Array Value} (h : VRs φ cs us.toList) : VR φ (.tuple cs) (.tuple us)
inductive VRs (φ : List Loc) : List AV → List Value → Prop
  | nil : VRs φ [] []
  | cons {v : AV} {u : Value} {vs : List AV} {us : List Value} (h : VR φ v u) (hs : VRs φ vs us) : VRs φ (v :: vs) (u :: us)
end

/-- One cell's value. -/
def AV.one : AV → Bool
  | .bad | .agg _ | .tuple _ => false
  | _ => true

theorem VR.one_cell {φ : List Loc} {v : AV} {u : Value} (h : VR φ v u) (h1 : v.one = true) : u.oneCell' = true := by
  cases h <;> first | rfl | assumption | (simp [AV.one] at h1)

def AV.cells : AV → List AV
  | .agg cs => cs
  | v => [v]

theorem cells_one {u : Value} (h : u.oneCell' = true) : u.cells.toList = [u] := by
  cases u <;> first | rfl | (simp [Value.oneCell'] at h)
theorem VR.cells {φ : List Loc} {v : AV} {u : Value} (h : VR φ v u) (hb : v ≠ .bad) : VRs φ v.cells u.cells.toList := by
  cases h with
  | opq h => rw [cells_one h]; exact .cons (.opq h) .nil
  | agg h => exact h
  | bad v => exact absurd rfl hb
  | tuple h => exact .cons (.tuple h) .nil
  | _ => exact .cons (by constructor <;> assumption) .nil

/-- 'φ'' goes on from 'φ'. -/
def Ext (φ φ' : List Loc) : Prop := ∃ t, φ' = φ ++ t
theorem Ext.refl (φ : List Loc) : Ext φ φ := ⟨[], by simp⟩
theorem Ext.trans {a b c : List Loc} (h : Ext a b) (k : Ext b c) : Ext a c := by
  obtain ⟨t, rfl⟩ := h
  obtain ⟨s, rfl⟩ := k
  exact ⟨t ++ s, by simp⟩
theorem Ext.get {φ φ' : List Loc} (h : Ext φ φ') {b : Nat} {l : Loc} (hb : φ[b]? = some l) : φ'[b]? = some l := by
  obtain ⟨t, rfl⟩ := h
  have := (List.getElem?_eq_some_iff.1 hb).1
  rw [List.getElem?_append_left this]; exact hb
theorem Ext.snoc (φ : List Loc) (l : Loc) : Ext φ (φ ++ [l]) := ⟨[l], rfl⟩

mutual
theorem VR.mono {φ φ' : List Loc} (hx : Ext φ φ') : ∀ {v : AV} {u : Value}, VR φ v u → VR φ' v u
  | _, _, .bad v => .bad v
  | _, _, .bool b => .bool b
  | _, _, .int k n => .int k n
  | _, _, .float k n => .float k n
  | _, _, .nan h => .nan h
  | _, _, .str s => .str s
  | _, _, .nilptr => .nilptr
  | _, _, .ptr h => .ptr (hx.get h)
  | _, _, .gptr g o => .gptr g o
  | _, _, .nilsl => .nilsl
  | _, _, .sl h => .sl (hx.get h)
  | _, _, .sle h => .sle (hx.get h)
  | _, _, .slz a => .slz a
  | _, _, .nilmap => .nilmap
  | _, _, .map h => .map (hx.get h)
  | _, _, .yld h => .yld (hx.get h)
  | _, _, .opq h => .opq h
  | _, _, .fn f h1 h2 => .fn f (VRs.mono hx h1) (VRs.mono hx h2)
  | _, _, .nilfn => .nilfn
  | _, _, .iface t h => .iface t (VR.mono hx h)
  | _, _, .niliface => .niliface
  | _, _, .agg h => .agg (VRs.mono hx h)
  | _, _, .tuple h => .tuple (VRs.mono hx h)
theorem VRs.mono {φ φ' : List Loc} (hx : Ext φ φ') : ∀ {v : List AV} {u : List Value}, VRs φ v u → VRs φ' v u
  | _, _, .nil => .nil
  | _, _, .cons h hs => .cons (VR.mono hx h) (VRs.mono hx hs)
end

section
variable {φ : List Loc}
theorem VRs.length : ∀ {vs : List AV} {us : List Value}, VRs φ vs us → vs.length = us.length
  | _, _, .nil => rfl
  | _, _, .cons _ hs => by simp [VRs.length hs]
theorem VRs.get : ∀ {vs : List AV} {us : List Value}, VRs φ vs us → ∀ {j : Nat} {v : AV}, vs[j]? = some v → ∃ u, us[j]? = some u ∧ VR φ v u
  | _, _, .nil, j, v, h => by simp at h
  | _, _, .cons h hs, 0, v, hv => by simp at hv; subst hv; exact ⟨_, rfl, h⟩
  | _, _, .cons h hs, j + 1, v, hv => by simpa using hs.get (j := j) (by simpa using hv)
theorem VRs.of_get {vs : List AV} : ∀ {us : List Value}, vs.length = us.length → (∀ (j : Nat) (v : AV) (u : Value), vs[j]? = some v → us[j]? = some u → VR φ v u) → VRs φ vs us := by
  induction vs with
  | nil => intro us h _; cases us with
    | nil => exact .nil
    | cons _ _ => simp at h
  | cons v vs ih => intro us h hg; cases us with
    | nil => simp at h
    | cons u us => exact .cons (hg 0 v u rfl rfl) (ih (by simpa using h) fun j a b ha hb => hg (j + 1) a b (by simpa using ha) (by simpa using hb))
theorem VRs.append {as bs : List AV} {us ds : List Value} (h : VRs φ as us) (k : VRs φ bs ds) : VRs φ (as ++ bs) (us ++ ds) := by
  induction as generalizing us with
  | nil => cases h; exact k
  | cons a as ih => cases h with | cons h1 h2 => exact .cons h1 (ih h2)
theorem VRs.take {as : List AV} {us : List Value} (h : VRs φ as us) (n : Nat) : VRs φ (as.take n) (us.take n) := by
  induction n generalizing as us with
  | zero => simp; exact .nil
  | succ n ih => cases h with | nil => simp; exact .nil | cons h1 h2 => exact .cons h1 (ih h2)
theorem VRs.drop {as : List AV} {us : List Value} (h : VRs φ as us) (n : Nat) : VRs φ (as.drop n) (us.drop n) := by
  induction n generalizing as us with
  | zero => exact h
  | succ n ih => cases h with | nil => exact .nil | cons h1 h2 => exact ih h2
theorem VRs.set {as : List AV} {us : List Value} (h : VRs φ as us) (n : Nat) {v : AV} {u : Value} (hv : VR φ v u) : VRs φ (as.set n v) (us.set n u) := by
  induction n generalizing as us with
  | zero => cases h with | nil => exact .nil | cons h1 h2 => exact .cons hv h2
  | succ n ih => cases h with | nil => exact .nil | cons h1 h2 => exact .cons h1 (ih h2)
theorem VRs.replicate (n : Nat) {v : AV} {u : Value} (hv : VR φ v u) : VRs φ (List.replicate n v) (List.replicate n u) := by
  induction n with
  | zero => exact .nil
  | succ n ih => exact .cons hv ih
theorem VRs.getD {as : List AV} {us : List Value} (h : VRs φ as us) (n : Nat) {v : AV} {u : Value} (hv : VR φ v u) : VR φ (as.getD n v) (us.getD n u) := by
  induction n generalizing as us with
  | zero => cases h with | nil => exact hv | cons h1 h2 => exact h1
  | succ n ih => cases h with | nil => exact hv | cons h1 h2 => simpa using ih h2
theorem VRs.map_of {α : Type} (l : List α) (f : α → AV) (g : α → Value) (h : ∀ x ∈ l, VR φ (f x) (g x)) : VRs φ (l.map f) (l.map g) := by
  induction l with
  | nil => exact .nil
  | cons a l ih => exact .cons (h a (by simp)) (ih fun x hx => h x (by simp [hx]))
end

/-- A constant of the text, as an abstract value. -/
def ofV1 : Value → AV
  | .bool b => .bool b
  | .int k n => .int k n
  | .float k n => .float k n
  | .string s => .str s.data.toList
  | .pointer none => .nilptr
  | .slice none l c => if l = 0 ∧ c = 0 then .nilsl else .bad
  | .map none => .nilmap
  | .nilFunc => .nilfn
  | .nilIface => .niliface
  | .func f ⟨[]⟩ ⟨[]⟩ => .fn f [] []
  | _ => .bad
def ofV : Value → AV
  | .agg cs => .agg (cs.toList.map ofV1)
  | .tuple cs => .tuple (cs.toList.map ofV1)
  | v => ofV1 v

theorem ofV1_ok (φ : List Loc) (v : Value) : VR φ (ofV1 v) v := by
  cases v with
  | bool b => exact .bool b
  | int k n => exact .int k n
  | float k n => exact .float k n
  | string s => exact .str _
  | pointer a => cases a with
    | none => exact .nilptr
    | some a => exact .bad _
  | slice a l c => cases a with
    | none =>
      unfold ofV1
      by_cases h : l = 0 ∧ c = 0
      · obtain ⟨rfl, rfl⟩ := h; exact .nilsl
      · simp only [if_neg h]; exact .bad _
    | some a => exact .bad _
  | map r => cases r with
    | none => exact .nilmap
    | some r => exact .bad _
  | nilFunc => exact .nilfn
  | nilIface => exact .niliface
  | func f a b =>
    obtain ⟨a⟩ := a
    obtain ⟨b⟩ := b
    cases a <;> cases b <;> first | exact .fn _ .nil .nil | exact .bad _
  | _ => exact .bad _
theorem ofV_ok (φ : List Loc) (v : Value) : VR φ (ofV v) v := by
  unfold ofV
  split
  · rename_i cs
    refine .agg ?_
    have := VRs.map_of (φ := φ) cs.toList ofV1 id (fun x _ => ofV1_ok φ x)
    simpa using this
  · rename_i cs
    refine .tuple ?_
    have := VRs.map_of (φ := φ) cs.toList ofV1 id (fun x _ => ofV1_ok φ x)
    simpa using this
  · exact ofV1_ok φ v

/-- An abstract block. 'esz': the cells of one element, where spare elements may lie behind; 'ro': not to be written. -/
inductive ABlk where
  | dead
  | cells (vs : List AV) (esz : Nat) (ro : Bool)
  | map (es : List (AV × AV)) (ro : Bool)
  | siter (s : List UInt8) (pos : Nat)
  | defr
  | loop (fr : List AV) (ps : Array Tmp) (assign body : Code) (st : LoopState) (pend : Option Code) (db : Nat)
  | glob (g : Nat) (vs : List AV)
abbrev AH := List ABlk

def ABlk.own : ABlk → Bool
  | .dead => false
  | .cells _ _ ro => !ro
  | .map _ ro => !ro
  | .siter _ _ => true
  | .defr => true
  | .loop .. => true
  | .glob .. => false

/-- The world at the law's start, and which of its blocks are to stay as they are. -/
structure Base where
  w : World
  keep : Nat → Prop
  lt : ∀ j, keep j → j < w.heap.size
structure BelowB (w0 : Base) (w : World) : Prop where
  os : w.os = w0.w.os
  tape : w.tape = w0.w.tape
  output : w.output = w0.w.output
  size : w0.w.heap.size ≤ w.heap.size
  block : ∀ k, w0.keep k → w.heap[k]? = w0.w.heap[k]?
def Base.all (w : World) : Base := ⟨w, fun j => j < w.heap.size, fun _ h => h⟩
theorem BelowB.refl (w : World) : BelowB (Base.all w) w := ⟨rfl, rfl, rfl, Nat.le_refl _, fun _ _ => rfl⟩
theorem BelowB.to {w w' : World} (h : BelowB (Base.all w) w') : Below w.heap.size w w' := ⟨h.os, h.tape, h.output, h.size, h.block⟩
theorem BelowB.fresh {w0 : Base} {w : World} (h : BelowB w0 w) {n : Nat} (hn : w.heap.size ≤ n) : ¬ w0.keep n := fun hk => by
  have := w0.lt n hk
  have := h.size
  omega

def CellsR (φ : List Loc) (w : World) (l : Loc) (vs : List AV) : Prop :=
  ∀ (j : Nat) (v : AV), vs[j]? = some v → ∃ u, VR φ v u ∧ w.cell? ⟨l.blk, l.sh + j, none⟩ = some u
/-- What a block's number tells: the cells of one element, and (beside them) the elements' type, where that is known. -/
def szOf (e : Nat) : Nat := e % 65536
def tyOf (e : Nat) : Option TypeId := if e / 65536 = 0 then none else some (e / 65536 - 1)
def OwnR (w0 : Base) (w : World) (l : Loc) (n : Nat) (esz : Nat) : Prop :=
  ¬ w0.keep l.blk ∧ ∃ c e fz, w.heap[l.blk]? = some (.cells c e fz) ∧ l.sh + n ≤ c.size ∧ (∀ j, j < n → w.frozen? ⟨l.blk, l.sh + j, none⟩ = false) ∧ (∀ t, tyOf esz = some t → e = t ∧ l.sh % szOf esz = 0) ∧ (szOf esz = 0 → fz = (0, 0))
def EntryR (φ : List Loc) : List (AV × AV) → List MapEntry → Prop
  | [], [] => True
  | e :: es, m :: ms => VR φ e.1 m.key ∧ VR φ e.2 m.val ∧ EntryR φ es ms
  | _, _ => False
/-- A map's entries, all of them laid in before the next one will be. -/
structure EntryB (φ : List Loc) (es : List (AV × AV)) (ms : List MapEntry) (c : Nat) : Prop where
  e : EntryR φ es ms
  b : ∀ x ∈ ms, x.born < c

def BR (w0 : Base) (φ : List Loc) (w : World) (l : Loc) : ABlk → Prop
  | .dead => True
  | .cells vs _ true => w0.keep l.blk ∧ l.slk = 0 ∧ CellsR φ w l vs
  | .cells vs esz false => OwnR w0 w l (vs.length + l.slk * szOf esz) esz ∧ CellsR φ w l vs
  | .map es ro => (if ro then w0.keep l.blk else ¬ w0.keep l.blk) ∧ ∃ ms c, w.heap[l.blk]? = some (.map ms c) ∧ EntryB φ es ms.toList c
  | .siter s pos => ¬ w0.keep l.blk ∧ l.sh = 0 ∧ w.heap[l.blk]? = some (.stringIter ⟨⟨s⟩⟩ pos)
  | .defr => ¬ w0.keep l.blk ∧ w.heap[l.blk]? = some (.deferred (some []))
  | .loop fr ps as bd st pd db => ¬ w0.keep l.blk ∧ ∃ tm ld fn, φ[db]? = some ld ∧ VRs φ fr tm.toList ∧ w.heap[l.blk]? = some (.loop { state := st, pending := pd, fn := fn, tmps := tm, params := ps, assign := as, body := bd, defers := ld.blk })
  | .glob g vs => w0.keep l.blk ∧ l.blk = g ∧ (l.sh = 0 ∧ ∀ j, vs.length ≤ j → w.cell? ⟨l.blk, j, none⟩ = none) ∧ CellsR φ w l vs

structure Rel (w0 : Base) (φ : List Loc) (H : AH) (w : World) : Prop where
  len : φ.length = H.length
  below : BelowB w0 w
  blocks : ∀ (b : Nat) (k : ABlk) (l : Loc), H[b]? = some k → φ[b]? = some l → BR w0 φ w l k
  inj : ∀ (b b' : Nat) (k k' : ABlk) (l l' : Loc), H[b]? = some k → H[b']? = some k' → φ[b]? = some l → φ[b']? = some l' → k.own = true → k'.own = true → l.blk = l'.blk → b = b'

theorem EntryR.mono {φ φ' : List Loc} (hx : Ext φ φ') : ∀ {es : List (AV × AV)} {ms : List MapEntry}, EntryR φ es ms → EntryR φ' es ms
  | [], [], _ => trivial
  | _ :: _, _ :: _, h => ⟨h.1.mono hx, h.2.1.mono hx, EntryR.mono hx h.2.2⟩
  | [], _ :: _, h => h.elim
  | _ :: _, [], h => h.elim
theorem EntryB.mono {φ φ' : List Loc} (hx : Ext φ φ') {es : List (AV × AV)} {ms : List MapEntry} {c : Nat} (h : EntryB φ es ms c) : EntryB φ' es ms c := ⟨h.e.mono hx, h.b⟩

theorem BR.mono {w0 : Base} {w : World} {φ φ' : List Loc} {l : Loc} {k : ABlk} (hx : Ext φ φ') (h : BR w0 φ w l k) : BR w0 φ' w l k := by
  have hc : ∀ vs, CellsR φ w l vs → CellsR φ' w l vs := fun vs h j v hv => let ⟨u, h1, h2⟩ := h j v hv; ⟨u, h1.mono hx, h2⟩
  cases k with
  | dead => trivial
  | cells vs esz ro => cases ro with
    | true => exact ⟨h.1, h.2.1, hc _ h.2.2⟩
    | false => exact ⟨h.1, hc _ h.2⟩
  | map es ro => obtain ⟨h1, ms, c, h2, h3⟩ := h; exact ⟨h1, ms, c, h2, h3.mono hx⟩
  | siter s pos => exact h
  | defr => exact h
  | loop fr ps as bd st pd db => obtain ⟨h1, tm, ld, f, h2, h3, h4⟩ := h; exact ⟨h1, tm, ld, f, hx.get h2, h3.mono hx, h4⟩
  | glob g vs => exact ⟨h.1, h.2.1, h.2.2.1, hc _ h.2.2.2⟩

theorem cell_of_heap {w w' : World} {a : Addr} (h : w'.heap[a.block]? = w.heap[a.block]?) : w'.cell? a = w.cell? a := World.cell?_of_block h
theorem frozen_of_heap {w w' : World} {a : Addr} (h : w'.heap[a.block]? = w.heap[a.block]?) : w'.frozen? a = w.frozen? a := World.frozen?_of_block h

/-- The block itself is as it was. -/
theorem BR.keep {w0 : Base} {w w' : World} {φ : List Loc} {l : Loc} {k : ABlk} (hw : w'.heap[l.blk]? = w.heap[l.blk]?) (h : BR w0 φ w l k) : BR w0 φ w' l k := by
  have hc : ∀ vs, CellsR φ w l vs → CellsR φ w' l vs := fun vs h j v hv => let ⟨u, h1, h2⟩ := h j v hv; ⟨u, h1, by rw [cell_of_heap (a := ⟨l.blk, l.sh + j, none⟩) hw]; exact h2⟩
  cases k with
  | dead => trivial
  | cells vs esz ro => cases ro with
    | true => exact ⟨h.1, h.2.1, hc _ h.2.2⟩
    | false =>
      obtain ⟨⟨h1, c, e, fz, h2, h3, h4, h6⟩, h5⟩ := h
      exact ⟨⟨h1, c, e, fz, by rw [hw]; exact h2, h3, fun j hj => by rw [frozen_of_heap (a := ⟨l.blk, l.sh + j, none⟩) hw]; exact h4 j hj, h6⟩, hc _ h5⟩
  | map es ro => obtain ⟨h1, ms, c, h2, h3⟩ := h; exact ⟨h1, ms, c, by rw [hw]; exact h2, h3⟩
  | siter s pos => exact ⟨h.1, h.2.1, by rw [hw]; exact h.2.2⟩
  | defr => exact ⟨h.1, by rw [hw]; exact h.2⟩
  | loop fr ps as bd st pd db => obtain ⟨h1, tm, ld, f, h2, h3, h4⟩ := h; exact ⟨h1, tm, ld, f, h2, h3, by rw [hw]; exact h4⟩
  | glob g vs => exact ⟨h.1, h.2.1, ⟨h.2.2.1.1, fun j hj => (cell_of_heap (a := ⟨l.blk, j, none⟩) hw).trans (h.2.2.1.2 j hj)⟩, hc _ h.2.2.2⟩

/-- A live block lies in the heap. -/
theorem BR.lt {w0 : Base} {w : World} {φ : List Loc} {l : Loc} {k : ABlk} (h : BR w0 φ w l k) (hs : w0.w.heap.size ≤ w.heap.size) (hk : k ≠ .dead) : l.blk < w.heap.size := by
  have hsome : ∀ o, w.heap[l.blk]? = some o → l.blk < w.heap.size := fun o ho => (Array.getElem?_eq_some_iff.1 ho).1
  cases k with
  | dead => exact absurd rfl hk
  | cells vs esz ro => cases ro with
    | true => exact Nat.lt_of_lt_of_le (w0.lt _ h.1) hs
    | false => obtain ⟨⟨_, c, e, fz, h2, _⟩, _⟩ := h; exact hsome _ h2
  | map es ro => obtain ⟨h1, ms, c, h2, h3⟩ := h; exact hsome _ h2
  | siter s pos => exact hsome _ h.2.2
  | defr => exact hsome _ h.2
  | loop fr ps as bd st pd db => obtain ⟨h1, tm, ld, f, h2, h3, h4⟩ := h; exact hsome _ h4
  | glob g vs => exact Nat.lt_of_lt_of_le (w0.lt _ h.1) hs

theorem BR.own_ge {w0 : Base} {w : World} {φ : List Loc} {l : Loc} {k : ABlk} (h : BR w0 φ w l k) (hk : k.own = true) : ¬ w0.keep l.blk := by
  cases k with
  | dead => simp [ABlk.own] at hk
  | cells vs esz ro => cases ro with
    | true => simp [ABlk.own] at hk
    | false => exact h.1.1
  | map es ro => cases ro with
    | true => simp [ABlk.own] at hk
    | false => simpa using h.1
  | siter s pos => exact h.1
  | defr => exact h.1
  | loop fr ps as bd st pd db => exact h.1
  | glob g vs => simp [ABlk.own] at hk

theorem BR.ro_lt {w0 : Base} {w : World} {φ : List Loc} {l : Loc} {k : ABlk} (h : BR w0 φ w l k) (hk : k.own = false) (hd : k ≠ .dead) : w0.keep l.blk := by
  cases k with
  | dead => exact absurd rfl hd
  | cells vs esz ro => cases ro with
    | true => exact h.1
    | false => simp [ABlk.own] at hk
  | map es ro => cases ro with
    | true => simpa using h.1
    | false => simp [ABlk.own] at hk
  | siter s pos => simp [ABlk.own] at hk
  | defr => simp [ABlk.own] at hk
  | loop fr ps as bd st pd db => simp [ABlk.own] at hk
  | glob g vs => exact h.1

theorem Rel.loc {w0 : Base} {w : World} {φ : List Loc} {H : AH} (h : Rel w0 φ H w) {b : Nat} {k : ABlk} (hb : H[b]? = some k) : ∃ l, φ[b]? = some l := by
  have := (List.getElem?_eq_some_iff.1 hb).1
  exact ⟨φ[b]'(by rw [h.len]; exact this), List.getElem?_eq_getElem _⟩

theorem Rel.empty (w : World) : Rel (Base.all w) [] [] w :=
  ⟨rfl, BelowB.refl _, fun b k l h => by simp at h, fun b b' k k' l l' h => by simp at h⟩

/-- The world is another, and all its blocks are as they were. -/
theorem Rel.same {w0 : Base} {w w' : World} {φ : List Loc} {H : AH} (h : Rel w0 φ H w) (hh : w'.heap = w.heap) (h1 : w'.os = w.os) (h2 : w'.tape = w.tape) (h3 : w'.output = w.output) : Rel w0 φ H w' :=
  ⟨h.len, ⟨h1.trans h.below.os, h2.trans h.below.tape, h3.trans h.below.output, by rw [hh]; exact h.below.size, fun k hk => by rw [hh]; exact h.below.block k hk⟩,
   fun b k l hb hl => (h.blocks b k l hb hl).keep (by rw [hh]), h.inj⟩
theorem Rel.drew {w0 : Base} {w : World} {φ : List Loc} {H : AH} (h : Rel w0 φ H w) : Rel w0 φ H { w with drawn := w.drawn + 1 } := h.same rfl rfl rfl rfl

/-- A new block. -/
theorem Rel.alloc {w0 : Base} {w : World} {φ : List Loc} {H : AH} (h : Rel w0 φ H w) (o : Obj) {l : Loc} {k : ABlk} (hl : l.blk = w.heap.size) (hk : BR w0 (φ ++ [l]) { w with heap := w.heap.push o } l k) :
    Rel w0 (φ ++ [l]) (H ++ [k]) { w with heap := w.heap.push o } := by
  have old : ∀ j, j < w.heap.size → (w.heap.push o)[j]? = w.heap[j]? := fun j hj => by
    rw [Array.getElem?_push]; simp [Nat.ne_of_lt hj]
  have hold : ∀ (b : Nat) (k' : ABlk) (l' : Loc), H[b]? = some k' → φ[b]? = some l' → BR w0 (φ ++ [l]) { w with heap := w.heap.push o } l' k' := fun b k' l' hb hl' => by
    by_cases hd : k' = .dead
    · subst hd; trivial
    · have hlt := (h.blocks b k' l' hb hl').lt h.below.size hd
      exact ((h.blocks b k' l' hb hl').keep (w' := { w with heap := w.heap.push o }) (old _ hlt)).mono (Ext.snoc φ l)
  have split : ∀ (b : Nat) (k' : ABlk) (l' : Loc), (H ++ [k])[b]? = some k' → (φ ++ [l])[b]? = some l' → (H[b]? = some k' ∧ φ[b]? = some l') ∨ (b = H.length ∧ k' = k ∧ l' = l) := fun b k' l' hb hl' => by
    rcases Nat.lt_trichotomy b H.length with hlt | heq | hgt
    · left
      rw [List.getElem?_append_left hlt] at hb
      rw [List.getElem?_append_left (by rw [h.len]; exact hlt)] at hl'
      exact ⟨hb, hl'⟩
    · right
      subst heq
      rw [List.getElem?_append_right (by omega)] at hb
      rw [List.getElem?_append_right (by rw [h.len]; omega), h.len] at hl'
      simp at hb hl'
      exact ⟨rfl, hb.symm, hl'.symm⟩
    · rw [List.getElem?_eq_none (by simp; omega)] at hb; simp at hb
  refine ⟨by simp [h.len], ⟨h.below.os, h.below.tape, h.below.output, by simp; have := h.below.size; omega, fun j hj => ?_⟩, ?_, ?_⟩
  · rw [old j (by have := h.below.size; have := w0.lt j hj; omega)]; exact h.below.block j hj
  · intro b k' l' hb hl'
    rcases split b k' l' hb hl' with ⟨h1, h2⟩ | ⟨_, rfl, rfl⟩
    · exact hold b k' l' h1 h2
    · exact hk
  · intro b b' k1 k2 l1 l2 hb hb' hl1 hl2 o1 o2 he
    have nd : ∀ k : ABlk, k.own = true → k ≠ .dead := fun k h hd => by subst hd; simp [ABlk.own] at h
    rcases split b k1 l1 hb hl1 with ⟨h1, h2⟩ | ⟨e1, rfl, rfl⟩ <;> rcases split b' k2 l2 hb' hl2 with ⟨h3, h4⟩ | ⟨e2, rfl, rfl⟩
    · exact h.inj b b' k1 k2 l1 l2 h1 h3 h2 h4 o1 o2 he
    · have := (h.blocks b k1 l1 h1 h2).lt h.below.size (nd _ o1); omega
    · have := (h.blocks b' k2 l2 h3 h4).lt h.below.size (nd _ o2); omega
    · omega

/-- One own block has changed. -/
theorem Rel.upd {w0 : Base} {w w' : World} {φ : List Loc} {H : AH} (h : Rel w0 φ H w) {b : Nat} {k k' : ABlk} {l : Loc} (hb : H[b]? = some k) (ho : k.own = true) (hl : φ[b]? = some l)
    (h1 : w'.os = w.os) (h2 : w'.tape = w.tape) (h3 : w'.output = w.output) (hs : w.heap.size ≤ w'.heap.size) (hw : ∀ j, j ≠ l.blk → j < w.heap.size → w'.heap[j]? = w.heap[j]?)
    (hk : BR w0 φ w' l k') : Rel w0 φ (H.set b k') w' := by
  have hge := (h.blocks b k l hb hl).own_ge ho
  have hblen : b < H.length := (List.getElem?_eq_some_iff.1 hb).1
  refine ⟨by simp [h.len], ⟨h1.trans h.below.os, h2.trans h.below.tape, h3.trans h.below.output, Nat.le_trans h.below.size hs, fun j hj => ?_⟩, ?_, ?_⟩
  · rw [hw j (fun e => hge (e ▸ hj)) (by have := h.below.size; have := w0.lt j hj; omega)]; exact h.below.block j hj
  · intro b' k2 l2 hb' hl2
    by_cases e : b' = b
    · subst e
      rw [List.getElem?_set_self hblen] at hb'
      simp at hb'
      rw [hl] at hl2; simp at hl2
      subst hb'; subst hl2; exact hk
    · rw [List.getElem?_set_ne (Ne.symm e)] at hb'
      by_cases hd : k2 = .dead
      · subst hd; trivial
      · have hbr := h.blocks b' k2 l2 hb' hl2
        refine hbr.keep (hw _ ?_ (hbr.lt h.below.size hd))
        intro he
        cases ho2 : k2.own with
        | true => exact e (h.inj b' b k2 k l2 l hb' hb hl2 hl ho2 ho he)
        | false => exact hge (he ▸ hbr.ro_lt ho2 hd)
  · intro b1 b2 k1 k2 l1 l2 hb1 hb2 hl1 hl2 o1 o2 he
    have aux : ∀ (b1 : Nat) (k1 : ABlk), (H.set b k')[b1]? = some k1 → k1.own = true → ∃ k0, H[b1]? = some k0 ∧ k0.own = true := fun b1 k1 hb1 o1 => by
      by_cases e : b1 = b
      · subst e; exact ⟨k, hb, ho⟩
      · rw [List.getElem?_set_ne (Ne.symm e)] at hb1; exact ⟨k1, hb1, o1⟩
    obtain ⟨q1, hq1, p1⟩ := aux b1 k1 hb1 o1
    obtain ⟨q2, hq2, p2⟩ := aux b2 k2 hb2 o2
    exact h.inj b1 b2 q1 q2 l1 l2 hq1 hq2 hl1 hl2 p1 p2 he

/-- One cell of an own block is written. -/
theorem Rel.set {w0 : Base} {w : World} {φ : List Loc} {H : AH} (h : Rel w0 φ H w) {b : Nat} {vs : List AV} {esz : Nat} {l : Loc} (hb : H[b]? = some (.cells vs esz false)) (hl : φ[b]? = some l)
    {off : Nat} (ho : off < vs.length) {v : AV} {u : Value} (hv : VR φ v u) :
    Rel w0 φ (H.set b (.cells (vs.set off v) esz false)) (w.setCell ⟨l.blk, l.sh + off, none⟩ u) ∧
    (∃ old, w.cell? ⟨l.blk, l.sh + off, none⟩ = some old) ∧ w.frozen? ⟨l.blk, l.sh + off, none⟩ = false := by
  obtain ⟨⟨h1, c, e, fz, h2, h3, h4, h6⟩, h5⟩ := h.blocks b _ l hb hl
  obtain ⟨u0, _, hu0⟩ := h5 off vs[off] (List.getElem?_eq_getElem ho)
  refine ⟨?_, ⟨u0, hu0⟩, h4 off (by omega)⟩
  refine h.upd (k := .cells vs esz false) hb rfl hl rfl rfl rfl (by simp) ?_ ?_
  · intro j hj _
    simp only [World.setCell, Array.getElem?_modify]
    rw [if_neg (Ne.symm hj)]
  · refine ⟨⟨h1, c.setIfInBounds (l.sh + off) u, e, fz, ?_, by simp; omega, fun j hj => ?_, h6⟩, ?_⟩
    · simp only [World.setCell, Array.getElem?_modify, if_true, h2, Option.map_some]
      simp
    · rw [World.frozen?_setCell]; exact h4 j (by simp at hj; exact hj)
    · intro j v' hv'
      by_cases e : j = off
      · subst e
        rw [List.getElem?_set_self ho] at hv'
        simp at hv'; subst hv'
        exact ⟨u, hv, World.cell?_setCell_same w _ _ hu0⟩
      · rw [List.getElem?_set_ne (Ne.symm e)] at hv'
        obtain ⟨u', h6, h7⟩ := h5 j v' hv'
        refine ⟨u', h6, ?_⟩
        rw [World.cell?_setCell_other]
        · exact h7
        · intro he; injection he with _ he _; omega
end Go.Ve

namespace Go.Ve
open Go Go.RowKit

section
variable {P : Program} {w0 : Base} {w : World} {φ : List Loc} {H : AH}

/-! ### What touches no memory -/
def pureRun {α : Type} (P : Program) : Sem α → Option α
  | .pure a => some a
  | .program k => pureRun P (k P)
  | .mark _ k => pureRun P k
  | _ => none
theorem pureRun_ok {α : Type} (w : World) {s : Sem α} {a : α} (h : pureRun P s = some a) : s.run P w = .ok a w := by
  induction s with
  | pure b => simp [pureRun] at h; subst h; rfl
  | program k ih => simp only [pureRun] at h; exact ih P h
  | mark m k ih => simp only [pureRun] at h; exact ih h
  | _ => simp [pureRun] at h

def AV.sc : AV → Option Value
  | .bool b => some (.bool b)
  | .int k n => some (.int k n)
  | .float k n => some (.float k n)
  | _ => none
theorem sc_ok {v : AV} {u u' : Value} (h : v.sc = some u) (hv : VR φ v u') : u' = u := by
  cases hv <;> simp [AV.sc] at h <;> exact h

/-! ### The frame -/
def aeval (fr : List AV) : Operand → AV
  | .tmp t => fr.getD t (.tuple [])
  | .const v => ofV v
  | .global g => .gptr g 0
  | .func f => .fn (.func f) [] []
theorem array_getD_toList (a : Array Value) (t : Nat) (d : Value) : a.getD t d = a.toList.getD t d := by
  simp [Array.getD_eq_getD_getElem?, List.getD_eq_getElem?_getD]
theorem aeval_ok {fr : List AV} {a : Act} (h : VRs φ fr a.tmps.toList) (x : Operand) : VR φ (aeval fr x) (a.eval x) := by
  cases x with
  | tmp t =>
    show VR φ (fr.getD t (.tuple [])) (a.tmps.getD t undef)
    rw [array_getD_toList]
    exact h.getD t (.tuple .nil)
  | const v => exact ofV_ok φ v
  | global g => exact .gptr g 0
  | func f => exact .fn _ .nil .nil
def aput (fr : List AV) (d : Option Tmp) (v : AV) : List AV :=
  match d with
  | some d => fr.set d v
  | none => fr
theorem aput_ok {fr : List AV} {a : Act} (h : VRs φ fr a.tmps.toList) (d : Option Tmp) {v : AV} {u : Value} (hv : VR φ v u) : VRs φ (aput fr d v) (a.put d u).tmps.toList := by
  cases d with
  | none => exact h
  | some d => simpa [aput, Act.put] using h.set d hv

/-! ### Cells -/
theorem add_mk (b o n : Nat) : (⟨b, o, none⟩ : Addr).add n = ⟨b, o + n, none⟩ := by
  unfold Addr.add
  split
  · rename_i h; subst h; rfl
  · rfl
theorem CellsR.get {l : Loc} {vs : List AV} (h : CellsR φ w l vs) (off : Nat) : ∀ n, off + n ≤ vs.length → ∃ us : List Value, us.length = n ∧ VRs φ ((vs.drop off).take n) us ∧ ∀ j u, us[j]? = some u → w.cell? ⟨l.blk, l.sh + off + j, none⟩ = some u := by
  intro n
  induction n generalizing off with
  | zero => intro _; exact ⟨[], rfl, by simpa using .nil, by simp⟩
  | succ n ih =>
    intro hn
    have hlt : off < vs.length := by omega
    obtain ⟨u, hu, hc⟩ := h off vs[off] (List.getElem?_eq_getElem hlt)
    obtain ⟨us, h1, h2, h3⟩ := ih (off + 1) (by omega)
    refine ⟨u :: us, by simp [h1], ?_, ?_⟩
    · rw [List.drop_eq_getElem_cons hlt]
      exact .cons hu h2
    · intro j x hx
      cases j with
      | zero => simp at hx; subst hx; exact hc
      | succ j =>
        have := h3 j x (by simpa using hx)
        rw [show l.sh + off + (j + 1) = l.sh + (off + 1) + j by omega]; exact this
theorem BR.cellsR {l : Loc} {vs : List AV} {esz : Nat} {ro : Bool} (h : BR w0 φ w l (.cells vs esz ro)) : CellsR φ w l vs := by
  cases ro with
  | true => exact h.2.2
  | false => exact h.2

def cellsOf? (H : AH) (b : Nat) : Option (List AV) :=
  match H[b]? with
  | some (.cells vs _ _) => some vs
  | _ => none
theorem Rel.cellsR (h : Rel w0 φ H w) {b : Nat} {vs : List AV} (hb : cellsOf? H b = some vs) {l : Loc} (hl : φ[b]? = some l) : CellsR φ w l vs := by
  unfold cellsOf? at hb
  split at hb
  · rename_i vs' e r hk
    simp at hb; subst hb
    exact (h.blocks b _ l hk hl).cellsR
  · cases hb
theorem Rel.cellsLoc (h : Rel w0 φ H w) {b : Nat} {vs : List AV} (hb : cellsOf? H b = some vs) : ∃ l, φ[b]? = some l := by
  unfold cellsOf? at hb
  split at hb
  · rename_i vs' e r hk; exact h.loc hk
  · cases hb

def isAggP (P : Program) (t : TypeId) : Option Bool :=
  match P.underlying t with
  | some (.struct _) | some (.array _ _) => some true
  | some _ => some false
  | none => none
theorem isAgg_ok {t : TypeId} {b : Bool} (h : isAggP P t = some b) : (isAgg t).run P w = .ok b w := by
  unfold isAggP at h
  unfold isAgg underlying
  split at h <;> simp_all

/-- Reading a variable of type t. -/
def aloadAt (P : Program) (t : TypeId) (vs : List AV) (off : Nat) : Option AV :=
  match isAggP P t with
  | some true =>
    match P.info? t with
    | some i => if off + i.size ≤ vs.length then some (.agg ((vs.drop off).take i.size)) else none
    | none => none
  | some false => vs[off]?
  | none => none
theorem aloadAt_ok {t : TypeId} {vs : List AV} {off : Nat} {v : AV} {l : Loc} (hv : aloadAt P t vs off = some v) (hc : CellsR φ w l vs) :
    ∃ u, VR φ v u ∧ (loadVar t ⟨l.blk, l.sh + off, none⟩).run P w = .ok u w := by
  unfold aloadAt at hv
  split at hv
  · rename_i hg
    split at hv
    · rename_i i hi
      split at hv
      · rename_i hle
        simp at hv; subst hv
        obtain ⟨us, h1, h2, h3⟩ := hc.get off i.size hle
        refine ⟨.agg us.toArray, .agg (by simpa using h2), ?_⟩
        have hl := run_loadCells_list (P := P) w ⟨l.blk, l.sh + off, none⟩ us (fun j u hu => by rw [add_mk]; exact h3 j u hu)
        rw [h1] at hl
        simp [loadVar, isAgg_ok hg, sizeOf, typeInfo, hi, hl]
      · cases hv
    · cases hv
  · rename_i hg
    obtain ⟨u, h1, h2⟩ := hc off v hv
    exact ⟨u, h1, by simp [loadVar, isAgg_ok hg, h2]⟩
  · cases hv
/-- The cells of a package's variable. -/
def globOf? (g : Nat) : AH → Option (List AV)
  | [] => none
  | .glob g' vs :: r => if g' = g then some vs else globOf? g r
  | _ :: r => globOf? g r
theorem globOf?_ok {g : Nat} {vs : List AV} : ∀ {H : AH}, globOf? g H = some vs → ∃ b : Nat, H[b]? = some (ABlk.glob g vs) := by
  intro H
  induction H with
  | nil => intro h; cases h
  | cons k r ih =>
    intro h
    have rest : globOf? g r = some vs → ∃ b : Nat, (k :: r)[b]? = some (ABlk.glob g vs) := fun h => by
      obtain ⟨b, hb⟩ := ih h
      exact ⟨b + 1, by simpa using hb⟩
    cases k with
    | glob g' vs' =>
      simp only [globOf?] at h
      split at h
      · rename_i e
        cases h
        exact ⟨0, by rw [e]; rfl⟩
      · exact rest h
    | _ => exact rest h
def aload (P : Program) (t : TypeId) (H : AH) : AV → Option AV
  | .ptr b off =>
    match cellsOf? H b with
    | some vs => aloadAt P t vs off
    | none => none
  | .gptr g off =>
    match globOf? g H with
    | some vs => aloadAt P t vs off
    | none => none
  | _ => none
theorem aload_ok (h : Rel w0 φ H w) {t : TypeId} {p v : AV} {pu : Value} (hp : VR φ p pu) (hv : aload P t H p = some v) :
    ∃ a u, pu = .pointer (some a) ∧ VR φ v u ∧ (loadVar t a).run P w = .ok u w := by
  unfold aload at hv
  split at hv
  · rename_i b off
    split at hv
    · rename_i vs hb
      cases hp with
      | ptr hl =>
        obtain ⟨u, h1, h2⟩ := aloadAt_ok (P := P) hv (h.cellsR hb hl)
        exact ⟨_, u, rfl, h1, h2⟩
    · cases hv
  · rename_i g off
    split at hv
    · rename_i vs hb
      cases hp with
      | gptr =>
        obtain ⟨b, hb'⟩ := globOf?_ok hb
        obtain ⟨l, hl⟩ := h.loc hb'
        obtain ⟨_, e1, ⟨e2, _⟩, hc⟩ := h.blocks b _ l hb' hl
        obtain ⟨u, h1, h2⟩ := aloadAt_ok (P := P) (off := off) hv hc
        rw [e1, e2, Nat.zero_add] at h2
        exact ⟨_, u, rfl, h1, h2⟩
    · cases hv
  · cases hv

/-- Writing cells, one by one. -/
def setMany : List AV → Nat → List AV → List AV
  | vs, _, [] => vs
  | vs, off, c :: cs => setMany (vs.set off c) (off + 1) cs
theorem setMany_length : ∀ (cs vs : List AV) (off : Nat), (setMany vs off cs).length = vs.length
  | [], _, _ => rfl
  | c :: cs, vs, off => by simp [setMany, setMany_length cs]
/-- The same, at once. -/
def setManyF (vs : List AV) (off : Nat) : List AV → List AV
  | [c] => vs.set off c
  | cs => if off + cs.length ≤ vs.length then vs.take off ++ (cs ++ vs.drop (off + cs.length)) else setMany vs off cs
theorem setMany_all : ∀ (cs vs : List AV) (off : Nat), off + cs.length ≤ vs.length → setMany vs off cs = vs.take off ++ (cs ++ vs.drop (off + cs.length))
  | [], vs, off, _ => by simp [setMany]
  | c :: cs, vs, off, h => by
    simp only [List.length_cons] at h
    rw [setMany, setMany_all cs _ _ (by simp; omega)]
    have h1 : off < vs.length := by omega
    have e1 : (vs.set off c).take (off + 1) = vs.take off ++ [c] := by
      rw [List.take_add_one, List.getElem?_set_self h1]
      simp [List.take_set_of_le]
    have e2 : (vs.set off c).drop (off + 1 + cs.length) = vs.drop (off + (c :: cs).length) := by
      rw [List.drop_set_of_lt (by omega)]
      simp only [List.length_cons]
      congr 1
      omega
    rw [e1, e2]
    simp
theorem setManyF_eq (vs : List AV) (off : Nat) (cs : List AV) : setManyF vs off cs = setMany vs off cs := by
  unfold setManyF
  split
  · rfl
  · split
    · rename_i h; rw [setMany_all _ _ _ h]
    · rfl
theorem storeCells_ok {b esz : Nat} {l : Loc} (hl : φ[b]? = some l) : ∀ (cs : List AV) (us : List Value) (vs : List AV) (off i : Nat) (H : AH) (w : World), Rel w0 φ H w → H[b]? = some (.cells vs esz false) →
    VRs φ cs us → (∀ c ∈ cs, c.one = true) → off + i + cs.length ≤ vs.length →
    ∃ w', (storeCells ⟨l.blk, l.sh + off, none⟩ us i).run P w = .ok () w' ∧ Rel w0 φ (H.set b (.cells (setMany vs (off + i) cs) esz false)) w' := by
  intro cs
  induction cs with
  | nil =>
    intro us vs off i H w h hb hv _ _
    cases hv
    refine ⟨w, by simp [storeCells], ?_⟩
    have : H.set b (.cells (setMany vs (off + i) []) esz false) = H := by
      apply List.ext_getElem?
      intro j
      by_cases e : b = j
      · subst e; rw [List.getElem?_set_self (List.getElem?_eq_some_iff.1 hb).1, hb]; rfl
      · rw [List.getElem?_set_ne e]
    rw [this]; exact h
  | cons c cs ih =>
    intro us vs off i H w h hb hv hone hn
    cases hv with
    | cons h1 h2 =>
      rename_i u us
      simp at hn
      obtain ⟨hr, ⟨old, hold⟩, hfz⟩ := h.set hb hl (off := off + i) (by omega) h1
      have hblen : b < H.length := (List.getElem?_eq_some_iff.1 hb).1
      obtain ⟨w', h3, h4⟩ := ih us (vs.set (off + i) c) off (i + 1) _ _ hr (by rw [List.getElem?_set_self hblen]) h2 (fun c hc => hone c (by simp [hc])) (by simp; omega)
      refine ⟨w', ?_, ?_⟩
      · have hone1 := h1.one_cell (hone c (by simp))
        have ea : l.sh + off + i = l.sh + (off + i) := by omega
        simp only [storeCells, Sem.run_bind, add_mk, run_store P w _ u .plain hone1, ea, hold, hfz]
        simpa [add_mk] using h3
      · rw [List.set_set] at h4
        exact h4
def AV.allOne : List AV → Bool
  | [] => true
  | c :: cs => c.one && AV.allOne cs
theorem allOne_mem {cs : List AV} (h : AV.allOne cs = true) : ∀ c ∈ cs, c.one = true := by
  induction cs with
  | nil => simp
  | cons c cs ih => simp [AV.allOne] at h; intro x hx; simp at hx; rcases hx with rfl | hx; exact h.1; exact ih h.2 x hx
def astore (P : Program) (t : TypeId) (H : AH) (p v : AV) : Option AH :=
  match p with
  | .ptr b off =>
    match H[b]?, P.info? t with
    | some (.cells vs esz false), some i =>
      if AV.allOne v.cells = true ∧ v.cells.length = i.size ∧ off + v.cells.length ≤ vs.length then some (H.set b (.cells (setManyF vs off v.cells) esz false)) else none
    | _, _ => none
  | _ => none
theorem allOne_ne_bad {v : AV} (h : AV.allOne v.cells = true) : v ≠ .bad := by
  intro e; subst e; simp [AV.cells, AV.allOne, AV.one] at h
theorem astore_ok (h : Rel w0 φ H w) {t : TypeId} {p v : AV} {pu u : Value} {H' : AH} (hp : VR φ p pu) (hv : VR φ v u) (hs : astore P t H p v = some H') :
    ∃ a w', pu = .pointer (some a) ∧ (storeVar t a u).run P w = .ok () w' ∧ Rel w0 φ H' w' := by
  unfold astore at hs
  split at hs
  · rename_i b off
    split at hs
    · rename_i vs esz i hb hi
      split at hs
      · rename_i hc
        obtain ⟨h1, h2, h3⟩ := hc
        simp [setManyF_eq] at hs; subst hs
        cases hp with
        | ptr hl =>
          rename_i l
          have hcs := hv.cells (allOne_ne_bad h1)
          obtain ⟨w', h4, h5⟩ := storeCells_ok (P := P) hl v.cells u.cells.toList vs off 0 H w h hb hcs (allOne_mem h1) (by omega)
          refine ⟨_, w', rfl, ?_, by simpa using h5⟩
          have hsz : u.cells.size = i.size := by rw [← h2, hcs.length]; simp
          simp [storeVar, sizeOf, typeInfo, hi, hsz, h4]
      · cases hs
    · cases hs
  · cases hs

/-! ### New blocks -/
theorem Rel.newCells (h : Rel w0 φ H w) {vs : List AV} {c : Array Value} (e : TypeId) (hv : VRs φ vs c.toList) (esz slk : Nat) (extra : Array Value) (hx : extra.size = slk * szOf esz) (ht : ∀ t, tyOf esz = some t → t = e := by intro t ht; cases ht) :
    Rel w0 (φ ++ [⟨w.heap.size, 0, slk⟩]) (H ++ [.cells vs esz false]) { w with heap := w.heap.push (.cells (c ++ extra) e) } := by
  refine h.alloc (.cells (c ++ extra) e) rfl ⟨⟨h.below.fresh (Nat.le_refl _), c ++ extra, e, (0, 0), by simp, ?_, ?_, fun t h => ⟨(ht t h).symm, Nat.zero_mod _⟩, fun _ => rfl⟩, ?_⟩
  · have := hv.length
    simp only [Array.length_toList] at this
    simp [this, hx]
  · intro j _
    exact World.frozen?_alloc_new w (c ++ extra) e (0 + j)
  · intro j v hj
    obtain ⟨u, h1, h2⟩ := hv.get hj
    refine ⟨u, h2.mono (Ext.snoc _ _), ?_⟩
    have e1 := World.cell?_alloc_new w (c ++ extra) e (0 + j)
    rw [show (World.alloc w (.cells (c ++ extra) e)) = { w with heap := w.heap.push (.cells (c ++ extra) e) } from rfl] at e1
    rw [e1]
    have hlt : j < c.size := by have := (List.getElem?_eq_some_iff.1 h1).1; simpa using this
    rw [Nat.zero_add, Array.getElem?_append_left hlt]
    simpa using h1
/-- The number of a row whose elements may be bytes; that of a variable that may hold its own address. -/
def isByteT (P : Program) (e : TypeId) : Bool :=
  match P.underlying e with
  | some (.int .u8) => true
  | _ => false
def btag (P : Program) (e : TypeId) (sz : Nat) : Nat := if sz = 1 ∧ isByteT P e = true then 1 + 65536 * (e + 1) else sz
def mtag (P : Program) (e : TypeId) : Nat := if isByteT P e = true then 1 + 65536 * (e + 1) else 0
def selfRef (P : Program) (e : TypeId) : Bool :=
  match P.underlying e with
  | some (.struct fs) =>
    match fs[0]? with
    | some f =>
      match P.underlying f.type with
      | some (.pointer a) => a == e
      | _ => false
    | none => false
  | _ => false
def etag (P : Program) (e : TypeId) (sz : Nat) : Nat := if selfRef P e = true ∧ sz < 65536 then sz + 65536 * (e + 1) else 0
theorem szOf_tag (sz e : Nat) (h : sz < 65536) : szOf (sz + 65536 * (e + 1)) = sz := by unfold szOf; omega
theorem tyOf_tag (sz e : Nat) (h : sz < 65536) : tyOf (sz + 65536 * (e + 1)) = some e := by
  unfold tyOf
  have : (sz + 65536 * (e + 1)) / 65536 = e + 1 := by omega
  rw [this]; simp
theorem tyOf_mtag {e t : TypeId} (ht : tyOf (mtag P e) = some t) : t = e := by
  unfold mtag at ht
  split at ht
  · rw [tyOf_tag 1 e (by omega)] at ht; cases ht; rfl
  · cases ht
theorem tyOf_small (sz : Nat) (h : sz < 65536) : tyOf sz = none := by
  unfold tyOf
  rw [if_pos (by omega)]
theorem szOf_btag {e : TypeId} {sz : Nat} (h : sz < 65536) : szOf (btag P e sz) = sz := by
  unfold btag
  split
  · rename_i h1; rw [szOf_tag 1 e (by omega), h1.1]
  · unfold szOf; omega
theorem tyOf_btag {e t : TypeId} {sz : Nat} (h : sz < 65536) (ht : tyOf (btag P e sz) = some t) : t = e ∧ szOf (btag P e sz) = 1 := by
  unfold btag at *
  split at ht
  · rename_i h1
    rw [if_pos h1, szOf_tag 1 e (by omega)]
    rw [tyOf_tag 1 e (by omega)] at ht
    cases ht; exact ⟨rfl, rfl⟩
  · rw [tyOf_small _ h] at ht; cases ht
theorem tyOf_etag {e t : TypeId} {sz : Nat} (ht : tyOf (etag P e sz) = some t) : t = e := by
  unfold etag at ht
  split at ht
  · rename_i h1; rw [tyOf_tag _ e h1.2] at ht; cases ht; rfl
  · cases ht
theorem Rel.newPtr (h : Rel w0 φ H w) (slk : Nat) (off : Nat) : VR (φ ++ [⟨w.heap.size, 0, slk⟩]) (.ptr H.length off) (.pointer (some ⟨w.heap.size, off, none⟩)) := by
  have : (φ ++ [(⟨w.heap.size, 0, slk⟩ : Loc)])[H.length]? = some ⟨w.heap.size, 0, slk⟩ := by rw [← h.len]; simp
  simpa using VR.ptr (off := off) this

def azero (P : Program) (t : TypeId) : Option (List AV) :=
  match P.info? t with
  | some i => i.zero.map fun z => z.cells.toList.map ofV1
  | none => none
theorem azero_ok {t : TypeId} {vs : List AV} (hz : azero P t = some vs) (φ : List Loc) : ∃ i z, P.info? t = some i ∧ i.zero = some z ∧ VRs φ vs z.cells.toList := by
  unfold azero at hz
  split at hz
  · rename_i i hi
    cases hzz : i.zero with
    | none => simp [hzz] at hz
    | some z =>
      simp [hzz] at hz; subst hz
      refine ⟨i, z, hi, hzz, ?_⟩
      have := VRs.map_of (φ := φ) z.cells.toList ofV1 id (fun x _ => ofV1_ok φ x)
      simpa using this
  · cases hz
end
end Go.Ve

namespace Go.Ve
open Go Go.RowKit Ieee

def NaNF (k : FloatKind) (n : Nat) : Prop := (k.format.read n).isNaN = true
theorem nan_order_l {d e : Datum} (h : d.isNaN = true) : d.order e = none := by
  cases d <;> first | (simp [Datum.isNaN] at h; done) | (cases e <;> rfl)
theorem nan_order_r {d e : Datum} (h : e.isNaN = true) : d.order e = none := by
  cases e <;> first | (simp [Datum.isNaN] at h; done) | (cases d <;> rfl)
theorem nan_sum_l {d e : Datum} (h : d.isNaN = true) : d.sum e = none := by
  cases d <;> first | (simp [Datum.isNaN] at h; done) | (cases e <;> rfl)
theorem nan_sum_r {d e : Datum} (h : e.isNaN = true) : d.sum e = none := by
  cases e <;> first | (simp [Datum.isNaN] at h; done) | (cases d <;> rfl)
theorem nan_opp {d : Datum} (h : d.isNaN = true) : d.opposite.isNaN = true := by
  cases d <;> first | (simp [Datum.isNaN] at h; done) | rfl
theorem nan_prod_l {d e : Datum} (h : d.isNaN = true) : d.product e = none := by
  cases d <;> first | (simp [Datum.isNaN] at h; done) | (cases e <;> rfl)
theorem nan_prod_r {d e : Datum} (h : e.isNaN = true) : d.product e = none := by
  cases e <;> first | (simp [Datum.isNaN] at h; done) | (cases d <;> rfl)
theorem nan_quo_l {d e : Datum} {n : Nat} (h : d.isNaN = true) : d.quotient n e = none := by
  cases d <;> first | (simp [Datum.isNaN] at h; done) | (cases e <;> rfl)
theorem nan_quo_r {d e : Datum} {n : Nat} (h : e.isNaN = true) : d.quotient n e = none := by
  cases e <;> first | (simp [Datum.isNaN] at h; done) | (cases d <;> rfl)
theorem dbl_sw : double.signWeight = 2 ^ 63 := by kernel_rfl
theorem dbl_bi : double.binade = 2 ^ 52 := by kernel_rfl
theorem dbl_ir : double.infRung = 2047 * 2 ^ 52 := by kernel_rfl
theorem nan_of_rung {n : Nat} (h : 2047 * 2 ^ 52 < n % 2 ^ 63) : NaNF .f64 n := by
  unfold NaNF
  show (double.read n).isNaN = true
  unfold Format.read
  rw [dbl_sw, dbl_bi, dbl_ir]
  simp only
  rw [if_neg (by omega), if_neg (by omega), if_neg (by omega)]
  rfl
theorem nan_cut (x y t : Nat) : NaNF .f64 ((Question.nanBits .f64 x y).cut t) := by
  apply nan_of_rung
  show 2047 * 2 ^ 52 < ((t % 2) * 2 ^ 63 + 0x7ff0000000000000 + 1 + (t / 2) % (2 ^ 52 - 1)) % 2 ^ 63
  have hr : (t / 2) % (2 ^ 52 - 1) < 2 ^ 52 - 1 := Nat.mod_lt _ (by decide)
  generalize (t / 2) % (2 ^ 52 - 1) = r at *
  rcases Nat.mod_two_eq_zero_or_one t with h | h <;> rw [h] <;> omega

/-- What a comparison with such a number answers. -/
def nanCmp : BinOp → Option Bool
  | .eql => some false
  | .neq => some true
  | .lss => some false
  | .leq => some false
  | .gtr => some false
  | .geq => some false
  | _ => none
theorem nanCmp_ok {P : Program} {w : World} {op : BinOp} {r : Bool} (h : nanCmp op = some r) {k : FloatKind} {a b : Nat} (hn : k.format.order a b = none) : (Op.floatCmp op k a b).run P w = .ok (.bool r) w := by
  unfold Op.floatCmp
  rw [hn]
  cases op <;> simp [nanCmp] at h <;> subst h <;> rfl
def farith (op : BinOp) (x y : Nat) : Option (Option Nat) :=
  match op with
  | .add => some (double.add x y)
  | .sub => some (double.sub x y)
  | .mul => some (double.mul x y)
  | .quo => some (double.div x y)
  | _ => none
theorem farith_nan {P : Program} {w : World} {op : BinOp} {x y : Nat} (h : farith op x y = some none) : ∃ r, NaNF .f64 r ∧ (Op.floatArith op .f64 x y).run P w = .ok (.float .f64 r) { w with drawn := w.drawn + 1 } := by
  refine ⟨(Question.nanBits .f64 x y).cut (w.tape w.drawn (.nanBits .f64 x y)), nan_cut _ _ _, ?_⟩
  have hc : ∀ (f : Nat → Sem Value), (Sem.bind (choose (.nanBits .f64 x y)) f).run P w = (f ((Question.nanBits .f64 x y).cut (w.tape w.drawn (.nanBits .f64 x y)))).run P { w with drawn := w.drawn + 1 } := fun f => rfl
  unfold Op.floatArith
  cases op <;> simp [farith] at h
  · show (match double.add x y with | some r => pure (.float .f64 r) | none => (Sem.bind (choose (.nanBits .f64 x y)) fun r => pure (.float .f64 r)) : Sem Value).run P w = _
    rw [h]; exact hc _
  · show (match double.sub x y with | some r => pure (.float .f64 r) | none => (Sem.bind (choose (.nanBits .f64 x y)) fun r => pure (.float .f64 r)) : Sem Value).run P w = _
    rw [h]; exact hc _
  · show (match double.mul x y with | some r => pure (.float .f64 r) | none => (Sem.bind (choose (.nanBits .f64 x y)) fun r => pure (.float .f64 r)) : Sem Value).run P w = _
    rw [h]; exact hc _
  · show (match double.div x y with | some r => pure (.float .f64 r) | none => (Sem.bind (choose (.nanBits .f64 x y)) fun r => pure (.float .f64 r)) : Sem Value).run P w = _
    rw [h]; exact hc _
theorem farith_l {op : BinOp} {x y : Nat} (h : NaNF .f64 x) (ho : (farith op 0 0).isSome = true) : farith op x y = some none := by
  have h : (double.read x).isNaN = true := h
  cases op <;> simp [farith] at ho ⊢
  · unfold Format.add; rw [nan_sum_l h]; rfl
  · unfold Format.sub; rw [nan_sum_l h]; rfl
  · unfold Format.mul; rw [nan_prod_l h]; rfl
  · unfold Format.div; rw [nan_quo_l h]; rfl
theorem farith_r {op : BinOp} {x y : Nat} (h : NaNF .f64 y) (ho : (farith op 0 0).isSome = true) : farith op x y = some none := by
  have h : (double.read y).isNaN = true := h
  cases op <;> simp [farith] at ho ⊢
  · unfold Format.add; rw [nan_sum_r h]; rfl
  · unfold Format.sub; rw [nan_sum_r (nan_opp h)]; rfl
  · unfold Format.mul; rw [nan_prod_r h]; rfl
  · unfold Format.div; rw [nan_quo_r h]; rfl
end Go.Ve

namespace Go.Ve
open Go Go.RowKit

section
variable {P : Program} {w0 : Base} {w : World} {φ : List Loc} {H : AH}

/-! ### Operators -/
theorem toList_mk (s : List UInt8) : (⟨⟨s⟩⟩ : ByteArray).toList = s := by rw [ByteArray.toList_eq]
theorem size_mk (s : List UInt8) : (⟨⟨s⟩⟩ : ByteArray).size = s.length := rfl

def astrOp (op : BinOp) (a b : List UInt8) : Option AV :=
  match op with
  | .add => if a.length + b.length ≤ maxLen then some (.str (a ++ b)) else none
  | .eql => some (.bool (a == b))
  | .neq => some (.bool !(a == b))
  | .lss => some (.bool (Op.bytesLess a b))
  | .leq => some (.bool (Op.bytesLess a b || a == b))
  | .gtr => some (.bool !(Op.bytesLess a b || a == b))
  | .geq => some (.bool !(Op.bytesLess a b))
  | _ => none
theorem maxLen_i64 : (maxLen : Int) ≤ IntKind.i64.max := by decide
theorem astrOp_ok {op : BinOp} {t : TypeId} {a b : List UInt8} {v : AV} (h : astrOp op a b = some v) :
    ∃ u, VR φ v u ∧ (binOp op t (.string ⟨⟨a⟩⟩) (.string ⟨⟨b⟩⟩)).run P w = .ok u w := by
  have e : ∀ op, binOp op t (.string ⟨⟨a⟩⟩) (.string ⟨⟨b⟩⟩) = Op.stringOp op ⟨⟨a⟩⟩ ⟨⟨b⟩⟩ := fun op => by cases op <;> rfl
  rw [e]
  cases op <;> simp only [astrOp] at h <;> try cases h
  · split at h
    · rename_i hl
      cases h
      refine ⟨_, .str _, ?_⟩
      have h2 : ¬ (((a.length + b.length : Nat) : Int) > IntKind.i64.max) := by have := maxLen_i64; omega
      simp only [Op.stringOp, size_mk]
      rw [if_neg h2]
      rfl
    · cases h
  all_goals
    refine ⟨_, .bool _, ?_⟩
    simp only [Op.stringOp, toList_mk]; rfl

/-- Which kind of reference it is, and whether it is nil. -/
def anil : AV → Option (Nat × Bool)
  | .nilptr => some (0, true)
  | .ptr _ _ => some (0, false)
  | .gptr _ _ => some (0, false)
  | .nilsl => some (1, true)
  | .sl .. => some (1, false)
  | .sle .. => some (1, false)
  | .slz => some (1, false)
  | .nilmap => some (2, true)
  | .map _ => some (2, false)
  | .nilfn => some (3, true)
  | .fn .. => some (3, false)
  | .niliface => some (4, true)
  | .iface .. => some (4, false)
  | _ => none
def kindOf : TypeDesc → Option Nat
  | .pointer _ => some 0
  | .slice _ => some 1
  | .map _ _ => some 2
  | .func _ _ _ => some 3
  | .interface _ => some 4
  | _ => none
def isConstO : Operand → Bool
  | .const _ => true
  | _ => false
def aeqNil (P : Program) (t : TypeId) (xo yo : Operand) (x y : AV) : Option Bool :=
  match anil x, anil y, (P.underlying t).bind kindOf with
  | some (k, a), some (k', b), some k'' =>
    if k = k' ∧ k = k'' ∧ (a || b) = true ∧ (k = 4 → a = true → b = true → (isConstO xo || isConstO yo) = true) then some (a && b) else none
  | _, _, _ => none

theorem aeqNil_ok {t : TypeId} {xo yo : Operand} {x y : AV} {xu yu : Value} {r : Bool} (h : aeqNil P t xo yo x y = some r) (hx : VR φ x xu) (hy : VR φ y yu) (op : BinOp) (hop : op = .eql ∨ op = .neq) :
    ((do eqGuard op t xo yo xu yu; binOp op t xu yu : Sem Value)).run P w = .ok (.bool (if op = .eql then r else !r)) w := by
  unfold aeqNil at h
  split at h
  · rename_i k a k' b k'' h1 h2 h3
    split at h
    · rename_i hc
      obtain ⟨rfl, rfl, hab, hif⟩ := hc
      cases h
      cases hu : P.underlying t with
      | none => simp [hu] at h3
      | some d =>
        simp only [hu, Option.bind_some] at h3
        have hg : (eqGuard op t xo yo xu yu).run P w = .ok () w := by
          cases hx <;> simp [anil] at h1 <;> obtain ⟨rfl, rfl⟩ := h1 <;> cases hy <;> simp [anil] at h2 <;> rcases hop with rfl | rfl <;> simp only [eqGuard] <;>
            first
              | rfl
              | (subst h2
                 have := hif rfl rfl rfl
                 cases xo <;> cases yo <;> simp [isConstO] at this <;> rfl)
        have hb : (Op.equal t xu yu).run P w = .ok (a && b) w := by
          show (Op.equalIn (9999 + 1) t xu yu).run P w = .ok (a && b) w
          generalize 9999 = D
          cases hx <;> simp [anil] at h1 <;> obtain ⟨rfl, rfl⟩ := h1 <;> cases hy <;> simp [anil] at h2 <;> try subst h2
          all_goals first
            | (simp at hab; done)
            | (cases d <;> simp [kindOf] at h3
               unfold Op.equalIn; rw [Sem.run_bind, run_underlying hu]; first | rfl | (cases a <;> rfl) | (cases b <;> rfl))
        have hbin : (binOp op t xu yu).run P w = .ok (.bool (if op = .eql then (a && b) else !(a && b))) w := by
          cases hx <;> simp [anil] at h1 <;> obtain ⟨rfl, rfl⟩ := h1 <;> cases hy <;> simp [anil] at h2 <;> rcases hop with rfl | rfl <;> simp only [binOp, Sem.run_bind, hb] <;> rfl
        simp only [Sem.run_bind, hg, Result.andThen_ok, hbin]
    · cases h
  · cases h

def abinOp (P : Program) (op : BinOp) (t : TypeId) (xo yo : Operand) (x y : AV) : Option AV :=
  match x, y with
  | .str a, .str b => astrOp op a b
  | .nan k, .float k' _ => if k = k' then (nanCmp op).map .bool else none
  | .float k _, .nan k' => if k = k' then (nanCmp op).map .bool else none
  | .nan k, .nan k' => if k = k' then (nanCmp op).map .bool else none
  | x, y =>
    match x.sc, y.sc with
    | some a, some b => (pureRun P (do eqGuard op t xo yo a b; binOp op t a b : Sem Value)).map ofV1
    | _, _ =>
      match op with
      | .eql => (aeqNil P t xo yo x y).map .bool
      | .neq => (aeqNil P t xo yo x y).map fun b => .bool !b
      | _ => none
theorem nanBin_ok {op : BinOp} {t : TypeId} {xo yo : Operand} {k k' : FloatKind} {a b : Nat} {v : AV} (h : (if k = k' then (nanCmp op).map AV.bool else none) = some v) (hn : k = k' → k.format.order a b = none) :
    ∃ u, VR φ v u ∧ ((do eqGuard op t xo yo (.float k a) (.float k' b); binOp op t (.float k a) (.float k' b) : Sem Value)).run P w = .ok u w := by
  split at h
  · rename_i hk
    subst hk
    cases hc : nanCmp op with
    | none => rw [hc] at h; cases h
    | some r =>
      rw [hc] at h
      cases h
      refine ⟨.bool r, .bool r, ?_⟩
      have hg : (eqGuard op t xo yo (.float k a) (.float k b)).run P w = .ok () w := by
        unfold eqGuard
        cases op <;> rfl
      have h1 := nanCmp_ok (P := P) (w := w) hc (hn rfl)
      simp only [Sem.run_bind, hg, Result.andThen_ok]
      unfold binOp
      cases op <;> simp [nanCmp] at hc <;> simpa using h1
  · cases h
theorem abinOp_ok {op : BinOp} {t : TypeId} {xo yo : Operand} {x y v : AV} {xu yu : Value} (h : abinOp P op t xo yo x y = some v) (hx : VR φ x xu) (hy : VR φ y yu) :
    ∃ u, VR φ v u ∧ ((do eqGuard op t xo yo xu yu; binOp op t xu yu : Sem Value)).run P w = .ok u w := by
  unfold abinOp at h
  split at h
  · rename_i a b
    cases hx; cases hy
    obtain ⟨u, h1, h2⟩ := astrOp_ok (P := P) (w := w) (t := t) (φ := φ) h
    refine ⟨u, h1, ?_⟩
    have hg : (eqGuard op t xo yo (.string ⟨⟨a⟩⟩) (.string ⟨⟨b⟩⟩)).run P w = .ok () w := by
      unfold eqGuard
      cases op <;> rfl
    simp only [Sem.run_bind, hg, Result.andThen_ok, h2]
  · rename_i k k' b
    cases hx with
    | nan hn =>
      cases hy
      exact nanBin_ok h fun _ => nan_order_l hn
  · rename_i k a k'
    cases hx
    cases hy with
    | nan hn => exact nanBin_ok h fun e => by subst e; exact nan_order_r hn
  · rename_i k k'
    cases hx with
    | nan hn =>
      cases hy
      exact nanBin_ok h fun _ => nan_order_l hn
  · split at h
    · rename_i a b ha hb
      cases hr : pureRun P (do eqGuard op t xo yo a b; binOp op t a b : Sem Value) with
      | none => rw [hr] at h; cases h
      | some u =>
        rw [hr] at h
        cases h
        rw [sc_ok ha hx, sc_ok hb hy]
        exact ⟨u, ofV1_ok φ u, pureRun_ok w hr⟩
    · split at h
      · cases hr : aeqNil P t xo yo x y with
        | none => rw [hr] at h; cases h
        | some r => rw [hr] at h; cases h; exact ⟨_, .bool r, aeqNil_ok hr hx hy .eql (.inl rfl)⟩
      · cases hr : aeqNil P t xo yo x y with
        | none => rw [hr] at h; cases h
        | some r => rw [hr] at h; cases h; exact ⟨_, .bool (!r), aeqNil_ok hr hx hy .neq (.inr rfl)⟩
      · cases h

/-- Arithmetic whose answer is no number: which one is drawn. -/
def afl : AV → Option (Option Nat)
  | .float .f64 n => some (some n)
  | .nan .f64 => some none
  | _ => none
def ananOp (op : BinOp) (x y : AV) : Option AV :=
  match afl x, afl y with
  | some (some a), some (some b) => if farith op a b = some none then some (.nan .f64) else none
  | some none, some _ => if (farith op 0 0).isSome then some (.nan .f64) else none
  | some _, some none => if (farith op 0 0).isSome then some (.nan .f64) else none
  | _, _ => none
theorem ananOp_ok {op : BinOp} {t : TypeId} {xo yo : Operand} {x y v : AV} {xu yu : Value} (h : ananOp op x y = some v) (hx : VR φ x xu) (hy : VR φ y yu) :
    ∃ u, VR φ v u ∧ ((do eqGuard op t xo yo xu yu; binOp op t xu yu : Sem Value)).run P w = .ok u { w with drawn := w.drawn + 1 } := by
  have key : ∀ a b, farith op a b = some none → v = .nan .f64 → ∃ u, VR φ v u ∧ ((do eqGuard op t xo yo (.float .f64 a) (.float .f64 b); binOp op t (.float .f64 a) (.float .f64 b) : Sem Value)).run P w = .ok u { w with drawn := w.drawn + 1 } := fun a b hf hv => by
    subst hv
    obtain ⟨r, h1, h2⟩ := farith_nan (P := P) (w := w) hf
    refine ⟨_, .nan h1, ?_⟩
    have hg : (eqGuard op t xo yo (.float .f64 a) (.float .f64 b)).run P w = .ok () w := by
      unfold eqGuard
      cases op <;> rfl
    simp only [Sem.run_bind, hg, Result.andThen_ok]
    unfold binOp
    cases op <;> simp [farith] at hf <;> simpa using h2
  have flt : ∀ {x : AV} {xu : Value} {o : Option Nat}, VR φ x xu → afl x = some o → ∃ n, xu = .float .f64 n ∧ (∀ a, o = some a → n = a) ∧ (o = none → NaNF .f64 n) := fun {x xu o} hv ha => by
    cases hv with
    | float k n =>
      cases k <;> simp [afl] at ha
      subst ha
      exact ⟨n, rfl, fun a e => by cases e; rfl, fun e => by cases e⟩
    | nan hn =>
      rename_i k n
      cases k <;> simp [afl] at ha
      subst ha
      exact ⟨n, rfl, fun a e => (by cases e), fun _ => hn⟩
    | _ => simp [afl] at ha
  unfold ananOp at h
  split at h
  · rename_i a b ha hb
    obtain ⟨n, rfl, e1, _⟩ := flt hx ha
    obtain ⟨m, rfl, e2, _⟩ := flt hy hb
    have e1 := e1 a rfl
    have e2 := e2 b rfl
    subst e1; subst e2
    split at h
    · rename_i hf; cases h; exact key _ _ hf rfl
    · cases h
  · rename_i o ha hb
    obtain ⟨n, rfl, _, e1⟩ := flt hx ha
    obtain ⟨m, rfl, _, _⟩ := flt hy hb
    split at h
    · rename_i hf; cases h; exact key _ _ (farith_l (e1 rfl) hf) rfl
    · cases h
  · rename_i o hb _ ha
    obtain ⟨n, rfl, _, _⟩ := flt hx (by assumption)
    obtain ⟨m, rfl, _, e1⟩ := flt hy (by assumption)
    split at h
    · rename_i hf; cases h; exact key _ _ (farith_r (e1 rfl) hf) rfl
    · cases h
  · cases h

/-! ### Indexes -/
def aindexAt (P : Program) (t : TypeId) (x i : AV) : Option AV :=
  match i with
  | .int _ n =>
    match P.underlying t, x with
    | some (.slice e), .sl b off len _ _ =>
      match P.info? e with
      | some inf => if 0 ≤ n ∧ n < (len : Int) then some (.ptr b (off + n.toNat * inf.size)) else none
      | none => none
    | some (.array len e), .ptr b off =>
      match P.info? e with
      | some inf => if 0 ≤ n ∧ n < (len : Int) then some (.ptr b (off + n.toNat * inf.size)) else none
      | none => none
    | some (.array len e), .gptr g off =>
      match P.info? e with
      | some inf => if 0 ≤ n ∧ n < (len : Int) then some (.gptr g (off + n.toNat * inf.size)) else none
      | none => none
    | _, _ => none
  | _ => none
theorem gptr_add {φ : List Loc} (g off n : Nat) : VR φ (.gptr g (off + n)) (.pointer (some ((⟨g, off, none⟩ : Addr).add n))) := by
  rw [add_mk]; exact .gptr g (off + n)
theorem ptr_add {l : Loc} {b off n : Nat} (hl : φ[b]? = some l) : VR φ (.ptr b (off + n)) (.pointer (some ((⟨l.blk, l.sh + off, none⟩ : Addr).add n))) := by
  rw [add_mk, Nat.add_assoc]; exact .ptr hl
theorem aindexAt_ok {t : TypeId} {x i v : AV} {xu iu : Value} (h : aindexAt P t x i = some v) (hx : VR φ x xu) (hi : VR φ i iu) :
    ∃ u, VR φ v u ∧ (Instr.indexAt t xu iu).run P w = .ok u w := by
  unfold aindexAt at h
  split at h
  · cases hi
    rename_i k n
    split at h
    · rename_i e b off len cap ex hu
      split at h
      · rename_i inf hinf
        split at h
        · rename_i hc
          cases h
          cases hx with
          | sl hl =>
            refine ⟨_, ptr_add hl, ?_⟩
            simp [Instr.indexAt, asIntOf, underlying, hu, hc, sizeOf, typeInfo, hinf]
        · cases h
      · cases h
    · rename_i len e b off hu
      split at h
      · rename_i inf hinf
        split at h
        · rename_i hc
          cases h
          cases hx with
          | ptr hl =>
            refine ⟨_, ptr_add hl, ?_⟩
            simp [Instr.indexAt, asIntOf, underlying, hu, hc, sizeOf, typeInfo, hinf, Instr.sureAddr]
        · cases h
      · cases h
    · rename_i len e g off hu
      split at h
      · rename_i inf hinf
        split at h
        · rename_i hc
          cases h
          cases hx with
          | gptr =>
            refine ⟨_, gptr_add _ _ _, ?_⟩
            simp [Instr.indexAt, asIntOf, underlying, hu, hc, sizeOf, typeInfo, hinf, Instr.sureAddr]
        · cases h
      · cases h
    · cases h
  · cases h

/-- A part of a struct or an array. -/
def apart (P : Program) (t : TypeId) (cs : List AV) (off : Nat) : Option AV :=
  match isAggP P t with
  | some true =>
    match P.info? t with
    | some i => some (.agg ((cs.drop off).take i.size))
    | none => none
  | some false => cs[off]?
  | none => none
theorem apart_ok {t : TypeId} {cs : List AV} {us : Array Value} {off : Nat} {v : AV} (h : apart P t cs off = some v) (hc : VRs φ cs us.toList) :
    ∃ u, VR φ v u ∧ (part t us off).run P w = .ok u w := by
  unfold apart at h
  split at h
  · rename_i hg
    split at h
    · rename_i i hi
      cases h
      refine ⟨.agg (us.extract off (off + i.size)), .agg ?_, ?_⟩
      · have e : (us.extract off (off + i.size)).toList = (us.toList.drop off).take i.size := by
          simp [Array.toList_extract, List.extract]
        rw [e]
        exact (hc.drop off).take i.size
      · simp [part, isAgg_ok hg, sizeOf, typeInfo, hi]
    · cases h
  · rename_i hg
    obtain ⟨u, h1, h2⟩ := hc.get h
    refine ⟨u, h2, ?_⟩
    have h3 : us[off]? = some u := by simpa using h1
    simp [part, isAgg_ok hg, h3]
  · cases h
def afield (P : Program) (t : TypeId) (x : AV) (f : Nat) : Option AV :=
  match P.underlying t, x with
  | some (.struct fs), .agg cs =>
    match fs[f]? with
    | some fd => apart P fd.type cs fd.offset
    | none => none
  | _, _ => none
theorem afield_ok {t : TypeId} {x v : AV} {xu : Value} {f : Nat} (h : afield P t x f = some v) (hx : VR φ x xu) : ∃ u, VR φ v u ∧ (Instr.field t xu f).run P w = .ok u w := by
  unfold afield at h
  split at h
  · rename_i fs cs hu
    split at h
    · rename_i fd hf
      cases hx with
      | agg hc =>
        obtain ⟨u, h1, h2⟩ := apart_ok (P := P) (w := w) h hc
        exact ⟨u, h1, by simp [Instr.field, underlying, hu, hf, asAgg, h2]⟩
    · cases h
  · cases h
def afieldAt (P : Program) (s : TypeId) (x : AV) (f : Nat) : Option AV :=
  match P.underlying s with
  | some (.struct fs) =>
    match fs[f]? with
    | some fd =>
      match P.info? fd.type, x with
      | some i, .ptr b off => if i.size = 0 then none else some (.ptr b (off + fd.offset))
      | _, _ => none
    | none => none
  | _ => none
theorem afieldAt_ok {t : TypeId} {x v : AV} {xu : Value} {f : Nat} (h : afieldAt P t x f = some v) (hx : VR φ x xu) : ∃ u, VR φ v u ∧ (Instr.fieldAt t xu f).run P w = .ok u w := by
  unfold afieldAt at h
  split at h
  · rename_i fs hu
    split at h
    · rename_i fd hf
      split at h
      · rename_i i b off hi
        split at h
        · cases h
        · rename_i hz
          cases h
          cases hx with
          | ptr hl =>
            refine ⟨_, ptr_add hl, ?_⟩
            simp [Instr.fieldAt, underlying, hu, hf, Instr.sureAddr, fieldPlace, sizeOf, typeInfo, hi, hz]
      · cases h
    · cases h
  · cases h
def aindex (P : Program) (t : TypeId) (x i : AV) : Option AV :=
  match i with
  | .int _ n =>
    match P.underlying t, x with
    | some .string, .str s =>
      if 0 ≤ n then
        match s[n.toNat]? with
        | some b => some (.int .u8 b.toNat)
        | none => none
      else none
    | some (.array len e), .agg cs =>
      match P.info? e with
      | some inf => if 0 ≤ n ∧ n < (len : Int) then apart P e cs (n.toNat * inf.size) else none
      | none => none
    | _, _ => none
  | _ => none
theorem aindex_ok {t : TypeId} {x i v : AV} {xu iu : Value} (h : aindex P t x i = some v) (hx : VR φ x xu) (hi : VR φ i iu) : ∃ u, VR φ v u ∧ (Instr.index t xu iu).run P w = .ok u w := by
  unfold aindex at h
  split at h
  · cases hi
    rename_i k n
    split at h
    · rename_i s hu
      split at h
      · rename_i h0
        split at h
        · rename_i b hb
          cases h
          cases hx
          refine ⟨_, .int _ _, ?_⟩
          have hb2 : (⟨⟨s⟩⟩ : ByteArray)[n.toNat]? = some b := by
            have hlt := (List.getElem?_eq_some_iff.1 hb).1
            rw [getElem?_pos (⟨⟨s⟩⟩ : ByteArray) n.toNat (by simpa [size_mk] using hlt)]
            rw [List.getElem?_eq_getElem hlt] at hb
            exact hb
          simp [Instr.index, asIntOf, underlying, hu, h0, hb2]
        · cases h
      · cases h
    · rename_i len e cs hu
      split at h
      · rename_i inf hinf
        split at h
        · rename_i hc
          cases hx with
          | agg hcs =>
            obtain ⟨u, h1, h2⟩ := apart_ok (P := P) (w := w) h hcs
            exact ⟨u, h1, by simp [Instr.index, asIntOf, underlying, hu, hc, sizeOf, typeInfo, hinf, h2]⟩
        · cases h
      · cases h
    · cases h
  · cases h
def aextract (x : AV) (i : Nat) : Option AV :=
  match x with
  | .tuple vs => vs[i]?
  | _ => none
theorem aextract_ok {x v : AV} {xu : Value} {i : Nat} (h : aextract x i = some v) (hx : VR φ x xu) : ∃ u, VR φ v u ∧ (Instr.extract xu i).run P w = .ok u w := by
  unfold aextract at h
  split at h
  · cases hx with
    | tuple hc =>
      obtain ⟨u, h1, h2⟩ := hc.get h
      have h3 := h1
      simp only [Array.getElem?_toList] at h3
      exact ⟨u, h2, by simp [Instr.extract, h3]⟩
  · cases h

/-! ### Slice expressions -/
def abound (x : AV) (y : Nat) : Option Nat :=
  match x with
  | .int _ n => if 0 ≤ n ∧ n ≤ (y : Int) then some n.toNat else none
  | _ => none
theorem abound_ok {x : AV} {xu : Value} {y y' n : Nat} (h : abound x y = some n) (hx : VR φ x xu) (hy : y ≤ y') (code : BoundsCode) : n ≤ y ∧ (Instr.sliceBound xu y' code).run P w = .ok n w := by
  unfold abound at h
  split at h
  · cases hx
    rename_i k n
    split at h
    · rename_i hc
      cases h
      refine ⟨by omega, ?_⟩
      have : 0 ≤ n ∧ n ≤ (y' : Int) := by omega
      simp [Instr.sliceBound, asIntOf, this]
    · cases h
  · cases h
def aboundO (x : Option AV) (y d : Nat) : Option Nat :=
  match x with
  | some x => abound x y
  | none => some d
/-- An operand that may lack. -/
def VRo (φ : List Loc) : Option AV → Option Value → Prop
  | some v, some u => VR φ v u
  | none, none => True
  | _, _ => False
theorem bounds2_ok {lo hi : Option AV} {lou hiu : Option Value} {len cap cap' l h : Nat} {s : Bool} (hh : aboundO hi cap len = some h) (hl : aboundO lo h 0 = some l) (hlo : VRo φ lo lou) (hhi : VRo φ hi hiu) (hcap : cap ≤ cap') (hlen : len ≤ cap) :
    l ≤ h ∧ h ≤ cap ∧ (Instr.sliceBounds s len cap' lou hiu none).run P w = .ok (l, h, cap') w := by
  have h1 : h ≤ cap ∧ (match hiu with | some v => Instr.sliceBound v cap' (if s then .sliceAcap else .sliceAlen) | none => pure len : Sem Nat).run P w = .ok h w := by
    cases hi with
    | none => cases hiu with
      | none => simp [aboundO] at hh; subst hh; exact ⟨hlen, rfl⟩
      | some _ => exact hhi.elim
    | some x => cases hiu with
      | none => exact hhi.elim
      | some u => exact abound_ok (P := P) (w := w) hh hhi hcap _
  have h2 : l ≤ h ∧ (match lou with | some v => Instr.sliceBound v h .sliceB | none => pure 0 : Sem Nat).run P w = .ok l w := by
    cases lo with
    | none => cases lou with
      | none => simp [aboundO] at hl; subst hl; exact ⟨Nat.zero_le _, rfl⟩
      | some _ => exact hlo.elim
    | some x => cases lou with
      | none => exact hlo.elim
      | some u => exact abound_ok (P := P) (w := w) hl hlo (Nat.le_refl _) _
  refine ⟨h2.1, h1.1, ?_⟩
  have h3 := h1.2
  have h4 := h2.2
  unfold Instr.sliceBounds
  cases hiu <;> cases lou <;> simp_all
theorem bounds3_ok {lo : Option AV} {lou : Option Value} {hi mx : AV} {hiu mxu : Value} {len cap cap' l h m : Nat} {s : Bool} (hm : abound mx cap = some m) (hh : abound hi m = some h) (hl : aboundO lo h 0 = some l) (hlo : VRo φ lo lou) (hhi : VR φ hi hiu) (hmx : VR φ mx mxu) (hcap : cap ≤ cap') :
    l ≤ h ∧ h ≤ m ∧ m ≤ cap ∧ (Instr.sliceBounds s len cap' lou (some hiu) (some mxu)).run P w = .ok (l, h, m) w := by
  have h0 := abound_ok (P := P) (w := w) hm hmx hcap (if s then .slice3Acap else .slice3Alen)
  have h1 := abound_ok (P := P) (w := w) hh hhi (Nat.le_refl _) .slice3B
  have h2 : l ≤ h ∧ (match lou with | some v => Instr.sliceBound v h .slice3C | none => pure 0 : Sem Nat).run P w = .ok l w := by
    cases lo with
    | none => cases lou with
      | none => simp [aboundO] at hl; subst hl; exact ⟨Nat.zero_le _, rfl⟩
      | some _ => exact hlo.elim
    | some x => cases lou with
      | none => exact hlo.elim
      | some u => exact abound_ok (P := P) (w := w) hl hlo (Nat.le_refl _) _
  refine ⟨h2.1, h1.1, h0.1, ?_⟩
  have h3 := h0.2
  have h4 := h1.2
  have h5 := h2.2
  unfold Instr.sliceBounds
  cases lou <;> simp_all

def aslice (P : Program) (t : TypeId) (x : AV) (lo hi mx : Option AV) : Option AV :=
  match P.underlying t with
  | some .string =>
    match x, mx with
    | .str s, none =>
      match aboundO hi s.length s.length with
      | some h =>
        match aboundO lo h 0 with
        | some l => some (.str ((s.drop l).take (h - l)))
        | none => none
      | none => none
    | _, _ => none
  | some (.slice e) =>
    match P.info? e with
    | none => none
    | some inf =>
      match x with
      | .sl b off len cap ex =>
        if len ≤ cap then
          match mx with
          | some m =>
            match abound m cap, hi with
            | some m, some h =>
              match abound h m with
              | some h =>
                match aboundO lo h 0 with
                | some l => some (.sl b (if m = l then off else off + l * inf.size) (h - l) (m - l) true)
                | none => none
              | none => none
            | _, _ => none
          | none =>
            match aboundO hi cap len with
            | some h =>
              match aboundO lo h 0 with
              | some l =>
                if ex then some (.sl b (if cap = l then off else off + l * inf.size) (h - l) (cap - l) true)
                else if l = cap then some (.sle b off (l * inf.size))
                else some (.sl b (off + l * inf.size) (h - l) (cap - l) false)
              | none => none
            | none => none
        else none
      | .nilsl =>
        match mx with
        | some _ => none
        | none =>
          match aboundO hi 0 0 with
          | some h =>
            match aboundO lo h 0 with
            | some _ => some .nilsl
            | none => none
          | none => none
      | .sle b off adv =>
        match mx with
        | some m =>
          match abound m 0, hi with
          | some m, some h =>
            match abound h m with
            | some h =>
              match aboundO lo h 0 with
              | some _ => some .slz
              | none => none
            | none => none
          | _, _ => none
        | none =>
          match aboundO hi 0 0 with
          | some h =>
            match aboundO lo h 0 with
            | some _ => some (.sle b off adv)
            | none => none
          | none => none
      | .slz =>
        match mx with
        | some m =>
          match abound m 0, hi with
          | some m, some h =>
            match abound h m with
            | some h =>
              match aboundO lo h 0 with
              | some _ => some .slz
              | none => none
            | none => none
          | _, _ => none
        | none =>
          match aboundO hi 0 0 with
          | some h =>
            match aboundO lo h 0 with
            | some _ => some .slz
            | none => none
          | none => none
      | _ => none
  | some (.array n e) =>
    match P.info? e, x, mx with
    | some inf, .ptr b off, none =>
      match aboundO hi n n with
      | some h =>
        match aboundO lo h 0 with
        | some l => some (.sl b (if n = l then off else off + l * inf.size) (h - l) (n - l) true)
        | none => none
      | none => none
    | _, _, _ => none
  | _ => none
end
end Go.Ve

namespace Go.Ve
open Go Go.RowKit

section
variable {P : Program} {w0 : Base} {w : World} {φ : List Loc} {H : AH}

theorem sliceAt_slice {t e : TypeId} (hu : P.underlying t = some (.slice e)) (x : Value) (lo hi mx : Option Value) : (Instr.sliceAt t x lo hi mx).run P w = (Instr.slice t x lo hi mx).run P w := by
  unfold Instr.sliceAt
  rw [Sem.run_bind, run_underlying hu]
  rfl
theorem slice_run {t e : TypeId} {inf : TypeInfo} (hu : P.underlying t = some (.slice e)) (hi : P.info? e = some inf) (a : Option Addr) (len cap l h m : Nat) (lo hv mx : Option Value)
    (hb : (Instr.sliceBounds true len cap lo hv mx).run P w = .ok (l, h, m) w) :
    (Instr.sliceAt t (.slice a len cap) lo hv mx).run P w = .ok (.slice (if m = l then a else a.map (·.add (l * inf.size))) (h - l) (m - l)) w := by
  rw [sliceAt_slice hu]
  unfold Instr.slice
  rw [Sem.run_bind, run_underlying hu]
  simp only [Result.andThen_ok, Sem.run_bind, hb, sizeOf, typeInfo, run_program, hi]
  rfl
theorem if_some_add {b off n : Nat} (c : Prop) [Decidable c] : (if c then some (⟨b, off, none⟩ : Addr) else (some (⟨b, off, none⟩ : Addr)).map (·.add n)) = some ⟨b, if c then off else off + n, none⟩ := by
  split
  · rfl
  · simp [add_mk]

theorem aslice_ok {t : TypeId} {x v : AV} {xu : Value} {lo hi mx : Option AV} {lou hiu mxu : Option Value} (h : aslice P t x lo hi mx = some v) (hx : VR φ x xu) (hlo : VRo φ lo lou) (hhi : VRo φ hi hiu) (hmx : VRo φ mx mxu) :
    ∃ u, VR φ v u ∧ (Instr.sliceAt t xu lou hiu mxu).run P w = .ok u w := by
  unfold aslice at h
  split at h
  · rename_i hu
    split at h
    · rename_i s
      have hm : mxu = none := by cases mxu with | none => rfl | some _ => exact hmx.elim
      subst hm
      split at h
      · rename_i hh hhe
        split at h
        · rename_i l hle
          cases h
          cases hx
          obtain ⟨h1, h2, h3⟩ := bounds2_ok (P := P) (w := w) (s := false) hhe hle hlo hhi (Nat.le_refl _) (Nat.le_refl _)
          refine ⟨.string ((⟨⟨s⟩⟩ : ByteArray).extract l hh), ?_, ?_⟩
          · have e : (⟨⟨s⟩⟩ : ByteArray).extract l hh = ⟨⟨(s.drop l).take (hh - l)⟩⟩ := by
              have e1 := ByteArray.data_extract (a := (⟨⟨s⟩⟩ : ByteArray)) (b := l) (e := hh)
              cases he : (⟨⟨s⟩⟩ : ByteArray).extract l hh with
              | mk d =>
                rw [he] at e1
                simp only at e1
                subst e1
                congr 1
                apply Array.toList_inj.1
                simp [List.extract]
            rw [e]
            exact .str _
          · unfold Instr.sliceAt
            rw [Sem.run_bind, run_underlying hu]
            show (Instr.slice t _ lou hiu none).run P w = _
            unfold Instr.slice
            rw [Sem.run_bind, run_underlying hu]
            simp [size_mk, h3]
        · cases h
      · cases h
    · cases h
  · rename_i e hu
    split at h
    · cases h
    · rename_i inf hinf
      split at h
      · rename_i b off len cap ex
        split at h
        · rename_i hlc
          cases hx with
          | sl hl =>
            rename_i lc
            split at h
            · rename_i m
              split at h
              · rename_i _x1 _x2 mm hv0 hmm
                split at h
                · rename_i hh hhe
                  split at h
                  · rename_i l hle
                    cases h
                    cases mxu with
                    | none => exact hmx.elim
                    | some mu =>
                      cases hiu with
                      | none => exact hhi.elim
                      | some hu2 =>
                        obtain ⟨h1, h2, h3, h4⟩ := bounds3_ok (P := P) (w := w) (s := true) (len := len) (cap' := cap + if ex = true then 0 else lc.slk) hmm hhe hle hlo hhi hmx (Nat.le_add_right _ _)
                        refine ⟨_, ?_, slice_run hu hinf _ _ _ _ _ _ _ _ _ h4⟩
                        rw [if_some_add]
                        have := VR.sl (φ := φ) (b := b) (off := if mm = l then off else off + l * inf.size) (len := hh - l) (cap := mm - l) (ex := true) hl
                        have e : (if mm = l then lc.sh + off else lc.sh + off + l * inf.size) = lc.sh + (if mm = l then off else off + l * inf.size) := by split <;> omega
                        rw [e]
                        simpa using this
                  · cases h
                · cases h
              · cases h
            · have hm : mxu = none := by cases mxu with | none => rfl | some _ => exact hmx.elim
              subst hm
              split at h
              · rename_i hh hhe
                split at h
                · rename_i l hle
                  obtain ⟨h1, h2, h3⟩ := bounds2_ok (P := P) (w := w) (s := true) (cap' := cap + if ex = true then 0 else lc.slk) hhe hle hlo hhi (Nat.le_add_right _ _) hlc
                  refine ⟨_, ?_, slice_run hu hinf _ _ _ _ _ _ _ _ _ h3⟩
                  rw [if_some_add]
                  split at h
                  · rename_i hex
                    subst hex
                    cases h
                    have := VR.sl (φ := φ) (b := b) (off := if cap = l then off else off + l * inf.size) (len := hh - l) (cap := cap - l) (ex := true) hl
                    have e : (if cap = l then lc.sh + off else lc.sh + off + l * inf.size) = lc.sh + (if cap = l then off else off + l * inf.size) := by split <;> omega
                    simp only [if_true, Nat.add_zero]
                    rw [e]
                    simpa using this
                  · rename_i hex
                    have hex' : ex = false := by simpa using hex
                    subst hex'
                    split at h
                    · rename_i hlcap
                      cases h
                      subst hlcap
                      have he : hh = l := by omega
                      subst he
                      have := VR.sle (φ := φ) (b := b) (off := off) (adv := hh * inf.size) hl
                      simp only [Nat.sub_self, Bool.false_eq_true, if_false]
                      rw [show hh + lc.slk - hh = lc.slk by omega]
                      have e : (if hh + lc.slk = hh then lc.sh + off else lc.sh + off + hh * inf.size) = lc.sh + off + (if lc.slk = 0 then 0 else hh * inf.size) := by
                        by_cases h0 : lc.slk = 0
                        · rw [if_pos (by omega), if_pos h0]; omega
                        · rw [if_neg (by omega), if_neg h0]
                      rw [e]
                      simpa using this
                    · rename_i hlcap
                      cases h
                      have := VR.sl (φ := φ) (b := b) (off := off + l * inf.size) (len := hh - l) (cap := cap - l) (ex := false) hl
                      simp only [Bool.false_eq_true, if_false] at *
                      rw [if_neg (by omega)]
                      rw [show cap + lc.slk - l = cap - l + lc.slk by omega, Nat.add_assoc]
                      exact this
                · cases h
              · cases h
        · cases h
      · cases hx
        split at h
        · cases h
        · have hm : mxu = none := by cases mxu with | none => rfl | some _ => exact hmx.elim
          subst hm
          split at h
          · rename_i hh hhe
            split at h
            · rename_i l hle
              cases h
              obtain ⟨h1, h2, h3⟩ := bounds2_ok (P := P) (w := w) (s := true) (cap' := 0) hhe hle hlo hhi (Nat.le_refl _) (Nat.le_refl _)
              refine ⟨_, ?_, slice_run hu hinf _ _ _ _ _ _ _ _ _ h3⟩
              have e1 : hh = 0 := by omega
              have e2 : l = 0 := by omega
              subst e1; subst e2
              exact .nilsl
            · cases h
          · cases h
      · rename_i b off adv
        cases hx with
        | sle hl =>
          rename_i lc
          split at h
          · rename_i m
            split at h
            · rename_i _x1 _x2 mm hv0 hmm
              split at h
              · rename_i hh hhe
                split at h
                · rename_i l hle
                  cases h
                  cases mxu with
                  | none => exact hmx.elim
                  | some mu =>
                    cases hiu with
                    | none => exact hhi.elim
                    | some hu2 =>
                      obtain ⟨h1, h2, h3, h4⟩ := bounds3_ok (P := P) (w := w) (s := true) (len := 0) (cap' := lc.slk) hmm hhe hle hlo hhi hmx (Nat.zero_le _)
                      refine ⟨_, ?_, slice_run hu hinf _ _ _ _ _ _ _ _ _ h4⟩
                      have e1 : mm = 0 := by omega
                      have e2 : hh = 0 := by omega
                      have e3 : l = 0 := by omega
                      subst e1; subst e2; subst e3
                      exact .slz _
                · cases h
              · cases h
            · cases h
          · have hm : mxu = none := by cases mxu with | none => rfl | some _ => exact hmx.elim
            subst hm
            split at h
            · rename_i hh hhe
              split at h
              · rename_i l hle
                cases h
                obtain ⟨h1, h2, h3⟩ := bounds2_ok (P := P) (w := w) (s := true) (cap' := lc.slk) hhe hle hlo hhi (Nat.zero_le _) (Nat.le_refl _)
                refine ⟨_, ?_, slice_run hu hinf _ _ _ _ _ _ _ _ _ h3⟩
                have e1 : hh = 0 := by omega
                have e2 : l = 0 := by omega
                subst e1; subst e2
                rw [if_some_add]
                simp only [Nat.zero_mul, Nat.add_zero, Nat.sub_zero, ite_self]
                exact .sle hl
              · cases h
            · cases h
      · cases hx with
        | slz a =>
          split at h
          · rename_i m
            split at h
            · rename_i _x1 _x2 mm hv0 hmm
              split at h
              · rename_i hh hhe
                split at h
                · rename_i l hle
                  cases h
                  cases mxu with
                  | none => exact hmx.elim
                  | some mu =>
                    cases hiu with
                    | none => exact hhi.elim
                    | some hu2 =>
                      obtain ⟨h1, h2, h3, h4⟩ := bounds3_ok (P := P) (w := w) (s := true) (len := 0) (cap' := 0) hmm hhe hle hlo hhi hmx (Nat.zero_le _)
                      refine ⟨_, ?_, slice_run hu hinf _ _ _ _ _ _ _ _ _ h4⟩
                      have e1 : mm = 0 := by omega
                      have e2 : hh = 0 := by omega
                      have e3 : l = 0 := by omega
                      subst e1; subst e2; subst e3
                      exact .slz _
                · cases h
              · cases h
            · cases h
          · have hm : mxu = none := by cases mxu with | none => rfl | some _ => exact hmx.elim
            subst hm
            split at h
            · rename_i hh hhe
              split at h
              · rename_i l hle
                cases h
                obtain ⟨h1, h2, h3⟩ := bounds2_ok (P := P) (w := w) (s := true) (cap' := 0) hhe hle hlo hhi (Nat.zero_le _) (Nat.le_refl _)
                refine ⟨_, ?_, slice_run hu hinf _ _ _ _ _ _ _ _ _ h3⟩
                have e1 : hh = 0 := by omega
                have e2 : l = 0 := by omega
                subst e1; subst e2
                exact .slz _
              · cases h
            · cases h
      · cases h
  · rename_i n e hu
    split at h
    · rename_i inf b off hinf
      have hm : mxu = none := by cases mxu with | none => rfl | some _ => exact hmx.elim
      subst hm
      split at h
      · rename_i hh hhe
        split at h
        · rename_i l hle
          cases h
          cases hx with
          | ptr hl =>
            rename_i lc
            obtain ⟨h1, h2, h3⟩ := bounds2_ok (P := P) (w := w) (s := false) (cap' := n) hhe hle hlo hhi (Nat.le_refl _) (Nat.le_refl _)
            refine ⟨.slice (some (if n = l then ⟨lc.blk, lc.sh + off, none⟩ else (⟨lc.blk, lc.sh + off, none⟩ : Addr).add (l * inf.size))) (hh - l) (n - l), ?_, ?_⟩
            · have := VR.sl (φ := φ) (b := b) (off := if n = l then off else off + l * inf.size) (len := hh - l) (cap := n - l) (ex := true) hl
              have e : (if n = l then (⟨lc.blk, lc.sh + off, none⟩ : Addr) else (⟨lc.blk, lc.sh + off, none⟩ : Addr).add (l * inf.size)) = ⟨lc.blk, lc.sh + (if n = l then off else off + l * inf.size), none⟩ := by
                split
                · rfl
                · rw [add_mk, Nat.add_assoc]
              rw [e]
              simpa using this
            · unfold Instr.sliceAt
              rw [Sem.run_bind, run_underlying hu]
              simp only [Result.andThen_ok, Instr.sureAddr, Sem.run_bind, Sem.run_pure, h3, sizeOf, typeInfo, run_program, hinf]
        · cases h
      · cases h
    · cases h
  · cases h

/-! ### Struct, array and slice literals -/
theorem setMany_cells : ∀ {cs vs : List AV} {us : List Value} {xs : Array Value} (off : Nat), VRs φ cs us → VRs φ vs xs.toList → off + cs.length ≤ vs.length →
    VRs φ (setMany vs off cs) ((us.zipIdx 0).foldl (fun c p => c.setIfInBounds (off + p.2) p.1) xs).toList := by
  intro cs
  suffices ∀ (k off : Nat) (vs : List AV) (us : List Value) (xs : Array Value), VRs φ cs us → VRs φ vs xs.toList →
      VRs φ (setMany vs (off + k) cs) ((us.zipIdx k).foldl (fun c p => c.setIfInBounds (off + p.2) p.1) xs).toList by
    intro vs us xs off h1 h2 _
    exact this 0 off vs us xs h1 h2
  induction cs with
  | nil => intro k off vs us xs h1 h2; cases h1; exact h2
  | cons c cs ih =>
    intro k off vs us xs h1 h2
    cases h1 with
    | cons a b =>
      rename_i u us
      simp only [setMany, List.zipIdx_cons, List.foldl_cons]
      have := ih (k + 1) off (vs.set (off + k) c) us (xs.setIfInBounds (off + k) u) b (by simpa using h2.set (off + k) a)
      exact this

def afill (place : Nat → Option (Nat × Nat)) (cells : List AV) : List (Nat × AV) → Option (List AV)
  | [] => some cells
  | (i, v) :: rest =>
    match place i with
    | none => none
    | some (off, size) => if v.cells.length = size ∧ off + v.cells.length ≤ cells.length ∧ AV.allOne v.cells = true then afill place (setManyF cells off v.cells) rest else none
/-- The parts of a literal. -/
def PartsR (φ : List Loc) : List (Nat × AV) → List (Nat × Value) → Prop
  | [], [] => True
  | a :: as, b :: bs => a.1 = b.1 ∧ VR φ a.2 b.2 ∧ PartsR φ as bs
  | _, _ => False
theorem afill_ok {place : Nat → Option (Nat × Nat)} : ∀ {ps : List (Nat × AV)} {qs : List (Nat × Value)} {cells r : List AV} {xs : Array Value}, afill place cells ps = some r → PartsR φ ps qs → VRs φ cells xs.toList →
    ∃ ys : Array Value, Instr.fill place xs qs = some ys ∧ VRs φ r ys.toList
  | [], [], cells, r, xs, h, _, hc => by simp [afill] at h; subst h; exact ⟨xs, rfl, hc⟩
  | (i, v) :: ps, (j, u) :: qs, cells, r, xs, h, hp, hc => by
    obtain ⟨e, hv, hp⟩ := hp
    simp only at e hv
    subst e
    simp only [afill] at h
    split at h
    · cases h
    · rename_i off size hpl
      split at h
      · rename_i hcond
        obtain ⟨h1, h2, h3⟩ := hcond
        have hcs := hv.cells (allOne_ne_bad h3)
        have hl := hcs.length
        have hl2 := hc.length
        simp only [Array.length_toList] at hl hl2
        have e2 : u.cells.zipIdx.foldl (fun cs (x : Value × Nat) => cs.setIfInBounds (off + x.2) x.1) xs = (u.cells.toList.zipIdx 0).foldl (fun c p => c.setIfInBounds (off + p.2) p.1) xs := by
          rw [← Array.foldl_toList, Array.toList_zipIdx]
        have hset := setMany_cells off hcs hc (by omega)
        rw [← e2, ← setManyF_eq] at hset
        obtain ⟨ys, h4, h5⟩ := afill_ok h hp hset
        refine ⟨ys, ?_, h5⟩
        simp only [Instr.fill, hpl]
        rw [if_neg (by simp; omega)]
        exact h4
      · cases h
  | [], _ :: _, _, _, _, _, hp, _ => hp.elim
  | _ :: _, [], _, _, _, _, hp, _ => hp.elim
end
end Go.Ve

namespace Go.Ve
open Go Go.RowKit

section
variable {P : Program} {w0 : Base} {w : World} {φ : List Loc} {H : AH}

def aplaces (P : Program) (fs : List Field) : Option (List (Nat × Nat)) :=
  match fs with
  | [] => some []
  | f :: fs =>
    match P.info? f.type, aplaces P fs with
    | some i, some r => some ((f.offset, i.size) :: r)
    | _, _ => none
theorem mapM_toList {α β : Type} (f : α → Sem β) (xs : Array α) (w : World) (r : List β) (h : (xs.toList.mapM f).run P w = .ok r w) : (xs.mapM f).run P w = .ok r.toArray w := by
  rw [Array.mapM_eq_mapM_toList]
  rw [Sem.run_map, h]
  rfl
theorem aplaces_ok (w : World) : ∀ {fs : List Field} {r : List (Nat × Nat)}, aplaces P fs = some r → (fs.mapM (m := Sem) fun f => do pure (f.offset, ← sizeOf f.type)).run P w = .ok r w
  | [], r, h => by simp [aplaces] at h; subst h; rfl
  | f :: fs, r, h => by
    simp only [aplaces] at h
    split at h
    · rename_i i r' hi hr
      cases h
      have := aplaces_ok w hr
      simp only [List.mapM_cons, Sem.run_bind, sizeOf, typeInfo, run_program, hi, Result.andThen_ok, Sem.run_pure]
      simp only [sizeOf, typeInfo] at this
      rw [this]
      rfl
    · cases h
def abuild (P : Program) (t : TypeId) (parts : List (Nat × AV)) : Option AV :=
  match azero P t, P.underlying t with
  | some z, some (.struct fs) =>
    match aplaces P fs.toList with
    | some pl => (afill (pl[·]?) z parts).map .agg
    | none => none
  | some z, some (.array _ e) =>
    match P.info? e with
    | some i => (afill (fun k => some (k * i.size, i.size)) z parts).map .agg
    | none => none
  | _, _ => none
theorem abuild_ok {t : TypeId} {ps : List (Nat × AV)} {qs : Array (Nat × Value)} {v : AV} (h : abuild P t ps = some v) (hp : PartsR φ ps qs.toList) : ∃ u, VR φ v u ∧ (Instr.build t qs).run P w = .ok u w := by
  unfold abuild at h
  split at h
  · rename_i z fs hz hu
    obtain ⟨i, zv, h1, h2, h3⟩ := azero_ok hz φ
    split at h
    · rename_i pl hpl
      cases hf : afill (pl[·]?) z ps with
      | none => rw [hf] at h; cases h
      | some r =>
        rw [hf] at h; cases h
        obtain ⟨ys, h4, h5⟩ := afill_ok hf hp h3
        refine ⟨.agg ys, .agg h5, ?_⟩
        have hm := mapM_toList (P := P) (fun f => do pure (f.offset, ← sizeOf f.type)) fs w pl (aplaces_ok w hpl)
        unfold Instr.build
        simp only [Sem.run_bind, zeroValue, typeInfo, run_program, h1, h2, Result.andThen_ok, Sem.run_pure, run_underlying hu, hm]
        have e : (fun x : Nat => (pl.toArray)[x]?) = (fun x : Nat => pl[x]?) := by funext x; simp
        simp only [e, h4]
        rfl
    · cases h
  · rename_i z n e hz hu
    obtain ⟨i0, zv, h1, h2, h3⟩ := azero_ok hz φ
    split at h
    · rename_i i hi
      cases hf : afill (fun k => some (k * i.size, i.size)) z ps with
      | none => rw [hf] at h; cases h
      | some r =>
        rw [hf] at h; cases h
        obtain ⟨ys, h4, h5⟩ := afill_ok hf hp h3
        refine ⟨.agg ys, .agg h5, ?_⟩
        unfold Instr.build
        simp only [Sem.run_bind, zeroValue, typeInfo, run_program, h1, h2, Result.andThen_ok, Sem.run_pure, run_underlying hu, sizeOf, hi, h4]
    · cases h
  · cases h

/-- n times the cells of a zero value. -/
def azeros (n : Nat) (z : List AV) : List AV := (List.replicate n z).flatten
theorem azeros_ok {z : List AV} {zu : List Value} (h : VRs φ z zu) : ∀ n, VRs φ (azeros n z) (List.replicate n zu).flatten
  | 0 => .nil
  | n + 1 => by
    have := azeros_ok h n
    simp only [azeros, List.replicate_succ, List.flatten_cons]
    exact h.append this
theorem range_mod (z : Array Value) : ∀ n, ((Array.range (n * z.size)).map fun i => z[i % z.size]!).toList = (List.replicate n z.toList).flatten
  | 0 => by simp
  | n + 1 => by
    have ih := range_mod z n
    simp only [Array.toList_map, Array.toList_range] at ih ⊢
    rw [Nat.add_mul, Nat.one_mul, List.range_add, List.map_append, ih, List.replicate_succ', List.flatten_append]
    congr 1
    simp only [List.map_map, List.flatten_cons, List.flatten_nil, List.append_nil]
    apply List.ext_getElem
    · simp
    · intro i h1 h2
      simp at h1 h2
      simp [Nat.mul_add_mod_self_right, Nat.mod_eq_of_lt h2, h2]
theorem range_mod' (z : Array Value) (m n : Nat) (hm : m = n * z.size) : ((Array.range m).map (z[· % z.size]!)).toList = (List.replicate n z.toList).flatten := by
  subst hm; exact range_mod z n

def abuildSlice (P : Program) (t : TypeId) (len : Nat) (parts : List (Nat × AV)) (H : AH) : Option (AV × AH) :=
  match P.underlying t with
  | some (.slice e) =>
    match P.info? e, azero P e with
    | some i, some z =>
      if len * i.size ≤ 16777216 ∧ i.size = z.length then
        match afill (fun k => some (k * i.size, i.size)) (azeros len z) parts with
        | some cs => some (.sl H.length 0 len len true, H ++ [.cells cs 0 false])
        | none => none
      else none
    | _, _ => none
  | _ => none
theorem abuildSlice_ok (hr : Rel w0 φ H w) {t : TypeId} {len : Nat} {ps : List (Nat × AV)} {qs : Array (Nat × Value)} {v : AV} {H' : AH} (h : abuildSlice P t len ps H = some (v, H')) (hp : PartsR φ ps qs.toList) :
    ∃ u w' φ', (Instr.buildSlice t len qs).run P w = .ok u w' ∧ Ext φ φ' ∧ VR φ' v u ∧ Rel w0 φ' H' w' := by
  unfold abuildSlice at h
  split at h
  · rename_i e hu
    split at h
    · rename_i i z hi hz
      obtain ⟨i', zv, h1, h2, h3⟩ := azero_ok hz φ
      rw [hi] at h1; cases h1
      split at h
      · rename_i hc
        obtain ⟨hc1, hc2⟩ := hc
        split at h
        · rename_i cs hf
          cases h
          have hzl := h3.length
          simp only [Array.length_toList] at hzl
          have hz0 : VRs φ (azeros len z) ((Array.range (len * i.size)).map ((if len * i.size = 0 then #[] else zv.cells)[· % (if len * i.size = 0 then #[] else zv.cells).size]!)).toList := by
            by_cases h0 : len * i.size = 0
            · simp only [h0]
              have : azeros len z = [] := by
                rcases Nat.mul_eq_zero.1 h0 with h | h
                · subst h; rfl
                · have : z = [] := by apply List.eq_nil_of_length_eq_zero; omega
                  subst this; simp [azeros]
              rw [this]; simpa using VRs.nil
            · simp only [h0, if_false]
              rw [range_mod' zv.cells _ len (by rw [hc2, hzl])]
              exact azeros_ok h3 len
          obtain ⟨ys, h4, h5⟩ := afill_ok hf hp hz0
          have hnew := hr.newCells e h5 0 0 #[] (by simp)
          refine ⟨.slice (some ⟨w.heap.size, 0, none⟩) len len, _, _, ?_, Ext.snoc _ _, ?_, by simpa using hnew⟩
          · unfold Instr.buildSlice
            simp only [Sem.run_bind, run_underlying hu, Result.andThen_ok, sizeOf, typeInfo, run_program, hi, Sem.run_pure]
            rw [if_neg (by omega)]
            by_cases h0 : len * i.size = 0
            · simp only [h0, if_true] at h4 ⊢
              simp only [pure_bind, h4]
              rfl
            · simp only [h0, if_false] at h4 ⊢
              simp only [zeroValue, Sem.run_bind, typeInfo, run_program, hi, h2, Sem.run_pure, Result.andThen_ok, h4]
              rfl
          · have : (φ ++ [(⟨w.heap.size, 0, 0⟩ : Loc)])[H.length]? = some ⟨w.heap.size, 0, 0⟩ := by rw [← hr.len]; simp
            simpa using VR.sl (off := 0) (len := len) (cap := len) (ex := true) this
        · cases h
      · cases h
    · cases h
  · cases h

def amakeSlice (P : Program) (t : TypeId) (len cap : AV) (H : AH) : Option (AV × AH) :=
  match P.underlying t, len, cap with
  | some (.slice e), .int _ l, .int _ c =>
    match P.info? e, azero P e with
    | some i, some z =>
      if 0 ≤ l ∧ l ≤ c ∧ c ≤ (maxLen : Int) ∧ (i.bytes : Int) * c ≤ 140737488355328 ∧ i.size = z.length then
        some (.sl H.length 0 l.toNat c.toNat true, H ++ [.cells (azeros c.toNat z) (mtag P e) false])
      else none
    | _, _ => none
  | _, _, _ => none
theorem wrap_i64 {n : Int} (h0 : 0 ≤ n) (h1 : n ≤ (maxLen : Int)) : IntKind.i64.wrap n = n := by
  have : (maxLen : Int) = 9223372036854775807 := by unfold maxLen; rfl
  rw [this] at h1
  exact IntWalk.i64_in _ (by omega)
theorem amakeSlice_ok (hr : Rel w0 φ H w) {t : TypeId} {len cap v : AV} {lu cu : Value} {H' : AH} (h : amakeSlice P t len cap H = some (v, H')) (hl : VR φ len lu) (hc : VR φ cap cu) :
    ∃ u w' φ', (Instr.makeSlice t lu cu).run P w = .ok u w' ∧ Ext φ φ' ∧ VR φ' v u ∧ Rel w0 φ' H' w' := by
  unfold amakeSlice at h
  split at h
  · rename_i e k l k' c hu
    cases hl; cases hc
    split at h
    · rename_i i z hi hz
      obtain ⟨i', zv, h1, h2, h3⟩ := azero_ok hz φ
      rw [hi] at h1; cases h1
      split at h
      · rename_i hcond
        obtain ⟨c1, c2, c3, c4, c5⟩ := hcond
        cases h
        have hzl := h3.length
        simp only [Array.length_toList] at hzl
        have hl2 := wrap_i64 c1 (Int.le_trans c2 c3)
        have hc2 := wrap_i64 (Int.le_trans c1 c2) c3
        have hz0 : VRs φ (azeros c.toNat z) ((Array.range (c.toNat * i.size)).map ((if c.toNat * i.size = 0 then #[] else zv.cells)[· % (if c.toNat * i.size = 0 then #[] else zv.cells).size]!)).toList := by
          by_cases h0 : c.toNat * i.size = 0
          · simp only [h0]
            have : azeros c.toNat z = [] := by
              rcases Nat.mul_eq_zero.1 h0 with h | h
              · rw [h]; rfl
              · have : z = [] := by apply List.eq_nil_of_length_eq_zero; omega
                subst this; simp [azeros]
            rw [this]; simpa using VRs.nil
          · simp only [h0, if_false]
            rw [range_mod' zv.cells _ c.toNat (by rw [c5, hzl])]
            exact azeros_ok h3 _
        have hnew := hr.newCells e hz0 (mtag P e) 0 #[] (by simp) (fun t h => tyOf_mtag h)
        refine ⟨.slice (some ⟨w.heap.size, 0, none⟩) l.toNat c.toNat, _, _, ?_, Ext.snoc _ _, ?_, by simpa using hnew⟩
        · unfold Instr.makeSlice
          simp only [Sem.run_bind, run_underlying hu, Result.andThen_ok, asInt, asIntOf, typeInfo, run_program, hi, Sem.run_pure, hl2, hc2]
          have t1 : ¬ ((i.bytes : Int) * c > 2 ^ 48) := by
            have : (2 : Int) ^ 48 = 281474976710656 := by decide
            omega
          have t2 : ¬ (c < 0) := by omega
          have t3 : ¬ (l < 0) := by omega
          have t4 : ¬ (l > c) := by omega
          simp only [t1, t2, t3, t4, decide_false, Bool.or_self, Bool.false_eq_true, if_false, run_askRoom, Result.andThen_ok, sizeOf, typeInfo, Sem.run_bind, run_program, hi, Sem.run_pure]
          by_cases h0 : c.toNat * i.size = 0
          · simp only [h0, if_true]
            rfl
          · simp only [h0, if_false]
            simp only [zeroValue, Sem.run_bind, typeInfo, run_program, hi, h2, Sem.run_pure, Result.andThen_ok]
            rfl
        · have : (φ ++ [(⟨w.heap.size, 0, 0⟩ : Loc)])[H.length]? = some ⟨w.heap.size, 0, 0⟩ := by rw [← hr.len]; simp
          simpa using VR.sl (off := 0) (len := l.toNat) (cap := c.toNat) (ex := true) this
      · cases h
    · cases h
  · cases h
end
end Go.Ve

namespace Go.Ve
open Go Go.RowKit

theorem setCells_other (b : Nat) : ∀ (vs : List Value) (o : Nat) (w : World) (j : Nat), j ≠ b → (w.setCells b o vs).heap[j]? = w.heap[j]?
  | [], _, _, _, _ => rfl
  | v :: r, o, w, j, h => by
    rw [World.setCells, setCells_other b r (o + 1) _ j h]
    simp only [World.setCell, Array.getElem?_modify]
    rw [if_neg (Ne.symm h)]
theorem setCells_same (b : Nat) : ∀ (vs : List Value) (o : Nat) (w : World) (c : Array Value) (e : TypeId) (fz : Nat × Nat), w.heap[b]? = some (.cells c e fz) →
    ∃ c', (w.setCells b o vs).heap[b]? = some (.cells c' e fz) ∧ c'.size = c.size
  | [], _, _, c, _, _, h => ⟨c, h, rfl⟩
  | v :: r, o, w, c, e, fz, h => by
    have h1 : (w.setCell ⟨b, o, none⟩ v).heap[b]? = some (.cells (c.setIfInBounds o v) e fz) := by
      simp only [World.setCell, Array.getElem?_modify, if_true, h, Option.map_some]
      simp
    obtain ⟨c', h2, h3⟩ := setCells_same b r (o + 1) _ _ _ _ h1
    exact ⟨c', h2, by simpa using h3⟩
theorem setCells_rest (b : Nat) : ∀ (vs : List Value) (o : Nat) (w : World), (w.setCells b o vs).os = w.os ∧ (w.setCells b o vs).tape = w.tape ∧ (w.setCells b o vs).output = w.output ∧ (w.setCells b o vs).heap.size = w.heap.size
  | [], _, _ => ⟨rfl, rfl, rfl, rfl⟩
  | v :: r, o, w => by
    obtain ⟨h1, h2, h3, h4⟩ := setCells_rest b r (o + 1) (w.setCell ⟨b, o, none⟩ v)
    exact ⟨h1, h2, h3, by rw [World.setCells, h4]; simp⟩

section
variable {P : Program} {w0 : Base} {w : World} {φ : List Loc} {H : AH}

theorem cell_in {c : Array Value} {e : TypeId} {fz : Nat × Nat} {b j : Nat} (h : w.heap[b]? = some (.cells c e fz)) (hj : j < c.size) : (w.cell? ⟨b, j, none⟩).isSome = true := by
  simp [World.cell?, h, hj]

/-- The old block is given up: a new name for its memory, which now reaches into what was spare. -/
theorem Rel.into (h : Rel w0 φ H w) {b esz : Nat} {vs cs : List AV} {us : List Value} {l : Loc} (hb : H[b]? = some (.cells vs esz false)) (hl : φ[b]? = some l) (off n : Nat) (hoff : off ≤ vs.length) (hn : n ≤ l.slk)
    (hcs : VRs φ cs us) (hlen : cs.length = n * szOf esz) (hone : ∀ c ∈ cs, c.one = true) (hty : ∀ t, tyOf esz = some t → szOf esz = 1) :
    (storeCells ⟨l.blk, l.sh + vs.length, none⟩ us 0).run P w = .ok () (w.setCells l.blk (l.sh + vs.length) us) ∧
    Rel w0 (φ ++ [⟨l.blk, l.sh + off, l.slk - n⟩]) (H.set b .dead ++ [.cells (vs.drop off ++ cs) esz false]) (w.setCells l.blk (l.sh + vs.length) us) := by
  obtain ⟨⟨h1, c, e, fz, h2, h3, h4, h10⟩, h5⟩ := h.blocks b _ l hb hl
  have hul : us.length = n * szOf esz := by rw [← hlen, hcs.length]
  have hmul : n * szOf esz ≤ l.slk * szOf esz := Nat.mul_le_mul_right _ hn
  have hsub : (l.slk - n) * szOf esz = l.slk * szOf esz - n * szOf esz := Nat.sub_mul _ _ _
  have hblen : b < H.length := (List.getElem?_eq_some_iff.1 hb).1
  obtain ⟨r1, r2, r3, r4⟩ := setCells_rest l.blk us (l.sh + vs.length) w
  have huone : ∀ v ∈ us, v.oneCell' = true := by
    intro v hv
    obtain ⟨j, hj⟩ := List.getElem?_of_mem hv
    have hjl : j < cs.length := by have := (List.getElem?_eq_some_iff.1 hj).1; omega
    obtain ⟨u, hu1, hu2⟩ := hcs.get (List.getElem?_eq_getElem hjl)
    rw [hj] at hu1; cases hu1
    exact hu2.one_cell (hone _ (List.getElem_mem hjl))
  have hcell : ∀ j, j < us.length → (w.cell? ⟨l.blk, l.sh + vs.length + 0 + j, none⟩).isSome = true := fun j hj => cell_in h2 (by omega)
  have hcell' : ∀ j, j < us.length → (w.cell? ⟨l.blk, l.sh + vs.length + j, none⟩).isSome = true := fun j hj => cell_in h2 (by omega)
  have hfz : ∀ j, j < us.length → w.frozen? ⟨l.blk, l.sh + vs.length + 0 + j, none⟩ = false := fun j hj => by
    have := h4 (vs.length + j) (by omega)
    rwa [show l.sh + (vs.length + j) = l.sh + vs.length + 0 + j by omega] at this
  refine ⟨by simpa using run_storeCells_cells (P := P) l.blk (l.sh + vs.length) us 0 w hcell hfz huone, ?_⟩
  obtain ⟨c', h6, h7⟩ := setCells_same l.blk us (l.sh + vs.length) w c e fz h2
  have hext : Ext φ (φ ++ [(⟨l.blk, l.sh + off, l.slk - n⟩ : Loc)]) := Ext.snoc _ _
  have hnew : BR w0 (φ ++ [⟨l.blk, l.sh + off, l.slk - n⟩]) (w.setCells l.blk (l.sh + vs.length) us) ⟨l.blk, l.sh + off, l.slk - n⟩ (.cells (vs.drop off ++ cs) esz false) := by
    refine ⟨⟨h1, c', e, fz, h6, ?_, fun j hj => ?_, ⟨fun t ht => ⟨(h10.1 t ht).1, by rw [hty t ht]; exact Nat.mod_one _⟩, h10.2⟩⟩, ?_⟩
    · simp only [List.length_append, List.length_drop]
      omega
    · simp only [List.length_append, List.length_drop] at hj
      rw [World.frozen?_setCells]
      have := h4 (off + j) (by omega)
      rwa [show l.sh + (off + j) = l.sh + off + j by omega] at this
    · intro j v hj
      by_cases hjl : j < vs.length - off
      · rw [List.getElem?_append_left (by simpa using hjl), List.getElem?_drop] at hj
        obtain ⟨u, hu1, hu2⟩ := h5 _ _ hj
        refine ⟨u, hu1.mono hext, ?_⟩
        rw [World.cell?_setCells_out]
        · show w.cell? ⟨l.blk, l.sh + off + j, none⟩ = some u
          rw [show l.sh + off + j = l.sh + (off + j) by omega]; exact hu2
        · intro _ _; left; show l.sh + off + j < l.sh + vs.length; omega
      · rw [List.getElem?_append_right (by simpa using Nat.le_of_not_lt hjl)] at hj
        simp only [List.length_drop] at hj
        obtain ⟨u, hu1, hu2⟩ := hcs.get hj
        have hk := (List.getElem?_eq_some_iff.1 hu1).1
        refine ⟨u, hu2.mono hext, ?_⟩
        have := World.cell?_setCells_in l.blk us (l.sh + vs.length) w hcell' (j - (vs.length - off)) hk
        rw [List.getElem?_eq_getElem hk] at hu1
        cases hu1
        rw [← this]
        show (w.setCells _ _ _).cell? ⟨l.blk, l.sh + off + j, none⟩ = _
        rw [show l.sh + off + j = l.sh + vs.length + (j - (vs.length - off)) by omega]
  have split : ∀ (b' : Nat) (k' : ABlk) (l' : Loc), (H.set b .dead ++ [.cells (vs.drop off ++ cs) esz false])[b']? = some k' → (φ ++ [(⟨l.blk, l.sh + off, l.slk - n⟩ : Loc)])[b']? = some l' →
      (b' = b ∧ k' = .dead) ∨ (b' ≠ b ∧ H[b']? = some k' ∧ φ[b']? = some l') ∨ (b' = H.length ∧ k' = .cells (vs.drop off ++ cs) esz false ∧ l' = ⟨l.blk, l.sh + off, l.slk - n⟩) := fun b' k' l' hb' hl' => by
    rcases Nat.lt_trichotomy b' H.length with hlt | heq | hgt
    · rw [List.getElem?_append_left (by simpa using hlt)] at hb'
      rw [List.getElem?_append_left (by rw [h.len]; exact hlt)] at hl'
      by_cases e : b' = b
      · subst e
        rw [List.getElem?_set_self hlt] at hb'
        simp at hb'
        exact .inl ⟨rfl, hb'.symm⟩
      · rw [List.getElem?_set_ne (Ne.symm e)] at hb'
        exact .inr (.inl ⟨e, hb', hl'⟩)
    · right; right
      subst heq
      rw [List.getElem?_append_right (by simp)] at hb'
      rw [List.getElem?_append_right (by rw [h.len]; omega), h.len] at hl'
      simp at hb' hl'
      exact ⟨rfl, hb'.symm, hl'.symm⟩
    · rw [List.getElem?_eq_none (by simp; omega)] at hb'; simp at hb'
  refine ⟨by simp [h.len], ⟨r1.trans h.below.os, r2.trans h.below.tape, r3.trans h.below.output, by rw [r4]; exact h.below.size, fun j hj => ?_⟩, ?_, ?_⟩
  · rw [setCells_other _ _ _ _ _ (by intro e; rw [e] at hj; exact h1 hj)]; exact h.below.block j hj
  · intro b' k' l' hb' hl'
    rcases split b' k' l' hb' hl' with ⟨_, rfl⟩ | ⟨e1, e2, e3⟩ | ⟨_, rfl, rfl⟩
    · trivial
    · by_cases hd : k' = .dead
      · subst hd; trivial
      · have hbr := h.blocks b' k' l' e2 e3
        refine (hbr.keep (setCells_other _ _ _ _ _ ?_)).mono hext
        intro he
        cases ho2 : k'.own with
        | true => exact e1 (h.inj b' b k' _ l' l e2 hb e3 hl ho2 rfl he)
        | false => exact h1 (he ▸ hbr.ro_lt ho2 hd)
    · exact hnew
  · intro b1 b2 k1 k2 l1 l2 hb1 hb2 hl1 hl2 o1 o2 he
    rcases split b1 k1 l1 hb1 hl1 with ⟨_, rfl⟩ | ⟨e1, e2, e3⟩ | ⟨q1, rfl, rfl⟩
    · simp [ABlk.own] at o1
    · rcases split b2 k2 l2 hb2 hl2 with ⟨_, rfl⟩ | ⟨e1', e2', e3'⟩ | ⟨q2, rfl, rfl⟩
      · simp [ABlk.own] at o2
      · exact h.inj b1 b2 k1 k2 l1 l2 e2 e2' e3 e3' o1 o2 he
      · exact absurd (h.inj b1 b k1 _ l1 l e2 hb e3 hl o1 rfl he) e1
    · rcases split b2 k2 l2 hb2 hl2 with ⟨_, rfl⟩ | ⟨e1', e2', e3'⟩ | ⟨q2, rfl, rfl⟩
      · simp [ABlk.own] at o2
      · exact absurd (h.inj b2 b k2 _ l2 l e2' hb e3' hl o2 rfl he.symm) e1'
      · omega

/-- A block is forgotten. -/
theorem Rel.kill (h : Rel w0 φ H w) (b : Nat) : Rel w0 φ (H.set b .dead) w := by
  have aux : ∀ (b1 : Nat) (k1 : ABlk), (H.set b .dead)[b1]? = some k1 → k1 = .dead ∨ H[b1]? = some k1 := fun b1 k1 hb1 => by
    by_cases e : b1 = b
    · subst e
      have := (List.getElem?_eq_some_iff.1 hb1).1
      rw [List.getElem?_set_self (by simpa using this)] at hb1
      simp at hb1; exact .inl hb1.symm
    · rw [List.getElem?_set_ne (Ne.symm e)] at hb1; exact .inr hb1
  refine ⟨by simp [h.len], h.below, fun b1 k1 l1 hb1 hl1 => ?_, fun b1 b2 k1 k2 l1 l2 hb1 hb2 hl1 hl2 o1 o2 he => ?_⟩
  · rcases aux b1 k1 hb1 with rfl | hq
    · trivial
    · exact h.blocks b1 k1 l1 hq hl1
  · rcases aux b1 k1 hb1 with rfl | hq1
    · simp [ABlk.own] at o1
    · rcases aux b2 k2 hb2 with rfl | hq2
      · simp [ABlk.own] at o2
      · exact h.inj b1 b2 k1 k2 l1 l2 hq1 hq2 hl1 hl2 o1 o2 he

/-- What is appended: how many elements, and their cells. -/
def anews (H : AH) (size : Nat) : AV → Option (Nat × List AV)
  | .sl b off n _ _ =>
    match cellsOf? H b with
    | some vs => if off + n * size ≤ vs.length then some (n, (vs.drop off).take (n * size)) else none
    | none => none
  | .nilsl => some (0, [])
  | .sle _ _ _ => some (0, [])
  | .slz => some (0, [])
  | .str s => if size = 1 then some (s.length, s.map fun c => .int .u8 c.toNat) else none
  | _ => none
theorem anews_len {size : Nat} {x : AV} {n : Nat} {cs : List AV} (h : anews H size x = some (n, cs)) : cs.length = n * size := by
  unfold anews at h
  split at h
  · split at h
    · split at h
      · cases h; simp; omega
      · cases h
    · cases h
  · cases h; simp
  · cases h; simp
  · cases h; simp
  · split at h
    · rename_i hs; subst hs; cases h; simp
    · cases h
  · cases h
theorem anews_ok (hr : Rel w0 φ H w) {size : Nat} {x : AV} {xu : Value} {n : Nat} {cs : List AV} (h : anews H size x = some (n, cs)) (hx : VR φ x xu) :
    (Builtin.lenOf xu).run P w = .ok n w ∧ ∃ us : Array Value, VRs φ cs us.toList ∧ (Builtin.firstCells size n xu).run P w = .ok us w := by
  unfold anews at h
  split at h
  · split at h
    · rename_i b off n1 cap1 ex1 _x vs hb
      split at h
      · rename_i hle
        cases h
        cases hx with
        | sl hl =>
          obtain ⟨us, h1, h2, h3⟩ := (hr.cellsR hb hl).get off _ hle
          have hload := run_loadCells_list (P := P) w _ us (fun j u hu => by rw [add_mk]; exact h3 j u hu)
          rw [h1] at hload
          exact ⟨rfl, us.toArray, by simpa using h2, hload⟩
      · cases h
    · cases h
  · cases h; cases hx; exact ⟨rfl, #[], .nil, rfl⟩
  · cases h
    cases hx with
    | sle hl =>
      refine ⟨rfl, #[], .nil, ?_⟩
      simp [Builtin.firstCells, loadCells, loadCellsFrom]
  · cases h
    cases hx with
    | slz a =>
      refine ⟨rfl, #[], .nil, ?_⟩
      simp [Builtin.firstCells, loadCells, loadCellsFrom]
  · split at h
    · rename_i s hs
      cases h; cases hx
      refine ⟨rfl, (s.map fun c => Value.int .u8 c.toNat).toArray, ?_, ?_⟩
      · simpa using VRs.map_of (φ := φ) s (fun c => AV.int .u8 c.toNat) (fun c => Value.int .u8 c.toNat) (fun c _ => .int _ _)
      · simp only [Builtin.firstCells]
        have e : ((⟨⟨s⟩⟩ : ByteArray).extract 0 s.length).data = ⟨s⟩ := by
          rw [ByteArray.data_extract]
          apply Array.toList_inj.1
          simp [List.extract]
        rw [e]
        simp
    · cases h
  · cases h

def isIntD : TypeDesc → Bool
  | .int _ => true
  | _ => false
theorem isIntD_eq (d : TypeDesc) : (match d with | .int _ => true | _ => false) = isIntD d := by cases d <;> rfl

theorem append_in {t t2 e ty : TypeId} {d2 : TypeDesc} {inf : TypeInfo} {base : Option Addr} {sLen sCap n : Nat} {x : Value} {us : Array Value} (hu : P.underlying t = some (.slice e)) (h2 : P.underlying t2 = some d2) (hd : isIntD d2 = false)
    (hi : P.info? e = some inf) (hlen : (Builtin.lenOf x).run P w = .ok n w) (hnew : (Builtin.firstCells inf.size n x).run P w = .ok us w) (hcap : sLen + n ≤ sCap) :
    (Builtin.append_ #[t, t2] ty #[.slice base sLen sCap, x]).run P w =
      ((match base with | some a => storeCells (a.add (sLen * inf.size)) us.toList | none => pure () : Sem Unit).run P w).andThen fun _ w' => .ok (.slice base (sLen + n) sCap) w' := by
  have hz : ∀ d, isIntD d = false → (match d with | .int _ => true | _ => false) = false := fun d h => by rw [isIntD_eq]; exact h
  unfold Builtin.append_
  simp only [List.getElem?_toArray, List.getElem?_cons_zero, List.getElem?_cons_succ, Sem.run_bind, run_underlying hu, run_underlying h2, Result.andThen_ok, sizeOf, typeInfo, run_program, hi, Sem.run_pure]
  cases d2 <;> simp only [isIntD] at hd <;> try cases hd
  all_goals
    simp only [Bool.false_eq_true, if_false, hlen, Result.andThen_ok, hcap, if_true, Bool.not_false, Sem.run_bind, hnew]
    cases base <;> simp

theorem append_out {t t2 e ty : TypeId} {d2 : TypeDesc} {inf : TypeInfo} {z : Value} {base : Option Addr} {sLen sCap n : Nat} {x : Value} {us os : Array Value} (hu : P.underlying t = some (.slice e)) (h2 : P.underlying t2 = some d2) (hd : isIntD d2 = false)
    (hi : P.info? e = some inf) (hz : inf.zero = some z) (hlen : (Builtin.lenOf x).run P w = .ok n w) (hnew : (Builtin.firstCells inf.size n x).run P { w with drawn := w.drawn + 1 } = .ok us { w with drawn := w.drawn + 1 })
    (hold : (Builtin.firstCells inf.size sLen (.slice base sLen sCap)).run P { w with drawn := w.drawn + 1 } = .ok os { w with drawn := w.drawn + 1 })
    (hcap : ¬ sLen + n ≤ sCap) (h63 : sLen + n ≤ maxLen) (hby : (sLen + n) * inf.bytes ≤ 140737488355328) :
    ∃ newCap extra, sLen + n ≤ newCap ∧ extra.size = (newCap - (sLen + n)) * z.cells.size ∧
    (Builtin.append_ #[t, t2] ty #[.slice base sLen sCap, x]).run P w =
      .ok (.slice (some ⟨w.heap.size, 0, none⟩) (sLen + n) newCap) { w with drawn := w.drawn + 1, heap := w.heap.push (.cells (os ++ us ++ extra) e) } := by
  refine ⟨(Question.appendCap (sLen + n) sCap e).cut (w.tape w.drawn (.appendCap (sLen + n) sCap e)), Builtin.zeroCells z.cells ((Question.appendCap (sLen + n) sCap e).cut (w.tape w.drawn (.appendCap (sLen + n) sCap e)) - (sLen + n)), ?_, ?_, ?_⟩
  · simp [Question.cut]
  · simp [Builtin.zeroCells]
  · have hfit := growslice_fits (need := sLen + n) (old := sCap) (bytes := inf.bytes) (by omega) hby
    have hm := maxLen_i64
    have e1 : ¬ (((sLen + n : Nat) : Int) > IntKind.i64.max) := by omega
    have e2 : ¬ (Builtin.nextslicecap (sLen + n) sCap * inf.bytes > 2 ^ 48) := by
      have : (2 : Nat) ^ 48 = 281474976710656 := by decide
      omega
    unfold Builtin.append_
    simp only [List.getElem?_toArray, List.getElem?_cons_zero, List.getElem?_cons_succ, Sem.run_bind, run_underlying hu, run_underlying h2, Result.andThen_ok, sizeOf, typeInfo, run_program, hi, Sem.run_pure]
    cases d2 <;> simp only [isIntD] at hd <;> try cases hd
    all_goals
      simp only [Bool.false_eq_true, if_false, hlen, Result.andThen_ok, hcap, Bool.not_false, if_true, Sem.run_bind, e1, false_and, e2, run_choose, Question.forced, run_program, hi, Sem.run_pure, run_askRoom, hold, hnew, zeroValue, typeInfo, hz, newRow, run_newObj]

def aappend (P : Program) (t t2 : TypeId) (s x : AV) (H : AH) : Option (AV × AH) :=
  match P.underlying t, P.underlying t2 with
  | some (.slice e), some d2 =>
    match isIntD d2, P.info? e, azero P e with
    | false, some inf, some z =>
      if z.length = inf.size ∧ inf.size < 65536 then
        match anews H inf.size x with
        | none => none
        | some (n, cs) =>
          match s with
          | .nilsl =>
            if n = 0 then some (.nilsl, H)
            else if n ≤ maxLen ∧ n * inf.bytes ≤ 140737488355328 then some (.sl H.length 0 n n false, H ++ [.cells cs (btag P e inf.size) false])
            else none
          | .sl b off len cap ex =>
            match H[b]? with
            | some (.cells vs esz ro) =>
              if len ≤ cap ∧ off + len * inf.size ≤ vs.length then
                if n = 0 then some (.sl b off len cap ex, H)
                else if len + n ≤ cap then
                  if ro = false ∧ off + (len + n) * inf.size ≤ vs.length ∧ AV.allOne cs = true then some (.sl b off (len + n) cap ex, H.set b (.cells (setManyF vs (off + len * inf.size) cs) esz false)) else none
                else if len + n ≤ maxLen ∧ (len + n) * inf.bytes ≤ 140737488355328 then
                  if ex then some (.sl H.length 0 (len + n) (len + n) false, H ++ [.cells ((vs.drop off).take (len * inf.size) ++ cs) (btag P e inf.size) false])
                  else if ro = false ∧ len = cap ∧ off + len * inf.size = vs.length ∧ esz = btag P e inf.size ∧ AV.allOne cs = true then
                    some (.sl H.length 0 (len + n) (len + n) false, H.set b .dead ++ [.cells (vs.drop off ++ cs) (btag P e inf.size) false])
                  else none
                else none
              else none
            | _ => none
          | .sle b off adv =>
            if n = 0 then some (.sle b off adv, H)
            else if n ≤ maxLen ∧ n * inf.bytes ≤ 140737488355328 then
              match H[b]? with
              | some (.cells vs esz ro) =>
                if ro = false ∧ off + adv = vs.length ∧ esz = btag P e inf.size ∧ AV.allOne cs = true then
                  some (.sl H.length 0 n n false, H.set b .dead ++ [.cells cs (btag P e inf.size) false])
                else none
              | _ => none
            else none
          | .slz =>
            if n = 0 then some (.slz, H)
            else if n ≤ maxLen ∧ n * inf.bytes ≤ 140737488355328 then some (.sl H.length 0 n n false, H ++ [.cells cs (btag P e inf.size) false])
            else none
          | _ => none
      else none
    | _, _, _ => none
  | _, _ => none

theorem newSl (h : φ.length = H.length) (l : Loc) (len cap : Nat) : VR (φ ++ [l]) (.sl H.length 0 len cap false) (.slice (some ⟨l.blk, l.sh, none⟩) len (cap + l.slk)) := by
  have : (φ ++ [l])[H.length]? = some l := by rw [← h]; simp
  simpa using VR.sl (off := 0) (len := len) (cap := cap) (ex := false) this
theorem Rel.drew' (h : Rel w0 φ H w) : Rel w0 φ H { w with drawn := w.drawn + 1 } := h.same rfl rfl rfl rfl

/-- A new array for what there is and what is appended. -/
theorem append_new (hr : Rel w0 φ H w) {t t2 e ty : TypeId} {d2 : TypeDesc} {inf : TypeInfo} {z : List AV} {base : Option Addr} {sLen sCap n : Nat} {x : AV} {xu : Value} {cs olds : List AV} {os : Array Value}
    (hu : P.underlying t = some (.slice e)) (h2 : P.underlying t2 = some d2) (hd : isIntD d2 = false) (hi : P.info? e = some inf) (hz : azero P e = some z) (hzs : z.length = inf.size) (hsm : inf.size < 65536)
    (hn : anews H inf.size x = some (n, cs)) (hx : VR φ x xu) (hos : VRs φ olds os.toList)
    (hold : (Builtin.firstCells inf.size sLen (.slice base sLen sCap)).run P { w with drawn := w.drawn + 1 } = .ok os { w with drawn := w.drawn + 1 })
    (hcap : ¬ sLen + n ≤ sCap) (h63 : sLen + n ≤ maxLen) (hby : (sLen + n) * inf.bytes ≤ 140737488355328) :
    ∃ u w' φ', (Builtin.append_ #[t, t2] ty #[.slice base sLen sCap, xu]).run P w = .ok u w' ∧ Ext φ φ' ∧ VR φ' (.sl H.length 0 (sLen + n) (sLen + n) false) u ∧ Rel w0 φ' (H ++ [.cells (olds ++ cs) (btag P e inf.size) false]) w' := by
  obtain ⟨i', zv, g1, g2, g3⟩ := azero_ok hz φ
  rw [hi] at g1; cases g1
  have hzl := g3.length
  simp only [Array.length_toList] at hzl
  obtain ⟨hlen, _⟩ := anews_ok (P := P) hr hn hx
  obtain ⟨_, us, hus, hnew⟩ := anews_ok (P := P) hr.drew' hn hx
  obtain ⟨newCap, extra, c1, c2, c3⟩ := append_out (ty := ty) hu h2 hd hi g2 hlen hnew hold hcap h63 hby
  refine ⟨_, _, φ ++ [⟨w.heap.size, 0, newCap - (sLen + n)⟩], c3, Ext.snoc _ _, ?_, ?_⟩
  · have := newSl hr.len ⟨w.heap.size, 0, newCap - (sLen + n)⟩ (sLen + n) (sLen + n)
    simp only at this
    rwa [show sLen + n + (newCap - (sLen + n)) = newCap by omega] at this
  · have hall : VRs φ (olds ++ cs) (os ++ us).toList := by simpa using hos.append hus
    exact hr.drew'.newCells e hall (btag P e inf.size) (newCap - (sLen + n)) extra (by rw [szOf_btag hsm, c2, ← hzl, hzs]) (fun t h => (tyOf_btag hsm h).1)
end
end Go.Ve

namespace Go.Ve
open Go Go.RowKit

section
variable {P : Program} {w0 : Base} {w : World} {φ : List Loc} {H : AH}

theorem sl_first (hr : Rel w0 φ H w) {b off len size : Nat} {vs : List AV} {esz : Nat} {ro : Bool} {l : Loc} (hb : H[b]? = some (.cells vs esz ro)) (hl : φ[b]? = some l) (hle : off + len * size ≤ vs.length) (n c : Nat) :
    ∃ us : Array Value, VRs φ ((vs.drop off).take (len * size)) us.toList ∧ (Builtin.firstCells size len (.slice (some ⟨l.blk, l.sh + off, none⟩) n c)).run P w = .ok us w := by
  obtain ⟨us, h1, h2, h3⟩ := ((hr.blocks b _ l hb hl).cellsR).get off _ hle
  have hload := run_loadCells_list (P := P) w ⟨l.blk, l.sh + off, none⟩ us (fun j u hu => by rw [add_mk]; exact h3 j u hu)
  rw [h1] at hload
  exact ⟨us.toArray, by simpa using h2, hload⟩

theorem aappend_ok (hr : Rel w0 φ H w) {t t2 ty : TypeId} {s x v : AV} {su xu : Value} {H' : AH} (h : aappend P t t2 s x H = some (v, H')) (hs : VR φ s su) (hx : VR φ x xu) :
    ∃ u w' φ', (Builtin.append_ #[t, t2] ty #[su, xu]).run P w = .ok u w' ∧ Ext φ φ' ∧ VR φ' v u ∧ Rel w0 φ' H' w' := by
  unfold aappend at h
  split at h
  · rename_i e d2 hu h2
    split at h
    · rename_i inf z hd hi hz
      split at h
      · rename_i hzs
        obtain ⟨hzs, hsm⟩ := hzs
        split at h
        · cases h
        · rename_i n cs hn
          have hcl := anews_len hn
          obtain ⟨hlen, us, hus, hnew⟩ := anews_ok (P := P) hr hn hx
          split at h
          · -- nil
            cases hs
            split at h
            · rename_i h0
              cases h; subst h0
              refine ⟨_, w, φ, append_in hu h2 hd hi hlen hnew (by omega), Ext.refl _, .nilsl, hr⟩
            · rename_i h0
              split at h
              · rename_i hb
                cases h
                obtain ⟨u, w', φ', g1, g2, g3, g4⟩ := append_new (ty := ty) (base := none) (sLen := 0) (sCap := 0) hr hu h2 hd hi hz hzs hsm hn hx (olds := []) (os := #[]) .nil rfl (by omega) (by omega) (by simpa using hb.2)
                exact ⟨u, w', φ', g1, g2, by simpa using g3, by simpa using g4⟩
              · cases h
          · -- a slice
            rename_i b off len cap ex
            split at h
            · rename_i vs esz ro hb
              split at h
              · rename_i hle
                obtain ⟨hlc, hle⟩ := hle
                cases hs with
                | sl hl =>
                  rename_i l
                  split at h
                  · rename_i h0
                    cases h; subst h0
                    have hcs0 : cs = [] := by apply List.eq_nil_of_length_eq_zero; omega
                    subst hcs0
                    have husnil : us.toList = [] := by cases hus' : us.toList with | nil => rfl | cons a b => rw [hus'] at hus; cases hus
                    rw [append_in hu h2 hd hi hlen hnew (by split <;> omega)]
                    refine ⟨.slice (some ⟨l.blk, l.sh + off, none⟩) (len + 0) (cap + if ex = true then 0 else l.slk), w, φ, ?_, Ext.refl _, .sl hl, hr⟩
                    simp [husnil, storeCells]
                  · rename_i h0
                    split at h
                    · rename_i hcap
                      split at h
                      · rename_i hc
                        obtain ⟨hro, hin, hone⟩ := hc
                        rw [setManyF_eq] at h
                        cases h
                        subst hro
                        have hmul : (len + n) * inf.size = len * inf.size + n * inf.size := Nat.add_mul _ _ _
                        obtain ⟨w', g1, g2⟩ := storeCells_ok (P := P) hl cs us.toList vs (off + len * inf.size) 0 H w hr hb hus (allOne_mem hone) (by omega)
                        refine ⟨.slice (some ⟨l.blk, l.sh + off, none⟩) (len + n) (cap + if ex = true then 0 else l.slk), w', φ, ?_, Ext.refl _, .sl hl, by simpa using g2⟩
                        rw [append_in hu h2 hd hi hlen hnew (by split <;> omega)]
                        simp only [add_mk]
                        rw [Nat.add_assoc, g1]
                        rfl
                      · cases h
                    · rename_i hcap
                      split at h
                      · rename_i hb63
                        obtain ⟨h63, hby⟩ := hb63
                        obtain ⟨os, ho1, ho2⟩ := sl_first (P := P) hr.drew' hb hl hle len (cap + if ex = true then 0 else l.slk)
                        split at h
                        · rename_i hex
                          cases h; subst hex
                          exact append_new (ty := ty) hr hu h2 hd hi hz hzs hsm hn hx ho1 ho2 (by simpa using hcap) h63 hby
                        · rename_i hex
                          have hex' : ex = false := by simpa using hex
                          subst hex'
                          split at h
                          · rename_i hc
                            obtain ⟨hro, hlcap, hfr, hesz, hone⟩ := hc
                            cases h
                            subst hro; subst hlcap; subst hesz
                            have htake : (vs.drop off).take (len * inf.size) = vs.drop off := by
                              apply List.take_of_length_le; simp; omega
                            by_cases hroom : n ≤ l.slk
                            · obtain ⟨g1, g2⟩ := Rel.into (P := P) hr hb hl off n (by omega) hroom hus (by rw [szOf_btag hsm]; exact hcl) (allOne_mem hone) (fun t ht => (tyOf_btag hsm ht).2)
                              refine ⟨.slice (some ⟨l.blk, l.sh + off, none⟩) (len + n) (len + if false = true then 0 else l.slk), _, _, ?_, Ext.snoc _ _, ?_, g2⟩
                              · rw [append_in hu h2 hd hi hlen hnew (by simp; omega)]
                                simp only [add_mk]
                                rw [show l.sh + off + len * inf.size = l.sh + vs.length by omega, g1]
                                rfl
                              · have := newSl (φ := φ) (H := H) hr.len ⟨l.blk, l.sh + off, l.slk - n⟩ (len + n) (len + n)
                                simp only at this
                                simpa [show len + n + (l.slk - n) = len + l.slk by omega] using this
                            · rw [htake] at ho1
                              obtain ⟨u, w', φ', g1, g2, g3, g4⟩ := append_new (ty := ty) hr hu h2 hd hi hz hzs hsm hn hx ho1 ho2 (by simp; omega) h63 hby
                              refine ⟨u, w', φ', g1, g2, g3, ?_⟩
                              have := g4.kill b
                              rwa [List.set_append_left _ _ (List.getElem?_eq_some_iff.1 hb).1] at this
                          · cases h
                      · cases h
              · cases h
            · cases h
          · -- an empty one
            rename_i b off adv
            cases hs with
            | sle hl =>
              rename_i l
              split at h
              · rename_i h0
                cases h; subst h0
                have hcs0 : cs = [] := by apply List.eq_nil_of_length_eq_zero; omega
                subst hcs0
                have husnil : us.toList = [] := by cases hus' : us.toList with | nil => rfl | cons a b => rw [hus'] at hus; cases hus
                rw [append_in hu h2 hd hi hlen hnew (by omega)]
                refine ⟨_, w, φ, ?_, Ext.refl _, .sle hl, hr⟩
                simp [husnil, storeCells]
              · rename_i h0
                split at h
                · rename_i hb63
                  obtain ⟨h63, hby⟩ := hb63
                  have hemp : ∀ a c, (Builtin.firstCells inf.size 0 (.slice (some a) 0 c)).run P { w with drawn := w.drawn + 1 } = .ok #[] { w with drawn := w.drawn + 1 } := fun a c => by
                    simp [Builtin.firstCells, loadCells, loadCellsFrom]
                  split at h
                  · rename_i vs esz ro hb
                    split at h
                    · rename_i hc
                      obtain ⟨hro, hfr, hesz, hone⟩ := hc
                      cases h
                      subst hro; subst hesz
                      by_cases hroom : n ≤ l.slk
                      · obtain ⟨g1, g2⟩ := Rel.into (P := P) hr hb hl vs.length n (Nat.le_refl _) hroom hus (by rw [szOf_btag hsm]; exact hcl) (allOne_mem hone) (fun t ht => (tyOf_btag hsm ht).2)
                        have hs0 : l.slk ≠ 0 := by omega
                        refine ⟨.slice (some ⟨l.blk, l.sh + off + (if l.slk = 0 then 0 else adv), none⟩) (0 + n) l.slk, _, _, ?_, Ext.snoc _ _, ?_, by simpa using g2⟩
                        · rw [append_in hu h2 hd hi hlen hnew (by omega)]
                          simp only [add_mk, hs0, if_false, Nat.zero_mul, Nat.add_zero]
                          rw [show l.sh + off + adv = l.sh + vs.length by omega, g1]
                          rfl
                        · have := newSl (φ := φ) (H := H) hr.len ⟨l.blk, l.sh + vs.length, l.slk - n⟩ n n
                          simp only at this
                          simpa [hs0, show n + (l.slk - n) = l.slk by omega, show l.sh + off + adv = l.sh + vs.length by omega] using this
                      · obtain ⟨u, w', φ', g1, g2, g3, g4⟩ := append_new (ty := ty) hr hu h2 hd hi hz hzs hsm hn hx (olds := []) (os := #[]) .nil (hemp ⟨l.blk, l.sh + off + (if l.slk = 0 then 0 else adv), none⟩ l.slk) (by omega) (by omega) (by simpa using hby)
                        refine ⟨u, w', φ', g1, g2, by simpa using g3, ?_⟩
                        have := g4.kill b
                        rw [List.set_append_left _ _ (List.getElem?_eq_some_iff.1 hb).1] at this
                        simpa using this
                    · cases h
                  · cases h
                · cases h
          · -- one without room
            cases hs with
            | slz ad =>
              split at h
              · rename_i h0
                cases h; subst h0
                have hcs0 : cs = [] := by apply List.eq_nil_of_length_eq_zero; omega
                subst hcs0
                have husnil : us.toList = [] := by cases hus' : us.toList with | nil => rfl | cons a b => rw [hus'] at hus; cases hus
                rw [append_in hu h2 hd hi hlen hnew (by omega)]
                refine ⟨_, w, φ, ?_, Ext.refl _, .slz ad, hr⟩
                simp [husnil, storeCells]
              · rename_i h0
                split at h
                · rename_i hb63
                  obtain ⟨h63, hby⟩ := hb63
                  cases h
                  have hemp : ∀ a c, (Builtin.firstCells inf.size 0 (.slice (some a) 0 c)).run P { w with drawn := w.drawn + 1 } = .ok #[] { w with drawn := w.drawn + 1 } := fun a c => by
                    simp [Builtin.firstCells, loadCells, loadCellsFrom]
                  obtain ⟨u, w', φ', g1, g2, g3, g4⟩ := append_new (ty := ty) hr hu h2 hd hi hz hzs hsm hn hx (olds := []) (os := #[]) .nil (hemp ad 0) (by omega) (by omega) (by simpa using hby)
                  exact ⟨u, w', φ', g1, g2, by simpa using g3, by simpa using g4⟩
                · cases h
          · cases h
      · cases h
    · cases h
  · cases h
end
end Go.Ve

namespace Go.Ve
open Go Go.RowKit

section
variable {P : Program} {w0 : Base} {w : World} {φ : List Loc} {H : AH}

def alen : AV → Option Nat
  | .sl _ _ len _ _ => some len
  | .nilsl => some 0
  | .sle .. => some 0
  | .slz => some 0
  | .str s => some s.length
  | _ => none
theorem alen_ok {x : AV} {xu : Value} {n : Nat} (h : alen x = some n) (hx : VR φ x xu) : (Builtin.lenOf xu).run P w = .ok n w := by
  cases hx <;> simp [alen] at h <;> subst h <;> first | rfl | (simp [Builtin.lenOf, size_mk])
/-- The first n elements. -/
def afirst (H : AH) (size n : Nat) : AV → Option (List AV)
  | .sl b off _ _ _ =>
    match cellsOf? H b with
    | some vs => if off + n * size ≤ vs.length then some ((vs.drop off).take (n * size)) else none
    | none => none
  | .nilsl => some []
  | .sle _ _ _ => if n = 0 then some [] else none
  | .slz => if n = 0 then some [] else none
  | .str s => if size = 1 then some ((s.take n).map fun c => .int .u8 c.toNat) else none
  | _ => none
theorem afirst_ok (hr : Rel w0 φ H w) {size n : Nat} {x : AV} {xu : Value} {cs : List AV} (h : afirst H size n x = some cs) (hx : VR φ x xu) :
    ∃ us : Array Value, VRs φ cs us.toList ∧ (Builtin.firstCells size n xu).run P w = .ok us w := by
  unfold afirst at h
  split at h
  · split at h
    · rename_i b off n1 cap1 ex1 _x vs hb
      split at h
      · rename_i hle
        cases h
        cases hx with
        | sl hl =>
          obtain ⟨us, h1, h2, h3⟩ := (hr.cellsR hb hl).get off _ hle
          have hload := run_loadCells_list (P := P) w _ us (fun j u hu => by rw [add_mk]; exact h3 j u hu)
          rw [h1] at hload
          exact ⟨us.toArray, by simpa using h2, hload⟩
      · cases h
    · cases h
  · cases h; cases hx; exact ⟨#[], .nil, rfl⟩
  · split at h
    · rename_i h0
      cases h; subst h0
      cases hx with
      | sle hl =>
        refine ⟨#[], .nil, ?_⟩
        simp [Builtin.firstCells, loadCells, loadCellsFrom]
    · cases h
  · split at h
    · rename_i h0
      cases h; subst h0
      cases hx with
      | slz a =>
        refine ⟨#[], .nil, ?_⟩
        simp [Builtin.firstCells, loadCells, loadCellsFrom]
    · cases h
  · split at h
    · rename_i s hs
      cases h; cases hx
      refine ⟨((s.take n).map fun c => Value.int .u8 c.toNat).toArray, ?_, ?_⟩
      · simpa using VRs.map_of (φ := φ) (s.take n) (fun c => AV.int .u8 c.toNat) (fun c => Value.int .u8 c.toNat) (fun c _ => .int _ _)
      · simp only [Builtin.firstCells]
        have e : ((⟨⟨s⟩⟩ : ByteArray).extract 0 n).data = ⟨s.take n⟩ := by
          rw [ByteArray.data_extract]
          apply Array.toList_inj.1
          simp [List.extract]
        rw [e]
        simp
    · cases h
  · cases h

def acopy (P : Program) (dT : TypeId) (dst src : AV) (H : AH) : Option (AV × Option (AH × Nat)) :=
  match P.underlying dT with
  | some (.slice e) =>
    match P.info? e, alen src, dst with
    | some inf, some m, .sl b off len _ _ =>
      match afirst H inf.size (min m len) src, H[b]? with
      | some cs, some (.cells vs esz false) =>
        if AV.allOne cs = true ∧ off + cs.length ≤ vs.length then some (.int .i64 (min m len : Nat), some (H.set b (.cells (setManyF vs off cs) esz false), b)) else none
      | _, _ => none
    | some _, some _, .nilsl => some (.int .i64 0, none)
    | _, _, _ => none
  | _ => none

/-- Blocks below 'lo' are as they were. -/
def Keeps (lo : Nat) (H H' : AH) : Prop := H.length ≤ H'.length ∧ ∀ j, j < lo → j < H.length → H'[j]? = H[j]?
theorem Keeps.refl (lo : Nat) (H : AH) : Keeps lo H H := ⟨Nat.le_refl _, fun _ _ _ => rfl⟩
theorem Keeps.trans {lo : Nat} {a b c : AH} (h : Keeps lo a b) (k : Keeps lo b c) : Keeps lo a c :=
  ⟨Nat.le_trans h.1 k.1, fun j hj hl => (k.2 j hj (Nat.lt_of_lt_of_le hl h.1)).trans (h.2 j hj hl)⟩
theorem Keeps.mono {lo lo' : Nat} {a b : AH} (h : Keeps lo a b) (hl : lo' ≤ lo) : Keeps lo' a b := ⟨h.1, fun j hj => h.2 j (Nat.lt_of_lt_of_le hj hl)⟩
theorem Keeps.append (lo : Nat) (H t : AH) : Keeps lo H (H ++ t) := ⟨by simp, fun j _ hj => List.getElem?_append_left hj⟩
theorem Keeps.set (H : AH) (b : Nat) (k : ABlk) : Keeps b H (H.set b k) := ⟨by simp, fun j hj _ => List.getElem?_set_ne (by omega)⟩

theorem acopy_ok (hr : Rel w0 φ H w) {dT sT ty : TypeId} {dst src v : AV} {du su : Value} {ch : Option (AH × Nat)} (h : acopy P dT dst src H = some (v, ch)) (hd : VR φ dst du) (hs : VR φ src su) :
    ∃ u w', (Builtin.copy_ #[dT, sT] ty #[du, su]).run P w = .ok u w' ∧ VR φ v u ∧ (match ch with | none => w' = w | some (H', lo) => Rel w0 φ H' w' ∧ Keeps lo H H') := by
  unfold acopy at h
  split at h
  · rename_i e hu
    split at h
    · rename_i inf m b off len cap ex hi hm _h
      split at h
      · rename_i cs vs esz hcs hb
        split at h
        · rename_i hc
          obtain ⟨hone, hle⟩ := hc
          rw [setManyF_eq] at h
          cases h
          cases hd with
          | sl hl =>
            have hlen := alen_ok (P := P) (w := w) hm hs
            obtain ⟨us, h1, h2⟩ := afirst_ok (P := P) hr hcs hs
            obtain ⟨w', h3, h4⟩ := storeCells_ok (P := P) hl cs us.toList vs off 0 H w hr hb h1 (allOne_mem hone) (by omega)
            refine ⟨_, w', ?_, .int .i64 _, by simpa using h4, Keeps.set _ _ _⟩
            have e1 : Nat.min m len = min m len := rfl
            simp [Builtin.copy_, run_underlying hu, hlen, sizeOf, typeInfo, hi, e1, h2, h3, goInt]
        · cases h
      · cases h
    · rename_i inf m hi hm _h
      cases h
      cases hd
      have hlen := alen_ok (P := P) (w := w) hm hs
      refine ⟨_, w, ?_, .int .i64 0, rfl⟩
      have hf : (Builtin.firstCells inf.size 0 su).run P w = .ok #[] w := by
        cases hs <;> simp [alen] at hm <;> simp [Builtin.firstCells, loadCells, loadCellsFrom]
      simp [Builtin.copy_, run_underlying hu, hlen, sizeOf, typeInfo, hi, hf, goInt]
    · cases h
  · cases h

/-! ### Conversions -/
def abytes : List AV → Option (List UInt8)
  | [] => some []
  | .int .u8 n :: r => (abytes r).map (UInt8.ofNat n.toNat :: ·)
  | _ :: _ => none
theorem abytes_ok : ∀ {cs : List AV} {us : List Value} {s : List UInt8}, abytes cs = some s → VRs φ cs us → ∃ ns : List Int, us = ns.map (Value.int .u8) ∧ s = ns.map fun n => UInt8.ofNat n.toNat
  | [], _, s, h, hv => by cases hv; simp [abytes] at h; subst h; exact ⟨[], rfl, rfl⟩
  | c :: cs, _, s, h, hv => by
    cases hv with
    | cons h1 h2 =>
      unfold abytes at h
      split at h
      · rename_i heq; cases heq
      · rename_i n r heq
        cases heq
        cases h1
        cases hr : abytes cs with
        | none => rw [hr] at h; cases h
        | some s' =>
          rw [hr] at h; cases h
          obtain ⟨ns, h3, h4⟩ := abytes_ok hr h2
          exact ⟨n :: ns, by simp [h3], by simp [h4]⟩
      · cases h
theorem foldl_push (ns : List Int) : ∀ s : List UInt8, ns.foldl (fun r n => ByteArray.push r (UInt8.ofNat n.toNat)) (⟨⟨s⟩⟩ : ByteArray) = ⟨⟨s ++ ns.map fun n => UInt8.ofNat n.toNat⟩⟩ := by
  induction ns with
  | nil => intro s; simp
  | cons n ns ih =>
    intro s
    simp only [List.foldl_cons]
    have : ByteArray.push (⟨⟨s⟩⟩ : ByteArray) (UInt8.ofNat n.toNat) = ⟨⟨s ++ [UInt8.ofNat n.toNat]⟩⟩ := congrArg ByteArray.mk (by apply Array.toList_inj.1; simp)
    rw [this, ih]
    simp

def aconvert (P : Program) (src dst : TypeId) (x : AV) (H : AH) : Option (AV × Option (AH × Nat)) :=
  match x with
  | .str s =>
    match P.underlying src, P.underlying dst with
    | some _, some .string => some (.str s, none)
    | some _, some (.slice e) =>
      match P.underlying e with
      | some (.int .u8) => some (.sl H.length 0 s.length s.length false, some (H ++ [.cells (s.map fun c => .int .u8 c.toNat) (btag P e 1) false], H.length))
      | _ => none
    | _, _ => none
  | .sl b off len _ _ =>
    match P.underlying src, P.underlying dst with
    | some (.slice e), some .string =>
      match P.underlying e, cellsOf? H b with
      | some (.int .u8), some vs =>
        if off + len ≤ vs.length then
          match abytes ((vs.drop off).take len) with
          | some s => some (.str s, none)
          | none => none
        else none
      | _, _ => none
    | _, _ => none
  | .nilsl =>
    match P.underlying src, P.underlying dst with
    | some (.slice e), some .string =>
      match P.underlying e with
      | some (.int .u8) => some (.str [], none)
      | _ => none
    | _, _ => none
  | .sle _ _ _ =>
    match P.underlying src, P.underlying dst with
    | some (.slice e), some .string =>
      match P.underlying e with
      | some (.int .u8) => some (.str [], none)
      | _ => none
    | _, _ => none
  | .slz =>
    match P.underlying src, P.underlying dst with
    | some (.slice e), some .string =>
      match P.underlying e with
      | some (.int .u8) => some (.str [], none)
      | _ => none
    | _, _ => none
  | x =>
    match x.sc with
    | some a => (pureRun P (convert src dst a)).map fun v => (ofV1 v, none)
    | none => none

/-- What became of the world: nothing, or a new heap. -/
def ChOk (w0 : Base) (w : World) (φ : List Loc) (H : AH) (φ' : List Loc) (w' : World) : Option (AH × Nat) → Prop
  | none => w' = w ∧ φ' = φ
  | some (H', lo) => Rel w0 φ' H' w' ∧ Keeps lo H H'

theorem stringToBytes_ok (hr : Rel w0 φ H w) (e : TypeId) (s : List UInt8) :
    ∃ u w' φ', (Conv.stringToBytes e ⟨⟨s⟩⟩).run P w = .ok u w' ∧ Ext φ φ' ∧ VR φ' (.sl H.length 0 s.length s.length false) u ∧ Rel w0 φ' (H ++ [.cells (s.map fun c => .int .u8 c.toNat) (btag P e 1) false]) w' := by
  let cap := (Question.appendCap s.length 0 e).cut (w.tape w.drawn (.appendCap s.length 0 e))
  have hcap : s.length ≤ cap := by simp [cap, Question.cut]
  let extra : Array Value := Array.replicate (cap - s.length) (.int .u8 0)
  let elems : Array Value := (s.map fun c => Value.int .u8 c.toNat).toArray
  have hel : VRs φ (s.map fun c => AV.int .u8 c.toNat) elems.toList := by
    simpa [elems] using VRs.map_of (φ := φ) s (fun c => AV.int .u8 c.toNat) (fun c => Value.int .u8 c.toNat) (fun c _ => .int _ _)
  have hnew := hr.drew'.newCells e hel (btag P e 1) (cap - s.length) extra (by rw [szOf_btag (by omega)]; simp [extra]) (fun t h => (tyOf_btag (by omega) h).1)
  have hw := newSl (φ := φ) (H := H) hr.len ⟨w.heap.size, 0, cap - s.length⟩ s.length s.length
  simp only at hw
  rw [show s.length + (cap - s.length) = cap by omega] at hw
  have hsz : (elems ++ extra).size = cap := by simp [elems, extra]; omega
  let w1 : World := { w with drawn := w.drawn + 1, heap := w.heap.push (.cells (elems ++ extra) e) }
  have hb1 : w1.heap[w.heap.size]? = some (.cells (elems ++ extra) e) := by simp [w1]
  have hshape : w1.shape? w.heap.size = some (e, cap) := by simp [World.shape?, hb1, hsz]
  let w2 : World := w1.freeze ⟨w.heap.size, cap, none⟩ 1
  have hb2 : w2.heap[w.heap.size]? = some (.cells (elems ++ extra) e (cap, cap + 1)) := by
    simp only [w2, World.freeze]
    rw [if_neg (by decide)]
    simp only [Array.getElem?_modify, if_true, hb1, Option.map_some]
    rfl
  have hrel : Rel w0 (φ ++ [⟨w.heap.size, 0, cap - s.length⟩]) (H ++ [.cells (s.map fun c => .int .u8 c.toNat) (btag P e 1) false]) w2 := by
    have hH : (H ++ [ABlk.cells (s.map fun c => AV.int .u8 c.toNat) (btag P e 1) false])[H.length]? = some (.cells (s.map fun c => .int .u8 c.toNat) (btag P e 1) false) := by simp
    have hL : (φ ++ [(⟨w.heap.size, 0, cap - s.length⟩ : Loc)])[H.length]? = some ⟨w.heap.size, 0, cap - s.length⟩ := by rw [← hr.len]; simp
    have hset : (H ++ [ABlk.cells (s.map fun c => AV.int .u8 c.toNat) (btag P e 1) false]).set H.length (.cells (s.map fun c => .int .u8 c.toNat) (btag P e 1) false) = H ++ [.cells (s.map fun c => .int .u8 c.toNat) (btag P e 1) false] := by
      simp
    rw [← hset]
    have hother : ∀ j, j ≠ w.heap.size → w2.heap[j]? = w1.heap[j]? := fun j hj => by
      simp only [w2, World.freeze]
      rw [if_neg (by decide)]
      simp only [Array.getElem?_modify]
      rw [if_neg (Ne.symm hj)]
    have hrest : w2.os = w1.os ∧ w2.tape = w1.tape ∧ w2.output = w1.output ∧ w2.heap.size = w1.heap.size := by
      simp only [w2, World.freeze]
      rw [if_neg (by decide)]
      exact ⟨rfl, rfl, rfl, by simp⟩
    refine hnew.upd (b := H.length) hH rfl hL hrest.1 hrest.2.1 hrest.2.2.1 (Nat.le_of_eq hrest.2.2.2.symm) (fun j hj _ => hother j hj) ?_
    obtain ⟨⟨g1, c, e', fz, g2, g3, g4, g9⟩, g5⟩ := hnew.blocks H.length _ _ hH hL
    refine ⟨⟨g1, _, e, (cap, cap + 1), hb2, by rw [hsz, szOf_btag (by omega)]; simp; omega, fun j hj => ?_, fun t ht => ⟨(tyOf_btag (by omega) ht).1.symm, Nat.zero_mod _⟩, fun h => by rw [szOf_btag (by omega)] at h; cases h⟩, ?_⟩
    · rw [szOf_btag (by omega)] at hj
      simp at hj
      simp only [World.frozen?, hb2]
      simp; omega
    · intro j v hj
      obtain ⟨u, g6, g7⟩ := g5 j v hj
      refine ⟨u, g6, ?_⟩
      have g8 : w1.cell? ⟨w.heap.size, 0 + j, none⟩ = some u := g7
      simp only [World.cell?, hb1] at g8
      simp only [World.cell?, hb2]
      exact g8
  refine ⟨_, w2, _, ?_, Ext.snoc _ _, hw, hrel⟩
  unfold Conv.stringToBytes
  simp only [Sem.run_bind, run_choose, Question.forced, Bool.false_eq_true, if_false, Result.andThen_ok, size_mk, newRow, run_newObj, Sem.run_pure]
  have e1 : (List.map (fun b => Value.int IntKind.u8 ↑b.toNat) s).toArray = elems := rfl
  have e2 : (Array.map (fun b : UInt8 => Value.int IntKind.u8 ↑b.toNat) ⟨s⟩) = elems := by simp [elems]
  simp only [e2]
  unfold markStringish
  simp only [Sem.run_bind, run_shape]
  have e3 : (World.shape? { heap := w.heap.push (Obj.cells (elems ++ Array.replicate ((Question.appendCap s.length 0 e).cut (w.tape w.drawn (Question.appendCap s.length 0 e)) - s.length) (Value.int IntKind.u8 0)) e), tape := w.tape, drawn := w.drawn + 1, os := w.os, output := w.output } w.heap.size) = some (e, cap) := hshape
  rw [e3]
  rfl

theorem aconvert_ok (hr : Rel w0 φ H w) {src dst : TypeId} {x v : AV} {xu : Value} {ch : Option (AH × Nat)} (h : aconvert P src dst x H = some (v, ch)) (hx : VR φ x xu) :
    ∃ u w' φ', (convert src dst xu).run P w = .ok u w' ∧ Ext φ φ' ∧ VR φ' v u ∧ ChOk w0 w φ H φ' w' ch := by
  have scal : ∀ a, x.sc = some a → ((pureRun P (convert src dst a)).map fun v => (ofV1 v, (none : Option (AH × Nat)))) = some (v, ch) →
      ∃ u w' φ', (convert src dst xu).run P w = .ok u w' ∧ Ext φ φ' ∧ VR φ' v u ∧ ChOk w0 w φ H φ' w' ch := fun a ha h => by
    cases hr2 : pureRun P (convert src dst a) with
    | none => rw [hr2] at h; cases h
    | some u =>
      rw [hr2] at h; cases h
      rw [sc_ok ha hx]
      exact ⟨u, w, φ, pureRun_ok w hr2, Ext.refl _, ofV1_ok φ u, rfl, rfl⟩
  cases hx with
  | str s =>
    simp only [aconvert] at h
    split at h
    · rename_i ds hs hd
      cases h
      refine ⟨.string ⟨⟨s⟩⟩, w, φ, ?_, Ext.refl _, .str s, rfl, rfl⟩
      simp [convert, run_underlying hs, run_underlying hd]
    · rename_i ds e hs hd
      split at h
      · rename_i he
        cases h
        obtain ⟨u, w', φ', h1, h2, h3, h4⟩ := stringToBytes_ok (P := P) hr e s
        refine ⟨u, w', φ', ?_, h2, h3, h4, Keeps.append _ _ _⟩
        simp [convert, run_underlying hs, run_underlying hd, run_underlying he, h1]
      · cases h
    · cases h
  | @sl b off len cap ex l hl =>
    simp only [aconvert] at h
    split at h
    · rename_i e hs hd
      split at h
      · rename_i vs he hb
        split at h
        · rename_i hle
          split at h
          · rename_i s hby
            cases h
            obtain ⟨us, h1, h2, h3⟩ := (hr.cellsR hb hl).get off len hle
            have hload := run_loadCells_list (P := P) w _ us (fun j u hu => by rw [add_mk]; exact h3 j u hu)
            rw [h1] at hload
            obtain ⟨ns, h4, h5⟩ := abytes_ok hby h2
            subst h4
            have := run_bytesToString (P := P) w _ len (cap + if ex = true then 0 else l.slk) ns hload
            refine ⟨.string ⟨⟨s⟩⟩, w, φ, ?_, Ext.refl _, .str s, rfl, rfl⟩
            rw [run_convert_bytes_string w src dst e _ _ _ hs he hd, this]
            have e2 := foldl_push ns []
            rw [show (ByteArray.empty) = (⟨⟨[]⟩⟩ : ByteArray) from rfl, e2, h5]
            rfl
          · cases h
        · cases h
      · cases h
    · cases h
  | nilsl =>
    simp only [aconvert] at h
    split at h
    · rename_i e hs hd
      split at h
      · rename_i he
        cases h
        refine ⟨.string ⟨⟨[]⟩⟩, w, φ, ?_, Ext.refl _, .str [], rfl, rfl⟩
        rw [run_convert_bytes_string w src dst e _ _ _ hs he hd]
        rfl
      · cases h
    · cases h
  | sle hl =>
    simp only [aconvert] at h
    split at h
    · rename_i e hs hd
      split at h
      · rename_i he
        cases h
        refine ⟨.string ⟨⟨[]⟩⟩, w, φ, ?_, Ext.refl _, .str [], rfl, rfl⟩
        rw [run_convert_bytes_string w src dst e _ _ _ hs he hd]
        have := fun a c => run_bytesToString (P := P) w a 0 c [] (by simp [loadCells, loadCellsFrom])
        rw [this]
        rfl
      · cases h
    · cases h
  | slz a =>
    simp only [aconvert] at h
    split at h
    · rename_i e hs hd
      split at h
      · rename_i he
        cases h
        refine ⟨.string ⟨⟨[]⟩⟩, w, φ, ?_, Ext.refl _, .str [], rfl, rfl⟩
        rw [run_convert_bytes_string w src dst e _ _ _ hs he hd]
        have := fun a c => run_bytesToString (P := P) w a 0 c [] (by simp [loadCells, loadCellsFrom])
        rw [this]
        rfl
      · cases h
    · cases h
  | bool b => exact scal _ rfl h
  | int k n => exact scal _ rfl h
  | float k n => exact scal _ rfl h
  | _ => simp [aconvert, AV.sc] at h
end
end Go.Ve

