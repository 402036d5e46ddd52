/- A small evaluator over abstract values and an abstract heap, and how it stands to the model: values, blocks, the relation between an abstract and a concrete world. -/
import Derived.WalkKit
import Derived.Deep.Draws
import Derived.Deep.Quiet
namespace Go.Ve
open Go Go.RowKit

/-- Where an abstract block lies: its block, the shift of its cells, its spare elements. -/
structure Loc where
  blk : Nat
  sh : Nat
  slk : Nat

inductive AV where
  | bad
  | bool (b : Bool)
  | int (k : IntKind) (n : Int)
  | float (k : FloatKind) (bits : Nat)
  | nan (k : FloatKind)
  | str (s : List UInt8)
  | nilptr
  | ptr (b off : Nat)
  | gptr (g off : Nat)
  | nilsl
  | sl (b off len cap : Nat) (ex : Bool)
  | sle (b off adv : Nat)
  | slz
  | nilmap
  | map (b : Nat)
  | yld (b : Nat)
  | opq
  | fn (f : Fn) (first cap : List AV)
  | nilfn
  | iface (t : TypeId) (v : AV)
  | niliface
  | agg (cs : List AV)
  | tuple (vs : List AV)

mutual
inductive VR (φ : List Loc) : AV → Value → Prop
  | bad (v : Value) : VR φ .bad v
  | bool (b : Bool) : VR φ (.bool b) (.bool b)
  | int (k : IntKind) (n : Int) : VR φ (.int k n) (.int k n)
  | float (k : FloatKind) (n : Nat) : VR φ (.float k n) (.float k n)
  | nan {k : FloatKind} {n : Nat} (h : (k.format.read n).isNaN = true) : VR φ (.nan k) (.float k n)
  | str (s : List UInt8) : VR φ (.str s) (.string ⟨⟨s⟩⟩)
  | nilptr : VR φ .nilptr (.pointer none)
  | ptr {b off : Nat} {l : Loc} (h : φ[b]? = some l) : VR φ (.ptr b off) (.pointer (some ⟨l.blk, l.sh + off, none⟩))
  | gptr (g off : Nat) : VR φ (.gptr g off) (.pointer (some ⟨g, off, none⟩))
  | nilsl : VR φ .nilsl (.slice none 0 0)
  | sl {b off len cap : Nat} {ex : Bool} {l : Loc} (h : φ[b]? = some l) :
      VR φ (.sl b off len cap ex) (.slice (some ⟨l.blk, l.sh + off, none⟩) len (cap + if ex then 0 else l.slk))
  | sle {b off adv : Nat} {l : Loc} (h : φ[b]? = some l) :
      VR φ (.sle b off adv) (.slice (some ⟨l.blk, l.sh + off + (if l.slk = 0 then 0 else adv), none⟩) 0 l.slk)
  | slz (a : Addr) : VR φ .slz (.slice (some a) 0 0)
  | nilmap : VR φ .nilmap (.map none)
  | map {b : Nat} {l : Loc} (h : φ[b]? = some l) : VR φ (.map b) (.map (some l.blk))
  | yld {b : Nat} {l : Loc} (h : φ[b]? = some l) : VR φ (.yld b) (.func (.yield l.blk) #[] #[])
  | opq {u : Value} (h : u.oneCell' = true) : VR φ .opq u
  | fn (f : Fn) {xs cs : List AV} {us ds : Array Value} (hx : VRs φ xs us.toList) (hc : VRs φ cs ds.toList) : VR φ (.fn f xs cs) (.func f us ds)
  | nilfn : VR φ .nilfn .nilFunc
  | iface (t : TypeId) {v : AV} {u : Value} (h : VR φ v u) : VR φ (.iface t v) (.iface t u)
  | niliface : VR φ .niliface .nilIface
  | agg {cs : List AV} {us : Array Value} (h : VRs φ cs us.toList) : VR φ (.agg cs) (.agg us)
  | tuple {cs : List AV} {us : Array Value} (h : VRs φ cs us.toList) : VR φ (.tuple cs) (.tuple us)
inductive VRs (φ : List Loc) : List AV → List Value → Prop
  | nil : VRs φ [] []
  | cons {v : AV} {u : Value} {vs : List AV} {us : List Value} (h : VR φ v u) (hs : VRs φ vs us) : VRs φ (v :: vs) (u :: us)
end

/-- One cell's value. -/
def AV.one : AV → Bool
  | .bad | .agg _ | .tuple _ => false
  | _ => true

theorem VR.one_cell {φ : List Loc} {v : AV} {u : Value} (h : VR φ v u) (h1 : v.one = true) : u.oneCell' = true := by
  cases h <;> first | rfl | assumption | (simp [AV.one] at h1)

def AV.cells : AV → List AV
  | .agg cs => cs
  | v => [v]

theorem cells_one {u : Value} (h : u.oneCell' = true) : u.cells.toList = [u] := by
  cases u <;> first | rfl | (simp [Value.oneCell'] at h)
theorem VR.cells {φ : List Loc} {v : AV} {u : Value} (h : VR φ v u) (hb : v ≠ .bad) : VRs φ v.cells u.cells.toList := by
  cases h with
  | opq h => rw [cells_one h]; exact .cons (.opq h) .nil
  | agg h => exact h
  | bad v => exact absurd rfl hb
  | tuple h => exact .cons (.tuple h) .nil
  | _ => exact .cons (by constructor <;> assumption) .nil

/-- 'φ'' goes on from 'φ'. -/
def Ext (φ φ' : List Loc) : Prop := ∃ t, φ' = φ ++ t
theorem Ext.refl (φ : List Loc) : Ext φ φ := ⟨[], by simp⟩
theorem Ext.trans {a b c : List Loc} (h : Ext a b) (k : Ext b c) : Ext a c := by
  obtain ⟨t, rfl⟩ := h
  obtain ⟨s, rfl⟩ := k
  exact ⟨t ++ s, by simp⟩
theorem Ext.get {φ φ' : List Loc} (h : Ext φ φ') {b : Nat} {l : Loc} (hb : φ[b]? = some l) : φ'[b]? = some l := by
  obtain ⟨t, rfl⟩ := h
  have := (List.getElem?_eq_some_iff.1 hb).1
  rw [List.getElem?_append_left this]; exact hb
theorem Ext.snoc (φ : List Loc) (l : Loc) : Ext φ (φ ++ [l]) := ⟨[l], rfl⟩

mutual
theorem VR.mono {φ φ' : List Loc} (hx : Ext φ φ') : ∀ {v : AV} {u : Value}, VR φ v u → VR φ' v u
  | _, _, .bad v => .bad v
  | _, _, .bool b => .bool b
  | _, _, .int k n => .int k n
  | _, _, .float k n => .float k n
  | _, _, .nan h => .nan h
  | _, _, .str s => .str s
  | _, _, .nilptr => .nilptr
  | _, _, .ptr h => .ptr (hx.get h)
  | _, _, .gptr g o => .gptr g o
  | _, _, .nilsl => .nilsl
  | _, _, .sl h => .sl (hx.get h)
  | _, _, .sle h => .sle (hx.get h)
  | _, _, .slz a => .slz a
  | _, _, .nilmap => .nilmap
  | _, _, .map h => .map (hx.get h)
  | _, _, .yld h => .yld (hx.get h)
  | _, _, .opq h => .opq h
  | _, _, .fn f h1 h2 => .fn f (VRs.mono hx h1) (VRs.mono hx h2)
  | _, _, .nilfn => .nilfn
  | _, _, .iface t h => .iface t (VR.mono hx h)
  | _, _, .niliface => .niliface
  | _, _, .agg h => .agg (VRs.mono hx h)
  | _, _, .tuple h => .tuple (VRs.mono hx h)
theorem VRs.mono {φ φ' : List Loc} (hx : Ext φ φ') : ∀ {v : List AV} {u : List Value}, VRs φ v u → VRs φ' v u
  | _, _, .nil => .nil
  | _, _, .cons h hs => .cons (VR.mono hx h) (VRs.mono hx hs)
end

section
variable {φ : List Loc}
theorem VRs.length : ∀ {vs : List AV} {us : List Value}, VRs φ vs us → vs.length = us.length
  | _, _, .nil => rfl
  | _, _, .cons _ hs => by simp [VRs.length hs]
theorem VRs.get : ∀ {vs : List AV} {us : List Value}, VRs φ vs us → ∀ {j : Nat} {v : AV}, vs[j]? = some v → ∃ u, us[j]? = some u ∧ VR φ v u
  | _, _, .nil, j, v, h => by simp at h
  | _, _, .cons h hs, 0, v, hv => by simp at hv; subst hv; exact ⟨_, rfl, h⟩
  | _, _, .cons h hs, j + 1, v, hv => by simpa using hs.get (j := j) (by simpa using hv)
theorem VRs.of_get {vs : List AV} : ∀ {us : List Value}, vs.length = us.length → (∀ (j : Nat) (v : AV) (u : Value), vs[j]? = some v → us[j]? = some u → VR φ v u) → VRs φ vs us := by
  induction vs with
  | nil => intro us h _; cases us with
    | nil => exact .nil
    | cons _ _ => simp at h
  | cons v vs ih => intro us h hg; cases us with
    | nil => simp at h
    | cons u us => exact .cons (hg 0 v u rfl rfl) (ih (by simpa using h) fun j a b ha hb => hg (j + 1) a b (by simpa using ha) (by simpa using hb))
theorem VRs.append {as bs : List AV} {us ds : List Value} (h : VRs φ as us) (k : VRs φ bs ds) : VRs φ (as ++ bs) (us ++ ds) := by
  induction as generalizing us with
  | nil => cases h; exact k
  | cons a as ih => cases h with | cons h1 h2 => exact .cons h1 (ih h2)
theorem VRs.take {as : List AV} {us : List Value} (h : VRs φ as us) (n : Nat) : VRs φ (as.take n) (us.take n) := by
  induction n generalizing as us with
  | zero => simp; exact .nil
  | succ n ih => cases h with | nil => simp; exact .nil | cons h1 h2 => exact .cons h1 (ih h2)
theorem VRs.drop {as : List AV} {us : List Value} (h : VRs φ as us) (n : Nat) : VRs φ (as.drop n) (us.drop n) := by
  induction n generalizing as us with
  | zero => exact h
  | succ n ih => cases h with | nil => exact .nil | cons h1 h2 => exact ih h2
theorem VRs.set {as : List AV} {us : List Value} (h : VRs φ as us) (n : Nat) {v : AV} {u : Value} (hv : VR φ v u) : VRs φ (as.set n v) (us.set n u) := by
  induction n generalizing as us with
  | zero => cases h with | nil => exact .nil | cons h1 h2 => exact .cons hv h2
  | succ n ih => cases h with | nil => exact .nil | cons h1 h2 => exact .cons h1 (ih h2)
theorem VRs.replicate (n : Nat) {v : AV} {u : Value} (hv : VR φ v u) : VRs φ (List.replicate n v) (List.replicate n u) := by
  induction n with
  | zero => exact .nil
  | succ n ih => exact .cons hv ih
theorem VRs.getD {as : List AV} {us : List Value} (h : VRs φ as us) (n : Nat) {v : AV} {u : Value} (hv : VR φ v u) : VR φ (as.getD n v) (us.getD n u) := by
  induction n generalizing as us with
  | zero => cases h with | nil => exact hv | cons h1 h2 => exact h1
  | succ n ih => cases h with | nil => exact hv | cons h1 h2 => simpa using ih h2
theorem VRs.map_of {α : Type} (l : List α) (f : α → AV) (g : α → Value) (h : ∀ x ∈ l, VR φ (f x) (g x)) : VRs φ (l.map f) (l.map g) := by
  induction l with
  | nil => exact .nil
  | cons a l ih => exact .cons (h a (by simp)) (ih fun x hx => h x (by simp [hx]))
end

/-- A constant of the text, as an abstract value. -/
def ofV1 : Value → AV
  | .bool b => .bool b
  | .int k n => .int k n
  | .float k n => .float k n
  | .string s => .str s.data.toList
  | .pointer none => .nilptr
  | .slice none l c => if l = 0 ∧ c = 0 then .nilsl else .bad
  | .map none => .nilmap
  | .nilFunc => .nilfn
  | .nilIface => .niliface
  | .func f ⟨[]⟩ ⟨[]⟩ => .fn f [] []
  | _ => .bad
def ofV : Value → AV
  | .agg cs => .agg (cs.toList.map ofV1)
  | .tuple cs => .tuple (cs.toList.map ofV1)
  | v => ofV1 v

theorem ofV1_ok (φ : List Loc) (v : Value) : VR φ (ofV1 v) v := by
  cases v with
  | bool b => exact .bool b
  | int k n => exact .int k n
  | float k n => exact .float k n
  | string s => exact .str _
  | pointer a => cases a with
    | none => exact .nilptr
    | some a => exact .bad _
  | slice a l c => cases a with
    | none =>
      unfold ofV1
      by_cases h : l = 0 ∧ c = 0
      · obtain ⟨rfl, rfl⟩ := h; exact .nilsl
      · simp only [if_neg h]; exact .bad _
    | some a => exact .bad _
  | map r => cases r with
    | none => exact .nilmap
    | some r => exact .bad _
  | nilFunc => exact .nilfn
  | nilIface => exact .niliface
  | func f a b =>
    obtain ⟨a⟩ := a
    obtain ⟨b⟩ := b
    cases a <;> cases b <;> first | exact .fn _ .nil .nil | exact .bad _
  | _ => exact .bad _
theorem ofV_ok (φ : List Loc) (v : Value) : VR φ (ofV v) v := by
  unfold ofV
  split
  · rename_i cs
    refine .agg ?_
    have := VRs.map_of (φ := φ) cs.toList ofV1 id (fun x _ => ofV1_ok φ x)
    simpa using this
  · rename_i cs
    refine .tuple ?_
    have := VRs.map_of (φ := φ) cs.toList ofV1 id (fun x _ => ofV1_ok φ x)
    simpa using this
  · exact ofV1_ok φ v

/-- An abstract block. 'esz': the cells of one element, where spare elements may lie behind; 'ro': not to be written. -/
inductive ABlk where
  | dead
  | cells (vs : List AV) (esz : Nat) (ro : Bool)
  | map (es : List (AV × AV)) (ro : Bool)
  | siter (s : List UInt8) (pos : Nat)
  | defr
  | loop (fr : List AV) (ps : Array Tmp) (assign body : Code) (st : LoopState) (pend : Option Code) (db : Nat)
  | glob (g : Nat) (vs : List AV)
abbrev AH := List ABlk

def ABlk.own : ABlk → Bool
  | .dead => false
  | .cells _ _ ro => !ro
  | .map _ ro => !ro
  | .siter _ _ => true
  | .defr => true
  | .loop .. => true
  | .glob .. => false

/-- The world at the law's start, and which of its blocks are to stay as they are. -/
structure Base where
  w : World
  keep : Nat → Prop
  lt : ∀ j, keep j → j < w.heap.size
structure BelowB (w0 : Base) (w : World) : Prop where
  os : w.os = w0.w.os
  tape : w.tape = w0.w.tape
  output : w.output = w0.w.output
  size : w0.w.heap.size ≤ w.heap.size
  block : ∀ k, w0.keep k → w.heap[k]? = w0.w.heap[k]?
def Base.all (w : World) : Base := ⟨w, fun j => j < w.heap.size, fun _ h => h⟩
theorem BelowB.refl (w : World) : BelowB (Base.all w) w := ⟨rfl, rfl, rfl, Nat.le_refl _, fun _ _ => rfl⟩
theorem BelowB.to {w w' : World} (h : BelowB (Base.all w) w') : Below w.heap.size w w' := ⟨h.os, h.tape, h.output, h.size, h.block⟩
theorem BelowB.fresh {w0 : Base} {w : World} (h : BelowB w0 w) {n : Nat} (hn : w.heap.size ≤ n) : ¬ w0.keep n := fun hk => by
  have := w0.lt n hk
  have := h.size
  omega

def CellsR (φ : List Loc) (w : World) (l : Loc) (vs : List AV) : Prop :=
  ∀ (j : Nat) (v : AV), vs[j]? = some v → ∃ u, VR φ v u ∧ w.cell? ⟨l.blk, l.sh + j, none⟩ = some u
/-- What a block's number tells: the cells of one element, and (beside them) the elements' type, where that is known. -/
def szOf (e : Nat) : Nat := e % 65536
def tyOf (e : Nat) : Option TypeId := if e / 65536 = 0 then none else some (e / 65536 - 1)
def OwnR (w0 : Base) (w : World) (l : Loc) (n : Nat) (esz : Nat) : Prop :=
  ¬ w0.keep l.blk ∧ ∃ c e fz, w.heap[l.blk]? = some (.cells c e fz) ∧ l.sh + n ≤ c.size ∧ (∀ j, j < n → w.frozen? ⟨l.blk, l.sh + j, none⟩ = false) ∧ ∀ t, tyOf esz = some t → e = t ∧ l.sh % szOf esz = 0
def EntryR (φ : List Loc) : List (AV × AV) → List MapEntry → Prop
  | [], [] => True
  | e :: es, m :: ms => VR φ e.1 m.key ∧ VR φ e.2 m.val ∧ EntryR φ es ms
  | _, _ => False

def BR (w0 : Base) (φ : List Loc) (w : World) (l : Loc) : ABlk → Prop
  | .dead => True
  | .cells vs _ true => w0.keep l.blk ∧ l.slk = 0 ∧ CellsR φ w l vs
  | .cells vs esz false => OwnR w0 w l (vs.length + l.slk * szOf esz) esz ∧ CellsR φ w l vs
  | .map es ro => (if ro then w0.keep l.blk else ¬ w0.keep l.blk) ∧ ∃ ms c, w.heap[l.blk]? = some (.map ms c) ∧ EntryR φ es ms.toList
  | .siter s pos => ¬ w0.keep l.blk ∧ l.sh = 0 ∧ w.heap[l.blk]? = some (.stringIter ⟨⟨s⟩⟩ pos)
  | .defr => ¬ w0.keep l.blk ∧ w.heap[l.blk]? = some (.deferred (some []))
  | .loop fr ps as bd st pd db => ¬ w0.keep l.blk ∧ ∃ tm ld fn, φ[db]? = some ld ∧ VRs φ fr tm.toList ∧ w.heap[l.blk]? = some (.loop { state := st, pending := pd, fn := fn, tmps := tm, params := ps, assign := as, body := bd, defers := ld.blk })
  | .glob g vs => w0.keep l.blk ∧ l.blk = g ∧ l.sh = 0 ∧ CellsR φ w l vs

structure Rel (w0 : Base) (φ : List Loc) (H : AH) (w : World) : Prop where
  len : φ.length = H.length
  below : BelowB w0 w
  blocks : ∀ (b : Nat) (k : ABlk) (l : Loc), H[b]? = some k → φ[b]? = some l → BR w0 φ w l k
  inj : ∀ (b b' : Nat) (k k' : ABlk) (l l' : Loc), H[b]? = some k → H[b']? = some k' → φ[b]? = some l → φ[b']? = some l' → k.own = true → k'.own = true → l.blk = l'.blk → b = b'

theorem EntryR.mono {φ φ' : List Loc} (hx : Ext φ φ') : ∀ {es : List (AV × AV)} {ms : List MapEntry}, EntryR φ es ms → EntryR φ' es ms
  | [], [], _ => trivial
  | _ :: _, _ :: _, h => ⟨h.1.mono hx, h.2.1.mono hx, EntryR.mono hx h.2.2⟩
  | [], _ :: _, h => h.elim
  | _ :: _, [], h => h.elim

theorem BR.mono {w0 : Base} {w : World} {φ φ' : List Loc} {l : Loc} {k : ABlk} (hx : Ext φ φ') (h : BR w0 φ w l k) : BR w0 φ' w l k := by
  have hc : ∀ vs, CellsR φ w l vs → CellsR φ' w l vs := fun vs h j v hv => let ⟨u, h1, h2⟩ := h j v hv; ⟨u, h1.mono hx, h2⟩
  cases k with
  | dead => trivial
  | cells vs esz ro => cases ro with
    | true => exact ⟨h.1, h.2.1, hc _ h.2.2⟩
    | false => exact ⟨h.1, hc _ h.2⟩
  | map es ro => obtain ⟨h1, ms, c, h2, h3⟩ := h; exact ⟨h1, ms, c, h2, h3.mono hx⟩
  | siter s pos => exact h
  | defr => exact h
  | loop fr ps as bd st pd db => obtain ⟨h1, tm, ld, f, h2, h3, h4⟩ := h; exact ⟨h1, tm, ld, f, hx.get h2, h3.mono hx, h4⟩
  | glob g vs => exact ⟨h.1, h.2.1, h.2.2.1, hc _ h.2.2.2⟩

theorem cell_of_heap {w w' : World} {a : Addr} (h : w'.heap[a.block]? = w.heap[a.block]?) : w'.cell? a = w.cell? a := World.cell?_of_block h
theorem frozen_of_heap {w w' : World} {a : Addr} (h : w'.heap[a.block]? = w.heap[a.block]?) : w'.frozen? a = w.frozen? a := World.frozen?_of_block h

/-- The block itself is as it was. -/
theorem BR.keep {w0 : Base} {w w' : World} {φ : List Loc} {l : Loc} {k : ABlk} (hw : w'.heap[l.blk]? = w.heap[l.blk]?) (h : BR w0 φ w l k) : BR w0 φ w' l k := by
  have hc : ∀ vs, CellsR φ w l vs → CellsR φ w' l vs := fun vs h j v hv => let ⟨u, h1, h2⟩ := h j v hv; ⟨u, h1, by rw [cell_of_heap (a := ⟨l.blk, l.sh + j, none⟩) hw]; exact h2⟩
  cases k with
  | dead => trivial
  | cells vs esz ro => cases ro with
    | true => exact ⟨h.1, h.2.1, hc _ h.2.2⟩
    | false =>
      obtain ⟨⟨h1, c, e, fz, h2, h3, h4, h6⟩, h5⟩ := h
      exact ⟨⟨h1, c, e, fz, by rw [hw]; exact h2, h3, fun j hj => by rw [frozen_of_heap (a := ⟨l.blk, l.sh + j, none⟩) hw]; exact h4 j hj, h6⟩, hc _ h5⟩
  | map es ro => obtain ⟨h1, ms, c, h2, h3⟩ := h; exact ⟨h1, ms, c, by rw [hw]; exact h2, h3⟩
  | siter s pos => exact ⟨h.1, h.2.1, by rw [hw]; exact h.2.2⟩
  | defr => exact ⟨h.1, by rw [hw]; exact h.2⟩
  | loop fr ps as bd st pd db => obtain ⟨h1, tm, ld, f, h2, h3, h4⟩ := h; exact ⟨h1, tm, ld, f, h2, h3, by rw [hw]; exact h4⟩
  | glob g vs => exact ⟨h.1, h.2.1, h.2.2.1, hc _ h.2.2.2⟩

/-- A live block lies in the heap. -/
theorem BR.lt {w0 : Base} {w : World} {φ : List Loc} {l : Loc} {k : ABlk} (h : BR w0 φ w l k) (hs : w0.w.heap.size ≤ w.heap.size) (hk : k ≠ .dead) : l.blk < w.heap.size := by
  have hsome : ∀ o, w.heap[l.blk]? = some o → l.blk < w.heap.size := fun o ho => (Array.getElem?_eq_some_iff.1 ho).1
  cases k with
  | dead => exact absurd rfl hk
  | cells vs esz ro => cases ro with
    | true => exact Nat.lt_of_lt_of_le (w0.lt _ h.1) hs
    | false => obtain ⟨⟨_, c, e, fz, h2, _⟩, _⟩ := h; exact hsome _ h2
  | map es ro => obtain ⟨h1, ms, c, h2, h3⟩ := h; exact hsome _ h2
  | siter s pos => exact hsome _ h.2.2
  | defr => exact hsome _ h.2
  | loop fr ps as bd st pd db => obtain ⟨h1, tm, ld, f, h2, h3, h4⟩ := h; exact hsome _ h4
  | glob g vs => exact Nat.lt_of_lt_of_le (w0.lt _ h.1) hs

theorem BR.own_ge {w0 : Base} {w : World} {φ : List Loc} {l : Loc} {k : ABlk} (h : BR w0 φ w l k) (hk : k.own = true) : ¬ w0.keep l.blk := by
  cases k with
  | dead => simp [ABlk.own] at hk
  | cells vs esz ro => cases ro with
    | true => simp [ABlk.own] at hk
    | false => exact h.1.1
  | map es ro => cases ro with
    | true => simp [ABlk.own] at hk
    | false => simpa using h.1
  | siter s pos => exact h.1
  | defr => exact h.1
  | loop fr ps as bd st pd db => exact h.1
  | glob g vs => simp [ABlk.own] at hk

theorem BR.ro_lt {w0 : Base} {w : World} {φ : List Loc} {l : Loc} {k : ABlk} (h : BR w0 φ w l k) (hk : k.own = false) (hd : k ≠ .dead) : w0.keep l.blk := by
  cases k with
  | dead => exact absurd rfl hd
  | cells vs esz ro => cases ro with
    | true => exact h.1
    | false => simp [ABlk.own] at hk
  | map es ro => cases ro with
    | true => simpa using h.1
    | false => simp [ABlk.own] at hk
  | siter s pos => simp [ABlk.own] at hk
  | defr => simp [ABlk.own] at hk
  | loop fr ps as bd st pd db => simp [ABlk.own] at hk
  | glob g vs => exact h.1

theorem Rel.loc {w0 : Base} {w : World} {φ : List Loc} {H : AH} (h : Rel w0 φ H w) {b : Nat} {k : ABlk} (hb : H[b]? = some k) : ∃ l, φ[b]? = some l := by
  have := (List.getElem?_eq_some_iff.1 hb).1
  exact ⟨φ[b]'(by rw [h.len]; exact this), List.getElem?_eq_getElem _⟩

theorem Rel.empty (w : World) : Rel (Base.all w) [] [] w :=
  ⟨rfl, BelowB.refl _, fun b k l h => by simp at h, fun b b' k k' l l' h => by simp at h⟩

/-- The world is another, and all its blocks are as they were. -/
theorem Rel.same {w0 : Base} {w w' : World} {φ : List Loc} {H : AH} (h : Rel w0 φ H w) (hh : w'.heap = w.heap) (h1 : w'.os = w.os) (h2 : w'.tape = w.tape) (h3 : w'.output = w.output) : Rel w0 φ H w' :=
  ⟨h.len, ⟨h1.trans h.below.os, h2.trans h.below.tape, h3.trans h.below.output, by rw [hh]; exact h.below.size, fun k hk => by rw [hh]; exact h.below.block k hk⟩,
   fun b k l hb hl => (h.blocks b k l hb hl).keep (by rw [hh]), h.inj⟩
theorem Rel.drew {w0 : Base} {w : World} {φ : List Loc} {H : AH} (h : Rel w0 φ H w) : Rel w0 φ H { w with drawn := w.drawn + 1 } := h.same rfl rfl rfl rfl

/-- A new block. -/
theorem Rel.alloc {w0 : Base} {w : World} {φ : List Loc} {H : AH} (h : Rel w0 φ H w) (o : Obj) {l : Loc} {k : ABlk} (hl : l.blk = w.heap.size) (hk : BR w0 (φ ++ [l]) { w with heap := w.heap.push o } l k) :
    Rel w0 (φ ++ [l]) (H ++ [k]) { w with heap := w.heap.push o } := by
  have old : ∀ j, j < w.heap.size → (w.heap.push o)[j]? = w.heap[j]? := fun j hj => by
    rw [Array.getElem?_push]; simp [Nat.ne_of_lt hj]
  have hold : ∀ (b : Nat) (k' : ABlk) (l' : Loc), H[b]? = some k' → φ[b]? = some l' → BR w0 (φ ++ [l]) { w with heap := w.heap.push o } l' k' := fun b k' l' hb hl' => by
    by_cases hd : k' = .dead
    · subst hd; trivial
    · have hlt := (h.blocks b k' l' hb hl').lt h.below.size hd
      exact ((h.blocks b k' l' hb hl').keep (w' := { w with heap := w.heap.push o }) (old _ hlt)).mono (Ext.snoc φ l)
  have split : ∀ (b : Nat) (k' : ABlk) (l' : Loc), (H ++ [k])[b]? = some k' → (φ ++ [l])[b]? = some l' → (H[b]? = some k' ∧ φ[b]? = some l') ∨ (b = H.length ∧ k' = k ∧ l' = l) := fun b k' l' hb hl' => by
    rcases Nat.lt_trichotomy b H.length with hlt | heq | hgt
    · left
      rw [List.getElem?_append_left hlt] at hb
      rw [List.getElem?_append_left (by rw [h.len]; exact hlt)] at hl'
      exact ⟨hb, hl'⟩
    · right
      subst heq
      rw [List.getElem?_append_right (by omega)] at hb
      rw [List.getElem?_append_right (by rw [h.len]; omega), h.len] at hl'
      simp at hb hl'
      exact ⟨rfl, hb.symm, hl'.symm⟩
    · rw [List.getElem?_eq_none (by simp; omega)] at hb; simp at hb
  refine ⟨by simp [h.len], ⟨h.below.os, h.below.tape, h.below.output, by simp; have := h.below.size; omega, fun j hj => ?_⟩, ?_, ?_⟩
  · rw [old j (by have := h.below.size; have := w0.lt j hj; omega)]; exact h.below.block j hj
  · intro b k' l' hb hl'
    rcases split b k' l' hb hl' with ⟨h1, h2⟩ | ⟨_, rfl, rfl⟩
    · exact hold b k' l' h1 h2
    · exact hk
  · intro b b' k1 k2 l1 l2 hb hb' hl1 hl2 o1 o2 he
    have nd : ∀ k : ABlk, k.own = true → k ≠ .dead := fun k h hd => by subst hd; simp [ABlk.own] at h
    rcases split b k1 l1 hb hl1 with ⟨h1, h2⟩ | ⟨e1, rfl, rfl⟩ <;> rcases split b' k2 l2 hb' hl2 with ⟨h3, h4⟩ | ⟨e2, rfl, rfl⟩
    · exact h.inj b b' k1 k2 l1 l2 h1 h3 h2 h4 o1 o2 he
    · have := (h.blocks b k1 l1 h1 h2).lt h.below.size (nd _ o1); omega
    · have := (h.blocks b' k2 l2 h3 h4).lt h.below.size (nd _ o2); omega
    · omega

/-- One own block has changed. -/
theorem Rel.upd {w0 : Base} {w w' : World} {φ : List Loc} {H : AH} (h : Rel w0 φ H w) {b : Nat} {k k' : ABlk} {l : Loc} (hb : H[b]? = some k) (ho : k.own = true) (hl : φ[b]? = some l)
    (h1 : w'.os = w.os) (h2 : w'.tape = w.tape) (h3 : w'.output = w.output) (hs : w.heap.size ≤ w'.heap.size) (hw : ∀ j, j ≠ l.blk → j < w.heap.size → w'.heap[j]? = w.heap[j]?)
    (hk : BR w0 φ w' l k') : Rel w0 φ (H.set b k') w' := by
  have hge := (h.blocks b k l hb hl).own_ge ho
  have hblen : b < H.length := (List.getElem?_eq_some_iff.1 hb).1
  refine ⟨by simp [h.len], ⟨h1.trans h.below.os, h2.trans h.below.tape, h3.trans h.below.output, Nat.le_trans h.below.size hs, fun j hj => ?_⟩, ?_, ?_⟩
  · rw [hw j (fun e => hge (e ▸ hj)) (by have := h.below.size; have := w0.lt j hj; omega)]; exact h.below.block j hj
  · intro b' k2 l2 hb' hl2
    by_cases e : b' = b
    · subst e
      rw [List.getElem?_set_self hblen] at hb'
      simp at hb'
      rw [hl] at hl2; simp at hl2
      subst hb'; subst hl2; exact hk
    · rw [List.getElem?_set_ne (Ne.symm e)] at hb'
      by_cases hd : k2 = .dead
      · subst hd; trivial
      · have hbr := h.blocks b' k2 l2 hb' hl2
        refine hbr.keep (hw _ ?_ (hbr.lt h.below.size hd))
        intro he
        cases ho2 : k2.own with
        | true => exact e (h.inj b' b k2 k l2 l hb' hb hl2 hl ho2 ho he)
        | false => exact hge (he ▸ hbr.ro_lt ho2 hd)
  · intro b1 b2 k1 k2 l1 l2 hb1 hb2 hl1 hl2 o1 o2 he
    have aux : ∀ (b1 : Nat) (k1 : ABlk), (H.set b k')[b1]? = some k1 → k1.own = true → ∃ k0, H[b1]? = some k0 ∧ k0.own = true := fun b1 k1 hb1 o1 => by
      by_cases e : b1 = b
      · subst e; exact ⟨k, hb, ho⟩
      · rw [List.getElem?_set_ne (Ne.symm e)] at hb1; exact ⟨k1, hb1, o1⟩
    obtain ⟨q1, hq1, p1⟩ := aux b1 k1 hb1 o1
    obtain ⟨q2, hq2, p2⟩ := aux b2 k2 hb2 o2
    exact h.inj b1 b2 q1 q2 l1 l2 hq1 hq2 hl1 hl2 p1 p2 he

/-- One cell of an own block is written. -/
theorem Rel.set {w0 : Base} {w : World} {φ : List Loc} {H : AH} (h : Rel w0 φ H w) {b : Nat} {vs : List AV} {esz : Nat} {l : Loc} (hb : H[b]? = some (.cells vs esz false)) (hl : φ[b]? = some l)
    {off : Nat} (ho : off < vs.length) {v : AV} {u : Value} (hv : VR φ v u) :
    Rel w0 φ (H.set b (.cells (vs.set off v) esz false)) (w.setCell ⟨l.blk, l.sh + off, none⟩ u) ∧
    (∃ old, w.cell? ⟨l.blk, l.sh + off, none⟩ = some old) ∧ w.frozen? ⟨l.blk, l.sh + off, none⟩ = false := by
  obtain ⟨⟨h1, c, e, fz, h2, h3, h4, h6⟩, h5⟩ := h.blocks b _ l hb hl
  obtain ⟨u0, _, hu0⟩ := h5 off vs[off] (List.getElem?_eq_getElem ho)
  refine ⟨?_, ⟨u0, hu0⟩, h4 off (by omega)⟩
  refine h.upd (k := .cells vs esz false) hb rfl hl rfl rfl rfl (by simp) ?_ ?_
  · intro j hj _
    simp only [World.setCell, Array.getElem?_modify]
    rw [if_neg (Ne.symm hj)]
  · refine ⟨⟨h1, c.setIfInBounds (l.sh + off) u, e, fz, ?_, by simp; omega, fun j hj => ?_, h6⟩, ?_⟩
    · simp only [World.setCell, Array.getElem?_modify, if_true, h2, Option.map_some]
      simp
    · rw [World.frozen?_setCell]; exact h4 j (by simp at hj; exact hj)
    · intro j v' hv'
      by_cases e : j = off
      · subst e
        rw [List.getElem?_set_self ho] at hv'
        simp at hv'; subst hv'
        exact ⟨u, hv, World.cell?_setCell_same w _ _ hu0⟩
      · rw [List.getElem?_set_ne (Ne.symm e)] at hv'
        obtain ⟨u', h6, h7⟩ := h5 j v' hv'
        refine ⟨u', h6, ?_⟩
        rw [World.cell?_setCell_other]
        · exact h7
        · intro he; injection he with _ he _; omega
end Go.Ve
