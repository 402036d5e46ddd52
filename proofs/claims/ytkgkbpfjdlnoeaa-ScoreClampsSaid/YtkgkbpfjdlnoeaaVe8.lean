/- The evaluator's operations, continued: copy, len, conversions; one operation. -/
import Derived.Test.YtkgkbpfjdlnoeaaVe7
import Derived.Laws.BytesString
namespace Go.Ve
open Go Go.RowKit

section
variable {P : Program} {w0 : Base} {w : World} {φ : List Loc} {H : AH}

def alen : AV → Option Nat
  | .sl _ _ len _ _ => some len
  | .nilsl => some 0
  | .sle .. => some 0
  | .slz => some 0
  | .str s => some s.length
  | _ => none
theorem alen_ok {x : AV} {xu : Value} {n : Nat} (h : alen x = some n) (hx : VR φ x xu) : (Builtin.lenOf xu).run P w = .ok n w := by
  cases hx <;> simp [alen] at h <;> subst h <;> first | rfl | (simp [Builtin.lenOf, size_mk])
/-- The first n elements. -/
def afirst (H : AH) (size n : Nat) : AV → Option (List AV)
  | .sl b off _ _ _ =>
    match cellsOf? H b with
    | some vs => if off + n * size ≤ vs.length then some ((vs.drop off).take (n * size)) else none
    | none => none
  | .nilsl => some []
  | .sle _ _ _ => if n = 0 then some [] else none
  | .slz => if n = 0 then some [] else none
  | .str s => if size = 1 then some ((s.take n).map fun c => .int .u8 c.toNat) else none
  | _ => none
theorem afirst_ok (hr : Rel w0 φ H w) {size n : Nat} {x : AV} {xu : Value} {cs : List AV} (h : afirst H size n x = some cs) (hx : VR φ x xu) :
    ∃ us : Array Value, VRs φ cs us.toList ∧ (Builtin.firstCells size n xu).run P w = .ok us w := by
  unfold afirst at h
  split at h
  · split at h
    · rename_i b off n1 cap1 ex1 _x vs hb
      split at h
      · rename_i hle
        cases h
        cases hx with
        | sl hl =>
          obtain ⟨us, h1, h2, h3⟩ := (hr.cellsR hb hl).get off _ hle
          have hload := run_loadCells_list (P := P) w _ us (fun j u hu => by rw [add_mk]; exact h3 j u hu)
          rw [h1] at hload
          exact ⟨us.toArray, by simpa using h2, hload⟩
      · cases h
    · cases h
  · cases h; cases hx; exact ⟨#[], .nil, rfl⟩
  · split at h
    · rename_i h0
      cases h; subst h0
      cases hx with
      | sle hl =>
        refine ⟨#[], .nil, ?_⟩
        simp [Builtin.firstCells, loadCells, loadCellsFrom]
    · cases h
  · split at h
    · rename_i h0
      cases h; subst h0
      cases hx with
      | slz a =>
        refine ⟨#[], .nil, ?_⟩
        simp [Builtin.firstCells, loadCells, loadCellsFrom]
    · cases h
  · split at h
    · rename_i s hs
      cases h; cases hx
      refine ⟨((s.take n).map fun c => Value.int .u8 c.toNat).toArray, ?_, ?_⟩
      · simpa using VRs.map_of (φ := φ) (s.take n) (fun c => AV.int .u8 c.toNat) (fun c => Value.int .u8 c.toNat) (fun c _ => .int _ _)
      · simp only [Builtin.firstCells]
        have e : ((⟨⟨s⟩⟩ : ByteArray).extract 0 n).data = ⟨s.take n⟩ := by
          rw [ByteArray.data_extract]
          apply Array.toList_inj.1
          simp [List.extract]
        rw [e]
        simp
    · cases h
  · cases h

def acopy (P : Program) (dT : TypeId) (dst src : AV) (H : AH) : Option (AV × Option (AH × Nat)) :=
  match P.underlying dT with
  | some (.slice e) =>
    match P.info? e, alen src, dst with
    | some inf, some m, .sl b off len _ _ =>
      match afirst H inf.size (min m len) src, H[b]? with
      | some cs, some (.cells vs esz false) =>
        if AV.allOne cs = true ∧ off + cs.length ≤ vs.length then some (.int .i64 (min m len : Nat), some (H.set b (.cells (setManyF vs off cs) esz false), b)) else none
      | _, _ => none
    | some _, some _, .nilsl => some (.int .i64 0, none)
    | _, _, _ => none
  | _ => none

/-- Blocks below 'lo' are as they were. -/
def Keeps (lo : Nat) (H H' : AH) : Prop := H.length ≤ H'.length ∧ ∀ j, j < lo → j < H.length → H'[j]? = H[j]?
theorem Keeps.refl (lo : Nat) (H : AH) : Keeps lo H H := ⟨Nat.le_refl _, fun _ _ _ => rfl⟩
theorem Keeps.trans {lo : Nat} {a b c : AH} (h : Keeps lo a b) (k : Keeps lo b c) : Keeps lo a c :=
  ⟨Nat.le_trans h.1 k.1, fun j hj hl => (k.2 j hj (Nat.lt_of_lt_of_le hl h.1)).trans (h.2 j hj hl)⟩
theorem Keeps.mono {lo lo' : Nat} {a b : AH} (h : Keeps lo a b) (hl : lo' ≤ lo) : Keeps lo' a b := ⟨h.1, fun j hj => h.2 j (Nat.lt_of_lt_of_le hj hl)⟩
theorem Keeps.append (lo : Nat) (H t : AH) : Keeps lo H (H ++ t) := ⟨by simp, fun j _ hj => List.getElem?_append_left hj⟩
theorem Keeps.set (H : AH) (b : Nat) (k : ABlk) : Keeps b H (H.set b k) := ⟨by simp, fun j hj _ => List.getElem?_set_ne (by omega)⟩

theorem acopy_ok (hr : Rel w0 φ H w) {dT sT ty : TypeId} {dst src v : AV} {du su : Value} {ch : Option (AH × Nat)} (h : acopy P dT dst src H = some (v, ch)) (hd : VR φ dst du) (hs : VR φ src su) :
    ∃ u w', (Builtin.copy_ #[dT, sT] ty #[du, su]).run P w = .ok u w' ∧ VR φ v u ∧ (match ch with | none => w' = w | some (H', lo) => Rel w0 φ H' w' ∧ Keeps lo H H') := by
  unfold acopy at h
  split at h
  · rename_i e hu
    split at h
    · rename_i inf m b off len cap ex hi hm _h
      split at h
      · rename_i cs vs esz hcs hb
        split at h
        · rename_i hc
          obtain ⟨hone, hle⟩ := hc
          rw [setManyF_eq] at h
          cases h
          cases hd with
          | sl hl =>
            have hlen := alen_ok (P := P) (w := w) hm hs
            obtain ⟨us, h1, h2⟩ := afirst_ok (P := P) hr hcs hs
            obtain ⟨w', h3, h4⟩ := storeCells_ok (P := P) hl cs us.toList vs off 0 H w hr hb h1 (allOne_mem hone) (by omega)
            refine ⟨_, w', ?_, .int .i64 _, by simpa using h4, Keeps.set _ _ _⟩
            have e1 : Nat.min m len = min m len := rfl
            simp [Builtin.copy_, run_underlying hu, hlen, sizeOf, typeInfo, hi, e1, h2, h3, goInt]
        · cases h
      · cases h
    · rename_i inf m hi hm _h
      cases h
      cases hd
      have hlen := alen_ok (P := P) (w := w) hm hs
      refine ⟨_, w, ?_, .int .i64 0, rfl⟩
      have hf : (Builtin.firstCells inf.size 0 su).run P w = .ok #[] w := by
        cases hs <;> simp [alen] at hm <;> simp [Builtin.firstCells, loadCells, loadCellsFrom]
      simp [Builtin.copy_, run_underlying hu, hlen, sizeOf, typeInfo, hi, hf, goInt]
    · cases h
  · cases h

/-! ### Conversions -/
def abytes : List AV → Option (List UInt8)
  | [] => some []
  | .int .u8 n :: r => (abytes r).map (UInt8.ofNat n.toNat :: ·)
  | _ :: _ => none
theorem abytes_ok : ∀ {cs : List AV} {us : List Value} {s : List UInt8}, abytes cs = some s → VRs φ cs us → ∃ ns : List Int, us = ns.map (Value.int .u8) ∧ s = ns.map fun n => UInt8.ofNat n.toNat
  | [], _, s, h, hv => by cases hv; simp [abytes] at h; subst h; exact ⟨[], rfl, rfl⟩
  | c :: cs, _, s, h, hv => by
    cases hv with
    | cons h1 h2 =>
      unfold abytes at h
      split at h
      · rename_i heq; cases heq
      · rename_i n r heq
        cases heq
        cases h1
        cases hr : abytes cs with
        | none => rw [hr] at h; cases h
        | some s' =>
          rw [hr] at h; cases h
          obtain ⟨ns, h3, h4⟩ := abytes_ok hr h2
          exact ⟨n :: ns, by simp [h3], by simp [h4]⟩
      · cases h
theorem foldl_push (ns : List Int) : ∀ s : List UInt8, ns.foldl (fun r n => ByteArray.push r (UInt8.ofNat n.toNat)) (⟨⟨s⟩⟩ : ByteArray) = ⟨⟨s ++ ns.map fun n => UInt8.ofNat n.toNat⟩⟩ := by
  induction ns with
  | nil => intro s; simp
  | cons n ns ih =>
    intro s
    simp only [List.foldl_cons]
    have : ByteArray.push (⟨⟨s⟩⟩ : ByteArray) (UInt8.ofNat n.toNat) = ⟨⟨s ++ [UInt8.ofNat n.toNat]⟩⟩ := congrArg ByteArray.mk (by apply Array.toList_inj.1; simp)
    rw [this, ih]
    simp

def aconvert (P : Program) (src dst : TypeId) (x : AV) (H : AH) : Option (AV × Option (AH × Nat)) :=
  match x with
  | .str s =>
    match P.underlying src, P.underlying dst with
    | some _, some .string => some (.str s, none)
    | some _, some (.slice e) =>
      match P.underlying e with
      | some (.int .u8) => some (.sl H.length 0 s.length s.length false, some (H ++ [.cells (s.map fun c => .int .u8 c.toNat) (btag P e 1) false], H.length))
      | _ => none
    | _, _ => none
  | .sl b off len _ _ =>
    match P.underlying src, P.underlying dst with
    | some (.slice e), some .string =>
      match P.underlying e, cellsOf? H b with
      | some (.int .u8), some vs =>
        if off + len ≤ vs.length then
          match abytes ((vs.drop off).take len) with
          | some s => some (.str s, none)
          | none => none
        else none
      | _, _ => none
    | _, _ => none
  | .nilsl =>
    match P.underlying src, P.underlying dst with
    | some (.slice e), some .string =>
      match P.underlying e with
      | some (.int .u8) => some (.str [], none)
      | _ => none
    | _, _ => none
  | .sle _ _ _ =>
    match P.underlying src, P.underlying dst with
    | some (.slice e), some .string =>
      match P.underlying e with
      | some (.int .u8) => some (.str [], none)
      | _ => none
    | _, _ => none
  | .slz =>
    match P.underlying src, P.underlying dst with
    | some (.slice e), some .string =>
      match P.underlying e with
      | some (.int .u8) => some (.str [], none)
      | _ => none
    | _, _ => none
  | x =>
    match x.sc with
    | some a => (pureRun P (convert src dst a)).map fun v => (ofV1 v, none)
    | none => none

/-- What became of the world: nothing, or a new heap. -/
def ChOk (w0 : Base) (w : World) (φ : List Loc) (H : AH) (φ' : List Loc) (w' : World) : Option (AH × Nat) → Prop
  | none => w' = w ∧ φ' = φ
  | some (H', lo) => Rel w0 φ' H' w' ∧ Keeps lo H H'

theorem stringToBytes_ok (hr : Rel w0 φ H w) (e : TypeId) (s : List UInt8) :
    ∃ u w' φ', (Conv.stringToBytes e ⟨⟨s⟩⟩).run P w = .ok u w' ∧ Ext φ φ' ∧ VR φ' (.sl H.length 0 s.length s.length false) u ∧ Rel w0 φ' (H ++ [.cells (s.map fun c => .int .u8 c.toNat) (btag P e 1) false]) w' := by
  let cap := (Question.appendCap s.length 0 e).cut (w.tape w.drawn (.appendCap s.length 0 e))
  have hcap : s.length ≤ cap := by simp [cap, Question.cut]
  let extra : Array Value := Array.replicate (cap - s.length) (.int .u8 0)
  let elems : Array Value := (s.map fun c => Value.int .u8 c.toNat).toArray
  have hel : VRs φ (s.map fun c => AV.int .u8 c.toNat) elems.toList := by
    simpa [elems] using VRs.map_of (φ := φ) s (fun c => AV.int .u8 c.toNat) (fun c => Value.int .u8 c.toNat) (fun c _ => .int _ _)
  have hnew := hr.drew'.newCells e hel (btag P e 1) (cap - s.length) extra (by rw [szOf_btag (by omega)]; simp [extra]) (fun t h => (tyOf_btag (by omega) h).1)
  have hw := newSl (φ := φ) (H := H) hr.len ⟨w.heap.size, 0, cap - s.length⟩ s.length s.length
  simp only at hw
  rw [show s.length + (cap - s.length) = cap by omega] at hw
  have hsz : (elems ++ extra).size = cap := by simp [elems, extra]; omega
  let w1 : World := { w with drawn := w.drawn + 1, heap := w.heap.push (.cells (elems ++ extra) e) }
  have hb1 : w1.heap[w.heap.size]? = some (.cells (elems ++ extra) e) := by simp [w1]
  have hshape : w1.shape? w.heap.size = some (e, cap) := by simp [World.shape?, hb1, hsz]
  let w2 : World := w1.freeze ⟨w.heap.size, cap, none⟩ 1
  have hb2 : w2.heap[w.heap.size]? = some (.cells (elems ++ extra) e (cap, cap + 1)) := by
    simp only [w2, World.freeze]
    rw [if_neg (by decide)]
    simp only [Array.getElem?_modify, if_true, hb1, Option.map_some]
    rfl
  have hrel : Rel w0 (φ ++ [⟨w.heap.size, 0, cap - s.length⟩]) (H ++ [.cells (s.map fun c => .int .u8 c.toNat) (btag P e 1) false]) w2 := by
    have hH : (H ++ [ABlk.cells (s.map fun c => AV.int .u8 c.toNat) (btag P e 1) false])[H.length]? = some (.cells (s.map fun c => .int .u8 c.toNat) (btag P e 1) false) := by simp
    have hL : (φ ++ [(⟨w.heap.size, 0, cap - s.length⟩ : Loc)])[H.length]? = some ⟨w.heap.size, 0, cap - s.length⟩ := by rw [← hr.len]; simp
    have hset : (H ++ [ABlk.cells (s.map fun c => AV.int .u8 c.toNat) (btag P e 1) false]).set H.length (.cells (s.map fun c => .int .u8 c.toNat) (btag P e 1) false) = H ++ [.cells (s.map fun c => .int .u8 c.toNat) (btag P e 1) false] := by
      simp
    rw [← hset]
    have hother : ∀ j, j ≠ w.heap.size → w2.heap[j]? = w1.heap[j]? := fun j hj => by
      simp only [w2, World.freeze]
      rw [if_neg (by decide)]
      simp only [Array.getElem?_modify]
      rw [if_neg (Ne.symm hj)]
    have hrest : w2.os = w1.os ∧ w2.tape = w1.tape ∧ w2.output = w1.output ∧ w2.heap.size = w1.heap.size := by
      simp only [w2, World.freeze]
      rw [if_neg (by decide)]
      exact ⟨rfl, rfl, rfl, by simp⟩
    refine hnew.upd (b := H.length) hH rfl hL hrest.1 hrest.2.1 hrest.2.2.1 (Nat.le_of_eq hrest.2.2.2.symm) (fun j hj _ => hother j hj) ?_
    obtain ⟨⟨g1, c, e', fz, g2, g3, g4, g9⟩, g5⟩ := hnew.blocks H.length _ _ hH hL
    refine ⟨⟨g1, _, e, (cap, cap + 1), hb2, by rw [hsz, szOf_btag (by omega)]; simp; omega, fun j hj => ?_, fun t ht => ⟨(tyOf_btag (by omega) ht).1.symm, Nat.zero_mod _⟩⟩, ?_⟩
    · rw [szOf_btag (by omega)] at hj
      simp at hj
      simp only [World.frozen?, hb2]
      simp; omega
    · intro j v hj
      obtain ⟨u, g6, g7⟩ := g5 j v hj
      refine ⟨u, g6, ?_⟩
      have g8 : w1.cell? ⟨w.heap.size, 0 + j, none⟩ = some u := g7
      simp only [World.cell?, hb1] at g8
      simp only [World.cell?, hb2]
      exact g8
  refine ⟨_, w2, _, ?_, Ext.snoc _ _, hw, hrel⟩
  unfold Conv.stringToBytes
  simp only [Sem.run_bind, run_choose, Question.forced, Bool.false_eq_true, if_false, Result.andThen_ok, size_mk, newRow, run_newObj, Sem.run_pure]
  have e1 : (List.map (fun b => Value.int IntKind.u8 ↑b.toNat) s).toArray = elems := rfl
  have e2 : (Array.map (fun b : UInt8 => Value.int IntKind.u8 ↑b.toNat) ⟨s⟩) = elems := by simp [elems]
  simp only [e2]
  unfold markStringish
  simp only [Sem.run_bind, run_shape]
  have e3 : (World.shape? { heap := w.heap.push (Obj.cells (elems ++ Array.replicate ((Question.appendCap s.length 0 e).cut (w.tape w.drawn (Question.appendCap s.length 0 e)) - s.length) (Value.int IntKind.u8 0)) e), tape := w.tape, drawn := w.drawn + 1, os := w.os, output := w.output } w.heap.size) = some (e, cap) := hshape
  rw [e3]
  rfl

theorem aconvert_ok (hr : Rel w0 φ H w) {src dst : TypeId} {x v : AV} {xu : Value} {ch : Option (AH × Nat)} (h : aconvert P src dst x H = some (v, ch)) (hx : VR φ x xu) :
    ∃ u w' φ', (convert src dst xu).run P w = .ok u w' ∧ Ext φ φ' ∧ VR φ' v u ∧ ChOk w0 w φ H φ' w' ch := by
  have scal : ∀ a, x.sc = some a → ((pureRun P (convert src dst a)).map fun v => (ofV1 v, (none : Option (AH × Nat)))) = some (v, ch) →
      ∃ u w' φ', (convert src dst xu).run P w = .ok u w' ∧ Ext φ φ' ∧ VR φ' v u ∧ ChOk w0 w φ H φ' w' ch := fun a ha h => by
    cases hr2 : pureRun P (convert src dst a) with
    | none => rw [hr2] at h; cases h
    | some u =>
      rw [hr2] at h; cases h
      rw [sc_ok ha hx]
      exact ⟨u, w, φ, pureRun_ok w hr2, Ext.refl _, ofV1_ok φ u, rfl, rfl⟩
  cases hx with
  | str s =>
    simp only [aconvert] at h
    split at h
    · rename_i ds hs hd
      cases h
      refine ⟨.string ⟨⟨s⟩⟩, w, φ, ?_, Ext.refl _, .str s, rfl, rfl⟩
      simp [convert, run_underlying hs, run_underlying hd]
    · rename_i ds e hs hd
      split at h
      · rename_i he
        cases h
        obtain ⟨u, w', φ', h1, h2, h3, h4⟩ := stringToBytes_ok (P := P) hr e s
        refine ⟨u, w', φ', ?_, h2, h3, h4, Keeps.append _ _ _⟩
        simp [convert, run_underlying hs, run_underlying hd, run_underlying he, h1]
      · cases h
    · cases h
  | @sl b off len cap ex l hl =>
    simp only [aconvert] at h
    split at h
    · rename_i e hs hd
      split at h
      · rename_i vs he hb
        split at h
        · rename_i hle
          split at h
          · rename_i s hby
            cases h
            obtain ⟨us, h1, h2, h3⟩ := (hr.cellsR hb hl).get off len hle
            have hload := run_loadCells_list (P := P) w _ us (fun j u hu => by rw [add_mk]; exact h3 j u hu)
            rw [h1] at hload
            obtain ⟨ns, h4, h5⟩ := abytes_ok hby h2
            subst h4
            have := run_bytesToString (P := P) w _ len (cap + if ex = true then 0 else l.slk) ns hload
            refine ⟨.string ⟨⟨s⟩⟩, w, φ, ?_, Ext.refl _, .str s, rfl, rfl⟩
            rw [run_convert_bytes_string w src dst e _ _ _ hs he hd, this]
            have e2 := foldl_push ns []
            rw [show (ByteArray.empty) = (⟨⟨[]⟩⟩ : ByteArray) from rfl, e2, h5]
            rfl
          · cases h
        · cases h
      · cases h
    · cases h
  | nilsl =>
    simp only [aconvert] at h
    split at h
    · rename_i e hs hd
      split at h
      · rename_i he
        cases h
        refine ⟨.string ⟨⟨[]⟩⟩, w, φ, ?_, Ext.refl _, .str [], rfl, rfl⟩
        rw [run_convert_bytes_string w src dst e _ _ _ hs he hd]
        rfl
      · cases h
    · cases h
  | sle hl =>
    simp only [aconvert] at h
    split at h
    · rename_i e hs hd
      split at h
      · rename_i he
        cases h
        refine ⟨.string ⟨⟨[]⟩⟩, w, φ, ?_, Ext.refl _, .str [], rfl, rfl⟩
        rw [run_convert_bytes_string w src dst e _ _ _ hs he hd]
        have := fun a c => run_bytesToString (P := P) w a 0 c [] (by simp [loadCells, loadCellsFrom])
        rw [this]
        rfl
      · cases h
    · cases h
  | slz a =>
    simp only [aconvert] at h
    split at h
    · rename_i e hs hd
      split at h
      · rename_i he
        cases h
        refine ⟨.string ⟨⟨[]⟩⟩, w, φ, ?_, Ext.refl _, .str [], rfl, rfl⟩
        rw [run_convert_bytes_string w src dst e _ _ _ hs he hd]
        have := fun a c => run_bytesToString (P := P) w a 0 c [] (by simp [loadCells, loadCellsFrom])
        rw [this]
        rfl
      · cases h
    · cases h
  | bool b => exact scal _ rfl h
  | int k n => exact scal _ rfl h
  | float k n => exact scal _ rfl h
  | _ => simp [aconvert, AV.sc] at h
end
end Go.Ve
