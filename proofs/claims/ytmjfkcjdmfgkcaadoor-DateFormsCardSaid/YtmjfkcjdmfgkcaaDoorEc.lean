/- Regions that draw their order: operations that do not meet may come in any order. First: references, masks, folds. -/
import Derived.Test.YtmjfkcjdmfgkcaaDoorEb
import Derived.RangeFuncRecord
import Derived.OrdersIn
import Derived.TacticsIn
import Derived.LoopNIn
namespace Go.Ve
open Go Go.RowKit

mutual
def AV.On (p : Nat → Prop) : AV → Prop
  | .ptr b _ => p b
  | .sl b _ _ _ _ => p b
  | .sle b _ _ => p b
  | .map b => p b
  | .yld b => p b
  | .fn _ xs cs => AV.Ons p xs ∧ AV.Ons p cs
  | .iface _ v => AV.On p v
  | .agg cs => AV.Ons p cs
  | .tuple cs => AV.Ons p cs
  | _ => True
def AV.Ons (p : Nat → Prop) : List AV → Prop
  | [] => True
  | v :: vs => AV.On p v ∧ AV.Ons p vs
end
mutual
def AV.onB (p : Nat → Bool) : AV → Bool
  | .ptr b _ => p b
  | .sl b _ _ _ _ => p b
  | .sle b _ _ => p b
  | .map b => p b
  | .yld b => p b
  | .fn _ xs cs => AV.onBs p xs && AV.onBs p cs
  | .iface _ v => AV.onB p v
  | .agg cs => AV.onBs p cs
  | .tuple cs => AV.onBs p cs
  | _ => true
def AV.onBs (p : Nat → Bool) : List AV → Bool
  | [] => true
  | v :: vs => AV.onB p v && AV.onBs p vs
end
mutual
theorem AV.onB_ok {p : Nat → Bool} : ∀ {v : AV}, AV.onB p v = true → AV.On (fun b => p b = true) v
  | .ptr _ _, h => h
  | .sl _ _ _ _ _, h => h
  | .sle _ _ _, h => h
  | .map _, h => h
  | .yld _, h => h
  | .opq, _ => trivial
  | .fn _ _ _, h => by
    simp only [AV.onB, Bool.and_eq_true] at h
    exact ⟨AV.onBs_ok h.1, AV.onBs_ok h.2⟩
  | .iface _ v, h => AV.onB_ok (v := v) h
  | .agg cs, h => AV.onBs_ok (vs := cs) h
  | .tuple cs, h => AV.onBs_ok (vs := cs) h
  | .bad, _ => trivial
  | .bool _, _ => trivial
  | .int _ _, _ => trivial
  | .float _ _, _ => trivial
  | .nan _, _ => trivial
  | .str _, _ => trivial
  | .nilptr, _ => trivial
  | .gptr _ _, _ => trivial
  | .nilsl, _ => trivial
  | .slz, _ => trivial
  | .nilmap, _ => trivial
  | .nilfn, _ => trivial
  | .niliface, _ => trivial
theorem AV.onBs_ok {p : Nat → Bool} : ∀ {vs : List AV}, AV.onBs p vs = true → AV.Ons (fun b => p b = true) vs
  | [], _ => trivial
  | v :: vs, h => by
    simp only [AV.onBs, Bool.and_eq_true] at h
    exact ⟨AV.onB_ok h.1, AV.onBs_ok h.2⟩
end
mutual
theorem AV.On.mono {p q : Nat → Prop} (hpq : ∀ b, p b → q b) : ∀ {v : AV}, AV.On p v → AV.On q v
  | .ptr b _, h => hpq b h
  | .sl b _ _ _ _, h => hpq b h
  | .sle b _ _, h => hpq b h
  | .map b, h => hpq b h
  | .yld b, h => hpq b h
  | .opq, _ => trivial
  | .fn _ _ _, h => ⟨AV.Ons.mono hpq h.1, AV.Ons.mono hpq h.2⟩
  | .iface _ v, h => AV.On.mono hpq (v := v) h
  | .agg cs, h => AV.Ons.mono hpq (vs := cs) h
  | .tuple cs, h => AV.Ons.mono hpq (vs := cs) h
  | .bad, _ => trivial
  | .bool _, _ => trivial
  | .int _ _, _ => trivial
  | .float _ _, _ => trivial
  | .nan _, _ => trivial
  | .str _, _ => trivial
  | .nilptr, _ => trivial
  | .gptr _ _, _ => trivial
  | .nilsl, _ => trivial
  | .slz, _ => trivial
  | .nilmap, _ => trivial
  | .nilfn, _ => trivial
  | .niliface, _ => trivial
theorem AV.Ons.mono {p q : Nat → Prop} (hpq : ∀ b, p b → q b) : ∀ {vs : List AV}, AV.Ons p vs → AV.Ons q vs
  | [], _ => trivial
  | _ :: _, h => ⟨AV.On.mono hpq h.1, AV.Ons.mono hpq h.2⟩
end
theorem lt_of_some {α : Type} {l : List α} {b : Nat} {x : α} (h : l[b]? = some x) : b < l.length := (List.getElem?_eq_some_iff.1 h).1
mutual
theorem VR.on {φ : List Loc} : ∀ {v : AV} {u : Value}, VR φ v u → AV.On (fun b => b < φ.length) v
  | _, _, .bad _ => trivial
  | _, _, .bool _ => trivial
  | _, _, .int _ _ => trivial
  | _, _, .float _ _ => trivial
  | _, _, .nan _ => trivial
  | _, _, .str _ => trivial
  | _, _, .nilptr => trivial
  | _, _, .ptr h => lt_of_some h
  | _, _, .gptr _ _ => trivial
  | _, _, .nilsl => trivial
  | _, _, .sl h => lt_of_some h
  | _, _, .sle h => lt_of_some h
  | _, _, .slz _ => trivial
  | _, _, .nilmap => trivial
  | _, _, .map h => lt_of_some h
  | _, _, .yld h => lt_of_some h
  | _, _, .opq _ => trivial
  | _, _, .fn _ h1 h2 => ⟨VRs.on h1, VRs.on h2⟩
  | _, _, .nilfn => trivial
  | _, _, .iface _ h => by have := VR.on h; exact this
  | _, _, .niliface => trivial
  | _, _, .agg h => VRs.on h
  | _, _, .tuple h => VRs.on h
theorem VRs.on {φ : List Loc} : ∀ {v : List AV} {u : List Value}, VRs φ v u → AV.Ons (fun b => b < φ.length) v
  | _, _, .nil => trivial
  | _, _, .cons h hs => ⟨VR.on h, VRs.on hs⟩
end
mutual
theorem VR.re {φ φ' : List Loc} {p : Nat → Prop} (hp : ∀ b, p b → φ'[b]? = φ[b]?) : ∀ {v : AV} {u : Value}, AV.On p v → VR φ v u → VR φ' v u
  | _, _, _, .bad v => .bad v
  | _, _, _, .bool b => .bool b
  | _, _, _, .int k n => .int k n
  | _, _, _, .float k n => .float k n
  | _, _, _, .nan h => .nan h
  | _, _, _, .str s => .str s
  | _, _, _, .nilptr => .nilptr
  | _, _, o, .ptr h => .ptr ((hp _ o).trans h)
  | _, _, _, .gptr g o => .gptr g o
  | _, _, _, .nilsl => .nilsl
  | _, _, o, .sl h => .sl ((hp _ o).trans h)
  | _, _, o, .sle h => .sle ((hp _ o).trans h)
  | _, _, _, .slz a => .slz a
  | _, _, _, .nilmap => .nilmap
  | _, _, o, .map h => .map ((hp _ o).trans h)
  | _, _, o, .yld h => .yld ((hp _ o).trans h)
  | _, _, _, .opq h => .opq h
  | .fn f _ _, _, o, .fn _ h1 h2 => .fn f (VRs.re hp o.1 h1) (VRs.re hp o.2 h2)
  | _, _, _, .nilfn => .nilfn
  | .iface t _, _, o, .iface _ h => .iface t (VR.re hp (show AV.On p _ from o) h)
  | _, _, _, .niliface => .niliface
  | .agg _, _, o, .agg h => .agg (VRs.re hp (show AV.Ons p _ from o) h)
  | .tuple _, _, o, .tuple h => .tuple (VRs.re hp (show AV.Ons p _ from o) h)
theorem VRs.re {φ φ' : List Loc} {p : Nat → Prop} (hp : ∀ b, p b → φ'[b]? = φ[b]?) : ∀ {v : List AV} {u : List Value}, AV.Ons p v → VRs φ v u → VRs φ' v u
  | _, _, _, .nil => .nil
  | _, _, o, .cons h hs => .cons (VR.re hp o.1 h) (VRs.re hp o.2 hs)
end
theorem AV.Ons.get {p : Nat → Prop} : ∀ {vs : List AV}, AV.Ons p vs → ∀ {j : Nat} {v : AV}, vs[j]? = some v → AV.On p v
  | [], _, _, _, h => by simp at h
  | _ :: _, o, 0, _, h => by simp at h; subst h; exact o.1
  | _ :: _, o, j + 1, _, h => AV.Ons.get o.2 (j := j) (by simpa using h)
theorem AV.Ons.of_get {p : Nat → Prop} : ∀ {vs : List AV}, (∀ (j : Nat) (v : AV), vs[j]? = some v → AV.On p v) → AV.Ons p vs
  | [], _ => trivial
  | v :: vs, h => ⟨h 0 v rfl, AV.Ons.of_get fun j u hu => h (j + 1) u (by simpa using hu)⟩
theorem AV.Ons.set {p : Nat → Prop} : ∀ {vs : List AV} (n : Nat) {v : AV}, AV.Ons p vs → AV.On p v → AV.Ons p (vs.set n v)
  | [], _, _, h, _ => h
  | _ :: _, 0, _, h, hv => ⟨hv, h.2⟩
  | _ :: _, n + 1, _, h, hv => ⟨h.1, AV.Ons.set n h.2 hv⟩

def ABlk.On (p : Nat → Prop) : ABlk → Prop
  | .cells vs _ _ => AV.Ons p vs
  | .map es _ => ∀ e ∈ es, AV.On p e.1 ∧ AV.On p e.2
  | .loop fr _ _ _ _ _ db => AV.Ons p fr ∧ p db
  | .glob _ vs => AV.Ons p vs
  | _ => True
def ABlk.onB (p : Nat → Bool) : ABlk → Bool
  | .cells vs _ _ => AV.onBs p vs
  | .map _ _ => false
  | .loop fr _ _ _ _ _ db => AV.onBs p fr && p db
  | .glob _ vs => AV.onBs p vs
  | _ => true
theorem ABlk.onB_ok {p : Nat → Bool} {k : ABlk} (h : k.onB p = true) : k.On (fun b => p b = true) := by
  cases k with
  | cells vs e r => exact AV.onBs_ok h
  | map es r => simp [ABlk.onB] at h
  | dead => trivial
  | siter s n => trivial
  | defr => trivial
  | loop fr ps as bd st pd db => simp only [ABlk.onB, Bool.and_eq_true] at h; exact ⟨AV.onBs_ok h.1, h.2⟩
  | glob g vs => exact AV.onBs_ok h
theorem ABlk.On.mono {p q : Nat → Prop} (hpq : ∀ b, p b → q b) {k : ABlk} (h : k.On p) : k.On q := by
  cases k with
  | cells vs e r => exact AV.Ons.mono hpq h
  | map es r => exact fun e he => ⟨AV.On.mono hpq (h e he).1, AV.On.mono hpq (h e he).2⟩
  | dead => trivial
  | siter s n => trivial
  | defr => trivial
  | loop fr ps as bd st pd db => exact ⟨AV.Ons.mono hpq h.1, hpq _ h.2⟩
  | glob g vs => exact AV.Ons.mono hpq h
theorem EntryR.on {φ : List Loc} : ∀ {es : List (AV × AV)} {ms : List MapEntry}, EntryR φ es ms → ∀ e ∈ es, AV.On (fun b => b < φ.length) e.1 ∧ AV.On (fun b => b < φ.length) e.2
  | [], _, _, e, he => by simp at he
  | x :: es, [], h, _, _ => h.elim
  | x :: es, m :: ms, h, e, he => by
    rcases List.mem_cons.1 he with rfl | he
    · exact ⟨h.1.on, h.2.1.on⟩
    · exact EntryR.on h.2.2 e he
theorem EntryR.re {φ φ' : List Loc} {p : Nat → Prop} (hp : ∀ b, p b → φ'[b]? = φ[b]?) : ∀ {es : List (AV × AV)} {ms : List MapEntry}, (∀ e ∈ es, AV.On p e.1 ∧ AV.On p e.2) → EntryR φ es ms → EntryR φ' es ms
  | [], [], _, _ => trivial
  | x :: es, m :: ms, o, h => ⟨h.1.re hp (o x (by simp)).1, h.2.1.re hp (o x (by simp)).2, EntryR.re hp (fun e he => o e (by simp [he])) h.2.2⟩
  | [], _ :: _, _, h => h.elim
  | _ :: _, [], _, h => h.elim
theorem EntryB.re {φ φ' : List Loc} {p : Nat → Prop} (hp : ∀ b, p b → φ'[b]? = φ[b]?) {es : List (AV × AV)} {ms : List MapEntry} {c : Nat} (o : ∀ e ∈ es, AV.On p e.1 ∧ AV.On p e.2) (h : EntryB φ es ms c) : EntryB φ' es ms c := ⟨EntryR.re hp o h.e, h.b⟩
theorem BR.on {w0 : Base} {w : World} {φ : List Loc} {l : Loc} {k : ABlk} (h : BR w0 φ w l k) : k.On (fun b => b < φ.length) := by
  cases k with
  | cells vs e r =>
    refine AV.Ons.of_get fun j v hv => ?_
    obtain ⟨u, h1, _⟩ := h.cellsR j v hv
    exact h1.on
  | map es r => obtain ⟨_, ms, c, _, h3⟩ := h; exact h3.e.on
  | dead => trivial
  | siter s n => trivial
  | defr => trivial
  | loop fr ps as bd st pd db => obtain ⟨_, tm, ld, f, h2, h3, _⟩ := h; exact ⟨h3.on, lt_of_some h2⟩
  | glob g vs =>
    refine AV.Ons.of_get fun j v hv => ?_
    obtain ⟨u, h1, _⟩ := h.2.2.2 j v hv
    exact h1.on
theorem BR.re {w0 : Base} {w : World} {φ φ' : List Loc} {l : Loc} {k : ABlk} {p : Nat → Prop} (hp : ∀ b, p b → φ'[b]? = φ[b]?) (o : k.On p) (h : BR w0 φ w l k) : BR w0 φ' w l k := by
  have hc : ∀ vs, AV.Ons p vs → CellsR φ w l vs → CellsR φ' w l vs := fun vs o h j v hv => by
    obtain ⟨u, h1, h2⟩ := h j v hv
    exact ⟨u, h1.re hp (o.get hv), h2⟩
  cases k with
  | dead => trivial
  | cells vs e ro => cases ro with
    | true => exact ⟨h.1, h.2.1, hc _ o h.2.2⟩
    | false => exact ⟨h.1, hc _ o h.2⟩
  | map es ro => obtain ⟨h1, ms, c, h2, h3⟩ := h; exact ⟨h1, ms, c, h2, EntryB.re hp o h3⟩
  | siter s n => exact h
  | defr => exact h
  | loop fr ps as bd st pd db => obtain ⟨h1, tm, ld, f, h2, h3, h4⟩ := h; exact ⟨h1, tm, ld, f, (hp _ o.2).trans h2, h3.re hp o.1, h4⟩
  | glob g vs => exact ⟨h.1, h.2.1, h.2.2.1, hc _ o h.2.2.2⟩

section
variable {P : Program} {w0 : Base} {w : World} {φ : List Loc} {H : AH}
/-- Blocks forgotten. -/
def Masked (Hm H : AH) : Prop := Hm.length = H.length ∧ ∀ b, b < H.length → Hm[b]? = some .dead ∨ Hm[b]? = H[b]?
theorem Masked.get {Hm H : AH} (h : Masked Hm H) {b : Nat} {k : ABlk} (hb : Hm[b]? = some k) (hd : k ≠ .dead) : H[b]? = some k := by
  have := lt_of_some hb
  rw [h.1] at this
  rcases h.2 b this with h1 | h1
  · rw [h1] at hb; cases hb; exact absurd rfl hd
  · rw [← h1]; exact hb
theorem own_nd {k : ABlk} (h : k.own = true) : k ≠ .dead := fun e => by subst e; simp [ABlk.own] at h
theorem Rel.weak {Hm : AH} (h : Rel w0 φ H w) (hm : Masked Hm H) : Rel w0 φ Hm w := by
  refine ⟨by rw [hm.1]; exact h.len, h.below, fun b k l hb hl => ?_, fun b b' k k' l l' hb hb' hl hl' o o' he => ?_⟩
  · by_cases hd : k = .dead
    · subst hd; trivial
    · exact h.blocks b k l (hm.get hb hd) hl
  · exact h.inj b b' k k' l l' (hm.get hb (own_nd o)) (hm.get hb' (own_nd o')) hl hl' o o' he

def Base.of (w : World) (φ : List Loc) (H : AH) : Base := ⟨w, fun j => j < w.heap.size ∧ ∀ (b : Nat) (k : ABlk) (l : Loc), H[b]? = some k → φ[b]? = some l → k.own = true → l.blk ≠ j, fun _ h => h.1⟩
theorem BR.base {w1 w2 : Base} {l : Loc} {k : ABlk} (h : BR w1 φ w l k) (h1 : k.own = true → ¬ w2.keep l.blk) (h2 : k.own = false → k ≠ .dead → w2.keep l.blk) : BR w2 φ w l k := by
  cases k with
  | dead => trivial
  | cells vs e ro => cases ro with
    | true => exact ⟨h2 rfl (by simp), h.2⟩
    | false => exact ⟨⟨h1 rfl, h.1.2⟩, h.2⟩
  | map es ro =>
    refine ⟨?_, h.2⟩
    cases ro with
    | true => simpa using h2 rfl (by simp)
    | false => simpa using h1 rfl
  | siter s n => exact ⟨h1 rfl, h.2⟩
  | defr => exact ⟨h1 rfl, h.2⟩
  | loop fr ps as bd st pd db => exact ⟨h1 rfl, h.2⟩
  | glob g vs => exact ⟨h2 rfl (by simp), h.2⟩
theorem Rel.rebase (h : Rel w0 φ H w) : Rel (Base.of w φ H) φ H w := by
  refine ⟨h.len, ⟨rfl, rfl, rfl, Nat.le_refl _, fun _ _ => rfl⟩, fun b k l hb hl => ?_, h.inj⟩
  have hbr := h.blocks b k l hb hl
  refine hbr.base (fun ho hk => hk.2 b k l hb hl ho rfl) (fun ho hd => ⟨hbr.lt h.below.size hd, fun b' k' l' hb' hl' ho' he => ?_⟩)
  exact (h.blocks b' k' l' hb' hl').own_ge ho' (he ▸ hbr.ro_lt ho hd)
theorem Rel.unbase {Hm : AH} {w' : World} (h : Rel w0 φ H w) (hm : Masked Hm H) (h' : Rel (Base.of w φ Hm) φ Hm w') : Rel w0 φ H w' := by
  have hsz : w.heap.size ≤ w'.heap.size := h'.below.size
  refine ⟨h.len, ⟨h'.below.os.trans h.below.os, h'.below.tape.trans h.below.tape, h'.below.output.trans h.below.output, Nat.le_trans h.below.size hsz, fun j hj => ?_⟩, fun b k l hb hl => ?_, h.inj⟩
  · refine (h'.below.block j ⟨Nat.lt_of_lt_of_le (w0.lt j hj) h.below.size, fun b k l hb hl ho he => ?_⟩).trans (h.below.block j hj)
    exact (h.blocks b k l (hm.get hb (own_nd ho)) hl).own_ge ho (he ▸ hj)
  · by_cases hd : k = .dead
    · subst hd; trivial
    · have hbr := h.blocks b k l hb hl
      rcases hm.2 b (lt_of_some hb) with h1 | h1
      · refine hbr.keep (h'.below.block l.blk ⟨hbr.lt h.below.size hd, fun b' k' l' hb' hl' ho' he => ?_⟩)
        have hb2 := hm.get hb' (own_nd ho')
        have hne : b' ≠ b := fun e => by subst e; rw [h1] at hb'; cases hb'; simp [ABlk.own] at ho'
        cases ho : k.own with
        | true => exact hne (h.inj b' b k' k l' l hb2 hb hl' hl ho' ho he)
        | false => exact (h.blocks b' k' l' hb2 hl').own_ge ho' (he ▸ hbr.ro_lt ho hd)
      · exact (h'.blocks b k l (h1.trans hb) hl).base (fun ho => hbr.own_ge ho) (fun ho hd => hbr.ro_lt ho hd)

/-- A block that is there, at a place that was kept free. -/
theorem Rel.placeAt (h : Rel w0 φ H w) {p : Nat} {l : Loc} {blk : ABlk} (hp : H[p]? = some .dead) (hon : ∀ (b : Nat) (k : ABlk), H[b]? = some k → k.On (fun b => b ≠ p)) (hbr : BR w0 (φ.set p l) w l blk)
    (hsep : ∀ (b : Nat) (k : ABlk) (lb : Loc), H[b]? = some k → φ[b]? = some lb → k.own = true → lb.blk ≠ l.blk) : Rel w0 (φ.set p l) (H.set p blk) w := by
  have hplt := lt_of_some hp
  have hpφ : p < φ.length := by rw [h.len]; exact hplt
  have hφ : ∀ b, b ≠ p → (φ.set p l)[b]? = φ[b]? := fun b hb => List.getElem?_set_ne (Ne.symm hb)
  have hH : ∀ b, b ≠ p → (H.set p blk)[b]? = H[b]? := fun b hb => List.getElem?_set_ne (Ne.symm hb)
  refine ⟨by simp [h.len], h.below, ?_, ?_⟩
  · intro b k lb hb hl
    by_cases e1 : b = p
    · subst e1
      rw [List.getElem?_set_self hplt] at hb
      rw [List.getElem?_set_self hpφ] at hl
      cases hb; cases hl
      exact hbr
    · rw [hH b e1] at hb
      rw [hφ b e1] at hl
      exact (h.blocks b k lb hb hl).re hφ (hon b k hb)
  · intro b b' k k' lb lb' hb hb' hl hl' o o' he
    have sp : ∀ (b : Nat) (k : ABlk) (lb : Loc), (H.set p blk)[b]? = some k → (φ.set p l)[b]? = some lb → k.own = true → (b = p ∧ lb.blk = l.blk) ∨ (H[b]? = some k ∧ φ[b]? = some lb ∧ lb.blk ≠ l.blk) := fun b k lb hb hl o => by
      by_cases e1 : b = p
      · left
        subst e1
        rw [List.getElem?_set_self hpφ] at hl
        cases hl
        exact ⟨rfl, rfl⟩
      · right
        rw [hH b e1] at hb
        rw [hφ b e1] at hl
        exact ⟨hb, hl, hsep b k lb hb hl o⟩
    rcases sp b k lb hb hl o with ⟨h1, h2⟩ | ⟨h1, h2, h3⟩ <;> rcases sp b' k' lb' hb' hl' o' with ⟨g1, g2⟩ | ⟨g1, g2, g3⟩
    · rw [h1, g1]
    · exact absurd (he ▸ h2) g3
    · exact absurd (he.trans g2) h3
    · exact h.inj b b' k k' lb lb' h1 g1 h2 g2 o o' he
/-- A new block at a place that was kept free. -/
theorem Rel.allocAt (h : Rel w0 φ H w) {p : Nat} (hp : H[p]? = some .dead) (hon : ∀ (b : Nat) (k : ABlk), H[b]? = some k → k.On (fun b => b ≠ p)) {vs : List AV} {c : Array Value} {esz : Nat} (e : TypeId) (hv : VRs [] vs c.toList) (ht : ∀ t, tyOf esz = some t → t = e) :
    Rel w0 (φ.set p ⟨w.heap.size, 0, 0⟩) (H.set p (.cells vs esz false)) { w with heap := w.heap.push (.cells c e) } := by
  have hplt := lt_of_some hp
  have hpφ : p < φ.length := by rw [h.len]; exact hplt
  have old : ∀ j, j < w.heap.size → (w.heap.push (.cells c e))[j]? = w.heap[j]? := fun j hj => by
    rw [Array.getElem?_push]; simp [Nat.ne_of_lt hj]
  have hφ : ∀ b, b ≠ p → (φ.set p ⟨w.heap.size, 0, 0⟩)[b]? = φ[b]? := fun b hb => List.getElem?_set_ne (Ne.symm hb)
  have hH : ∀ b, b ≠ p → (H.set p (.cells vs esz false))[b]? = H[b]? := fun b hb => List.getElem?_set_ne (Ne.symm hb)
  have hself : BR w0 (φ.set p ⟨w.heap.size, 0, 0⟩) { w with heap := w.heap.push (.cells c e) } ⟨w.heap.size, 0, 0⟩ (.cells vs esz false) := by
    have r0 : Rel w0 [] [] w := ⟨rfl, h.below, fun b k l hb => by simp at hb, fun b b' k k' l l' hb => by simp at hb⟩
    have r1 := r0.newCells e hv esz 0 #[] (by simp) ht
    have b1 := r1.blocks 0 (.cells vs esz false) ⟨w.heap.size, 0, 0⟩ rfl rfl
    refine BR.re (p := fun _ => False) (fun _ h => h.elim) ?_ (by simpa using b1)
    exact AV.Ons.mono (fun b hb => by simp at hb) hv.on
  refine ⟨by simp [h.len], ⟨h.below.os, h.below.tape, h.below.output, by simp; have := h.below.size; omega, fun j hj => ?_⟩, ?_, ?_⟩
  · rw [old j (by have := h.below.size; have := w0.lt j hj; omega)]; exact h.below.block j hj
  · intro b k l hb hl
    by_cases e1 : b = p
    · subst e1
      rw [List.getElem?_set_self hplt] at hb
      rw [List.getElem?_set_self hpφ] at hl
      cases hb; cases hl
      exact hself
    · rw [hH b e1] at hb
      rw [hφ b e1] at hl
      by_cases hd : k = .dead
      · subst hd; trivial
      · have hbr := h.blocks b k l hb hl
        exact (hbr.keep (w' := { w with heap := w.heap.push (.cells c e) }) (old _ (hbr.lt h.below.size hd))).re hφ (hon b k hb)
  · intro b b' k k' l l' hb hb' hl hl' o o' he
    have sp : ∀ (b : Nat) (k : ABlk) (l : Loc), (H.set p (.cells vs esz false))[b]? = some k → (φ.set p ⟨w.heap.size, 0, 0⟩)[b]? = some l → k.own = true → (b = p ∧ l.blk = w.heap.size) ∨ (b ≠ p ∧ H[b]? = some k ∧ φ[b]? = some l ∧ l.blk < w.heap.size) := fun b k l hb hl o => by
      by_cases e1 : b = p
      · left
        subst e1
        rw [List.getElem?_set_self hpφ] at hl
        cases hl
        exact ⟨rfl, rfl⟩
      · right
        rw [hH b e1] at hb
        rw [hφ b e1] at hl
        exact ⟨e1, hb, hl, (h.blocks b k l hb hl).lt h.below.size (own_nd o)⟩
    rcases sp b k l hb hl o with ⟨h1, h2⟩ | ⟨h1, h2, h3, h4⟩ <;> rcases sp b' k' l' hb' hl' o' with ⟨g1, g2⟩ | ⟨g1, g2, g3, g4⟩
    · rw [h1, g1]
    · omega
    · omega
    · exact h.inj b b' k k' l l' h2 g2 h3 g3 o o' he
end

/-! ### Updates, done or not -/
section
variable {α : Type}
def foldD (D : Nat → Bool) : Nat → List (Option (Nat × α)) → List α → List α
  | _, [], l => l
  | k, none :: us, l => foldD D (k + 1) us l
  | k, some u :: us, l => foldD D (k + 1) us (if D k then l.set u.1 u.2 else l)
theorem foldD_length {D : Nat → Bool} : ∀ (us : List (Option (Nat × α))) (k : Nat) (l : List α), (foldD D k us l).length = l.length
  | [], _, _ => rfl
  | none :: us, k, l => foldD_length us (k + 1) l
  | some u :: us, k, l => by
    rw [foldD, foldD_length us]
    split <;> simp
theorem foldD_get {D D' : Nat → Bool} {b : Nat} : ∀ (us : List (Option (Nat × α))) (k : Nat) (l l' : List α), (∀ (j : Nat) (u : Nat × α), us[j]? = some (some u) → u.1 = b → D (k + j) = D' (k + j)) → l.length = l'.length → l[b]? = l'[b]? →
    (foldD D k us l)[b]? = (foldD D' k us l')[b]?
  | [], _, _, _, _, _, h => h
  | none :: us, k, l, l', hd, hlen, h => foldD_get us (k + 1) l l' (fun j u hu hb => by have := hd (j + 1) u (by simpa using hu) hb; rwa [show k + (j + 1) = k + 1 + j by omega] at this) hlen h
  | some u :: us, k, l, l', hd, hlen, h => by
    refine foldD_get us (k + 1) _ _ (fun j u hu hb => by have := hd (j + 1) u (by simpa using hu) hb; rwa [show k + (j + 1) = k + 1 + j by omega] at this) ?_ ?_
    · split <;> split <;> simp [hlen]
    · by_cases hb : u.1 = b
      · have := hd 0 u rfl hb
        rw [Nat.add_zero] at this
        rw [this]
        split
        · subst hb
          rw [List.getElem?_set, List.getElem?_set, hlen, h]
        · exact h
      · have e1 : ∀ l : List α, (l.set u.1 u.2)[b]? = l[b]? := fun l => List.getElem?_set_ne hb
        split <;> split <;> first | exact h | (simp only [e1]; exact h)
theorem foldD_set {D : Nat → Bool} {b : Nat} {x : α} : ∀ (us : List (Option (Nat × α))) (k : Nat) (l : List α), (∀ (j : Nat) (u : Nat × α), us[j]? = some (some u) → D (k + j) = true → u.1 ≠ b) → foldD D k us (l.set b x) = (foldD D k us l).set b x
  | [], _, _, _ => rfl
  | none :: us, k, l, hd => foldD_set us (k + 1) l fun j u hu hb => hd (j + 1) u (by simpa using hu) (by rwa [show k + (j + 1) = k + 1 + j by omega])
  | some u :: us, k, l, hd => by
    have ih := fun l => foldD_set (D := D) (b := b) (x := x) us (k + 1) l fun j u hu hb => hd (j + 1) u (by simpa using hu) (by rwa [show k + (j + 1) = k + 1 + j by omega])
    rw [foldD, foldD, ← ih]
    cases hk : D k with
    | false => rfl
    | true =>
      have := hd 0 u rfl (by simpa using hk)
      simp only [if_true]
      rw [List.set_comm _ _ (Ne.symm this)]
theorem foldD_insert {D D' : Nat → Bool} {b : Nat} {x : α} : ∀ (us : List (Option (Nat × α))) (k i : Nat) (l : List α), us[i]? = some (some (b, x)) → D' (k + i) = true → D (k + i) = false → (∀ j, j ≠ k + i → D' j = D j) →
    (∀ (j : Nat) (u : Nat × α), i < j → us[j]? = some (some u) → D (k + j) = true → u.1 ≠ b) → foldD D' k us l = (foldD D k us l).set b x
  | [], _, _, _, h, _, _, _, _ => by simp at h
  | u :: us, k, 0, l, h, h1, h2, h3, h4 => by
    simp at h
    subst h
    simp only [Nat.add_zero] at h1 h2 h3
    rw [foldD, foldD, h1, h2]
    simp only [if_true, Bool.false_eq_true, if_false]
    have e : foldD D' (k + 1) us (l.set b x) = foldD D (k + 1) us (l.set b x) := by
      apply List.ext_getElem?
      intro c
      exact foldD_get us (k + 1) _ _ (fun j u _ _ => h3 _ (by omega)) rfl rfl
    rw [e]
    exact foldD_set us (k + 1) l fun j u hu hb => h4 (j + 1) u (by omega) (by simpa using hu) (by rwa [show k + (j + 1) = k + 1 + j by omega])
  | u :: us, k, i + 1, l, h, h1, h2, h3, h4 => by
    rw [show k + (i + 1) = k + 1 + i by omega] at h1 h2 h3
    have ih := fun l => foldD_insert (D := D) (D' := D') us (k + 1) i l (by simpa using h) h1 h2 h3 fun j u hj hu hb => h4 (j + 1) u (by omega) (by simpa using hu) (by rwa [show k + (j + 1) = k + 1 + j by omega])
    cases u with
    | none => exact ih l
    | some u =>
      rw [foldD, foldD, h3 k (by omega)]
      exact ih _
theorem foldD_skip {D D' : Nat → Bool} {us : List (Option (Nat × α))} {i : Nat} {l : List α} (h : us[i]? = some none) (h3 : ∀ j, j ≠ i → D' j = D j) : foldD D' 0 us l = foldD D 0 us l := by
  apply List.ext_getElem?
  intro c
  refine foldD_get us 0 _ _ (fun j u hu _ => ?_) rfl rfl
  rw [Nat.zero_add]
  exact h3 j fun e => by subst e; rw [h] at hu; cases hu
theorem foldD_snoc (us : List (Option (Nat × α))) (u : Option (Nat × α)) : ∀ (k : Nat) (l : List α), foldD (fun _ => true) k (us ++ [u]) l = match u with | none => foldD (fun _ => true) k us l | some u => (foldD (fun _ => true) k us l).set u.1 u.2 := by
  induction us with
  | nil => intro k l; cases u <;> rfl
  | cons x us ih => intro k l; cases x <;> exact ih _ _
theorem foldD_lt (us : List (Option (Nat × α))) : ∀ (k j : Nat) (l : List α), foldD (fun i => decide (i < k + j)) k us l = foldD (fun _ => true) k (us.take j) l := by
  induction us with
  | nil => intro k j l; simp [foldD]
  | cons x us ih =>
    intro k j l
    cases j with
    | zero =>
      have key : ∀ (us : List (Option (Nat × α))) (k m : Nat) (l : List α), k ≤ m → foldD (fun i => decide (i < k)) m us l = l := by
        intro us
        induction us with
        | nil => intro _ _ _ _; rfl
        | cons x us ih =>
          intro k m l hm
          cases x with
          | none => exact ih k (m + 1) l (by omega)
          | some u =>
            rw [foldD, decide_eq_false (by omega)]
            exact ih k (m + 1) l (by omega)
      exact key _ k k l (Nat.le_refl _)
    | succ j =>
      have e : k + (j + 1) = k + 1 + j := by omega
      cases x with
      | none => simp only [List.take_succ_cons, foldD, e]; exact ih _ _ _
      | some u =>
        simp only [List.take_succ_cons, foldD, e, decide_eq_true (show k < k + 1 + j by omega), if_true]
        exact ih _ _ _
end

mutual
theorem VR.back {φ φ' : List Loc} (hx : Ext φ φ') : ∀ {v : AV} {u u' : Value}, VR φ v u → VR φ' v u' → VR φ v u'
  | .bad, _, _, _, _ => .bad _
  | .bool _, _, _, _, hv => by cases hv; exact .bool _
  | .int _ _, _, _, _, hv => by cases hv; exact .int _ _
  | .float _ _, _, _, _, hv => by cases hv; exact .float _ _
  | .nan _, _, _, _, hv => by cases hv with | nan h => exact .nan h
  | .str _, _, _, _, hv => by cases hv; exact .str _
  | .nilptr, _, _, _, hv => by cases hv; exact .nilptr
  | .ptr _ _, _, _, h, hv => by
    cases h with
    | ptr h1 => cases hv with | ptr h2 => rw [hx.get h1] at h2; cases h2; exact .ptr h1
  | .gptr _ _, _, _, _, hv => by cases hv; exact .gptr _ _
  | .nilsl, _, _, _, hv => by cases hv; exact .nilsl
  | .sl _ _ _ _ _, _, _, h, hv => by
    cases h with
    | sl h1 => cases hv with | sl h2 => rw [hx.get h1] at h2; cases h2; exact .sl h1
  | .slz, _, _, _, hv => by cases hv; exact .slz _
  | .sle _ _ _, _, _, h, hv => by
    cases h with
    | sle h1 => cases hv with | sle h2 => rw [hx.get h1] at h2; cases h2; exact .sle h1
  | .nilmap, _, _, _, hv => by cases hv; exact .nilmap
  | .map _, _, _, h, hv => by
    cases h with
    | map h1 => cases hv with | map h2 => rw [hx.get h1] at h2; cases h2; exact .map h1
  | .yld _, _, _, h, hv => by
    cases h with
    | yld h1 => cases hv with | yld h2 => rw [hx.get h1] at h2; cases h2; exact .yld h1
  | .opq, _, _, _, hv => by cases hv with | opq h => exact .opq h
  | .fn _ _ _, _, _, h, hv => by
    cases h with
    | fn _ a b => cases hv with | fn _ c d => exact .fn _ (VRs.back hx a c) (VRs.back hx b d)
  | .nilfn, _, _, _, hv => by cases hv; exact .nilfn
  | .iface _ _, _, _, h, hv => by
    cases h with
    | iface _ a => cases hv with | iface _ b => exact .iface _ (VR.back hx a b)
  | .niliface, _, _, _, hv => by cases hv; exact .niliface
  | .agg _, _, _, h, hv => by
    cases h with
    | agg a => cases hv with | agg b => exact .agg (VRs.back hx a b)
  | .tuple _, _, _, h, hv => by
    cases h with
    | tuple a => cases hv with | tuple b => exact .tuple (VRs.back hx a b)
theorem VRs.back {φ φ' : List Loc} (hx : Ext φ φ') : ∀ {v : List AV} {u u' : List Value}, VRs φ v u → VRs φ' v u' → VRs φ v u'
  | [], _, _, _, hv => by cases hv; exact .nil
  | _ :: _, _, _, h, hv => by
    cases h with
    | cons a as => cases hv with | cons b bs => exact .cons (VR.back hx a b) (VRs.back hx as bs)
end
theorem EntryR.back {φ φ' : List Loc} (hx : Ext φ φ') : ∀ {es : List (AV × AV)} {ms ms' : List MapEntry}, EntryR φ es ms → EntryR φ' es ms' → EntryR φ es ms'
  | [], [], [], _, _ => trivial
  | _ :: _, _ :: _, _ :: _, h, k => ⟨h.1.back hx k.1, h.2.1.back hx k.2.1, EntryR.back hx h.2.2 k.2.2⟩
  | [], _ :: _, _, h, _ => h.elim
  | _ :: _, [], _, h, _ => h.elim
  | [], [], _ :: _, _, k => k.elim
  | _ :: _, _ :: _, [], _, k => k.elim

section
variable {P : Program} {w0 : Base} {w : World} {φ : List Loc} {H : AH}

theorem Rel.restrict {φ' : List Loc} {H' : AH} {w' : World} (h : Rel w0 φ H w) (hx : Ext φ φ') (hk : Keeps H.length H H') (h' : Rel w0 φ' H' w') : Rel w0 φ H w' := by
  have get : ∀ (b : Nat) (k : ABlk) (l : Loc), H[b]? = some k → φ[b]? = some l → H'[b]? = some k ∧ φ'[b]? = some l := fun b k l hb hl =>
    ⟨by rw [hk.2 b (List.getElem?_eq_some_iff.1 hb).1 (List.getElem?_eq_some_iff.1 hb).1]; exact hb, hx.get hl⟩
  refine ⟨h.len, h'.below, fun b k l hb hl => ?_, fun b1 b2 k1 k2 l1 l2 hb1 hb2 hl1 hl2 o1 o2 he => ?_⟩
  · obtain ⟨g1, g2⟩ := get b k l hb hl
    have hold := h.blocks b k l hb hl
    have hnew := h'.blocks b k l g1 g2
    have hc : ∀ vs, CellsR φ w l vs → CellsR φ' w' l vs → CellsR φ w' l vs := fun vs a b j v hv => by
      obtain ⟨u, h1, h2⟩ := a j v hv
      obtain ⟨u', h3, h4⟩ := b j v hv
      exact ⟨u', h1.back hx h3, h4⟩
    cases k with
    | dead => trivial
    | cells vs esz ro => cases ro with
      | true => exact ⟨hnew.1, hnew.2.1, hc _ hold.2.2 hnew.2.2⟩
      | false => exact ⟨hnew.1, hc _ hold.2 hnew.2⟩
    | map es ro =>
      obtain ⟨_, ms0, _, _, e0⟩ := hold
      obtain ⟨h1, ms, c, h2, e1⟩ := hnew
      exact ⟨h1, ms, c, h2, e0.e.back hx e1.e, e1.b⟩
    | siter s pos => exact hnew
    | defr => exact hnew
    | loop fr ps as bd st pd db =>
      obtain ⟨_, tm0, ld0, _, a1, a2, _⟩ := hold
      obtain ⟨h1, tm, ld, f, b1, b2, b3⟩ := hnew
      have e := hx.get a1
      rw [b1] at e
      cases e
      exact ⟨h1, tm, ld0, f, a1, a2.back hx b2, b3⟩
    | glob g vs => exact ⟨hnew.1, hnew.2.1, hnew.2.2.1, hc _ hold.2.2.2 hnew.2.2.2⟩
  · obtain ⟨g1, g2⟩ := get b1 k1 l1 hb1 hl1
    obtain ⟨g3, g4⟩ := get b2 k2 l2 hb2 hl2
    exact h'.inj b1 b2 k1 k2 l1 l2 g1 g3 g2 g4 o1 o2 he
end
end Go.Ve

namespace Go.Ve
open Go Go.RowKit

/-! ### What must come before what -/
def befOne (o : Oper) (acc : List Nat) : Nat := o.after.toList.foldl (fun m e => if Region.binds .any e then m ||| (1 <<< e.on ||| acc.getD e.on 0) else m) 0
def befAll : List Oper → List Nat → List Nat
  | [], acc => acc
  | o :: r, acc => befAll r (acc ++ [befOne o acc])
def bsOf (ops : Array Oper) : List Nat := befAll ops.toList []
theorem befOne_bit {o : Oper} {acc : List Nat} {j : Nat} (h : (befOne o acc).testBit j = true) : ∃ e ∈ o.after, Region.binds .any e = true ∧ (e.on = j ∨ (acc.getD e.on 0).testBit j = true) := by
  have key : ∀ (l : List _) (m : Nat), (l.foldl (fun m e => if Region.binds .any e then m ||| (1 <<< e.on ||| acc.getD e.on 0) else m) m).testBit j = true → m.testBit j = true ∨ ∃ e ∈ l, Region.binds .any e = true ∧ (e.on = j ∨ (acc.getD e.on 0).testBit j = true) := by
    intro l
    induction l with
    | nil => intro m h; exact .inl h
    | cons e l ih =>
      intro m h
      rw [List.foldl_cons] at h
      rcases ih _ h with h | ⟨e', he, h1⟩
      · by_cases hb : Region.binds .any e = true
        · rw [if_pos hb] at h
          simp only [Nat.testBit_or, Nat.one_shiftLeft, Nat.testBit_two_pow, Bool.or_eq_true, decide_eq_true_eq] at h
          rcases h with h | h | h
          · exact .inl h
          · exact .inr ⟨e, by simp, hb, .inl h⟩
          · exact .inr ⟨e, by simp, hb, .inr h⟩
        · rw [if_neg hb] at h
          exact .inl h
      · exact .inr ⟨e', by simp [he], h1⟩
  rcases key _ _ h with h | ⟨e, he, h1⟩
  · simp at h
  · exact ⟨e, by simpa using he, h1⟩
theorem befAll_get : ∀ (l : List Oper) (acc : List Nat), (∀ i, i < acc.length → (befAll l acc)[i]? = acc[i]?) ∧ ∀ (j : Nat) (o : Oper), l[j]? = some o → (befAll l acc)[acc.length + j]? = some (befOne o ((befAll l acc).take (acc.length + j)))
  | [], acc => ⟨fun _ _ => rfl, fun j o h => by simp at h⟩
  | o :: l, acc => by
    obtain ⟨h1, h2⟩ := befAll_get l (acc ++ [befOne o acc])
    have pre : ∀ i, i < acc.length → (befAll l (acc ++ [befOne o acc]))[i]? = acc[i]? := fun i hi => by
      rw [h1 i (by simp; omega), List.getElem?_append_left hi]
    refine ⟨pre, fun j o' hj => ?_⟩
    cases j with
    | zero =>
      simp at hj
      subst hj
      have ht : (befAll l (acc ++ [befOne o acc])).take (acc.length + 0) = acc := by
        apply List.ext_getElem?
        intro i
        rw [List.getElem?_take]
        by_cases hi : i < acc.length
        · rw [if_pos (by omega)]; exact pre i hi
        · rw [if_neg (by omega), List.getElem?_eq_none (by omega)]
      show (befAll l (acc ++ [befOne o acc]))[acc.length + 0]? = some (befOne o ((befAll l (acc ++ [befOne o acc])).take (acc.length + 0)))
      rw [ht, h1 _ (by simp)]
      simp
    | succ j =>
      have := h2 j o' (by simpa using hj)
      simp only [List.length_append, List.length_cons, List.length_nil, Nat.zero_add] at this
      show (befAll l (acc ++ [befOne o acc]))[acc.length + (j + 1)]? = some (befOne o' ((befAll l (acc ++ [befOne o acc])).take (acc.length + (j + 1))))
      rw [show acc.length + (j + 1) = acc.length + 1 + j by omega]
      exact this
theorem bs_bit {ops : Array Oper} {i j : Nat} {o : Oper} (hi : ops[i]? = some o) (h : ((bsOf ops).getD i 0).testBit j = true) :
    ∃ e ∈ o.after, Region.binds .any e = true ∧ (e.on = j ∨ (e.on < i ∧ ((bsOf ops).getD e.on 0).testBit j = true)) := by
  have h1 := (befAll_get ops.toList []).2 i o (by simpa using hi)
  simp only [List.length_nil, Nat.zero_add] at h1
  have e1 : (bsOf ops).getD i 0 = befOne o ((bsOf ops).take i) := by
    rw [List.getD_eq_getElem?_getD]
    unfold bsOf
    rw [h1]; rfl
  rw [e1] at h
  obtain ⟨e, he, hb, h2⟩ := befOne_bit h
  refine ⟨e, he, hb, h2.imp id fun h3 => ?_⟩
  rw [List.getD_eq_getElem?_getD, List.getElem?_take] at h3
  by_cases hlt : e.on < i
  · rw [if_pos hlt] at h3
    exact ⟨hlt, by rw [List.getD_eq_getElem?_getD]; exact h3⟩
  · rw [if_neg hlt] at h3
    simp at h3
def fwdB (ops : Array Oper) : Bool := (List.range ops.size).all fun i => match ops[i]? with | some o => o.after.toList.all fun e => !Region.binds .any e || decide (e.on < i) | none => true
theorem fwdB_ok {ops : Array Oper} (h : fwdB ops = true) {i : Nat} {o : Oper} (hi : ops[i]? = some o) : ∀ e ∈ o.after, Region.binds .any e = true → e.on < i := by
  intro e he hb
  have hlt := (Array.getElem?_eq_some_iff.1 hi).1
  have h1 := List.all_eq_true.1 h i (List.mem_range.2 hlt)
  rw [hi] at h1
  have h2 := List.all_eq_true.1 h1 e (by simpa using he)
  simpa [hb] using h2
theorem bs_lt {ops : Array Oper} (hf : fwdB ops = true) : ∀ (i : Nat) {j : Nat} {o : Oper}, ops[i]? = some o → ((bsOf ops).getD i 0).testBit j = true → j < i := by
  intro i
  induction i using Nat.strongRecOn with
  | _ i ih =>
    intro j o hi h
    obtain ⟨e, he, hb, h1⟩ := bs_bit hi h
    have hlt := fwdB_ok hf hi e he hb
    rcases h1 with rfl | ⟨_, h2⟩
    · exact hlt
    · have : e.on < ops.size := Nat.lt_trans hlt (Array.getElem?_eq_some_iff.1 hi).1
      exact Nat.lt_trans (ih e.on hlt (Array.getElem?_eq_getElem this) h2) hlt
theorem bs_closed {ops : Array Oper} (hf : fwdB ops = true) {d : Array Bool} (hc : ∀ j oj, ops[j]? = some oj → d.getD j false = true → ∀ e ∈ oj.after, Region.binds .any e = true → d.getD e.on false = true) :
    ∀ (i : Nat) {j : Nat} {o : Oper}, ops[i]? = some o → (∀ e ∈ o.after, Region.binds .any e = true → d.getD e.on false = true) → ((bsOf ops).getD i 0).testBit j = true → d.getD j false = true := by
  intro i
  induction i using Nat.strongRecOn with
  | _ i ih =>
    intro j o hi ha h
    obtain ⟨e, he, hb, h1⟩ := bs_bit hi h
    have hlt := fwdB_ok hf hi e he hb
    rcases h1 with rfl | ⟨_, h2⟩
    · exact ha e he hb
    · have hs : e.on < ops.size := Nat.lt_trans hlt (Array.getElem?_eq_some_iff.1 hi).1
      exact ih e.on hlt (Array.getElem?_eq_getElem hs) (hc e.on _ (Array.getElem?_eq_getElem hs) (ha e he hb)) h2

def unord (bs : List Nat) (i k : Nat) : Bool := i != k && !(bs.getD i 0).testBit k && !(bs.getD k 0).testBit i
theorem unord_of {bs : List Nat} {i k : Nat} (h1 : i ≠ k) (h2 : (bs.getD i 0).testBit k = false) (h3 : (bs.getD k 0).testBit i = false) : unord bs i k = true := by
  unfold unord
  rw [h2, h3]
  simp [h1]

/-! ### Masks -/
def maskL (L : List Nat) (H : AH) : AH := L.foldl (fun H b => H.set b .dead) H
theorem maskL_length : ∀ (L : List Nat) (H : AH), (maskL L H).length = H.length
  | [], _ => rfl
  | b :: L, H => by rw [maskL, List.foldl_cons]; exact (maskL_length L _).trans (by simp)
theorem maskL_get : ∀ (L : List Nat) (H : AH) (b : Nat), (b ∉ L → (maskL L H)[b]? = H[b]?) ∧ (b < H.length → H[b]? = some .dead ∨ b ∈ L → (maskL L H)[b]? = some .dead)
  | [], _, _ => ⟨fun _ => rfl, fun _ h => h.elim id (fun h => by simp at h)⟩
  | c :: L, H, b => by
    obtain ⟨h1, h2⟩ := maskL_get L (H.set c .dead) b
    refine ⟨fun hb => ?_, fun hlt hb => ?_⟩
    · simp only [List.mem_cons, not_or] at hb
      show (maskL L (H.set c .dead))[b]? = _
      rw [h1 hb.2, List.getElem?_set_ne (Ne.symm hb.1)]
    · show (maskL L (H.set c .dead))[b]? = _
      refine h2 (by simpa using hlt) ?_
      by_cases hcb : c = b
      · subst hcb
        exact .inl (by rw [List.getElem?_set_self hlt])
      · rw [List.getElem?_set_ne hcb]
        rcases hb with hb | hb
        · exact .inl hb
        · right
          rcases List.mem_cons.1 hb with h | h
          · exact absurd h.symm hcb
          · exact h

/-! ### One operation -/
structure Rec where
  v : AV
  ch : Option (Nat × ABlk)
def hidB (bs : List Nat) (i : Nat) (s : Tmp) : Nat → List Oper → Bool
  | _, [] => false
  | k, o :: l => (unord bs i k && o.dst == some s) || hidB bs i s (k + 1) l
theorem hidB_ok {bs : List Nat} {i : Nat} {s : Tmp} : ∀ {l : List Oper} {k : Nat}, hidB bs i s k l = false → ∀ (j : Nat) (o : Oper), l[j]? = some o → unord bs i (k + j) = true → o.dst ≠ some s
  | [], _, _, _, _, h, _ => by simp at h
  | x :: l, k, h, 0, o, hj, hu => by
    simp at hj
    subst hj
    rw [Nat.add_zero] at hu
    simp only [hidB, hu, Bool.true_and, Bool.or_eq_false_iff] at h
    intro e
    rw [e] at h
    simp at h
  | x :: l, k, h, j + 1, o, hj, hu => by
    simp only [hidB, Bool.or_eq_false_iff] at h
    exact hidB_ok h.2 j o (by simpa using hj) (by rwa [show k + 1 + j = k + (j + 1) by omega])
def gρ (hd : List Oper) (bs : List Nat) (i : Nat) (fr : List AV) : Operand → AV
  | .tmp s => if hidB bs i s 0 hd then .bad else aeval fr (.tmp s)
  | x => aeval fr x
def gwant (ops : Array Oper) (hd : List Oper) (bs : List Nat) (i : Nat) (o : Oper) (fr : List AV) : Option Bool :=
  match o.guard with
  | none => some true
  | some (j, _) =>
    match (ops[j]?).bind (·.dst) with
    | none => some false
    | some s => if hidB bs i s 0 hd then none else awanted ops o fr
theorem awanted_congr {ops : Array Oper} {o : Oper} {fr fr' : List AV} (h : ∀ j want s, o.guard = some (j, want) → (ops[j]?).bind (·.dst) = some s → fr[s]? = fr'[s]?) : awanted ops o fr = awanted ops o fr' := by
  unfold awanted
  split
  · rfl
  · rename_i j want hg
    split
    · rfl
    · rename_i d hd
      rw [h j want d hg hd]
def astoreAt (P : Program) (t : TypeId) (H : AH) (p v : AV) : Option (Nat × ABlk) :=
  match p with
  | .ptr b _ =>
    match astore P t H p v with
    | some H' => (H'[b]?).map fun k => (b, k)
    | none => none
  | _ => none
theorem astoreAt_spec {P : Program} {t : TypeId} {H H2 : AH} {p v : AV} {c : Nat × ABlk} (h : astoreAt P t H p v = some c) (hb : H2[c.1]? = H[c.1]?) : astore P t H2 p v = some (H2.set c.1 c.2) ∧ c.1 = ptrOf p ∧ c.1 < H.length ∧ H[c.1]? ≠ some .dead := by
  unfold astoreAt at h
  split at h
  · rename_i b off
    cases hs : astore P t H (.ptr b off) v with
    | none => rw [hs] at h; cases h
    | some H' =>
      rw [hs] at h
      unfold astore at hs ⊢
      simp only at hs
      split at hs
      · rename_i vs esz i h1 h2
        split at hs
        · rename_i hc
          cases hs
          have hlt := lt_of_some h1
          simp only at h
          rw [List.getElem?_set_self hlt] at h
          cases h
          simp only at hb ⊢
          rw [hb, h1, h2]
          simp only
          rw [if_pos hc]
          exact ⟨rfl, rfl, hlt, by simp⟩
        · cases hs
      · cases hs
  · cases h
theorem astoreAt_congr {P : Program} {t : TypeId} {H H2 : AH} {p v : AV} {c : Nat × ABlk} (h : astoreAt P t H p v = some c) (hb : H2[c.1]? = H[c.1]?) : astoreAt P t H2 p v = some c := by
  obtain ⟨h1, h2, h3, h4⟩ := astoreAt_spec h hb
  have hlt : c.1 < H2.length := by
    rw [List.getElem?_eq_getElem h3] at hb
    exact lt_of_some hb
  have h' := h
  unfold astoreAt at h ⊢
  split at h
  · rename_i b off
    have e : c.1 = b := h2
    rw [h1]
    simp only
    rw [e] at hlt ⊢
    rw [List.getElem?_set_self hlt, Option.map_some, ← e]
  · cases h

theorem map_call {α : Type} {x : Option α} {f : α → AV} {c : Option (AH × Nat)} {g : FuncId} {as : List AV} (h : (x.map fun a => AO.val (f a) c) = some (.call g as)) : False := by
  cases x <;> simp at h

def pureOp : Op → Bool
  | .move _ | .assign _ | .pick .. | .alloc _ | .build .. | .nilCheck _ | .binOp .. | .unOp .. | .makeInterface .. | .makeFunc .. | .slice .. | .fieldAddr .. | .field .. | .indexAddr .. | .index .. | .extract .. => true
  | _ => false
/-- Operations for which a place is kept free. -/
def isNew : Op → Bool
  | .alloc _ => true
  | .buildSlice .. => true
  | .call c => (match c.callee with | .value _ => true | _ => false)
  | _ => false
theorem isNew_pure {o : Op} (h : isNew o = true) (hp : pureOp o = true) : ∃ e, o = .alloc e := by
  cases o <;> first | exact ⟨_, rfl⟩ | (simp [isNew] at h; done) | (simp [pureOp] at hp; done)
/-- What a call has made anew: one block counts, it goes to its place. -/
def fresh (Hm : AH) (p : Nat) (v : AV) (H' : AH) (lo : Nat) : Option Rec :=
  if lo = Hm.length then
    match v with
    | .sl m off len cap ex =>
      if Hm.length ≤ m then
        match H'[m]? with
        | some (.cells vs esz false) => if AV.onBs (fun b => decide (b < Hm.length) && decide (b ≠ p)) vs = true then some ⟨.sl p off len cap ex, some (p, .cells vs esz false)⟩ else none
        | _ => none
      else none
    | _ => none
  else none
theorem fresh_ok {Hm : AH} {p : Nat} {v : AV} {H' : AH} {lo : Nat} {r : Rec} (h : fresh Hm p v H' lo = some r) : lo = Hm.length ∧ ∃ m off len cap ex vs esz, v = .sl m off len cap ex ∧ Hm.length ≤ m ∧ H'[m]? = some (.cells vs esz false) ∧
    AV.onBs (fun b => decide (b < Hm.length) && decide (b ≠ p)) vs = true ∧ r = ⟨.sl p off len cap ex, some (p, .cells vs esz false)⟩ := by
  unfold fresh at h
  split at h
  · rename_i hlo
    split at h
    · rename_i m off len cap ex
      split at h
      · rename_i hm
        split at h
        · rename_i vs esz hb
          split at h
          · rename_i ho
            cases h
            exact ⟨hlo, m, off, len, cap, ex, vs, esz, rfl, hm, hb, ho, rfl⟩
          · cases h
        · cases h
      · cases h
    · cases h
  · cases h
noncomputable def genOp (P : Program) (call : CallF) (ρ : Operand → AV) (p : Nat) (o : Oper) (Hm : AH) : Option Rec :=
  match o.op with
  | .alloc e => (azero P e).map fun z => ⟨.ptr p 0, some (p, .cells z (etag P e z.length) false)⟩
  | .store t a x => (astoreAt P t Hm (ρ a) (ρ x)).map fun c => ⟨.tuple [], some c⟩
  | _ =>
    match aop P o ρ Hm with
    | some (.val v none) => some ⟨v, none⟩
    | some (.val v (some (H', lo))) => if isNew o.op = true then fresh Hm p v H' lo else none
    | some (.call f args) =>
      match call f args Hm with
      | some (v, none) => some ⟨v, none⟩
      | some (v, some (H', lo)) => if isNew o.op = true then fresh Hm p v H' lo else none
      | none => none
    | _ => none
theorem aop_pure {P : Program} {o : Oper} {ρ : Operand → AV} {H H2 : AH} {v : AV} (h : pureOp o.op = true) (ha : ∀ e, o.op ≠ .alloc e) (hv : aop P o ρ H = some (.val v none)) : aop P o ρ H2 = some (.val v none) := by
  unfold aop at hv ⊢
  cases ho : o.op <;> rw [ho] at h hv <;> first | exact hv | (simp [pureOp] at h; done) | exact absurd ho (ha _) | skip
  simp only at hv ⊢
  split at hv
  · exact hv
  · rename_i hn
    split at hv
    · exact hv
    · cases hq : ananOp _ _ _ <;> rw [hq] at hv
      · simp only at hv
        cases hp : aptrNe P _ _ _ _ H <;> rw [hp] at hv <;> cases hv
      · cases hv
def isDeadAt (H : AH) (b : Nat) : Bool :=
  match H[b]? with
  | some .dead => true
  | none => true
  | _ => false
def isGptr : AV → Bool
  | .gptr _ _ => true
  | _ => false
/-- The greatest or the least of numbers: memory plays no part. -/
def isMM : Op → Bool
  | .call c => (match c.callee with | .builtin .max => true | .builtin .min => true | _ => false)
  | _ => false
theorem genOp_mm {P : Program} {call : CallF} {ρ : Operand → AV} {p : Nat} {o : Oper} {H H2 : AH} {r : Rec} (h : isMM o.op = true) (hg : genOp P call ρ p o H = some r) : genOp P call ρ p o H2 = some r := by
  unfold isMM at h
  split at h
  · rename_i c ho
    obtain ⟨x, hx⟩ : ∃ x : Option AV, ∀ K, aop P o ρ K = x.map fun v => AO.val v none := by
      split at h
      · rename_i hc
        refine ⟨(scs (c.args.toList.map ρ)).bind fun us => (pureRun P (Builtin.max_ #[] 0 us.toArray)).map ofV1, fun K => ?_⟩
        unfold aop
        simp only [ho]
        unfold acall
        simp only [hc, abuiltin]
        cases scs (c.args.toList.map ρ) with
        | none => rfl
        | some us => cases hq : pureRun P (Builtin.max_ #[] 0 us.toArray) <;> simp [hq]
      · rename_i hc
        refine ⟨(scs (c.args.toList.map ρ)).bind fun us => (pureRun P (Builtin.min_ #[] 0 us.toArray)).map ofV1, fun K => ?_⟩
        unfold aop
        simp only [ho]
        unfold acall
        simp only [hc, abuiltin]
        cases scs (c.args.toList.map ρ) with
        | none => rfl
        | some us => cases hq : pureRun P (Builtin.min_ #[] 0 us.toArray) <;> simp [hq]
      · cases h
    unfold genOp at hg ⊢
    simp only [ho] at hg ⊢
    rw [hx H] at hg
    rw [hx H2]
    cases x with
    | none => exact hg
    | some v => exact hg
  · cases h
def lateOk (o : Oper) (ρ : Operand → AV) (Hm : AH) (L : List Nat) : Bool :=
  L.all (isDeadAt Hm) || isMM o.op ||
  match o.op with
  | .store _ a _ => !L.contains (ptrOf (ρ a))
  | .load _ a => !isGptr (ρ a) && !L.contains (ptrOf (ρ a))
  | op => pureOp op
theorem maskL_dead : ∀ (L : List Nat) (H : AH), L.all (isDeadAt H) = true → maskL L H = H
  | [], _, _ => rfl
  | b :: L, H, h => by
    simp only [List.all_cons, Bool.and_eq_true] at h
    have e : H.set b .dead = H := by
      apply List.ext_getElem?
      intro c
      by_cases hb : b = c
      · subst hb
        unfold isDeadAt at h
        by_cases hlt : b < H.length
        · rw [List.getElem?_set_self hlt]
          have h1 := h.1
          split at h1
          · rename_i e; exact e.symm
          · rename_i e; rw [List.getElem?_eq_getElem hlt] at e; cases e
          · cases h1
        · rw [List.getElem?_eq_none (by simp; omega), List.getElem?_eq_none (by omega)]
      · rw [List.getElem?_set_ne hb]
    show maskL L (H.set b .dead) = H
    rw [e]
    exact maskL_dead L H h.2
theorem genOp_mask {P : Program} {call : CallF} {ρ : Operand → AV} {p : Nat} {o : Oper} {Hm : AH} {L : List Nat} {r : Rec} (h : genOp P call ρ p o Hm = some r) (hl : lateOk o ρ Hm L = true) : genOp P call ρ p o (maskL L Hm) = some r := by
  unfold lateOk at hl
  rw [Bool.or_eq_true, Bool.or_eq_true] at hl
  rcases hl with (hl | hl) | hl
  · rw [maskL_dead L Hm hl]; exact h
  · exact genOp_mm hl h
  · unfold genOp at h ⊢
    split at hl
    · rename_i t a x ho
      simp only [ho] at h ⊢
      cases hs : astoreAt P t Hm (ρ a) (ρ x) with
      | none => rw [hs] at h; cases h
      | some c =>
        have hc := (astoreAt_spec hs rfl).2.1
        have hn : c.1 ∉ L := by rw [hc]; simpa using hl
        rw [astoreAt_congr hs ((maskL_get L Hm c.1).1 hn)]
        rw [hs] at h; exact h
    · rename_i t a ho
      simp only [ho] at h ⊢
      have e : aop P o ρ (maskL L Hm) = aop P o ρ Hm := by
        unfold aop
        simp only [ho]
        unfold aload
        cases hp : ρ a <;> try rfl
        · rename_i b off
          have hn : b ∉ L := by rw [hp] at hl; simpa [ptrOf, isGptr] using hl
          simp only [cellsOf?, (maskL_get L Hm b).1 hn]
        · rw [hp] at hl
          simp [isGptr] at hl
      rw [e]
      split at h <;> first | (cases h; done) | skip
      · exact h
      · rename_i f args hcall
        unfold aop at hcall
        simp only [ho] at hcall
        exact (by cases hh : aload P t Hm (ρ a) <;> rw [hh] at hcall <;> cases hcall)
    · rename_i op hns hnl
      by_cases ha : ∃ e, o.op = .alloc e
      · obtain ⟨e, ha⟩ := ha
        simp only [ha] at h ⊢
        exact h
      · have e := fun v => aop_pure (P := P) (ρ := ρ) (H := Hm) (H2 := maskL L Hm) (v := v) hl (fun e he => ha ⟨e, he⟩)
        have hcall : ∀ f args, aop P o ρ Hm ≠ some (.call f args) := by
          intro f args hc
          unfold aop at hc
          cases ho : o.op <;> rw [ho] at hc hl <;> first | (simp [pureOp] at hl; done) | skip
          all_goals (simp only at hc)
          all_goals first | (cases hc; done) | (exact (map_call hc).elim) | ((repeat' split at hc) <;> first | (cases hc; done) | exact (map_call hc).elim)
        split at h
        · exact absurd ‹o.op = _› (fun he => ha ⟨_, he⟩)
        · exact absurd ‹o.op = _› (fun he => hns _ _ _ he)
        · split at h
          · rename_i v hv
            rw [e v hv]
            exact h
          · split at h
            · rename_i hnw
              obtain ⟨e, he⟩ := isNew_pure hnw hl
              exact absurd ⟨e, he⟩ ha
            · cases h
          · rename_i hc; exact absurd hc (hcall _ _)
          · cases h
end Go.Ve

namespace Go.Ve
open Go Go.RowKit

noncomputable def genStep (P : Program) (call : CallF) (ops : Array Oper) (hd : List Oper) (bs als : List Nat) (N0 i : Nat) (o : Oper) (fr : List AV) (Hm : AH) : Option Rec :=
  match gwant ops hd bs i o fr with
  | none => none
  | some false => some ⟨.tuple [], none⟩
  | some true => genOp P call (gρ hd bs i fr) (N0 + als.idxOf i) o Hm
def wrs (bs : List Nat) (i : Nat) : Nat → List Rec → List Nat
  | _, [] => []
  | k, r :: rs =>
    match r.ch with
    | some c => if unord bs i k then c.1 :: wrs bs i (k + 1) rs else wrs bs i (k + 1) rs
    | none => wrs bs i (k + 1) rs
theorem wrs_mem {bs : List Nat} {i : Nat} : ∀ {rs : List Rec} {k j : Nat} {r : Rec} {c : Nat × ABlk}, rs[j]? = some r → r.ch = some c → unord bs i (k + j) = true → c.1 ∈ wrs bs i k rs
  | [], _, _, _, _, h, _, _ => by simp at h
  | x :: rs, k, 0, r, c, h, hc, hu => by
    simp at h
    subst h
    rw [Nat.add_zero] at hu
    simp [wrs, hc, hu]
  | x :: rs, k, j + 1, r, c, h, hc, hu => by
    have ih := wrs_mem (rs := rs) (k := k + 1) (j := j) (by simpa using h) hc (by rwa [show k + 1 + j = k + (j + 1) by omega])
    unfold wrs
    split
    · split
      · exact List.mem_cons_of_mem _ ih
      · exact ih
    · exact ih
def applyR (H : AH) (r : Rec) : AH :=
  match r.ch with
  | some c => H.set c.1 c.2
  | none => H
noncomputable def genLex (P : Program) (call : CallF) (ops : Array Oper) (hd : List Oper) (bs als : List Nat) (N0 : Nat) : Nat → List Oper → List AV → AH → List Rec → Option (List Rec)
  | _, [], _, _, acc => some acc
  | i, o :: r, fr, H, acc =>
    match genStep P call ops hd bs als N0 i o fr (maskL (wrs bs i 0 acc) H) with
    | none => none
    | some rc => genLex P call ops hd bs als N0 (i + 1) r (aput fr o.dst rc.v) (applyR H rc) (acc ++ [rc])
def updZ (os : List Oper) (rs : List Rec) : List (Option (Nat × AV)) := (os.zip rs).map fun p => p.1.dst.map fun s => (s, p.2.v)
def allD (_ : Nat) : Bool := true
theorem foldD_shift {α : Type} : ∀ (us : List (Option (Nat × α))) (k : Nat) (l : List α), foldD allD k us l = foldD allD 0 us l
  | [], _, _ => rfl
  | none :: us, k, l => by rw [foldD, foldD, foldD_shift us (k + 1), foldD_shift us 1]
  | some u :: us, k, l => by rw [foldD, foldD, foldD_shift us (k + 1), foldD_shift us 1]; rfl
theorem genLex_ok {P : Program} {call : CallF} {ops : Array Oper} {hd : List Oper} {bs als : List Nat} {N0 : Nat} : ∀ (rest : List Oper) (i : Nat) (fr : List AV) (H : AH) (acc recs : List Rec), genLex P call ops hd bs als N0 i rest fr H acc = some recs →
    ∃ rs, recs = acc ++ rs ∧ rs.length = rest.length ∧ ∀ (j : Nat) (o : Oper), rest[j]? = some o → ∃ r, rs[j]? = some r ∧
      genStep P call ops hd bs als N0 (i + j) o (foldD allD 0 ((updZ rest rs).take j) fr) (maskL (wrs bs (i + j) 0 (acc ++ rs.take j)) (foldD allD 0 ((rs.map (·.ch)).take j) H)) = some r
  | [], i, fr, H, acc, recs, h => by
    simp only [genLex] at h
    cases h
    exact ⟨[], by simp, rfl, fun j o h => by simp at h⟩
  | o :: rest, i, fr, H, acc, recs, h => by
    simp only [genLex] at h
    split at h
    · cases h
    · rename_i rc hst
      obtain ⟨rs, h1, h2, h3⟩ := genLex_ok rest _ _ _ _ _ h
      refine ⟨rc :: rs, by rw [h1]; simp, by simp [h2], fun j o' hj => ?_⟩
      cases j with
      | zero =>
        simp at hj
        subst hj
        refine ⟨rc, rfl, ?_⟩
        simpa [foldD] using hst
      | succ j =>
        obtain ⟨r, h4, h5⟩ := h3 j o' (by simpa using hj)
        refine ⟨r, by simpa using h4, ?_⟩
        have e1 : foldD allD 0 ((updZ (o :: rest) (rc :: rs)).take (j + 1)) fr = foldD allD 0 ((updZ rest rs).take j) (aput fr o.dst rc.v) := by
          simp only [updZ, List.zip_cons_cons, List.map_cons, List.take_succ_cons]
          cases hd : o.dst with
          | none => rw [Option.map_none, foldD, foldD_shift]; rfl
          | some s => rw [Option.map_some, foldD, foldD_shift]; rfl
        have e2 : foldD allD 0 (((rc :: rs).map (·.ch)).take (j + 1)) H = foldD allD 0 ((rs.map (·.ch)).take j) (applyR H rc) := by
          simp only [List.map_cons, List.take_succ_cons]
          unfold applyR
          cases hc : rc.ch with
          | none => rw [foldD, foldD_shift]
          | some c => rw [foldD, foldD_shift]; rfl
        rw [e1, e2, show i + (j + 1) = i + 1 + j by omega]
        simpa using h5

/-- The free places: by the number of the operation that fills each. -/
def allocs : Nat → List Oper → List Nat
  | _, [] => []
  | k, o :: l => if isNew o.op = true then k :: allocs (k + 1) l else allocs (k + 1) l
theorem allocs_mem : ∀ {l : List Oper} {k j : Nat} {o : Oper}, l[j]? = some o → isNew o.op = true → k + j ∈ allocs k l
  | [], _, _, _, h, _ => by simp at h
  | x :: l, k, 0, o, h, ho => by
    simp at h; subst h
    simp [allocs, ho]
  | x :: l, k, j + 1, o, h, ho => by
    have ih := allocs_mem (l := l) (k := k + 1) (j := j) (by simpa using h) ho
    rw [show k + (j + 1) = k + 1 + j by omega]
    unfold allocs
    split
    · exact List.mem_cons_of_mem _ ih
    · exact ih
def okB (bs als : List Nat) (N0 i b : Nat) : Bool := decide (b < N0) || match als[b - N0]? with
  | some k => k == i || (bs.getD i 0).testBit k
  | none => false
def genChk (ops : Array Oper) (hd : List Oper) (bs als : List Nat) (N0 : Nat) (recs : List Rec) : Nat → List Oper → List Rec → List AV → AH → Bool
  | _, [], _, _, _ => true
  | _, _ :: _, [], _, _ => false
  | i, o :: r, rc :: rs, fr, H =>
    lateOk o (gρ hd bs i fr) (maskL (wrs bs i 0 (recs.take i)) H) (wrs bs i (i + 1) rs) &&
    (match rc.ch with
      | some c => !(wrs bs i (i + 1) rs).contains c.1 && okB bs als N0 i c.1 && c.2.onB (okB bs als N0 i)
      | none => true) &&
    rc.v.onB (okB bs als N0 i) &&
    genChk ops hd bs als N0 recs (i + 1) r rs (aput fr o.dst rc.v) (applyR H rc)
theorem genChk_ok {ops : Array Oper} {hd : List Oper} {bs als : List Nat} {N0 : Nat} {recs : List Rec} : ∀ (rest : List Oper) (i : Nat) (rs : List Rec) (fr : List AV) (H : AH), genChk ops hd bs als N0 recs i rest rs fr H = true →
    ∀ (j : Nat) (o : Oper) (rc : Rec), rest[j]? = some o → rs[j]? = some rc →
      lateOk o (gρ hd bs (i + j) (foldD allD 0 ((updZ rest rs).take j) fr)) (maskL (wrs bs (i + j) 0 (recs.take (i + j))) (foldD allD 0 ((rs.map (·.ch)).take j) H)) (wrs bs (i + j) (i + j + 1) (rs.drop (j + 1))) = true ∧
      (∀ c, rc.ch = some c → c.1 ∉ wrs bs (i + j) (i + j + 1) (rs.drop (j + 1)) ∧ okB bs als N0 (i + j) c.1 = true ∧ c.2.onB (okB bs als N0 (i + j)) = true) ∧ rc.v.onB (okB bs als N0 (i + j)) = true
  | [], _, _, _, _, _, j, o, rc, h, _ => by simp at h
  | _ :: _, _, [], _, _, _, j, o, rc, _, h => by simp at h
  | o :: rest, i, rc :: rs, fr, H, h, j, o', rc', hj, hr => by
    simp only [genChk, Bool.and_eq_true] at h
    obtain ⟨⟨⟨h1, h2⟩, h3⟩, h4⟩ := h
    cases j with
    | zero =>
      simp at hj hr
      subst hj; subst hr
      refine ⟨by simpa [foldD] using h1, fun c hc => ?_, h3⟩
      rw [hc] at h2
      simp only [Bool.and_eq_true] at h2
      exact ⟨by simpa using h2.1.1, h2.1.2, h2.2⟩
    | succ j =>
      have ih := genChk_ok rest (i + 1) rs _ _ h4 j o' rc' (by simpa using hj) (by simpa using hr)
      have e1 : foldD allD 0 ((updZ (o :: rest) (rc :: rs)).take (j + 1)) fr = foldD allD 0 ((updZ rest rs).take j) (aput fr o.dst rc.v) := by
        simp only [updZ, List.zip_cons_cons, List.map_cons, List.take_succ_cons]
        cases hd : o.dst with
        | none => rw [Option.map_none, foldD, foldD_shift]; rfl
        | some s => rw [Option.map_some, foldD, foldD_shift]; rfl
      have e2 : foldD allD 0 (((rc :: rs).map (·.ch)).take (j + 1)) H = foldD allD 0 ((rs.map (·.ch)).take j) (applyR H rc) := by
        simp only [List.map_cons, List.take_succ_cons]
        unfold applyR
        cases hc : rc.ch with
        | none => rw [foldD, foldD_shift]
        | some c => rw [foldD, foldD_shift]; rfl
      rw [e1, e2, show i + (j + 1) = i + 1 + j by omega]
      simpa using ih
def nodupD : List Oper → Bool
  | [] => true
  | o :: l => (match o.dst with | none => true | some s => l.all fun o' => o'.dst != some s) && nodupD l
theorem nodupD_ok : ∀ {l : List Oper}, nodupD l = true → ∀ {i j : Nat} {oi oj : Oper} {s : Tmp}, i ≠ j → l[i]? = some oi → l[j]? = some oj → oi.dst = some s → oj.dst ≠ some s
  | [], _, _, _, _, _, _, _, h, _, _ => by simp at h
  | o :: l, h, i, j, oi, oj, s, hij, hi, hj, hd => by
    simp only [nodupD, Bool.and_eq_true] at h
    cases i with
    | zero =>
      cases j with
      | zero => exact absurd rfl hij
      | succ j =>
        simp at hi hj
        subst hi
        rw [hd] at h
        have := List.all_eq_true.1 h.1 oj (List.mem_of_getElem? hj)
        simpa using this
    | succ i =>
      cases j with
      | zero =>
        simp at hi hj
        subst hj
        intro he
        rw [he] at h
        have := List.all_eq_true.1 h.1 oi (List.mem_of_getElem? hi)
        rw [hd] at this
        simp at this
      | succ j => exact nodupD_ok h.2 (i := i) (j := j) (by omega) (by simpa using hi) (by simpa using hj) hd
end Go.Ve

namespace Go.Ve
open Go Go.RowKit

theorem updZ_get {os : List Oper} {rs : List Rec} {j : Nat} {o : Oper} {r : Rec} (ho : os[j]? = some o) (hr : rs[j]? = some r) : (updZ os rs)[j]? = some (o.dst.map fun s => (s, r.v)) := by
  unfold updZ
  rw [List.getElem?_map, (List.getElem?_zip_eq_some (z := (o, r))).2 ⟨ho, hr⟩]
  rfl
theorem updZ_inv {os : List Oper} {rs : List Rec} {j : Nat} {u : Nat × AV} (h : (updZ os rs)[j]? = some (some u)) : ∃ o r, os[j]? = some o ∧ rs[j]? = some r ∧ o.dst = some u.1 ∧ r.v = u.2 := by
  unfold updZ at h
  rw [List.getElem?_map] at h
  cases hz : (os.zip rs)[j]? with
  | none => rw [hz] at h; cases h
  | some p =>
    rw [hz] at h
    obtain ⟨h1, h2⟩ := (List.getElem?_zip_eq_some (z := p)).1 hz
    refine ⟨p.1, p.2, h1, h2, ?_⟩
    cases hd : p.1.dst with
    | none => rw [Option.map_some, hd] at h; cases h
    | some s => rw [Option.map_some, hd] at h; cases h; exact ⟨rfl, rfl⟩

/-- What is known of the head's evaluation. -/
structure Gen (P : Program) (call : CallF) (ops : Array Oper) (n : Nat) (fr0 : List AV) (H0 : AH) (recs : List Rec) : Prop where
  fwd : fwdB ops = true
  le : n ≤ ops.size
  nd : nodupD (ops.toList.take n) = true
  len : recs.length = n
  step : ∀ (j : Nat) (o : Oper), (ops.toList.take n)[j]? = some o → ∃ r, recs[j]? = some r ∧
    genStep P call ops (ops.toList.take n) (bsOf ops) (allocs 0 (ops.toList.take n)) H0.length j o (foldD allD 0 ((updZ (ops.toList.take n) recs).take j) fr0)
      (maskL (wrs (bsOf ops) j 0 (recs.take j)) (foldD allD 0 ((recs.map (·.ch)).take j) (H0 ++ List.replicate (allocs 0 (ops.toList.take n)).length .dead))) = some r
  chk : ∀ (j : Nat) (o : Oper) (rc : Rec), (ops.toList.take n)[j]? = some o → recs[j]? = some rc →
    lateOk o (gρ (ops.toList.take n) (bsOf ops) j (foldD allD 0 ((updZ (ops.toList.take n) recs).take j) fr0)) (maskL (wrs (bsOf ops) j 0 (recs.take j)) (foldD allD 0 ((recs.map (·.ch)).take j) (H0 ++ List.replicate (allocs 0 (ops.toList.take n)).length .dead))) (wrs (bsOf ops) j (j + 1) (recs.drop (j + 1))) = true ∧
    (∀ c, rc.ch = some c → c.1 ∉ wrs (bsOf ops) j (j + 1) (recs.drop (j + 1)) ∧ okB (bsOf ops) (allocs 0 (ops.toList.take n)) H0.length j c.1 = true ∧ c.2.onB (okB (bsOf ops) (allocs 0 (ops.toList.take n)) H0.length j) = true) ∧
    rc.v.onB (okB (bsOf ops) (allocs 0 (ops.toList.take n)) H0.length j) = true

section
variable {P : Program} {call : CallF} {ops : Array Oper} {n : Nat} {fr0 : List AV} {H0 : AH} {recs : List Rec} {w0 : Base} {φ0 : List Loc} {Q : Exit → Act → World → Prop}

def Dof (d : Array Bool) : Nat → Bool := fun k => d.getD k false
def frD (ops : Array Oper) (n : Nat) (recs : List Rec) (fr0 : List AV) (D : Nat → Bool) : List AV := foldD D 0 (updZ (ops.toList.take n) recs) fr0
def HD (ops : Array Oper) (n : Nat) (recs : List Rec) (H0 : AH) (D : Nat → Bool) : AH := foldD D 0 (recs.map (·.ch)) (H0 ++ List.replicate (allocs 0 (ops.toList.take n)).length .dead)
def okD (ops : Array Oper) (n : Nat) (H0 : AH) (D : Nat → Bool) (b : Nat) : Prop := b < H0.length ∨ ∃ k, (allocs 0 (ops.toList.take n))[b - H0.length]? = some k ∧ D k = true
structure Inv (ops : Array Oper) (n : Nat) (fr0 : List AV) (H0 : AH) (recs : List Rec) (w0 : Base) (φ0 : List Loc) (d : Array Bool) (a : Act) (w : World) : Prop where
  head : HeadInv .any ops n d
  defers : a.defers = []
  rest : ∃ φ : List Loc, (∀ b, b < H0.length → φ[b]? = φ0[b]?) ∧ Rel w0 φ (HD ops n recs H0 (Dof d)) w ∧ VRs φ (frD ops n recs fr0 (Dof d)) a.tmps.toList ∧
    AV.Ons (okD ops n H0 (Dof d)) (frD ops n recs fr0 (Dof d)) ∧ ∀ (b : Nat) (k : ABlk), (HD ops n recs H0 (Dof d))[b]? = some k → k.On (okD ops n H0 (Dof d))

theorem Gen.op (g : Gen P call ops n fr0 H0 recs) {i : Nat} (hi : i < n) : ∃ o, ops[i]? = some o ∧ (ops.toList.take n)[i]? = some o := by
  have h1 : i < ops.size := Nat.lt_of_lt_of_le hi g.le
  refine ⟨ops[i], Array.getElem?_eq_getElem h1, ?_⟩
  rw [List.getElem?_take, if_pos hi]
  simp [h1]
theorem Gen.mis (g : Gen P call ops n fr0 H0 recs) {d : Array Bool} (inv : HeadInv .any ops n d) {i k : Nat} (hr : i ∈ Region.ready .any ops d) (hk : k < n) (hne : Dof d k ≠ decide (k < i)) : unord (bsOf ops) i k = true := by
  obtain ⟨hun, oi, hoi, hall⟩ := mem_ready.1 hr
  have hif : d.getD i false = false := getD_both hun
  obtain ⟨ok, hok, _⟩ := g.op hk
  by_cases hlt : k < i
  · rw [decide_eq_true hlt] at hne
    have hkf : d.getD k false = false := by simpa [Dof] using hne
    refine unord_of (by omega) ?_ ?_
    · cases h : ((bsOf ops).getD i 0).testBit k with
      | false => rfl
      | true => rw [bs_closed g.fwd inv.closed i hoi hall h] at hkf; cases hkf
    · cases h : ((bsOf ops).getD k 0).testBit i with
      | false => rfl
      | true => have := bs_lt g.fwd k hok h; omega
  · rw [decide_eq_false hlt] at hne
    have hkt : d.getD k false = true := by simpa [Dof] using hne
    have hik : i ≠ k := fun e => by subst e; rw [hif] at hkt; cases hkt
    refine unord_of hik ?_ ?_
    · cases h : ((bsOf ops).getD i 0).testBit k with
      | false => rfl
      | true => have := bs_lt g.fwd i hoi h; omega
    · cases h : ((bsOf ops).getD k 0).testBit i with
      | false => rfl
      | true => rw [bs_closed g.fwd inv.closed k hok (inv.closed k ok hok hkt) h] at hif; cases hif
theorem lt_lex {α : Type} (us : List (Option (Nat × α))) (i : Nat) (l : List α) : foldD allD 0 (us.take i) l = foldD (fun k => decide (k < i)) 0 us l := by
  have := foldD_lt us 0 i l
  rw [Nat.zero_add] at this
  exact this.symm
/-- The masked heap of operation i, at whatever point it comes up. -/
theorem Gen.masked (g : Gen P call ops n fr0 H0 recs) {d : Array Bool} (inv : HeadInv .any ops n d) {i : Nat} (hr : i ∈ Region.ready .any ops d) (_ : i < n) :
    Masked (maskL (wrs (bsOf ops) i (i + 1) (recs.drop (i + 1))) (maskL (wrs (bsOf ops) i 0 (recs.take i)) (foldD allD 0 ((recs.map (·.ch)).take i) (H0 ++ List.replicate (allocs 0 (ops.toList.take n)).length .dead)))) (HD ops n recs H0 (Dof d)) := by
  refine ⟨by rw [maskL_length, maskL_length, foldD_length, HD, foldD_length], fun b hb => ?_⟩
  have hb' : b < (foldD allD 0 ((recs.map (·.ch)).take i) (H0 ++ List.replicate (allocs 0 (ops.toList.take n)).length .dead)).length := by
    rw [HD, foldD_length] at hb; rw [foldD_length]; exact hb
  by_cases h1 : b ∈ wrs (bsOf ops) i (i + 1) (recs.drop (i + 1))
  · exact .inl ((maskL_get _ _ b).2 (by rw [maskL_length]; exact hb') (.inr h1))
  · by_cases h2 : b ∈ wrs (bsOf ops) i 0 (recs.take i)
    · exact .inl ((maskL_get _ _ b).2 (by rw [maskL_length]; exact hb') (.inl ((maskL_get _ _ b).2 hb' (.inr h2))))
    · right
      rw [(maskL_get _ _ b).1 h1, (maskL_get _ _ b).1 h2, lt_lex, HD]
      refine foldD_get _ 0 _ _ (fun j u hu hub => ?_) rfl rfl
      rw [Nat.zero_add]
      rw [List.getElem?_map] at hu
      cases hrj : recs[j]? with
      | none => rw [hrj] at hu; cases hu
      | some r =>
        rw [hrj] at hu
        have hch : r.ch = some u := by simpa using hu
        have hjn : j < n := by rw [← g.len]; exact lt_of_some hrj
        refine Decidable.byContradiction fun hne => ?_
        have hu := g.mis inv hr hjn (fun e => hne e.symm)
        by_cases hji : j < i
        · exact h2 (hub ▸ wrs_mem (j := j) (by rw [List.getElem?_take, if_pos hji]; exact hrj) hch (by rwa [Nat.zero_add]))
        · have hne2 : i ≠ j := by
            intro e
            subst e
            simp [unord] at hu
          exact h1 (hub ▸ wrs_mem (j := j - (i + 1)) (by rw [List.getElem?_drop, show i + 1 + (j - (i + 1)) = j by omega]; exact hrj) hch (by rwa [show i + 1 + (j - (i + 1)) = j by omega]))
theorem Gen.slot (g : Gen P call ops n fr0 H0 recs) {d : Array Bool} (inv : HeadInv .any ops n d) {i : Nat} (hr : i ∈ Region.ready .any ops d) {s : Tmp} (hs : hidB (bsOf ops) i s 0 (ops.toList.take n) = false) :
    (frD ops n recs fr0 (Dof d))[s]? = (foldD allD 0 ((updZ (ops.toList.take n) recs).take i) fr0)[s]? := by
  rw [lt_lex, frD]
  refine foldD_get _ 0 _ _ (fun j u hu hub => ?_) rfl rfl
  rw [Nat.zero_add]
  obtain ⟨o, r, h1, h2, h3, _⟩ := updZ_inv hu
  have hjn : j < n := by rw [← g.len]; exact lt_of_some h2
  refine Decidable.byContradiction fun hne => ?_
  have hu := g.mis inv hr hjn hne
  exact hidB_ok hs j o h1 (by rwa [Nat.zero_add]) (by rw [h3, hub])
theorem Dof_set {d : Array Bool} {i j : Nat} (h : j ≠ i) : Dof (d.setIfInBounds i true) j = Dof d j := getD_set_ne false (Ne.symm h)
theorem Dof_self {d : Array Bool} {i : Nat} (h : i < d.size) : Dof (d.setIfInBounds i true) i = true := by
  unfold Dof
  simp [h]
theorem Gen.frame (g : Gen P call ops n fr0 H0 recs) {d : Array Bool} (inv : HeadInv .any ops n d) {i : Nat} (hr : i ∈ Region.ready .any ops d) (hi : i < n) {o : Oper} {rc : Rec} (ho : (ops.toList.take n)[i]? = some o) (hrc : recs[i]? = some rc) :
    frD ops n recs fr0 (Dof (d.setIfInBounds i true)) = aput (frD ops n recs fr0 (Dof d)) o.dst rc.v := by
  have hun := (mem_ready.1 hr).1
  have hu := updZ_get ho hrc
  cases hd : o.dst with
  | none =>
    rw [hd] at hu
    exact foldD_skip hu fun j hj => Dof_set hj
  | some s =>
    rw [hd] at hu
    refine foldD_insert (b := s) (x := rc.v) _ 0 i _ hu ?_ ?_ ?_ ?_
    · rw [Nat.zero_add]; exact Dof_self (by rw [inv.size]; exact Nat.lt_of_lt_of_le hi g.le)
    · rw [Nat.zero_add]; exact getD_both hun
    · intro j hj; exact Dof_set (by omega)
    · intro j u hj hu' _ he
      obtain ⟨o', r', h1, h2, h3, _⟩ := updZ_inv hu'
      exact nodupD_ok g.nd (show i ≠ j by omega) ho h1 hd (by rw [h3, he])
theorem Gen.heap (g : Gen P call ops n fr0 H0 recs) {d : Array Bool} (inv : HeadInv .any ops n d) {i : Nat} (hr : i ∈ Region.ready .any ops d) (hi : i < n) {o : Oper} {rc : Rec} (ho : (ops.toList.take n)[i]? = some o) (hrc : recs[i]? = some rc) :
    HD ops n recs H0 (Dof (d.setIfInBounds i true)) = applyR (HD ops n recs H0 (Dof d)) rc := by
  have hun := (mem_ready.1 hr).1
  have hu : (recs.map (·.ch))[i]? = some rc.ch := by rw [List.getElem?_map, hrc]; rfl
  unfold applyR
  cases hc : rc.ch with
  | none =>
    rw [hc] at hu
    exact foldD_skip hu fun j hj => Dof_set hj
  | some c =>
    rw [hc] at hu
    refine foldD_insert (b := c.1) (x := c.2) _ 0 i _ hu ?_ ?_ ?_ ?_
    · rw [Nat.zero_add]; exact Dof_self (by rw [inv.size]; exact Nat.lt_of_lt_of_le hi g.le)
    · rw [Nat.zero_add]; exact getD_both hun
    · intro j hj; exact Dof_set (by omega)
    · intro j u hj hu' hD he
      rw [Nat.zero_add] at hD
      rw [List.getElem?_map] at hu'
      cases hrj : recs[j]? with
      | none => rw [hrj] at hu'; cases hu'
      | some r =>
        rw [hrj] at hu'
        have hch : r.ch = some u := by simpa using hu'
        have hjn : j < n := by rw [← g.len]; exact lt_of_some hrj
        have hun := g.mis inv hr hjn (by rw [hD, decide_eq_false (by omega)]; simp)
        have := ((g.chk i o rc ho hrc).2.1 c hc).1
        exact this (he ▸ wrs_mem (j := j - (i + 1)) (by rw [List.getElem?_drop, show i + 1 + (j - (i + 1)) = j by omega]; exact hrj) hch (by rwa [show i + 1 + (j - (i + 1)) = j by omega]))
theorem Gen.ok (g : Gen P call ops n fr0 H0 recs) {d : Array Bool} (inv : HeadInv .any ops n d) {i : Nat} (hr : i ∈ Region.ready .any ops d) (hi : i < n) {b : Nat} (h : okB (bsOf ops) (allocs 0 (ops.toList.take n)) H0.length i b = true) : okD ops n H0 (Dof (d.setIfInBounds i true)) b := by
  obtain ⟨_, oi, hoi, hall⟩ := mem_ready.1 hr
  have hsz : i < d.size := by rw [inv.size]; exact Nat.lt_of_lt_of_le hi g.le
  unfold okB at h
  rw [Bool.or_eq_true] at h
  rcases h with h | h
  · exact .inl (by simpa using h)
  · split at h
    · rename_i k hk
      refine .inr ⟨k, hk, ?_⟩
      rw [Bool.or_eq_true] at h
      by_cases hki : k = i
      · subst hki; exact Dof_self hsz
      · rw [Dof_set hki]
        rcases h with h | h
        · exact absurd (by simpa using h) hki
        · exact bs_closed g.fwd inv.closed i hoi hall h
    · cases h
theorem okD_mono {d : Array Bool} {i : Nat} {b : Nat} (h : okD ops n H0 (Dof d) b) : okD ops n H0 (Dof (d.setIfInBounds i true)) b :=
  h.imp id fun ⟨k, h1, h2⟩ => ⟨k, h1, getD_set_true h2⟩
end
end Go.Ve

namespace Go.Ve
open Go Go.RowKit

section
variable {P : Program} {call : CallF} {ops : Array Oper} {n : Nat} {fr0 : List AV} {H0 : AH} {recs : List Rec} {w0 : Base} {φ0 : List Loc} {Q : Exit → Act → World → Prop}

theorem gwant_ok {hd : List Oper} {bs : List Nat} {i : Nat} {o : Oper} {fr fr' : List AV} {b : Bool} (h : gwant ops hd bs i o fr = some b) (hs : ∀ s, hidB bs i s 0 hd = false → fr'[s]? = fr[s]?) : awanted ops o fr' = some b := by
  unfold gwant at h
  split at h
  · rename_i hg
    cases h
    unfold awanted; rw [hg]
  · rename_i j want hg
    split at h
    · rename_i hd'
      cases h
      unfold awanted; simp only [hg, hd']
    · rename_i s hd'
      split at h
      · cases h
      · rename_i hh
        rw [awanted_congr (fr' := fr)]
        · exact h
        · intro j' want' s' hg' hd''
          rw [hg] at hg'
          cases hg'
          rw [hd'] at hd''
          cases hd''
          exact hs s (by simpa using hh)

theorem Gen.free (g : Gen P call ops n fr0 H0 recs) {d : Array Bool} (hinv : HeadInv .any ops n d) {i : Nat} (hr : i ∈ Region.ready .any ops d) {o : Oper} (ho : (ops.toList.take n)[i]? = some o) (hnw : isNew o.op = true) :
    ¬ okD ops n H0 (Dof d) (H0.length + (allocs 0 (ops.toList.take n)).idxOf i) ∧ (HD ops n recs H0 (Dof d))[H0.length + (allocs 0 (ops.toList.take n)).idxOf i]? = some .dead := by
  have hmem : i ∈ allocs 0 (ops.toList.take n) := by have := allocs_mem (k := 0) ho hnw; rwa [Nat.zero_add] at this
  have hidx : (allocs 0 (ops.toList.take n))[(allocs 0 (ops.toList.take n)).idxOf i]? = some i := by
    have hlt := List.idxOf_lt_length_iff.2 hmem
    rw [List.getElem?_eq_getElem hlt, List.getElem_idxOf]
  have hilt := lt_of_some hidx
  have hnot : ¬ okD ops n H0 (Dof d) (H0.length + (allocs 0 (ops.toList.take n)).idxOf i) := by
    rintro (h | ⟨k, h4, h5⟩)
    · omega
    · rw [Nat.add_sub_cancel_left, hidx] at h4
      cases h4
      have := getD_both (mem_ready.1 hr).1
      unfold Dof at h5
      rw [this] at h5
      cases h5
  have hdead : (HD ops n recs H0 (Dof d))[H0.length + (allocs 0 (ops.toList.take n)).idxOf i]? = some .dead := by
    have e1 : (HD ops n recs H0 (Dof d))[H0.length + (allocs 0 (ops.toList.take n)).idxOf i]? = (HD ops n recs H0 (fun _ => false))[H0.length + (allocs 0 (ops.toList.take n)).idxOf i]? := by
      refine foldD_get _ 0 _ _ (fun j u hu hub => ?_) rfl rfl
      rw [Nat.zero_add]
      rw [List.getElem?_map] at hu
      cases hrj : recs[j]? with
      | none => rw [hrj] at hu; cases hu
      | some r =>
        rw [hrj] at hu
        have hcj : r.ch = some u := by simpa using hu
        have hjn : j < n := by rw [← g.len]; exact lt_of_some hrj
        obtain ⟨oj, hoj, hoj'⟩ := g.op hjn
        have hok := ((g.chk j oj r hoj' hrj).2.1 u hcj).2.1
        cases hDj : Dof d j with
        | false => rfl
        | true =>
          exfalso
          rw [hub] at hok
          unfold okB at hok
          rw [Nat.add_sub_cancel_left, hidx, Bool.or_eq_true] at hok
          rcases hok with h | h
          · have := of_decide_eq_true h
            omega
          · rw [Bool.or_eq_true] at h
            have hif := getD_both (mem_ready.1 hr).1
            rcases h with h | h
            · have : i = j := by simpa using h
              subst this
              unfold Dof at hDj
              rw [hif] at hDj; cases hDj
            · rw [bs_closed g.fwd hinv.closed j hoj (hinv.closed j oj hoj hDj) h] at hif
              cases hif
    rw [e1]
    have e2 : ∀ (us : List (Option (Nat × ABlk))) (k : Nat) (l : AH), foldD (fun _ => false) k us l = l := by
      intro us
      induction us with
      | nil => intro _ _; rfl
      | cons u us ih => intro k l; cases u <;> exact ih _ _
    rw [HD, e2, List.getElem?_append_right (by omega), Nat.add_sub_cancel_left]
    simp [hilt]
  exact ⟨hnot, hdead⟩

theorem Gen.next (g : Gen P call ops n fr0 H0 recs) (hP : P.funcs.all (fun fn => !(fn.name == "runtime.NumGoroutine")) = true) (hC : CallOk P call) {d : Array Bool} {a : Act} {w : World} (inv : Inv ops n fr0 H0 recs w0 φ0 d a w) {i : Nat} (hr : i ∈ Region.ready .any ops d) (hi : i < n) {K : Act → World → Prop}
    (hK : ∀ a' w', Inv ops n fr0 H0 recs w0 φ0 (d.setIfInBounds i true) a' w' → K a' w') : wpOp P ops Q i K a w := by
  obtain ⟨o, hoi, ho⟩ := g.op hi
  obtain ⟨rc, hrc, hst⟩ := g.step i o ho
  obtain ⟨hlate, hch, hvon⟩ := g.chk i o rc ho hrc
  obtain ⟨hinv, hdef, φ, hφ, hrel, hfr, hon, hhon⟩ := inv
  have hmask := g.masked hinv hr hi
  have hslot := fun {s : Tmp} (hs : hidB (bsOf ops) i s 0 (ops.toList.take n) = false) => g.slot hinv hr hs
  have hframe := g.frame hinv hr hi ho hrc
  have hheap := g.heap hinv hr hi ho hrc
  have hput : ∀ u, (a.put o.dst u).defers = [] := fun u => by cases o.dst <;> exact hdef
  have fin : ∀ (u : Value) (w' : World) (φ' : List Loc), (∀ b, b < H0.length → φ'[b]? = φ0[b]?) → Rel w0 φ' (applyR (HD ops n recs H0 (Dof d)) rc) w' → VRs φ' (frD ops n recs fr0 (Dof d)) a.tmps.toList → VR φ' rc.v u → K (a.put o.dst u) w' := by
    intro u w' φ' h1 h2 h3 h4
    refine hK _ _ ⟨hinv.set hr hi, hput u, φ', h1, by rw [hheap]; exact h2, by rw [hframe]; exact aput_ok h3 o.dst h4, ?_, ?_⟩
    · rw [hframe]
      have h5 : AV.Ons (okD ops n H0 (Dof (d.setIfInBounds i true))) (frD ops n recs fr0 (Dof d)) := AV.Ons.mono (fun b hb => okD_mono hb) hon
      have h6 : AV.On (okD ops n H0 (Dof (d.setIfInBounds i true))) rc.v := AV.On.mono (fun b hb => g.ok hinv hr hi hb) (AV.onB_ok hvon)
      unfold aput
      split
      · exact h5.set _ h6
      · exact h5
    · intro b k hb
      rw [hheap] at hb
      unfold applyR at hb
      cases hc : rc.ch with
      | none => rw [hc] at hb; exact (hhon b k hb).mono fun b hb => okD_mono hb
      | some c =>
        rw [hc] at hb
        by_cases he : c.1 = b
        · have hlt := lt_of_some hb
          rw [List.length_set] at hlt
          simp only [he] at hb
          rw [List.getElem?_set_self hlt] at hb
          cases hb
          exact (ABlk.onB_ok (hch c hc).2.2).mono fun b hb => g.ok hinv hr hi hb
        · simp only at hb
          rw [List.getElem?_set_ne he] at hb
          exact (hhon b k hb).mono fun b hb => okD_mono hb
  have fin2 : ∀ (Hm' : AH) (m off len cap : Nat) (ex : Bool) (vs : List AV) (esz lo : Nat) (H' : AH) (φ' : List Loc) (u : Value) (w' : World), Masked Hm' (HD ops n recs H0 (Dof d)) → isNew o.op = true → lo = Hm'.length → Keeps lo Hm' H' → Hm'.length ≤ m → H'[m]? = some (.cells vs esz false) →
      AV.onBs (fun b => decide (b < Hm'.length) && decide (b ≠ H0.length + (allocs 0 (ops.toList.take n)).idxOf i)) vs = true → rc = ⟨.sl (H0.length + (allocs 0 (ops.toList.take n)).idxOf i) off len cap ex, some (H0.length + (allocs 0 (ops.toList.take n)).idxOf i, .cells vs esz false)⟩ →
      Ext φ φ' → VR φ' (.sl m off len cap ex) u → Rel (Base.of w φ Hm') φ' H' w' → K (a.put o.dst u) w' := by
    intro Hm' m off len cap ex vs esz lo H' φ' u w' hmask hnw hlo hkeep hm hb honv hrc' h3 h4 h5
    obtain ⟨hnot, hdead⟩ := g.free hinv hr ho hnw
    subst hrc'
    have hold := (hrel.weak hmask).rebase.restrict h3 (hlo ▸ hkeep) h5
    have hnew := hrel.unbase hmask hold
    cases h4 with
    | sl hl =>
      rename_i l
      have hplt : H0.length + (allocs 0 (ops.toList.take n)).idxOf i < φ.length := by rw [hrel.len]; exact lt_of_some hdead
      have hlen := hold.len
      have hne : ∀ b, okD ops n H0 (Dof d) b → b ≠ H0.length + (allocs 0 (ops.toList.take n)).idxOf i := fun b hb e => hnot (e ▸ hb)
      have hset : ∀ b, okD ops n H0 (Dof d) b → (φ.set (H0.length + (allocs 0 (ops.toList.take n)).idxOf i) l)[b]? = φ[b]? := fun b hb => List.getElem?_set_ne (Ne.symm (hne b hb))
      have hbrm := h5.blocks m _ l hb hl
      have hbr : BR w0 (φ.set (H0.length + (allocs 0 (ops.toList.take n)).idxOf i) l) w' l (.cells vs esz false) := by
        refine BR.re (φ := φ') (p := fun b => (decide (b < _) && decide (b ≠ H0.length + (allocs 0 (ops.toList.take n)).idxOf i)) = true) (fun b hb => ?_) (AV.onBs_ok honv) ?_
        · simp only [Bool.and_eq_true, decide_eq_true_eq] at hb
          rw [List.getElem?_set_ne (Ne.symm hb.2)]
          have hbl : b < φ.length := by rw [hlen]; exact hb.1
          rw [List.getElem?_eq_getElem hbl]
          exact (h3.get (List.getElem?_eq_getElem hbl)).symm
        · refine hbrm.base (fun ho hk => ?_) (fun ho => by simp [ABlk.own] at ho)
          refine hbrm.own_ge rfl ⟨Nat.lt_of_lt_of_le (w0.lt _ hk) hrel.below.size, fun b' k' l' hb' hl' ho' he => ?_⟩
          exact (hrel.blocks b' k' l' (hmask.get hb' (own_nd ho')) hl').own_ge ho' (he ▸ hk)
      have hsep : ∀ (b : Nat) (k : ABlk) (lb : Loc), (HD ops n recs H0 (Dof d))[b]? = some k → φ[b]? = some lb → k.own = true → lb.blk ≠ l.blk := by
        intro b k lb hb1 hl1 ho1 he
        rcases hmask.2 b (lt_of_some hb1) with hd1 | hd1
        · refine hbrm.own_ge rfl (he ▸ (⟨(hrel.blocks b k lb hb1 hl1).lt hrel.below.size (own_nd ho1), fun b' k' l' hb' hl' ho' he' => ?_⟩ : (Base.of w φ _).keep lb.blk))
          have hne' : b' ≠ b := fun e => by subst e; rw [hd1] at hb'; cases hb'; simp [ABlk.own] at ho'
          exact hne' (hrel.inj b' b k' k l' lb (hmask.get hb' (own_nd ho')) hb1 hl' hl1 ho' ho1 he')
        · have hbm : b < φ.length := lt_of_some hl1
          have hb2 := hd1.trans hb1
          have hlt2 := lt_of_some hb2
          have hb3 := hkeep.2 b (by rw [hlo]; exact hlt2) hlt2
          have := h5.inj b m k _ lb l (hb3.trans hb2) hb (h3.get hl1) hl ho1 rfl he
          omega
      refine fin _ _ (φ.set (H0.length + (allocs 0 (ops.toList.take n)).idxOf i) l) (fun b hb => ?_) (hnew.placeAt hdead (fun b k hb => (hhon b k hb).mono hne) hbr hsep) (hfr.re hset hon) ?_
      · rw [List.getElem?_set_ne (by omega)]; exact hφ b hb
      · have := VR.sl (φ := φ.set (H0.length + (allocs 0 (ops.toList.take n)).idxOf i) l) (b := H0.length + (allocs 0 (ops.toList.take n)).idxOf i) (off := off) (len := len) (cap := cap) (ex := ex) (l := l) (List.getElem?_set_self hplt)
        simpa using this
  unfold wpOp
  simp only [hoi]
  unfold genStep at hst
  split at hst
  · cases hst
  · rename_i hw
    cases hst
    rw [awanted_ok (gwant_ok hw fun s hs => hslot hs) hfr]
    simp only [Bool.false_eq_true, if_false]
    exact fin undef w φ hφ hrel hfr (.tuple .nil)
  · rename_i hw
    rw [awanted_ok (gwant_ok hw fun s hs => hslot hs) hfr]
    simp only [if_true]
    left
    have hop := genOp_mask hst hlate
    clear hst
    have hρ : ∀ x, VR φ (gρ (ops.toList.take n) (bsOf ops) i (foldD allD 0 ((updZ (ops.toList.take n) recs).take i) fr0) x) (a.eval x) := by
      intro x
      cases x with
      | tmp s =>
        unfold gρ
        by_cases hh : hidB (bsOf ops) i s 0 (ops.toList.take n) = true
        · simp only [hh, if_true]; exact .bad _
        · simp only [hh]
          have := aeval_ok hfr (.tmp s)
          simp only [aeval, List.getD_eq_getElem?_getD, hslot (by simpa using hh)] at this
          simpa [aeval, List.getD_eq_getElem?_getD] using this
      | const c => exact aeval_ok hfr (.const c)
      | global c => exact aeval_ok hfr (.global c)
      | func c => exact aeval_ok hfr (.func c)
    unfold Oper.wp
    unfold genOp at hop
    split at hop
    · rename_i e hoe
      cases hz : azero P e with
      | none => rw [hz] at hop; cases hop
      | some z =>
        rw [hz] at hop
        cases hop
        obtain ⟨inf, zv, h1, h2, h3⟩ := azero_ok hz []
        obtain ⟨hnot, hdead⟩ := g.free hinv hr ho (by rw [hoe]; rfl)
        have hne : ∀ b, okD ops n H0 (Dof d) b → b ≠ H0.length + (allocs 0 (ops.toList.take n)).idxOf i := fun b hb e => hnot (e ▸ hb)
        have hset : ∀ b, okD ops n H0 (Dof d) b → (φ.set (H0.length + (allocs 0 (ops.toList.take n)).idxOf i) ⟨w.heap.size, 0, 0⟩)[b]? = φ[b]? := fun b hb => List.getElem?_set_ne (Ne.symm (hne b hb))
        have hnew := hrel.allocAt (esz := etag P e z.length) hdead (fun b k hb => (hhon b k hb).mono hne) e h3 (fun t h => tyOf_etag h)
        have hplt : H0.length + (allocs 0 (ops.toList.take n)).idxOf i < φ.length := by rw [hrel.len]; exact lt_of_some hdead
        have hrun : (execOp a.eval o).run P w = .ok (.value (.pointer (some ⟨w.heap.size, 0, none⟩))) { w with heap := w.heap.push (.cells zv.cells e) } := by
          simp only [execOp, hoe]
          simp [Instr.alloc, zeroValue, typeInfo, h1, h2, newVar, newRow]
        rw [hrun]
        refine fin _ _ (φ.set (H0.length + (allocs 0 (ops.toList.take n)).idxOf i) ⟨w.heap.size, 0, 0⟩) (fun b hb => ?_) hnew (hfr.re hset hon) ?_
        · rw [List.getElem?_set_ne (by omega)]; exact hφ b hb
        · have := VR.ptr (φ := φ.set (H0.length + (allocs 0 (ops.toList.take n)).idxOf i) ⟨w.heap.size, 0, 0⟩) (b := H0.length + (allocs 0 (ops.toList.take n)).idxOf i) (off := 0) (l := ⟨w.heap.size, 0, 0⟩) (List.getElem?_set_self hplt)
          simpa using this
    · rename_i t x y hos
      cases hs : astoreAt P t (maskL (wrs (bsOf ops) i (i + 1) (recs.drop (i + 1))) (maskL (wrs (bsOf ops) i 0 (recs.take i)) (foldD allD 0 ((recs.map (·.ch)).take i) (H0 ++ List.replicate (allocs 0 (ops.toList.take n)).length .dead)))) (gρ (ops.toList.take n) (bsOf ops) i (foldD allD 0 ((updZ (ops.toList.take n) recs).take i) fr0) x) (gρ (ops.toList.take n) (bsOf ops) i (foldD allD 0 ((updZ (ops.toList.take n) recs).take i) fr0) y) with
      | none => rw [hs] at hop; cases hop
      | some c =>
        rw [hs] at hop
        cases hop
        have hnd := (astoreAt_spec hs rfl).2.2
        have heq := ((hmask.2 c.1 (by rw [← hmask.1]; exact hnd.1)).resolve_left hnd.2).symm
        have h1 := (astoreAt_spec hs heq).1
        obtain ⟨ad, w', h2, h3, h4⟩ := astore_ok (P := P) hrel (hρ x) (hρ y) h1
        have hrun : (execOp a.eval o).run P w = .ok .skip w' := by simp [execOp, hos, Instr.storeAt, h2, Instr.sureAddr, h3]
        rw [hrun]
        exact fin _ _ φ hφ h4 hfr (.tuple .nil)
    · split at hop
      · rename_i v hv
        cases hop
        obtain ⟨m, u, w', φ', h1, h2, h3, h4, h5, h6⟩ := aop_ok (P := P) hP (hrel.weak hmask) hv hρ
        subst h5; subst h6
        rw [h1]
        rcases h2 with rfl | ⟨rfl, rfl⟩
        · exact fin _ _ _ hφ hrel hfr h4
        · exact fin _ _ _ hφ hrel hfr h4
      · rename_i v0 H' lo hv
        split at hop
        · rename_i hnw
          obtain ⟨hlo, m, off, len, cap, ex, vs, esz, rfl, hm, hb, honv, rfl⟩ := fresh_ok hop
          obtain ⟨mm, u, w', φ', h1, h2, h3, h4, h5, _⟩ := aop_ok (P := P) hP (hrel.weak hmask).rebase hv hρ
          rw [h1]
          rcases h2 with rfl | ⟨rfl, rfl⟩
          · exact fin2 _ m off len cap ex vs esz lo H' φ' u w' hmask hnw hlo (aop_keeps hv) hm hb honv rfl h3 h4 h5
          · exact fin2 _ m off len cap ex vs esz lo H' φ' _ w' hmask hnw hlo (aop_keeps hv) hm hb honv rfl h3 h4 h5
        · cases hop
      · rename_i f args hv
        obtain ⟨us, h1, h2⟩ := aop_ok (P := P) hP (hrel.weak hmask) hv hρ
        split at hop
        · rename_i v hcall
          cases hop
          rw [h1]
          refine ((hC _ _ _ _ _ hcall).1 _ φ w us (hrel.weak hmask).rebase h2).mono ?_
          rintro e w' ⟨u, φ', rfl, h3, h4, h5, h6⟩
          subst h5
          exact fin _ _ _ hφ (hrel.unbase hmask h6) hfr h4
        · rename_i v0 H' lo hcall
          split at hop
          · rename_i hnw
            obtain ⟨hlo, m, off, len, cap, ex, vs, esz, rfl, hm, hb, honv, rfl⟩ := fresh_ok hop
            have hpost := hC _ _ _ _ _ hcall
            rw [h1]
            refine (hpost.1 _ φ w us (hrel.weak hmask).rebase h2).mono ?_
            rintro e w' ⟨u, φ', rfl, h3, h4, h5⟩
            exact fin2 _ m off len cap ex vs esz _ H' φ' u w' hmask hnw hlo (hpost.2 _ _ rfl) hm hb honv rfl h3 h4 h5
          · cases hop
        · cases hop
      · cases hop
end
end Go.Ve

namespace Go.Ve
open Go Go.RowKit

/-! ### How many are left -/
def cnt (d : Array Bool) : Nat → Nat
  | 0 => 0
  | n + 1 => cnt d n + if d.getD n false then 0 else 1
theorem cnt_same {d d' : Array Bool} : ∀ {n : Nat}, (∀ k, k < n → d'.getD k false = d.getD k false) → cnt d' n = cnt d n
  | 0, _ => rfl
  | n + 1, h => by rw [cnt, cnt, cnt_same fun k hk => h k (by omega), h n (by omega)]
theorem cnt_set {d : Array Bool} {i : Nat} (hs : i < d.size) (hf : d.getD i false = false) : ∀ {n : Nat}, i < n → cnt (d.setIfInBounds i true) n + 1 = cnt d n
  | 0, h => by omega
  | n + 1, h => by
    by_cases hin : i = n
    · subst hin
      rw [cnt, cnt, cnt_same fun k hk => getD_set_ne false (by omega), hf]
      have := Dof_self hs
      unfold Dof at this
      rw [this]
      simp
    · have ih := cnt_set hs hf (n := n) (by omega)
      rw [cnt, cnt, getD_set_ne false hin]
      omega
theorem cnt_zero {d : Array Bool} : ∀ {n : Nat}, cnt d n = 0 → ∀ k, k < n → d.getD k false = true
  | 0, _, k, hk => by omega
  | n + 1, h, k, hk => by
    rw [cnt] at h
    by_cases hkn : k = n
    · subst hkn
      cases hd : d.getD k false with
      | true => rfl
      | false => rw [hd] at h; simp at h
    · exact cnt_zero (n := n) (by omega) k (by omega)
theorem cnt_pos {d : Array Bool} : ∀ {n : Nat}, cnt d n ≠ 0 → ∃ k, k < n ∧ d.getD k false = false ∧ ∀ j, j < k → d.getD j false = true
  | 0, h => absurd rfl h
  | n + 1, h => by
    by_cases h0 : cnt d n = 0
    · refine ⟨n, by omega, ?_, fun j hj => cnt_zero h0 j hj⟩
      rw [cnt, h0] at h
      cases hd : d.getD n false with
      | false => rfl
      | true => rw [hd] at h; simp at h
    · obtain ⟨k, h1, h2, h3⟩ := cnt_pos h0
      exact ⟨k, by omega, h2, h3⟩

/-- Where the operations that follow one another begin. -/
def doneArr (ops : Array Oper) (n : Nat) : Array Bool := (List.replicate n true ++ List.replicate (ops.size - n) false).toArray
def tailB (ops : Array Oper) (n : Nat) : Bool := Region.sinkB .any ops n && Region.chainB .any ops n && Region.seqB .any ops (ops.size - n) n (doneArr ops n)
def genAt (ops : Array Oper) : Nat := ((List.range ops.size).find? fun n => tailB ops n).getD ops.size

section
variable {P : Program} {call : CallF} {ops : Array Oper} {n : Nat} {fr0 : List AV} {H0 : AH} {recs : List Rec} {w0 : Base} {φ0 : List Loc} {Q : Exit → Act → World → Prop}
theorem doneArr_eq {d : Array Bool} (inv : HeadInv .any ops n d) (hn : n ≤ ops.size) (hd : ∀ k, k < n → d.getD k false = true) : d = doneArr ops n := by
  apply Array.ext
  · unfold doneArr; simp [inv.size]; omega
  · intro k h1 h2
    have h1' : k < ops.size := by rw [← inv.size]; exact h1
    by_cases hk : k < n
    · have := hd k hk
      simp [h1] at this
      rw [this]
      simp [doneArr, hk]
    · have := inv.tail k (by omega) h1'
      simp [h1] at this
      rw [this]
      simp [doneArr, List.getElem_append, hk]
theorem Gen.run (g : Gen P call ops n fr0 H0 recs) (hP : P.funcs.all (fun fn => !(fn.name == "runtime.NumGoroutine")) = true) (hC : CallOk P call) (ht : n < ops.size → tailB ops n = true)
    (hQ : ∀ φ a w, (∀ b, b < H0.length → φ[b]? = φ0[b]?) → VRs φ (frD ops n recs fr0 allD) a.tmps.toList → a.defers = [] → Rel w0 φ (HD ops n recs H0 allD) w → wpList P ops Q (ops.toList.drop n) a w) :
    ∀ (f : Nat) (d : Array Bool) (a : Act) (w : World), cnt d n = f → Inv ops n fr0 H0 recs w0 φ0 d a w → wpAny P .any ops Q (f + (ops.size - n)) d a w := by
  intro f
  induction f with
  | zero =>
    intro d a w hc inv
    have hall := cnt_zero hc
    have hD : ∀ {α : Type} (us : List (Option (Nat × α))) (l : List α), us.length ≤ n → foldD (Dof d) 0 us l = foldD allD 0 us l := by
      intro α us l hl
      apply List.ext_getElem?
      intro b
      refine foldD_get us 0 _ _ (fun j u hu _ => ?_) rfl rfl
      rw [Nat.zero_add]
      exact hall j (Nat.lt_of_lt_of_le (lt_of_some hu) hl)
    obtain ⟨hinv, hdef, φ, hφ, hrel, hfr, _, _⟩ := inv
    have e1 : frD ops n recs fr0 (Dof d) = frD ops n recs fr0 allD := hD _ _ (by simp [updZ, g.len]; omega)
    have e2 : HD ops n recs H0 (Dof d) = HD ops n recs H0 allD := hD _ _ (by simp [g.len])
    rw [e1] at hfr
    rw [e2] at hrel
    have hfin := hQ φ a w hφ hfr hdef hrel
    rw [Nat.zero_add]
    by_cases hlt : n < ops.size
    · have htb := ht hlt
      simp only [tailB, Bool.and_eq_true] at htb
      have hseq := htb.2
      rw [← doneArr_eq hinv g.le hall] at hseq
      have hl : (ops.toList.drop n).length = ops.size - n := by simp
      have := wpAny_of_seq (md := .any) (Q' := Q) (ops.toList.drop n) n d a w (fun j => by simp [List.getElem?_drop]) (by rw [hl]; exact hseq) hfin
      rwa [hl] at this
    · have hn : ops.size - n = 0 := by omega
      rw [hn]
      refine ⟨?_, ?_⟩
      · apply List.eq_nil_iff_forall_not_mem.2
        intro j hj
        obtain ⟨h1, o, h2, _⟩ := mem_ready.1 hj
        have hj' := (Array.getElem?_eq_some_iff.1 h2).1
        have := hall j (by have := g.le; omega)
        rw [getD_both h1] at this
        cases this
      · have : ops.toList.drop n = [] := List.drop_eq_nil_of_le (by simp; omega)
        rw [this] at hfin
        exact hfin
  | succ f ih =>
    intro d a w hc inv
    obtain ⟨k, hkn, hkf, hkb⟩ := cnt_pos (d := d) (n := n) (by omega)
    obtain ⟨ok, hok, _⟩ := g.op hkn
    have hsz := inv.head.size
    have hks : k < d.size := by rw [hsz]; exact Nat.lt_of_lt_of_le hkn g.le
    have hkr : k ∈ Region.ready .any ops d := mem_ready.2 ⟨getD_in hks hkf, ok, hok, fun e he hb => hkb e.on (fwdB_ok g.fwd hok e he hb)⟩
    rw [show f + 1 + (ops.size - n) = (f + (ops.size - n)) + 1 by omega]
    refine ⟨fun h0 => (by rw [h0] at hkr; cases hkr), fun i hi => ?_⟩
    have hin : i < n := by
      by_cases hlt : n < ops.size
      · have htb := ht hlt
        simp only [tailB, Bool.and_eq_true] at htb
        exact Nat.lt_of_not_le fun hj' => tail_waits htb.1.1 htb.1.2 hlt inv.head _ k rfl hkn (getD_in hks hkf) i hj' hi
      · obtain ⟨_, o, h2, _⟩ := mem_ready.1 hi
        have := (Array.getElem?_eq_some_iff.1 h2).1
        omega
    have his : i < d.size := by rw [hsz]; exact Nat.lt_of_lt_of_le hin g.le
    refine g.next hP hC inv hi hin fun a' w' inv' => ih _ a' w' ?_ inv'
    have := cnt_set his (getD_both (mem_ready.1 hi).1) hin
    omega
end

def lows : List Rec → Nat → Nat
  | [], lo => lo
  | r :: rs, lo => lows rs (match r.ch with | some c => min lo c.1 | none => lo)
noncomputable def evGen (P : Program) (call : CallF) (ops : Array Oper) (n : Nat) (fr : List AV) (H : AH) (lo : Nat) : Option (List AV × AH × Nat) :=
  if fwdB ops && decide (n ≤ ops.size) && nodupD (ops.toList.take n) && (decide (n = ops.size) || tailB ops n) then
    match genLex P call ops (ops.toList.take n) (bsOf ops) (allocs 0 (ops.toList.take n)) H.length 0 (ops.toList.take n) fr (H ++ List.replicate (allocs 0 (ops.toList.take n)).length .dead) [] with
    | none => none
    | some recs =>
      if genChk ops (ops.toList.take n) (bsOf ops) (allocs 0 (ops.toList.take n)) H.length recs 0 (ops.toList.take n) recs fr (H ++ List.replicate (allocs 0 (ops.toList.take n)).length .dead) then
        evOps P call ops (ops.toList.drop n) (frD ops n recs fr allD) (HD ops n recs H allD) (lows recs lo)
      else none
  else none
section
variable {P : Program} {call : CallF} {ops : Array Oper} {n : Nat}
theorem Gen.mk' {fr0 : List AV} {H0 : AH} {recs : List Rec} (h1 : fwdB ops = true) (h2 : n ≤ ops.size) (h3 : nodupD (ops.toList.take n) = true)
    (hl : genLex P call ops (ops.toList.take n) (bsOf ops) (allocs 0 (ops.toList.take n)) H0.length 0 (ops.toList.take n) fr0 (H0 ++ List.replicate (allocs 0 (ops.toList.take n)).length .dead) [] = some recs)
    (hk : genChk ops (ops.toList.take n) (bsOf ops) (allocs 0 (ops.toList.take n)) H0.length recs 0 (ops.toList.take n) recs fr0 (H0 ++ List.replicate (allocs 0 (ops.toList.take n)).length .dead) = true) : Gen P call ops n fr0 H0 recs := by
  obtain ⟨rs, e1, e2, e3⟩ := genLex_ok _ _ _ _ _ _ hl
  rw [List.nil_append] at e1
  subst e1
  refine ⟨h1, h2, h3, ?_, ?_, ?_⟩
  · rw [e2]; simp; omega
  · intro j o hj
    obtain ⟨r, h4, h5⟩ := e3 j o hj
    rw [Nat.zero_add, List.nil_append] at h5
    exact ⟨r, h4, h5⟩
  · intro j o rc hj hr
    have := genChk_ok _ _ _ _ _ hk j o rc hj hr
    simpa only [Nat.zero_add] using this
theorem evGen_split {fr : List AV} {H : AH} {lo : Nat} {r : List AV × AH × Nat} (h : evGen P call ops n fr H lo = some r) : ∃ recs, Gen P call ops n fr H recs ∧ (n < ops.size → tailB ops n = true) ∧
    evOps P call ops (ops.toList.drop n) (frD ops n recs fr allD) (HD ops n recs H allD) (lows recs lo) = some r := by
  unfold evGen at h
  split at h
  · rename_i hg
    simp only [Bool.and_eq_true, Bool.or_eq_true, decide_eq_true_eq] at hg
    split at h
    · cases h
    · rename_i recs hl
      split at h
      · rename_i hk
        exact ⟨recs, Gen.mk' hg.1.1.1 hg.1.1.2 hg.1.2 hl hk, fun hlt => hg.2.resolve_left (by omega), h⟩
      · cases h
  · cases h
theorem lows_le : ∀ (recs : List Rec) (lo : Nat), lows recs lo ≤ lo ∧ ∀ (r : Rec) (c : Nat × ABlk), r ∈ recs → r.ch = some c → lows recs lo ≤ c.1
  | [], lo => ⟨Nat.le_refl _, fun r c h => by simp at h⟩
  | x :: recs, lo => by
    obtain ⟨h1, h2⟩ := lows_le recs (match x.ch with | some c => min lo c.1 | none => lo)
    refine ⟨?_, fun r c hr hc => ?_⟩
    · rw [lows]
      refine Nat.le_trans h1 ?_
      split <;> omega
    · rcases List.mem_cons.1 hr with rfl | hr
      · rw [lows]
        refine Nat.le_trans h1 ?_
        rw [hc]
        exact Nat.min_le_right _ _
      · exact h2 r c hr hc
theorem evGen_keeps (hC : CallOk P call) {fr : List AV} {H : AH} {lo : Nat} {fr' : List AV} {H' : AH} {lo' : Nat} (h : evGen P call ops n fr H lo = some (fr', H', lo')) : lo' ≤ lo ∧ Keeps lo' H H' := by
  obtain ⟨recs, g, _, h1⟩ := evGen_split h
  obtain ⟨h2, h3⟩ := evOps_keeps hC _ h1
  have h4 := lows_le recs lo
  refine ⟨Nat.le_trans h2 h4.1, Keeps.trans (b := HD ops n recs H allD) ⟨?_, fun j hj hjl => ?_⟩ h3⟩
  · rw [HD, foldD_length]; simp
  · have e1 : (HD ops n recs H allD)[j]? = (foldD (fun _ => false) 0 (recs.map (·.ch)) (H ++ List.replicate (allocs 0 (ops.toList.take n)).length .dead))[j]? := by
      refine foldD_get _ 0 _ _ (fun k u hu hub => ?_) rfl rfl
      rw [List.getElem?_map] at hu
      cases hrk : recs[k]? with
      | none => rw [hrk] at hu; cases hu
      | some r =>
        rw [hrk] at hu
        have := h4.2 r u (List.mem_of_getElem? hrk) (by simpa using hu)
        omega
    have e2 : ∀ (us : List (Option (Nat × ABlk))) (k : Nat) (l : AH), foldD (fun _ => false) k us l = l := by
      intro us
      induction us with
      | nil => intro _ _; rfl
      | cons u us ih => intro k l; cases u <;> exact ih _ _
    rw [e1, e2, List.getElem?_append_left hjl]
theorem evGen_ok (hP : P.funcs.all (fun fn => !(fn.name == "runtime.NumGoroutine")) = true) (hm : P.follows .mixedOrders = true) (hC : CallOk P call) {id : Nat} {Q : Exit → Act → World → Prop} {fr fr' : List AV} {H H' : AH} {lo lo' : Nat} {w0 : Base} {φ : List Loc} {a : Act} {w : World}
    (h : evGen P call ops n fr H lo = some (fr', H', lo')) (ha : VRs φ fr a.tmps.toList) (hd : a.defers = []) (hr : Rel w0 φ H w)
    (hQ : ∀ φ' a' w', Ext φ φ' → VRs φ' fr' a'.tmps.toList → a'.defers = [] → Rel w0 φ' H' w' → Q .normal a' w') : (Code.region id ops true).wp P Q a w := by
  obtain ⟨recs, g, ht, h1⟩ := evGen_split h
  refine wp_region_any hm ?_
  have hcnt : cnt (Array.replicate ops.size false) n + (ops.size - n) = ops.size := by
    have : ∀ m, m ≤ n → cnt (Array.replicate ops.size false) m = m := by
      intro m
      induction m with
      | zero => intro _; rfl
      | succ m ih => intro hm; rw [cnt, ih (by omega), getD_replicate_false]; simp
    rw [this n (Nat.le_refl _)]
    have := g.le
    omega
  have hext : ∀ {φ' : List Loc}, (∀ b, b < H.length → φ'[b]? = φ[b]?) → Ext φ φ' := fun {φ'} hb => by
    refine ⟨φ'.drop φ.length, ?_⟩
    apply List.ext_getElem?
    intro b
    by_cases hlt : b < φ.length
    · rw [List.getElem?_append_left hlt]; exact hb b (by rw [← hr.len]; exact hlt)
    · rw [List.getElem?_append_right (by omega), List.getElem?_drop]
      congr 1; omega
  have e3 : ∀ {α : Type} (us : List (Option (Nat × α))) (k : Nat) (l : List α), foldD (Dof (Array.replicate ops.size false)) k us l = l := by
    intro α us
    induction us with
    | nil => intro _ _; rfl
    | cons u us ih =>
      intro k l
      cases u with
      | none => exact ih _ _
      | some u =>
        rw [foldD, show Dof (Array.replicate ops.size false) k = false from getD_replicate_false _ _]
        exact ih _ _
  have hrel : Rel w0 (φ ++ List.replicate (allocs 0 (ops.toList.take n)).length ⟨0, 0, 0⟩) (H ++ List.replicate (allocs 0 (ops.toList.take n)).length .dead) { w with drawn := w.drawn + 1 } := by
    have key : ∀ m, Rel w0 (φ ++ List.replicate m ⟨0, 0, 0⟩) (H ++ List.replicate m .dead) { w with drawn := w.drawn + 1 } := by
      intro m
      have hr' := hr.drew
      have sp : ∀ (b : Nat) (k : ABlk) (l : Loc), (H ++ List.replicate m ABlk.dead)[b]? = some k → (φ ++ List.replicate m (⟨0, 0, 0⟩ : Loc))[b]? = some l → k = .dead ∨ (H[b]? = some k ∧ φ[b]? = some l) := fun b k l hb hl => by
        by_cases hlt : b < H.length
        · right
          rw [List.getElem?_append_left hlt] at hb
          rw [List.getElem?_append_left (by rw [hr.len]; exact hlt)] at hl
          exact ⟨hb, hl⟩
        · left
          rw [List.getElem?_append_right (by omega)] at hb
          have := List.eq_of_mem_replicate (List.mem_of_getElem? hb)
          exact this
      refine ⟨by simp [hr.len], hr'.below, fun b k l hb hl => ?_, fun b b' k k' l l' hb hb' hl hl' o o' he => ?_⟩
      · rcases sp b k l hb hl with rfl | ⟨h1, h2⟩
        · trivial
        · exact (hr'.blocks b k l h1 h2).mono ⟨_, rfl⟩
      · rcases sp b k l hb hl with rfl | ⟨h1, h2⟩
        · simp [ABlk.own] at o
        · rcases sp b' k' l' hb' hl' with rfl | ⟨h3, h4⟩
          · simp [ABlk.own] at o'
          · exact hr'.inj b b' k k' l l' h1 h3 h2 h4 o o' he
    exact key _
  have hlen : φ.length = H.length := hr.len
  have inv0 : Inv ops n fr H recs w0 φ (Array.replicate ops.size false) a { w with drawn := w.drawn + 1 } := by
    refine ⟨⟨by simp, fun j oj _ hl => (by rw [getD_replicate_false] at hl; cases hl), fun t _ ht => getD_in (by simpa using ht) (getD_replicate_false _ _)⟩, hd, φ ++ List.replicate (allocs 0 (ops.toList.take n)).length ⟨0, 0, 0⟩, fun b hb => List.getElem?_append_left (by omega), ?_, ?_, ?_, ?_⟩
    · rw [HD, e3]; exact hrel
    · rw [frD, e3]; exact ha.mono ⟨_, rfl⟩
    · rw [frD, e3]; exact AV.Ons.mono (fun b hb => .inl (by omega)) ha.on
    · intro b k hb
      rw [HD, e3] at hb
      by_cases hlt : b < H.length
      · rw [List.getElem?_append_left hlt] at hb
        have : b < φ.length := by omega
        exact (hr.blocks b k _ hb (List.getElem?_eq_getElem this)).on.mono fun b hb => .inl (by omega)
      · rw [List.getElem?_append_right (by omega)] at hb
        have := List.eq_of_mem_replicate (List.mem_of_getElem? hb)
        subst this
        trivial
  have key := g.run (Q := Q) hP hC ht (fun φ1 a1 w1 hφ1 ha1 hd1 hr1 => evOps_ok hP hC _ h1 ha1 hd1 hr1 fun φ' a' w' hx => hQ φ' a' w' ((hext hφ1).trans hx)) _ _ a _ rfl inv0
  rw [hcnt] at key
  exact key
end
end Go.Ve

namespace Go.Ve
open Go Go.RowKit

/-- The least number of operations behind which the others follow one another. -/
def tailAt (ops : Array Oper) : Option Nat := (List.range ops.size).find? fun k => Region.lexTailB .any ops k
/-- Operations that leave something behind. -/
def effOp : Op → Bool
  | .alloc _ | .box .. | .buildSlice .. | .makeSlice .. | .store .. | .mapUpdate .. | .insert .. | .makeMap .. => true
  | _ => false
def stillB (ops : Array Oper) : Bool := Region.lexB .any ops && !(ops.toList.any fun o => effOp o.op)
def tailQ (ops : Array Oper) : Option Nat :=
  match tailAt ops with
  | some k => if (ops.toList.take k).any fun o => effOp o.op then none else some k
  | none => none
/-- A region that draws its order: all of it changes nothing, or its last operations follow one another, or its operations do not meet. -/
noncomputable def evDraw0 (P : Program) (call : CallF) (ops : Array Oper) (fr : List AV) (H : AH) (lo : Nat) : Option (List AV × AH × Nat) :=
  match (if stillB ops then evQuiet P call ops ops.toList fr H else none) with
  | some fr' => some (fr', H, lo)
  | none =>
    match tailQ ops with
    | none => if stillB ops then none else evGen P call ops (genAt ops) fr H lo
    | some k =>
      match evQuiet P call ops (ops.toList.take k) fr H with
      | none => none
      | some fr1 => evOps P call ops (ops.toList.drop k) fr1 H lo

/-- Does it call for a slice? -/
def newB (P : Program) (ops : Array Oper) : Bool := ops.toList.any fun o =>
  match o.op with
  | .call c => (match c.callee, P.underlying o.type with | .value _, some (.slice _) => true | _, _ => false)
  | _ => false
noncomputable def evDraw (P : Program) (call : CallF) (ops : Array Oper) (fr : List AV) (H : AH) (lo : Nat) : Option (List AV × AH × Nat) :=
  if newB P ops = true then evGen P call ops (genAt ops) fr H lo else evDraw0 P call ops fr H lo

structure Env where
  P : Program
  orc : CallF

def aresult (P : Program) (fr : List AV) (H : AH) : ResultVar → Option AV
  | .tmp t => some (fr.getD t (.tuple []))
  | .cell a t => aload P t H (fr.getD a (.tuple []))
def aresults (P : Program) (fr : List AV) (H : AH) : List ResultVar → Option (List AV)
  | [] => some []
  | r :: rs =>
    match aresult P fr H r, aresults P fr H rs with
    | some v, some vs => some (v :: vs)
    | _, _ => none
def oneOf : List AV → AV
  | [v] => v
  | vs => .tuple vs

noncomputable def evCall (E : Env) (rec : Code → List AV → AH → Nat → Option (AEx × List AV × AH × Nat)) : CallF := fun f args H =>
  match E.orc f args H with
  | some r => some r
  | none =>
    match E.P.funcs[f]? with
    | none => none
    | some fn =>
      match fn.body with
      | none => none
      | some c =>
        match rec c (args ++ List.replicate (fn.ntmps - args.length) (.tuple [])) H H.length with
        | some (.exit _, _, _, _) => none
        | some (_, fr, H', lo) =>
          match aresults E.P fr H' fn.results.toList with
          | some vs => if lo = H.length ∧ (oneOf vs).flat = true then some (oneOf vs, none) else some (oneOf vs, some (H', lo))
          | none => none
        | none => none

noncomputable def ev (E : Env) : Nat → Code → List AV → AH → Nat → Option (AEx × List AV × AH × Nat)
  | 0, _, _, _, _ => none
  | n + 1, c, fr, H, lo =>
    match c with
    | .skip => some (.normal, fr, H, lo)
    | .label _ => some (.normal, fr, H, lo)
    | .region _ ops false =>
      match evOps E.P (evCall E (ev E n)) ops ops.toList fr H lo with
      | some (fr', H', lo') => some (.normal, fr', H', lo')
      | none => none
    | .region _ ops true =>
      match evDraw E.P (evCall E (ev E n)) ops fr H lo with
      | some (fr', H', lo') => some (.normal, fr', H', lo')
      | none => none
    | .seq a b =>
      match ev E n a fr H lo with
      | some (.normal, fr', H', lo') => ev E n b fr' H' lo'
      | r => r
    | .cond c x y =>
      match aeval fr c with
      | .bool true => ev E n x fr H lo
      | .bool false => ev E n y fr H lo
      | _ => none
    | .block id b =>
      match ev E n b fr H lo with
      | some (.exit i, fr', H', lo') => if i = id then some (.normal, fr', H', lo') else some (.exit i, fr', H', lo')
      | r => r
    | .loop b =>
      match ev E n b fr H lo with
      | some (.normal, fr', H', lo') => ev E n (.loop b) fr' H' lo'
      | r => r
    | .exit id => some (.exit id, fr, H, lo)
    | .scope b => ev E n b fr H lo
    | .ret => some (.ret, fr, H, lo)
    | _ => none
end Go.Ve

namespace Go.Ve
open Go Go.RowKit

/-! ### Counting -/
def cntB (p : Nat → Bool) : Nat → Nat
  | 0 => 0
  | n + 1 => cntB p n + if p n = true then 1 else 0
theorem cntB_le {p q : Nat → Bool} : ∀ {n : Nat}, (∀ k, k < n → p k = true → q k = true) → cntB p n ≤ cntB q n
  | 0, _ => Nat.le_refl _
  | n + 1, h => by
    have ih := cntB_le (p := p) (q := q) (n := n) fun k hk => h k (by omega)
    have h1 := h n (by omega)
    rw [cntB, cntB]
    by_cases hp : p n = true
    · rw [if_pos hp, if_pos (h1 hp)]; omega
    · rw [if_neg hp]; omega
theorem cntB_congr {p q : Nat → Bool} : ∀ {n : Nat}, (∀ k, k < n → p k = q k) → cntB p n = cntB q n
  | 0, _ => rfl
  | n + 1, h => by rw [cntB, cntB, cntB_congr fun k hk => h k (by omega), h n (by omega)]
theorem cntB_ins {p q : Nat → Bool} {i : Nat} : ∀ {n : Nat}, i < n → (∀ k, k < n → k ≠ i → q k = p k) → p i = false → q i = true → cntB q n = cntB p n + 1
  | 0, h, _, _, _ => by omega
  | n + 1, h, h1, h2, h3 => by
    rw [cntB, cntB]
    by_cases hin : i = n
    · subst hin
      rw [cntB_congr (p := q) (q := p) fun k hk => h1 k (by omega) (by omega), h2, h3]
      simp
    · rw [cntB_ins (p := p) (q := q) (i := i) (n := n) (by omega) (fun k hk => h1 k (by omega)) h2 h3, h1 n (by omega) (by omega)]
      omega
theorem cntB_zero : ∀ n : Nat, cntB (fun _ => false) n = 0
  | 0 => rfl
  | n + 1 => by rw [cntB, cntB_zero n]; rfl

/-! ### Values, compared -/
def leafEqC : AV → AV → Bool
  | .bool a, .bool b => a == b
  | .int k a, .int k' b => decide (k = k') && decide (a = b)
  | .float k a, .float k' b => decide (k = k') && decide (a = b)
  | .str a, .str b => decide (a = b)
  | .nilptr, .nilptr => true
  | .ptr a b, .ptr c d => decide (a = c) && decide (b = d)
  | .gptr a b, .gptr c d => decide (a = c) && decide (b = d)
  | .nilsl, .nilsl => true
  | .sl a b c d e, .sl a' b' c' d' e' => decide (a = a') && decide (b = b') && decide (c = c') && decide (d = d') && (e == e')
  | .sle a b c, .sle a' b' c' => decide (a = a') && decide (b = b') && decide (c = c')
  | .nilmap, .nilmap => true
  | .map a, .map b => decide (a = b)
  | .yld a, .yld b => decide (a = b)
  | .nilfn, .nilfn => true
  | .fn (.func f) [] [], .fn (.func g) [] [] => decide (f = g)
  | .niliface, .niliface => true
  | _, _ => false
theorem leafEqC_ok {a b : AV} (h : leafEqC a b = true) : a = b := by
  unfold leafEqC at h
  split at h <;> simp_all
def leafsEqC : List AV → List AV → Bool
  | [], [] => true
  | a :: as, b :: bs => leafEqC a b && leafsEqC as bs
  | _, _ => false
theorem leafsEqC_ok : ∀ {a b : List AV}, leafsEqC a b = true → a = b
  | [], [], _ => rfl
  | a :: as, b :: bs, h => by
    simp only [leafsEqC, Bool.and_eq_true] at h
    rw [leafEqC_ok h.1, leafsEqC_ok h.2]
  | [], _ :: _, h => by simp [leafsEqC] at h
  | _ :: _, [], h => by simp [leafsEqC] at h
def valEqC : AV → AV → Bool
  | .agg a, .agg b => leafsEqC a b
  | .tuple a, .tuple b => leafsEqC a b
  | a, b => leafEqC a b
theorem valEqC_ok {a b : AV} (h : valEqC a b = true) : a = b := by
  unfold valEqC at h
  split at h
  · rw [leafsEqC_ok h]
  · rw [leafsEqC_ok h]
  · exact leafEqC_ok h

/-! ### One operation -/
/-- A fence that lets everything in; r: the round that the frame is of. -/
def wideR (r : Option Nat) : Fence := { Fence.wide with round := r }
abbrev RndF := Nat → List AV → Code → Code → AH → Option (AV × Option (AH × Nat))
def RndOk (P : Program) (rnd : RndF) : Prop :=
  ∀ b fr as bd H v ch, rnd b fr as bd H = some (v, ch) →
    (∀ w0 φ w l (tm : Array Value) fn, Rel w0 φ H w → φ[b]? = some l → VRs φ fr tm.toList → RoundIn Fence.wide 0 P l.blk fn tm as bd w (CallPost w0 φ H v ch)) ∧
    (∀ H' lo, ch = some (H', lo) → Keeps lo H H')
abbrev StF := Oper → (Operand → AV) → AH → Option (AV × Option (AH × Nat))
noncomputable def opStep (P : Program) (call : CallF) (rnd : RndF) : StF := fun o ρ H =>
  match aop P o ρ H with
  | none => none
  | some (.val v ch) => some (v, ch)
  | some (.call f args) => call f args H
  | some (.round b fr as bd) => rnd b fr as bd H
def StOk (P : Program) (r : Option Nat) (st : StF) : Prop :=
  ∀ o ρ H v ch, st o ρ H = some (v, ch) →
    (∀ (w0 : Base) (φ : List Loc) (w : World) (a : Act) (K : Act → World → Prop) (Q : Exit → Act → World → Prop), Rel w0 φ H w → (∀ x, VR φ (ρ x) (a.eval x)) →
      (∀ u w' φ', Ext φ φ' → VR φ' v u → ChC w0 φ H φ' w' ch → K (a.put o.dst u) w') → o.wpIn (wideR r) 0 P a w K Q) ∧
    (∀ H' lo, ch = some (H', lo) → Keeps lo H H')
theorem aop_semAt {P : Program} {o : Oper} {ρa : Operand → AV} {H : AH} {r : AO} (h : aop P o ρa H = some r) (rd : Option Nat) (ρ : Operand → Value) : o.semAt rd ρ = execOp ρ o := by
  cases rd with
  | none => rfl
  | some l =>
    unfold Oper.semAt
    unfold aop at h
    cases ho : o.op <;> rw [ho] at h <;> first | rfl | (cases h; done)
theorem opStep_ok {P : Program} {r : Option Nat} {call : CallF} {rnd : RndF} (hP : P.funcs.all (fun fn => !(fn.name == "runtime.NumGoroutine")) = true) (hC : CallOk P call) (hR : RndOk P rnd) : StOk P r (opStep P call rnd) := by
  intro o ρ H v ch h
  unfold opStep at h
  split at h
  · cases h
  · rename_i v' ch' hop
    cases h
    refine ⟨fun w0 φ w a K Q hr hρ hK => ⟨fun _ _ => trivial, ?_⟩, fun H' lo hh => by subst hh; exact aop_keeps hop⟩
    rw [aop_semAt hop]
    obtain ⟨n, u, w', φ', h1, h2, h3, h4, h5⟩ := aop_ok (P := P) hP hr hop hρ
    rw [h1]
    have hch : ChC w0 φ H φ' w' ch := by
      cases ch with
      | none => obtain ⟨rfl, rfl⟩ := h5; exact ⟨rfl, hr⟩
      | some q => exact h5.1
    rcases h2 with rfl | ⟨rfl, rfl⟩
    · exact hK _ _ φ' h3 h4 hch
    · exact hK _ _ φ' h3 h4 hch
  · rename_i f args hop
    refine ⟨fun w0 φ w a K Q hr hρ hK => ⟨fun _ _ => trivial, ?_⟩, fun H' lo hh => (hC _ _ _ _ _ h).2 _ _ hh⟩
    rw [aop_semAt hop]
    obtain ⟨us, h1, h2⟩ := aop_ok (P := P) hP hr hop hρ
    rw [h1]
    rw [Oper.uponIn_enter]
    refine ⟨fun hd => by simp [wideR, Fence.wide] at hd, ?_⟩
    have := (callsIn_wide (n := 0)).2 ((hC _ _ _ _ _ h).1 w0 φ w us hr h2)
    refine CallsIn.mono (F := Fence.wide) this ?_
    rintro e w' ⟨u, φ', rfl, h3, h4, h5⟩
    exact hK u w' φ' h3 h4 h5
  · rename_i b fr as bd hop
    obtain ⟨hr1, hr2⟩ := hR _ _ _ _ _ _ _ h
    refine ⟨fun w0 φ w a K Q hr hρ hK => ⟨fun _ _ => trivial, ?_⟩, hr2⟩
    rw [aop_semAt hop]
    obtain ⟨l, tm, fn, h1, h2, h3⟩ := aop_ok (P := P) hP hr hop hρ
    rw [h2]
    rw [Oper.uponIn_round]
    refine ⟨fun hd => by simp [wideR, Fence.wide] at hd, ?_⟩
    refine RoundIn.mono (F := Fence.wide) (hr1 w0 φ w l tm fn hr h1 h3) ?_
    rintro e w' ⟨u, φ', rfl, h4, h5, h6⟩
    exact hK u w' φ' h4 h5 h6

/-! ### A list of operations -/
noncomputable def evOpsI (st : StF) (ops : Array Oper) : List Oper → List AV → AH → Nat → Option (List AV × AH × Nat)
  | [], fr, H, lo => some (fr, H, lo)
  | o :: r, fr, H, lo =>
    match awanted ops o fr with
    | none => none
    | some false => evOpsI st ops r (aput fr o.dst (.tuple [])) H lo
    | some true =>
      match st o (aeval fr) H with
      | none => none
      | some (v, none) => evOpsI st ops r (aput fr o.dst v) H lo
      | some (v, some (H', wr)) => evOpsI st ops r (aput fr o.dst v) H' (min lo wr)
theorem evOpsI_keeps {P : Program} {r0 : Option Nat} {st : StF} (hS : StOk P r0 st) {ops : Array Oper} : ∀ (l : List Oper) {fr fr' : List AV} {H H' : AH} {lo lo' : Nat}, evOpsI st ops l fr H lo = some (fr', H', lo') → lo' ≤ lo ∧ Keeps lo' H H' := by
  intro l
  induction l with
  | nil => intro fr fr' H H' lo lo' h; simp only [evOpsI] at h; cases h; exact ⟨Nat.le_refl _, Keeps.refl _ _⟩
  | cons o r ih =>
    intro fr fr' H H' lo lo' h
    simp only [evOpsI] at h
    split at h
    · cases h
    · exact ih h
    · split at h
      · cases h
      · exact ih h
      · rename_i v H1 wr hst
        obtain ⟨h1, h2⟩ := ih h
        exact ⟨by omega, (((hS _ _ _ _ _ hst).2 _ _ rfl).mono (by omega)).trans h2⟩
theorem evOpsI_ok {P : Program} {r0 : Option Nat} {st : StF} (hS : StOk P r0 st) {w0 : Base} {D : List Deferred} {ops : Array Oper} {Q : Exit → Act → World → Prop} : ∀ (l : List Oper) {fr fr' : List AV} {H H' : AH} {lo lo' : Nat} {φ : List Loc} {a : Act} {w : World},
    evOpsI st ops l fr H lo = some (fr', H', lo') → VRs φ fr a.tmps.toList → a.defers = D → Rel w0 φ H w →
    (∀ φ' a' w', Ext φ φ' → VRs φ' fr' a'.tmps.toList → a'.defers = D → Rel w0 φ' H' w' → Q .normal a' w') → wpListIn (wideR r0) 0 P ops Q l a w := by
  intro l
  induction l with
  | nil =>
    intro fr fr' H H' lo lo' φ a w h ha hd hr hQ
    simp only [evOpsI] at h
    cases h
    exact hQ φ a w (Ext.refl _) ha hd hr
  | cons o r ih =>
    intro fr fr' H H' lo lo' φ a w h ha hd hr hQ
    have hput : ∀ u, (a.put o.dst u).defers = D := fun u => by cases o.dst <;> exact hd
    simp only [evOpsI] at h
    simp only [wpListIn]
    split at h
    · cases h
    · rename_i hw
      rw [awanted_ok hw ha]
      simp only [Bool.false_eq_true, if_false]
      exact ⟨fun _ _ => trivial, ih h (aput_ok ha o.dst (.tuple .nil)) (hput _) hr hQ⟩
    · rename_i hw
      rw [awanted_ok hw ha]
      simp only [if_true]
      split at h
      · cases h
      · rename_i v hst
        refine (hS _ _ _ _ _ hst).1 w0 φ w a _ Q hr (aeval_ok ha) fun u w' φ' h3 h4 h5 => ?_
        obtain ⟨rfl, h6⟩ := h5
        exact ih h (aput_ok ha o.dst h4) (hput _) h6 hQ
      · rename_i v H1 wr hst
        refine (hS _ _ _ _ _ hst).1 w0 φ w a _ Q hr (aeval_ok ha) fun u w' φ' h3 h4 h5 => ?_
        exact ih h (aput_ok (ha.mono h3) o.dst h4) (hput _) h5 fun φ2 a2 w2 x => hQ φ2 a2 w2 (h3.trans x)

/-! ### The evaluation -/
noncomputable def cStepI (st : StF) (ops : Array Oper) (bs : List Nat) (i : Nat) (o : Oper) (fr : List AV) (H : AH) : Option (AV × Option (AH × Nat)) :=
  match gwant ops ops.toList bs i o fr with
  | none => none
  | some false => some (.tuple [], none)
  | some true =>
    st o (gρ ops.toList bs i fr) H
/-- In the text's order: the values; which operations change memory; the memories; the least block changed. -/
noncomputable def cLexI (st : StF) (ops : Array Oper) (bs : List Nat) : Nat → List Oper → List AV → AH → Nat → Option (List Rec × List Bool × List AH × Nat)
  | _, [], _, _, lo => some ([], [], [], lo)
  | i, o :: r, fr, H, lo =>
    match cStepI st ops bs i o fr H with
    | none => none
    | some (v, none) =>
      match cLexI st ops bs (i + 1) r (aput fr o.dst v) H lo with
      | some (rs, es, Hs, lo') => some (⟨v, none⟩ :: rs, false :: es, Hs, lo')
      | none => none
    | some (v, some (H', wr)) =>
      match cLexI st ops bs (i + 1) r (aput fr o.dst v) H' (min lo wr) with
      | some (rs, es, Hs, lo') => some (⟨v, none⟩ :: rs, true :: es, H' :: Hs, lo')
      | none => none
def cntT (es : List Bool) (j : Nat) : Nat := cntB (fun k => es.getD k false) j
theorem cntT_cons (e : Bool) (es : List Bool) (j : Nat) : cntT (e :: es) (j + 1) = (if e = true then 1 else 0) + cntT es j := by
  unfold cntT
  induction j with
  | zero => simp [cntB]
  | succ j ih =>
    rw [cntB, ih, cntB]
    simp only [List.getD_cons_succ]
    omega
theorem cLexI_ok {st : StF} {ops : Array Oper} {bs : List Nat} : ∀ (rest : List Oper) (i : Nat) (fr : List AV) (H : AH) (lo : Nat) (rs : List Rec) (es : List Bool) (Hs : List AH) (lo' : Nat), cLexI st ops bs i rest fr H lo = some (rs, es, Hs, lo') →
    rs.length = rest.length ∧ es.length = rest.length ∧ Hs.length = cntT es rest.length ∧ ∀ (j : Nat) (o : Oper), rest[j]? = some o → ∃ r, rs[j]? = some r ∧ ∃ Hj, (H :: Hs)[cntT es j]? = some Hj ∧
      (es.getD j false = false → cStepI st ops bs (i + j) o (foldD allD 0 ((updZ rest rs).take j) fr) Hj = some (r.v, none)) ∧
      (es.getD j false = true → ∃ H' wr, (H :: Hs)[cntT es j + 1]? = some H' ∧ cStepI st ops bs (i + j) o (foldD allD 0 ((updZ rest rs).take j) fr) Hj = some (r.v, some (H', wr)))
  | [], i, fr, H, lo, rs, es, Hs, lo', h => by
    simp only [cLexI] at h
    cases h
    exact ⟨rfl, rfl, rfl, fun j o h => by simp at h⟩
  | o :: rest, i, fr, H, lo, rs, es, Hs, lo', h => by
    have e1 : ∀ (v : AV) (rs : List Rec) (j : Nat), foldD allD 0 ((updZ (o :: rest) (⟨v, none⟩ :: rs)).take (j + 1)) fr = foldD allD 0 ((updZ rest rs).take j) (aput fr o.dst v) := by
      intro v rs j
      simp only [updZ, List.zip_cons_cons, List.map_cons, List.take_succ_cons]
      cases hd : o.dst with
      | none => rw [Option.map_none, foldD, foldD_shift]; rfl
      | some s => rw [Option.map_some, foldD, foldD_shift]; rfl
    simp only [cLexI] at h
    split at h
    · cases h
    · rename_i v hst
      split at h
      · rename_i rs1 es1 Hs1 lo1 hl
        cases h
        obtain ⟨h1, h2, h3, h4⟩ := cLexI_ok rest _ _ _ _ _ _ _ _ hl
        refine ⟨by simp [h1], by simp [h2], ?_, fun j o' hj => ?_⟩
        · rw [List.length_cons, cntT_cons]; simpa using h3
        · cases j with
          | zero =>
            simp at hj
            subst hj
            exact ⟨⟨v, none⟩, rfl, H, rfl, fun _ => by simpa [foldD] using hst, fun h => by simp at h⟩
          | succ j =>
            obtain ⟨r, g1, Hj, g2, g3, g4⟩ := h4 j o' (by simpa using hj)
            have ec : cntT (false :: es1) (j + 1) = cntT es1 j := by rw [cntT_cons]; simp
            refine ⟨r, by simpa using g1, Hj, by rw [ec]; exact g2, ?_, ?_⟩
            · rw [e1, show i + (j + 1) = i + 1 + j by omega, List.getD_cons_succ]; exact g3
            · rw [e1, show i + (j + 1) = i + 1 + j by omega, List.getD_cons_succ, ec]; exact g4
      · cases h
    · rename_i v H' wr hst
      split at h
      · rename_i rs1 es1 Hs1 lo1 hl
        cases h
        obtain ⟨h1, h2, h3, h4⟩ := cLexI_ok rest _ _ _ _ _ _ _ _ hl
        refine ⟨by simp [h1], by simp [h2], ?_, fun j o' hj => ?_⟩
        · rw [List.length_cons, List.length_cons, cntT_cons]; simp [h3]; omega
        · cases j with
          | zero =>
            simp at hj
            subst hj
            exact ⟨⟨v, none⟩, rfl, H, rfl, fun h => by simp at h, fun _ => ⟨H', wr, rfl, by simpa [foldD] using hst⟩⟩
          | succ j =>
            obtain ⟨r, g1, Hj, g2, g3, g4⟩ := h4 j o' (by simpa using hj)
            have ec : cntT (true :: es1) (j + 1) = cntT es1 j + 1 := by rw [cntT_cons]; simp; omega
            refine ⟨r, by simpa using g1, Hj, by rw [ec]; simpa using g2, ?_, ?_⟩
            · rw [e1, show i + (j + 1) = i + 1 + j by omega, List.getD_cons_succ]; exact g3
            · rw [e1, show i + (j + 1) = i + 1 + j by omega, List.getD_cons_succ, ec]
              intro he
              obtain ⟨H2, wr2, g5, g6⟩ := g4 he
              exact ⟨H2, wr2, by simpa using g5, g6⟩
      · cases h
theorem cLexI_keeps {P : Program} {r0 : Option Nat} {st : StF} (hS : StOk P r0 st) {ops : Array Oper} {bs : List Nat} : ∀ (rest : List Oper) (i : Nat) (fr : List AV) (H : AH) (lo : Nat) (rs : List Rec) (es : List Bool) (Hs : List AH) (lo' : Nat), cLexI st ops bs i rest fr H lo = some (rs, es, Hs, lo') →
    lo' ≤ lo ∧ ∀ He, (H :: Hs)[Hs.length]? = some He → Keeps lo' H He
  | [], i, fr, H, lo, rs, es, Hs, lo', h => by
    simp only [cLexI] at h
    cases h
    exact ⟨Nat.le_refl _, fun He h => by simp at h; subst h; exact Keeps.refl _ _⟩
  | o :: rest, i, fr, H, lo, rs, es, Hs, lo', h => by
    simp only [cLexI] at h
    split at h
    · cases h
    · split at h
      · rename_i hl
        cases h
        exact cLexI_keeps hS rest _ _ _ _ _ _ _ _ hl
      · cases h
    · rename_i v H' wr hst
      have hk : Keeps wr H H' := by
        unfold cStepI at hst
        split at hst
        · cases hst
        · cases hst
        · exact (hS _ _ _ _ _ hst).2 _ _ rfl
      split at h
      · rename_i rs1 es1 Hs1 lo1 hl
        cases h
        obtain ⟨h1, h2⟩ := cLexI_keeps hS rest _ _ _ _ _ _ _ _ hl
        refine ⟨by omega, fun He hHe => ?_⟩
        rw [List.length_cons, List.getElem?_cons_succ] at hHe
        exact (hk.mono (by omega)).trans (h2 He hHe)
      · cases h

def lowC (bs : List Nat) (es : List Bool) (n i : Nat) : Nat := cntB (fun k => es.getD k false && decide (k < i) && !unord bs i k) n
def hiC (bs : List Nat) (es : List Bool) (n i : Nat) : Nat := cntB (fun k => es.getD k false && (decide (k < i) || unord bs i k)) n
def calm (bs : List Nat) (es : List Bool) (i : Nat) : Nat → Bool
  | 0 => true
  | n + 1 => !(es.getD n false && unord bs i n) && calm bs es i n
theorem calm_ok {bs : List Nat} {es : List Bool} {i : Nat} : ∀ {n : Nat}, calm bs es i n = true → ∀ k, k < n → es.getD k false = true → unord bs i k = false
  | 0, _, k, hk, _ => by omega
  | n + 1, h, k, hk, he => by
    simp only [calm, Bool.and_eq_true] at h
    by_cases hkn : k = n
    · subst hkn
      have := h.1
      rw [he] at this
      simpa using this
    · exact calm_ok h.2 k (by omega) he
/-- What reads no memory. -/
def freeOp : Op → Bool
  | .alloc _ => false
  | op => pureOp op
theorem freeOp_pure {op : Op} (h : freeOp op = true) : pureOp op = true ∧ ∀ e, op ≠ .alloc e := by
  cases op <;> first | exact ⟨h, fun e he => by cases he⟩ | (simp [freeOp] at h; done)
def StFree (st : StF) : Prop := ∀ (o : Oper) (ρ : Operand → AV) (H H2 : AH) (v : AV), freeOp o.op = true → st o ρ H = some (v, none) → st o ρ H2 = some (v, none)
theorem opStep_free {P : Program} {call : CallF} {rnd : RndF} : StFree (opStep P call rnd) := by
  intro o ρ H H2 v hf h
  obtain ⟨hp, ha⟩ := freeOp_pure hf
  have hval : ∀ r, aop P o ρ H = some r → ∃ v ch, r = .val v ch := by
    intro r hc
    unfold aop at hc
    cases ho : o.op <;> rw [ho] at hc hp <;> first | (simp [pureOp] at hp; done) | skip
    all_goals (simp only at hc)
    all_goals first | (cases hc; exact ⟨_, _, rfl⟩) | ((repeat' split at hc) <;> first | (cases hc; done) | (cases hc; exact ⟨_, _, rfl⟩) | (simp only [Option.map_eq_some_iff] at hc; obtain ⟨_, _, rfl⟩ := hc; exact ⟨_, _, rfl⟩))
  unfold opStep at h ⊢
  split at h
  · cases h
  · rename_i v' ch hop
    cases h
    rw [aop_pure hp ha hop]
  · rename_i f args hop
    obtain ⟨_, _, e⟩ := hval _ hop
    cases e
  · rename_i b fr as bd hop
    obtain ⟨_, _, e⟩ := hval _ hop
    cases e
theorem cStepI_free {st : StF} (hF : StFree st) {ops : Array Oper} {bs : List Nat} {i : Nat} {o : Oper} {fr : List AV} {H H2 : AH} {v : AV} (hf : freeOp o.op = true) (h : cStepI st ops bs i o fr H = some (v, none)) : cStepI st ops bs i o fr H2 = some (v, none) := by
  unfold cStepI at h ⊢
  split at h
  · cases h
  · exact h
  · exact hF _ _ _ _ _ hf h

noncomputable def cSameI (st : StF) (ops : Array Oper) (bs : List Nat) (i : Nat) (o : Oper) (fr : List AV) (v : AV) (Hs : List AH) (k : Nat) : Nat → Bool
  | 0 => true
  | m + 1 => (match Hs[k + m]? with
    | some Hk => (match cStepI st ops bs i o fr Hk with | some (v', none) => valEqC v' v | _ => false)
    | none => false) && cSameI st ops bs i o fr v Hs k m
theorem cSameI_ok {st : StF} {ops : Array Oper} {bs : List Nat} {i : Nat} {o : Oper} {fr : List AV} {v : AV} {Hs : List AH} {k : Nat} : ∀ {m : Nat}, cSameI st ops bs i o fr v Hs k m = true → ∀ j, j < m → ∃ Hk, Hs[k + j]? = some Hk ∧ cStepI st ops bs i o fr Hk = some (v, none)
  | 0, _, j, hj => by omega
  | m + 1, h, j, hj => by
    simp only [cSameI, Bool.and_eq_true] at h
    by_cases hjm : j = m
    · subst hjm
      have h1 := h.1
      split at h1
      · rename_i Hk hk
        split at h1
        · rename_i v' hst
          exact ⟨Hk, hk, by rw [hst, valEqC_ok h1]⟩
        · cases h1
      · cases h1
    · exact cSameI_ok h.2 j (by omega)
noncomputable def cChkI (st : StF) (ops : Array Oper) (bs : List Nat) (es : List Bool) (Hs : List AH) (n : Nat) : Nat → List Oper → List Rec → List AV → Bool
  | _, [], _, _ => true
  | _, _ :: _, [], _ => false
  | i, o :: r, rc :: rs, fr =>
    (if (calm bs es i n || (freeOp o.op && !(es.getD i false))) = true then true else !(es.getD i false) && cSameI st ops bs i o fr rc.v Hs (lowC bs es n i) (hiC bs es n i + 1 - lowC bs es n i)) &&
    cChkI st ops bs es Hs n (i + 1) r rs (aput fr o.dst rc.v)
theorem cChkI_ok {st : StF} {ops : Array Oper} {bs : List Nat} {es : List Bool} {Hs : List AH} {n : Nat} : ∀ (rest : List Oper) (i : Nat) (rs : List Rec) (fr : List AV), cChkI st ops bs es Hs n i rest rs fr = true →
    ∀ (j : Nat) (o : Oper) (rc : Rec), rest[j]? = some o → rs[j]? = some rc → (calm bs es (i + j) n = true ∨ (freeOp o.op = true ∧ es.getD (i + j) false = false)) ∨
      (es.getD (i + j) false = false ∧ ∀ k, lowC bs es n (i + j) ≤ k → k ≤ hiC bs es n (i + j) → ∃ Hk, Hs[k]? = some Hk ∧ cStepI st ops bs (i + j) o (foldD allD 0 ((updZ rest rs).take j) fr) Hk = some (rc.v, none))
  | [], _, _, _, _, j, o, rc, h, _ => by simp at h
  | _ :: _, _, [], _, _, j, o, rc, _, h => by simp at h
  | o :: rest, i, rc :: rs, fr, h, j, o', rc', hj, hr => by
    simp only [cChkI, Bool.and_eq_true] at h
    cases j with
    | zero =>
      simp at hj hr
      subst hj; subst hr
      have h1 := h.1
      split at h1
      · rename_i hc
        rw [Bool.or_eq_true, Bool.and_eq_true] at hc
        exact .inl (hc.imp id fun h => ⟨h.1, by simpa using h.2⟩)
      · rw [Bool.and_eq_true] at h1
        refine .inr ⟨by simpa using h1.1, fun k hk1 hk2 => ?_⟩
        simp only [Nat.add_zero] at hk1 hk2 ⊢
        obtain ⟨Hk, g1, g2⟩ := cSameI_ok h1.2 (k - lowC bs es n i) (by omega)
        rw [show lowC bs es n i + (k - lowC bs es n i) = k by omega] at g1
        exact ⟨Hk, g1, by simpa [foldD] using g2⟩
    | succ j =>
      have ih := cChkI_ok rest (i + 1) rs _ h.2 j o' rc' (by simpa using hj) (by simpa using hr)
      have e1 : foldD allD 0 ((updZ (o :: rest) (rc :: rs)).take (j + 1)) fr = foldD allD 0 ((updZ rest rs).take j) (aput fr o.dst rc.v) := by
        simp only [updZ, List.zip_cons_cons, List.map_cons, List.take_succ_cons]
        cases hd : o.dst with
        | none => rw [Option.map_none, foldD, foldD_shift]; rfl
        | some s => rw [Option.map_some, foldD, foldD_shift]; rfl
      rw [e1, show i + (j + 1) = i + 1 + j by omega]
      exact ih

/-! ### Whatever the order -/
structure Chn (st : StF) (ops : Array Oper) (fr0 : List AV) (recs : List Rec) (es : List Bool) (Hs : List AH) : Prop where
  fwd : fwdB ops = true
  nd : nodupD ops.toList = true
  len : recs.length = ops.size
  step : ∀ (j : Nat) (o : Oper), ops[j]? = some o → ∃ r, recs[j]? = some r ∧ ∀ k, lowC (bsOf ops) es ops.size j ≤ k → k ≤ hiC (bsOf ops) es ops.size j → ∃ Hk, Hs[k]? = some Hk ∧
    (es.getD j false = false → cStepI st ops (bsOf ops) j o (foldD allD 0 ((updZ ops.toList recs).take j) fr0) Hk = some (r.v, none)) ∧
    (es.getD j false = true → ∃ H' wr, Hs[k + 1]? = some H' ∧ cStepI st ops (bsOf ops) j o (foldD allD 0 ((updZ ops.toList recs).take j) fr0) Hk = some (r.v, some (H', wr)))
def frC (ops : Array Oper) (recs : List Rec) (fr0 : List AV) (D : Nat → Bool) : List AV := foldD D 0 (updZ ops.toList recs) fr0
def cntD (es : List Bool) (d : Array Bool) (n : Nat) : Nat := cntB (fun k => es.getD k false && Dof d k) n
structure CInv (ops : Array Oper) (D : List Deferred) (fr0 : List AV) (recs : List Rec) (es : List Bool) (Hs : List AH) (w0 : Base) (φ0 : List Loc) (d : Array Bool) (a : Act) (w : World) : Prop where
  head : HeadInv .any ops ops.size d
  defers : a.defers = D
  rest : ∃ φ Hc, Ext φ0 φ ∧ Hs[cntD es d ops.size]? = some Hc ∧ Rel w0 φ Hc w ∧ VRs φ (frC ops recs fr0 (Dof d)) a.tmps.toList

section
variable {P : Program} {r0 : Option Nat} {st : StF} {ops : Array Oper} {D : List Deferred} {fr0 : List AV} {recs : List Rec} {es : List Bool} {Hs : List AH} {w0 : Base} {φ0 : List Loc} {Q : Exit → Act → World → Prop}
theorem Chn.mis (g : Chn st ops fr0 recs es Hs) {d : Array Bool} (inv : HeadInv .any ops ops.size d) {i k : Nat} (hr : i ∈ Region.ready .any ops d) (hk : k < ops.size) (hne : Dof d k ≠ decide (k < i)) : i = k ∨ unord (bsOf ops) i k = true := by
  obtain ⟨hun, oi, hoi, hall⟩ := mem_ready.1 hr
  have hif : d.getD i false = false := getD_both hun
  have hok : ops[k]? = some ops[k] := Array.getElem?_eq_getElem hk
  by_cases hlt : k < i
  · right
    rw [decide_eq_true hlt] at hne
    have hkf : d.getD k false = false := by simpa [Dof] using hne
    refine unord_of (by omega) ?_ ?_
    · cases h : ((bsOf ops).getD i 0).testBit k with
      | false => rfl
      | true => rw [bs_closed g.fwd inv.closed i hoi hall h] at hkf; cases hkf
    · cases h : ((bsOf ops).getD k 0).testBit i with
      | false => rfl
      | true => have := bs_lt g.fwd k hok h; omega
  · rw [decide_eq_false hlt] at hne
    have hkt : d.getD k false = true := by simpa [Dof] using hne
    have hik : i ≠ k := fun e => by subst e; rw [hif] at hkt; cases hkt
    right
    refine unord_of hik ?_ ?_
    · cases h : ((bsOf ops).getD i 0).testBit k with
      | false => rfl
      | true => have := bs_lt g.fwd i hoi h; omega
    · cases h : ((bsOf ops).getD k 0).testBit i with
      | false => rfl
      | true => rw [bs_closed g.fwd inv.closed k hok (inv.closed k _ hok hkt) h] at hif; cases hif
theorem Chn.slot (g : Chn st ops fr0 recs es Hs) {d : Array Bool} (inv : HeadInv .any ops ops.size d) {i : Nat} (hr : i ∈ Region.ready .any ops d) {s : Tmp} (hs : hidB (bsOf ops) i s 0 ops.toList = false) :
    (frC ops recs fr0 (Dof d))[s]? = (foldD allD 0 ((updZ ops.toList recs).take i) fr0)[s]? := by
  rw [lt_lex, frC]
  refine foldD_get _ 0 _ _ (fun j u hu hub => ?_) rfl rfl
  rw [Nat.zero_add]
  obtain ⟨o, r, h1, h2, h3, _⟩ := updZ_inv hu
  have hjn : j < ops.size := by rw [← g.len]; exact lt_of_some h2
  refine Decidable.byContradiction fun hne => ?_
  rcases g.mis inv hr hjn hne with e | hu
  · subst e
    have : Dof d i = false := getD_both (mem_ready.1 hr).1
    rw [this] at hne
    simp at hne
  · exact hidB_ok hs j o h1 (by rwa [Nat.zero_add]) (by rw [h3, hub])
theorem Chn.frame (g : Chn st ops fr0 recs es Hs) {d : Array Bool} (inv : HeadInv .any ops ops.size d) {i : Nat} (hr : i ∈ Region.ready .any ops d) {o : Oper} {rc : Rec} (ho : ops.toList[i]? = some o) (hrc : recs[i]? = some rc) :
    frC ops recs fr0 (Dof (d.setIfInBounds i true)) = aput (frC ops recs fr0 (Dof d)) o.dst rc.v := by
  have hun := (mem_ready.1 hr).1
  have hi : i < ops.size := by have := lt_of_some ho; simpa using this
  have hu := updZ_get ho hrc
  cases hd : o.dst with
  | none =>
    rw [hd] at hu
    exact foldD_skip hu fun j hj => Dof_set hj
  | some s =>
    rw [hd] at hu
    refine foldD_insert (b := s) (x := rc.v) _ 0 i _ hu ?_ ?_ ?_ ?_
    · rw [Nat.zero_add]; exact Dof_self (by rw [inv.size]; exact hi)
    · rw [Nat.zero_add]; exact getD_both hun
    · intro j hj; exact Dof_set (by omega)
    · intro j u hj hu' _ he
      obtain ⟨o', r', h1, h2, h3, _⟩ := updZ_inv hu'
      exact nodupD_ok g.nd (show i ≠ j by omega) ho h1 hd (by rw [h3, he])
theorem Chn.low (g : Chn st ops fr0 recs es Hs) {d : Array Bool} (inv : HeadInv .any ops ops.size d) {i : Nat} (hr : i ∈ Region.ready .any ops d) : lowC (bsOf ops) es ops.size i ≤ cntD es d ops.size := by
  refine cntB_le fun k hk h => ?_
  simp only [Bool.and_eq_true, Bool.not_eq_true', decide_eq_true_eq] at h ⊢
  refine ⟨h.1.1, ?_⟩
  refine Decidable.byContradiction fun hne => ?_
  rcases g.mis inv hr hk (by rw [decide_eq_true h.1.2]; exact hne) with e | hu
  · omega
  · rw [h.2] at hu; cases hu
theorem Chn.hi (g : Chn st ops fr0 recs es Hs) {d : Array Bool} (inv : HeadInv .any ops ops.size d) {i : Nat} (hr : i ∈ Region.ready .any ops d) : cntD es d ops.size ≤ hiC (bsOf ops) es ops.size i := by
  refine cntB_le fun k hk h => ?_
  simp only [Bool.and_eq_true, Bool.or_eq_true, decide_eq_true_eq] at h ⊢
  refine ⟨h.1, ?_⟩
  by_cases hlt : k < i
  · exact .inl hlt
  · right
    rcases g.mis inv hr hk (by rw [decide_eq_false hlt, h.2]; simp) with e | hu
    · subst e
      have : Dof d i = false := getD_both (mem_ready.1 hr).1
      rw [this] at h
      simp at h
    · exact hu

theorem Chn.next (g : Chn st ops fr0 recs es Hs) (hS : StOk P r0 st) {d : Array Bool} {a : Act} {w : World} (inv : CInv ops D fr0 recs es Hs w0 φ0 d a w) {i : Nat} (hr : i ∈ Region.ready .any ops d) {K : Act → World → Prop}
    (hK : ∀ a' w', CInv ops D fr0 recs es Hs w0 φ0 (d.setIfInBounds i true) a' w' → K a' w') : wpOpIn (wideR r0) 0 P ops Q i K a w := by
  obtain ⟨hun, o, hoi, _⟩ := mem_ready.1 hr
  have hi : i < ops.size := (Array.getElem?_eq_some_iff.1 hoi).1
  have ho : ops.toList[i]? = some o := by simpa using hoi
  obtain ⟨rc, hrc, hst0⟩ := g.step i o hoi
  obtain ⟨hinv, hdef, φ, Hc, hφ, hHc, hrel, hfr⟩ := inv
  obtain ⟨Hk, hHk, hst1, hst2⟩ := hst0 _ (g.low hinv hr) (g.hi hinv hr)
  rw [hHc] at hHk
  cases hHk
  have hslot := fun {s : Tmp} (hs : hidB (bsOf ops) i s 0 ops.toList = false) => g.slot hinv hr hs
  have hframe := g.frame hinv hr ho hrc
  have hput : ∀ u, (a.put o.dst u).defers = D := fun u => by cases o.dst <;> exact hdef
  have hDi : Dof d i = false := getD_both hun
  have hDi' : Dof (d.setIfInBounds i true) i = true := Dof_self (by rw [hinv.size]; exact hi)
  have hst : ∃ ch, cStepI st ops (bsOf ops) i o (foldD allD 0 ((updZ ops.toList recs).take i) fr0) Hc = some (rc.v, ch) ∧ ∀ φ' w', ChC w0 φ Hc φ' w' ch → ∃ Hc', Hs[cntD es (d.setIfInBounds i true) ops.size]? = some Hc' ∧ Rel w0 φ' Hc' w' := by
    cases he : es.getD i false with
    | false =>
      refine ⟨none, hst1 he, fun φ' w' hch => ?_⟩
      obtain ⟨rfl, h2⟩ := hch
      have e : cntD es (d.setIfInBounds i true) ops.size = cntD es d ops.size := cntB_congr fun k _ => by
        by_cases hki : k = i
        · subst hki; rw [he]; rfl
        · rw [Dof_set hki]
      exact ⟨Hc, by rw [e]; exact hHc, h2⟩
    | true =>
      obtain ⟨H', wr, h1, h2⟩ := hst2 he
      refine ⟨some (H', wr), h2, fun φ' w' hch => ?_⟩
      have e : cntD es (d.setIfInBounds i true) ops.size = cntD es d ops.size + 1 := cntB_ins hi (fun k _ hki => by rw [Dof_set hki]) (by rw [hDi, Bool.and_false]) (by rw [hDi', he]; rfl)
      exact ⟨H', by rw [e]; exact h1, hch⟩
  obtain ⟨ch, hst, hnext⟩ := hst
  have fin : ∀ (u : Value) (w' : World) (φ' : List Loc), Ext φ φ' → ChC w0 φ Hc φ' w' ch → VR φ' rc.v u → K (a.put o.dst u) w' := by
    intro u w' φ' h1 h2 h3
    obtain ⟨Hc', h4, h5⟩ := hnext φ' w' h2
    exact hK _ _ ⟨hinv.set hr hi, hput u, φ', Hc', hφ.trans h1, h4, h5, by rw [hframe]; exact aput_ok (hfr.mono h1) o.dst h3⟩
  unfold wpOpIn
  simp only [hoi]
  unfold cStepI at hst
  split at hst
  · cases hst
  · rename_i hw
    rw [awanted_ok (gwant_ok hw fun s hs => hslot hs) hfr]
    simp only [Bool.false_eq_true, if_false]
    have e0 := Option.some.inj hst
    have e1 : rc.v = .tuple [] := (congrArg Prod.fst e0).symm
    have e2 : ch = none := (congrArg Prod.snd e0).symm
    exact ⟨fun _ _ => trivial, fin undef w φ (Ext.refl _) (by subst e2; exact ⟨rfl, hrel⟩) (by rw [e1]; exact .tuple .nil)⟩
  · rename_i hw
    rw [awanted_ok (gwant_ok hw fun s hs => hslot hs) hfr]
    simp only [if_true]
    have hρ : ∀ x, VR φ (gρ ops.toList (bsOf ops) i (foldD allD 0 ((updZ ops.toList recs).take i) fr0) x) (a.eval x) := by
      intro x
      cases x with
      | tmp s =>
        unfold gρ
        by_cases hh : hidB (bsOf ops) i s 0 ops.toList = true
        · simp only [hh, if_true]; exact .bad _
        · simp only [hh]
          have := aeval_ok hfr (.tmp s)
          simp only [aeval, List.getD_eq_getElem?_getD, hslot (by simpa using hh)] at this
          simpa [aeval, List.getD_eq_getElem?_getD] using this
      | const c => exact aeval_ok hfr (.const c)
      | global c => exact aeval_ok hfr (.global c)
      | func c => exact aeval_ok hfr (.func c)
    exact (hS _ _ _ _ _ hst).1 w0 φ w a _ Q hrel hρ fun u w' φ' h3 h4 h5 => fin u w' φ' h3 h5 h4
theorem Chn.run (g : Chn st ops fr0 recs es Hs) (hS : StOk P r0 st)
    (hQ : ∀ φ Hc a w, Ext φ0 φ → Hs[cntT es ops.size]? = some Hc → VRs φ (frC ops recs fr0 allD) a.tmps.toList → a.defers = D → Rel w0 φ Hc w → Q .normal a w) :
    ∀ (f : Nat) (d : Array Bool) (a : Act) (w : World), cnt d ops.size = f → CInv ops D fr0 recs es Hs w0 φ0 d a w → wpAnyIn (wideR r0) 0 P .any ops Q f d a w := by
  intro f
  induction f with
  | zero =>
    intro d a w hc inv
    have hall := cnt_zero hc
    obtain ⟨hinv, hdef, φ, Hc, hφ, hHc, hrel, hfr⟩ := inv
    have e1 : frC ops recs fr0 (Dof d) = frC ops recs fr0 allD := by
      apply List.ext_getElem?
      intro b
      refine foldD_get _ 0 _ _ (fun j u hu _ => ?_) rfl rfl
      rw [Nat.zero_add]
      obtain ⟨o, r, h1, h2, _, _⟩ := updZ_inv hu
      exact hall j (by rw [← g.len]; exact lt_of_some h2)
    have e2 : cntD es d ops.size = cntT es ops.size := cntB_congr fun k hk => by
      have := hall k hk
      unfold Dof
      rw [this, Bool.and_true]
    rw [e1] at hfr
    rw [e2] at hHc
    have hfin := hQ φ Hc a w hφ hHc hfr hdef hrel
    refine ⟨?_, hfin⟩
    apply List.eq_nil_iff_forall_not_mem.2
    intro j hj
    obtain ⟨h1, o, h2, _⟩ := mem_ready.1 hj
    have hj' := (Array.getElem?_eq_some_iff.1 h2).1
    have := hall j hj'
    rw [getD_both h1] at this
    cases this
  | succ f ih =>
    intro d a w hc inv
    obtain ⟨k, hkn, hkf, hkb⟩ := cnt_pos (d := d) (n := ops.size) (by omega)
    have hok : ops[k]? = some ops[k] := Array.getElem?_eq_getElem hkn
    have hsz := inv.head.size
    have hks : k < d.size := by rw [hsz]; exact hkn
    have hkr : k ∈ Region.ready .any ops d := mem_ready.2 ⟨getD_in hks hkf, _, hok, fun e he hb => hkb e.on (fwdB_ok g.fwd hok e he hb)⟩
    refine ⟨fun h0 => (by rw [h0] at hkr; cases hkr), fun i hi => ?_⟩
    have hin : i < ops.size := by
      obtain ⟨_, o, h2, _⟩ := mem_ready.1 hi
      exact (Array.getElem?_eq_some_iff.1 h2).1
    refine g.next hS inv hi fun a' w' inv' => ih _ a' w' ?_ inv'
    have := cnt_set (d := d) (by rw [hsz]; exact hin) (getD_both (mem_ready.1 hi).1) hin
    omega
end

noncomputable def evChainI (st : StF) (ops : Array Oper) (fr : List AV) (H : AH) (lo : Nat) : Option (List AV × AH × Nat) :=
  match cLexI st ops (bsOf ops) 0 ops.toList fr H lo with
  | none => none
  | some (recs, es, Hs, lo') =>
    if cChkI st ops (bsOf ops) es (H :: Hs) ops.size 0 ops.toList recs fr = true then
      match (H :: Hs)[Hs.length]? with
      | some He => some (frC ops recs fr allD, He, lo')
      | none => none
    else none
section
variable {st : StF} {ops : Array Oper}
theorem evChainI_split (hF : StFree st) {fr : List AV} {H : AH} {lo : Nat} {fr' : List AV} {H' : AH} {lo' : Nat} (hf : fwdB ops = true) (hn : nodupD ops.toList = true) (h : evChainI st ops fr H lo = some (fr', H', lo')) :
    ∃ recs es Hs, cLexI st ops (bsOf ops) 0 ops.toList fr H lo = some (recs, es, Hs, lo') ∧ Chn st ops fr recs es (H :: Hs) ∧ (H :: Hs)[Hs.length]? = some H' ∧ Hs.length = cntT es ops.size ∧ fr' = frC ops recs fr allD := by
  unfold evChainI at h
  split at h
  · cases h
  · rename_i recs es Hs lo1 hl
    split at h
    · rename_i hk
      split at h
      · rename_i He hHe
        cases h
        obtain ⟨h1, h2, h3, h4⟩ := cLexI_ok _ _ _ _ _ _ _ _ _ hl
        simp only [Array.length_toList] at h1 h2 h3
        refine ⟨recs, es, Hs, hl, ⟨hf, hn, h1, fun j o hj => ?_⟩, hHe, h3, rfl⟩
        obtain ⟨r, g1, Hj, g2, g3, g4⟩ := h4 j o (by simpa using hj)
        rw [Nat.zero_add] at g3 g4
        have hjn := (Array.getElem?_eq_some_iff.1 hj).1
        refine ⟨r, g1, fun k hk1 hk2 => ?_⟩
        have := cChkI_ok _ _ _ _ hk j o r (by simpa using hj) g1
        rw [Nat.zero_add] at this
        rcases this with (hc | ⟨hc, he⟩) | ⟨he, hs⟩
        · have e1 : lowC (bsOf ops) es ops.size j = cntT es j := by
            have key : ∀ n, j ≤ n → n ≤ ops.size → cntB (fun k => es.getD k false && decide (k < j) && !unord (bsOf ops) j k) n = cntB (fun k => es.getD k false) j := by
              intro n
              induction n with
              | zero => intro hjn _; obtain rfl : j = 0 := by omega
                        rfl
              | succ n ih =>
                intro hjn hns
                by_cases hjn' : j = n + 1
                · subst hjn'
                  refine cntB_congr fun k hk => ?_
                  rw [decide_eq_true hk, Bool.and_true]
                  cases hek : es.getD k false with
                  | false => rfl
                  | true => rw [calm_ok hc k (by omega) hek]; rfl
                · rw [cntB, ih (by omega) (by omega), decide_eq_false (by omega)]
                  simp
            exact key ops.size (by omega) (Nat.le_refl _)
          have e2 : hiC (bsOf ops) es ops.size j = lowC (bsOf ops) es ops.size j := by
            refine cntB_congr fun k hk => ?_
            cases hek : es.getD k false with
            | false => rfl
            | true => rw [calm_ok hc k hk hek]; simp
          have ek : k = cntT es j := by omega
          subst ek
          exact ⟨Hj, g2, g3, g4⟩
        · have hle : hiC (bsOf ops) es ops.size j ≤ cntT es ops.size := cntB_le fun k _ h => by
            simp only [Bool.and_eq_true] at h
            exact h.1
          have hk3 : k < (H :: Hs).length := by rw [List.length_cons, h3]; omega
          exact ⟨_, List.getElem?_eq_getElem hk3, fun _ => cStepI_free hF hc (g3 he), fun h => by rw [he] at h; cases h⟩
        · obtain ⟨Hk, q1, q2⟩ := hs k hk1 hk2
          exact ⟨Hk, q1, fun _ => q2, fun h => by rw [he] at h; cases h⟩
      · cases h
    · cases h
theorem evChainI_keeps {P : Program} {r0 : Option Nat} (hS : StOk P r0 st) (hF : StFree st) (hf : fwdB ops = true) (hn : nodupD ops.toList = true) {fr : List AV} {H : AH} {lo : Nat} {fr' : List AV} {H' : AH} {lo' : Nat} (h : evChainI st ops fr H lo = some (fr', H', lo')) : lo' ≤ lo ∧ Keeps lo' H H' := by
  obtain ⟨recs, es, Hs, hl, _, hH, _, _⟩ := evChainI_split hF hf hn h
  obtain ⟨h1, h2⟩ := cLexI_keeps hS _ _ _ _ _ _ _ _ _ hl
  exact ⟨h1, h2 _ hH⟩
theorem evChainI_ok {P : Program} {r0 : Option Nat} {D : List Deferred} (hm : P.follows .mixedOrders = true) (hS : StOk P r0 st) (hF : StFree st) (hf : fwdB ops = true) (hn : nodupD ops.toList = true) {id : Nat} {Q : Exit → Act → World → Prop} {fr fr' : List AV} {H H' : AH} {lo lo' : Nat} {w0 : Base} {φ : List Loc} {a : Act} {w : World}
    (h : evChainI st ops fr H lo = some (fr', H', lo')) (ha : VRs φ fr a.tmps.toList) (hd : a.defers = D) (hr : Rel w0 φ H w)
    (hQ : ∀ φ' a' w', Ext φ φ' → VRs φ' fr' a'.tmps.toList → a'.defers = D → Rel w0 φ' H' w' → Q .normal a' w') : (Code.region id ops true).wpIn (wideR r0) 0 P Q a w := by
  obtain ⟨recs, es, Hs, hl, g, hH, hlen, rfl⟩ := evChainI_split hF hf hn h
  refine wpIn_region_any hm ?_
  have hcnt : cnt (Array.replicate ops.size false) ops.size = ops.size := by
    have : ∀ m, cnt (Array.replicate ops.size false) m = m := by
      intro m
      induction m with
      | zero => rfl
      | succ m ih => rw [cnt, ih, getD_replicate_false]; simp
    exact this _
  have e3 : ∀ {α : Type} (us : List (Option (Nat × α))) (k : Nat) (l : List α), foldD (Dof (Array.replicate ops.size false)) k us l = l := by
    intro α us
    induction us with
    | nil => intro _ _; rfl
    | cons u us ih =>
      intro k l
      cases u with
      | none => exact ih _ _
      | some u =>
        rw [foldD, show Dof (Array.replicate ops.size false) k = false from getD_replicate_false _ _]
        exact ih _ _
  have e4 : cntD es (Array.replicate ops.size false) ops.size = 0 := by
    rw [← cntB_zero ops.size]
    refine cntB_congr fun k _ => ?_
    rw [show Dof (Array.replicate ops.size false) k = false from getD_replicate_false _ _, Bool.and_false]
  have inv0 : CInv ops D fr recs es (H :: Hs) w0 φ (Array.replicate ops.size false) a { w with drawn := w.drawn + 1 } := by
    refine ⟨⟨by simp, fun j oj _ hl => (by rw [getD_replicate_false] at hl; cases hl), fun t h1 ht => by omega⟩, hd, φ, H, Ext.refl _, by rw [e4]; rfl, hr.drew, ?_⟩
    rw [frC, e3]; exact ha
  have key := g.run (Q := Q) (D := D) hS (fun φ1 Hc a1 w1 hφ1 hHc ha1 hd1 hr1 => by
    rw [← hlen, hH] at hHc
    cases hHc
    exact hQ φ1 a1 w1 hφ1 ha1 hd1 hr1) _ _ a _ hcnt inv0
  exact key
end
end Go.Ve


