/- Regions that draw their order: operations that do not meet may come in any order. First: references, masks, folds. -/
import Derived.Test.YtkgkbpfjdlnoeaaVe10
import Derived.Test.YtkgkbpfjdlnoeaaVeT
namespace Go.Ve
open Go Go.RowKit

mutual
def AV.On (p : Nat → Prop) : AV → Prop
  | .ptr b _ => p b
  | .sl b _ _ _ _ => p b
  | .sle b _ _ => p b
  | .map b => p b
  | .yld b => p b
  | .fn _ xs cs => AV.Ons p xs ∧ AV.Ons p cs
  | .iface _ v => AV.On p v
  | .agg cs => AV.Ons p cs
  | .tuple cs => AV.Ons p cs
  | _ => True
def AV.Ons (p : Nat → Prop) : List AV → Prop
  | [] => True
  | v :: vs => AV.On p v ∧ AV.Ons p vs
end
mutual
def AV.onB (p : Nat → Bool) : AV → Bool
  | .ptr b _ => p b
  | .sl b _ _ _ _ => p b
  | .sle b _ _ => p b
  | .map b => p b
  | .yld b => p b
  | .fn _ xs cs => AV.onBs p xs && AV.onBs p cs
  | .iface _ v => AV.onB p v
  | .agg cs => AV.onBs p cs
  | .tuple cs => AV.onBs p cs
  | _ => true
def AV.onBs (p : Nat → Bool) : List AV → Bool
  | [] => true
  | v :: vs => AV.onB p v && AV.onBs p vs
end
mutual
theorem AV.onB_ok {p : Nat → Bool} : ∀ {v : AV}, AV.onB p v = true → AV.On (fun b => p b = true) v
  | .ptr _ _, h => h
  | .sl _ _ _ _ _, h => h
  | .sle _ _ _, h => h
  | .map _, h => h
  | .yld _, h => h
  | .opq, _ => trivial
  | .fn _ _ _, h => by
    simp only [AV.onB, Bool.and_eq_true] at h
    exact ⟨AV.onBs_ok h.1, AV.onBs_ok h.2⟩
  | .iface _ v, h => AV.onB_ok (v := v) h
  | .agg cs, h => AV.onBs_ok (vs := cs) h
  | .tuple cs, h => AV.onBs_ok (vs := cs) h
  | .bad, _ => trivial
  | .bool _, _ => trivial
  | .int _ _, _ => trivial
  | .float _ _, _ => trivial
  | .nan _, _ => trivial
  | .str _, _ => trivial
  | .nilptr, _ => trivial
  | .gptr _ _, _ => trivial
  | .nilsl, _ => trivial
  | .slz, _ => trivial
  | .nilmap, _ => trivial
  | .nilfn, _ => trivial
  | .niliface, _ => trivial
theorem AV.onBs_ok {p : Nat → Bool} : ∀ {vs : List AV}, AV.onBs p vs = true → AV.Ons (fun b => p b = true) vs
  | [], _ => trivial
  | v :: vs, h => by
    simp only [AV.onBs, Bool.and_eq_true] at h
    exact ⟨AV.onB_ok h.1, AV.onBs_ok h.2⟩
end
mutual
theorem AV.On.mono {p q : Nat → Prop} (hpq : ∀ b, p b → q b) : ∀ {v : AV}, AV.On p v → AV.On q v
  | .ptr b _, h => hpq b h
  | .sl b _ _ _ _, h => hpq b h
  | .sle b _ _, h => hpq b h
  | .map b, h => hpq b h
  | .yld b, h => hpq b h
  | .opq, _ => trivial
  | .fn _ _ _, h => ⟨AV.Ons.mono hpq h.1, AV.Ons.mono hpq h.2⟩
  | .iface _ v, h => AV.On.mono hpq (v := v) h
  | .agg cs, h => AV.Ons.mono hpq (vs := cs) h
  | .tuple cs, h => AV.Ons.mono hpq (vs := cs) h
  | .bad, _ => trivial
  | .bool _, _ => trivial
  | .int _ _, _ => trivial
  | .float _ _, _ => trivial
  | .nan _, _ => trivial
  | .str _, _ => trivial
  | .nilptr, _ => trivial
  | .gptr _ _, _ => trivial
  | .nilsl, _ => trivial
  | .slz, _ => trivial
  | .nilmap, _ => trivial
  | .nilfn, _ => trivial
  | .niliface, _ => trivial
theorem AV.Ons.mono {p q : Nat → Prop} (hpq : ∀ b, p b → q b) : ∀ {vs : List AV}, AV.Ons p vs → AV.Ons q vs
  | [], _ => trivial
  | _ :: _, h => ⟨AV.On.mono hpq h.1, AV.Ons.mono hpq h.2⟩
end
theorem lt_of_some {α : Type} {l : List α} {b : Nat} {x : α} (h : l[b]? = some x) : b < l.length := (List.getElem?_eq_some_iff.1 h).1
mutual
theorem VR.on {φ : List Loc} : ∀ {v : AV} {u : Value}, VR φ v u → AV.On (fun b => b < φ.length) v
  | _, _, .bad _ => trivial
  | _, _, .bool _ => trivial
  | _, _, .int _ _ => trivial
  | _, _, .float _ _ => trivial
  | _, _, .nan _ => trivial
  | _, _, .str _ => trivial
  | _, _, .nilptr => trivial
  | _, _, .ptr h => lt_of_some h
  | _, _, .gptr _ _ => trivial
  | _, _, .nilsl => trivial
  | _, _, .sl h => lt_of_some h
  | _, _, .sle h => lt_of_some h
  | _, _, .slz _ => trivial
  | _, _, .nilmap => trivial
  | _, _, .map h => lt_of_some h
  | _, _, .yld h => lt_of_some h
  | _, _, .opq _ => trivial
  | _, _, .fn _ h1 h2 => ⟨VRs.on h1, VRs.on h2⟩
  | _, _, .nilfn => trivial
  | _, _, .iface _ h => by have := VR.on h; exact this
  | _, _, .niliface => trivial
  | _, _, .agg h => VRs.on h
  | _, _, .tuple h => VRs.on h
theorem VRs.on {φ : List Loc} : ∀ {v : List AV} {u : List Value}, VRs φ v u → AV.Ons (fun b => b < φ.length) v
  | _, _, .nil => trivial
  | _, _, .cons h hs => ⟨VR.on h, VRs.on hs⟩
end
mutual
theorem VR.re {φ φ' : List Loc} {p : Nat → Prop} (hp : ∀ b, p b → φ'[b]? = φ[b]?) : ∀ {v : AV} {u : Value}, AV.On p v → VR φ v u → VR φ' v u
  | _, _, _, .bad v => .bad v
  | _, _, _, .bool b => .bool b
  | _, _, _, .int k n => .int k n
  | _, _, _, .float k n => .float k n
  | _, _, _, .nan h => .nan h
  | _, _, _, .str s => .str s
  | _, _, _, .nilptr => .nilptr
  | _, _, o, .ptr h => .ptr ((hp _ o).trans h)
  | _, _, _, .gptr g o => .gptr g o
  | _, _, _, .nilsl => .nilsl
  | _, _, o, .sl h => .sl ((hp _ o).trans h)
  | _, _, o, .sle h => .sle ((hp _ o).trans h)
  | _, _, _, .slz a => .slz a
  | _, _, _, .nilmap => .nilmap
  | _, _, o, .map h => .map ((hp _ o).trans h)
  | _, _, o, .yld h => .yld ((hp _ o).trans h)
  | _, _, _, .opq h => .opq h
  | .fn f _ _, _, o, .fn _ h1 h2 => .fn f (VRs.re hp o.1 h1) (VRs.re hp o.2 h2)
  | _, _, _, .nilfn => .nilfn
  | .iface t _, _, o, .iface _ h => .iface t (VR.re hp (show AV.On p _ from o) h)
  | _, _, _, .niliface => .niliface
  | .agg _, _, o, .agg h => .agg (VRs.re hp (show AV.Ons p _ from o) h)
  | .tuple _, _, o, .tuple h => .tuple (VRs.re hp (show AV.Ons p _ from o) h)
theorem VRs.re {φ φ' : List Loc} {p : Nat → Prop} (hp : ∀ b, p b → φ'[b]? = φ[b]?) : ∀ {v : List AV} {u : List Value}, AV.Ons p v → VRs φ v u → VRs φ' v u
  | _, _, _, .nil => .nil
  | _, _, o, .cons h hs => .cons (VR.re hp o.1 h) (VRs.re hp o.2 hs)
end
theorem AV.Ons.get {p : Nat → Prop} : ∀ {vs : List AV}, AV.Ons p vs → ∀ {j : Nat} {v : AV}, vs[j]? = some v → AV.On p v
  | [], _, _, _, h => by simp at h
  | _ :: _, o, 0, _, h => by simp at h; subst h; exact o.1
  | _ :: _, o, j + 1, _, h => AV.Ons.get o.2 (j := j) (by simpa using h)
theorem AV.Ons.of_get {p : Nat → Prop} : ∀ {vs : List AV}, (∀ (j : Nat) (v : AV), vs[j]? = some v → AV.On p v) → AV.Ons p vs
  | [], _ => trivial
  | v :: vs, h => ⟨h 0 v rfl, AV.Ons.of_get fun j u hu => h (j + 1) u (by simpa using hu)⟩
theorem AV.Ons.set {p : Nat → Prop} : ∀ {vs : List AV} (n : Nat) {v : AV}, AV.Ons p vs → AV.On p v → AV.Ons p (vs.set n v)
  | [], _, _, h, _ => h
  | _ :: _, 0, _, h, hv => ⟨hv, h.2⟩
  | _ :: _, n + 1, _, h, hv => ⟨h.1, AV.Ons.set n h.2 hv⟩

def ABlk.On (p : Nat → Prop) : ABlk → Prop
  | .cells vs _ _ => AV.Ons p vs
  | .map es _ => ∀ e ∈ es, AV.On p e.1 ∧ AV.On p e.2
  | .loop fr _ _ _ _ _ db => AV.Ons p fr ∧ p db
  | .glob _ vs => AV.Ons p vs
  | _ => True
def ABlk.onB (p : Nat → Bool) : ABlk → Bool
  | .cells vs _ _ => AV.onBs p vs
  | .map _ _ => false
  | .loop fr _ _ _ _ _ db => AV.onBs p fr && p db
  | .glob _ vs => AV.onBs p vs
  | _ => true
theorem ABlk.onB_ok {p : Nat → Bool} {k : ABlk} (h : k.onB p = true) : k.On (fun b => p b = true) := by
  cases k with
  | cells vs e r => exact AV.onBs_ok h
  | map es r => simp [ABlk.onB] at h
  | dead => trivial
  | siter s n => trivial
  | defr => trivial
  | loop fr ps as bd st pd db => simp only [ABlk.onB, Bool.and_eq_true] at h; exact ⟨AV.onBs_ok h.1, h.2⟩
  | glob g vs => exact AV.onBs_ok h
theorem ABlk.On.mono {p q : Nat → Prop} (hpq : ∀ b, p b → q b) {k : ABlk} (h : k.On p) : k.On q := by
  cases k with
  | cells vs e r => exact AV.Ons.mono hpq h
  | map es r => exact fun e he => ⟨AV.On.mono hpq (h e he).1, AV.On.mono hpq (h e he).2⟩
  | dead => trivial
  | siter s n => trivial
  | defr => trivial
  | loop fr ps as bd st pd db => exact ⟨AV.Ons.mono hpq h.1, hpq _ h.2⟩
  | glob g vs => exact AV.Ons.mono hpq h
theorem EntryR.on {φ : List Loc} : ∀ {es : List (AV × AV)} {ms : List MapEntry}, EntryR φ es ms → ∀ e ∈ es, AV.On (fun b => b < φ.length) e.1 ∧ AV.On (fun b => b < φ.length) e.2
  | [], _, _, e, he => by simp at he
  | x :: es, [], h, _, _ => h.elim
  | x :: es, m :: ms, h, e, he => by
    rcases List.mem_cons.1 he with rfl | he
    · exact ⟨h.1.on, h.2.1.on⟩
    · exact EntryR.on h.2.2 e he
theorem EntryR.re {φ φ' : List Loc} {p : Nat → Prop} (hp : ∀ b, p b → φ'[b]? = φ[b]?) : ∀ {es : List (AV × AV)} {ms : List MapEntry}, (∀ e ∈ es, AV.On p e.1 ∧ AV.On p e.2) → EntryR φ es ms → EntryR φ' es ms
  | [], [], _, _ => trivial
  | x :: es, m :: ms, o, h => ⟨h.1.re hp (o x (by simp)).1, h.2.1.re hp (o x (by simp)).2, EntryR.re hp (fun e he => o e (by simp [he])) h.2.2⟩
  | [], _ :: _, _, h => h.elim
  | _ :: _, [], _, h => h.elim
theorem BR.on {w0 : Base} {w : World} {φ : List Loc} {l : Loc} {k : ABlk} (h : BR w0 φ w l k) : k.On (fun b => b < φ.length) := by
  cases k with
  | cells vs e r =>
    refine AV.Ons.of_get fun j v hv => ?_
    obtain ⟨u, h1, _⟩ := h.cellsR j v hv
    exact h1.on
  | map es r => obtain ⟨_, ms, c, _, h3⟩ := h; exact h3.on
  | dead => trivial
  | siter s n => trivial
  | defr => trivial
  | loop fr ps as bd st pd db => obtain ⟨_, tm, ld, f, h2, h3, _⟩ := h; exact ⟨h3.on, lt_of_some h2⟩
  | glob g vs =>
    refine AV.Ons.of_get fun j v hv => ?_
    obtain ⟨u, h1, _⟩ := h.2.2.2 j v hv
    exact h1.on
theorem BR.re {w0 : Base} {w : World} {φ φ' : List Loc} {l : Loc} {k : ABlk} {p : Nat → Prop} (hp : ∀ b, p b → φ'[b]? = φ[b]?) (o : k.On p) (h : BR w0 φ w l k) : BR w0 φ' w l k := by
  have hc : ∀ vs, AV.Ons p vs → CellsR φ w l vs → CellsR φ' w l vs := fun vs o h j v hv => by
    obtain ⟨u, h1, h2⟩ := h j v hv
    exact ⟨u, h1.re hp (o.get hv), h2⟩
  cases k with
  | dead => trivial
  | cells vs e ro => cases ro with
    | true => exact ⟨h.1, h.2.1, hc _ o h.2.2⟩
    | false => exact ⟨h.1, hc _ o h.2⟩
  | map es ro => obtain ⟨h1, ms, c, h2, h3⟩ := h; exact ⟨h1, ms, c, h2, h3.re hp o⟩
  | siter s n => exact h
  | defr => exact h
  | loop fr ps as bd st pd db => obtain ⟨h1, tm, ld, f, h2, h3, h4⟩ := h; exact ⟨h1, tm, ld, f, (hp _ o.2).trans h2, h3.re hp o.1, h4⟩
  | glob g vs => exact ⟨h.1, h.2.1, h.2.2.1, hc _ o h.2.2.2⟩

section
variable {P : Program} {w0 : Base} {w : World} {φ : List Loc} {H : AH}
/-- Blocks forgotten. -/
def Masked (Hm H : AH) : Prop := Hm.length = H.length ∧ ∀ b, b < H.length → Hm[b]? = some .dead ∨ Hm[b]? = H[b]?
theorem Masked.get {Hm H : AH} (h : Masked Hm H) {b : Nat} {k : ABlk} (hb : Hm[b]? = some k) (hd : k ≠ .dead) : H[b]? = some k := by
  have := lt_of_some hb
  rw [h.1] at this
  rcases h.2 b this with h1 | h1
  · rw [h1] at hb; cases hb; exact absurd rfl hd
  · rw [← h1]; exact hb
theorem own_nd {k : ABlk} (h : k.own = true) : k ≠ .dead := fun e => by subst e; simp [ABlk.own] at h
theorem Rel.weak {Hm : AH} (h : Rel w0 φ H w) (hm : Masked Hm H) : Rel w0 φ Hm w := by
  refine ⟨by rw [hm.1]; exact h.len, h.below, fun b k l hb hl => ?_, fun b b' k k' l l' hb hb' hl hl' o o' he => ?_⟩
  · by_cases hd : k = .dead
    · subst hd; trivial
    · exact h.blocks b k l (hm.get hb hd) hl
  · exact h.inj b b' k k' l l' (hm.get hb (own_nd o)) (hm.get hb' (own_nd o')) hl hl' o o' he

def Base.of (w : World) (φ : List Loc) (H : AH) : Base := ⟨w, fun j => j < w.heap.size ∧ ∀ (b : Nat) (k : ABlk) (l : Loc), H[b]? = some k → φ[b]? = some l → k.own = true → l.blk ≠ j, fun _ h => h.1⟩
theorem BR.base {w1 w2 : Base} {l : Loc} {k : ABlk} (h : BR w1 φ w l k) (h1 : k.own = true → ¬ w2.keep l.blk) (h2 : k.own = false → k ≠ .dead → w2.keep l.blk) : BR w2 φ w l k := by
  cases k with
  | dead => trivial
  | cells vs e ro => cases ro with
    | true => exact ⟨h2 rfl (by simp), h.2⟩
    | false => exact ⟨⟨h1 rfl, h.1.2⟩, h.2⟩
  | map es ro =>
    refine ⟨?_, h.2⟩
    cases ro with
    | true => simpa using h2 rfl (by simp)
    | false => simpa using h1 rfl
  | siter s n => exact ⟨h1 rfl, h.2⟩
  | defr => exact ⟨h1 rfl, h.2⟩
  | loop fr ps as bd st pd db => exact ⟨h1 rfl, h.2⟩
  | glob g vs => exact ⟨h2 rfl (by simp), h.2⟩
theorem Rel.rebase (h : Rel w0 φ H w) : Rel (Base.of w φ H) φ H w := by
  refine ⟨h.len, ⟨rfl, rfl, rfl, Nat.le_refl _, fun _ _ => rfl⟩, fun b k l hb hl => ?_, h.inj⟩
  have hbr := h.blocks b k l hb hl
  refine hbr.base (fun ho hk => hk.2 b k l hb hl ho rfl) (fun ho hd => ⟨hbr.lt h.below.size hd, fun b' k' l' hb' hl' ho' he => ?_⟩)
  exact (h.blocks b' k' l' hb' hl').own_ge ho' (he ▸ hbr.ro_lt ho hd)
theorem Rel.unbase {Hm : AH} {w' : World} (h : Rel w0 φ H w) (hm : Masked Hm H) (h' : Rel (Base.of w φ Hm) φ Hm w') : Rel w0 φ H w' := by
  have hsz : w.heap.size ≤ w'.heap.size := h'.below.size
  refine ⟨h.len, ⟨h'.below.os.trans h.below.os, h'.below.tape.trans h.below.tape, h'.below.output.trans h.below.output, Nat.le_trans h.below.size hsz, fun j hj => ?_⟩, fun b k l hb hl => ?_, h.inj⟩
  · refine (h'.below.block j ⟨Nat.lt_of_lt_of_le (w0.lt j hj) h.below.size, fun b k l hb hl ho he => ?_⟩).trans (h.below.block j hj)
    exact (h.blocks b k l (hm.get hb (own_nd ho)) hl).own_ge ho (he ▸ hj)
  · by_cases hd : k = .dead
    · subst hd; trivial
    · have hbr := h.blocks b k l hb hl
      rcases hm.2 b (lt_of_some hb) with h1 | h1
      · refine hbr.keep (h'.below.block l.blk ⟨hbr.lt h.below.size hd, fun b' k' l' hb' hl' ho' he => ?_⟩)
        have hb2 := hm.get hb' (own_nd ho')
        have hne : b' ≠ b := fun e => by subst e; rw [h1] at hb'; cases hb'; simp [ABlk.own] at ho'
        cases ho : k.own with
        | true => exact hne (h.inj b' b k' k l' l hb2 hb hl' hl ho' ho he)
        | false => exact (h.blocks b' k' l' hb2 hl').own_ge ho' (he ▸ hbr.ro_lt ho hd)
      · exact (h'.blocks b k l (h1.trans hb) hl).base (fun ho => hbr.own_ge ho) (fun ho hd => hbr.ro_lt ho hd)

/-- A block that is there, at a place that was kept free. -/
theorem Rel.placeAt (h : Rel w0 φ H w) {p : Nat} {l : Loc} {blk : ABlk} (hp : H[p]? = some .dead) (hon : ∀ (b : Nat) (k : ABlk), H[b]? = some k → k.On (fun b => b ≠ p)) (hbr : BR w0 (φ.set p l) w l blk)
    (hsep : ∀ (b : Nat) (k : ABlk) (lb : Loc), H[b]? = some k → φ[b]? = some lb → k.own = true → lb.blk ≠ l.blk) : Rel w0 (φ.set p l) (H.set p blk) w := by
  have hplt := lt_of_some hp
  have hpφ : p < φ.length := by rw [h.len]; exact hplt
  have hφ : ∀ b, b ≠ p → (φ.set p l)[b]? = φ[b]? := fun b hb => List.getElem?_set_ne (Ne.symm hb)
  have hH : ∀ b, b ≠ p → (H.set p blk)[b]? = H[b]? := fun b hb => List.getElem?_set_ne (Ne.symm hb)
  refine ⟨by simp [h.len], h.below, ?_, ?_⟩
  · intro b k lb hb hl
    by_cases e1 : b = p
    · subst e1
      rw [List.getElem?_set_self hplt] at hb
      rw [List.getElem?_set_self hpφ] at hl
      cases hb; cases hl
      exact hbr
    · rw [hH b e1] at hb
      rw [hφ b e1] at hl
      exact (h.blocks b k lb hb hl).re hφ (hon b k hb)
  · intro b b' k k' lb lb' hb hb' hl hl' o o' he
    have sp : ∀ (b : Nat) (k : ABlk) (lb : Loc), (H.set p blk)[b]? = some k → (φ.set p l)[b]? = some lb → k.own = true → (b = p ∧ lb.blk = l.blk) ∨ (H[b]? = some k ∧ φ[b]? = some lb ∧ lb.blk ≠ l.blk) := fun b k lb hb hl o => by
      by_cases e1 : b = p
      · left
        subst e1
        rw [List.getElem?_set_self hpφ] at hl
        cases hl
        exact ⟨rfl, rfl⟩
      · right
        rw [hH b e1] at hb
        rw [hφ b e1] at hl
        exact ⟨hb, hl, hsep b k lb hb hl o⟩
    rcases sp b k lb hb hl o with ⟨h1, h2⟩ | ⟨h1, h2, h3⟩ <;> rcases sp b' k' lb' hb' hl' o' with ⟨g1, g2⟩ | ⟨g1, g2, g3⟩
    · rw [h1, g1]
    · exact absurd (he ▸ h2) g3
    · exact absurd (he.trans g2) h3
    · exact h.inj b b' k k' lb lb' h1 g1 h2 g2 o o' he
/-- A new block at a place that was kept free. -/
theorem Rel.allocAt (h : Rel w0 φ H w) {p : Nat} (hp : H[p]? = some .dead) (hon : ∀ (b : Nat) (k : ABlk), H[b]? = some k → k.On (fun b => b ≠ p)) {vs : List AV} {c : Array Value} {esz : Nat} (e : TypeId) (hv : VRs [] vs c.toList) (ht : ∀ t, tyOf esz = some t → t = e) :
    Rel w0 (φ.set p ⟨w.heap.size, 0, 0⟩) (H.set p (.cells vs esz false)) { w with heap := w.heap.push (.cells c e) } := by
  have hplt := lt_of_some hp
  have hpφ : p < φ.length := by rw [h.len]; exact hplt
  have old : ∀ j, j < w.heap.size → (w.heap.push (.cells c e))[j]? = w.heap[j]? := fun j hj => by
    rw [Array.getElem?_push]; simp [Nat.ne_of_lt hj]
  have hφ : ∀ b, b ≠ p → (φ.set p ⟨w.heap.size, 0, 0⟩)[b]? = φ[b]? := fun b hb => List.getElem?_set_ne (Ne.symm hb)
  have hH : ∀ b, b ≠ p → (H.set p (.cells vs esz false))[b]? = H[b]? := fun b hb => List.getElem?_set_ne (Ne.symm hb)
  have hself : BR w0 (φ.set p ⟨w.heap.size, 0, 0⟩) { w with heap := w.heap.push (.cells c e) } ⟨w.heap.size, 0, 0⟩ (.cells vs esz false) := by
    have r0 : Rel w0 [] [] w := ⟨rfl, h.below, fun b k l hb => by simp at hb, fun b b' k k' l l' hb => by simp at hb⟩
    have r1 := r0.newCells e hv esz 0 #[] (by simp) ht
    have b1 := r1.blocks 0 (.cells vs esz false) ⟨w.heap.size, 0, 0⟩ rfl rfl
    refine BR.re (p := fun _ => False) (fun _ h => h.elim) ?_ (by simpa using b1)
    exact AV.Ons.mono (fun b hb => by simp at hb) hv.on
  refine ⟨by simp [h.len], ⟨h.below.os, h.below.tape, h.below.output, by simp; have := h.below.size; omega, fun j hj => ?_⟩, ?_, ?_⟩
  · rw [old j (by have := h.below.size; have := w0.lt j hj; omega)]; exact h.below.block j hj
  · intro b k l hb hl
    by_cases e1 : b = p
    · subst e1
      rw [List.getElem?_set_self hplt] at hb
      rw [List.getElem?_set_self hpφ] at hl
      cases hb; cases hl
      exact hself
    · rw [hH b e1] at hb
      rw [hφ b e1] at hl
      by_cases hd : k = .dead
      · subst hd; trivial
      · have hbr := h.blocks b k l hb hl
        exact (hbr.keep (w' := { w with heap := w.heap.push (.cells c e) }) (old _ (hbr.lt h.below.size hd))).re hφ (hon b k hb)
  · intro b b' k k' l l' hb hb' hl hl' o o' he
    have sp : ∀ (b : Nat) (k : ABlk) (l : Loc), (H.set p (.cells vs esz false))[b]? = some k → (φ.set p ⟨w.heap.size, 0, 0⟩)[b]? = some l → k.own = true → (b = p ∧ l.blk = w.heap.size) ∨ (b ≠ p ∧ H[b]? = some k ∧ φ[b]? = some l ∧ l.blk < w.heap.size) := fun b k l hb hl o => by
      by_cases e1 : b = p
      · left
        subst e1
        rw [List.getElem?_set_self hpφ] at hl
        cases hl
        exact ⟨rfl, rfl⟩
      · right
        rw [hH b e1] at hb
        rw [hφ b e1] at hl
        exact ⟨e1, hb, hl, (h.blocks b k l hb hl).lt h.below.size (own_nd o)⟩
    rcases sp b k l hb hl o with ⟨h1, h2⟩ | ⟨h1, h2, h3, h4⟩ <;> rcases sp b' k' l' hb' hl' o' with ⟨g1, g2⟩ | ⟨g1, g2, g3, g4⟩
    · rw [h1, g1]
    · omega
    · omega
    · exact h.inj b b' k k' l l' h2 g2 h3 g3 o o' he
end

/-! ### Updates, done or not -/
section
variable {α : Type}
def foldD (D : Nat → Bool) : Nat → List (Option (Nat × α)) → List α → List α
  | _, [], l => l
  | k, none :: us, l => foldD D (k + 1) us l
  | k, some u :: us, l => foldD D (k + 1) us (if D k then l.set u.1 u.2 else l)
theorem foldD_length {D : Nat → Bool} : ∀ (us : List (Option (Nat × α))) (k : Nat) (l : List α), (foldD D k us l).length = l.length
  | [], _, _ => rfl
  | none :: us, k, l => foldD_length us (k + 1) l
  | some u :: us, k, l => by
    rw [foldD, foldD_length us]
    split <;> simp
theorem foldD_get {D D' : Nat → Bool} {b : Nat} : ∀ (us : List (Option (Nat × α))) (k : Nat) (l l' : List α), (∀ (j : Nat) (u : Nat × α), us[j]? = some (some u) → u.1 = b → D (k + j) = D' (k + j)) → l.length = l'.length → l[b]? = l'[b]? →
    (foldD D k us l)[b]? = (foldD D' k us l')[b]?
  | [], _, _, _, _, _, h => h
  | none :: us, k, l, l', hd, hlen, h => foldD_get us (k + 1) l l' (fun j u hu hb => by have := hd (j + 1) u (by simpa using hu) hb; rwa [show k + (j + 1) = k + 1 + j by omega] at this) hlen h
  | some u :: us, k, l, l', hd, hlen, h => by
    refine foldD_get us (k + 1) _ _ (fun j u hu hb => by have := hd (j + 1) u (by simpa using hu) hb; rwa [show k + (j + 1) = k + 1 + j by omega] at this) ?_ ?_
    · split <;> split <;> simp [hlen]
    · by_cases hb : u.1 = b
      · have := hd 0 u rfl hb
        rw [Nat.add_zero] at this
        rw [this]
        split
        · subst hb
          rw [List.getElem?_set, List.getElem?_set, hlen, h]
        · exact h
      · have e1 : ∀ l : List α, (l.set u.1 u.2)[b]? = l[b]? := fun l => List.getElem?_set_ne hb
        split <;> split <;> first | exact h | (simp only [e1]; exact h)
theorem foldD_set {D : Nat → Bool} {b : Nat} {x : α} : ∀ (us : List (Option (Nat × α))) (k : Nat) (l : List α), (∀ (j : Nat) (u : Nat × α), us[j]? = some (some u) → D (k + j) = true → u.1 ≠ b) → foldD D k us (l.set b x) = (foldD D k us l).set b x
  | [], _, _, _ => rfl
  | none :: us, k, l, hd => foldD_set us (k + 1) l fun j u hu hb => hd (j + 1) u (by simpa using hu) (by rwa [show k + (j + 1) = k + 1 + j by omega])
  | some u :: us, k, l, hd => by
    have ih := fun l => foldD_set (D := D) (b := b) (x := x) us (k + 1) l fun j u hu hb => hd (j + 1) u (by simpa using hu) (by rwa [show k + (j + 1) = k + 1 + j by omega])
    rw [foldD, foldD, ← ih]
    cases hk : D k with
    | false => rfl
    | true =>
      have := hd 0 u rfl (by simpa using hk)
      simp only [if_true]
      rw [List.set_comm _ _ (Ne.symm this)]
theorem foldD_insert {D D' : Nat → Bool} {b : Nat} {x : α} : ∀ (us : List (Option (Nat × α))) (k i : Nat) (l : List α), us[i]? = some (some (b, x)) → D' (k + i) = true → D (k + i) = false → (∀ j, j ≠ k + i → D' j = D j) →
    (∀ (j : Nat) (u : Nat × α), i < j → us[j]? = some (some u) → D (k + j) = true → u.1 ≠ b) → foldD D' k us l = (foldD D k us l).set b x
  | [], _, _, _, h, _, _, _, _ => by simp at h
  | u :: us, k, 0, l, h, h1, h2, h3, h4 => by
    simp at h
    subst h
    simp only [Nat.add_zero] at h1 h2 h3
    rw [foldD, foldD, h1, h2]
    simp only [if_true, Bool.false_eq_true, if_false]
    have e : foldD D' (k + 1) us (l.set b x) = foldD D (k + 1) us (l.set b x) := by
      apply List.ext_getElem?
      intro c
      exact foldD_get us (k + 1) _ _ (fun j u _ _ => h3 _ (by omega)) rfl rfl
    rw [e]
    exact foldD_set us (k + 1) l fun j u hu hb => h4 (j + 1) u (by omega) (by simpa using hu) (by rwa [show k + (j + 1) = k + 1 + j by omega])
  | u :: us, k, i + 1, l, h, h1, h2, h3, h4 => by
    rw [show k + (i + 1) = k + 1 + i by omega] at h1 h2 h3
    have ih := fun l => foldD_insert (D := D) (D' := D') us (k + 1) i l (by simpa using h) h1 h2 h3 fun j u hj hu hb => h4 (j + 1) u (by omega) (by simpa using hu) (by rwa [show k + (j + 1) = k + 1 + j by omega])
    cases u with
    | none => exact ih l
    | some u =>
      rw [foldD, foldD, h3 k (by omega)]
      exact ih _
theorem foldD_skip {D D' : Nat → Bool} {us : List (Option (Nat × α))} {i : Nat} {l : List α} (h : us[i]? = some none) (h3 : ∀ j, j ≠ i → D' j = D j) : foldD D' 0 us l = foldD D 0 us l := by
  apply List.ext_getElem?
  intro c
  refine foldD_get us 0 _ _ (fun j u hu _ => ?_) rfl rfl
  rw [Nat.zero_add]
  exact h3 j fun e => by subst e; rw [h] at hu; cases hu
theorem foldD_snoc (us : List (Option (Nat × α))) (u : Option (Nat × α)) : ∀ (k : Nat) (l : List α), foldD (fun _ => true) k (us ++ [u]) l = match u with | none => foldD (fun _ => true) k us l | some u => (foldD (fun _ => true) k us l).set u.1 u.2 := by
  induction us with
  | nil => intro k l; cases u <;> rfl
  | cons x us ih => intro k l; cases x <;> exact ih _ _
theorem foldD_lt (us : List (Option (Nat × α))) : ∀ (k j : Nat) (l : List α), foldD (fun i => decide (i < k + j)) k us l = foldD (fun _ => true) k (us.take j) l := by
  induction us with
  | nil => intro k j l; simp [foldD]
  | cons x us ih =>
    intro k j l
    cases j with
    | zero =>
      have key : ∀ (us : List (Option (Nat × α))) (k m : Nat) (l : List α), k ≤ m → foldD (fun i => decide (i < k)) m us l = l := by
        intro us
        induction us with
        | nil => intro _ _ _ _; rfl
        | cons x us ih =>
          intro k m l hm
          cases x with
          | none => exact ih k (m + 1) l (by omega)
          | some u =>
            rw [foldD, decide_eq_false (by omega)]
            exact ih k (m + 1) l (by omega)
      exact key _ k k l (Nat.le_refl _)
    | succ j =>
      have e : k + (j + 1) = k + 1 + j := by omega
      cases x with
      | none => simp only [List.take_succ_cons, foldD, e]; exact ih _ _ _
      | some u =>
        simp only [List.take_succ_cons, foldD, e, decide_eq_true (show k < k + 1 + j by omega), if_true]
        exact ih _ _ _
end

mutual
theorem VR.back {φ φ' : List Loc} (hx : Ext φ φ') : ∀ {v : AV} {u u' : Value}, VR φ v u → VR φ' v u' → VR φ v u'
  | .bad, _, _, _, _ => .bad _
  | .bool _, _, _, _, hv => by cases hv; exact .bool _
  | .int _ _, _, _, _, hv => by cases hv; exact .int _ _
  | .float _ _, _, _, _, hv => by cases hv; exact .float _ _
  | .nan _, _, _, _, hv => by cases hv with | nan h => exact .nan h
  | .str _, _, _, _, hv => by cases hv; exact .str _
  | .nilptr, _, _, _, hv => by cases hv; exact .nilptr
  | .ptr _ _, _, _, h, hv => by
    cases h with
    | ptr h1 => cases hv with | ptr h2 => rw [hx.get h1] at h2; cases h2; exact .ptr h1
  | .gptr _ _, _, _, _, hv => by cases hv; exact .gptr _ _
  | .nilsl, _, _, _, hv => by cases hv; exact .nilsl
  | .sl _ _ _ _ _, _, _, h, hv => by
    cases h with
    | sl h1 => cases hv with | sl h2 => rw [hx.get h1] at h2; cases h2; exact .sl h1
  | .slz, _, _, _, hv => by cases hv; exact .slz _
  | .sle _ _ _, _, _, h, hv => by
    cases h with
    | sle h1 => cases hv with | sle h2 => rw [hx.get h1] at h2; cases h2; exact .sle h1
  | .nilmap, _, _, _, hv => by cases hv; exact .nilmap
  | .map _, _, _, h, hv => by
    cases h with
    | map h1 => cases hv with | map h2 => rw [hx.get h1] at h2; cases h2; exact .map h1
  | .yld _, _, _, h, hv => by
    cases h with
    | yld h1 => cases hv with | yld h2 => rw [hx.get h1] at h2; cases h2; exact .yld h1
  | .opq, _, _, _, hv => by cases hv with | opq h => exact .opq h
  | .fn _ _ _, _, _, h, hv => by
    cases h with
    | fn _ a b => cases hv with | fn _ c d => exact .fn _ (VRs.back hx a c) (VRs.back hx b d)
  | .nilfn, _, _, _, hv => by cases hv; exact .nilfn
  | .iface _ _, _, _, h, hv => by
    cases h with
    | iface _ a => cases hv with | iface _ b => exact .iface _ (VR.back hx a b)
  | .niliface, _, _, _, hv => by cases hv; exact .niliface
  | .agg _, _, _, h, hv => by
    cases h with
    | agg a => cases hv with | agg b => exact .agg (VRs.back hx a b)
  | .tuple _, _, _, h, hv => by
    cases h with
    | tuple a => cases hv with | tuple b => exact .tuple (VRs.back hx a b)
theorem VRs.back {φ φ' : List Loc} (hx : Ext φ φ') : ∀ {v : List AV} {u u' : List Value}, VRs φ v u → VRs φ' v u' → VRs φ v u'
  | [], _, _, _, hv => by cases hv; exact .nil
  | _ :: _, _, _, h, hv => by
    cases h with
    | cons a as => cases hv with | cons b bs => exact .cons (VR.back hx a b) (VRs.back hx as bs)
end
theorem EntryR.back {φ φ' : List Loc} (hx : Ext φ φ') : ∀ {es : List (AV × AV)} {ms ms' : List MapEntry}, EntryR φ es ms → EntryR φ' es ms' → EntryR φ es ms'
  | [], [], [], _, _ => trivial
  | _ :: _, _ :: _, _ :: _, h, k => ⟨h.1.back hx k.1, h.2.1.back hx k.2.1, EntryR.back hx h.2.2 k.2.2⟩
  | [], _ :: _, _, h, _ => h.elim
  | _ :: _, [], _, h, _ => h.elim
  | [], [], _ :: _, _, k => k.elim
  | _ :: _, _ :: _, [], _, k => k.elim

section
variable {P : Program} {w0 : Base} {w : World} {φ : List Loc} {H : AH}

theorem Rel.restrict {φ' : List Loc} {H' : AH} {w' : World} (h : Rel w0 φ H w) (hx : Ext φ φ') (hk : Keeps H.length H H') (h' : Rel w0 φ' H' w') : Rel w0 φ H w' := by
  have get : ∀ (b : Nat) (k : ABlk) (l : Loc), H[b]? = some k → φ[b]? = some l → H'[b]? = some k ∧ φ'[b]? = some l := fun b k l hb hl =>
    ⟨by rw [hk.2 b (List.getElem?_eq_some_iff.1 hb).1 (List.getElem?_eq_some_iff.1 hb).1]; exact hb, hx.get hl⟩
  refine ⟨h.len, h'.below, fun b k l hb hl => ?_, fun b1 b2 k1 k2 l1 l2 hb1 hb2 hl1 hl2 o1 o2 he => ?_⟩
  · obtain ⟨g1, g2⟩ := get b k l hb hl
    have hold := h.blocks b k l hb hl
    have hnew := h'.blocks b k l g1 g2
    have hc : ∀ vs, CellsR φ w l vs → CellsR φ' w' l vs → CellsR φ w' l vs := fun vs a b j v hv => by
      obtain ⟨u, h1, h2⟩ := a j v hv
      obtain ⟨u', h3, h4⟩ := b j v hv
      exact ⟨u', h1.back hx h3, h4⟩
    cases k with
    | dead => trivial
    | cells vs esz ro => cases ro with
      | true => exact ⟨hnew.1, hnew.2.1, hc _ hold.2.2 hnew.2.2⟩
      | false => exact ⟨hnew.1, hc _ hold.2 hnew.2⟩
    | map es ro =>
      obtain ⟨_, ms0, _, _, e0⟩ := hold
      obtain ⟨h1, ms, c, h2, e1⟩ := hnew
      exact ⟨h1, ms, c, h2, e0.back hx e1⟩
    | siter s pos => exact hnew
    | defr => exact hnew
    | loop fr ps as bd st pd db =>
      obtain ⟨_, tm0, ld0, _, a1, a2, _⟩ := hold
      obtain ⟨h1, tm, ld, f, b1, b2, b3⟩ := hnew
      have e := hx.get a1
      rw [b1] at e
      cases e
      exact ⟨h1, tm, ld0, f, a1, a2.back hx b2, b3⟩
    | glob g vs => exact ⟨hnew.1, hnew.2.1, hnew.2.2.1, hc _ hold.2.2.2 hnew.2.2.2⟩
  · obtain ⟨g1, g2⟩ := get b1 k1 l1 hb1 hl1
    obtain ⟨g3, g4⟩ := get b2 k2 l2 hb2 hl2
    exact h'.inj b1 b2 k1 k2 l1 l2 g1 g3 g2 g4 o1 o2 he
end
end Go.Ve
