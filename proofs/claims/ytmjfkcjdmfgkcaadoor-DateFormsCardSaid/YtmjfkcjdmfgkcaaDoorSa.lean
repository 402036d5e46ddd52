/- Blocks renamed; a part of the memory, and what of it is there again when the part has changed. -/
import Derived.Test.YtmjfkcjdmfgkcaaDoorEd
set_option linter.unusedSimpArgs false
set_option linter.unusedVariables false
namespace Go.Ve
open Go Go.RowKit

mutual
def AV.ren (ρ : Nat → Nat) : AV → AV
  | .ptr b o => .ptr (ρ b) o
  | .sl b o l c e => .sl (ρ b) o l c e
  | .sle b o a => .sle (ρ b) o a
  | .map b => .map (ρ b)
  | .yld b => .yld (ρ b)
  | .fn f xs cs => .fn f (AV.rens ρ xs) (AV.rens ρ cs)
  | .iface t v => .iface t (AV.ren ρ v)
  | .agg cs => .agg (AV.rens ρ cs)
  | .tuple vs => .tuple (AV.rens ρ vs)
  | v => v
def AV.rens (ρ : Nat → Nat) : List AV → List AV
  | [] => []
  | v :: vs => AV.ren ρ v :: AV.rens ρ vs
end
theorem AV.rens_map (ρ : Nat → Nat) : ∀ vs : List AV, AV.rens ρ vs = vs.map (AV.ren ρ)
  | [] => rfl
  | v :: vs => by rw [AV.rens, AV.rens_map ρ vs]; rfl
mutual
theorem AV.ren_flat {ρ : Nat → Nat} : ∀ {v : AV}, v.flat = true → v.ren ρ = v
  | .bad, _ => rfl
  | .bool _, _ => rfl
  | .int _ _, _ => rfl
  | .float _ _, _ => rfl
  | .nan _, _ => rfl
  | .str _, _ => rfl
  | .nilptr, _ => rfl
  | .ptr _ _, h => by simp [AV.flat] at h
  | .gptr _ _, _ => rfl
  | .nilsl, _ => rfl
  | .sl _ _ _ _ _, h => by simp [AV.flat] at h
  | .sle _ _ _, h => by simp [AV.flat] at h
  | .slz, _ => rfl
  | .nilmap, _ => rfl
  | .map _, h => by simp [AV.flat] at h
  | .yld _, h => by simp [AV.flat] at h
  | .opq, _ => rfl
  | .fn _ _ _, h => by
    simp [AV.flat] at h
    rw [AV.ren, AV.rens_flat h.1, AV.rens_flat h.2]
  | .nilfn, _ => rfl
  | .iface _ v, h => by
    simp [AV.flat] at h
    rw [AV.ren, AV.ren_flat h]
  | .niliface, _ => rfl
  | .agg _, h => by
    simp [AV.flat] at h
    rw [AV.ren, AV.rens_flat h]
  | .tuple _, h => by
    simp [AV.flat] at h
    rw [AV.ren, AV.rens_flat h]
theorem AV.rens_flat {ρ : Nat → Nat} : ∀ {vs : List AV}, AV.flats vs = true → AV.rens ρ vs = vs
  | [], _ => rfl
  | v :: vs, h => by
    simp [AV.flats] at h
    rw [AV.rens, AV.ren_flat h.1, AV.rens_flat h.2]
end
mutual
theorem VR.ren {φ φ' : List Loc} {ρ : Nat → Nat} (hp : ∀ b l, φ[b]? = some l → φ'[ρ b]? = some l) : ∀ {v : AV} {u : Value}, VR φ v u → VR φ' (v.ren ρ) u
  | _, _, .bad v => .bad v
  | _, _, .bool b => .bool b
  | _, _, .int k n => .int k n
  | _, _, .float k n => .float k n
  | _, _, .nan h => .nan h
  | _, _, .str s => .str s
  | _, _, .nilptr => .nilptr
  | _, _, .ptr h => .ptr (hp _ _ h)
  | _, _, .gptr g o => .gptr g o
  | _, _, .nilsl => .nilsl
  | _, _, .sl h => .sl (hp _ _ h)
  | _, _, .sle h => .sle (hp _ _ h)
  | _, _, .slz a => .slz a
  | _, _, .nilmap => .nilmap
  | _, _, .map h => .map (hp _ _ h)
  | _, _, .yld h => .yld (hp _ _ h)
  | _, _, .opq h => .opq h
  | .fn f _ _, _, .fn _ h1 h2 => .fn f (VRs.ren hp h1) (VRs.ren hp h2)
  | _, _, .nilfn => .nilfn
  | .iface t _, _, .iface _ h => .iface t (VR.ren hp h)
  | _, _, .niliface => .niliface
  | .agg _, _, .agg h => .agg (VRs.ren hp h)
  | .tuple _, _, .tuple h => .tuple (VRs.ren hp h)
theorem VRs.ren {φ φ' : List Loc} {ρ : Nat → Nat} (hp : ∀ b l, φ[b]? = some l → φ'[ρ b]? = some l) : ∀ {v : List AV} {u : List Value}, VRs φ v u → VRs φ' (AV.rens ρ v) u
  | _, _, .nil => .nil
  | _, _, .cons h hs => .cons (VR.ren hp h) (VRs.ren hp hs)
end
mutual
theorem VR.unren {φ φ' : List Loc} {ρ : Nat → Nat} (hp : ∀ b l, φ[ρ b]? = some l → φ'[b]? = some l) : ∀ {v : AV} {u : Value}, VR φ (v.ren ρ) u → VR φ' v u
  | .bad, u, _ => .bad u
  | .bool b, _, h => by rw [AV.ren] at h; cases h; exact .bool b; all_goals nofun
  | .int _ _, _, h => by rw [AV.ren] at h; cases h; exact .int _ _; all_goals nofun
  | .float _ _, _, h => by rw [AV.ren] at h; cases h; exact .float _ _; all_goals nofun
  | .nan _, _, h => by rw [AV.ren] at h; cases h; constructor; assumption; all_goals nofun
  | .str _, _, h => by rw [AV.ren] at h; cases h; exact .str _; all_goals nofun
  | .nilptr, _, h => by rw [AV.ren] at h; cases h; exact .nilptr; all_goals nofun
  | .ptr _ _, _, h => by rw [AV.ren] at h; cases h; rename_i h; exact .ptr (hp _ _ h)
  | .gptr _ _, _, h => by rw [AV.ren] at h; cases h; exact .gptr _ _; all_goals nofun
  | .nilsl, _, h => by rw [AV.ren] at h; cases h; exact .nilsl; all_goals nofun
  | .sl _ _ _ _ _, _, h => by rw [AV.ren] at h; cases h; rename_i h; exact .sl (hp _ _ h)
  | .sle _ _ _, _, h => by rw [AV.ren] at h; cases h; rename_i h; exact .sle (hp _ _ h)
  | .slz, _, h => by rw [AV.ren] at h; cases h; exact .slz _; all_goals nofun
  | .nilmap, _, h => by rw [AV.ren] at h; cases h; exact .nilmap; all_goals nofun
  | .map _, _, h => by rw [AV.ren] at h; cases h; rename_i h; exact .map (hp _ _ h)
  | .yld _, _, h => by rw [AV.ren] at h; cases h; rename_i h; exact .yld (hp _ _ h)
  | .opq, _, h => by rw [AV.ren] at h; cases h; constructor; assumption; all_goals nofun
  | .fn _ _ _, _, h => by rw [AV.ren] at h; cases h; rename_i h1 h2; exact .fn _ (VRs.unren hp h1) (VRs.unren hp h2)
  | .nilfn, _, h => by rw [AV.ren] at h; cases h; exact .nilfn; all_goals nofun
  | .iface _ _, _, h => by rw [AV.ren] at h; cases h; rename_i h; exact .iface _ (VR.unren hp h)
  | .niliface, _, h => by rw [AV.ren] at h; cases h; exact .niliface; all_goals nofun
  | .agg _, _, h => by rw [AV.ren] at h; cases h; rename_i h; exact .agg (VRs.unren hp h)
  | .tuple _, _, h => by rw [AV.ren] at h; cases h; rename_i h; exact .tuple (VRs.unren hp h)
theorem VRs.unren {φ φ' : List Loc} {ρ : Nat → Nat} (hp : ∀ b l, φ[ρ b]? = some l → φ'[b]? = some l) : ∀ {v : List AV} {u : List Value}, VRs φ (AV.rens ρ v) u → VRs φ' v u
  | [], _, h => by rw [AV.rens] at h; cases h; exact .nil
  | _ :: _, _, h => by rw [AV.rens] at h; cases h with | cons h1 h2 => exact .cons (VR.unren hp h1) (VRs.unren hp h2)
end

def ABlk.ren (ρ : Nat → Nat) : ABlk → ABlk
  | .dead => .dead
  | .cells vs e ro => .cells (AV.rens ρ vs) e ro
  | .map es ro => .map (es.map fun p => (p.1.ren ρ, p.2.ren ρ)) ro
  | .siter s p => .siter s p
  | .defr => .defr
  | .loop fr ps as bd st pd db => .loop (AV.rens ρ fr) ps as bd st pd (ρ db)
  | .glob g vs => .glob g (AV.rens ρ vs)
theorem ABlk.ren_own {ρ : Nat → Nat} (k : ABlk) : (k.ren ρ).own = k.own := by cases k <;> rfl
theorem ABlk.ren_dead {ρ : Nat → Nat} {k : ABlk} (h : k.ren ρ = .dead) : k = .dead := by cases k <;> first | rfl | cases h

theorem rens_get {ρ : Nat → Nat} {vs : List AV} {j : Nat} {v : AV} (h : vs[j]? = some v) : (AV.rens ρ vs)[j]? = some (v.ren ρ) := by
  rw [AV.rens_map, List.getElem?_map, h]; rfl
theorem rens_get' {ρ : Nat → Nat} {vs : List AV} {j : Nat} {v : AV} (h : (AV.rens ρ vs)[j]? = some v) : ∃ x, vs[j]? = some x ∧ v = x.ren ρ := by
  rw [AV.rens_map, List.getElem?_map] at h
  cases hv : vs[j]? with
  | none => rw [hv] at h; cases h
  | some x => rw [hv] at h; cases h; exact ⟨x, rfl, rfl⟩
theorem rens_length (ρ : Nat → Nat) (vs : List AV) : (AV.rens ρ vs).length = vs.length := by rw [AV.rens_map, List.length_map]

section
variable {w0 : Base} {w : World} {φ φ' : List Loc} {ρ : Nat → Nat} {l : Loc} {k : ABlk}
theorem EntryR.ren (hp : ∀ b l, φ[b]? = some l → φ'[ρ b]? = some l) : ∀ {es : List (AV × AV)} {ms : List MapEntry}, EntryR φ es ms → EntryR φ' (es.map fun p => (p.1.ren ρ, p.2.ren ρ)) ms
  | [], [], _ => trivial
  | _ :: _, _ :: _, h => ⟨h.1.ren hp, h.2.1.ren hp, EntryR.ren hp h.2.2⟩
  | [], _ :: _, h => h.elim
  | _ :: _, [], h => h.elim
theorem EntryR.unren (hp : ∀ b l, φ[ρ b]? = some l → φ'[b]? = some l) : ∀ {es : List (AV × AV)} {ms : List MapEntry}, EntryR φ (es.map fun p => (p.1.ren ρ, p.2.ren ρ)) ms → EntryR φ' es ms
  | [], [], _ => trivial
  | _ :: _, _ :: _, h => ⟨h.1.unren hp, h.2.1.unren hp, EntryR.unren hp h.2.2⟩
  | [], _ :: _, h => h.elim
  | _ :: _, [], h => h.elim
theorem CellsR.ren (hp : ∀ b l, φ[b]? = some l → φ'[ρ b]? = some l) {vs : List AV} (h : CellsR φ w l vs) : CellsR φ' w l (AV.rens ρ vs) := by
  intro j v hv
  obtain ⟨x, hx, rfl⟩ := rens_get' hv
  obtain ⟨u, h1, h2⟩ := h j x hx
  exact ⟨u, h1.ren hp, h2⟩
theorem CellsR.unren (hp : ∀ b l, φ[ρ b]? = some l → φ'[b]? = some l) {vs : List AV} (h : CellsR φ w l (AV.rens ρ vs)) : CellsR φ' w l vs := by
  intro j v hv
  obtain ⟨u, h1, h2⟩ := h j _ (rens_get hv)
  exact ⟨u, h1.unren hp, h2⟩
theorem BR.ren (hp : ∀ b l, φ[b]? = some l → φ'[ρ b]? = some l) (h : BR w0 φ w l k) : BR w0 φ' w l (k.ren ρ) := by
  cases k with
  | dead => trivial
  | cells vs e ro => cases ro with
    | true => exact ⟨h.1, h.2.1, h.2.2.ren hp⟩
    | false => exact ⟨by have := h.1; rw [rens_length]; exact this, h.2.ren hp⟩
  | map es ro => obtain ⟨h1, ms, c, h2, h3⟩ := h; exact ⟨h1, ms, c, h2, h3.e.ren hp, h3.b⟩
  | siter s p => exact h
  | defr => exact h
  | loop fr ps as bd st pd db => obtain ⟨h1, tm, ld, f, h2, h3, h4⟩ := h; exact ⟨h1, tm, ld, f, hp _ _ h2, h3.ren hp, h4⟩
  | glob g vs => exact ⟨h.1, h.2.1, ⟨h.2.2.1.1, by rw [rens_length]; exact h.2.2.1.2⟩, h.2.2.2.ren hp⟩
theorem BR.unren (hp : ∀ b l, φ[ρ b]? = some l → φ'[b]? = some l) (h : BR w0 φ w l (k.ren ρ)) : BR w0 φ' w l k := by
  cases k with
  | dead => trivial
  | cells vs e ro => cases ro with
    | true => exact ⟨h.1, h.2.1, CellsR.unren hp h.2.2⟩
    | false => exact ⟨by have := h.1; rw [rens_length] at this; exact this, CellsR.unren hp h.2⟩
  | map es ro => obtain ⟨h1, ms, c, h2, h3⟩ := h; exact ⟨h1, ms, c, h2, EntryR.unren hp h3.e, h3.b⟩
  | siter s p => exact h
  | defr => exact h
  | loop fr ps as bd st pd db => obtain ⟨h1, tm, ld, f, h2, h3, h4⟩ := h; exact ⟨h1, tm, ld, f, hp _ _ h2, h3.unren hp, h4⟩
  | glob g vs => exact ⟨h.1, h.2.1, ⟨h.2.2.1.1, by have := h.2.2.1.2; rw [rens_length] at this; exact this⟩, CellsR.unren hp h.2.2.2⟩
end

/-- The block that stands at a place of the part; N: none. -/
def rn (ρ : List Nat) (N b : Nat) : Nat := ρ.getD b N
/-- The places of a part. -/
def selL (φ : List Loc) (ρ : List Nat) : List Loc := ρ.map fun i => φ.getD i ⟨0, 0, 0⟩
structure Sel (ρ : List Nat) (H H2 : AH) : Prop where
  len : H2.length = ρ.length
  lt : ∀ i ∈ ρ, i < H.length
  nd : ρ.Nodup
  blk : ∀ (i : Nat) (k : ABlk), H2[i]? = some k → k = .dead ∨ ∃ j, ρ[i]? = some j ∧ H[j]? = some (k.ren (rn ρ H.length))
theorem selL_get {φ : List Loc} {ρ : List Nat} {b : Nat} {l : Loc} (h : φ[rn ρ φ.length b]? = some l) : (selL φ ρ)[b]? = some l := by
  unfold rn at h
  rw [List.getD_eq_getElem?_getD] at h
  cases hb : ρ[b]? with
  | none => rw [hb] at h; simp at h
  | some i =>
    rw [hb] at h
    simp only [Option.getD_some] at h
    unfold selL
    rw [List.getElem?_map, hb]
    simp [List.getD_eq_getElem?_getD, h]
theorem selL_get' {φ : List Loc} {ρ : List Nat} (hlt : ∀ i ∈ ρ, i < φ.length) {b : Nat} {l : Loc} (h : (selL φ ρ)[b]? = some l) : φ[rn ρ φ.length b]? = some l ∧ ∃ i, ρ[b]? = some i ∧ φ[i]? = some l := by
  unfold selL at h
  rw [List.getElem?_map] at h
  cases hb : ρ[b]? with
  | none => rw [hb] at h; cases h
  | some i =>
    rw [hb] at h
    have hi := hlt i (List.mem_of_getElem? hb)
    simp only [Option.map_some, List.getD_eq_getElem?_getD, List.getElem?_eq_getElem hi, Option.getD_some, Option.some.injEq] at h
    have hr : rn ρ φ.length b = i := by unfold rn; rw [List.getD_eq_getElem?_getD, hb]; rfl
    have hg : φ[i]? = some l := by rw [List.getElem?_eq_getElem hi]; exact congrArg some h
    rw [hr]
    exact ⟨hg, i, rfl, hg⟩
theorem Rel.sel {w0 : Base} {φ : List Loc} {H H2 : AH} {w : World} {ρ : List Nat} (h : Rel w0 φ H w) (s : Sel ρ H H2) : Rel w0 (selL φ ρ) H2 w := by
  have hlt : ∀ i ∈ ρ, i < φ.length := fun i hi => by rw [h.len]; exact s.lt i hi
  refine ⟨by rw [s.len]; simp [selL], h.below, fun b k l hb hl => ?_, fun b b' k k' l l' hb hb' hl hl' o o' he => ?_⟩
  · rcases s.blk b k hb with rfl | ⟨j, h1, h2⟩
    · trivial
    · obtain ⟨_, i, h3, h4⟩ := selL_get' hlt hl
      rw [h1] at h3; cases h3
      have := h.blocks j _ l h2 h4
      rw [← h.len] at this
      exact BR.unren (fun b l hb => selL_get hb) this
  · rcases s.blk b k hb with rfl | ⟨j, h1, h2⟩
    · cases o
    · rcases s.blk b' k' hb' with rfl | ⟨j', h1', h2'⟩
      · cases o'
      · obtain ⟨_, i, h3, h4⟩ := selL_get' hlt hl
        obtain ⟨_, i', h3', h4'⟩ := selL_get' hlt hl'
        rw [h1] at h3; cases h3
        rw [h1'] at h3'; cases h3'
        have hj := h.inj j j' _ _ l l' h2 h2' h4 h4' (by rw [ABlk.ren_own]; exact o) (by rw [ABlk.ren_own]; exact o') he
        subst hj
        have hb1 := (List.getElem?_eq_some_iff.1 h1).1
        exact (List.getElem?_inj hb1 s.nd).1 (h1.trans h1'.symm)
theorem VRs.sel {φ : List Loc} {ρ : List Nat} {v : AV} {u : Value} (h : VR φ (v.ren (rn ρ φ.length)) u) : VR (selL φ ρ) v u := h.unren fun _ _ hb => selL_get hb
end Go.Ve

namespace Go.Ve
open Go Go.RowKit

/-- The slots that code writes. -/
def asgL : Code → List Nat
  | .region _ ops _ => ops.toList.filterMap (·.dst)
  | .seq a b => asgL a ++ asgL b
  | .cond _ x y => asgL x ++ asgL y
  | .block _ b => asgL b
  | .loop b => asgL b
  | .scope b => asgL b
  | _ => []
abbrev SPost := AEx → List AV → AH → List Nat → Prop
def ArB (ar : Option Nat) (n : Nat) : Prop := ∀ b, ar = some b → b < n
/-- What the code's end has to meet. -/
structure SEnd (w0 : Base) (n : Nat) (c : Code) (fr : List AV) (φ : List Loc) (Q : SPost) (ex : AEx) (a' : Act) (w' : World) : Prop where
  out : ∃ fr' H' ds' φ', Q ex fr' H' ds' ∧ (∀ i, i ∉ asgL c → fr'[i]? = fr[i]?) ∧ fr'.length = fr.length ∧ φ'.take n = φ.take n ∧ VRs φ' fr' a'.tmps.toList ∧ Marks φ' ds' a'.defers ∧ Rel w0 φ' H' w'
def SW (P : Program) (ar : Option Nat) (n : Nat) (c : Code) (fr : List AV) (H : AH) (ds : List Nat) (Q : SPost) : Prop :=
  ∀ (w0 : Base) (φ : List Loc) (w : World) (a : Act) (r0 : Option Nat) (R : Exit → Act → World → Prop),
    n ≤ H.length → ArB ar n → ArR φ ar r0 → VRs φ fr a.tmps.toList → Marks φ ds a.defers → Rel w0 φ H w →
    (∀ ex a' w', SEnd w0 n c fr φ Q ex a' w' → R ex.to a' w') → c.wpIn (wideR r0) 0 P R a w

section
variable {P : Program} {ar : Option Nat} {n : Nat} {fr : List AV} {H : AH} {ds : List Nat} {Q : SPost}
theorem take_len {α : Type} {l l' : List α} {n : Nat} (h : l'.take n = l.take n) (hn : n ≤ l.length) : n ≤ l'.length := by
  have h1 := congrArg List.length h
  simp only [List.length_take] at h1
  omega
theorem take_get {α : Type} {l l' : List α} {n b : Nat} (h : l'.take n = l.take n) (hb : b < n) : l'[b]? = l[b]? := by
  have h1 : (l'.take n)[b]? = (l.take n)[b]? := by rw [h]
  rwa [List.getElem?_take_of_lt hb, List.getElem?_take_of_lt hb] at h1
theorem ArR.take {φ φ' : List Loc} {r0 : Option Nat} (h : φ'.take n = φ.take n) (hb : ArB ar n) (ha : ArR φ ar r0) : ArR φ' ar r0 := by
  cases ar with
  | none => exact ha
  | some b => obtain ⟨l, h1, h2⟩ := ha; exact ⟨l, (take_get h (hb b rfl)).trans h1, h2⟩
theorem Ext.take {φ φ' : List Loc} (h : Ext φ φ') (hn : n ≤ φ.length) : φ'.take n = φ.take n := by
  obtain ⟨t, rfl⟩ := h
  exact List.take_append_of_le_length hn

theorem SW.mono {c : Code} {Q' : SPost} (h : SW P ar n c fr H ds Q) (hq : ∀ ex fr H ds, Q ex fr H ds → Q' ex fr H ds) : SW P ar n c fr H ds Q' := by
  intro w0 φ w a r0 R hn hb har ha hm hr hR
  refine h w0 φ w a r0 R hn hb har ha hm hr fun ex a' w' he => hR ex a' w' ?_
  obtain ⟨fr', H', ds', φ', h1, h2⟩ := he.out
  exact ⟨fr', H', ds', φ', hq _ _ _ _ h1, h2⟩
theorem SW.here {c : Code} {ex : AEx} (hc : ∀ {F : Fence} {R : Exit → Act → World → Prop} {a : Act} {w : World}, R ex.to a w → c.wpIn F 0 P R a w) (h : Q ex fr H ds) : SW P ar n c fr H ds Q := by
  intro w0 φ w a r0 R hn hb har ha hm hr hR
  exact hc (hR ex a w ⟨fr, H, ds, φ, h, fun _ _ => rfl, rfl, rfl, ha, hm, hr⟩)
theorem SW.skip (h : Q .normal fr H ds) : SW P ar n .skip fr H ds Q := SW.here (ex := .normal) (fun h => wpIn_skip h) h
theorem SW.label {l : Nat} (h : Q .normal fr H ds) : SW P ar n (.label l) fr H ds Q := SW.here (ex := .normal) (fun h => wpIn_label h) h
theorem SW.exit {i : Nat} (h : Q (.exit i) fr H ds) : SW P ar n (.exit i) fr H ds Q := SW.here (ex := .exit i) (fun h => wpIn_exit h) h
theorem SW.ret (h : Q .ret fr H ds) : SW P ar n .ret fr H ds Q := SW.here (ex := .ret) (fun h => wpIn_ret h) h
def sthen (K : List AV → AH → List Nat → Prop) (Q : SPost) : SPost
  | .normal, fr, H, ds => K fr H ds
  | .exit i, fr, H, ds => Q (.exit i) fr H ds
  | .ret, fr, H, ds => Q .ret fr H ds
theorem SW.seq {x y : Code} (h : SW P ar n x fr H ds (sthen (fun fr H ds => SW P ar n y fr H ds Q) Q)) : SW P ar n (.seq x y) fr H ds Q := by
  intro w0 φ w a r0 R hn hb har ha hm hr hR
  refine wpIn_seq (h w0 φ w a r0 _ hn hb har ha hm hr fun ex a' w' he => ?_)
  obtain ⟨fr', H', ds', φ', h1, h2, h3, h4, h5, h6, h7⟩ := he.out
  have hn' : n ≤ H'.length := by rw [← h7.len]; exact take_len h4 (by rw [hr.len]; exact hn)
  cases ex with
  | normal =>
    refine h1 w0 φ' w' a' r0 R hn' hb (har.take h4 hb) h5 h6 h7 fun ex2 a2 w2 he2 => hR ex2 a2 w2 ?_
    obtain ⟨fr2, H2, ds2, φ2, g1, g2, g3, g4, g5⟩ := he2.out
    refine ⟨fr2, H2, ds2, φ2, g1, fun i hi => ?_, g3.trans h3, g4.trans h4, g5⟩
    simp only [asgL, List.mem_append, not_or] at hi
    exact (g2 i hi.2).trans (h2 i hi.1)
  | exit i => exact hR (.exit i) a' w' ⟨fr', H', ds', φ', h1, fun j hj => h2 j (fun hj2 => hj (by simp only [asgL, List.mem_append]; exact Or.inl hj2)), h3, h4, h5, h6, h7⟩
  | ret => exact hR .ret a' w' ⟨fr', H', ds', φ', h1, fun j hj => h2 j (fun hj2 => hj (by simp only [asgL, List.mem_append]; exact Or.inl hj2)), h3, h4, h5, h6, h7⟩
theorem SW.cond {c : Operand} {x y : Code} {t : Bool} (hc : aeval fr c = .bool t) (h1 : t = true → SW P ar n x fr H ds Q) (h2 : t = false → SW P ar n y fr H ds Q) : SW P ar n (.cond c x y) fr H ds Q := by
  intro w0 φ w a r0 R hn hb har ha hm hr hR
  have hv := aeval_ok ha c
  rw [hc] at hv
  generalize hcu : a.eval c = cu at hv
  cases hv
  cases t with
  | true =>
    refine wpIn_cond_true hcu (h1 rfl w0 φ w a r0 R hn hb har ha hm hr fun ex a' w' he => hR ex a' w' ?_)
    obtain ⟨fr', H', ds', φ', g1, g2, g3⟩ := he.out
    exact ⟨fr', H', ds', φ', g1, fun j hj => g2 j (fun hj2 => hj (by simp only [asgL, List.mem_append]; exact Or.inl hj2)), g3⟩
  | false =>
    refine wpIn_cond_false hcu (h2 rfl w0 φ w a r0 R hn hb har ha hm hr fun ex a' w' he => hR ex a' w' ?_)
    obtain ⟨fr', H', ds', φ', g1, g2, g3⟩ := he.out
    exact ⟨fr', H', ds', φ', g1, fun j hj => g2 j (fun hj2 => hj (by simp only [asgL, List.mem_append]; exact Or.inr hj2)), g3⟩
def sblock (id : Nat) (Q : SPost) : SPost
  | .exit i, fr, H, ds => bif Nat.beq i id then Q .normal fr H ds else Q (.exit i) fr H ds
  | .normal, fr, H, ds => Q .normal fr H ds
  | .ret, fr, H, ds => Q .ret fr H ds
theorem SW.block {id : Nat} {b : Code} (h : SW P ar n b fr H ds (sblock id Q)) : SW P ar n (.block id b) fr H ds Q := by
  intro w0 φ w a r0 R hn hb har ha hm hr hR
  refine wpIn_block (h w0 φ w a r0 _ hn hb har ha hm hr fun ex a' w' he => ?_)
  obtain ⟨fr', H', ds', φ', h1, h2⟩ := he.out
  cases ex with
  | normal => exact hR .normal a' w' ⟨fr', H', ds', φ', h1, h2⟩
  | ret => exact hR .ret a' w' ⟨fr', H', ds', φ', h1, h2⟩
  | exit i =>
    simp only [sblock] at h1
    by_cases hi : i = id
    · subst hi
      rw [Nat.beq_refl] at h1
      have := hR .normal a' w' ⟨fr', H', ds', φ', h1, h2⟩
      simpa [Exit.inBlock, AEx.to] using this
    · have hf : Nat.beq i id = false := by
        cases hbq : Nat.beq i id with
        | false => rfl
        | true => exact absurd (Nat.eq_of_beq_eq_true hbq) hi
      rw [hf] at h1
      have := hR (.exit i) a' w' ⟨fr', H', ds', φ', h1, h2⟩
      simpa [Exit.inBlock, AEx.to, hi] using this
theorem SW.scope {b : Code} (h : SW P ar n b fr H ds Q) : SW P ar n (.scope b) fr H ds Q := by
  intro w0 φ w a r0 R hn hb har ha hm hr hR
  refine wpIn_scope_straight (h w0 φ w a r0 _ hn hb har ha hm hr fun ex a' w' he => ?_)
  have := hR ex a' w' ⟨he.out⟩
  cases ex <;> exact this
end

/-! ### Frame and memory seen otherwise -/
/-- One block, seen as another, blocks being renamed. -/
def BlkLe (N : Nat) (ρ : Nat → Nat) (k s : ABlk) : Prop :=
  (∀ (w0 : Base) (φ φ' : List Loc) (w : World) (l : Loc), φ.length = N → (∀ b l, φ[ρ b]? = some l → φ'[b]? = some l) → BR w0 φ w l s → BR w0 φ' w l k) ∧ (k.own = true → s.own = true)
structure SelG (ρ : List Nat) (H H2 : AH) : Prop where
  len : H2.length = ρ.length
  lt : ∀ i ∈ ρ, i < H.length
  nd : ρ.Nodup
  blk : ∀ (i : Nat) (k : ABlk), H2[i]? = some k → k = .dead ∨ ∃ j s, ρ[i]? = some j ∧ H[j]? = some s ∧ BlkLe H.length (rn ρ H.length) k s
theorem Rel.selG {w0 : Base} {φ : List Loc} {H H2 : AH} {w : World} {ρ : List Nat} (h : Rel w0 φ H w) (s : SelG ρ H H2) : Rel w0 (selL φ ρ) H2 w := by
  have hlt : ∀ i ∈ ρ, i < φ.length := fun i hi => by rw [h.len]; exact s.lt i hi
  refine ⟨by rw [s.len]; simp [selL], h.below, fun b k l hb hl => ?_, fun b b' k k' l l' hb hb' hl hl' o o' he => ?_⟩
  · rcases s.blk b k hb with rfl | ⟨j, sk, h1, h2, h3⟩
    · trivial
    · obtain ⟨_, i, h4, h5⟩ := selL_get' hlt hl
      rw [h1] at h4; cases h4
      refine h3.1 w0 φ _ w l h.len (fun b l hb => ?_) (h.blocks j _ l h2 h5)
      rw [← h.len] at hb
      exact selL_get hb
  · rcases s.blk b k hb with rfl | ⟨j, sk, h1, h2, h3⟩
    · cases o
    · rcases s.blk b' k' hb' with rfl | ⟨j', sk', h1', h2', h3'⟩
      · cases o'
      · obtain ⟨_, i, h4, h5⟩ := selL_get' hlt hl
        obtain ⟨_, i', h4', h5'⟩ := selL_get' hlt hl'
        rw [h1] at h4; cases h4
        rw [h1'] at h4'; cases h4'
        have hj := h.inj j j' _ _ l l' h2 h2' h5 h5' (h3.2 o) (h3'.2 o') he
        subst hj
        have hb1 := (List.getElem?_eq_some_iff.1 h1).1
        exact (List.getElem?_inj hb1 s.nd).1 (h1.trans h1'.symm)
/-- One value, seen as another. -/
def ValLe (N : Nat) (ρ : Nat → Nat) (t s : AV) : Prop := ∀ (φ φ' : List Loc) (u : Value), φ.length = N → (∀ b l, φ[ρ b]? = some l → φ'[b]? = some l) → VR φ s u → VR φ' t u
structure Wk (n : Nat) (fr : List AV) (H : AH) (ds : List Nat) (fr2 : List AV) (H2 : AH) : Prop where
  out : ∃ ρ : List Nat, SelG ρ H H2 ∧ (∀ i, i < n → ρ[i]? = some i) ∧ fr2.length = fr.length ∧ (∀ (i : Nat) (v2 v : AV), fr2[i]? = some v2 → fr[i]? = some v → ValLe H.length (rn ρ H.length) v2 v) ∧ (∀ d ∈ ds, d < n)
theorem Marks.take {φ φ' : List Loc} {n : Nat} (h : φ'.take n = φ.take n) : ∀ {ds : List Nat} {D : List Deferred}, (∀ d ∈ ds, d < n) → Marks φ ds D → Marks φ' ds D
  | [], _, _, h => h
  | b :: ds, _, hd, ⟨l, D', h1, h2, h3⟩ => ⟨l, D', (take_get h (hd b (by simp))).trans h1, h2, Marks.take h (fun d hd' => hd d (by simp [hd'])) h3⟩
theorem Wk.ok {w0 : Base} {φ : List Loc} {w : World} {n : Nat} {fr : List AV} {H : AH} {ds : List Nat} {fr2 : List AV} {H2 : AH} {us : List Value} (h : Wk n fr H ds fr2 H2) (hn : n ≤ H.length) (ha : VRs φ fr us) (hr : Rel w0 φ H w) :
    ∃ φ2, φ2.take n = φ.take n ∧ VRs φ2 fr2 us ∧ Rel w0 φ2 H2 w ∧ ∀ D, Marks φ ds D → Marks φ2 ds D := by
  obtain ⟨ρ, h1, h2, h3, h4, h5⟩ := h.out
  have hlt : ∀ i ∈ ρ, i < φ.length := fun i hi => by rw [hr.len]; exact h1.lt i hi
  have htake : (selL φ ρ).take n = φ.take n := by
    apply List.ext_getElem?
    intro i
    by_cases hi : i < n
    · rw [List.getElem?_take_of_lt hi, List.getElem?_take_of_lt hi]
      unfold selL
      have hφ : i < φ.length := by rw [hr.len]; omega
      rw [List.getElem?_map, h2 i hi, List.getElem?_eq_getElem hφ]
      simp [List.getD_eq_getElem?_getD, List.getElem?_eq_getElem hφ]
    · have e1 : ((selL φ ρ).take n)[i]? = none := by rw [List.getElem?_eq_none]; simp; omega
      have e2 : (φ.take n)[i]? = none := by rw [List.getElem?_eq_none]; simp; omega
      rw [e1, e2]
  refine ⟨selL φ ρ, htake, ?_, hr.selG h1, fun D hD => hD.take htake h5⟩
  refine VRs.of_get (by rw [h3]; exact ha.length) fun j v u hv hu => ?_
  have hjl : j < fr.length := by rw [← h3]; exact (List.getElem?_eq_some_iff.1 hv).1
  have hv0 : fr[j]? = some fr[j] := List.getElem?_eq_getElem hjl
  obtain ⟨u', g1, g2⟩ := ha.get hv0
  rw [hu] at g1; cases g1
  refine h4 j v _ hv hv0 φ _ u hr.len (fun b l hb => ?_) g2
  rw [← hr.len] at hb
  exact selL_get hb

/-- A loop: what holds at each round's head, told by shapes. -/
theorem SW.loop {P : Program} {ar : Option Nat} {n : Nat} {fr : List AV} {H : AH} {ds : List Nat} {Q : SPost} {b : Code} {S : Type 1} (F : S → List AV) (G : S → AH) (ok : S → Prop) (μ : S → Nat)
    (hF : ∀ s, ok s → (F s).length = fr.length ∧ ∀ i, i ∉ asgL b → (F s)[i]? = fr[i]?)
    (h0 : ∃ s, ok s ∧ Wk n fr H ds (F s) (G s))
    (hb : ∀ s, ok s → SW P ar n b (F s) (G s) ds (sthen (fun fr' H' ds' => ds' = ds ∧ ∃ t, ok t ∧ μ t < μ s ∧ ((∀ i, i ∉ asgL b → fr'[i]? = fr[i]?) → fr'.length = fr.length → Wk n fr' H' ds (F t) (G t))) Q)) : SW P ar n (.loop b) fr H ds Q := by
  intro w0 φ w a r0 R hn har hAR ha hm hr hR
  have key : ∀ m s φ1 w1 (a1 : Act), μ s < m → ok s → φ1.take n = φ.take n → VRs φ1 (F s) a1.tmps.toList → Marks φ1 ds a1.defers → Rel w0 φ1 (G s) w1 → Code.roundsIn (wideR r0) 0 P b R m a1 w1 := by
    intro m
    induction m with
    | zero => intro s _ _ _ h; omega
    | succ m ih =>
      intro s φ1 w1 a1 hμ hok ht ha1 hm1 hr1
      rw [roundsIn_succ]
      have hn1 : n ≤ (G s).length := by rw [← hr1.len]; exact take_len ht (by rw [hr.len]; exact hn)
      refine hb s hok w0 φ1 w1 a1 r0 _ hn1 har (hAR.take ht har) ha1 hm1 hr1 fun ex a2 w2 he => ?_
      obtain ⟨fr', H', ds', φ2, g1, g2, g3, g4, g5, g6, g7⟩ := he.out
      have hn2 : n ≤ H'.length := by rw [← g7.len]; exact take_len (g4.trans ht) (by rw [hr.len]; exact hn)
      have fin : ∀ ex : AEx, Q ex fr' H' ds' → R ex.to a2 w2 := fun ex hq => hR ex a2 w2 ⟨fr', H', ds', φ2, hq, fun i hi => (g2 i hi).trans ((hF s hok).2 i hi), g3.trans (hF s hok).1, g4.trans ht, g5, g6, g7⟩
      cases ex with
      | normal =>
        obtain ⟨rfl, t, h1, h2, h3⟩ := g1
        obtain ⟨φ3, k1, k2, k3, k4⟩ := (h3 (fun i hi => (g2 i hi).trans ((hF s hok).2 i hi)) (g3.trans (hF s hok).1)).ok hn2 g5 g7
        exact ih t φ3 w2 a2 (by omega) h1 (k1.trans (g4.trans ht)) k2 (k4 _ g6) k3
      | exit i => exact fin (.exit i) g1
      | ret => exact fin .ret g1
  obtain ⟨s, h1, h2⟩ := h0
  obtain ⟨φ3, k1, k2, k3, k4⟩ := h2.ok hn ha hr
  exact wpIn_loop_rounds (μ s + 1) (key _ s φ3 w a (by omega) h1 k1 k2 (k4 _ hm) k3)

/-- A sequence, cut: what stands between is told anew. -/
theorem SW.seqCut {P : Program} {ar : Option Nat} {n : Nat} {fr : List AV} {H : AH} {ds : List Nat} {Q : SPost} {x y : Code} {S : Type 1} (F : S → List AV) (G : S → AH) (ok : S → Prop)
    (hF : ∀ s, ok s → (F s).length = fr.length ∧ ∀ i, i ∉ asgL x → (F s)[i]? = fr[i]?)
    (hx : SW P ar n x fr H ds (sthen (fun fr' H' ds' => ds' = ds ∧ ∃ t, ok t ∧ ((∀ i, i ∉ asgL x → fr'[i]? = fr[i]?) → fr'.length = fr.length → Wk n fr' H' ds (F t) (G t))) Q))
    (hy : ∀ s, ok s → SW P ar n y (F s) (G s) ds Q) : SW P ar n (.seq x y) fr H ds Q := by
  intro w0 φ w a r0 R hn hb har ha hm hr hR
  refine wpIn_seq (hx w0 φ w a r0 _ hn hb har ha hm hr fun ex a' w' he => ?_)
  obtain ⟨fr', H', ds', φ', h1, h2, h3, h4, h5, h6, h7⟩ := he.out
  have hn' : n ≤ H'.length := by rw [← h7.len]; exact take_len h4 (by rw [hr.len]; exact hn)
  have mem : ∀ {i}, i ∉ asgL (.seq x y) → i ∉ asgL x ∧ i ∉ asgL y := fun hi => by simpa only [asgL, List.mem_append, not_or] using hi
  cases ex with
  | normal =>
    obtain ⟨rfl, t, k0, hw⟩ := h1
    obtain ⟨φ3, k1, k2, k3, k4⟩ := (hw h2 h3).ok hn' h5 h7
    have hn1 : n ≤ (G t).length := by rw [← k3.len]; exact take_len (k1.trans h4) (by rw [hr.len]; exact hn)
    refine hy t k0 w0 φ3 w' a' r0 R hn1 hb (har.take (k1.trans h4) hb) k2 (k4 _ h6) k3 fun ex2 a2 w2 he2 => hR ex2 a2 w2 ?_
    obtain ⟨fr2, H2, ds2, φ2, g1, g2, g3, g4, g5⟩ := he2.out
    exact ⟨fr2, H2, ds2, φ2, g1, fun i hi => (g2 i (mem hi).2).trans ((hF t k0).2 i (mem hi).1), g3.trans (hF t k0).1, g4.trans (k1.trans h4), g5⟩
  | exit i => exact hR (.exit i) a' w' ⟨fr', H', ds', φ', h1, fun j hj => h2 j (mem hj).1, h3, h4, h5, h6, h7⟩
  | ret => exact hR .ret a' w' ⟨fr', H', ds', φ', h1, fun j hj => h2 j (mem hj).1, h3, h4, h5, h6, h7⟩

/-! ### Calls -/
def SCEnd (w0 : Base) (φ : List Loc) (K : AV → AH → Prop) (e : Ending) (w' : World) : Prop := ∃ u v H' φ', K v H' ∧ e = .returned u ∧ Ext φ φ' ∧ VR φ' v u ∧ Rel w0 φ' H' w'
def SC (P : Program) (f : FuncId) (args : List AV) (H : AH) (K : AV → AH → Prop) : Prop :=
  ∀ w0 φ w us, Rel w0 φ H w → VRs φ args us.toList → Calls P f us w (SCEnd w0 φ K)
theorem SC.mono {P : Program} {f : FuncId} {args : List AV} {H : AH} {K K' : AV → AH → Prop} (h : SC P f args H K) (hk : ∀ v H, K v H → K' v H) : SC P f args H K' := by
  intro w0 φ w us hr ha
  refine (h w0 φ w us hr ha).mono ?_
  rintro e w' ⟨u, v, H', φ', h1, h2⟩
  exact ⟨u, v, H', φ', hk _ _ h1, h2⟩
/-- What a call is said to do, as the oracle says it. -/
theorem SC.of_call {P : Program} {call : CallF} (hC : CallOk P call) {f : FuncId} {args : List AV} {H : AH} {v : AV} {ch : Option (AH × Nat)} (h : call f args H = some (v, ch)) : SC P f args H (fun v' H' => v' = v ∧ H' = chH H ch) := by
  intro w0 φ w us hr ha
  refine ((hC _ _ _ _ _ h).1 w0 φ w us hr ha).mono ?_
  rintro e w' ⟨u, φ', rfl, h2, h3, h4⟩
  exact ⟨u, v, _, φ', ⟨rfl, rfl⟩, rfl, h2, h3, rel_chH h4⟩
/-- At a body's end: the results, and the memory. -/
def retK (P : Program) (rs : List ResultVar) (n : Nat) (K : AV → AH → Prop) : SPost := fun ex fr H ds =>
  match ex with
  | .exit _ => False
  | _ => bif allDefr n ds H then (match aresults P fr (killAll ds H) rs with | some vs => K (oneOf vs) (killAll ds H) | none => False) else False
theorem SC.body {P : Program} {f : FuncId} {fn : Func} {c : Code} {args : List AV} {H : AH} {K : AV → AH → Prop} (hf : P.funcs[f]? = some fn) (hb : fn.body = some c)
    (h : SW P none H.length c (args ++ List.replicate (fn.ntmps - args.length) (.tuple [])) H [] (retK P fn.results.toList H.length K)) : SC P f args H K := by
  intro w0 φ w us hr hargs
  refine (callsIn_wide (n := 0)).1 (callsIn_of_wp_marks hf hb trivial ?_)
  have hlen := hargs.length
  simp only [Array.length_toList] at hlen
  refine h w0 φ w _ none _ (Nat.le_refl _) (fun b hb => by cases hb) rfl ?_ rfl hr ?_
  · show VRs φ _ (us ++ Array.replicate (fn.ntmps - us.size) undef).toList
    rw [Array.toList_append, Array.toList_replicate, hlen]
    exact hargs.append (VRs.replicate _ (.tuple .nil))
  · intro ex a' w' he
    obtain ⟨fr', H', ds', φ', h1, _, _, h4, h5, h6, h7⟩ := he.out
    have hx : Ext φ φ' := by
      rw [← hr.len, List.take_length] at h4
      exact ⟨φ'.drop φ.length, (by have := List.take_append_drop φ.length φ'; rw [h4] at this; exact this.symm)⟩
    have main : (bif allDefr H.length ds' H' then (match aresults P fr' (killAll ds' H') fn.results.toList with | some vs => K (oneOf vs) (killAll ds' H') | none => False) else False) → LeavesInM Fence.wide 0 P fn a'.tmps (SCEnd w0 φ K) a'.defers .returning w' := by
      intro hk
      cases hd : allDefr H.length ds' H' with
      | false => rw [hd] at hk; exact hk.elim
      | true =>
        rw [hd] at hk
        simp only [cond_true] at hk
        split at hk
        · rename_i vs hvs
          refine leavesM h6 h7 hd fun w2 hr2 => ?_
          obtain ⟨u, g1, g2⟩ := results_ok (P := P) hr2 h5 hvs
          exact ⟨u, g2, u, oneOf vs, _, φ', hk, rfl, hx, g1, hr2⟩
        · exact hk.elim
    cases ex with
    | normal => exact main h1
    | ret => exact main h1
    | exit i => exact False.elim h1
end Go.Ve

namespace Go.Ve
open Go Go.RowKit

/-- What is told of an operation or of a call. -/
inductive SR : Type 1 where
  | ok (v : AV) (ch : Option AH)
  | need (b : Bool) (r : SR)
  | needP (p : Prop) (r : SR)
  | br (t : Bool) (x y : SR)
  | all (X : Type) (p : X → Prop) (f : X → SR)
  | call (f : FuncId) (args : List AV)
  | round (b : Nat) (fr : List AV) (assign body : Code)
abbrev CallP := FuncId → List AV → AH → (AV → AH → Prop) → Prop
abbrev RndP := Nat → List AV → Code → Code → AH → (AV → AH → Prop) → Prop
def chN (H : AH) : Option AH → AH
  | none => H
  | some H' => H'
def SR.run (call : CallP) (rnd : RndP) (H : AH) (k : AV → Option AH → Prop) : SR → Prop
  | .ok v ch => k v ch
  | .need b r => cond b (r.run call rnd H k) False
  | .needP p r => p ∧ r.run call rnd H k
  | .br t x y => cond t (x.run call rnd H k) (y.run call rnd H k)
  | .all _ p f => ∀ x, p x → (f x).run call rnd H k
  | .call f args => call f args H fun v H' => k v (some H')
  | .round b fr as bd => rnd b fr as bd H fun v H' => k v (some H')
def AO.run (call : CallP) (rnd : RndP) (H : AH) (k : AV → Option AH → Prop) : AO → Prop
  | .val v none => k v none
  | .val v (some c) => k v (some c.1)
  | .call f args => call f args H fun v H' => k v (some H')
  | .round b fr as bd => rnd b fr as bd H fun v H' => k v (some H')
theorem cond_need {b : Bool} {p : Prop} (h : cond b p False) : b = true ∧ p := by
  cases b with
  | true => exact ⟨rfl, h⟩
  | false => exact h.elim
theorem need_intro {b : Bool} {p : Prop} (hb : b = true) (h : p) : cond b p False := by subst hb; exact h
theorem cond_intro {b : Bool} {p q : Prop} (h1 : b = true → p) (h2 : b = false → q) : cond b p q := by
  cases b with
  | true => exact h1 rfl
  | false => exact h2 rfl

/-- What a hint says of a slot. -/
noncomputable def hintOf (hs : List (Nat × AV)) (d : Option Tmp) : Option AV :=
  match d with
  | none => none
  | some d => List.rec (motive := fun _ => Option AV) none (fun p _ ih => Bool.rec (motive := fun _ => Option AV) ih (some p.2) (Nat.beq p.1 d)) hs

section
variable {P : Program}
def leI (a b : Int) : Bool :=
  match a, b with
  | .ofNat m, .ofNat n => Nat.ble m n
  | .negSucc _, .ofNat _ => true
  | .ofNat _, .negSucc _ => false
  | .negSucc m, .negSucc n => Nat.ble n m
theorem leI_eq (a b : Int) : leI a b = decide (a ≤ b) := by
  have key : ∀ {p : Bool} {q : Prop} [Decidable q], (p = true ↔ q) → p = decide q := fun {p q _} h => by cases p <;> simp_all
  apply key
  cases a <;> cases b <;> simp [leI, Nat.ble_eq] <;> omega
def inK : IntKind → Int → Bool
  | .i8, n => Bool.and (leI (-128) n) (leI n 127)
  | .i16, n => Bool.and (leI (-32768) n) (leI n 32767)
  | .i32, n => Bool.and (leI (-2147483648) n) (leI n 2147483647)
  | .i64, n => Bool.and (leI (-9223372036854775808) n) (leI n 9223372036854775807)
  | .u8, n => Bool.and (leI 0 n) (leI n 255)
  | .u16, n => Bool.and (leI 0 n) (leI n 65535)
  | .u32, n => Bool.and (leI 0 n) (leI n 4294967295)
  | .u64, n => Bool.and (leI 0 n) (leI n 18446744073709551615)
theorem wrap_inK {k : IntKind} {n : Int} (h : inK k n = true) : k.wrap n = n := by
  cases k <;> simp only [inK, leI_eq, Bool.and_eq_true, decide_eq_true_eq] at h <;> simp only [IntKind.wrap, IntKind.signed, IntKind.bits] <;> simp <;> omega
def rngS (k : IntKind) (n : Int) : SR := .need (inK k n) (.ok (.int k n) none)
def sBinI (op : BinOp) (k : IntKind) (a b : Int) : Option SR :=
  match op with
  | .add => some (rngS k (a + b))
  | .sub => some (rngS k (a - b))
  | .mul => some (rngS k (a * b))
  | .quo => some (.need (Bool.and (leI 0 a) (Bool.and (ltI 0 b) (inK k a))) (.ok (.int k (a / b)) none))
  | .rem => some (.need (Bool.and (leI 0 a) (ltI 0 b)) (.ok (.int k (a % b)) none))
  | .eql => some (.ok (.bool (eqI a b)) none)
  | .neq => some (.ok (.bool (!eqI a b)) none)
  | .lss => some (.ok (.bool (ltI a b)) none)
  | .gtr => some (.ok (.bool (ltI b a)) none)
  | .leq => some (.ok (.bool (leI a b)) none)
  | .geq => some (.ok (.bool (leI b a)) none)
  | _ => none
theorem abinOp_int {op : BinOp} {t : TypeId} {xo yo : Operand} {k : IntKind} {a b : Int} {u : Value} (hu : (pureRun P (do eqGuard op t xo yo (.int k a) (.int k b); binOp op t (.int k a) (.int k b) : Sem Value)) = some u) : abinOp P op t xo yo (.int k a) (.int k b) = some (ofV1 u) := by
  unfold abinOp
  simp only [AV.sc]
  rw [hu]
  rfl
theorem inK_quo {k : IntKind} {a b : Int} (h0 : 0 ≤ a) (hb : 0 < b) (h : inK k a = true) : inK k (a / b) = true := by
  have h1 := Int.ediv_nonneg h0 (Int.le_of_lt hb)
  have h2 : a / b ≤ a := Int.ediv_le_self _ h0
  cases k <;> simp only [inK, leI_eq, Bool.and_eq_true, decide_eq_true_eq] at h ⊢ <;> omega
theorem sBinI_ok {op : BinOp} {t : TypeId} {xo yo : Operand} {k : IntKind} {a b : Int} {r : SR} (h : sBinI op k a b = some r) {call : CallP} {rnd : RndP} {H : AH} {K : AV → Option AH → Prop} (hr : r.run call rnd H K) :
    ∃ v, abinOp P op t xo yo (.int k a) (.int k b) = some v ∧ K v none := by
  have rg : ∀ n : Int, (rngS k n).run call rnd H K → (∀ u, u = Value.int k (k.wrap n) → abinOp P op t xo yo (.int k a) (.int k b) = some (ofV1 u)) → ∃ v, abinOp P op t xo yo (.int k a) (.int k b) = some v ∧ K v none := by
    intro n hn hu
    obtain ⟨h1, h2⟩ := cond_need hn
    refine ⟨_, hu _ rfl, ?_⟩
    rw [wrap_inK h1]
    exact h2
  have bl : ∀ c : Bool, K (.bool c) none → (∀ u, u = Value.bool c → abinOp P op t xo yo (.int k a) (.int k b) = some (ofV1 u)) → ∃ v, abinOp P op t xo yo (.int k a) (.int k b) = some v ∧ K v none := fun c hk hu => ⟨_, hu _ rfl, hk⟩
  unfold sBinI at h
  split at h <;> cases h
  · exact rg _ hr fun u hu => abinOp_int (by subst hu; cases k <;> rfl)
  · exact rg _ hr fun u hu => abinOp_int (by subst hu; cases k <;> rfl)
  · exact rg _ hr fun u hu => abinOp_int (by subst hu; cases k <;> rfl)
  · obtain ⟨h1, h2⟩ := cond_need hr
    simp only [leI_eq, ltI_eq, Bool.and_eq_true, decide_eq_true_eq] at h1
    obtain ⟨h0, hb, hk⟩ := h1
    have hu : (pureRun P (do eqGuard .quo t xo yo (.int k a) (.int k b); binOp .quo t (.int k a) (.int k b) : Sem Value)) = some (.int k (k.wrap (Int.tdiv a b))) := by
      have hne : ¬ b = 0 := by omega
      cases k <;> (show pureRun P (Op.intDiv .quo _ a b) = _; simp only [Op.intDiv, if_neg hne]; rfl)
    refine ⟨_, abinOp_int hu, ?_⟩
    rw [Int.tdiv_eq_ediv_of_nonneg h0, wrap_inK (inK_quo h0 hb hk)]
    exact h2
  · obtain ⟨h1, h2⟩ := cond_need hr
    simp only [leI_eq, ltI_eq, Bool.and_eq_true, decide_eq_true_eq] at h1
    obtain ⟨h0, hb⟩ := h1
    have hu : (pureRun P (do eqGuard .rem t xo yo (.int k a) (.int k b); binOp .rem t (.int k a) (.int k b) : Sem Value)) = some (.int k (Int.tmod a b)) := by
      have hne : ¬ b = 0 := by omega
      cases k <;> (show pureRun P (Op.intDiv .rem _ a b) = _; simp only [Op.intDiv, if_neg hne]; rfl)
    refine ⟨_, abinOp_int hu, ?_⟩
    rw [Int.tmod_eq_emod_of_nonneg h0]
    exact h2
  · exact bl _ hr fun u hu => abinOp_int (by subst hu; rw [eqI_eq]; cases k <;> rfl)
  · exact bl _ hr fun u hu => abinOp_int (by subst hu; rw [eqI_eq]; cases k <;> rfl)
  · exact bl _ hr fun u hu => abinOp_int (by subst hu; rw [ltI_eq]; cases k <;> rfl)
  · exact bl _ hr fun u hu => abinOp_int (by subst hu; rw [ltI_eq]; cases k <;> rfl)
  · exact bl _ hr fun u hu => abinOp_int (by subst hu; rw [leI_eq]; cases k <;> rfl)
  · exact bl _ hr fun u hu => abinOp_int (by subst hu; rw [leI_eq]; cases k <;> rfl)

/-- A byte of a text. -/
def byteAt (s : List UInt8) (i : Nat) : Int := ((s.getD i 0).toNat : Int)
def sBinS (op : BinOp) (a b : List UInt8) : Option SR :=
  match op with
  | .add => some (.need (decide (a.length + b.length ≤ maxLen)) (.ok (.str (a ++ b)) none))
  | .eql => some (.ok (.bool (decide (a = b))) none)
  | .neq => some (.ok (.bool (!decide (a = b))) none)
  | .lss => some (.ok (.bool (Op.bytesLess a b)) none)
  | .geq => some (.ok (.bool (!Op.bytesLess a b)) none)
  | _ => none
theorem beq_dec (a b : List UInt8) : (a == b) = decide (a = b) := by
  by_cases h : a = b
  · simp [h]
  · simp [h]
theorem sBinS_ok {op : BinOp} {t : TypeId} {xo yo : Operand} {a b : List UInt8} {r : SR} (h : sBinS op a b = some r) {call : CallP} {rnd : RndP} {H : AH} {K : AV → Option AH → Prop} (hr : r.run call rnd H K) :
    ∃ v, abinOp P op t xo yo (.str a) (.str b) = some v ∧ K v none := by
  unfold sBinS at h
  split at h <;> cases h
  · obtain ⟨h1, h2⟩ := cond_need hr
    exact ⟨_, by simp only [abinOp, astrOp, if_pos (of_decide_eq_true h1)], h2⟩
  · exact ⟨_, by simp only [abinOp, astrOp, beq_dec], hr⟩
  · exact ⟨_, by simp only [abinOp, astrOp, beq_dec], hr⟩
  · exact ⟨_, rfl, hr⟩
  · exact ⟨_, rfl, hr⟩
def sBin (op : BinOp) (x y : AV) : Option SR :=
  match x, y with
  | .int k a, .int k' b => if Nat.beq (kidx k) (kidx k') = true then sBinI op k a b else none
  | .str a, .str b => sBinS op a b
  | _, _ => none
theorem sBin_ok {op : BinOp} {t : TypeId} {xo yo : Operand} {x y : AV} {r : SR} (h : sBin op x y = some r) {call : CallP} {rnd : RndP} {H : AH} {K : AV → Option AH → Prop} (hr : r.run call rnd H K) :
    ∃ v, abinOp P op t xo yo x y = some v ∧ K v none := by
  unfold sBin at h
  split at h
  · rename_i k a k' b
    split at h
    · rename_i hk
      obtain rfl := kidx_inj hk
      exact sBinI_ok h hr
    · cases h
  · exact sBinS_ok h hr
  · cases h

/-! ### Places in texts and slices -/
def sIndex (P : Program) (t : TypeId) (x i : AV) : Option SR :=
  match P.underlying t, x, i with
  | some .string, .str s, .int _ n => some (.need (Bool.and (leI 0 n) (ltI n s.length)) (.ok (.int .u8 (byteAt s n.toNat)) none))
  | _, _, _ => none
theorem sIndex_ok {t : TypeId} {x i : AV} {r : SR} (h : sIndex P t x i = some r) {call : CallP} {rnd : RndP} {H : AH} {K : AV → Option AH → Prop} (hr : r.run call rnd H K) :
    ∃ v, aindex P t x i = some v ∧ K v none := by
  unfold sIndex at h
  split at h
  · rename_i s kd n hu
    cases h
    obtain ⟨h1, h2⟩ := cond_need hr
    simp only [leI_eq, ltI_eq, Bool.and_eq_true, decide_eq_true_eq] at h1
    have hlt : n.toNat < s.length := by omega
    refine ⟨_, ?_, h2⟩
    simp only [aindex, hu, if_pos h1.1, List.getElem?_eq_getElem hlt, byteAt, List.getD_eq_getElem?_getD, Option.getD_some]
  · cases h
def sIndexAt (P : Program) (t : TypeId) (x i : AV) : Option SR :=
  match P.underlying t, x, i with
  | some (.slice e), .sl b off len _ _, .int _ n =>
    match P.info? e with
    | some inf => some (.need (Bool.and (leI 0 n) (ltI n len)) (.ok (.ptr b (off + n.toNat * inf.size)) none))
    | none => none
  | some (.array len e), .ptr b off, .int _ n =>
    match P.info? e with
    | some inf => some (.need (Bool.and (leI 0 n) (ltI n len)) (.ok (.ptr b (off + n.toNat * inf.size)) none))
    | none => none
  | _, _, _ => none
theorem sIndexAt_ok {t : TypeId} {x i : AV} {r : SR} (h : sIndexAt P t x i = some r) {call : CallP} {rnd : RndP} {H : AH} {K : AV → Option AH → Prop} (hr : r.run call rnd H K) :
    ∃ v, aindexAt P t x i = some v ∧ K v none := by
  unfold sIndexAt at h
  split at h
  · rename_i hu
    split at h
    · rename_i inf hi
      cases h
      obtain ⟨h1, h2⟩ := cond_need hr
      simp only [leI_eq, ltI_eq, Bool.and_eq_true, decide_eq_true_eq] at h1
      refine ⟨_, ?_, h2⟩
      simp only [aindexAt, hu, hi, if_pos h1]
    · cases h
  · rename_i hu
    split at h
    · rename_i inf hi
      cases h
      obtain ⟨h1, h2⟩ := cond_need hr
      simp only [leI_eq, ltI_eq, Bool.and_eq_true, decide_eq_true_eq] at h1
      refine ⟨_, ?_, h2⟩
      simp only [aindexAt, hu, hi, if_pos h1]
    · cases h
  · cases h
/-- A bound that may lack: what it wants, and what it is. -/
def sBound (x : Option AV) (y d : Nat) : Option (Bool × Nat) :=
  match x with
  | none => some (true, d)
  | some (.int _ n) => some (Bool.and (leI 0 n) (leI n y), n.toNat)
  | _ => none
theorem sBound_ok {x : Option AV} {y d : Nat} {b : Bool} {m : Nat} (h : sBound x y d = some (b, m)) (hb : b = true) : aboundO x y d = some m := by
  unfold sBound at h
  split at h
  · cases h; rfl
  · cases h
    simp only [leI_eq, ltI_eq, Bool.and_eq_true, decide_eq_true_eq] at hb
    simp only [aboundO, abound, if_pos hb]
  · cases h
def sSliceS (s : List UInt8) (lo hi : Option AV) : Option SR :=
  match lo, hi with
  | none, none => some (.ok (.str s) none)
  | some l, none => match sBound (some l) s.length 0 with
    | some (b, m) => some (.need b (.ok (.str (s.drop m)) none))
    | none => none
  | none, some h => match sBound (some h) s.length 0 with
    | some (b, m) => some (.need b (.ok (.str (s.take m)) none))
    | none => none
  | some l, some h => match sBound (some h) s.length 0 with
    | some (b, m) => match sBound (some l) m 0 with
      | some (b', m') => some (.need b (.need b' (.ok (.str ((s.drop m').take (m - m'))) none)))
      | none => none
    | none => none
theorem sSliceS_ok {t : TypeId} (hu : P.underlying t = some .string) {s : List UInt8} {lo hi : Option AV} {r : SR} (h : sSliceS s lo hi = some r) {call : CallP} {rnd : RndP} {H : AH} {K : AV → Option AH → Prop} (hr : r.run call rnd H K) :
    ∃ v, aslice P t (.str s) lo hi none = some v ∧ K v none := by
  unfold sSliceS at h
  split at h
  · cases h
    exact ⟨_, by simp [aslice, hu, aboundO], hr⟩
  · rename_i l
    split at h
    · rename_i b m hb
      cases h
      obtain ⟨h1, h2⟩ := cond_need hr
      have hb' := sBound_ok hb h1
      refine ⟨_, ?_, h2⟩
      simp only [aslice, hu, aboundO] at hb' ⊢
      simp only [hb']
      congr 2
      exact List.take_of_length_le (by simp)
    · cases h
  · rename_i l
    split at h
    · rename_i b m hb
      cases h
      obtain ⟨h1, h2⟩ := cond_need hr
      have hb' := sBound_ok hb h1
      refine ⟨_, ?_, h2⟩
      simp only [aslice, hu, aboundO] at hb' ⊢
      simp only [hb']
      simp
    · cases h
  · rename_i l hh
    split at h
    · rename_i b m hb
      split at h
      · rename_i b' m' hb'
        cases h
        obtain ⟨h1, h2⟩ := cond_need hr
        obtain ⟨h3, h4⟩ := cond_need h2
        have e1 := sBound_ok hb h1
        have e2 := sBound_ok hb' h3
        refine ⟨_, ?_, h4⟩
        simp only [aslice, hu, aboundO] at e1 e2 ⊢
        simp only [e1, e2]
      · cases h
    · cases h
def sSliceL (sz : Nat) (b off len cap : Nat) (ex : Bool) (lo hi : Option AV) : Option SR :=
  match sBound hi cap len with
  | none => none
  | some (b1, h) =>
    match lo with
    | none =>
      some (.need (decide (len ≤ cap)) (.need b1 (match ex with
        | true => .ok (.sl b off h cap true) none
        | false => .br (decide (0 = cap)) (.ok (.sle b off 0) none) (.ok (.sl b off h cap false) none))))
    | some l =>
      match sBound (some l) h 0 with
      | none => none
      | some (b2, m) =>
        some (.need (decide (len ≤ cap)) (.need b1 (.need b2 (match ex with
          | true => .br (decide (cap = m)) (.ok (.sl b off (h - m) (cap - m) true) none) (.ok (.sl b (off + m * sz) (h - m) (cap - m) true) none)
          | false => .br (decide (m = cap)) (.ok (.sle b off (m * sz)) none) (.ok (.sl b (off + m * sz) (h - m) (cap - m) false) none)))))
theorem cond_dec {p : Prop} [Decidable p] {a b : Prop} (h : cond (decide p) a b) : (p → a) ∧ (¬ p → b) := by
  by_cases hp : p
  · simp only [decide_eq_true hp, cond_true] at h; exact ⟨fun _ => h, fun hn => absurd hp hn⟩
  · simp only [decide_eq_false hp, cond_false] at h; exact ⟨fun hy => absurd hy hp, fun _ => h⟩
theorem sSliceL_ok {t e : TypeId} {inf : TypeInfo} (hu : P.underlying t = some (.slice e)) (hi0 : P.info? e = some inf) {b off len cap : Nat} {ex : Bool} {lo hi : Option AV} {r : SR} (h : sSliceL inf.size b off len cap ex lo hi = some r) {call : CallP} {rnd : RndP} {H : AH} {K : AV → Option AH → Prop} (hr : r.run call rnd H K) :
    ∃ v, aslice P t (.sl b off len cap ex) lo hi none = some v ∧ K v none := by
  unfold sSliceL at h
  split at h
  · cases h
  · rename_i b1 hh hb1
    split at h
    · cases h
      obtain ⟨h1, h2⟩ := cond_need hr
      obtain ⟨h3, h4⟩ := cond_need h2
      have e1 := sBound_ok hb1 h3
      have hle := of_decide_eq_true h1
      have e0 : aboundO (none : Option AV) hh 0 = some 0 := rfl
      cases ex with
      | true =>
        refine ⟨_, ?_, h4⟩
        simp only [aslice, hu, hi0, if_pos hle, e1, e0, Nat.sub_zero, Nat.zero_mul, Nat.add_zero, ite_self, if_true]
      | false =>
        obtain ⟨q1, q2⟩ := cond_dec h4
        by_cases hc : 0 = cap
        · refine ⟨_, ?_, q1 hc⟩
          simp only [aslice, hu, hi0, if_pos hle, e1, e0, Nat.zero_mul, if_pos hc]
          rfl
        · refine ⟨_, ?_, q2 hc⟩
          simp only [aslice, hu, hi0, if_pos hle, e1, e0, Nat.zero_mul, if_neg hc, Nat.sub_zero, Nat.add_zero]
          rfl
    · rename_i l
      split at h
      · cases h
      · rename_i b2 m hb2
        cases h
        obtain ⟨h1, h2⟩ := cond_need hr
        obtain ⟨h3, h4⟩ := cond_need h2
        obtain ⟨h5, h6⟩ := cond_need h4
        have e1 := sBound_ok hb1 h3
        have e2 := sBound_ok hb2 h5
        have hle := of_decide_eq_true h1
        cases ex with
        | true =>
          obtain ⟨q1, q2⟩ := cond_dec h6
          by_cases hc : cap = m
          · refine ⟨_, ?_, q1 hc⟩
            simp only [aslice, hu, hi0, if_pos hle, e1, e2, if_pos hc, if_true]
          · refine ⟨_, ?_, q2 hc⟩
            simp only [aslice, hu, hi0, if_pos hle, e1, e2, if_neg hc, if_true]
        | false =>
          obtain ⟨q1, q2⟩ := cond_dec h6
          by_cases hc : m = cap
          · refine ⟨_, ?_, q1 hc⟩
            simp only [aslice, hu, hi0, if_pos hle, e1, e2, if_pos hc]
            rfl
          · refine ⟨_, ?_, q2 hc⟩
            simp only [aslice, hu, hi0, if_pos hle, e1, e2, if_neg hc]
            rfl
def sSlice (P : Program) (t : TypeId) (x : AV) (lo hi mx : Option AV) : Option SR :=
  match mx with
  | some _ => none
  | none =>
    match P.underlying t, x with
    | some .string, .str s => sSliceS s lo hi
    | some (.slice e), .sl b off len cap ex =>
      match P.info? e with
      | some inf => sSliceL inf.size b off len cap ex lo hi
      | none => none
    | _, _ => none
theorem sSlice_ok {t : TypeId} {x : AV} {lo hi mx : Option AV} {r : SR} (h : sSlice P t x lo hi mx = some r) {call : CallP} {rnd : RndP} {H : AH} {K : AV → Option AH → Prop} (hr : r.run call rnd H K) :
    ∃ v, aslice P t x lo hi mx = some v ∧ K v none := by
  unfold sSlice at h
  split at h
  · cases h
  · split at h
    · rename_i hu; exact sSliceS_ok hu h hr
    · rename_i hu
      split at h
      · rename_i hi0; exact sSliceL_ok hu hi0 h hr
      · cases h
    · cases h
end
end Go.Ve

namespace Go.Ve
open Go Go.RowKit

section
variable {P : Program}
/-! ### Loads and stores -/
def sLoad (P : Program) (t : TypeId) (H : AH) (x v : AV) : Option SR :=
  match x with
  | .ptr b off =>
    match cellsOf? H b, isAggP P t with
    | some vs, some false => some (.needP (vs[off]? = some v) (.ok v none))
    | some vs, some true =>
      match P.info? t, v with
      | some i, .agg cs => some (.need (decide (off + i.size ≤ vs.length)) (.needP ((vs.drop off).take i.size = cs) (.ok v none)))
      | _, _ => none
    | _, _ => none
  | _ => none
theorem sLoad_ok {t : TypeId} {x v : AV} {H : AH} {r : SR} (h : sLoad P t H x v = some r) {call : CallP} {rnd : RndP} {K : AV → Option AH → Prop} (hr : r.run call rnd H K) :
    ∃ v, aload P t H x = some v ∧ K v none := by
  unfold sLoad at h
  split at h
  · rename_i b off
    split at h
    · rename_i vs hc hg
      cases h
      obtain ⟨h1, h2⟩ := hr
      exact ⟨_, by simp only [aload, hc, aloadAt, hg, h1], h2⟩
    · rename_i vs hc hg
      split at h
      · rename_i i cs hi
        cases h
        obtain ⟨h1, h2⟩ := cond_need hr
        obtain ⟨h3, h4⟩ := h2
        exact ⟨_, by simp only [aload, hc, aloadAt, hg, hi, if_pos (of_decide_eq_true h1), h3], h4⟩
      · cases h
    · cases h
  · cases h
/-- One cell, of the kind that its type tells. -/
def sLoadA (P : Program) (t : TypeId) (H : AH) (x : AV) : Option SR :=
  match x with
  | .ptr b off =>
    match cellsOf? H b, P.underlying t, isAggP P t with
    | some vs, some .bool, some false => some (.needP (∃ c : Bool, vs[off]? = some (.bool c)) (.all Bool (fun c => vs[off]? = some (.bool c)) fun c => .ok (.bool c) none))
    | some vs, some (.int k), some false => some (.needP (∃ c : Int, vs[off]? = some (.int k c)) (.all Int (fun c => vs[off]? = some (.int k c)) fun c => .ok (.int k c) none))
    | some vs, some .string, some false => some (.needP (∃ c : List UInt8, vs[off]? = some (.str c)) (.all (List UInt8) (fun c => vs[off]? = some (.str c)) fun c => .ok (.str c) none))
    | _, _, _ => none
  | _ => none
theorem sLoadA_ok {t : TypeId} {x : AV} {H : AH} {r : SR} (h : sLoadA P t H x = some r) {call : CallP} {rnd : RndP} {K : AV → Option AH → Prop} (hr : r.run call rnd H K) :
    ∃ v, aload P t H x = some v ∧ K v none := by
  unfold sLoadA at h
  split at h
  · rename_i b off
    split at h
    · rename_i vs hc hu hg
      cases h
      obtain ⟨⟨c, h1⟩, h2⟩ := hr
      exact ⟨_, by simp only [aload, hc, aloadAt, hg, h1], h2 c h1⟩
    · rename_i vs k hc hu hg
      cases h
      obtain ⟨⟨c, h1⟩, h2⟩ := hr
      exact ⟨_, by simp only [aload, hc, aloadAt, hg, h1], h2 c h1⟩
    · rename_i vs hc hu hg
      cases h
      obtain ⟨⟨c, h1⟩, h2⟩ := hr
      exact ⟨_, by simp only [aload, hc, aloadAt, hg, h1], h2 c h1⟩
    · cases h
  · cases h
def sStore (P : Program) (t : TypeId) (H : AH) (p v : AV) : Option SR :=
  match p with
  | .ptr b off =>
    match H[b]?, P.info? t with
    | some (.cells vs esz false), some i =>
      if Bool.and (AV.allOne v.cells) (Nat.beq v.cells.length i.size) = true then
        some (.need (decide (off + v.cells.length ≤ vs.length)) (.ok (.tuple []) (some (H.set b (.cells (setManyF vs off v.cells) esz false)))))
      else none
    | _, _ => none
  | _ => none
theorem sStore_ok {t : TypeId} {p v : AV} {H : AH} {r : SR} (h : sStore P t H p v = some r) {call : CallP} {rnd : RndP} {K : AV → Option AH → Prop} (hr : r.run call rnd H K) :
    ∃ H', astore P t H p v = some H' ∧ K (.tuple []) (some H') := by
  unfold sStore at h
  split at h
  · rename_i b off
    split at h
    · rename_i vs esz i hb hi
      split at h
      · rename_i hc
        cases h
        obtain ⟨h1, h2⟩ := cond_need hr
        rw [Bool.and_eq_true] at hc
        refine ⟨_, ?_, h2⟩
        simp only [astore, hb, hi]
        rw [if_pos ⟨hc.1, Nat.eq_of_beq_eq_true hc.2, of_decide_eq_true h1⟩]
      · cases h
    · cases h
  · cases h

/-! ### Appending -/
/-- What is appended: what it wants, how many, which cells. -/
def sNews (H : AH) (size : Nat) : AV → Option (Bool × Nat × List AV)
  | .sl b off n _ _ =>
    match cellsOf? H b with
    | some vs => some (decide (off + n * size ≤ vs.length), n, (vs.drop off).take (n * size))
    | none => none
  | .nilsl => some (true, 0, [])
  | .sle _ _ _ => some (true, 0, [])
  | .slz => some (true, 0, [])
  | .str s => if Nat.beq size 1 = true then some (true, s.length, s.map fun c => .int .u8 c.toNat) else none
  | _ => none
theorem sNews_ok {H : AH} {size : Nat} {x : AV} {b : Bool} {n : Nat} {cs : List AV} (h : sNews H size x = some (b, n, cs)) (hb : b = true) : anews H size x = some (n, cs) := by
  unfold sNews at h
  split at h
  · split at h
    · rename_i vs hc
      cases h
      simp only [anews, hc, if_pos (of_decide_eq_true hb)]
    · cases h
  · cases h; rfl
  · cases h; rfl
  · cases h; rfl
  · split at h
    · rename_i hs
      cases h
      simp only [anews, if_pos (Nat.eq_of_beq_eq_true hs)]
    · cases h
  · cases h
def sAppend (P : Program) (t t2 : TypeId) (s x : AV) (H : AH) : Option SR :=
  match P.underlying t, P.underlying t2 with
  | some (.slice e), some d2 =>
    match isIntD d2, P.info? e, azero P e with
    | false, some inf, some z =>
      if Bool.and (Nat.beq z.length inf.size) (Nat.blt inf.size 65536) = true then
        match sNews H inf.size x with
        | none => none
        | some (nb, n, cs) =>
          match s with
          | .nilsl => some (.need nb (.br (decide (n = 0)) (.ok .nilsl (some H))
              (.need (decide (n ≤ maxLen) && decide (n * inf.bytes ≤ 140737488355328)) (.ok (.sl H.length 0 n n false) (some (H ++ [.cells cs (btag P e inf.size) false]))))))
          | .sl b off len cap ex =>
            match H[b]? with
            | some (.cells vs esz ro) =>
              some (.need nb (.need (decide (len ≤ cap) && decide (off + len * inf.size ≤ vs.length)) (.br (decide (n = 0)) (.ok (.sl b off len cap ex) (some H)) (.br (decide (len + n ≤ cap))
                (match ro with
                  | false => .need (decide (off + (len + n) * inf.size ≤ vs.length) && AV.allOne cs) (.ok (.sl b off (len + n) cap ex) (some (H.set b (.cells (setManyF vs (off + len * inf.size) cs) esz false))))
                  | true => .need false (.ok .bad (some H)))
                (.need (decide (len + n ≤ maxLen) && decide ((len + n) * inf.bytes ≤ 140737488355328)) (match ex with
                  | true => .ok (.sl H.length 0 (len + n) (len + n) false) (some (H ++ [.cells ((vs.drop off).take (len * inf.size) ++ cs) (btag P e inf.size) false]))
                  | false => match ro with
                    | false => .need (decide (len = cap) && (decide (off + len * inf.size = vs.length) && (decide (esz = btag P e inf.size) && AV.allOne cs)))
                        (.ok (.sl H.length 0 (len + n) (len + n) false) (some (H.set b .dead ++ [.cells (vs.drop off ++ cs) (btag P e inf.size) false])))
                    | true => .need false (.ok .bad (some H))))))))
            | _ => none
          | _ => none
      else none
    | _, _, _ => none
  | _, _ => none
theorem sAppend_ok {t t2 : TypeId} {s x : AV} {H : AH} {r : SR} (h : sAppend P t t2 s x H = some r) {call : CallP} {rnd : RndP} {K : AV → Option AH → Prop} (hr : r.run call rnd H K) :
    ∃ v H', aappend P t t2 s x H = some (v, H') ∧ K v (some H') := by
  unfold sAppend at h
  split at h
  · rename_i e d2 hu hu2
    split at h
    · rename_i inf z hd hi hz
      split at h
      · rename_i hc
        rw [Bool.and_eq_true] at hc
        have hc' : z.length = inf.size ∧ inf.size < 65536 := ⟨Nat.eq_of_beq_eq_true hc.1, by have := hc.2; simp [Nat.blt] at this; omega⟩
        split at h
        · cases h
        · rename_i nb n cs hn
          split at h
          · cases h
            obtain ⟨h1, h2⟩ := cond_need hr
            have hn' := sNews_ok hn h1
            obtain ⟨q1, q2⟩ := cond_dec h2
            by_cases h0 : n = 0
            · refine ⟨_, _, ?_, q1 h0⟩
              simp only [aappend, hu, hu2, hd, hi, hz, if_pos hc', hn', if_pos h0]
            · obtain ⟨h3, h4⟩ := cond_need (q2 h0)
              simp only [leI_eq, ltI_eq, Bool.and_eq_true, decide_eq_true_eq] at h3
              refine ⟨_, _, ?_, h4⟩
              simp only [aappend, hu, hu2, hd, hi, hz, if_pos hc', hn', if_neg h0, if_pos h3]
          · rename_i b off len cap ex
            split at h
            · rename_i vs esz ro hb
              cases h
              obtain ⟨h1, h2⟩ := cond_need hr
              have hn' := sNews_ok hn h1
              obtain ⟨h3, h4⟩ := cond_need h2
              simp only [leI_eq, ltI_eq, Bool.and_eq_true, decide_eq_true_eq] at h3
              obtain ⟨q1, q2⟩ := cond_dec h4
              by_cases h0 : n = 0
              · refine ⟨_, _, ?_, q1 h0⟩
                simp only [aappend, hu, hu2, hd, hi, hz, if_pos hc', hn', hb, if_pos h3, if_pos h0]
              · obtain ⟨p1, p2⟩ := cond_dec (q2 h0)
                by_cases hl : len + n ≤ cap
                · have := p1 hl
                  cases ro with
                  | true => exact absurd (cond_need this).1 (by simp)
                  | false =>
                    obtain ⟨h5, h6⟩ := cond_need this
                    simp only [leI_eq, ltI_eq, Bool.and_eq_true, decide_eq_true_eq] at h5
                    refine ⟨_, _, ?_, h6⟩
                    simp only [aappend, hu, hu2, hd, hi, hz, if_pos hc', hn', hb, if_pos h3, if_neg h0, if_pos hl]
                    rw [if_pos ⟨trivial, h5⟩]
                · obtain ⟨h5, h6⟩ := cond_need (p2 hl)
                  simp only [leI_eq, ltI_eq, Bool.and_eq_true, decide_eq_true_eq] at h5
                  cases ex with
                  | true =>
                    refine ⟨_, _, ?_, h6⟩
                    simp only [aappend, hu, hu2, hd, hi, hz, if_pos hc', hn', hb, if_pos h3, if_neg h0, if_neg hl, if_pos h5, if_true]
                  | false =>
                    cases ro with
                    | true => exact absurd (cond_need h6).1 (by simp)
                    | false =>
                      obtain ⟨h7, h8⟩ := cond_need h6
                      simp only [leI_eq, ltI_eq, Bool.and_eq_true, decide_eq_true_eq] at h7
                      refine ⟨_, _, ?_, h8⟩
                      simp only [aappend, hu, hu2, hd, hi, hz, if_pos hc', hn', hb, if_pos h3, if_neg h0, if_neg hl, if_pos h5, Bool.false_eq_true, if_false]
                      rw [if_pos ⟨trivial, h7⟩]
            · cases h
          · cases h
      · cases h
    · cases h
  · cases h

/-- Appending where a hint tells that it grows (true), or that there is room (false). -/
def sAppendG (P : Program) (grow : Bool) (t t2 : TypeId) (s x : AV) (H : AH) : Option SR :=
  match P.underlying t, P.underlying t2 with
  | some (.slice e), some d2 =>
    match isIntD d2, P.info? e, azero P e with
    | false, some inf, some z =>
      if Bool.and (Nat.beq z.length inf.size) (Nat.blt inf.size 65536) = true then
        match sNews H inf.size x with
        | none => none
        | some (nb, n, cs) =>
          match s with
          | .sl b off len cap ex =>
            match H[b]? with
            | some (.cells vs esz false) =>
              match grow, ex with
              | true, false => some (.need nb (.need (decide (len ≤ cap) && decide (off + len * inf.size ≤ vs.length)) (.need (decide (cap < len + n)) (.need (decide (len + n ≤ maxLen) && decide ((len + n) * inf.bytes ≤ 140737488355328)) (.need (decide (len = cap) && (decide (off + len * inf.size = vs.length) && (decide (esz = btag P e inf.size) && AV.allOne cs)))
                        (.ok (.sl H.length 0 (len + n) (len + n) false) (some (H.set b .dead ++ [.cells (vs.drop off ++ cs) (btag P e inf.size) false]))))))))
              | false, ex => some (.need nb (.need (decide (len ≤ cap) && decide (off + len * inf.size ≤ vs.length)) (.need (!decide (n = 0)) (.need (decide (len + n ≤ cap)) (.need (decide (off + (len + n) * inf.size ≤ vs.length) && AV.allOne cs) (.ok (.sl b off (len + n) cap ex) (some (H.set b (.cells (setManyF vs (off + len * inf.size) cs) esz false)))))))))
              | _, _ => none
            | _ => none
          | _ => none
      else none
    | _, _, _ => none
  | _, _ => none
theorem sAppendG_ok {grow : Bool} {t t2 : TypeId} {s x : AV} {H : AH} {r : SR} (h : sAppendG P grow t t2 s x H = some r) {call : CallP} {rnd : RndP} {K : AV → Option AH → Prop} (hr : r.run call rnd H K) :
    ∃ v H', aappend P t t2 s x H = some (v, H') ∧ K v (some H') := by
  unfold sAppendG at h
  split at h
  · rename_i e d2 hu hu2
    split at h
    · rename_i inf z hd hi hz
      split at h
      · rename_i hc
        rw [Bool.and_eq_true] at hc
        have hc' : z.length = inf.size ∧ inf.size < 65536 := ⟨Nat.eq_of_beq_eq_true hc.1, by have := hc.2; simp [Nat.blt] at this; omega⟩
        split at h
        · cases h
        · rename_i nb n cs hn
          split at h
          · rename_i b off len cap ex
            split at h
            · rename_i vs esz hb
              split at h
              · cases h
                obtain ⟨h1, h2⟩ := cond_need hr
                have hn' := sNews_ok hn h1
                obtain ⟨h3, h4⟩ := cond_need h2
                simp only [Bool.and_eq_true, decide_eq_true_eq] at h3
                obtain ⟨hl, h5⟩ := cond_need h4
                have hl := of_decide_eq_true hl
                obtain ⟨h6, h7⟩ := cond_need h5
                simp only [Bool.and_eq_true, decide_eq_true_eq] at h6
                obtain ⟨h8, h9⟩ := cond_need h7
                simp only [Bool.and_eq_true, decide_eq_true_eq] at h8
                refine ⟨_, _, ?_, h9⟩
                have h0 : ¬ n = 0 := by omega
                have hl' : ¬ len + n ≤ cap := by omega
                simp only [aappend, hu, hu2, hd, hi, hz, if_pos hc', hn', hb, if_pos h3, if_neg h0, if_neg hl', if_pos h6, Bool.false_eq_true, if_false]
                rw [if_pos ⟨trivial, h8⟩]
              · cases h
                obtain ⟨h1, h2⟩ := cond_need hr
                have hn' := sNews_ok hn h1
                obtain ⟨h3, h4⟩ := cond_need h2
                simp only [Bool.and_eq_true, decide_eq_true_eq] at h3
                obtain ⟨h0, h5⟩ := cond_need h4
                have h0 : ¬ n = 0 := by simpa using h0
                obtain ⟨hl, h6⟩ := cond_need h5
                have hl := of_decide_eq_true hl
                obtain ⟨h8, h9⟩ := cond_need h6
                simp only [Bool.and_eq_true, decide_eq_true_eq] at h8
                refine ⟨_, _, ?_, h9⟩
                simp only [aappend, hu, hu2, hd, hi, hz, if_pos hc', hn', hb, if_pos h3, if_neg h0, if_pos hl]
                rw [if_pos ⟨trivial, h8⟩]
              · cases h
            · cases h
          · cases h
      · cases h
    · cases h
  · cases h

/-! ### New slices, conversions, the least and the greatest -/
def sMakeSlice (P : Program) (t : TypeId) (len cap : AV) (H : AH) : Option SR :=
  match P.underlying t, len, cap with
  | some (.slice e), .int _ l, .int _ c =>
    match P.info? e, azero P e with
    | some i, some z =>
      if Nat.beq i.size z.length = true then
        some (.need (Bool.and (leI 0 l) (Bool.and (leI l c) (Bool.and (leI c maxLen) (leI ((i.bytes : Int) * c) 140737488355328))))
          (.ok (.sl H.length 0 l.toNat c.toNat true) (some (H ++ [.cells (azeros c.toNat z) (mtag P e) false]))))
      else none
    | _, _ => none
  | _, _, _ => none
theorem sMakeSlice_ok {t : TypeId} {len cap : AV} {H : AH} {r : SR} (h : sMakeSlice P t len cap H = some r) {call : CallP} {rnd : RndP} {K : AV → Option AH → Prop} (hr : r.run call rnd H K) :
    ∃ v H', amakeSlice P t len cap H = some (v, H') ∧ K v (some H') := by
  unfold sMakeSlice at h
  split at h
  · rename_i e k l k' c hu
    split at h
    · rename_i i z hi hz
      split at h
      · rename_i hc
        cases h
        obtain ⟨h1, h2⟩ := cond_need hr
        simp only [leI_eq, ltI_eq, Bool.and_eq_true, decide_eq_true_eq] at h1
        refine ⟨_, _, ?_, h2⟩
        simp only [amakeSlice, hu, hi, hz]
        rw [if_pos ⟨h1.1, h1.2.1, h1.2.2.1, h1.2.2.2, Nat.eq_of_beq_eq_true hc⟩]
      · cases h
    · cases h
  · cases h
def sConv (P : Program) (s d : TypeId) (x : AV) : Option SR :=
  match x with
  | .int _ n =>
    match P.underlying s, P.underlying d with
    | some _, some (.int k) => some (rngS k n)
    | _, _ => none
  | _ => none
theorem sConv_ok {s d : TypeId} {x : AV} {H : AH} {r : SR} (h : sConv P s d x = some r) {call : CallP} {rnd : RndP} {K : AV → Option AH → Prop} (hr : r.run call rnd H K) :
    ∃ v, aptr P s d x H = none ∧ aconvert P s d x H = some (v, none) ∧ K v none := by
  unfold sConv at h
  split at h
  · rename_i k0 n
    split at h
    · rename_i ds k hs hd
      cases h
      obtain ⟨h1, h2⟩ := cond_need hr
      refine ⟨_, ?_, ?_, h2⟩
      · unfold aptr
        (repeat' split) <;> first | rfl | (simp_all; done)
      · simp only [aconvert, AV.sc, pureRun_int hs hd, wrap_inK h1]
        rfl
    · cases h
  · cases h
/-- Bytes as a text. -/
def sText (P : Program) (s d : TypeId) (H : AH) (x v : AV) : Option SR :=
  match x, v with
  | .sl b off len _ _, .str tx =>
    match P.underlying s, P.underlying d, cellsOf? H b with
    | some (.slice e), some .string, some vs =>
      match P.underlying e with
      | some (.int .u8) => some (.need (decide (off + len ≤ vs.length)) (.needP (abytes ((vs.drop off).take len) = some tx) (.ok (.str tx) none)))
      | _ => none
    | _, _, _ => none
  | _, _ => none
theorem sText_ok {s d : TypeId} {x v : AV} {H : AH} {r : SR} (h : sText P s d H x v = some r) {call : CallP} {rnd : RndP} {K : AV → Option AH → Prop} (hr : r.run call rnd H K) :
    ∃ v, aptr P s d x H = none ∧ aconvert P s d x H = some (v, none) ∧ K v none := by
  unfold sText at h
  split at h
  · rename_i b off len cap ex tx
    split at h
    · rename_i e vs hs hd hc
      split at h
      · rename_i he
        cases h
        obtain ⟨h1, h2, h3⟩ := cond_need hr
        refine ⟨_, ?_, ?_, h3⟩
        · unfold aptr
          simp only [hs, hd]
        · simp only [aconvert, hs, hd, he, hc, if_pos (of_decide_eq_true h1), h2]
      · cases h
    · cases h
  · cases h
end
/-! ### Maps whose entries are symbols -/
section
variable {P : Program}
def eqK : AV → AV → Bool
  | .int _ a, .int _ b => decide (a = b)
  | .str a, .str b => decide (a = b)
  | _, _ => false
def likeK : AV → AV → Bool
  | .int k _, .int k' _ => Nat.beq (kidx k) (kidx k')
  | .str _, .str _ => true
  | _, _ => false
def kindK : TypeDesc → AV → Bool
  | .int _, .int _ _ => true
  | .string, .str _ => true
  | _, _ => false
def findK (k : AV) : List (AV × AV) → Nat → Option (Nat × AV)
  | [], _ => none
  | e :: es, i => bif eqK k e.1 then some (i, e.2) else findK k es (i + 1)
def keysK (k : AV) (es : List (AV × AV)) : Prop := ∀ e ∈ es, likeK k e.1 = true
def putK (k x : AV) (es : List (AV × AV)) : List (AV × AV) := match findK k es 0 with | some r => es.set r.1 (k, x) | none => es ++ [(k, x)]
def delK (k : AV) (es : List (AV × AV)) : List (AV × AV) := match findK k es 0 with | some r => es.eraseIdx r.1 | none => es
def hasK (k : AV) (es : List (AV × AV)) : Bool := (findK k es 0).isSome
/-- An integer's value at a key (0: there is none). -/
def valK (k : AV) (es : List (AV × AV)) : Int := match findK k es 0 with | some (_, .int _ n) => n | _ => 0
def intsK (t : IntKind) (es : List (AV × AV)) : Prop := ∀ e ∈ es, ∃ n, e.2 = .int t n
theorem findK_mem {k : AV} : ∀ {es : List (AV × AV)} {i : Nat} {r : Nat × AV}, findK k es i = some r → ∃ e ∈ es, e.2 = r.2
  | [], _, _, h => by cases h
  | e :: es, i, r, h => by
    simp only [findK] at h
    cases hb : eqK k e.1 with
    | true => rw [hb] at h; cases h; exact ⟨e, by simp, rfl⟩
    | false =>
      rw [hb] at h
      obtain ⟨e', h1, h2⟩ := findK_mem h
      exact ⟨e', by simp [h1], h2⟩
theorem beqI_dec (a b : Int) : (a == b) = decide (a = b) := by by_cases h : a = b <;> simp [h]
theorem same_eqK {d : TypeDesc} {k e : AV} {ku u : Value} (hd : kindK d k = true) (hk : keyV k = some ku) (h : likeK k e = true) (hu : keyV e = some u) : Instr.sameNow d ku u = some (eqK k e) := by
  cases k <;> cases e <;> simp only [likeK, Bool.false_eq_true] at h <;> cases d <;> simp only [kindK, Bool.false_eq_true] at hd <;> simp only [keyV, Option.some.injEq] at hk hu <;> subst hk <;> subst hu
  · obtain rfl := kidx_inj h
    simp only [Instr.sameNow, if_true, eqK, beqI_dec]
  · simp only [Instr.sameNow, eqK]
    congr 1
    rename_i a b
    show ((⟨a⟩ : Array UInt8) == ⟨b⟩) = _
    by_cases h : a = b
    · subst h; simp
    · rw [decide_eq_false h]
      rw [beq_eq_false_iff_ne]
      intro he
      exact h (by injection he)
theorem keyV_like {k e : AV} (h : likeK k e = true) : ∃ u, keyV e = some u := by
  cases k <;> cases e <;> simp only [likeK, Bool.false_eq_true] at h <;> exact ⟨_, rfl⟩
theorem afind_eq {d : TypeDesc} {k : AV} {ku : Value} (hd : kindK d k = true) (hk : keyV k = some ku) : ∀ (es : List (AV × AV)) (i : Nat), keysK k es → afind d ku es i = some (findK k es i)
  | [], _, _ => rfl
  | e :: es, i, h => by
    obtain ⟨u, hu⟩ := keyV_like (h e (by simp))
    have hs := same_eqK hd hk (h e (by simp)) hu
    have ih := afind_eq hd hk es (i + 1) fun e' he' => h e' (by simp [he'])
    simp only [afind, findK, hu, hs]
    cases eqK k e.1 with
    | true => rfl
    | false => exact ih
theorem kind_plain {d : TypeDesc} {k : AV} (h : kindK d k = true) : plainKey d = true := by
  cases d <;> cases k <;> simp_all [kindK, plainKey]
theorem kind_key {d : TypeDesc} {k : AV} (h : kindK d k = true) : ∃ u, keyV k = some u := by
  cases d <;> cases k <;> simp only [kindK, Bool.false_eq_true] at h <;> exact ⟨_, rfl⟩
def isI0 : AV → Bool
  | .int _ (.ofNat 0) => true
  | _ => false
def lookK (ok : Bool) (z : AV) : Option (Nat × AV) → AV
  | some r => if ok then .tuple [r.2, .bool true] else r.2
  | none => if ok then .tuple [z, .bool false] else z
/-- With a hint: what it finds. -/
def sLookupH (P : Program) (t : TypeId) (x k : AV) (ok : Bool) (H : AH) (v : AV) : Option SR :=
  match P.underlying t with
  | some (.map kt et) =>
    match P.underlying kt, entriesOf H x, azeroV P et with
    | some d, some es, some z =>
      match kindK d k with
      | true => some (.needP (keysK k es) (.needP (lookK ok z (findK k es 0) = v) (.ok v none)))
      | false => none
    | _, _, _ => none
  | _ => none
theorem sLookupH_ok {t : TypeId} {x k v : AV} {ok : Bool} {H : AH} {r : SR} (h : sLookupH P t x k ok H v = some r) {call : CallP} {rnd : RndP} {K : AV → Option AH → Prop} (hr : r.run call rnd H K) :
    ∃ v, alookup P t x k ok H = some v ∧ K v none := by
  unfold sLookupH at h
  split at h
  · rename_i kt et hu
    split at h
    · rename_i d es z hd hes hz
      split at h
      · rename_i hk
        cases h
        obtain ⟨h1, h2, h3⟩ := hr
        obtain ⟨ku, hku⟩ := kind_key hk
        refine ⟨v, ?_, h3⟩
        simp only [alookup, hu, hd, hku, hes, kind_plain hk, if_true, afind_eq hk hku es 0 h1]
        rw [← h2]
        cases findK k es 0 with
        | none => simp only [hz, Option.map_some, lookK]
        | some r => rfl
      · cases h
    · cases h
  · cases h
/-- Integers as values. -/
def sLookup (P : Program) (t : TypeId) (x k : AV) (ok : Bool) (H : AH) : Option SR :=
  match P.underlying t with
  | some (.map kt et) =>
    match P.underlying kt, P.underlying et, entriesOf H x, azeroV P et with
    | some d, some (.int ik), some es, some z =>
      match kindK d k, isI0 z with
      | true, true => some (.needP (keysK k es) (.needP (intsK ik es) (.needP (z = .int ik 0) (.ok (match ok with | true => .tuple [.int ik (valK k es), .bool (hasK k es)] | false => .int ik (valK k es)) none))))
      | _, _ => none
    | _, _, _, _ => none
  | _ => none
theorem lookK_int {ok : Bool} {k : AV} {ik : IntKind} {es : List (AV × AV)} (h : intsK ik es) : lookK ok (.int ik 0) (findK k es 0) = (match ok with | true => .tuple [.int ik (valK k es), .bool (hasK k es)] | false => .int ik (valK k es)) := by
  unfold valK hasK
  cases hf : findK k es 0 with
  | none => cases ok <;> rfl
  | some r =>
    obtain ⟨e, he, h2⟩ := findK_mem hf
    obtain ⟨n, hn⟩ := h e he
    obtain ⟨i, v⟩ := r
    rw [hn] at h2
    dsimp only at h2
    subst h2
    cases ok <;> rfl
theorem sLookup_ok {t : TypeId} {x k : AV} {ok : Bool} {H : AH} {r : SR} (h : sLookup P t x k ok H = some r) {call : CallP} {rnd : RndP} {K : AV → Option AH → Prop} (hr : r.run call rnd H K) :
    ∃ v, alookup P t x k ok H = some v ∧ K v none := by
  unfold sLookup at h
  split at h
  · rename_i kt et hu
    split at h
    · rename_i d ik es z hd he hes hz
      split at h
      · rename_i hk hi
        cases h
        obtain ⟨h1, h2, h3, h4⟩ := hr
        refine sLookupH_ok (P := P) (v := lookK ok z (findK k es 0)) (r := .needP (keysK k es) (.needP (lookK ok z (findK k es 0) = lookK ok z (findK k es 0)) (.ok (lookK ok z (findK k es 0)) none))) (call := call) (rnd := rnd) ?_ ⟨h1, rfl, ?_⟩
        · simp only [sLookupH, hu, hd, hes, hz, hk]
        · subst h3
          show K _ none
          rw [lookK_int h2]; exact h4
      · cases h
    · cases h
  · cases h
def sMapUpdate (P : Program) (t : TypeId) (m k x : AV) (H : AH) : Option SR :=
  match P.underlying t with
  | some (.map kt _) =>
    match m with
    | .map b =>
      match P.underlying kt, H[b]? with
      | some d, some (.map es false) =>
        match kindK d k with
        | true => some (.needP (keysK k es) (.ok (.tuple []) (some (H.set b (.map (putK k x es) false)))))
        | false => none
      | _, _ => none
    | _ => none
  | _ => none
theorem sMapUpdate_ok {t : TypeId} {m k x : AV} {H : AH} {r : SR} (h : sMapUpdate P t m k x H = some r) {call : CallP} {rnd : RndP} {K : AV → Option AH → Prop} (hr : r.run call rnd H K) :
    ∃ H', amapUpdate P t m k x H = some H' ∧ K (.tuple []) (some H') := by
  unfold sMapUpdate at h
  split at h
  · rename_i kt et hu
    split at h
    · rename_i b
      split at h
      · rename_i d es hd hb
        split at h
        · rename_i hk
          cases h
          obtain ⟨h1, h2⟩ := hr
          obtain ⟨ku, hku⟩ := kind_key hk
          refine ⟨_, ?_, h2⟩
          simp only [amapUpdate, hu, hd, hku, hb, kind_plain hk, if_true, afind_eq hk hku es 0 h1, putK]
          cases findK k es 0 <;> rfl
        · cases h
      · cases h
    · cases h
  · cases h
def sDelete (P : Program) (t : TypeId) (m k : AV) (H : AH) : Option SR :=
  match P.underlying t with
  | some (.map kt _) =>
    match m with
    | .map b =>
      match P.underlying kt, H[b]? with
      | some d, some (.map es false) =>
        match kindK d k with
        | true => some (.needP (keysK k es) (.ok (.tuple []) (some (H.set b (.map (delK k es) false)))))
        | false => none
      | _, _ => none
    | _ => none
  | _ => none
theorem sDelete_ok {t : TypeId} {m k : AV} {H : AH} {r : SR} (h : sDelete P t m k H = some r) {call : CallP} {rnd : RndP} {K : AV → Option AH → Prop} (hr : r.run call rnd H K) :
    ∃ H', adelete P t m k H = some H' ∧ K (.tuple []) (some H') := by
  unfold sDelete at h
  split at h
  · rename_i kt et hu
    split at h
    · rename_i b
      split at h
      · rename_i d es hd hb
        split at h
        · rename_i hk
          cases h
          obtain ⟨h1, h2⟩ := hr
          obtain ⟨ku, hku⟩ := kind_key hk
          refine ⟨_, ?_, h2⟩
          simp only [adelete, hu, hd, hku, hb, kind_plain hk, if_true, afind_eq hk hku es 0 h1, delK]
          cases findK k es 0 <;> rfl
        · cases h
      · cases h
    · cases h
  · cases h
end
end Go.Ve

namespace Go.Ve
open Go Go.RowKit

section
variable {P : Program}
def sNext (it : AV) (isString : Bool) (H : AH) : Option SR :=
  match it, isString with
  | .ptr b 0, true =>
    match H[b]? with
    | some (.siter s pos) => some (.br (decide (pos < s.length))
        (.ok (.tuple [.bool true, .int .i64 pos, .int .i32 (Utf8.decode ⟨⟨s⟩⟩ pos).1]) (some (H.set b (.siter s (pos + (Utf8.decode ⟨⟨s⟩⟩ pos).2)))))
        (.ok (.tuple [.bool false]) none))
    | _ => none
  | _, _ => none
theorem sNext_ok {it : AV} {isString : Bool} {H : AH} {r : SR} (h : sNext it isString H = some r) {call : CallP} {rnd : RndP} {K : AV → Option AH → Prop} (hr : r.run call rnd H K) :
    ∃ v ch, anext it isString H = some (v, ch) ∧ K v (ch.map Prod.fst) := by
  unfold sNext at h
  split at h
  · rename_i b
    split at h
    · rename_i s pos hb
      cases h
      obtain ⟨q1, q2⟩ := cond_dec hr
      by_cases hp : pos < s.length
      · refine ⟨_, some (H.set b (.siter s (pos + (Utf8.decode ⟨⟨s⟩⟩ pos).2)), b), ?_, q1 hp⟩
        simp only [anext, hb, if_pos hp]
      · refine ⟨_, none, ?_, q2 hp⟩
        simp only [anext, hb, if_neg hp]
    · cases h
  · cases h
def sExtr (mn : Bool) (x y : AV) : Option SR :=
  match x, y with
  | .int k a, .int k' b => if Nat.beq (kidx k) (kidx k') = true then some (.ok (.int k (match mn with | true => min a b | false => max a b)) none) else none
  | _, _ => none
noncomputable def fallV (P : Program) (o : Oper) (ρ : Operand → AV) (H : AH) : Option SR :=
  match aop P o ρ H with
  | some (.val v none) => some (.ok v none)
  | some (.val v (some c)) => some (.ok v (some c.1))
  | some (.call f args) => some (.call f args)
  | some (.round b fr as bd) => some (.round b fr as bd)
  | none => none
theorem fallV_ok {o : Oper} {ρ : Operand → AV} {H : AH} {r : SR} (h : fallV P o ρ H = some r) {call : CallP} {rnd : RndP} {K : AV → Option AH → Prop} (hr : r.run call rnd H K) : ∃ ao, aop P o ρ H = some ao ∧ ao.run call rnd H K := by
  unfold fallV at h
  split at h
  · rename_i hop; cases h; exact ⟨_, hop, hr⟩
  · rename_i hop; cases h; exact ⟨_, hop, hr⟩
  · rename_i hop; cases h; exact ⟨_, hop, hr⟩
  · rename_i hop; cases h; exact ⟨_, hop, hr⟩
  · cases h
noncomputable def orV (r : Option SR) (d : Option SR) : Option SR :=
  match r with
  | some r => some r
  | none => d
noncomputable def rawV (P : Program) (o : Oper) (ρ : Operand → AV) (H : AH) (v : AV) : Option SR := some (.needP (aop P o ρ H = some (.val v none)) (.ok v none))
/-- Structs compared, any remainder: told by a hint. -/
noncomputable def sEqH (P : Program) (op : BinOp) (t : TypeId) (xo yo : Operand) (x y v : AV) : Option SR :=
  match x, y with
  | .agg a, .agg b =>
    match abinOp P op t xo yo (.agg a) (.agg b), v with
    | none, .bool c => some (.needP (aeqX P op t xo yo (.agg a) (.agg b) = some c) (.ok (.bool c) none))
    | _, _ => none
  | .int k a, .int k' b =>
    match op, Nat.beq (kidx k) (kidx k') with
    | .rem, true => some (.need (!eqI b 0) (.ok (.int k (Int.tmod a b)) none))
    | .quo, true => some (.need (Bool.and (!eqI b 0) (inK k (Int.tdiv a b))) (.ok (.int k (Int.tdiv a b)) none))
    | _, _ => none
  | _, _ => none
theorem sEqH_ok {op : BinOp} {t : TypeId} {xo yo : Operand} {x y v : AV} {r : SR} (h : sEqH P op t xo yo x y v = some r) {call : CallP} {rnd : RndP} {H : AH} {K : AV → Option AH → Prop} (hr : r.run call rnd H K) :
    ∃ u, (abinOp P op t xo yo x y = some u ∨ (abinOp P op t xo yo x y = none ∧ ∃ c, u = .bool c ∧ aeqX P op t xo yo x y = some c)) ∧ K u none := by
  unfold sEqH at h
  split at h
  · split at h
    · rename_i c hn
      cases h
      exact ⟨_, Or.inr ⟨hn, c, rfl, hr.1⟩, hr.2⟩
    · cases h
  · rename_i k a k' b
    split at h
    · rename_i hk
      obtain rfl := kidx_inj hk
      cases h
      obtain ⟨h1, h2⟩ := cond_need hr
      have hne : ¬ b = 0 := by
        intro hb
        rw [eqI_eq] at h1
        simp [hb] at h1
      have hu : (pureRun P (do eqGuard .rem t xo yo (.int k a) (.int k b); binOp .rem t (.int k a) (.int k b) : Sem Value)) = some (.int k (Int.tmod a b)) := by
        cases k <;> (show pureRun P (Op.intDiv .rem _ a b) = _; simp only [Op.intDiv, if_neg hne]; rfl)
      exact ⟨_, Or.inl (abinOp_int hu), h2⟩
    · rename_i hk
      obtain rfl := kidx_inj hk
      cases h
      obtain ⟨h1, h2⟩ := cond_need hr
      rw [Bool.and_eq_true] at h1
      have hne : ¬ b = 0 := by
        intro hb
        rw [eqI_eq] at h1
        simp [hb] at h1
      have hu : (pureRun P (do eqGuard .quo t xo yo (.int k a) (.int k b); binOp .quo t (.int k a) (.int k b) : Sem Value)) = some (.int k (k.wrap (Int.tdiv a b))) := by
        cases k <;> (show pureRun P (Op.intDiv .quo _ a b) = _; simp only [Op.intDiv, if_neg hne]; rfl)
      rw [wrap_inK h1.2] at hu
      exact ⟨_, Or.inl (abinOp_int hu), h2⟩
    · cases h
  · cases h

/-! ### Floats that are symbols -/
def flR (op : BinOp) (a b : Nat) : Option Nat := (farith op a b).getD none
def flV (op : BinOp) (a b : Nat) : Nat := (flR op a b).getD 0
def flC (op : BinOp) (a b : Nat) : Bool :=
  match op with
  | .eql => Ieee.double.order a b == some .eq
  | .neq => Ieee.double.order a b != some .eq
  | .lss => Ieee.double.order a b == some .lt
  | .leq => Ieee.double.order a b == some .lt || Ieee.double.order a b == some .eq
  | .gtr => Ieee.double.order a b == some .gt
  | .geq => Ieee.double.order a b == some .gt || Ieee.double.order a b == some .eq
  | _ => false
def sFlo (op : BinOp) (x y : AV) (H : AH) : Option SR :=
  match x, y with
  | .float .f64 a, .float .f64 b =>
    match op with
    | .add => some (.br (flR .add a b).isSome (.ok (.float .f64 (flV .add a b)) none) (.ok (.nan .f64) (some H)))
    | .sub => some (.br (flR .sub a b).isSome (.ok (.float .f64 (flV .sub a b)) none) (.ok (.nan .f64) (some H)))
    | .mul => some (.br (flR .mul a b).isSome (.ok (.float .f64 (flV .mul a b)) none) (.ok (.nan .f64) (some H)))
    | .quo => some (.br (flR .quo a b).isSome (.ok (.float .f64 (flV .quo a b)) none) (.ok (.nan .f64) (some H)))
    | .eql => some (.ok (.bool (flC .eql a b)) none)
    | .neq => some (.ok (.bool (flC .neq a b)) none)
    | .lss => some (.ok (.bool (flC .lss a b)) none)
    | .leq => some (.ok (.bool (flC .leq a b)) none)
    | .gtr => some (.ok (.bool (flC .gtr a b)) none)
    | .geq => some (.ok (.bool (flC .geq a b)) none)
    | _ => none
  | _, _ => none
theorem flo_arith {op : BinOp} {t : TypeId} {xo yo : Operand} {a b : Nat} (hop : op = .add ∨ op = .sub ∨ op = .mul ∨ op = .quo) : pureRun P (do eqGuard op t xo yo (.float .f64 a) (.float .f64 b); binOp op t (.float .f64 a) (.float .f64 b) : Sem Value) = (flR op a b).map (Value.float .f64) := by
  rcases hop with rfl | rfl | rfl | rfl
  · have e : pureRun P (do eqGuard .add t xo yo (.float .f64 a) (.float .f64 b); binOp .add t (.float .f64 a) (.float .f64 b) : Sem Value) = pureRun P (match Ieee.double.add a b with
      | some r => (pure (.float .f64 r) : Sem Value)
      | none => do pure (.float .f64 (← choose (.nanBits .f64 a b)))) := rfl
    rw [e]
    show _ = (Ieee.double.add a b).map (Value.float .f64)
    cases Ieee.double.add a b <;> rfl
  · have e : pureRun P (do eqGuard .sub t xo yo (.float .f64 a) (.float .f64 b); binOp .sub t (.float .f64 a) (.float .f64 b) : Sem Value) = pureRun P (match Ieee.double.sub a b with
      | some r => (pure (.float .f64 r) : Sem Value)
      | none => do pure (.float .f64 (← choose (.nanBits .f64 a b)))) := rfl
    rw [e]
    show _ = (Ieee.double.sub a b).map (Value.float .f64)
    cases Ieee.double.sub a b <;> rfl
  · have e : pureRun P (do eqGuard .mul t xo yo (.float .f64 a) (.float .f64 b); binOp .mul t (.float .f64 a) (.float .f64 b) : Sem Value) = pureRun P (match Ieee.double.mul a b with
      | some r => (pure (.float .f64 r) : Sem Value)
      | none => do pure (.float .f64 (← choose (.nanBits .f64 a b)))) := rfl
    rw [e]
    show _ = (Ieee.double.mul a b).map (Value.float .f64)
    cases Ieee.double.mul a b <;> rfl
  · have e : pureRun P (do eqGuard .quo t xo yo (.float .f64 a) (.float .f64 b); binOp .quo t (.float .f64 a) (.float .f64 b) : Sem Value) = pureRun P (match Ieee.double.div a b with
      | some r => (pure (.float .f64 r) : Sem Value)
      | none => do pure (.float .f64 (← choose (.nanBits .f64 a b)))) := rfl
    rw [e]
    show _ = (Ieee.double.div a b).map (Value.float .f64)
    cases Ieee.double.div a b <;> rfl
theorem abinOp_flo {op : BinOp} {t : TypeId} {xo yo : Operand} {a b : Nat} : abinOp P op t xo yo (.float .f64 a) (.float .f64 b) = (pureRun P (do eqGuard op t xo yo (.float .f64 a) (.float .f64 b); binOp op t (.float .f64 a) (.float .f64 b) : Sem Value)).map ofV1 := by
  unfold abinOp
  simp only [AV.sc]
theorem aeqX_flo {op : BinOp} {t : TypeId} {xo yo : Operand} {a b : Nat} : aeqX P op t xo yo (.float .f64 a) (.float .f64 b) = none := by
  unfold aeqX aptrEq
  split
  · rename_i h
    split at h <;> simp_all
  · rfl
theorem sFlo_ok {op : BinOp} {t : TypeId} {xo yo : Operand} {x y : AV} {H : AH} {r : SR} (h : sFlo op x y H = some r) {call : CallP} {rnd : RndP} {K : AV → Option AH → Prop} (hr : r.run call rnd H K) :
    ∃ v ch, ((abinOp P op t xo yo x y = some v ∧ ch = none) ∨ (abinOp P op t xo yo x y = none ∧ aeqX P op t xo yo x y = none ∧ ananOp op x y = some v ∧ ch = some H)) ∧ K v ch := by
  unfold sFlo at h
  split at h
  · rename_i a b
    have ar : ∀ op : BinOp, (op = .add ∨ op = .sub ∨ op = .mul ∨ op = .quo) → SR.run call rnd H K (.br (flR op a b).isSome (.ok (.float .f64 (flV op a b)) none) (.ok (.nan .f64) (some H))) →
        ∃ v ch, ((abinOp P op t xo yo (.float .f64 a) (.float .f64 b) = some v ∧ ch = none) ∨ (abinOp P op t xo yo (.float .f64 a) (.float .f64 b) = none ∧ aeqX P op t xo yo (.float .f64 a) (.float .f64 b) = none ∧ ananOp op (.float .f64 a) (.float .f64 b) = some v ∧ ch = some H)) ∧ K v ch := by
      intro op hop hr
      have hb := abinOp_flo (P := P) (op := op) (t := t) (xo := xo) (yo := yo) (a := a) (b := b)
      rw [flo_arith hop] at hb
      cases hf : flR op a b with
      | some n =>
        have hr : K (.float .f64 (flV op a b)) none := by
          have h2 : cond (flR op a b).isSome (K (.float .f64 (flV op a b)) none) (K (.nan .f64) (some H)) := hr
          rw [hf] at h2; exact h2
        refine ⟨_, _, .inl ⟨?_, rfl⟩, hr⟩
        rw [hb, hf]
        simp only [flV, hf]
        rfl
      | none =>
        have hr : K (.nan .f64) (some H) := by
          have h2 : cond (flR op a b).isSome (K (.float .f64 (flV op a b)) none) (K (.nan .f64) (some H)) := hr
          rw [hf] at h2; exact h2
        refine ⟨_, _, .inr ⟨by rw [hb, hf]; rfl, aeqX_flo, ?_, rfl⟩, hr⟩
        have : farith op a b = some none := by
          unfold flR at hf
          rcases hop with rfl | rfl | rfl | rfl <;> exact congrArg some hf
        simp only [ananOp, afl, this, if_true]
    have cm : ∀ (c : Bool), pureRun P (do eqGuard op t xo yo (.float .f64 a) (.float .f64 b); binOp op t (.float .f64 a) (.float .f64 b) : Sem Value) = some (.bool c) → K (.bool c) none →
        ∃ v ch, ((abinOp P op t xo yo (.float .f64 a) (.float .f64 b) = some v ∧ ch = none) ∨ (abinOp P op t xo yo (.float .f64 a) (.float .f64 b) = none ∧ aeqX P op t xo yo (.float .f64 a) (.float .f64 b) = none ∧ ananOp op (.float .f64 a) (.float .f64 b) = some v ∧ ch = some H)) ∧ K v ch := by
      intro c hc hk
      exact ⟨_, _, .inl ⟨by rw [abinOp_flo, hc]; rfl, rfl⟩, hk⟩
    split at h <;> first | (cases h; done) | skip
    all_goals cases h
    · exact ar _ (by simp) hr
    · exact ar _ (by simp) hr
    · exact ar _ (by simp) hr
    · exact ar _ (by simp) hr
    all_goals exact cm _ rfl hr
  · cases h
def sConvF (P : Program) (s d : TypeId) (x : AV) : Option SR :=
  match x with
  | .int _ n =>
    match P.underlying s, P.underlying d with
    | some _, some (.float .f64) => some (.ok (.float .f64 (FloatKind.f64.nearest n)) none)
    | _, _ => none
  | _ => none
theorem pureRun_i2f {s d : TypeId} {ds : TypeDesc} {k0 : IntKind} {k : FloatKind} {n : Int} (hs : P.underlying s = some ds) (hd : P.underlying d = some (.float k)) : pureRun P (convert s d (.int k0 n)) = some (.float k (k.nearest n)) := by
  unfold convert
  rw [pureRun_bind P _ _ (pureRun_underlying hs), pureRun_bind P _ _ (pureRun_underlying hd)]
  rfl
theorem sConvF_ok {s d : TypeId} {x : AV} {H : AH} {r : SR} (h : sConvF P s d x = some r) {call : CallP} {rnd : RndP} {K : AV → Option AH → Prop} (hr : r.run call rnd H K) :
    ∃ v, aptr P s d x H = none ∧ aconvert P s d x H = some (v, none) ∧ K v none := by
  unfold sConvF at h
  split at h
  · rename_i k0 n
    split at h
    · rename_i ds hs hd
      cases h
      refine ⟨_, ?_, ?_, hr⟩
      · unfold aptr
        (repeat' split) <;> first | rfl | (simp_all; done)
      · simp only [aconvert, AV.sc, pureRun_i2f hs hd]
        rfl
    · cases h
  · cases h
/-- An integer cut to its kind (asked for by a hint). -/
def sConvW (P : Program) (s d : TypeId) (x : AV) : Option SR :=
  match x with
  | .int _ n =>
    match P.underlying s, P.underlying d with
    | some _, some (.int k) => some (.ok (.int k (k.wrap n)) none)
    | _, _ => none
  | _ => none
theorem sConvW_ok {s d : TypeId} {x : AV} {H : AH} {r : SR} (h : sConvW P s d x = some r) {call : CallP} {rnd : RndP} {K : AV → Option AH → Prop} (hr : r.run call rnd H K) :
    ∃ v, aptr P s d x H = none ∧ aconvert P s d x H = some (v, none) ∧ K v none := by
  unfold sConvW at h
  split at h
  · rename_i k0 n
    split at h
    · rename_i ds k hs hd
      cases h
      refine ⟨_, ?_, ?_, hr⟩
      · unfold aptr
        (repeat' split) <;> first | rfl | (simp_all; done)
      · simp only [aconvert, AV.sc, pureRun_int hs hd]
        rfl
    · cases h
  · cases h
/-- Where a slice's cells begin; the text over cells (told by a hint). -/
def sSlData (x : AV) : Option SR :=
  match x with
  | .sl b off _ cap _ => some (.need (Nat.ble 1 cap) (.ok (.ptr b off) none))
  | _ => none
theorem sSlData_ok {t : TypeId} {x : AV} {H : AH} {r : SR} (h : sSlData x = some r) {call : CallP} {rnd : RndP} {K : AV → Option AH → Prop} (hr : r.run call rnd H K) :
    ∃ v, abuiltin P .unsafeSliceData [t] [x] H = some (v, none) ∧ K v none := by
  unfold sSlData at h
  split at h
  · rename_i b off len cap ex
    cases h
    obtain ⟨h1, h2⟩ := cond_need hr
    have h1 := Nat.le_of_ble_eq_true h1
    refine ⟨_, ?_, h2⟩
    show aunsafe P .unsafeSliceData [t] [.sl b off len cap ex] H = _
    unfold aunsafe
    simp only [ne_eq, show ¬ cap = 0 by omega, not_false_eq_true, if_true]
  · cases h
def sUnStr (P : Program) (pt : TypeId) (p n : AV) (H : AH) (v : AV) : Option SR :=
  match p, n, v with
  | .ptr b off, .int .i64 m, .str tx =>
    match P.underlying pt, H[b]? with
    | some (.pointer e), some (.cells vs esz false) =>
      match Bool.and (decide (tyOf esz = some e)) (decide (P.cellsOf e = 1)) with
      | true => some (.needP (0 < m ∧ m ≤ 9223372036854775807 ∧ off + m.toNat ≤ vs.length) (.needP (abytes ((vs.drop off).take m.toNat) = some tx) (.ok (.str tx) (some (H.set b .dead)))))
      | false => none
    | _, _ => none
  | _, _, _ => none
theorem sUnStr_ok {pt it : TypeId} {p n v : AV} {H : AH} {r : SR} (h : sUnStr P pt p n H v = some r) {call : CallP} {rnd : RndP} {K : AV → Option AH → Prop} (hr : r.run call rnd H K) :
    ∃ v H' lo, abuiltin P .unsafeString [pt, it] [p, n] H = some (v, some (H', lo)) ∧ K v (some H') := by
  unfold sUnStr at h
  split at h
  · rename_i b off m tx
    split at h
    · rename_i e vs esz hp hb
      split at h
      · rename_i hc
        rw [Bool.and_eq_true, decide_eq_true_eq, decide_eq_true_eq] at hc
        cases h
        obtain ⟨⟨g1, g2, g3⟩, g4, g5⟩ := hr
        refine ⟨_, _, b, ?_, g5⟩
        show aunsafe P .unsafeString [pt, it] [.ptr b off, .int .i64 m] H = _
        unfold aunsafe
        simp only [show ¬ m = 0 by omega, if_false, hp, hb, if_pos (show 0 < m ∧ m ≤ 9223372036854775807 ∧ tyOf esz = some e ∧ P.cellsOf e = 1 ∧ off + m.toNat ≤ vs.length from ⟨g1, g2, hc.1, hc.2, g3⟩), g4]
      · cases h
    · cases h
  · cases h
/-- Appended to nothing, something (told by a hint). -/
def sAppN (P : Program) (t t2 : TypeId) (s x : AV) (H : AH) : Option SR :=
  match s with
  | .nilsl =>
    match P.underlying t, P.underlying t2 with
    | some (.slice e), some d2 =>
      match isIntD d2, P.info? e, azero P e with
      | false, some inf, some z =>
        if Bool.and (Nat.beq z.length inf.size) (Nat.blt inf.size 65536) = true then
          match sNews H inf.size x with
          | none => none
          | some (nb, n, cs) => some (.need nb (.need (!decide (n = 0)) (.need (decide (n ≤ maxLen) && decide (n * inf.bytes ≤ 140737488355328)) (.ok (.sl H.length 0 n n false) (some (H ++ [.cells cs (btag P e inf.size) false]))))))
        else none
      | _, _, _ => none
    | _, _ => none
  | _ => none
theorem sAppN_ok {t t2 : TypeId} {s x : AV} {H : AH} {r : SR} (h : sAppN P t t2 s x H = some r) {call : CallP} {rnd : RndP} {K : AV → Option AH → Prop} (hr : r.run call rnd H K) :
    ∃ v H', aappend P t t2 s x H = some (v, H') ∧ K v (some H') := by
  unfold sAppN at h
  split at h
  · split at h
    · rename_i e d2 ht ht2
      split at h
      · rename_i inf z hi hf hz
        split at h
        · rename_i hc
          split at h
          · cases h
          · rename_i nb n cs hn
            cases h
            obtain ⟨h1, h2⟩ := cond_need hr
            obtain ⟨h3, h4⟩ := cond_need h2
            obtain ⟨h5, h6⟩ := cond_need h4
            have h3 : decide (n = 0) = false := by simpa using h3
            refine sAppend_ok (r := .need nb (.br (decide (n = 0)) (.ok .nilsl (some H)) (.need (decide (n ≤ maxLen) && decide (n * inf.bytes ≤ 140737488355328)) (.ok (.sl H.length 0 n n false) (some (H ++ [.cells cs (btag P e inf.size) false])))))) (call := call) (rnd := rnd) ?_ ?_
            · unfold sAppend
              simp only [ht, ht2, hi, hf, hz, if_pos hc, hn]
            · refine need_intro h1 ?_
              show cond (decide (n = 0)) _ _
              rw [h3]
              exact need_intro h5 h6
        · cases h
      · cases h
    · cases h
  · cases h
/-- Appended nothing, or what makes it grow (told by a hint). -/
def sAppZ (P : Program) (t t2 : TypeId) (s x : AV) (H : AH) : Option SR :=
  match s with
  | .sl b off len cap ex =>
    match P.underlying t, P.underlying t2 with
    | some (.slice e), some d2 =>
      match isIntD d2, P.info? e, azero P e with
      | false, some inf, some z =>
        if Bool.and (Nat.beq z.length inf.size) (Nat.blt inf.size 65536) = true then
          match sNews H inf.size x with
          | none => none
          | some (nb, n, cs) =>
            match H[b]? with
            | some (.cells vs esz ro) =>
              some (.need nb (.need (decide (len ≤ cap) && decide (off + len * inf.size ≤ vs.length)) (.br (decide (n = 0)) (.ok (.sl b off len cap ex) (some H)) (.need (!decide (len + n ≤ cap))
                (.need (decide (len + n ≤ maxLen) && decide ((len + n) * inf.bytes ≤ 140737488355328)) (match ex with
                  | true => .ok (.sl H.length 0 (len + n) (len + n) false) (some (H ++ [.cells ((vs.drop off).take (len * inf.size) ++ cs) (btag P e inf.size) false]))
                  | false => match ro with
                    | false => .need (decide (len = cap) && (decide (off + len * inf.size = vs.length) && (decide (esz = btag P e inf.size) && AV.allOne cs)))
                        (.ok (.sl H.length 0 (len + n) (len + n) false) (some (H.set b .dead ++ [.cells (vs.drop off ++ cs) (btag P e inf.size) false])))
                    | true => .need false (.ok .bad (some H))))))))
            | _ => none
        else none
      | _, _, _ => none
    | _, _ => none
  | _ => none
theorem sAppZ_ok {t t2 : TypeId} {s x : AV} {H : AH} {r : SR} (h : sAppZ P t t2 s x H = some r) {call : CallP} {rnd : RndP} {K : AV → Option AH → Prop} (hr : r.run call rnd H K) :
    ∃ v H', aappend P t t2 s x H = some (v, H') ∧ K v (some H') := by
  unfold sAppZ at h
  split at h
  · rename_i b off len cap ex
    split at h
    · rename_i e d2 ht ht2
      split at h
      · rename_i inf z hi hf hz
        split at h
        · rename_i hc
          split at h
          · cases h
          · rename_i nb n cs hn
            split at h
            · rename_i vs esz ro hb
              cases h
              obtain ⟨h1, h2⟩ := cond_need hr
              obtain ⟨h3, h4⟩ := cond_need h2
              refine sAppend_ok (s := .sl b off len cap ex) (r := (match (sAppend P t t2 (.sl b off len cap ex) x H) with | some r => r | none => .need false (.ok .bad none))) (call := call) (rnd := rnd) ?_ ?_
              · unfold sAppend
                simp only [ht, ht2, hi, hf, hz, if_pos hc, hn, hb]
              · unfold sAppend
                simp only [ht, ht2, hi, hf, hz, if_pos hc, hn, hb]
                refine need_intro h1 (need_intro h3 ?_)
                have h4 : cond (decide (n = 0)) (K (.sl b off len cap ex) (some H)) _ := h4
                cases hn0 : decide (n = 0) with
                | true =>
                  first | exact h4 | (rw [hn0] at h4; exact h4)
                | false =>
                  try rw [hn0] at h4
                  obtain ⟨h5, h6⟩ := cond_need h4
                  have h5 : decide (len + n ≤ cap) = false := by simpa using h5
                  show cond (decide (len + n ≤ cap)) _ _
                  rw [h5]
                  exact h6
            · cases h
        · cases h
      · cases h
    · cases h
  · cases h
noncomputable def stepV (P : Program) (hs : List (Nat × AV)) (o : Oper) (ρ : Operand → AV) (H : AH) : Option SR :=
  match hintOf hs o.dst with
  | some .bad =>
    match o.op with
    | .load t a => orV (sLoadA P t H (ρ a)) (fallV P o ρ H)
    | .convert s d x => orV (sConvW P s d (ρ x)) (fallV P o ρ H)
    | _ => fallV P o ρ H
  | some v =>
    match o.op with
    | .load t a => orV (sLoad P t H (ρ a) v) (rawV P o ρ H v)
    | .convert s d x => orV (sText P s d H (ρ x) v) (rawV P o ρ H v)
    | .binOp op t x y _ => orV (sEqH P op t x y (ρ x) (ρ y) v) (rawV P o ρ H v)
    | .lookup t x k ok => orV (sLookupH P t (ρ x) (ρ k) ok H v) (rawV P o ρ H v)
    | .call c =>
      match v, c.callee, c.argTypes.toList, c.args.toList with
      | .nilsl, .builtin .append, [t, t2], [s, x] => orV (sAppendG P true t t2 (ρ s) (ρ x) H) (orV (sAppN P t t2 (ρ s) (ρ x) H) (rawV P o ρ H v))
      | .slz, .builtin .append, [t, t2], [s, x] => orV (sAppendG P false t t2 (ρ s) (ρ x) H) (rawV P o ρ H v)
      | .nilmap, .builtin .append, [t, t2], [s, x] => orV (sAppZ P t t2 (ρ s) (ρ x) H) (rawV P o ρ H v)
      | .str tx, .builtin .unsafeString, [pt, _], [p, n] => orV (sUnStr P pt (ρ p) (ρ n) H (.str tx)) (rawV P o ρ H v)
      | v, _, _, _ => rawV P o ρ H v
    | _ => rawV P o ρ H v
  | none =>
    match o.op with
    | .pick c a b =>
      match ρ c with
      | .bool t => some (.br t (.ok (ρ a) none) (.ok (ρ b) none))
      | _ => none
    | .binOp op _ x y _ => orV (sBin op (ρ x) (ρ y)) (orV (sFlo op (ρ x) (ρ y) H) (fallV P o ρ H))
    | .convert s d x => orV (sConv P s d (ρ x)) (orV (sConvF P s d (ρ x)) (fallV P o ρ H))
    | .index t x i => orV (sIndex P t (ρ x) (ρ i)) (fallV P o ρ H)
    | .indexAddr t x i => orV (sIndexAt P t (ρ x) (ρ i)) (fallV P o ρ H)
    | .slice t x lo hi mx => orV (sSlice P t (ρ x) (lo.map ρ) (hi.map ρ) (mx.map ρ)) (fallV P o ρ H)
    | .store t a x => orV (sStore P t H (ρ a) (ρ x)) (fallV P o ρ H)
    | .makeSlice t l c => orV (sMakeSlice P t (ρ l) (ρ c) H) (fallV P o ρ H)
    | .next it s => orV (sNext (ρ it) s H) (fallV P o ρ H)
    | .lookup t x k ok => orV (sLookup P t (ρ x) (ρ k) ok H) (fallV P o ρ H)
    | .mapUpdate t m k x => orV (sMapUpdate P t (ρ m) (ρ k) (ρ x) H) (fallV P o ρ H)
    | .call c =>
      match c.callee, c.argTypes.toList, c.args.toList with
      | .builtin .append, [t, t2], [s, x] => orV (sAppend P t t2 (ρ s) (ρ x) H) (fallV P o ρ H)
      | .builtin .min, _, [x, y] => orV (sExtr true (ρ x) (ρ y)) (fallV P o ρ H)
      | .builtin .max, _, [x, y] => orV (sExtr false (ρ x) (ρ y)) (fallV P o ρ H)
      | .builtin .delete, t :: _, [m, k] => orV (sDelete P t (ρ m) (ρ k) H) (fallV P o ρ H)
      | .builtin .unsafeSliceData, [_], [x] => orV (sSlData (ρ x)) (fallV P o ρ H)
      | _, _, _ => fallV P o ρ H
    | _ => fallV P o ρ H
theorem orV_ok {p q : Option SR} {r : SR} (h : orV p q = some r) {G : Prop} (h1 : p = some r → G) (h2 : q = some r → G) : G := by
  unfold orV at h
  split at h
  · cases h; exact h1 rfl
  · exact h2 h
theorem sExtr_ok {mn : Bool} {x y : AV} {r : SR} (h : sExtr mn x y = some r) {call : CallP} {rnd : RndP} {H : AH} {K : AV → Option AH → Prop} (hr : r.run call rnd H K) :
    ∃ v, (∀ ts, abuiltin P (if mn then .min else .max) ts [x, y] H = some (v, none)) ∧ K v none := by
  unfold sExtr at h
  split at h
  · rename_i k a k' b
    split at h
    · rename_i hk
      obtain rfl := kidx_inj hk
      cases h
      refine ⟨_, fun ts => ?_, hr⟩
      cases mn with
      | true =>
        show (pureRun P (Builtin.min_ #[] 0 #[.int k a, .int k b])).map (fun v => (ofV1 v, none)) = _
        have : pureRun P (Builtin.min_ #[] 0 #[.int k a, .int k b]) = some (.int k (min a b)) := by
          have e : pureRun P (Builtin.min_ #[] 0 #[.int k a, .int k b]) = some (.int k (if b < a then b else a)) := rfl
          rw [e]
          congr 2
          rw [Int.min_def]
          split <;> split <;> omega
        rw [this]; rfl
      | false =>
        show (pureRun P (Builtin.max_ #[] 0 #[.int k a, .int k b])).map (fun v => (ofV1 v, none)) = _
        have : pureRun P (Builtin.max_ #[] 0 #[.int k a, .int k b]) = some (.int k (max a b)) := by
          have e : pureRun P (Builtin.max_ #[] 0 #[.int k a, .int k b]) = some (.int k (if b > a then b else a)) := rfl
          rw [e]
          congr 2
          rw [Int.max_def]
          split <;> split <;> omega
        rw [this]; rfl
    · cases h
  · cases h
theorem stepV_ok {hs : List (Nat × AV)} {o : Oper} {ρ : Operand → AV} {H : AH} {r : SR} (h : stepV P hs o ρ H = some r) {call : CallP} {rnd : RndP} {K : AV → Option AH → Prop} (hr : r.run call rnd H K) :
    ∃ ao, aop P o ρ H = some ao ∧ ao.run call rnd H K := by
  have raw : ∀ v, rawV P o ρ H v = some r → ∃ ao, aop P o ρ H = some ao ∧ ao.run call rnd H K := fun v hv => by
    cases hv
    exact ⟨_, hr.1, hr.2⟩
  have fall : fallV P o ρ H = some r → ∃ ao, aop P o ρ H = some ao ∧ ao.run call rnd H K := fun hf => fallV_ok hf hr
  unfold stepV at h
  split at h
  · split at h
    · rename_i t a ho
      refine orV_ok h (fun h => ?_) fall
      obtain ⟨v, h1, h2⟩ := sLoadA_ok h hr
      exact ⟨.val v none, by unfold aop; simp only [ho, h1]; rfl, h2⟩
    · rename_i s d x ho
      refine orV_ok h (fun h => ?_) fall
      obtain ⟨v, h1, h2, h3⟩ := sConvW_ok h hr
      exact ⟨.val v none, by unfold aop; simp only [ho, h1, h2]; rfl, h3⟩
    · exact fall h
  · rename_i v _ hv
    split at h
    · rename_i t a ho
      refine orV_ok h (fun h => ?_) (raw v)
      obtain ⟨v, h1, h2⟩ := sLoad_ok h hr
      exact ⟨.val v none, by unfold aop; simp only [ho, h1]; rfl, h2⟩
    · rename_i s d x ho
      refine orV_ok h (fun h => ?_) (raw v)
      obtain ⟨v, h1, h2, h3⟩ := sText_ok h hr
      exact ⟨.val v none, by unfold aop; simp only [ho, h1, h2]; rfl, h3⟩
    · rename_i op t x y yt ho
      refine orV_ok h (fun h => ?_) (raw v)
      obtain ⟨u, h1, h2⟩ := sEqH_ok h hr
      rcases h1 with h1 | ⟨h1, c, rfl, h3⟩
      · exact ⟨.val u none, by unfold aop; simp only [ho, h1], h2⟩
      · exact ⟨.val (.bool c) none, by unfold aop; simp only [ho, h1, h3], h2⟩
    · rename_i t x k ok ho
      refine orV_ok h (fun h => ?_) (raw v)
      obtain ⟨v, h1, h2⟩ := sLookupH_ok h hr
      exact ⟨.val v none, by unfold aop; simp only [ho, h1]; rfl, h2⟩
    · rename_i c ho
      split at h
      · rename_i t t2 s x hb ht hx _
        refine orV_ok h (fun h => ?_) (fun h => orV_ok h (fun h => ?_) (raw _))
        · obtain ⟨v, H', h1, h2⟩ := sAppendG_ok h hr
          exact ⟨.val v (some (H', wrOf H (ρ s))), by unfold aop; simp only [ho, acall, hb, ht, hx, List.map, abuiltin, h1]; rfl, h2⟩
        · obtain ⟨v, H', h1, h2⟩ := sAppN_ok h hr
          exact ⟨.val v (some (H', wrOf H (ρ s))), by unfold aop; simp only [ho, acall, hb, ht, hx, List.map, abuiltin, h1]; rfl, h2⟩
      · rename_i t t2 s x hb ht hx _
        refine orV_ok h (fun h => ?_) (raw _)
        obtain ⟨v, H', h1, h2⟩ := sAppendG_ok h hr
        exact ⟨.val v (some (H', wrOf H (ρ s))), by unfold aop; simp only [ho, acall, hb, ht, hx, List.map, abuiltin, h1]; rfl, h2⟩
      · rename_i t t2 s x hb ht hx _
        refine orV_ok h (fun h => ?_) (raw _)
        obtain ⟨v, H', h1, h2⟩ := sAppZ_ok h hr
        exact ⟨.val v (some (H', wrOf H (ρ s))), by unfold aop; simp only [ho, acall, hb, ht, hx, List.map, abuiltin, h1]; rfl, h2⟩
      · rename_i tx pt it p n hb ht hx _
        refine orV_ok h (fun h => ?_) (raw _)
        obtain ⟨v, H', lo, h1, h2⟩ := sUnStr_ok (it := it) h hr
        exact ⟨.val v (some (H', lo)), by unfold aop; simp only [ho, acall, hb, ht, hx, List.map, h1]; rfl, h2⟩
      · exact raw _ h
    · exact raw v h
  · split at h
    · rename_i c a b ho
      split at h
      · rename_i t hc
        cases h
        cases t with
        | true => exact ⟨.val (ρ a) none, by unfold aop; simp only [ho, hc]; rfl, hr⟩
        | false => exact ⟨.val (ρ b) none, by unfold aop; simp only [ho, hc]; rfl, hr⟩
      · cases h
    · rename_i op t x y yt ho
      refine orV_ok h (fun h => ?_) fun h => orV_ok h (fun h => ?_) fall
      · obtain ⟨v, h1, h2⟩ := sBin_ok (P := P) (t := t) (xo := x) (yo := y) h hr
        exact ⟨.val v none, by unfold aop; simp only [ho, h1], h2⟩
      · obtain ⟨v, ch, h1, h2⟩ := sFlo_ok (P := P) (t := t) (xo := x) (yo := y) h hr
        rcases h1 with ⟨h1, rfl⟩ | ⟨h1, h3, h4, rfl⟩
        · exact ⟨.val v none, by unfold aop; simp only [ho, h1], h2⟩
        · exact ⟨.val v (some (H, H.length)), by unfold aop; simp only [ho, h1, h3, h4], h2⟩
    · rename_i s d x ho
      refine orV_ok h (fun h => ?_) fun h => orV_ok h (fun h => ?_) fall
      · obtain ⟨v, h1, h2, h3⟩ := sConv_ok h hr
        exact ⟨.val v none, by unfold aop; simp only [ho, h1, h2]; rfl, h3⟩
      · obtain ⟨v, h1, h2, h3⟩ := sConvF_ok h hr
        exact ⟨.val v none, by unfold aop; simp only [ho, h1, h2]; rfl, h3⟩
    · rename_i t x i ho
      refine orV_ok h (fun h => ?_) fall
      obtain ⟨v, h1, h2⟩ := sIndex_ok h hr
      exact ⟨.val v none, by unfold aop; simp only [ho, h1]; rfl, h2⟩
    · rename_i t x i ho
      refine orV_ok h (fun h => ?_) fall
      obtain ⟨v, h1, h2⟩ := sIndexAt_ok h hr
      exact ⟨.val v none, by unfold aop; simp only [ho, h1]; rfl, h2⟩
    · rename_i t x lo hi mx ho
      refine orV_ok h (fun h => ?_) fall
      obtain ⟨v, h1, h2⟩ := sSlice_ok h hr
      exact ⟨.val v none, by unfold aop; simp only [ho, h1]; rfl, h2⟩
    · rename_i t a x ho
      refine orV_ok h (fun h => ?_) fall
      obtain ⟨H', h1, h2⟩ := sStore_ok h hr
      exact ⟨.val (.tuple []) (some (H', ptrOf (ρ a))), by unfold aop; simp only [ho, h1]; rfl, h2⟩
    · rename_i t l c ho
      refine orV_ok h (fun h => ?_) fall
      obtain ⟨v, H', h1, h2⟩ := sMakeSlice_ok h hr
      exact ⟨.val v (some (H', H.length)), by unfold aop; simp only [ho, h1]; rfl, h2⟩
    · rename_i it s ho
      refine orV_ok h (fun h => ?_) fall
      obtain ⟨v, ch, h1, h2⟩ := sNext_ok h hr
      refine ⟨.val v ch, by unfold aop; simp only [ho, h1]; rfl, ?_⟩
      cases ch <;> exact h2
    · rename_i t x k ok ho
      refine orV_ok h (fun h => ?_) fall
      obtain ⟨v, h1, h2⟩ := sLookup_ok h hr
      exact ⟨.val v none, by unfold aop; simp only [ho, h1]; rfl, h2⟩
    · rename_i t m k x ho
      refine orV_ok h (fun h => ?_) fall
      obtain ⟨H', h1, h2⟩ := sMapUpdate_ok h hr
      exact ⟨.val (.tuple []) (some (H', mapOf (ρ m))), by unfold aop; simp only [ho, h1]; rfl, h2⟩
    · rename_i c ho
      split at h
      · rename_i t t2 s x hb ht hx
        refine orV_ok h (fun h => ?_) fall
        obtain ⟨v, H', h1, h2⟩ := sAppend_ok h hr
        exact ⟨.val v (some (H', wrOf H (ρ s))), by unfold aop; simp only [ho, acall, hb, ht, hx, List.map, abuiltin, h1]; rfl, h2⟩
      · rename_i ts x y hb hx
        refine orV_ok h (fun h => ?_) fall
        obtain ⟨v, h1, h2⟩ := sExtr_ok (P := P) h hr
        have h1' := h1 c.argTypes.toList
        simp only [if_true] at h1'
        exact ⟨.val v none, by unfold aop; simp only [ho, acall, hb, hx, List.map, h1']; rfl, h2⟩
      · rename_i ts x y hb hx
        refine orV_ok h (fun h => ?_) fall
        obtain ⟨v, h1, h2⟩ := sExtr_ok (P := P) h hr
        have h1' := h1 c.argTypes.toList
        simp only [Bool.false_eq_true, if_false] at h1'
        exact ⟨.val v none, by unfold aop; simp only [ho, acall, hb, hx, List.map, h1']; rfl, h2⟩
      · rename_i t ts m k hb ht hx
        refine orV_ok h (fun h => ?_) fall
        obtain ⟨H', h1, h2⟩ := sDelete_ok h hr
        exact ⟨.val (.tuple []) (some (H', mapOf (ρ m))), by unfold aop; simp only [ho, acall, hb, ht, hx, List.map, abuiltin, h1]; rfl, h2⟩
      · rename_i t x hb ht hx
        refine orV_ok h (fun h => ?_) fall
        obtain ⟨v, h1, h2⟩ := sSlData_ok (P := P) (t := t) h hr
        exact ⟨.val v none, by unfold aop; simp only [ho, acall, hb, ht, hx, List.map, h1]; rfl, h2⟩
      · exact fall h
    · exact fall h
end
end Go.Ve

