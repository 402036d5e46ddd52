/- Variables of the library at the memory's beginning, several of them; bytes as arguments. -/
import Derived.Test.YtciciemaldbidaaGreatDoorSf
import Derived.Lib.LaidU8
set_option linter.unusedSimpArgs false
set_option linter.unusedVariables false
namespace Go.Ve
open Go Go.RowKit Go.WideShapes Go.ChangeShapes
def gLocs (L : List (Nat × List AV)) : List Loc := L.map fun p => ⟨p.1, 0, 0⟩
def gBlks (L : List (Nat × List AV)) : AH := L.map fun p => .glob p.1 p.2
def CellsAt (W : World) (φ : List Loc) (g : Nat) (vs : List AV) : Prop := g < W.heap.size ∧ (∀ j, vs.length ≤ j → W.cell? ⟨g, j, none⟩ = none) ∧ ∀ (j : Nat) (v : AV), vs[j]? = some v → ∃ u, VR φ v u ∧ W.cell? ⟨g, j, none⟩ = some u
theorem globs_rel {W : World} {L : List (Nat × List AV)} (hnd : (L.map (·.1)).Nodup) (h : ∀ p ∈ L, CellsAt W (gLocs L) p.1 p.2) : Rel (Base.all W) (gLocs L) (gBlks L) W := by
  refine ⟨by simp [gLocs, gBlks], BelowB.refl _, fun b k l hk hl => ?_, fun b b' k k' l l' hk hk' hl hl' ho ho' he => ?_⟩
  · simp only [gBlks, List.getElem?_map, Option.map_eq_some_iff] at hk
    simp only [gLocs, List.getElem?_map, Option.map_eq_some_iff] at hl
    obtain ⟨p, hp, rfl⟩ := hk
    obtain ⟨p', hp', rfl⟩ := hl
    rw [hp] at hp'
    cases hp'
    obtain ⟨h1, he, h2⟩ := h p (List.mem_of_getElem? hp)
    refine ⟨h1, rfl, ⟨rfl, he⟩, fun j v hj => ?_⟩
    obtain ⟨u, h3, h4⟩ := h2 j v hj
    exact ⟨u, h3, by simpa using h4⟩
  · simp only [gLocs, List.getElem?_map, Option.map_eq_some_iff] at hl hl'
    obtain ⟨p, hp, rfl⟩ := hl
    obtain ⟨p', hp', rfl⟩ := hl'
    have e1 : (L.map (·.1))[b]? = some p.1 := by simp [hp]
    have e2 : (L.map (·.1))[b']? = some p'.1 := by simp [hp']
    simp only at he
    obtain ⟨hb, e1⟩ := List.getElem?_eq_some_iff.1 e1
    obtain ⟨hb', e2⟩ := List.getElem?_eq_some_iff.1 e2
    have hne := List.pairwise_iff_getElem.1 hnd
    have hee : (L.map (·.1))[b] = (L.map (·.1))[b'] := e1.trans (he.trans e2.symm)
    rcases Nat.lt_trichotomy b b' with h | h | h
    · exact absurd hee (hne b b' hb hb' h)
    · exact h
    · exact absurd hee.symm (hne b' b hb' hb h)
theorem lt_of_cell {W : World} {a : Addr} {v : Value} (h : W.cell? a = some v) : a.block < W.heap.size := by
  refine Decidable.byContradiction fun hn => ?_
  unfold World.cell? at h
  rw [Array.getElem?_eq_none (by simpa using hn)] at h
  cases h
theorem glob_ints {P : Program} {W : World} {n : String} {k : IntKind} {zs : List Int} {g : Nat} {t e : TypeId} {c : Nat} (φ : List Loc) (h : Lib.VarReads P W n (Lib.tabData k zs)) (hg : P.globalNamed n = some g) (ht : (P.globals[g]?).map (·.type) = some t) (ha : P.underlying t = some (.array c e)) (he : P.underlying e = some (.int k)) (hce : P.cellsOf e = 1) (hct : P.cellsOf t = c) (hz : zs ≠ []) : CellsAt W φ g (zs.map fun z => .int k z) := by
  obtain ⟨g', t', cs, fuel, p, h1, h2, h3, h4⟩ := h
  obtain rfl := Option.some.inj (hg.symm.trans h1)
  obtain rfl := Option.some.inj (ht.symm.trans h2)
  have hcs := Lib.cells_of_tab ha he hce hct h4
  have hcell : ∀ j z, zs[j]? = some z → W.cell? ⟨g, j, none⟩ = some (.int k z) := fun j z hj => by
    rw [World.var?_cell hg h3 j, ← Array.getElem?_toList, hcs]
    simp [hj]
  refine ⟨?_, fun j hj => ?_, fun j v hj => ?_⟩
  · match zs, hz, hcell with
    | z :: r, _, hcell => exact lt_of_cell (hcell 0 z rfl)
  · rw [World.var?_cell hg h3 j, ← Array.getElem?_toList, hcs]
    exact List.getElem?_eq_none (by simpa using hj)
  · simp only [List.getElem?_map, Option.map_eq_some_iff] at hj
    obtain ⟨z, hz, rfl⟩ := hj
    exact ⟨_, .int _ _, hcell j z hz⟩
theorem two_len {α β : Type} (f g : α → β) : ∀ l : List α, (l.flatMap fun i => [f i, g i]).length = l.length * 2
  | [] => rfl
  | a :: l => by rw [List.flatMap_cons, List.length_append, two_len f g l, List.length_cons]; simp only [List.length_cons, List.length_nil]; omega
theorem glob_pairs {P : Program} {W : World} {n : String} {k : IntKind} {c : Nat} {lo hi : Nat → Int} {g : Nat} {t e u : TypeId} {fs : Array Field} (φ : List Loc) (h : Lib.VarReads P W n (.agg ((List.range c).map fun i => .agg ([lo i, hi i].map fun z => .lit (.int k z))))) (hg : P.globalNamed n = some g) (ht : (P.globals[g]?).map (·.type) = some t) (ha : P.underlying t = some (.array c e)) (he : P.underlying e = some (.struct fs)) (hs : fs.size = 2) (hu : P.underlying u = some (.int k)) (hcu : P.cellsOf u = 1) (hf : ∀ (i : Nat) (f : Field), fs[i]? = some f → f.type = u ∧ f.offset = i) (hce : P.cellsOf e = 2) (hct : P.cellsOf t = c * 2) (hz : 0 < c) : CellsAt W φ g ((List.range c).flatMap fun i => [AV.int k (lo i), AV.int k (hi i)]) := by
  obtain ⟨g', t', cs, fuel, p, h1, h2, h3, h4⟩ := h
  obtain rfl := Option.some.inj (hg.symm.trans h1)
  obtain rfl := Option.some.inj (ht.symm.trans h2)
  have hcell : ∀ i, i < c → W.cell? ⟨g, 2 * i, none⟩ = some (.int k (lo i)) ∧ W.cell? ⟨g, 2 * i + 1, none⟩ = some (.int k (hi i)) := by
    intro i hi'
    obtain ⟨fuel', d, q, hdi, hd⟩ := Lib.array_elem ha h4 i hi'
    simp only [List.getElem?_map, List.getElem?_range hi', Option.map_some, Option.some.injEq] at hdi
    subst hdi
    rw [hce] at hd
    have hcs := Lib.ints_of_struct he (fun j f hj => by
      obtain ⟨rfl, h5⟩ := hf j f hj
      exact ⟨hu, h5, hcu⟩) (by rw [hce, hs]) hd
    have e0 := congrArg (·[0]?) hcs
    have e1 := congrArg (·[1]?) hcs
    simp only [List.getElem?_take, List.getElem?_drop] at e0 e1
    constructor
    · rw [World.var?_cell hg h3 (2 * i), ← Array.getElem?_toList]
      simpa [Nat.mul_comm] using e0
    · rw [World.var?_cell hg h3 (2 * i + 1), ← Array.getElem?_toList]
      simpa [Nat.mul_comm] using e1
  refine ⟨lt_of_cell (hcell 0 hz).1, fun j hj => ?_, fun j v hj => ?_⟩
  · rw [World.var?_cell hg h3 j, ← Array.getElem?_toList]
    refine List.getElem?_eq_none (Nat.le_trans (Nat.le_of_eq ?_) hj)
    have hl2 : ((List.range c).flatMap fun i => [AV.int k (lo i), AV.int k (hi i)]).length = c * 2 := by rw [two_len, List.length_range]
    rw [hl2]
    cases fuel with
    | zero => simp [DataW.trod] at h4
    | succ fuel =>
      simp only [DataW.trod, ha] at h4
      split at h4
      · rename_i hl
        rw [hct] at hl
        exact hl
      · cases h4
  obtain ⟨i, h5, h6⟩ := flat_get (c := 2) (by omega) (fun x => rfl) (List.range c) j v hj
  have hic : j / 2 < c := by
    have := (List.getElem?_eq_some_iff.1 h5).1
    simpa using this
  rw [List.getElem?_range hic] at h5
  obtain rfl := Option.some.inj h5
  obtain ⟨h7, h8⟩ := hcell (j / 2) hic
  have : j % 2 = 0 ∨ j % 2 = 1 := by omega
  rcases this with h9 | h9
  · rw [h9] at h6
    obtain rfl := Option.some.inj h6
    rw [show 2 * (j / 2) = j by omega] at h7
    exact ⟨_, .int _ _, h7⟩
  · rw [h9] at h6
    obtain rfl := Option.some.inj h6
    rw [show 2 * (j / 2) + 1 = j by omega] at h8
    exact ⟨_, .int _ _, h8⟩
section
variable {H : Type} {enc : TypeId × Value → H} {P : Program} {w : World} {t : TypeId}
theorem opensArgsS_consSl {ts : List TypeId} {e : TypeId} {α β : Type} {f : α → List AV} {esz : Nat} {G1 : SlA α → Prop} {f2 : β → Nat → List AV} {g2 : β → Nat → List ABlk} {G2 : β → Prop}
    (hpos : 0 < w.heap.size) (hb : isAggP P t = some false) (ht : P.underlying t = some (.slice e)) (h1 : OpensS enc P w t (fun (x : SlA α) n => [x.av n]) (fun x _ => x.blk f esz) G1) (hG : G1 (.at [] [])) (h2 : OpensArgsS enc P w ts f2 g2 G2) :
    OpensArgsS enc P w (t :: ts) (fun (x : SlA α × β) n => x.1.av n :: f2 x.2 (n + 1)) (fun x n => .cells (x.1.all.flatMap f) esz true :: g2 x.2 (n + 1)) (fun x => (G1 x.1 ∧ x.1 ≠ .zero) ∧ G2 x.2) := by
  intro b0 vs ds ps h hw hok
  cases vs with
  | nil => cases ds <;> exact h.elim
  | cons v vs =>
    cases ds with
    | nil => exact h.elim
    | cons d ds =>
      obtain ⟨p, q, ⟨fuel, hd⟩, hrest, _⟩ := h
      have hw' : Sz (d.weights P t ++ DataW.weightsEach P ts ds) := hw
      obtain ⟨x, hx, hxf⟩ := h1 fuel _ d p hd fun n hn => hw' n (List.mem_append_left _ hn)
      obtain ⟨y, hy, hyf⟩ := h2 b0 vs ds q hrest (fun n hn => hw' n (List.mem_append_right _ hn)) (fun j t v hj hv => hok (j + 1) t v (by simpa using hj) (by simpa using hv))
      have hxv : ∀ φ H, Rel (Base.all w) φ H w → ∃ φ', Ext φ φ' ∧ VR φ' (x.av H.length) v ∧ Rel (Base.all w) φ' (H ++ x.blk f esz) w := fun φ H hr => by
        obtain ⟨φ1, e1, v1, r1⟩ := hxf φ H hr
        exact ⟨φ1, e1, packA_ok hb (hok 0 t v rfl rfl) v1, r1⟩
      have hcl : ∃ x' : SlA α, (G1 x' ∧ x' ≠ .zero) ∧ ∀ φ H, Rel (Base.all w) φ H w → ∃ φ', Ext φ φ' ∧ VR φ' (x'.av H.length) v ∧ Rel (Base.all w) φ' (H ++ [.cells (x'.all.flatMap f) esz true]) w := by
        match x, hx, hxv with
        | .nil, hx, hxv =>
          refine ⟨.nil, ⟨hx, fun e => by cases e⟩, fun φ H hr => ?_⟩
          obtain ⟨φ1, e1, v1, r1⟩ := hxv φ H hr
          have r2 : Rel (Base.all w) φ1 H w := by simpa [SlA.blk] using r1
          exact ⟨φ1 ++ [⟨0, 0, 0⟩], e1.trans (Ext.snoc _ _), v1.mono (Ext.snoc _ _), r2.takeIn hpos rfl fun j v hj => by simp [SlA.all] at hj⟩
        | .at l r, hx, hxv => exact ⟨.at l r, ⟨hx, fun e => by cases e⟩, hxv⟩
        | .zero, hx, hxv =>
          obtain ⟨φ1, _, v1, _⟩ := hxv [] [] ⟨rfl, BelowB.refl _, (fun b k l hk => by simp at hk), (fun b b' k k' l l' hk => by simp at hk)⟩
          have v2 : VR φ1 .slz v := v1
          cases v2 with
          | slz a =>
            have h3 := hok 0 t (.slice (some a) 0 0) rfl rfl
            unfold Value.okWide at h3
            rw [ht] at h3
            dsimp only at h3
            unfold Cell.okWide at h3
            rw [ht] at h3
            dsimp only at h3
            unfold Cell.ok at h3
            rw [ht] at h3
            dsimp only at h3
            obtain ⟨_, _, _, hsp, row, cells, hsh, _⟩ := h3
            have hblk : a.block < w.heap.size := by
              refine Decidable.byContradiction fun hn => ?_
              unfold World.shape? at hsh
              rw [Array.getElem?_eq_none (by simpa using hn)] at hsh
              cases hsh
            refine ⟨.at [] [], ⟨hG, fun e => by cases e⟩, fun φ H hr => ?_⟩
            refine ⟨φ ++ [⟨a.block, a.off, 0⟩], Ext.snoc _ _, ?_, hr.takeIn hblk rfl fun j v hj => by simp [SlA.all] at hj⟩
            have hg : (φ ++ [(⟨a.block, a.off, 0⟩ : Loc)])[H.length]? = some ⟨a.block, a.off, 0⟩ := by rw [← hr.len]; simp
            have := VR.sl (off := 0) (len := 0) (cap := 0) (ex := true) hg
            obtain ⟨ab, ao, asp⟩ := a
            simp only at hsp
            subst hsp
            show VR _ (.sl H.length 0 0 0 true) _
            simpa using this
      obtain ⟨x', hx', hxf'⟩ := hcl
      refine ⟨(x', y), ⟨hx', hy⟩, fun φ H hr => ?_⟩
      obtain ⟨φ1, e1, v1, r1⟩ := hxf' φ H hr
      obtain ⟨φ2, e2, v2, r2⟩ := hyf φ1 _ r1
      simp only [List.length_append, List.length_cons, List.length_nil, Nat.zero_add] at v2 r2
      refine ⟨φ2, e1.trans e2, .cons (v1.mono e2) v2, ?_⟩
      rw [List.append_assoc] at r2
      exact r2
end
end Go.Ve
