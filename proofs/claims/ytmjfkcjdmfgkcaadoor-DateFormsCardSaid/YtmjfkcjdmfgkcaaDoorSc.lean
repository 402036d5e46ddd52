/- What is told of a call in a small memory, used in a great one; tables of what is told. -/
import Derived.Test.YtmjfkcjdmfgkcaaDoorSb
import Derived.SizedLaws
set_option linter.unusedSimpArgs false
set_option linter.unusedVariables false
namespace Go.Ve
open Go Go.RowKit

/-- A natural number as an integer. -/
abbrev ic (n : Nat) : Int := n

/-- The place of a block of the small memory in the great one, behind the call. -/
def upN (σ : List Nat) (m N b : Nat) : Nat := if b < m then σ.getD b N else N + (b - m)
structure FSel (σ : List Nat) (H H0 : AH) : Prop where
  len : H0.length = σ.length
  lt : ∀ i ∈ σ, i < H.length
  nd : σ.Nodup
  blk : ∀ (i : Nat) (k : ABlk), H0[i]? = some k → ∃ j s, σ[i]? = some j ∧ H[j]? = some s ∧ BlkLe H.length (rn σ H.length) k s ∧ s.own = k.own ∧ k ≠ .dead ∧ s ≠ .dead
structure FrameH (σ : List Nat) (H : AH) (m : Nat) (H0' H' : AH) : Prop where
  le : m ≤ H0'.length
  len : H'.length = H.length + (H0'.length - m)
  old : ∀ b, b < H.length → b ∉ σ → H'[b]? = H[b]?
  sel : ∀ (i b : Nat), σ[i]? = some b → (∃ k, H0'[i]? = some k ∧ H'[b]? = some (k.ren (upN σ m H.length)) ∧ (k.own = false → k = .dead ∨ ∃ s, H[b]? = some s ∧ s.own = false ∧ s ≠ .dead)) ∨ (∃ s, H[b]? = some s ∧ s.own = false ∧ s ≠ .dead ∧ H'[b]? = some s)
  new : ∀ (i : Nat) (k : ABlk), m ≤ i → H0'[i]? = some k → H'[H.length + (i - m)]? = some (k.ren (upN σ m H.length)) ∧ (k.own = true ∨ k = .dead)
theorem SC.frame {P : Program} {f : FuncId} {args0 : List AV} {H0 : AH} {K0 K : AV → AH → Prop} (h : SC P f args0 H0 K0) {H : AH} {σ : List Nat} (hs : FSel σ H H0)
    (hK : ∀ v0 H0', K0 v0 H0' → ∃ H', FrameH σ H H0.length H0' H' ∧ K (v0.ren (upN σ H0.length H.length)) H') : SC P f (AV.rens (rn σ H.length) args0) H K := by
  intro w0 φ w us hr ha
  have hlen := hr.len
  have hltφ : ∀ i ∈ σ, i < φ.length := fun i hi => by rw [hlen]; exact hs.lt i hi
  have hsel : SelG σ H H0 := ⟨hs.len, hs.lt, hs.nd, fun i k hk => by
    obtain ⟨j, s, h1, h2, h3, _⟩ := hs.blk i k hk
    exact .inr ⟨j, s, h1, h2, h3⟩⟩
  have hr0 := (hr.selG hsel).rebase
  have ha0 : VRs (selL φ σ) args0 us.toList := by
    rw [← hlen] at ha
    exact ha.unren fun _ _ hb => selL_get hb
  have hl0 : (selL φ σ).length = H0.length := hr0.len
  refine (h _ _ w us hr0 ha0).mono ?_
  rintro e w' ⟨u, v0, H0', φ0', hk0, rfl, hx, hv, hr'⟩
  obtain ⟨H', hF, hk⟩ := hK v0 H0' hk0
  have hm : H0.length ≤ φ0'.length := by rw [hr'.len]; exact hF.le
  have hx0 : ∀ (i : Nat) (l : Loc), (selL φ σ)[i]? = some l → φ0'[i]? = some l := fun i l hi => hx.get hi
  have hlow : ∀ i, i < H0.length → φ0'[i]? = (selL φ σ)[i]? := fun i hi => by
    have hi' : i < (selL φ σ).length := by rw [hl0]; exact hi
    rw [List.getElem?_eq_getElem hi']
    exact hx0 i _ (List.getElem?_eq_getElem hi')
  have hup : ∀ (b : Nat) (l : Loc), φ0'[b]? = some l → (φ ++ φ0'.drop H0.length)[upN σ H0.length H.length b]? = some l := by
    intro b l hb
    unfold upN
    by_cases hbm : b < H0.length
    · rw [if_pos hbm]
      rw [hlow b hbm] at hb
      obtain ⟨_, i, h1, h2⟩ := selL_get' hltφ hb
      rw [List.getD_eq_getElem?_getD, h1]
      have hi := hltφ i (List.mem_of_getElem? h1)
      rw [Option.getD_some, List.getElem?_append_left hi]
      exact h2
    · rw [if_neg hbm, List.getElem?_append_right (by omega), List.getElem?_drop]
      rw [show H0.length + (H.length + (b - H0.length) - φ.length) = b by omega]
      exact hb
  have hxx : Ext φ (φ ++ φ0'.drop H0.length) := ⟨_, rfl⟩
  have keepB : ∀ j, w0.keep j → (Base.of w (selL φ σ) H0).keep j := by
    intro j hj
    refine ⟨Nat.lt_of_lt_of_le (w0.lt j hj) hr.below.size, fun b k l hb hl ho he => ?_⟩
    exact (hr.selG hsel |>.blocks b k l hb hl).own_ge ho (he ▸ hj)
  have same : ∀ j, (Base.of w (selL φ σ) H0).keep j → w'.heap[j]? = w.heap[j]? := fun j hj => hr'.below.block j hj
  -- blocks of the great memory that are not of the part
  have rest : ∀ (b : Nat) (s : ABlk) (l : Loc), b ∉ σ → H[b]? = some s → φ[b]? = some l → s ≠ .dead → (Base.of w (selL φ σ) H0).keep l.blk := by
    intro b s l hbσ hb hl hd
    have hbr := hr.blocks b s l hb hl
    refine ⟨hbr.lt hr.below.size hd, fun i k l' hi hl' ho he => ?_⟩
    obtain ⟨j, s', h1, h2, _, h4, _⟩ := hs.blk i k hi
    obtain ⟨_, j', h5, h6⟩ := selL_get' hltφ hl'
    rw [h1] at h5; cases h5
    have ho' : s'.own = true := by rw [h4]; exact ho
    cases hso : s.own with
    | true => exact hbσ (hr.inj b j s s' l l' hb h2 hl h6 hso ho' he.symm ▸ List.mem_of_getElem? h1)
    | false => exact (hr.blocks j s' l' h2 h6).own_ge ho' (he ▸ hbr.ro_lt hso hd)
  have lowlen : ∀ b, b < H.length → (φ ++ φ0'.drop H0.length)[b]? = φ[b]? := fun b hb => List.getElem?_append_left (by rw [hlen]; exact hb)
  have cases3 : ∀ (b : Nat) (k : ABlk) (l : Loc), H'[b]? = some k → (φ ++ φ0'.drop H0.length)[b]? = some l →
      (b < H.length ∧ φ[b]? = some l ∧ b ∉ σ ∧ H[b]? = some k) ∨
      (b < H.length ∧ φ[b]? = some l ∧ ∃ (i : Nat) (k0 : ABlk), σ[i]? = some b ∧ H0'[i]? = some k0 ∧ φ0'[i]? = some l ∧ k = k0.ren (upN σ H0.length H.length) ∧ (k0.own = false → k0 = .dead ∨ ∃ s, H[b]? = some s ∧ s.own = false ∧ s ≠ .dead)) ∨
      (b < H.length ∧ φ[b]? = some l ∧ H[b]? = some k ∧ k.own = false ∧ k ≠ .dead) ∨
      (∃ (i : Nat) (k0 : ABlk), H0.length ≤ i ∧ b = H.length + (i - H0.length) ∧ H0'[i]? = some k0 ∧ φ0'[i]? = some l ∧ k = k0.ren (upN σ H0.length H.length) ∧ (k0.own = true ∨ k0 = .dead)) := by
    intro b k l hb hl
    by_cases hbl : b < H.length
    · rw [lowlen b hbl] at hl
      by_cases hbσ : b ∈ σ
      · obtain ⟨i, hi, hib⟩ := List.getElem_of_mem hbσ
        have hi' : σ[i]? = some b := by rw [List.getElem?_eq_getElem hi, hib]
        rcases hF.sel i b hi' with ⟨k0, g1, g2, g3⟩ | ⟨s, g1, g2, g3, g4⟩
        · right; left
          rw [g2] at hb; cases hb
          refine ⟨hbl, hl, i, k0, hi', g1, ?_, rfl, g3⟩
          have him : i < H0.length := by rw [hs.len]; exact hi
          rw [hlow i him]
          unfold selL
          rw [List.getElem?_map, hi']
          simp [List.getD_eq_getElem?_getD, hl]
        · right; right; left
          rw [g4] at hb; cases hb
          exact ⟨hbl, hl, g1, g2, g3⟩
      · left
        rw [hF.old b hbl hbσ] at hb
        exact ⟨hbl, hl, hbσ, hb⟩
    · right; right; right
      have hb2 : b < H'.length := (List.getElem?_eq_some_iff.1 hb).1
      rw [hF.len] at hb2
      have hi : H0.length + (b - H.length) < H0'.length := by omega
      have hg : H0'[H0.length + (b - H.length)]? = some (H0'[H0.length + (b - H.length)]) := List.getElem?_eq_getElem hi
      obtain ⟨q1, q2⟩ := hF.new _ _ (by omega) hg
      rw [show H.length + (H0.length + (b - H.length) - H0.length) = b by omega, hb] at q1
      refine ⟨_, _, by omega, by omega, hg, ?_, Option.some.inj q1, q2⟩
      rw [List.getElem?_append_right (by omega), List.getElem?_drop] at hl
      rw [show H0.length + (b - φ.length) = H0.length + (b - H.length) by omega] at hl
      exact hl
  refine ⟨u, _, H', φ ++ φ0'.drop H0.length, hk, rfl, hxx, hv.ren hup, ?_⟩
  refine ⟨?_, ⟨hr'.below.os.trans hr.below.os, hr'.below.tape.trans hr.below.tape, hr'.below.output.trans hr.below.output, Nat.le_trans hr.below.size hr'.below.size, fun j hj => (same j (keepB j hj)).trans (hr.below.block j hj)⟩, ?_, ?_⟩
  · rw [List.length_append, List.length_drop, hF.len, hlen, hr'.len]
  · intro b k l hb hl
    rcases cases3 b k l hb hl with ⟨_, h2, h3, h4⟩ | ⟨_, h2, i, k0, h3, h4, h5, rfl, h6⟩ | ⟨_, h2, h3, h4, h5⟩ | ⟨i, k0, _, _, h4, h5, rfl, h6⟩
    · by_cases hd : k = .dead
      · subst hd; trivial
      · exact ((hr.blocks b k l h4 h2).keep (same _ (rest b k l h3 h4 h2 hd))).mono hxx
    · have hbr := (hr'.blocks i k0 l h4 h5).ren (φ' := φ ++ φ0'.drop H0.length) hup
      refine hbr.base (fun ho hk => ?_) (fun ho hd => ?_)
      · rw [ABlk.ren_own] at ho
        exact (hr'.blocks i k0 l h4 h5).own_ge ho (keepB _ hk)
      · rw [ABlk.ren_own] at ho
        rcases h6 ho with rfl | ⟨s, g1, g2, g3⟩
        · exact absurd rfl hd
        · exact (hr.blocks b s l g1 h2).ro_lt g2 g3
    · exact ((hr.blocks b k l h3 h2).keep (same _ (keepB _ ((hr.blocks b k l h3 h2).ro_lt h4 h5)))).mono hxx
    · have hbr := (hr'.blocks i k0 l h4 h5).ren (φ' := φ ++ φ0'.drop H0.length) hup
      refine hbr.base (fun ho hk => ?_) (fun ho hd => ?_)
      · rw [ABlk.ren_own] at ho
        exact (hr'.blocks i k0 l h4 h5).own_ge ho (keepB _ hk)
      · rw [ABlk.ren_own] at ho
        rcases h6 with h6 | rfl
        · rw [ho] at h6; cases h6
        · exact absurd rfl hd
  · intro b b' k k' l l' hb hb' hl hl' o o' he
    have main : ∀ (b b' : Nat) (k k' : ABlk) (l l' : Loc), H'[b]? = some k → H'[b']? = some k' → (φ ++ φ0'.drop H0.length)[b]? = some l → (φ ++ φ0'.drop H0.length)[b']? = some l' → k.own = true → k'.own = true → l.blk = l'.blk →
        (b < H.length ∧ φ[b]? = some l ∧ b ∉ σ ∧ H[b]? = some k) → b = b' := by
      intro b b' k k' l l' hb hb' hl hl' o o' he ⟨c1, c2, c3, c4⟩
      have hkeep := rest b k l c3 c4 c2 (by intro hd; subst hd; cases o)
      rcases cases3 b' k' l' hb' hl' with ⟨d1, d2, d3, d4⟩ | ⟨d1, d2, i, k0, d3, d4, d5, rfl, d6⟩ | ⟨_, _, _, d4, _⟩ | ⟨i, k0, _, _, d4, d5, rfl, d6⟩
      · exact hr.inj b b' k k' l l' c4 d4 c2 d2 o o' he
      · rw [ABlk.ren_own] at o'
        exact absurd (he ▸ hkeep) ((hr'.blocks i k0 l' d4 d5).own_ge o')
      · rw [d4] at o'; cases o'
      · rw [ABlk.ren_own] at o'
        exact absurd (he ▸ hkeep) ((hr'.blocks i k0 l' d4 d5).own_ge o')
    rcases cases3 b k l hb hl with c | ⟨c1, c2, i, k0, c3, c4, c5, rfl, c6⟩ | ⟨_, _, _, c4, _⟩ | ⟨i, k0, c1, c2, c4, c5, rfl, c6⟩
    · exact main b b' k k' l l' hb hb' hl hl' o o' he c
    · rcases cases3 b' k' l' hb' hl' with d | ⟨d1, d2, i', k0', d3, d4, d5, rfl, d6⟩ | ⟨_, _, _, d4, _⟩ | ⟨i', k0', d1, d2, d4, d5, rfl, d6⟩
      · exact (main b' b k' _ l' l hb' hb hl' hl o' o he.symm d).symm
      · rw [ABlk.ren_own] at o o'
        have := hr'.inj i i' k0 k0' l l' c4 d4 c5 d5 o o' he
        subst this
        rw [c3] at d3; exact Option.some.inj d3
      · rw [d4] at o'; cases o'
      · rw [ABlk.ren_own] at o o'
        have := hr'.inj i i' k0 k0' l l' c4 d4 c5 d5 o o' he
        subst this
        have hi := (List.getElem?_eq_some_iff.1 c3).1
        rw [← hs.len] at hi
        omega
    · rw [c4] at o; cases o
    · rcases cases3 b' k' l' hb' hl' with d | ⟨d1, d2, i', k0', d3, d4, d5, rfl, d6⟩ | ⟨_, _, _, d4, _⟩ | ⟨i', k0', d1, d2, d4, d5, rfl, d6⟩
      · exact (main b' b k' _ l' l hb' hb hl' hl o' o he.symm d).symm
      · rw [ABlk.ren_own] at o o'
        have := hr'.inj i i' k0 k0' l l' c4 d4 c5 d5 o o' he
        subst this
        have hi := (List.getElem?_eq_some_iff.1 d3).1
        rw [← hs.len] at hi
        omega
      · rw [d4] at o'; cases o'
      · rw [ABlk.ren_own] at o o'
        have := hr'.inj i i' k0 k0' l l' c4 d4 c5 d5 o o' he
        subst this
        rw [c2, d2]
end Go.Ve

namespace Go.Ve
open Go Go.RowKit

abbrev SpecE := List AV → AH → Option SR
def EntryOk (P : Program) (f : FuncId) (e : SpecE) : Prop := ∀ args H sr, e args H = some sr → ∀ K : AV → Option AH → Prop, sr.run noC noR H K → SC P f args H (fun v H' => ∃ ch, K v ch ∧ H' = chN H ch)
def tabS (T : List (Nat × SpecE)) (rest : SpecF) : SpecF := fun f args H =>
  match findN T f with
  | some e => e args H
  | none => rest f args H
theorem findN_mem {α : Type _} : ∀ {l : List (Nat × α)} {n : Nat} {x : α}, findN l n = some x → (n, x) ∈ l
  | p :: r, n, x, h => by
    simp only [findN] at h
    split at h
    · rename_i hb
      cases h
      have := Nat.eq_of_beq_eq_true hb
      subst this
      simp
    · exact List.mem_cons_of_mem _ (findN_mem h)
theorem tabS_ok {P : Program} {T : List (Nat × SpecE)} {rest : SpecF} (h : ∀ p ∈ T, EntryOk P p.1 p.2) (hr : SpecOk P rest) : SpecOk P (tabS T rest) := by
  intro f args H sr hs K hk
  unfold tabS at hs
  split at hs
  · rename_i e he
    exact h _ (findN_mem he) args H sr hs K hk
  · exact hr f args H sr hs K hk
def noS : SpecF := fun _ _ _ => none
theorem noS_ok {P : Program} : SpecOk P noS := fun f args H sr h => by cases h
def callSp (call : CallF) : SpecF := fun f args H =>
  match call f args H with
  | some (v, none) => some (.ok v none)
  | some (v, some c) => some (.ok v (some c.1))
  | none => none
theorem callSp_ok {P : Program} {call : CallF} (hC : CallOk P call) : SpecOk P (callSp call) := by
  intro f args H sr h K hk
  unfold callSp at h
  split at h
  · rename_i v hc
    cases h
    refine (SC.of_call hC hc).mono ?_
    rintro v' H' ⟨rfl, rfl⟩
    exact ⟨none, hk, rfl⟩
  · rename_i v c hc
    cases h
    refine (SC.of_call hC hc).mono ?_
    rintro v' H' ⟨rfl, rfl⟩
    exact ⟨some c.1, hk, rfl⟩
  · cases h
theorem outE_one {X : Type} {v : X → AV} {h : X → AH} {ok : X → Prop} {gc : Option (List Nat)} {v' : AV} {H' : AH} (e : outE [⟨X, v, h, ok, gc⟩] v' H') : ∃ x, ok x ∧ v' = v x ∧ H' = h x := by
  obtain ⟨o, ho, x, h1, h2⟩ := e
  simp only [List.mem_cons, List.mem_nil_iff, or_false] at ho
  subst ho
  exact ⟨x, h1, h2⟩

/-! ### Flat values in -/
theorem rn_nil_flat {args : List AV} (hf : AV.flats args = true) (H : AH) : AV.rens (rn [] H.length) args = args := AV.rens_flat hf
theorem SC.flat {P : Program} {f : FuncId} {args : List AV} {K0 K : AV → AH → Prop} (h : SC P f args [] K0) (hf : AV.flats args = true) {H : AH}
    (hK : ∀ v0 T, K0 v0 T → (∀ k ∈ T, k.own = true ∨ k = .dead) ∧ K (v0.ren (fun b => H.length + b)) (H ++ T.map (ABlk.ren fun b => H.length + b))) : SC P f args H K := by
  have hup : upN [] 0 H.length = fun b => H.length + b := by
    funext b
    simp [upN]
  have h2 := SC.frame (H := H) (σ := []) (K := K) h ⟨rfl, (fun i hi => by cases hi), List.nodup_nil, (fun i k hk => by simp at hk)⟩ (fun v0 T hk0 => by
    obtain ⟨h1, h2⟩ := hK v0 T hk0
    refine ⟨H ++ T.map (ABlk.ren fun b => H.length + b), ⟨Nat.zero_le _, by simp, fun b hb _ => List.getElem?_append_left hb, fun i b hi => by simp at hi, fun i k _ hk => ⟨?_, h1 k (List.mem_of_getElem? hk)⟩⟩, ?_⟩
    · rw [show H.length + (i - ([] : AH).length) = H.length + i by simp, List.getElem?_append_right (by omega), Nat.add_sub_cancel_left, List.getElem?_map, hk]
      show _ = some (k.ren (upN [] 0 H.length))
      rw [hup]; rfl
    · show K (v0.ren (upN [] 0 H.length)) _
      rw [hup]; exact h2)
  rwa [rn_nil_flat hf] at h2
def flatE (g : List AV → Option (Bool × AV)) : SpecE := fun args _ =>
  match g args with
  | some (b, v) => some (.need b (.ok v none))
  | none => none
theorem flatE_ok {P : Program} {f : FuncId} {g : List AV → Option (Bool × AV)} (h : ∀ args b v, g args = some (b, v) → b = true → AV.flats args = true ∧ v.flat = true ∧ SC P f args [] (fun v' H' => v' = v ∧ H' = [])) : EntryOk P f (flatE g) := by
  intro args H sr hs K hk
  unfold flatE at hs
  split at hs
  · rename_i b v hg
    cases hs
    obtain ⟨h1, h2⟩ := cond_need hk
    obtain ⟨g1, g2, g3⟩ := h args b v hg h1
    refine SC.flat g3 g1 ?_
    rintro v0 T ⟨rfl, rfl⟩
    refine ⟨(fun k hk => by cases hk), none, ?_, by simp [chN]⟩
    rw [AV.ren_flat g2]
    exact h2
  · cases hs

/-- A call that reads one block of flat cells. -/
theorem SC.read1 {P : Program} {f : FuncId} {args0 : List AV} {k : ABlk} {v : AV} (h : SC P f args0 [k] (fun v' H' => v' = v ∧ H' = [k])) (hv : v.flat = true) (hk : ∀ ρ, k.ren ρ = k) (hd : k ≠ .dead) {H : AH} {b : Nat} (hb : H[b]? = some k) :
    SC P f (AV.rens (rn [b] H.length) args0) H (fun v' H' => v' = v ∧ H' = H) := by
  have hlt : b < H.length := (List.getElem?_eq_some_iff.1 hb).1
  refine SC.frame h ⟨rfl, (fun i hi => by simp at hi; subst hi; exact hlt), (by simp), (fun i k' hk' => ?_)⟩ ?_
  · cases i with
    | zero =>
      simp at hk'
      subst hk'
      refine ⟨b, k, rfl, hb, ⟨fun w0 φ φ' w l _ hp hbr => ?_, fun h => h⟩, rfl, hd, hd⟩
      rw [← hk (rn [b] H.length)] at hbr
      exact hbr.unren hp
    | succ i => simp at hk'
  · rintro v0 H0' ⟨rfl, rfl⟩
    refine ⟨H, ⟨by simp, by simp, fun _ _ _ => rfl, fun i b' hi => ?_, fun i k' hi hk' => ?_⟩, by rw [AV.ren_flat hv], rfl⟩
    · cases i with
      | zero =>
        simp at hi
        subst hi
        refine .inl ⟨k, rfl, by rw [hk]; exact hb, fun ho => .inr ⟨k, hb, ho, hd⟩⟩
      | succ i => simp at hi
    · cases i with
      | zero => simp at hi
      | succ i => simp at hk'
theorem cells_ren {vs : List AV} (hf : AV.flats vs = true) (e : Nat) (ro : Bool) (ρ : Nat → Nat) : (ABlk.cells vs e ro).ren ρ = .cells vs e ro := by
  show ABlk.cells (AV.rens ρ vs) e ro = _
  rw [AV.rens_flat hf]

/-! ### A function, told -/
noncomputable def vcF (V : VE) (md : List (Nat × DMode)) (k : Nat) (A : Anns) (hs : List (Nat × AV)) (f : FuncId) (args : List AV) (H : AH) (L : List Out) : Prop :=
  match V.P.funcs[f]? with
  | some fn =>
    match fn.body with
    | some c => vc V k md none H.length A hs c (frOf args fn.ntmps) H [] (retK V.P fn.results.toList H.length (outL H.length L))
    | none => False
  | none => False
theorem SC.ofF {V : VE} (hP : V.P.funcs.all (fun fn => !(fn.name == "runtime.NumGoroutine")) = true) (hm : V.P.follows .mixedOrders = true) (hS : SpecOk V.P V.sp) (hO : CallOk V.P V.orc) {md : List (Nat × DMode)} {k : Nat} {A : Anns} {hs : List (Nat × AV)} {f : FuncId} {args : List AV} {H : AH} {L : List Out} (h : vcF V md k A hs f args H L) : SC V.P f args H (outE L) := by
  unfold vcF at h
  split at h
  · rename_i fn hf
    split at h
    · rename_i c hb
      exact SC.ofV hP hm hS hO hf hb rfl rfl h
    · exact h.elim
  · exact h.elim
def one (v : AV) : List Out := [⟨Unit, fun _ => v, fun _ => [], fun _ => True, some []⟩]
theorem SC.one {V : VE} (hP : V.P.funcs.all (fun fn => !(fn.name == "runtime.NumGoroutine")) = true) (hm : V.P.follows .mixedOrders = true) (hS : SpecOk V.P V.sp) (hO : CallOk V.P V.orc) {md : List (Nat × DMode)} {k : Nat} {A : Anns} {hs : List (Nat × AV)} {f : FuncId} {args : List AV} {v : AV} (h : vcF V md k A hs f args [] (one v)) : SC V.P f args [] (fun v' H' => v' = v ∧ H' = []) :=
  (SC.ofF hP hm hS hO h).mono fun v' H' h => by
    obtain ⟨_, _, h1, h2⟩ := outE_one h
    exact ⟨h1, h2⟩
def noO : CallF := fun _ _ _ => none
theorem noO_ok {P : Program} : CallOk P noO := fun f args H v ch h => by cases h

/-! ### How it reads -/
theorem cond_F (b : Bool) (p : Prop) : cond b p False = (b = true ∧ p) := by cases b <;> simp
theorem cond_P (b : Bool) (p q : Prop) : cond b p q = ((b = true → p) ∧ (b = false → q)) := by cases b <;> simp
theorem leI_t (a b : Int) : (leI a b = true) = (a ≤ b) := by rw [leI_eq]; simp
theorem leI_f (a b : Int) : (leI a b = false) = (b < a) := by rw [leI_eq]; simp
theorem leI_n (a b : Int) : (leI a b = false) = ¬ a ≤ b := by rw [leI_eq]; simp
theorem ltI_t (a b : Int) : (ltI a b = true) = (a < b) := by rw [ltI_eq]; simp
theorem ltI_f (a b : Int) : (ltI a b = false) = (b ≤ a) := by rw [ltI_eq]; simp
theorem eqI_t (a b : Int) : (eqI a b = true) = (a = b) := by rw [eqI_eq]; simp
theorem eqI_f (a b : Int) : (eqI a b = false) = (a ≠ b) := by rw [eqI_eq]; simp
theorem and_t (a b : Bool) : (Bool.and a b = true) = (a = true ∧ b = true) := by cases a <;> simp
theorem not_t (a : Bool) : ((!a) = true) = (a = false) := by cases a <;> simp
theorem not_f (a : Bool) : ((!a) = false) = (a = true) := by cases a <;> simp
theorem dec_t (p : Prop) [Decidable p] : (decide p = true) = p := by simp
theorem dec_f (p : Prop) [Decidable p] : (decide p = false) = ¬ p := by simp
end Go.Ve

namespace Go.Ve
open Go Go.RowKit

def low1 (c : UInt8) : UInt8 := if 65 ≤ c ∧ c ≤ 90 then c + 32 else c
def lower (s : List UInt8) : List UInt8 := s.map low1
/-- Bytes, as cells. -/
def bs (s : List UInt8) : List AV := s.map fun c => .int .u8 c.toNat
theorem bs_length (s : List UInt8) : (bs s).length = s.length := by simp [bs]
theorem bs_flat : ∀ s : List UInt8, AV.flats (bs s) = true
  | [] => rfl
  | _ :: s => by simp only [bs, List.map_cons, AV.flats, AV.flat, Bool.true_and]; exact bs_flat s
theorem bs_get (s : List UInt8) (i : Nat) (h : i < s.length) : (bs s)[i]? = some (.int .u8 (byteAt s i)) := by
  simp [bs, byteAt, h, List.getD_eq_getElem?_getD]
theorem bs_bytes : ∀ s : List UInt8, abytes (bs s) = some s
  | [] => rfl
  | c :: s => by
    show (abytes (bs s)).map (UInt8.ofNat (c.toNat : Int).toNat :: ·) = _
    rw [bs_bytes s]
    simp
theorem mixed_get (s : List UInt8) (i : Nat) (h : i < s.length) : (bs (lower (s.take i) ++ s.drop i))[i]? = some (.int .u8 (byteAt s i)) := by
  have hl : (lower (s.take i)).length = i := by simp [lower]; omega
  have h2 : byteAt (lower (s.take i) ++ s.drop i) i = byteAt s i := by
    unfold byteAt
    rw [List.getD_eq_getElem?_getD, List.getElem?_append_right (by omega), hl, List.getElem?_drop, List.getD_eq_getElem?_getD]
    simp
  rw [bs_get _ _ (by simp [lower]; omega), h2]
theorem take_succ' (s : List UInt8) (i : Nat) (h : i < s.length) : s.take (i + 1) = s.take i ++ [s[i]] := by rw [List.take_add_one, List.getElem?_eq_getElem h]; rfl
theorem drop_cons (s : List UInt8) (i : Nat) (h : i < s.length) : s.drop i = s[i] :: s.drop (i + 1) := List.drop_eq_getElem_cons h
theorem mixed_set (s : List UInt8) (i : Nat) (h : i < s.length) (c : UInt8) (hc : low1 s[i] = c) : (bs (lower (s.take i) ++ s.drop i)).set i (.int .u8 c.toNat) = bs (lower (s.take (i + 1)) ++ s.drop (i + 1)) := by
  rw [take_succ' s i h, drop_cons s i h]
  subst hc
  have hl : (bs (lower (s.take i))).length = i := by simp [bs, lower]; omega
  simp only [lower, bs, List.map_append, List.map_cons, List.map_nil, List.append_assoc]
  rw [List.set_append_right _ _ (by simp; omega)]
  simp only [List.length_map, List.length_take]
  rw [show i - min i s.length = 0 by omega]
  rfl
theorem mixed_keep (s : List UInt8) (i : Nat) (h : i < s.length) (hc : low1 s[i] = s[i]) : lower (s.take i) ++ s.drop i = lower (s.take (i + 1)) ++ s.drop (i + 1) := by
  rw [take_succ' s i h, drop_cons s i h]
  simp only [lower, List.map_append, List.map_cons, List.map_nil, hc, List.append_assoc, List.cons_append, List.nil_append]
theorem byteAt_get (s : List UInt8) (i : Nat) (h : i < s.length) : byteAt s i = (s[i].toNat : Int) := by simp [byteAt, List.getD_eq_getElem?_getD, h]

/-! ### Sets of bytes; what is taken from the ends -/
/-- A set of bytes, as cells. -/
def setC (p : Nat → Bool) : List AV := (List.range 256).map fun i => .bool (p i)
def memB (l : List UInt8) (i : Nat) : Bool := l.any fun c => c.toNat == i
def getP (vs : List AV) (i : Nat) : Bool := match vs[i]? with | some (.bool b) => b | _ => false
def tl (p : Nat → Bool) (s : List UInt8) : List UInt8 := s.dropWhile fun c => p c.toNat
def tr (p : Nat → Bool) (s : List UInt8) : List UInt8 := (tl p s.reverse).reverse
theorem setC_get (p : Nat → Bool) {n : Nat} (h : n < 256) : (setC p)[n]? = some (.bool (p n)) := by simp [setC, h]
theorem flats_map {α : Type} (l : List α) (f : α → AV) (h : ∀ x, (f x).flat = true) : AV.flats (l.map f) = true := by
  induction l with
  | nil => rfl
  | cons a l ih => simp only [List.map_cons, AV.flats, h, ih, Bool.and_self]
theorem setC_flat (p : Nat → Bool) : AV.flats (setC p) = true := flats_map _ _ fun _ => rfl
theorem tl_cons (p : Nat → Bool) (c : UInt8) (s : List UInt8) : tl p (c :: s) = if p c.toNat = true then tl p s else c :: s := by
  unfold tl; rw [List.dropWhile_cons]
theorem tr_snoc (p : Nat → Bool) (c : UInt8) (s : List UInt8) : tr p (s ++ [c]) = if p c.toNat = true then tr p s else s ++ [c] := by
  unfold tr
  rw [List.reverse_append, List.reverse_singleton, List.singleton_append, tl_cons]
  split <;> simp
theorem byteAt_lt (s : List UInt8) (i : Nat) : 0 ≤ byteAt s i ∧ byteAt s i < 256 := by
  unfold byteAt
  have := (s.getD i 0).toNat_lt
  omega
theorem byteAt_zero (c : UInt8) (s : List UInt8) : byteAt (c :: s) 0 = c.toNat := rfl
theorem byteAt_last (s : List UInt8) (c : UInt8) : byteAt (s ++ [c]) s.length = c.toNat := by
  simp [byteAt, List.getD_eq_getElem?_getD]
theorem getP_setC (p : Nat → Bool) {n : Nat} (h : n < 256) : getP (setC p) n = p n := by simp [getP, setC_get p h]
theorem tl_congr {p q : Nat → Bool} (h : ∀ n, n < 256 → p n = q n) (s : List UInt8) : tl p s = tl q s := by
  induction s with
  | nil => rfl
  | cons c s ih => rw [tl_cons, tl_cons, h _ c.toNat_lt, ih]
theorem tr_congr {p q : Nat → Bool} (h : ∀ n, n < 256 → p n = q n) (s : List UInt8) : tr p s = tr q s := by
  unfold tr; rw [tl_congr h]
theorem tl_length (p : Nat → Bool) (s : List UInt8) : (tl p s).length ≤ s.length := (List.dropWhile_suffix _).length_le
theorem tr_length (p : Nat → Bool) (s : List UInt8) : (tr p s).length ≤ s.length := by
  have := tl_length p s.reverse
  simp only [tr, List.length_reverse] at this ⊢
  exact this
end Go.Ve

namespace Go.Ve
open Go Go.RowKit Go.WideShapes Go.ChangeShapes

/-- A slice that came in: none, one without places, one with places (its elements, the spare ones). -/
inductive SlA (α : Type) where
  | nil
  | zero
  | at (l r : List α)
def SlA.av {α : Type} (n : Nat) : SlA α → AV
  | .nil => .nilsl
  | .zero => .slz
  | .at l r => .sl n 0 l.length (l.length + r.length) true
def SlA.all {α : Type} : SlA α → List α
  | .nil => []
  | .zero => []
  | .at l r => l ++ r
def SlA.blk {α : Type} (f : α → List AV) (esz : Nat) : SlA α → List ABlk
  | .nil => []
  | .zero => []
  | .at l r => [.cells ((l ++ r).flatMap f) esz true]
theorem flat_get {α : Type} {f : α → List AV} {c : Nat} (hc : 0 < c) (hf : ∀ x, (f x).length = c) : ∀ (xs : List α) (j : Nat) (v : AV), (xs.flatMap f)[j]? = some v → ∃ x, xs[j / c]? = some x ∧ (f x)[j % c]? = some v
  | [], j, v, h => by simp at h
  | x :: r, j, v, h => by
    rw [List.flatMap_cons] at h
    by_cases hj : j < c
    · rw [List.getElem?_append_left (by rw [hf]; exact hj)] at h
      refine ⟨x, by rw [Nat.div_eq_of_lt hj]; rfl, by rw [Nat.mod_eq_of_lt hj]; exact h⟩
    · rw [List.getElem?_append_right (by rw [hf]; omega), hf] at h
      obtain ⟨y, h1, h2⟩ := flat_get hc hf r (j - c) v h
      refine ⟨y, ?_, ?_⟩
      · rw [Nat.div_eq_sub_div hc (by omega)]
        exact h1
      · rw [Nat.mod_eq_sub_mod (by omega)]
        exact h2
theorem choose_list {α : Type} {p : Nat → α → Prop} : ∀ {n : Nat}, (∀ i, i < n → ∃ x, p i x) → ∃ xs : List α, xs.length = n ∧ ∀ i x, xs[i]? = some x → p i x
  | 0, _ => ⟨[], rfl, fun i x h => by simp at h⟩
  | n + 1, h => by
    obtain ⟨xs, h1, h2⟩ := choose_list (n := n) fun i hi => h i (by omega)
    obtain ⟨y, hy⟩ := h n (by omega)
    refine ⟨xs ++ [y], by simp [h1], fun i x hx => ?_⟩
    by_cases hi : i < xs.length
    · rw [List.getElem?_append_left hi] at hx
      exact h2 i x hx
    · rw [List.getElem?_append_right (by omega)] at hx
      have : i - xs.length = 0 := by
        have := (List.getElem?_eq_some_iff.1 hx).1
        simp at this
        omega
      rw [this] at hx
      cases hx
      have : i = n := by omega
      rw [this]; exact hy
/-- A block that was there is taken in, to be read. -/
theorem Rel.takeIn {w : World} {φ : List Loc} {H : AH} (h : Rel (Base.all w) φ H w) {l : Loc} {vs : List AV} {esz : Nat} (hl : l.blk < w.heap.size) (hs : l.slk = 0) (hc : CellsR (φ ++ [l]) w l vs) : Rel (Base.all w) (φ ++ [l]) (H ++ [.cells vs esz true]) w := by
  have hx : Ext φ (φ ++ [l]) := Ext.snoc _ _
  have split : ∀ (b : Nat) (k' : ABlk) (l' : Loc), (H ++ [.cells vs esz true])[b]? = some k' → (φ ++ [l])[b]? = some l' → (H[b]? = some k' ∧ φ[b]? = some l') ∨ (k' = .cells vs esz true ∧ l' = l) := by
    intro b k' l' hb hl'
    by_cases hb' : b < H.length
    · rw [List.getElem?_append_left hb'] at hb
      rw [List.getElem?_append_left (by rw [h.len]; exact hb')] at hl'
      exact .inl ⟨hb, hl'⟩
    · rw [List.getElem?_append_right (by omega)] at hb
      rw [List.getElem?_append_right (by rw [h.len]; omega), h.len] at hl'
      have h0 : b - H.length = 0 := by
        have := (List.getElem?_eq_some_iff.1 hb).1
        simp at this
        omega
      rw [h0] at hb hl'
      cases hb; cases hl'
      exact .inr ⟨rfl, rfl⟩
  refine ⟨by simp [h.len], h.below, fun b k' l' hb hl' => ?_, fun b b' k k' l1 l2 h1 h2 g1 g2 o1 o2 e => ?_⟩
  · rcases split b k' l' hb hl' with ⟨h1, h2⟩ | ⟨rfl, rfl⟩
    · exact (h.blocks b k' l' h1 h2).mono hx
    · exact ⟨hl, hs, hc⟩
  · rcases split b k l1 h1 g1 with ⟨h1, g1⟩ | ⟨rfl, rfl⟩
    · rcases split b' k' l2 h2 g2 with ⟨h2, g2⟩ | ⟨rfl, rfl⟩
      · exact h.inj b b' k k' l1 l2 h1 h2 g1 g2 o1 o2 e
      · cases o2
    · cases o1
theorem opens_slice {Hd : Type} {enc : TypeId × Value → Hd} {P : Program} {w : World} {t e : TypeId} (ht : P.underlying t = some (.slice e)) (he : 0 < P.cellsOf e) {α : Type} {f : α → List AV} {G : α → Prop} (h : Flat enc P w e f G) (hf : ∀ x, (f x).length = P.cellsOf e) (esz : Nat) :
    Opens enc P w t (fun (x : SlA α) n => [x.av n]) (fun x _ => x.blk f esz) (fun x => (∀ y ∈ x.all, G y) ∧ x.all.length ≤ maxLen) := by
  intro fuel cs d ps hd
  rcases DataW.trod_slice ht hd with ⟨rfl, _⟩ | ⟨a, len, cap, elems, rest, n, rfl, rfl, _, _, hlc, hcm, hel, he1, he2, _⟩
  · exact ⟨.nil, ⟨(fun y hy => by cases hy), Nat.zero_le _⟩, fun φ H hr => ⟨φ, Ext.refl _, .cons .nilsl .nil, by simpa [SlA.blk] using hr⟩⟩
  · obtain ⟨hrl, he2⟩ := he2 rfl
    by_cases h0 : cap = 0
    · subst h0
      obtain rfl : len = 0 := by omega
      exact ⟨.zero, ⟨(fun y hy => by cases hy), Nat.zero_le _⟩, fun φ H hr => ⟨φ, Ext.refl _, .cons (.slz a) .nil, by simpa [SlA.blk] using hr⟩⟩
    · have hall : ∀ i, i < cap → ∃ x : α, G x ∧ ∃ us, w.cells? 0 (a.add (i * P.cellsOf e)) (P.cellsOf e) = some us ∧ ∀ φ, VRs φ (f x) us := by
        intro i hi
        have : ∃ y, (w.cells? 0 (a.add (i * P.cellsOf e)) (P.cellsOf e)).bind (DataW.trod enc P w 0 (fun _ => true) true n e) = some y := by
          by_cases hil : i < len
          · exact ⟨_, (he1 i hil).trans (List.getElem?_eq_getElem (by rw [hel]; exact hil))⟩
          · have e1 : i = len + (i - len) := by omega
            have hj : i - len < cap - len := by omega
            have := he2 (i - len) hj
            rw [← e1] at this
            exact ⟨_, this.trans (List.getElem?_eq_getElem (by rw [hrl]; exact hj))⟩
        obtain ⟨y, hy⟩ := this
        rw [Option.bind_eq_some_iff] at hy
        obtain ⟨us, h1, h2⟩ := hy
        obtain ⟨x, hx, hxf⟩ := h n us y.1 y.2 h2
        exact ⟨x, hx, us, h1, hxf⟩
      obtain ⟨xs, hxl, hxs⟩ := choose_list hall
      have hcell : ∀ i us, w.cells? 0 (a.add (i * P.cellsOf e)) (P.cellsOf e) = some us → ∀ k u, us[k]? = some u → w.cell? ((a.add (i * P.cellsOf e)).add k) = some u := by
        intro i us hus k u hk
        obtain ⟨_, hl, hg⟩ := World.cells?_some hus
        have hk' : k < us.length := (List.getElem?_eq_some_iff.1 hk).1
        rw [hg k (by omega), hk]
      obtain ⟨x0, hx0, us0, hus0, hv0⟩ := hall 0 (by omega)
      have hblk : a.block < w.heap.size := by
        have := World.cells?_block hus0 he
        simpa [Addr.add] using this
      have hspot : a.spot = none := by
        have hl0 : us0.length = P.cellsOf e := by rw [← (hv0 []).length, hf]
        obtain ⟨u, hu⟩ : ∃ u, us0[0]? = some u := ⟨_, List.getElem?_eq_getElem (by omega)⟩
        have := hcell 0 us0 hus0 0 u hu
        have ea : (a.add (0 * P.cellsOf e)).add 0 = a := by simp [Addr.add]
        rw [ea] at this
        unfold World.cell? at this
        split at this
        · split at this
          · cases this
          · rename_i hsp
            cases hs : a.spot with
            | none => rfl
            | some s => rw [hs] at hsp; simp at hsp
        · cases this
      have hadd : ∀ i k, (a.add (i * P.cellsOf e)).add k = ⟨a.block, a.off + (i * P.cellsOf e + k), none⟩ := by
        intro i k
        obtain ⟨ab, ao, asp⟩ := a
        simp only at hspot
        subst hspot
        unfold Addr.add
        split <;> split <;> simp_all <;> omega
      refine ⟨.at (xs.take len) (xs.drop len), ⟨?_, ?_⟩, fun φ H hr => ?_⟩
      · show ∀ y ∈ xs.take len ++ xs.drop len, G y
        rw [List.take_append_drop]
        intro y hy
        obtain ⟨i, hi, rfl⟩ := List.getElem_of_mem hy
        exact (hxs i _ (List.getElem?_eq_getElem hi)).1
      · show (xs.take len ++ xs.drop len).length ≤ maxLen
        rw [List.take_append_drop, hxl]; exact hcm
      · have hlen1 : (xs.take len).length = len := by rw [List.length_take]; omega
        have hlen2 : (xs.drop len).length = cap - len := by rw [List.length_drop]; omega
        refine ⟨φ ++ [⟨a.block, a.off, 0⟩], Ext.snoc _ _, .cons ?_ .nil, ?_⟩
        · have hg : (φ ++ [(⟨a.block, a.off, 0⟩ : Loc)])[H.length]? = some ⟨a.block, a.off, 0⟩ := by rw [← hr.len]; simp
          have := VR.sl (off := 0) (len := len) (cap := cap) (ex := true) hg
          show VR _ (.sl H.length 0 (xs.take len).length ((xs.take len).length + (xs.drop len).length) true) _
          rw [hlen1, hlen2, show len + (cap - len) = cap by omega]
          obtain ⟨ab, ao, asp⟩ := a
          simp only at hspot
          subst hspot
          simpa using this
        · show Rel _ _ (H ++ [.cells ((xs.take len ++ xs.drop len).flatMap f) esz true]) w
          rw [List.take_append_drop]
          refine hr.takeIn hblk rfl fun j v hj => ?_
          obtain ⟨x, h1, h2⟩ := flat_get he hf xs j v hj
          obtain ⟨_, us, hus, hv⟩ := hxs _ x h1
          obtain ⟨u, hu, hvu⟩ := (hv _).get h2
          refine ⟨u, hvu, ?_⟩
          have := hcell _ us hus _ u hu
          rw [hadd] at this
          rw [show j / P.cellsOf e * P.cellsOf e + j % P.cellsOf e = j by rw [Nat.mul_comm]; exact Nat.div_add_mod _ _] at this
          exact this
/-- THE LAW's STEP: the contract answers true; so does the call, and all that was there is as it was. -/
theorem contract_of_sc {H : Type} {enc : TypeId × Value → H} {P : Program} {f : FuncId} {fn : Func} {s : ChangeSpec} {tb : TypeId}
    (hl : laidOutB P = true) (hall : (fn.params.toList.all fun t => P.readableRec t && decide (t < P.types.size)) = true) (hrt : fn.resultTypes = #[tb]) (htb : P.underlying tb = some .bool) (hv : s.vars = [])
    (hspec : ∀ ds : List (DataW H), ds.length = fn.params.size → (s.fn H ds).results = [.lit (.bool true)] ∧ (s.fn H ds).args = ds ∧ (s.fn H ds).vars = [])
    {α : Type} {fa : α → Nat → List AV} {ga : α → Nat → List ABlk} {G : α → Prop} {W : World} (hopen : OpensArgs enc P W fn.params.toList fa ga G)
    (hev : ∀ x, G x → SC P f (fa x 0) (ga x 0) fun v _ => v = .bool true)
    {base : Nat} {args : Array Value} {ds gs : List (DataW H)} {before : List MemPlace}
    (hval : ∀ (j : Nat) t v, fn.params[j]? = some t → args[j]? = some v → Value.okWide P W .any base t v)
    (hW : DataW.Whole enc P fn.params.toList s.vars false W args.toList ds gs before) :
    Calls P f args W fun e W' => ∃ v, e = .returned v ∧ s.post enc P fn false true false false W args v W' := by
  have hW' := hW
  obtain ⟨p, q, hA, hV, hps, hfz, hnd⟩ := hW
  rw [hv] at hV
  obtain ⟨rfl, rfl⟩ := trodVars_none hV
  have hlen : ds.length = fn.params.size := by
    have : ∀ {ts : List TypeId} {vs : List Value} {ds : List (DataW H)} {ps : List MemPlace}, DataW.TrodAll enc P W 0 (fun _ => true) true ts vs ds ps → ds.length = ts.length := by
      intro ts
      induction ts with
      | nil => intro vs ds ps h; cases vs <;> cases ds <;> first | rfl | exact h.elim
      | cons t ts ih =>
        intro vs ds ps h
        cases vs with
        | nil => cases ds <;> exact h.elim
        | cons v vs => cases ds with
          | nil => exact h.elim
          | cons d ds => obtain ⟨p, q, _, h2, _⟩ := h; simp [ih h2]
    simpa using this hA
  obtain ⟨e1, e2, e3⟩ := hspec ds hlen
  obtain ⟨x, hx, hxf⟩ := hopen base args.toList ds p hA (fun j t v hj hv2 => hval j t v (by simpa using hj) (by simpa using hv2))
  obtain ⟨φ, _, hvr, hrel⟩ := hxf [] [] (Rel.empty W)
  simp only [List.length_nil, List.nil_append] at hvr hrel
  have hcall := hev x hx (Base.all W) φ W args hrel hvr
  refine hcall.mono ?_
  rintro e W' ⟨u, v, H', φ', rfl, rfl, _, hu, hch⟩
  cases hu
  have hbelow : Below W.heap.size W W' := hch.below.to
  have hplt : ∀ x ∈ p, x.block < W.heap.size := fun x hx => hW'.lt x (by rw [hps]; simpa using hx)
  refine ⟨_, rfl, post_of_below (pa := p) (pv := []) hW' (fun b sp hd => ?_) (fun sp hsp => ?_) (fun sp hsp => ?_) hps hbelow ?_⟩
  · rw [List.append_nil, e1]
    have : fn.resultTypes.toList = [tb] := by rw [hrt]
    rw [this, hrt]
    exact trodAll_cons_mk (shut_bool htb _) trodAll_mk0
  · rw [List.append_nil, e2]
    exact trodAll_keep hl hall hA hbelow hplt (fun x hx => hsp x (by rw [hps]; simpa using hx))
  · rw [List.append_nil, e3, hv]
    rfl
  · exact ok_one hrt rfl (okWide_bool_mk htb _)
end Go.Ve

namespace Go.Ve
open Go Go.RowKit Go.WideShapes Go.ChangeShapes

section
variable {H : Type} {enc : TypeId × Value → H} {P : Program} {w : World} {t : TypeId}
def Sz (l : List Nat) : Prop := ∀ n ∈ l, n ≤ reachBytes
def FlatS (enc : TypeId × Value → H) (P : Program) (w : World) (t : TypeId) {α : Type} (f : α → List AV) (G : α → Prop) : Prop :=
  ∀ fuel cs d ps, DataW.trod enc P w 0 (fun _ => true) true fuel t cs = some (d, ps) → Sz (d.weights P t) → ∃ x : α, G x ∧ ∀ φ, VRs φ (f x) cs
theorem Flat.sized {α : Type} {f : α → List AV} {G : α → Prop} (h : Flat enc P w t f G) : FlatS enc P w t f G := fun fuel cs d ps hd _ => h fuel cs d ps hd
theorem flatS_str (ht : P.underlying t = some .string) : FlatS enc P w t (fun s : List UInt8 => [.str s]) (fun s => s.length ≤ reachBytes) := by
  intro fuel cs d ps hd hw
  obtain ⟨s, rfl, h2, h3⟩ := DataW.trod_string ht hd
  cases h2
  refine ⟨s.data.toList, hw _ ?_, fun φ => .cons (.str s.data.toList) .nil⟩
  unfold DataW.weights
  simp
def FlatFsS (enc : TypeId × Value → H) (P : Program) (w : World) (off : Nat) (l : List Field) {α : Type} (f : α → List AV) (G : α → Prop) (total : Nat) : Prop :=
  ∀ fuel (cs : List Value) ds, cs.length = total → (l.mapM fun fd => DataW.trod enc P w 0 (fun _ => true) true fuel fd.type ((cs.drop fd.offset).take (P.cellsOf fd.type))) = some ds → Sz (DataW.weightsEach P (l.map (·.type)) (ds.map (·.1))) → ∃ x : α, G x ∧ ∀ φ, VRs φ (f x) (cs.drop off)
theorem flatFsS_nil (n : Nat) : FlatFsS enc P w n [] (fun _ : Unit => []) (fun _ => True) n := by
  intro fuel cs ds hl _ _
  refine ⟨(), trivial, fun φ => ?_⟩
  rw [List.drop_eq_nil_of_le (by omega)]
  exact .nil
theorem flatFsS_cons {off n total : Nat} {fd : Field} {l : List Field} {α β : Type} {f1 : α → List AV} {G1 : α → Prop} {f2 : β → List AV} {G2 : β → Prop}
    (h1 : FlatS enc P w fd.type f1 G1) (h2 : FlatFsS enc P w (off + n) l f2 G2 total) (ho : fd.offset = off := by rfl) (hn : P.cellsOf fd.type = n := by kernel_rfl) :
    FlatFsS enc P w off (fd :: l) (fun x : α × β => f1 x.1 ++ f2 x.2) (fun x => G1 x.1 ∧ G2 x.2) total := by
  intro fuel cs ds hl hd hw
  rw [List.mapM_cons] at hd
  cases ha : DataW.trod enc P w 0 (fun _ => true) true fuel fd.type ((cs.drop fd.offset).take (P.cellsOf fd.type)) with
  | none => rw [ha] at hd; cases hd
  | some y =>
    rw [ha] at hd
    cases hb : (l.mapM fun fd => DataW.trod enc P w 0 (fun _ => true) true fuel fd.type ((cs.drop fd.offset).take (P.cellsOf fd.type))) with
    | none => rw [hb] at hd; cases hd
    | some ys =>
      rw [hb] at hd
      cases hd
      have hw' : Sz (y.1.weights P fd.type ++ DataW.weightsEach P (l.map (·.type)) (ys.map (·.1))) := hw
      obtain ⟨x1, h3, h4⟩ := h1 _ _ _ _ ha fun n hn => hw' n (List.mem_append_left _ hn)
      obtain ⟨x2, h5, h6⟩ := h2 _ _ _ hl hb fun n hn => hw' n (List.mem_append_right _ hn)
      refine ⟨(x1, x2), ⟨h3, h5⟩, fun φ => ?_⟩
      have e : cs.drop off = (cs.drop off).take n ++ cs.drop (off + n) := by
        rw [← List.drop_drop]; exact (List.take_append_drop n _).symm
      rw [e]
      have h4 := h4 φ
      rw [ho, hn] at h4
      exact h4.append (h6 φ)
theorem flatS_struct {fs : Array Field} {n : Nat} {α : Type} {f : α → List AV} {G : α → Prop} (ht : P.underlying t = some (.struct fs)) (h : FlatFsS enc P w 0 fs.toList f G n) (hn : P.cellsOf t = n := by kernel_rfl) : FlatS enc P w t f G := by
  intro fuel cs d ps hd hw
  cases fuel with
  | zero => simp [DataW.trod] at hd
  | succ fuel =>
    unfold DataW.trod at hd
    rw [ht] at hd
    simp only at hd
    split at hd
    · rename_i hl
      cases hm : (fs.toList.mapM fun f => DataW.trod enc P w 0 (fun _ => true) true fuel f.type ((cs.drop f.offset).take (P.cellsOf f.type))) with
      | none => rw [hm] at hd; cases hd
      | some xs =>
        rw [hm] at hd
        cases hd
        unfold DataW.weights at hw
        rw [ht] at hw
        obtain ⟨x, h1, h2⟩ := h fuel cs xs (by rw [hl, hn]) hm hw
        exact ⟨x, h1, fun φ => by simpa using h2 φ⟩
    · cases hd
def OpensS (enc : TypeId × Value → H) (P : Program) (w : World) (t : TypeId) {α : Type} (f : α → Nat → List AV) (g : α → Nat → List ABlk) (G : α → Prop) : Prop :=
  ∀ fuel cs d ps, DataW.trod enc P w 0 (fun _ => true) true fuel t cs = some (d, ps) → Sz (d.weights P t) →
    ∃ x : α, G x ∧ ∀ φ H, Rel (Base.all w) φ H w → ∃ φ', Ext φ φ' ∧ VRs φ' (f x H.length) cs ∧ Rel (Base.all w) φ' (H ++ g x H.length) w
theorem FlatS.opens {α : Type} {f : α → List AV} {G : α → Prop} (h : FlatS enc P w t f G) : OpensS enc P w t (fun x _ => f x) (fun _ _ => []) G := by
  intro fuel cs d ps hd hw
  obtain ⟨x, h1, h2⟩ := h fuel cs d ps hd hw
  exact ⟨x, h1, fun φ H hr => ⟨φ, Ext.refl _, h2 φ, by simpa using hr⟩⟩
theorem weights_all {e : TypeId} {d : DataW H} : ∀ {l : List (DataW H)}, d ∈ l → ∀ n ∈ d.weights P e, n ∈ DataW.weightsAll P e l
  | a :: l, hd, n, hn => by
    unfold DataW.weightsAll
    rcases List.mem_cons.1 hd with rfl | hd
    · exact List.mem_append_left _ hn
    · exact List.mem_append_right _ (weights_all hd n hn)
theorem opensS_slice {e : TypeId} (ht : P.underlying t = some (.slice e)) (he : 0 < P.cellsOf e) {α : Type} {f : α → List AV} {G : α → Prop} (h : FlatS enc P w e f G) (hf : ∀ x, (f x).length = P.cellsOf e) (esz : Nat) :
    OpensS enc P w t (fun (x : SlA α) n => [x.av n]) (fun x _ => x.blk f esz) (fun x => (∀ y ∈ x.all, G y) ∧ x.all.length ≤ maxLen) := by
  intro fuel cs d ps hd hw
  rcases DataW.trod_slice ht hd with ⟨rfl, _⟩ | ⟨a, len, cap, elems, rest, n, rfl, rfl, hx, _, hlc, hcm, hel, he1, he2, _⟩
  · exact ⟨.nil, ⟨(fun y hy => by cases hy), Nat.zero_le _⟩, fun φ H hr => ⟨φ, Ext.refl _, .cons .nilsl .nil, by simpa [SlA.blk] using hr⟩⟩
  · obtain ⟨hrl, he2⟩ := he2 rfl
    cases hx
    have hwe : ∀ y, y ∈ elems ∨ y ∈ rest → Sz (y.1.weights P e) := by
      intro y hy n' hn'
      unfold DataW.weights at hw
      rw [ht] at hw
      refine hw n' (List.mem_cons_of_mem _ ?_)
      rcases hy with hy | hy
      · exact List.mem_append_left _ (weights_all (List.mem_map.2 ⟨y, hy, rfl⟩) n' hn')
      · exact List.mem_append_right _ (weights_all (List.mem_map.2 ⟨y, hy, rfl⟩) n' hn')
    by_cases h0 : cap = 0
    · subst h0
      obtain rfl : len = 0 := by omega
      exact ⟨.zero, ⟨(fun y hy => by cases hy), Nat.zero_le _⟩, fun φ H hr => ⟨φ, Ext.refl _, .cons (.slz a) .nil, by simpa [SlA.blk] using hr⟩⟩
    · have hall : ∀ i, i < cap → ∃ x : α, G x ∧ ∃ us, w.cells? 0 (a.add (i * P.cellsOf e)) (P.cellsOf e) = some us ∧ ∀ φ, VRs φ (f x) us := by
        intro i hi
        have : ∃ y, (w.cells? 0 (a.add (i * P.cellsOf e)) (P.cellsOf e)).bind (DataW.trod enc P w 0 (fun _ => true) true n e) = some y ∧ (y ∈ elems ∨ y ∈ rest) := by
          by_cases hil : i < len
          · exact ⟨_, (he1 i hil).trans (List.getElem?_eq_getElem (by rw [hel]; exact hil)), .inl (List.getElem_mem _)⟩
          · have e1 : i = len + (i - len) := by omega
            have hj : i - len < cap - len := by omega
            have := he2 (i - len) hj
            rw [← e1] at this
            exact ⟨_, this.trans (List.getElem?_eq_getElem (by rw [hrl]; exact hj)), .inr (List.getElem_mem _)⟩
        obtain ⟨y, hy, hym⟩ := this
        rw [Option.bind_eq_some_iff] at hy
        obtain ⟨us, h1, h2⟩ := hy
        obtain ⟨x, hx, hxf⟩ := h n us y.1 y.2 h2 (hwe y hym)
        exact ⟨x, hx, us, h1, hxf⟩
      obtain ⟨xs, hxl, hxs⟩ := choose_list hall
      have hcell : ∀ i us, w.cells? 0 (a.add (i * P.cellsOf e)) (P.cellsOf e) = some us → ∀ k u, us[k]? = some u → w.cell? ((a.add (i * P.cellsOf e)).add k) = some u := by
        intro i us hus k u hk
        obtain ⟨_, hl, hg⟩ := World.cells?_some hus
        have hk' : k < us.length := (List.getElem?_eq_some_iff.1 hk).1
        rw [hg k (by omega), hk]
      obtain ⟨x0, hx0, us0, hus0, hv0⟩ := hall 0 (by omega)
      have hblk : a.block < w.heap.size := by
        have := World.cells?_block hus0 he
        simpa [Addr.add] using this
      have hspot : a.spot = none := by
        have hl0 : us0.length = P.cellsOf e := by rw [← (hv0 []).length, hf]
        obtain ⟨u, hu⟩ : ∃ u, us0[0]? = some u := ⟨_, List.getElem?_eq_getElem (by omega)⟩
        have := hcell 0 us0 hus0 0 u hu
        have ea : (a.add (0 * P.cellsOf e)).add 0 = a := by simp [Addr.add]
        rw [ea] at this
        unfold World.cell? at this
        split at this
        · split at this
          · cases this
          · rename_i hsp
            cases hs : a.spot with
            | none => rfl
            | some s => rw [hs] at hsp; simp at hsp
        · cases this
      have hadd : ∀ i k, (a.add (i * P.cellsOf e)).add k = ⟨a.block, a.off + (i * P.cellsOf e + k), none⟩ := by
        intro i k
        obtain ⟨ab, ao, asp⟩ := a
        simp only at hspot
        subst hspot
        unfold Addr.add
        split <;> split <;> simp_all <;> omega
      refine ⟨.at (xs.take len) (xs.drop len), ⟨?_, ?_⟩, fun φ H hr => ?_⟩
      · show ∀ y ∈ xs.take len ++ xs.drop len, G y
        rw [List.take_append_drop]
        intro y hy
        obtain ⟨i, hi, rfl⟩ := List.getElem_of_mem hy
        exact (hxs i _ (List.getElem?_eq_getElem hi)).1
      · show (xs.take len ++ xs.drop len).length ≤ maxLen
        rw [List.take_append_drop, hxl]; exact hcm
      · have hlen1 : (xs.take len).length = len := by rw [List.length_take]; omega
        have hlen2 : (xs.drop len).length = cap - len := by rw [List.length_drop]; omega
        refine ⟨φ ++ [⟨a.block, a.off, 0⟩], Ext.snoc _ _, .cons ?_ .nil, ?_⟩
        · have hg : (φ ++ [(⟨a.block, a.off, 0⟩ : Loc)])[H.length]? = some ⟨a.block, a.off, 0⟩ := by rw [← hr.len]; simp
          have := VR.sl (off := 0) (len := len) (cap := cap) (ex := true) hg
          show VR _ (.sl H.length 0 (xs.take len).length ((xs.take len).length + (xs.drop len).length) true) _
          rw [hlen1, hlen2, show len + (cap - len) = cap by omega]
          obtain ⟨ab, ao, asp⟩ := a
          simp only at hspot
          subst hspot
          simpa using this
        · show Rel _ _ (H ++ [.cells ((xs.take len ++ xs.drop len).flatMap f) esz true]) w
          rw [List.take_append_drop]
          refine hr.takeIn hblk rfl fun j v hj => ?_
          obtain ⟨x, h1, h2⟩ := flat_get he hf xs j v hj
          obtain ⟨_, us, hus, hv⟩ := hxs _ x h1
          obtain ⟨u, hu, hvu⟩ := (hv _).get h2
          refine ⟨u, hvu, ?_⟩
          have := hcell _ us hus _ u hu
          rw [hadd] at this
          rw [show j / P.cellsOf e * P.cellsOf e + j % P.cellsOf e = j by rw [Nat.mul_comm]; exact Nat.div_add_mod _ _] at this
          exact this
def OpensArgsS (enc : TypeId × Value → H) (P : Program) (w : World) (ts : List TypeId) {α : Type} (f : α → Nat → List AV) (g : α → Nat → List ABlk) (G : α → Prop) : Prop :=
  ∀ (b0 : Nat) vs ds ps, DataW.TrodAll enc P w 0 (fun _ => true) true ts vs ds ps → Sz (DataW.weightsEach P ts ds) → (∀ (j : Nat) (t : TypeId) (v : Value), ts[j]? = some t → vs[j]? = some v → Value.okWide P w .any b0 t v) →
    ∃ x : α, G x ∧ ∀ φ H, Rel (Base.all w) φ H w → ∃ φ', Ext φ φ' ∧ VRs φ' (f x H.length) vs ∧ Rel (Base.all w) φ' (H ++ g x H.length) w
theorem opensArgsS_nil : OpensArgsS enc P w [] (fun (_ : Unit) _ => []) (fun _ _ => []) (fun _ => True) := by
  intro b0 vs ds ps h _ _
  cases vs with
  | nil => exact ⟨(), trivial, fun φ H hr => ⟨φ, Ext.refl _, .nil, by simpa using hr⟩⟩
  | cons v vs => exact h.elim
theorem opensArgsS_cons {ts : List TypeId} {α β : Type} {f1 : α → Nat → List AV} {g1 : α → Nat → List ABlk} {G1 : α → Prop} {f2 : β → Nat → List AV} {g2 : β → Nat → List ABlk} {G2 : β → Prop} {b : Bool}
    (hb : isAggP P t = some b) (h1 : OpensS enc P w t f1 g1 G1) (h2 : OpensArgsS enc P w ts f2 g2 G2) :
    OpensArgsS enc P w (t :: ts) (fun (x : α × β) n => packA b (f1 x.1 n) :: f2 x.2 (n + (g1 x.1 n).length)) (fun x n => g1 x.1 n ++ g2 x.2 (n + (g1 x.1 n).length)) (fun x => G1 x.1 ∧ G2 x.2) := by
  intro b0 vs ds ps h hw hok
  cases vs with
  | nil => cases ds <;> exact h.elim
  | cons v vs =>
    cases ds with
    | nil => exact h.elim
    | cons d ds =>
      obtain ⟨p, q, ⟨fuel, hd⟩, hrest, _⟩ := h
      have hw' : Sz (d.weights P t ++ DataW.weightsEach P ts ds) := hw
      obtain ⟨x, hx, hxf⟩ := h1 fuel _ d p hd fun n hn => hw' n (List.mem_append_left _ hn)
      obtain ⟨y, hy, hyf⟩ := h2 b0 vs ds q hrest (fun n hn => hw' n (List.mem_append_right _ hn)) (fun j t v hj hv => hok (j + 1) t v (by simpa using hj) (by simpa using hv))
      refine ⟨(x, y), ⟨hx, hy⟩, fun φ H hr => ?_⟩
      obtain ⟨φ1, e1, v1, r1⟩ := hxf φ H hr
      obtain ⟨φ2, e2, v2, r2⟩ := hyf φ1 _ r1
      simp only [List.length_append] at v2 r2
      refine ⟨φ2, e1.trans e2, .cons ((packA_ok hb (hok 0 t v rfl rfl) v1).mono e2) v2, ?_⟩
      rw [List.append_assoc] at r2
      exact r2

end
/-- THE LAW's STEP: the contract answers true; so does the call, and all that was there is as it was. -/
theorem contract_of_scS {H : Type} {enc : TypeId × Value → H} {P : Program} {f : FuncId} {fn : Func} {s : ChangeSpec} {tb : TypeId}
    (hl : laidOutB P = true) (hall : (fn.params.toList.all fun t => P.readableRec t && decide (t < P.types.size)) = true) (hrt : fn.resultTypes = #[tb]) (htb : P.underlying tb = some .bool) (hv : s.vars = [])
    (hspec : ∀ ds : List (DataW H), ds.length = fn.params.size → (s.fn H ds).results = [.lit (.bool true)] ∧ (s.fn H ds).args = ds ∧ (s.fn H ds).vars = [])
    {α : Type} {fa : α → Nat → List AV} {ga : α → Nat → List ABlk} {G : α → Prop} {W : World} (hopen : OpensArgsS enc P W fn.params.toList fa ga G)
    (hev : ∀ x, G x → SC P f (fa x 0) (ga x 0) fun v _ => v = .bool true)
    {base : Nat} {args : Array Value} {ds gs : List (DataW H)} {before : List MemPlace}
    (hval : ∀ (j : Nat) t v, fn.params[j]? = some t → args[j]? = some v → Value.okWide P W .any base t v)
    (hW : DataW.Whole enc P fn.params.toList s.vars false W args.toList ds gs before)
    (hsz : ∃ ds2 p2, DataW.TrodAll enc P W 0 (fun _ => true) true fn.params.toList args.toList ds2 p2 ∧ Sz (DataW.weightsEach P fn.params.toList ds2)) :
    Calls P f args W fun e W' => ∃ v, e = .returned v ∧ s.post enc P fn false true false false W args v W' := by
  have hW' := hW
  obtain ⟨p, q, hA, hV, hps, hfz, hnd⟩ := hW
  rw [hv] at hV
  obtain ⟨rfl, rfl⟩ := trodVars_none hV
  have hlen : ds.length = fn.params.size := by
    have : ∀ {ts : List TypeId} {vs : List Value} {ds : List (DataW H)} {ps : List MemPlace}, DataW.TrodAll enc P W 0 (fun _ => true) true ts vs ds ps → ds.length = ts.length := by
      intro ts
      induction ts with
      | nil => intro vs ds ps h; cases vs <;> cases ds <;> first | rfl | exact h.elim
      | cons t ts ih =>
        intro vs ds ps h
        cases vs with
        | nil => cases ds <;> exact h.elim
        | cons v vs => cases ds with
          | nil => exact h.elim
          | cons d ds => obtain ⟨p, q, _, h2, _⟩ := h; simp [ih h2]
    simpa using this hA
  obtain ⟨e1, e2, e3⟩ := hspec ds hlen
  obtain ⟨ds2, p2, hA2, hw2⟩ := hsz
  obtain ⟨x, hx, hxf⟩ := hopen base args.toList ds2 p2 hA2 hw2 (fun j t v hj hv2 => hval j t v (by simpa using hj) (by simpa using hv2))
  obtain ⟨φ, _, hvr, hrel⟩ := hxf [] [] (Rel.empty W)
  simp only [List.length_nil, List.nil_append] at hvr hrel
  have hcall := hev x hx (Base.all W) φ W args hrel hvr
  refine hcall.mono ?_
  rintro e W' ⟨u, v, H', φ', rfl, rfl, _, hu, hch⟩
  cases hu
  have hbelow : Below W.heap.size W W' := hch.below.to
  have hplt : ∀ x ∈ p, x.block < W.heap.size := fun x hx => hW'.lt x (by rw [hps]; simpa using hx)
  refine ⟨_, rfl, post_of_below (pa := p) (pv := []) hW' (fun b sp hd => ?_) (fun sp hsp => ?_) (fun sp hsp => ?_) hps hbelow ?_⟩
  · rw [List.append_nil, e1]
    have : fn.resultTypes.toList = [tb] := by rw [hrt]
    rw [this, hrt]
    exact trodAll_cons_mk (shut_bool htb _) trodAll_mk0
  · rw [List.append_nil, e2]
    exact trodAll_keep hl hall hA hbelow hplt (fun x hx => hsp x (by rw [hps]; simpa using hx))
  · rw [List.append_nil, e3, hv]
    rfl
  · exact ok_one hrt rfl (okWide_bool_mk htb _)
end Go.Ve

