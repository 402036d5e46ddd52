/- Regions that draw their order, fourth: any order gives what the text's order gives. -/
import Derived.Test.YtkgkbpfjdlnoeaaDoorVeG3
namespace Go.Ve
open Go Go.RowKit

theorem updZ_get {os : List Oper} {rs : List Rec} {j : Nat} {o : Oper} {r : Rec} (ho : os[j]? = some o) (hr : rs[j]? = some r) : (updZ os rs)[j]? = some (o.dst.map fun s => (s, r.v)) := by
  unfold updZ
  rw [List.getElem?_map, (List.getElem?_zip_eq_some (z := (o, r))).2 ⟨ho, hr⟩]
  rfl
theorem updZ_inv {os : List Oper} {rs : List Rec} {j : Nat} {u : Nat × AV} (h : (updZ os rs)[j]? = some (some u)) : ∃ o r, os[j]? = some o ∧ rs[j]? = some r ∧ o.dst = some u.1 ∧ r.v = u.2 := by
  unfold updZ at h
  rw [List.getElem?_map] at h
  cases hz : (os.zip rs)[j]? with
  | none => rw [hz] at h; cases h
  | some p =>
    rw [hz] at h
    obtain ⟨h1, h2⟩ := (List.getElem?_zip_eq_some (z := p)).1 hz
    refine ⟨p.1, p.2, h1, h2, ?_⟩
    cases hd : p.1.dst with
    | none => rw [Option.map_some, hd] at h; cases h
    | some s => rw [Option.map_some, hd] at h; cases h; exact ⟨rfl, rfl⟩

/-- What is known of the head's evaluation. -/
structure Gen (P : Program) (call : CallF) (ops : Array Oper) (n : Nat) (fr0 : List AV) (H0 : AH) (recs : List Rec) : Prop where
  fwd : fwdB ops = true
  le : n ≤ ops.size
  nd : nodupD (ops.toList.take n) = true
  len : recs.length = n
  step : ∀ (j : Nat) (o : Oper), (ops.toList.take n)[j]? = some o → ∃ r, recs[j]? = some r ∧
    genStep P call ops (ops.toList.take n) (bsOf ops) (allocs 0 (ops.toList.take n)) H0.length j o (foldD allD 0 ((updZ (ops.toList.take n) recs).take j) fr0)
      (maskL (wrs (bsOf ops) j 0 (recs.take j)) (foldD allD 0 ((recs.map (·.ch)).take j) (H0 ++ List.replicate (allocs 0 (ops.toList.take n)).length .dead))) = some r
  chk : ∀ (j : Nat) (o : Oper) (rc : Rec), (ops.toList.take n)[j]? = some o → recs[j]? = some rc →
    lateOk o (gρ (ops.toList.take n) (bsOf ops) j (foldD allD 0 ((updZ (ops.toList.take n) recs).take j) fr0)) (maskL (wrs (bsOf ops) j 0 (recs.take j)) (foldD allD 0 ((recs.map (·.ch)).take j) (H0 ++ List.replicate (allocs 0 (ops.toList.take n)).length .dead))) (wrs (bsOf ops) j (j + 1) (recs.drop (j + 1))) = true ∧
    (∀ c, rc.ch = some c → c.1 ∉ wrs (bsOf ops) j (j + 1) (recs.drop (j + 1)) ∧ okB (bsOf ops) (allocs 0 (ops.toList.take n)) H0.length j c.1 = true ∧ c.2.onB (okB (bsOf ops) (allocs 0 (ops.toList.take n)) H0.length j) = true) ∧
    rc.v.onB (okB (bsOf ops) (allocs 0 (ops.toList.take n)) H0.length j) = true

section
variable {P : Program} {call : CallF} {ops : Array Oper} {n : Nat} {fr0 : List AV} {H0 : AH} {recs : List Rec} {w0 : Base} {φ0 : List Loc} {Q : Exit → Act → World → Prop}

def Dof (d : Array Bool) : Nat → Bool := fun k => d.getD k false
def frD (ops : Array Oper) (n : Nat) (recs : List Rec) (fr0 : List AV) (D : Nat → Bool) : List AV := foldD D 0 (updZ (ops.toList.take n) recs) fr0
def HD (ops : Array Oper) (n : Nat) (recs : List Rec) (H0 : AH) (D : Nat → Bool) : AH := foldD D 0 (recs.map (·.ch)) (H0 ++ List.replicate (allocs 0 (ops.toList.take n)).length .dead)
def okD (ops : Array Oper) (n : Nat) (H0 : AH) (D : Nat → Bool) (b : Nat) : Prop := b < H0.length ∨ ∃ k, (allocs 0 (ops.toList.take n))[b - H0.length]? = some k ∧ D k = true
structure Inv (ops : Array Oper) (n : Nat) (fr0 : List AV) (H0 : AH) (recs : List Rec) (w0 : Base) (φ0 : List Loc) (d : Array Bool) (a : Act) (w : World) : Prop where
  head : HeadInv .any ops n d
  defers : a.defers = []
  rest : ∃ φ : List Loc, (∀ b, b < H0.length → φ[b]? = φ0[b]?) ∧ Rel w0 φ (HD ops n recs H0 (Dof d)) w ∧ VRs φ (frD ops n recs fr0 (Dof d)) a.tmps.toList ∧
    AV.Ons (okD ops n H0 (Dof d)) (frD ops n recs fr0 (Dof d)) ∧ ∀ (b : Nat) (k : ABlk), (HD ops n recs H0 (Dof d))[b]? = some k → k.On (okD ops n H0 (Dof d))

theorem Gen.op (g : Gen P call ops n fr0 H0 recs) {i : Nat} (hi : i < n) : ∃ o, ops[i]? = some o ∧ (ops.toList.take n)[i]? = some o := by
  have h1 : i < ops.size := Nat.lt_of_lt_of_le hi g.le
  refine ⟨ops[i], Array.getElem?_eq_getElem h1, ?_⟩
  rw [List.getElem?_take, if_pos hi]
  simp [h1]
theorem Gen.mis (g : Gen P call ops n fr0 H0 recs) {d : Array Bool} (inv : HeadInv .any ops n d) {i k : Nat} (hr : i ∈ Region.ready .any ops d) (hk : k < n) (hne : Dof d k ≠ decide (k < i)) : unord (bsOf ops) i k = true := by
  obtain ⟨hun, oi, hoi, hall⟩ := mem_ready.1 hr
  have hif : d.getD i false = false := getD_both hun
  obtain ⟨ok, hok, _⟩ := g.op hk
  by_cases hlt : k < i
  · rw [decide_eq_true hlt] at hne
    have hkf : d.getD k false = false := by simpa [Dof] using hne
    refine unord_of (by omega) ?_ ?_
    · cases h : ((bsOf ops).getD i 0).testBit k with
      | false => rfl
      | true => rw [bs_closed g.fwd inv.closed i hoi hall h] at hkf; cases hkf
    · cases h : ((bsOf ops).getD k 0).testBit i with
      | false => rfl
      | true => have := bs_lt g.fwd k hok h; omega
  · rw [decide_eq_false hlt] at hne
    have hkt : d.getD k false = true := by simpa [Dof] using hne
    have hik : i ≠ k := fun e => by subst e; rw [hif] at hkt; cases hkt
    refine unord_of hik ?_ ?_
    · cases h : ((bsOf ops).getD i 0).testBit k with
      | false => rfl
      | true => have := bs_lt g.fwd i hoi h; omega
    · cases h : ((bsOf ops).getD k 0).testBit i with
      | false => rfl
      | true => rw [bs_closed g.fwd inv.closed k hok (inv.closed k ok hok hkt) h] at hif; cases hif
theorem lt_lex {α : Type} (us : List (Option (Nat × α))) (i : Nat) (l : List α) : foldD allD 0 (us.take i) l = foldD (fun k => decide (k < i)) 0 us l := by
  have := foldD_lt us 0 i l
  rw [Nat.zero_add] at this
  exact this.symm
/-- The masked heap of operation i, at whatever point it comes up. -/
theorem Gen.masked (g : Gen P call ops n fr0 H0 recs) {d : Array Bool} (inv : HeadInv .any ops n d) {i : Nat} (hr : i ∈ Region.ready .any ops d) (_ : i < n) :
    Masked (maskL (wrs (bsOf ops) i (i + 1) (recs.drop (i + 1))) (maskL (wrs (bsOf ops) i 0 (recs.take i)) (foldD allD 0 ((recs.map (·.ch)).take i) (H0 ++ List.replicate (allocs 0 (ops.toList.take n)).length .dead)))) (HD ops n recs H0 (Dof d)) := by
  refine ⟨by rw [maskL_length, maskL_length, foldD_length, HD, foldD_length], fun b hb => ?_⟩
  have hb' : b < (foldD allD 0 ((recs.map (·.ch)).take i) (H0 ++ List.replicate (allocs 0 (ops.toList.take n)).length .dead)).length := by
    rw [HD, foldD_length] at hb; rw [foldD_length]; exact hb
  by_cases h1 : b ∈ wrs (bsOf ops) i (i + 1) (recs.drop (i + 1))
  · exact .inl ((maskL_get _ _ b).2 (by rw [maskL_length]; exact hb') (.inr h1))
  · by_cases h2 : b ∈ wrs (bsOf ops) i 0 (recs.take i)
    · exact .inl ((maskL_get _ _ b).2 (by rw [maskL_length]; exact hb') (.inl ((maskL_get _ _ b).2 hb' (.inr h2))))
    · right
      rw [(maskL_get _ _ b).1 h1, (maskL_get _ _ b).1 h2, lt_lex, HD]
      refine foldD_get _ 0 _ _ (fun j u hu hub => ?_) rfl rfl
      rw [Nat.zero_add]
      rw [List.getElem?_map] at hu
      cases hrj : recs[j]? with
      | none => rw [hrj] at hu; cases hu
      | some r =>
        rw [hrj] at hu
        have hch : r.ch = some u := by simpa using hu
        have hjn : j < n := by rw [← g.len]; exact lt_of_some hrj
        refine Decidable.byContradiction fun hne => ?_
        have hu := g.mis inv hr hjn (fun e => hne e.symm)
        by_cases hji : j < i
        · exact h2 (hub ▸ wrs_mem (j := j) (by rw [List.getElem?_take, if_pos hji]; exact hrj) hch (by rwa [Nat.zero_add]))
        · have hne2 : i ≠ j := by
            intro e
            subst e
            simp [unord] at hu
          exact h1 (hub ▸ wrs_mem (j := j - (i + 1)) (by rw [List.getElem?_drop, show i + 1 + (j - (i + 1)) = j by omega]; exact hrj) hch (by rwa [show i + 1 + (j - (i + 1)) = j by omega]))
theorem Gen.slot (g : Gen P call ops n fr0 H0 recs) {d : Array Bool} (inv : HeadInv .any ops n d) {i : Nat} (hr : i ∈ Region.ready .any ops d) {s : Tmp} (hs : hidB (bsOf ops) i s 0 (ops.toList.take n) = false) :
    (frD ops n recs fr0 (Dof d))[s]? = (foldD allD 0 ((updZ (ops.toList.take n) recs).take i) fr0)[s]? := by
  rw [lt_lex, frD]
  refine foldD_get _ 0 _ _ (fun j u hu hub => ?_) rfl rfl
  rw [Nat.zero_add]
  obtain ⟨o, r, h1, h2, h3, _⟩ := updZ_inv hu
  have hjn : j < n := by rw [← g.len]; exact lt_of_some h2
  refine Decidable.byContradiction fun hne => ?_
  have hu := g.mis inv hr hjn hne
  exact hidB_ok hs j o h1 (by rwa [Nat.zero_add]) (by rw [h3, hub])
theorem Dof_set {d : Array Bool} {i j : Nat} (h : j ≠ i) : Dof (d.setIfInBounds i true) j = Dof d j := getD_set_ne false (Ne.symm h)
theorem Dof_self {d : Array Bool} {i : Nat} (h : i < d.size) : Dof (d.setIfInBounds i true) i = true := by
  unfold Dof
  simp [h]
theorem Gen.frame (g : Gen P call ops n fr0 H0 recs) {d : Array Bool} (inv : HeadInv .any ops n d) {i : Nat} (hr : i ∈ Region.ready .any ops d) (hi : i < n) {o : Oper} {rc : Rec} (ho : (ops.toList.take n)[i]? = some o) (hrc : recs[i]? = some rc) :
    frD ops n recs fr0 (Dof (d.setIfInBounds i true)) = aput (frD ops n recs fr0 (Dof d)) o.dst rc.v := by
  have hun := (mem_ready.1 hr).1
  have hu := updZ_get ho hrc
  cases hd : o.dst with
  | none =>
    rw [hd] at hu
    exact foldD_skip hu fun j hj => Dof_set hj
  | some s =>
    rw [hd] at hu
    refine foldD_insert (b := s) (x := rc.v) _ 0 i _ hu ?_ ?_ ?_ ?_
    · rw [Nat.zero_add]; exact Dof_self (by rw [inv.size]; exact Nat.lt_of_lt_of_le hi g.le)
    · rw [Nat.zero_add]; exact getD_both hun
    · intro j hj; exact Dof_set (by omega)
    · intro j u hj hu' _ he
      obtain ⟨o', r', h1, h2, h3, _⟩ := updZ_inv hu'
      exact nodupD_ok g.nd (show i ≠ j by omega) ho h1 hd (by rw [h3, he])
theorem Gen.heap (g : Gen P call ops n fr0 H0 recs) {d : Array Bool} (inv : HeadInv .any ops n d) {i : Nat} (hr : i ∈ Region.ready .any ops d) (hi : i < n) {o : Oper} {rc : Rec} (ho : (ops.toList.take n)[i]? = some o) (hrc : recs[i]? = some rc) :
    HD ops n recs H0 (Dof (d.setIfInBounds i true)) = applyR (HD ops n recs H0 (Dof d)) rc := by
  have hun := (mem_ready.1 hr).1
  have hu : (recs.map (·.ch))[i]? = some rc.ch := by rw [List.getElem?_map, hrc]; rfl
  unfold applyR
  cases hc : rc.ch with
  | none =>
    rw [hc] at hu
    exact foldD_skip hu fun j hj => Dof_set hj
  | some c =>
    rw [hc] at hu
    refine foldD_insert (b := c.1) (x := c.2) _ 0 i _ hu ?_ ?_ ?_ ?_
    · rw [Nat.zero_add]; exact Dof_self (by rw [inv.size]; exact Nat.lt_of_lt_of_le hi g.le)
    · rw [Nat.zero_add]; exact getD_both hun
    · intro j hj; exact Dof_set (by omega)
    · intro j u hj hu' hD he
      rw [Nat.zero_add] at hD
      rw [List.getElem?_map] at hu'
      cases hrj : recs[j]? with
      | none => rw [hrj] at hu'; cases hu'
      | some r =>
        rw [hrj] at hu'
        have hch : r.ch = some u := by simpa using hu'
        have hjn : j < n := by rw [← g.len]; exact lt_of_some hrj
        have hun := g.mis inv hr hjn (by rw [hD, decide_eq_false (by omega)]; simp)
        have := ((g.chk i o rc ho hrc).2.1 c hc).1
        exact this (he ▸ wrs_mem (j := j - (i + 1)) (by rw [List.getElem?_drop, show i + 1 + (j - (i + 1)) = j by omega]; exact hrj) hch (by rwa [show i + 1 + (j - (i + 1)) = j by omega]))
theorem Gen.ok (g : Gen P call ops n fr0 H0 recs) {d : Array Bool} (inv : HeadInv .any ops n d) {i : Nat} (hr : i ∈ Region.ready .any ops d) (hi : i < n) {b : Nat} (h : okB (bsOf ops) (allocs 0 (ops.toList.take n)) H0.length i b = true) : okD ops n H0 (Dof (d.setIfInBounds i true)) b := by
  obtain ⟨_, oi, hoi, hall⟩ := mem_ready.1 hr
  have hsz : i < d.size := by rw [inv.size]; exact Nat.lt_of_lt_of_le hi g.le
  unfold okB at h
  rw [Bool.or_eq_true] at h
  rcases h with h | h
  · exact .inl (by simpa using h)
  · split at h
    · rename_i k hk
      refine .inr ⟨k, hk, ?_⟩
      rw [Bool.or_eq_true] at h
      by_cases hki : k = i
      · subst hki; exact Dof_self hsz
      · rw [Dof_set hki]
        rcases h with h | h
        · exact absurd (by simpa using h) hki
        · exact bs_closed g.fwd inv.closed i hoi hall h
    · cases h
theorem okD_mono {d : Array Bool} {i : Nat} {b : Nat} (h : okD ops n H0 (Dof d) b) : okD ops n H0 (Dof (d.setIfInBounds i true)) b :=
  h.imp id fun ⟨k, h1, h2⟩ => ⟨k, h1, getD_set_true h2⟩
end
end Go.Ve
