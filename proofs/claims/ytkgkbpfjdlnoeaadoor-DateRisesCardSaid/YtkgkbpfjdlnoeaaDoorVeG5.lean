/- Regions that draw their order, fifth: one step, all steps, the region. -/
import Derived.Test.YtkgkbpfjdlnoeaaDoorVeG4
namespace Go.Ve
open Go Go.RowKit

section
variable {P : Program} {call : CallF} {ops : Array Oper} {n : Nat} {fr0 : List AV} {H0 : AH} {recs : List Rec} {w0 : Base} {φ0 : List Loc} {Q : Exit → Act → World → Prop}

theorem gwant_ok {hd : List Oper} {bs : List Nat} {i : Nat} {o : Oper} {fr fr' : List AV} {b : Bool} (h : gwant ops hd bs i o fr = some b) (hs : ∀ s, hidB bs i s 0 hd = false → fr'[s]? = fr[s]?) : awanted ops o fr' = some b := by
  unfold gwant at h
  split at h
  · rename_i hg
    cases h
    unfold awanted; rw [hg]
  · rename_i j want hg
    split at h
    · rename_i hd'
      cases h
      unfold awanted; simp only [hg, hd']
    · rename_i s hd'
      split at h
      · cases h
      · rename_i hh
        rw [awanted_congr (fr' := fr)]
        · exact h
        · intro j' want' s' hg' hd''
          rw [hg] at hg'
          cases hg'
          rw [hd'] at hd''
          cases hd''
          exact hs s (by simpa using hh)

theorem Gen.free (g : Gen P call ops n fr0 H0 recs) {d : Array Bool} (hinv : HeadInv .any ops n d) {i : Nat} (hr : i ∈ Region.ready .any ops d) {o : Oper} (ho : (ops.toList.take n)[i]? = some o) (hnw : isNew o.op = true) :
    ¬ okD ops n H0 (Dof d) (H0.length + (allocs 0 (ops.toList.take n)).idxOf i) ∧ (HD ops n recs H0 (Dof d))[H0.length + (allocs 0 (ops.toList.take n)).idxOf i]? = some .dead := by
  have hmem : i ∈ allocs 0 (ops.toList.take n) := by have := allocs_mem (k := 0) ho hnw; rwa [Nat.zero_add] at this
  have hidx : (allocs 0 (ops.toList.take n))[(allocs 0 (ops.toList.take n)).idxOf i]? = some i := by
    have hlt := List.idxOf_lt_length_iff.2 hmem
    rw [List.getElem?_eq_getElem hlt, List.getElem_idxOf]
  have hilt := lt_of_some hidx
  have hnot : ¬ okD ops n H0 (Dof d) (H0.length + (allocs 0 (ops.toList.take n)).idxOf i) := by
    rintro (h | ⟨k, h4, h5⟩)
    · omega
    · rw [Nat.add_sub_cancel_left, hidx] at h4
      cases h4
      have := getD_both (mem_ready.1 hr).1
      unfold Dof at h5
      rw [this] at h5
      cases h5
  have hdead : (HD ops n recs H0 (Dof d))[H0.length + (allocs 0 (ops.toList.take n)).idxOf i]? = some .dead := by
    have e1 : (HD ops n recs H0 (Dof d))[H0.length + (allocs 0 (ops.toList.take n)).idxOf i]? = (HD ops n recs H0 (fun _ => false))[H0.length + (allocs 0 (ops.toList.take n)).idxOf i]? := by
      refine foldD_get _ 0 _ _ (fun j u hu hub => ?_) rfl rfl
      rw [Nat.zero_add]
      rw [List.getElem?_map] at hu
      cases hrj : recs[j]? with
      | none => rw [hrj] at hu; cases hu
      | some r =>
        rw [hrj] at hu
        have hcj : r.ch = some u := by simpa using hu
        have hjn : j < n := by rw [← g.len]; exact lt_of_some hrj
        obtain ⟨oj, hoj, hoj'⟩ := g.op hjn
        have hok := ((g.chk j oj r hoj' hrj).2.1 u hcj).2.1
        cases hDj : Dof d j with
        | false => rfl
        | true =>
          exfalso
          rw [hub] at hok
          unfold okB at hok
          rw [Nat.add_sub_cancel_left, hidx, Bool.or_eq_true] at hok
          rcases hok with h | h
          · have := of_decide_eq_true h
            omega
          · rw [Bool.or_eq_true] at h
            have hif := getD_both (mem_ready.1 hr).1
            rcases h with h | h
            · have : i = j := by simpa using h
              subst this
              unfold Dof at hDj
              rw [hif] at hDj; cases hDj
            · rw [bs_closed g.fwd hinv.closed j hoj (hinv.closed j oj hoj hDj) h] at hif
              cases hif
    rw [e1]
    have e2 : ∀ (us : List (Option (Nat × ABlk))) (k : Nat) (l : AH), foldD (fun _ => false) k us l = l := by
      intro us
      induction us with
      | nil => intro _ _; rfl
      | cons u us ih => intro k l; cases u <;> exact ih _ _
    rw [HD, e2, List.getElem?_append_right (by omega), Nat.add_sub_cancel_left]
    simp [hilt]
  exact ⟨hnot, hdead⟩

theorem Gen.next (g : Gen P call ops n fr0 H0 recs) (hP : P.funcs.all (fun fn => !(fn.name == "runtime.NumGoroutine")) = true) (hC : CallOk P call) {d : Array Bool} {a : Act} {w : World} (inv : Inv ops n fr0 H0 recs w0 φ0 d a w) {i : Nat} (hr : i ∈ Region.ready .any ops d) (hi : i < n) {K : Act → World → Prop}
    (hK : ∀ a' w', Inv ops n fr0 H0 recs w0 φ0 (d.setIfInBounds i true) a' w' → K a' w') : wpOp P ops Q i K a w := by
  obtain ⟨o, hoi, ho⟩ := g.op hi
  obtain ⟨rc, hrc, hst⟩ := g.step i o ho
  obtain ⟨hlate, hch, hvon⟩ := g.chk i o rc ho hrc
  obtain ⟨hinv, hdef, φ, hφ, hrel, hfr, hon, hhon⟩ := inv
  have hmask := g.masked hinv hr hi
  have hslot := fun {s : Tmp} (hs : hidB (bsOf ops) i s 0 (ops.toList.take n) = false) => g.slot hinv hr hs
  have hframe := g.frame hinv hr hi ho hrc
  have hheap := g.heap hinv hr hi ho hrc
  have hput : ∀ u, (a.put o.dst u).defers = [] := fun u => by cases o.dst <;> exact hdef
  have fin : ∀ (u : Value) (w' : World) (φ' : List Loc), (∀ b, b < H0.length → φ'[b]? = φ0[b]?) → Rel w0 φ' (applyR (HD ops n recs H0 (Dof d)) rc) w' → VRs φ' (frD ops n recs fr0 (Dof d)) a.tmps.toList → VR φ' rc.v u → K (a.put o.dst u) w' := by
    intro u w' φ' h1 h2 h3 h4
    refine hK _ _ ⟨hinv.set hr hi, hput u, φ', h1, by rw [hheap]; exact h2, by rw [hframe]; exact aput_ok h3 o.dst h4, ?_, ?_⟩
    · rw [hframe]
      have h5 : AV.Ons (okD ops n H0 (Dof (d.setIfInBounds i true))) (frD ops n recs fr0 (Dof d)) := AV.Ons.mono (fun b hb => okD_mono hb) hon
      have h6 : AV.On (okD ops n H0 (Dof (d.setIfInBounds i true))) rc.v := AV.On.mono (fun b hb => g.ok hinv hr hi hb) (AV.onB_ok hvon)
      unfold aput
      split
      · exact h5.set _ h6
      · exact h5
    · intro b k hb
      rw [hheap] at hb
      unfold applyR at hb
      cases hc : rc.ch with
      | none => rw [hc] at hb; exact (hhon b k hb).mono fun b hb => okD_mono hb
      | some c =>
        rw [hc] at hb
        by_cases he : c.1 = b
        · have hlt := lt_of_some hb
          rw [List.length_set] at hlt
          simp only [he] at hb
          rw [List.getElem?_set_self hlt] at hb
          cases hb
          exact (ABlk.onB_ok (hch c hc).2.2).mono fun b hb => g.ok hinv hr hi hb
        · simp only at hb
          rw [List.getElem?_set_ne he] at hb
          exact (hhon b k hb).mono fun b hb => okD_mono hb
  have fin2 : ∀ (Hm' : AH) (m off len cap : Nat) (ex : Bool) (vs : List AV) (esz lo : Nat) (H' : AH) (φ' : List Loc) (u : Value) (w' : World), Masked Hm' (HD ops n recs H0 (Dof d)) → isNew o.op = true → lo = Hm'.length → Keeps lo Hm' H' → Hm'.length ≤ m → H'[m]? = some (.cells vs esz false) →
      AV.onBs (fun b => decide (b < Hm'.length) && decide (b ≠ H0.length + (allocs 0 (ops.toList.take n)).idxOf i)) vs = true → rc = ⟨.sl (H0.length + (allocs 0 (ops.toList.take n)).idxOf i) off len cap ex, some (H0.length + (allocs 0 (ops.toList.take n)).idxOf i, .cells vs esz false)⟩ →
      Ext φ φ' → VR φ' (.sl m off len cap ex) u → Rel (Base.of w φ Hm') φ' H' w' → K (a.put o.dst u) w' := by
    intro Hm' m off len cap ex vs esz lo H' φ' u w' hmask hnw hlo hkeep hm hb honv hrc' h3 h4 h5
    obtain ⟨hnot, hdead⟩ := g.free hinv hr ho hnw
    subst hrc'
    have hold := (hrel.weak hmask).rebase.restrict h3 (hlo ▸ hkeep) h5
    have hnew := hrel.unbase hmask hold
    cases h4 with
    | sl hl =>
      rename_i l
      have hplt : H0.length + (allocs 0 (ops.toList.take n)).idxOf i < φ.length := by rw [hrel.len]; exact lt_of_some hdead
      have hlen := hold.len
      have hne : ∀ b, okD ops n H0 (Dof d) b → b ≠ H0.length + (allocs 0 (ops.toList.take n)).idxOf i := fun b hb e => hnot (e ▸ hb)
      have hset : ∀ b, okD ops n H0 (Dof d) b → (φ.set (H0.length + (allocs 0 (ops.toList.take n)).idxOf i) l)[b]? = φ[b]? := fun b hb => List.getElem?_set_ne (Ne.symm (hne b hb))
      have hbrm := h5.blocks m _ l hb hl
      have hbr : BR w0 (φ.set (H0.length + (allocs 0 (ops.toList.take n)).idxOf i) l) w' l (.cells vs esz false) := by
        refine BR.re (φ := φ') (p := fun b => (decide (b < _) && decide (b ≠ H0.length + (allocs 0 (ops.toList.take n)).idxOf i)) = true) (fun b hb => ?_) (AV.onBs_ok honv) ?_
        · simp only [Bool.and_eq_true, decide_eq_true_eq] at hb
          rw [List.getElem?_set_ne (Ne.symm hb.2)]
          have hbl : b < φ.length := by rw [hlen]; exact hb.1
          rw [List.getElem?_eq_getElem hbl]
          exact (h3.get (List.getElem?_eq_getElem hbl)).symm
        · refine hbrm.base (fun ho hk => ?_) (fun ho => by simp [ABlk.own] at ho)
          refine hbrm.own_ge rfl ⟨Nat.lt_of_lt_of_le (w0.lt _ hk) hrel.below.size, fun b' k' l' hb' hl' ho' he => ?_⟩
          exact (hrel.blocks b' k' l' (hmask.get hb' (own_nd ho')) hl').own_ge ho' (he ▸ hk)
      have hsep : ∀ (b : Nat) (k : ABlk) (lb : Loc), (HD ops n recs H0 (Dof d))[b]? = some k → φ[b]? = some lb → k.own = true → lb.blk ≠ l.blk := by
        intro b k lb hb1 hl1 ho1 he
        rcases hmask.2 b (lt_of_some hb1) with hd1 | hd1
        · refine hbrm.own_ge rfl (he ▸ (⟨(hrel.blocks b k lb hb1 hl1).lt hrel.below.size (own_nd ho1), fun b' k' l' hb' hl' ho' he' => ?_⟩ : (Base.of w φ _).keep lb.blk))
          have hne' : b' ≠ b := fun e => by subst e; rw [hd1] at hb'; cases hb'; simp [ABlk.own] at ho'
          exact hne' (hrel.inj b' b k' k l' lb (hmask.get hb' (own_nd ho')) hb1 hl' hl1 ho' ho1 he')
        · have hbm : b < φ.length := lt_of_some hl1
          have hb2 := hd1.trans hb1
          have hlt2 := lt_of_some hb2
          have hb3 := hkeep.2 b (by rw [hlo]; exact hlt2) hlt2
          have := h5.inj b m k _ lb l (hb3.trans hb2) hb (h3.get hl1) hl ho1 rfl he
          omega
      refine fin _ _ (φ.set (H0.length + (allocs 0 (ops.toList.take n)).idxOf i) l) (fun b hb => ?_) (hnew.placeAt hdead (fun b k hb => (hhon b k hb).mono hne) hbr hsep) (hfr.re hset hon) ?_
      · rw [List.getElem?_set_ne (by omega)]; exact hφ b hb
      · have := VR.sl (φ := φ.set (H0.length + (allocs 0 (ops.toList.take n)).idxOf i) l) (b := H0.length + (allocs 0 (ops.toList.take n)).idxOf i) (off := off) (len := len) (cap := cap) (ex := ex) (l := l) (List.getElem?_set_self hplt)
        simpa using this
  unfold wpOp
  simp only [hoi]
  unfold genStep at hst
  split at hst
  · cases hst
  · rename_i hw
    cases hst
    rw [awanted_ok (gwant_ok hw fun s hs => hslot hs) hfr]
    simp only [Bool.false_eq_true, if_false]
    exact fin undef w φ hφ hrel hfr (.tuple .nil)
  · rename_i hw
    rw [awanted_ok (gwant_ok hw fun s hs => hslot hs) hfr]
    simp only [if_true]
    left
    have hop := genOp_mask hst hlate
    clear hst
    have hρ : ∀ x, VR φ (gρ (ops.toList.take n) (bsOf ops) i (foldD allD 0 ((updZ (ops.toList.take n) recs).take i) fr0) x) (a.eval x) := by
      intro x
      cases x with
      | tmp s =>
        unfold gρ
        by_cases hh : hidB (bsOf ops) i s 0 (ops.toList.take n) = true
        · simp only [hh, if_true]; exact .bad _
        · simp only [hh]
          have := aeval_ok hfr (.tmp s)
          simp only [aeval, List.getD_eq_getElem?_getD, hslot (by simpa using hh)] at this
          simpa [aeval, List.getD_eq_getElem?_getD] using this
      | const c => exact aeval_ok hfr (.const c)
      | global c => exact aeval_ok hfr (.global c)
      | func c => exact aeval_ok hfr (.func c)
    unfold Oper.wp
    unfold genOp at hop
    split at hop
    · rename_i e hoe
      cases hz : azero P e with
      | none => rw [hz] at hop; cases hop
      | some z =>
        rw [hz] at hop
        cases hop
        obtain ⟨inf, zv, h1, h2, h3⟩ := azero_ok hz []
        obtain ⟨hnot, hdead⟩ := g.free hinv hr ho (by rw [hoe]; rfl)
        have hne : ∀ b, okD ops n H0 (Dof d) b → b ≠ H0.length + (allocs 0 (ops.toList.take n)).idxOf i := fun b hb e => hnot (e ▸ hb)
        have hset : ∀ b, okD ops n H0 (Dof d) b → (φ.set (H0.length + (allocs 0 (ops.toList.take n)).idxOf i) ⟨w.heap.size, 0, 0⟩)[b]? = φ[b]? := fun b hb => List.getElem?_set_ne (Ne.symm (hne b hb))
        have hnew := hrel.allocAt (esz := etag P e z.length) hdead (fun b k hb => (hhon b k hb).mono hne) e h3 (fun t h => tyOf_etag h)
        have hplt : H0.length + (allocs 0 (ops.toList.take n)).idxOf i < φ.length := by rw [hrel.len]; exact lt_of_some hdead
        have hrun : (execOp a.eval o).run P w = .ok (.value (.pointer (some ⟨w.heap.size, 0, none⟩))) { w with heap := w.heap.push (.cells zv.cells e) } := by
          simp only [execOp, hoe]
          simp [Instr.alloc, zeroValue, typeInfo, h1, h2, newVar, newRow]
        rw [hrun]
        refine fin _ _ (φ.set (H0.length + (allocs 0 (ops.toList.take n)).idxOf i) ⟨w.heap.size, 0, 0⟩) (fun b hb => ?_) hnew (hfr.re hset hon) ?_
        · rw [List.getElem?_set_ne (by omega)]; exact hφ b hb
        · have := VR.ptr (φ := φ.set (H0.length + (allocs 0 (ops.toList.take n)).idxOf i) ⟨w.heap.size, 0, 0⟩) (b := H0.length + (allocs 0 (ops.toList.take n)).idxOf i) (off := 0) (l := ⟨w.heap.size, 0, 0⟩) (List.getElem?_set_self hplt)
          simpa using this
    · rename_i t x y hos
      cases hs : astoreAt P t (maskL (wrs (bsOf ops) i (i + 1) (recs.drop (i + 1))) (maskL (wrs (bsOf ops) i 0 (recs.take i)) (foldD allD 0 ((recs.map (·.ch)).take i) (H0 ++ List.replicate (allocs 0 (ops.toList.take n)).length .dead)))) (gρ (ops.toList.take n) (bsOf ops) i (foldD allD 0 ((updZ (ops.toList.take n) recs).take i) fr0) x) (gρ (ops.toList.take n) (bsOf ops) i (foldD allD 0 ((updZ (ops.toList.take n) recs).take i) fr0) y) with
      | none => rw [hs] at hop; cases hop
      | some c =>
        rw [hs] at hop
        cases hop
        have hnd := (astoreAt_spec hs rfl).2.2
        have heq := ((hmask.2 c.1 (by rw [← hmask.1]; exact hnd.1)).resolve_left hnd.2).symm
        have h1 := (astoreAt_spec hs heq).1
        obtain ⟨ad, w', h2, h3, h4⟩ := astore_ok (P := P) hrel (hρ x) (hρ y) h1
        have hrun : (execOp a.eval o).run P w = .ok .skip w' := by simp [execOp, hos, Instr.storeAt, h2, Instr.sureAddr, h3]
        rw [hrun]
        exact fin _ _ φ hφ h4 hfr (.tuple .nil)
    · split at hop
      · rename_i v hv
        cases hop
        obtain ⟨m, u, w', φ', h1, h2, h3, h4, h5, h6⟩ := aop_ok (P := P) hP (hrel.weak hmask) hv hρ
        subst h5; subst h6
        rw [h1]
        rcases h2 with rfl | ⟨rfl, rfl⟩
        · exact fin _ _ _ hφ hrel hfr h4
        · exact fin _ _ _ hφ hrel hfr h4
      · rename_i v0 H' lo hv
        split at hop
        · rename_i hnw
          obtain ⟨hlo, m, off, len, cap, ex, vs, esz, rfl, hm, hb, honv, rfl⟩ := fresh_ok hop
          obtain ⟨mm, u, w', φ', h1, h2, h3, h4, h5, _⟩ := aop_ok (P := P) hP (hrel.weak hmask).rebase hv hρ
          rw [h1]
          rcases h2 with rfl | ⟨rfl, rfl⟩
          · exact fin2 _ m off len cap ex vs esz lo H' φ' u w' hmask hnw hlo (aop_keeps hv) hm hb honv rfl h3 h4 h5
          · exact fin2 _ m off len cap ex vs esz lo H' φ' _ w' hmask hnw hlo (aop_keeps hv) hm hb honv rfl h3 h4 h5
        · cases hop
      · rename_i f args hv
        obtain ⟨us, h1, h2⟩ := aop_ok (P := P) hP (hrel.weak hmask) hv hρ
        split at hop
        · rename_i v hcall
          cases hop
          rw [h1]
          refine ((hC _ _ _ _ _ hcall).1 _ φ w us (hrel.weak hmask).rebase h2).mono ?_
          rintro e w' ⟨u, φ', rfl, h3, h4, h5, h6⟩
          subst h5
          exact fin _ _ _ hφ (hrel.unbase hmask h6) hfr h4
        · rename_i v0 H' lo hcall
          split at hop
          · rename_i hnw
            obtain ⟨hlo, m, off, len, cap, ex, vs, esz, rfl, hm, hb, honv, rfl⟩ := fresh_ok hop
            have hpost := hC _ _ _ _ _ hcall
            rw [h1]
            refine (hpost.1 _ φ w us (hrel.weak hmask).rebase h2).mono ?_
            rintro e w' ⟨u, φ', rfl, h3, h4, h5⟩
            exact fin2 _ m off len cap ex vs esz _ H' φ' u w' hmask hnw hlo (hpost.2 _ _ rfl) hm hb honv rfl h3 h4 h5
          · cases hop
        · cases hop
      · cases hop
end
end Go.Ve
