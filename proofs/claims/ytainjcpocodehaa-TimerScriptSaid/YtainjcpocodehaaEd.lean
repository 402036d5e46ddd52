/- The evaluator: code and calls do what it says. -/
import Derived.Test.YtainjcpocodehaaEc
import Derived.LoopN
import Derived.ProofKit
import Derived.OpenShut
import Derived.ShutString
import Derived.Below
import Derived.ChangeSame
import Derived.Carry
import Derived.WideKeyArgs
import Derived.IntWalk
import Derived.RangeFuncNested
namespace Go.Ve
open Go Go.RowKit

section
variable {P : Program} {w0 : Base} {w : World} {φ : List Loc} {H : AH}

theorem aresults_ok (hr : Rel w0 φ H w) {fr : List AV} {tmps : Array Value} (ha : VRs φ fr tmps.toList) : ∀ {rs : List ResultVar} {vs : List AV}, aresults P fr H rs = some vs →
    ∃ us : List Value, VRs φ vs us ∧ (rs.mapM (m := Sem) fun | .tmp t => pure (tmps.getD t undef) | .cell a t => do loadVar t (← asAddr (tmps.getD a undef))).run P w = .ok us w
  | [], vs, h => by simp [aresults] at h; subst h; exact ⟨[], .nil, rfl⟩
  | r :: rs, vs, h => by
    simp only [aresults] at h
    split at h
    · rename_i v vs' hv hvs
      cases h
      obtain ⟨us, h1, h2⟩ := aresults_ok hr ha hvs
      cases r with
      | tmp t =>
        simp only [aresult] at hv
        cases hv
        refine ⟨tmps.getD t undef :: us, .cons ?_ h1, ?_⟩
        · rw [array_getD_toList]; exact ha.getD t (.tuple .nil)
        · simp only [List.mapM_cons, Sem.run_bind, Sem.run_pure, Result.andThen_ok, h2]
      | cell a t =>
        simp only [aresult] at hv
        have hp : VR φ (fr.getD a (.tuple [])) (tmps.getD a undef) := by rw [array_getD_toList]; exact ha.getD a (.tuple .nil)
        obtain ⟨ad, u, h3, h4, h5⟩ := aload_ok (P := P) hr hp hv
        refine ⟨u :: us, .cons h4 h1, ?_⟩
        have e1 : (asAddr (tmps.getD a undef)).run P w = .ok ad w := by rw [h3]; rfl
        simp only [List.mapM_cons, Sem.run_bind, e1, Sem.run_pure, Result.andThen_ok, h5, h2]
    · cases h

theorem results_ok (hr : Rel w0 φ H w) {fn : Func} {fr : List AV} {tmps : Array Value} (ha : VRs φ fr tmps.toList) {vs : List AV} (h : aresults P fr H fn.results.toList = some vs) :
    ∃ u, VR φ (oneOf vs) u ∧ (results fn tmps).run P w = .ok u w := by
  obtain ⟨us, h1, h2⟩ := aresults_ok (P := P) hr ha h
  have h3 := mapM_toList (P := P) _ fn.results w us h2
  refine ⟨if h : us.toArray.size = 1 then us.toArray[0] else .tuple us.toArray, ?_, ?_⟩
  · cases h1 with
    | nil => exact .tuple .nil
    | cons a as =>
      cases as with
      | nil => exact a
      | cons b bs =>
        rw [dif_neg (by simp)]
        exact .tuple (.cons a (.cons b bs))
  · unfold results
    rw [Sem.run_bind]
    exact Eq.trans (congrArg (fun r => Result.andThen r _) h3) rfl

end
end Go.Ve

namespace Go.Ve
open Go Go.RowKit Go.WideShapes Go.ChangeShapes

section
variable {H : Type} {enc : TypeId × Value → H} {P : Program}

theorem post_of_below {f : Func} {s : ChangeSpec} {apart fresh handsOn again : Bool} {W W' : World} {args : Array Value} {v : Value} {ds gs : List (DataW H)} {before pa pv : List MemPlace}
    (hW : DataW.Whole enc P f.params.toList s.vars apart W args.toList ds gs before)
    (hres : ∀ (b : Nat) (sp : Nat → Bool) (hd : Bool), DataW.TrodAll enc P W' b sp hd f.resultTypes.toList (v.resultList f.resultTypes.size) (s.fn H (ds ++ gs)).results [])
    (hargs : ∀ sp : Nat → Bool, (∀ p ∈ before, sp p.block = true) → DataW.TrodAll enc P W' 0 sp true f.params.toList args.toList (s.fn H (ds ++ gs)).args pa)
    (hvars : ∀ sp : Nat → Bool, (∀ p ∈ before, sp p.block = true) → DataW.TrodVars enc P W' sp s.vars (s.fn H (ds ++ gs)).vars pv)
    (hps : before = pa ++ pv) (hb : Below W.heap.size W W')
    (hok : ∀ (j : Nat) (t : TypeId) (r : Value), f.resultTypes[j]? = some t → (v.resultList f.resultTypes.size)[j]? = some r → Value.okWide P W' .any 0 t r) :
    s.post enc P f apart fresh handsOn again W args v W' := by
  have hlt : ∀ p ∈ before, p.block < W.heap.size := fun p hp => hW.lt p hp
  have hold : ∀ p ∈ before, (fun b => decide (b < W.heap.size)) p.block = true := fun p hp => by simpa using hlt p hp
  refine ⟨ds, gs, before, [], pa, pv, hW, hres _ _ _, hargs _ hold, hvars _ hold, World.keptBut_mono (fun p hp => ⟨hp, ?_⟩) (hb.frame (· ∈ before)), fun _ => ?_⟩
  · rw [hps, List.mem_append] at hp
    exact Or.inr hp
  · obtain ⟨_, _, _, _, _, hz, hn⟩ := hW
    refine ⟨hok, _, _, ([] ++ pa) ++ pv, ⟨[] ++ pa, pv, trodAll_append (hargs _ (fun _ _ => rfl)) (hres _ _ _), hvars _ (fun _ _ => rfl), rfl, ?_, ?_⟩, ?_⟩
    · intro b off hp
      have hin : MemPlace.cell b off ∈ before := by rw [hps]; simpa using hp
      rw [hb.frozen (hlt _ hin)]
      exact hz b off hin
    · intro ha
      have := hn ha
      rw [hps] at this
      simpa using this
    · intro p hp _
      rw [hps]
      simpa using hp

def Opens (enc : TypeId × Value → H) (P : Program) (w : World) (t : TypeId) {α : Type} (f : α → Nat → List AV) (g : α → Nat → List ABlk) (G : α → Prop) : Prop :=
  ∀ fuel cs d ps, DataW.trod enc P w 0 (fun _ => true) true fuel t cs = some (d, ps) →
    ∃ x : α, G x ∧ ∀ φ H, Rel (Base.all w) φ H w → ∃ φ', Ext φ φ' ∧ VRs φ' (f x H.length) cs ∧ Rel (Base.all w) φ' (H ++ g x H.length) w
def Flat (enc : TypeId × Value → H) (P : Program) (w : World) (t : TypeId) {α : Type} (f : α → List AV) (G : α → Prop) : Prop :=
  ∀ fuel cs d ps, DataW.trod enc P w 0 (fun _ => true) true fuel t cs = some (d, ps) → ∃ x : α, G x ∧ ∀ φ, VRs φ (f x) cs
variable {w : World} {t e : TypeId}
theorem Flat.opens {α : Type} {f : α → List AV} {G : α → Prop} (h : Flat enc P w t f G) : Opens enc P w t (fun x _ => f x) (fun _ _ => []) G := by
  intro fuel cs d ps hd
  obtain ⟨x, h1, h2⟩ := h fuel cs d ps hd
  exact ⟨x, h1, fun φ H hr => ⟨φ, Ext.refl _, h2 φ, by simpa using hr⟩⟩

theorem flat_int {k : IntKind} (ht : P.underlying t = some (.int k)) : Flat enc P w t (fun n : Int => [.int k n]) (fun n => (Lit.int k n).wf = true) := by
  intro fuel cs d ps hd
  cases fuel with
  | zero => simp [DataW.trod] at hd
  | succ fuel =>
    obtain ⟨n, h1, _, h3⟩ := DataW.trod_int ht hd
    subst h1
    exact ⟨n, h3, fun φ => .cons (.int _ _) .nil⟩
def packA (b : Bool) (l : List AV) : AV := if b then .agg l else l.headD .bad
theorem packA_ok {φ : List Loc} {r : Reach} {b0 : Nat} {b : Bool} {v : Value} {l : List AV} (hb : isAggP P t = some b) (hok : Value.okWide P w r b0 t v) (hv : VRs φ l v.cells.toList) : VR φ (packA b l) v := by
  unfold isAggP at hb
  unfold Value.okWide at hok
  split at hb
  · rename_i fs hu
    cases hb
    rw [hu] at hok
    obtain ⟨cs, rfl, _⟩ := hok
    exact .agg hv
  · rename_i n e hu
    cases hb
    rw [hu] at hok
    obtain ⟨cs, rfl, _⟩ := hok
    exact .agg hv
  · rename_i d hns hna hu
    cases hb
    rw [hu] at hok
    have hone : v.cells = #[v] := by
      cases v with
      | agg cs => cases d <;> simp_all [Cell.okWide, Cell.ok]
      | _ => rfl
    rw [hone] at hv
    cases hv with
    | cons h1 h2 => cases h2; exact h1
  · cases hb

def OpensArgs (enc : TypeId × Value → H) (P : Program) (w : World) (ts : List TypeId) {α : Type} (f : α → Nat → List AV) (g : α → Nat → List ABlk) (G : α → Prop) : Prop :=
  ∀ (b0 : Nat) vs ds ps, DataW.TrodAll enc P w 0 (fun _ => true) true ts vs ds ps → (∀ (j : Nat) (t : TypeId) (v : Value), ts[j]? = some t → vs[j]? = some v → Value.okWide P w .any b0 t v) →
    ∃ x : α, G x ∧ ∀ φ H, Rel (Base.all w) φ H w → ∃ φ', Ext φ φ' ∧ VRs φ' (f x H.length) vs ∧ Rel (Base.all w) φ' (H ++ g x H.length) w
theorem opensArgs_nil : OpensArgs enc P w [] (fun (_ : Unit) _ => []) (fun _ _ => []) (fun _ => True) := by
  intro b0 vs ds ps h _
  cases vs with
  | nil => exact ⟨(), trivial, fun φ H hr => ⟨φ, Ext.refl _, .nil, by simpa using hr⟩⟩
  | cons v vs => exact h.elim
theorem opensArgs_cons {ts : List TypeId} {α β : Type} {f1 : α → Nat → List AV} {g1 : α → Nat → List ABlk} {G1 : α → Prop} {f2 : β → Nat → List AV} {g2 : β → Nat → List ABlk} {G2 : β → Prop} {b : Bool}
    (hb : isAggP P t = some b) (h1 : Opens enc P w t f1 g1 G1) (h2 : OpensArgs enc P w ts f2 g2 G2) :
    OpensArgs enc P w (t :: ts) (fun (x : α × β) n => packA b (f1 x.1 n) :: f2 x.2 (n + (g1 x.1 n).length)) (fun x n => g1 x.1 n ++ g2 x.2 (n + (g1 x.1 n).length)) (fun x => G1 x.1 ∧ G2 x.2) := by
  intro b0 vs ds ps h hok
  cases vs with
  | nil => cases ds <;> exact h.elim
  | cons v vs =>
    cases ds with
    | nil => exact h.elim
    | cons d ds =>
      obtain ⟨p, q, ⟨fuel, hd⟩, hrest, _⟩ := h
      obtain ⟨x, hx, hxf⟩ := h1 fuel _ d p hd
      obtain ⟨y, hy, hyf⟩ := h2 b0 vs ds q hrest (fun j t v hj hv => hok (j + 1) t v (by simpa using hj) (by simpa using hv))
      refine ⟨(x, y), ⟨hx, hy⟩, fun φ H hr => ?_⟩
      obtain ⟨φ1, e1, v1, r1⟩ := hxf φ H hr
      obtain ⟨φ2, e2, v2, r2⟩ := hyf φ1 _ r1
      simp only [List.length_append] at v2 r2
      refine ⟨φ2, e1.trans e2, .cons ((packA_ok hb (hok 0 t v rfl rfl) v1).mono e2) v2, ?_⟩
      rw [List.append_assoc] at r2
      exact r2

theorem trodAll_keep {W W' : World} {sp : Nat → Bool} (hl : laidOutB P = true) : ∀ {ts : List TypeId} {vs : List Value} {ds : List (DataW H)} {ps : List MemPlace},
    (ts.all fun t => P.readableRec t && decide (t < P.types.size)) = true → DataW.TrodAll enc P W 0 (fun _ => true) true ts vs ds ps → Below W.heap.size W W' → (∀ p ∈ ps, p.block < W.heap.size) → (∀ p ∈ ps, sp p.block = true) →
    DataW.TrodAll enc P W' 0 sp true ts vs ds ps
  | [], [], [], _, _, h, _, _, _ => h
  | t :: ts, v :: vs, d :: ds, ps, hall, h, hb, hlt, hsp => by
    obtain ⟨p, q, h1, h2, rfl⟩ := h
    simp only [List.all_cons, Bool.and_eq_true, decide_eq_true_eq] at hall
    refine ⟨p, q, WideElems.Trod_stays hl hall.1.1 hall.1.2 h1 (fun x hx => hb.same (hlt x (by simp [hx]))) (fun x hx => hsp x (by simp [hx])), ?_, rfl⟩
    exact trodAll_keep hl (by simpa using hall.2) h2 hb (fun x hx => hlt x (by simp [hx])) (fun x hx => hsp x (by simp [hx]))
  | [], [], _ :: _, _, _, h, _, _, _ => h.elim
  | [], _ :: _, _, _, _, h, _, _, _ => h.elim
  | _ :: _, [], _, _, _, h, _, _, _ => h.elim
  | _ :: _, _ :: _, [], _, _, h, _, _, _ => h.elim

end
end Go.Ve

namespace Go.Ve
open Go Go.RowKit Go.WideShapes Go.ChangeShapes

section
variable {H : Type} {enc : TypeId × Value → H} {P : Program} {w : World} {t : TypeId}

def FlatFs (enc : TypeId × Value → H) (P : Program) (w : World) (off : Nat) (l : List Field) {α : Type} (f : α → List AV) (G : α → Prop) (total : Nat) : Prop :=
  ∀ fuel (cs : List Value) ds, cs.length = total → (l.mapM fun fd => DataW.trod enc P w 0 (fun _ => true) true fuel fd.type ((cs.drop fd.offset).take (P.cellsOf fd.type))) = some ds → ∃ x : α, G x ∧ ∀ φ, VRs φ (f x) (cs.drop off)
theorem flatFs_nil (n : Nat) : FlatFs enc P w n [] (fun _ : Unit => []) (fun _ => True) n := by
  intro fuel cs ds hl _
  refine ⟨(), trivial, fun φ => ?_⟩
  rw [List.drop_eq_nil_of_le (by omega)]
  exact .nil
theorem flatFs_cons {off n total : Nat} {fd : Field} {l : List Field} {α β : Type} {f1 : α → List AV} {G1 : α → Prop} {f2 : β → List AV} {G2 : β → Prop}
    (h1 : Flat enc P w fd.type f1 G1) (h2 : FlatFs enc P w (off + n) l f2 G2 total) (ho : fd.offset = off := by rfl) (hn : P.cellsOf fd.type = n := by kernel_rfl) :
    FlatFs enc P w off (fd :: l) (fun x : α × β => f1 x.1 ++ f2 x.2) (fun x => G1 x.1 ∧ G2 x.2) total := by
  intro fuel cs ds hl hd
  rw [List.mapM_cons] at hd
  cases ha : DataW.trod enc P w 0 (fun _ => true) true fuel fd.type ((cs.drop fd.offset).take (P.cellsOf fd.type)) with
  | none => rw [ha] at hd; cases hd
  | some y =>
    rw [ha] at hd
    cases hb : (l.mapM fun fd => DataW.trod enc P w 0 (fun _ => true) true fuel fd.type ((cs.drop fd.offset).take (P.cellsOf fd.type))) with
    | none => rw [hb] at hd; cases hd
    | some ys =>
      obtain ⟨x1, h3, h4⟩ := h1 _ _ _ _ ha
      obtain ⟨x2, h5, h6⟩ := h2 _ _ _ hl hb
      refine ⟨(x1, x2), ⟨h3, h5⟩, fun φ => ?_⟩
      have e : cs.drop off = (cs.drop off).take n ++ cs.drop (off + n) := by
        rw [← List.drop_drop]; exact (List.take_append_drop n _).symm
      rw [e]
      have h4 := h4 φ
      rw [ho, hn] at h4
      exact h4.append (h6 φ)
theorem flat_struct {fs : Array Field} {n : Nat} {α : Type} {f : α → List AV} {G : α → Prop} (ht : P.underlying t = some (.struct fs)) (h : FlatFs enc P w 0 fs.toList f G n) (hn : P.cellsOf t = n := by kernel_rfl) : Flat enc P w t f G := by
  intro fuel cs d ps hd
  cases fuel with
  | zero => simp [DataW.trod] at hd
  | succ fuel =>
    unfold DataW.trod at hd
    rw [ht] at hd
    simp only at hd
    split at hd
    · rename_i hl
      cases hm : (fs.toList.mapM fun f => DataW.trod enc P w 0 (fun _ => true) true fuel f.type ((cs.drop f.offset).take (P.cellsOf f.type))) with
      | none => rw [hm] at hd; cases hd
      | some xs =>
        obtain ⟨x, h1, h2⟩ := h fuel cs xs (by rw [hl, hn]) hm
        exact ⟨x, h1, fun φ => by simpa using h2 φ⟩
    · cases hd
end
end Go.Ve

namespace Go.Ve
open Go Go.RowKit

section
variable {E : Env}

def Grows (a b : CallF) : Prop := ∀ f args H r, a f args H = some r → b f args H = some r
theorem evOps_grows {P : Program} {a b : CallF} (h : Grows a b) {ops : Array Oper} : ∀ (l : List Oper) {fr : List AV} {H : AH} {lo : Nat} {r : List AV × AH × Nat}, evOps P a ops l fr H lo = some r → evOps P b ops l fr H lo = some r := by
  intro l
  induction l with
  | nil => intro fr H lo r hr; exact hr
  | cons o l ih =>
    intro fr H lo r hr
    simp only [evOps] at hr ⊢
    split at hr
    · cases hr
    · exact ih hr
    · split at hr
      · cases hr
      · exact ih hr
      · exact ih hr
      · rename_i f args hop
        split at hr
        · cases hr
        · rename_i v hc
          rw [h _ _ _ _ hc]
          exact ih hr
        · rename_i v H1 wr hc
          rw [h _ _ _ _ hc]
          exact ih hr
      · cases hr
theorem evQuiet_grows {P : Program} {a b : CallF} (h : Grows a b) {ops : Array Oper} : ∀ (l : List Oper) {fr : List AV} {H : AH} {r : List AV}, evQuiet P a ops l fr H = some r → evQuiet P b ops l fr H = some r := by
  intro l
  induction l with
  | nil => intro fr H r hr; exact hr
  | cons o l ih =>
    intro fr H r hr
    simp only [evQuiet] at hr ⊢
    split at hr
    · cases hr
    · exact ih hr
    · split at hr
      · split at hr
        · rename_i hd
          rw [if_pos hd]
          exact ih hr
        · cases hr
      · rename_i f args hop
        split at hr
        · rename_i v hc
          rw [h _ _ _ _ hc]
          split at hr
          · rename_i hd
            simp only [hd, if_true]
            exact ih hr
          · cases hr
        · cases hr
      · cases hr
theorem evQuiet_evOps {P : Program} {a : CallF} {ops : Array Oper} : ∀ (l : List Oper) {fr fr' : List AV} {H : AH} {lo : Nat}, evQuiet P a ops l fr H = some fr' → evOps P a ops l fr H lo = some (fr', H, lo) := by
  intro l
  induction l with
  | nil => intro fr fr' H lo h; simp only [evQuiet] at h; cases h; rfl
  | cons o l ih =>
    intro fr fr' H lo h
    simp only [evQuiet] at h
    simp only [evOps]
    split at h
    · cases h
    · exact ih h
    · split at h
      · rename_i v hop
        simp only [hop]
        split at h
        · exact ih h
        · cases h
      · rename_i f args hop
        simp only [hop]
        split at h
        · rename_i v hc
          simp only [hc]
          split at h
          · exact ih h
          · cases h
        · cases h
      · cases h
theorem evQuiet_append {P : Program} {a : CallF} {ops : Array Oper} : ∀ (l l2 : List Oper) {fr fr' : List AV} {H : AH}, evQuiet P a ops (l ++ l2) fr H = some fr' → ∃ fr1, evQuiet P a ops l fr H = some fr1 ∧ evQuiet P a ops l2 fr1 H = some fr' := by
  intro l
  induction l with
  | nil => intro l2 fr fr' H h; exact ⟨fr, rfl, h⟩
  | cons o l ih =>
    intro l2 fr fr' H h
    simp only [List.cons_append, evQuiet] at h
    simp only [evQuiet]
    split at h
    · cases h
    · exact ih l2 h
    · split at h
      · split at h
        · rename_i hd
          simp only [hd, if_true]
          exact ih l2 h
        · cases h
      · split at h
        · split at h
          · rename_i hd
            simp only [hd, if_true]
            exact ih l2 h
          · cases h
        · cases h
      · cases h
theorem genStep_grows {P : Program} {a b : CallF} (h : Grows a b) {ops : Array Oper} {hd : List Oper} {bs als : List Nat} {N0 i : Nat} {o : Oper} {fr : List AV} {H : AH} {r : Rec} (hr : genStep P a ops hd bs als N0 i o fr H = some r) : genStep P b ops hd bs als N0 i o fr H = some r := by
  unfold genStep at hr ⊢
  split at hr
  · cases hr
  · exact hr
  · unfold genOp at hr ⊢
    split at hr
    · exact hr
    · exact hr
    · split at hr
      · exact hr
      · exact hr
      · rename_i f args hop
        split at hr
        · rename_i v hc
          rw [h _ _ _ _ hc]
          exact hr
        · rename_i v H' lo hc
          rw [h _ _ _ _ hc]
          exact hr
        · cases hr
      · cases hr
theorem genLex_grows {P : Program} {a b : CallF} (h : Grows a b) {ops : Array Oper} {hd : List Oper} {bs als : List Nat} {N0 : Nat} : ∀ (l : List Oper) {i : Nat} {fr : List AV} {H : AH} {acc recs : List Rec}, genLex P a ops hd bs als N0 i l fr H acc = some recs → genLex P b ops hd bs als N0 i l fr H acc = some recs := by
  intro l
  induction l with
  | nil => intro i fr H acc recs hr; exact hr
  | cons o l ih =>
    intro i fr H acc recs hr
    simp only [genLex] at hr ⊢
    split at hr
    · cases hr
    · rename_i rc hs
      rw [genStep_grows h hs]
      exact ih hr
theorem evGen_grows {P : Program} {a b : CallF} (h : Grows a b) {ops : Array Oper} {n : Nat} {fr : List AV} {H : AH} {lo : Nat} {r : List AV × AH × Nat} (hr : evGen P a ops n fr H lo = some r) : evGen P b ops n fr H lo = some r := by
  unfold evGen at hr ⊢
  split at hr
  · rename_i hg
    rw [if_pos hg]
    split at hr
    · cases hr
    · rename_i recs hl
      rw [genLex_grows h _ hl]
      simp only
      split at hr
      · rename_i hk
        rw [if_pos hk]
        exact evOps_grows h _ hr
      · cases hr
  · cases hr
theorem evDraw_of_tail {P : Program} {b : CallF} {ops : Array Oper} {fr fr1 : List AV} {H : AH} {lo : Nat} {r : List AV × AH × Nat} {k : Nat} (hk : tailQ ops = some k) (h1 : evQuiet P b ops (ops.toList.take k) fr H = some fr1) (h2 : evOps P b ops (ops.toList.drop k) fr1 H lo = some r) : evDraw0 P b ops fr H lo = some r := by
  unfold evDraw0
  split
  · rename_i fr' hq'
    split at hq'
    · rw [← List.take_append_drop k ops.toList] at hq'
      obtain ⟨fr2, h3, h4⟩ := evQuiet_append _ _ hq'
      rw [h1] at h3
      cases h3
      rw [evQuiet_evOps _ h4] at h2
      exact h2
    · cases hq'
  · simp only [hk, h1]
    exact h2
theorem evDraw0_grows {P : Program} {a b : CallF} (h : Grows a b) {ops : Array Oper} {fr : List AV} {H : AH} {lo : Nat} {r : List AV × AH × Nat} (hr : evDraw0 P a ops fr H lo = some r) : evDraw0 P b ops fr H lo = some r := by
  unfold evDraw0 at hr
  split at hr
  · rename_i fr' hq
    split at hq
    · rename_i hl
      unfold evDraw0
      rw [if_pos hl, evQuiet_grows h _ hq]
      exact hr
    · cases hq
  · split at hr
    · rename_i hk
      split at hr
      · cases hr
      · rename_i hs
        unfold evDraw0
        rw [if_neg hs]
        simp only [hk]
        rw [if_neg hs]
        exact evGen_grows h hr
    · rename_i k hk
      split at hr
      · cases hr
      · rename_i fr1 hq
        exact evDraw_of_tail hk (evQuiet_grows h _ hq) (evOps_grows h _ hr)
theorem evDraw_grows {P : Program} {a b : CallF} (h : Grows a b) {ops : Array Oper} {fr : List AV} {H : AH} {lo : Nat} {r : List AV × AH × Nat} (hr : evDraw P a ops fr H lo = some r) : evDraw P b ops fr H lo = some r := by
  unfold evDraw at hr ⊢
  split at hr
  · rename_i hn
    rw [if_pos hn]; exact evGen_grows h hr
  · rename_i hn
    rw [if_neg hn]; exact evDraw0_grows h hr
theorem evCall_grows {rec rec' : Code → List AV → AH → Nat → Option (AEx × List AV × AH × Nat)} (h : ∀ c fr H lo r, rec c fr H lo = some r → rec' c fr H lo = some r) : Grows (evCall E rec) (evCall E rec') := by
  intro f args H r hr
  unfold evCall at hr ⊢
  split at hr
  · rename_i r0 ho
    exact hr
  · split at hr
    · cases hr
    · rename_i fn hf
      split at hr
      · cases hr
      · rename_i c hb
        split at hr
        · cases hr
        · rename_i ex fr H' lo hne hrec
          rw [h _ _ _ _ _ hrec]
          split at hr
          · rename_i vs hvs
            cases ex with
            | exit id => first | exact (hne _ rfl).elim | exact (hne _ _ rfl).elim
            | normal => simp only [hvs]; exact hr
            | ret => simp only [hvs]; exact hr
          · cases hr
        · cases hr
theorem ev_succ : ∀ n c fr H lo r, ev E n c fr H lo = some r → ev E (n + 1) c fr H lo = some r := by
  intro n
  induction n with
  | zero => intro c fr H lo r h; simp [ev] at h
  | succ n ih =>
    intro c fr H lo r h
    have hg := evCall_grows (E := E) ih
    cases c with
    | skip => exact h
    | label l => exact h
    | exit id => exact h
    | ret => exact h
    | rangeFunc f ps as b => simp [ev] at h
    | goto l => simp [ev] at h
    | refuse why => simp [ev] at h
    | region id ops draw =>
      cases draw with
      | false =>
        rw [ev] at h ⊢
        split at h
        · rename_i fr1 H1 lo1 he
          rw [evOps_grows hg _ he]
          exact h
        · cases h
      | true =>
        rw [ev] at h ⊢
        split at h
        · rename_i fr1 H1 lo1 he
          rw [evDraw_grows hg he]
          exact h
        · cases h
    | seq a b =>
      rw [ev] at h ⊢
      split at h
      · rename_i fr1 H1 lo1 he
        rw [ih _ _ _ _ _ he]
        exact ih _ _ _ _ _ h
      · rename_i hne
        rw [ih _ _ _ _ _ h]
        obtain ⟨ex, fr1, H1, lo1⟩ := r
        cases ex with
        | normal => exact absurd h (hne _ _ _)
        | exit id => rfl
        | ret => rfl
    | cond c x y =>
      rw [ev] at h ⊢
      split at h
      · exact ih _ _ _ _ _ h
      · exact ih _ _ _ _ _ h
      · cases h
    | block id b =>
      rw [ev] at h ⊢
      split at h
      · rename_i i fr1 H1 lo1 he
        rw [ih _ _ _ _ _ he]
        exact h
      · rename_i hne
        rw [ih _ _ _ _ _ h]
        obtain ⟨ex, fr1, H1, lo1⟩ := r
        cases ex with
        | normal => rfl
        | exit id => exact absurd h (hne _ _ _ _)
        | ret => rfl
    | loop b =>
      rw [ev] at h ⊢
      split at h
      · rename_i fr1 H1 lo1 he
        rw [ih _ _ _ _ _ he]
        exact ih _ _ _ _ _ h
      · rename_i hne
        rw [ih _ _ _ _ _ h]
        obtain ⟨ex, fr1, H1, lo1⟩ := r
        cases ex with
        | normal => exact absurd h (hne _ _ _)
        | exit id => rfl
        | ret => rfl
    | scope b =>
      rw [ev] at h ⊢
      exact ih _ _ _ _ _ h
theorem ev_le {n m : Nat} (hnm : n ≤ m) {c : Code} {fr : List AV} {H : AH} {lo : Nat} {r : AEx × List AV × AH × Nat} (h : ev E n c fr H lo = some r) : ev E m c fr H lo = some r := by
  induction hnm with
  | refl => exact h
  | step _ ih => exact ev_succ _ _ _ _ _ _ ih

abbrev Post := AEx → List AV → AH → Nat → Prop
def WP (E : Env) (c : Code) (fr : List AV) (H : AH) (lo : Nat) (Q : Post) : Prop :=
  ∃ n ex fr' H' lo', ev E n c fr H lo = some (ex, fr', H', lo') ∧ Q ex fr' H' lo'
def CW (E : Env) (f : FuncId) (args : List AV) (H : AH) (K : AV → Option (AH × Nat) → Prop) : Prop :=
  ∃ n v ch, evCall E (ev E n) f args H = some (v, ch) ∧ K v ch
theorem CW.le {f : FuncId} {args : List AV} {H : AH} {n m : Nat} (hnm : n ≤ m) {r : AV × Option (AH × Nat)} (h : evCall E (ev E n) f args H = some r) : evCall E (ev E m) f args H = some r :=
  evCall_grows (fun _ _ _ _ _ => ev_le hnm) _ _ _ _ h

theorem WP.mono {c : Code} {fr : List AV} {H : AH} {lo : Nat} {Q Q' : Post} (h : WP E c fr H lo Q) (hq : ∀ ex fr H lo, Q ex fr H lo → Q' ex fr H lo) : WP E c fr H lo Q' := by
  obtain ⟨n, ex, fr', H', lo', h1, h2⟩ := h
  exact ⟨n, ex, fr', H', lo', h1, hq _ _ _ _ h2⟩
def thenQ (K : List AV → AH → Nat → Prop) (Q : Post) : Post
  | .normal, fr, H, lo => K fr H lo
  | e, fr, H, lo => Q e fr H lo
theorem WP.seq {a b : Code} {fr : List AV} {H : AH} {lo : Nat} {Q : Post} (h : WP E a fr H lo (thenQ (fun fr H lo => WP E b fr H lo Q) Q)) : WP E (.seq a b) fr H lo Q := by
  obtain ⟨n, ex, fr1, H1, lo1, h1, h2⟩ := h
  cases ex with
  | normal =>
    obtain ⟨m, ex2, fr2, H2, lo2, h3, h4⟩ := h2
    refine ⟨max n m + 1, ex2, fr2, H2, lo2, ?_, h4⟩
    rw [ev, ev_le (Nat.le_max_left n m) h1]
    exact ev_le (Nat.le_max_right n m) h3
  | exit id => exact ⟨n + 1, .exit id, fr1, H1, lo1, by rw [ev, h1], h2⟩
  | ret => exact ⟨n + 1, .ret, fr1, H1, lo1, by rw [ev, h1], h2⟩
theorem WP.loop {b : Code} {fr : List AV} {H : AH} {lo : Nat} {Q : Post} (h : WP E b fr H lo (thenQ (fun fr H lo => WP E (.loop b) fr H lo Q) Q)) : WP E (.loop b) fr H lo Q := by
  obtain ⟨n, ex, fr1, H1, lo1, h1, h2⟩ := h
  cases ex with
  | normal =>
    obtain ⟨m, ex2, fr2, H2, lo2, h3, h4⟩ := h2
    refine ⟨max n m + 1, ex2, fr2, H2, lo2, ?_, h4⟩
    rw [ev, ev_le (Nat.le_max_left n m) h1]
    exact ev_le (Nat.le_max_right n m) h3
  | exit id => exact ⟨n + 1, .exit id, fr1, H1, lo1, by rw [ev, h1], h2⟩
  | ret => exact ⟨n + 1, .ret, fr1, H1, lo1, by rw [ev, h1], h2⟩
theorem thenQ.ret {K : List AV → AH → Nat → Prop} {Q : Post} {fr : List AV} {H : AH} {lo : Nat} (h : Q .ret fr H lo) : thenQ K Q .ret fr H lo := h
theorem thenQ.exit {K : List AV → AH → Nat → Prop} {Q : Post} {fr : List AV} {H : AH} {lo i : Nat} (h : Q (.exit i) fr H lo) : thenQ K Q (.exit i) fr H lo := h
def blockQ (id : Nat) (Q : Post) : Post
  | .exit i, fr, H, lo => if i = id then Q .normal fr H lo else Q (.exit i) fr H lo
  | e, fr, H, lo => Q e fr H lo
theorem blockQ.ret {id : Nat} {Q : Post} {fr : List AV} {H : AH} {lo : Nat} (h : Q .ret fr H lo) : blockQ id Q .ret fr H lo := h
theorem blockQ.here {id : Nat} {Q : Post} {fr : List AV} {H : AH} {lo : Nat} (h : Q .normal fr H lo) : blockQ id Q (.exit id) fr H lo := by
  simp only [blockQ, if_true]; exact h
theorem blockQ.on {id i : Nat} {Q : Post} {fr : List AV} {H : AH} {lo : Nat} (hi : (i == id) = false) (h : Q (.exit i) fr H lo) : blockQ id Q (.exit i) fr H lo := by
  have : ¬ i = id := by simpa using hi
  simp only [blockQ, if_neg this]; exact h
theorem WP.block {id : Nat} {b : Code} {fr : List AV} {H : AH} {lo : Nat} {Q : Post} (h : WP E b fr H lo (blockQ id Q)) : WP E (.block id b) fr H lo Q := by
  obtain ⟨n, ex, fr1, H1, lo1, h1, h2⟩ := h
  cases ex with
  | normal => exact ⟨n + 1, .normal, fr1, H1, lo1, by rw [ev, h1], h2⟩
  | exit i =>
    simp only [blockQ] at h2
    by_cases hi : i = id
    · rw [if_pos hi] at h2
      exact ⟨n + 1, .normal, fr1, H1, lo1, by rw [ev, h1]; simp [hi], h2⟩
    · rw [if_neg hi] at h2
      exact ⟨n + 1, .exit i, fr1, H1, lo1, by rw [ev, h1]; simp [hi], h2⟩
  | ret => exact ⟨n + 1, .ret, fr1, H1, lo1, by rw [ev, h1], h2⟩
theorem WP.scope {b : Code} {fr : List AV} {H : AH} {lo : Nat} {Q : Post} (h : WP E b fr H lo Q) : WP E (.scope b) fr H lo Q := by
  obtain ⟨n, ex, fr1, H1, lo1, h1, h2⟩ := h
  exact ⟨n + 1, ex, fr1, H1, lo1, by rw [ev, h1], h2⟩
theorem WP.here {c : Code} {fr : List AV} {H : AH} {lo : Nat} {Q : Post} {ex : AEx} (hc : ∀ n, ev E (n + 1) c fr H lo = some (ex, fr, H, lo)) (h : Q ex fr H lo) : WP E c fr H lo Q := ⟨1, ex, fr, H, lo, hc 0, h⟩

def opsW (E : Env) (q : Bool) (ops : Array Oper) : List Oper → List AV → AH → Nat → (List AV → AH → Nat → Prop) → Prop
  | [], fr, H, lo, K => K fr H lo
  | o :: r, fr, H, lo, K =>
    match awanted ops o fr with
    | none => False
    | some w =>
      (w = false → opsW E q ops r (aput fr o.dst (.tuple [])) H lo K) ∧
      (w = true →
        ∃ ao, aop E.P o (aeval fr) H = some ao ∧
          match ao with
          | .val v none => (q = true → v.det = true) ∧ opsW E q ops r (aput fr o.dst v) H lo K
          | .val v (some (H', wr)) => q = false ∧ opsW E q ops r (aput fr o.dst v) H' (min lo wr) K
          | .call f args => CW E f args H fun v ch =>
              match ch with
              | none => (q = true → v.det = true) ∧ opsW E q ops r (aput fr o.dst v) H lo K
              | some (H', wr) => q = false ∧ opsW E q ops r (aput fr o.dst v) H' (min lo wr) K
          | .round .. => False)
theorem opsW_ok {ops : Array Oper} : ∀ (l : List Oper) {fr : List AV} {H : AH} {lo : Nat} {K : List AV → AH → Nat → Prop}, opsW E false ops l fr H lo K → ∃ n fr' H' lo', evOps E.P (evCall E (ev E n)) ops l fr H lo = some (fr', H', lo') ∧ K fr' H' lo' := by
  intro l
  induction l with
  | nil => intro fr H lo K h; exact ⟨0, fr, H, lo, rfl, h⟩
  | cons o l ih =>
    intro fr H lo K h
    simp only [opsW] at h
    simp only [evOps]
    split at h
    · exact h.elim
    · rename_i w hw
      rw [hw]
      cases w with
      | false => exact ih (h.1 rfl)
      | true =>
        obtain ⟨ao, h1, h2⟩ := h.2 rfl
        simp only [h1]
        cases ao with
        | val v ch =>
          cases ch with
          | none => exact ih h2.2
          | some c => obtain ⟨H', wr⟩ := c; exact ih h2.2
        | call f args =>
          obtain ⟨n, v, ch, h3, h4⟩ := h2
          cases ch with
          | none =>
            obtain ⟨m, fr', H', lo', h5, h6⟩ := ih h4.2
            refine ⟨max n m, fr', H', lo', ?_, h6⟩
            simp only [CW.le (Nat.le_max_left n m) h3]
            exact evOps_grows (evCall_grows fun _ _ _ _ _ => ev_le (Nat.le_max_right n m)) _ h5
          | some c =>
            obtain ⟨H1, wr⟩ := c
            obtain ⟨m, fr', H', lo', h5, h6⟩ := ih h4.2
            refine ⟨max n m, fr', H', lo', ?_, h6⟩
            simp only [CW.le (Nat.le_max_left n m) h3]
            exact evOps_grows (evCall_grows fun _ _ _ _ _ => ev_le (Nat.le_max_right n m)) _ h5
        | round b f as bd => exact h2.elim
theorem WP.region {id : Nat} {ops : Array Oper} {fr : List AV} {H : AH} {lo : Nat} {Q : Post} (h : opsW E false ops ops.toList fr H lo (Q .normal)) : WP E (.region id ops false) fr H lo Q := by
  obtain ⟨n, fr', H', lo', h1, h2⟩ := opsW_ok _ h
  exact ⟨n + 1, .normal, fr', H', lo', by rw [ev, h1], h2⟩
def RetQ (E : Env) (fn : Func) (n : Nat) (K : AV → Option (AH × Nat) → Prop) : Post := fun ex fr H' lo =>
  (∀ id, ex ≠ .exit id) ∧ ∃ vs, aresults E.P fr H' fn.results.toList = some vs ∧
    ((lo = n ∧ (oneOf vs).flat = true → K (oneOf vs) none) ∧ (¬ (lo = n ∧ (oneOf vs).flat = true) → K (oneOf vs) (some (H', lo))))
theorem CW.body {f : FuncId} {fn : Func} {c : Code} {args : List AV} {H : AH} {K : AV → Option (AH × Nat) → Prop} (ho : E.orc f args H = none) (hf : E.P.funcs[f]? = some fn) (hb : fn.body = some c) {m : Nat} (hm : fn.ntmps = m)
    {fr0 : List AV} (h : WP E c fr0 H H.length (RetQ E fn H.length K))
    (hfr : args ++ List.replicate (m - args.length) (.tuple []) = fr0 := by simp only [List.length_cons, List.length_nil, Nat.reduceAdd, Nat.reduceSub, List.replicate, List.cons_append, List.nil_append, List.append_nil]; rfl) : CW E f args H K := by
  subst hfr; subst hm
  obtain ⟨n, ex, fr, H', lo, h1, hne, vs, h2, h3⟩ := h
  have key : evCall E (ev E n) f args H = if lo = H.length ∧ (oneOf vs).flat = true then some (oneOf vs, none) else some (oneOf vs, some (H', lo)) := by
    unfold evCall
    simp only [ho, hf, hb, h1]
    cases ex with
    | normal => simp only [h2]
    | ret => simp only [h2]
    | exit id => exact absurd rfl (hne id)
  by_cases hc : lo = H.length ∧ (oneOf vs).flat = true
  · rw [if_pos hc] at key
    exact ⟨n, _, _, key, h3.1 hc⟩
  · rw [if_neg hc] at key
    exact ⟨n, _, _, key, h3.2 hc⟩
theorem CW.orc {f : FuncId} {args : List AV} {H : AH} {K : AV → Option (AH × Nat) → Prop} {v : AV} {ch : Option (AH × Nat)} (ho : E.orc f args H = some (v, ch)) (h : K v ch) : CW E f args H K :=
  ⟨0, v, ch, by simp only [evCall, ho], h⟩

section steps
variable {q : Bool} {ops : Array Oper} {o : Oper} {r : List Oper} {fr : List AV} {H : AH} {lo : Nat} {K : List AV → AH → Nat → Prop}
theorem opsW.done (h : K fr H lo) : opsW E q ops [] fr H lo K := h
theorem opsW.skip (hw : awanted ops o fr = some false) {fr' : List AV} (h : opsW E q ops r fr' H lo K) (hfr : aput fr o.dst (.tuple []) = fr' := by simp only [aput, List.set_cons_succ, List.set_cons_zero]; rfl) : opsW E q ops (o :: r) fr H lo K := by
  subst hfr
  rw [opsW, hw]
  exact ⟨fun _ => h, nofun⟩
theorem opsW.val (hw : awanted ops o fr = some true) {v : AV} (ha : aop E.P o (aeval fr) H = some (.val v none)) {fr' : List AV} (h : opsW E q ops r fr' H lo K) (hfr : aput fr o.dst v = fr' := by simp only [aput, List.set_cons_succ, List.set_cons_zero]; rfl) (hq : q = true → v.det = true := by first | exact fun h => Bool.noConfusion h | exact fun _ => rfl) : opsW E q ops (o :: r) fr H lo K := by
  subst hfr
  rw [opsW, hw]
  exact ⟨nofun, fun _ => ⟨_, ha, hq, h⟩⟩
theorem opsW.call (hw : awanted ops o fr = some true) {f : FuncId} {args : List AV} (ha : aop E.P o (aeval fr) H = some (.call f args))
    (h : CW E f args H fun v ch => match ch with | none => (q = true → v.det = true) ∧ opsW E q ops r (aput fr o.dst v) H lo K | some (H', wr) => q = false ∧ opsW E q ops r (aput fr o.dst v) H' (min lo wr) K) : opsW E q ops (o :: r) fr H lo K := by
  rw [opsW, hw]
  exact ⟨nofun, fun _ => ⟨_, ha, h⟩⟩
theorem WP.cond_true {c : Operand} {x y : Code} {Q : Post} (hc : aeval fr c = .bool true) (h : WP E x fr H lo Q) : WP E (.cond c x y) fr H lo Q := by
  obtain ⟨n, ex, fr1, H1, lo1, h1, h2⟩ := h
  exact ⟨n + 1, ex, fr1, H1, lo1, by rw [ev, hc]; exact h1, h2⟩
theorem WP.cond_false {c : Operand} {x y : Code} {Q : Post} (hc : aeval fr c = .bool false) (h : WP E y fr H lo Q) : WP E (.cond c x y) fr H lo Q := by
  obtain ⟨n, ex, fr1, H1, lo1, h1, h2⟩ := h
  exact ⟨n + 1, ex, fr1, H1, lo1, by rw [ev, hc]; exact h1, h2⟩
theorem WP.cond {c : Operand} {x y : Code} {Q : Post} {t : Bool} (hc : aeval fr c = .bool t) (h1 : t = true → WP E x fr H lo Q) (h2 : t = false → WP E y fr H lo Q) : WP E (.cond c x y) fr H lo Q := by
  cases t with
  | true => exact WP.cond_true hc (h1 rfl)
  | false => exact WP.cond_false hc (h2 rfl)
theorem WP.skip {Q : Post} (h : Q .normal fr H lo) : WP E .skip fr H lo Q := WP.here (fun _ => rfl) h
theorem WP.label {l : Nat} {Q : Post} (h : Q .normal fr H lo) : WP E (.label l) fr H lo Q := WP.here (fun _ => rfl) h
theorem WP.exit {id : Nat} {Q : Post} (h : Q (.exit id) fr H lo) : WP E (.exit id) fr H lo Q := WP.here (fun _ => rfl) h
theorem WP.ret {Q : Post} (h : Q .ret fr H lo) : WP E .ret fr H lo Q := WP.here (fun _ => rfl) h
end steps

end
end Go.Ve

namespace Go.Ve
open Go Go.RowKit

section
variable {α β : Type}
noncomputable def lenR (l : List α) : Nat := List.rec (motive := fun _ => Nat → Nat) (fun n => n) (fun _ _ ih n => ih (Nat.succ n)) l 0
inductive Tr (α : Type) where
  | leaf
  | node (v : α) (l r : Tr α)
noncomputable def Tr.get (t : Tr α) (n : Nat) : Option α :=
  Tr.rec (motive := fun _ => Nat → Option α) (fun _ => none) (fun v _ _ gl gr n => Nat.rec (motive := fun _ => Option α) (some v) (fun m _ => Bool.rec (motive := fun _ => Option α) (gr (Nat.div m 2)) (gl (Nat.div m 2)) (Nat.beq (Nat.mod m 2) 0)) n) t n
noncomputable def Tr.set (t : Tr α) (n : Nat) (x : α) (k : Tr α → β) : β :=
  Tr.rec (motive := fun _ => Nat → (Tr α → β) → β) (fun _ k => k .leaf) (fun v l r sl sr n k => Nat.rec (motive := fun _ => β) (k (.node x l r)) (fun m _ => Bool.rec (motive := fun _ => β) (sr (Nat.div m 2) fun r => k (.node v l r)) (sl (Nat.div m 2) fun l => k (.node v l r)) (Nat.beq (Nat.mod m 2) 0)) n) t n k
noncomputable def Tr.put (t : Tr α) (n : Nat) (x : α) : Tr α := t.set n x fun t => t
theorem Tr.set_eq (t : Tr α) : ∀ {β : Type} (n : Nat) (x : α) (k : Tr α → β), t.set n x k = k (t.put n x) := by
  induction t with
  | leaf => intro β n x k; rfl
  | node v l r ihl ihr =>
    intro β n x k
    cases n with
    | zero => rfl
    | succ m =>
      show Bool.rec (motive := fun _ => β) (r.set (Nat.div m 2) x fun r => k (.node v l r)) (l.set (Nat.div m 2) x fun l => k (.node v l r)) (Nat.beq (Nat.mod m 2) 0) = k (Bool.rec (motive := fun _ => Tr α) (r.set (Nat.div m 2) x fun r => .node v l r) (l.set (Nat.div m 2) x fun l => .node v l r) (Nat.beq (Nat.mod m 2) 0))
      cases Nat.beq (Nat.mod m 2) 0 with
      | true => show l.set _ x _ = k (l.set _ x _); rw [ihl, ihl (β := Tr α)]
      | false => show r.set _ x _ = k (r.set _ x _); rw [ihr, ihr (β := Tr α)]
theorem Tr.get_node (v : α) (l r : Tr α) (m : Nat) : (Tr.node v l r).get (m + 1) = if Nat.beq (Nat.mod m 2) 0 = true then l.get (Nat.div m 2) else r.get (Nat.div m 2) := by
  show Bool.rec (motive := fun _ => Option α) (r.get (Nat.div m 2)) (l.get (Nat.div m 2)) (Nat.beq (Nat.mod m 2) 0) = _
  cases Nat.beq (Nat.mod m 2) 0 <;> rfl
theorem Tr.put_node (v x : α) (l r : Tr α) (m : Nat) : (Tr.node v l r).put (m + 1) x = if Nat.beq (Nat.mod m 2) 0 = true then .node v (l.put (Nat.div m 2) x) r else .node v l (r.put (Nat.div m 2) x) := by
  show Bool.rec (motive := fun _ => Tr α) (r.set (Nat.div m 2) x fun r => .node v l r) (l.set (Nat.div m 2) x fun l => .node v l r) (Nat.beq (Nat.mod m 2) 0) = _
  cases Nat.beq (Nat.mod m 2) 0 with
  | true => show l.set _ x _ = _; rw [Tr.set_eq]; rfl
  | false => show r.set _ x _ = _; rw [Tr.set_eq]; rfl
theorem Tr.get_put (t : Tr α) : ∀ (n i : Nat) (x : α), (t.put n x).get i = if i = n then (t.get n).map (fun _ => x) else t.get i := by
  induction t with
  | leaf => intro n i x; show none = _; split <;> rfl
  | node v l r ihl ihr =>
    intro n i x
    cases n with
    | zero =>
      show (Tr.node x l r).get i = _
      cases i with
      | zero => rfl
      | succ j => rw [if_neg (by omega), Tr.get_node, Tr.get_node]
    | succ m =>
      rw [Tr.put_node]
      have hm : m % 2 = Nat.mod m 2 := rfl
      have hd : m / 2 = Nat.div m 2 := rfl
      cases i with
      | zero => rw [if_neg (show ¬ (0 = m + 1) by simp)]; split <;> rfl
      | succ j =>
        have hj : j % 2 = Nat.mod j 2 := rfl
        have hjd : j / 2 = Nat.div j 2 := rfl
        rw [Tr.get_node v l r j, Tr.get_node v l r m]
        by_cases hp : Nat.beq (Nat.mod m 2) 0 = true
        · rw [if_pos hp, if_pos hp, Tr.get_node]
          by_cases hq : Nat.beq (Nat.mod j 2) 0 = true
          · rw [if_pos hq, if_pos hq, ihl]
            have h1 := Nat.eq_of_beq_eq_true hp
            have h2 := Nat.eq_of_beq_eq_true hq
            by_cases e : j + 1 = m + 1
            · have : j = m := by omega
              subst this; simp
            · rw [if_neg e, if_neg (by omega)]
          · rw [if_neg hq, if_neg hq]
            rw [if_neg (fun e : j + 1 = m + 1 => hq (by have : j = m := by omega
                                                        subst this; exact hp))]
        · rw [if_neg hp, if_neg hp, Tr.get_node]
          by_cases hq : Nat.beq (Nat.mod j 2) 0 = true
          · rw [if_pos hq, if_pos hq]
            rw [if_neg (fun e : j + 1 = m + 1 => hp (by have : j = m := by omega
                                                        subst this; exact hq))]
          · rw [if_neg hq, if_neg hq, ihr]
            have h1 : m % 2 = 1 := by
              have : ¬ m % 2 = 0 := fun e => hp (by rw [← hm, e]; rfl)
              omega
            have h2 : j % 2 = 1 := by
              have : ¬ j % 2 = 0 := fun e => hq (by rw [← hj, e]; rfl)
              omega
            by_cases e : j + 1 = m + 1
            · have : j = m := by omega
              subst this; simp
            · rw [if_neg e, if_neg (by omega)]
noncomputable def Tr.mk (x : α) (d n : Nat) : Tr α :=
  Nat.rec (motive := fun _ => Nat → Tr α) (fun _ => .leaf) (fun _ ih n => Nat.rec (motive := fun _ => Tr α) .leaf (fun m _ => .node x (ih (Nat.div (Nat.succ m) 2)) (ih (Nat.div m 2))) n) d n
def Rep (t : Tr α) (fr : List α) : Prop := ∀ i, t.get i = fr[i]?
def Shr (t t' : Tr α) : Prop := ∀ i, t.get i = none → t'.get i = none
theorem Shr.refl (t : Tr α) : Shr t t := fun _ h => h
theorem Shr.trans {a b c : Tr α} (h : Shr a b) (k : Shr b c) : Shr a c := fun i hi => k i (h i hi)
theorem Shr.put (t : Tr α) (n : Nat) (x : α) : Shr t (t.put n x) := by
  intro i hi
  rw [Tr.get_put]
  split
  · rename_i e; subst e; rw [hi]; rfl
  · exact hi
def Bound (t : Tr α) (nt : Nat) : Prop := ∀ i, nt ≤ i → t.get i = none
theorem Bound.le {t : Tr α} {fr : List α} {nt : Nat} (h : Bound t nt) (hr : Rep t fr) : fr.length ≤ nt := by
  have := (hr nt).symm.trans (h nt (Nat.le_refl _))
  exact List.getElem?_eq_none_iff.1 this
theorem Rep.put {t : Tr α} {fr : List α} (h : Rep t fr) (n : Nat) (x : α) : Rep (t.put n x) (fr.set n x) := by
  intro i
  rw [Tr.get_put, List.getElem?_set]
  by_cases e : i = n
  · subst e
    rw [if_pos rfl, if_pos rfl, h i]
    by_cases hi : i < fr.length
    · rw [if_pos hi, List.getElem?_eq_getElem hi]; rfl
    · rw [if_neg hi, List.getElem?_eq_none (by omega)]; rfl
  · rw [if_neg e, if_neg (Ne.symm e), h i]
noncomputable def Tr.sets (t : Tr α) (xs : List α) (i : Nat) (k : Tr α → β) : β :=
  List.rec (motive := fun _ => Tr α → Nat → β) (fun t _ => k t) (fun x _ ih t i => t.set i x fun t => ih t (Nat.succ i)) xs t i
end

section
variable {β : Type}
end
theorem pureRun_bind {α β : Type} (P : Program) : ∀ (s : Sem α) (f : α → Sem β) {a : α}, pureRun P s = some a → pureRun P (s >>= f) = pureRun P (f a) := by
  intro s
  induction s with
  | pure b => intro f a h; simp [pureRun] at h; subst h; rfl
  | program k ih => intro f a h; simp only [pureRun] at h; exact ih P f h
  | mark m k ih => intro f a h; simp only [pureRun] at h; exact ih f h
  | _ => intro f a h; simp [pureRun] at h
theorem pureRun_underlying {P : Program} {t : TypeId} {d : TypeDesc} (h : P.underlying t = some d) : pureRun P (underlying t) = some d := by
  have e : pureRun P (underlying t) = pureRun P (match P.underlying t with | some d => pure d | none => stuck "no such type") := rfl
  rw [e, h]; rfl
theorem pureRun_int {P : Program} {s d : TypeId} {ds : TypeDesc} {k0 k : IntKind} {n : Int} (hs : P.underlying s = some ds) (hd : P.underlying d = some (.int k)) : pureRun P (convert s d (.int k0 n)) = some (.int k (k.wrap n)) := by
  unfold convert
  rw [pureRun_bind P _ _ (pureRun_underlying hs), pureRun_bind P _ _ (pureRun_underlying hd)]
  rfl
def kidx : IntKind → Nat
  | .i8 => 0 | .i16 => 1 | .i32 => 2 | .i64 => 3 | .u8 => 4 | .u16 => 5 | .u32 => 6 | .u64 => 7
theorem kidx_inj {k k' : IntKind} (h : Nat.beq (kidx k) (kidx k') = true) : k = k' := by
  cases k <;> cases k' <;> first | rfl | (exact absurd h (by decide))
def ltI (a b : Int) : Bool :=
  match a, b with
  | .ofNat m, .ofNat n => Nat.ble (Nat.succ m) n
  | .negSucc _, .ofNat _ => true
  | .ofNat _, .negSucc _ => false
  | .negSucc m, .negSucc n => Nat.ble (Nat.succ n) m
theorem ltI_eq (a b : Int) : ltI a b = decide (a < b) := by
  have key : ∀ {p : Bool} {q : Prop} [Decidable q], (p = true ↔ q) → p = decide q := fun {p q _} h => by cases p <;> simp_all
  apply key
  cases a <;> cases b <;> simp [ltI, Nat.ble_eq] <;> omega
def eqI (a b : Int) : Bool :=
  match a, b with
  | .ofNat m, .ofNat n => Nat.beq m n
  | .negSucc m, .negSucc n => Nat.beq m n
  | _, _ => false
theorem eqI_eq (a b : Int) : eqI a b = decide (a = b) := by
  have key : ∀ {p : Bool} {q : Prop} [Decidable q], (p = true ↔ q) → p = decide q := fun {p q _} h => by cases p <;> simp_all
  apply key
  cases a <;> cases b <;> simp [eqI] <;> omega
noncomputable def Tr.ofL (fr : List AV) : Tr AV := (Tr.mk (.tuple []) 16 (lenR fr)).sets fr 0 fun t => t
end Go.Ve

namespace Go.Ve
open Go Go.RowKit

structure Ent where
  f : FuncId
  args : List AV
  v : AV
end Go.Ve

namespace Go.Ve
open Go Go.RowKit

inductive Mode where
  | dyn
  | gen (n : Nat)
  | chain (hms ums : List Nat)
abbrev RM := List (Nat × Mode)
abbrev VM := List (Nat × RM)
section scope
variable {F : Fence} {n : Nat} {P : Program} {Q : Exit → Act → World → Prop} {a : Act} {w : World}
theorem stepR_scope {b : Frame} {k : List Item} {cs : List Frame} {c : Code} : step P (lone (b.atR a (.code (.scope c) :: k)) cs w) = .next (lone (b.atR a (.code c :: .inScope c :: k)) cs w) :=
  step_lone_go (by simp [stepG, stepG.exec, Frame.atR])
theorem stepR_inScope {b : Frame} {k : List Item} {cs : List Frame} {c : Code} : step P (lone (b.atR a (.inScope c :: k)) cs w) = .next (lone (b.atR a k) cs w) :=
  step_lone_go (by simp [stepG, stepG.exec, Frame.atR])
theorem wpIn_scope_straight {c : Code} (h : c.wpIn F n P (Exit.noGoto Q) a w) : (Code.scope c).wpIn F n P Q a w := by
  intro b k cs hro hb hr
  have h0 : (lone (b.atR a (.code (.scope c) :: k)) cs w).fenced P F := fenced_calm hb hr rfl
  obtain ⟨e, a₁, w₁, hq, harr⟩ := h b (.inScope c :: k) cs hro hb hr
  cases e with
  | normal => exact ⟨.normal, a₁, w₁, hq, .head h0 stepR_scope (StepsIn.trans harr (.one (fenced_calm hb hr rfl) stepR_inScope))⟩
  | exit id =>
    have hx : exitTo id (.inScope c :: k) = exitTo id k := by simp [exitTo]
    exact ⟨_, a₁, w₁, hq, fun k' hk => .head h0 stepR_scope (harr.1 k' (by rw [hx]; exact hk)),
      fun hr' hk => let ⟨k₁, h1, h2⟩ := harr.2 hr' (by rw [hx]; exact hk); ⟨k₁, h1, .head h0 stepR_scope h2⟩⟩
  | goto l => exact hq.elim
  | ret => exact ⟨_, a₁, w₁, hq, .of_steps (.one h0 stepR_scope) harr⟩
  | panic ch => exact ⟨_, a₁, w₁, hq, .of_steps (.one h0 stepR_scope) harr⟩
  | outgrown => exact ⟨_, a₁, w₁, hq, .of_steps (.one h0 stepR_scope) harr⟩
end scope

section
variable {P : Program} {w0 : Base} {w : World} {φ : List Loc} {H : AH}
theorem Rel.putLoop (h : Rel w0 φ H w) {b : Nat} {fr : List AV} {ps : Array Tmp} {as bd : Code} {st : LoopState} {pd : Option Code} {db : Nat} {l : Loc} (hb : H[b]? = some (.loop fr ps as bd st pd db)) (hl : φ[b]? = some l) :
    ∃ tm ld fn, φ[db]? = some ld ∧ VRs φ fr tm.toList ∧ w.heap[l.blk]? = some (.loop { state := st, pending := pd, fn := fn, tmps := tm, params := ps, assign := as, body := bd, defers := ld.blk }) ∧
      ∀ st' pd', Rel w0 φ (H.set b (.loop fr ps as bd st' pd' db)) (w.putObj l.blk (.loop { state := st', pending := pd', fn := fn, tmps := tm, params := ps, assign := as, body := bd, defers := ld.blk })) := by
  obtain ⟨h1, tm, ld, f, h2, h3, h4⟩ := h.blocks b _ l hb hl
  refine ⟨tm, ld, f, h2, h3, h4, fun st' pd' => ?_⟩
  have hlt := (Array.getElem?_eq_some_iff.1 h4).1
  exact h.upd hb rfl hl rfl rfl rfl (by simp [World.putObj]) (fun j hj _ => World.putObj_heap_other hj) ⟨h1, tm, ld, f, h2, h3, World.putObj_heap_same hlt⟩
def Marks (φ : List Loc) : List Nat → List Deferred → Prop
  | [], D => D = []
  | b :: ds, D => ∃ l D', φ[b]? = some l ∧ D = { target := .collected l.blk, args := #[] } :: D' ∧ Marks φ ds D'
theorem Marks.mono {φ φ' : List Loc} (hx : Ext φ φ') : ∀ {ds : List Nat} {D : List Deferred}, Marks φ ds D → Marks φ' ds D
  | [], _, h => h
  | _ :: _, _, ⟨l, D', h1, h2, h3⟩ => ⟨l, D', hx.get h1, h2, Marks.mono hx h3⟩
def isDefr : Option ABlk → Bool
  | some .defr => true
  | _ => false
theorem isDefr_ok {k : Option ABlk} (h : isDefr k = true) : k = some .defr := by
  unfold isDefr at h
  split at h
  · rfl
  · cases h
def allDefr (lo : Nat) : List Nat → AH → Bool
  | [], _ => true
  | b :: ds, H => isDefr H[b]? && Nat.ble lo b && allDefr lo ds (H.set b .dead)
def killAll : List Nat → AH → AH
  | [], H => H
  | b :: ds, H => killAll ds (H.set b .dead)
theorem leavesM {fn : Func} {tmps : Array Value} {R : Ending → World → Prop} {lo : Nat} : ∀ {ds : List Nat} {D : List Deferred} {H : AH} {w : World}, Marks φ ds D → Rel w0 φ H w → allDefr lo ds H = true →
    (∀ w', Rel w0 φ (killAll ds H) w' → ∃ v, (results fn tmps).run P w' = .ok v w' ∧ R (.returned v) w') → LeavesInM Fence.wide 0 P fn tmps R D .returning w
  | [], D, H, w, hm, hr, _, hf => by
    have e : D = [] := hm
    subst e
    exact hf w hr
  | b :: ds, D, H, w, hm, hr, hd, hf => by
    obtain ⟨l, D', h1, rfl, h2⟩ := hm
    simp only [allDefr, Bool.and_eq_true] at hd
    have hb := isDefr_ok hd.1.1
    obtain ⟨g1, g2⟩ := hr.blocks b _ l hb h1
    refine ⟨by simp, .inl ⟨l.blk, w.putObj l.blk (.deferred none), rfl, run_takeDeferred g2, ?_⟩⟩
    refine leavesM h2 (hr.upd (k' := .dead) hb rfl h1 rfl rfl rfl (by simp [World.putObj]) (fun j hj _ => World.putObj_heap_other hj) trivial) hd.2 hf
end

def pendOf : AEx → Option Code
  | .normal => none
  | .exit id => some (.exit id)
  | .ret => some .ret
def exOf : Option Code → Option AEx
  | none => some .normal
  | some (.exit id) => some (.exit id)
  | some .ret => some .ret
  | _ => none
abbrev RecF := Option Nat → RM → Code → List AV → AH → Nat → List Nat → Option (AEx × List AV × AH × Nat × List Nat)
def hasBody (P : Program) (f : FuncId) : Bool := match P.funcs[f]? with | some fn => fn.body.isSome | none => false
def dbOf (H : AH) (b : Nat) : Option Nat := match H[b]? with | some (.loop _ _ _ _ _ _ db) => some db | _ => none
def ArR (φ : List Loc) : Option Nat → Option Nat → Prop
  | none, r0 => r0 = none
  | some b, r0 => ∃ l, φ[b]? = some l ∧ r0 = some l.blk
theorem ArR.mono {φ φ' : List Loc} (hx : Ext φ φ') {ar r0 : Option Nat} (h : ArR φ ar r0) : ArR φ' ar r0 := by
  cases ar with
  | none => exact h
  | some b => obtain ⟨l, h1, h2⟩ := h; exact ⟨l, hx.get h1, h2⟩
section
variable {E : Env} {V : VM} {rec : RecF}
end
end Go.Ve

namespace Go.Ve
open Go Go.RowKit

section
variable {E : Env} {V : VM}
theorem heap2 (h : Array Obj) (x y : Obj) : ((h.push x).push y)[h.size + 1]? = some y := by
  have := Array.getElem?_push_size (xs := h.push x) (x := y)
  rwa [Array.size_push] at this
end
end Go.Ve

namespace Go.Ve
open Go Go.RowKit

section
variable {E : Env} {V : VM}
end
end Go.Ve

