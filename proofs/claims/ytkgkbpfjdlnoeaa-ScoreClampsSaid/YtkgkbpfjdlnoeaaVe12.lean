/- From what the arguments read as to the evaluator's heap; and from the evaluator's answer to the given row. -/
import Derived.Test.YtkgkbpfjdlnoeaaVe11
import Derived.ProofKit
import Derived.OpenShut
import Derived.ShutString
import Derived.Below
import Derived.ChangeSame
import Derived.Carry
import Derived.WideKeyArgs
namespace Go.Ve
open Go Go.RowKit Go.WideShapes Go.ChangeShapes

section
variable {H : Type} {enc : TypeId × Value → H} {P : Program}

/-- The row's last step where the world is known below its old size alone. -/
theorem post_of_below {f : Func} {s : ChangeSpec} {apart fresh handsOn again : Bool} {W W' : World} {args : Array Value} {v : Value} {ds gs : List (DataW H)} {before pa pv : List MemPlace}
    (hW : DataW.Whole enc P f.params.toList s.vars apart W args.toList ds gs before)
    (hres : ∀ (b : Nat) (sp : Nat → Bool) (hd : Bool), DataW.TrodAll enc P W' b sp hd f.resultTypes.toList (v.resultList f.resultTypes.size) (s.fn H (ds ++ gs)).results [])
    (hargs : ∀ sp : Nat → Bool, (∀ p ∈ before, sp p.block = true) → DataW.TrodAll enc P W' 0 sp true f.params.toList args.toList (s.fn H (ds ++ gs)).args pa)
    (hvars : ∀ sp : Nat → Bool, (∀ p ∈ before, sp p.block = true) → DataW.TrodVars enc P W' sp s.vars (s.fn H (ds ++ gs)).vars pv)
    (hps : before = pa ++ pv) (hb : Below W.heap.size W W')
    (hok : ∀ (j : Nat) (t : TypeId) (r : Value), f.resultTypes[j]? = some t → (v.resultList f.resultTypes.size)[j]? = some r → Value.okWide P W' .any 0 t r) :
    s.post enc P f apart fresh handsOn again W args v W' := by
  have hlt : ∀ p ∈ before, p.block < W.heap.size := fun p hp => hW.lt p hp
  have hold : ∀ p ∈ before, (fun b => decide (b < W.heap.size)) p.block = true := fun p hp => by simpa using hlt p hp
  refine ⟨ds, gs, before, [], pa, pv, hW, hres _ _ _, hargs _ hold, hvars _ hold, World.keptBut_mono (fun p hp => ⟨hp, ?_⟩) (hb.frame (· ∈ before)), fun _ => ?_⟩
  · rw [hps, List.mem_append] at hp
    exact Or.inr hp
  · obtain ⟨_, _, _, _, _, hz, hn⟩ := hW
    refine ⟨hok, _, _, ([] ++ pa) ++ pv, ⟨[] ++ pa, pv, trodAll_append (hargs _ (fun _ _ => rfl)) (hres _ _ _), hvars _ (fun _ _ => rfl), rfl, ?_, ?_⟩, ?_⟩
    · intro b off hp
      have hin : MemPlace.cell b off ∈ before := by rw [hps]; simpa using hp
      rw [hb.frozen (hlt _ hin)]
      exact hz b off hin
    · intro ha
      have := hn ha
      rw [hps] at this
      simpa using this
    · intro p hp _
      rw [hps]
      simpa using hp

/-- Data of type t, read in w, as abstract cells: 'f x n' the cells, where the new blocks 'g x n' are numbered from n on. -/
def Opens (enc : TypeId × Value → H) (P : Program) (w : World) (t : TypeId) {α : Type} (f : α → Nat → List AV) (g : α → Nat → List ABlk) (G : α → Prop) : Prop :=
  ∀ fuel cs d ps, DataW.trod enc P w 0 (fun _ => true) true fuel t cs = some (d, ps) →
    ∃ x : α, G x ∧ ∀ φ H, Rel (Base.all w) φ H w → ∃ φ', Ext φ φ' ∧ VRs φ' (f x H.length) cs ∧ Rel (Base.all w) φ' (H ++ g x H.length) w
/-- The same where no new block is wanted. -/
def Flat (enc : TypeId × Value → H) (P : Program) (w : World) (t : TypeId) {α : Type} (f : α → List AV) (G : α → Prop) : Prop :=
  ∀ fuel cs d ps, DataW.trod enc P w 0 (fun _ => true) true fuel t cs = some (d, ps) → ∃ x : α, G x ∧ ∀ φ, VRs φ (f x) cs
variable {w : World} {t e : TypeId}
theorem Flat.opens {α : Type} {f : α → List AV} {G : α → Prop} (h : Flat enc P w t f G) : Opens enc P w t (fun x _ => f x) (fun _ _ => []) G := by
  intro fuel cs d ps hd
  obtain ⟨x, h1, h2⟩ := h fuel cs d ps hd
  exact ⟨x, h1, fun φ H hr => ⟨φ, Ext.refl _, h2 φ, by simpa using hr⟩⟩

theorem flat_bool (ht : P.underlying t = some .bool) : Flat enc P w t (fun b : Bool => [.bool b]) (fun _ => True) := by
  intro fuel cs d ps hd
  cases fuel with
  | zero => simp [DataW.trod] at hd
  | succ fuel =>
    unfold DataW.trod at hd
    rw [ht] at hd
    split at hd <;> rename_i h1 <;> simp at h1 <;> try (cases hd; done)
    exact ⟨_, trivial, fun φ => .cons (.bool _) .nil⟩
theorem flat_int {k : IntKind} (ht : P.underlying t = some (.int k)) : Flat enc P w t (fun n : Int => [.int k n]) (fun n => (Lit.int k n).wf = true) := by
  intro fuel cs d ps hd
  cases fuel with
  | zero => simp [DataW.trod] at hd
  | succ fuel =>
    obtain ⟨n, h1, _, h3⟩ := DataW.trod_int ht hd
    subst h1
    exact ⟨n, h3, fun φ => .cons (.int _ _) .nil⟩
theorem flat_float (ht : P.underlying t = some (.float .f64)) : Flat enc P w t (fun n : Nat => [.float .f64 n]) (fun n => n < 2 ^ 64) := by
  intro fuel cs d ps hd
  cases fuel with
  | zero => simp [DataW.trod] at hd
  | succ fuel =>
    unfold DataW.trod at hd
    rw [ht] at hd
    split at hd <;> rename_i h1 <;> simp at h1 <;> try (cases hd; done)
    subst h1
    split at hd
    · rename_i hc
      obtain ⟨rfl, hw⟩ := hc
      simp [Lit.wf] at hw
      exact ⟨_, hw, fun φ => .cons (.float _ _) .nil⟩
    · cases hd
theorem flat_str (ht : P.underlying t = some .string) : Flat enc P w t (fun s : List UInt8 => [.str s]) (fun s => s.length ≤ maxLen) := by
  intro fuel cs d ps hd
  cases fuel with
  | zero => simp [DataW.trod] at hd
  | succ fuel =>
    obtain ⟨s, h1, _, h3⟩ := DataW.trod_string ht hd
    subst h1
    exact ⟨s.data.toList, by simpa using h3, fun φ => .cons (.str s.data.toList) .nil⟩

/-! ### The arguments -/
def packA (b : Bool) (l : List AV) : AV := if b then .agg l else l.headD .bad
theorem packA_ok {φ : List Loc} {r : Reach} {b0 : Nat} {b : Bool} {v : Value} {l : List AV} (hb : isAggP P t = some b) (hok : Value.okWide P w r b0 t v) (hv : VRs φ l v.cells.toList) : VR φ (packA b l) v := by
  unfold isAggP at hb
  unfold Value.okWide at hok
  split at hb
  · rename_i fs hu
    cases hb
    rw [hu] at hok
    obtain ⟨cs, rfl, _⟩ := hok
    exact .agg hv
  · rename_i n e hu
    cases hb
    rw [hu] at hok
    obtain ⟨cs, rfl, _⟩ := hok
    exact .agg hv
  · rename_i d hns hna hu
    cases hb
    rw [hu] at hok
    have hone : v.cells = #[v] := by
      cases v with
      | agg cs => cases d <;> simp_all [Cell.okWide, Cell.ok]
      | _ => rfl
    rw [hone] at hv
    cases hv with
    | cons h1 h2 => cases h2; exact h1
  · cases hb

def OpensArgs (enc : TypeId × Value → H) (P : Program) (w : World) (ts : List TypeId) {α : Type} (f : α → Nat → List AV) (g : α → Nat → List ABlk) (G : α → Prop) : Prop :=
  ∀ (b0 : Nat) vs ds ps, DataW.TrodAll enc P w 0 (fun _ => true) true ts vs ds ps → (∀ (j : Nat) (t : TypeId) (v : Value), ts[j]? = some t → vs[j]? = some v → Value.okWide P w .any b0 t v) →
    ∃ x : α, G x ∧ ∀ φ H, Rel (Base.all w) φ H w → ∃ φ', Ext φ φ' ∧ VRs φ' (f x H.length) vs ∧ Rel (Base.all w) φ' (H ++ g x H.length) w
theorem opensArgs_nil : OpensArgs enc P w [] (fun (_ : Unit) _ => []) (fun _ _ => []) (fun _ => True) := by
  intro b0 vs ds ps h _
  cases vs with
  | nil => exact ⟨(), trivial, fun φ H hr => ⟨φ, Ext.refl _, .nil, by simpa using hr⟩⟩
  | cons v vs => exact h.elim
theorem opensArgs_cons {ts : List TypeId} {α β : Type} {f1 : α → Nat → List AV} {g1 : α → Nat → List ABlk} {G1 : α → Prop} {f2 : β → Nat → List AV} {g2 : β → Nat → List ABlk} {G2 : β → Prop} {b : Bool}
    (hb : isAggP P t = some b) (h1 : Opens enc P w t f1 g1 G1) (h2 : OpensArgs enc P w ts f2 g2 G2) :
    OpensArgs enc P w (t :: ts) (fun (x : α × β) n => packA b (f1 x.1 n) :: f2 x.2 (n + (g1 x.1 n).length)) (fun x n => g1 x.1 n ++ g2 x.2 (n + (g1 x.1 n).length)) (fun x => G1 x.1 ∧ G2 x.2) := by
  intro b0 vs ds ps h hok
  cases vs with
  | nil => cases ds <;> exact h.elim
  | cons v vs =>
    cases ds with
    | nil => exact h.elim
    | cons d ds =>
      obtain ⟨p, q, ⟨fuel, hd⟩, hrest, _⟩ := h
      obtain ⟨x, hx, hxf⟩ := h1 fuel _ d p hd
      obtain ⟨y, hy, hyf⟩ := h2 b0 vs ds q hrest (fun j t v hj hv => hok (j + 1) t v (by simpa using hj) (by simpa using hv))
      refine ⟨(x, y), ⟨hx, hy⟩, fun φ H hr => ?_⟩
      obtain ⟨φ1, e1, v1, r1⟩ := hxf φ H hr
      obtain ⟨φ2, e2, v2, r2⟩ := hyf φ1 _ r1
      simp only [List.length_append] at v2 r2
      refine ⟨φ2, e1.trans e2, .cons ((packA_ok hb (hok 0 t v rfl rfl) v1).mono e2) v2, ?_⟩
      rw [List.append_assoc] at r2
      exact r2

theorem trodAll_keep {W W' : World} {sp : Nat → Bool} (hl : laidOutB P = true) : ∀ {ts : List TypeId} {vs : List Value} {ds : List (DataW H)} {ps : List MemPlace},
    (ts.all fun t => P.readableRec t && decide (t < P.types.size)) = true → DataW.TrodAll enc P W 0 (fun _ => true) true ts vs ds ps → Below W.heap.size W W' → (∀ p ∈ ps, p.block < W.heap.size) → (∀ p ∈ ps, sp p.block = true) →
    DataW.TrodAll enc P W' 0 sp true ts vs ds ps
  | [], [], [], _, _, h, _, _, _ => h
  | t :: ts, v :: vs, d :: ds, ps, hall, h, hb, hlt, hsp => by
    obtain ⟨p, q, h1, h2, rfl⟩ := h
    simp only [List.all_cons, Bool.and_eq_true, decide_eq_true_eq] at hall
    refine ⟨p, q, WideElems.Trod_stays hl hall.1.1 hall.1.2 h1 (fun x hx => hb.same (hlt x (by simp [hx]))) (fun x hx => hsp x (by simp [hx])), ?_, rfl⟩
    exact trodAll_keep hl (by simpa using hall.2) h2 hb (fun x hx => hlt x (by simp [hx])) (fun x hx => hsp x (by simp [hx]))
  | [], [], _ :: _, _, _, h, _, _, _ => h.elim
  | [], _ :: _, _, _, _, h, _, _, _ => h.elim
  | _ :: _, [], _, _, _, h, _, _, _ => h.elim
  | _ :: _, _ :: _, [], _, _, h, _, _, _ => h.elim

/-- THE LAW's STEP: the evaluator answers true; so does the call, and all that was there is as it was. -/
theorem contract_of_ev {E : Env} (hP : E.P.funcs.all (fun fn => !(fn.name == "runtime.NumGoroutine")) = true) (hm : E.P.follows .mixedOrders = true) (hO : CallOk E.P E.orc) {f : FuncId} {fn : Func} {s : ChangeSpec} {tb : TypeId}
    (hl : laidOutB E.P = true) (hall : (fn.params.toList.all fun t => E.P.readableRec t && decide (t < E.P.types.size)) = true) (hrt : fn.resultTypes = #[tb]) (htb : E.P.underlying tb = some .bool) (hv : s.vars = [])
    (hspec : ∀ ds : List (DataW H), ds.length = fn.params.size → (s.fn H ds).results = [.lit (.bool true)] ∧ (s.fn H ds).args = ds ∧ (s.fn H ds).vars = [])
    {α : Type} {fa : α → Nat → List AV} {ga : α → Nat → List ABlk} {G : α → Prop} {W : World} (hopen : OpensArgs enc E.P W fn.params.toList fa ga G)
    (hev : ∀ x, G x → ∃ n ch, evCall E (ev E n) f (fa x 0) (ga x 0) = some (.bool true, ch))
    {base : Nat} {args : Array Value} {ds gs : List (DataW H)} {before : List MemPlace}
    (hval : ∀ (j : Nat) t v, fn.params[j]? = some t → args[j]? = some v → Value.okWide E.P W .any base t v)
    (hW : DataW.Whole enc E.P fn.params.toList s.vars false W args.toList ds gs before) :
    Calls E.P f args W fun e W' => ∃ v, e = .returned v ∧ s.post enc E.P fn false true false false W args v W' := by
  have hW' := hW
  obtain ⟨p, q, hA, hV, hps, hfz, hnd⟩ := hW
  rw [hv] at hV
  obtain ⟨rfl, rfl⟩ := trodVars_none hV
  have hlen : ds.length = fn.params.size := by
    have : ∀ {ts : List TypeId} {vs : List Value} {ds : List (DataW H)} {ps : List MemPlace}, DataW.TrodAll enc E.P W 0 (fun _ => true) true ts vs ds ps → ds.length = ts.length := by
      intro ts
      induction ts with
      | nil => intro vs ds ps h; cases vs <;> cases ds <;> first | rfl | exact h.elim
      | cons t ts ih =>
        intro vs ds ps h
        cases vs with
        | nil => cases ds <;> exact h.elim
        | cons v vs => cases ds with
          | nil => exact h.elim
          | cons d ds => obtain ⟨p, q, _, h2, _⟩ := h; simp [ih h2]
    simpa using this hA
  obtain ⟨e1, e2, e3⟩ := hspec ds hlen
  obtain ⟨x, hx, hxf⟩ := hopen base args.toList ds p hA (fun j t v hj hv2 => hval j t v (by simpa using hj) (by simpa using hv2))
  obtain ⟨φ, _, hvr, hrel⟩ := hxf [] [] (Rel.empty W)
  simp only [List.length_nil, List.nil_append] at hvr hrel
  obtain ⟨n, ch, hn⟩ := hev x hx
  have hcall := ((evCall_ok hO (ev_ok hP hm hO n)) f _ _ _ _ hn).1 (Base.all W) φ W args hrel hvr
  refine hcall.mono ?_
  rintro e W' ⟨u, φ', rfl, _, hu, hch⟩
  cases hu
  have hbelow : Below W.heap.size W W' := by
    cases ch with
    | none => exact hch.2.below.to
    | some c => exact hch.below.to
  have hplt : ∀ x ∈ p, x.block < W.heap.size := fun x hx => hW'.lt x (by rw [hps]; simpa using hx)
  refine ⟨_, rfl, post_of_below (pa := p) (pv := []) hW' (fun b sp hd => ?_) (fun sp hsp => ?_) (fun sp hsp => ?_) hps hbelow ?_⟩
  · rw [List.append_nil, e1]
    have : fn.resultTypes.toList = [tb] := by rw [hrt]
    rw [this, hrt]
    exact trodAll_cons_mk (shut_bool htb _) trodAll_mk0
  · rw [List.append_nil, e2]
    exact trodAll_keep hl hall hA hbelow hplt (fun x hx => hsp x (by rw [hps]; simpa using hx))
  · rw [List.append_nil, e3, hv]
    rfl
  · exact ok_one hrt rfl (okWide_bool_mk htb _)
/-- The same, some variables of packages known at the start. -/
theorem contract_of_evG {E : Env} (hP : E.P.funcs.all (fun fn => !(fn.name == "runtime.NumGoroutine")) = true) (hm : E.P.follows .mixedOrders = true) (hO : CallOk E.P E.orc) {f : FuncId} {fn : Func} {s : ChangeSpec} {tb : TypeId}
    (hl : laidOutB E.P = true) (hall : (fn.params.toList.all fun t => E.P.readableRec t && decide (t < E.P.types.size)) = true) (hrt : fn.resultTypes = #[tb]) (htb : E.P.underlying tb = some .bool) (hv : s.vars = [])
    (hspec : ∀ ds : List (DataW H), ds.length = fn.params.size → (s.fn H ds).results = [.lit (.bool true)] ∧ (s.fn H ds).args = ds ∧ (s.fn H ds).vars = [])
    {α : Type} {fa : α → Nat → List AV} {ga : α → Nat → List ABlk} {G : α → Prop} {W : World} (hopen : OpensArgs enc E.P W fn.params.toList fa ga G) {φ0 : List Loc} {G0 : AH} (hG : Rel (Base.all W) φ0 G0 W)
    (hev : ∀ x, G x → ∃ n ch, evCall E (ev E n) f (fa x G0.length) (G0 ++ ga x G0.length) = some (.bool true, ch))
    {base : Nat} {args : Array Value} {ds gs : List (DataW H)} {before : List MemPlace}
    (hval : ∀ (j : Nat) t v, fn.params[j]? = some t → args[j]? = some v → Value.okWide E.P W .any base t v)
    (hW : DataW.Whole enc E.P fn.params.toList s.vars false W args.toList ds gs before) :
    Calls E.P f args W fun e W' => ∃ v, e = .returned v ∧ s.post enc E.P fn false true false false W args v W' := by
  have hW' := hW
  obtain ⟨p, q, hA, hV, hps, hfz, hnd⟩ := hW
  rw [hv] at hV
  obtain ⟨rfl, rfl⟩ := trodVars_none hV
  have hlen : ds.length = fn.params.size := by
    have : ∀ {ts : List TypeId} {vs : List Value} {ds : List (DataW H)} {ps : List MemPlace}, DataW.TrodAll enc E.P W 0 (fun _ => true) true ts vs ds ps → ds.length = ts.length := by
      intro ts
      induction ts with
      | nil => intro vs ds ps h; cases vs <;> cases ds <;> first | rfl | exact h.elim
      | cons t ts ih =>
        intro vs ds ps h
        cases vs with
        | nil => cases ds <;> exact h.elim
        | cons v vs => cases ds with
          | nil => exact h.elim
          | cons d ds => obtain ⟨p, q, _, h2, _⟩ := h; simp [ih h2]
    simpa using this hA
  obtain ⟨e1, e2, e3⟩ := hspec ds hlen
  obtain ⟨x, hx, hxf⟩ := hopen base args.toList ds p hA (fun j t v hj hv2 => hval j t v (by simpa using hj) (by simpa using hv2))
  obtain ⟨φ, _, hvr, hrel⟩ := hxf φ0 G0 hG
  obtain ⟨n, ch, hn⟩ := hev x hx
  have hcall := ((evCall_ok hO (ev_ok hP hm hO n)) f _ _ _ _ hn).1 (Base.all W) φ W args hrel hvr
  refine hcall.mono ?_
  rintro e W' ⟨u, φ', rfl, _, hu, hch⟩
  cases hu
  have hbelow : Below W.heap.size W W' := by
    cases ch with
    | none => exact hch.2.below.to
    | some c => exact hch.below.to
  have hplt : ∀ x ∈ p, x.block < W.heap.size := fun x hx => hW'.lt x (by rw [hps]; simpa using hx)
  refine ⟨_, rfl, post_of_below (pa := p) (pv := []) hW' (fun b sp hd => ?_) (fun sp hsp => ?_) (fun sp hsp => ?_) hps hbelow ?_⟩
  · rw [List.append_nil, e1]
    have : fn.resultTypes.toList = [tb] := by rw [hrt]
    rw [this, hrt]
    exact trodAll_cons_mk (shut_bool htb _) trodAll_mk0
  · rw [List.append_nil, e2]
    exact trodAll_keep hl hall hA hbelow hplt (fun x hx => hsp x (by rw [hps]; simpa using hx))
  · rw [List.append_nil, e3, hv]
    rfl
  · exact ok_one hrt rfl (okWide_bool_mk htb _)
end
end Go.Ve
