/- The law's last step over a contract whose memory begins with known variables. -/
import Derived.Test.YtmjfkcjdmfgkcaaDoorSe
set_option linter.unusedSimpArgs false
set_option linter.unusedVariables false
namespace Go.Ve
open Go Go.RowKit Go.WideShapes Go.ChangeShapes
theorem contract_of_scG {H : Type} {enc : TypeId × Value → H} {P : Program} {f : FuncId} {fn : Func} {s : ChangeSpec} {tb : TypeId}
    (hl : laidOutB P = true) (hall : (fn.params.toList.all fun t => P.readableRec t && decide (t < P.types.size)) = true) (hrt : fn.resultTypes = #[tb]) (htb : P.underlying tb = some .bool) (hv : s.vars = [])
    (hspec : ∀ ds : List (DataW H), ds.length = fn.params.size → (s.fn H ds).results = [.lit (.bool true)] ∧ (s.fn H ds).args = ds ∧ (s.fn H ds).vars = [])
    {α : Type} {fa : α → Nat → List AV} {ga : α → Nat → List ABlk} {G : α → Prop} {W : World} (hopen : OpensArgsS enc P W fn.params.toList fa ga G)
    {φ0 : List Loc} {G0 : AH} (hG0 : Rel (Base.all W) φ0 G0 W)
    (hev : ∀ x, G x → SC P f (fa x G0.length) (G0 ++ ga x G0.length) fun v _ => v = .bool true)
    {base : Nat} {args : Array Value} {ds gs : List (DataW H)} {before : List MemPlace}
    (hval : ∀ (j : Nat) t v, fn.params[j]? = some t → args[j]? = some v → Value.okWide P W .any base t v)
    (hW : DataW.Whole enc P fn.params.toList s.vars false W args.toList ds gs before)
    (hsz : ∃ ds2 p2, DataW.TrodAll enc P W 0 (fun _ => true) true fn.params.toList args.toList ds2 p2 ∧ Sz (DataW.weightsEach P fn.params.toList ds2)) :
    Calls P f args W fun e W' => ∃ v, e = .returned v ∧ s.post enc P fn false true false false W args v W' := by
  have hW' := hW
  obtain ⟨p, q, hA, hV, hps, hfz, hnd⟩ := hW
  rw [hv] at hV
  obtain ⟨rfl, rfl⟩ := trodVars_none hV
  have hlen : ds.length = fn.params.size := by
    have : ∀ {ts : List TypeId} {vs : List Value} {ds : List (DataW H)} {ps : List MemPlace}, DataW.TrodAll enc P W 0 (fun _ => true) true ts vs ds ps → ds.length = ts.length := by
      intro ts
      induction ts with
      | nil => intro vs ds ps h; cases vs <;> cases ds <;> first | rfl | exact h.elim
      | cons t ts ih =>
        intro vs ds ps h
        cases vs with
        | nil => cases ds <;> exact h.elim
        | cons v vs => cases ds with
          | nil => exact h.elim
          | cons d ds => obtain ⟨p, q, _, h2, _⟩ := h; simp [ih h2]
    simpa using this hA
  obtain ⟨e1, e2, e3⟩ := hspec ds hlen
  obtain ⟨ds2, p2, hA2, hw2⟩ := hsz
  obtain ⟨x, hx, hxf⟩ := hopen base args.toList ds2 p2 hA2 hw2 (fun j t v hj hv2 => hval j t v (by simpa using hj) (by simpa using hv2))
  obtain ⟨φ, _, hvr, hrel⟩ := hxf φ0 G0 hG0
  have hcall := hev x hx (Base.all W) φ W args hrel hvr
  refine hcall.mono ?_
  rintro e W' ⟨u, v, H', φ', rfl, rfl, _, hu, hch⟩
  cases hu
  have hbelow : Below W.heap.size W W' := hch.below.to
  have hplt : ∀ x ∈ p, x.block < W.heap.size := fun x hx => hW'.lt x (by rw [hps]; simpa using hx)
  refine ⟨_, rfl, post_of_below (pa := p) (pv := []) hW' (fun b sp hd => ?_) (fun sp hsp => ?_) (fun sp hsp => ?_) hps hbelow ?_⟩
  · rw [List.append_nil, e1]
    have : fn.resultTypes.toList = [tb] := by rw [hrt]
    rw [this, hrt]
    exact trodAll_cons_mk (shut_bool htb _) trodAll_mk0
  · rw [List.append_nil, e2]
    exact trodAll_keep hl hall hA hbelow hplt (fun x hx => hsp x (by rw [hps]; simpa using hx))
  · rw [List.append_nil, e3, hv]
    rfl
  · exact ok_one hrt rfl (okWide_bool_mk htb _)
/-- A variable that holds an interface's value of a type that is told by its name. -/
theorem trod_iface_at {H : Type} {enc : TypeId × Value → H} {P : Program} {w : World} {base : Nat} {spare : Nat → Bool} {held : Bool} {fuel t : Nat} {d : TypeDesc} {cs : List Value} {name : String} {x : DataW H} {ps : List MemPlace} (ht : P.underlying t = some d) (hi : (match d with | .interface _ => true | _ => false) = true)
    (h : DataW.trod enc P w base spare held fuel t cs = some (.iface name x, ps)) : ∃ u v, cs = [.iface u v] ∧ P.typeName? 3 u = some name := by
  cases d <;> first | (cases hi; done) | skip
  cases fuel with
  | zero => simp [DataW.trod] at h
  | succ n =>
    unfold DataW.trod at h
    rw [ht] at h
    split at h <;> first | (simp only [reduceCtorEq, Option.some.injEq] at *; done) | skip
    all_goals first | (cases h; done) | skip
    · rename_i u v _
      split at h
      · cases h
      · rename_i nm hn
        rw [Option.map_eq_some_iff] at h
        obtain ⟨y, _, hy⟩ := h
        cases hy
        exact ⟨u, v, rfl, hn⟩
      · cases h
    all_goals simp_all
theorem glob_rel {W : World} {g : Nat} {vs : List AV} {n : Nat} (hlt : g < W.heap.size) (hc : ∀ (j : Nat) (v : AV), vs[j]? = some v → ∃ u, VR [⟨g, 0, 0⟩] v u ∧ W.cell? ⟨g, j, none⟩ = some u) (he : ∀ j, vs.length ≤ j → W.cell? ⟨g, j, none⟩ = none) : Rel (Base.all W) [⟨g, 0, 0⟩] [.glob g vs] W := by
  refine ⟨rfl, BelowB.refl _, fun b k l hk hl => ?_, fun b b' k k' l l' hk hk' hl hl' ho ho' _ => ?_⟩
  · cases b with
    | zero =>
      cases hk; cases hl
      refine ⟨hlt, rfl, ⟨rfl, he⟩, fun j v hj => ?_⟩
      obtain ⟨u, h1, h2⟩ := hc j v hj
      exact ⟨u, h1, by simpa using h2⟩
    | succ b => simp at hk
  · cases b with
    | zero => cases b' with
      | zero => rfl
      | succ b' => simp at hk'
    | succ b => simp at hk
end Go.Ve

