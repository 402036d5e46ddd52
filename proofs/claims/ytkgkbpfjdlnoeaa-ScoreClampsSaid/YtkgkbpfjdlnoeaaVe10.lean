/- The evaluator: regions, code, calls. -/
import Derived.Test.YtkgkbpfjdlnoeaaVe9
import Derived.Test.YtkgkbpfjdlnoeaaVeT
import Derived.Scope
namespace Go.Ve
open Go Go.RowKit

mutual
def AV.det : AV → Bool
  | .bad => false
  | .nan _ => false
  | .slz => false
  | .opq => false
  | .fn _ xs cs => AV.dets xs && AV.dets cs
  | .iface _ v => AV.det v
  | .agg cs => AV.dets cs
  | .tuple cs => AV.dets cs
  | _ => true
def AV.dets : List AV → Bool
  | [] => true
  | v :: vs => AV.det v && AV.dets vs
end
mutual
theorem VR.uniq {φ : List Loc} : ∀ {v : AV} {u u' : Value}, v.det = true → VR φ v u → VR φ v u' → u = u'
  | .bad, _, _, h, _, _ => by simp [AV.det] at h
  | .bool _, _, _, _, .bool _, .bool _ => rfl
  | .int _ _, _, _, _, .int _ _, .int _ _ => rfl
  | .float _ _, _, _, _, .float _ _, .float _ _ => rfl
  | .nan _, _, _, h, _, _ => by simp [AV.det] at h
  | .str _, _, _, _, .str _, .str _ => rfl
  | .nilptr, _, _, _, .nilptr, .nilptr => rfl
  | .ptr _ _, _, _, _, .ptr h1, .ptr h2 => by rw [h1] at h2; cases h2; rfl
  | .gptr _ _, _, _, _, .gptr _ _, .gptr _ _ => rfl
  | .nilsl, _, _, _, .nilsl, .nilsl => rfl
  | .sl _ _ _ _ _, _, _, _, .sl h1, .sl h2 => by rw [h1] at h2; cases h2; rfl
  | .slz, _, _, h, _, _ => by simp [AV.det] at h
  | .sle _ _ _, _, _, _, .sle h1, .sle h2 => by rw [h1] at h2; cases h2; rfl
  | .nilmap, _, _, _, .nilmap, .nilmap => rfl
  | .map _, _, _, _, .map h1, .map h2 => by rw [h1] at h2; cases h2; rfl
  | .yld _, _, _, _, .yld h1, .yld h2 => by rw [h1] at h2; cases h2; rfl
  | .opq, _, _, h, _, _ => by simp [AV.det] at h
  | .fn _ _ _, _, _, h, .fn _ a b, .fn _ c d => by
    simp [AV.det] at h
    rw [Array.toList_inj.1 (VRs.uniq h.1 a c), Array.toList_inj.1 (VRs.uniq h.2 b d)]
  | .nilfn, _, _, _, .nilfn, .nilfn => rfl
  | .iface _ _, _, _, h, .iface _ a, .iface _ b => by rw [VR.uniq (by simpa [AV.det] using h) a b]
  | .niliface, _, _, _, .niliface, .niliface => rfl
  | .agg _, _, _, h, .agg a, .agg b => by rw [Array.toList_inj.1 (VRs.uniq (by simpa [AV.det] using h) a b)]
  | .tuple _, _, _, h, .tuple a, .tuple b => by rw [Array.toList_inj.1 (VRs.uniq (by simpa [AV.det] using h) a b)]
theorem VRs.uniq {φ : List Loc} : ∀ {v : List AV} {u u' : List Value}, AV.dets v = true → VRs φ v u → VRs φ v u' → u = u'
  | [], _, _, _, .nil, .nil => rfl
  | _ :: _, _, _, h, .cons a as, .cons b bs => by
    simp [AV.dets] at h
    rw [VR.uniq h.1 a b, VRs.uniq h.2 as bs]
end

-- No reference into memory.
mutual
def AV.flat : AV → Bool
  | .ptr _ _ | .sl _ _ _ _ _ | .sle _ _ _ | .map _ | .yld _ => false
  | .fn _ xs cs => AV.flats xs && AV.flats cs
  | .iface _ v => AV.flat v
  | .agg cs => AV.flats cs
  | .tuple cs => AV.flats cs
  | _ => true
def AV.flats : List AV → Bool
  | [] => true
  | v :: vs => AV.flat v && AV.flats vs
end
mutual
theorem VR.flat {φ : List Loc} (φ' : List Loc) : ∀ {v : AV} {u : Value}, v.flat = true → VR φ v u → VR φ' v u
  | .bad, _, _, .bad v => .bad v
  | .bool _, _, _, .bool b => .bool b
  | .int _ _, _, _, .int k n => .int k n
  | .float _ _, _, _, .float k n => .float k n
  | .nan _, _, _, .nan h => .nan h
  | .str _, _, _, .str s => .str s
  | .nilptr, _, _, .nilptr => .nilptr
  | .ptr _ _, _, h, .ptr _ => by simp [AV.flat] at h
  | .gptr _ _, _, _, .gptr g o => .gptr g o
  | .nilsl, _, _, .nilsl => .nilsl
  | .sl _ _ _ _ _, _, h, .sl _ => by simp [AV.flat] at h
  | .sle _ _ _, _, h, .sle _ => by simp [AV.flat] at h
  | .slz, _, _, .slz a => .slz a
  | .nilmap, _, _, .nilmap => .nilmap
  | .map _, _, h, .map _ => by simp [AV.flat] at h
  | .yld _, _, h, .yld _ => by simp [AV.flat] at h
  | .opq, _, _, .opq h => .opq h
  | .fn _ _ _, _, h, hv => by
    simp [AV.flat] at h
    cases hv with
    | fn _ h1 h2 => exact .fn _ (VRs.flat φ' h.1 h1) (VRs.flat φ' h.2 h2)
  | .nilfn, _, _, .nilfn => .nilfn
  | .iface _ _, _, h, hv => by
    simp [AV.flat] at h
    cases hv with
    | iface _ h1 => exact .iface _ (VR.flat φ' h h1)
  | .niliface, _, _, .niliface => .niliface
  | .agg _, _, h, hv => by
    simp [AV.flat] at h
    cases hv with
    | agg h1 => exact .agg (VRs.flat φ' h h1)
  | .tuple _, _, h, hv => by
    simp [AV.flat] at h
    cases hv with
    | tuple h1 => exact .tuple (VRs.flat φ' h h1)
theorem VRs.flat {φ : List Loc} (φ' : List Loc) : ∀ {v : List AV} {u : List Value}, AV.flats v = true → VRs φ v u → VRs φ' v u
  | [], _, _, .nil => .nil
  | _ :: _, _, h, .cons h1 h2 => by
    simp [AV.flats] at h
    exact .cons (VR.flat φ' h.1 h1) (VRs.flat φ' h.2 h2)
end

inductive AEx where
  | normal
  | exit (id : Nat)
  | ret
def AEx.to : AEx → Exit
  | .normal => .normal
  | .exit id => .exit id
  | .ret => .ret

/-- What a call does: its result, and a new heap with the least block that it may have written, if anything has changed. -/
abbrev CallF := FuncId → List AV → AH → Option (AV × Option (AH × Nat))

def awanted (ops : Array Oper) (o : Oper) (fr : List AV) : Option Bool :=
  match o.guard with
  | none => some true
  | some (j, want) =>
    match (ops[j]?).bind (·.dst) with
    | none => some false
    | some d =>
      match fr[d]? with
      | none => some false
      | some (.bool b) => some (b == want)
      | some .bad => none
      | some .opq => none
      | some _ => some false

noncomputable def evOps (P : Program) (call : CallF) (ops : Array Oper) : List Oper → List AV → AH → Nat → Option (List AV × AH × Nat)
  | [], fr, H, lo => some (fr, H, lo)
  | o :: r, fr, H, lo =>
    match awanted ops o fr with
    | none => none
    | some false => evOps P call ops r (aput fr o.dst (.tuple [])) H lo
    | some true =>
      match aop P o (aeval fr) H with
      | none => none
      | some (.val v none) => evOps P call ops r (aput fr o.dst v) H lo
      | some (.val v (some (H', wr))) => evOps P call ops r (aput fr o.dst v) H' (min lo wr)
      | some (.call f args) =>
        match call f args H with
        | none => none
        | some (v, none) => evOps P call ops r (aput fr o.dst v) H lo
        | some (v, some (H', wr)) => evOps P call ops r (aput fr o.dst v) H' (min lo wr)
      | some (.round ..) => none

/-- A region that draws its order, and changes nothing. -/
noncomputable def evQuiet (P : Program) (call : CallF) (ops : Array Oper) : List Oper → List AV → AH → Option (List AV)
  | [], fr, _ => some fr
  | o :: r, fr, H =>
    match awanted ops o fr with
    | none => none
    | some false => evQuiet P call ops r (aput fr o.dst (.tuple [])) H
    | some true =>
      match aop P o (aeval fr) H with
      | some (.val v none) => if v.det then evQuiet P call ops r (aput fr o.dst v) H else none
      | some (.call f args) =>
        match call f args H with
        | some (v, none) => if v.det then evQuiet P call ops r (aput fr o.dst v) H else none
        | _ => none
      | _ => none

section
variable {P : Program} {w0 : Base} {w : World} {φ : List Loc} {H : AH}

/-- What became of the world in a call. -/
def ChC (w0 : Base) (φ : List Loc) (H : AH) (φ' : List Loc) (w' : World) : Option (AH × Nat) → Prop
  | none => φ' = φ ∧ Rel w0 φ H w'
  | some (H', _) => Rel w0 φ' H' w'
def CallPost (w0 : Base) (φ : List Loc) (H : AH) (v : AV) (ch : Option (AH × Nat)) (e : Ending) (w' : World) : Prop :=
  ∃ u φ', e = .returned u ∧ Ext φ φ' ∧ VR φ' v u ∧ ChC w0 φ H φ' w' ch
/-- A call does what is said of it. -/
def CallOk (P : Program) (call : CallF) : Prop :=
  ∀ f args H v ch, call f args H = some (v, ch) →
    (∀ w0 φ w us, Rel w0 φ H w → VRs φ args us.toList → Calls P f us w (CallPost w0 φ H v ch)) ∧
    (∀ H' lo, ch = some (H', lo) → Keeps lo H H')

theorem awanted_ok {ops : Array Oper} {o : Oper} {fr : List AV} {a : Act} {b : Bool} (h : awanted ops o fr = some b) (ha : VRs φ fr a.tmps.toList) : Region.wanted o (yielded ops a.tmps) = b := by
  unfold awanted at h
  unfold Region.wanted
  split at h
  · rename_i hg; cases h; rw [hg]
  · rename_i j want hg
    simp only [hg]
    unfold yielded
    split at h
    · rename_i hd
      cases h
      rw [hd]; rfl
    · rename_i d hd
      rw [hd]
      have hl := ha.length
      simp only [Array.length_toList] at hl
      split at h
      · rename_i hn
        cases h
        have : a.tmps[d]? = none := by
          rw [Array.getElem?_eq_none]
          have := List.getElem?_eq_none_iff.1 hn
          omega
        simp [this]
      · rename_i b' hb
        cases h
        obtain ⟨u, h1, h2⟩ := ha.get hb
        cases h2
        have : a.tmps[d]? = some (.bool b') := by simpa using h1
        simp [this]
      · cases h
      · cases h
      · rename_i v hnb hbad hopq hb
        cases h
        obtain ⟨u, h1, h2⟩ := ha.get hb
        have h3 : a.tmps[d]? = some u := by simpa using h1
        simp only [Option.bind_some, h3]
        cases h2 <;> first | rfl | exact (hbad rfl).elim | exact (hopq rfl).elim | exact (hnb _ rfl).elim

theorem evOps_ok (hP : P.funcs.all (fun fn => !(fn.name == "runtime.NumGoroutine")) = true) {call : CallF} (hC : CallOk P call) {ops : Array Oper} {Q : Exit → Act → World → Prop} : ∀ (l : List Oper) {fr fr' : List AV} {H H' : AH} {lo lo' : Nat} {φ : List Loc} {a : Act} {w : World},
    evOps P call ops l fr H lo = some (fr', H', lo') → VRs φ fr a.tmps.toList → a.defers = [] → Rel w0 φ H w →
    (∀ φ' a' w', Ext φ φ' → VRs φ' fr' a'.tmps.toList → a'.defers = [] → Rel w0 φ' H' w' → Q .normal a' w') → wpList P ops Q l a w := by
  intro l
  induction l with
  | nil =>
    intro fr fr' H H' lo lo' φ a w h ha hd hr hQ
    simp only [evOps] at h
    cases h
    exact hQ φ a w (Ext.refl _) ha hd hr
  | cons o r ih =>
    intro fr fr' H H' lo lo' φ a w h ha hd hr hQ
    have hput : ∀ u, (a.put o.dst u).defers = [] := fun u => by cases o.dst <;> exact hd
    simp only [evOps] at h
    simp only [wpList]
    split at h
    · cases h
    · rename_i hw
      rw [awanted_ok hw ha]
      simp only [Bool.false_eq_true, if_false]
      exact ih h (aput_ok ha o.dst (.tuple .nil)) (hput _) hr hQ
    · rename_i hw
      rw [awanted_ok hw ha]
      simp only [if_true]
      left
      unfold Oper.wp
      split at h
      · cases h
      · rename_i v hop
        obtain ⟨n, u, w', φ', h1, h2, h3, h4, h5, h6⟩ := aop_ok (P := P) hP hr hop (aeval_ok ha)
        subst h5; subst h6
        rw [h1]
        rcases h2 with rfl | ⟨rfl, rfl⟩
        · exact ih h (aput_ok ha o.dst h4) (hput _) hr hQ
        · exact ih h (aput_ok ha o.dst h4) (hput _) hr hQ
      · rename_i v H1 wr hop
        obtain ⟨n, u, w', φ', h1, h2, h3, h4, h5, h6⟩ := aop_ok (P := P) hP hr hop (aeval_ok ha)
        rw [h1]
        rcases h2 with rfl | ⟨rfl, rfl⟩
        · exact ih h (aput_ok (ha.mono h3) o.dst h4) (hput _) h5 fun φ2 a2 w2 x => hQ φ2 a2 w2 (h3.trans x)
        · exact ih h (aput_ok (ha.mono h3) o.dst h4) (hput _) h5 fun φ2 a2 w2 x => hQ φ2 a2 w2 (h3.trans x)
      · rename_i f args hop
        obtain ⟨us, h1, h2⟩ := aop_ok (P := P) hP hr hop (aeval_ok ha)
        rw [h1]
        split at h
        · cases h
        · rename_i v hcall
          refine ((hC _ _ _ _ _ hcall).1 w0 φ w us hr h2).mono ?_
          rintro e w' ⟨u, φ', rfl, h3, h4, h5, h6⟩
          subst h5
          exact ih h (aput_ok ha o.dst h4) (hput _) h6 hQ
        · rename_i v H1 wr hcall
          refine ((hC _ _ _ _ _ hcall).1 w0 φ w us hr h2).mono ?_
          rintro e w' ⟨u, φ', rfl, h3, h4, h5⟩
          exact ih h (aput_ok (ha.mono h3) o.dst h4) (hput _) h5 fun φ2 a2 w2 x => hQ φ2 a2 w2 (h3.trans x)
      · cases h

theorem abuiltin_keeps {b : Builtin} {ts : List TypeId} {xs : List AV} {v : AV} {H H' : AH} {lo : Nat} (h : abuiltin P b ts xs H = some (v, some (H', lo))) : Keeps lo H H' := by
  unfold abuiltin at h
  split at h
  · rename_i t x
    cases hl : alenOf P t H x <;> rw [hl] at h <;> cases h
  · split at h <;> cases h
  · rename_i t t2 s x
    cases ha : aappend P t t2 s x H with
    | none => rw [ha] at h; cases h
    | some r => obtain ⟨v', H1⟩ := r; rw [ha] at h; cases h; exact aappend_keeps ha
  · unfold acopy at h
    split at h
    · split at h
      · split at h
        · split at h
          · cases h; exact Keeps.set _ _ _
          · cases h
        · cases h
      · cases h
      · cases h
    · cases h
  · rename_i t x
    cases ha : aclear P t x H with
    | none => rw [ha] at h; cases h
    | some c =>
      rw [ha] at h; cases h
      unfold aclear at ha
      (repeat' split at ha) <;> first | (cases ha; done) | (cases ha; exact Keeps.set _ _ _)
  · split at h
    · rename_i us hs
      cases hp : pureRun P (Builtin.min_ #[] 0 us.toArray) <;> rw [hp] at h <;> cases h
    · cases h
  · split at h
    · rename_i us hs
      cases hp : pureRun P (Builtin.max_ #[] 0 us.toArray) <;> rw [hp] at h <;> cases h
    · cases h
  · rename_i t ts m k
    cases ha : adelete P t m k H with
    | none => rw [ha] at h; cases h
    | some H1 => rw [ha] at h; cases h; exact adelete_keeps ha
  · exact aunsafe_keeps h
theorem aconvert_keeps {s d : TypeId} {x v : AV} {H H' : AH} {lo : Nat} (h : aconvert P s d x H = some (v, some (H', lo))) : Keeps lo H H' := by
  cases x with
  | str t =>
    simp only [aconvert] at h
    split at h
    · cases h
    · split at h
      · cases h; exact Keeps.append _ _ _
      · cases h
    · cases h
  | sl b off len cap ex => simp only [aconvert] at h; (repeat' split at h) <;> cases h
  | nilsl => simp only [aconvert] at h; (repeat' split at h) <;> cases h
  | sle b off adv => simp only [aconvert] at h; (repeat' split at h) <;> cases h
  | slz => simp only [aconvert] at h; (repeat' split at h) <;> cases h
  | bool b => simp only [aconvert, AV.sc] at h; generalize pureRun P (convert s d (.bool b)) = r at h; cases r <;> cases h
  | int k n => simp only [aconvert, AV.sc] at h; generalize pureRun P (convert s d (.int k n)) = r at h; cases r <;> cases h
  | float k n => simp only [aconvert, AV.sc] at h; generalize pureRun P (convert s d (.float k n)) = r at h; cases r <;> cases h
  | _ => simp [aconvert, AV.sc] at h
theorem map_val {α : Type} {x : Option α} {f : α → AV} {v : AV} {c : AH × Nat} (h : (x.map fun a => AO.val (f a) none) = some (.val v (some c))) : False := by
  cases x <;> simp at h
theorem aop_keeps {o : Oper} {ρ : Operand → AV} {v : AV} {H H' : AH} {lo : Nat} (h : aop P o ρ H = some (.val v (some (H', lo)))) : Keeps lo H H' := by
  unfold aop at h
  split at h
  case h_4 e ho =>
    split at h
    · cases h; exact Keeps.append _ _ _
    · cases h
  case h_5 e x ho =>
    split at h
    · cases h; exact Keeps.append _ _ _
    · cases h
  case h_7 t n ps ho =>
    cases hb : abuildSlice P t n (ps.toList.map fun p => (p.1, ρ p.2)) H with
    | none => rw [hb] at h; cases h
    | some q => obtain ⟨v', H1⟩ := q; rw [hb] at h; cases h; exact abuildSlice_keeps hb
  case h_9 t a x ho =>
    cases hb : astore P t H (ρ a) (ρ x) with
    | none => rw [hb] at h; cases h
    | some H1 => rw [hb] at h; cases h; exact astore_keeps hb
  case h_11 op t x y yt ho =>
    split at h
    · cases h
    · split at h
      · cases h
      cases hn : ananOp op (ρ x) (ρ y) with
      | none => rw [hn] at h; cases h
      | some v => rw [hn] at h; cases h; exact Keeps.refl _ _
  case h_13 s d x ho =>
    split at h
    · cases h
    cases hb : aconvert P s d (ρ x) H with
    | none => rw [hb] at h; cases h
    | some q => obtain ⟨v', ch⟩ := q; rw [hb] at h; cases h; exact aconvert_keeps hb
  case h_16 t l c ho =>
    cases hb : amakeSlice P t (ρ l) (ρ c) H with
    | none => rw [hb] at h; cases h
    | some q =>
      obtain ⟨v', H1⟩ := q
      rw [hb] at h; cases h
      unfold amakeSlice at hb
      split at hb
      · split at hb
        · split at hb
          · cases hb; exact Keeps.append _ _ _
          · cases hb
        · cases hb
      · cases hb
  case h_24 t r ho =>
    split at h
    · cases h; exact Keeps.append _ _ _
    · split at h
      · cases h; exact Keeps.append _ _ _
      · cases h
  case h_26 t m k x ho =>
    cases hb : amapUpdate P t (ρ m) (ρ k) (ρ x) H with
    | none => rw [hb] at h; cases h
    | some H1 => rw [hb] at h; cases h; exact amapUpdate_keeps hb
  case h_27 t m k x ho =>
    cases hb : amapUpdate P t (ρ m) (ρ k) (ρ x) H with
    | none => rw [hb] at h; cases h
    | some H1 => rw [hb] at h; cases h; exact amapUpdate_keeps hb
  case h_28 t x ho =>
    cases hb : arange P t (ρ x) H with
    | none => rw [hb] at h; cases h
    | some H1 =>
      rw [hb] at h; cases h
      unfold arange at hb
      split at hb
      · cases hb; exact Keeps.append _ _ _
      · cases hb
  case h_29 it s ho =>
    cases hb : anext (ρ it) s H with
    | none => rw [hb] at h; cases h
    | some q => obtain ⟨v', ch⟩ := q; rw [hb] at h; cases h; exact anext_keeps hb
  case h_23 c ho =>
    unfold acall at h
    split at h
    · rename_i b hb2
      cases hb : abuiltin P b c.argTypes.toList (c.args.toList.map ρ) H with
      | none => rw [hb] at h; cases h
      | some q => obtain ⟨v', ch⟩ := q; rw [hb] at h; cases h; exact abuiltin_keeps hb
    · split at h
      · split at h
        · split at h
          · cases h
          · split at h
            · rename_i q hz
              cases h
              exact anoz_keeps hz
            · exact (map_val h).elim
        · cases h
      · (repeat' split at h) <;> cases h
      · cases h
    · cases h
  all_goals first
    | (cases h; done)
    | exact (map_val h).elim
    | ((repeat' split at h) <;> first | (cases h; done) | exact (map_val h).elim)

theorem evOps_keeps {call : CallF} (hC : CallOk P call) {ops : Array Oper} : ∀ (l : List Oper) {fr fr' : List AV} {H H' : AH} {lo lo' : Nat},
    evOps P call ops l fr H lo = some (fr', H', lo') → lo' ≤ lo ∧ Keeps lo' H H' := by
  intro l
  induction l with
  | nil => intro fr fr' H H' lo lo' h; simp only [evOps] at h; cases h; exact ⟨Nat.le_refl _, Keeps.refl _ _⟩
  | cons o r ih =>
    intro fr fr' H H' lo lo' h
    simp only [evOps] at h
    split at h
    · cases h
    · exact ih h
    · split at h
      · cases h
      · exact ih h
      · rename_i v H1 wr hop
        obtain ⟨h1, h2⟩ := ih h
        exact ⟨by omega, ((aop_keeps hop).mono (by omega)).trans h2⟩
      · split at h
        · cases h
        · exact ih h
        · rename_i v H1 wr hcall
          obtain ⟨h1, h2⟩ := ih h
          exact ⟨by omega, (((hC _ _ _ _ _ hcall).2 _ _ rfl).mono (by omega)).trans h2⟩
      · cases h

theorem evQuiet_ok (hP : P.funcs.all (fun fn => !(fn.name == "runtime.NumGoroutine")) = true) {call : CallF} (hC : CallOk P call) {ops : Array Oper} {Q : Act → Prop} : ∀ (l : List Oper) {fr fr' : List AV} {a : Act},
    evQuiet P call ops l fr H = some fr' → VRs φ fr a.tmps.toList → a.defers = [] → Rel w0 φ H w →
    (∀ a', VRs φ fr' a'.tmps.toList → a'.defers = [] → Q a') → wpQuiet P ops (fun w' => Rel w0 φ H w') Q l a := by
  intro l
  induction l with
  | nil =>
    intro fr fr' a h ha hd hr hQ
    simp only [evQuiet] at h
    cases h
    exact hQ a ha hd
  | cons o r ih =>
    intro fr fr' a h ha hd hr hQ
    have hput : ∀ u, (a.put o.dst u).defers = [] := fun u => by cases o.dst <;> exact hd
    simp only [evQuiet] at h
    simp only [wpQuiet]
    split at h
    · cases h
    · rename_i hw
      rw [awanted_ok hw ha]
      simp only [Bool.false_eq_true, if_false]
      exact ih h (aput_ok ha o.dst (.tuple .nil)) (hput _) hr hQ
    · rename_i hw
      rw [awanted_ok hw ha]
      simp only [if_true]
      split at h
      · rename_i v hop
        split at h
        · rename_i hdet
          obtain ⟨n, u, w', φ', h1, h2, h3, h4, h5, h6⟩ := aop_ok (P := P) hP hr hop (aeval_ok ha)
          subst h5; subst h6
          refine ⟨u, fun w2 hr2 => ?_, ih h (aput_ok ha o.dst h4) (hput _) hr hQ⟩
          obtain ⟨n2, u2, w2', φ2, g1, g2, g3, g4, g5, g6⟩ := aop_ok (P := P) hP hr2 hop (aeval_ok ha)
          subst g5; subst g6
          have hu : u2 = u := VR.uniq hdet g4 h4
          subst hu
          unfold Oper.quietAt
          rw [g1]
          rcases g2 with rfl | ⟨rfl, rfl⟩
          · exact ⟨rfl, rfl⟩
          · exact ⟨rfl, rfl⟩
        · cases h
      · rename_i f args hop
        split at h
        · rename_i v hcall
          split at h
          · rename_i hdet
            obtain ⟨us, h1, h2⟩ := aop_ok (P := P) hP hr hop (aeval_ok ha)
            obtain ⟨e0, w0', fr0, ⟨u, φ', _, _, hv, hφ, _⟩, _⟩ := (hC _ _ _ _ _ hcall).1 w0 φ w us hr h2 []
            subst hφ
            refine ⟨u, fun w2 hr2 => ?_, ih h (aput_ok ha o.dst hv) (hput _) hr hQ⟩
            obtain ⟨us2, g1, g2⟩ := aop_ok (P := P) hP hr2 hop (aeval_ok ha)
            unfold Oper.quietAt
            rw [g1]
            refine ⟨rfl, ((hC _ _ _ _ _ hcall).1 w0 _ w2 us2 hr2 g2).mono ?_⟩
            rintro e w' ⟨u2, φ2, rfl, _, hv2, hφ2, hr3⟩
            subst hφ2
            rw [VR.uniq hdet hv2 hv]
            exact ⟨rfl, hr3⟩
          · cases h
        · cases h
      · cases h
end
end Go.Ve
