/- The evaluator, faster: what can be told of a region that draws its order by its text alone is told once, in a table. -/
import Derived.Test.YtililkcbnkidjaaGreatDoorVeF
import Derived.Test.YtililkcbnkidjaaGreatDoorVeC
namespace Go.Ve
open Go Go.RowKit

/-! ### Masks, told once -/
/-- The slots that an operation must not read: those of operations that may come up before it or behind it. -/
def hidM (bs : List Nat) (i : Nat) : Nat → List Oper → Nat
  | _, [] => 0
  | k, o :: l =>
    match o.dst with
    | some s => if unord bs i k = true then hidM bs i (k + 1) l ||| (1 <<< s) else hidM bs i (k + 1) l
    | none => hidM bs i (k + 1) l
theorem hidM_bit {bs : List Nat} {i : Nat} {s : Tmp} : ∀ (l : List Oper) (k : Nat), (hidM bs i k l).testBit s = hidB bs i s k l
  | [], k => by simp [hidM, hidB]
  | o :: l, k => by
    have ih := hidM_bit (bs := bs) (i := i) (s := s) l (k + 1)
    unfold hidM hidB
    cases hd : o.dst with
    | none => simp [ih]
    | some s' =>
      simp only
      by_cases hu : unord bs i k = true
      · rw [if_pos hu, Nat.testBit_or, ih, hu, Nat.one_shiftLeft, Nat.testBit_two_pow]
        by_cases e : s' = s
        · subst e; simp
        · have : (some s' == some s) = false := by simp [e]
          rw [this, decide_eq_false e]
          simp
      · rw [if_neg hu, ih]
        have : unord bs i k = false := by simpa using hu
        rw [this]; simp
def hidMs (bs : List Nat) (all : List Oper) : Nat → List Oper → List Nat
  | _, [] => []
  | i, _ :: l => hidM bs i 0 all :: hidMs bs all (i + 1) l
/-! ### The same, reckoned fast -/
def tstB (m s : Nat) : Bool := Nat.beq (Nat.land (Nat.shiftRight m s) 1) 1
theorem tstB_eq (m s : Nat) : tstB m s = m.testBit s := by
  unfold tstB Nat.testBit
  have h : (m >>> s) &&& 1 = (m >>> s) % 2 := Nat.and_one_is_mod _
  have h2 : Nat.land (Nat.shiftRight m s) 1 = (m >>> s) % 2 := h
  have h3 : 1 &&& (m >>> s) = (m >>> s) % 2 := by rw [Nat.and_comm]; exact h
  rw [h2, h3]
  have : (m >>> s) % 2 < 2 := Nat.mod_lt _ (by omega)
  rcases (show (m >>> s) % 2 = 0 ∨ (m >>> s) % 2 = 1 by omega) with e | e <;> rw [e] <;> rfl
def unB (i bi k b : Nat) : Bool := Bool.and (Bool.not (Nat.beq i k)) (Bool.and (Bool.not (tstB bi k)) (Bool.not (tstB b i)))
theorem unB_eq (bs : List Nat) (i k : Nat) : unB i (bs.getD i 0) k (bs.getD k 0) = unord bs i k := by
  unfold unB unord
  rw [tstB_eq, tstB_eq]
  have : (Nat.beq i k) = (i == k) := by rw [Bool.eq_iff_iff]; simp [Nat.beq_eq]
  rw [this]
  simp [Bool.and_assoc, bne]
noncomputable def rowH (i bi : Nat) (l : List Oper) : Nat → List Nat → Nat :=
  List.rec (motive := fun _ => Nat → List Nat → Nat) (fun _ _ => 0) (fun o _ ih k bs =>
    match bs with
    | [] => 0
    | b :: bs =>
      match o.dst with
      | some s => Bool.rec (motive := fun _ => Nat) (ih (Nat.succ k) bs) (Nat.lor (ih (Nat.succ k) bs) (Nat.shiftLeft 1 s)) (unB i bi k b)
      | none => ih (Nat.succ k) bs) l
theorem rowH_eq {bs : List Nat} {i : Nat} : ∀ (l : List Oper) (k : Nat) (r : List Nat), l.length ≤ r.length → (∀ j, j < r.length → r[j]? = some (bs.getD (k + j) 0)) → rowH i (bs.getD i 0) l k r = hidM bs i k l
  | [], _, _, _, _ => rfl
  | o :: l, k, [], h, _ => by simp at h
  | o :: l, k, b :: r, hl, hr => by
    have ih := rowH_eq (bs := bs) (i := i) l (k + 1) r (by simpa using hl) fun j hj => by
      have := hr (j + 1) (by simp; omega)
      rw [show k + (j + 1) = k + 1 + j by omega] at this
      simpa using this
    have hb : b = bs.getD k 0 := by have := hr 0 (by simp); simpa using this
    show (match o.dst with
      | some s => Bool.rec (motive := fun _ => Nat) (rowH i (bs.getD i 0) l (k + 1) r) (Nat.lor (rowH i (bs.getD i 0) l (k + 1) r) (Nat.shiftLeft 1 s)) (unB i (bs.getD i 0) k b)
      | none => rowH i (bs.getD i 0) l (k + 1) r) = _
    rw [ih, hb, unB_eq, hidM]
    cases o.dst with
    | none => rfl
    | some s => cases unord bs i k <;> rfl
noncomputable def rowU (i bi : Nat) (l : List Nat) : Nat → Nat :=
  List.rec (motive := fun _ => Nat → Nat) (fun _ => 0) (fun b _ ih k => Bool.rec (motive := fun _ => Nat) (ih (Nat.succ k)) (Nat.lor (ih (Nat.succ k)) (Nat.shiftLeft 1 k)) (unB i bi k b)) l
theorem rowU_bit {bs : List Nat} {i m : Nat} : ∀ (r : List Nat) (k : Nat), (∀ j, j < r.length → r[j]? = some (bs.getD (k + j) 0)) → k ≤ m → m < k + r.length → unord bs i m = true → (rowU i (bs.getD i 0) r k).testBit m = true
  | [], k, _, h1, h2, _ => by simp at h2; omega
  | b :: r, k, hr, h1, h2, hu => by
    have hb : b = bs.getD k 0 := by have := hr 0 (by simp); simpa using this
    show (Bool.rec (motive := fun _ => Nat) (rowU i (bs.getD i 0) r (k + 1)) (rowU i (bs.getD i 0) r (k + 1) ||| (1 <<< k)) (unB i (bs.getD i 0) k b)).testBit m = true
    rw [hb, unB_eq]
    by_cases e : m = k
    · subst e
      rw [hu]
      show (_ ||| (1 <<< m)).testBit m = true
      rw [Nat.testBit_or, Nat.one_shiftLeft, Nat.testBit_two_pow]
      simp
    · have ih := rowU_bit (bs := bs) (i := i) (m := m) r (k + 1) (fun j hj => by
        have := hr (j + 1) (by simp; omega)
        rw [show k + (j + 1) = k + 1 + j by omega] at this
        simpa using this) (by omega) (by simp at h2; omega) hu
      cases unord bs i k with
      | false => exact ih
      | true =>
        show (_ ||| (1 <<< k)).testBit m = true
        rw [Nat.testBit_or, ih]; rfl
/-- Are these the masks? -/
noncomputable def rowsB (all : List Oper) (bs : List Nat) (l : List Oper) : Nat → List Nat → List Nat → List Nat → Bool :=
  List.rec (motive := fun _ => Nat → List Nat → List Nat → List Nat → Bool) (fun _ _ hms ums => Bool.and (Nat.beq (lenR hms) 0) (Nat.beq (lenR ums) 0)) (fun o _ ih i r hms ums =>
    match r, hms, ums with
    | b :: r, hm :: hms, um :: ums =>
      Bool.and (Nat.beq hm (rowH i b all 0 bs)) (Bool.and (Nat.beq um (Bool.rec (motive := fun _ => Nat) (rowU i b bs 0) (Nat.shiftLeft 1 i) (freeOp o.op))) (ih (Nat.succ i) r hms ums))
    | _, _, _ => false) l
theorem rowsB_ok {all : List Oper} {bs : List Nat} (hlen : all.length = bs.length) : ∀ (l : List Oper) (i : Nat) (r hms ums : List Nat), (∀ j, j < r.length → r[j]? = some (bs.getD (i + j) 0)) → rowsB all bs l i r hms ums = true →
    hms = hidMs bs all i l ∧ ∀ (j um : Nat) (o : Oper), l[j]? = some o → ums[j]? = some um → um = (if freeOp o.op = true then 1 <<< (i + j) else rowU (i + j) (bs.getD (i + j) 0) bs 0)
  | [], i, r, hms, ums, _, h => by
    have h' : (Nat.beq (lenR hms) 0 && Nat.beq (lenR ums) 0) = true := h
    rw [Bool.and_eq_true, lenR_eq, lenR_eq] at h'
    have h1 := Nat.eq_of_beq_eq_true h'.1
    refine ⟨?_, fun j um o hj => by simp at hj⟩
    rw [List.length_eq_zero_iff.1 h1]; rfl
  | o :: l, i, [], hms, ums, _, h => by cases h
  | o :: l, i, b :: r, [], ums, _, h => by cases h
  | o :: l, i, b :: r, hm :: hms, [], _, h => by cases h
  | o :: l, i, b :: r, hm :: hms, um :: ums, hr, h => by
    have h' : (Nat.beq hm (rowH i b all 0 bs) && (Nat.beq um (Bool.rec (motive := fun _ => Nat) (rowU i b bs 0) (Nat.shiftLeft 1 i) (freeOp o.op)) && rowsB all bs l (i + 1) r hms ums)) = true := h
    rw [Bool.and_eq_true, Bool.and_eq_true] at h'
    obtain ⟨h1, h2, h3⟩ := h'
    have hb : b = bs.getD i 0 := by have := hr 0 (by simp); simpa using this
    obtain ⟨e1, e2⟩ := rowsB_ok hlen l (i + 1) r hms ums (fun j hj => by
      have := hr (j + 1) (by simp; omega)
      rw [show i + (j + 1) = i + 1 + j by omega] at this
      simpa using this) h3
    refine ⟨?_, fun j um' o' hj hu => ?_⟩
    · rw [e1, Nat.eq_of_beq_eq_true h1, hb, rowH_eq all 0 bs (by omega) (fun j hj => by rw [Nat.zero_add, List.getD_eq_getElem?_getD, List.getElem?_eq_getElem hj]; rfl)]
      rfl
    · cases j with
      | zero =>
        simp at hj hu
        subst hj; subst hu
        rw [Nat.eq_of_beq_eq_true h2, hb]
        cases freeOp o.op <;> rfl
      | succ j =>
        rw [show i + (j + 1) = i + 1 + j by omega]
        exact e2 j um' o' (by simpa using hj) (by simpa using hu)
noncomputable def masksB (ops : Array Oper) (hms ums : List Nat) : Bool := listK natK (bsOf ops) fun bs => rowsB ops.toList bs ops.toList 0 bs hms ums

/-! ### How a region that draws its order is reckoned -/
inductive Mode where
  | dyn
  | quiet
  | tail (k : Nat)
  | gen (n : Nat)
  | chain (hms ums : List Nat)
noncomputable def assoc {α : Type} (d : α) (l : List (Nat × α)) (n : Nat) : α :=
  List.rec (motive := fun _ => α) d (fun p _ ih => Bool.rec (motive := fun _ => α) ih p.2 (Nat.beq p.1 n)) l
theorem assoc_cons {α : Type} (d : α) (p : Nat × α) (l : List (Nat × α)) (n : Nat) : assoc d (p :: l) n = if Nat.beq p.1 n = true then p.2 else assoc d l n := by
  show Bool.rec (motive := fun _ => α) (assoc d l n) p.2 (Nat.beq p.1 n) = _
  cases Nat.beq p.1 n <;> rfl
noncomputable def okM (ops : Array Oper) : Mode → Bool
  | .dyn => true
  | .quiet => Region.lexB .any ops
  | .tail k => Region.lexTailB .any ops k
  | .gen n => fwdB ops && decide (n ≤ ops.size) && nodupD (ops.toList.take n) && (decide (n = ops.size) || tailB ops n)
  | .chain hms ums => fwdB ops && nodupD ops.toList && masksB ops hms ums
abbrev RM := List (Nat × Mode)
abbrev VM := List (Nat × RM)
noncomputable def goodC (m : RM) : Code → Bool
  | .region id ops true => okM ops (assoc .dyn m id)
  | .seq a b => goodC m a && goodC m b
  | .cond _ x y => goodC m x && goodC m y
  | .block _ b => goodC m b
  | .loop b => goodC m b
  | .scope b => goodC m b
  | _ => true
theorem goodC_nil : ∀ c : Code, goodC [] c = true
  | .region _ ops true => rfl
  | .region _ ops false => rfl
  | .seq a b => by rw [goodC, goodC_nil a, goodC_nil b]; rfl
  | .cond _ x y => by rw [goodC, goodC_nil x, goodC_nil y]; rfl
  | .block _ b => by rw [goodC, goodC_nil b]
  | .loop b => by rw [goodC, goodC_nil b]
  | .scope b => by rw [goodC, goodC_nil b]
  | .skip => rfl
  | .label _ => rfl
  | .exit _ => rfl
  | .ret => rfl
  | .rangeFunc .. => rfl
  | .goto _ => rfl
  | .refuse _ => rfl
noncomputable def goodF (P : Program) (p : Nat × RM) : Bool :=
  match P.funcs[p.1]? with
  | some fn => (match fn.body with | some c => goodC p.2 c | none => true)
  | none => true
theorem good_get {P : Program} : ∀ {V : VM}, (∀ p ∈ V, goodF P p = true) → ∀ {f : Nat} {fn : Func} {c : Code}, P.funcs[f]? = some fn → fn.body = some c → goodC (assoc [] V f) c = true
  | [], _, f, fn, c, _, _ => goodC_nil c
  | p :: V, h, f, fn, c, hf, hb => by
    rw [assoc_cons]
    split
    · rename_i he
      have e : p.1 = f := Nat.eq_of_beq_eq_true he
      have := h p (by simp)
      unfold goodF at this
      rw [e, hf] at this
      simp only [hb] at this
      exact this
    · exact good_get (fun q hq => h q (by simp [hq])) hf hb

noncomputable def evGenS (P : Program) (call : CallF) (ops : Array Oper) (n : Nat) (fr : List AV) (H : AH) (lo : Nat) : Option (List AV × AH × Nat) :=
    match genLex P call ops (ops.toList.take n) (bsOf ops) (allocs 0 (ops.toList.take n)) H.length 0 (ops.toList.take n) fr (H ++ List.replicate (allocs 0 (ops.toList.take n)).length .dead) [] with
    | none => none
    | some recs =>
      if genChk ops (ops.toList.take n) (bsOf ops) (allocs 0 (ops.toList.take n)) H.length recs 0 (ops.toList.take n) recs fr (H ++ List.replicate (allocs 0 (ops.toList.take n)).length .dead) then
        evOps P call ops (ops.toList.drop n) (frD ops n recs fr allD) (HD ops n recs H allD) (lows recs lo)
      else none
theorem evGenS_eq {P : Program} {call : CallF} {ops : Array Oper} {n : Nat} (h : okM ops (.gen n) = true) {fr : List AV} {H : AH} {lo : Nat} : evGen P call ops n fr H lo = evGenS P call ops n fr H lo := by
  simp only [okM] at h
  unfold evGen
  rw [if_pos h]
  rfl
noncomputable def evDrawM (P : Program) (call : CallF) (ops : Array Oper) (m : Mode) (fr : List AV) (H : AH) (lo : Nat) : Option (List AV × AH × Nat) :=
  match m with
  | .dyn => evDraw P call ops fr H lo
  | .quiet =>
    match evQuiet P call ops ops.toList fr H with
    | some fr' => some (fr', H, lo)
    | none => none
  | .tail k =>
    match evQuiet P call ops (ops.toList.take k) fr H with
    | none => none
    | some fr1 => evOps P call ops (ops.toList.drop k) fr1 H lo
  | .gen n => evGenS P call ops n fr H lo
  | .chain _ _ => evChain P call ops fr H lo

noncomputable def evCallM (E : Env) (V : VM) (rec : RM → Code → List AV → AH → Nat → Option (AEx × List AV × AH × Nat)) : CallF := fun f args H =>
  match E.orc f args H with
  | some r => some r
  | none =>
    match E.P.funcs[f]? with
    | none => none
    | some fn =>
      match fn.body with
      | none => none
      | some c =>
        match rec (assoc [] V f) c (args ++ List.replicate (fn.ntmps - args.length) (.tuple [])) H H.length with
        | some (.exit _, _, _, _) => none
        | some (_, fr, H', lo) =>
          match aresults E.P fr H' fn.results.toList with
          | some vs => if lo = H.length ∧ (oneOf vs).flat = true then some (oneOf vs, none) else some (oneOf vs, some (H', lo))
          | none => none
        | none => none

noncomputable def evM (E : Env) (V : VM) : Nat → RM → Code → List AV → AH → Nat → Option (AEx × List AV × AH × Nat)
  | 0, _, _, _, _, _ => none
  | n + 1, m, c, fr, H, lo =>
    match c with
    | .skip => some (.normal, fr, H, lo)
    | .label _ => some (.normal, fr, H, lo)
    | .region _ ops false =>
      match evOps E.P (evCallM E V (evM E V n)) ops ops.toList fr H lo with
      | some (fr', H', lo') => some (.normal, fr', H', lo')
      | none => none
    | .region id ops true =>
      match evDrawM E.P (evCallM E V (evM E V n)) ops (assoc .dyn m id) fr H lo with
      | some (fr', H', lo') => some (.normal, fr', H', lo')
      | none => none
    | .seq a b =>
      match evM E V n m a fr H lo with
      | some (.normal, fr', H', lo') => evM E V n m b fr' H' lo'
      | r => r
    | .cond c x y =>
      match aeval fr c with
      | .bool true => evM E V n m x fr H lo
      | .bool false => evM E V n m y fr H lo
      | _ => none
    | .block id b =>
      match evM E V n m b fr H lo with
      | some (.exit i, fr', H', lo') => if i = id then some (.normal, fr', H', lo') else some (.exit i, fr', H', lo')
      | r => r
    | .loop b =>
      match evM E V n m b fr H lo with
      | some (.normal, fr', H', lo') => evM E V n m (.loop b) fr' H' lo'
      | r => r
    | .exit id => some (.exit id, fr, H, lo)
    | .scope b => evM E V n m b fr H lo
    | .ret => some (.ret, fr, H, lo)
    | _ => none
section
variable {P : Program} {w0 : Base} {w : World} {φ : List Loc} {H : AH}

def RecOkM (P : Program) (rec : RM → Code → List AV → AH → Nat → Option (AEx × List AV × AH × Nat)) : Prop :=
  ∀ m c, goodC m c = true → ∀ fr H lo ex fr' H' lo', rec m c fr H lo = some (ex, fr', H', lo') → (lo' ≤ lo ∧ Keeps lo' H H') ∧
    ∀ (w0 : Base) (φ : List Loc) (w : World) (a : Act) (Q : Exit → Act → World → Prop), VRs φ fr a.tmps.toList → a.defers = [] → Rel w0 φ H w →
      (∀ φ' a' w', Ext φ φ' → VRs φ' fr' a'.tmps.toList → a'.defers = [] → Rel w0 φ' H' w' → Q ex.to a' w') → c.wp P Q a w
theorem evDraw_okR {P : Program} {call : CallF} (hP : P.funcs.all (fun fn => !(fn.name == "runtime.NumGoroutine")) = true) (hm : P.follows .mixedOrders = true) (hC : CallOk P call) {id : Nat} {ops : Array Oper} {fr fr1 : List AV} {H H1 : AH} {lo lo1 : Nat} (he : evDraw P call ops fr H lo = some (fr1, H1, lo1)) :
    (lo1 ≤ lo ∧ Keeps lo1 H H1) ∧ ∀ (w0 : Base) (φ : List Loc) (w : World) (a : Act) (Q : Exit → Act → World → Prop), VRs φ fr a.tmps.toList → a.defers = [] → Rel w0 φ H w →
      (∀ φ' a' w', Ext φ φ' → VRs φ' fr1 a'.tmps.toList → a'.defers = [] → Rel w0 φ' H1 w' → Q .normal a' w') → (Code.region id ops true).wp P Q a w := by
  unfold evDraw at he
  split at he
  · exact ⟨evGen_keeps hC he, fun w0 φ w a Q ha hd hr hQ => evGen_ok hP hm hC he ha hd hr hQ⟩
  · unfold evDraw0 at he
    split at he
    · rename_i fr2 hq
      cases he
      split at hq
      · rename_i hqb
        simp only [stillB, Bool.and_eq_true] at hqb
        refine ⟨⟨Nat.le_refl _, Keeps.refl _ _⟩, fun w0 φ w a Q ha hd hr hQ => ?_⟩
        exact wp_region_quiet (C := fun w' => Rel w0 φ H w') hm hqb.1 hr.drew
          (evQuiet_ok (w := w) hP hC _ hq ha hd hr fun a' ha' hd' => fun w' hr' => hQ φ a' w' (Ext.refl _) ha' hd' hr')
      · cases hq
    · split at he
      · split at he
        · cases he
        · exact ⟨evGen_keeps hC he, fun w0 φ w a Q ha hd hr hQ => evGen_ok hP hm hC he ha hd hr hQ⟩
      · rename_i k hk
        have hk' : tailAt ops = some k := by
          unfold tailQ at hk
          split at hk
          · rename_i k' hk'
            split at hk
            · cases hk
            · cases hk; exact hk'
          · cases hk
        have hB : Region.lexTailB .any ops k = true := by simpa using List.find?_some hk'
        split at he
        · cases he
        · rename_i fr2 hq
          refine ⟨evOps_keeps hC _ he, fun w0 φ w a Q ha hd hr hQ => ?_⟩
          exact wp_region_quiet_tail (C := fun w' => Rel w0 φ H w') k hm hB hr.drew
            (evQuiet_ok (w := w) hP hC _ hq ha hd hr fun a' ha' hd' => fun w' hr' => evOps_ok hP hC _ he ha' hd' hr' hQ)
theorem evCallM_ok {E : Env} {V : VM} (hV : ∀ p ∈ V, goodF E.P p = true) (hO : CallOk E.P E.orc) {rec : RM → Code → List AV → AH → Nat → Option (AEx × List AV × AH × Nat)} (hR : RecOkM E.P rec) : CallOk E.P (evCallM E V rec) := by
  intro f args H v ch h
  unfold evCallM at h
  split at h
  · rename_i r ho
    cases h
    exact hO f args H v ch ho
  · split at h
    · cases h
    · rename_i fn hf
      split at h
      · cases h
      · rename_i c hb
        split at h
        · cases h
        · rename_i ex fr H' lo hne hrec
          obtain ⟨⟨hlo, hkeep⟩, hwp⟩ := hR _ _ (good_get hV hf hb) _ _ _ _ _ _ _ hrec
          split at h
          · rename_i vs hvs
            have hcall : ∀ (R : Base → List Loc → World → Ending → World → Prop),
                (∀ w0 φ w u φ' w', Rel w0 φ H w → Ext φ φ' → VR φ' (oneOf vs) u → Rel w0 φ' H' w' → R w0 φ w (.returned u) w') →
                ∀ w0 φ w us, Rel w0 φ H w → VRs φ args us.toList → Calls E.P f us w (R w0 φ w) := by
              intro R hRR w0 φ w us hr hargs
              refine calls_of_wp hf hb ?_
              have hlen := hargs.length
              simp only [Array.length_toList] at hlen
              refine hwp w0 φ w _ _ ?_ rfl hr ?_
              · show VRs φ _ (us ++ Array.replicate (fn.ntmps - us.size) undef).toList
                rw [Array.toList_append, Array.toList_replicate, hlen]
                exact hargs.append (VRs.replicate _ (.tuple .nil))
              · intro φ' a' w' hx ha' hd' hr'
                obtain ⟨u, h1, h2⟩ := results_ok (P := E.P) hr' ha' hvs
                have hfin := hRR w0 φ w u φ' w' hr hx h1 hr'
                cases ex with
                | normal => exact ⟨hd', u, h2, hfin⟩
                | ret => exact ⟨hd', u, h2, hfin⟩
                | exit id => first | exact (hne _ rfl).elim | exact (hne _ _ rfl).elim
            split at h
            · rename_i hc
              obtain ⟨hc1, hc2⟩ := hc
              cases h
              refine ⟨?_, fun H'' lo'' hch => by cases hch⟩
              refine hcall (fun w0 φ w => CallPost w0 φ H (oneOf vs) none) ?_
              intro w0 φ w u φ' w' hr hx hv hr'
              subst hc1
              exact ⟨u, φ, rfl, Ext.refl _, VR.flat φ hc2 hv, rfl, hr.restrict hx hkeep hr'⟩
            · cases h
              refine ⟨?_, fun H'' lo'' hch => by cases hch; exact hkeep⟩
              refine hcall (fun w0 φ w => CallPost w0 φ H (oneOf vs) (some (H', lo))) ?_
              intro w0 φ w u φ' w' hr hx hv hr'
              exact ⟨u, φ', rfl, hx, hv, hr'⟩
          · cases h
        · cases h

theorem loopM_ok {E : Env} {V : VM} {md : RM} {b : Code} (hg : goodC md b = true) : ∀ (n : Nat), (∀ m, m < n → RecOkM E.P (evM E V m)) → ∀ fr H lo ex fr' H' lo', evM E V n md (.loop b) fr H lo = some (ex, fr', H', lo') → (lo' ≤ lo ∧ Keeps lo' H H') ∧
    ∀ (w0 : Base) (φ : List Loc) (w : World) (a : Act) (Q : Exit → Act → World → Prop), VRs φ fr a.tmps.toList → a.defers = [] → Rel w0 φ H w →
      (∀ φ' a' w', Ext φ φ' → VRs φ' fr' a'.tmps.toList → a'.defers = [] → Rel w0 φ' H' w' → Q ex.to a' w') → Code.rounds E.P b Q n a w := by
  intro n
  induction n with
  | zero => intro _ fr H lo ex fr' H' lo' h; simp [evM] at h
  | succ n ih =>
    intro hall fr H lo ex fr' H' lo' h
    simp only [evM] at h
    split at h
    · rename_i fr1 H1 lo1 he
      obtain ⟨⟨l1, k1⟩, w1⟩ := hall n (by omega) _ _ hg _ _ _ _ _ _ _ he
      obtain ⟨⟨l2, k2⟩, w2⟩ := ih (fun m hm => hall m (by omega)) _ _ _ _ _ _ _ h
      refine ⟨⟨by omega, (k1.mono l2).trans k2⟩, fun w0 φ w ac Q ha hd hr hQ => ?_⟩
      rw [rounds_succ]
      exact w1 w0 φ w ac _ ha hd hr fun φ' a' w' hx ha' hd' hr' => w2 w0 φ' w' a' _ ha' hd' hr' fun φ2 a2 w2 hx2 => hQ φ2 a2 w2 (hx.trans hx2)
    · rename_i hne
      obtain ⟨k1, w1⟩ := hall n (by omega) _ _ hg _ _ _ _ _ _ _ h
      refine ⟨k1, fun w0 φ w ac Q ha hd hr hQ => ?_⟩
      rw [rounds_succ]
      refine w1 w0 φ w ac _ ha hd hr fun φ' a' w' hx ha' hd' hr' => ?_
      cases ex with
      | normal => exact absurd h (hne _ _ _)
      | exit id => exact hQ φ' a' w' hx ha' hd' hr'
      | ret => exact hQ φ' a' w' hx ha' hd' hr'

theorem evM_ok {E : Env} {V : VM} (hV : ∀ p ∈ V, goodF E.P p = true) (hP : E.P.funcs.all (fun fn => !(fn.name == "runtime.NumGoroutine")) = true) (hm : E.P.follows .mixedOrders = true) (hO : CallOk E.P E.orc) : ∀ n, RecOkM E.P (evM E V n) := by
  intro n
  induction n using Nat.strongRecOn with
  | _ n all =>
  cases n with
  | zero => intro m c hg fr H lo ex fr' H' lo' h; simp [evM] at h
  | succ n =>
    have ih := all n (Nat.lt_succ_self n)
    have hC := evCallM_ok hV hO ih
    intro m c hg fr H lo ex fr' H' lo' h
    cases c with
    | skip =>
      simp only [evM] at h; cases h
      exact ⟨⟨Nat.le_refl _, Keeps.refl _ _⟩, fun w0 φ w a Q ha hd hr hQ => wp_skip (hQ φ a w (Ext.refl _) ha hd hr)⟩
    | label l =>
      simp only [evM] at h; cases h
      exact ⟨⟨Nat.le_refl _, Keeps.refl _ _⟩, fun w0 φ w a Q ha hd hr hQ => wp_label (hQ φ a w (Ext.refl _) ha hd hr)⟩
    | region id ops draw =>
      cases draw with
      | false =>
        simp only [evM] at h
        split at h
        · rename_i fr1 H1 lo1 he
          cases h
          exact ⟨evOps_keeps hC _ he, fun w0 φ w a Q ha hd hr hQ => wp_region_list (evOps_ok hP hC _ he ha hd hr hQ)⟩
        · cases h
      | true =>
        simp only [evM] at h
        split at h
        · rename_i fr1 H1 lo1 he
          cases h
          have hg' : okM ops (assoc .dyn m id) = true := hg
          revert hg' he
          generalize assoc Mode.dyn m id = md
          intro he hg'
          cases md with
          | dyn =>
            exact evDraw_okR hP hm hC he
          | quiet =>
            simp only [evDrawM] at he
            split at he
            · rename_i fr2 hq
              cases he
              refine ⟨⟨Nat.le_refl _, Keeps.refl _ _⟩, fun w0 φ w a Q ha hd hr hQ => ?_⟩
              exact wp_region_quiet (C := fun w' => Rel w0 φ H w') hm hg' hr.drew
                (evQuiet_ok (w := w) hP hC _ hq ha hd hr fun a' ha' hd' => fun w' hr' => hQ φ a' w' (Ext.refl _) ha' hd' hr')
            · cases he
          | tail k =>
            simp only [evDrawM] at he
            split at he
            · cases he
            · rename_i fr2 hq
              refine ⟨evOps_keeps hC _ he, fun w0 φ w a Q ha hd hr hQ => ?_⟩
              exact wp_region_quiet_tail (C := fun w' => Rel w0 φ H w') k hm hg' hr.drew
                (evQuiet_ok (w := w) hP hC _ hq ha hd hr fun a' ha' hd' => fun w' hr' => evOps_ok hP hC _ he ha' hd' hr' hQ)
          | gen n =>
            simp only [evDrawM] at he
            rw [← evGenS_eq hg'] at he
            exact ⟨evGen_keeps hC he, fun w0 φ w a Q ha hd hr hQ => evGen_ok hP hm hC he ha hd hr hQ⟩
          | chain hms ums =>
            simp only [evDrawM] at he
            simp only [okM, Bool.and_eq_true] at hg'
            exact ⟨evChain_keeps hC hg'.1.1 hg'.1.2 he, fun w0 φ w a Q ha hd hr hQ => evChain_ok hP hm hC hg'.1.1 hg'.1.2 he ha hd hr hQ⟩
        · cases h
    | seq a b =>
      simp only [evM] at h
      simp only [goodC, Bool.and_eq_true] at hg
      split at h
      · rename_i fr1 H1 lo1 he
        obtain ⟨⟨l1, k1⟩, w1⟩ := ih _ _ hg.1 _ _ _ _ _ _ _ he
        obtain ⟨⟨l2, k2⟩, w2⟩ := ih _ _ hg.2 _ _ _ _ _ _ _ h
        refine ⟨⟨by omega, (k1.mono l2).trans k2⟩, fun w0 φ w ac Q ha hd hr hQ => wp_seq ?_⟩
        exact w1 w0 φ w ac _ ha hd hr fun φ' a' w' hx ha' hd' hr' => w2 w0 φ' w' a' _ ha' hd' hr' fun φ2 a2 w2 hx2 => hQ φ2 a2 w2 (hx.trans hx2)
      · rename_i hne
        obtain ⟨k1, w1⟩ := ih _ _ hg.1 _ _ _ _ _ _ _ h
        refine ⟨k1, fun w0 φ w ac Q ha hd hr hQ => wp_seq ?_⟩
        refine w1 w0 φ w ac _ ha hd hr fun φ' a' w' hx ha' hd' hr' => ?_
        cases ex with
        | normal => exact absurd h (hne _ _ _)
        | exit id => exact hQ φ' a' w' hx ha' hd' hr'
        | ret => exact hQ φ' a' w' hx ha' hd' hr'
    | cond c x y =>
      simp only [evM] at h
      simp only [goodC, Bool.and_eq_true] at hg
      split at h
      · rename_i hc
        obtain ⟨k1, w1⟩ := ih _ _ hg.1 _ _ _ _ _ _ _ h
        refine ⟨k1, fun w0 φ w ac Q ha hd hr hQ => ?_⟩
        have hv := aeval_ok ha c
        rw [hc] at hv
        generalize hcu : ac.eval c = cu at hv
        cases hv
        exact wp_cond_true hcu (w1 w0 φ w ac _ ha hd hr hQ)
      · rename_i hc
        obtain ⟨k1, w1⟩ := ih _ _ hg.2 _ _ _ _ _ _ _ h
        refine ⟨k1, fun w0 φ w ac Q ha hd hr hQ => ?_⟩
        have hv := aeval_ok ha c
        rw [hc] at hv
        generalize hcu : ac.eval c = cu at hv
        cases hv
        exact wp_cond_false hcu (w1 w0 φ w ac _ ha hd hr hQ)
      · cases h
    | block id b =>
      simp only [evM] at h
      split at h
      · rename_i i fr1 H1 lo1 he
        obtain ⟨k1, w1⟩ := ih _ _ (show goodC m b = true from hg) _ _ _ _ _ _ _ he
        split at h
        · rename_i hi
          cases h
          refine ⟨k1, fun w0 φ w ac Q ha hd hr hQ => wp_block ?_⟩
          refine w1 w0 φ w ac _ ha hd hr fun φ' a' w' hx ha' hd' hr' => ?_
          have := hQ φ' a' w' hx ha' hd' hr'
          simpa [Exit.inBlock, AEx.to, hi] using this
        · rename_i hi
          cases h
          refine ⟨k1, fun w0 φ w ac Q ha hd hr hQ => wp_block ?_⟩
          refine w1 w0 φ w ac _ ha hd hr fun φ' a' w' hx ha' hd' hr' => ?_
          have := hQ φ' a' w' hx ha' hd' hr'
          simpa [Exit.inBlock, AEx.to, hi] using this
      · rename_i hne
        obtain ⟨k1, w1⟩ := ih _ _ (show goodC m b = true from hg) _ _ _ _ _ _ _ h
        refine ⟨k1, fun w0 φ w ac Q ha hd hr hQ => wp_block ?_⟩
        refine w1 w0 φ w ac _ ha hd hr fun φ' a' w' hx ha' hd' hr' => ?_
        have := hQ φ' a' w' hx ha' hd' hr'
        cases ex with
        | normal => exact this
        | exit id => exact absurd h (hne _ _ _ _)
        | ret => exact this
    | loop b =>
      obtain ⟨k1, w1⟩ := loopM_ok (show goodC m b = true from hg) (n + 1) all _ _ _ _ _ _ _ h
      exact ⟨k1, fun w0 φ w ac Q ha hd hr hQ => wp_loop_rounds (n + 1) (w1 w0 φ w ac Q ha hd hr hQ)⟩
    | exit id =>
      simp only [evM] at h; cases h
      exact ⟨⟨Nat.le_refl _, Keeps.refl _ _⟩, fun w0 φ w a Q ha hd hr hQ => wp_exit (hQ φ a w (Ext.refl _) ha hd hr)⟩
    | ret =>
      simp only [evM] at h; cases h
      exact ⟨⟨Nat.le_refl _, Keeps.refl _ _⟩, fun w0 φ w a Q ha hd hr hQ => wp_ret (hQ φ a w (Ext.refl _) ha hd hr)⟩
    | scope b =>
      simp only [evM] at h
      obtain ⟨k1, w1⟩ := ih _ _ (show goodC m b = true from hg) _ _ _ _ _ _ _ h
      refine ⟨k1, fun w0 φ w ac Q ha hd hr hQ => wp_scope_straight ?_⟩
      refine w1 w0 φ w ac _ ha hd hr fun φ' a' w' hx ha' hd' hr' => ?_
      have := hQ φ' a' w' hx ha' hd' hr'
      cases ex <;> exact this
    | rangeFunc f ps as b => simp [evM] at h
    | goto l => simp [evM] at h
    | refuse why => simp [evM] at h
end

/-! ### Over trees -/
noncomputable def sQuiet (P : Program) (call : CallF) (ops : Array Oper) (l : List Oper) : Tr AV → AH → Option (Tr AV) :=
  List.rec (motive := fun _ => Tr AV → AH → Option (Tr AV)) (fun t _ => some t) (fun o _ ih t H =>
    match awantedT ops o t with
    | none => none
    | some false => putT t o.dst (.tuple []) fun t => ih t H
    | some true =>
      match fop P o (aevalT t) H with
      | some (.val v none) => avK v fun v => match v.det with | true => putT t o.dst v fun t => ih t H | false => none
      | _ =>
        match aop P o (aevalT t) H with
        | some (.val v none) => avK v fun v => match v.det with | true => putT t o.dst v fun t => ih t H | false => none
        | some (.call f args) =>
          listK leafK args fun args =>
          match call f args H with
          | some (v, none) => match v.det with | true => putT t o.dst v fun t => ih t H | false => none
          | _ => none
        | _ => none) l
theorem sQuiet_ok {P : Program} {call call' : CallF} (hc : ∀ f args H r, call f args H = some r → call' f args H = some r) {ops : Array Oper} : ∀ (l : List Oper) {t t' : Tr AV} {fr : List AV} {H : AH}, Rep t fr → sQuiet P call ops l t H = some t' →
    ∃ fr', evQuiet P call' ops l fr H = some fr' ∧ Rep t' fr' ∧ Shr t t' := by
  intro l
  induction l with
  | nil => intro t t' fr H hr h; cases h; exact ⟨fr, rfl, hr, Shr.refl t⟩
  | cons o l ih =>
    intro t t' fr H hr h
    have e : sQuiet P call ops (o :: l) t H = (match awantedT ops o t with
      | none => none
      | some false => putT t o.dst (.tuple []) fun t => sQuiet P call ops l t H
      | some true =>
        match fop P o (aevalT t) H with
        | some (.val v none) => avK v fun v => match v.det with | true => putT t o.dst v fun t => sQuiet P call ops l t H | false => none
        | _ =>
          match aop P o (aevalT t) H with
          | some (.val v none) => avK v fun v => match v.det with | true => putT t o.dst v fun t => sQuiet P call ops l t H | false => none
          | some (.call f args) =>
            listK leafK args fun args =>
            match call f args H with
            | some (v, none) => match v.det with | true => putT t o.dst v fun t => sQuiet P call ops l t H | false => none
            | _ => none
          | _ => none) := rfl
    rw [e, awantedT_eq hr, aevalT_eq hr] at h
    simp only [evQuiet]
    have fin : ∀ v, (avK v fun v => match v.det with | true => putT t o.dst v fun t => sQuiet P call ops l t H | false => none) = some t' → v.det = true ∧ ∃ fr', evQuiet P call' ops l (aput fr o.dst v) H = some fr' ∧ Rep t' fr' ∧ Shr t t' := fun v h => by
      rw [avK_eq] at h
      split at h
      · rename_i hd
        obtain ⟨t1, h1, h2, hs⟩ := putT_rep hr o.dst v
        rw [h1] at h
        obtain ⟨fr2, g1, g2, g3⟩ := ih h2 h
        exact ⟨hd, fr2, g1, g2, hs.trans g3⟩
      · cases h
    split at h
    · cases h
    · rename_i hw
      obtain ⟨t1, h1, h2, hs⟩ := putT_rep hr o.dst (.tuple [])
      rw [h1] at h
      rw [hw]
      obtain ⟨fr2, g1, g2, g3⟩ := ih h2 h
      exact ⟨fr2, g1, g2, hs.trans g3⟩
    · rename_i hw
      rw [hw]
      simp only
      split at h
      · rename_i v ha
        rw [fop_eq ha]
        obtain ⟨hd, h3⟩ := fin v h
        simp only [hd, if_true]
        exact h3
      · split at h
        · rename_i v ha
          rw [ha]
          obtain ⟨hd, h3⟩ := fin v h
          simp only [hd, if_true]
          exact h3
        · rename_i f args ha
          rw [ha]
          simp only
          rw [listK_eq (e := leafK) leafK_eq] at h
          split at h
          · rename_i v hcall
            rw [hc _ _ _ _ hcall]
            obtain ⟨hd, h3⟩ := fin v (by rw [avK_eq]; exact h)
            simp only [hd, if_true]
            exact h3
          · cases h
        · cases h
noncomputable def sGen (P : Program) (call : CallF) (ops : Array Oper) (n : Nat) (nt : Nat) (t : Tr AV) (H : AH) (lo : Nat) : Option (Tr AV × AH × Nat) :=
  listK idK (t.list nt 0) fun fr =>
  match evGenS P call ops n fr H lo with
  | some (fr', H', lo') => listK avK fr' fun fr' => if Nat.ble 65536 (lenR fr') || Nat.ble (Nat.succ nt) (lenR fr') then none else natK lo' fun lo' => heapK lo' lo' H' 0 fun H' => some (Tr.ofL fr', H', lo')
  | none => none
noncomputable def sChain (P : Program) (call : CallF) (ops : Array Oper) (nt : Nat) (t : Tr AV) (H : AH) (lo : Nat) : Option (Tr AV × AH × Nat) :=
  listK idK (t.list nt 0) fun fr =>
  match evChain P call ops fr H lo with
  | some (fr', H', lo') => listK avK fr' fun fr' => if Nat.ble 65536 (lenR fr') || Nat.ble (Nat.succ nt) (lenR fr') then none else natK lo' fun lo' => heapK lo' lo' H' 0 fun H' => some (Tr.ofL fr', H', lo')
  | none => none
/-! ### The chain over trees -/
noncomputable def ρM (hm : Nat) (t : Tr AV) : Operand → AV
  | .tmp s => Bool.rec (motive := fun _ => AV) (Option.rec (motive := fun _ => AV) (.tuple []) (fun v => v) (t.get s)) .bad (tstB hm s)
  | x => aeval [] x
theorem ρM_eq {bs : List Nat} {i : Nat} {all : List Oper} {t : Tr AV} {fr : List AV} (h : Rep t fr) : ρM (hidM bs i 0 all) t = gρ all bs i fr := by
  funext x
  cases x with
  | tmp s =>
    show Bool.rec (motive := fun _ => AV) (Option.rec (motive := fun _ => AV) (.tuple []) (fun v => v) (t.get s)) .bad (tstB (hidM bs i 0 all) s) = _
    unfold gρ
    rw [tstB_eq, hidM_bit]
    cases hh : hidB bs i s 0 all with
    | true => simp only [hh, if_true]
    | false =>
      simp only [hh, Bool.false_eq_true, if_false]
      exact congrFun (aevalT_eq h) (.tmp s)
  | _ => rfl
noncomputable def wantM (ops : Array Oper) (o : Oper) (hm : Nat) (t : Tr AV) : Option Bool :=
  match o.guard with
  | none => some true
  | some (j, want) =>
    match (getR ops.toList j).bind (·.dst) with
    | none => some false
    | some s =>
      match tstB hm s with
      | true => none
      | false =>
        match t.get s with
        | none => some false
        | some (.bool b) => some (b == want)
        | some .bad => none
        | some _ => some false
theorem wantM_eq {ops : Array Oper} {bs : List Nat} {i : Nat} {o : Oper} {t : Tr AV} {fr : List AV} (h : Rep t fr) : wantM ops o (hidM bs i 0 ops.toList) t = gwant ops ops.toList bs i o fr := by
  unfold wantM gwant
  cases hg : o.guard with
  | none => rfl
  | some q =>
    obtain ⟨j, want⟩ := q
    simp only [getR_eq, Array.getElem?_toList]
    cases hd : (ops[j]?).bind (·.dst) with
    | none => rfl
    | some s =>
      simp only [tstB_eq, hidM_bit]
      cases hh : hidB bs i s 0 ops.toList with
      | true => rfl
      | false =>
        simp only [Bool.false_eq_true, if_false]
        unfold awanted
        simp only [hg, hd, h s]
        rfl
def setB (m i : Nat) : Nat := Nat.lor m (Nat.shiftLeft 1 i)
theorem setB_bit (m i k : Nat) : (setB m i).testBit k = (m.testBit k || decide (k = i)) := by
  show (m ||| (1 <<< i)).testBit k = _
  rw [Nat.testBit_or, Nat.one_shiftLeft, Nat.testBit_two_pow]
  congr 1
  exact decide_eq_decide.2 eq_comm
noncomputable def sLex (P : Program) (call : CallF) (ops : Array Oper) (l : List Oper) : List Nat → Nat → Tr AV → AH → Nat → Nat → Option (Tr AV × AH × Nat × Nat) :=
  List.rec (motive := fun _ => List Nat → Nat → Tr AV → AH → Nat → Nat → Option (Tr AV × AH × Nat × Nat)) (fun _ _ t H lo em => some (t, H, lo, em)) (fun o _ ih hms i t H lo em =>
    match hms with
    | [] => none
    | hm :: hms =>
      match wantM ops o hm t with
      | none => none
      | some false => putT t o.dst (.tuple []) fun t => ih hms (Nat.succ i) t H lo em
      | some true =>
        match fop P o (ρM hm t) H with
        | some (.val v none) => putT t o.dst v fun t => ih hms (Nat.succ i) t H lo em
        | some (.val v (some (H', wr))) => putT t o.dst v fun t => natK (min lo wr) fun lo => natK (setB em i) fun em => ih hms (Nat.succ i) t H' lo em
        | _ =>
          match aop P o (ρM hm t) H with
          | none => none
          | some (.val v none) => putT t o.dst v fun t => ih hms (Nat.succ i) t H lo em
          | some (.val v (some (H', wr))) => putT t o.dst v fun t => natK wr fun wr => heapK wr (lenR H) H' 0 fun H' => natK (min lo wr) fun lo => natK (setB em i) fun em => ih hms (Nat.succ i) t H' lo em
          | some (.call f args) =>
            listK leafK args fun args =>
            match call f args H with
            | none => none
            | some (v, none) => putT t o.dst v fun t => ih hms (Nat.succ i) t H lo em
            | some (v, some (H', wr)) => putT t o.dst v fun t => natK (min lo wr) fun lo => natK (setB em i) fun em => ih hms (Nat.succ i) t H' lo em) l
noncomputable def allCalm (em : Nat) (ums : List Nat) : Bool := List.rec (motive := fun _ => Bool) true (fun um _ ih => Bool.rec (motive := fun _ => Bool) false ih (Nat.beq (Nat.land em um) 0)) ums
noncomputable def sFast (P : Program) (call : CallF) (ops : Array Oper) (hms ums : List Nat) (t : Tr AV) (H : AH) (lo : Nat) : Option (Tr AV × AH × Nat) :=
  match sLex P call ops ops.toList hms 0 t H lo 0 with
  | some (t', H', lo', em) => Bool.rec (motive := fun _ => Option (Tr AV × AH × Nat)) none (some (t', H', lo')) (allCalm em ums)
  | none => none
theorem updZ_cons (o : Oper) (l : List Oper) (r : Rec) (rs : List Rec) (fr : List AV) : foldD allD 0 (updZ (o :: l) (r :: rs)) fr = foldD allD 0 (updZ l rs) (aput fr o.dst r.v) := by
  simp only [updZ, List.zip_cons_cons, List.map_cons]
  cases hd : o.dst with
  | none => rw [Option.map_none, foldD, foldD_shift]; rfl
  | some s => rw [Option.map_some, foldD, foldD_shift]; rfl
theorem sLex_ok {P : Program} {call call' : CallF} (hc : Grows call call') {ops : Array Oper} {bs : List Nat} : ∀ (l : List Oper) {hms : List Nat} {i : Nat} {t t' : Tr AV} {fr : List AV} {H H' : AH} {lo lo' em em' : Nat},
    hms = hidMs bs ops.toList i l → Rep t fr → sLex P call ops l hms i t H lo em = some (t', H', lo', em') →
    ∃ recs es Hs, cLex P call' ops bs i l fr H lo = some (recs, es, Hs, lo') ∧ Rep t' (foldD allD 0 (updZ l recs) fr) ∧ Shr t t' ∧ (H :: Hs)[Hs.length]? = some H' ∧
      ∀ k, em'.testBit k = (em.testBit k || (decide (i ≤ k) && es.getD (k - i) false)) := by
  intro l
  induction l with
  | nil =>
    intro hms i t t' fr H H' lo lo' em em' hh hr h
    cases h
    exact ⟨[], [], [], rfl, hr, Shr.refl t, rfl, fun k => by simp⟩
  | cons o l ih =>
    intro hms i t t' fr H H' lo lo' em em' hh hr h
    subst hh
    have e : sLex P call ops (o :: l) (hidM bs i 0 ops.toList :: hidMs bs ops.toList (i + 1) l) i t H lo em = (match wantM ops o (hidM bs i 0 ops.toList) t with
      | none => none
      | some false => putT t o.dst (.tuple []) fun t => sLex P call ops l (hidMs bs ops.toList (i + 1) l) (i + 1) t H lo em
      | some true =>
        match fop P o (ρM (hidM bs i 0 ops.toList) t) H with
        | some (.val v none) => putT t o.dst v fun t => sLex P call ops l (hidMs bs ops.toList (i + 1) l) (i + 1) t H lo em
        | some (.val v (some (H', wr))) => putT t o.dst v fun t => natK (min lo wr) fun lo => natK (setB em i) fun em => sLex P call ops l (hidMs bs ops.toList (i + 1) l) (i + 1) t H' lo em
        | _ =>
          match aop P o (ρM (hidM bs i 0 ops.toList) t) H with
          | none => none
          | some (.val v none) => putT t o.dst v fun t => sLex P call ops l (hidMs bs ops.toList (i + 1) l) (i + 1) t H lo em
          | some (.val v (some (H', wr))) => putT t o.dst v fun t => natK wr fun wr => heapK wr (lenR H) H' 0 fun H' => natK (min lo wr) fun lo => natK (setB em i) fun em => sLex P call ops l (hidMs bs ops.toList (i + 1) l) (i + 1) t H' lo em
          | some (.call f args) =>
            listK leafK args fun args =>
            match call f args H with
            | none => none
            | some (v, none) => putT t o.dst v fun t => sLex P call ops l (hidMs bs ops.toList (i + 1) l) (i + 1) t H lo em
            | some (v, some (H', wr)) => putT t o.dst v fun t => natK (min lo wr) fun lo => natK (setB em i) fun em => sLex P call ops l (hidMs bs ops.toList (i + 1) l) (i + 1) t H' lo em) := rfl
    rw [show hidMs bs ops.toList i (o :: l) = hidM bs i 0 ops.toList :: hidMs bs ops.toList (i + 1) l from rfl, e, wantM_eq hr, ρM_eq hr] at h
    -- nothing is changed
    have q0 : ∀ v, cStep P call' ops bs i o fr H = some (v, none) → (putT t o.dst v fun t => sLex P call ops l (hidMs bs ops.toList (i + 1) l) (i + 1) t H lo em) = some (t', H', lo', em') →
        ∃ recs es Hs, cLex P call' ops bs i (o :: l) fr H lo = some (recs, es, Hs, lo') ∧ Rep t' (foldD allD 0 (updZ (o :: l) recs) fr) ∧ Shr t t' ∧ (H :: Hs)[Hs.length]? = some H' ∧
          ∀ k, em'.testBit k = (em.testBit k || (decide (i ≤ k) && es.getD (k - i) false)) := by
      intro v hst h
      obtain ⟨t1, h1, h2, hs⟩ := putT_rep hr o.dst v
      rw [h1] at h
      obtain ⟨recs, es, Hs, g1, g2, g3, g4, g5⟩ := ih rfl h2 h
      refine ⟨⟨v, none⟩ :: recs, false :: es, Hs, by simp only [cLex, hst, g1], by rw [updZ_cons]; exact g2, hs.trans g3, g4, fun k => ?_⟩
      rw [g5 k]
      congr 1
      by_cases hk : i + 1 ≤ k
      · rw [decide_eq_true hk, decide_eq_true (show i ≤ k by omega), show k - i = (k - (i + 1)) + 1 by omega, List.getD_cons_succ]
      · rw [decide_eq_false hk]
        by_cases hk2 : i ≤ k
        · obtain rfl : k = i := by omega
          rw [Nat.sub_self]; simp
        · rw [decide_eq_false hk2]; simp
    have q1 : ∀ v H1 wr, cStep P call' ops bs i o fr H = some (v, some (H1, wr)) → (putT t o.dst v fun t => sLex P call ops l (hidMs bs ops.toList (i + 1) l) (i + 1) t H1 (min lo wr) (setB em i)) = some (t', H', lo', em') →
        ∃ recs es Hs, cLex P call' ops bs i (o :: l) fr H lo = some (recs, es, Hs, lo') ∧ Rep t' (foldD allD 0 (updZ (o :: l) recs) fr) ∧ Shr t t' ∧ (H :: Hs)[Hs.length]? = some H' ∧
          ∀ k, em'.testBit k = (em.testBit k || (decide (i ≤ k) && es.getD (k - i) false)) := by
      intro v H1 wr hst h
      obtain ⟨t1, h1, h2, hs⟩ := putT_rep hr o.dst v
      rw [h1] at h
      obtain ⟨recs, es, Hs, g1, g2, g3, g4, g5⟩ := ih rfl h2 h
      refine ⟨⟨v, none⟩ :: recs, true :: es, H1 :: Hs, by simp only [cLex, hst, g1], by rw [updZ_cons]; exact g2, hs.trans g3, by rw [List.length_cons, List.getElem?_cons_succ]; exact g4, fun k => ?_⟩
      rw [g5 k, setB_bit, Bool.or_assoc]
      congr 1
      by_cases hk : i + 1 ≤ k
      · rw [decide_eq_true hk, decide_eq_true (show i ≤ k by omega), show k - i = (k - (i + 1)) + 1 by omega, List.getD_cons_succ, decide_eq_false (by omega)]
        simp
      · rw [decide_eq_false hk]
        by_cases hk2 : i ≤ k
        · obtain rfl : k = i := by omega
          rw [Nat.sub_self]; simp
        · rw [decide_eq_false hk2, decide_eq_false (by omega)]; simp
    have sw : gwant ops ops.toList bs i o fr = some true → ∀ v ch, aop P o (gρ ops.toList bs i fr) H = some (.val v ch) → cStep P call' ops bs i o fr H = some (v, ch) := fun hw v ch ha => by
      unfold cStep
      rw [hw]
      simp only [ha]
    split at h
    · cases h
    · rename_i hw
      exact q0 (.tuple []) (by unfold cStep; rw [hw]) h
    · rename_i hw
      split at h
      · rename_i v hf
        exact q0 v (sw hw v none (fop_eq hf)) h
      · rename_i v H1 wr hf
        simp only [natK_eq] at h
        exact q1 v H1 wr (sw hw v _ (fop_eq hf)) h
      · split at h
        · cases h
        · rename_i v ha
          exact q0 v (sw hw v none ha) h
        · rename_i v H1 wr ha
          simp only [natK_eq, heapK_eq] at h
          exact q1 v H1 wr (sw hw v _ ha) h
        · rename_i f args ha
          rw [listK_eq (e := leafK) leafK_eq] at h
          split at h
          · cases h
          · rename_i v hcall
            refine q0 v ?_ h
            unfold cStep
            rw [hw]
            simp only [ha]
            exact hc _ _ _ _ hcall
          · rename_i v H1 wr hcall
            simp only [natK_eq] at h
            refine q1 v H1 wr ?_ h
            unfold cStep
            rw [hw]
            simp only [ha]
            exact hc _ _ _ _ hcall
theorem allCalm_ok {em : Nat} : ∀ {ums : List Nat}, allCalm em ums = true → ∀ (j um : Nat), ums[j]? = some um → em &&& um = 0
  | [], _, j, um, hj => by simp at hj
  | u :: ums, h, j, um, hj => by
    have h' : Bool.rec (motive := fun _ => Bool) false (allCalm em ums) (Nat.beq (Nat.land em u) 0) = true := h
    cases hb : Nat.beq (Nat.land em u) 0 with
    | false => rw [hb] at h'; cases h'
    | true =>
      rw [hb] at h'
      cases j with
      | zero => simp at hj; subst hj; exact Nat.eq_of_beq_eq_true hb
      | succ j => exact allCalm_ok h' j um (by simpa using hj)
theorem calm_of {bs : List Nat} {es : List Bool} {i : Nat} : ∀ {n : Nat}, (∀ k, k < n → es.getD k false = true → unord bs i k = false) → calm bs es i n = true
  | 0, _ => rfl
  | n + 1, h => by
    rw [calm, calm_of fun k hk => h k (by omega), Bool.and_true]
    cases he : es.getD n false with
    | false => rfl
    | true => rw [h n (by omega) he]; rfl
theorem cChk_of {P : Program} {call : CallF} {ops : Array Oper} {bs : List Nat} {es : List Bool} {Hs : List AH} {n : Nat} : ∀ (rest : List Oper) (i : Nat) (rs : List Rec) (fr : List AV), rs.length = rest.length →
    (∀ (j : Nat) (o : Oper), rest[j]? = some o → (calm bs es (i + j) n || (freeOp o.op && !(es.getD (i + j) false))) = true) → cChk P call ops bs es Hs n i rest rs fr = true
  | [], _, _, _, _, _ => by simp [cChk]
  | _ :: _, _, [], _, h, _ => by simp at h
  | o :: rest, i, rc :: rs, fr, hl, h => by
    simp only [cChk, Bool.and_eq_true]
    refine ⟨?_, cChk_of rest (i + 1) rs _ (by simpa using hl) fun j o' hj => ?_⟩
    · rw [if_pos (by simpa using h 0 o rfl)]
    · have := h (j + 1) o' (by simpa using hj)
      rwa [show i + (j + 1) = i + 1 + j by omega] at this
theorem sFast_ok {P : Program} {call call' : CallF} (hc : Grows call call') {ops : Array Oper} {hms ums : List Nat} (hg : okM ops (.chain hms ums) = true) {nt : Nat} {t t' : Tr AV} {fr : List AV} {H H' : AH} {lo lo' : Nat} (hr : Rep t fr) (hn : Bound t nt) (h : sFast P call ops hms ums t H lo = some (t', H', lo')) :
    ∃ fr', evChain P call' ops fr H lo = some (fr', H', lo') ∧ Rep t' fr' ∧ Bound t' nt := by
  simp only [okM, Bool.and_eq_true] at hg
  obtain ⟨⟨hf, hnd⟩, hmk⟩ := hg
  unfold masksB at hmk
  rw [listK_eq (e := natK) natK_eq] at hmk
  have hbl : ops.toList.length = (bsOf ops).length := by
    have key : ∀ (l : List Oper) (acc : List Nat), (befAll l acc).length = acc.length + l.length := by
      intro l
      induction l with
      | nil => intro acc; rfl
      | cons o l ih => intro acc; rw [befAll, ih]; simp; omega
    unfold bsOf
    rw [key]; simp
  have hrow : ∀ j, j < (bsOf ops).length → (bsOf ops)[j]? = some ((bsOf ops).getD (0 + j) 0) := fun j hj => by
    rw [Nat.zero_add, List.getD_eq_getElem?_getD, List.getElem?_eq_getElem hj]; rfl
  obtain ⟨hh, hu⟩ := rowsB_ok hbl _ _ _ _ _ hrow hmk
  have hul : ∀ (l : List Oper) (i : Nat) (r hms ums : List Nat), rowsB ops.toList (bsOf ops) l i r hms ums = true → ums.length = l.length := by
    intro l
    induction l with
    | nil =>
      intro i r hms ums h
      have h' : (Nat.beq (lenR hms) 0 && Nat.beq (lenR ums) 0) = true := h
      rw [Bool.and_eq_true, lenR_eq, lenR_eq] at h'
      exact Nat.eq_of_beq_eq_true h'.2
    | cons o l ih =>
      intro i r hms ums h
      cases r with
      | nil => cases h
      | cons b r =>
        cases hms with
        | nil => cases h
        | cons hm hms =>
          cases ums with
          | nil => cases h
          | cons um ums =>
            have h' : (Nat.beq hm (rowH i b ops.toList 0 (bsOf ops)) && (Nat.beq um (Bool.rec (motive := fun _ => Nat) (rowU i b (bsOf ops) 0) (Nat.shiftLeft 1 i) (freeOp o.op)) && rowsB ops.toList (bsOf ops) l (i + 1) r hms ums)) = true := h
            rw [Bool.and_eq_true, Bool.and_eq_true] at h'
            rw [List.length_cons, List.length_cons, ih _ _ _ _ h'.2.2]
  have humlen := hul _ _ _ _ _ hmk
  unfold sFast at h
  split at h
  · rename_i t1 H1 lo1 em hl
    cases hcalm : allCalm em ums with
    | false => rw [hcalm] at h; cases h
    | true =>
      rw [hcalm] at h
      cases h
      obtain ⟨recs, es, Hs, g1, g2, g3, g4, g5⟩ := sLex_ok (bs := bsOf ops) hc ops.toList hh hr hl
      obtain ⟨k1, k2, k3, k4⟩ := cLex_ok _ _ _ _ _ _ _ _ _ g1
      refine ⟨_, ?_, g2, hn.shr g3⟩
      unfold evChain
      rw [g1]
      simp only
      rw [if_pos, g4]
      · rfl
      · refine cChk_of _ _ _ _ k1 fun j o hj => ?_
        rw [Nat.zero_add]
        cases hfo : freeOp o.op with
        | false =>
          rw [Bool.false_and, Bool.or_false]
          have hjl : j < ums.length := by rw [humlen]; exact lt_of_some hj
          have hue := hu j _ o hj (List.getElem?_eq_getElem hjl)
          have hum := allCalm_ok hcalm j _ (List.getElem?_eq_getElem hjl)
          rw [hue, hfo, Nat.zero_add] at hum
          simp only [Bool.false_eq_true, if_false] at hum
          refine calm_of fun k hk he => ?_
          cases hun : unord (bsOf ops) j k with
          | false => rfl
          | true =>
            have hb := rowU_bit (bs := bsOf ops) (i := j) (m := k) (bsOf ops) 0 hrow (by omega) (by rw [← hbl]; simpa using hk) hun
            have he' : em.testBit k = true := by
              rw [g5 k, Nat.sub_zero, he]
              simp
            have hz : (em &&& rowU j ((bsOf ops).getD j 0) (bsOf ops) 0).testBit k = false := by rw [hum, Nat.zero_testBit]
            rw [Nat.testBit_and, he', hb] at hz
            cases hz
        | true =>
          have hjl : j < ums.length := by rw [humlen]; exact lt_of_some hj
          have hue := hu j _ o hj (List.getElem?_eq_getElem hjl)
          have hum := allCalm_ok hcalm j _ (List.getElem?_eq_getElem hjl)
          rw [hue, hfo, Nat.zero_add] at hum
          simp only [if_true] at hum
          cases hej : es.getD j false with
          | false => simp
          | true =>
            exfalso
            have he' : em.testBit j = true := by
              rw [g5 j, Nat.sub_zero, hej]
              simp
            have := congrArg (fun m => m.testBit j) hum
            simp [Nat.testBit_and, he'] at this
  · cases h
noncomputable def sDraw (P : Program) (call : CallF) (ops : Array Oper) (m : Mode) (nt : Nat) (t : Tr AV) (H : AH) (lo : Nat) : Option (Tr AV × AH × Nat) :=
  match m with
  | .dyn => tDraw P call ops nt t H lo
  | .quiet =>
    match sQuiet P call ops ops.toList t H with
    | some t' => some (t', H, lo)
    | none => none
  | .tail k =>
    match sQuiet P call ops (ops.toList.take k) t H with
    | none => none
    | some t1 => tOps P call ops (ops.toList.drop k) t1 H lo
  | .gen n => sGen P call ops n nt t H lo
  | .chain hms ums =>
    match sFast P call ops hms ums t H lo with
    | some r => some r
    | none => sChain P call ops nt t H lo
theorem evGenS_grows {P : Program} {a b : CallF} (hg : Grows a b) {ops : Array Oper} {n : Nat} {fr : List AV} {H : AH} {lo : Nat} {r : List AV × AH × Nat} (h : evGenS P a ops n fr H lo = some r) : evGenS P b ops n fr H lo = some r := by
  unfold evGenS at h ⊢
  split at h
  · cases h
  · rename_i recs hl
    rw [genLex_grows hg _ hl]
    simp only
    split at h
    · rename_i hk
      rw [if_pos hk]
      exact evOps_grows hg _ h
    · cases h
theorem cStep_grows {P : Program} {a b : CallF} (hg : Grows a b) {ops : Array Oper} {bs : List Nat} {i : Nat} {o : Oper} {fr : List AV} {H : AH} {r : AV × Option (AH × Nat)} (h : cStep P a ops bs i o fr H = some r) : cStep P b ops bs i o fr H = some r := by
  unfold cStep at h ⊢
  split at h
  · cases h
  · exact h
  · split at h
    · cases h
    · exact h
    · exact hg _ _ _ _ h
theorem cLex_grows {P : Program} {a b : CallF} (hg : Grows a b) {ops : Array Oper} {bs : List Nat} : ∀ (l : List Oper) {i : Nat} {fr : List AV} {H : AH} {lo : Nat} {r : List Rec × List Bool × List AH × Nat}, cLex P a ops bs i l fr H lo = some r → cLex P b ops bs i l fr H lo = some r := by
  intro l
  induction l with
  | nil => intro i fr H lo r h; exact h
  | cons o l ih =>
    intro i fr H lo r h
    simp only [cLex] at h ⊢
    split at h
    · cases h
    · rename_i v hst
      rw [cStep_grows hg hst]
      simp only
      split at h
      · rename_i hl
        rw [ih hl]
        exact h
      · cases h
    · rename_i v H' wr hst
      rw [cStep_grows hg hst]
      simp only
      split at h
      · rename_i hl
        rw [ih hl]
        exact h
      · cases h
theorem cSame_grows {P : Program} {a b : CallF} (hg : Grows a b) {ops : Array Oper} {bs : List Nat} {i : Nat} {o : Oper} {fr : List AV} {v : AV} {Hs : List AH} {k : Nat} : ∀ {m : Nat}, cSame P a ops bs i o fr v Hs k m = true → cSame P b ops bs i o fr v Hs k m = true
  | 0, _ => rfl
  | m + 1, h => by
    simp only [cSame, Bool.and_eq_true] at h ⊢
    refine ⟨?_, cSame_grows hg h.2⟩
    have h1 := h.1
    split at h1
    · rename_i Hk hk
      split at h1
      · rename_i v' hst
        rw [cStep_grows hg hst]
        exact h1
      · cases h1
    · cases h1
theorem cChk_grows {P : Program} {a b : CallF} (hg : Grows a b) {ops : Array Oper} {bs : List Nat} {es : List Bool} {Hs : List AH} {n : Nat} : ∀ (l : List Oper) {i : Nat} {rs : List Rec} {fr : List AV}, cChk P a ops bs es Hs n i l rs fr = true → cChk P b ops bs es Hs n i l rs fr = true := by
  intro l
  induction l with
  | nil => intro i rs fr h; exact h
  | cons o l ih =>
    intro i rs fr h
    cases rs with
    | nil => simp [cChk] at h
    | cons rc rs =>
      simp only [cChk, Bool.and_eq_true] at h ⊢
      refine ⟨?_, ih h.2⟩
      have h1 := h.1
      split at h1
      · rename_i hc; rw [if_pos hc]
      · rename_i hc
        rw [if_neg hc]
        rw [Bool.and_eq_true] at h1 ⊢
        exact ⟨h1.1, cSame_grows hg h1.2⟩
theorem evChain_grows {P : Program} {a b : CallF} (hg : Grows a b) {ops : Array Oper} {fr : List AV} {H : AH} {lo : Nat} {r : List AV × AH × Nat} (h : evChain P a ops fr H lo = some r) : evChain P b ops fr H lo = some r := by
  unfold evChain at h ⊢
  split at h
  · cases h
  · rename_i recs es Hs lo' hl
    rw [cLex_grows hg _ hl]
    simp only
    split at h
    · rename_i hk
      rw [if_pos (cChk_grows hg _ hk)]
      exact h
    · cases h
theorem sChain_ok {P : Program} {call call' : CallF} (grows : Grows call call') {ops : Array Oper} {nt : Nat} {t t' : Tr AV} {fr : List AV} {H H' : AH} {lo lo' : Nat} (hr : Rep t fr) (hn : Bound t nt) (h : sChain P call ops nt t H lo = some (t', H', lo')) :
    ∃ fr', evChain P call' ops fr H lo = some (fr', H', lo') ∧ Rep t' fr' ∧ Bound t' nt := by
  unfold sChain at h
  rw [listK_eq (e := idK) (fun _ _ => rfl), Tr.list_eq hr nt 0 (by have := hn.le hr; omega), List.drop_zero] at h
  split at h
  · rename_i fr1 H1 lo1 hg
    rw [listK_eq (e := avK) avK_eq] at h
    split at h
    · cases h
    · rename_i hl
      rw [natK_eq, heapK_eq] at h
      cases h
      have hl' : lenR fr1 < 65536 ∧ lenR fr1 ≤ nt := by
        constructor
        · exact Nat.lt_of_not_le fun hh => hl (by rw [Nat.ble_eq_true_of_le hh]; rfl)
        · exact Nat.le_of_not_lt fun hh => hl (by rw [Nat.ble_eq_true_of_le (show nt.succ ≤ lenR fr1 from hh), Bool.or_true])
      rw [lenR_eq] at hl'
      exact ⟨fr1, evChain_grows grows hg, ofL_rep hl'.1, (ofL_rep hl'.1).bound hl'.2⟩
  · cases h
theorem sDraw_ok {P : Program} {call call' : CallF} (hc : ∀ f args H r, call f args H = some r → call' f args H = some r) {ops : Array Oper} {m : Mode} (hg : okM ops m = true) {nt : Nat} {t t' : Tr AV} {fr : List AV} {H H' : AH} {lo lo' : Nat} (hr : Rep t fr) (hn : Bound t nt) (h : sDraw P call ops m nt t H lo = some (t', H', lo')) :
    ∃ fr', evDrawM P call' ops m fr H lo = some (fr', H', lo') ∧ Rep t' fr' ∧ Bound t' nt := by
  have grows : Grows call call' := hc
  cases m with
  | dyn => exact tDraw_ok hc hr hn h
  | quiet =>
    simp only [sDraw] at h
    split at h
    · rename_i t1 hq
      cases h
      obtain ⟨fr1, h1, h2, h5⟩ := sQuiet_ok hc _ hr hq
      exact ⟨fr1, by simp only [evDrawM, h1], h2, hn.shr h5⟩
    · cases h
  | tail k =>
    simp only [sDraw] at h
    split at h
    · cases h
    · rename_i t1 hq1
      obtain ⟨fr1, h1, h2, h5⟩ := sQuiet_ok hc _ hr hq1
      obtain ⟨fr2, h3, h4, h6⟩ := tOps_ok hc _ h2 h
      exact ⟨fr2, by simp only [evDrawM, h1, h3], h4, hn.shr (h5.trans h6)⟩
  | gen n =>
    simp only [sDraw, sGen] at h
    rw [listK_eq (e := idK) (fun _ _ => rfl), Tr.list_eq hr nt 0 (by have := hn.le hr; omega), List.drop_zero] at h
    split at h
    · rename_i fr1 H1 lo1 hg
      rw [listK_eq (e := avK) avK_eq] at h
      split at h
      · cases h
      · rename_i hl
        rw [natK_eq, heapK_eq] at h
        cases h
        have hl' : lenR fr1 < 65536 ∧ lenR fr1 ≤ nt := by
          constructor
          · exact Nat.lt_of_not_le fun hh => hl (by rw [Nat.ble_eq_true_of_le hh]; rfl)
          · exact Nat.le_of_not_lt fun hh => hl (by rw [Nat.ble_eq_true_of_le (show nt.succ ≤ lenR fr1 from hh), Bool.or_true])
        rw [lenR_eq] at hl'
        exact ⟨fr1, evGenS_grows grows hg, ofL_rep hl'.1, (ofL_rep hl'.1).bound hl'.2⟩
    · cases h
  | chain hms ums =>
    simp only [sDraw] at h
    split at h
    · rename_i r hf
      cases h
      exact sFast_ok grows hg hr hn hf
    · exact sChain_ok grows hr hn h
noncomputable def sCall (E : Env) (V : VM) (rec : Nat → RM → Code → Tr AV → AH → Nat → Option (AEx × Tr AV × AH × Nat)) : CallF := fun f args H =>
  match E.orc f args H with
  | some r => some r
  | none =>
    match E.P.funcs[f]? with
    | none => none
    | some fn =>
      match fn.body with
      | none => none
      | some c =>
        if Nat.ble (lenR args) fn.ntmps && Nat.ble fn.ntmps 65535 then
          (Tr.mk (.tuple []) 16 fn.ntmps).sets args 0 fun t =>
          natK (lenR H) fun n =>
          match rec fn.ntmps (assoc [] V f) c t H n with
          | some (.exit _, _, _, _) => none
          | some (_, t, H', lo) =>
            match aresultsT E.P t H' fn.results.toList with
            | some vs => avK (oneOf vs) fun v => if Nat.beq lo n = true ∧ v.flat = true then some (v, none) else some (v, some (H', lo))
            | none => none
          | none => none
        else none
noncomputable def sev (E : Env) (V : VM) : Nat → Nat → RM → Code → Tr AV → AH → Nat → Option (AEx × Tr AV × AH × Nat)
  | 0, _, _, _, _, _, _ => none
  | n + 1, nt, m, c, t, H, lo =>
    match c with
    | .skip => some (.normal, t, H, lo)
    | .label _ => some (.normal, t, H, lo)
    | .region _ ops false =>
      match tOps E.P (sCall E V (sev E V n)) ops ops.toList t H lo with
      | some (t', H', lo') => some (.normal, t', H', lo')
      | none => none
    | .region id ops true =>
      match sDraw E.P (sCall E V (sev E V n)) ops (assoc .dyn m id) nt t H lo with
      | some (t', H', lo') => some (.normal, t', H', lo')
      | none => none
    | .seq a b =>
      match sev E V n nt m a t H lo with
      | some (.normal, t', H', lo') => sev E V n nt m b t' H' lo'
      | r => r
    | .cond c x y =>
      match aevalT t c with
      | .bool true => sev E V n nt m x t H lo
      | .bool false => sev E V n nt m y t H lo
      | _ => none
    | .block id b =>
      match sev E V n nt m b t H lo with
      | some (.exit i, t', H', lo') => if Nat.beq i id = true then some (.normal, t', H', lo') else some (.exit i, t', H', lo')
      | r => r
    | .loop b =>
      match sev E V n nt m b t H lo with
      | some (.normal, t', H', lo') => sev E V n nt m (.loop b) t' H' lo'
      | r => r
    | .exit id => some (.exit id, t, H, lo)
    | .scope b => sev E V n nt m b t H lo
    | .ret => some (.ret, t, H, lo)
    | _ => none
def SevOk (a : Nat → RM → Code → Tr AV → AH → Nat → Option (AEx × Tr AV × AH × Nat)) (b : RM → Code → List AV → AH → Nat → Option (AEx × List AV × AH × Nat)) : Prop :=
  ∀ nt m c t fr H lo ex t' H' lo', goodC m c = true → Rep t fr → Bound t nt → a nt m c t H lo = some (ex, t', H', lo') → ∃ fr', b m c fr H lo = some (ex, fr', H', lo') ∧ Rep t' fr' ∧ Bound t' nt
theorem sCall_ok {E : Env} {V : VM} (hV : ∀ p ∈ V, goodF E.P p = true) {a : Nat → RM → Code → Tr AV → AH → Nat → Option (AEx × Tr AV × AH × Nat)} {b : RM → Code → List AV → AH → Nat → Option (AEx × List AV × AH × Nat)} (hab : SevOk a b) : ∀ f args H r, sCall E V a f args H = some r → evCallM E V b f args H = some r := by
  intro f args H r h
  unfold sCall at h
  unfold evCallM
  cases ho : E.orc f args H with
  | some r0 =>
    rw [ho] at h
    exact h
  | none =>
    rw [ho] at h
    simp only at h ⊢
    cases hf : E.P.funcs[f]? with
    | none => rw [hf] at h; cases h
    | some fn =>
      rw [hf] at h
      simp only at h ⊢
      cases hb : fn.body with
      | none => rw [hb] at h; cases h
      | some c =>
        rw [hb] at h
        simp only at h ⊢
        split at h
        · rename_i hle
          simp only [Bool.and_eq_true, Nat.ble_eq, lenR_eq] at hle
          have h0 : Rep (Tr.mk (.tuple [] : AV) 16 fn.ntmps) ([] ++ List.replicate fn.ntmps (.tuple [])) := by
            intro i
            rw [Tr.get_mk _ _ _ _ (by omega), List.nil_append, List.getElem?_replicate]
          obtain ⟨t0, h1, h2⟩ := Tr.sets_rep args fn.ntmps [] _ h0 hle.1
          have h1' := h1 (β := Option (AV × Option (AH × Nat)))
          simp only [List.length_nil] at h1'
          rw [h1', natK_eq, lenR_eq] at h
          rw [List.nil_append] at h2
          cases hrec : a fn.ntmps (assoc [] V f) c t0 H H.length with
          | none => rw [hrec] at h; cases h
          | some q =>
            obtain ⟨ex, t1, H1, lo1⟩ := q
            rw [hrec] at h
            obtain ⟨fr1, h3, h4, _⟩ := hab _ _ _ _ _ _ _ _ _ _ _ (good_get hV hf hb) h2 (h2.bound (by simp; omega)) hrec
            rw [h3]
            cases ex with
            | exit id => cases h
            | normal =>
              simp only [aresultsT_eq h4, avK_eq, Nat.beq_eq] at h ⊢
              exact h
            | ret =>
              simp only [aresultsT_eq h4, avK_eq, Nat.beq_eq] at h ⊢
              exact h
        · cases h
theorem sev_ok (E : Env) (V : VM) (hV : ∀ p ∈ V, goodF E.P p = true) : ∀ n, SevOk (sev E V n) (evM E V n) := by
  intro n
  induction n with
  | zero => intro nt m c t fr H lo ex t' H' lo' hg hr hb h; simp [sev] at h
  | succ n ih =>
    have hC := sCall_ok (E := E) (V := V) hV ih
    intro nt m c t fr H lo ex t' H' lo' hg hr hb h
    cases c with
    | skip => simp only [sev] at h; cases h; exact ⟨fr, rfl, hr, hb⟩
    | label l => simp only [sev] at h; cases h; exact ⟨fr, rfl, hr, hb⟩
    | exit id => simp only [sev] at h; cases h; exact ⟨fr, rfl, hr, hb⟩
    | ret => simp only [sev] at h; cases h; exact ⟨fr, rfl, hr, hb⟩
    | rangeFunc f ps as b => simp [sev] at h
    | goto l => simp [sev] at h
    | refuse why => simp [sev] at h
    | scope b =>
      rw [sev] at h
      rw [evM]
      exact ih _ _ _ _ _ _ _ _ _ _ _ (show goodC m b = true from hg) hr hb h
    | region id ops draw =>
      cases draw with
      | false =>
        rw [sev] at h
        rw [evM]
        split at h
        · rename_i t1 H1 lo1 he
          cases h
          obtain ⟨fr1, h1, h2, h3⟩ := tOps_ok hC _ hr he
          exact ⟨fr1, by rw [h1], h2, hb.shr h3⟩
        · cases h
      | true =>
        rw [sev] at h
        rw [evM]
        split at h
        · rename_i t1 H1 lo1 he
          cases h
          obtain ⟨fr1, h1, h2, h3⟩ := sDraw_ok hC (show okM _ _ = true from hg) hr hb he
          exact ⟨fr1, by rw [h1], h2, h3⟩
        · cases h
    | cond c x y =>
      simp only [goodC, Bool.and_eq_true] at hg
      rw [sev, aevalT_eq hr] at h
      rw [evM]
      split at h
      · rename_i hc; try rw [hc]
        exact ih _ _ _ _ _ _ _ _ _ _ _ hg.1 hr hb h
      · rename_i hc; try rw [hc]
        exact ih _ _ _ _ _ _ _ _ _ _ _ hg.2 hr hb h
      · cases h
    | seq a b =>
      simp only [goodC, Bool.and_eq_true] at hg
      rw [sev] at h
      rw [evM]
      cases hq : sev E V n nt m a t H lo with
      | none => rw [hq] at h; cases h
      | some q =>
        obtain ⟨ex1, t1, H1, lo1⟩ := q
        rw [hq] at h
        obtain ⟨fr1, h1, h2, h3⟩ := ih _ _ _ _ _ _ _ _ _ _ _ hg.1 hr hb hq
        rw [h1]
        cases ex1 with
        | normal => exact ih _ _ _ _ _ _ _ _ _ _ _ hg.2 h2 h3 h
        | exit id => cases h; exact ⟨fr1, rfl, h2, h3⟩
        | ret => cases h; exact ⟨fr1, rfl, h2, h3⟩
    | block id b =>
      rw [sev] at h
      rw [evM]
      cases hq : sev E V n nt m b t H lo with
      | none => rw [hq] at h; cases h
      | some q =>
        obtain ⟨ex1, t1, H1, lo1⟩ := q
        rw [hq] at h
        obtain ⟨fr1, h1, h2, h3⟩ := ih _ _ _ _ _ _ _ _ _ _ _ (show goodC m b = true from hg) hr hb hq
        rw [h1]
        cases ex1 with
        | normal => cases h; exact ⟨fr1, rfl, h2, h3⟩
        | exit i =>
          simp only [Nat.beq_eq] at h ⊢
          split at h
          · rename_i hi; cases h; exact ⟨fr1, by rw [if_pos hi], h2, h3⟩
          · rename_i hi; cases h; exact ⟨fr1, by rw [if_neg hi], h2, h3⟩
        | ret => cases h; exact ⟨fr1, rfl, h2, h3⟩
    | loop b =>
      rw [sev] at h
      rw [evM]
      cases hq : sev E V n nt m b t H lo with
      | none => rw [hq] at h; cases h
      | some q =>
        obtain ⟨ex1, t1, H1, lo1⟩ := q
        rw [hq] at h
        obtain ⟨fr1, h1, h2, h3⟩ := ih _ _ _ _ _ _ _ _ _ _ _ (show goodC m b = true from hg) hr hb hq
        rw [h1]
        cases ex1 with
        | normal => exact ih _ _ _ _ _ _ _ _ _ _ _ (show goodC m (.loop b) = true from hg) h2 h3 h
        | exit id => cases h; exact ⟨fr1, rfl, h2, h3⟩
        | ret => cases h; exact ⟨fr1, rfl, h2, h3⟩
/-- A closed call, reckoned: a table of modes that fit, a call that answers as the model does. -/
theorem evCallM_of_sev {E : Env} {V : VM} (hV : ∀ p ∈ V, goodF E.P p = true) {n : Nat} {f : FuncId} {args : List AV} {H : AH} {r : AV × Option (AH × Nat)} (h : sCall E V (sev E V n) f args H = some r) : evCallM E V (evM E V n) f args H = some r := sCall_ok hV (sev_ok E V hV n) _ _ _ _ h
theorem callM_ok {E : Env} {V : VM} (hV : ∀ p ∈ V, goodF E.P p = true) (hP : E.P.funcs.all (fun fn => !(fn.name == "runtime.NumGoroutine")) = true) (hm : E.P.follows .mixedOrders = true) (hO : CallOk E.P E.orc) (n : Nat) : CallOk E.P (evCallM E V (evM E V n)) := evCallM_ok hV hO (evM_ok hV hP hm hO n)
/-- The same as an oracle: for the ends that want 'ev'. -/
theorem evCall_of_orc {P : Program} {orc : CallF} {n : Nat} {f : FuncId} {args : List AV} {H : AH} {r : AV × Option (AH × Nat)} (h : orc f args H = some r) : evCall ⟨P, orc⟩ (ev ⟨P, orc⟩ n) f args H = some r := by
  unfold evCall
  simp only [h]
end Go.Ve
