/- The law FramingBare, walked. -/
import Derived.Test.YtiobbjbodpkpjaaDoorOne
import Derived.Test.YtiobbjbodpkpjaaDoorOwn
set_option linter.unusedSimpArgs false
set_option linter.unusedVariables false
namespace Go.Proofs.YtiobbjbodpkpjaaDoor
open Go Go.Ve
set_option maxRecDepth 20000
/-- The fields that say nothing of the end. -/
def extF (ns : LL) : FL := (ns.filter fun s => !decide (lower s = lower clN) && !decide (lower s = lower teN)).map fun s => (s, [53])
noncomputable def TB (q : Int × Int × Bool × Int) : List (Nat × SpecE) := [(6, flatE gLives), (19, eLit), (8, eLitT), (9, eOwn), (10, flatE gSame), (12, eAs (rqV q) (eFl gReq)), (13, eAs (rqV (1, 0, true, 0)) (eFl gResp))]
noncomputable def faB (f : FuncId) : Option FA := match Nat.beq f 7 with
  | true => some ⟨[], [], []⟩
  | false => match Nat.beq f 11 with
    | true => some ⟨[], [], []⟩
    | false => none
noncomputable def VB (q : Int × Int × Bool × Int) : VE := ⟨Tryd.prog, tabS (TB q) noS, noO, faB⟩
/-- A state of the law's loop: the slice so far, the memory, and what holds. -/
def shB (ns : LL) (v : Nat → AV) (H : Nat → AH) (ok : Nat → Prop) : Ann := .mk Nat (fun i => [(12, .int .i64 i), (11, v i)]) (fun i => some (H i)) (fun i => i ≤ ns.length ∧ ok i) (fun i => ns.length - i) gcB gcB (fun i => [(50, .str (ns.getD i [])), (57, .str (ns.getD i [])), (65, .str (ns.getD i []))]) (fun _ => [])
noncomputable def aBare0 (ns : LL) (H : AH) (k : Nat) (p : Prop) : List Ann := [
  shB ns (fun _ => .sl k 0 0 0 true) (fun _ => H ++ [.cells [] 0 false]) (fun i => p ∧ extF (ns.take i) = []),
  shB ns (fun i => .sl (k + 1) 0 (extF (ns.take i)).length (extF (ns.take i)).length false) (fun i => H ++ [.cells [] 0 false, .cells (fieldC (extF (ns.take i))) eF false]) (fun i => p ∧ extF (ns.take i) ≠ [])]
noncomputable def aBare1 (l : FL) (ns : LL) (H : AH) (k : Nat) (p : Prop) : List Ann := [
  shB ns (fun _ => .sl k 0 l.length l.length false) (fun _ => H ++ [.cells (fieldC l) eF false]) (fun i => p ∧ extF (ns.take i) = []),
  shB ns (fun i => .sl (k + 1) 0 (l ++ extF (ns.take i)).length (l ++ extF (ns.take i)).length false) (fun i => H ++ [.dead, .cells (fieldC (l ++ extF (ns.take i))) eF false]) (fun i => p ∧ extF (ns.take i) ≠ [])]
/-- Own of no fields; of some. -/
noncomputable def eOwn0 : SpecE := fun args H =>
  match args with
  | [.sl b 0 n _ _] => match H[b]? with
    | some (.cells vs _ _) => some (.needP (fldOk vs n ∧ fldT vs n = []) (.ok (.sl H.length 0 0 0 true) (some (H ++ [.cells [] 0 false]))))
    | _ => none
  | _ => none
noncomputable def eOwn1 : SpecE := fun args H =>
  match args with
  | [.sl b 0 n _ _] => match H[b]? with
    | some (.cells vs _ _) => some (.needP (fldOk vs n ∧ fldT vs n ≠ []) (.ok (.sl H.length 0 (fldT vs n).length (fldT vs n).length false) (some (H ++ [.cells (fieldC (fldT vs n)) eF false]))))
    | _ => none
  | _ => none
theorem eOwn_at {b n c : Nat} {ex : Bool} {H : AH} {vs : List AV} {e : Nat} {ro : Bool} (hb : H[b]? = some (.cells vs e ro)) : eOwn [.sl b 0 n c ex] H = some (.needP (fldOk vs n) (.br (decide (fldT vs n = [])) (.ok (.sl H.length 0 0 0 true) (some (H ++ [.cells [] 0 false]))) (.ok (.sl H.length 0 (fldT vs n).length (fldT vs n).length false) (some (H ++ [.cells (fieldC (fldT vs n)) eF false]))))) := by
  simp only [eOwn, hb]
theorem eOwn0_ok : EntryOk Tryd.prog 9 eOwn0 := by
  intro args H sr hs K hk
  unfold eOwn0 at hs
  split at hs
  · rename_i b n c ex
    split at hs
    · rename_i vs e ro hb
      cases hs
      obtain ⟨⟨g1, g2⟩, h2⟩ := hk
      refine eOwn_ok _ H _ (eOwn_at hb) K ⟨g1, ?_⟩
      rw [SR.run, decide_eq_true g2, cond_true]
      exact h2
    · cases hs
  · cases hs
theorem eOwn1_ok : EntryOk Tryd.prog 9 eOwn1 := by
  intro args H sr hs K hk
  unfold eOwn1 at hs
  split at hs
  · rename_i b n c ex
    split at hs
    · rename_i vs e ro hb
      cases hs
      obtain ⟨⟨g1, g2⟩, h2⟩ := hk
      refine eOwn_ok _ H _ (eOwn_at hb) K ⟨g1, ?_⟩
      rw [SR.run, decide_eq_false g2, cond_false]
      exact h2
    · cases hs
  · cases hs
noncomputable def TB1 (q : Int × Int × Bool × Int) (o : SpecE) : List (Nat × SpecE) := [(6, flatE gLives), (19, eLit), (8, eLitT), (9, o), (10, flatE gSame), (12, eAs (rqV q) (eFl gReq)), (13, eAs (rqV (1, 0, true, 0)) (eFl gResp))]
noncomputable def VB0 (q : Int × Int × Bool × Int) : VE := ⟨Tryd.prog, tabS (TB1 q eOwn0) noS, noO, faB⟩
noncomputable def VB1 (q : Int × Int × Bool × Int) : VE := ⟨Tryd.prog, tabS (TB1 q eOwn1) noS, noO, faB⟩
theorem extF_cl (ns : LL) : allF (extF ns) clN = [] ∧ allF (extF ns) teN = [] := by
  unfold allF extF
  constructor
  · rw [List.map_eq_nil_iff, List.filter_eq_nil_iff]
    intro f hf
    obtain ⟨s, hs, rfl⟩ := List.mem_map.1 hf
    have := (List.mem_filter.1 hs).2
    simp at this
    simpa using this.1
  · rw [List.map_eq_nil_iff, List.filter_eq_nil_iff]
    intro f hf
    obtain ⟨s, hs, rfl⟩ := List.mem_map.1 hf
    have := (List.mem_filter.1 hs).2
    simp at this
    simpa using this.2
theorem frL_more (minor : Int) (l : FL) (ns : LL) : frL minor (l ++ extF ns) = frL minor l := by
  have h1 : allF (l ++ extF ns) clN = allF l clN := by rw [allF_app, (extF_cl ns).1, List.append_nil]
  have h2 : allF (l ++ extF ns) teN = allF l teN := by rw [allF_app, (extF_cl ns).2, List.append_nil]
  unfold frL lenN lenT lenS codT codS listF
  rw [h1, h2]
theorem extF_app (a b : LL) : extF (a ++ b) = extF a ++ extF b := by simp [extF]
theorem extF_step {ns : LL} {i : Nat} (hi : i < ns.length) : extF (ns.take (i + 1)) = extF (ns.take i) ++ extF [ns.getD i []] := by
  rw [List.take_succ_eq_append_getElem hi, extF_app]
  simp [List.getD_eq_getElem?_getD, List.getElem?_eq_getElem hi]
theorem extF_len (ns : LL) : (extF ns).length ≤ ns.length := by
  unfold extF; rw [List.length_map]; exact List.length_filter_le _ _
theorem totL_ext : ∀ ns : LL, totL (extF ns) ≤ sumT ns + 2 * ns.length
  | [] => Nat.zero_le _
  | s :: r => by
    have h := totL_ext r
    have e : extF (s :: r) = extF [s] ++ extF r := extF_app [s] r
    have h2 : totL (extF [s]) ≤ s.length + 2 := by
      unfold extF
      rw [List.filter_cons]
      split <;> simp [totL]
    rw [e]
    simp only [totL, List.map_append, List.sum_append, sumT, List.map_cons, List.sum_cons, List.length_cons] at h h2 ⊢
    omega
theorem ext_cl {s : List UInt8} (h : lower s = lower [67, 111, 110, 116, 101, 110, 116, 45, 76, 101, 110, 103, 116, 104]) : extF [s] = [] := by
  have h' : lower s = lower clN := h
  simp [extF, h']
theorem ext_te {s : List UInt8} (h : lower s = lower [84, 114, 97, 110, 115, 102, 101, 114, 45, 69, 110, 99, 111, 100, 105, 110, 103]) : extF [s] = [] := by
  have h' : lower s = lower teN := h
  simp [extF, h']
theorem ext_one {s : List UInt8} (h : ¬lower s = lower [67, 111, 110, 116, 101, 110, 116, 45, 76, 101, 110, 103, 116, 104]) (g : ¬lower s = lower [84, 114, 97, 110, 115, 102, 101, 114, 45, 69, 110, 99, 111, 100, 105, 110, 103]) : extF [s] = [(s, [53])] := by
  have h' : ¬lower s = lower clN := h
  have g' : ¬lower s = lower teN := g
  simp [extF, h', g']
theorem fieldC_app (a b : FL) : fieldC (a ++ b) = fieldC a ++ fieldC b := by simp [fieldC]
theorem lit_le {ns : LL} (h : litT ns = true) : ns.length ≤ 20 ∧ sumT ns ≤ 300 := of_decide_eq_true h
theorem lit_get {ns : LL} (h : litT ns = true) {x : Nat} (hx : x < ns.length) : le40 (ns.getD x []) = true := by
  have h1 := sumT_step hx
  have h2 := sumT_take ns (x + 1)
  have h3 := (lit_le h).2
  exact decide_eq_true (by omega)
theorem ext_take (ns : LL) (x : Nat) : (extF (ns.take x)).length ≤ ns.length := Nat.le_trans (extF_len _) (by rw [List.length_take]; omega)
theorem ext_tot {ns : LL} (h : litT ns = true) (x : Nat) : totL (extF (ns.take x)) ≤ 400 := by
  have h1 := totL_ext (ns.take x)
  have h2 := sumT_take ns x
  have h3 := lit_le h
  have h4 : (ns.take x).length ≤ ns.length := by rw [List.length_take]; omega
  omega
theorem ne_app {a b : FL} (h : a ≠ [] ∨ b ≠ []) : a ++ b ≠ [] := by
  rintro e
  rw [List.append_eq_nil_iff] at e
  rcases h with h | h
  · exact h e.1
  · exact h e.2
theorem totL_app (a b : FL) : totL (a ++ b) = totL a + totL b := by simp [totL]
theorem light_tot2 {l : FL} (h : lightB l = true) : totL l ≤ 200000000000 := by
  have h1 := of_decide_eq_true h
  have h2 : totL l = sumL l + l.length := by
    clear h h1
    induction l with
    | nil => rfl
    | cons a r ih => simp only [totL, sumL, List.map_cons, List.sum_cons, List.length_cons] at ih ⊢; omega
  omega
theorem bin_frN (x y : Operand) (a b : Int) : pureRun Tryd.prog (do eqGuard .neq 33 x y (.agg #[.int .i64 a, .int .i64 b]) (.agg #[.int .i64 a, .int .i64 b]); binOp .neq 33 (.agg #[.int .i64 a, .int .i64 b]) (.agg #[.int .i64 a, .int .i64 b]) : Sem Value) = some (.bool false) := by
  have hp : pureRun Tryd.prog program = some Tryd.prog := rfl
  have h1 : pureRun Tryd.prog (eqGuard .neq 33 x y (.agg #[.int .i64 a, .int .i64 b]) (.agg #[.int .i64 a, .int .i64 b])) = some () := by
    unfold eqGuard
    simp only []
    rw [if_neg (by decide), pureRun_bind _ _ _ hp, pureRun_bind _ _ _ hp, if_pos (by rw [guardF]; rfl)]
    rfl
  rw [pureRun_bind _ _ _ h1]
  have h2 := eqIn_fr 9998 a b
  simp only [binOp]
  rw [pureRun_bind _ _ _ (show pureRun Tryd.prog (Op.equal 33 (.agg #[.int .i64 a, .int .i64 b]) (.agg #[.int .i64 a, .int .i64 b])) = some true from h2)]
  rfl
theorem aeqX_selfN (x y : Operand) (a b : Int) : aeqX Tryd.prog .neq 33 x y (.agg [.int .i64 a, .int .i64 b]) (.agg [.int .i64 a, .int .i64 b]) = some false := by
  have e1 : scsS [.int .i64 a, .int .i64 b] = some [.int .i64 a, .int .i64 b] := rfl
  unfold aeqX
  rw [show aptrEq Tryd.prog .neq 33 (.agg [.int .i64 a, .int .i64 b]) (.agg [.int .i64 a, .int .i64 b]) = none by kernel_rfl]
  unfold aaggEq
  simp only [e1]
  rw [bin_frN]
theorem rs_head (st minor : Int) (l : FL) : rsF [72, 69, 65, 68] st minor l = (1, 0, true, 0) := rsB (decide_eq_true (.inl rfl))
theorem rs_304 (m : List UInt8) (minor : Int) (l : FL) : rsF m 304 minor l = (1, 0, true, 0) := rsB (decide_eq_true (.inr (.inr (.inr (.inl rfl)))))
theorem rs_204 (m : List UInt8) (minor : Int) (l : FL) : rsF m 204 minor l = (1, 0, true, 0) := rsB (decide_eq_true (.inr (.inr (.inl rfl))))
@[simp] theorem fldT_full (l : FL) : fldT (fieldC l) l.length = l := by simpa using fldT_at l []
@[simp] theorem fldOk_full (l : FL) : fldOk (fieldC l) l.length = (totL l ≤ 274877906944) := by simpa using fldOk_at l []
@[simp] theorem fldT_none : fldT [] 0 = [] := rfl
@[simp] theorem fldOk_none : fldOk [] 0 = True := eq_true ⟨rfl, Nat.zero_le _, by decide⟩
end Go.Proofs.YtiobbjbodpkpjaaDoor
