/- The evaluator: one operation. -/
import Derived.RangeFuncRecord
import Derived.Test.YtkgkbpfjdlnoeaaDoorVeU
import Derived.Test.YtkgkbpfjdlnoeaaDoorVeX
import Derived.Test.YtkgkbpfjdlnoeaaDoorVeR
namespace Go.Ve
open Go Go.RowKit

inductive AO where
  | val (v : AV) (ch : Option (AH × Nat))
  | call (f : FuncId) (args : List AV)
  | round (b : Nat) (fr : List AV) (assign body : Code)

section
variable {P : Program} {w0 : Base} {w : World} {φ : List Loc} {H : AH}

def scs : List AV → Option (List Value)
  | [] => some []
  | x :: r =>
    match x.sc, scs r with
    | some u, some us => some (u :: us)
    | _, _ => none
theorem scs_ok : ∀ {vs : List AV} {us us' : List Value}, scs vs = some us → VRs φ vs us' → us' = us
  | [], us, us', h, hv => by cases hv; simp [scs] at h; exact h.symm
  | v :: vs, us, us', h, hv => by
    cases hv with
    | cons h1 h2 =>
      simp only [scs] at h
      split at h
      · rename_i u us1 hu hus
        cases h
        rw [sc_ok hu h1, scs_ok hus h2]
      · cases h

/-- A string as well. -/
def scS : AV → Option Value
  | .str s => some (.string ⟨⟨s⟩⟩)
  | v => v.sc
theorem scS_ok {v : AV} {u u' : Value} (h : scS v = some u) (hv : VR φ v u') : u' = u := by
  cases hv <;> simp [scS, AV.sc] at h <;> exact h
def scsS : List AV → Option (List Value)
  | [] => some []
  | x :: r =>
    match scS x, scsS r with
    | some u, some us => some (u :: us)
    | _, _ => none
theorem scsS_ok : ∀ {vs : List AV} {us us' : List Value}, scsS vs = some us → VRs φ vs us' → us' = us
  | [], us, us', h, hv => by cases hv; simp [scsS] at h; exact h.symm
  | v :: vs, us, us', h, hv => by
    cases hv with
    | cons h1 h2 =>
      simp only [scsS] at h
      split at h
      · rename_i u us1 hu hus
        cases h
        rw [scS_ok hu h1, scsS_ok hus h2]
      · cases h

/-- Structs of plain data, compared. -/
def aaggEq (P : Program) (op : BinOp) (t : TypeId) (xo yo : Operand) (x y : AV) : Option Bool :=
  match x, y with
  | .agg a, .agg b =>
    match scsS a, scsS b with
    | some us, some vs =>
      match pureRun P (do eqGuard op t xo yo (.agg us.toArray) (.agg vs.toArray); binOp op t (.agg us.toArray) (.agg vs.toArray) : Sem Value) with
      | some (.bool r) => some r
      | _ => none
    | _, _ => none
  | .iface t1 a, .iface t2 b =>
    match scS a, scS b with
    | some u, some v =>
      match pureRun P (do eqGuard op t xo yo (.iface t1 u) (.iface t2 v); binOp op t (.iface t1 u) (.iface t2 v) : Sem Value) with
      | some (.bool r) => some r
      | _ => none
    | _, _ => none
  | _, _ => none
theorem aaggEq_ok {op : BinOp} {t : TypeId} {xo yo : Operand} {x y : AV} {xu yu : Value} {r : Bool} (h : aaggEq P op t xo yo x y = some r) (hx : VR φ x xu) (hy : VR φ y yu) :
    ((do eqGuard op t xo yo xu yu; binOp op t xu yu : Sem Value)).run P w = .ok (.bool r) w := by
  unfold aaggEq at h
  split at h
  · rename_i a b
    split at h
    · rename_i us vs h1 h2
      split at h
      · rename_i r' hp
        cases h
        cases hx with
        | agg ha =>
          cases hy with
          | agg hb =>
            have e1 := scsS_ok h1 ha
            have e2 := scsS_ok h2 hb
            subst e1; subst e2
            simpa using pureRun_ok w hp
      · cases h
    · cases h
  · rename_i t1 a t2 b
    split at h
    · rename_i u v h1 h2
      split at h
      · rename_i r' hp
        cases h
        cases hx with
        | iface _ ha =>
          cases hy with
          | iface _ hb =>
            rw [scS_ok h1 ha, scS_ok h2 hb]
            exact pureRun_ok w hp
      · cases h
    · cases h
  · cases h
def aeqX (P : Program) (op : BinOp) (t : TypeId) (xo yo : Operand) (x y : AV) : Option Bool :=
  match aptrEq P op t x y with
  | some b => some b
  | none => aaggEq P op t xo yo x y
theorem aeqX_ok {op : BinOp} {t : TypeId} {xo yo : Operand} {x y : AV} {xu yu : Value} {r : Bool} (h : aeqX P op t xo yo x y = some r) (hx : VR φ x xu) (hy : VR φ y yu) :
    ((do eqGuard op t xo yo xu yu; binOp op t xu yu : Sem Value)).run P w = .ok (.bool r) w := by
  unfold aeqX at h
  split at h
  · rename_i b hb
    cases h
    exact aptrEq_ok hb hx hy
  · exact aaggEq_ok h hx hy
def alenOf (P : Program) (t : TypeId) (H : AH) (x : AV) : Option Nat :=
  match P.underlying t with
  | some .string =>
    match x with
    | .str s => some s.length
    | _ => none
  | some (.slice _) =>
    match x with
    | .sl _ _ len _ _ => some len
    | .nilsl => some 0
    | .sle .. => some 0
    | .slz => some 0
    | _ => none
  | some (.array n _) => some n
  | some (.pointer a) =>
    match P.underlying a with
    | some (.array n _) => some n
    | _ => none
  | some (.map _ _) =>
    match x with
    | .nilmap => some 0
    | .map b =>
      match H[b]? with
      | some (.map es _) => some es.length
      | _ => none
    | _ => none
  | _ => none
theorem EntryR.length : ∀ {es : List (AV × AV)} {ms : List MapEntry}, EntryR φ es ms → es.length = ms.length
  | [], [], _ => rfl
  | _ :: _, _ :: _, h => by simp [EntryR.length h.2.2]
  | [], _ :: _, h => h.elim
  | _ :: _, [], h => h.elim
theorem alenOf_ok (hr : Rel w0 φ H w) {t ty : TypeId} {x : AV} {xu : Value} {n : Nat} (h : alenOf P t H x = some n) (hx : VR φ x xu) : (Builtin.len_ #[t] ty #[xu]).run P w = .ok (.int .i64 n) w := by
  unfold alenOf at h
  split at h
  · rename_i hu
    cases hx <;> simp at h
    subst h
    simp [Builtin.len_, run_underlying hu, size_mk, goInt]
  · rename_i e hu
    cases hx <;> simp at h <;> subst h <;> simp [Builtin.len_, run_underlying hu, goInt]
  · rename_i m e hu
    cases h
    simp [Builtin.len_, run_underlying hu, goInt]
  · rename_i a hu
    split at h
    · rename_i m e ha
      cases h
      simp [Builtin.len_, run_underlying hu, run_underlying ha, goInt]
    · cases h
  · rename_i k e hu
    cases hx <;> simp at h
    · subst h; simp [Builtin.len_, run_underlying hu, goInt]
    · rename_i b l hl
      split at h
      · rename_i es ro hb
        cases h
        obtain ⟨_, ms, c, h2, h3⟩ := hr.blocks _ _ _ hb hl
        have hlen := h3.length
        simp only [Array.length_toList] at hlen
        simp [Builtin.len_, run_underlying hu, goInt, getObj, Sem.run, h2, hlen]
      · cases h
  · cases h

/-- The block that an append may give up or write. -/
def wrOf (H : AH) : AV → Nat
  | .sl b _ _ _ _ => b
  | .sle b _ _ => b
  | _ => H.length

/-- clear of a slice: zero values. -/
def aclear (P : Program) (t : TypeId) (x : AV) (H : AH) : Option (Option (AH × Nat)) :=
  match P.underlying t, x with
  | some (.slice _), .nilsl => some none
  | some (.slice e), .sl b off len _ _ =>
    if len = 0 then some none
    else
      match azero P e, H[b]? with
      | some z, some (.cells vs esz false) =>
        if AV.allOne (azeros len z) = true ∧ off + (azeros len z).length ≤ vs.length then some (some (H.set b (.cells (setManyF vs off (azeros len z)) esz false), b)) else none
      | _, _ => none
  | _, _ => none
theorem aclear_ok (hr : Rel w0 φ H w) {t ty : TypeId} {x : AV} {xu : Value} {ch : Option (AH × Nat)} (h : aclear P t x H = some ch) (hx : VR φ x xu) :
    ∃ w', (Builtin.clear_ #[t] ty #[xu]).run P w = .ok (.tuple #[]) w' ∧ (match ch with | none => w' = w | some (H', lo) => Rel w0 φ H' w' ∧ Keeps lo H H') := by
  unfold aclear at h
  split at h
  · rename_i e hu _h
    cases h; cases hx
    exact ⟨w, by simp [Builtin.clear_, run_underlying hu], rfl⟩
  · rename_i e b off len cap ex hu _h
    split at h
    · rename_i h0
      cases h; subst h0
      cases hx with
      | sl hl => exact ⟨w, by simp [Builtin.clear_, run_underlying hu], rfl⟩
    · rename_i h0
      split at h
      · rename_i z vs esz hz hb
        split at h
        · rename_i hc
          obtain ⟨hone, hle⟩ := hc
          rw [setManyF_eq] at h
          cases h
          cases hx with
          | sl hl =>
            rename_i l
            obtain ⟨i, zv, h1, h2, h3⟩ := azero_ok hz φ
            obtain ⟨n, rfl⟩ : ∃ n, len = n + 1 := ⟨len - 1, by omega⟩
            obtain ⟨w', h4, h5⟩ := storeCells_ok (P := P) hl (azeros (n + 1) z) _ vs off 0 H w hr hb (azeros_ok h3 (n + 1)) (allOne_mem hone) (by omega)
            have hzero : (zeroValue e).run P w = .ok zv w := by simp [zeroValue, typeInfo, h1, h2]
            have hz2 : (Builtin.zeroCells zv.cells (n + 1)).toList = (List.replicate (n + 1) zv.cells.toList).flatten := range_mod zv.cells (n + 1)
            refine ⟨w', ?_, by simpa using h5, Keeps.set _ _ _⟩
            rw [← hz2] at h4
            simp [Builtin.clear_, run_underlying hu, hzero, h4]
        · cases h
      · cases h
  · cases h

def abuiltin (P : Program) (b : Builtin) (ts : List TypeId) (xs : List AV) (H : AH) : Option (AV × Option (AH × Nat)) :=
  match b, ts, xs with
  | .len, [t], [x] => (alenOf P t H x).map fun n => (.int .i64 n, none)
  | .cap, [t], [x] =>
    match P.underlying t, x with
    | some (.slice _), .sl _ _ _ c true => some (.int .i64 c, none)
    | some (.slice _), .nilsl => some (.int .i64 0, none)
    | _, _ => none
  | .append, [t, t2], [s, x] => (aappend P t t2 s x H).map fun r => (r.1, some (r.2, wrOf H s))
  | .copy, [t, _], [d, s] => acopy P t d s H
  | .clear, [t], [x] => (aclear P t x H).map fun ch => (.tuple [], ch)
  | .min, _, xs =>
    match scs xs with
    | some us => (pureRun P (Builtin.min_ #[] 0 us.toArray)).map fun v => (ofV1 v, none)
    | none => none
  | .max, _, xs =>
    match scs xs with
    | some us => (pureRun P (Builtin.max_ #[] 0 us.toArray)).map fun v => (ofV1 v, none)
    | none => none
  | .delete, t :: _, [m, k] => (adelete P t m k H).map fun H' => (.tuple [], some (H', mapOf m))
  | b, ts, xs => aunsafe P b ts xs H

theorem aappend_keeps {t t2 : TypeId} {s x v : AV} {H' : AH} (h : aappend P t t2 s x H = some (v, H')) : Keeps (wrOf H s) H H' := by
  unfold aappend at h
  split at h
  · split at h
    · split at h
      · split at h
        · cases h
        · split at h
          · split at h
            · cases h; exact Keeps.refl _ _
            · split at h
              · cases h; exact Keeps.append _ _ _
              · cases h
          · split at h
            · split at h
              · split at h
                · cases h; exact Keeps.refl _ _
                · split at h
                  · split at h
                    · cases h; exact Keeps.set _ _ _
                    · cases h
                  · split at h
                    · split at h
                      · cases h; exact Keeps.append _ _ _
                      · split at h
                        · cases h; exact (Keeps.set _ _ _).trans (Keeps.append _ _ _)
                        · cases h
                    · cases h
              · cases h
            · cases h
          · split at h
            · cases h; exact Keeps.refl _ _
            · split at h
              · split at h
                · split at h
                  · cases h; exact (Keeps.set _ _ _).trans (Keeps.append _ _ _)
                  · cases h
                · cases h
              · cases h
          · split at h
            · cases h; exact Keeps.refl _ _
            · split at h
              · cases h; exact Keeps.append _ _ _
              · cases h
          · cases h
      · cases h
    · cases h
  · cases h

theorem abuiltin_ok (hr : Rel w0 φ H w) {b : Builtin} {ts : List TypeId} {type : TypeId} {consts : Array Bool} {xs : List AV} {us : List Value} {v : AV} {ch : Option (AH × Nat)} (h : abuiltin P b ts xs H = some (v, ch)) (hx : VRs φ xs us) :
    ∃ u w' φ', (builtin b ts.toArray type consts us.toArray).run P w = .ok (.value u) w' ∧ Ext φ φ' ∧ VR φ' v u ∧ ChOk w0 w φ H φ' w' ch := by
  unfold abuiltin at h
  split at h
  · rename_i t x
    cases hx with
    | cons hx hn =>
      cases hn
      cases hl : alenOf P t H x with
      | none => rw [hl] at h; cases h
      | some n =>
        rw [hl] at h; cases h
        exact ⟨_, w, φ, by simp [builtin, alenOf_ok (P := P) hr hl hx], Ext.refl _, .int _ _, rfl, rfl⟩
  · rename_i t x
    cases hx with
    | cons hx hn =>
      cases hn
      split at h
      · rename_i e b off len c hu
        cases h
        cases hx with
        | sl hl => exact ⟨_, w, φ, by simp [builtin, Builtin.cap_, run_underlying hu, goInt], Ext.refl _, .int _ _, rfl, rfl⟩
      · rename_i e hu
        cases h
        cases hx
        exact ⟨_, w, φ, by simp [builtin, Builtin.cap_, run_underlying hu, goInt], Ext.refl _, .int _ _, rfl, rfl⟩
      · cases h
  · rename_i t t2 s x
    cases hx with
    | cons hs hn =>
      cases hn with
      | cons hx hn =>
        cases hn
        cases ha : aappend P t t2 s x H with
        | none => rw [ha] at h; cases h
        | some r =>
          obtain ⟨v', H'⟩ := r
          rw [ha] at h; cases h
          obtain ⟨u, w', φ', h1, h2, h3, h4⟩ := aappend_ok (P := P) (ty := type) hr ha hs hx
          exact ⟨u, w', φ', by simp [builtin, h1], h2, h3, h4, aappend_keeps ha⟩
  · rename_i t t2 d s
    cases hx with
    | cons hd hn =>
      cases hn with
      | cons hs hn =>
        cases hn
        obtain ⟨u, w', h1, h2, h3⟩ := acopy_ok (P := P) (sT := t2) (ty := type) hr h hd hs
        refine ⟨u, w', φ, by simp [builtin, h1], Ext.refl _, h2, ?_⟩
        cases ch with
        | none => exact ⟨h3, rfl⟩
        | some c => exact h3
  · rename_i t x
    cases hx with
    | cons hx hn =>
      cases hn
      cases ha : aclear P t x H with
      | none => rw [ha] at h; cases h
      | some c =>
        rw [ha] at h; cases h
        obtain ⟨w', h1, h2⟩ := aclear_ok (P := P) (ty := type) hr ha hx
        refine ⟨_, w', φ, by simp [builtin, h1], Ext.refl _, .tuple .nil, ?_⟩
        cases ch with
        | none => exact ⟨h2, rfl⟩
        | some c => exact h2
  · split at h
    · rename_i us' hs
      cases hp : pureRun P (Builtin.min_ #[] 0 us'.toArray) with
      | none => rw [hp] at h; cases h
      | some r =>
        rw [hp] at h; cases h
        have he := scs_ok hs hx
        subst he
        have := pureRun_ok w hp
        refine ⟨r, w, φ, ?_, Ext.refl _, ofV1_ok _ _, rfl, rfl⟩
        have e : Builtin.min_ ts.toArray type us.toArray = Builtin.min_ #[] 0 us.toArray := rfl
        simp [builtin, e, this]
    · cases h
  · split at h
    · rename_i us' hs
      cases hp : pureRun P (Builtin.max_ #[] 0 us'.toArray) with
      | none => rw [hp] at h; cases h
      | some r =>
        rw [hp] at h; cases h
        have he := scs_ok hs hx
        subst he
        have := pureRun_ok w hp
        refine ⟨r, w, φ, ?_, Ext.refl _, ofV1_ok _ _, rfl, rfl⟩
        have e : Builtin.max_ ts.toArray type us.toArray = Builtin.max_ #[] 0 us.toArray := rfl
        simp [builtin, e, this]
    · cases h
  · rename_i t ts m k
    cases hx with
    | cons hm hn =>
      cases hn with
      | cons hk hn =>
        cases hn
        cases ha : adelete P t m k H with
        | none => rw [ha] at h; cases h
        | some H' =>
          rw [ha] at h; cases h
          obtain ⟨w', h1, h2, _⟩ := adelete_ok (P := P) (ty := type) (ts := ts) hr ha hm hk
          refine ⟨.tuple #[], w', φ, ?_, Ext.refl _, .tuple .nil, h2, adelete_keeps ha⟩
          simp only [builtin]
          rw [Sem.run_bind, h1]
          rfl
  · exact aunsafe_ok hr h hx

def ptrOf : AV → Nat
  | .ptr b _ => b
  | _ => 0
theorem astore_keeps {t : TypeId} {p v : AV} {H' : AH} (h : astore P t H p v = some H') : Keeps (ptrOf p) H H' := by
  unfold astore at h
  split at h
  · split at h
    · split at h
      · cases h; exact Keeps.set _ _ _
      · cases h
    · cases h
  · cases h
theorem abuildSlice_keeps {t : TypeId} {n : Nat} {ps : List (Nat × AV)} {v : AV} {H' : AH} (h : abuildSlice P t n ps H = some (v, H')) : Keeps H.length H H' := by
  unfold abuildSlice at h
  split at h
  · split at h
    · split at h
      · split at h
        · cases h; exact Keeps.append _ _ _
        · cases h
      · cases h
    · cases h
  · cases h

def notBad : AV → Bool
  | .bad => false
  | _ => true
def isPlain : AV → Bool
  | .ptr .. | .gptr .. | .fn (.func _) _ _ | .yld _ | .map _ | .sl .. | .iface .. => true
  | _ => false

/-- The parameters of a round. -/
def aparams (ps : List Tmp) (args : List AV) (fr : List AV) : List AV := (ps.zip args).foldl (fun fr p => fr.set p.1 p.2) fr
theorem aparams_ok {ps : Array Tmp} {args fr : List AV} {us tm : Array Value} (hf : VRs φ fr tm.toList) (ha : VRs φ args us.toList) : VRs φ (aparams ps.toList args fr) ((ps.zip us).foldl (fun tmps (p : Tmp × Value) => tmps.setIfInBounds p.1 p.2) tm).toList := by
  unfold aparams
  rw [← Array.foldl_toList, Array.toList_zip]
  generalize ps.toList = pl
  generalize us.toList = ul at ha
  induction pl generalizing args ul fr tm with
  | nil => exact hf
  | cons p pl ih =>
    cases ha with
    | nil => exact hf
    | cons h1 h2 =>
      simp only [List.zip_cons_cons, List.foldl_cons]
      refine ih ?_ _ h2
      rw [Array.toList_setIfInBounds]
      exact hf.set p h1
noncomputable def acall (P : Program) (c : Call) (ρ : Operand → AV) (H : AH) : Option AO :=
  match c.callee with
  | .builtin b => (abuiltin P b c.argTypes.toList (c.args.toList.map ρ) H).map fun r => .val r.1 r.2
  | .value f =>
    match ρ f with
    | .fn (.func g) first cap =>
      match P.funcs[g]? with
      | some fn => if fn.body.isSome then some (.call g (first ++ c.args.toList.map ρ ++ cap)) else
        match anoz P fn (first ++ c.args.toList.map ρ ++ cap) H with
        | some r => some (.val r.1 (some (r.2, H.length)))
        | none => (aextern fn (first ++ c.args.toList.map ρ ++ cap)).map fun v => .val v none
      | none => none
    | .yld b =>
      match H[b]? with
      | some (.loop fr ps as bd _ _ _) => if c.args.size = ps.size then some (.round b (aparams ps.toList (c.args.toList.map ρ) fr) as bd) else none
      | _ => none
    | _ => none
  | _ => none

noncomputable def aop (P : Program) (o : Oper) (ρ : Operand → AV) (H : AH) : Option AO :=
  match o.op with
  | .move x => some (.val (ρ x) none)
  | .assign x => some (.val (ρ x) none)
  | .pick c a b =>
    match ρ c with
    | .bool t => some (.val (if t then ρ a else ρ b) none)
    | _ => none
  | .alloc e =>
    match azero P e with
    | some z => some (.val (.ptr H.length 0) (some (H ++ [.cells z (etag P e z.length) false], H.length)))
    | none => none
  | .box _ x => if notBad (ρ x) then some (.val (.ptr H.length 0) (some (H ++ [.cells (ρ x).cells 0 false], H.length))) else none
  | .build t ps => (abuild P t (ps.toList.map fun p => (p.1, ρ p.2))).map fun v => .val v none
  | .buildSlice t n ps => (abuildSlice P t n (ps.toList.map fun p => (p.1, ρ p.2)) H).map fun r => .val r.1 (some (r.2, H.length))
  | .load t a => (aload P t H (ρ a)).map fun v => .val v none
  | .store t a x => (astore P t H (ρ a) (ρ x)).map fun H' => .val (.tuple []) (some (H', ptrOf (ρ a)))
  | .nilCheck x => if isPlain (ρ x) then some (.val (ρ x) none) else none
  | .binOp op t x y _ =>
    match abinOp P op t x y (ρ x) (ρ y) with
    | some v => some (.val v none)
    | none =>
      match aeqX P op t x y (ρ x) (ρ y) with
      | some b => some (.val (.bool b) none)
      | none => (ananOp op (ρ x) (ρ y)).map fun v => .val v (some (H, H.length))
  | .unOp op _ x =>
    match (ρ x).sc with
    | some a => (pureRun P (Op.unary op a)).map fun v => .val (ofV1 v) none
    | none => none
  | .convert s d x =>
    match aptr P s d (ρ x) H with
    | some v => some (.val v none)
    | none => (aconvert P s d (ρ x) H).map fun r => .val r.1 r.2
  | .makeInterface t x =>
    match P.underlying t with
    | some (.interface _) => none
    | some _ => some (.val (.iface t (ρ x)) none)
    | none => none
  | .makeFunc f first cap => some (.val (.fn f (first.toList.map ρ) (cap.toList.map ρ)) none)
  | .makeSlice t l c => (amakeSlice P t (ρ l) (ρ c) H).map fun r => .val r.1 (some (r.2, H.length))
  | .slice t x lo hi mx => (aslice P t (ρ x) (lo.map ρ) (hi.map ρ) (mx.map ρ)).map fun v => .val v none
  | .fieldAddr s x f => (afieldAt P s (ρ x) f).map fun v => .val v none
  | .field t x f => (afield P t (ρ x) f).map fun v => .val v none
  | .indexAddr t x i => (aindexAt P t (ρ x) (ρ i)).map fun v => .val v none
  | .index t x i => (aindex P t (ρ x) (ρ i)).map fun v => .val v none
  | .extract x i => (aextract (ρ x) i).map fun v => .val v none
  | .call c => acall P c ρ H
  | .makeMap t r =>
    match r with
    | none => some (.val (.map H.length) (some (H ++ [.map [] false], H.length)))
    | some x =>
      match P.underlying t, ρ x with
      | some (.map _ _), .int _ _ => some (.val (.map H.length) (some (H ++ [.map [] false], H.length)))
      | _, _ => none
  | .lookup t x k ok => (alookup P t (ρ x) (ρ k) ok H).map fun v => .val v none
  | .mapUpdate t m k x => (amapUpdate P t (ρ m) (ρ k) (ρ x) H).map fun H' => .val (.tuple []) (some (H', mapOf (ρ m)))
  | .insert t m k x => (amapUpdate P t (ρ m) (ρ k) (ρ x) H).map fun H' => .val (.tuple []) (some (H', mapOf (ρ m)))
  | .range t x => (arange P t (ρ x) H).map fun H' => .val (.ptr H.length 0) (some (H', H.length))
  | .next it s => (anext (ρ it) s H).map fun r => .val r.1 r.2
  | _ => none

/-- An operation does what the evaluator says. -/
def OpOk (P : Program) (w0 : Base) (w : World) (φ : List Loc) (H : AH) (ρ : Operand → Value) (o : Oper) : AO → Prop
  | .val v ch => ∃ n u w' φ', (execOp ρ o).run P w = .ok n w' ∧ (n = .value u ∨ (n = .skip ∧ u = undef)) ∧ Ext φ φ' ∧ VR φ' v u ∧ ChOk w0 w φ H φ' w' ch
  | .call f args => ∃ us, (execOp ρ o).run P w = .ok (.enter f us) w ∧ VRs φ args us.toList
  | .round b fr as bd => ∃ l tm fn, φ[b]? = some l ∧ (execOp ρ o).run P w = .ok (.round l.blk fn tm as bd) w ∧ VRs φ fr tm.toList

theorem opOk_val {ρ : Operand → Value} {o : Oper} {s : Sem Value} (he : execOp ρ o = (do pure (.value (← s)))) {v : AV} {u : Value} {ch : Option (AH × Nat)} {w' : World} {φ' : List Loc} (hs : s.run P w = .ok u w') (hx : Ext φ φ') (hv : VR φ' v u) (hc : ChOk w0 w φ H φ' w' ch) :
    OpOk P w0 w φ H ρ o (.val v ch) :=
  ⟨.value u, u, w', φ', by rw [he]; simp [hs], .inl rfl, hx, hv, hc⟩
theorem VRs.map_op {ρa : Operand → AV} {ρ : Operand → Value} (h : ∀ x, VR φ (ρa x) (ρ x)) (l : List Operand) : VRs φ (l.map ρa) (l.map ρ) := VRs.map_of l ρa ρ fun x _ => h x
theorem VRo.map_op {ρa : Operand → AV} {ρ : Operand → Value} (h : ∀ x, VR φ (ρa x) (ρ x)) : ∀ l : Option Operand, VRo φ (l.map ρa) (l.map ρ)
  | none => trivial
  | some x => h x
theorem PartsR.map_op {ρa : Operand → AV} {ρ : Operand → Value} (h : ∀ x, VR φ (ρa x) (ρ x)) : ∀ l : List (Nat × Operand), PartsR φ (l.map fun p => (p.1, ρa p.2)) (l.map fun p => (p.1, ρ p.2))
  | [] => trivial
  | _ :: r => ⟨rfl, h _, PartsR.map_op h r⟩

theorem acall_ok (hP : P.funcs.all (fun fn => !(fn.name == "runtime.NumGoroutine")) = true) (hr : Rel w0 φ H w) {o : Oper} {c : Call} {ρa : Operand → AV} {ρ : Operand → Value} {r : AO} (ho : o.op = .call c) (h : acall P c ρa H = some r) (hρ : ∀ x, VR φ (ρa x) (ρ x)) : OpOk P w0 w φ H ρ o r := by
  have hexec : execOp ρ o = (do let d ← resolve ρ c o.type; invoke d.target d.args) := by simp only [execOp, ho]
  unfold acall at h
  split at h
  · rename_i b hcal
    cases hb : abuiltin P b c.argTypes.toList (c.args.toList.map ρa) H with
    | none => rw [hb] at h; cases h
    | some q =>
      obtain ⟨v, ch⟩ := q
      rw [hb] at h; cases h
      obtain ⟨u, w', φ', h1, h2, h3, h4⟩ := abuiltin_ok (P := P) (type := o.type) (consts := c.args.map fun | .const _ => true | _ => false) hr hb (VRs.map_op hρ _)
      refine ⟨.value u, u, w', φ', ?_, .inl rfl, h2, h3, h4⟩
      rw [hexec]
      have e : (List.map ρ c.args.toList).toArray = c.args.map ρ := by rw [← Array.toList_map]
      rw [e] at h1
      simp only [resolve, hcal, pure_bind, invoke]
      exact h1
  · rename_i f hcal
    split at h
    · rename_i g first cap hf
      split at h
      · rename_i fn hg
        split at h
        · rename_i hbody
          cases h
          have hv := hρ f
          rw [hf] at hv
          generalize hfu : ρ f = fu at hv
          cases hv with
          | fn _ h1 h2 =>
            rename_i fs cs
            refine ⟨fs ++ c.args.map ρ ++ cs, ?_, ?_⟩
            · rw [hexec]
              have hname : (fn.name == "runtime.NumGoroutine") = false := by
                have hmem : fn ∈ P.funcs := Array.mem_of_getElem? hg
                have := (Array.all_eq_true_iff_forall_mem.1 hP) fn hmem
                simpa using this
              have hnone : fn.body.isNone = false := by cases hb : fn.body with | none => rw [hb] at hbody; cases hbody | some _ => rfl
              simp only [resolve, hcal, hfu, Deferred.ofValue, pure_bind, invoke, callFunc, Sem.run_bind, run_program, Result.andThen_ok, hg, hname, hnone, Bool.false_eq_true, if_false]
              rfl
            · simp only [Array.toList_append, Array.toList_map]
              exact (h1.append (VRs.map_op hρ _)).append h2
        · split at h
          · rename_i q hz
            obtain ⟨v, H'⟩ := q
            cases h
            have hv := hρ f
            rw [hf] at hv
            generalize hfu : ρ f = fu at hv
            cases hv with
            | fn _ h1 h2 =>
              rename_i fs cs
              obtain ⟨u, w', φ', h3, h4, h5, h6⟩ := anoz_ok (w := w) hr hg hz ((h1.append (VRs.map_op hρ c.args.toList)).append h2)
              refine ⟨.value u, u, w', φ', ?_, .inl rfl, h4, h5, h6, anoz_keeps hz⟩
              rw [hexec]
              simp only [resolve, hcal, hfu, Deferred.ofValue, pure_bind, invoke]
              rw [← h3]
              congr 2
              apply Array.toList_inj.1
              simp
          · cases he : aextern fn (first ++ c.args.toList.map ρa ++ cap) with
            | none => rw [he] at h; cases h
            | some v =>
              rw [he] at h
              cases h
              have hv := hρ f
              rw [hf] at hv
              generalize hfu : ρ f = fu at hv
              cases hv with
              | fn _ h1 h2 =>
                rename_i fs cs
                obtain ⟨u, h3, h4⟩ := aextern_ok (w := w) hg he ((h1.append (VRs.map_op hρ c.args.toList)).append h2)
                refine ⟨.value u, u, w, φ, ?_, .inl rfl, Ext.refl _, h4, ⟨rfl, rfl⟩⟩
                rw [hexec]
                simp only [resolve, hcal, hfu, Deferred.ofValue, pure_bind, invoke]
                rw [← h3]
                congr 2
                apply Array.toList_inj.1
                simp
      · cases h
    · rename_i b hf
      split at h
      · rename_i fr ps as bd st pd db hb
        split at h
        · rename_i hsz
          cases h
          have hv := hρ f
          rw [hf] at hv
          generalize hfu : ρ f = fu at hv
          cases hv with
          | yld hl =>
            rename_i l
            obtain ⟨_, tm, ld, f', _, h3, h4⟩ := hr.blocks b _ l hb hl
            refine ⟨l, _, f', hl, ?_, aparams_ok h3 (us := c.args.map ρ) (by rw [Array.toList_map]; exact VRs.map_op hρ _)⟩
            rw [hexec]
            simp only [resolve, hcal, hfu, Deferred.ofValue, pure_bind, invoke]
            rw [show (#[] ++ c.args.map ρ : Array Value) = c.args.map ρ by simp]
            exact run_yield h4 (by simpa using hsz)
        · cases h
      · cases h
    · cases h
  · cases h

set_option maxHeartbeats 2000000 in
theorem aop_ok (hP : P.funcs.all (fun fn => !(fn.name == "runtime.NumGoroutine")) = true) (hr : Rel w0 φ H w) {o : Oper} {ρa : Operand → AV} {ρ : Operand → Value} {r : AO} (h : aop P o ρa H = some r) (hρ : ∀ x, VR φ (ρa x) (ρ x)) : OpOk P w0 w φ H ρ o r := by
  unfold aop at h
  split at h
  case h_1 x ho =>
    cases h
    exact ⟨.value (ρ x), ρ x, w, φ, by simp [execOp, ho], .inl rfl, Ext.refl _, hρ x, rfl, rfl⟩
  case h_2 x ho =>
    cases h
    exact ⟨.value (ρ x), ρ x, w, φ, by simp [execOp, ho], .inl rfl, Ext.refl _, hρ x, rfl, rfl⟩
  case h_3 c a b ho =>
    split at h
    · rename_i t hc
      cases h
      have hv := hρ c
      rw [hc] at hv
      generalize hcu : ρ c = cu at hv
      cases hv
      refine ⟨.value (if t then ρ a else ρ b), if t then ρ a else ρ b, w, φ, by simp [execOp, ho, hcu, asBool], .inl rfl, Ext.refl _, ?_, rfl, rfl⟩
      cases t
      · exact hρ b
      · exact hρ a
    · cases h
  case h_4 e ho =>
    split at h
    · rename_i z hz
      cases h
      obtain ⟨i, zv, h1, h2, h3⟩ := azero_ok hz φ
      have hnew := hr.newCells e h3 (etag P e z.length) 0 #[] (by simp) (fun t h => tyOf_etag h)
      refine opOk_val (s := Instr.alloc e true (.tuple #[])) (by simp only [execOp, ho]) (u := .pointer (some ⟨w.heap.size, 0, none⟩)) (w' := { w with heap := w.heap.push (.cells zv.cells e) }) ?_ (Ext.snoc _ _) (hr.newPtr 0 0) ⟨by simpa using hnew, Keeps.append _ _ _⟩
      simp [Instr.alloc, zeroValue, typeInfo, h1, h2, newVar, newRow]
    · cases h
  case h_5 e x ho =>
    split at h
    · rename_i hb
      cases h
      have hcs := (hρ x).cells (by intro e; rw [e] at hb; cases hb)
      have hnew := hr.newCells e hcs 0 0 #[] (by simp)
      refine opOk_val (s := Instr.box e (ρ x)) (by simp only [execOp, ho]) (u := .pointer (some ⟨w.heap.size, 0, none⟩)) (w' := { w with heap := w.heap.push (.cells (ρ x).cells e) }) ?_ (Ext.snoc _ _) (hr.newPtr 0 0) ⟨by simpa using hnew, Keeps.append _ _ _⟩
      simp [Instr.box, newVar, newRow]
    · cases h
  case h_6 t ps ho =>
    cases hb : abuild P t (ps.toList.map fun p => (p.1, ρa p.2)) with
    | none => rw [hb] at h; cases h
    | some v =>
      rw [hb] at h; cases h
      obtain ⟨u, h1, h2⟩ := abuild_ok (P := P) (w := w) (qs := ps.map fun (i, x) => (i, ρ x)) hb (by simpa using PartsR.map_op hρ ps.toList)
      exact opOk_val (s := Instr.build t (ps.map fun (i, x) => (i, ρ x))) (by simp only [execOp, ho]) h2 (Ext.refl _) h1 ⟨rfl, rfl⟩
  case h_7 t n ps ho =>
    cases hb : abuildSlice P t n (ps.toList.map fun p => (p.1, ρa p.2)) H with
    | none => rw [hb] at h; cases h
    | some v =>
      obtain ⟨v, H'⟩ := v
      rw [hb] at h; cases h
      obtain ⟨u, w', φ', h1, h2, h3, h4⟩ := abuildSlice_ok (P := P) hr (qs := ps.map fun (i, x) => (i, ρ x)) hb (by simpa using PartsR.map_op hρ ps.toList)
      exact opOk_val (s := Instr.buildSlice t n (ps.map fun (i, x) => (i, ρ x))) (by simp only [execOp, ho]) h1 h2 h3 ⟨h4, abuildSlice_keeps hb⟩
  case h_8 t a ho =>
    cases hb : aload P t H (ρa a) with
    | none => rw [hb] at h; cases h
    | some v =>
      rw [hb] at h; cases h
      obtain ⟨ad, u, h1, h2, h3⟩ := aload_ok (P := P) hr (hρ a) hb
      exact opOk_val (s := Instr.loadAt t (ρ a)) (by simp only [execOp, ho]) (by simp [Instr.loadAt, h1, Instr.sureAddr, h3]) (Ext.refl _) h2 ⟨rfl, rfl⟩
  case h_9 t a x ho =>
    cases hb : astore P t H (ρa a) (ρa x) with
    | none => rw [hb] at h; cases h
    | some H' =>
      rw [hb] at h; cases h
      obtain ⟨ad, w', h1, h2, h3⟩ := astore_ok (P := P) hr (hρ a) (hρ x) hb
      refine ⟨.skip, undef, w', φ, ?_, .inr ⟨rfl, rfl⟩, Ext.refl _, .tuple .nil, h3, astore_keeps hb⟩
      simp [execOp, ho, Instr.storeAt, h1, Instr.sureAddr, h2]
  case h_10 x ho =>
    split at h
    · rename_i hp
      cases h
      have hv := hρ x
      refine ⟨.value (ρ x), ρ x, w, φ, ?_, .inl rfl, Ext.refl _, hv, rfl, rfl⟩
      simp only [execOp, ho]
      generalize ρ x = xu at hv
      generalize ρa x = xa at *
      cases hv <;> simp [isPlain] at hp <;> first | rfl | skip
      rename_i f _ _ _ _ _ _
      cases f <;> simp at hp
      rfl
    · cases h
  case h_11 op t x y yt ho =>
    cases hb : abinOp P op t x y (ρa x) (ρa y) with
    | none =>
      rw [hb] at h
      simp only at h
      split at h
      · rename_i b hq
        cases h
        exact opOk_val (s := (do eqGuard op t x y (ρ x) (ρ y); binOp op t (ρ x) (ρ y))) (by simp only [execOp, ho]) (aeqX_ok (P := P) (w := w) hq (hρ x) (hρ y)) (Ext.refl _) (.bool b) ⟨rfl, rfl⟩
      · cases hn : ananOp op (ρa x) (ρa y) with
        | none => rw [hn] at h; cases h
        | some v =>
          rw [hn] at h; cases h
          obtain ⟨u, h1, h2⟩ := ananOp_ok (P := P) (w := w) hn (hρ x) (hρ y)
          exact opOk_val (s := (do eqGuard op t x y (ρ x) (ρ y); binOp op t (ρ x) (ρ y))) (by simp only [execOp, ho]) h2 (Ext.refl _) h1 ⟨hr.drew, Keeps.refl _ _⟩
    | some v =>
      rw [hb] at h; cases h
      obtain ⟨u, h1, h2⟩ := abinOp_ok (P := P) (w := w) hb (hρ x) (hρ y)
      exact opOk_val (s := (do eqGuard op t x y (ρ x) (ρ y); binOp op t (ρ x) (ρ y))) (by simp only [execOp, ho]) h2 (Ext.refl _) h1 ⟨rfl, rfl⟩
  case h_12 op t x ho =>
    split at h
    · rename_i a ha
      cases hb : pureRun P (Op.unary op a) with
      | none => rw [hb] at h; cases h
      | some v =>
        rw [hb] at h; cases h
        refine opOk_val (s := Op.unary op (ρ x)) (by simp only [execOp, ho]) (u := v) (w' := w) ?_ (Ext.refl _) (ofV1_ok _ _) ⟨rfl, rfl⟩
        rw [sc_ok ha (hρ x)]
        exact pureRun_ok w hb
    · cases h
  case h_13 s d x ho =>
    split at h
    · rename_i v hp
      cases h
      obtain ⟨u, h1, h2⟩ := aptr_ok (P := P) hr hp (hρ x)
      exact opOk_val (s := convert s d (ρ x)) (by simp only [execOp, ho]) h2 (Ext.refl _) h1 ⟨rfl, rfl⟩
    · cases hb : aconvert P s d (ρa x) H with
      | none => rw [hb] at h; cases h
      | some q =>
        obtain ⟨v, ch⟩ := q
        rw [hb] at h; cases h
        obtain ⟨u, w', φ', h1, h2, h3, h4⟩ := aconvert_ok (P := P) hr hb (hρ x)
        exact opOk_val (s := convert s d (ρ x)) (by simp only [execOp, ho]) h1 h2 h3 h4
  case h_14 t x ho =>
    split at h
    · cases h
    · rename_i d hni hu
      cases h
      refine opOk_val (s := Instr.makeInterface t (ρ x)) (by simp only [execOp, ho]) (u := .iface t (ρ x)) (w' := w) ?_ (Ext.refl _) (.iface t (hρ x)) ⟨rfl, rfl⟩
      unfold Instr.makeInterface
      rw [Sem.run_bind, run_underlying hu]
      cases d <;> first | rfl | (exact absurd rfl (hni _))
    · cases h
  case h_15 f first cap ho =>
    cases h
    refine opOk_val (s := Instr.makeFunc f (first.map ρ) (cap.map ρ)) (by simp only [execOp, ho]) (u := .func f (first.map ρ) (cap.map ρ)) (w' := w) rfl (Ext.refl _) (.fn f ?_ ?_) ⟨rfl, rfl⟩
    · rw [Array.toList_map]; exact VRs.map_op hρ _
    · rw [Array.toList_map]; exact VRs.map_op hρ _
  case h_16 t l c ho =>
    cases hb : amakeSlice P t (ρa l) (ρa c) H with
    | none => rw [hb] at h; cases h
    | some q =>
      obtain ⟨v, H'⟩ := q
      rw [hb] at h; cases h
      obtain ⟨u, w', φ', h1, h2, h3, h4⟩ := amakeSlice_ok (P := P) hr hb (hρ l) (hρ c)
      refine opOk_val (s := Instr.makeSlice t (ρ l) (ρ c)) (by simp only [execOp, ho]) h1 h2 h3 ⟨h4, ?_⟩
      unfold amakeSlice at hb
      split at hb
      · split at hb
        · split at hb
          · cases hb; exact Keeps.append _ _ _
          · cases hb
        · cases hb
      · cases hb
  case h_17 t x lo hi mx ho =>
    cases hb : aslice P t (ρa x) (lo.map ρa) (hi.map ρa) (mx.map ρa) with
    | none => rw [hb] at h; cases h
    | some v =>
      rw [hb] at h; cases h
      obtain ⟨u, h1, h2⟩ := aslice_ok (P := P) (w := w) hb (hρ x) (VRo.map_op hρ lo) (VRo.map_op hρ hi) (VRo.map_op hρ mx)
      exact opOk_val (s := Instr.sliceAt t (ρ x) (lo.map ρ) (hi.map ρ) (mx.map ρ)) (by simp only [execOp, ho]) h2 (Ext.refl _) h1 ⟨rfl, rfl⟩
  case h_18 s x f ho =>
    cases hb : afieldAt P s (ρa x) f with
    | none => rw [hb] at h; cases h
    | some v =>
      rw [hb] at h; cases h
      obtain ⟨u, h1, h2⟩ := afieldAt_ok (P := P) (w := w) hb (hρ x)
      exact opOk_val (s := Instr.fieldAt s (ρ x) f) (by simp only [execOp, ho]) h2 (Ext.refl _) h1 ⟨rfl, rfl⟩
  case h_19 s x f ho =>
    cases hb : afield P s (ρa x) f with
    | none => rw [hb] at h; cases h
    | some v =>
      rw [hb] at h; cases h
      obtain ⟨u, h1, h2⟩ := afield_ok (P := P) (w := w) hb (hρ x)
      exact opOk_val (s := Instr.field s (ρ x) f) (by simp only [execOp, ho]) h2 (Ext.refl _) h1 ⟨rfl, rfl⟩
  case h_20 t x i ho =>
    cases hb : aindexAt P t (ρa x) (ρa i) with
    | none => rw [hb] at h; cases h
    | some v =>
      rw [hb] at h; cases h
      obtain ⟨u, h1, h2⟩ := aindexAt_ok (P := P) (w := w) hb (hρ x) (hρ i)
      exact opOk_val (s := Instr.indexAt t (ρ x) (ρ i)) (by simp only [execOp, ho]) h2 (Ext.refl _) h1 ⟨rfl, rfl⟩
  case h_21 t x i ho =>
    cases hb : aindex P t (ρa x) (ρa i) with
    | none => rw [hb] at h; cases h
    | some v =>
      rw [hb] at h; cases h
      obtain ⟨u, h1, h2⟩ := aindex_ok (P := P) (w := w) hb (hρ x) (hρ i)
      exact opOk_val (s := Instr.index t (ρ x) (ρ i)) (by simp only [execOp, ho]) h2 (Ext.refl _) h1 ⟨rfl, rfl⟩
  case h_22 x i ho =>
    cases hb : aextract (ρa x) i with
    | none => rw [hb] at h; cases h
    | some v =>
      rw [hb] at h; cases h
      obtain ⟨u, h1, h2⟩ := aextract_ok (P := P) (w := w) hb (hρ x)
      exact opOk_val (s := Instr.extract (ρ x) i) (by simp only [execOp, ho]) h2 (Ext.refl _) h1 ⟨rfl, rfl⟩
  case h_23 c ho => exact acall_ok hP hr ho h hρ
  case h_24 t r ho =>
    have hmap : VR (φ ++ [⟨w.heap.size, 0, 0⟩]) (.map H.length) (.map (some w.heap.size)) := by
      have e : (φ ++ [(⟨w.heap.size, 0, 0⟩ : Loc)])[H.length]? = some ⟨w.heap.size, 0, 0⟩ := by rw [← hr.len]; simp
      exact VR.map e
    split at h
    · cases h
      exact opOk_val (s := Instr.makeMap t none) (by simp only [execOp, ho]; rfl) (u := .map (some w.heap.size)) (w' := { w with heap := w.heap.push (.map #[] 0) }) rfl (Ext.snoc _ _) hmap ⟨hr.newMap, Keeps.append _ _ _⟩
    · rename_i x
      split at h
      · rename_i k e i n hu hx
        cases h
        have hv := hρ x
        rw [hx] at hv
        generalize hxu : ρ x = xu at hv
        cases hv
        refine opOk_val (s := Instr.makeMap t (some (.int i n))) (by simp only [execOp, ho, Option.map_some, hxu]) (u := .map (some w.heap.size)) (w' := { w with heap := w.heap.push (.map #[] 0) }) ?_ (Ext.snoc _ _) hmap ⟨hr.newMap, Keeps.append _ _ _⟩
        simp only [Instr.makeMap, Sem.run_bind, run_underlying hu, Result.andThen_ok]
        rfl
      · cases h
  case h_25 t x k ok ho =>
    cases hb : alookup P t (ρa x) (ρa k) ok H with
    | none => rw [hb] at h; cases h
    | some v =>
      rw [hb] at h; cases h
      obtain ⟨u, h1, h2⟩ := alookup_ok (P := P) hr hb (hρ x) (hρ k)
      exact opOk_val (s := Instr.lookup t (ρ x) (ρ k) ok) (by simp only [execOp, ho]) h2 (Ext.refl _) h1 ⟨rfl, rfl⟩
  case h_26 t m k x ho =>
    cases hb : amapUpdate P t (ρa m) (ρa k) (ρa x) H with
    | none => rw [hb] at h; cases h
    | some H' =>
      rw [hb] at h; cases h
      obtain ⟨w', h1, h2, _⟩ := amapUpdate_ok (P := P) hr hb (hρ m) (hρ k) (hρ x)
      refine ⟨.skip, undef, w', φ, ?_, .inr ⟨rfl, rfl⟩, Ext.refl _, .tuple .nil, h2, amapUpdate_keeps hb⟩
      simp [execOp, ho, h1]
  case h_27 t m k x ho =>
    cases hb : amapUpdate P t (ρa m) (ρa k) (ρa x) H with
    | none => rw [hb] at h; cases h
    | some H' =>
      rw [hb] at h; cases h
      obtain ⟨w', h1, h2, _⟩ := amapUpdate_ok (P := P) hr hb (hρ m) (hρ k) (hρ x)
      refine ⟨.skip, undef, w', φ, ?_, .inr ⟨rfl, rfl⟩, Ext.refl _, .tuple .nil, h2, amapUpdate_keeps hb⟩
      simp [execOp, ho, h1]
  case h_28 t x ho =>
    cases hb : arange P t (ρa x) H with
    | none => rw [hb] at h; cases h
    | some H' =>
      rw [hb] at h; cases h
      obtain ⟨u, w', φ', h1, h2, h3, h4⟩ := arange_ok (P := P) hr hb (hρ x)
      refine opOk_val (s := Instr.range t (ρ x)) (by simp only [execOp, ho]) h1 h2 h3 ⟨h4, ?_⟩
      unfold arange at hb
      split at hb
      · cases hb; exact Keeps.append _ _ _
      · cases hb
  case h_29 it s ho =>
    cases hb : anext (ρa it) s H with
    | none => rw [hb] at h; cases h
    | some q =>
      obtain ⟨v, ch⟩ := q
      rw [hb] at h; cases h
      obtain ⟨u, w', h1, h2, h3⟩ := anext_ok (P := P) (ty := o.type) hr hb (hρ it)
      exact opOk_val (s := Instr.next (ρ it) s o.type) (by simp only [execOp, ho]) h1 (Ext.refl _) h2 h3
  case h_30 => cases h
end
end Go.Ve
