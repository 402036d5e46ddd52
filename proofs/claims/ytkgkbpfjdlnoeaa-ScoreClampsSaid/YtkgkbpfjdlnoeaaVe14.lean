/- Open evaluation: steps for operations that hang on what is known of the data. -/
import Derived.Test.YtkgkbpfjdlnoeaaVe13
import Derived.IntWalk
namespace Go.Ve
open Go Go.RowKit

section
variable {E : Env} {q : Bool} {ops : Array Oper} {o : Oper} {r : List Oper} {fr : List AV} {H : AH} {lo : Nat} {K : List AV → AH → Nat → Prop}

/-- The value, said otherwise. -/
theorem opsW.valE (hw : awanted ops o fr = some true) {v v' : AV} (ha : aop E.P o (aeval fr) H = some (.val v none)) (hv : v = v') {fr' : List AV} (h : opsW E q ops r fr' H lo K) (hfr : aput fr o.dst v' = fr' := by simp only [aput, List.set_cons_succ, List.set_cons_zero]; rfl) (hq : q = true → v'.det = true := by first | exact fun h => Bool.noConfusion h | exact fun _ => rfl) : opsW E q ops (o :: r) fr H lo K := by
  subst hfr
  subst hv; exact opsW.val hw ha h rfl hq
/-- Operations that are tried as they come. -/
def stepOp : Op → Bool
  | .move _ | .assign _ | .binOp .. | .unOp .. | .extract .. | .makeInterface .. | .makeFunc .. | .field .. | .fieldAddr .. | .nilCheck _ | .load .. | .indexAddr .. | .index .. | .slice .. => true
  | .call c => match c.callee with
    | .builtin .len => true
    | _ => false
  | _ => false
theorem opsW.go (_ : stepOp o.op = true) (hw : awanted ops o fr = some true) {v : AV} (ha : aop E.P o (aeval fr) H = some (.val v none)) {fr' : List AV} (h : opsW E q ops r fr' H lo K) (hfr : aput fr o.dst v = fr' := by simp only [aput, List.set_cons_succ, List.set_cons_zero]; rfl) (hq : q = true → v.det = true := by first | exact fun h => Bool.noConfusion h | exact fun _ => rfl) : opsW E q ops (o :: r) fr H lo K :=
  opsW.val hw ha h hfr hq
/-- Is it a comparison? -/
def cmpO : BinOp → Bool
  | .eql | .neq | .lss | .leq | .gtr | .geq => true
  | _ => false
/-- The same, but for comparisons. -/
def stepOpN : Op → Bool
  | .binOp op .. => !cmpO op
  | o => stepOp o
theorem opsW.goN (_ : stepOpN o.op = true) (hw : awanted ops o fr = some true) {v : AV} (ha : aop E.P o (aeval fr) H = some (.val v none)) {fr' : List AV} (h : opsW E q ops r fr' H lo K) (hfr : aput fr o.dst v = fr' := by simp only [aput, List.set_cons_succ, List.set_cons_zero]; rfl) (hq : q = true → v.det = true := by first | exact fun h => Bool.noConfusion h | exact fun _ => rfl) : opsW E q ops (o :: r) fr H lo K :=
  opsW.val hw ha h hfr hq
def binO : Op → Bool
  | .binOp .. => true
  | .unOp .. => true
  | _ => false
/-- A test whose outcome is known. -/
theorem opsW.boolE (_ : binO o.op = true) (hw : awanted ops o fr = some true) {b b' : Bool} (ha : aop E.P o (aeval fr) H = some (.val (.bool b) none)) (hb : b = b') {fr' : List AV} (h : opsW E q ops r fr' H lo K) (hfr : aput fr o.dst (.bool b') = fr' := by simp only [aput, List.set_cons_succ, List.set_cons_zero]; rfl) : opsW E q ops (o :: r) fr H lo K := by
  subst hb
  exact opsW.val hw ha h hfr (fun _ => rfl)
/-- What an operand holds: slots are looked up, constants read. -/
inductive Holds (fr : List AV) : Operand → AV → Prop
  | tmp {t : Tmp} {v : AV} (h : fr[t]? = some v) : Holds fr (.tmp t) v
  | const (c : Value) : Holds fr (.const c) (ofV c)
  | func (f : FuncId) : Holds fr (.func f) (.fn (.func f) [] [])
theorem Holds.eval {x : Operand} {v : AV} (h : Holds fr x v) : aeval fr x = v := by
  cases h with
  | tmp h => simp [aeval, List.getD_eq_getElem?_getD, h]
  | const c => rfl
  | func f => rfl
theorem opsW.mov (hw : awanted ops o fr = some true) {t : Tmp} {v : AV} (ho : o.op = .move (.tmp t)) (hx : fr[t]? = some v) {fr' : List AV} (h : opsW E q ops r fr' H lo K) (hfr : aput fr o.dst v = fr' := by simp only [aput, List.set_cons_succ, List.set_cons_zero]; rfl) (hq : q = true → v.det = true := by first | exact fun h => Bool.noConfusion h | exact fun _ => rfl) : opsW E q ops (o :: r) fr H lo K := by
  subst hfr
  refine opsW.val (v := v) hw ?_ h rfl hq
  unfold aop
  rw [ho]
  simp only [(Holds.tmp hx).eval]
theorem opsW.asg (hw : awanted ops o fr = some true) {t : Tmp} {v : AV} (ho : o.op = .assign (.tmp t)) (hx : fr[t]? = some v) {fr' : List AV} (h : opsW E q ops r fr' H lo K) (hfr : aput fr o.dst v = fr' := by simp only [aput, List.set_cons_succ, List.set_cons_zero]; rfl) (hq : q = true → v.det = true := by first | exact fun h => Bool.noConfusion h | exact fun _ => rfl) : opsW E q ops (o :: r) fr H lo K := by
  subst hfr
  refine opsW.val (v := v) hw ?_ h rfl hq
  unfold aop
  rw [ho]
  simp only [(Holds.tmp hx).eval]
theorem opsW.pickT (hw : awanted ops o fr = some true) {c a b : Operand} {v : AV} (ho : o.op = .pick c a b) (hc : aeval fr c = .bool true) (ha : Holds fr a v) {fr' : List AV} (h : opsW E q ops r fr' H lo K) (hfr : aput fr o.dst v = fr' := by simp only [aput, List.set_cons_succ, List.set_cons_zero]; rfl) (hq : q = true → v.det = true := by first | exact fun h => Bool.noConfusion h | exact fun _ => rfl) : opsW E q ops (o :: r) fr H lo K := by
  subst hfr
  refine opsW.val (v := v) hw ?_ h rfl hq
  unfold aop
  rw [ho]
  simp only [hc, ha.eval]
  rfl
theorem opsW.pickF (hw : awanted ops o fr = some true) {c a b : Operand} {v : AV} (ho : o.op = .pick c a b) (hc : aeval fr c = .bool false) (hb : Holds fr b v) {fr' : List AV} (h : opsW E q ops r fr' H lo K) (hfr : aput fr o.dst v = fr' := by simp only [aput, List.set_cons_succ, List.set_cons_zero]; rfl) (hq : q = true → v.det = true := by first | exact fun h => Bool.noConfusion h | exact fun _ => rfl) : opsW E q ops (o :: r) fr H lo K := by
  subst hfr
  refine opsW.val (v := v) hw ?_ h rfl hq
  unfold aop
  rw [ho]
  simp only [hc, hb.eval]
  rfl
theorem opsW.box (hw : awanted ops o fr = some true) {e : TypeId} {t : Tmp} {v : AV} (ho : o.op = .box e (.tmp t)) (hx : fr[t]? = some v) (hb : notBad v = true) {fr' : List AV} (h : opsW E q ops r fr' (H ++ [.cells v.cells 0 false]) (min lo H.length) K) (hfr : aput fr o.dst (.ptr H.length 0) = fr' := by simp only [aput, List.set_cons_succ, List.set_cons_zero]; rfl) (hq : q = false := by rfl) : opsW E q ops (o :: r) fr H lo K := by
  subst hfr
  refine opsW.chg hw ?_ h rfl hq
  unfold aop
  rw [ho]
  simp only [(Holds.tmp hx).eval, hb, if_true]
theorem opsW.idx (hw : awanted ops o fr = some true) {t : TypeId} {x i : Operand} {e : TypeId} {inf : TypeInfo} {b off len c : Nat} {ex : Bool} {kd : IntKind} {n : Int} (ho : o.op = .indexAddr t x i)
    (hx : aeval fr x = .sl b off len c ex) (hi : aeval fr i = .int kd n) (hu : E.P.underlying t = some (.slice e)) (hinf : E.P.info? e = some inf) {sz : Nat} (hs : inf.size = sz) (h1 : 0 ≤ n) (h2 : n < (len : Int)) {m : Nat} (hm : off + n.toNat * sz = m)
    {fr' : List AV} (h : opsW E q ops r fr' H lo K) (hfr : aput fr o.dst (.ptr b m) = fr' := by simp only [aput, List.set_cons_succ, List.set_cons_zero]; rfl) : opsW E q ops (o :: r) fr H lo K := by
  subst hfr
  refine opsW.val (v := .ptr b m) hw ?_ h rfl (fun _ => rfl)
  unfold aop
  rw [ho]
  simp only [aindexAt, hx, hi, hu, hinf]
  rw [if_pos ⟨h1, h2⟩, hs, hm]
  rfl
theorem opsW.ld (hw : awanted ops o fr = some true) {t : TypeId} {a : Operand} {b off : Nat} {vs : List AV} {v : AV} (ho : o.op = .load t a)
    (ha : aeval fr a = .ptr b off) (hg : isAggP E.P t = some false) (hb : cellsOf? H b = some vs) (hv : vs[off]? = some v)
    {fr' : List AV} (h : opsW E q ops r fr' H lo K) (hfr : aput fr o.dst v = fr' := by simp only [aput, List.set_cons_succ, List.set_cons_zero]; rfl) (hq : q = true → v.det = true := by first | exact fun h => Bool.noConfusion h | exact fun _ => rfl) : opsW E q ops (o :: r) fr H lo K := by
  subst hfr
  refine opsW.val (v := v) hw ?_ h rfl hq
  unfold aop
  rw [ho]
  simp only [aload, ha, hb, aloadAt, hg, hv]
  rfl
theorem opsW.ldA (hw : awanted ops o fr = some true) {t : TypeId} {a : Operand} {b off : Nat} {vs cs : List AV} {inf : TypeInfo} (ho : o.op = .load t a)
    (ha : aeval fr a = .ptr b off) (hg : isAggP E.P t = some true) (hinf : E.P.info? t = some inf) (hb : cellsOf? H b = some vs) (hle : off + inf.size ≤ vs.length) (hv : (vs.drop off).take inf.size = cs)
    {fr' : List AV} (h : opsW E q ops r fr' H lo K) (hfr : aput fr o.dst (.agg cs) = fr' := by simp only [aput, List.set_cons_succ, List.set_cons_zero]; rfl) (hq : q = true → AV.det (.agg cs) = true := by first | exact fun h => Bool.noConfusion h | exact fun _ => rfl) : opsW E q ops (o :: r) fr H lo K := by
  subst hfr
  refine opsW.val (v := .agg cs) hw ?_ h rfl hq
  unfold aop
  rw [ho]
  simp only [aload, ha, hb, aloadAt, hg, hinf, if_pos hle, hv]
  rfl
/-- A byte of a text. -/
theorem opsW.byte (hw : awanted ops o fr = some true) {t : TypeId} {x i : Operand} {s : List UInt8} {kd : IntKind} {n : Int} {c : UInt8} (ho : o.op = .index t x i)
    (hx : aeval fr x = .str s) (hi : aeval fr i = .int kd n) (hu : E.P.underlying t = some .string) (h1 : 0 ≤ n) (hc : s[n.toNat]? = some c)
    {fr' : List AV} (h : opsW E q ops r fr' H lo K) (hfr : aput fr o.dst (.int .u8 c.toNat) = fr' := by simp only [aput, List.set_cons_succ, List.set_cons_zero]; rfl) : opsW E q ops (o :: r) fr H lo K := by
  subst hfr
  refine opsW.val (v := .int .u8 c.toNat) hw ?_ h rfl (fun _ => rfl)
  unfold aop
  rw [ho]
  simp only [aindex, hx, hi, hu, if_pos h1, hc]
  rfl
/-- A call that is answered, and changes nothing. -/
theorem opsW.callQ (hw : awanted ops o fr = some true) {f : FuncId} {args : List AV} {v : AV} (ha : aop E.P o (aeval fr) H = some (.call f args)) (hc : CW E f args H fun u ch => u = v ∧ ch = none)
    {fr' : List AV} (h : opsW E q ops r fr' H lo K) (hfr : aput fr o.dst v = fr' := by simp only [aput, List.set_cons_succ, List.set_cons_zero]; rfl) (hq : q = true → v.det = true := by first | exact fun h => Bool.noConfusion h | exact fun _ => rfl) : opsW E q ops (o :: r) fr H lo K := by
  subst hfr
  refine opsW.call hw ha ?_
  obtain ⟨n, u, ch, h1, h2, h3⟩ := hc
  subst h2; subst h3
  exact ⟨n, u, none, h1, hq, h⟩
/-- A call that is answered, and leaves a new heap. -/
theorem opsW.callC (hw : awanted ops o fr = some true) {f : FuncId} {args : List AV} {v : AV} {H' : AH} {wr : Nat} (ha : aop E.P o (aeval fr) H = some (.call f args)) (hc : CW E f args H fun u ch => u = v ∧ ch = some (H', wr))
    {fr' : List AV} (h : opsW E q ops r fr' H' (min lo wr) K) (hfr : aput fr o.dst v = fr' := by simp only [aput, List.set_cons_succ, List.set_cons_zero]; rfl) (hq : q = false := by rfl) : opsW E q ops (o :: r) fr H lo K := by
  subst hfr
  refine opsW.call hw ha ?_
  obtain ⟨n, u, ch, h1, h2, h3⟩ := hc
  subst h2; subst h3
  exact ⟨n, u, some (H', wr), h1, hq, h⟩
/-- New memory alone. -/
theorem opsW.new (hw : awanted ops o fr = some true) {v : AV} {t : AH} (ha : aop E.P o (aeval fr) H = some (.val v (some (H ++ t, H.length))))
    {fr' : List AV} (h : opsW E q ops r fr' (H ++ t) lo K) (hle : lo ≤ H.length := by simp) (hfr : aput fr o.dst v = fr' := by simp only [aput, List.set_cons_succ, List.set_cons_zero]; rfl) (hq : q = false := by rfl) : opsW E q ops (o :: r) fr H lo K := by
  refine opsW.chg hw ha ?_ hfr hq
  rw [Nat.min_eq_left hle]; exact h
theorem opsW.newE (hw : awanted ops o fr = some true) {v : AV} {t t' : AH} (ha : aop E.P o (aeval fr) H = some (.val v (some (H ++ t, H.length)))) (ht : t = t')
    {fr' : List AV} (h : opsW E q ops r fr' (H ++ t') lo K) (hle : lo ≤ H.length := by simp) (hfr : aput fr o.dst v = fr' := by simp only [aput, List.set_cons_succ, List.set_cons_zero]; rfl) (hq : q = false := by rfl) : opsW E q ops (o :: r) fr H lo K := by
  subst ht
  exact opsW.new hw ha h hle hfr hq
theorem opsW.callN (hw : awanted ops o fr = some true) {f : FuncId} {args : List AV} {v : AV} {t : AH} (ha : aop E.P o (aeval fr) H = some (.call f args)) (hc : CW E f args H fun u ch => u = v ∧ ch = some (H ++ t, H.length))
    {fr' : List AV} (h : opsW E q ops r fr' (H ++ t) lo K) (hle : lo ≤ H.length := by simp) (hfr : aput fr o.dst v = fr' := by simp only [aput, List.set_cons_succ, List.set_cons_zero]; rfl) (hq : q = false := by rfl) : opsW E q ops (o :: r) fr H lo K := by
  refine opsW.callC hw ha hc ?_ hfr hq
  rw [Nat.min_eq_left hle]; exact h
/-- A guard's outcome, said by an equation. -/
theorem opsW.guard {b : Bool} (hw : awanted ops o fr = some b) {fr' : List AV} (h0 : b = false → opsW E q ops r fr' H lo K) (h1 : b = true → awanted ops o fr = some true → opsW E q ops (o :: r) fr H lo K) (hfr : aput fr o.dst (.tuple []) = fr' := by simp only [aput, List.set_cons_succ, List.set_cons_zero]; rfl) : opsW E q ops (o :: r) fr H lo K := by
  cases b with
  | false => exact opsW.skip hw (h0 rfl) hfr
  | true => exact h1 rfl hw
theorem CW.mono {f : FuncId} {args : List AV} {K K' : AV → Option (AH × Nat) → Prop} (h : CW E f args H K) (hk : ∀ v ch, K v ch → K' v ch) : CW E f args H K' := by
  obtain ⟨n, v, ch, h1, h2⟩ := h
  exact ⟨n, v, ch, h1, hk _ _ h2⟩
/-- How a body's end is met where one slot is the result, and nothing was changed. -/
theorem endQ {fn : Func} {t : Tmp} {v : AV} {n : Nat} {K : AV → Option (AH × Nat) → Prop} (hr : fn.results.toList = [.tmp t]) (hlo : lo = n) (hv : fr.getD t (.tuple []) = v) (hf : v.flat = true) (hk : K v none) {ex : AEx} (hex : ∀ id, ex ≠ .exit id) :
    RetQ E fn n K ex fr H lo := by
  refine ⟨hex, [v], by simp only [hr, aresults, aresult, hv], fun _ => hk, fun h => absurd ⟨hlo, hf⟩ h⟩
/-- How a body's end is met where one slot is the result, and the heap has changed. -/
theorem endC {fn : Func} {t : Tmp} {v : AV} {n : Nat} {K : AV → Option (AH × Nat) → Prop} (hr : fn.results.toList = [.tmp t]) (hv : fr.getD t (.tuple []) = v) (hf : v.flat = false) (hk : K v (some (H, lo))) {ex : AEx} (hex : ∀ id, ex ≠ .exit id) :
    RetQ E fn n K ex fr H lo := by
  refine ⟨hex, [v], by simp only [hr, aresults, aresult, hv], fun h => ?_, fun _ => hk⟩
  have := h.2
  rw [show oneOf [v] = v from rfl, hf] at this
  cases this
theorem nat_succ_i64 (i : Nat) (h : i + 1 ≤ maxLen) : IntKind.i64.wrap ((i : Int) + 1) = ((i + 1 : Nat) : Int) := by
  rw [wrap_i64 (by omega) (by omega)]; rfl
theorem cw_of_ev {f : FuncId} {args : List AV} {H : AH} {v : AV} (n : Nat) (h : evCall E (ev E n) f args H = some (v, none)) : CW E f args H fun u ch => u = v ∧ ch = none := ⟨n, v, none, h, rfl, rfl⟩
theorem CW.to {f : FuncId} {args : List AV} {H : AH} {v : AV} (h : CW E f args H fun u ch => u = v ∧ ch = none) : ∃ n ch, evCall E (ev E n) f args H = some (v, ch) := by
  obtain ⟨n, u, ch, h1, rfl, rfl⟩ := h
  exact ⟨n, none, h1⟩
theorem cells_last (H : AH) (vs : List AV) (esz : Nat) (ro : Bool) : cellsOf? (H ++ [.cells vs esz ro]) H.length = some vs := by
  simp [cellsOf?]
theorem bool_eq {a b : Bool} (h : a = b) : AV.bool a = AV.bool b := congrArg _ h
end
end Go.Ve
