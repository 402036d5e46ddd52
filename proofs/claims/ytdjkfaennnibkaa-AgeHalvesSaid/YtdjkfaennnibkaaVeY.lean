/- Open evaluation: steps on floats; steps that split. -/
import Derived.Test.YtdjkfaennnibkaaVe15
namespace Go.Ve
open Go Go.RowKit

/-- The lesser of two floats, where it is no matter of choice. -/
def minF (a b : Nat) : Option Nat :=
  match Ieee.double.order a b with
  | none => none
  | some .lt => some a
  | some .gt => some b
  | some .eq => some (if (Ieee.double.read a).neg then a else b)
theorem pureRun_min {P : Program} {a b r : Nat} (h : minF a b = some r) : pureRun P (Builtin.min_ #[] 0 #[.float .f64 a, .float .f64 b]) = some (.float .f64 r) := by
  unfold minF at h
  have e : pureRun P (Builtin.min_ #[] 0 #[.float .f64 a, .float .f64 b]) = pureRun P (Builtin.min2 (.float .f64 a) (.float .f64 b) >>= fun v => pure v) := rfl
  rw [e]
  simp only [Builtin.min2, FloatKind.format]
  cases ho : Ieee.double.order a b with
  | none => rw [ho] at h; cases h
  | some c =>
    rw [ho] at h
    cases c <;> (cases h; rfl)
theorem pureRun_mul {P : Program} {t : TypeId} {x y : Operand} {a b r : Nat} (h : Ieee.double.mul a b = some r) : pureRun P (do eqGuard .mul t x y (.float .f64 a) (.float .f64 b); binOp .mul t (.float .f64 a) (.float .f64 b) : Sem Value) = some (.float .f64 r) := by
  have e : pureRun P (do eqGuard .mul t x y (.float .f64 a) (.float .f64 b); binOp .mul t (.float .f64 a) (.float .f64 b) : Sem Value) = pureRun P (match Ieee.double.mul a b with
    | some r => (pure (.float .f64 r) : Sem Value)
    | none => do pure (.float .f64 (← choose (.nanBits .f64 a b)))) := rfl
  rw [e, h]; rfl
theorem pureRun_bindY {α β : Type} (P : Program) : ∀ (s : Sem α) (f : α → Sem β) {a : α}, pureRun P s = some a → pureRun P (s >>= f) = pureRun P (f a) := by
  intro s
  induction s with
  | pure b => intro f a h; simp [pureRun] at h; subst h; rfl
  | program k ih => intro f a h; simp only [pureRun] at h; exact ih P f h
  | mark m k ih => intro f a h; simp only [pureRun] at h; exact ih f h
  | _ => intro f a h; simp [pureRun] at h
theorem pureRun_underlyingY {P : Program} {t : TypeId} {d : TypeDesc} (h : P.underlying t = some d) : pureRun P (underlying t) = some d := by
  have e : pureRun P (underlying t) = pureRun P (match P.underlying t with | some d => pure d | none => stuck "no such type") := rfl
  rw [e, h]; rfl
theorem pureRun_f2i {P : Program} {s d : TypeId} {b : Nat} {n : Int} (hs : P.underlying s = some (.float .f64)) (hd : P.underlying d = some (.int .i64)) (h : (Ieee.double.read b).toInt .zero = some n) (h1 : -9223372036854775808 ≤ n) (h2 : n ≤ 9223372036854775807) : pureRun P (convert s d (.float .f64 b)) = some (.int .i64 n) := by
  unfold convert
  rw [pureRun_bindY P _ _ (pureRun_underlyingY hs), pureRun_bindY P _ _ (pureRun_underlyingY hd)]
  show pureRun P (Conv.floatToInt .f64 b .i64) = _
  unfold Conv.floatToInt
  have h' : (FloatKind.f64.decode b).toInt .zero = some n := h
  simp only [h']
  rw [if_pos ⟨h1, h2⟩]; rfl

section
variable {E : Env} {q : Bool} {ops : Array Oper} {o : Oper} {r : List Oper} {fr : List AV} {H : AH} {lo : Nat} {K : List AV → AH → Nat → Prop}
theorem opsW.minF (hw : awanted ops o fr = some true) {c : Call} {x y : Operand} {a b m : Nat} (ho : o.op = .call c) (hcal : c.callee = .builtin .min) (harg : c.args.toList = [x, y]) (hx : aeval fr x = .float .f64 a) (hy : aeval fr y = .float .f64 b) (hm : Go.Ve.minF a b = some m)
    {fr' : List AV} (h : opsW E q ops r fr' H lo K) (hfr : aput fr o.dst (.float .f64 m) = fr' := by simp only [aput, List.set_cons_succ, List.set_cons_zero]; rfl) : opsW E q ops (o :: r) fr H lo K := by
  subst hfr
  refine opsW.val (v := .float .f64 m) hw ?_ h rfl (fun _ => rfl)
  unfold aop
  simp only [ho, acall, hcal, harg, List.map_cons, List.map_nil, hx, hy]
  show Option.map _ ((pureRun E.P (Builtin.min_ #[] 0 #[.float .f64 a, .float .f64 b])).map fun v => (ofV1 v, none)) = _
  rw [pureRun_min hm]; rfl
theorem opsW.mulF (hw : awanted ops o fr = some true) {t yt : TypeId} {x y : Operand} {a b m : Nat} (ho : o.op = .binOp .mul t x y yt) (hx : aeval fr x = .float .f64 a) (hy : aeval fr y = .float .f64 b) (hm : Ieee.double.mul a b = some m)
    {fr' : List AV} (h : opsW E q ops r fr' H lo K) (hfr : aput fr o.dst (.float .f64 m) = fr' := by simp only [aput, List.set_cons_succ, List.set_cons_zero]; rfl) : opsW E q ops (o :: r) fr H lo K := by
  subst hfr
  refine opsW.val (v := .float .f64 m) hw ?_ h rfl (fun _ => rfl)
  have e : abinOp E.P .mul t x y (.float .f64 a) (.float .f64 b) = (pureRun E.P (do eqGuard .mul t x y (.float .f64 a) (.float .f64 b); binOp .mul t (.float .f64 a) (.float .f64 b) : Sem Value)).map ofV1 := rfl
  unfold aop
  simp only [ho, hx, hy, e, pureRun_mul hm]
  rfl
theorem opsW.f2i (hw : awanted ops o fr = some true) {s d : TypeId} {x : Operand} {b : Nat} {n : Int} (ho : o.op = .convert s d x) (hx : aeval fr x = .float .f64 b) (hs : E.P.underlying s = some (.float .f64)) (hd : E.P.underlying d = some (.int .i64)) (hn : (Ieee.double.read b).toInt .zero = some n) (h1 : -9223372036854775808 ≤ n) (h2 : n ≤ 9223372036854775807)
    {fr' : List AV} (h : opsW E q ops r fr' H lo K) (hfr : aput fr o.dst (.int .i64 n) = fr' := by simp only [aput, List.set_cons_succ, List.set_cons_zero]; rfl) : opsW E q ops (o :: r) fr H lo K := by
  subst hfr
  refine opsW.val (v := .int .i64 n) hw ?_ h rfl (fun _ => rfl)
  unfold aop
  have hp : aptr E.P s d (.float .f64 b) H = none := by
    unfold aptr
    simp only [hs, hd]
  have hrun := pureRun_f2i hs hd hn h1 h2
  simp only [ho, hx, hp, aconvert, AV.sc, hrun]
  rfl
theorem opsW.floorF (hw : awanted ops o fr = some true) {c : Call} {f x : Operand} {g : FuncId} {fn : Func} {b : Nat} {v : AV} (ho : o.op = .call c) (hcal : c.callee = .value f) (hf : aeval fr f = .fn (.func g) [] []) (hg : E.P.funcs[g]? = some fn) (hb : fn.body = none) (hor : fn.origin = "") (hnm : fn.name = "math.archFloor") (harg : c.args.toList = [x]) (hx : aeval fr x = .float .f64 b) (hi : aintegral .down b = some v)
    {fr' : List AV} (h : opsW E q ops r fr' H lo K) (hfr : aput fr o.dst v = fr' := by simp only [aput, List.set_cons_succ, List.set_cons_zero]; rfl) (hq : q = true → v.det = true := by first | exact fun h => Bool.noConfusion h | exact fun _ => rfl) : opsW E q ops (o :: r) fr H lo K := by
  subst hfr
  refine opsW.val (v := v) hw ?_ h rfl hq
  have h1 : anoz E.P fn [.float .f64 b] H = none := by
    unfold anoz
    rw [hnm, show ("math.archFloor" == "internal/bytealg.MakeNoZero") = false by decide, Bool.and_false]
    rfl
  have h2 : aextern fn [.float .f64 b] = some v := by
    unfold aextern
    rw [hb, hor, hnm]
    exact hi
  unfold aop
  simp only [ho, acall, hcal, hf, hg, hb, harg, List.map_cons, List.map_nil, hx, List.nil_append, List.append_nil, h1, h2, Option.isSome_none, Bool.false_eq_true, if_false]
  rfl
/-- A test: both ways. -/
theorem opsW.split (_ : binO o.op = true) (hw : awanted ops o fr = some true) {b : Bool} (ha : aop E.P o (aeval fr) H = some (.val (.bool b) none)) {fr1 fr0 : List AV} (h1 : b = true → opsW E q ops r fr1 H lo K) (h0 : b = false → opsW E q ops r fr0 H lo K)
    (hf1 : aput fr o.dst (.bool true) = fr1 := by simp only [aput, List.set_cons_succ, List.set_cons_zero]; rfl) (hf0 : aput fr o.dst (.bool false) = fr0 := by simp only [aput, List.set_cons_succ, List.set_cons_zero]; rfl) : opsW E q ops (o :: r) fr H lo K := by
  subst hf1; subst hf0
  cases b with
  | true => exact opsW.val hw ha (h1 rfl) rfl (fun _ => rfl)
  | false => exact opsW.val hw ha (h0 rfl) rfl (fun _ => rfl)
end
end Go.Ve
