/- Open evaluation: more steps (least and greatest, blocks behind the last). -/
import Derived.Test.YtkgkbpfjdlnoeaaDoorVe14
namespace Go.Ve
open Go Go.RowKit

theorem maxE (x y : Int) : (if y > x then y else x) = max x y := by
  rw [Int.max_def]; split <;> split <;> omega
theorem minE (x y : Int) : (if y < x then y else x) = min x y := by
  rw [Int.min_def]; split <;> split <;> omega
theorem cells_prev (H : AH) (vs : List AV) (esz : Nat) (ro : Bool) (t : ABlk) : cellsOf? (H ++ [.cells vs esz ro] ++ [t]) H.length = some vs := by
  simp [cellsOf?]
theorem cells_prev2 (H : AH) (vs : List AV) (esz : Nat) (ro : Bool) (t t2 : ABlk) : cellsOf? (H ++ [.cells vs esz ro] ++ [t] ++ [t2]) H.length = some vs := by
  simp [cellsOf?]
theorem wrapI64 {n : Int} (h1 : -9223372036854775808 ≤ n) (h2 : n < 9223372036854775808) : IntKind.i64.wrap n = n := by
  simp only [IntKind.wrap, IntKind.signed, IntKind.bits, Bool.true_and]
  split <;> rename_i h <;> simp at h <;> omega
section
variable {E : Env} {q : Bool} {ops : Array Oper} {o : Oper} {r : List Oper} {fr : List AV} {H : AH} {lo : Nat} {K : List AV → AH → Nat → Prop}
/-- A contract whose answer is known otherwise. -/
theorem CW.eq {f : FuncId} {args : List AV} {H : AH} {v v' : AV} (h : CW E f args H fun u ch => u = v ∧ ch = none) (e : v = v') : CW E f args H fun u ch => u = v' ∧ ch = none := e ▸ h
theorem opsW.maxI (hw : awanted ops o fr = some true) {c : Call} {x y : Operand} {k k' : IntKind} {a b : Int} (ho : o.op = .call c) (hcal : c.callee = .builtin .max) (harg : c.args.toList = [x, y]) (hx : aeval fr x = .int k a) (hy : aeval fr y = .int k' b)
    {fr' : List AV} (h : opsW E q ops r fr' H lo K) (hfr : aput fr o.dst (.int k (max a b)) = fr' := by simp only [aput, List.set_cons_succ, List.set_cons_zero]; rfl) : opsW E q ops (o :: r) fr H lo K := by
  subst hfr
  refine opsW.val (v := .int k (max a b)) hw ?_ h rfl (fun _ => rfl)
  unfold aop
  simp only [ho, acall, hcal, harg, List.map_cons, List.map_nil, hx, hy]
  rw [← maxE]
  rfl
theorem opsW.minI (hw : awanted ops o fr = some true) {c : Call} {x y : Operand} {k k' : IntKind} {a b : Int} (ho : o.op = .call c) (hcal : c.callee = .builtin .min) (harg : c.args.toList = [x, y]) (hx : aeval fr x = .int k a) (hy : aeval fr y = .int k' b)
    {fr' : List AV} (h : opsW E q ops r fr' H lo K) (hfr : aput fr o.dst (.int k (min a b)) = fr' := by simp only [aput, List.set_cons_succ, List.set_cons_zero]; rfl) : opsW E q ops (o :: r) fr H lo K := by
  subst hfr
  refine opsW.val (v := .int k (min a b)) hw ?_ h rfl (fun _ => rfl)
  unfold aop
  simp only [ho, acall, hcal, harg, List.map_cons, List.map_nil, hx, hy]
  rw [← minE]
  rfl
/-- The same as 'go', but for operations on two operands. -/
def stepOpM : Op → Bool
  | .binOp .. => false
  | o => stepOp o
theorem opsW.goM (_ : stepOpM o.op = true) (hw : awanted ops o fr = some true) {v : AV} (ha : aop E.P o (aeval fr) H = some (.val v none)) {fr' : List AV} (h : opsW E q ops r fr' H lo K) (hfr : aput fr o.dst v = fr' := by simp only [aput, List.set_cons_succ, List.set_cons_zero]; rfl) (hq : q = true → v.det = true := by first | exact fun h => Bool.noConfusion h | exact fun _ => rfl) : opsW E q ops (o :: r) fr H lo K :=
  opsW.val hw ha h hfr hq
/-- New memory, and stores, where the heap is known. -/
def stepOpC : Op → Bool
  | .alloc _ | .store .. => true
  | _ => false
theorem opsW.goC (_ : stepOpC o.op = true) (hw : awanted ops o fr = some true) {v : AV} {H' : AH} {wr : Nat} (ha : aop E.P o (aeval fr) H = some (.val v (some (H', wr)))) {fr' : List AV} (h : opsW E q ops r fr' H' (min lo wr) K) (hfr : aput fr o.dst v = fr' := by simp only [aput, List.set_cons_succ, List.set_cons_zero]; rfl) (hq : q = false := by rfl) : opsW E q ops (o :: r) fr H lo K :=
  opsW.chg hw ha h hfr hq
theorem cw_of_evC {f : FuncId} {args : List AV} {H H' : AH} {v : AV} {wr : Nat} (n : Nat) (h : evCall E (ev E n) f args H = some (v, some (H', wr))) : CW E f args H fun u ch => u = v ∧ ch = some (H', wr) := ⟨n, v, some (H', wr), h, rfl, rfl⟩
/-- An integer, said otherwise. -/
theorem opsW.intE (hw : awanted ops o fr = some true) {k : IntKind} {n n' : Int} (ha : aop E.P o (aeval fr) H = some (.val (.int k n) none)) (hn : n = n') {fr' : List AV} (h : opsW E q ops r fr' H lo K) (hfr : aput fr o.dst (.int k n') = fr' := by simp only [aput, List.set_cons_succ, List.set_cons_zero]; rfl) : opsW E q ops (o :: r) fr H lo K := by
  subst hn
  exact opsW.val hw ha h hfr (fun _ => rfl)
end
/-- A contract may stand in the oracle. -/
theorem orc_of_cw {E : Env} (hP : E.P.funcs.all (fun fn => !(fn.name == "runtime.NumGoroutine")) = true) (hm : E.P.follows .mixedOrders = true) (hO : CallOk E.P E.orc) {f : FuncId} {args : List AV} {H : AH} {v : AV} (h : CW E f args H fun u ch => u = v ∧ ch = none) :
    (∀ w0 φ w us, Rel w0 φ H w → VRs φ args us.toList → Calls E.P f us w (CallPost w0 φ H v none)) ∧ (∀ H' lo, (none : Option (AH × Nat)) = some (H', lo) → Keeps lo H H') := by
  obtain ⟨n, u, ch, h1, rfl, rfl⟩ := h
  exact ⟨((evCall_ok hO (ev_ok hP hm hO n)) _ _ _ _ _ h1).1, fun _ _ h => by cases h⟩
end Go.Ve
