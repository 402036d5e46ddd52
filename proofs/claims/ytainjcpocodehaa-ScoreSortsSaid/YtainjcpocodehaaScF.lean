/- The law ScoreFades: its walk. -/
import Derived.Test.YtainjcpocodehaaScP
set_option linter.unusedSimpArgs false
set_option linter.unusedVariables false
namespace Go.Proofs.Ytainjcpocodehaa
open Go Go.Ve
set_option maxRecDepth 20000
noncomputable def eF : Nat := btag Try.prog 22 1
def ints (zs : List Int) : List AV := zs.map (.int .i32)
def fls (zs : List Int) : List AV := zs.map fun z => .float .f64 (FloatKind.f64.nearest z)
def gLiv (args : List AV) : Option (Bool × AV) := match args with | [] => some (true, .bool true) | _ => none
noncomputable def TLv : List (Nat × SpecE) := [(14, flatE gCmpF), (17, flatE gFade), (11, flatE gSame)]
noncomputable def faLv (f : FuncId) : Option FA := match Nat.beq f 52 with | true => some ⟨[], [], []⟩ | false => match Nat.beq f 68 with | true => some ⟨[], [], []⟩ | false => none
noncomputable def VLv : VE := ⟨Try.prog, tabS TLv noS, noO, faLv⟩
noncomputable def TSf : List (Nat × SpecE) := [(10, flatE gLiv), (14, flatE gCmpF), (13, flatE gChk), (15, flatE gLoad), (17, flatE gFade), (16, flatE gAbs), (11, flatE gSame)]
noncomputable def aSum (zs : List Int) : Anns := [(3, [.mk Nat (fun i => [(8, .int .i64 i), (3, .float .f64 (FloatKind.f64.nearest (sumZ (zs.take i))))]) (fun _ => none) (fun i => i ≤ zs.length) (fun i => zs.length - i) gcB gcB (fun i => [(11, .float .f64 (FloatKind.f64.nearest (zs.getD i 0)))]) (fun _ => [])])]
noncomputable def faSf (zs : List Int) (f : FuncId) : Option FA := match Nat.beq f 12 with | true => some ⟨[], aSum zs, []⟩ | false => none
noncomputable def VSf (zs : List Int) : VE := ⟨Try.prog, tabS TSf noS, noO, faSf zs⟩
noncomputable def cutS (H : AH) (k : Nat) : Nat × List Ann := (k, [.mk Unit (fun _ => []) (fun _ => some H) (fun _ => True) (fun _ => 0) gcB gcB (fun _ => []) (fun _ => [])])
noncomputable def cuts (H : AH) : Anns := [cutS H 7000014, cutS H 7000016, cutS H 7000018]
noncomputable def aSf (zs r : List Int) (e : Nat) (ro : Bool) : Anns := [(8, [
  .mk Unit (fun _ => [(15, .int .i64 0), (13, .nilsl), (14, .int .i64 0)]) (fun _ => some [.cells (ints (zs ++ r)) e ro]) (fun _ => True) (fun _ => zs.length) gcB gcB (fun _ => [(31, .int .i32 (zs.getD 0 0)), (39, .int .i32 (zs.getD 0 0))]) (fun _ => []),
  .mk Nat (fun i => [(15, .int .i64 i), (13, .sl 1 0 i i false), (14, .int .i64 (sumZ (zs.take i)))]) (fun i => some [.cells (ints (zs ++ r)) e ro, .cells (fls (zs.take i)) eF false]) (fun i => 1 ≤ i ∧ i ≤ zs.length) (fun i => zs.length - i) gcB gcB (fun i => [(31, .int .i32 (zs.getD i 0)), (39, .int .i32 (zs.getD i 0))]) (fun _ => [])]),
  (7000012, [
  .mk Unit (fun _ => [(13, .nilsl), (14, .int .i64 0)]) (fun _ => some [.cells (ints (zs ++ r)) e ro]) (fun _ => zs = []) (fun _ => 0) gcB gcB (fun _ => []) (fun _ => cuts [.cells (ints (zs ++ r)) e ro]),
  .mk Unit (fun _ => [(13, .sl 1 0 zs.length zs.length false), (14, .int .i64 (sumZ zs))]) (fun _ => some [.cells (ints (zs ++ r)) e ro, .cells (fls zs) eF false]) (fun _ => zs ≠ []) (fun _ => 0) gcB gcB (fun _ => []) (fun _ => cuts [.cells (ints (zs ++ r)) e ro, .cells (fls zs) eF false])])]
noncomputable def aSf0 : Anns := cuts []

noncomputable def vLiv  : Prop := vcF VLv [] 60 [] [] 10 [] [] (Go.Ve.one (.bool true))
noncomputable def vSfN  (old now part : Nat) (out : Int) (w : Nat) : Prop := vcF (VSf []) [] 60 aSf0 [] 3 [.float .f64 old, .float .f64 now, .float .f64 part, .nilsl, .int .i64 out, .float .f64 w] [] (Go.Ve.one (.bool true))
noncomputable def vSfZ  (old now part : Nat) (out : Int) (w : Nat) : Prop := vcF (VSf []) [] 60 aSf0 [] 3 [.float .f64 old, .float .f64 now, .float .f64 part, .slz, .int .i64 out, .float .f64 w] [] (Go.Ve.one (.bool true))
noncomputable def vSf  (zs r : List Int) (e : Nat) (ro : Bool) (c : Nat) (ex : Bool) (old now part : Nat) (out : Int) (w : Nat) : Prop := vcF (VSf zs) [] 60 (aSf zs r e ro) [] 3 [.float .f64 old, .float .f64 now, .float .f64 part, .sl 0 0 zs.length c ex, .int .i64 out, .float .f64 w] [.cells (ints (zs ++ r)) e ro] [⟨Unit, fun _ => .bool true, fun _ => [.cells (ints (zs ++ r)) e ro], fun _ => True, gcB⟩]
def gqScF0 : Nat → Nat := (fun (b : Nat) => [(0 : Nat)].getD b (1 : Nat))
def gqScF1 : Nat → Nat := (fun (b : Nat) => [(0 : Nat)].getD b (2 : Nat))
def gqScF2 : Nat → Nat := (fun (b : Nat) => [(0 : Nat), (1 : Nat)].getD b (2 : Nat))
def gsScF0 (zs : List Int) (r : List Int) (e : Nat) (ro : Bool) : Prop := ((bif e.beq e && sameB ro ro then cellsP gqScF0 (ints (zs ++ r)) (ints (zs ++ r)) ∧ True else False) ∧ True)
def gsScF1 (zs : List Int) (r : List Int) (e : Nat) (ro : Bool) : Prop := ((bif e.beq e && sameB ro ro then cellsP gqScF2 (ints (zs ++ r)) (ints (zs ++ r)) ∧ True else False) ∧ (cellsP gqScF2 (fls zs) (fls zs) ∧ True) ∧ True)
def gsScF2 (zs : List Int) (r : List Int) (e : Nat) (ro : Bool) : Prop := ((bif e.beq e && sameB ro ro then cellsP gqScF1 (ints (zs ++ r)) (ints (zs ++ r)) ∧ True else False) ∧ True)
theorem vLiv_eq  : vLiv  = (∃ (_x : Unit), True ∧ True ∧ true = true ∧ True) := by kernel_rfl
theorem vSfN_eq  (old now part : Nat) (out : Int) (w : Nat) : vSfN old now part out w = (((∃ (x : Nat), x ≤ (0 : Nat) ∧ True ∧ (0 : Int) = ic x ∧ AV.float FloatKind.f64 (0 : Nat) = AV.float FloatKind.f64 (FloatKind.f64.nearest (sumZ (List.take x []))) ∧ True) ∧ ∀ (x : Nat), x ≤ (0 : Nat) → bif (flR BinOp.add (FloatKind.f64.nearest (sumZ (List.take x []))) (0 : Nat)).isSome then bif !samB (flV BinOp.add (FloatKind.f64.nearest (sumZ (List.take x []))) (0 : Nat)) (0 : Nat) then ∃ (_x : Unit), True ∧ True ∧ false = true ∧ True else ∃ (_x : Unit), True ∧ True ∧ True else Stuck (1000000 : Nat) (11 : Nat)) ∧ ∀ (x : Unit), True → (bif eqI (chkV w) (0 : Int) then bif leI (0 : Int) out then bif ltI out (1099511627776 : Int) then bif leI (0 : Int) out && (ltI out (2199023255552 : Int) && (flR BinOp.quo (FloatKind.f64.nearest (out + (1 : Int))) w).isSome) then bif leI (-9223372036854775808 : Int) (out + (1 : Int)) && leI (out + (1 : Int)) (9223372036854775807 : Int) then bif leI (0 : Int) (out + (1 : Int)) && (ltI (out + (1 : Int)) (2199023255552 : Int) && (flR BinOp.quo (FloatKind.f64.nearest (out + (1 : Int) + (1 : Int))) w).isSome) then bif in64 (flV BinOp.quo (FloatKind.f64.nearest (out + (1 : Int))) w) && in64 (flV BinOp.quo (FloatKind.f64.nearest (out + (1 : Int) + (1 : Int))) w) then bif leI (0 : Int) (cmpv (rk (flV BinOp.quo (FloatKind.f64.nearest (out + (1 : Int))) w)) (rk (flV BinOp.quo (FloatKind.f64.nearest (out + (1 : Int) + (1 : Int))) w))) then ∃ (_x : Unit), True ∧ True ∧ false = true ∧ True else bif leI (0 : Int) out && (ltI out (2199023255552 : Int) && (flR BinOp.quo (FloatKind.f64.nearest (out + (1 : Int))) w).isSome) then bif flC BinOp.leq (flV BinOp.quo (FloatKind.f64.nearest (out + (1 : Int))) w) (0 : Nat) then ∃ (_x : Unit), True ∧ True ∧ false = true ∧ True else ∃ (_x : Unit), True ∧ True ∧ True else False else False else False else False else False else ∃ (_x : Unit), True ∧ True ∧ True else ∃ (_x : Unit), True ∧ True ∧ True else ∃ (_x : Unit), True ∧ True ∧ True) ∧ ∀ (x : Unit), True → (bif flC BinOp.eql part (0 : Nat) then bif (flR BinOp.sub old old).isSome then bif flC BinOp.eql (flV BinOp.sub old old) (0 : Nat) then bif (flR BinOp.sub now now).isSome then bif flC BinOp.eql (flV BinOp.sub now now) (0 : Nat) then bif in64 old then bif flC BinOp.lss (Rnd.rung old) (6850974717710472879 : Nat) then bif in64 now then bif flC BinOp.lss (Rnd.rung now) (6850974717710472879 : Nat) then bif fadB old now part then ∃ (_x : Unit), True ∧ True ∧ flC BinOp.eql (fadV old now part) old = true ∧ True else False else ∃ (_x : Unit), True ∧ True ∧ True else False else ∃ (_x : Unit), True ∧ True ∧ True else False else ∃ (_x : Unit), True ∧ True ∧ True else ∃ (_x : Unit), True ∧ True ∧ True else ∃ (_x : Unit), True ∧ True ∧ True else ∃ (_x : Unit), True ∧ True ∧ True else ∃ (_x : Unit), True ∧ True ∧ True) ∧ ∀ (x : Unit), True → bif !samB old now then ∃ (_x : Unit), True ∧ True ∧ true = true ∧ True else bif (flR BinOp.sub old old).isSome then bif flC BinOp.neq (flV BinOp.sub old old) (0 : Nat) then ∃ (_x : Unit), True ∧ True ∧ true = true ∧ True else bif (flR BinOp.sub part part).isSome then bif flC BinOp.neq (flV BinOp.sub part part) (0 : Nat) then ∃ (_x : Unit), True ∧ True ∧ true = true ∧ True else bif fadB old now part then ∃ (_x : Unit), True ∧ True ∧ flC BinOp.eql (fadV old now part) old = true ∧ True else False else ∃ (_x : Unit), True ∧ True ∧ true = true ∧ True else ∃ (_x : Unit), True ∧ True ∧ true = true ∧ True) := by kernel_rfl
theorem vSfZ_eq  (old now part : Nat) (out : Int) (w : Nat) : vSfZ old now part out w = (((∃ (x : Nat), x ≤ (0 : Nat) ∧ True ∧ (0 : Int) = ic x ∧ AV.float FloatKind.f64 (0 : Nat) = AV.float FloatKind.f64 (FloatKind.f64.nearest (sumZ (List.take x []))) ∧ True) ∧ ∀ (x : Nat), x ≤ (0 : Nat) → bif (flR BinOp.add (FloatKind.f64.nearest (sumZ (List.take x []))) (0 : Nat)).isSome then bif !samB (flV BinOp.add (FloatKind.f64.nearest (sumZ (List.take x []))) (0 : Nat)) (0 : Nat) then ∃ (_x : Unit), True ∧ True ∧ false = true ∧ True else ∃ (_x : Unit), True ∧ True ∧ True else Stuck (1000000 : Nat) (11 : Nat)) ∧ ∀ (x : Unit), True → (bif eqI (chkV w) (0 : Int) then bif leI (0 : Int) out then bif ltI out (1099511627776 : Int) then bif leI (0 : Int) out && (ltI out (2199023255552 : Int) && (flR BinOp.quo (FloatKind.f64.nearest (out + (1 : Int))) w).isSome) then bif leI (-9223372036854775808 : Int) (out + (1 : Int)) && leI (out + (1 : Int)) (9223372036854775807 : Int) then bif leI (0 : Int) (out + (1 : Int)) && (ltI (out + (1 : Int)) (2199023255552 : Int) && (flR BinOp.quo (FloatKind.f64.nearest (out + (1 : Int) + (1 : Int))) w).isSome) then bif in64 (flV BinOp.quo (FloatKind.f64.nearest (out + (1 : Int))) w) && in64 (flV BinOp.quo (FloatKind.f64.nearest (out + (1 : Int) + (1 : Int))) w) then bif leI (0 : Int) (cmpv (rk (flV BinOp.quo (FloatKind.f64.nearest (out + (1 : Int))) w)) (rk (flV BinOp.quo (FloatKind.f64.nearest (out + (1 : Int) + (1 : Int))) w))) then ∃ (_x : Unit), True ∧ True ∧ false = true ∧ True else bif leI (0 : Int) out && (ltI out (2199023255552 : Int) && (flR BinOp.quo (FloatKind.f64.nearest (out + (1 : Int))) w).isSome) then bif flC BinOp.leq (flV BinOp.quo (FloatKind.f64.nearest (out + (1 : Int))) w) (0 : Nat) then ∃ (_x : Unit), True ∧ True ∧ false = true ∧ True else ∃ (_x : Unit), True ∧ True ∧ True else False else False else False else False else False else ∃ (_x : Unit), True ∧ True ∧ True else ∃ (_x : Unit), True ∧ True ∧ True else ∃ (_x : Unit), True ∧ True ∧ True) ∧ ∀ (x : Unit), True → (bif flC BinOp.eql part (0 : Nat) then bif (flR BinOp.sub old old).isSome then bif flC BinOp.eql (flV BinOp.sub old old) (0 : Nat) then bif (flR BinOp.sub now now).isSome then bif flC BinOp.eql (flV BinOp.sub now now) (0 : Nat) then bif in64 old then bif flC BinOp.lss (Rnd.rung old) (6850974717710472879 : Nat) then bif in64 now then bif flC BinOp.lss (Rnd.rung now) (6850974717710472879 : Nat) then bif fadB old now part then ∃ (_x : Unit), True ∧ True ∧ flC BinOp.eql (fadV old now part) old = true ∧ True else False else ∃ (_x : Unit), True ∧ True ∧ True else False else ∃ (_x : Unit), True ∧ True ∧ True else False else ∃ (_x : Unit), True ∧ True ∧ True else ∃ (_x : Unit), True ∧ True ∧ True else ∃ (_x : Unit), True ∧ True ∧ True else ∃ (_x : Unit), True ∧ True ∧ True else ∃ (_x : Unit), True ∧ True ∧ True) ∧ ∀ (x : Unit), True → bif !samB old now then ∃ (_x : Unit), True ∧ True ∧ true = true ∧ True else bif (flR BinOp.sub old old).isSome then bif flC BinOp.neq (flV BinOp.sub old old) (0 : Nat) then ∃ (_x : Unit), True ∧ True ∧ true = true ∧ True else bif (flR BinOp.sub part part).isSome then bif flC BinOp.neq (flV BinOp.sub part part) (0 : Nat) then ∃ (_x : Unit), True ∧ True ∧ true = true ∧ True else bif fadB old now part then ∃ (_x : Unit), True ∧ True ∧ flC BinOp.eql (fadV old now part) old = true ∧ True else False else ∃ (_x : Unit), True ∧ True ∧ true = true ∧ True else ∃ (_x : Unit), True ∧ True ∧ true = true ∧ True) := by kernel_rfl
theorem vSf_eq  (zs r : List Int) (e : Nat) (ro : Bool) (c : Nat) (ex : Bool) (old now part : Nat) (out : Int) (w : Nat) : vSf zs r e ro c ex old now part out w = (bif ltI (60 : Int) (ic zs.length) then ∃ (_x : Unit), True ∧ (gsScF0 zs r e ro) ∧ true = true ∧ True else (((∃ (_x : Unit), True ∧ (gsScF0 zs r e ro) ∧ (0 : Int) = (0 : Int) ∧ True ∧ (0 : Int) = (0 : Int) ∧ True) ∨ ∃ (x : Nat), ((1 : Nat) ≤ x ∧ x ≤ zs.length) ∧ False) ∧ (∀ (x : Unit), True → bif ltI (0 : Int) (ic zs.length) then bif ltI (0 : Int) (ic zs.length) then (ints (zs ++ r))[(0 : Nat)]? = some (AV.int IntKind.i32 (zs.getD (0 : Nat) (0 : Int))) ∧ bif ltI (0 : Int) (ic zs.length) then (ints (zs ++ r))[(0 : Nat)]? = some (AV.int IntKind.i32 (zs.getD (0 : Nat) (0 : Int))) ∧ bif leI (-9223372036854775808 : Int) (zs.getD (0 : Nat) (0 : Int)) && leI (zs.getD (0 : Nat) (0 : Int)) (9223372036854775807 : Int) then bif leI (-9223372036854775808 : Int) ((0 : Int) + zs.getD (0 : Nat) (0 : Int)) && leI ((0 : Int) + zs.getD (0 : Nat) (0 : Int)) (9223372036854775807 : Int) then (∃ (_x : Unit), True ∧ zs.length < zs.length ∧ ((bif e.beq e && sameB ro ro then cellsP (fun (b : Nat) => [(0 : Nat)].getD b (3 : Nat)) (ints (zs ++ r)) (ints (zs ++ r)) ∧ True else False) ∧ True) ∧ (1 : Int) = (0 : Int) ∧ False ∧ (0 : Int) + zs.getD (0 : Nat) (0 : Int) = (0 : Int) ∧ True) ∨ ∃ (y : Nat), ((1 : Nat) ≤ y ∧ y ≤ zs.length) ∧ zs.length - y < zs.length ∧ ((bif e.beq e && sameB ro ro then cellsP (fun (b : Nat) => [(0 : Nat), (2 : Nat)].getD b (3 : Nat)) (ints (zs ++ r)) (ints (zs ++ r)) ∧ True else False) ∧ (cellsP (fun (b : Nat) => [(0 : Nat), (2 : Nat)].getD b (3 : Nat)) (fls (List.take y zs)) [AV.float FloatKind.f64 (FloatKind.f64.nearest (zs.getD (0 : Nat) (0 : Int)))] ∧ True) ∧ True) ∧ (1 : Int) = ic y ∧ ((0 : Nat) = (0 : Nat) ∧ (1 : Nat) = y ∧ (1 : Nat) = y ∧ false = false) ∧ (0 : Int) + zs.getD (0 : Nat) (0 : Int) = sumZ (List.take y zs) ∧ True else False else False else False else False else (∃ (_x : Unit), zs = [] ∧ (gsScF0 zs r e ro) ∧ True ∧ (0 : Int) = (0 : Int) ∧ True) ∨ ∃ (_x : Unit), zs ≠ [] ∧ False) ∧ ∀ (x : Nat), (1 : Nat) ≤ x ∧ x ≤ zs.length → bif ltI (ic x) (ic zs.length) then bif ltI (ic x) (ic zs.length) then (ints (zs ++ r))[(0 : Nat) + x * (1 : Nat)]? = some (AV.int IntKind.i32 (zs.getD x (0 : Int))) ∧ bif decide (x ≤ x) && decide ((0 : Nat) + x * (1 : Nat) ≤ (fls (List.take x zs)).length) then bif decide (x + (1 : Nat) ≤ x) then bif decide ((0 : Nat) + (x + (1 : Nat)) * (1 : Nat) ≤ (fls (List.take x zs)).length) && true then bif ltI (ic x) (ic zs.length) then (ints (zs ++ r))[(0 : Nat) + x * (1 : Nat)]? = some (AV.int IntKind.i32 (zs.getD x (0 : Int))) ∧ bif leI (-9223372036854775808 : Int) (zs.getD x (0 : Int)) && leI (zs.getD x (0 : Int)) (9223372036854775807 : Int) then bif leI (-9223372036854775808 : Int) (sumZ (List.take x zs) + zs.getD x (0 : Int)) && leI (sumZ (List.take x zs) + zs.getD x (0 : Int)) (9223372036854775807 : Int) then bif leI (ic x + (1 : Int)) (9223372036854775807 : Int) then (∃ (_x : Unit), True ∧ zs.length < zs.length - x ∧ ((bif e.beq e && sameB ro ro then cellsP (fun (b : Nat) => [(0 : Nat)].getD b (3 : Nat)) (ints (zs ++ r)) (ints (zs ++ r)) ∧ True else False) ∧ True) ∧ ic x + (1 : Int) = (0 : Int) ∧ False ∧ sumZ (List.take x zs) + zs.getD x (0 : Int) = (0 : Int) ∧ True) ∨ ∃ (y : Nat), ((1 : Nat) ≤ y ∧ y ≤ zs.length) ∧ zs.length - y < zs.length - x ∧ ((bif e.beq e && sameB ro ro then cellsP (fun (b : Nat) => [(0 : Nat), (1 : Nat)].getD b (3 : Nat)) (ints (zs ++ r)) (ints (zs ++ r)) ∧ True else False) ∧ (cellsP (fun (b : Nat) => [(0 : Nat), (1 : Nat)].getD b (3 : Nat)) (fls (List.take y zs)) (setManyF (fls (List.take x zs)) ((0 : Nat) + x * (1 : Nat)) [AV.float FloatKind.f64 (FloatKind.f64.nearest (zs.getD x (0 : Int)))]) ∧ True) ∧ True) ∧ ic x + (1 : Int) = ic y ∧ ((0 : Nat) = (0 : Nat) ∧ x + (1 : Nat) = y ∧ x = y ∧ false = false) ∧ sumZ (List.take x zs) + zs.getD x (0 : Int) = sumZ (List.take y zs) ∧ True else False else False else False else False else False else bif decide (x + (1 : Nat) ≤ (9223372036854775807 : Nat)) && decide ((x + (1 : Nat)) * (8 : Nat) ≤ (140737488355328 : Nat)) then bif decide (x = x) && (decide ((0 : Nat) + x * (1 : Nat) = (fls (List.take x zs)).length) && true) then bif ltI (ic x) (ic zs.length) then (ints (zs ++ r))[(0 : Nat) + x * (1 : Nat)]? = some (AV.int IntKind.i32 (zs.getD x (0 : Int))) ∧ bif leI (-9223372036854775808 : Int) (zs.getD x (0 : Int)) && leI (zs.getD x (0 : Int)) (9223372036854775807 : Int) then bif leI (-9223372036854775808 : Int) (sumZ (List.take x zs) + zs.getD x (0 : Int)) && leI (sumZ (List.take x zs) + zs.getD x (0 : Int)) (9223372036854775807 : Int) then bif leI (ic x + (1 : Int)) (9223372036854775807 : Int) then (∃ (_x : Unit), True ∧ zs.length < zs.length - x ∧ ((bif e.beq e && sameB ro ro then cellsP (fun (b : Nat) => [(0 : Nat)].getD b (4 : Nat)) (ints (zs ++ r)) (ints (zs ++ r)) ∧ True else False) ∧ True) ∧ ic x + (1 : Int) = (0 : Int) ∧ False ∧ sumZ (List.take x zs) + zs.getD x (0 : Int) = (0 : Int) ∧ True) ∨ ∃ (y : Nat), ((1 : Nat) ≤ y ∧ y ≤ zs.length) ∧ zs.length - y < zs.length - x ∧ ((bif e.beq e && sameB ro ro then cellsP (fun (b : Nat) => [(0 : Nat), (3 : Nat)].getD b (4 : Nat)) (ints (zs ++ r)) (ints (zs ++ r)) ∧ True else False) ∧ (cellsP (fun (b : Nat) => [(0 : Nat), (3 : Nat)].getD b (4 : Nat)) (fls (List.take y zs)) (List.drop (0 : Nat) (fls (List.take x zs)) ++ [AV.float FloatKind.f64 (FloatKind.f64.nearest (zs.getD x (0 : Int)))]) ∧ True) ∧ True) ∧ ic x + (1 : Int) = ic y ∧ ((0 : Nat) = (0 : Nat) ∧ x + (1 : Nat) = y ∧ x + (1 : Nat) = y ∧ false = false) ∧ sumZ (List.take x zs) + zs.getD x (0 : Int) = sumZ (List.take y zs) ∧ True else False else False else False else False else False else False else False else False else (∃ (_x : Unit), zs = [] ∧ (gsScF2 zs r e ro) ∧ False ∧ sumZ (List.take x zs) = (0 : Int) ∧ True) ∨ ∃ (_x : Unit), zs ≠ [] ∧ ((bif e.beq e && sameB ro ro then cellsP gqScF2 (ints (zs ++ r)) (ints (zs ++ r)) ∧ True else False) ∧ (cellsP gqScF2 (fls zs) (fls (List.take x zs)) ∧ True) ∧ True) ∧ ((0 : Nat) = (0 : Nat) ∧ x = zs.length ∧ x = zs.length ∧ false = false) ∧ sumZ (List.take x zs) = sumZ zs ∧ True) ∧ (∀ (x : Unit), zs = [] → ((∃ (x : Nat), x ≤ zs.length ∧ (gsScF0 zs r e ro) ∧ (0 : Int) = ic x ∧ AV.float FloatKind.f64 (0 : Nat) = AV.float FloatKind.f64 (FloatKind.f64.nearest (sumZ (List.take x zs))) ∧ True) ∧ ∀ (x : Nat), x ≤ zs.length → bif (flR BinOp.add (FloatKind.f64.nearest (sumZ (List.take x zs))) (0 : Nat)).isSome then bif !samB (flV BinOp.add (FloatKind.f64.nearest (sumZ (List.take x zs))) (0 : Nat)) (0 : Nat) then ∃ (_x : Unit), True ∧ (gsScF0 zs r e ro) ∧ false = true ∧ True else ∃ (_x : Unit), True ∧ (gsScF0 zs r e ro) ∧ True else Stuck (1000000 : Nat) (11 : Nat)) ∧ ∀ (x : Unit), True → (bif eqI (chkV w) (0 : Int) then bif leI (0 : Int) out then bif ltI out (1099511627776 : Int) then bif leI (0 : Int) out && (ltI out (2199023255552 : Int) && (flR BinOp.quo (FloatKind.f64.nearest (out + (1 : Int))) w).isSome) then bif leI (-9223372036854775808 : Int) (out + (1 : Int)) && leI (out + (1 : Int)) (9223372036854775807 : Int) then bif leI (0 : Int) (out + (1 : Int)) && (ltI (out + (1 : Int)) (2199023255552 : Int) && (flR BinOp.quo (FloatKind.f64.nearest (out + (1 : Int) + (1 : Int))) w).isSome) then bif in64 (flV BinOp.quo (FloatKind.f64.nearest (out + (1 : Int))) w) && in64 (flV BinOp.quo (FloatKind.f64.nearest (out + (1 : Int) + (1 : Int))) w) then bif leI (0 : Int) (cmpv (rk (flV BinOp.quo (FloatKind.f64.nearest (out + (1 : Int))) w)) (rk (flV BinOp.quo (FloatKind.f64.nearest (out + (1 : Int) + (1 : Int))) w))) then ∃ (_x : Unit), True ∧ (gsScF0 zs r e ro) ∧ false = true ∧ True else bif leI (0 : Int) out && (ltI out (2199023255552 : Int) && (flR BinOp.quo (FloatKind.f64.nearest (out + (1 : Int))) w).isSome) then bif flC BinOp.leq (flV BinOp.quo (FloatKind.f64.nearest (out + (1 : Int))) w) (0 : Nat) then ∃ (_x : Unit), True ∧ (gsScF0 zs r e ro) ∧ false = true ∧ True else ∃ (_x : Unit), True ∧ (gsScF0 zs r e ro) ∧ True else False else False else False else False else False else ∃ (_x : Unit), True ∧ (gsScF0 zs r e ro) ∧ True else ∃ (_x : Unit), True ∧ (gsScF0 zs r e ro) ∧ True else ∃ (_x : Unit), True ∧ (gsScF0 zs r e ro) ∧ True) ∧ ∀ (x : Unit), True → (bif flC BinOp.eql part (0 : Nat) then bif (flR BinOp.sub old old).isSome then bif flC BinOp.eql (flV BinOp.sub old old) (0 : Nat) then bif (flR BinOp.sub now now).isSome then bif flC BinOp.eql (flV BinOp.sub now now) (0 : Nat) then bif in64 old then bif flC BinOp.lss (Rnd.rung old) (6850974717710472879 : Nat) then bif in64 now then bif flC BinOp.lss (Rnd.rung now) (6850974717710472879 : Nat) then bif fadB old now part then ∃ (_x : Unit), True ∧ (gsScF0 zs r e ro) ∧ flC BinOp.eql (fadV old now part) old = true ∧ True else False else ∃ (_x : Unit), True ∧ (gsScF0 zs r e ro) ∧ True else False else ∃ (_x : Unit), True ∧ (gsScF0 zs r e ro) ∧ True else False else ∃ (_x : Unit), True ∧ (gsScF0 zs r e ro) ∧ True else ∃ (_x : Unit), True ∧ (gsScF0 zs r e ro) ∧ True else ∃ (_x : Unit), True ∧ (gsScF0 zs r e ro) ∧ True else ∃ (_x : Unit), True ∧ (gsScF0 zs r e ro) ∧ True else ∃ (_x : Unit), True ∧ (gsScF0 zs r e ro) ∧ True) ∧ ∀ (x : Unit), True → bif !samB old now then ∃ (_x : Unit), True ∧ (gsScF0 zs r e ro) ∧ true = true ∧ True else bif (flR BinOp.sub old old).isSome then bif flC BinOp.neq (flV BinOp.sub old old) (0 : Nat) then ∃ (_x : Unit), True ∧ (gsScF0 zs r e ro) ∧ true = true ∧ True else bif (flR BinOp.sub part part).isSome then bif flC BinOp.neq (flV BinOp.sub part part) (0 : Nat) then ∃ (_x : Unit), True ∧ (gsScF0 zs r e ro) ∧ true = true ∧ True else bif fadB old now part then ∃ (_x : Unit), True ∧ (gsScF0 zs r e ro) ∧ flC BinOp.eql (fadV old now part) old = true ∧ True else False else ∃ (_x : Unit), True ∧ (gsScF0 zs r e ro) ∧ true = true ∧ True else ∃ (_x : Unit), True ∧ (gsScF0 zs r e ro) ∧ true = true ∧ True) ∧ ∀ (x : Unit), zs ≠ [] → ((∃ (x : Nat), x ≤ zs.length ∧ (gsScF1 zs r e ro) ∧ (0 : Int) = ic x ∧ AV.float FloatKind.f64 (0 : Nat) = AV.float FloatKind.f64 (FloatKind.f64.nearest (sumZ (List.take x zs))) ∧ True) ∧ ∀ (x : Nat), x ≤ zs.length → bif ltI (ic x) (ic zs.length) then bif ltI (ic x) (ic zs.length) then (fls zs)[(0 : Nat) + x * (1 : Nat)]? = some (AV.float FloatKind.f64 (FloatKind.f64.nearest (zs.getD x (0 : Int)))) ∧ bif (flR BinOp.add (FloatKind.f64.nearest (sumZ (List.take x zs))) (FloatKind.f64.nearest (zs.getD x (0 : Int)))).isSome then bif leI (ic x + (1 : Int)) (9223372036854775807 : Int) then ∃ (y : Nat), y ≤ zs.length ∧ zs.length - y < zs.length - x ∧ (gsScF1 zs r e ro) ∧ ic x + (1 : Int) = ic y ∧ AV.float FloatKind.f64 (flV BinOp.add (FloatKind.f64.nearest (sumZ (List.take x zs))) (FloatKind.f64.nearest (zs.getD x (0 : Int)))) = AV.float FloatKind.f64 (FloatKind.f64.nearest (sumZ (List.take y zs))) ∧ True else False else bif leI (ic x + (1 : Int)) (9223372036854775807 : Int) then ∃ (y : Nat), y ≤ zs.length ∧ zs.length - y < zs.length - x ∧ (gsScF1 zs r e ro) ∧ ic x + (1 : Int) = ic y ∧ AV.nan FloatKind.f64 = AV.float FloatKind.f64 (FloatKind.f64.nearest (sumZ (List.take y zs))) ∧ True else False else False else bif (flR BinOp.add (FloatKind.f64.nearest (sumZ (List.take x zs))) (0 : Nat)).isSome then bif !samB (flV BinOp.add (FloatKind.f64.nearest (sumZ (List.take x zs))) (0 : Nat)) (FloatKind.f64.nearest (sumZ zs)) then ∃ (_x : Unit), True ∧ (gsScF2 zs r e ro) ∧ false = true ∧ True else ∃ (_x : Unit), True ∧ (gsScF1 zs r e ro) ∧ True else Stuck (1000000 : Nat) (11 : Nat)) ∧ ∀ (x : Unit), True → (bif eqI (chkV w) (0 : Int) then bif leI (0 : Int) out then bif ltI out (1099511627776 : Int) then bif leI (0 : Int) out && (ltI out (2199023255552 : Int) && (flR BinOp.quo (FloatKind.f64.nearest (out + (1 : Int))) w).isSome) then bif leI (-9223372036854775808 : Int) (out + (1 : Int)) && leI (out + (1 : Int)) (9223372036854775807 : Int) then bif leI (0 : Int) (out + (1 : Int)) && (ltI (out + (1 : Int)) (2199023255552 : Int) && (flR BinOp.quo (FloatKind.f64.nearest (out + (1 : Int) + (1 : Int))) w).isSome) then bif in64 (flV BinOp.quo (FloatKind.f64.nearest (out + (1 : Int))) w) && in64 (flV BinOp.quo (FloatKind.f64.nearest (out + (1 : Int) + (1 : Int))) w) then bif leI (0 : Int) (cmpv (rk (flV BinOp.quo (FloatKind.f64.nearest (out + (1 : Int))) w)) (rk (flV BinOp.quo (FloatKind.f64.nearest (out + (1 : Int) + (1 : Int))) w))) then ∃ (_x : Unit), True ∧ (gsScF2 zs r e ro) ∧ false = true ∧ True else bif leI (0 : Int) out && (ltI out (2199023255552 : Int) && (flR BinOp.quo (FloatKind.f64.nearest (out + (1 : Int))) w).isSome) then bif flC BinOp.leq (flV BinOp.quo (FloatKind.f64.nearest (out + (1 : Int))) w) (0 : Nat) then ∃ (_x : Unit), True ∧ (gsScF2 zs r e ro) ∧ false = true ∧ True else ∃ (_x : Unit), True ∧ (gsScF1 zs r e ro) ∧ True else False else False else False else False else False else ∃ (_x : Unit), True ∧ (gsScF1 zs r e ro) ∧ True else ∃ (_x : Unit), True ∧ (gsScF1 zs r e ro) ∧ True else ∃ (_x : Unit), True ∧ (gsScF1 zs r e ro) ∧ True) ∧ ∀ (x : Unit), True → (bif flC BinOp.eql part (0 : Nat) then bif (flR BinOp.sub old old).isSome then bif flC BinOp.eql (flV BinOp.sub old old) (0 : Nat) then bif (flR BinOp.sub now now).isSome then bif flC BinOp.eql (flV BinOp.sub now now) (0 : Nat) then bif in64 old then bif flC BinOp.lss (Rnd.rung old) (6850974717710472879 : Nat) then bif in64 now then bif flC BinOp.lss (Rnd.rung now) (6850974717710472879 : Nat) then bif fadB old now part then ∃ (_x : Unit), True ∧ (gsScF2 zs r e ro) ∧ flC BinOp.eql (fadV old now part) old = true ∧ True else False else ∃ (_x : Unit), True ∧ (gsScF1 zs r e ro) ∧ True else False else ∃ (_x : Unit), True ∧ (gsScF1 zs r e ro) ∧ True else False else ∃ (_x : Unit), True ∧ (gsScF1 zs r e ro) ∧ True else ∃ (_x : Unit), True ∧ (gsScF1 zs r e ro) ∧ True else ∃ (_x : Unit), True ∧ (gsScF1 zs r e ro) ∧ True else ∃ (_x : Unit), True ∧ (gsScF1 zs r e ro) ∧ True else ∃ (_x : Unit), True ∧ (gsScF1 zs r e ro) ∧ True) ∧ ∀ (x : Unit), True → bif !samB old now then ∃ (_x : Unit), True ∧ (gsScF2 zs r e ro) ∧ true = true ∧ True else bif (flR BinOp.sub old old).isSome then bif flC BinOp.neq (flV BinOp.sub old old) (0 : Nat) then ∃ (_x : Unit), True ∧ (gsScF2 zs r e ro) ∧ true = true ∧ True else bif (flR BinOp.sub part part).isSome then bif flC BinOp.neq (flV BinOp.sub part part) (0 : Nat) then ∃ (_x : Unit), True ∧ (gsScF2 zs r e ro) ∧ true = true ∧ True else bif fadB old now part then ∃ (_x : Unit), True ∧ (gsScF2 zs r e ro) ∧ flC BinOp.eql (fadV old now part) old = true ∧ True else False else ∃ (_x : Unit), True ∧ (gsScF2 zs r e ro) ∧ true = true ∧ True else ∃ (_x : Unit), True ∧ (gsScF2 zs r e ro) ∧ true = true ∧ True) := by kernel_rfl
open Rnd
theorem ints_flat (zs : List Int) : AV.flats (ints zs) = true := flats_map _ _ fun _ => rfl
theorem fls_flat (zs : List Int) : AV.flats (fls zs) = true := flats_map _ _ fun _ => rfl
theorem cells_refl {σ : Nat → Nat} {vs : List AV} (hf : AV.flats vs = true) : cellsP σ vs vs := cellsP_flat hf rfl
theorem sameB_self (b : Bool) : sameB b b = true := by cases b <;> rfl
theorem T_ok (σ : Nat → Nat) (zs : List Int) (e : Nat) (ro : Bool) : (bif e.beq e && sameB ro ro then cellsP σ (ints zs) (ints zs) ∧ True else False) := by
  rw [Nat.beq_refl, sameB_self]
  exact ⟨cells_refl (ints_flat _), trivial⟩
theorem chk_of {w : Nat} (h : eqI (chkV w) 0 = true) : chkB w = true := by
  rw [eqI_t] at h
  unfold chkV at h
  cases hc : chkB w
  · rw [hc] at h; cases h
  · rfl
theorem leq_zero {r : Nat} (h0 : 0 < r) (h1 : r ≤ INF) : flC .leq r 0 = false := by
  have ie := inf_eq
  show (Ieee.double.order r 0 == some .lt || Ieee.double.order r 0 == some .eq) = false
  have hr : rung r = r := by unfold rung; rw [if_pos (by omega)]
  have hn : isN r = false := decide_eq_false (by rw [hr]; omega)
  rw [order_sv (by omega) (by decide) hn (by decide), sv_pos (by omega), sv_pos (by decide)]
  have := fv_lt h0
  rw [Int.compare_eq_gt.2 (by omega)]; rfl
theorem loads_ok {T U : Prop} (hT : T) {out : Int} {w : Nat} (hw : w < 2 ^ 64) :
    (bif eqI (chkV w) 0 then bif leI 0 out then bif ltI out 1099511627776
      then bif leI 0 out && (ltI out 2199023255552 && (flR BinOp.quo (FloatKind.f64.nearest (out + 1)) w).isSome)
      then bif leI (-9223372036854775808) (out + 1) && leI (out + 1) 9223372036854775807
      then bif leI 0 (out + 1) && (ltI (out + 1) 2199023255552 && (flR BinOp.quo (FloatKind.f64.nearest (out + 1 + 1)) w).isSome)
      then bif in64 (flV BinOp.quo (FloatKind.f64.nearest (out + 1)) w) && in64 (flV BinOp.quo (FloatKind.f64.nearest (out + 1 + 1)) w)
      then bif leI 0 (cmpv (rk (flV BinOp.quo (FloatKind.f64.nearest (out + 1)) w)) (rk (flV BinOp.quo (FloatKind.f64.nearest (out + 1 + 1)) w)))
      then ∃ (_x : Unit), True ∧ U ∧ false = true ∧ True
      else bif leI 0 out && (ltI out 2199023255552 && (flR BinOp.quo (FloatKind.f64.nearest (out + 1)) w).isSome)
      then bif flC BinOp.leq (flV BinOp.quo (FloatKind.f64.nearest (out + 1)) w) 0
      then ∃ (_x : Unit), True ∧ U ∧ false = true ∧ True
      else ∃ (_x : Unit), True ∧ T ∧ True
      else False else False else False else False else False
      else ∃ (_x : Unit), True ∧ T ∧ True
      else ∃ (_x : Unit), True ∧ T ∧ True
      else ∃ (_x : Unit), True ∧ T ∧ True) := by
  have fin : ∃ (_x : Unit), True ∧ T ∧ True := ⟨(), trivial, hT, trivial⟩
  refine cond_intro (fun h1 => cond_intro (fun h2 => cond_intro (fun h3 => ?_) fun _ => fin) fun _ => fin) fun _ => fin
  have hc := chk_rung hw (chk_of h1)
  rw [leI_t] at h2
  rw [ltI_t] at h3
  obtain ⟨n, rfl⟩ : ∃ n : Nat, out = n := ⟨out.toNat, by omega⟩
  obtain ⟨r, s, g1, g2, g3, g4, g5⟩ := load_up (n := n + 1) (w := w) (by omega) (by omega) hc.1 hc.2
  have ie := inf_eq
  rw [show ((n + 1 : Nat) : Int) = (n : Int) + 1 by omega] at g1 g2
  rw [near_fI, near_fI, g1, g2, flV_of g1, flV_of g2, leq_zero g3 (by omega)]
  have l1 : leI 0 (n : Int) = true := by rw [leI_t]; omega
  have l2 : ltI (n : Int) 2199023255552 = true := by rw [ltI_t]; omega
  have l3 : leI (-9223372036854775808) ((n : Int) + 1) = true := by rw [leI_t]; omega
  have l4 : leI ((n : Int) + 1) 9223372036854775807 = true := by rw [leI_t]; omega
  have l5 : leI 0 ((n : Int) + 1) = true := by rw [leI_t]; omega
  have l6 : ltI ((n : Int) + 1) 2199023255552 = true := by rw [ltI_t]; omega
  have l7 : in64 r = true := decide_eq_true (by omega)
  have l8 : in64 s = true := decide_eq_true (by omega)
  have l9 : cmpv (rk r) (rk s) = -1 := by
    unfold cmpv rk
    rw [if_pos (show r < 2 ^ 63 by omega), if_pos (show s < 2 ^ 63 by omega), if_pos (by omega)]
  rw [l1, l2, l3, l4, l5, l6, l7, l8, l9]
  exact fin
theorem fades_ok {T U : Prop} (hT : T) (hU : U) {old now part : Nat} (ho : old < 2 ^ 64) (hn : now < 2 ^ 64) (hp : part < 2 ^ 64) :
    (bif flC BinOp.eql part 0 then bif (flR BinOp.sub old old).isSome then bif flC BinOp.eql (flV BinOp.sub old old) 0 then bif (flR BinOp.sub now now).isSome then bif flC BinOp.eql (flV BinOp.sub now now) 0
      then bif in64 old then bif flC BinOp.lss (Rnd.rung old) 6850974717710472879 then bif in64 now then bif flC BinOp.lss (Rnd.rung now) 6850974717710472879
      then bif fadB old now part
      then ∃ (_x : Unit), True ∧ U ∧ flC BinOp.eql (fadV old now part) old = true ∧ True
      else False
      else ∃ (_x : Unit), True ∧ T ∧ True
      else False
      else ∃ (_x : Unit), True ∧ T ∧ True
      else False
      else ∃ (_x : Unit), True ∧ T ∧ True
      else ∃ (_x : Unit), True ∧ T ∧ True
      else ∃ (_x : Unit), True ∧ T ∧ True
      else ∃ (_x : Unit), True ∧ T ∧ True
      else ∃ (_x : Unit), True ∧ T ∧ True) := by
  have fin : ∃ (_x : Unit), True ∧ T ∧ True := ⟨(), trivial, hT, trivial⟩
  have io : in64 old = true := decide_eq_true ho
  have iw : in64 now = true := decide_eq_true hn
  refine cond_intro (fun h1 => cond_intro (fun h2 => cond_intro (fun _ => cond_intro (fun h3 => cond_intro (fun _ => ?_) fun _ => fin) fun _ => fin) fun _ => fin) fun _ => fin) fun _ => fin
  rw [io, iw]
  refine cond_intro (fun _ => cond_intro (fun h4 => cond_intro (fun _ => cond_intro (fun h5 => ?_) fun _ => fin) fun h => by cases h) fun _ => fin) fun h => by cases h
  obtain ⟨k1, k2⟩ := fade_none ho hn hp h1 h2 h3 h4 h5
  rw [k1, k2]
  exact ⟨(), trivial, hU, rfl, trivial⟩
theorem same_ok {T : Prop} (hT : T) {old now part : Nat} (ho : old < 2 ^ 64) (hp : part < 2 ^ 64) :
    (bif !samB old now then ∃ (_x : Unit), True ∧ T ∧ true = true ∧ True
      else bif (flR BinOp.sub old old).isSome then bif flC BinOp.neq (flV BinOp.sub old old) 0
      then ∃ (_x : Unit), True ∧ T ∧ true = true ∧ True
      else bif (flR BinOp.sub part part).isSome then bif flC BinOp.neq (flV BinOp.sub part part) 0
      then ∃ (_x : Unit), True ∧ T ∧ true = true ∧ True
      else bif fadB old now part
      then ∃ (_x : Unit), True ∧ T ∧ flC BinOp.eql (fadV old now part) old = true ∧ True
      else False
      else ∃ (_x : Unit), True ∧ T ∧ true = true ∧ True
      else ∃ (_x : Unit), True ∧ T ∧ true = true ∧ True) := by
  have fin : ∃ (_x : Unit), True ∧ T ∧ true = true ∧ True := ⟨(), trivial, hT, rfl, trivial⟩
  refine cond_intro (fun _ => fin) fun h1 => cond_intro (fun h2 => cond_intro (fun _ => fin) fun _ => cond_intro (fun h3 => cond_intro (fun _ => fin) fun _ => ?_) fun _ => fin) fun _ => fin
  rw [not_f] at h1
  obtain ⟨k1, k2⟩ := fade_same ho hp h1 h2 h3
  rw [k1, k2]
  exact fin
theorem sums_ok {T U : Prop} (hT : T) {S b : Nat} {k : Nat} (h : flR .add S 0 = some S) (hb : b = S) :
    (bif (flR BinOp.add S 0).isSome then bif !samB (flV BinOp.add S 0) b
      then ∃ (_x : Unit), True ∧ U ∧ false = true ∧ True
      else ∃ (_x : Unit), True ∧ T ∧ True
      else Stuck 1000000 k) := by
  subst hb
  have e : samB b b = true := by
    unfold samB
    rw [Nat.beq_refl, Bool.or_true]
  rw [flV_of h, h, e]
  exact ⟨(), trivial, hT, trivial⟩
structure HoldsF (p : Prop) : Prop where
  h : p
theorem liv_vc : HoldsF vLiv := ⟨by rw [vLiv_eq]; exact ⟨(), trivial, trivial, rfl, trivial⟩⟩
theorem TLv_ok : SpecOk Try.prog (tabS TLv noS) := by
  refine tabS_ok (fun p hp => ?_) noS_ok
  simp only [TLv, List.mem_cons, List.mem_nil_iff, or_false] at hp
  rcases hp with rfl | rfl | rfl
  · exact gCmpF_ok
  · exact gFade_ok
  · exact gSame_ok
theorem near_zero : FloatKind.f64.nearest 0 = 0 := by rw [near_fI, fI_zero]
theorem sfN_vc (old now part : Nat) (out : Int) (w : Nat) (ho : old < 2 ^ 64) (hn : now < 2 ^ 64) (hp : part < 2 ^ 64) (hw : w < 2 ^ 64) : vSfN old now part out w := by
  rw [vSfN_eq]
  refine ⟨⟨⟨0, Nat.le_refl _, trivial, rfl, ?_, trivial⟩, fun x hx => ?_⟩, fun _ _ => ⟨loads_ok trivial hw, fun _ _ => ⟨fades_ok trivial trivial ho hn hp, fun _ _ => same_ok trivial ho hp⟩⟩⟩
  · show AV.float FloatKind.f64 0 = AV.float FloatKind.f64 (FloatKind.f64.nearest 0)
    rw [near_zero]
  · rw [List.take_nil, show sumZ [] = 0 from rfl, near_zero]
    refine sums_ok trivial ?_ rfl
    have := sum_end (zs := []) (by simp) (by simp)
    rwa [show sumZ [] = 0 from rfl, near_zero] at this
theorem sfZ_vc (old now part : Nat) (out : Int) (w : Nat) (ho : old < 2 ^ 64) (hn : now < 2 ^ 64) (hp : part < 2 ^ 64) (hw : w < 2 ^ 64) : vSfZ old now part out w := by
  rw [vSfZ_eq]
  refine ⟨⟨⟨0, Nat.le_refl _, trivial, rfl, ?_, trivial⟩, fun x hx => ?_⟩, fun _ _ => ⟨loads_ok trivial hw, fun _ _ => ⟨fades_ok trivial trivial ho hn hp, fun _ _ => same_ok trivial ho hp⟩⟩⟩
  · show AV.float FloatKind.f64 0 = AV.float FloatKind.f64 (FloatKind.f64.nearest 0)
    rw [near_zero]
  · rw [List.take_nil, show sumZ [] = 0 from rfl, near_zero]
    refine sums_ok trivial ?_ rfl
    have := sum_end (zs := []) (by simp) (by simp)
    rwa [show sumZ [] = 0 from rfl, near_zero] at this
theorem sf_vc (zs r : List Int) (e : Nat) (ro : Bool) (c : Nat) (ex : Bool) (old now part : Nat) (out : Int) (w : Nat) (ho : old < 2 ^ 64) (hn : now < 2 ^ 64) (hp : part < 2 ^ 64) (hw : w < 2 ^ 64)
    (hb : ∀ z ∈ zs, -2147483648 ≤ z ∧ z ≤ 2147483647) : vSf zs r e ro c ex old now part out w := by
  rw [vSf_eq]
  refine cond_intro (fun _ => ⟨(), trivial, ⟨T_ok _ _ _ _, trivial⟩, rfl, trivial⟩) fun hl => ?_
  have hl : zs.length ≤ 60 := by
    rw [ltI_f] at hl
    have hl : (zs.length : Int) ≤ 60 := hl
    omega
  have hget : ∀ i, i < zs.length → (ints (zs ++ r))[0 + i * 1]? = some (AV.int IntKind.i32 (zs.getD i 0)) := fun i hi => by
    unfold ints
    rw [List.getElem?_map, Nat.zero_add, Nat.mul_one, List.getElem?_append_left hi, List.getElem?_eq_getElem hi, List.getD_eq_getElem?_getD, List.getElem?_eq_getElem hi]
    rfl
  have hz : ∀ i, i < zs.length → -2147483648 ≤ zs.getD i 0 ∧ zs.getD i 0 ≤ 2147483647 := fun i hi => by
    refine hb _ ?_
    rw [List.getD_eq_getElem?_getD, List.getElem?_eq_getElem hi]; exact List.getElem_mem hi
  have hs : ∀ i, i ≤ zs.length → (sumZ (zs.take i)).natAbs ≤ 60 * 2147483648 := fun i hi => by
    have h1 := sumZ_le (zs := zs.take i) fun z hz => hb z (List.mem_of_mem_take hz)
    have h2 : (zs.take i).length ≤ 60 := by rw [List.length_take]; omega
    exact Nat.le_trans h1 (Nat.mul_le_mul_right _ h2)
  have hfl : ∀ i, (fls (zs.take i)).length = min i zs.length := fun i => by unfold fls; rw [List.length_map, List.length_take]
  have hft : ∀ i, i < zs.length → fls (zs.take (i + 1)) = fls (zs.take i) ++ [AV.float FloatKind.f64 (FloatKind.f64.nearest (zs.getD i 0))] := fun i hi => by
    unfold fls
    rw [List.take_succ_eq_append_getElem hi, List.map_append, List.getD_eq_getElem?_getD, List.getElem?_eq_getElem hi]
    rfl
  have R : ∀ z : Int, -9223372036854775808 ≤ z → z ≤ 9223372036854775807 → (leI (-9223372036854775808) z && leI z 9223372036854775807) = true := fun z h1 h2 => by
    rw [and_t, leI_t, leI_t]; exact ⟨h1, h2⟩
  refine ⟨⟨Or.inl ⟨(), trivial, ⟨T_ok _ _ _ _, trivial⟩, rfl, trivial, rfl, trivial⟩, fun _ _ => ?_, fun x hx => ?_⟩, fun _ h0 => ?_, fun _ h0 => ?_⟩
  · refine cond_intro (fun h => ?_) fun h => ?_
    · rw [h]
      rw [ltI_t] at h
      have h : (0 : Int) < (zs.length : Int) := h
      have h1 := hz 0 (by omega)
      have g := hget 0 (by omega)
      refine ⟨g, g, ?_⟩
      rw [R _ (by omega) (by omega), R _ (by omega) (by omega)]
      refine Or.inr ⟨1, ⟨by omega, by omega⟩, by omega, ⟨T_ok _ _ _ _, ⟨?_, trivial⟩, trivial⟩, rfl, ⟨rfl, rfl, rfl, rfl⟩, ?_, trivial⟩
      · refine cellsP_flat (fls_flat _) ?_
        rw [hft 0 (by omega)]; rfl
      · rw [sumZ_step (by omega)]; rfl
    · rw [ltI_f] at h
      have h : (zs.length : Int) ≤ 0 := h
      refine Or.inl ⟨(), List.length_eq_zero_iff.1 (by omega), ⟨T_ok _ _ _ _, trivial⟩, trivial, rfl, trivial⟩
  · refine cond_intro (fun h => ?_) fun h => ?_
    · rw [h]
      rw [ltI_t] at h
      have hx2 : x < zs.length := by
        have h : (x : Int) < (zs.length : Int) := h
        omega
      have h1 := hz x hx2
      have h2 := hs x (by omega)
      have h3 := hs (x + 1) (by omega)
      have h4 := sumZ_step hx2
      have g := hget x hx2
      have e1 : leI (ic x + 1) 9223372036854775807 = true := by rw [leI_t]; show (x : Int) + 1 ≤ _; omega
      have c1 : (decide (x ≤ x) && decide (0 + x * 1 ≤ min x zs.length)) = true := by rw [decide_eq_true (Nat.le_refl x), decide_eq_true (by omega)]; rfl
      have c2 : decide (x + 1 ≤ x) = false := decide_eq_false (by omega)
      have c3 : (decide (x + 1 ≤ 9223372036854775807) && decide ((x + 1) * 8 ≤ 140737488355328)) = true := by rw [decide_eq_true (by omega), decide_eq_true (by omega)]; rfl
      have c4 : (decide (x = x) && (decide (0 + x * 1 = min x zs.length) && true)) = true := by rw [decide_eq_true (by rfl), decide_eq_true (by omega)]; rfl
      refine ⟨g, ?_⟩
      rw [hfl x, e1, R _ (by omega) (by omega), R _ (by omega) (by omega), c1, c2, c3, c4]
      refine ⟨g, Or.inr ⟨x + 1, ⟨by omega, by omega⟩, by omega, ⟨T_ok _ _ _ _, ⟨?_, trivial⟩, trivial⟩, rfl, ⟨rfl, rfl, rfl, rfl⟩, h4.symm, trivial⟩⟩
      exact cellsP_flat (fls_flat _) (by rw [hft x hx2]; rfl)
    · rw [ltI_f] at h
      have h : (zs.length : Int) ≤ (x : Int) := h
      have hx2 : x = zs.length := by omega
      subst hx2
      rw [List.take_length]
      refine Or.inr ⟨(), (fun h => by subst h; simp at hx), ⟨T_ok _ _ _ _, ⟨cells_refl (fls_flat _), trivial⟩, trivial⟩, ⟨rfl, rfl, rfl, rfl⟩, rfl, trivial⟩
  · subst h0
    have T1 : ∀ σ : Nat → Nat, ((bif e.beq e && sameB ro ro then cellsP σ (ints ([] ++ r)) (ints ([] ++ r)) ∧ True else False) ∧ True) := fun σ => ⟨T_ok _ _ _ _, trivial⟩
    refine ⟨⟨⟨0, Nat.zero_le _, T1 _, rfl, ?_, trivial⟩, fun x hx => ?_⟩, fun _ _ => ⟨loads_ok (T1 _) hw, fun _ _ => ⟨fades_ok (T1 _) (T1 _) ho hn hp, fun _ _ => same_ok (T1 _) ho hp⟩⟩⟩
    · show AV.float FloatKind.f64 0 = AV.float FloatKind.f64 (FloatKind.f64.nearest 0)
      rw [near_zero]
    · rw [List.take_nil, show sumZ [] = 0 from rfl, near_zero]
      refine sums_ok (T1 _) ?_ rfl
      have := sum_end (zs := []) (by simp) (by simp)
      rwa [show sumZ [] = 0 from rfl, near_zero] at this
  · have T1 : ∀ σ : Nat → Nat, ((bif e.beq e && sameB ro ro then cellsP σ (ints (zs ++ r)) (ints (zs ++ r)) ∧ True else False) ∧ True) := fun σ => ⟨T_ok _ _ _ _, trivial⟩
    have T2 : ∀ σ : Nat → Nat, ((bif e.beq e && sameB ro ro then cellsP σ (ints (zs ++ r)) (ints (zs ++ r)) ∧ True else False) ∧ (cellsP σ (fls zs) (fls zs) ∧ True) ∧ True) := fun σ => ⟨T_ok _ _ _ _, ⟨cells_refl (fls_flat _), trivial⟩, trivial⟩
    refine ⟨⟨⟨0, Nat.zero_le _, T2 _, rfl, ?_, trivial⟩, fun x hx => ?_⟩, fun _ _ => ⟨loads_ok (T2 _) hw, fun _ _ => ⟨fades_ok (T2 _) (T1 _) ho hn hp, fun _ _ => same_ok (T1 _) ho hp⟩⟩⟩
    · show AV.float FloatKind.f64 0 = AV.float FloatKind.f64 (FloatKind.f64.nearest 0)
      rw [near_zero]
    · refine cond_intro (fun h => ?_) fun h => ?_
      · rw [h]
        rw [ltI_t] at h
        have hx2 : x < zs.length := by
          have h : (x : Int) < (zs.length : Int) := h
          omega
        have g : (fls zs)[0 + x * 1]? = some (AV.float FloatKind.f64 (FloatKind.f64.nearest (zs.getD x 0))) := by
          unfold fls
          rw [List.getElem?_map, Nat.zero_add, Nat.mul_one, List.getD_eq_getElem?_getD, List.getElem?_eq_getElem hx2]
          rfl
        have e1 : leI (ic x + 1) 9223372036854775807 = true := by rw [leI_t]; show (x : Int) + 1 ≤ _; omega
        have h5 := sum_near hb hl hx2
        refine ⟨g, ?_⟩
        rw [e1, flV_of h5, h5]
        exact ⟨x + 1, by omega, by omega, T2 _, rfl, rfl, trivial⟩
      · rw [ltI_f] at h
        have h : (zs.length : Int) ≤ (x : Int) := h
        have hx2 : x = zs.length := by omega
        subst hx2
        rw [List.take_length]
        exact sums_ok (T2 _) (sum_end hb hl) rfl
