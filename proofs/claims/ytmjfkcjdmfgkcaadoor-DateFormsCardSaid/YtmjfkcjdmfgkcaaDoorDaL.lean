/- The two laws of dates, walked. -/
import Derived.Test.YtmjfkcjdmfgkcaaDoorDaQ
import Derived.Test.YtmjfkcjdmfgkcaaDoorDaF
import Derived.Test.YtmjfkcjdmfgkcaaDoorDtR
set_option linter.unusedSimpArgs false
set_option linter.unusedVariables false
namespace Go.Proofs.YtmjfkcjdmfgkcaaDoor
open Go Go.Ve Go.Cal
set_option maxRecDepth 20000
noncomputable def civh : Int → CV := hidf civ
noncomputable def civEh : Int → Int := hidf civE
noncomputable def fmth : Int → List UInt8 := hidf fmt
noncomputable def secVh : CV → Int := hidf secV
noncomputable def secEh : CV → Int := hidf secE
theorem civh_eq : civh = civ := hidf_eq _
theorem civEh_eq : civEh = civE := hidf_eq _
theorem fmth_eq : fmth = fmt := hidf_eq _
theorem secVh_eq : secVh = secV := hidf_eq _
theorem secEh_eq : secEh = secE := hidf_eq _
noncomputable def gCivH (args : List AV) : Option (Bool × AV) := match args with | [.int .i64 t] => some (true, .tuple [cvA (civh t), .int .i64 (civEh t)]) | _ => none
noncomputable def gSecH (args : List AV) : Option (Bool × AV) := match args with | [.agg [.int .i64 y, .int .i64 m, .int .i64 d, .int .i64 h, .int .i64 i, .int .i64 s, .int .i64 w]] => some (true, .tuple [.int .i64 (secVh ⟨y, m, d, h, i, s, w⟩), .int .i64 (secEh ⟨y, m, d, h, i, s, w⟩)]) | _ => none
noncomputable def gFmtH (args : List AV) : Option (Bool × AV) := match args with | [.int .i64 t] => some (true, .tuple [.str (fmth t), .int .i64 (civEh t)]) | _ => none
theorem gCivH_eq : gCivH = gCiv := by unfold gCivH; rw [civh_eq, civEh_eq]; rfl
theorem gSecH_eq : gSecH = gSec := by unfold gSecH; rw [secVh_eq, secEh_eq]; rfl
theorem gFmtH_eq : gFmtH = gFmt := by unfold gFmtH; rw [fmth_eq, civEh_eq]; rfl
noncomputable def TDX : List (Nat × SpecE) := [(9, eParseD), (8, flatE gFmtH), (6, flatE gCivH), (7, flatE gSecH)]
noncomputable def VDX : VE := ⟨Tryd.prog, tabS TDX noS, noO, fun _ => some ⟨[], [], []⟩⟩
noncomputable def outX (te : Nat) : List Out := [⟨Unit, fun _ => .bool true, fun _ => [Dig.gErr te], fun _ => True, gcB⟩]
def liveS : List UInt8 := [83, 117, 110, 44, 32, 48, 54, 32, 78, 111, 118, 32, 49, 57, 57, 52, 32, 48, 56, 58, 52, 57, 58, 51, 55, 32, 71, 77, 84]

noncomputable def vLives  (te : Nat) : Prop := vcF VDX [] 300 [] [] 5 [] [Dig.gErr te] (outX te)
noncomputable def vBack  (t : Int) (now : Int) (c : CV) (s : List UInt8) (te : Nat) : Prop := vcF VDX [] 300 [] [(104, .bool false)] 3 [.int .i64 t, .int .i64 now, cvA c, .str s] [Dig.gErr te] (outX te)
theorem vLives_eq  (te : Nat) : vLives te = (bif eqI (prsEh [(83 : UInt8), (117 : UInt8), (110 : UInt8), (44 : UInt8), (32 : UInt8), (48 : UInt8), (54 : UInt8), (32 : UInt8), (78 : UInt8), (111 : UInt8), (118 : UInt8), (32 : UInt8), (49 : UInt8), (57 : UInt8), (57 : UInt8), (52 : UInt8), (32 : UInt8), (48 : UInt8), (56 : UInt8), (58 : UInt8), (52 : UInt8), (57 : UInt8), (58 : UInt8), (51 : UInt8), (55 : UInt8), (32 : UInt8), (71 : UInt8), (77 : UInt8), (84 : UInt8)] (0 : Int)) (0 : Int) then ∃ (_x : Unit), True ∧ (((4 : Nat) = (4 : Nat) ∧ (te = te ∧ True) ∧ True) ∧ True) ∧ eqI (prsVh [(83 : UInt8), (117 : UInt8), (110 : UInt8), (44 : UInt8), (32 : UInt8), (48 : UInt8), (54 : UInt8), (32 : UInt8), (78 : UInt8), (111 : UInt8), (118 : UInt8), (32 : UInt8), (49 : UInt8), (57 : UInt8), (57 : UInt8), (52 : UInt8), (32 : UInt8), (48 : UInt8), (56 : UInt8), (58 : UInt8), (52 : UInt8), (57 : UInt8), (58 : UInt8), (51 : UInt8), (55 : UInt8), (32 : UInt8), (71 : UInt8), (77 : UInt8), (84 : UInt8)] (0 : Int)) (784111777 : Int) = true ∧ True else ∃ (_x : Unit), True ∧ (((4 : Nat) = (4 : Nat) ∧ (te = te ∧ True) ∧ True) ∧ True) ∧ false = true ∧ True) := by kernel_rfl
theorem vBack_eq  (t : Int) (now : Int) (c : CV) (s : List UInt8) (te : Nat) : vBack t now c s te = (bif eqI (prsEh [(83 : UInt8), (117 : UInt8), (110 : UInt8), (44 : UInt8), (32 : UInt8), (48 : UInt8), (54 : UInt8), (32 : UInt8), (78 : UInt8), (111 : UInt8), (118 : UInt8), (32 : UInt8), (49 : UInt8), (57 : UInt8), (57 : UInt8), (52 : UInt8), (32 : UInt8), (48 : UInt8), (56 : UInt8), (58 : UInt8), (52 : UInt8), (57 : UInt8), (58 : UInt8), (51 : UInt8), (55 : UInt8), (32 : UInt8), (71 : UInt8), (77 : UInt8), (84 : UInt8)] (0 : Int)) (0 : Int) then bif !eqI (prsVh [(83 : UInt8), (117 : UInt8), (110 : UInt8), (44 : UInt8), (32 : UInt8), (48 : UInt8), (54 : UInt8), (32 : UInt8), (78 : UInt8), (111 : UInt8), (118 : UInt8), (32 : UInt8), (49 : UInt8), (57 : UInt8), (57 : UInt8), (52 : UInt8), (32 : UInt8), (48 : UInt8), (56 : UInt8), (58 : UInt8), (52 : UInt8), (57 : UInt8), (58 : UInt8), (51 : UInt8), (55 : UInt8), (32 : UInt8), (71 : UInt8), (77 : UInt8), (84 : UInt8)] (0 : Int)) (784111777 : Int) then ∃ (_x : Unit), True ∧ (((4 : Nat) = (4 : Nat) ∧ (te = te ∧ True) ∧ True) ∧ True) ∧ false = true ∧ True else bif ltI (60 : Int) (ic s.length) then ∃ (_x : Unit), True ∧ (((4 : Nat) = (4 : Nat) ∧ (te = te ∧ True) ∧ True) ∧ True) ∧ true = true ∧ True else bif leI (0 : Int) t then bif !eqI (civEh t) (0 : Int) == leI t (253402300799 : Int) then ∃ (_x : Unit), True ∧ (((4 : Nat) = (4 : Nat) ∧ (te = te ∧ True) ∧ True) ∧ True) ∧ false = true ∧ True else bif eqI (civEh t) (0 : Int) then bif !eqI (secEh { y := (civh t).y, m := (civh t).m, d := (civh t).d, h := (civh t).h, i := (civh t).i, s := (civh t).s, w := (civh t).w }) (0 : Int) then ∃ (_x : Unit), True ∧ (((4 : Nat) = (4 : Nat) ∧ (te = te ∧ True) ∧ True) ∧ True) ∧ false = true ∧ True else bif !eqI (secVh { y := (civh t).y, m := (civh t).m, d := (civh t).d, h := (civh t).h, i := (civh t).i, s := (civh t).s, w := (civh t).w }) t then ∃ (_x : Unit), True ∧ (((4 : Nat) = (4 : Nat) ∧ (te = te ∧ True) ∧ True) ∧ True) ∧ false = true ∧ True else bif !eqI (civEh t) (0 : Int) then ∃ (_x : Unit), True ∧ (((4 : Nat) = (4 : Nat) ∧ (te = te ∧ True) ∧ True) ∧ True) ∧ false = true ∧ True else bif !eqI (prsEh (fmth t) now) (0 : Int) then ∃ (_x : Unit), True ∧ (((4 : Nat) = (4 : Nat) ∧ (te = te ∧ True) ∧ True) ∧ True) ∧ false = true ∧ True else bif !eqI (prsVh (fmth t) now) t then ∃ (_x : Unit), True ∧ (((4 : Nat) = (4 : Nat) ∧ (te = te ∧ True) ∧ True) ∧ True) ∧ false = true ∧ True else bif !eqI (ic (fmth t).length) (29 : Int) then ∃ (_x : Unit), True ∧ (((4 : Nat) = (4 : Nat) ∧ (te = te ∧ True) ∧ True) ∧ True) ∧ false = true ∧ True else bif eqI (secEh { y := c.y, m := c.m, d := c.d, h := c.h, i := c.i, s := c.s, w := c.w }) (0 : Int) then bif !eqI (civEh (secVh { y := c.y, m := c.m, d := c.d, h := c.h, i := c.i, s := c.s, w := c.w })) (0 : Int) then ∃ (_x : Unit), True ∧ (((4 : Nat) = (4 : Nat) ∧ (te = te ∧ True) ∧ True) ∧ True) ∧ false = true ∧ True else aeqX Tryd.prog BinOp.neq (23 : Nat) (Operand.tmp (102 : Nat)) (Operand.tmp (103 : Nat)) (AV.agg [AV.int IntKind.i64 (civh (secVh { y := c.y, m := c.m, d := c.d, h := c.h, i := c.i, s := c.s, w := c.w })).y, AV.int IntKind.i64 (civh (secVh { y := c.y, m := c.m, d := c.d, h := c.h, i := c.i, s := c.s, w := c.w })).m, AV.int IntKind.i64 (civh (secVh { y := c.y, m := c.m, d := c.d, h := c.h, i := c.i, s := c.s, w := c.w })).d, AV.int IntKind.i64 (civh (secVh { y := c.y, m := c.m, d := c.d, h := c.h, i := c.i, s := c.s, w := c.w })).h, AV.int IntKind.i64 (civh (secVh { y := c.y, m := c.m, d := c.d, h := c.h, i := c.i, s := c.s, w := c.w })).i, AV.int IntKind.i64 (civh (secVh { y := c.y, m := c.m, d := c.d, h := c.h, i := c.i, s := c.s, w := c.w })).s, AV.int IntKind.i64 (civh (secVh { y := c.y, m := c.m, d := c.d, h := c.h, i := c.i, s := c.s, w := c.w })).w]) (AV.agg [AV.int IntKind.i64 c.y, AV.int IntKind.i64 c.m, AV.int IntKind.i64 c.d, AV.int IntKind.i64 c.h, AV.int IntKind.i64 c.i, AV.int IntKind.i64 c.s, AV.int IntKind.i64 c.w]) = some false ∧ bif !eqI (prsEh s now) (0 : Int) then ∃ (_x : Unit), True ∧ (((4 : Nat) = (4 : Nat) ∧ (te = te ∧ True) ∧ True) ∧ True) ∧ eqI (prsVh s now) (0 : Int) = true ∧ True else bif eqI (civEh (prsVh s now)) (0 : Int) then bif eqI (prsEh (fmth (prsVh s now)) (0 : Int)) (0 : Int) then ∃ (_x : Unit), True ∧ (((4 : Nat) = (4 : Nat) ∧ (te = te ∧ True) ∧ True) ∧ True) ∧ eqI (prsVh (fmth (prsVh s now)) (0 : Int)) (prsVh s now) = true ∧ True else ∃ (_x : Unit), True ∧ (((4 : Nat) = (4 : Nat) ∧ (te = te ∧ True) ∧ True) ∧ True) ∧ false = true ∧ True else ∃ (_x : Unit), True ∧ (((4 : Nat) = (4 : Nat) ∧ (te = te ∧ True) ∧ True) ∧ True) ∧ false = true ∧ True else bif !eqI (prsEh s now) (0 : Int) then ∃ (_x : Unit), True ∧ (((4 : Nat) = (4 : Nat) ∧ (te = te ∧ True) ∧ True) ∧ True) ∧ eqI (prsVh s now) (0 : Int) = true ∧ True else bif eqI (civEh (prsVh s now)) (0 : Int) then bif eqI (prsEh (fmth (prsVh s now)) (0 : Int)) (0 : Int) then ∃ (_x : Unit), True ∧ (((4 : Nat) = (4 : Nat) ∧ (te = te ∧ True) ∧ True) ∧ True) ∧ eqI (prsVh (fmth (prsVh s now)) (0 : Int)) (prsVh s now) = true ∧ True else ∃ (_x : Unit), True ∧ (((4 : Nat) = (4 : Nat) ∧ (te = te ∧ True) ∧ True) ∧ True) ∧ false = true ∧ True else ∃ (_x : Unit), True ∧ (((4 : Nat) = (4 : Nat) ∧ (te = te ∧ True) ∧ True) ∧ True) ∧ false = true ∧ True else bif eqI (secEh { y := c.y, m := c.m, d := c.d, h := c.h, i := c.i, s := c.s, w := c.w }) (0 : Int) then bif !eqI (civEh (secVh { y := c.y, m := c.m, d := c.d, h := c.h, i := c.i, s := c.s, w := c.w })) (0 : Int) then ∃ (_x : Unit), True ∧ (((4 : Nat) = (4 : Nat) ∧ (te = te ∧ True) ∧ True) ∧ True) ∧ false = true ∧ True else aeqX Tryd.prog BinOp.neq (23 : Nat) (Operand.tmp (102 : Nat)) (Operand.tmp (103 : Nat)) (AV.agg [AV.int IntKind.i64 (civh (secVh { y := c.y, m := c.m, d := c.d, h := c.h, i := c.i, s := c.s, w := c.w })).y, AV.int IntKind.i64 (civh (secVh { y := c.y, m := c.m, d := c.d, h := c.h, i := c.i, s := c.s, w := c.w })).m, AV.int IntKind.i64 (civh (secVh { y := c.y, m := c.m, d := c.d, h := c.h, i := c.i, s := c.s, w := c.w })).d, AV.int IntKind.i64 (civh (secVh { y := c.y, m := c.m, d := c.d, h := c.h, i := c.i, s := c.s, w := c.w })).h, AV.int IntKind.i64 (civh (secVh { y := c.y, m := c.m, d := c.d, h := c.h, i := c.i, s := c.s, w := c.w })).i, AV.int IntKind.i64 (civh (secVh { y := c.y, m := c.m, d := c.d, h := c.h, i := c.i, s := c.s, w := c.w })).s, AV.int IntKind.i64 (civh (secVh { y := c.y, m := c.m, d := c.d, h := c.h, i := c.i, s := c.s, w := c.w })).w]) (AV.agg [AV.int IntKind.i64 c.y, AV.int IntKind.i64 c.m, AV.int IntKind.i64 c.d, AV.int IntKind.i64 c.h, AV.int IntKind.i64 c.i, AV.int IntKind.i64 c.s, AV.int IntKind.i64 c.w]) = some false ∧ bif !eqI (prsEh s now) (0 : Int) then ∃ (_x : Unit), True ∧ (((4 : Nat) = (4 : Nat) ∧ (te = te ∧ True) ∧ True) ∧ True) ∧ eqI (prsVh s now) (0 : Int) = true ∧ True else bif eqI (civEh (prsVh s now)) (0 : Int) then bif eqI (prsEh (fmth (prsVh s now)) (0 : Int)) (0 : Int) then ∃ (_x : Unit), True ∧ (((4 : Nat) = (4 : Nat) ∧ (te = te ∧ True) ∧ True) ∧ True) ∧ eqI (prsVh (fmth (prsVh s now)) (0 : Int)) (prsVh s now) = true ∧ True else ∃ (_x : Unit), True ∧ (((4 : Nat) = (4 : Nat) ∧ (te = te ∧ True) ∧ True) ∧ True) ∧ false = true ∧ True else ∃ (_x : Unit), True ∧ (((4 : Nat) = (4 : Nat) ∧ (te = te ∧ True) ∧ True) ∧ True) ∧ false = true ∧ True else bif !eqI (prsEh s now) (0 : Int) then ∃ (_x : Unit), True ∧ (((4 : Nat) = (4 : Nat) ∧ (te = te ∧ True) ∧ True) ∧ True) ∧ eqI (prsVh s now) (0 : Int) = true ∧ True else bif eqI (civEh (prsVh s now)) (0 : Int) then bif eqI (prsEh (fmth (prsVh s now)) (0 : Int)) (0 : Int) then ∃ (_x : Unit), True ∧ (((4 : Nat) = (4 : Nat) ∧ (te = te ∧ True) ∧ True) ∧ True) ∧ eqI (prsVh (fmth (prsVh s now)) (0 : Int)) (prsVh s now) = true ∧ True else ∃ (_x : Unit), True ∧ (((4 : Nat) = (4 : Nat) ∧ (te = te ∧ True) ∧ True) ∧ True) ∧ false = true ∧ True else ∃ (_x : Unit), True ∧ (((4 : Nat) = (4 : Nat) ∧ (te = te ∧ True) ∧ True) ∧ True) ∧ false = true ∧ True else bif !eqI (civEh t) (0 : Int) == false then ∃ (_x : Unit), True ∧ (((4 : Nat) = (4 : Nat) ∧ (te = te ∧ True) ∧ True) ∧ True) ∧ false = true ∧ True else bif eqI (civEh t) (0 : Int) then bif !eqI (secEh { y := (civh t).y, m := (civh t).m, d := (civh t).d, h := (civh t).h, i := (civh t).i, s := (civh t).s, w := (civh t).w }) (0 : Int) then ∃ (_x : Unit), True ∧ (((4 : Nat) = (4 : Nat) ∧ (te = te ∧ True) ∧ True) ∧ True) ∧ false = true ∧ True else bif !eqI (secVh { y := (civh t).y, m := (civh t).m, d := (civh t).d, h := (civh t).h, i := (civh t).i, s := (civh t).s, w := (civh t).w }) t then ∃ (_x : Unit), True ∧ (((4 : Nat) = (4 : Nat) ∧ (te = te ∧ True) ∧ True) ∧ True) ∧ false = true ∧ True else bif !eqI (civEh t) (0 : Int) then ∃ (_x : Unit), True ∧ (((4 : Nat) = (4 : Nat) ∧ (te = te ∧ True) ∧ True) ∧ True) ∧ false = true ∧ True else bif !eqI (prsEh (fmth t) now) (0 : Int) then ∃ (_x : Unit), True ∧ (((4 : Nat) = (4 : Nat) ∧ (te = te ∧ True) ∧ True) ∧ True) ∧ false = true ∧ True else bif !eqI (prsVh (fmth t) now) t then ∃ (_x : Unit), True ∧ (((4 : Nat) = (4 : Nat) ∧ (te = te ∧ True) ∧ True) ∧ True) ∧ false = true ∧ True else bif !eqI (ic (fmth t).length) (29 : Int) then ∃ (_x : Unit), True ∧ (((4 : Nat) = (4 : Nat) ∧ (te = te ∧ True) ∧ True) ∧ True) ∧ false = true ∧ True else bif eqI (secEh { y := c.y, m := c.m, d := c.d, h := c.h, i := c.i, s := c.s, w := c.w }) (0 : Int) then bif !eqI (civEh (secVh { y := c.y, m := c.m, d := c.d, h := c.h, i := c.i, s := c.s, w := c.w })) (0 : Int) then ∃ (_x : Unit), True ∧ (((4 : Nat) = (4 : Nat) ∧ (te = te ∧ True) ∧ True) ∧ True) ∧ false = true ∧ True else aeqX Tryd.prog BinOp.neq (23 : Nat) (Operand.tmp (102 : Nat)) (Operand.tmp (103 : Nat)) (AV.agg [AV.int IntKind.i64 (civh (secVh { y := c.y, m := c.m, d := c.d, h := c.h, i := c.i, s := c.s, w := c.w })).y, AV.int IntKind.i64 (civh (secVh { y := c.y, m := c.m, d := c.d, h := c.h, i := c.i, s := c.s, w := c.w })).m, AV.int IntKind.i64 (civh (secVh { y := c.y, m := c.m, d := c.d, h := c.h, i := c.i, s := c.s, w := c.w })).d, AV.int IntKind.i64 (civh (secVh { y := c.y, m := c.m, d := c.d, h := c.h, i := c.i, s := c.s, w := c.w })).h, AV.int IntKind.i64 (civh (secVh { y := c.y, m := c.m, d := c.d, h := c.h, i := c.i, s := c.s, w := c.w })).i, AV.int IntKind.i64 (civh (secVh { y := c.y, m := c.m, d := c.d, h := c.h, i := c.i, s := c.s, w := c.w })).s, AV.int IntKind.i64 (civh (secVh { y := c.y, m := c.m, d := c.d, h := c.h, i := c.i, s := c.s, w := c.w })).w]) (AV.agg [AV.int IntKind.i64 c.y, AV.int IntKind.i64 c.m, AV.int IntKind.i64 c.d, AV.int IntKind.i64 c.h, AV.int IntKind.i64 c.i, AV.int IntKind.i64 c.s, AV.int IntKind.i64 c.w]) = some false ∧ bif !eqI (prsEh s now) (0 : Int) then ∃ (_x : Unit), True ∧ (((4 : Nat) = (4 : Nat) ∧ (te = te ∧ True) ∧ True) ∧ True) ∧ eqI (prsVh s now) (0 : Int) = true ∧ True else bif eqI (civEh (prsVh s now)) (0 : Int) then bif eqI (prsEh (fmth (prsVh s now)) (0 : Int)) (0 : Int) then ∃ (_x : Unit), True ∧ (((4 : Nat) = (4 : Nat) ∧ (te = te ∧ True) ∧ True) ∧ True) ∧ eqI (prsVh (fmth (prsVh s now)) (0 : Int)) (prsVh s now) = true ∧ True else ∃ (_x : Unit), True ∧ (((4 : Nat) = (4 : Nat) ∧ (te = te ∧ True) ∧ True) ∧ True) ∧ false = true ∧ True else ∃ (_x : Unit), True ∧ (((4 : Nat) = (4 : Nat) ∧ (te = te ∧ True) ∧ True) ∧ True) ∧ false = true ∧ True else bif !eqI (prsEh s now) (0 : Int) then ∃ (_x : Unit), True ∧ (((4 : Nat) = (4 : Nat) ∧ (te = te ∧ True) ∧ True) ∧ True) ∧ eqI (prsVh s now) (0 : Int) = true ∧ True else bif eqI (civEh (prsVh s now)) (0 : Int) then bif eqI (prsEh (fmth (prsVh s now)) (0 : Int)) (0 : Int) then ∃ (_x : Unit), True ∧ (((4 : Nat) = (4 : Nat) ∧ (te = te ∧ True) ∧ True) ∧ True) ∧ eqI (prsVh (fmth (prsVh s now)) (0 : Int)) (prsVh s now) = true ∧ True else ∃ (_x : Unit), True ∧ (((4 : Nat) = (4 : Nat) ∧ (te = te ∧ True) ∧ True) ∧ True) ∧ false = true ∧ True else ∃ (_x : Unit), True ∧ (((4 : Nat) = (4 : Nat) ∧ (te = te ∧ True) ∧ True) ∧ True) ∧ false = true ∧ True else bif eqI (secEh { y := c.y, m := c.m, d := c.d, h := c.h, i := c.i, s := c.s, w := c.w }) (0 : Int) then bif !eqI (civEh (secVh { y := c.y, m := c.m, d := c.d, h := c.h, i := c.i, s := c.s, w := c.w })) (0 : Int) then ∃ (_x : Unit), True ∧ (((4 : Nat) = (4 : Nat) ∧ (te = te ∧ True) ∧ True) ∧ True) ∧ false = true ∧ True else aeqX Tryd.prog BinOp.neq (23 : Nat) (Operand.tmp (102 : Nat)) (Operand.tmp (103 : Nat)) (AV.agg [AV.int IntKind.i64 (civh (secVh { y := c.y, m := c.m, d := c.d, h := c.h, i := c.i, s := c.s, w := c.w })).y, AV.int IntKind.i64 (civh (secVh { y := c.y, m := c.m, d := c.d, h := c.h, i := c.i, s := c.s, w := c.w })).m, AV.int IntKind.i64 (civh (secVh { y := c.y, m := c.m, d := c.d, h := c.h, i := c.i, s := c.s, w := c.w })).d, AV.int IntKind.i64 (civh (secVh { y := c.y, m := c.m, d := c.d, h := c.h, i := c.i, s := c.s, w := c.w })).h, AV.int IntKind.i64 (civh (secVh { y := c.y, m := c.m, d := c.d, h := c.h, i := c.i, s := c.s, w := c.w })).i, AV.int IntKind.i64 (civh (secVh { y := c.y, m := c.m, d := c.d, h := c.h, i := c.i, s := c.s, w := c.w })).s, AV.int IntKind.i64 (civh (secVh { y := c.y, m := c.m, d := c.d, h := c.h, i := c.i, s := c.s, w := c.w })).w]) (AV.agg [AV.int IntKind.i64 c.y, AV.int IntKind.i64 c.m, AV.int IntKind.i64 c.d, AV.int IntKind.i64 c.h, AV.int IntKind.i64 c.i, AV.int IntKind.i64 c.s, AV.int IntKind.i64 c.w]) = some false ∧ bif !eqI (prsEh s now) (0 : Int) then ∃ (_x : Unit), True ∧ (((4 : Nat) = (4 : Nat) ∧ (te = te ∧ True) ∧ True) ∧ True) ∧ eqI (prsVh s now) (0 : Int) = true ∧ True else bif eqI (civEh (prsVh s now)) (0 : Int) then bif eqI (prsEh (fmth (prsVh s now)) (0 : Int)) (0 : Int) then ∃ (_x : Unit), True ∧ (((4 : Nat) = (4 : Nat) ∧ (te = te ∧ True) ∧ True) ∧ True) ∧ eqI (prsVh (fmth (prsVh s now)) (0 : Int)) (prsVh s now) = true ∧ True else ∃ (_x : Unit), True ∧ (((4 : Nat) = (4 : Nat) ∧ (te = te ∧ True) ∧ True) ∧ True) ∧ false = true ∧ True else ∃ (_x : Unit), True ∧ (((4 : Nat) = (4 : Nat) ∧ (te = te ∧ True) ∧ True) ∧ True) ∧ false = true ∧ True else bif !eqI (prsEh s now) (0 : Int) then ∃ (_x : Unit), True ∧ (((4 : Nat) = (4 : Nat) ∧ (te = te ∧ True) ∧ True) ∧ True) ∧ eqI (prsVh s now) (0 : Int) = true ∧ True else bif eqI (civEh (prsVh s now)) (0 : Int) then bif eqI (prsEh (fmth (prsVh s now)) (0 : Int)) (0 : Int) then ∃ (_x : Unit), True ∧ (((4 : Nat) = (4 : Nat) ∧ (te = te ∧ True) ∧ True) ∧ True) ∧ eqI (prsVh (fmth (prsVh s now)) (0 : Int)) (prsVh s now) = true ∧ True else ∃ (_x : Unit), True ∧ (((4 : Nat) = (4 : Nat) ∧ (te = te ∧ True) ∧ True) ∧ True) ∧ false = true ∧ True else ∃ (_x : Unit), True ∧ (((4 : Nat) = (4 : Nat) ∧ (te = te ∧ True) ∧ True) ∧ True) ∧ false = true ∧ True else ∃ (_x : Unit), True ∧ (((4 : Nat) = (4 : Nat) ∧ (te = te ∧ True) ∧ True) ∧ True) ∧ false = true ∧ True) := by kernel_rfl
theorem heldC : Tryd.prog.stoodInHeld 23 = false := by kernel_rfl
theorem guardC : Tryd.prog.eqGuardType Tryd.prog.depth 23 = false := by kernel_rfl
theorem partC0 (a b c d e f g : Int) : pureRun Tryd.prog (part 3 #[.int .i64 a, .int .i64 b, .int .i64 c, .int .i64 d, .int .i64 e, .int .i64 f, .int .i64 g] 0) = some (.int .i64 a) := by kernel_rfl
theorem partC1 (a b c d e f g : Int) : pureRun Tryd.prog (part 3 #[.int .i64 a, .int .i64 b, .int .i64 c, .int .i64 d, .int .i64 e, .int .i64 f, .int .i64 g] 1) = some (.int .i64 b) := by kernel_rfl
theorem partC2 (a b c d e f g : Int) : pureRun Tryd.prog (part 3 #[.int .i64 a, .int .i64 b, .int .i64 c, .int .i64 d, .int .i64 e, .int .i64 f, .int .i64 g] 2) = some (.int .i64 c) := by kernel_rfl
theorem partC3 (a b c d e f g : Int) : pureRun Tryd.prog (part 3 #[.int .i64 a, .int .i64 b, .int .i64 c, .int .i64 d, .int .i64 e, .int .i64 f, .int .i64 g] 3) = some (.int .i64 d) := by kernel_rfl
theorem partC4 (a b c d e f g : Int) : pureRun Tryd.prog (part 3 #[.int .i64 a, .int .i64 b, .int .i64 c, .int .i64 d, .int .i64 e, .int .i64 f, .int .i64 g] 4) = some (.int .i64 e) := by kernel_rfl
theorem partC5 (a b c d e f g : Int) : pureRun Tryd.prog (part 3 #[.int .i64 a, .int .i64 b, .int .i64 c, .int .i64 d, .int .i64 e, .int .i64 f, .int .i64 g] 5) = some (.int .i64 f) := by kernel_rfl
theorem partC6 (a b c d e f g : Int) : pureRun Tryd.prog (part 3 #[.int .i64 a, .int .i64 b, .int .i64 c, .int .i64 d, .int .i64 e, .int .i64 f, .int .i64 g] 6) = some (.int .i64 g) := by kernel_rfl
theorem eqIn_civ (n : Nat) (a b c d e f g : Int) : pureRun Tryd.prog (Op.equalIn (n + 2) 23 (.agg #[.int .i64 a, .int .i64 b, .int .i64 c, .int .i64 d, .int .i64 e, .int .i64 f, .int .i64 g]) (.agg #[.int .i64 a, .int .i64 b, .int .i64 c, .int .i64 d, .int .i64 e, .int .i64 f, .int .i64 g])) = some true := by
  have hu := pureRun_underlying Tryd.underlying23
  have hp : pureRun Tryd.prog program = some Tryd.prog := rfl
  have hb := pureRun_underlying Tryd.underlying3
  have e4 : ∀ a : Int, pureRun Tryd.prog (Op.equalIn (n + 1) 3 (.int .i64 a) (.int .i64 a)) = some true := by
    intro a
    unfold Op.equalIn
    rw [pureRun_bind _ _ _ hb]
    show some (a == a) = some true
    simp
  unfold Op.equalIn
  rw [pureRun_bind _ _ _ hu]
  simp only []
  rw [pureRun_bind _ _ _ hp]
  rw [if_neg (by rw [heldC]; decide)]
  simp only [List.forIn_toArray, List.forIn_cons, List.forIn_nil]
  rw [if_pos (by decide)]
  rw [if_pos (by decide)]
  rw [if_pos (by decide)]
  rw [if_pos (by decide)]
  rw [if_pos (by decide)]
  rw [if_pos (by decide)]
  rw [if_pos (by decide)]
  simp only [bind_assoc]
  rw [pureRun_bind _ _ _ (partC0 a b c d e f g), pureRun_bind _ _ _ (partC0 a b c d e f g), pureRun_bind _ _ _ (e4 a)]
  simp only [Bool.not_true, Bool.false_eq_true, if_false, pure_bind, bind_assoc]
  rw [pureRun_bind _ _ _ (partC1 a b c d e f g), pureRun_bind _ _ _ (partC1 a b c d e f g), pureRun_bind _ _ _ (e4 b)]
  simp only [Bool.not_true, Bool.false_eq_true, if_false, pure_bind, bind_assoc]
  rw [pureRun_bind _ _ _ (partC2 a b c d e f g), pureRun_bind _ _ _ (partC2 a b c d e f g), pureRun_bind _ _ _ (e4 c)]
  simp only [Bool.not_true, Bool.false_eq_true, if_false, pure_bind, bind_assoc]
  rw [pureRun_bind _ _ _ (partC3 a b c d e f g), pureRun_bind _ _ _ (partC3 a b c d e f g), pureRun_bind _ _ _ (e4 d)]
  simp only [Bool.not_true, Bool.false_eq_true, if_false, pure_bind, bind_assoc]
  rw [pureRun_bind _ _ _ (partC4 a b c d e f g), pureRun_bind _ _ _ (partC4 a b c d e f g), pureRun_bind _ _ _ (e4 e)]
  simp only [Bool.not_true, Bool.false_eq_true, if_false, pure_bind, bind_assoc]
  rw [pureRun_bind _ _ _ (partC5 a b c d e f g), pureRun_bind _ _ _ (partC5 a b c d e f g), pureRun_bind _ _ _ (e4 f)]
  simp only [Bool.not_true, Bool.false_eq_true, if_false, pure_bind, bind_assoc]
  rw [pureRun_bind _ _ _ (partC6 a b c d e f g), pureRun_bind _ _ _ (partC6 a b c d e f g), pureRun_bind _ _ _ (e4 g)]
  rfl
theorem bin_civ (x y : Operand) (a b c d e f g : Int) : pureRun Tryd.prog (do eqGuard .neq 23 x y (.agg #[.int .i64 a, .int .i64 b, .int .i64 c, .int .i64 d, .int .i64 e, .int .i64 f, .int .i64 g]) (.agg #[.int .i64 a, .int .i64 b, .int .i64 c, .int .i64 d, .int .i64 e, .int .i64 f, .int .i64 g]); binOp .neq 23 (.agg #[.int .i64 a, .int .i64 b, .int .i64 c, .int .i64 d, .int .i64 e, .int .i64 f, .int .i64 g]) (.agg #[.int .i64 a, .int .i64 b, .int .i64 c, .int .i64 d, .int .i64 e, .int .i64 f, .int .i64 g]) : Sem Value) = some (.bool false) := by
  have hp : pureRun Tryd.prog program = some Tryd.prog := rfl
  have h1 : pureRun Tryd.prog (eqGuard .neq 23 x y (.agg #[.int .i64 a, .int .i64 b, .int .i64 c, .int .i64 d, .int .i64 e, .int .i64 f, .int .i64 g]) (.agg #[.int .i64 a, .int .i64 b, .int .i64 c, .int .i64 d, .int .i64 e, .int .i64 f, .int .i64 g])) = some () := by
    unfold eqGuard
    simp only []
    rw [if_neg (by decide), pureRun_bind _ _ _ hp, pureRun_bind _ _ _ hp, if_pos (by rw [guardC]; rfl)]
    rfl
  rw [pureRun_bind _ _ _ h1]
  have h2 := eqIn_civ 9998 a b c d e f g
  simp only [binOp]
  rw [pureRun_bind _ _ _ (show pureRun Tryd.prog (Op.equal 23 (.agg #[.int .i64 a, .int .i64 b, .int .i64 c, .int .i64 d, .int .i64 e, .int .i64 f, .int .i64 g]) (.agg #[.int .i64 a, .int .i64 b, .int .i64 c, .int .i64 d, .int .i64 e, .int .i64 f, .int .i64 g])) = some true from h2)]
  rfl
theorem aeqX_civ (x y : Operand) (a b c d e f g : Int) : aeqX Tryd.prog .neq 23 x y (.agg [.int .i64 a, .int .i64 b, .int .i64 c, .int .i64 d, .int .i64 e, .int .i64 f, .int .i64 g]) (.agg [.int .i64 a, .int .i64 b, .int .i64 c, .int .i64 d, .int .i64 e, .int .i64 f, .int .i64 g]) = some false := by
  have e1 : scsS [.int .i64 a, .int .i64 b, .int .i64 c, .int .i64 d, .int .i64 e, .int .i64 f, .int .i64 g] = some [.int .i64 a, .int .i64 b, .int .i64 c, .int .i64 d, .int .i64 e, .int .i64 f, .int .i64 g] := rfl
  unfold aeqX
  rw [show aptrEq Tryd.prog .neq 23 (.agg [.int .i64 a, .int .i64 b, .int .i64 c, .int .i64 d, .int .i64 e, .int .i64 f, .int .i64 g]) (.agg [.int .i64 a, .int .i64 b, .int .i64 c, .int .i64 d, .int .i64 e, .int .i64 f, .int .i64 g]) = none by kernel_rfl]
  unfold aaggEq
  simp only [e1]
  rw [bin_civ]
theorem live_acc : Acc liveS 0 ⟨1994, 11, 6, 8, 49, 37, 0⟩ := ⟨by decide, .inl (by decide)⟩
theorem live_prs : prsV liveS 0 = 784111777 ∧ prsE liveS 0 = 0 := by
  have := prs_acc live_acc
  exact ⟨this.1.trans (by decide), this.2⟩
theorem fmt_prs {t : Int} (now : Int) (h : okT t = true) : prsE (fmt t) now = 0 ∧ prsV (fmt t) now = t ∧ (fmt t).length = 29 := by
  obtain ⟨h1, h2⟩ := civ_ok h
  have e : fmt t = form1 (civ t) := if_pos h
  have ha : Acc (fmt t) now (civ t) := ⟨h1, .inl e⟩
  have r := rng_of h1
  obtain ⟨a, b, g, hm⟩ := months3 r.m0 r.m1
  obtain ⟨x, y, z, hx⟩ := days3 r.w0 r.w1
  refine ⟨(prs_acc ha).2, (prs_acc ha).1.trans h2, ?_⟩
  rw [e, form1_at hx hm]; rfl
theorem eqI_slf (a : Int) : eqI a a = true := (eqI_t a a).mpr rfl
theorem civE_ok {t : Int} (h : okT t = true) : civE t = 0 := if_pos h
theorem civE_no {t : Int} (h : ¬ okT t = true) : civE t = 2 := if_neg h
theorem eta_CV (c : CV) : (⟨c.y, c.m, c.d, c.h, c.i, c.s, c.w⟩ : CV) = c := rfl
theorem lives_vc (te : Nat) : vLives te := by
  rw [vLives_eq, prsVh_eq, prsEh_eq]
  have hl := live_prs
  simp only [liveS] at hl
  rw [hl.1, hl.2]
  exact ⟨(), trivial, ⟨⟨rfl, ⟨rfl, trivial⟩, trivial⟩, trivial⟩, rfl, trivial⟩
theorem third_key (s : List UInt8) (now : Int) : (prsE s now = 0 ∧ civE (prsV s now) = 0 ∧ prsE (fmt (prsV s now)) 0 = 0 ∧ prsV (fmt (prsV s now)) 0 = prsV s now) ∨ (prsE s now = 4 ∧ prsV s now = 0) := by
  refine (prs_cases s now).imp (fun h => ?_) (fun h => ⟨h.2.2, h.2.1⟩)
  obtain ⟨c', hc⟩ := h
  have o1 : okT (prsV s now) = true := hc.2.1 ▸ (sec_ok hc.1.ok).1
  have f := fmt_prs 0 o1
  exact ⟨hc.2.2, civE_ok o1, f.1, f.2.1⟩
theorem second_key (c : CV) : (secE c = 0 ∧ civE (secV c) = 0 ∧ ∀ x y : Operand, aeqX Tryd.prog .neq 23 x y (.agg [.int .i64 (civ (secV c)).y, .int .i64 (civ (secV c)).m, .int .i64 (civ (secV c)).d, .int .i64 (civ (secV c)).h, .int .i64 (civ (secV c)).i, .int .i64 (civ (secV c)).s, .int .i64 (civ (secV c)).w]) (.agg [.int .i64 c.y, .int .i64 c.m, .int .i64 c.d, .int .i64 c.h, .int .i64 c.i, .int .i64 c.s, .int .i64 c.w]) = some false) ∨ secE c = 2 := by
  cases hc : okS c with
  | true =>
    have o := sec_ok hc
    refine .inl ⟨if_pos hc, by rw [secV_ok hc]; exact civE_ok o.1, fun x y => ?_⟩
    rw [secV_ok hc, o.2]
    exact aeqX_civ _ _ _ _ _ _ _ _ _
  | false => exact .inr (if_neg (by rw [hc]; decide))
theorem first_key (t now : Int) : (leI 0 t = true ∧ leI t 253402300799 = true ∧ civE t = 0 ∧ secE (civ t) = 0 ∧ secV (civ t) = t ∧ prsE (fmt t) now = 0 ∧ prsV (fmt t) now = t ∧ (fmt t).length = 29) ∨ (civE t = 2 ∧ (leI 0 t = false ∨ leI 0 t = true ∧ leI t 253402300799 = false)) := by
  cases ht : okT t with
  | true =>
    have o := civ_ok ht
    have f := fmt_prs now ht
    have hr := okT_iff.1 ht
    exact .inl ⟨(leI_t 0 t).mpr hr.1, (leI_t t 253402300799).mpr hr.2, civE_ok ht, if_pos o.1, (secV_ok o.1).trans o.2, f.1, f.2.1, f.2.2⟩
  | false =>
    have hr : ¬ (0 ≤ t ∧ t ≤ 253402300799) := fun h => by rw [okT_iff.2 h] at ht; cases ht
    refine .inr ⟨civE_no (by rw [ht]; decide), ?_⟩
    cases h0 : leI 0 t with
    | true =>
      have h1 := (leI_t 0 t).mp h0
      exact .inr ⟨rfl, (leI_f _ _).mpr (by omega)⟩
    | false => exact .inl rfl
def lvQ (te : Nat) (b : Bool) : Prop := ∃ (_x : Unit), True ∧ ((4 = 4 ∧ (te = te ∧ True) ∧ True) ∧ True) ∧ b = true ∧ True
theorem lvQ_ok (te : Nat) : lvQ te true := ⟨(), trivial, ⟨⟨rfl, ⟨rfl, trivial⟩, trivial⟩, trivial⟩, rfl, trivial⟩
theorem third_of {P : Bool → Prop} (hP : P true) {E m ce pe pv : Int} (k : (E = 0 ∧ ce = 0 ∧ pe = 0 ∧ pv = m) ∨ (E = 4 ∧ m = 0)) : (bif !eqI E 0 then P (eqI m 0) else bif eqI ce 0 then bif eqI pe 0 then P (eqI pv m) else P false else P false) := by
  rcases k with ⟨rfl, rfl, rfl, rfl⟩ | ⟨rfl, rfl⟩
  · rw [eqI_slf 0, eqI_slf pv]; exact hP
  · exact hP
theorem second_of {P : Bool → Prop} {Q A : Prop} {E ce : Int} (hQ : Q) (k : (E = 0 ∧ ce = 0 ∧ A) ∨ E = 2) : (bif eqI E 0 then bif !eqI ce 0 then P false else A ∧ Q else Q) := by
  rcases k with ⟨rfl, rfl, h⟩ | rfl
  · exact ⟨h, hQ⟩
  · exact hQ
theorem first_of {P : Bool → Prop} {Q : Prop} {t ce se sv pe pv : Int} {n : Nat} (hQ : Q) (k : (leI 0 t = true ∧ leI t 253402300799 = true ∧ ce = 0 ∧ se = 0 ∧ sv = t ∧ pe = 0 ∧ pv = t ∧ n = 29) ∨ (ce = 2 ∧ (leI 0 t = false ∨ leI 0 t = true ∧ leI t 253402300799 = false))) : (bif leI 0 t then bif !(eqI ce 0 == leI t 253402300799) then P false else bif eqI ce 0 then bif !eqI se 0 then P false else bif !eqI sv t then P false else bif !eqI ce 0 then P false else bif !eqI pe 0 then P false else bif !eqI pv t then P false else bif !eqI (ic n) 29 then P false else Q else Q else bif !(eqI ce 0 == false) then P false else bif eqI ce 0 then bif !eqI se 0 then P false else bif !eqI sv t then P false else bif !eqI ce 0 then P false else bif !eqI pe 0 then P false else bif !eqI pv t then P false else bif !eqI (ic n) 29 then P false else Q else Q) := by
  rcases k with ⟨h1, h2, rfl, rfl, rfl, rfl, rfl, rfl⟩ | ⟨rfl, h1 | ⟨h1, h2⟩⟩
  · rw [h1, h2, eqI_slf pv]; exact hQ
  · rw [h1]; exact hQ
  · rw [h1, h2]; exact hQ
theorem cT {a : Bool} {P Q : Prop} (h : a = true) (p : P) : bif a then P else Q := by rw [h]; exact p
theorem cF {a : Bool} {P Q : Prop} (h : a = false) (p : Q) : bif a then P else Q := by rw [h]; exact p
theorem cB {a : Bool} {P Q : Prop} (p : P) (q : Q) : bif a then P else Q := by cases a; exact q; exact p
set_option maxHeartbeats 2000000 in
theorem back_vc (t now : Int) (c : CV) (s : List UInt8) (te : Nat) : vBack t now c s te := by
  have hl := live_prs
  have k1 := first_key t now
  have k2 := second_key c
  have k3 := third_key s now
  rw [← prsVh_eq, ← prsEh_eq] at hl
  rw [← prsVh_eq, ← prsEh_eq, ← civh_eq, ← civEh_eq, ← fmth_eq, ← secVh_eq, ← secEh_eq] at k1
  rw [← civh_eq, ← civEh_eq, ← secVh_eq, ← secEh_eq] at k2
  rw [← prsVh_eq, ← prsEh_eq, ← civEh_eq, ← fmth_eq] at k3
  rw [vBack_eq]
  simp only [liveS] at hl
  have e1 : eqI 784111777 784111777 = true := eqI_slf _
  exact cT (by rw [hl.2]; rfl) (cF (by rw [hl.1, e1]; rfl) (cB (lvQ_ok te) (first_of (P := lvQ te) (second_of (P := lvQ te) (third_of (P := lvQ te) (lvQ_ok te) k3) (k2.imp (fun h => ⟨h.1, h.2.1, h.2.2 _ _⟩) id)) k1)))
theorem TDX_ok : SpecOk Tryd.prog (tabS TDX noS) := by
  refine tabS_ok (fun p hp => ?_) noS_ok
  simp only [TDX, List.mem_cons, List.mem_nil_iff, or_false] at hp
  rcases hp with rfl | rfl | rfl | rfl
  · exact eParseD_ok
  · rw [gFmtH_eq]; exact gFmt_ok
  · rw [gCivH_eq]; exact gCiv_ok
  · rw [gSecH_eq]; exact gSec_ok
