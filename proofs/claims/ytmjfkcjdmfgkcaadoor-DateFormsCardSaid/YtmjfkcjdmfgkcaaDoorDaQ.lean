/- What Parse answers. -/
import Derived.Test.YtmjfkcjdmfgkcaaDoorDaP
set_option linter.unusedSimpArgs false
set_option linter.unusedVariables false
namespace Go.Proofs.YtmjfkcjdmfgkcaaDoor
open Go Go.Ve Go.Cal
set_option maxRecDepth 20000
noncomputable def TDQ : List (Nat × SpecE) := [(17, eRd fun s _ => rd1h s), (18, eRd rd2h), (19, eRd fun s _ => rd3h s), (7, flatE gSec)]
noncomputable def VDQ : VE := ⟨Tryd.prog, tabS TDQ noS, noO, fun _ => none⟩
noncomputable def prsVh : List UInt8 → Int → Int := hidf prsV
noncomputable def prsEh : List UInt8 → Int → Int := hidf prsE
theorem prsVh_eq : prsVh = prsV := hidf_eq _
theorem prsEh_eq : prsEh = prsE := hidf_eq _
noncomputable def outQ (te : Nat) (v e : Int) : List Out := [⟨Unit, fun _ => .tuple [.int .i64 v, .int .i64 e], fun _ => [Dig.gErr te], fun _ => True, gcB⟩]

noncomputable def vParse  (s : List UInt8) (te : Nat) (now : Int) : Prop := vcF VDQ [] 300 [] [] 9 [.str s, .int .i64 now] [Dig.gErr te] (outQ te (prsVh s now) (prsEh s now))
theorem vParse_eq  (s : List UInt8) (te : Nat) (now : Int) : vParse s te now = (bif (rd1h s).snd.snd then bif (rd2h s now).snd.snd then bif (rd3h s).snd.snd then ∃ (_x : Unit), True ∧ (((4 : Nat) = (4 : Nat) ∧ (te = te ∧ True) ∧ True) ∧ True) ∧ ((0 : Int) = prsVh s now ∧ (4 : Int) = prsEh s now ∧ True) ∧ True else bif !decide ((rd3h s).snd.fst = []) then ∃ (_x : Unit), True ∧ (((4 : Nat) = (4 : Nat) ∧ (te = te ∧ True) ∧ True) ∧ True) ∧ ((0 : Int) = prsVh s now ∧ (4 : Int) = prsEh s now ∧ True) ∧ True else bif eqI (secE { y := (rd3h s).fst.y, m := (rd3h s).fst.m, d := (rd3h s).fst.d, h := (rd3h s).fst.h, i := (rd3h s).fst.i, s := (rd3h s).fst.s, w := (rd3h s).fst.w }) (0 : Int) then ∃ (_x : Unit), True ∧ (((4 : Nat) = (4 : Nat) ∧ (te = te ∧ True) ∧ True) ∧ True) ∧ (secV { y := (rd3h s).fst.y, m := (rd3h s).fst.m, d := (rd3h s).fst.d, h := (rd3h s).fst.h, i := (rd3h s).fst.i, s := (rd3h s).fst.s, w := (rd3h s).fst.w } = prsVh s now ∧ (0 : Int) = prsEh s now ∧ True) ∧ True else ∃ (_x : Unit), True ∧ (((4 : Nat) = (4 : Nat) ∧ (te = te ∧ True) ∧ True) ∧ True) ∧ ((0 : Int) = prsVh s now ∧ (4 : Int) = prsEh s now ∧ True) ∧ True else bif !decide ((rd2h s now).snd.fst = []) then bif (rd3h s).snd.snd then ∃ (_x : Unit), True ∧ (((4 : Nat) = (4 : Nat) ∧ (te = te ∧ True) ∧ True) ∧ True) ∧ ((0 : Int) = prsVh s now ∧ (4 : Int) = prsEh s now ∧ True) ∧ True else bif !decide ((rd3h s).snd.fst = []) then ∃ (_x : Unit), True ∧ (((4 : Nat) = (4 : Nat) ∧ (te = te ∧ True) ∧ True) ∧ True) ∧ ((0 : Int) = prsVh s now ∧ (4 : Int) = prsEh s now ∧ True) ∧ True else bif eqI (secE { y := (rd3h s).fst.y, m := (rd3h s).fst.m, d := (rd3h s).fst.d, h := (rd3h s).fst.h, i := (rd3h s).fst.i, s := (rd3h s).fst.s, w := (rd3h s).fst.w }) (0 : Int) then ∃ (_x : Unit), True ∧ (((4 : Nat) = (4 : Nat) ∧ (te = te ∧ True) ∧ True) ∧ True) ∧ (secV { y := (rd3h s).fst.y, m := (rd3h s).fst.m, d := (rd3h s).fst.d, h := (rd3h s).fst.h, i := (rd3h s).fst.i, s := (rd3h s).fst.s, w := (rd3h s).fst.w } = prsVh s now ∧ (0 : Int) = prsEh s now ∧ True) ∧ True else ∃ (_x : Unit), True ∧ (((4 : Nat) = (4 : Nat) ∧ (te = te ∧ True) ∧ True) ∧ True) ∧ ((0 : Int) = prsVh s now ∧ (4 : Int) = prsEh s now ∧ True) ∧ True else bif eqI (secE { y := (rd2h s now).fst.y, m := (rd2h s now).fst.m, d := (rd2h s now).fst.d, h := (rd2h s now).fst.h, i := (rd2h s now).fst.i, s := (rd2h s now).fst.s, w := (rd2h s now).fst.w }) (0 : Int) then ∃ (_x : Unit), True ∧ (((4 : Nat) = (4 : Nat) ∧ (te = te ∧ True) ∧ True) ∧ True) ∧ (secV { y := (rd2h s now).fst.y, m := (rd2h s now).fst.m, d := (rd2h s now).fst.d, h := (rd2h s now).fst.h, i := (rd2h s now).fst.i, s := (rd2h s now).fst.s, w := (rd2h s now).fst.w } = prsVh s now ∧ (0 : Int) = prsEh s now ∧ True) ∧ True else bif (rd3h s).snd.snd then ∃ (_x : Unit), True ∧ (((4 : Nat) = (4 : Nat) ∧ (te = te ∧ True) ∧ True) ∧ True) ∧ ((0 : Int) = prsVh s now ∧ (4 : Int) = prsEh s now ∧ True) ∧ True else bif !decide ((rd3h s).snd.fst = []) then ∃ (_x : Unit), True ∧ (((4 : Nat) = (4 : Nat) ∧ (te = te ∧ True) ∧ True) ∧ True) ∧ ((0 : Int) = prsVh s now ∧ (4 : Int) = prsEh s now ∧ True) ∧ True else bif eqI (secE { y := (rd3h s).fst.y, m := (rd3h s).fst.m, d := (rd3h s).fst.d, h := (rd3h s).fst.h, i := (rd3h s).fst.i, s := (rd3h s).fst.s, w := (rd3h s).fst.w }) (0 : Int) then ∃ (_x : Unit), True ∧ (((4 : Nat) = (4 : Nat) ∧ (te = te ∧ True) ∧ True) ∧ True) ∧ (secV { y := (rd3h s).fst.y, m := (rd3h s).fst.m, d := (rd3h s).fst.d, h := (rd3h s).fst.h, i := (rd3h s).fst.i, s := (rd3h s).fst.s, w := (rd3h s).fst.w } = prsVh s now ∧ (0 : Int) = prsEh s now ∧ True) ∧ True else ∃ (_x : Unit), True ∧ (((4 : Nat) = (4 : Nat) ∧ (te = te ∧ True) ∧ True) ∧ True) ∧ ((0 : Int) = prsVh s now ∧ (4 : Int) = prsEh s now ∧ True) ∧ True else bif !decide ((rd1h s).snd.fst = []) then bif (rd2h s now).snd.snd then bif (rd3h s).snd.snd then ∃ (_x : Unit), True ∧ (((4 : Nat) = (4 : Nat) ∧ (te = te ∧ True) ∧ True) ∧ True) ∧ ((0 : Int) = prsVh s now ∧ (4 : Int) = prsEh s now ∧ True) ∧ True else bif !decide ((rd3h s).snd.fst = []) then ∃ (_x : Unit), True ∧ (((4 : Nat) = (4 : Nat) ∧ (te = te ∧ True) ∧ True) ∧ True) ∧ ((0 : Int) = prsVh s now ∧ (4 : Int) = prsEh s now ∧ True) ∧ True else bif eqI (secE { y := (rd3h s).fst.y, m := (rd3h s).fst.m, d := (rd3h s).fst.d, h := (rd3h s).fst.h, i := (rd3h s).fst.i, s := (rd3h s).fst.s, w := (rd3h s).fst.w }) (0 : Int) then ∃ (_x : Unit), True ∧ (((4 : Nat) = (4 : Nat) ∧ (te = te ∧ True) ∧ True) ∧ True) ∧ (secV { y := (rd3h s).fst.y, m := (rd3h s).fst.m, d := (rd3h s).fst.d, h := (rd3h s).fst.h, i := (rd3h s).fst.i, s := (rd3h s).fst.s, w := (rd3h s).fst.w } = prsVh s now ∧ (0 : Int) = prsEh s now ∧ True) ∧ True else ∃ (_x : Unit), True ∧ (((4 : Nat) = (4 : Nat) ∧ (te = te ∧ True) ∧ True) ∧ True) ∧ ((0 : Int) = prsVh s now ∧ (4 : Int) = prsEh s now ∧ True) ∧ True else bif !decide ((rd2h s now).snd.fst = []) then bif (rd3h s).snd.snd then ∃ (_x : Unit), True ∧ (((4 : Nat) = (4 : Nat) ∧ (te = te ∧ True) ∧ True) ∧ True) ∧ ((0 : Int) = prsVh s now ∧ (4 : Int) = prsEh s now ∧ True) ∧ True else bif !decide ((rd3h s).snd.fst = []) then ∃ (_x : Unit), True ∧ (((4 : Nat) = (4 : Nat) ∧ (te = te ∧ True) ∧ True) ∧ True) ∧ ((0 : Int) = prsVh s now ∧ (4 : Int) = prsEh s now ∧ True) ∧ True else bif eqI (secE { y := (rd3h s).fst.y, m := (rd3h s).fst.m, d := (rd3h s).fst.d, h := (rd3h s).fst.h, i := (rd3h s).fst.i, s := (rd3h s).fst.s, w := (rd3h s).fst.w }) (0 : Int) then ∃ (_x : Unit), True ∧ (((4 : Nat) = (4 : Nat) ∧ (te = te ∧ True) ∧ True) ∧ True) ∧ (secV { y := (rd3h s).fst.y, m := (rd3h s).fst.m, d := (rd3h s).fst.d, h := (rd3h s).fst.h, i := (rd3h s).fst.i, s := (rd3h s).fst.s, w := (rd3h s).fst.w } = prsVh s now ∧ (0 : Int) = prsEh s now ∧ True) ∧ True else ∃ (_x : Unit), True ∧ (((4 : Nat) = (4 : Nat) ∧ (te = te ∧ True) ∧ True) ∧ True) ∧ ((0 : Int) = prsVh s now ∧ (4 : Int) = prsEh s now ∧ True) ∧ True else bif eqI (secE { y := (rd2h s now).fst.y, m := (rd2h s now).fst.m, d := (rd2h s now).fst.d, h := (rd2h s now).fst.h, i := (rd2h s now).fst.i, s := (rd2h s now).fst.s, w := (rd2h s now).fst.w }) (0 : Int) then ∃ (_x : Unit), True ∧ (((4 : Nat) = (4 : Nat) ∧ (te = te ∧ True) ∧ True) ∧ True) ∧ (secV { y := (rd2h s now).fst.y, m := (rd2h s now).fst.m, d := (rd2h s now).fst.d, h := (rd2h s now).fst.h, i := (rd2h s now).fst.i, s := (rd2h s now).fst.s, w := (rd2h s now).fst.w } = prsVh s now ∧ (0 : Int) = prsEh s now ∧ True) ∧ True else bif (rd3h s).snd.snd then ∃ (_x : Unit), True ∧ (((4 : Nat) = (4 : Nat) ∧ (te = te ∧ True) ∧ True) ∧ True) ∧ ((0 : Int) = prsVh s now ∧ (4 : Int) = prsEh s now ∧ True) ∧ True else bif !decide ((rd3h s).snd.fst = []) then ∃ (_x : Unit), True ∧ (((4 : Nat) = (4 : Nat) ∧ (te = te ∧ True) ∧ True) ∧ True) ∧ ((0 : Int) = prsVh s now ∧ (4 : Int) = prsEh s now ∧ True) ∧ True else bif eqI (secE { y := (rd3h s).fst.y, m := (rd3h s).fst.m, d := (rd3h s).fst.d, h := (rd3h s).fst.h, i := (rd3h s).fst.i, s := (rd3h s).fst.s, w := (rd3h s).fst.w }) (0 : Int) then ∃ (_x : Unit), True ∧ (((4 : Nat) = (4 : Nat) ∧ (te = te ∧ True) ∧ True) ∧ True) ∧ (secV { y := (rd3h s).fst.y, m := (rd3h s).fst.m, d := (rd3h s).fst.d, h := (rd3h s).fst.h, i := (rd3h s).fst.i, s := (rd3h s).fst.s, w := (rd3h s).fst.w } = prsVh s now ∧ (0 : Int) = prsEh s now ∧ True) ∧ True else ∃ (_x : Unit), True ∧ (((4 : Nat) = (4 : Nat) ∧ (te = te ∧ True) ∧ True) ∧ True) ∧ ((0 : Int) = prsVh s now ∧ (4 : Int) = prsEh s now ∧ True) ∧ True else bif eqI (secE { y := (rd1h s).fst.y, m := (rd1h s).fst.m, d := (rd1h s).fst.d, h := (rd1h s).fst.h, i := (rd1h s).fst.i, s := (rd1h s).fst.s, w := (rd1h s).fst.w }) (0 : Int) then ∃ (_x : Unit), True ∧ (((4 : Nat) = (4 : Nat) ∧ (te = te ∧ True) ∧ True) ∧ True) ∧ (secV { y := (rd1h s).fst.y, m := (rd1h s).fst.m, d := (rd1h s).fst.d, h := (rd1h s).fst.h, i := (rd1h s).fst.i, s := (rd1h s).fst.s, w := (rd1h s).fst.w } = prsVh s now ∧ (0 : Int) = prsEh s now ∧ True) ∧ True else bif (rd2h s now).snd.snd then bif (rd3h s).snd.snd then ∃ (_x : Unit), True ∧ (((4 : Nat) = (4 : Nat) ∧ (te = te ∧ True) ∧ True) ∧ True) ∧ ((0 : Int) = prsVh s now ∧ (4 : Int) = prsEh s now ∧ True) ∧ True else bif !decide ((rd3h s).snd.fst = []) then ∃ (_x : Unit), True ∧ (((4 : Nat) = (4 : Nat) ∧ (te = te ∧ True) ∧ True) ∧ True) ∧ ((0 : Int) = prsVh s now ∧ (4 : Int) = prsEh s now ∧ True) ∧ True else bif eqI (secE { y := (rd3h s).fst.y, m := (rd3h s).fst.m, d := (rd3h s).fst.d, h := (rd3h s).fst.h, i := (rd3h s).fst.i, s := (rd3h s).fst.s, w := (rd3h s).fst.w }) (0 : Int) then ∃ (_x : Unit), True ∧ (((4 : Nat) = (4 : Nat) ∧ (te = te ∧ True) ∧ True) ∧ True) ∧ (secV { y := (rd3h s).fst.y, m := (rd3h s).fst.m, d := (rd3h s).fst.d, h := (rd3h s).fst.h, i := (rd3h s).fst.i, s := (rd3h s).fst.s, w := (rd3h s).fst.w } = prsVh s now ∧ (0 : Int) = prsEh s now ∧ True) ∧ True else ∃ (_x : Unit), True ∧ (((4 : Nat) = (4 : Nat) ∧ (te = te ∧ True) ∧ True) ∧ True) ∧ ((0 : Int) = prsVh s now ∧ (4 : Int) = prsEh s now ∧ True) ∧ True else bif !decide ((rd2h s now).snd.fst = []) then bif (rd3h s).snd.snd then ∃ (_x : Unit), True ∧ (((4 : Nat) = (4 : Nat) ∧ (te = te ∧ True) ∧ True) ∧ True) ∧ ((0 : Int) = prsVh s now ∧ (4 : Int) = prsEh s now ∧ True) ∧ True else bif !decide ((rd3h s).snd.fst = []) then ∃ (_x : Unit), True ∧ (((4 : Nat) = (4 : Nat) ∧ (te = te ∧ True) ∧ True) ∧ True) ∧ ((0 : Int) = prsVh s now ∧ (4 : Int) = prsEh s now ∧ True) ∧ True else bif eqI (secE { y := (rd3h s).fst.y, m := (rd3h s).fst.m, d := (rd3h s).fst.d, h := (rd3h s).fst.h, i := (rd3h s).fst.i, s := (rd3h s).fst.s, w := (rd3h s).fst.w }) (0 : Int) then ∃ (_x : Unit), True ∧ (((4 : Nat) = (4 : Nat) ∧ (te = te ∧ True) ∧ True) ∧ True) ∧ (secV { y := (rd3h s).fst.y, m := (rd3h s).fst.m, d := (rd3h s).fst.d, h := (rd3h s).fst.h, i := (rd3h s).fst.i, s := (rd3h s).fst.s, w := (rd3h s).fst.w } = prsVh s now ∧ (0 : Int) = prsEh s now ∧ True) ∧ True else ∃ (_x : Unit), True ∧ (((4 : Nat) = (4 : Nat) ∧ (te = te ∧ True) ∧ True) ∧ True) ∧ ((0 : Int) = prsVh s now ∧ (4 : Int) = prsEh s now ∧ True) ∧ True else bif eqI (secE { y := (rd2h s now).fst.y, m := (rd2h s now).fst.m, d := (rd2h s now).fst.d, h := (rd2h s now).fst.h, i := (rd2h s now).fst.i, s := (rd2h s now).fst.s, w := (rd2h s now).fst.w }) (0 : Int) then ∃ (_x : Unit), True ∧ (((4 : Nat) = (4 : Nat) ∧ (te = te ∧ True) ∧ True) ∧ True) ∧ (secV { y := (rd2h s now).fst.y, m := (rd2h s now).fst.m, d := (rd2h s now).fst.d, h := (rd2h s now).fst.h, i := (rd2h s now).fst.i, s := (rd2h s now).fst.s, w := (rd2h s now).fst.w } = prsVh s now ∧ (0 : Int) = prsEh s now ∧ True) ∧ True else bif (rd3h s).snd.snd then ∃ (_x : Unit), True ∧ (((4 : Nat) = (4 : Nat) ∧ (te = te ∧ True) ∧ True) ∧ True) ∧ ((0 : Int) = prsVh s now ∧ (4 : Int) = prsEh s now ∧ True) ∧ True else bif !decide ((rd3h s).snd.fst = []) then ∃ (_x : Unit), True ∧ (((4 : Nat) = (4 : Nat) ∧ (te = te ∧ True) ∧ True) ∧ True) ∧ ((0 : Int) = prsVh s now ∧ (4 : Int) = prsEh s now ∧ True) ∧ True else bif eqI (secE { y := (rd3h s).fst.y, m := (rd3h s).fst.m, d := (rd3h s).fst.d, h := (rd3h s).fst.h, i := (rd3h s).fst.i, s := (rd3h s).fst.s, w := (rd3h s).fst.w }) (0 : Int) then ∃ (_x : Unit), True ∧ (((4 : Nat) = (4 : Nat) ∧ (te = te ∧ True) ∧ True) ∧ True) ∧ (secV { y := (rd3h s).fst.y, m := (rd3h s).fst.m, d := (rd3h s).fst.d, h := (rd3h s).fst.h, i := (rd3h s).fst.i, s := (rd3h s).fst.s, w := (rd3h s).fst.w } = prsVh s now ∧ (0 : Int) = prsEh s now ∧ True) ∧ True else ∃ (_x : Unit), True ∧ (((4 : Nat) = (4 : Nat) ∧ (te = te ∧ True) ∧ True) ∧ True) ∧ ((0 : Int) = prsVh s now ∧ (4 : Int) = prsEh s now ∧ True) ∧ True) := by kernel_rfl
theorem fine_mk (c : CV) (r : List UInt8) (b : Bool) : fine (c, r, b) = bif b then false else bif !decide (r = []) then false else eqI (secE c) 0 := by
  cases b with
  | true => rfl
  | false =>
    by_cases hr : r = []
    · subst hr
      unfold fine secE
      cases okS c <;> rfl
    · unfold fine; rw [decide_eq_false hr]; rfl
theorem secV_of {c : CV} (h : eqI (secE c) 0 = true) : secV c = secN c := by
  unfold secE at h; unfold secV
  cases ho : okS c with
  | true => rfl
  | false => rw [ho] at h; cases h
theorem leafQ {v e V E : Int} (h : v = V ∧ e = E) : ∃ (_x : Unit), True ∧ ((True ∧ (True ∧ True) ∧ True) ∧ True) ∧ (v = V ∧ e = E ∧ True) ∧ True := ⟨(), trivial, ⟨⟨trivial, ⟨trivial, trivial⟩, trivial⟩, trivial⟩, ⟨h.1, h.2, trivial⟩, trivial⟩
theorem four (b d q : Bool) : b = true ∨ b = false ∧ d = true ∨ b = false ∧ d = false ∧ q = true ∨ b = false ∧ d = false ∧ q = false := by
  cases b <;> cases d <;> cases q <;> simp
theorem parse_vc (s : List UInt8) (te : Nat) (now : Int) : vParse s te now := by
  rw [vParse_eq, prsVh_eq, prsEh_eq, rd1h_eq, rd2h_eq, rd3h_eq]
  unfold prsV prsE
  generalize rd1 s = a1
  generalize rd2 s now = a2
  generalize rd3 s = a3
  obtain ⟨c1, r1, b1⟩ := a1
  obtain ⟨c2, r2, b2⟩ := a2
  obtain ⟨c3, r3, b3⟩ := a3
  have e1 := @secV_of c1
  have e2 := @secV_of c2
  have e3 := @secV_of c3
  simp only [fine_mk]
  generalize (!decide (r1 = [])) = d1 at *
  generalize (!decide (r2 = [])) = d2 at *
  generalize (!decide (r3 = [])) = d3 at *
  generalize eqI (secE c1) 0 = q1 at *
  generalize eqI (secE c2) 0 = q2 at *
  generalize eqI (secE c3) 0 = q3 at *
  rcases four b1 d1 q1 with rfl | ⟨rfl, rfl⟩ | ⟨rfl, rfl, rfl⟩ | ⟨rfl, rfl, rfl⟩
  case inr.inr.inl => exact leafQ ⟨e1 rfl, rfl⟩
  all_goals rcases four b2 d2 q2 with rfl | ⟨rfl, rfl⟩ | ⟨rfl, rfl, rfl⟩ | ⟨rfl, rfl, rfl⟩
  all_goals first | exact leafQ ⟨e2 rfl, rfl⟩ | skip
  all_goals rcases four b3 d3 q3 with rfl | ⟨rfl, rfl⟩ | ⟨rfl, rfl, rfl⟩ | ⟨rfl, rfl, rfl⟩
  all_goals first | exact leafQ ⟨e3 rfl, rfl⟩ | exact leafQ ⟨rfl, rfl⟩
theorem TDQ_ok : SpecOk Tryd.prog (tabS TDQ noS) := by
  refine tabS_ok (fun p hp => ?_) noS_ok
  simp only [TDQ, List.mem_cons, List.mem_nil_iff, or_false] at hp
  rcases hp with rfl | rfl | rfl | rfl
  · exact eFirst_ok
  · exact eSecond_ok
  · exact eThird_ok
  · exact gSec_ok
noncomputable def eParseD : SpecE := fun args H =>
  match args with
  | [.str s, .int .i64 now] => match H[0]? with
    | some (ABlk.glob 4 [AV.iface _ .bad]) => some (.ok (.tuple [.int .i64 (prsVh s now), .int .i64 (prsEh s now)]) none)
    | _ => none
  | _ => none
theorem eParseD_ok : EntryOk Tryd.prog 9 eParseD := by
  intro args H sr hs K hk
  unfold eParseD at hs
  split at hs
  · rename_i s now
    split at hs
    · rename_i te hb
      cases hs
      have hsc := SC.ofF (V := VDQ) names0 mixed0 TDQ_ok noO_ok (parse_vc s te now)
      refine SC.reads1 (b := 0) (H := H) hsc (fun _ => rfl) (by simp [Dig.gErr]) hb ?_
      rintro v0 H0' ⟨o, ho, x, hx, rfl, rfl⟩
      simp only [outQ, List.mem_cons, List.mem_nil_iff, or_false] at ho
      subst ho
      exact ⟨[], rfl, (fun t ht => by cases ht), none, hk, by simp [chN]⟩
    · cases hs
  · cases hs
