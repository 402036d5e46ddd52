/- What the layer of dates answers: a second by the calendar; two digits; hours, minutes and seconds. -/
import Derived.Test.YtmjfkcjdmfgkcaaDoorDaA
set_option linter.unusedSimpArgs false
set_option linter.unusedVariables false
namespace Go.Proofs.YtmjfkcjdmfgkcaaDoor
open Go Go.Ve Go.Cal
set_option maxRecDepth 20000
def lefS (n Y : Int) (j : Nat) : Int := n - yd Y - cum (leapB Y) (j + 1)
def tmC (Y M D t : Int) : List AV := [.int .i64 Y, .int .i64 M, .int .i64 D, .int .i64 (t % 86400 / 3600), .int .i64 (t % 86400 % 3600 / 60), .int .i64 (t % 86400 % 60), .int .i64 ((t / 86400 + 4) % 7)]
structure YrOk (n Y : Int) : Prop where
  y0 : 1970 ≤ Y
  y1 : Y ≤ 9999
  a : yd Y ≤ n
structure MoOk (n Y : Int) (j : Nat) : Prop where
  yr : YrOk n Y
  b : n < yd (Y + 1)
  j1 : j ≤ 11
  c : cum (leapB Y) (j + 1) ≤ n - yd Y
noncomputable def aCiv (t : Int) : Anns := [
  (6, [.mk Nat (fun j => []) (fun j => some [.cells [.int .i64 (1970 + t / 86400 / 366 + j), .int .i64 0, .int .i64 0, .int .i64 (t % 86400 / 3600), .int .i64 (t % 86400 % 3600 / 60), .int .i64 (t % 86400 % 60), .int .i64 ((t / 86400 + 4) % 7)] 0 false]) (fun j => YrOk (t / 86400) (1970 + t / 86400 / 366 + j)) (fun j => (10000 - (1970 + t / 86400 / 366 + j)).toNat) gcB gcB (fun _ => []) (fun _ => [])]),
  (12, [.mk (Int × Nat) (fun x => [(4, .int .i64 (lefS (t / 86400) x.1 x.2))]) (fun x => some [.cells [.int .i64 x.1, .int .i64 (x.2 + 1), .int .i64 0, .int .i64 (t % 86400 / 3600), .int .i64 (t % 86400 % 3600 / 60), .int .i64 (t % 86400 % 60), .int .i64 ((t / 86400 + 4) % 7)] 0 false]) (fun x => MoOk (t / 86400) x.1 x.2) (fun x => 12 - x.2) gcB gcB (fun _ => []) (fun _ => [])])]
noncomputable def TD4 : List (Nat × SpecE) := [(10, flatE gDays), (11, flatE gLen)]
noncomputable def VD4 : VE := ⟨Tryd.prog, tabS TD4 noS, noO, fun _ => none⟩
def gTwo (args : List AV) : Option (Bool × AV) := match args with | [.int .i64 n] => some (Bool.and (leI 0 n) (leI n 99), .str (two n)) | _ => none
noncomputable def TD5 : List (Nat × SpecE) := [(14, flatE gTwo)]
noncomputable def VD5 : VE := ⟨Tryd.prog, tabS TD5 noS, noO, fun _ => none⟩
def clkS (h i s : Int) : List UInt8 := two h ++ [58] ++ two i ++ [58] ++ two s
def in99 (n : Int) : Bool := Bool.and (leI 0 n) (leI n 99)
noncomputable def gCiv (args : List AV) : Option (Bool × AV) := match args with | [.int .i64 t] => some (true, .tuple [cvA (civ t), .int .i64 (civE t)]) | _ => none
def gClk (args : List AV) : Option (Bool × AV) := match args with | [.agg [.int .i64 _, .int .i64 _, .int .i64 _, .int .i64 h, .int .i64 i, .int .i64 s, .int .i64 _]] => some (Bool.and (in99 h) (Bool.and (in99 i) (in99 s)), .str (clkS h i s)) | _ => none

noncomputable def vCiv  (t : Int) : Prop := vcF VD4 [] 300 (aCiv t) [] 6 [.int .i64 t] [] (one (.tuple [cvA (civ t), .int .i64 (civE t)]))
noncomputable def vTwo  (n : Int) : Prop := vcF V0 [] 300 [] [(13, .str (two n))] 14 [.int .i64 n] [] (one (.str (two n)))
noncomputable def vClk  (y : Int) (m : Int) (d : Int) (h : Int) (i : Int) (s : Int) (w : Int) : Prop := vcF VD5 [] 300 [] [] 16 [.agg [.int .i64 y, .int .i64 m, .int .i64 d, .int .i64 h, .int .i64 i, .int .i64 s, .int .i64 w]] [] (one (.str (clkS h i s)))
theorem vCiv_eq  (t : Int) : vCiv t = (bif ltI t (0 : Int) then ∃ (_x : Unit), True ∧ True ∧ ((((0 : Int) = (civ t).y ∧ (0 : Int) = (civ t).m ∧ (0 : Int) = (civ t).d ∧ (0 : Int) = (civ t).h ∧ (0 : Int) = (civ t).i ∧ (0 : Int) = (civ t).s ∧ (0 : Int) = (civ t).w ∧ True) ∧ True) ∧ (2 : Int) = civE t ∧ True) ∧ True else bif ltI (253402300799 : Int) t then ∃ (_x : Unit), True ∧ True ∧ ((((0 : Int) = (civ t).y ∧ (0 : Int) = (civ t).m ∧ (0 : Int) = (civ t).d ∧ (0 : Int) = (civ t).h ∧ (0 : Int) = (civ t).i ∧ (0 : Int) = (civ t).s ∧ (0 : Int) = (civ t).w ∧ True) ∧ True) ∧ (2 : Int) = civE t ∧ True) ∧ True else bif leI (0 : Int) t && (leI (-9223372036854775808 : Int) t && leI t (9223372036854775807 : Int)) then bif leI (0 : Int) t && true then bif leI (-9223372036854775808 : Int) (t / (86400 : Int) + (4 : Int)) && leI (t / (86400 : Int) + (4 : Int)) (9223372036854775807 : Int) then bif leI (0 : Int) (t / (86400 : Int) + (4 : Int)) && true then bif leI (0 : Int) (t % (86400 : Int)) && (leI (-9223372036854775808 : Int) (t % (86400 : Int)) && leI (t % (86400 : Int)) (9223372036854775807 : Int)) then bif leI (0 : Int) (t % (86400 : Int)) && true then bif leI (0 : Int) (t % (86400 : Int) % (3600 : Int)) && (leI (-9223372036854775808 : Int) (t % (86400 : Int) % (3600 : Int)) && leI (t % (86400 : Int) % (3600 : Int)) (9223372036854775807 : Int)) then bif leI (0 : Int) (t % (86400 : Int)) && true then bif leI (0 : Int) (t / (86400 : Int)) && (leI (-9223372036854775808 : Int) (t / (86400 : Int)) && leI (t / (86400 : Int)) (9223372036854775807 : Int)) then bif leI (-9223372036854775808 : Int) ((1970 : Int) + t / (86400 : Int) / (366 : Int)) && leI ((1970 : Int) + t / (86400 : Int) / (366 : Int)) (9223372036854775807 : Int) then (∃ (x : Nat), YrOk (t / (86400 : Int)) ((1970 : Int) + t / (86400 : Int) / (366 : Int) + ic x) ∧ ((((1970 : Int) + t / (86400 : Int) / (366 : Int) = (1970 : Int) + t / (86400 : Int) / (366 : Int) + ic x ∧ (0 : Int) = (0 : Int) ∧ (0 : Int) = (0 : Int) ∧ t % (86400 : Int) / (3600 : Int) = t % (86400 : Int) / (3600 : Int) ∧ t % (86400 : Int) % (3600 : Int) / (60 : Int) = t % (86400 : Int) % (3600 : Int) / (60 : Int) ∧ t % (86400 : Int) % (60 : Int) = t % (86400 : Int) % (60 : Int) ∧ (t / (86400 : Int) + (4 : Int)) % (7 : Int) = (t / (86400 : Int) + (4 : Int)) % (7 : Int) ∧ True) ∧ True) ∧ True) ∧ True) ∧ ∀ (x : Nat), YrOk (t / (86400 : Int)) ((1970 : Int) + t / (86400 : Int) / (366 : Int) + ic x) → bif leI (-9223372036854775808 : Int) ((1970 : Int) + t / (86400 : Int) / (366 : Int) + ic x + (1 : Int)) && leI ((1970 : Int) + t / (86400 : Int) / (366 : Int) + ic x + (1 : Int)) (9223372036854775807 : Int) then bif !eqI (dayE ((1970 : Int) + t / (86400 : Int) / (366 : Int) + ic x + (1 : Int)) (1 : Int) (1 : Int)) (0 : Int) then bif leI (-9223372036854775808 : Int) (t / (86400 : Int) - dayV ((1970 : Int) + t / (86400 : Int) / (366 : Int) + ic x) (1 : Int) (1 : Int)) && leI (t / (86400 : Int) - dayV ((1970 : Int) + t / (86400 : Int) / (366 : Int) + ic x) (1 : Int) (1 : Int)) (9223372036854775807 : Int) then (∃ (x_1 : Int × Nat), MoOk (t / (86400 : Int)) x_1.fst x_1.snd ∧ ((((1970 : Int) + t / (86400 : Int) / (366 : Int) + ic x = x_1.fst ∧ (1 : Int) = ic x_1.snd + (1 : Int) ∧ (0 : Int) = (0 : Int) ∧ t % (86400 : Int) / (3600 : Int) = t % (86400 : Int) / (3600 : Int) ∧ t % (86400 : Int) % (3600 : Int) / (60 : Int) = t % (86400 : Int) % (3600 : Int) / (60 : Int) ∧ t % (86400 : Int) % (60 : Int) = t % (86400 : Int) % (60 : Int) ∧ (t / (86400 : Int) + (4 : Int)) % (7 : Int) = (t / (86400 : Int) + (4 : Int)) % (7 : Int) ∧ True) ∧ True) ∧ True) ∧ t / (86400 : Int) - dayV ((1970 : Int) + t / (86400 : Int) / (366 : Int) + ic x) (1 : Int) (1 : Int) = lefS (t / (86400 : Int)) x_1.fst x_1.snd ∧ True) ∧ ∀ (x : Int × Nat), MoOk (t / (86400 : Int)) x.fst x.snd → bif leI (0 : Int) x.fst then bif leI (lenM (leapB x.fst) (ic x.snd + (1 : Int))) (lefS (t / (86400 : Int)) x.fst x.snd) then bif leI (0 : Int) x.fst then bif leI (-9223372036854775808 : Int) (lefS (t / (86400 : Int)) x.fst x.snd - lenM (leapB x.fst) (ic x.snd + (1 : Int))) && leI (lefS (t / (86400 : Int)) x.fst x.snd - lenM (leapB x.fst) (ic x.snd + (1 : Int))) (9223372036854775807 : Int) then bif leI (ic x.snd + (1 : Int) + (1 : Int)) (9223372036854775807 : Int) then ∃ (y : Int × Nat), MoOk (t / (86400 : Int)) y.fst y.snd ∧ (12 : Nat) - y.snd < (12 : Nat) - x.snd ∧ (((x.fst = y.fst ∧ ic x.snd + (1 : Int) + (1 : Int) = ic y.snd + (1 : Int) ∧ (0 : Int) = (0 : Int) ∧ t % (86400 : Int) / (3600 : Int) = t % (86400 : Int) / (3600 : Int) ∧ t % (86400 : Int) % (3600 : Int) / (60 : Int) = t % (86400 : Int) % (3600 : Int) / (60 : Int) ∧ t % (86400 : Int) % (60 : Int) = t % (86400 : Int) % (60 : Int) ∧ (t / (86400 : Int) + (4 : Int)) % (7 : Int) = (t / (86400 : Int) + (4 : Int)) % (7 : Int) ∧ True) ∧ True) ∧ True) ∧ lefS (t / (86400 : Int)) x.fst x.snd - lenM (leapB x.fst) (ic x.snd + (1 : Int)) = lefS (t / (86400 : Int)) y.fst y.snd ∧ True else False else False else False else bif leI (-9223372036854775808 : Int) (lefS (t / (86400 : Int)) x.fst x.snd + (1 : Int)) && leI (lefS (t / (86400 : Int)) x.fst x.snd + (1 : Int)) (9223372036854775807 : Int) then ∃ (_x : Unit), True ∧ True ∧ (((x.fst = (civ t).y ∧ ic x.snd + (1 : Int) = (civ t).m ∧ lefS (t / (86400 : Int)) x.fst x.snd + (1 : Int) = (civ t).d ∧ t % (86400 : Int) / (3600 : Int) = (civ t).h ∧ t % (86400 : Int) % (3600 : Int) / (60 : Int) = (civ t).i ∧ t % (86400 : Int) % (60 : Int) = (civ t).s ∧ (t / (86400 : Int) + (4 : Int)) % (7 : Int) = (civ t).w ∧ True) ∧ True) ∧ (0 : Int) = civE t ∧ True) ∧ True else False else False else False else bif ltI (t / (86400 : Int)) (dayV ((1970 : Int) + t / (86400 : Int) / (366 : Int) + ic x + (1 : Int)) (1 : Int) (1 : Int)) then bif leI (-9223372036854775808 : Int) (t / (86400 : Int) - dayV ((1970 : Int) + t / (86400 : Int) / (366 : Int) + ic x) (1 : Int) (1 : Int)) && leI (t / (86400 : Int) - dayV ((1970 : Int) + t / (86400 : Int) / (366 : Int) + ic x) (1 : Int) (1 : Int)) (9223372036854775807 : Int) then (∃ (x_1 : Int × Nat), MoOk (t / (86400 : Int)) x_1.fst x_1.snd ∧ ((((1970 : Int) + t / (86400 : Int) / (366 : Int) + ic x = x_1.fst ∧ (1 : Int) = ic x_1.snd + (1 : Int) ∧ (0 : Int) = (0 : Int) ∧ t % (86400 : Int) / (3600 : Int) = t % (86400 : Int) / (3600 : Int) ∧ t % (86400 : Int) % (3600 : Int) / (60 : Int) = t % (86400 : Int) % (3600 : Int) / (60 : Int) ∧ t % (86400 : Int) % (60 : Int) = t % (86400 : Int) % (60 : Int) ∧ (t / (86400 : Int) + (4 : Int)) % (7 : Int) = (t / (86400 : Int) + (4 : Int)) % (7 : Int) ∧ True) ∧ True) ∧ True) ∧ t / (86400 : Int) - dayV ((1970 : Int) + t / (86400 : Int) / (366 : Int) + ic x) (1 : Int) (1 : Int) = lefS (t / (86400 : Int)) x_1.fst x_1.snd ∧ True) ∧ ∀ (x : Int × Nat), MoOk (t / (86400 : Int)) x.fst x.snd → bif leI (0 : Int) x.fst then bif leI (lenM (leapB x.fst) (ic x.snd + (1 : Int))) (lefS (t / (86400 : Int)) x.fst x.snd) then bif leI (0 : Int) x.fst then bif leI (-9223372036854775808 : Int) (lefS (t / (86400 : Int)) x.fst x.snd - lenM (leapB x.fst) (ic x.snd + (1 : Int))) && leI (lefS (t / (86400 : Int)) x.fst x.snd - lenM (leapB x.fst) (ic x.snd + (1 : Int))) (9223372036854775807 : Int) then bif leI (ic x.snd + (1 : Int) + (1 : Int)) (9223372036854775807 : Int) then ∃ (y : Int × Nat), MoOk (t / (86400 : Int)) y.fst y.snd ∧ (12 : Nat) - y.snd < (12 : Nat) - x.snd ∧ (((x.fst = y.fst ∧ ic x.snd + (1 : Int) + (1 : Int) = ic y.snd + (1 : Int) ∧ (0 : Int) = (0 : Int) ∧ t % (86400 : Int) / (3600 : Int) = t % (86400 : Int) / (3600 : Int) ∧ t % (86400 : Int) % (3600 : Int) / (60 : Int) = t % (86400 : Int) % (3600 : Int) / (60 : Int) ∧ t % (86400 : Int) % (60 : Int) = t % (86400 : Int) % (60 : Int) ∧ (t / (86400 : Int) + (4 : Int)) % (7 : Int) = (t / (86400 : Int) + (4 : Int)) % (7 : Int) ∧ True) ∧ True) ∧ True) ∧ lefS (t / (86400 : Int)) x.fst x.snd - lenM (leapB x.fst) (ic x.snd + (1 : Int)) = lefS (t / (86400 : Int)) y.fst y.snd ∧ True else False else False else False else bif leI (-9223372036854775808 : Int) (lefS (t / (86400 : Int)) x.fst x.snd + (1 : Int)) && leI (lefS (t / (86400 : Int)) x.fst x.snd + (1 : Int)) (9223372036854775807 : Int) then ∃ (_x : Unit), True ∧ True ∧ (((x.fst = (civ t).y ∧ ic x.snd + (1 : Int) = (civ t).m ∧ lefS (t / (86400 : Int)) x.fst x.snd + (1 : Int) = (civ t).d ∧ t % (86400 : Int) / (3600 : Int) = (civ t).h ∧ t % (86400 : Int) % (3600 : Int) / (60 : Int) = (civ t).i ∧ t % (86400 : Int) % (60 : Int) = (civ t).s ∧ (t / (86400 : Int) + (4 : Int)) % (7 : Int) = (civ t).w ∧ True) ∧ True) ∧ (0 : Int) = civE t ∧ True) ∧ True else False else False else False else bif leI (-9223372036854775808 : Int) ((1970 : Int) + t / (86400 : Int) / (366 : Int) + ic x + (1 : Int)) && leI ((1970 : Int) + t / (86400 : Int) / (366 : Int) + ic x + (1 : Int)) (9223372036854775807 : Int) then ∃ (y : Nat), YrOk (t / (86400 : Int)) ((1970 : Int) + t / (86400 : Int) / (366 : Int) + ic y) ∧ ((10000 : Int) - ((1970 : Int) + t / (86400 : Int) / (366 : Int) + ic y)).toNat < ((10000 : Int) - ((1970 : Int) + t / (86400 : Int) / (366 : Int) + ic x)).toNat ∧ ((((1970 : Int) + t / (86400 : Int) / (366 : Int) + ic x + (1 : Int) = (1970 : Int) + t / (86400 : Int) / (366 : Int) + ic y ∧ (0 : Int) = (0 : Int) ∧ (0 : Int) = (0 : Int) ∧ t % (86400 : Int) / (3600 : Int) = t % (86400 : Int) / (3600 : Int) ∧ t % (86400 : Int) % (3600 : Int) / (60 : Int) = t % (86400 : Int) % (3600 : Int) / (60 : Int) ∧ t % (86400 : Int) % (60 : Int) = t % (86400 : Int) % (60 : Int) ∧ (t / (86400 : Int) + (4 : Int)) % (7 : Int) = (t / (86400 : Int) + (4 : Int)) % (7 : Int) ∧ True) ∧ True) ∧ True) ∧ True else False else False else False else False else False else False else False else False else False else False else False else False) := by kernel_rfl
theorem vTwo_eq  (n : Int) : vTwo n = (bif leI (0 : Int) n && (leI (-9223372036854775808 : Int) n && leI n (9223372036854775807 : Int)) then bif leI (0 : Int) (n / (10 : Int)) && true then bif leI (-9223372036854775808 : Int) ((48 : Int) + n / (10 : Int) % (10 : Int)) && leI ((48 : Int) + n / (10 : Int) % (10 : Int)) (9223372036854775807 : Int) then bif leI (0 : Int) ((48 : Int) + n / (10 : Int) % (10 : Int)) && leI ((48 : Int) + n / (10 : Int) % (10 : Int)) (255 : Int) then bif leI (0 : Int) n && true then bif leI (-9223372036854775808 : Int) ((48 : Int) + n % (10 : Int)) && leI ((48 : Int) + n % (10 : Int)) (9223372036854775807 : Int) then bif leI (0 : Int) ((48 : Int) + n % (10 : Int)) && leI ((48 : Int) + n % (10 : Int)) (255 : Int) then some [UInt8.ofNat ((48 : Int) + n / (10 : Int) % (10 : Int)).toNat, UInt8.ofNat ((48 : Int) + n % (10 : Int)).toNat] = some (two n) ∧ ∃ (_x : Unit), True ∧ True ∧ two n = two n ∧ True else False else False else False else False else False else False else False) := by kernel_rfl
theorem vClk_eq  (y : Int) (m : Int) (d : Int) (h : Int) (i : Int) (s : Int) (w : Int) : vClk y m d h i s w = (bif leI (0 : Int) h && leI h (99 : Int) then bif leI (0 : Int) i && leI i (99 : Int) then bif leI (0 : Int) s && leI s (99 : Int) then ∃ (_x : Unit), True ∧ True ∧ two h ++ [(58 : UInt8)] ++ two i ++ [(58 : UInt8)] ++ two s = clkS h i s ∧ True else False else False else False) := by kernel_rfl
theorem TD4_ok : SpecOk Tryd.prog (tabS TD4 noS) := by
  refine tabS_ok (fun p hp => ?_) noS_ok
  simp only [TD4, List.mem_cons, List.mem_nil_iff, or_false] at hp
  rcases hp with rfl | rfl
  · exact gDays_ok
  · exact gLen_ok
theorem yd_01 (y : Int) : dayN y 1 1 = yd y := by unfold dayN; rw [cum_one]; omega
theorem day_01 {y : Int} (h0 : 1970 ≤ y) (h1 : y ≤ 9999) : dayV y 1 1 = yd y ∧ dayE y 1 1 = 0 := by
  have hv : Valid y 1 1 := ⟨h0, h1, by omega, by omega, by omega, by unfold lenM; split <;> omega⟩
  rw [(day_good hv).1, (day_good hv).2, yd_01]; exact ⟨rfl, rfl⟩
theorem day_02 {y : Int} (h1 : 9999 < y) : dayE y 1 1 = 2 := (day_bad fun v => by have := v.y1; omega).2.symm
theorem civ_bad {t : Int} (h : ¬ (0 ≤ t ∧ t ≤ 253402300799)) : (0 = (civ t).y ∧ 0 = (civ t).m ∧ 0 = (civ t).d ∧ 0 = (civ t).h ∧ 0 = (civ t).i ∧ 0 = (civ t).s ∧ 0 = (civ t).w) ∧ 2 = civE t := by
  unfold civ civE
  rw [if_neg fun e => h (okT_iff.1 e), if_neg fun e => h (okT_iff.1 e)]
  exact ⟨⟨rfl, rfl, rfl, rfl, rfl, rfl, rfl⟩, rfl⟩
theorem mo_in {n Y : Int} {j : Nat} (h : MoOk n Y j) (hn : n < 2932897) : 0 ≤ lefS n Y j ∧ lefS n Y j ≤ 366 ∧ 0 ≤ Y := by
  have h1 := h.c
  have h2 := h.b
  have h3 := h.yr.y0
  rw [yd_succ'] at h2
  have h4 := cum_le (leapB Y) (m := 13) (by omega) (by omega)
  have h5 := cum_nonneg (leapB Y) (m := (j : Int) + 1) (by omega) (by have := h.j1; omega)
  unfold lefS
  omega
theorem mo_next {n Y : Int} {j : Nat} (h : MoOk n Y j) (hl : lenM (leapB Y) ((j : Int) + 1) ≤ lefS n Y j) : MoOk n Y (j + 1) ∧ lefS n Y j - lenM (leapB Y) ((j : Int) + 1) = lefS n Y (j + 1) := by
  have hj := h.j1
  have hs := cum_succ (leapB Y) (m := (j : Int) + 1) (by omega) (by omega)
  have h2 := h.b
  rw [yd_succ'] at h2
  unfold lefS at hl ⊢
  rw [show ((j + 1 : Nat) : Int) + 1 = ((j : Int) + 1) + 1 by omega, hs]
  have hj2 : j + 1 ≤ 11 := by
    refine Decidable.byContradiction fun hh => ?_
    obtain rfl : j = 11 := by omega
    have e : ((11 : Nat) : Int) + 1 + 1 = 13 := by decide
    rw [e] at hs
    omega
  exact ⟨⟨h.yr, h.b, hj2, by rw [show ((j + 1 : Nat) : Int) + 1 = ((j : Int) + 1) + 1 by omega, hs]; omega⟩, by omega⟩
theorem mo_end {t Y : Int} {j : Nat} (h0 : 0 ≤ t) (h1 : t ≤ 253402300799) (h : MoOk (t / 86400) Y j) (hl : lefS (t / 86400) Y j < lenM (leapB Y) ((j : Int) + 1)) :
    (Y = (civ t).y ∧ (j : Int) + 1 = (civ t).m ∧ lefS (t / 86400) Y j + 1 = (civ t).d ∧ t % 86400 / 3600 = (civ t).h ∧ t % 86400 % 3600 / 60 = (civ t).i ∧ t % 86400 % 60 = (civ t).s ∧ (t / 86400 + 4) % 7 = (civ t).w) ∧ 0 = civE t := by
  have hj := h.j1
  have hc := h.c
  have hy0 := h.yr.y0
  have hy1 := h.yr.y1
  unfold lefS at hl ⊢
  have hv : Valid Y ((j : Int) + 1) (t / 86400 - yd Y - cum (leapB Y) ((j : Int) + 1) + 1) := ⟨by omega, by omega, by omega, by omega, by omega, by omega⟩
  have hd := dt_eq hv (n := t / 86400) (by unfold dayN; omega)
  unfold civ civE
  rw [if_pos (okT_iff.2 ⟨h0, h1⟩), if_pos (okT_iff.2 ⟨h0, h1⟩), hd]
  exact ⟨⟨rfl, rfl, rfl, rfl, rfl, rfl, rfl⟩, rfl⟩
theorem yr_mo {n Y : Int} (h : YrOk n Y) (hn : n < 2932897) (he : ¬ dayE (Y + 1) 1 1 = 0 ∨ n < dayV (Y + 1) 1 1) : MoOk n Y 0 ∧ n - dayV Y 1 1 = lefS n Y 0 := by
  have h0 := h.y0
  have h1 := h.y1
  have h2 := h.a
  refine ⟨⟨h, ?_, by omega, ?_⟩, ?_⟩
  · by_cases h9 : Y = 9999
    · subst h9
      rw [show (9999 : Int) + 1 = 10000 by decide, yd_end]; exact hn
    · rcases he with he | he
      · exact absurd (day_01 (y := Y + 1) (by omega) (by omega)).2 he
      · rw [(day_01 (y := Y + 1) (by omega) (by omega)).1] at he; exact he
  · rw [show ((0 : Nat) : Int) + 1 = 1 by rfl, cum_one]; omega
  · unfold lefS
    rw [(day_01 h0 h1).1, show ((0 : Nat) : Int) + 1 = 1 by rfl, cum_one]; omega
theorem civ_vc (t : Int) : vCiv t := by
  rw [vCiv_eq]
  ((try simp only [ic, cond_F]); simp only [cond_P, leI_t, leI_f, ltI_t, ltI_f, eqI_t, eqI_f, and_t, not_t, not_f, dec_t, dec_f, true_and, and_true, exists_const, eq_self])
  refine ⟨fun h => civ_bad (by omega), fun h0 => ⟨fun h => civ_bad (by omega), fun h1 => ?_⟩⟩
  have hn : t / 86400 < 2932897 := by omega
  have inner := fun (x : Int × Nat) (hx : MoOk (t / 86400) x.fst x.snd) => mo_in hx hn
  refine ⟨by omega, by omega, by omega, by omega, by omega, by omega, by omega, by omega, by omega, by omega, ⟨0, ?_, by omega⟩, fun x hx => ?_⟩
  · refine ⟨by omega, by omega, ?_⟩
    have := yd_start (k := t / 86400 / 366) (by omega) (by omega)
    rw [show (1970 : Int) + t / 86400 / 366 + ((0 : Nat) : Int) = 1970 + t / 86400 / 366 by omega]
    omega
  · generalize hY : (1970 : Int) + t / 86400 / 366 + (x : Int) = Y at *
    have hy0 := hx.y0
    have hy1 := hx.y1
    have hya := hx.a
    have hd1 := (day_01 hy0 hy1).1
    have hyd : 0 ≤ yd Y := by rw [← yd_first]; exact yd_mono hy0
    have tail : ∀ x : Int × Nat, MoOk (t / 86400) x.fst x.snd → (0 ≤ x.fst ∧ (lenM (leapB x.fst) ((x.snd : Int) + 1) ≤ lefS (t / 86400) x.fst x.snd → 0 ≤ x.fst ∧ (-9223372036854775808 ≤ lefS (t / 86400) x.fst x.snd - lenM (leapB x.fst) ((x.snd : Int) + 1) ∧ lefS (t / 86400) x.fst x.snd - lenM (leapB x.fst) ((x.snd : Int) + 1) ≤ 9223372036854775807) ∧ (x.snd : Int) + 1 + 1 ≤ 9223372036854775807 ∧
        ∃ y : Int × Nat, MoOk (t / 86400) y.fst y.snd ∧ 12 - y.snd < 12 - x.snd ∧ (x.fst = y.fst ∧ (x.snd : Int) + 1 + 1 = (y.snd : Int) + 1) ∧ lefS (t / 86400) x.fst x.snd - lenM (leapB x.fst) ((x.snd : Int) + 1) = lefS (t / 86400) y.fst y.snd) ∧
        (lefS (t / 86400) x.fst x.snd < lenM (leapB x.fst) ((x.snd : Int) + 1) → (-9223372036854775808 ≤ lefS (t / 86400) x.fst x.snd + 1 ∧ lefS (t / 86400) x.fst x.snd + 1 ≤ 9223372036854775807) ∧
          (x.fst = (civ t).y ∧ (x.snd : Int) + 1 = (civ t).m ∧ lefS (t / 86400) x.fst x.snd + 1 = (civ t).d ∧ t % 86400 / 3600 = (civ t).h ∧ t % 86400 % 3600 / 60 = (civ t).i ∧ t % 86400 % 60 = (civ t).s ∧ (t / 86400 + 4) % 7 = (civ t).w) ∧ 0 = civE t)) := by
      intro x hx
      obtain ⟨i1, i2, i3⟩ := inner x hx
      have hj := hx.j1
      have hlm := lenM_pos (leapB x.fst) (m := (x.snd : Int) + 1) (by omega) (by omega)
      refine ⟨i3, fun hl => ⟨i3, by omega, by omega, ?_⟩, fun hl => ⟨by omega, mo_end h0 h1 hx hl⟩⟩
      obtain ⟨n1, n2⟩ := mo_next hx hl
      exact ⟨(x.fst, x.snd + 1), n1, by show 12 - (x.snd + 1) < 12 - x.snd; omega, ⟨rfl, by show (x.snd : Int) + 1 + 1 = ((x.snd + 1 : Nat) : Int) + 1; omega⟩, n2⟩
    refine ⟨by omega, fun he => ⟨by rw [hd1]; omega, ⟨(Y, 0), (yr_mo hx hn (.inl he)).1, ⟨rfl, rfl⟩, (yr_mo hx hn (.inl he)).2⟩, tail⟩, fun he => ⟨fun hg => ⟨by rw [hd1]; omega, ⟨(Y, 0), (yr_mo hx hn (.inr hg)).1, ⟨rfl, rfl⟩, (yr_mo hx hn (.inr hg)).2⟩, tail⟩, fun hg => ⟨by omega, x + 1, ?_, ?_, by omega⟩⟩⟩
    · have h9 : Y + 1 ≤ 9999 := by
        refine Decidable.byContradiction fun hh => ?_
        rw [day_02 (y := Y + 1) (by omega)] at he
        cases he
      rw [(day_01 (y := Y + 1) (by omega) h9).1] at hg
      rw [show (1970 : Int) + t / 86400 / 366 + ((x + 1 : Nat) : Int) = Y + 1 by omega]
      exact ⟨by omega, h9, hg⟩
    · omega
theorem gCiv_sc (t : Int) : SC Tryd.prog 6 [.int .i64 t] [] (fun v H => v = .tuple [cvA (civ t), .int .i64 (civE t)] ∧ H = []) := SC.one (V := VD4) names0 mixed0 TD4_ok noO_ok (civ_vc t)
theorem two_vc (n : Int) (h0 : 0 ≤ n) (h1 : n ≤ 99) : vTwo n := by
  rw [vTwo_eq]
  ((try simp only [ic, cond_F]); simp only [cond_P, leI_t, leI_f, ltI_t, ltI_f, eqI_t, eqI_f, and_t, not_t, not_f, dec_t, dec_f, true_and, and_true, exists_const, eq_self])
  exact ⟨by omega, by omega, by omega, by omega, by omega, by omega, by omega, rfl⟩
theorem gTwo_ok : EntryOk Tryd.prog 14 (flatE gTwo) := by
  refine flatE_ok fun args b v hg hb => ?_
  unfold gTwo at hg
  split at hg
  · rename_i n
    cases hg
    rw [and_t, leI_t, leI_t] at hb
    exact ⟨rfl, rfl, SC.one (V := V0) names0 mixed0 noS_ok noO_ok (two_vc n hb.1 hb.2)⟩
  · cases hg
theorem TD5_ok : SpecOk Tryd.prog (tabS TD5 noS) := by
  refine tabS_ok (fun p hp => ?_) noS_ok
  simp only [TD5, List.mem_cons, List.mem_nil_iff, or_false] at hp
  subst hp
  exact gTwo_ok
theorem clk_vc (y m d h i s w : Int) (h1 : in99 h = true) (h2 : in99 i = true) (h3 : in99 s = true) : vClk y m d h i s w := by
  rw [vClk_eq]
  simp only [in99, and_t, leI_t] at h1 h2 h3
  ((try simp only [ic, cond_F]); simp only [cond_P, leI_t, leI_f, ltI_t, ltI_f, eqI_t, eqI_f, and_t, not_t, not_f, dec_t, dec_f, true_and, and_true, exists_const, eq_self])
  exact ⟨h1, h2, h3, rfl⟩
theorem gCiv_ok : EntryOk Tryd.prog 6 (flatE gCiv) := by
  refine flatE_ok fun args b v hg hb => ?_
  unfold gCiv at hg
  split at hg
  · rename_i t
    cases hg
    exact ⟨rfl, rfl, gCiv_sc t⟩
  · cases hg
theorem gClk_ok : EntryOk Tryd.prog 16 (flatE gClk) := by
  refine flatE_ok fun args b v hg hb => ?_
  unfold gClk at hg
  split at hg
  · rename_i y m d h i s w
    cases hg
    rw [and_t, and_t] at hb
    exact ⟨rfl, rfl, SC.one (V := VD5) names0 mixed0 TD5_ok noO_ok (clk_vc y m d h i s w hb.1 hb.2.1 hb.2.2)⟩
  · cases hg
