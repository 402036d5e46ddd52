/- What the layer of dates answers: days and seconds of a date. -/
import Derived.Test.YtmjfkcjdmfgkcaaDoorLow
import Derived.Test.YtmjfkcjdmfgkcaaDoorDtP
set_option linter.unusedSimpArgs false
set_option linter.unusedVariables false
namespace Go.Proofs.YtmjfkcjdmfgkcaaDoor
open Go Go.Ve Go.Cal
set_option maxRecDepth 20000
def gLeap (args : List AV) : Option (Bool × AV) := match args with | [.int .i64 y] => some (leI 0 y, .bool (leapB y)) | _ => none
def gLen (args : List AV) : Option (Bool × AV) := match args with | [.int .i64 y, .int .i64 m] => some (leI 0 y, .int .i64 (lenM (leapB y) m)) | _ => none
def gLps (args : List AV) : Option (Bool × AV) := match args with | [.int .i64 y] => some (Bool.and (leI 0 y) (leI y 100000), .int .i64 (leaps y)) | _ => none
def gBet (args : List AV) : Option (Bool × AV) := match args with | [.int .i64 a, .int .i64 b] => some (true, .bool (Bool.and (leI 0 a) (ltI a b))) | _ => none
def gDays (args : List AV) : Option (Bool × AV) := match args with | [.int .i64 y, .int .i64 m, .int .i64 d] => some (true, .tuple [.int .i64 (dayV y m d), .int .i64 (dayE y m d)]) | _ => none
def cvA (c : CV) : AV := .agg [.int .i64 c.y, .int .i64 c.m, .int .i64 c.d, .int .i64 c.h, .int .i64 c.i, .int .i64 c.s, .int .i64 c.w]
def gSec (args : List AV) : Option (Bool × AV) := match args with | [.agg [.int .i64 y, .int .i64 m, .int .i64 d, .int .i64 h, .int .i64 i, .int .i64 s, .int .i64 w]] => some (true, .tuple [.int .i64 (secV ⟨y, m, d, h, i, s, w⟩), .int .i64 (secE ⟨y, m, d, h, i, s, w⟩)]) | _ => none
noncomputable def TD1 : List (Nat × SpecE) := [(21, flatE gLeap)]
noncomputable def VD1 : VE := ⟨Tryd.prog, tabS TD1 noS, noO, fun _ => none⟩
noncomputable def TD2 : List (Nat × SpecE) := [(11, flatE gLen), (20, flatE gLps)]
noncomputable def VD2 : VE := ⟨Tryd.prog, tabS TD2 noS, noO, fun _ => none⟩
noncomputable def TD3 : List (Nat × SpecE) := [(10, flatE gDays), (12, flatE gBet)]
noncomputable def VD3 : VE := ⟨Tryd.prog, tabS TD3 noS, noO, fun _ => none⟩
def dysN (y d : Int) (l : Bool) (j : Nat) : Int := yd y + d - 1 + cum l (j + 1)
noncomputable def aDays (y m d : Int) : Anns := [(5, [.mk Nat (fun j => [(49, .int .i64 j), (8, .int .i64 (dysN y d (leapB y) j))]) (fun _ => none) (fun j => (j : Int) ≤ m - 1) (fun j => (m - 1).toNat - j) gcB gcB (fun _ => []) (fun _ => [])])]

noncomputable def vLeap  (y : Int) : Prop := vcF V0 [] 300 [] [] 21 [.int .i64 y] [] (one (.bool (leapB y)))
noncomputable def vLen  (y : Int) (m : Int) : Prop := vcF VD1 [] 300 [] [] 11 [.int .i64 y, .int .i64 m] [] (one (.int .i64 (lenM (leapB y) m)))
noncomputable def vLps  (y : Int) : Prop := vcF V0 [] 300 [] [] 20 [.int .i64 y] [] (one (.int .i64 (leaps y)))
noncomputable def vBet  (a : Int) (b : Int) : Prop := vcF V0 [] 300 [] [] 12 [.int .i64 a, .int .i64 b] [] (one (.bool (Bool.and (leI 0 a) (ltI a b))))
noncomputable def vDays  (y : Int) (m : Int) (d : Int) : Prop := vcF VD2 [] 300 (aDays y m d) [] 10 [.int .i64 y, .int .i64 m, .int .i64 d] [] (one (.tuple [.int .i64 (dayV y m d), .int .i64 (dayE y m d)]))
noncomputable def vSec  (y : Int) (m : Int) (d : Int) (h : Int) (i : Int) (s : Int) (w : Int) : Prop := vcF VD3 [] 300 [] [] 7 [.agg [.int .i64 y, .int .i64 m, .int .i64 d, .int .i64 h, .int .i64 i, .int .i64 s, .int .i64 w]] [] (one (.tuple [.int .i64 (secV ⟨y, m, d, h, i, s, w⟩), .int .i64 (secE ⟨y, m, d, h, i, s, w⟩)]))
theorem vLeap_eq  (y : Int) : vLeap y = (bif leI (0 : Int) y && true then bif eqI (y % (4 : Int)) (0 : Int) then bif leI (0 : Int) y && true then bif !eqI (y % (100 : Int)) (0 : Int) then ∃ (_x : Unit), True ∧ True ∧ true = leapB y ∧ True else bif leI (0 : Int) y && true then ∃ (_x : Unit), True ∧ True ∧ eqI (y % (400 : Int)) (0 : Int) = leapB y ∧ True else False else False else ∃ (_x : Unit), True ∧ True ∧ false = leapB y ∧ True else False) := by kernel_rfl
theorem vLen_eq  (y : Int) (m : Int) : vLen y m = (bif eqI m (4 : Int) then bif eqI m (4 : Int) then ∃ (_x : Unit), True ∧ True ∧ (30 : Int) = lenM (leapB y) m ∧ True else bif eqI m (2 : Int) then bif leI (0 : Int) y then bif leapB y then ∃ (_x : Unit), True ∧ True ∧ (29 : Int) = lenM (leapB y) m ∧ True else ∃ (_x : Unit), True ∧ True ∧ (28 : Int) = lenM (leapB y) m ∧ True else False else ∃ (_x : Unit), True ∧ True ∧ (31 : Int) = lenM (leapB y) m ∧ True else bif eqI m (6 : Int) then bif eqI m (6 : Int) then ∃ (_x : Unit), True ∧ True ∧ (30 : Int) = lenM (leapB y) m ∧ True else bif eqI m (2 : Int) then bif leI (0 : Int) y then bif leapB y then ∃ (_x : Unit), True ∧ True ∧ (29 : Int) = lenM (leapB y) m ∧ True else ∃ (_x : Unit), True ∧ True ∧ (28 : Int) = lenM (leapB y) m ∧ True else False else ∃ (_x : Unit), True ∧ True ∧ (31 : Int) = lenM (leapB y) m ∧ True else bif eqI m (9 : Int) then bif eqI m (9 : Int) then ∃ (_x : Unit), True ∧ True ∧ (30 : Int) = lenM (leapB y) m ∧ True else bif eqI m (2 : Int) then bif leI (0 : Int) y then bif leapB y then ∃ (_x : Unit), True ∧ True ∧ (29 : Int) = lenM (leapB y) m ∧ True else ∃ (_x : Unit), True ∧ True ∧ (28 : Int) = lenM (leapB y) m ∧ True else False else ∃ (_x : Unit), True ∧ True ∧ (31 : Int) = lenM (leapB y) m ∧ True else bif eqI m (11 : Int) then ∃ (_x : Unit), True ∧ True ∧ (30 : Int) = lenM (leapB y) m ∧ True else bif eqI m (2 : Int) then bif leI (0 : Int) y then bif leapB y then ∃ (_x : Unit), True ∧ True ∧ (29 : Int) = lenM (leapB y) m ∧ True else ∃ (_x : Unit), True ∧ True ∧ (28 : Int) = lenM (leapB y) m ∧ True else False else ∃ (_x : Unit), True ∧ True ∧ (31 : Int) = lenM (leapB y) m ∧ True) := by kernel_rfl
theorem vLps_eq  (y : Int) : vLps y = (bif leI (0 : Int) y && (leI (-9223372036854775808 : Int) y && leI y (9223372036854775807 : Int)) then bif leI (0 : Int) y && (leI (-9223372036854775808 : Int) y && leI y (9223372036854775807 : Int)) then bif leI (-9223372036854775808 : Int) (y / (4 : Int) - y / (100 : Int)) && leI (y / (4 : Int) - y / (100 : Int)) (9223372036854775807 : Int) then bif leI (0 : Int) y && (leI (-9223372036854775808 : Int) y && leI y (9223372036854775807 : Int)) then bif leI (-9223372036854775808 : Int) (y / (4 : Int) - y / (100 : Int) + y / (400 : Int)) && leI (y / (4 : Int) - y / (100 : Int) + y / (400 : Int)) (9223372036854775807 : Int) then ∃ (_x : Unit), True ∧ True ∧ y / (4 : Int) - y / (100 : Int) + y / (400 : Int) = leaps y ∧ True else False else False else False else False else False) := by kernel_rfl
theorem vBet_eq  (a : Int) (b : Int) : vBet a b = (bif leI (0 : Int) a then ∃ (_x : Unit), True ∧ True ∧ ltI a b = (leI (0 : Int) a && ltI a b) ∧ True else ∃ (_x : Unit), True ∧ True ∧ false = (leI (0 : Int) a && ltI a b) ∧ True) := by kernel_rfl
theorem vDays_eq  (y : Int) (m : Int) (d : Int) : vDays y m d = (bif ltI y (1970 : Int) then ∃ (_x : Unit), True ∧ True ∧ ((0 : Int) = dayV y m d ∧ (2 : Int) = dayE y m d ∧ True) ∧ True else bif ltI (9999 : Int) y then ∃ (_x : Unit), True ∧ True ∧ ((0 : Int) = dayV y m d ∧ (2 : Int) = dayE y m d ∧ True) ∧ True else bif ltI m (1 : Int) then ∃ (_x : Unit), True ∧ True ∧ ((0 : Int) = dayV y m d ∧ (2 : Int) = dayE y m d ∧ True) ∧ True else bif ltI (12 : Int) m then ∃ (_x : Unit), True ∧ True ∧ ((0 : Int) = dayV y m d ∧ (2 : Int) = dayE y m d ∧ True) ∧ True else bif ltI d (1 : Int) then ∃ (_x : Unit), True ∧ True ∧ ((0 : Int) = dayV y m d ∧ (2 : Int) = dayE y m d ∧ True) ∧ True else bif leI (0 : Int) y then bif ltI (lenM (leapB y) m) d then ∃ (_x : Unit), True ∧ True ∧ ((0 : Int) = dayV y m d ∧ (2 : Int) = dayE y m d ∧ True) ∧ True else bif leI (-9223372036854775808 : Int) (y - (1970 : Int)) && leI (y - (1970 : Int)) (9223372036854775807 : Int) then bif leI (-9223372036854775808 : Int) ((365 : Int) * (y - (1970 : Int))) && leI ((365 : Int) * (y - (1970 : Int))) (9223372036854775807 : Int) then bif leI (-9223372036854775808 : Int) (y - (1 : Int)) && leI (y - (1 : Int)) (9223372036854775807 : Int) then bif leI (0 : Int) (y - (1 : Int)) && leI (y - (1 : Int)) (100000 : Int) then bif leI (-9223372036854775808 : Int) ((365 : Int) * (y - (1970 : Int)) + leaps (y - (1 : Int))) && leI ((365 : Int) * (y - (1970 : Int)) + leaps (y - (1 : Int))) (9223372036854775807 : Int) then bif leI (-9223372036854775808 : Int) ((365 : Int) * (y - (1970 : Int)) + leaps (y - (1 : Int)) - (477 : Int)) && leI ((365 : Int) * (y - (1970 : Int)) + leaps (y - (1 : Int)) - (477 : Int)) (9223372036854775807 : Int) then bif leI (-9223372036854775808 : Int) ((365 : Int) * (y - (1970 : Int)) + leaps (y - (1 : Int)) - (477 : Int) + d) && leI ((365 : Int) * (y - (1970 : Int)) + leaps (y - (1 : Int)) - (477 : Int) + d) (9223372036854775807 : Int) then bif leI (-9223372036854775808 : Int) ((365 : Int) * (y - (1970 : Int)) + leaps (y - (1 : Int)) - (477 : Int) + d - (1 : Int)) && leI ((365 : Int) * (y - (1970 : Int)) + leaps (y - (1 : Int)) - (477 : Int) + d - (1 : Int)) (9223372036854775807 : Int) then bif leI (-9223372036854775808 : Int) (m - (1 : Int)) && leI (m - (1 : Int)) (9223372036854775807 : Int) then (∃ (x : Nat), ic x ≤ m - (1 : Int) ∧ True ∧ (0 : Int) = ic x ∧ (365 : Int) * (y - (1970 : Int)) + leaps (y - (1 : Int)) - (477 : Int) + d - (1 : Int) = dysN y d (leapB y) x ∧ True) ∧ ∀ (x : Nat), ic x ≤ m - (1 : Int) → bif ltI (ic x) (m - (1 : Int)) then bif leI (ic x + (1 : Int)) (9223372036854775807 : Int) then bif leI (0 : Int) y then bif leI (-9223372036854775808 : Int) (dysN y d (leapB y) x + lenM (leapB y) (ic x + (1 : Int))) && leI (dysN y d (leapB y) x + lenM (leapB y) (ic x + (1 : Int))) (9223372036854775807 : Int) then bif leI (ic x + (1 : Int)) (9223372036854775807 : Int) then ∃ (y_1 : Nat), ic y_1 ≤ m - (1 : Int) ∧ (m - (1 : Int)).toNat - y_1 < (m - (1 : Int)).toNat - x ∧ True ∧ ic x + (1 : Int) = ic y_1 ∧ dysN y d (leapB y) x + lenM (leapB y) (ic x + (1 : Int)) = dysN y d (leapB y) y_1 ∧ True else False else False else False else False else ∃ (_x : Unit), True ∧ True ∧ (dysN y d (leapB y) x = dayV y m d ∧ (0 : Int) = dayE y m d ∧ True) ∧ True else False else False else False else False else False else False else False else False else False else False) := by kernel_rfl
theorem vSec_eq  (y : Int) (m : Int) (d : Int) (h : Int) (i : Int) (s : Int) (w : Int) : vSec y m d h i s w = (bif !eqI (dayE y m d) (0 : Int) then ∃ (_x : Unit), True ∧ True ∧ ((0 : Int) = secV { y := y, m := m, d := d, h := h, i := i, s := s, w := w } ∧ (2 : Int) = secE { y := y, m := m, d := d, h := h, i := i, s := s, w := w } ∧ True) ∧ True else bif !(leI (0 : Int) h && ltI h (24 : Int)) then ∃ (_x : Unit), True ∧ True ∧ ((0 : Int) = secV { y := y, m := m, d := d, h := h, i := i, s := s, w := w } ∧ (2 : Int) = secE { y := y, m := m, d := d, h := h, i := i, s := s, w := w } ∧ True) ∧ True else bif !(leI (0 : Int) i && ltI i (60 : Int)) then ∃ (_x : Unit), True ∧ True ∧ ((0 : Int) = secV { y := y, m := m, d := d, h := h, i := i, s := s, w := w } ∧ (2 : Int) = secE { y := y, m := m, d := d, h := h, i := i, s := s, w := w } ∧ True) ∧ True else bif !(leI (0 : Int) s && ltI s (60 : Int)) then ∃ (_x : Unit), True ∧ True ∧ ((0 : Int) = secV { y := y, m := m, d := d, h := h, i := i, s := s, w := w } ∧ (2 : Int) = secE { y := y, m := m, d := d, h := h, i := i, s := s, w := w } ∧ True) ∧ True else bif leI (-9223372036854775808 : Int) (dayV y m d + (4 : Int)) && leI (dayV y m d + (4 : Int)) (9223372036854775807 : Int) then bif leI (0 : Int) (dayV y m d + (4 : Int)) && true then bif !eqI w ((dayV y m d + (4 : Int)) % (7 : Int)) then ∃ (_x : Unit), True ∧ True ∧ ((0 : Int) = secV { y := y, m := m, d := d, h := h, i := i, s := s, w := w } ∧ (2 : Int) = secE { y := y, m := m, d := d, h := h, i := i, s := s, w := w } ∧ True) ∧ True else bif leI (-9223372036854775808 : Int) (dayV y m d * (86400 : Int)) && leI (dayV y m d * (86400 : Int)) (9223372036854775807 : Int) then bif leI (-9223372036854775808 : Int) ((3600 : Int) * h) && leI ((3600 : Int) * h) (9223372036854775807 : Int) then bif leI (-9223372036854775808 : Int) ((60 : Int) * i) && leI ((60 : Int) * i) (9223372036854775807 : Int) then bif leI (-9223372036854775808 : Int) ((3600 : Int) * h + (60 : Int) * i) && leI ((3600 : Int) * h + (60 : Int) * i) (9223372036854775807 : Int) then bif leI (-9223372036854775808 : Int) ((3600 : Int) * h + (60 : Int) * i + s) && leI ((3600 : Int) * h + (60 : Int) * i + s) (9223372036854775807 : Int) then bif leI (-9223372036854775808 : Int) (dayV y m d * (86400 : Int) + ((3600 : Int) * h + (60 : Int) * i + s)) && leI (dayV y m d * (86400 : Int) + ((3600 : Int) * h + (60 : Int) * i + s)) (9223372036854775807 : Int) then ∃ (_x : Unit), True ∧ True ∧ (dayV y m d * (86400 : Int) + ((3600 : Int) * h + (60 : Int) * i + s) = secV { y := y, m := m, d := d, h := h, i := i, s := s, w := w } ∧ (0 : Int) = secE { y := y, m := m, d := d, h := h, i := i, s := s, w := w } ∧ True) ∧ True else False else False else False else False else False else False else False else False) := by kernel_rfl
theorem leap_vc (y : Int) (h0 : 0 ≤ y) : vLeap y := by
  rw [vLeap_eq]
  ((try simp only [ic, cond_F]); simp only [cond_P, leI_t, leI_f, ltI_t, ltI_f, eqI_t, eqI_f, and_t, not_t, not_f, dec_t, dec_f, true_and, and_true, exists_const])
  refine ⟨h0, fun h4 => ⟨h0, fun h1 => ?_, fun h1 => ⟨h0, ?_⟩⟩, fun h4 => ?_⟩
  · rw [eq_comm, leapB_iff]; exact ⟨h4, .inl h1⟩
  · have e : leapB y = decide (y % 400 = 0) := by unfold leapB; simp [h4, h1]; rfl
    rw [e, eqI_eq]
  · unfold leapB; simp [h4]
theorem gLeap_ok : EntryOk Tryd.prog 21 (flatE gLeap) := by
  refine flatE_ok fun args b v hg hb => ?_
  unfold gLeap at hg
  split at hg
  · rename_i y
    cases hg
    rw [leI_t] at hb
    exact ⟨rfl, rfl, SC.one (V := V0) names0 mixed0 noS_ok noO_ok (leap_vc y hb)⟩
  · cases hg
theorem TD1_ok : SpecOk Tryd.prog (tabS TD1 noS) := by
  refine tabS_ok (fun p hp => ?_) noS_ok
  simp only [TD1, List.mem_cons, List.mem_nil_iff, or_false] at hp
  subst hp
  exact gLeap_ok
theorem lenM_30 {l : Bool} {m : Int} (h : m = 4 ∨ m = 6 ∨ m = 9 ∨ m = 11) : 30 = lenM l m := by unfold lenM; rw [if_pos h]
theorem lenM_2 {l : Bool} : lenM l 2 = if l = true then 29 else 28 := by unfold lenM; rw [if_neg (by decide), if_pos rfl]
theorem lenM_31 {l : Bool} {m : Int} (h1 : m ≠ 4) (h2 : m ≠ 6) (h3 : m ≠ 9) (h4 : m ≠ 11) (h5 : m ≠ 2) : 31 = lenM l m := by unfold lenM; rw [if_neg (by omega), if_neg h5]
theorem len_vc (y m : Int) (h0 : 0 ≤ y) : vLen y m := by
  rw [vLen_eq]
  ((try simp only [ic, cond_F]); simp only [cond_P, leI_t, leI_f, ltI_t, ltI_f, eqI_t, eqI_f, and_t, not_t, not_f, dec_t, dec_f, true_and, and_true, exists_const])
  have two : m = 2 → 0 ≤ y ∧ (leapB y = true → 29 = lenM (leapB y) m) ∧ (leapB y = false → 28 = lenM (leapB y) m) := fun e => by
    subst e
    rw [lenM_2]
    exact ⟨h0, fun h => by rw [h]; rfl, fun h => by rw [h]; rfl⟩
  refine ⟨fun h => ⟨fun h => lenM_30 (.inl h), fun h2 => absurd h h2⟩, fun h4 => ⟨fun h => ⟨fun h => lenM_30 (.inr (.inl h)), fun h2 => absurd h h2⟩, fun h6 => ⟨fun h => ⟨fun h => lenM_30 (.inr (.inr (.inl h))), fun h2 => absurd h h2⟩, fun h9 => ⟨fun h => lenM_30 (.inr (.inr (.inr h))), fun h11 => ⟨fun h => two h, fun h2 => lenM_31 h4 h6 h9 h11 h2⟩⟩⟩⟩⟩
theorem gLen_ok : EntryOk Tryd.prog 11 (flatE gLen) := by
  refine flatE_ok fun args b v hg hb => ?_
  unfold gLen at hg
  split at hg
  · rename_i y m
    cases hg
    rw [leI_t] at hb
    exact ⟨rfl, rfl, SC.one (V := VD1) names0 mixed0 TD1_ok noO_ok (len_vc y m hb)⟩
  · cases hg
theorem lps_vc (y : Int) (h0 : 0 ≤ y) (h1 : y ≤ 100000) : vLps y := by
  rw [vLps_eq]
  ((try simp only [ic, cond_F]); simp only [cond_P, leI_t, leI_f, ltI_t, ltI_f, eqI_t, eqI_f, and_t, not_t, not_f, dec_t, dec_f, true_and, and_true, exists_const])
  exact ⟨⟨h0, by omega, by omega⟩, ⟨h0, by omega, by omega⟩, by omega, ⟨h0, by omega, by omega⟩, by omega, rfl⟩
theorem gLps_ok : EntryOk Tryd.prog 20 (flatE gLps) := by
  refine flatE_ok fun args b v hg hb => ?_
  unfold gLps at hg
  split at hg
  · rename_i y
    cases hg
    rw [and_t, leI_t, leI_t] at hb
    exact ⟨rfl, rfl, SC.one (V := V0) names0 mixed0 noS_ok noO_ok (lps_vc y hb.1 hb.2)⟩
  · cases hg
theorem bet_vc (a b : Int) : vBet a b := by
  rw [vBet_eq]
  ((try simp only [ic, cond_F]); simp only [cond_P, leI_t, leI_f, ltI_t, ltI_f, eqI_t, eqI_f, and_t, not_t, not_f, dec_t, dec_f, true_and, and_true, exists_const])
  refine ⟨fun h => ?_, fun h => ?_⟩
  · rw [show leI 0 a = true by rw [leI_t]; exact h]; rfl
  · rw [show leI 0 a = false by rw [leI_f]; exact h]; rfl
theorem gBet_ok : EntryOk Tryd.prog 12 (flatE gBet) := by
  refine flatE_ok fun args b v hg hb => ?_
  unfold gBet at hg
  split at hg
  · rename_i a b
    cases hg
    exact ⟨rfl, rfl, SC.one (V := V0) names0 mixed0 noS_ok noO_ok (bet_vc a b)⟩
  · cases hg
theorem TD2_ok : SpecOk Tryd.prog (tabS TD2 noS) := by
  refine tabS_ok (fun p hp => ?_) noS_ok
  simp only [TD2, List.mem_cons, List.mem_nil_iff, or_false] at hp
  rcases hp with rfl | rfl
  · exact gLen_ok
  · exact gLps_ok
theorem day_bad {y m d : Int} (h : ¬ Valid y m d) : 0 = dayV y m d ∧ 2 = dayE y m d := by
  unfold dayV dayE
  have : ¬ okD y m d = true := fun e => h (okD_iff.1 e)
  rw [if_neg this, if_neg this]; exact ⟨rfl, rfl⟩
theorem day_good {y m d : Int} (h : Valid y m d) : dayV y m d = dayN y m d ∧ dayE y m d = 0 := by
  unfold dayV dayE
  rw [if_pos (okD_iff.2 h), if_pos (okD_iff.2 h)]; exact ⟨rfl, rfl⟩
theorem days_vc (y m d : Int) : vDays y m d := by
  rw [vDays_eq]
  ((try simp only [ic, cond_F]); simp only [cond_P, leI_t, leI_f, ltI_t, ltI_f, eqI_t, eqI_f, and_t, not_t, not_f, dec_t, dec_f, true_and, and_true, exists_const])
  refine ⟨fun h => day_bad fun v => by have := v.y0; omega, fun h1 => ⟨fun h => day_bad fun v => by have := v.y1; omega, fun h2 => ⟨fun h => day_bad fun v => by have := v.m0; omega, fun h3 => ⟨fun h => day_bad fun v => by have := v.m1; omega, fun h4 => ⟨fun h => day_bad fun v => by have := v.d0; omega, fun h5 => ⟨by omega, fun h => day_bad fun v => by have := v.d1; omega, fun h6 => ?_⟩⟩⟩⟩⟩⟩
  have hv : Valid y m d := ⟨h1, h2, h3, h4, h5, h6⟩
  have hl : 0 ≤ leaps (y - 1) ∧ leaps (y - 1) ≤ 10000 := by unfold leaps; omega
  have hlen := lenM_pos (leapB y) h3 h4
  have hyd : yd y = 365 * (y - 1970) + leaps (y - 1) - 477 := rfl
  refine ⟨by omega, by omega, by omega, by omega, by omega, by omega, by omega, by omega, by omega, ⟨0, by omega, rfl, ?_⟩, fun x hx => ⟨fun hlt => ⟨by omega, by omega, ?_, by omega, x + 1, by omega, by omega, by omega, ?_⟩, fun hge => ?_⟩⟩
  · unfold dysN
    rw [hyd, show ((0 : Nat) : Int) + 1 = 1 by rfl, cum_one]
    omega
  · have a := cum_nonneg (leapB y) (m := (x : Int) + 1) (by omega) (by omega)
    have b := cum_le (leapB y) (m := (x : Int) + 1) (by omega) (by omega)
    have c := lenM_pos (leapB y) (m := (x : Int) + 1) (by omega) (by omega)
    unfold dysN
    omega
  · unfold dysN
    rw [show ((x + 1 : Nat) : Int) + 1 = ((x : Int) + 1) + 1 by omega, cum_succ (leapB y) (m := (x : Int) + 1) (by omega) (by omega)]
    omega
  · rw [(day_good hv).1, (day_good hv).2]
    refine ⟨?_, rfl⟩
    unfold dysN dayN
    rw [show ((x : Nat) : Int) + 1 = m by omega]
    omega
theorem gDays_ok : EntryOk Tryd.prog 10 (flatE gDays) := by
  refine flatE_ok fun args b v hg hb => ?_
  unfold gDays at hg
  split at hg
  · rename_i y m d
    cases hg
    exact ⟨rfl, rfl, SC.one (V := VD2) names0 mixed0 TD2_ok noO_ok (days_vc y m d)⟩
  · cases hg
theorem TD3_ok : SpecOk Tryd.prog (tabS TD3 noS) := by
  refine tabS_ok (fun p hp => ?_) noS_ok
  simp only [TD3, List.mem_cons, List.mem_nil_iff, or_false] at hp
  rcases hp with rfl | rfl
  · exact gDays_ok
  · exact gBet_ok
theorem sec_bad {c : CV} (h : ¬ okS c = true) : 0 = secV c ∧ 2 = secE c := by
  unfold secV secE
  rw [if_neg h, if_neg h]; exact ⟨rfl, rfl⟩
theorem sec_good {c : CV} (h : okS c = true) : secV c = secN c ∧ secE c = 0 := by
  unfold secV secE
  rw [if_pos h, if_pos h]; exact ⟨rfl, rfl⟩
theorem dayE_iff {y m d : Int} : dayE y m d = 0 ↔ Valid y m d := by
  unfold dayE
  by_cases h : okD y m d = true
  · rw [if_pos h]; exact ⟨fun _ => okD_iff.1 h, fun _ => rfl⟩
  · rw [if_neg h]; exact ⟨(fun e => by cases e), fun v => absurd (okD_iff.2 v) h⟩
theorem bet_f {a b : Int} : (leI 0 a && ltI a b) = false ↔ ¬ (0 ≤ a ∧ a < b) := by
  rw [← Bool.not_eq_true, Bool.and_eq_true, leI_t, ltI_t]
theorem sec_vc (y m d h i s w : Int) : vSec y m d h i s w := by
  rw [vSec_eq]
  ((try simp only [ic, cond_F]); simp only [cond_P, leI_t, leI_f, ltI_t, ltI_f, eqI_t, eqI_f, and_t, not_t, not_f, dec_t, dec_f, true_and, and_true, exists_const])
  simp only [bet_f]
  refine ⟨fun e => sec_bad fun o => e (dayE_iff.2 (okS_iff.1 o).1), fun e => ?_⟩
  have hv := dayE_iff.1 e
  obtain ⟨r1, r2⟩ := day_range hv
  rw [(day_good hv).1]
  refine ⟨fun n1 => sec_bad fun o => n1 ⟨(okS_iff.1 o).2.1, (okS_iff.1 o).2.2.1⟩, fun p1 => ⟨fun n2 => sec_bad fun o => n2 ⟨(okS_iff.1 o).2.2.2.1, (okS_iff.1 o).2.2.2.2.1⟩, fun p2 => ⟨fun n3 => sec_bad fun o => n3 ⟨(okS_iff.1 o).2.2.2.2.2.1, (okS_iff.1 o).2.2.2.2.2.2.1⟩, fun p3 => ⟨by omega, by omega, fun n4 => sec_bad fun o => n4 (okS_iff.1 o).2.2.2.2.2.2.2, fun p4 => ?_⟩⟩⟩⟩
  have ho : okS ⟨y, m, d, h, i, s, w⟩ = true := okS_iff.2 ⟨hv, p1.1, p1.2, p2.1, p2.2, p3.1, p3.2, p4⟩
  rw [(sec_good ho).1, (sec_good ho).2]
  obtain ⟨p11, p12⟩ := p1
  obtain ⟨p21, p22⟩ := p2
  obtain ⟨p31, p32⟩ := p3
  exact ⟨by omega, by omega, by omega, by omega, by omega, by omega, rfl, rfl⟩
theorem gSec_ok : EntryOk Tryd.prog 7 (flatE gSec) := by
  refine flatE_ok fun args b v hg hb => ?_
  unfold gSec at hg
  split at hg
  · rename_i y m d h i s w
    cases hg
    exact ⟨rfl, rfl, SC.one (V := VD3) names0 mixed0 TD3_ok noO_ok (sec_vc y m d h i s w)⟩
  · cases hg
