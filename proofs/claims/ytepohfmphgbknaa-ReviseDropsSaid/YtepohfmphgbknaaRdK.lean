/- What a request asks for: totals. -/
import Derived.Test.YtepohfmphgbknaaRdI
import Derived.Test.YtepohfmphgbknaaShelf
import Derived.Test.YtepohfmphgbknaaSe
import Derived.Lib.IndexAny
set_option linter.unusedSimpArgs false
set_option linter.unusedVariables false
namespace Go.Proofs.Ytepohfmphgbknaa
open Go Go.Ve
set_option maxRecDepth 20000
def chs : Bs := [47, 63]
def gGET : Bs := [71, 69, 84]
/-- Where the first slash or question mark stands. -/
def ixA (s : Bs) : Int := Lib.indexAny s chs
def eIA : SpecE := fun args _ =>
  match args with
  | [.str s, .str t] => some (.needP (t = chs ∧ s.length < 4294967281 ∧ ∀ c ∈ s, c.toNat < 128) (.ok (.int .i64 (ixA s)) none))
  | _ => none
def eIB : SpecE := fun args _ =>
  match args with
  | [.str _, .int .u8 _] => some (.all Int (fun _ => True) fun x => .ok (.int .i64 x) none)
  | _ => none
noncomputable def TTg : List (Nat × SpecE) := [(19, ePort), (20, eSeen), (22, eIA), (21, eIB), (14, flatE gSame), (18, flatE (g1 le40 fun s => .str (lower s)))]
noncomputable def VTg : VE := ⟨Try.prog, tabS TTg noS, noO, fun _ => some ⟨[], [], []⟩⟩
abbrev TgX := Int × Bs × Bs × Int
def tgOk (s : Bs) (x : TgX) : Prop := x.2.1.length ≤ s.length ∧ x.2.2.1.length ≤ s.length + 1
def oTg (s : Bs) : List Out := [⟨TgX, fun x => .tuple [.agg [.int .i64 x.1, .str x.2.1, .str x.2.2.1], .int .i64 x.2.2.2], fun _ => [], fun x => tgOk s x, gcB⟩]

noncomputable def vTg  (s : Bs) : Prop := vcF VTg [] 60 [] [] 13 [.str gGET, .str s] [] (oTg s)
theorem vTg_eq  (s : Bs) : vTg s = (bif le40 s then ∀ (x : Int × Bool), True → bif ltI (7 : Int) (ic (List.length s)) then bif leI (7 : Int) (ic (List.length s)) then bif le40 (List.take (7 : Nat) s) && true then bif decide (lower (List.take (7 : Nat) s) = lower [(104 : UInt8), (116 : UInt8), (116 : UInt8), (112 : UInt8), (58 : UInt8), (47 : UInt8), (47 : UInt8)]) then bif leI (7 : Int) (ic (List.length s)) then ∀ (x : Bool), (x = true → s ≠ [] ∧ inkB s) → bif !x then ∃ (x : TgX), tgOk s x ∧ True ∧ ((((0 : Int) = x.fst ∧ ([] : List UInt8) = x.snd.fst ∧ ([] : List UInt8) = x.snd.snd.fst ∧ True) ∧ True) ∧ (400 : Int) = x.snd.snd.snd ∧ True) ∧ True else ∀ (x : Int), True → bif leI (0 : Int) x then ∃ (x : TgX), tgOk s x ∧ True ∧ ((((0 : Int) = x.fst ∧ ([] : List UInt8) = x.snd.fst ∧ ([] : List UInt8) = x.snd.snd.fst ∧ True) ∧ True) ∧ (400 : Int) = x.snd.snd.snd ∧ True) ∧ True else bif ltI (0 : Int) (ic (List.length s)) then bif eqI (byteAt s (0 : Nat)) (47 : Int) then ∃ (x : TgX), tgOk s x ∧ True ∧ ((((1 : Int) = x.fst ∧ ([] : List UInt8) = x.snd.fst ∧ s = x.snd.snd.fst ∧ True) ∧ True) ∧ (0 : Int) = x.snd.snd.snd ∧ True) ∧ True else bif !decide (List.drop (7 : Nat) s = []) then ([(47 : UInt8), (63 : UInt8)] = chs ∧ (List.drop (7 : Nat) s).length < (4294967281 : Nat) ∧ ∀ (c : UInt8), List.Mem c (List.drop (7 : Nat) s) → c.toNat < (128 : Nat)) ∧ bif ltI (ixA (List.drop (7 : Nat) s)) (0 : Int) then bif leI (ic (List.drop (7 : Nat) s).length) (ic (List.drop (7 : Nat) s).length) then bif leI (1 : Int) (ic (List.drop (List.drop (7 : Nat) s).length (List.drop (7 : Nat) s)).length) then bif leI (1 : Int) (ic (List.drop (List.drop (7 : Nat) s).length (List.drop (7 : Nat) s)).length) then bif !decide (List.take (1 : Nat) (List.drop (List.drop (7 : Nat) s).length (List.drop (7 : Nat) s)) = [(47 : UInt8)]) then bif decide ((1 : Nat) + (List.drop (List.drop (7 : Nat) s).length (List.drop (7 : Nat) s)).length ≤ (9223372036854775807 : Nat)) then bif leI (ic (List.drop (7 : Nat) s).length) (ic (List.drop (7 : Nat) s).length) then bif le40 (List.take (List.drop (7 : Nat) s).length (List.drop (7 : Nat) s)) then ∀ (x : Int × Bool), True → bif x.snd then bif leI (ic (List.drop (7 : Nat) s).length) (ic (List.drop (7 : Nat) s).length) then bif le40 (List.take (List.drop (7 : Nat) s).length (List.drop (7 : Nat) s)) then ∃ (x : TgX), tgOk s x ∧ True ∧ ((((2 : Int) = x.fst ∧ lower (List.take (List.drop (7 : Nat) s).length (List.drop (7 : Nat) s)) = x.snd.fst ∧ [(47 : UInt8)] ++ List.drop (List.drop (7 : Nat) s).length (List.drop (7 : Nat) s) = x.snd.snd.fst ∧ True) ∧ True) ∧ (0 : Int) = x.snd.snd.snd ∧ True) ∧ True else False else False else ∃ (x : TgX), tgOk s x ∧ True ∧ ((((0 : Int) = x.fst ∧ ([] : List UInt8) = x.snd.fst ∧ ([] : List UInt8) = x.snd.snd.fst ∧ True) ∧ True) ∧ (400 : Int) = x.snd.snd.snd ∧ True) ∧ True else False else False else False else bif leI (ic (List.drop (7 : Nat) s).length) (ic (List.drop (7 : Nat) s).length) then bif le40 (List.take (List.drop (7 : Nat) s).length (List.drop (7 : Nat) s)) then ∀ (x : Int × Bool), True → bif x.snd then bif leI (ic (List.drop (7 : Nat) s).length) (ic (List.drop (7 : Nat) s).length) then bif le40 (List.take (List.drop (7 : Nat) s).length (List.drop (7 : Nat) s)) then ∃ (x : TgX), tgOk s x ∧ True ∧ ((((2 : Int) = x.fst ∧ lower (List.take (List.drop (7 : Nat) s).length (List.drop (7 : Nat) s)) = x.snd.fst ∧ List.drop (List.drop (7 : Nat) s).length (List.drop (7 : Nat) s) = x.snd.snd.fst ∧ True) ∧ True) ∧ (0 : Int) = x.snd.snd.snd ∧ True) ∧ True else False else False else ∃ (x : TgX), tgOk s x ∧ True ∧ ((((0 : Int) = x.fst ∧ ([] : List UInt8) = x.snd.fst ∧ ([] : List UInt8) = x.snd.snd.fst ∧ True) ∧ True) ∧ (400 : Int) = x.snd.snd.snd ∧ True) ∧ True else False else False else False else bif decide ((1 : Nat) + (List.drop (List.drop (7 : Nat) s).length (List.drop (7 : Nat) s)).length ≤ (9223372036854775807 : Nat)) then bif leI (ic (List.drop (7 : Nat) s).length) (ic (List.drop (7 : Nat) s).length) then bif le40 (List.take (List.drop (7 : Nat) s).length (List.drop (7 : Nat) s)) then ∀ (x : Int × Bool), True → bif x.snd then bif leI (ic (List.drop (7 : Nat) s).length) (ic (List.drop (7 : Nat) s).length) then bif le40 (List.take (List.drop (7 : Nat) s).length (List.drop (7 : Nat) s)) then ∃ (x : TgX), tgOk s x ∧ True ∧ ((((2 : Int) = x.fst ∧ lower (List.take (List.drop (7 : Nat) s).length (List.drop (7 : Nat) s)) = x.snd.fst ∧ [(47 : UInt8)] ++ List.drop (List.drop (7 : Nat) s).length (List.drop (7 : Nat) s) = x.snd.snd.fst ∧ True) ∧ True) ∧ (0 : Int) = x.snd.snd.snd ∧ True) ∧ True else False else False else ∃ (x : TgX), tgOk s x ∧ True ∧ ((((0 : Int) = x.fst ∧ ([] : List UInt8) = x.snd.fst ∧ ([] : List UInt8) = x.snd.snd.fst ∧ True) ∧ True) ∧ (400 : Int) = x.snd.snd.snd ∧ True) ∧ True else False else False else False else False else bif leI (0 : Int) (ixA (List.drop (7 : Nat) s)) && leI (ixA (List.drop (7 : Nat) s)) (ic (List.drop (7 : Nat) s).length) then bif leI (1 : Int) (ic (List.drop (ixA (List.drop (7 : Nat) s)).toNat (List.drop (7 : Nat) s)).length) then bif leI (1 : Int) (ic (List.drop (ixA (List.drop (7 : Nat) s)).toNat (List.drop (7 : Nat) s)).length) then bif !decide (List.take (1 : Nat) (List.drop (ixA (List.drop (7 : Nat) s)).toNat (List.drop (7 : Nat) s)) = [(47 : UInt8)]) then bif decide ((1 : Nat) + (List.drop (ixA (List.drop (7 : Nat) s)).toNat (List.drop (7 : Nat) s)).length ≤ (9223372036854775807 : Nat)) then bif leI (0 : Int) (ixA (List.drop (7 : Nat) s)) && leI (ixA (List.drop (7 : Nat) s)) (ic (List.drop (7 : Nat) s).length) then bif le40 (List.take (ixA (List.drop (7 : Nat) s)).toNat (List.drop (7 : Nat) s)) then ∀ (x : Int × Bool), True → bif x.snd then bif leI (0 : Int) (ixA (List.drop (7 : Nat) s)) && leI (ixA (List.drop (7 : Nat) s)) (ic (List.drop (7 : Nat) s).length) then bif le40 (List.take (ixA (List.drop (7 : Nat) s)).toNat (List.drop (7 : Nat) s)) then ∃ (x : TgX), tgOk s x ∧ True ∧ ((((2 : Int) = x.fst ∧ lower (List.take (ixA (List.drop (7 : Nat) s)).toNat (List.drop (7 : Nat) s)) = x.snd.fst ∧ [(47 : UInt8)] ++ List.drop (ixA (List.drop (7 : Nat) s)).toNat (List.drop (7 : Nat) s) = x.snd.snd.fst ∧ True) ∧ True) ∧ (0 : Int) = x.snd.snd.snd ∧ True) ∧ True else False else False else ∃ (x : TgX), tgOk s x ∧ True ∧ ((((0 : Int) = x.fst ∧ ([] : List UInt8) = x.snd.fst ∧ ([] : List UInt8) = x.snd.snd.fst ∧ True) ∧ True) ∧ (400 : Int) = x.snd.snd.snd ∧ True) ∧ True else False else False else False else bif leI (0 : Int) (ixA (List.drop (7 : Nat) s)) && leI (ixA (List.drop (7 : Nat) s)) (ic (List.drop (7 : Nat) s).length) then bif le40 (List.take (ixA (List.drop (7 : Nat) s)).toNat (List.drop (7 : Nat) s)) then ∀ (x : Int × Bool), True → bif x.snd then bif leI (0 : Int) (ixA (List.drop (7 : Nat) s)) && leI (ixA (List.drop (7 : Nat) s)) (ic (List.drop (7 : Nat) s).length) then bif le40 (List.take (ixA (List.drop (7 : Nat) s)).toNat (List.drop (7 : Nat) s)) then ∃ (x : TgX), tgOk s x ∧ True ∧ ((((2 : Int) = x.fst ∧ lower (List.take (ixA (List.drop (7 : Nat) s)).toNat (List.drop (7 : Nat) s)) = x.snd.fst ∧ List.drop (ixA (List.drop (7 : Nat) s)).toNat (List.drop (7 : Nat) s) = x.snd.snd.fst ∧ True) ∧ True) ∧ (0 : Int) = x.snd.snd.snd ∧ True) ∧ True else False else False else ∃ (x : TgX), tgOk s x ∧ True ∧ ((((0 : Int) = x.fst ∧ ([] : List UInt8) = x.snd.fst ∧ ([] : List UInt8) = x.snd.snd.fst ∧ True) ∧ True) ∧ (400 : Int) = x.snd.snd.snd ∧ True) ∧ True else False else False else False else bif decide ((1 : Nat) + (List.drop (ixA (List.drop (7 : Nat) s)).toNat (List.drop (7 : Nat) s)).length ≤ (9223372036854775807 : Nat)) then bif leI (0 : Int) (ixA (List.drop (7 : Nat) s)) && leI (ixA (List.drop (7 : Nat) s)) (ic (List.drop (7 : Nat) s).length) then bif le40 (List.take (ixA (List.drop (7 : Nat) s)).toNat (List.drop (7 : Nat) s)) then ∀ (x : Int × Bool), True → bif x.snd then bif leI (0 : Int) (ixA (List.drop (7 : Nat) s)) && leI (ixA (List.drop (7 : Nat) s)) (ic (List.drop (7 : Nat) s).length) then bif le40 (List.take (ixA (List.drop (7 : Nat) s)).toNat (List.drop (7 : Nat) s)) then ∃ (x : TgX), tgOk s x ∧ True ∧ ((((2 : Int) = x.fst ∧ lower (List.take (ixA (List.drop (7 : Nat) s)).toNat (List.drop (7 : Nat) s)) = x.snd.fst ∧ [(47 : UInt8)] ++ List.drop (ixA (List.drop (7 : Nat) s)).toNat (List.drop (7 : Nat) s) = x.snd.snd.fst ∧ True) ∧ True) ∧ (0 : Int) = x.snd.snd.snd ∧ True) ∧ True else False else False else ∃ (x : TgX), tgOk s x ∧ True ∧ ((((0 : Int) = x.fst ∧ ([] : List UInt8) = x.snd.fst ∧ ([] : List UInt8) = x.snd.snd.fst ∧ True) ∧ True) ∧ (400 : Int) = x.snd.snd.snd ∧ True) ∧ True else False else False else False else False else ∃ (x : TgX), tgOk s x ∧ True ∧ ((((0 : Int) = x.fst ∧ ([] : List UInt8) = x.snd.fst ∧ ([] : List UInt8) = x.snd.snd.fst ∧ True) ∧ True) ∧ (400 : Int) = x.snd.snd.snd ∧ True) ∧ True else False else False else ∀ (x : Bool), (x = true → s ≠ [] ∧ inkB s) → bif !x then ∃ (x : TgX), tgOk s x ∧ True ∧ ((((0 : Int) = x.fst ∧ ([] : List UInt8) = x.snd.fst ∧ ([] : List UInt8) = x.snd.snd.fst ∧ True) ∧ True) ∧ (400 : Int) = x.snd.snd.snd ∧ True) ∧ True else ∀ (x : Int), True → bif leI (0 : Int) x then ∃ (x : TgX), tgOk s x ∧ True ∧ ((((0 : Int) = x.fst ∧ ([] : List UInt8) = x.snd.fst ∧ ([] : List UInt8) = x.snd.snd.fst ∧ True) ∧ True) ∧ (400 : Int) = x.snd.snd.snd ∧ True) ∧ True else bif ltI (0 : Int) (ic (List.length s)) then bif eqI (byteAt s (0 : Nat)) (47 : Int) then ∃ (x : TgX), tgOk s x ∧ True ∧ ((((1 : Int) = x.fst ∧ ([] : List UInt8) = x.snd.fst ∧ s = x.snd.snd.fst ∧ True) ∧ True) ∧ (0 : Int) = x.snd.snd.snd ∧ True) ∧ True else ∃ (x : TgX), tgOk s x ∧ True ∧ ((((0 : Int) = x.fst ∧ ([] : List UInt8) = x.snd.fst ∧ ([] : List UInt8) = x.snd.snd.fst ∧ True) ∧ True) ∧ (400 : Int) = x.snd.snd.snd ∧ True) ∧ True else False else False else False else ∀ (x : Bool), (x = true → s ≠ [] ∧ inkB s) → bif !x then ∃ (x : TgX), tgOk s x ∧ True ∧ ((((0 : Int) = x.fst ∧ ([] : List UInt8) = x.snd.fst ∧ ([] : List UInt8) = x.snd.snd.fst ∧ True) ∧ True) ∧ (400 : Int) = x.snd.snd.snd ∧ True) ∧ True else ∀ (x : Int), True → bif leI (0 : Int) x then ∃ (x : TgX), tgOk s x ∧ True ∧ ((((0 : Int) = x.fst ∧ ([] : List UInt8) = x.snd.fst ∧ ([] : List UInt8) = x.snd.snd.fst ∧ True) ∧ True) ∧ (400 : Int) = x.snd.snd.snd ∧ True) ∧ True else bif ltI (0 : Int) (ic (List.length s)) then bif eqI (byteAt s (0 : Nat)) (47 : Int) then ∃ (x : TgX), tgOk s x ∧ True ∧ ((((1 : Int) = x.fst ∧ ([] : List UInt8) = x.snd.fst ∧ s = x.snd.snd.fst ∧ True) ∧ True) ∧ (0 : Int) = x.snd.snd.snd ∧ True) ∧ True else ∃ (x : TgX), tgOk s x ∧ True ∧ ((((0 : Int) = x.fst ∧ ([] : List UInt8) = x.snd.fst ∧ ([] : List UInt8) = x.snd.snd.fst ∧ True) ∧ True) ∧ (400 : Int) = x.snd.snd.snd ∧ True) ∧ True else False else False) := by kernel_rfl
theorem ixA_le : ∀ s : Bs, ixA s ≤ s.length
  | [] => by show (-1 : Int) ≤ _; decide
  | b :: l => by
    have ih : Lib.indexAny l chs ≤ (l.length : Int) := ixA_le l
    show Lib.indexAny (b :: l) chs ≤ ((l.length + 1 : Nat) : Int)
    unfold Lib.indexAny
    split
    · omega
    · split <;> omega
theorem ix_in {t : Bs} (h : ltI (ixA t) 0 = false) : (leI 0 (ixA t) && leI (ixA t) (ic t.length)) = true := by
  rw [ltI_f] at h
  have h1 : leI 0 (ixA t) = true := by rw [leI_t]; exact h
  have h2 : leI (ixA t) (ic t.length) = true := by rw [leI_t]; exact ixA_le t
  rw [h1, h2]; rfl
theorem lt_le {a b : Int} (h : ltI a b = true) : leI a b = true := by rw [ltI_t] at h; rw [leI_t]; omega
theorem pos_of {x : Bool} {s : Bs} (h : x = true → s ≠ [] ∧ inkB s) (k : (!x) = false) : ltI 0 (ic s.length) = true := by
  have hx : x = true := by cases x with | true => rfl | false => cases k
  rw [ltI_t]
  cases s with
  | nil => exact absurd rfl (h hx).1
  | cons a r => show (0 : Int) < ((r.length + 1 : Nat) : Int); omega
theorem asc_of {x : Bool} {s : Bs} (h : x = true → s ≠ [] ∧ inkB s) (k : (!x) = false) (a : Nat) : ∀ c ∈ s.drop a, c.toNat < 128 := fun c hc => by
  have hx : x = true := by cases x with | true => rfl | false => cases k
  have := (h hx).2 c (List.mem_of_mem_drop hc)
  omega
theorem tg_ok {s : Bs} {x : TgX} (h1 : x.2.1.length ≤ s.length) (h2 : x.2.2.1.length ≤ s.length + 1) : tgOk s x := ⟨h1, h2⟩
theorem lf {s h p : Bs} {f st : Int} (hh : h.length ≤ s.length) (hp : p.length ≤ s.length + 1) : (∃ (x : TgX), tgOk s x ∧ True ∧ (((f = x.fst ∧ h = x.snd.fst ∧ p = x.snd.snd.fst ∧ True) ∧ True) ∧ st = x.snd.snd.snd ∧ True) ∧ True) := ⟨(f, h, p, st), ⟨hh, hp⟩, trivial, ⟨⟨⟨rfl, rfl, rfl, trivial⟩, trivial⟩, rfl, trivial⟩, trivial⟩
theorem lf0 {s : Bs} : (∃ (x : TgX), tgOk s x ∧ True ∧ ((((0 : Int) = x.fst ∧ ([] : List UInt8) = x.snd.fst ∧ ([] : List UInt8) = x.snd.snd.fst ∧ True) ∧ True) ∧ (400 : Int) = x.snd.snd.snd ∧ True) ∧ True) := lf (Nat.zero_le _) (Nat.zero_le _)
theorem le_dec {s : Bs} (h : s.length ≤ 1099511627776) : le40 s = true := decide_eq_true h
theorem host_ok {s t path : Bs} {k : Nat} {C : Bool} (hC : C = true) (hs : s.length ≤ 1073741824) (ht : t.length ≤ s.length) (h2 : path.length ≤ s.length + 1) : (bif C then bif le40 (List.take k t) then ∀ (x : Int × Bool), True → bif x.snd then bif C then bif le40 (List.take k t) then (∃ (x : TgX), tgOk s x ∧ True ∧ ((((2 : Int) = x.fst ∧ lower (List.take k t) = x.snd.fst ∧ path = x.snd.snd.fst ∧ True) ∧ True) ∧ (0 : Int) = x.snd.snd.snd ∧ True) ∧ True) else False else False else (∃ (x : TgX), tgOk s x ∧ True ∧ ((((0 : Int) = x.fst ∧ ([] : List UInt8) = x.snd.fst ∧ ([] : List UInt8) = x.snd.snd.fst ∧ True) ∧ True) ∧ (400 : Int) = x.snd.snd.snd ∧ True) ∧ True) else False else False) := by
  have hk : (List.take k t).length ≤ s.length := by rw [List.length_take]; omega
  have h40 : le40 (List.take k t) = true := le_dec (by omega)
  have h1 : (lower (List.take k t)).length ≤ s.length := by unfold lower; rw [List.length_map]; exact hk
  exact need_intro hC (need_intro h40 fun x _ => cond_intro (fun _ => need_intro hC (need_intro h40 (lf h1 h2))) fun _ => lf0)
theorem path_ok {s t : Bs} {k : Nat} {C : Bool} (hC : C = true) (hs : s.length ≤ 1073741824) (ht : t.length ≤ s.length) : (bif leI 1 (ic (List.drop k t).length) then bif leI 1 (ic (List.drop k t).length) then bif !decide (List.take 1 (List.drop k t) = [47]) then (bif decide (1 + (List.drop k t).length ≤ 9223372036854775807) then (bif C then bif le40 (List.take k t) then ∀ (x : Int × Bool), True → bif x.snd then bif C then bif le40 (List.take k t) then (∃ (x : TgX), tgOk s x ∧ True ∧ ((((2 : Int) = x.fst ∧ lower (List.take k t) = x.snd.fst ∧ [47] ++ List.drop k t = x.snd.snd.fst ∧ True) ∧ True) ∧ (0 : Int) = x.snd.snd.snd ∧ True) ∧ True) else False else False else (∃ (x : TgX), tgOk s x ∧ True ∧ ((((0 : Int) = x.fst ∧ ([] : List UInt8) = x.snd.fst ∧ ([] : List UInt8) = x.snd.snd.fst ∧ True) ∧ True) ∧ (400 : Int) = x.snd.snd.snd ∧ True) ∧ True) else False else False) else False) else (bif C then bif le40 (List.take k t) then ∀ (x : Int × Bool), True → bif x.snd then bif C then bif le40 (List.take k t) then (∃ (x : TgX), tgOk s x ∧ True ∧ ((((2 : Int) = x.fst ∧ lower (List.take k t) = x.snd.fst ∧ List.drop k t = x.snd.snd.fst ∧ True) ∧ True) ∧ (0 : Int) = x.snd.snd.snd ∧ True) ∧ True) else False else False else (∃ (x : TgX), tgOk s x ∧ True ∧ ((((0 : Int) = x.fst ∧ ([] : List UInt8) = x.snd.fst ∧ ([] : List UInt8) = x.snd.snd.fst ∧ True) ∧ True) ∧ (400 : Int) = x.snd.snd.snd ∧ True) ∧ True) else False else False) else False else (bif decide (1 + (List.drop k t).length ≤ 9223372036854775807) then (bif C then bif le40 (List.take k t) then ∀ (x : Int × Bool), True → bif x.snd then bif C then bif le40 (List.take k t) then (∃ (x : TgX), tgOk s x ∧ True ∧ ((((2 : Int) = x.fst ∧ lower (List.take k t) = x.snd.fst ∧ [47] ++ List.drop k t = x.snd.snd.fst ∧ True) ∧ True) ∧ (0 : Int) = x.snd.snd.snd ∧ True) ∧ True) else False else False else (∃ (x : TgX), tgOk s x ∧ True ∧ ((((0 : Int) = x.fst ∧ ([] : List UInt8) = x.snd.fst ∧ ([] : List UInt8) = x.snd.snd.fst ∧ True) ∧ True) ∧ (400 : Int) = x.snd.snd.snd ∧ True) ∧ True) else False else False) else False)) := by
  have hd : (List.drop k t).length ≤ s.length := by rw [List.length_drop]; omega
  have y1 : (bif decide (1 + (List.drop k t).length ≤ 9223372036854775807) then (bif C then bif le40 (List.take k t) then ∀ (x : Int × Bool), True → bif x.snd then bif C then bif le40 (List.take k t) then (∃ (x : TgX), tgOk s x ∧ True ∧ ((((2 : Int) = x.fst ∧ lower (List.take k t) = x.snd.fst ∧ [47] ++ List.drop k t = x.snd.snd.fst ∧ True) ∧ True) ∧ (0 : Int) = x.snd.snd.snd ∧ True) ∧ True) else False else False else (∃ (x : TgX), tgOk s x ∧ True ∧ ((((0 : Int) = x.fst ∧ ([] : List UInt8) = x.snd.fst ∧ ([] : List UInt8) = x.snd.snd.fst ∧ True) ∧ True) ∧ (400 : Int) = x.snd.snd.snd ∧ True) ∧ True) else False else False) else False) := need_intro (decide_eq_true (by omega)) (host_ok hC hs ht (by show (List.drop k t).length + 1 ≤ _; omega))
  exact cond_intro (fun c => need_intro c (cond_intro (fun _ => y1) fun _ => host_ok hC hs ht (by omega))) fun _ => y1
theorem tg_vc (s : Bs) (hs : s.length ≤ 1073741824) : vTg s := by
  rw [vTg_eq]
  have ht : (List.drop 7 s).length ≤ s.length := by rw [List.length_drop]; omega
  have h7 : (le40 (List.take 7 s) && true) = true := by rw [Bool.and_true]; exact le_dec (by rw [List.length_take]; omega)
  refine need_intro (le_dec (by omega)) fun x _ => cond_intro (fun k => need_intro (lt_le k) (need_intro h7 (cond_intro (fun _ => need_intro (lt_le k) fun b hb => cond_intro (fun _ => lf0) fun nb => fun y _ => cond_intro (fun _ => lf0) fun _ => need_intro (pos_of hb nb) (cond_intro (fun _ => lf (Nat.zero_le _) (Nat.le_succ _)) fun _ => cond_intro (fun _ => ⟨⟨rfl, by omega, asc_of hb nb 7⟩, cond_intro (fun _ => need_intro (leI_in (Nat.le_refl _)) (path_ok (leI_in (Nat.le_refl _)) hs ht)) fun c => need_intro (ix_in c) (path_ok (ix_in c) hs ht)⟩) fun _ => lf0)) fun _ => ?_))) fun _ => ?_
  · exact fun b hb => cond_intro (fun _ => lf0) fun nb => fun y _ => cond_intro (fun _ => lf0) fun _ => need_intro (pos_of hb nb) (cond_intro (fun _ => lf (Nat.zero_le _) (Nat.le_succ _)) fun _ => lf0)
  · exact fun b hb => cond_intro (fun _ => lf0) fun nb => fun y _ => cond_intro (fun _ => lf0) fun _ => need_intro (pos_of hb nb) (cond_intro (fun _ => lf (Nat.zero_le _) (Nat.le_succ _)) fun _ => lf0)
theorem below_eq {B : Nat} {w w' : World} (h : w' = w) : Go.RowKit.Below B w w' := by subst h; exact Go.RowKit.Below.refl _ _
theorem eIA_ok : EntryOk Try.prog 22 eIA := by
  intro args H sr hs K hk
  unfold eIA at hs
  split at hs
  · rename_i s t
    cases hs
    obtain ⟨⟨rfl, h1, h2⟩, hk2⟩ := hk
    refine (SC.under (v := .int .i64 (ixA s)) ?_).mono ?_
    · intro w0 φ w us hr ha
      obtain ⟨us⟩ := us
      cases ha with | cons h3 h4 => cases h3; cases h4 with | cons h5 h6 => cases h5; cases h6; (
        refine (Try.strings_IndexAny_laid ⟨⟨s⟩⟩ ⟨⟨chs⟩⟩ w (by show s.length < _; exact h1) (by decide) (fun j b hj => h2 b (List.mem_of_getElem? hj)) (fun j b hj => ?_)).mono ?_
        · have := List.mem_of_getElem? hj
          simp only [chs, List.mem_cons, List.mem_nil_iff, or_false] at this
          rcases this with rfl | rfl <;> decide
        · rintro e w' ⟨rfl, hb⟩
          exact ⟨_, rfl, .int _ _, hb⟩)
    · rintro v H' ⟨rfl, rfl⟩; exact ⟨none, hk2, rfl⟩
  · cases hs
theorem eIB_ok : EntryOk Try.prog 21 eIB := by
  intro args H sr hs K hk
  unfold eIB at hs
  split at hs
  · rename_i s c
    cases hs
    refine (SC.under (v := .int .i64 (Lib.indexByte s c.toNat.toUInt8)) ?_).mono ?_
    · intro w0 φ w us hr ha
      obtain ⟨us⟩ := us
      cases ha with | cons h3 h4 => cases h3; cases h4 with | cons h5 h6 => cases h5; cases h6; (
        refine (Try.strings_IndexByte ⟨⟨s⟩⟩ c w).mono ?_
        rintro e w' ⟨rfl, hw⟩
        exact ⟨_, rfl, .int _ _, below_eq hw⟩)
    · rintro v H' ⟨rfl, rfl⟩; exact ⟨none, hk _ trivial, rfl⟩
  · cases hs
