/- What the queue of timers does: Set, Cancel, At, Next, Due. -/
import Derived.Test.YtainjcpocodehaaTmB
import Derived.Test.YtainjcpocodehaaTmR
set_option linter.unusedSimpArgs false
set_option linter.unusedVariables false
namespace Go.Proofs.Ytainjcpocodehaa
open Go Go.Ve
set_option maxRecDepth 20000
noncomputable def eD : Nat := btag Try.prog 90 2
noncomputable def eI : Nat := btag Try.prog 3 1
def eRm : SpecE := fun args H =>
  match args with
  | [.ptr b 0, .int .i64 i] =>
    match qOf H b with
    | some ⟨most, hb, k, c, mb, eq, cs, eh, es⟩ => some (.need (nd3 b hb mb) (.needP (QR cs k es ∧ 0 ≤ i ∧ k ≤ c ∧ RmPre (hOf cs k) (getM es) i.toNat)
        (.all (TL × MP) (fun x => RmPost (hOf cs k) i.toNat x.1 x.2) fun x => .ok (tmA (pk (hOf cs k) i.toNat)) (some (putL [b, hb, mb] [qB most hb (k - 1) c mb eq, .cells (tC (x.1 ++ (pk (hOf cs k) (k - 1) :: gOf cs k))) eh false, .map (emap x.2) false] H)))))
    | none => none
  | _ => none
noncomputable def TSt : List (Nat × SpecE) := [(65, flatE gOrd), (61, eUp), (60, eRm)]
noncomputable def VSt : VE := ⟨Try.prog, tabS TSt noS, noO, fun _ => none⟩
noncomputable def aSt (h : TL) (m : MP) (n at_ : Int) (most : Int) (c eq : Nat) : Anns := [
  (7000010, [.mk (TL × TL × MP) (fun _ => []) (fun x => some [qB most 1 x.1.length c 2 eq, .cells (tC (x.1 ++ x.2.1)) eD false, .map (emap x.2.2) false]) (fun x => SetMid h m n most c x.1 x.2.1 x.2.2) (fun _ => 0) gcB gcB (fun _ => [])
    (fun x => [(7000011, [
      .mk Unit (fun _ => []) (fun _ => some [qB most 1 (x.1.length + 1) c 2 eq, .cells (tC ((x.1 ++ [(n, at_)]) ++ x.2.1.drop 1)) eD false, keepB]) (fun _ => x.1.length < c) (fun _ => 0) gcB gcB (fun _ => []) (fun _ => []),
      .mk Unit (fun _ => []) (fun _ => some [qB most 3 (x.1.length + 1) (x.1.length + 1) 2 eq, .dead, keepB, .cells (tC ((x.1 ++ [(n, at_)]) ++ [])) eD false]) (fun _ => ¬ x.1.length < c) (fun _ => 0) (some [999997, 0]) (some [999997, 0]) (fun _ => []) (fun _ => [])])])])]
noncomputable def aStN (n at_ : Int) (most : Int) (eq : Nat) : Anns := [
  (7000011, [.mk Unit (fun _ => []) (fun _ => some [qB most 2 1 1 1 eq, .map [] false, .cells (tC ([(n, at_)] ++ [])) eD false]) (fun _ => True) (fun _ => 0) (some [999997, 0]) (some [999997, 0]) (fun _ => []) (fun _ => [])])]
noncomputable def aDu (h g : TL) (m : MP) (most : Int) (c eq : Nat) (now : Int) : Anns := [(3, [
  .mk Unit (fun _ => [(4, .nilsl)]) (fun _ => some [qB most 1 h.length c 2 eq, .cells (tC (h ++ g)) eD false, .map (emap m) false]) (fun _ => True) (fun _ => h.length) gcB gcB (fun _ => [(20, .int .i64 (pk h 0).2)]) (fun _ => []),
  .mk (TL × TL × MP × TL) (fun x => [(4, .sl 3 0 x.2.2.2.length x.2.2.2.length false)]) (fun x => some [qB most 1 x.1.length c 2 eq, .cells (tC (x.1 ++ x.2.1)) eD false, .map (emap x.2.2.1) false, .cells (nC x.2.2.2) eI false]) (fun x => DueI h c now x.1 x.2.1 x.2.2.1 x.2.2.2) (fun x => x.1.length) gcB gcB (fun x => [(20, .int .i64 (pk x.1 0).2)]) (fun _ => [])])]

noncomputable def vSt  (h g : TL) (m : MP) (n at_ : Int) (most : Int) (c eq : Nat) : Prop := vcF VSt [] 60 (aSt h m n at_ most c eq) [] 36 [.ptr 0 0, .int .i64 n, .int .i64 at_] (qH most h.length c eq (h ++ g) eD m) [⟨Unit, fun _ => .int .i64 (setE most (srt h) n at_), fun _ => qH most h.length c eq (h ++ g) eD m, fun _ => setE most (srt h) n at_ ≠ 0, gcB⟩, ⟨TL × TL × MP, fun _ => .int .i64 0, fun x => qH most x.1.length c eq (x.1 ++ x.2.1) eD x.2.2, fun x => setE most (srt h) n at_ = 0 ∧ setIn h m n c = true ∧ SetPost h n at_ x.1 x.2.2 ∧ x.1.length + x.2.1.length = c ∧ (x.1.length : Int) ≤ most, gcB⟩, ⟨TL × MP, fun _ => .int .i64 0, fun x => [qB most 3 x.1.length x.1.length 2 eq, .dead, .map (emap x.2) false, .cells (tC (x.1 ++ [])) eD false], fun x => setE most (srt h) n at_ = 0 ∧ setIn h m n c = false ∧ SetPost h n at_ x.1 x.2 ∧ (x.1.length : Int) ≤ most, some [999997, 0]⟩]
noncomputable def vStN  (n at_ : Int) (most : Int) (eq : Nat) : Prop := vcF VSt [] 60 (aStN n at_ most eq) [] 36 [.ptr 0 0, .int .i64 n, .int .i64 at_] [.cells [.int .i64 most, .nilsl, .map 1] eq false, .map [] false] [⟨Unit, fun _ => .int .i64 (setE most [] n at_), fun _ => [.cells [.int .i64 most, .nilsl, .map 1] eq false, .map [] false], fun _ => setE most [] n at_ ≠ 0, gcB⟩, ⟨TL × MP, fun _ => .int .i64 0, fun x => [qB most 2 1 1 1 eq, .map (emap x.2) false, .cells (tC (x.1 ++ [])) eD false], fun x => setE most [] n at_ = 0 ∧ SetPost [] n at_ x.1 x.2 ∧ x.1.length = 1 ∧ 1 ≤ most, some [999997, 0]⟩]
noncomputable def vCa  (h g : TL) (m : MP) (n : Int) (most : Int) (c eq : Nat) : Prop := vcF VSt [] 60 [] [] 42 [.ptr 0 0, .int .i64 n] (qH most h.length c eq (h ++ g) eD m) [⟨Unit, fun _ => .int .i64 5, fun _ => qH most h.length c eq (h ++ g) eD m, fun _ => tmOf n (srt h) = none, gcB⟩, ⟨TL × TL × MP, fun _ => .int .i64 0, fun x => qH most (h.length - 1) c eq (x.1 ++ x.2.1) eD x.2.2, fun x => (tmOf n (srt h)).isSome = true ∧ CanPost h n x.1 x.2.2 ∧ x.1.length = h.length - 1 ∧ x.1.length + x.2.1.length = c, gcB⟩]
noncomputable def vAt  (h g : TL) (m : MP) (n : Int) (most : Int) (c eq : Nat) : Prop := vcF VSt [] 60 [] [(28, .int .i64 (pk h ((mget n m).getD 0).toNat).2)] 40 [.ptr 0 0, .int .i64 n] (qH most h.length c eq (h ++ g) eD m) [⟨Unit, fun _ => .tuple [.int .i64 (atV n (srt h)), .int .i64 (atE n (srt h))], fun _ => qH most h.length c eq (h ++ g) eD m, fun _ => True, gcB⟩]
noncomputable def vNx  (h g : TL) (m : MP) (most : Int) (c eq : Nat) : Prop := vcF VSt [] 60 [] [(21, .int .i64 (pk h 0).1), (28, .int .i64 (pk h 0).2)] 37 [.ptr 0 0] (qH most h.length c eq (h ++ g) eD m) [⟨Unit, fun _ => .tuple [.int .i64 (nxN (srt h)), .int .i64 (nxT (srt h)), .int .i64 (nxE (srt h))], fun _ => qH most h.length c eq (h ++ g) eD m, fun _ => True, gcB⟩]
noncomputable def vDu  (h g : TL) (m : MP) (now : Int) (most : Int) (c eq : Nat) : Prop := vcF VSt [] 60 (aDu h g m most c eq now) [] 39 [.ptr 0 0, .int .i64 now] (qH most h.length c eq (h ++ g) eD m) [⟨Unit, fun _ => .nilsl, fun _ => qH most h.length c eq (h ++ g) eD m, fun _ => dueL now (srt h) = [], gcB⟩, ⟨TL × TL × MP, fun _ => .sl 3 0 (dueL now (srt h)).length (dueL now (srt h)).length false, fun x => [qB most 1 x.1.length c 2 eq, .cells (tC (x.1 ++ x.2.1)) eD false, .map (emap x.2.2) false, .cells (nC (dueL now (srt h))) eI false], fun x => dueL now (srt h) ≠ [] ∧ DuePost h now x.1 x.2.2 ∧ x.1.length + x.2.1.length = c, gcB⟩]
def gqTmC0 : Nat → Nat := (fun (b : Nat) => [0, 1, 2].getD b 3)
def gqTmC1 : Nat → Nat := (fun (b : Nat) => [0, 1, 2].getD b 4)
def gqTmC2 : Nat → Nat := (fun (b : Nat) => [0, 1, 2].getD b 5)
def gqTmC3 : Nat → Nat := (fun (b : Nat) => [0, 1, 2, 3].getD b 4)
theorem vSt_eq  (h g : TL) (m : MP) (n at_ : Int) (most : Int) (c eq : Nat) : vSt h g m n at_ most c eq = (bif ltI n (0 : Int) then (∃ (_x : Unit), setE most (srt h) n at_ ≠ (0 : Int) ∧ ((bif eq.beq eq && true then (most = most ∧ (0 = 0 ∧ List.length h = List.length h ∧ c = c ∧ false = false) ∧ True ∧ True) ∧ True else False) ∧ (cellsP gqTmC0 (tC (h ++ g)) (tC (h ++ g)) ∧ True) ∧ (entsP gqTmC0 (emap m) (emap m) ∧ True) ∧ True) ∧ (2 : Int) = setE most (srt h) n at_ ∧ True) ∨ (∃ (x : TL × TL × MP), (setE most (srt h) n at_ = (0 : Int) ∧ setIn h m n c = true ∧ SetPost h n at_ x.fst x.snd.snd ∧ List.length x.fst + List.length x.snd.fst = c ∧ ic (List.length x.fst) ≤ most) ∧ ((bif eq.beq eq && true then (most = most ∧ (0 = 0 ∧ List.length h = List.length x.fst ∧ c = c ∧ false = false) ∧ True ∧ True) ∧ True else False) ∧ (cellsP gqTmC0 (tC (x.fst ++ x.snd.fst)) (tC (h ++ g)) ∧ True) ∧ (entsP gqTmC0 (emap x.snd.snd) (emap m) ∧ True) ∧ True) ∧ (2 : Int) = (0 : Int) ∧ True) ∨ ∃ (x : TL × MP), (setE most (srt h) n at_ = (0 : Int) ∧ setIn h m n c = false ∧ SetPost h n at_ x.fst x.snd ∧ ic (List.length x.fst) ≤ most) ∧ False else bif ltI at_ (0 : Int) then (∃ (_x : Unit), setE most (srt h) n at_ ≠ (0 : Int) ∧ ((bif eq.beq eq && true then (most = most ∧ (0 = 0 ∧ List.length h = List.length h ∧ c = c ∧ false = false) ∧ True ∧ True) ∧ True else False) ∧ (cellsP gqTmC0 (tC (h ++ g)) (tC (h ++ g)) ∧ True) ∧ (entsP gqTmC0 (emap m) (emap m) ∧ True) ∧ True) ∧ (2 : Int) = setE most (srt h) n at_ ∧ True) ∨ (∃ (x : TL × TL × MP), (setE most (srt h) n at_ = (0 : Int) ∧ setIn h m n c = true ∧ SetPost h n at_ x.fst x.snd.snd ∧ List.length x.fst + List.length x.snd.fst = c ∧ ic (List.length x.fst) ≤ most) ∧ ((bif eq.beq eq && true then (most = most ∧ (0 = 0 ∧ List.length h = List.length x.fst ∧ c = c ∧ false = false) ∧ True ∧ True) ∧ True else False) ∧ (cellsP gqTmC0 (tC (x.fst ++ x.snd.fst)) (tC (h ++ g)) ∧ True) ∧ (entsP gqTmC0 (emap x.snd.snd) (emap m) ∧ True) ∧ True) ∧ (2 : Int) = (0 : Int) ∧ True) ∨ ∃ (x : TL × MP), (setE most (srt h) n at_ = (0 : Int) ∧ setIn h m n c = false ∧ SetPost h n at_ x.fst x.snd ∧ ic (List.length x.fst) ≤ most) ∧ False else bif ltI (253402300799 : Int) at_ then (∃ (_x : Unit), setE most (srt h) n at_ ≠ (0 : Int) ∧ ((bif eq.beq eq && true then (most = most ∧ (0 = 0 ∧ List.length h = List.length h ∧ c = c ∧ false = false) ∧ True ∧ True) ∧ True else False) ∧ (cellsP gqTmC0 (tC (h ++ g)) (tC (h ++ g)) ∧ True) ∧ (entsP gqTmC0 (emap m) (emap m) ∧ True) ∧ True) ∧ (2 : Int) = setE most (srt h) n at_ ∧ True) ∨ (∃ (x : TL × TL × MP), (setE most (srt h) n at_ = (0 : Int) ∧ setIn h m n c = true ∧ SetPost h n at_ x.fst x.snd.snd ∧ List.length x.fst + List.length x.snd.fst = c ∧ ic (List.length x.fst) ≤ most) ∧ ((bif eq.beq eq && true then (most = most ∧ (0 = 0 ∧ List.length h = List.length x.fst ∧ c = c ∧ false = false) ∧ True ∧ True) ∧ True else False) ∧ (cellsP gqTmC0 (tC (x.fst ++ x.snd.fst)) (tC (h ++ g)) ∧ True) ∧ (entsP gqTmC0 (emap x.snd.snd) (emap m) ∧ True) ∧ True) ∧ (2 : Int) = (0 : Int) ∧ True) ∨ ∃ (x : TL × MP), (setE most (srt h) n at_ = (0 : Int) ∧ setIn h m n c = false ∧ SetPost h n at_ x.fst x.snd ∧ ic (List.length x.fst) ≤ most) ∧ False else (keysK (AV.int IntKind.i64 n) (emap m) ∧ intsK IntKind.i64 (emap m) ∧ AV.int IntKind.i64 (0 : Int) = AV.int IntKind.i64 (0 : Int) ∧ bif hasK (AV.int IntKind.i64 n) (emap m) then (QR (tC (h ++ g)) (List.length h) (emap m) ∧ (0 : Int) ≤ valK (AV.int IntKind.i64 n) (emap m) ∧ List.length h ≤ c ∧ RmPre (hOf (tC (h ++ g)) (List.length h)) (getM (emap m)) (valK (AV.int IntKind.i64 n) (emap m)).toNat) ∧ ∀ (x : TL × MP), RmPost (hOf (tC (h ++ g)) (List.length h)) (valK (AV.int IntKind.i64 n) (emap m)).toNat x.fst x.snd → ∃ (y : TL × TL × MP), SetMid h m n most c y.fst y.snd.fst y.snd.snd ∧ ((bif eq.beq eq && true then (most = most ∧ (0 = 0 ∧ List.length h - 1 = List.length y.fst ∧ c = c ∧ false = false) ∧ True ∧ True) ∧ True else False) ∧ (cellsP gqTmC0 (tC (y.fst ++ y.snd.fst)) (tC (x.fst ++ pk (hOf (tC (h ++ g)) (List.length h)) (List.length h - 1) :: gOf (tC (h ++ g)) (List.length h))) ∧ True) ∧ (entsP gqTmC0 (emap y.snd.snd) (emap x.snd) ∧ True) ∧ True) ∧ True else bif leI most (ic (List.length h)) then (∃ (_x : Unit), setE most (srt h) n at_ ≠ (0 : Int) ∧ ((bif eq.beq eq && true then (most = most ∧ (0 = 0 ∧ List.length h = List.length h ∧ c = c ∧ false = false) ∧ True ∧ True) ∧ True else False) ∧ (cellsP gqTmC0 (tC (h ++ g)) (tC (h ++ g)) ∧ True) ∧ (entsP gqTmC0 (emap m) (emap m) ∧ True) ∧ True) ∧ (9 : Int) = setE most (srt h) n at_ ∧ True) ∨ (∃ (x : TL × TL × MP), (setE most (srt h) n at_ = (0 : Int) ∧ setIn h m n c = true ∧ SetPost h n at_ x.fst x.snd.snd ∧ List.length x.fst + List.length x.snd.fst = c ∧ ic (List.length x.fst) ≤ most) ∧ ((bif eq.beq eq && true then (most = most ∧ (0 = 0 ∧ List.length h = List.length x.fst ∧ c = c ∧ false = false) ∧ True ∧ True) ∧ True else False) ∧ (cellsP gqTmC0 (tC (x.fst ++ x.snd.fst)) (tC (h ++ g)) ∧ True) ∧ (entsP gqTmC0 (emap x.snd.snd) (emap m) ∧ True) ∧ True) ∧ (9 : Int) = (0 : Int) ∧ True) ∨ ∃ (x : TL × MP), (setE most (srt h) n at_ = (0 : Int) ∧ setIn h m n c = false ∧ SetPost h n at_ x.fst x.snd ∧ ic (List.length x.fst) ≤ most) ∧ False else ∃ (y : TL × TL × MP), SetMid h m n most c y.fst y.snd.fst y.snd.snd ∧ ((bif eq.beq eq && true then (most = most ∧ (0 = 0 ∧ List.length h = List.length y.fst ∧ c = c ∧ false = false) ∧ True ∧ True) ∧ True else False) ∧ (cellsP gqTmC0 (tC (y.fst ++ y.snd.fst)) (tC (h ++ g)) ∧ True) ∧ (entsP gqTmC0 (emap y.snd.snd) (emap m) ∧ True) ∧ True) ∧ True) ∧ ∀ (x : TL × TL × MP), SetMid h m n most c x.fst x.snd.fst x.snd.snd → (bif decide (List.length x.fst ≤ c) && decide (0 + List.length x.fst * 2 ≤ (tC (x.fst ++ x.snd.fst)).length) then bif decide (List.length x.fst + 1 ≤ c) then bif decide (0 + (List.length x.fst + 1) * 2 ≤ (tC (x.fst ++ x.snd.fst)).length) && true then (∃ (_x : Unit), List.length x.fst < c ∧ ((bif eq.beq eq && true then (most = most ∧ (0 = 0 ∧ List.length x.fst + 1 = List.length x.fst + 1 ∧ c = c ∧ false = false) ∧ True ∧ True) ∧ True else False) ∧ (cellsP gqTmC1 (tC (x.fst ++ [(n, at_)] ++ List.drop 1 x.snd.fst)) (setManyF (tC (x.fst ++ x.snd.fst)) (0 + List.length x.fst * 2) [AV.int IntKind.i64 n, AV.int IntKind.i64 at_]) ∧ True) ∧ (entsP gqTmC1 (emap x.snd.snd) (emap x.snd.snd) ∧ True) ∧ True) ∧ True) ∨ ∃ (_x : Unit), ¬List.length x.fst < c ∧ False else False else bif decide (List.length x.fst + 1 ≤ 9223372036854775807) && decide ((List.length x.fst + 1) * 16 ≤ 140737488355328) then bif decide (List.length x.fst = c) && (decide (0 + List.length x.fst * 2 = (tC (x.fst ++ x.snd.fst)).length) && true) then (∃ (_x : Unit), List.length x.fst < c ∧ ((bif eq.beq eq && true then (most = most ∧ False ∧ True ∧ True) ∧ True else False) ∧ False ∧ (entsP (fun (b : Nat) => [0, 1, 2].getD b 5) (emap x.snd.snd) (emap x.snd.snd) ∧ True) ∧ True) ∧ True) ∨ ∃ (_x : Unit), ¬List.length x.fst < c ∧ ((bif eq.beq eq && true then (most = most ∧ (0 = 0 ∧ List.length x.fst + 1 = List.length x.fst + 1 ∧ List.length x.fst + 1 = List.length x.fst + 1 ∧ false = false) ∧ True ∧ True) ∧ True else False) ∧ True ∧ (entsP (fun (b : Nat) => [0, 1, 2, 4].getD b 5) (emap x.snd.snd) (emap x.snd.snd) ∧ True) ∧ (cellsP (fun (b : Nat) => [0, 1, 2, 4].getD b 5) (tC (x.fst ++ [(n, at_)] ++ [])) (List.drop 0 (tC (x.fst ++ x.snd.fst)) ++ [AV.int IntKind.i64 n, AV.int IntKind.i64 at_]) ∧ True) ∧ True) ∧ True else False else False else False) ∧ (∀ (x_1 : Unit), List.length x.fst < c → bif leI (-9223372036854775808 : Int) (ic (List.length x.fst + 1) - (1 : Int)) && leI (ic (List.length x.fst + 1) - (1 : Int)) (9223372036854775807 : Int) then (QR (tC (x.fst ++ [(n, at_)] ++ List.drop 1 x.snd.fst)) (List.length x.fst + 1) (emap x.snd.snd) ∧ (0 : Int) ≤ ic (List.length x.fst + 1) - (1 : Int) ∧ UpPre (hOf (tC (x.fst ++ [(n, at_)] ++ List.drop 1 x.snd.fst)) (List.length x.fst + 1)) (getM (emap x.snd.snd)) (ic (List.length x.fst + 1) - (1 : Int)).toNat) ∧ ∀ (x_2 : TL × MP × Nat), UpPost (hOf (tC (x.fst ++ [(n, at_)] ++ List.drop 1 x.snd.fst)) (List.length x.fst + 1)) (ic (List.length x.fst + 1) - (1 : Int)).toNat x_2.fst x_2.snd.fst x_2.snd.snd → (∃ (_x : Unit), setE most (srt h) n at_ ≠ (0 : Int) ∧ ((bif eq.beq eq && true then (most = most ∧ (0 = 0 ∧ List.length x.fst + 1 = List.length h ∧ c = c ∧ false = false) ∧ True ∧ True) ∧ True else False) ∧ (cellsP gqTmC0 (tC (h ++ g)) (tC (x_2.fst ++ gOf (tC (x.fst ++ [(n, at_)] ++ List.drop 1 x.snd.fst)) (List.length x.fst + 1))) ∧ True) ∧ (entsP gqTmC0 (emap m) (emap x_2.snd.fst) ∧ True) ∧ True) ∧ (0 : Int) = setE most (srt h) n at_ ∧ True) ∨ (∃ (x_3 : TL × TL × MP), (setE most (srt h) n at_ = (0 : Int) ∧ setIn h m n c = true ∧ SetPost h n at_ x_3.fst x_3.snd.snd ∧ List.length x_3.fst + List.length x_3.snd.fst = c ∧ ic (List.length x_3.fst) ≤ most) ∧ ((bif eq.beq eq && true then (most = most ∧ (0 = 0 ∧ List.length x.fst + 1 = List.length x_3.fst ∧ c = c ∧ false = false) ∧ True ∧ True) ∧ True else False) ∧ (cellsP gqTmC0 (tC (x_3.fst ++ x_3.snd.fst)) (tC (x_2.fst ++ gOf (tC (x.fst ++ [(n, at_)] ++ List.drop 1 x.snd.fst)) (List.length x.fst + 1))) ∧ True) ∧ (entsP gqTmC0 (emap x_3.snd.snd) (emap x_2.snd.fst) ∧ True) ∧ True) ∧ (0 : Int) = (0 : Int) ∧ True) ∨ ∃ (x : TL × MP), (setE most (srt h) n at_ = (0 : Int) ∧ setIn h m n c = false ∧ SetPost h n at_ x.fst x.snd ∧ ic (List.length x.fst) ≤ most) ∧ False else False) ∧ ∀ (x_1 : Unit), ¬List.length x.fst < c → bif leI (-9223372036854775808 : Int) (ic (List.length x.fst + 1) - (1 : Int)) && leI (ic (List.length x.fst + 1) - (1 : Int)) (9223372036854775807 : Int) then (QR (tC (x.fst ++ [(n, at_)] ++ [])) (List.length x.fst + 1) (emap x.snd.snd) ∧ (0 : Int) ≤ ic (List.length x.fst + 1) - (1 : Int) ∧ UpPre (hOf (tC (x.fst ++ [(n, at_)] ++ [])) (List.length x.fst + 1)) (getM (emap x.snd.snd)) (ic (List.length x.fst + 1) - (1 : Int)).toNat) ∧ ∀ (x_2 : TL × MP × Nat), UpPost (hOf (tC (x.fst ++ [(n, at_)] ++ [])) (List.length x.fst + 1)) (ic (List.length x.fst + 1) - (1 : Int)).toNat x_2.fst x_2.snd.fst x_2.snd.snd → (∃ (_x : Unit), setE most (srt h) n at_ ≠ (0 : Int) ∧ ((bif eq.beq eq && true then (most = most ∧ False ∧ True ∧ True) ∧ True else False) ∧ False ∧ (entsP gqTmC1 (emap m) (emap x_2.snd.fst) ∧ True) ∧ True) ∧ (0 : Int) = setE most (srt h) n at_ ∧ True) ∨ (∃ (x : TL × TL × MP), (setE most (srt h) n at_ = (0 : Int) ∧ setIn h m n c = true ∧ SetPost h n at_ x.fst x.snd.snd ∧ List.length x.fst + List.length x.snd.fst = c ∧ ic (List.length x.fst) ≤ most) ∧ ((bif eq.beq eq && true then (most = most ∧ False ∧ True ∧ True) ∧ True else False) ∧ False ∧ (entsP gqTmC1 (emap x.snd.snd) (emap x_2.snd.fst) ∧ True) ∧ True) ∧ (0 : Int) = (0 : Int) ∧ True) ∨ ∃ (x_3 : TL × MP), (setE most (srt h) n at_ = (0 : Int) ∧ setIn h m n c = false ∧ SetPost h n at_ x_3.fst x_3.snd ∧ ic (List.length x_3.fst) ≤ most) ∧ ((bif eq.beq eq && true then (most = most ∧ (0 = 0 ∧ List.length x.fst + 1 = List.length x_3.fst ∧ List.length x.fst + 1 = List.length x_3.fst ∧ false = false) ∧ True ∧ True) ∧ True else False) ∧ True ∧ (entsP (fun (b : Nat) => [0, 1, 2, 3].getD b 4) (emap x_3.snd) (emap x_2.snd.fst) ∧ True) ∧ (cellsP (fun (b : Nat) => [0, 1, 2, 3].getD b 4) (tC (x_3.fst ++ [])) (tC (x_2.fst ++ gOf (tC (x.fst ++ [(n, at_)] ++ [])) (List.length x.fst + 1))) ∧ True) ∧ True) ∧ (0 : Int) = (0 : Int) ∧ True else False) := by kernel_rfl
theorem vStN_eq  (n at_ : Int) (most : Int) (eq : Nat) : vStN n at_ most eq = (bif ltI n (0 : Int) then (∃ (_x : Unit), setE most [] n at_ ≠ (0 : Int) ∧ ((bif eq.beq eq && true then (most = most ∧ True ∧ True ∧ True) ∧ True else False) ∧ (True ∧ True) ∧ True) ∧ (2 : Int) = setE most [] n at_ ∧ True) ∨ ∃ (x : TL × MP), (setE most [] n at_ = (0 : Int) ∧ SetPost [] n at_ x.fst x.snd ∧ List.length x.fst = 1 ∧ (1 : Int) ≤ most) ∧ False else bif ltI at_ (0 : Int) then (∃ (_x : Unit), setE most [] n at_ ≠ (0 : Int) ∧ ((bif eq.beq eq && true then (most = most ∧ True ∧ True ∧ True) ∧ True else False) ∧ (True ∧ True) ∧ True) ∧ (2 : Int) = setE most [] n at_ ∧ True) ∨ ∃ (x : TL × MP), (setE most [] n at_ = (0 : Int) ∧ SetPost [] n at_ x.fst x.snd ∧ List.length x.fst = 1 ∧ (1 : Int) ≤ most) ∧ False else bif ltI (253402300799 : Int) at_ then (∃ (_x : Unit), setE most [] n at_ ≠ (0 : Int) ∧ ((bif eq.beq eq && true then (most = most ∧ True ∧ True ∧ True) ∧ True else False) ∧ (True ∧ True) ∧ True) ∧ (2 : Int) = setE most [] n at_ ∧ True) ∨ ∃ (x : TL × MP), (setE most [] n at_ = (0 : Int) ∧ SetPost [] n at_ x.fst x.snd ∧ List.length x.fst = 1 ∧ (1 : Int) ≤ most) ∧ False else keysK (AV.int IntKind.i64 n) [] ∧ intsK IntKind.i64 [] ∧ AV.int IntKind.i64 (0 : Int) = AV.int IntKind.i64 (0 : Int) ∧ bif leI most (0 : Int) then (∃ (_x : Unit), setE most [] n at_ ≠ (0 : Int) ∧ ((bif eq.beq eq && true then (most = most ∧ True ∧ True ∧ True) ∧ True else False) ∧ (True ∧ True) ∧ True) ∧ (9 : Int) = setE most [] n at_ ∧ True) ∨ ∃ (x : TL × MP), (setE most [] n at_ = (0 : Int) ∧ SetPost [] n at_ x.fst x.snd ∧ List.length x.fst = 1 ∧ (1 : Int) ≤ most) ∧ False else (∃ (_x : Unit), True ∧ ((bif eq.beq eq && true then (most = most ∧ (0 = 0 ∧ 1 = 1 ∧ 1 = 1 ∧ false = false) ∧ True ∧ True) ∧ True else False) ∧ (True ∧ True) ∧ (cellsP (fun (b : Nat) => [0, 1, 3].getD b 4) (tC [(n, at_)]) [AV.int IntKind.i64 n, AV.int IntKind.i64 at_] ∧ True) ∧ True) ∧ True) ∧ ∀ (x : Unit), True → (QR (tC [(n, at_)]) 1 [] ∧ (0 : Int) ≤ (0 : Int) ∧ UpPre (hOf (tC [(n, at_)]) 1) (getM []) 0) ∧ ∀ (x : TL × MP × Nat), UpPost (hOf (tC [(n, at_)]) 1) 0 x.fst x.snd.fst x.snd.snd → (∃ (_x : Unit), setE most [] n at_ ≠ (0 : Int) ∧ ((bif eq.beq eq && true then (most = most ∧ False ∧ True ∧ True) ∧ True else False) ∧ (entsP (fun (b : Nat) => [0, 1].getD b 3) [] (emap x.snd.fst) ∧ True) ∧ True) ∧ (0 : Int) = setE most [] n at_ ∧ True) ∨ ∃ (x_1 : TL × MP), (setE most [] n at_ = (0 : Int) ∧ SetPost [] n at_ x_1.fst x_1.snd ∧ List.length x_1.fst = 1 ∧ (1 : Int) ≤ most) ∧ ((bif eq.beq eq && true then (most = most ∧ (0 = 0 ∧ 1 = 1 ∧ 1 = 1 ∧ false = false) ∧ True ∧ True) ∧ True else False) ∧ (entsP gqTmC0 (emap x_1.snd) (emap x.snd.fst) ∧ True) ∧ (cellsP gqTmC0 (tC (x_1.fst ++ [])) (tC (x.fst ++ gOf (tC [(n, at_)]) 1)) ∧ True) ∧ True) ∧ (0 : Int) = (0 : Int) ∧ True) := by kernel_rfl
theorem vCa_eq  (h g : TL) (m : MP) (n : Int) (most : Int) (c eq : Nat) : vCa h g m n most c eq = (keysK (AV.int IntKind.i64 n) (emap m) ∧ intsK IntKind.i64 (emap m) ∧ AV.int IntKind.i64 (0 : Int) = AV.int IntKind.i64 (0 : Int) ∧ bif !hasK (AV.int IntKind.i64 n) (emap m) then (∃ (_x : Unit), tmOf n (srt h) = none ∧ ((bif eq.beq eq && true then (most = most ∧ (0 = 0 ∧ List.length h = List.length h ∧ c = c ∧ false = false) ∧ True ∧ True) ∧ True else False) ∧ (cellsP gqTmC0 (tC (h ++ g)) (tC (h ++ g)) ∧ True) ∧ (entsP gqTmC0 (emap m) (emap m) ∧ True) ∧ True) ∧ (5 : Int) = (5 : Int) ∧ True) ∨ ∃ (x : TL × TL × MP), ((tmOf n (srt h)).isSome = true ∧ CanPost h n x.fst x.snd.snd ∧ List.length x.fst = List.length h - 1 ∧ List.length x.fst + List.length x.snd.fst = c) ∧ ((bif eq.beq eq && true then (most = most ∧ (0 = 0 ∧ List.length h = List.length h - 1 ∧ c = c ∧ false = false) ∧ True ∧ True) ∧ True else False) ∧ (cellsP gqTmC0 (tC (x.fst ++ x.snd.fst)) (tC (h ++ g)) ∧ True) ∧ (entsP gqTmC0 (emap x.snd.snd) (emap m) ∧ True) ∧ True) ∧ (5 : Int) = (0 : Int) ∧ True else (QR (tC (h ++ g)) (List.length h) (emap m) ∧ (0 : Int) ≤ valK (AV.int IntKind.i64 n) (emap m) ∧ List.length h ≤ c ∧ RmPre (hOf (tC (h ++ g)) (List.length h)) (getM (emap m)) (valK (AV.int IntKind.i64 n) (emap m)).toNat) ∧ ∀ (x : TL × MP), RmPost (hOf (tC (h ++ g)) (List.length h)) (valK (AV.int IntKind.i64 n) (emap m)).toNat x.fst x.snd → (∃ (_x : Unit), tmOf n (srt h) = none ∧ ((bif eq.beq eq && true then (most = most ∧ (0 = 0 ∧ List.length h - 1 = List.length h ∧ c = c ∧ false = false) ∧ True ∧ True) ∧ True else False) ∧ (cellsP gqTmC0 (tC (h ++ g)) (tC (x.fst ++ pk (hOf (tC (h ++ g)) (List.length h)) (List.length h - 1) :: gOf (tC (h ++ g)) (List.length h))) ∧ True) ∧ (entsP gqTmC0 (emap m) (emap x.snd) ∧ True) ∧ True) ∧ (0 : Int) = (5 : Int) ∧ True) ∨ ∃ (x_1 : TL × TL × MP), ((tmOf n (srt h)).isSome = true ∧ CanPost h n x_1.fst x_1.snd.snd ∧ List.length x_1.fst = List.length h - 1 ∧ List.length x_1.fst + List.length x_1.snd.fst = c) ∧ ((bif eq.beq eq && true then (most = most ∧ (0 = 0 ∧ List.length h - 1 = List.length h - 1 ∧ c = c ∧ false = false) ∧ True ∧ True) ∧ True else False) ∧ (cellsP gqTmC0 (tC (x_1.fst ++ x_1.snd.fst)) (tC (x.fst ++ pk (hOf (tC (h ++ g)) (List.length h)) (List.length h - 1) :: gOf (tC (h ++ g)) (List.length h))) ∧ True) ∧ (entsP gqTmC0 (emap x_1.snd.snd) (emap x.snd) ∧ True) ∧ True) ∧ (0 : Int) = (0 : Int) ∧ True) := by kernel_rfl
theorem vAt_eq  (h g : TL) (m : MP) (n : Int) (most : Int) (c eq : Nat) : vAt h g m n most c eq = (keysK (AV.int IntKind.i64 n) (emap m) ∧ intsK IntKind.i64 (emap m) ∧ AV.int IntKind.i64 (0 : Int) = AV.int IntKind.i64 (0 : Int) ∧ bif !hasK (AV.int IntKind.i64 n) (emap m) then ∃ (_x : Unit), True ∧ ((bif eq.beq eq && true then (most = most ∧ (0 = 0 ∧ List.length h = List.length h ∧ c = c ∧ false = false) ∧ True ∧ True) ∧ True else False) ∧ (cellsP gqTmC0 (tC (h ++ g)) (tC (h ++ g)) ∧ True) ∧ (entsP gqTmC0 (emap m) (emap m) ∧ True) ∧ True) ∧ ((0 : Int) = atV n (srt h) ∧ (5 : Int) = atE n (srt h) ∧ True) ∧ True else bif leI (0 : Int) (valK (AV.int IntKind.i64 n) (emap m)) && ltI (valK (AV.int IntKind.i64 n) (emap m)) (ic (List.length h)) then (tC (h ++ g))[0 + (valK (AV.int IntKind.i64 n) (emap m)).toNat * 2 + 1]? = some (AV.int IntKind.i64 (pk h ((mget n m).getD (0 : Int)).toNat).snd) ∧ ∃ (_x : Unit), True ∧ ((bif eq.beq eq && true then (most = most ∧ (0 = 0 ∧ List.length h = List.length h ∧ c = c ∧ false = false) ∧ True ∧ True) ∧ True else False) ∧ (cellsP gqTmC0 (tC (h ++ g)) (tC (h ++ g)) ∧ True) ∧ (entsP gqTmC0 (emap m) (emap m) ∧ True) ∧ True) ∧ ((pk h ((mget n m).getD (0 : Int)).toNat).snd = atV n (srt h) ∧ (0 : Int) = atE n (srt h) ∧ True) ∧ True else False) := by kernel_rfl
theorem vNx_eq  (h g : TL) (m : MP) (most : Int) (c eq : Nat) : vNx h g m most c eq = (bif eqI (ic (List.length h)) (0 : Int) then ∃ (_x : Unit), True ∧ ((bif eq.beq eq && true then (most = most ∧ (0 = 0 ∧ List.length h = List.length h ∧ c = c ∧ false = false) ∧ True ∧ True) ∧ True else False) ∧ (cellsP gqTmC0 (tC (h ++ g)) (tC (h ++ g)) ∧ True) ∧ (entsP gqTmC0 (emap m) (emap m) ∧ True) ∧ True) ∧ ((-1 : Int) = nxN (srt h) ∧ (0 : Int) = nxT (srt h) ∧ (5 : Int) = nxE (srt h) ∧ True) ∧ True else bif ltI (0 : Int) (ic (List.length h)) then (tC (h ++ g))[0]? = some (AV.int IntKind.i64 (pk h 0).fst) ∧ bif ltI (0 : Int) (ic (List.length h)) then (tC (h ++ g))[1]? = some (AV.int IntKind.i64 (pk h 0).snd) ∧ ∃ (_x : Unit), True ∧ ((bif eq.beq eq && true then (most = most ∧ (0 = 0 ∧ List.length h = List.length h ∧ c = c ∧ false = false) ∧ True ∧ True) ∧ True else False) ∧ (cellsP gqTmC0 (tC (h ++ g)) (tC (h ++ g)) ∧ True) ∧ (entsP gqTmC0 (emap m) (emap m) ∧ True) ∧ True) ∧ ((pk h 0).fst = nxN (srt h) ∧ (pk h 0).snd = nxT (srt h) ∧ (0 : Int) = nxE (srt h) ∧ True) ∧ True else False else False) := by kernel_rfl
theorem vDu_eq  (h g : TL) (m : MP) (now : Int) (most : Int) (c eq : Nat) : vDu h g m now most c eq = (((∃ (_x : Unit), True ∧ ((bif eq.beq eq && true then (most = most ∧ (0 = 0 ∧ List.length h = List.length h ∧ c = c ∧ false = false) ∧ True ∧ True) ∧ True else False) ∧ (cellsP gqTmC0 (tC (h ++ g)) (tC (h ++ g)) ∧ True) ∧ (entsP gqTmC0 (emap m) (emap m) ∧ True) ∧ True) ∧ True ∧ True) ∨ ∃ (x : TL × TL × MP × TL), DueI h c now x.fst x.snd.fst x.snd.snd.fst x.snd.snd.snd ∧ False) ∧ (∀ (x : Unit), True → bif ltI (0 : Int) (ic (List.length h)) then bif ltI (0 : Int) (ic (List.length h)) then (tC (h ++ g))[1]? = some (AV.int IntKind.i64 (pk h 0).snd) ∧ bif leI (pk h 0).snd now then (QR (tC (h ++ g)) (List.length h) (emap m) ∧ (0 : Int) ≤ (0 : Int) ∧ List.length h ≤ c ∧ RmPre (hOf (tC (h ++ g)) (List.length h)) (getM (emap m)) 0) ∧ ∀ (x : TL × MP), RmPost (hOf (tC (h ++ g)) (List.length h)) 0 x.fst x.snd → (∃ (_x : Unit), True ∧ List.length h < List.length h ∧ ((bif eq.beq eq && true then (most = most ∧ (0 = 0 ∧ List.length h - 1 = List.length h ∧ c = c ∧ false = false) ∧ True ∧ True) ∧ True else False) ∧ (cellsP gqTmC2 (tC (h ++ g)) (tC (x.fst ++ pk (hOf (tC (h ++ g)) (List.length h)) (List.length h - 1) :: gOf (tC (h ++ g)) (List.length h))) ∧ True) ∧ (entsP gqTmC2 (emap m) (emap x.snd) ∧ True) ∧ True) ∧ False ∧ True) ∨ ∃ (y : TL × TL × MP × TL), DueI h c now y.fst y.snd.fst y.snd.snd.fst y.snd.snd.snd ∧ List.length y.fst < List.length h ∧ ((bif eq.beq eq && true then (most = most ∧ (0 = 0 ∧ List.length h - 1 = List.length y.fst ∧ c = c ∧ false = false) ∧ True ∧ True) ∧ True else False) ∧ (cellsP (fun (b : Nat) => [0, 1, 2, 4].getD b 5) (tC (y.fst ++ y.snd.fst)) (tC (x.fst ++ pk (hOf (tC (h ++ g)) (List.length h)) (List.length h - 1) :: gOf (tC (h ++ g)) (List.length h))) ∧ True) ∧ (entsP (fun (b : Nat) => [0, 1, 2, 4].getD b 5) (emap y.snd.snd.fst) (emap x.snd) ∧ True) ∧ (cellsP (fun (b : Nat) => [0, 1, 2, 4].getD b 5) (nC y.snd.snd.snd) [AV.int IntKind.i64 (pk (hOf (tC (h ++ g)) (List.length h)) 0).fst] ∧ True) ∧ True) ∧ (0 = 0 ∧ 1 = List.length y.snd.snd.snd ∧ 1 = List.length y.snd.snd.snd ∧ false = false) ∧ True else (∃ (_x : Unit), dueL now (srt h) = [] ∧ ((bif eq.beq eq && true then (most = most ∧ (0 = 0 ∧ List.length h = List.length h ∧ c = c ∧ false = false) ∧ True ∧ True) ∧ True else False) ∧ (cellsP gqTmC0 (tC (h ++ g)) (tC (h ++ g)) ∧ True) ∧ (entsP gqTmC0 (emap m) (emap m) ∧ True) ∧ True) ∧ True ∧ True) ∨ ∃ (x : TL × TL × MP), (dueL now (srt h) ≠ [] ∧ DuePost h now x.fst x.snd.snd ∧ List.length x.fst + List.length x.snd.fst = c) ∧ False else False else (∃ (_x : Unit), dueL now (srt h) = [] ∧ ((bif eq.beq eq && true then (most = most ∧ (0 = 0 ∧ List.length h = List.length h ∧ c = c ∧ false = false) ∧ True ∧ True) ∧ True else False) ∧ (cellsP gqTmC0 (tC (h ++ g)) (tC (h ++ g)) ∧ True) ∧ (entsP gqTmC0 (emap m) (emap m) ∧ True) ∧ True) ∧ True ∧ True) ∨ ∃ (x : TL × TL × MP), (dueL now (srt h) ≠ [] ∧ DuePost h now x.fst x.snd.snd ∧ List.length x.fst + List.length x.snd.fst = c) ∧ False) ∧ ∀ (x : TL × TL × MP × TL), DueI h c now x.fst x.snd.fst x.snd.snd.fst x.snd.snd.snd → bif ltI (0 : Int) (ic (List.length x.fst)) then bif ltI (0 : Int) (ic (List.length x.fst)) then (tC (x.fst ++ x.snd.fst))[1]? = some (AV.int IntKind.i64 (pk x.fst 0).snd) ∧ bif leI (pk x.fst 0).snd now then (QR (tC (x.fst ++ x.snd.fst)) (List.length x.fst) (emap x.snd.snd.fst) ∧ (0 : Int) ≤ (0 : Int) ∧ List.length x.fst ≤ c ∧ RmPre (hOf (tC (x.fst ++ x.snd.fst)) (List.length x.fst)) (getM (emap x.snd.snd.fst)) 0) ∧ ∀ (x_1 : TL × MP), RmPost (hOf (tC (x.fst ++ x.snd.fst)) (List.length x.fst)) 0 x_1.fst x_1.snd → bif decide (List.length x.snd.snd.snd ≤ List.length x.snd.snd.snd) && decide (0 + List.length x.snd.snd.snd * 1 ≤ (nC x.snd.snd.snd).length) then bif decide (List.length x.snd.snd.snd + 1 ≤ List.length x.snd.snd.snd) then bif decide (0 + (List.length x.snd.snd.snd + 1) * 1 ≤ (nC x.snd.snd.snd).length) && true then (∃ (_x : Unit), True ∧ List.length h < List.length x.fst ∧ ((bif eq.beq eq && true then (most = most ∧ (0 = 0 ∧ List.length x.fst - 1 = List.length h ∧ c = c ∧ false = false) ∧ True ∧ True) ∧ True else False) ∧ (cellsP gqTmC2 (tC (h ++ g)) (tC (x_1.fst ++ pk (hOf (tC (x.fst ++ x.snd.fst)) (List.length x.fst)) (List.length x.fst - 1) :: gOf (tC (x.fst ++ x.snd.fst)) (List.length x.fst))) ∧ True) ∧ (entsP gqTmC2 (emap m) (emap x_1.snd) ∧ True) ∧ True) ∧ False ∧ True) ∨ ∃ (y : TL × TL × MP × TL), DueI h c now y.fst y.snd.fst y.snd.snd.fst y.snd.snd.snd ∧ List.length y.fst < List.length x.fst ∧ ((bif eq.beq eq && true then (most = most ∧ (0 = 0 ∧ List.length x.fst - 1 = List.length y.fst ∧ c = c ∧ false = false) ∧ True ∧ True) ∧ True else False) ∧ (cellsP (fun (b : Nat) => [0, 1, 2, 3].getD b 5) (tC (y.fst ++ y.snd.fst)) (tC (x_1.fst ++ pk (hOf (tC (x.fst ++ x.snd.fst)) (List.length x.fst)) (List.length x.fst - 1) :: gOf (tC (x.fst ++ x.snd.fst)) (List.length x.fst))) ∧ True) ∧ (entsP (fun (b : Nat) => [0, 1, 2, 3].getD b 5) (emap y.snd.snd.fst) (emap x_1.snd) ∧ True) ∧ (cellsP (fun (b : Nat) => [0, 1, 2, 3].getD b 5) (nC y.snd.snd.snd) (setManyF (nC x.snd.snd.snd) (0 + List.length x.snd.snd.snd * 1) [AV.int IntKind.i64 (pk (hOf (tC (x.fst ++ x.snd.fst)) (List.length x.fst)) 0).fst]) ∧ True) ∧ True) ∧ (0 = 0 ∧ List.length x.snd.snd.snd + 1 = List.length y.snd.snd.snd ∧ List.length x.snd.snd.snd = List.length y.snd.snd.snd ∧ false = false) ∧ True else False else bif decide (List.length x.snd.snd.snd + 1 ≤ 9223372036854775807) && decide ((List.length x.snd.snd.snd + 1) * 8 ≤ 140737488355328) then bif decide (List.length x.snd.snd.snd = List.length x.snd.snd.snd) && (decide (0 + List.length x.snd.snd.snd * 1 = (nC x.snd.snd.snd).length) && true) then (∃ (_x : Unit), True ∧ List.length h < List.length x.fst ∧ ((bif eq.beq eq && true then (most = most ∧ (0 = 0 ∧ List.length x.fst - 1 = List.length h ∧ c = c ∧ false = false) ∧ True ∧ True) ∧ True else False) ∧ (cellsP (fun (b : Nat) => [0, 1, 2].getD b 6) (tC (h ++ g)) (tC (x_1.fst ++ pk (hOf (tC (x.fst ++ x.snd.fst)) (List.length x.fst)) (List.length x.fst - 1) :: gOf (tC (x.fst ++ x.snd.fst)) (List.length x.fst))) ∧ True) ∧ (entsP (fun (b : Nat) => [0, 1, 2].getD b 6) (emap m) (emap x_1.snd) ∧ True) ∧ True) ∧ False ∧ True) ∨ ∃ (y : TL × TL × MP × TL), DueI h c now y.fst y.snd.fst y.snd.snd.fst y.snd.snd.snd ∧ List.length y.fst < List.length x.fst ∧ ((bif eq.beq eq && true then (most = most ∧ (0 = 0 ∧ List.length x.fst - 1 = List.length y.fst ∧ c = c ∧ false = false) ∧ True ∧ True) ∧ True else False) ∧ (cellsP (fun (b : Nat) => [0, 1, 2, 5].getD b 6) (tC (y.fst ++ y.snd.fst)) (tC (x_1.fst ++ pk (hOf (tC (x.fst ++ x.snd.fst)) (List.length x.fst)) (List.length x.fst - 1) :: gOf (tC (x.fst ++ x.snd.fst)) (List.length x.fst))) ∧ True) ∧ (entsP (fun (b : Nat) => [0, 1, 2, 5].getD b 6) (emap y.snd.snd.fst) (emap x_1.snd) ∧ True) ∧ (cellsP (fun (b : Nat) => [0, 1, 2, 5].getD b 6) (nC y.snd.snd.snd) (List.drop 0 (nC x.snd.snd.snd) ++ [AV.int IntKind.i64 (pk (hOf (tC (x.fst ++ x.snd.fst)) (List.length x.fst)) 0).fst]) ∧ True) ∧ True) ∧ (0 = 0 ∧ List.length x.snd.snd.snd + 1 = List.length y.snd.snd.snd ∧ List.length x.snd.snd.snd + 1 = List.length y.snd.snd.snd ∧ false = false) ∧ True else False else False else False else (∃ (_x : Unit), dueL now (srt h) = [] ∧ ((bif eq.beq eq && true then (most = most ∧ (0 = 0 ∧ List.length x.fst = List.length h ∧ c = c ∧ false = false) ∧ True ∧ True) ∧ True else False) ∧ (cellsP gqTmC1 (tC (h ++ g)) (tC (x.fst ++ x.snd.fst)) ∧ True) ∧ (entsP gqTmC1 (emap m) (emap x.snd.snd.fst) ∧ True) ∧ True) ∧ False ∧ True) ∨ ∃ (x_1 : TL × TL × MP), (dueL now (srt h) ≠ [] ∧ DuePost h now x_1.fst x_1.snd.snd ∧ List.length x_1.fst + List.length x_1.snd.fst = c) ∧ ((bif eq.beq eq && true then (most = most ∧ (0 = 0 ∧ List.length x.fst = List.length x_1.fst ∧ c = c ∧ false = false) ∧ True ∧ True) ∧ True else False) ∧ (cellsP gqTmC3 (tC (x_1.fst ++ x_1.snd.fst)) (tC (x.fst ++ x.snd.fst)) ∧ True) ∧ (entsP gqTmC3 (emap x_1.snd.snd) (emap x.snd.snd.fst) ∧ True) ∧ (cellsP gqTmC3 (nC (dueL now (srt h))) (nC x.snd.snd.snd) ∧ True) ∧ True) ∧ (0 = 0 ∧ List.length x.snd.snd.snd = List.length (dueL now (srt h)) ∧ List.length x.snd.snd.snd = List.length (dueL now (srt h)) ∧ false = false) ∧ True else False else (∃ (_x : Unit), dueL now (srt h) = [] ∧ ((bif eq.beq eq && true then (most = most ∧ (0 = 0 ∧ List.length x.fst = List.length h ∧ c = c ∧ false = false) ∧ True ∧ True) ∧ True else False) ∧ (cellsP gqTmC1 (tC (h ++ g)) (tC (x.fst ++ x.snd.fst)) ∧ True) ∧ (entsP gqTmC1 (emap m) (emap x.snd.snd.fst) ∧ True) ∧ True) ∧ False ∧ True) ∨ ∃ (x_1 : TL × TL × MP), (dueL now (srt h) ≠ [] ∧ DuePost h now x_1.fst x_1.snd.snd ∧ List.length x_1.fst + List.length x_1.snd.fst = c) ∧ ((bif eq.beq eq && true then (most = most ∧ (0 = 0 ∧ List.length x.fst = List.length x_1.fst ∧ c = c ∧ false = false) ∧ True ∧ True) ∧ True else False) ∧ (cellsP gqTmC3 (tC (x_1.fst ++ x_1.snd.fst)) (tC (x.fst ++ x.snd.fst)) ∧ True) ∧ (entsP gqTmC3 (emap x_1.snd.snd) (emap x.snd.snd.fst) ∧ True) ∧ (cellsP gqTmC3 (nC (dueL now (srt h))) (nC x.snd.snd.snd) ∧ True) ∧ True) ∧ (0 = 0 ∧ List.length x.snd.snd.snd = List.length (dueL now (srt h)) ∧ List.length x.snd.snd.snd = List.length (dueL now (srt h)) ∧ false = false) ∧ True) := by kernel_rfl
theorem eRm_ok : EntryOk Try.prog 60 eRm := by
  intro args H sr hs K hk
  unfold eRm at hs
  split at hs
  · rename_i b i
    split at hs
    · rename_i most hb k c mb eq cs eh es hq
      cases hs
      obtain ⟨hn, hk1⟩ := cond_need hk
      obtain ⟨⟨qr, h0, hc, hp⟩, hk2⟩ := hk1
      obtain ⟨q1, q2, q3⟩ := qOf_ok hq
      dsimp only at q1 q2 q3
      have e1 : cs = tC (hOf cs k ++ gOf cs k) := by unfold hOf gOf; rw [List.take_append_drop]; exact qr.c1
      have e2 : k = (hOf cs k).length := by unfold hOf; rw [List.length_take]; have := qr.k1; omega
      obtain ⟨j, rfl⟩ : ∃ j : Nat, i = j := ⟨i.toNat, by omega⟩
      generalize hOf cs k = h at *
      generalize gOf cs k = g at *
      have e3 := qr.e1
      generalize getM es = m at *
      subst e1; subst e2; subst e3
      have hsc := SC.ofF (V := VRm) names0 mixed0 TRm_ok noO_ok (rm_vc h g m j most c eq eh hp.inv hp.lt hc)
      refine SC.queue hsc (nd3_ok hn) q1 q2 q3 ?_
      intro v0 H0' ho
      obtain ⟨x, hx, rfl, rfl⟩ := outE_one ho
      refine ⟨qH most (h.length - 1) c eq (x.1 ++ (pk h (h.length - 1) :: g)) eh x.2, [], by simp, rfl, ?_, some _, hk2 x hx, ?_⟩
      · intro k hk'
        simp only [qH, List.append_nil, List.mem_cons, List.mem_nil_iff, or_false] at hk'
        rcases hk' with rfl | rfl | rfl <;> exact .inl rfl
      · rw [qH_ren most b hb mb (h.length - 1) c eq _ eh _ _ rfl rfl]
        simp [chN]
    · cases hs
  · cases hs
theorem TSt_ok : SpecOk Try.prog (tabS TSt noS) := by
  refine tabS_ok (fun p hp => ?_) noS_ok
  simp only [TSt, List.mem_cons, List.mem_nil_iff, or_false] at hp
  rcases hp with rfl | rfl | rfl
  · exact gOrd_ok
  · exact eUp_ok
  · exact eRm_ok
theorem q2_ok (eq : Nat) (most : Int) {a b c d : Nat} (h1 : a = b) (h2 : c = d) : (bif eq.beq eq && true then (most = most ∧ ((0 : Nat) = 0 ∧ a = b ∧ c = d ∧ false = false) ∧ True ∧ True) ∧ True else False) := by
  subst h1; subst h2
  exact q_ok _ _ _ _
theorem q3_ok (eq : Nat) (most : Int) : (bif eq.beq eq && true then (most = most ∧ True ∧ True ∧ True) ∧ True else False) := by
  rw [Nat.beq_refl]
  exact ⟨⟨rfl, trivial, trivial, trivial⟩, trivial⟩
theorem r2_ok (σ : Nat → Nat) {a : TL} {s : List AV} (h : s = tC a) : cellsP σ (tC a) s ∧ True := ⟨cellsP_flat (tC_flat _) h, trivial⟩
theorem n2_ok (σ : Nat → Nat) {a : TL} {s : List AV} (h : s = nC a) : cellsP σ (nC a) s ∧ True := ⟨cellsP_flat (nC_flat _) h, trivial⟩
theorem app_ok (h1 g1 : TL) (n at_ : Int) (hg : 0 < g1.length) : setManyF (tC (h1 ++ g1)) (0 + h1.length * 2) [AV.int .i64 n, AV.int .i64 at_] = tC (h1 ++ [(n, at_)] ++ g1.drop 1) := by
  have := tC_set (h1 ++ g1) h1.length (n, at_) (by rw [List.length_append]; omega)
  rw [Nat.zero_add]
  refine this.trans ?_
  congr 1
  rw [List.set_append_right _ _ (Nat.le_refl _), Nat.sub_self]
  cases g1 with
  | nil => simp at hg
  | cons t r => simp
theorem st_vc (h g : TL) (m : MP) (n at_ : Int) (most : Int) (c eq : Nat) (v : Inv h m) (hc : h.length + g.length = c) (hm : (h.length : Int) ≤ most) (hm2 : most ≤ 1048576) : vSt h g m n at_ most c eq := by
  rw [vSt_eq]
  have bad : ∀ k : Int, k ≠ 0 → setE most (srt h) n at_ = k → ∃ (_x : Unit), setE most (srt h) n at_ ≠ 0 ∧ ((bif eq.beq eq && true then (most = most ∧ ((0 : Nat) = 0 ∧ List.length h = List.length h ∧ c = c ∧ false = false) ∧ True ∧ True) ∧ True else False) ∧ (cellsP gqTmC0 (tC (h ++ g)) (tC (h ++ g)) ∧ True) ∧ (entsP gqTmC0 (emap m) (emap m) ∧ True) ∧ True) ∧ k = setE most (srt h) n at_ ∧ True :=
    fun k hk e => ⟨(), by rw [e]; exact hk, ⟨q_ok _ _ _ _, r2_ok _ rfl, e_ok _ rfl, trivial⟩, e.symm, trivial⟩
  refine cond_intro (fun h1 => .inl (bad 2 (by decide) ?_)) fun h1 => cond_intro (fun h2 => .inl (bad 2 (by decide) ?_)) fun h2 => cond_intro (fun h3 => .inl (bad 2 (by decide) ?_)) fun h3 => ?_
  · rw [ltI_t] at h1; unfold setE; rw [if_pos (by omega)]
  · rw [ltI_t] at h2; unfold setE; rw [if_pos (by omega)]
  · rw [ltI_t] at h3; unfold setE; rw [if_pos (by omega)]
  rw [ltI_f] at h1 h2 h3
  have hr : ¬ (n < 0 ∨ at_ < 0 ∨ 253402300799 < at_) := by omega
  have hsz := v.sz
  have zero : ∀ (h1 g1 : TL) (m1 : MP), SetMid h m n most c h1 g1 m1 → setE most (srt h) n at_ = 0 := fun h1 g1 m1 s => by
    unfold setE
    rw [if_neg hr, srt_len]
    cases hg : mget n m with
    | none =>
      have := s.srt
      have hl := congrArg List.length this
      rw [ers_none (fun t ht => (tm_no v hg).1 t ((srt_perm h).mem_iff.1 ht)), srt_len, srt_len] at hl
      have := s.most
      rw [(tm_no v hg).2, if_neg (by simp), if_neg (by omega)]
    | some i => rw [(tm_at v hg).2.2.2]; exact if_pos rfl
  refine ⟨⟨emap_keys _ _, emap_ints _, rfl, ?_⟩, fun x s => ⟨?_, fun _ hlt => ?_, fun _ hge => ?_⟩⟩
  · rw [has_mget]
    cases hg : mget n m with
    | some i =>
      obtain ⟨i0, i1, i2, i3⟩ := tm_at v hg
      dsimp only [cond_true, Option.isSome]
      rw [val_mget, hg, hOf_tC, gOf_tC, getM_emap]
      refine ⟨⟨QR.mk' rfl, i0, by omega, ⟨v, i1⟩⟩, fun x r => ⟨(x.1, _, x.2), mid_rm v hg hc hm r, ⟨q2_ok _ _ (rm_len i1 r).symm rfl, r2_ok _ rfl, e_ok _ rfl, trivial⟩, trivial⟩⟩
    | none =>
      dsimp only [cond_false, Option.isSome]
      refine cond_intro (fun h4 => .inl (bad 9 (by decide) ?_)) fun h4 => ?_
      · rw [leI_t] at h4
        unfold setE
        rw [if_neg hr, (tm_no v hg).2, if_neg (by simp), srt_len, if_pos h4]
      · rw [leI_f] at h4
        exact ⟨(h, g, m), mid_keep v hg hc h4, ⟨q_ok _ _ _ _, r2_ok _ rfl, e_ok _ rfl, trivial⟩, trivial⟩
  · obtain ⟨h1, g1, m1⟩ := x
    dsimp only at s ⊢
    have sl := s.len
    have sm := s.most
    have k1 : (decide (h1.length ≤ c) && decide (0 + h1.length * 2 ≤ (tC (h1 ++ g1)).length)) = true := by
      rw [tC_len, List.length_append, decide_eq_true (by omega), decide_eq_true (by omega)]; rfl
    rw [k1]
    dsimp only [cond_true]
    refine cond_intro (fun h4 => ?_) fun h4 => ?_
    · have h4 : h1.length + 1 ≤ c := of_decide_eq_true h4
      refine need_intro (by rw [tC_len, List.length_append, decide_eq_true (by omega)]; rfl) (.inl ⟨(), by omega, ⟨q_ok _ _ _ _, r2_ok _ (app_ok _ _ _ _ (by omega)), e_ok _ rfl, trivial⟩, trivial⟩)
    · have h4 : ¬ h1.length + 1 ≤ c := of_decide_eq_false h4
      have hg1 : g1 = [] := List.length_eq_zero_iff.1 (by omega)
      subst hg1
      refine need_intro (by rw [decide_eq_true (by omega), decide_eq_true (by omega)]; rfl) (need_intro (by rw [tC_len, List.length_append, decide_eq_true (by omega), decide_eq_true (by simp; omega)]; rfl) (.inr ⟨(), by omega, ⟨q_ok _ _ _ _, trivial, e_ok _ rfl, r2_ok _ ?_, trivial⟩, trivial⟩))
      rw [List.drop_zero, List.append_nil, List.append_nil, tC_app]; rfl
  · obtain ⟨h1, g1, m1⟩ := x
    dsimp only at s hlt ⊢
    have sl := s.len
    have sm := s.most
    have e1 : ic (h1.length + 1) - 1 = ic h1.length := by show ((h1.length + 1 : Nat) : Int) - 1 = (h1.length : Int); omega
    have hl : (h1 ++ [(n, at_)]).length = h1.length + 1 := by simp
    rw [e1, hOf_k hl, gOf_k hl, getM_emap, show (ic h1.length).toNat = h1.length from rfl]
    refine need_intro (rng_ok (show -9223372036854775808 ≤ (h1.length : Int) by omega) (show (h1.length : Int) ≤ 9223372036854775807 by omega)) ⟨⟨QR.mk' hl, (show (0 : Int) ≤ (h1.length : Int) by omega), mid_up s hm2⟩, fun y u => .inr (.inl ⟨(y.1, g1.drop 1, y.2.1), ⟨zero _ _ _ s, s.in_.2 hlt, mid_post s hm2 (by omega) u, ?_, ?_⟩, ⟨q2_ok _ _ ?_ rfl, r2_ok _ rfl, e_ok _ rfl, trivial⟩, rfl, trivial⟩)⟩
    · dsimp only
      rw [up_len u, hl, List.length_drop]; omega
    · show (y.1.length : Int) ≤ most
      have e := (up_len u).trans hl
      have sm' : (h1.length : Int) < most := sm
      clear e1
      omega
    · rw [up_len u, hl]
  · obtain ⟨h1, g1, m1⟩ := x
    dsimp only at s hge ⊢
    have sl := s.len
    have sm := s.most
    have e1 : ic (h1.length + 1) - 1 = ic h1.length := by show ((h1.length + 1 : Nat) : Int) - 1 = (h1.length : Int); omega
    have hl : (h1 ++ [(n, at_)]).length = h1.length + 1 := by simp
    rw [e1, hOf_k hl, gOf_k hl, getM_emap, show (ic h1.length).toNat = h1.length from rfl]
    refine need_intro (rng_ok (show -9223372036854775808 ≤ (h1.length : Int) by omega) (show (h1.length : Int) ≤ 9223372036854775807 by omega)) ⟨⟨QR.mk' hl, (show (0 : Int) ≤ (h1.length : Int) by omega), mid_up s hm2⟩, fun y u => .inr (.inr ⟨(y.1, y.2.1), ⟨zero _ _ _ s, ?_, mid_post s hm2 (by omega) u, ?_⟩, ⟨q2_ok _ _ ?_ ?_, trivial, e_ok _ rfl, r2_ok _ rfl, trivial⟩, rfl, trivial⟩)⟩
    · rw [← Bool.not_eq_true, s.in_]; exact hge
    · show (y.1.length : Int) ≤ most
      have e := (up_len u).trans hl
      have sm' : (h1.length : Int) < most := sm
      clear e1
      omega
    · rw [up_len u, hl]
    · rw [up_len u, hl]
theorem stN_vc (n at_ : Int) (most : Int) (eq : Nat) (hm : 0 ≤ most) (hm2 : most ≤ 1048576) : vStN n at_ most eq := by
  rw [vStN_eq]
  have bad : ∀ k : Int, k ≠ 0 → setE most [] n at_ = k → ∃ (_x : Unit), setE most [] n at_ ≠ 0 ∧ ((bif eq.beq eq && true then (most = most ∧ True ∧ True ∧ True) ∧ True else False) ∧ (True ∧ True) ∧ True) ∧ k = setE most [] n at_ ∧ True :=
    fun k hk e => ⟨(), by rw [e]; exact hk, ⟨q3_ok _ _, ⟨trivial, trivial⟩, trivial⟩, e.symm, trivial⟩
  refine cond_intro (fun h1 => .inl (bad 2 (by decide) ?_)) fun h1 => cond_intro (fun h2 => .inl (bad 2 (by decide) ?_)) fun h2 => cond_intro (fun h3 => .inl (bad 2 (by decide) ?_)) fun h3 => ?_
  · rw [ltI_t] at h1; unfold setE; rw [if_pos (by omega)]
  · rw [ltI_t] at h2; unfold setE; rw [if_pos (by omega)]
  · rw [ltI_t] at h3; unfold setE; rw [if_pos (by omega)]
  rw [ltI_f] at h1 h2 h3
  have hr : ¬ (n < 0 ∨ at_ < 0 ∨ 253402300799 < at_) := by omega
  have em : ([] : List (AV × AV)) = emap [] := rfl
  have tn : tmOf n [] = none := rfl
  refine ⟨emap_keys [] n, emap_ints [], rfl, cond_intro (fun h4 => .inl (bad 9 (by decide) ?_)) fun h4 => ⟨⟨(), trivial, ⟨q_ok _ _ _ _, ⟨trivial, trivial⟩, r2_ok _ rfl, trivial⟩, trivial⟩, fun _ _ => ?_⟩⟩
  · rw [leI_t] at h4
    unfold setE
    rw [if_neg hr, tn, if_neg (by simp), if_pos (by simpa using h4)]
  · rw [leI_f] at h4
    have s : SetMid [] [] n most 0 [] [] [] := mid_keep inv_nil rfl rfl h4
    have hs : setE most [] n at_ = 0 := by
      unfold setE
      rw [if_neg hr, tn, if_neg (by simp), if_neg (by simpa using h4)]
    have e1 : hOf (tC [(n, at_)]) 1 = [(n, at_)] := hOf_tC [(n, at_)] []
    have e2 : gOf (tC [(n, at_)]) 1 = [] := gOf_tC [(n, at_)] []
    rw [e1, e2]
    refine ⟨⟨QR.mk' (h := [(n, at_)]) (g := []) (m := []) rfl, Int.le_refl _, mid_up s hm2⟩, fun y u => .inr ⟨(y.1, y.2.1), ⟨hs, mid_post s hm2 (by omega) u, up_len u, by omega⟩, ⟨q_ok _ _ _ _, e_ok _ rfl, r2_ok _ rfl, trivial⟩, rfl, trivial⟩⟩
theorem ca_vc (h g : TL) (m : MP) (n : Int) (most : Int) (c eq : Nat) (v : Inv h m) (hc : h.length + g.length = c) : vCa h g m n most c eq := by
  rw [vCa_eq]
  refine ⟨emap_keys _ _, emap_ints _, rfl, ?_⟩
  rw [has_mget]
  cases hg : mget n m with
  | none =>
    dsimp only [cond_true, Option.isSome, Bool.not_false]
    exact .inl ⟨(), (tm_no v hg).2, ⟨q_ok _ _ _ _, r2_ok _ rfl, e_ok _ rfl, trivial⟩, rfl, trivial⟩
  | some i =>
    obtain ⟨i0, i1, i2, i3⟩ := tm_at v hg
    dsimp only [cond_false, Option.isSome, Bool.not_true]
    rw [val_mget, hg, hOf_tC, gOf_tC, getM_emap]
    refine ⟨⟨QR.mk' rfl, i0, by omega, ⟨v, i1⟩⟩, fun x r => .inr ⟨(x.1, pk h (h.length - 1) :: g, x.2), ⟨by rw [i3], can_post v hg r, rm_len i1 r, ?_⟩, ⟨q_ok _ _ _ _, r2_ok _ rfl, e_ok _ rfl, trivial⟩, rfl, trivial⟩⟩
    dsimp only
    rw [rm_len i1 r, List.length_cons]
    have : h.length = h.length - 1 + 1 := by have : 0 < h.length := Nat.lt_of_le_of_lt (Nat.zero_le _) i1; omega
    omega
theorem at_vc (h g : TL) (m : MP) (n : Int) (most : Int) (c eq : Nat) (v : Inv h m) : vAt h g m n most c eq := by
  rw [vAt_eq]
  refine ⟨emap_keys _ _, emap_ints _, rfl, ?_⟩
  rw [has_mget]
  cases hg : mget n m with
  | none =>
    dsimp only [cond_true, Option.isSome, Bool.not_false]
    refine ⟨(), trivial, ⟨q_ok _ _ _ _, r2_ok _ rfl, e_ok _ rfl, trivial⟩, ⟨?_, ?_, trivial⟩, trivial⟩
    · unfold atV; rw [(tm_no v hg).2]; rfl
    · unfold atE; rw [(tm_no v hg).2]; rfl
  | some i =>
    obtain ⟨i0, i1, i2, i3⟩ := tm_at v hg
    dsimp only [cond_false, Option.isSome, Bool.not_true]
    rw [val_mget, hg]
    obtain ⟨j, rfl⟩ : ∃ j : Nat, i = j := ⟨i.toNat, by omega⟩
    have i1 : j < h.length := i1
    refine need_intro (by rw [and_t, leI_t]; exact ⟨(show (0 : Int) ≤ (j : Int) by omega), lt_ok i1⟩) ⟨?_, (), trivial, ⟨q_ok _ _ _ _, r2_ok _ rfl, e_ok _ rfl, trivial⟩, ⟨?_, ?_, trivial⟩, trivial⟩
    · show (tC (h ++ g))[0 + j * 2 + 1]? = some (AV.int .i64 (pk h j).2)
      rw [Nat.zero_add, tC_get1 _ _ (by rw [List.length_append]; omega), pk_app i1]
    · unfold atV; rw [i3]; rfl
    · unfold atE; rw [i3]; rfl
theorem nx_vc (h g : TL) (m : MP) (most : Int) (c eq : Nat) (v : Inv h m) : vNx h g m most c eq := by
  rw [vNx_eq]
  refine cond_intro (fun h0 => ?_) fun h0 => ?_
  · rw [eqI_t] at h0
    have h0 : h.length = 0 := by have h0 : (h.length : Int) = 0 := h0; omega
    have e : srt h = [] := by rw [List.length_eq_zero_iff.1 h0]; rfl
    rw [e]
    exact ⟨(), trivial, ⟨q_ok _ _ _ _, r2_ok _ rfl, e_ok _ rfl, trivial⟩, ⟨rfl, rfl, rfl, trivial⟩, trivial⟩
  · rw [eqI_f] at h0
    have h0 : 0 < h.length := by have h0 : (h.length : Int) ≠ 0 := h0; omega
    have k : ltI 0 (ic h.length) = true := by rw [ltI_t]; show (0 : Int) < (h.length : Int); omega
    have g0 := tC_get0 (h ++ g) 0 (by rw [List.length_append]; omega)
    have g1 := tC_get1 (h ++ g) 0 (by rw [List.length_append]; omega)
    rw [pk_app h0] at g0 g1
    rw [k, srt_head v.heap h0]
    exact ⟨g0, g1, (), trivial, ⟨q_ok _ _ _ _, r2_ok _ rfl, e_ok _ rfl, trivial⟩, ⟨rfl, rfl, rfl, trivial⟩, trivial⟩
theorem du_vc (h g : TL) (m : MP) (now : Int) (most : Int) (c eq : Nat) (v : Inv h m) (hc : h.length + g.length = c) : vDu h g m now most c eq := by
  rw [vDu_eq]
  have endA : (h.length = 0 ∨ now < (pk h 0).2) → dueL now (srt h) = [] := fun hs => (due_split (now := now) (out := []) (r := srt h) (fun t ht => by cases ht) (due_rest v hs)).1
  refine ⟨.inl ⟨(), trivial, ⟨q_ok _ _ _ _, r2_ok _ rfl, e_ok _ rfl, trivial⟩, trivial, trivial⟩, fun _ _ => ?_, fun x d => ?_⟩
  · refine cond_intro (fun h0 => ?_) fun h0 => ?_
    · rw [h0]
      rw [ltI_t] at h0
      have h0 : 0 < h.length := by have h0 : (0 : Int) < (h.length : Int) := h0; omega
      have g1 := tC_get1 (h ++ g) 0 (by rw [List.length_append]; omega)
      rw [pk_app h0] at g1
      refine ⟨g1, cond_intro (fun hd => ?_) fun hd => ?_⟩
      · rw [leI_t] at hd
        rw [hOf_tC, gOf_tC, getM_emap]
        refine ⟨⟨QR.mk' rfl, Int.le_refl _, by omega, ⟨v, h0⟩⟩, fun x r => .inr ⟨(x.1, _, x.2, [pk h 0]), due_first v hc h0 hd r, ?_, ⟨q2_ok _ _ (rm_len h0 r).symm rfl, r2_ok _ rfl, e_ok _ rfl, n2_ok _ rfl, trivial⟩, ⟨rfl, rfl, rfl, rfl⟩, trivial⟩⟩
        show x.1.length < h.length
        have := rm_len h0 r
        omega
      · rw [leI_f] at hd
        exact .inl ⟨(), endA (.inr hd), ⟨q_ok _ _ _ _, r2_ok _ rfl, e_ok _ rfl, trivial⟩, trivial, trivial⟩
    · rw [ltI_f] at h0
      have h0 : h.length = 0 := by have h0 : (h.length : Int) ≤ 0 := h0; omega
      exact .inl ⟨(), endA (.inl h0), ⟨q_ok _ _ _ _, r2_ok _ rfl, e_ok _ rfl, trivial⟩, trivial, trivial⟩
  · obtain ⟨h1, g1, m1, out⟩ := x
    dsimp only at d ⊢
    have dl := d.len
    have ol : out.length ≤ h.length := by
      have := congrArg List.length d.srt
      rw [srt_len, List.length_append] at this
      omega
    have hsz := v.sz
    have endB : (h1.length = 0 ∨ now < (pk h1 0).2) → dueL now (srt h) = out ∧ dueR now (srt h) = srt h1 := fun hs => by
      rw [d.srt]; exact due_split d.due (due_rest d.inv hs)
    refine cond_intro (fun h0 => ?_) fun h0 => ?_
    · rw [h0]
      rw [ltI_t] at h0
      have h0 : 0 < h1.length := by have h0 : (0 : Int) < (h1.length : Int) := h0; omega
      have gg := tC_get1 (h1 ++ g1) 0 (by rw [List.length_append]; omega)
      rw [pk_app h0] at gg
      refine ⟨gg, cond_intro (fun hd => ?_) fun hd => ?_⟩
      · rw [leI_t] at hd
        rw [hOf_tC, gOf_tC, getM_emap]
        refine ⟨⟨QR.mk' rfl, Int.le_refl _, by omega, ⟨d.inv, h0⟩⟩, fun x r => ?_⟩
        have k1 : (decide (out.length ≤ out.length) && decide (0 + out.length * 1 ≤ (nC out).length)) = true := by
          rw [nC_len, decide_eq_true (Nat.le_refl _), decide_eq_true (by omega)]; rfl
        have k2 : decide (out.length + 1 ≤ out.length) = false := decide_eq_false (by omega)
        have k3 : (decide (out.length + 1 ≤ 9223372036854775807) && decide ((out.length + 1) * 8 ≤ 140737488355328)) = true := by
          rw [decide_eq_true (by omega), decide_eq_true (by omega)]; rfl
        have k4 : (decide (out.length = out.length) && (decide (0 + out.length * 1 = (nC out).length) && true)) = true := by
          rw [nC_len, decide_eq_true (by rfl), decide_eq_true (by omega)]; rfl
        rw [k1, k2, k3, k4]
        refine .inr ⟨(x.1, _, x.2, out ++ [pk h1 0]), due_step d h0 hd r, ?_, ⟨q2_ok _ _ (rm_len h0 r).symm rfl, r2_ok _ rfl, e_ok _ rfl, n2_ok _ ?_, trivial⟩, ⟨rfl, by simp, by simp, rfl⟩, trivial⟩
        · show x.1.length < h1.length
          have := rm_len h0 r
          omega
        · unfold nC; rw [List.drop_zero, List.map_append]; rfl
      · rw [leI_f] at hd
        obtain ⟨e1, e2⟩ := endB (.inr hd)
        rw [e1]
        exact .inr ⟨(h1, g1, m1), ⟨d.ne, ⟨d.inv, e2.symm⟩, dl⟩, ⟨q_ok _ _ _ _, r2_ok _ rfl, e_ok _ rfl, n2_ok _ rfl, trivial⟩, ⟨rfl, rfl, rfl, rfl⟩, trivial⟩
    · rw [ltI_f] at h0
      have h0 : h1.length = 0 := by have h0 : (h1.length : Int) ≤ 0 := h0; omega
      obtain ⟨e1, e2⟩ := endB (.inl h0)
      rw [e1]
      exact .inr ⟨(h1, g1, m1), ⟨d.ne, ⟨d.inv, e2.symm⟩, dl⟩, ⟨q_ok _ _ _ _, r2_ok _ rfl, e_ok _ rfl, n2_ok _ rfl, trivial⟩, ⟨rfl, rfl, rfl, rfl⟩, trivial⟩
