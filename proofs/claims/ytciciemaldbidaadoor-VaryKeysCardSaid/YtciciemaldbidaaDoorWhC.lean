/- Tokens, texts many times over, light texts: as the law VaryWhite asks them. -/
import Derived.Test.YtciciemaldbidaaDoorRef
set_option linter.unusedSimpArgs false
set_option linter.unusedVariables false
namespace Go.Proofs.YtciciemaldbidaaDoor
open Go Go.Ve
set_option maxRecDepth 20000
def tcI (n : Int) : Bool := decide ((97 ≤ n ∧ n ≤ 122) ∨ (65 ≤ n ∧ n ≤ 90) ∨ (48 ≤ n ∧ n ≤ 57) ∨ n = 33 ∨ n = 35 ∨ n = 36 ∨ n = 37 ∨ n = 38 ∨ n = 39 ∨ n = 42 ∨ n = 43 ∨ n = 45 ∨ n = 46 ∨ n = 94 ∨ n = 95 ∨ n = 96 ∨ n = 124 ∨ n = 126)
def tcA (s : List UInt8) : Bool := s.all fun c => tcI c.toNat
def tokR (s : List UInt8) : Bool := Bool.and (tcA s) (decide (s ≠ []))
def gTc (args : List AV) : Option (Bool × AV) := match args with | [.int .u8 n] => some (true, .bool (tcI n)) | _ => none
noncomputable def faTc (f : FuncId) : Option FA := some ⟨[], [], []⟩
noncomputable def VTc : VE := ⟨Tryd.prog, noS, noO, faTc⟩
noncomputable def VTk : VE := ⟨Tryd.prog, tabS [(49, flatE gTc)] noS, noO, fun _ => none⟩
noncomputable def aTk (s : List UInt8) : Anns := [(2, [.mk Nat (fun i => [(3, .int .i64 i)]) (fun _ => none) (fun i => i ≤ s.length ∧ tcA (s.take i) = true) (fun i => s.length - i) none none (fun _ => []) (fun _ => [])])]
def tms (n : Nat) : List UInt8 := (List.replicate n [32, 9]).flatten
def sumT (l : LL) : Nat := (l.map List.length).sum
def litW (l : LL) : Bool := decide (l.length ≤ 10 ∧ sumT l ≤ 200)
noncomputable def aLitW (l r : LL) (e : Nat) (ro : Bool) : Anns := [(5, [.mk Nat (fun i => [(8, .int .i64 i), (7, .int .i64 (sumT (l.take i)))]) (fun _ => some [.cells (ts (l ++ r)) e ro]) (fun i => i ≤ l.length ∧ sumT (l.take i) ≤ 200) (fun i => l.length - i) gcB gcB (fun i => [(23, .str (l.getD i []))]) (fun _ => [])])]

noncomputable def vTc  (n : Int) : Prop := vcF VTc [] 300 [] [] 49 [.int .u8 n] [] (Go.Ve.one (.bool (tcI n)))
noncomputable def vTk  (s : List UInt8) : Prop := vcF VTk [] 300 (aTk s) [] 27 [.str s] [] (Go.Ve.one (.bool (tokR s)))
noncomputable def vTm1  : Prop := vcF VTc [] 300 [] [] 28 [.str [32, 9], .int .i64 1] [] (Go.Ve.one (.str [32, 9]))
noncomputable def vTm2  : Prop := vcF VTc [] 300 [] [] 28 [.str [32, 9], .int .i64 2] [] (Go.Ve.one (.str [32, 9, 32, 9]))
noncomputable def vTm3  : Prop := vcF VTc [] 300 [] [] 28 [.str [32, 9], .int .i64 3] [] (Go.Ve.one (.str [32, 9, 32, 9, 32, 9]))
noncomputable def vTm4  : Prop := vcF VTc [] 300 [] [] 28 [.str [32, 9], .int .i64 4] [] (Go.Ve.one (.str [32, 9, 32, 9, 32, 9, 32, 9]))
noncomputable def vLwN  : Prop := vcF VR1 [] 300 [] [] 26 [.nilsl, .int .i64 10, .int .i64 200] [] (Go.Ve.one (.bool true))
noncomputable def vLwZ  : Prop := vcF VR1 [] 300 [] [] 26 [.slz, .int .i64 10, .int .i64 200] [] (Go.Ve.one (.bool true))
noncomputable def vLw  (l r : LL) (e : Nat) (ro : Bool) (c : Nat) (ex : Bool) : Prop := vcF VR1 [] 300 (aLitW l r e ro) [] 26 [.sl 0 0 l.length c ex, .int .i64 10, .int .i64 200] [.cells (ts (l ++ r)) e ro] [⟨Unit, fun _ => .bool (litW l), fun _ => [.cells (ts (l ++ r)) e ro], fun _ => True, gcB⟩]
def gqWhC0 : Nat → Nat := (fun (b : Nat) => [(0 : Nat)].getD b (1 : Nat))
theorem vTc_eq  (n : Int) : vTc n = (bif leI (97 : Int) n then bif leI n (122 : Int) then ∃ (_x : Unit), True ∧ True ∧ true = tcI n ∧ True else bif leI (65 : Int) n then bif leI n (90 : Int) then ∃ (_x : Unit), True ∧ True ∧ true = tcI n ∧ True else bif leI (48 : Int) n then bif leI n (57 : Int) then ∃ (_x : Unit), True ∧ True ∧ true = tcI n ∧ True else bif eqI (33 : Int) n then ∃ (_x : Unit), True ∧ True ∧ true = tcI n ∧ True else bif eqI (35 : Int) n then ∃ (_x : Unit), True ∧ True ∧ true = tcI n ∧ True else bif eqI (36 : Int) n then ∃ (_x : Unit), True ∧ True ∧ true = tcI n ∧ True else bif eqI (37 : Int) n then ∃ (_x : Unit), True ∧ True ∧ true = tcI n ∧ True else bif eqI (38 : Int) n then ∃ (_x : Unit), True ∧ True ∧ true = tcI n ∧ True else bif eqI (39 : Int) n then ∃ (_x : Unit), True ∧ True ∧ true = tcI n ∧ True else bif eqI (42 : Int) n then ∃ (_x : Unit), True ∧ True ∧ true = tcI n ∧ True else bif eqI (43 : Int) n then ∃ (_x : Unit), True ∧ True ∧ true = tcI n ∧ True else bif eqI (45 : Int) n then ∃ (_x : Unit), True ∧ True ∧ true = tcI n ∧ True else bif eqI (46 : Int) n then ∃ (_x : Unit), True ∧ True ∧ true = tcI n ∧ True else bif eqI (94 : Int) n then ∃ (_x : Unit), True ∧ True ∧ true = tcI n ∧ True else bif eqI (95 : Int) n then ∃ (_x : Unit), True ∧ True ∧ true = tcI n ∧ True else bif eqI (96 : Int) n then ∃ (_x : Unit), True ∧ True ∧ true = tcI n ∧ True else bif eqI (124 : Int) n then ∃ (_x : Unit), True ∧ True ∧ true = tcI n ∧ True else bif eqI (126 : Int) n then ∃ (_x : Unit), True ∧ True ∧ true = tcI n ∧ True else ∃ (_x : Unit), True ∧ True ∧ false = tcI n ∧ True else bif eqI (33 : Int) n then ∃ (_x : Unit), True ∧ True ∧ true = tcI n ∧ True else bif eqI (35 : Int) n then ∃ (_x : Unit), True ∧ True ∧ true = tcI n ∧ True else bif eqI (36 : Int) n then ∃ (_x : Unit), True ∧ True ∧ true = tcI n ∧ True else bif eqI (37 : Int) n then ∃ (_x : Unit), True ∧ True ∧ true = tcI n ∧ True else bif eqI (38 : Int) n then ∃ (_x : Unit), True ∧ True ∧ true = tcI n ∧ True else bif eqI (39 : Int) n then ∃ (_x : Unit), True ∧ True ∧ true = tcI n ∧ True else bif eqI (42 : Int) n then ∃ (_x : Unit), True ∧ True ∧ true = tcI n ∧ True else bif eqI (43 : Int) n then ∃ (_x : Unit), True ∧ True ∧ true = tcI n ∧ True else bif eqI (45 : Int) n then ∃ (_x : Unit), True ∧ True ∧ true = tcI n ∧ True else bif eqI (46 : Int) n then ∃ (_x : Unit), True ∧ True ∧ true = tcI n ∧ True else bif eqI (94 : Int) n then ∃ (_x : Unit), True ∧ True ∧ true = tcI n ∧ True else bif eqI (95 : Int) n then ∃ (_x : Unit), True ∧ True ∧ true = tcI n ∧ True else bif eqI (96 : Int) n then ∃ (_x : Unit), True ∧ True ∧ true = tcI n ∧ True else bif eqI (124 : Int) n then ∃ (_x : Unit), True ∧ True ∧ true = tcI n ∧ True else bif eqI (126 : Int) n then ∃ (_x : Unit), True ∧ True ∧ true = tcI n ∧ True else ∃ (_x : Unit), True ∧ True ∧ false = tcI n ∧ True else bif leI (48 : Int) n then bif leI n (57 : Int) then ∃ (_x : Unit), True ∧ True ∧ true = tcI n ∧ True else bif eqI (33 : Int) n then ∃ (_x : Unit), True ∧ True ∧ true = tcI n ∧ True else bif eqI (35 : Int) n then ∃ (_x : Unit), True ∧ True ∧ true = tcI n ∧ True else bif eqI (36 : Int) n then ∃ (_x : Unit), True ∧ True ∧ true = tcI n ∧ True else bif eqI (37 : Int) n then ∃ (_x : Unit), True ∧ True ∧ true = tcI n ∧ True else bif eqI (38 : Int) n then ∃ (_x : Unit), True ∧ True ∧ true = tcI n ∧ True else bif eqI (39 : Int) n then ∃ (_x : Unit), True ∧ True ∧ true = tcI n ∧ True else bif eqI (42 : Int) n then ∃ (_x : Unit), True ∧ True ∧ true = tcI n ∧ True else bif eqI (43 : Int) n then ∃ (_x : Unit), True ∧ True ∧ true = tcI n ∧ True else bif eqI (45 : Int) n then ∃ (_x : Unit), True ∧ True ∧ true = tcI n ∧ True else bif eqI (46 : Int) n then ∃ (_x : Unit), True ∧ True ∧ true = tcI n ∧ True else bif eqI (94 : Int) n then ∃ (_x : Unit), True ∧ True ∧ true = tcI n ∧ True else bif eqI (95 : Int) n then ∃ (_x : Unit), True ∧ True ∧ true = tcI n ∧ True else bif eqI (96 : Int) n then ∃ (_x : Unit), True ∧ True ∧ true = tcI n ∧ True else bif eqI (124 : Int) n then ∃ (_x : Unit), True ∧ True ∧ true = tcI n ∧ True else bif eqI (126 : Int) n then ∃ (_x : Unit), True ∧ True ∧ true = tcI n ∧ True else ∃ (_x : Unit), True ∧ True ∧ false = tcI n ∧ True else bif eqI (33 : Int) n then ∃ (_x : Unit), True ∧ True ∧ true = tcI n ∧ True else bif eqI (35 : Int) n then ∃ (_x : Unit), True ∧ True ∧ true = tcI n ∧ True else bif eqI (36 : Int) n then ∃ (_x : Unit), True ∧ True ∧ true = tcI n ∧ True else bif eqI (37 : Int) n then ∃ (_x : Unit), True ∧ True ∧ true = tcI n ∧ True else bif eqI (38 : Int) n then ∃ (_x : Unit), True ∧ True ∧ true = tcI n ∧ True else bif eqI (39 : Int) n then ∃ (_x : Unit), True ∧ True ∧ true = tcI n ∧ True else bif eqI (42 : Int) n then ∃ (_x : Unit), True ∧ True ∧ true = tcI n ∧ True else bif eqI (43 : Int) n then ∃ (_x : Unit), True ∧ True ∧ true = tcI n ∧ True else bif eqI (45 : Int) n then ∃ (_x : Unit), True ∧ True ∧ true = tcI n ∧ True else bif eqI (46 : Int) n then ∃ (_x : Unit), True ∧ True ∧ true = tcI n ∧ True else bif eqI (94 : Int) n then ∃ (_x : Unit), True ∧ True ∧ true = tcI n ∧ True else bif eqI (95 : Int) n then ∃ (_x : Unit), True ∧ True ∧ true = tcI n ∧ True else bif eqI (96 : Int) n then ∃ (_x : Unit), True ∧ True ∧ true = tcI n ∧ True else bif eqI (124 : Int) n then ∃ (_x : Unit), True ∧ True ∧ true = tcI n ∧ True else bif eqI (126 : Int) n then ∃ (_x : Unit), True ∧ True ∧ true = tcI n ∧ True else ∃ (_x : Unit), True ∧ True ∧ false = tcI n ∧ True else bif leI (65 : Int) n then bif leI n (90 : Int) then ∃ (_x : Unit), True ∧ True ∧ true = tcI n ∧ True else bif leI (48 : Int) n then bif leI n (57 : Int) then ∃ (_x : Unit), True ∧ True ∧ true = tcI n ∧ True else bif eqI (33 : Int) n then ∃ (_x : Unit), True ∧ True ∧ true = tcI n ∧ True else bif eqI (35 : Int) n then ∃ (_x : Unit), True ∧ True ∧ true = tcI n ∧ True else bif eqI (36 : Int) n then ∃ (_x : Unit), True ∧ True ∧ true = tcI n ∧ True else bif eqI (37 : Int) n then ∃ (_x : Unit), True ∧ True ∧ true = tcI n ∧ True else bif eqI (38 : Int) n then ∃ (_x : Unit), True ∧ True ∧ true = tcI n ∧ True else bif eqI (39 : Int) n then ∃ (_x : Unit), True ∧ True ∧ true = tcI n ∧ True else bif eqI (42 : Int) n then ∃ (_x : Unit), True ∧ True ∧ true = tcI n ∧ True else bif eqI (43 : Int) n then ∃ (_x : Unit), True ∧ True ∧ true = tcI n ∧ True else bif eqI (45 : Int) n then ∃ (_x : Unit), True ∧ True ∧ true = tcI n ∧ True else bif eqI (46 : Int) n then ∃ (_x : Unit), True ∧ True ∧ true = tcI n ∧ True else bif eqI (94 : Int) n then ∃ (_x : Unit), True ∧ True ∧ true = tcI n ∧ True else bif eqI (95 : Int) n then ∃ (_x : Unit), True ∧ True ∧ true = tcI n ∧ True else bif eqI (96 : Int) n then ∃ (_x : Unit), True ∧ True ∧ true = tcI n ∧ True else bif eqI (124 : Int) n then ∃ (_x : Unit), True ∧ True ∧ true = tcI n ∧ True else bif eqI (126 : Int) n then ∃ (_x : Unit), True ∧ True ∧ true = tcI n ∧ True else ∃ (_x : Unit), True ∧ True ∧ false = tcI n ∧ True else bif eqI (33 : Int) n then ∃ (_x : Unit), True ∧ True ∧ true = tcI n ∧ True else bif eqI (35 : Int) n then ∃ (_x : Unit), True ∧ True ∧ true = tcI n ∧ True else bif eqI (36 : Int) n then ∃ (_x : Unit), True ∧ True ∧ true = tcI n ∧ True else bif eqI (37 : Int) n then ∃ (_x : Unit), True ∧ True ∧ true = tcI n ∧ True else bif eqI (38 : Int) n then ∃ (_x : Unit), True ∧ True ∧ true = tcI n ∧ True else bif eqI (39 : Int) n then ∃ (_x : Unit), True ∧ True ∧ true = tcI n ∧ True else bif eqI (42 : Int) n then ∃ (_x : Unit), True ∧ True ∧ true = tcI n ∧ True else bif eqI (43 : Int) n then ∃ (_x : Unit), True ∧ True ∧ true = tcI n ∧ True else bif eqI (45 : Int) n then ∃ (_x : Unit), True ∧ True ∧ true = tcI n ∧ True else bif eqI (46 : Int) n then ∃ (_x : Unit), True ∧ True ∧ true = tcI n ∧ True else bif eqI (94 : Int) n then ∃ (_x : Unit), True ∧ True ∧ true = tcI n ∧ True else bif eqI (95 : Int) n then ∃ (_x : Unit), True ∧ True ∧ true = tcI n ∧ True else bif eqI (96 : Int) n then ∃ (_x : Unit), True ∧ True ∧ true = tcI n ∧ True else bif eqI (124 : Int) n then ∃ (_x : Unit), True ∧ True ∧ true = tcI n ∧ True else bif eqI (126 : Int) n then ∃ (_x : Unit), True ∧ True ∧ true = tcI n ∧ True else ∃ (_x : Unit), True ∧ True ∧ false = tcI n ∧ True else bif leI (48 : Int) n then bif leI n (57 : Int) then ∃ (_x : Unit), True ∧ True ∧ true = tcI n ∧ True else bif eqI (33 : Int) n then ∃ (_x : Unit), True ∧ True ∧ true = tcI n ∧ True else bif eqI (35 : Int) n then ∃ (_x : Unit), True ∧ True ∧ true = tcI n ∧ True else bif eqI (36 : Int) n then ∃ (_x : Unit), True ∧ True ∧ true = tcI n ∧ True else bif eqI (37 : Int) n then ∃ (_x : Unit), True ∧ True ∧ true = tcI n ∧ True else bif eqI (38 : Int) n then ∃ (_x : Unit), True ∧ True ∧ true = tcI n ∧ True else bif eqI (39 : Int) n then ∃ (_x : Unit), True ∧ True ∧ true = tcI n ∧ True else bif eqI (42 : Int) n then ∃ (_x : Unit), True ∧ True ∧ true = tcI n ∧ True else bif eqI (43 : Int) n then ∃ (_x : Unit), True ∧ True ∧ true = tcI n ∧ True else bif eqI (45 : Int) n then ∃ (_x : Unit), True ∧ True ∧ true = tcI n ∧ True else bif eqI (46 : Int) n then ∃ (_x : Unit), True ∧ True ∧ true = tcI n ∧ True else bif eqI (94 : Int) n then ∃ (_x : Unit), True ∧ True ∧ true = tcI n ∧ True else bif eqI (95 : Int) n then ∃ (_x : Unit), True ∧ True ∧ true = tcI n ∧ True else bif eqI (96 : Int) n then ∃ (_x : Unit), True ∧ True ∧ true = tcI n ∧ True else bif eqI (124 : Int) n then ∃ (_x : Unit), True ∧ True ∧ true = tcI n ∧ True else bif eqI (126 : Int) n then ∃ (_x : Unit), True ∧ True ∧ true = tcI n ∧ True else ∃ (_x : Unit), True ∧ True ∧ false = tcI n ∧ True else bif eqI (33 : Int) n then ∃ (_x : Unit), True ∧ True ∧ true = tcI n ∧ True else bif eqI (35 : Int) n then ∃ (_x : Unit), True ∧ True ∧ true = tcI n ∧ True else bif eqI (36 : Int) n then ∃ (_x : Unit), True ∧ True ∧ true = tcI n ∧ True else bif eqI (37 : Int) n then ∃ (_x : Unit), True ∧ True ∧ true = tcI n ∧ True else bif eqI (38 : Int) n then ∃ (_x : Unit), True ∧ True ∧ true = tcI n ∧ True else bif eqI (39 : Int) n then ∃ (_x : Unit), True ∧ True ∧ true = tcI n ∧ True else bif eqI (42 : Int) n then ∃ (_x : Unit), True ∧ True ∧ true = tcI n ∧ True else bif eqI (43 : Int) n then ∃ (_x : Unit), True ∧ True ∧ true = tcI n ∧ True else bif eqI (45 : Int) n then ∃ (_x : Unit), True ∧ True ∧ true = tcI n ∧ True else bif eqI (46 : Int) n then ∃ (_x : Unit), True ∧ True ∧ true = tcI n ∧ True else bif eqI (94 : Int) n then ∃ (_x : Unit), True ∧ True ∧ true = tcI n ∧ True else bif eqI (95 : Int) n then ∃ (_x : Unit), True ∧ True ∧ true = tcI n ∧ True else bif eqI (96 : Int) n then ∃ (_x : Unit), True ∧ True ∧ true = tcI n ∧ True else bif eqI (124 : Int) n then ∃ (_x : Unit), True ∧ True ∧ true = tcI n ∧ True else bif eqI (126 : Int) n then ∃ (_x : Unit), True ∧ True ∧ true = tcI n ∧ True else ∃ (_x : Unit), True ∧ True ∧ false = tcI n ∧ True) := by kernel_rfl
theorem vTk_eq  (s : List UInt8) : vTk s = ((∃ (x : Nat), (x ≤ s.length ∧ tcA (List.take x s) = true) ∧ True ∧ (0 : Int) = ic x ∧ True) ∧ ∀ (x : Nat), x ≤ s.length ∧ tcA (List.take x s) = true → bif ltI (ic x) (ic s.length) then bif ltI (ic x) (ic s.length) then bif !tcI (byteAt s x) then ∃ (_x : Unit), True ∧ True ∧ false = tokR s ∧ True else bif leI (ic x + (1 : Int)) (9223372036854775807 : Int) then ∃ (y : Nat), (y ≤ s.length ∧ tcA (List.take y s) = true) ∧ s.length - y < s.length - x ∧ True ∧ ic x + (1 : Int) = ic y ∧ True else False else False else ∃ (_x : Unit), True ∧ True ∧ (!decide (s = [])) = tokR s ∧ True) := by kernel_rfl
theorem vTm1_eq  : vTm1  = (∃ (_x : Unit), True ∧ True ∧ ([] : List UInt8) ++ [(32 : UInt8), (9 : UInt8)] = [(32 : UInt8), (9 : UInt8)] ∧ True) := by kernel_rfl
theorem vTm2_eq  : vTm2  = (∃ (_x : Unit), True ∧ True ∧ ([] : List UInt8) ++ ([(32 : UInt8), (9 : UInt8)] ++ [(32 : UInt8), (9 : UInt8)]) = [(32 : UInt8), (9 : UInt8), (32 : UInt8), (9 : UInt8)] ∧ True) := by kernel_rfl
theorem vTm3_eq  : vTm3  = (∃ (_x : Unit), True ∧ True ∧ ([] : List UInt8) ++ [(32 : UInt8), (9 : UInt8)] ++ ([(32 : UInt8), (9 : UInt8)] ++ [(32 : UInt8), (9 : UInt8)]) = [(32 : UInt8), (9 : UInt8), (32 : UInt8), (9 : UInt8), (32 : UInt8), (9 : UInt8)] ∧ True) := by kernel_rfl
theorem vTm4_eq  : vTm4  = (∃ (_x : Unit), True ∧ True ∧ ([] : List UInt8) ++ ([(32 : UInt8), (9 : UInt8)] ++ [(32 : UInt8), (9 : UInt8)] ++ ([(32 : UInt8), (9 : UInt8)] ++ [(32 : UInt8), (9 : UInt8)])) = [(32 : UInt8), (9 : UInt8), (32 : UInt8), (9 : UInt8), (32 : UInt8), (9 : UInt8), (32 : UInt8), (9 : UInt8)] ∧ True) := by kernel_rfl
theorem vLwN_eq  : vLwN  = (∃ (_x : Unit), True ∧ True ∧ true = true ∧ True) := by kernel_rfl
theorem vLwZ_eq  : vLwZ  = (∃ (_x : Unit), True ∧ True ∧ true = true ∧ True) := by kernel_rfl
theorem vLw_eq  (l r : LL) (e : Nat) (ro : Bool) (c : Nat) (ex : Bool) : vLw l r e ro c ex = (bif ltI (10 : Int) (ic (List.length l)) then ∃ (_x : Unit), True ∧ ((bif e.beq e && sameB ro ro then cellsP gqWhC0 (ts (l ++ r)) (ts (l ++ r)) ∧ True else False) ∧ True) ∧ false = litW l ∧ True else (∃ (x : Nat), (x ≤ List.length l ∧ sumT (List.take x l) ≤ (200 : Nat)) ∧ ((bif e.beq e && sameB ro ro then cellsP gqWhC0 (ts (l ++ r)) (ts (l ++ r)) ∧ True else False) ∧ True) ∧ (0 : Int) = ic x ∧ (0 : Int) = ic (sumT (List.take x l)) ∧ True) ∧ ∀ (x : Nat), x ≤ List.length l ∧ sumT (List.take x l) ≤ (200 : Nat) → bif ltI (ic x) (ic (List.length l)) then bif ltI (ic x) (ic (List.length l)) then (ts (l ++ r))[(0 : Nat) + x * (1 : Nat)]? = some (AV.str (List.getD l x [])) ∧ bif leI (ic (sumT (List.take x l)) + ic (List.getD l x []).length) (9223372036854775807 : Int) then bif ltI (200 : Int) (ic (sumT (List.take x l)) + ic (List.getD l x []).length) then ∃ (_x : Unit), True ∧ ((bif e.beq e && sameB ro ro then cellsP gqWhC0 (ts (l ++ r)) (ts (l ++ r)) ∧ True else False) ∧ True) ∧ false = litW l ∧ True else bif leI (ic x + (1 : Int)) (9223372036854775807 : Int) then ∃ (y : Nat), (y ≤ List.length l ∧ sumT (List.take y l) ≤ (200 : Nat)) ∧ List.length l - y < List.length l - x ∧ ((bif e.beq e && sameB ro ro then cellsP gqWhC0 (ts (l ++ r)) (ts (l ++ r)) ∧ True else False) ∧ True) ∧ ic x + (1 : Int) = ic y ∧ ic (sumT (List.take x l)) + ic (List.getD l x []).length = ic (sumT (List.take y l)) ∧ True else False else False else False else ∃ (_x : Unit), True ∧ ((bif e.beq e && sameB ro ro then cellsP gqWhC0 (ts (l ++ r)) (ts (l ++ r)) ∧ True else False) ∧ True) ∧ true = litW l ∧ True) := by kernel_rfl
structure Holds2 (p : Prop) : Prop where
  h : p
theorem SC.ofH2 {V : VE} (hP : V.P.funcs.all (fun fn => !(fn.name == "runtime.NumGoroutine")) = true) (hm : V.P.follows .mixedOrders = true) (hS : SpecOk V.P V.sp) (hO : CallOk V.P V.orc) {md : List (Nat × DMode)} {k : Nat} {A : Anns} {hs : List (Nat × AV)} {f : FuncId} {args : List AV} {H : AH} {L : List Out} (h : Holds2 (vcF V md k A hs f args H L)) : SC V.P f args H (outE L) := SC.ofF hP hm hS hO h.h
theorem oneH {f : FuncId} {args : List AV} {v : AV} (h : SC Tryd.prog f args [] (outE (Go.Ve.one v))) : SC Tryd.prog f args [] (fun v' H' => v' = v ∧ H' = []) :=
  h.mono fun v' H' h => by
    obtain ⟨_, _, h1, h2⟩ := outE_one h
    exact ⟨h1, h2⟩
theorem tc_vc (n : Int) : vTc n := by
  rw [vTc_eq]
  simp only [cond_P, leI_t, leI_f, ltI_t, ltI_f, eqI_t, eqI_f, and_t, not_t, not_f, dec_t, dec_f, Nat.zero_add, Nat.mul_one, List.drop_zero]
  simp only [cells_tsr, cells_fld, take_ts, ts_length, and_true, true_and, and_false, false_and, or_false, false_or, exists_false, Nat.le_refl, exists_const, Nat.succ_ne_self, Nat.not_succ_le_self, false_implies, not_false_eq_true, true_implies, fldT_at, fldOk_at, getS_ts]
  unfold tcI
  simp only [true_eq_decide_iff, false_eq_decide_iff]
  omega
theorem tcA_step {s : List UInt8} {x : Nat} (hx : x < s.length) : tcA (s.take (x + 1)) = (tcA (s.take x) && tcI (byteAt s x)) := by
  unfold tcA
  rw [List.take_succ_eq_append_getElem hx, byteAt_get _ _ hx, List.all_append]
  simp only [List.all_cons, List.all_nil, Bool.and_true]
theorem tcA_take {s : List UInt8} (h : tcA s = true) (x : Nat) : tcA (s.take x) = true := by
  unfold tcA at h ⊢
  rw [List.all_eq_true] at h ⊢
  exact fun c hc => h c (List.mem_of_mem_take hc)
theorem tk_vc (s : List UInt8) (hs : s.length ≤ 1099511627776) : vTk s := by
  rw [vTk_eq]
  simp only [ic, cond_F]
  simp only [cond_P, leI_t, leI_f, ltI_t, ltI_f, eqI_t, eqI_f, and_t, not_t, not_f, dec_t, dec_f, Nat.zero_add, Nat.mul_one, List.drop_zero]
  simp only [cells_tsr, cells_fld, take_ts, ts_length, and_true, true_and, and_false, false_and, or_false, false_or, exists_false, Nat.le_refl, exists_const, Nat.succ_ne_self, Nat.not_succ_le_self, false_implies, not_false_eq_true, true_implies, fldT_at, fldOk_at, getS_ts]
  refine ⟨⟨0, ⟨Nat.zero_le _, rfl⟩, rfl⟩, fun x hx => ⟨fun hlt => ?_, fun hge => ?_⟩⟩
  · have hx' : x < s.length := by omega
    have h1 := tcA_step hx'
    refine ⟨hlt, fun h => ?_, fun h => ⟨by omega, x + 1, ⟨by omega, by rw [h1, hx.2, h]; rfl⟩, by omega, rfl⟩⟩
    rw [h, Bool.and_false] at h1
    cases ht : tcA s with
    | true => rw [tcA_take ht] at h1; cases h1
    | false => unfold tokR; rw [ht]; rfl
  · have e : s.take x = s := List.take_of_length_le (by omega)
    rw [e] at hx
    unfold tokR
    rw [hx.2]
    by_cases h : s = [] <;> simp [h]
theorem tm1_vc : Holds2 vTm1 := ⟨by rw [vTm1_eq]; simp⟩
theorem tm2_vc : Holds2 vTm2 := ⟨by rw [vTm2_eq]; simp⟩
theorem tm3_vc : Holds2 vTm3 := ⟨by rw [vTm3_eq]; simp⟩
theorem tm4_vc : Holds2 vTm4 := ⟨by rw [vTm4_eq]; simp⟩
theorem lwN_vc : Holds2 vLwN := ⟨by rw [vLwN_eq]; simp⟩
theorem lwZ_vc : Holds2 vLwZ := ⟨by rw [vLwZ_eq]; simp⟩
theorem sumT_app (a b : LL) : sumT (a ++ b) = sumT a + sumT b := by simp [sumT]
theorem sumT_step {l : LL} {x : Nat} (hx : x < l.length) : sumT (l.take (x + 1)) = sumT (l.take x) + (l.getD x []).length := by
  rw [List.take_succ_eq_append_getElem hx, sumT_app]
  simp [sumT, List.getD_eq_getElem?_getD, List.getElem?_eq_getElem hx]
theorem sumT_take (l : LL) (x : Nat) : sumT (l.take x) ≤ sumT l := by
  have := sumT_app (l.take x) (l.drop x)
  rw [List.take_append_drop] at this
  omega
theorem ts_get2 {l r : LL} {x : Nat} (hx : x < l.length) : (ts (l ++ r))[x]? = some (AV.str (List.getD l x [])) := by
  rw [ts_get (by rw [List.length_append]; omega), List.getD_eq_getElem?_getD, List.getD_eq_getElem?_getD, List.getElem?_append_left hx]
theorem lw_vc (l r : LL) (e : Nat) (ro : Bool) (c : Nat) (ex : Bool) (hl : ∀ s ∈ l, s.length ≤ 281474976710656) : vLw l r e ro c ex := by
  rw [vLw_eq]
  simp only [ic, cond_F, sameB_self, Nat.beq_refl]
  simp only [cond_P, leI_t, leI_f, ltI_t, ltI_f, eqI_t, eqI_f, and_t, not_t, not_f, dec_t, dec_f, Nat.zero_add, Nat.mul_one, List.drop_zero]
  simp only [cells_tsr, cells_fld, take_ts, ts_length, and_true, true_and, and_false, false_and, or_false, false_or, exists_false, Nat.le_refl, exists_const, Nat.succ_ne_self, Nat.not_succ_le_self, false_implies, not_false_eq_true, true_implies, fldT_at, fldOk_at, getS_ts]
  refine ⟨fun h => (decide_eq_false (by omega)).symm, fun h => ⟨⟨0, ⟨Nat.zero_le _, Nat.zero_le _⟩, rfl, rfl⟩, fun x hx => ⟨fun hlt => ?_, fun hge => ?_⟩⟩⟩
  · have hx' : x < l.length := by omega
    have h2 := hl _ (getD_mem hx')
    have h3 := sumT_step hx'
    have h4 := sumT_take l (x + 1)
    refine ⟨hlt, ts_get2 hx', by omega, fun hb => (decide_eq_false (by omega)).symm, fun hb => ⟨by omega, x + 1, ⟨by omega, by omega⟩, by omega, by omega, by omega⟩⟩
  · have e : l.take x = l := List.take_of_length_le (by omega)
    rw [e] at hx
    exact (decide_eq_true (by omega)).symm
noncomputable def eLitW : SpecE := fun args H =>
  match args with
  | [.nilsl, .int .i64 10, .int .i64 200] => some (.ok (.bool true) none)
  | [.slz, .int .i64 10, .int .i64 200] => some (.ok (.bool true) none)
  | [.sl b 0 n _ _, .int .i64 10, .int .i64 200] => match H[b]? with
    | some (.cells vs _ _) => some (.needP (vs = ts (getS vs) ∧ n ≤ (getS vs).length ∧ ∀ s ∈ (getS vs).take n, s.length ≤ 281474976710656) (.ok (.bool (litW ((getS vs).take n))) none))
    | _ => none
  | _ => none
theorem eLitW_ok : EntryOk Tryd.prog 26 eLitW := by
  intro args H sr hs K hk
  unfold eLitW at hs
  split at hs
  · cases hs
    refine (SC.flat (K := fun v' H' => v' = .bool true ∧ H' = H) (oneH (SC.ofH2 (V := VR1) names0 mixed0 TR1_ok noO_ok lwN_vc)) rfl ?_).mono ?_
    · rintro v0 T ⟨rfl, rfl⟩; exact ⟨(fun k hk => by cases hk), rfl, by simp⟩
    · rintro v H' ⟨rfl, rfl⟩; exact ⟨none, hk, rfl⟩
  · cases hs
    refine (SC.flat (K := fun v' H' => v' = .bool true ∧ H' = H) (oneH (SC.ofH2 (V := VR1) names0 mixed0 TR1_ok noO_ok lwZ_vc)) rfl ?_).mono ?_
    · rintro v0 T ⟨rfl, rfl⟩; exact ⟨(fun k hk => by cases hk), rfl, by simp⟩
    · rintro v H' ⟨rfl, rfl⟩; exact ⟨none, hk, rfl⟩
  · rename_i b n c ex
    split at hs
    · rename_i vs e ro hb
      cases hs
      obtain ⟨⟨g1, g2, g3⟩, h2⟩ := hk
      have hl : n = ((getS vs).take n).length := by rw [List.length_take]; omega
      have h1 : vs = ts ((getS vs).take n ++ (getS vs).drop n) := by rw [List.take_append_drop]; exact g1
      generalize (getS vs).drop n = r at *
      generalize (getS vs).take n = l at *
      subst h1
      subst hl
      have hsc := out1 (SC.ofF (V := VR1) names0 mixed0 TR1_ok noO_ok (lw_vc l r e ro c ex g3))
      refine SC.reads1 (b := b) (H := H) hsc (cells_ren (ts_flat _) e ro) (by simp) hb ?_
      rintro v0 H0' ⟨rfl, rfl⟩
      exact ⟨[], rfl, (fun t ht => by cases ht), none, h2, by simp [chN]⟩
    · cases hs
  · cases hs
theorem gTc_ok : EntryOk Tryd.prog 49 (flatE gTc) := by
  refine flatE_ok fun args b v hg hb => ?_
  unfold gTc at hg
  split at hg
  · cases hg
    exact ⟨rfl, rfl, SC.one (V := VTc) names0 mixed0 noS_ok noO_ok (tc_vc _)⟩
  · cases hg
theorem VTk_ok : SpecOk Tryd.prog (tabS [(49, flatE gTc)] noS) := by
  refine tabS_ok (fun p hp => ?_) noS_ok
  simp only [List.mem_cons, List.mem_nil_iff, or_false] at hp
  subst hp
  exact gTc_ok
theorem eTokR_ok : EntryOk Tryd.prog 27 (flatE (g1 le40 fun s => .bool (tokR s))) :=
  g1_ok (fun _ => rfl) fun s hs => SC.one (V := VTk) names0 mixed0 VTk_ok noO_ok (tk_vc s (of_decide_eq_true hs))
noncomputable def eTimes : SpecE := fun args _ =>
  match args with
  | [.str [32, 9], .int .i64 n] => some (.needP (1 ≤ n ∧ n ≤ 4) (.ok (.str (tms n.toNat)) none))
  | _ => none
theorem eTimes_ok : EntryOk Tryd.prog 28 eTimes := by
  intro args H sr hs K hk
  unfold eTimes at hs
  split at hs
  · rename_i n
    cases hs
    obtain ⟨hn, h2⟩ := hk
    have go : ∀ {v : List UInt8}, SC Tryd.prog 28 [.str [32, 9], .int .i64 n] [] (fun v' H' => v' = .str v ∧ H' = []) → v = tms n.toNat → SC Tryd.prog 28 [.str [32, 9], .int .i64 n] H fun v' H' => ∃ ch, K v' ch ∧ H' = chN H ch := fun {v} h e => by
      subst e
      refine SC.flat h rfl ?_
      rintro v0 T ⟨rfl, rfl⟩
      exact ⟨(fun k hk => by cases hk), none, h2, by simp [chN]⟩
    have h4 : n = 1 ∨ n = 2 ∨ n = 3 ∨ n = 4 := by omega
    rcases h4 with rfl | rfl | rfl | rfl
    · exact go (oneH (SC.ofH2 (V := VTc) names0 mixed0 noS_ok noO_ok tm1_vc)) rfl
    · exact go (oneH (SC.ofH2 (V := VTc) names0 mixed0 noS_ok noO_ok tm2_vc)) rfl
    · exact go (oneH (SC.ofH2 (V := VTc) names0 mixed0 noS_ok noO_ok tm3_vc)) rfl
    · exact go (oneH (SC.ofH2 (V := VTc) names0 mixed0 noS_ok noO_ok tm4_vc)) rfl
  · cases hs
end Go.Proofs.YtciciemaldbidaaDoor
