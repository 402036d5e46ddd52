/- What Pick, backs, Same answer. -/
import Derived.Test.YtiobbjbodpkpjaaGreatDoorTags
import Derived.Test.YtiobbjbodpkpjaaGreatDoorSc
set_option linter.unusedSimpArgs false
set_option linter.unusedVariables false
namespace Go.Proofs.YtiobbjbodpkpjaaGreatDoor
open Go Go.Ve
set_option maxRecDepth 20000
def pickF (n m : Int) : Int := if m < 1 then 0 else n % m
noncomputable def V7 : VE := ⟨Tryz.prog, noS, noO, fun _ => none⟩
def backsF (s : List UInt8) : Bool := s.any fun c => decide (c.toNat = 92)
noncomputable def aBacks (s : List UInt8) : Anns := [(2, [.mk Nat (fun i => [(3, .int .i64 i)]) (fun _ => none) (fun i => i ≤ s.length ∧ (s.take i).any (fun c => decide (c.toNat = 92)) = false) (fun i => s.length - i) none none (fun _ => []) (fun _ => [])])]
abbrev TL := List (Bool × List UInt8)
def eqT (x y : Bool × List UInt8) : Bool := x.1 == y.1 && x.2 == y.2
def tg (l : TL) (i : Nat) : Bool × List UInt8 := l.getD i (false, [])
noncomputable def aSame (a b : TL) : Anns := [(4, [.mk Nat (fun i => [(5, .int .i64 i)]) (fun _ => none) (fun i => i ≤ a.length ∧ a.take i = b.take i) (fun i => a.length - i) none none (fun i => [(20, .agg [.bool (tg a i).1, .str (tg a i).2]), (24, .agg [.bool (tg b i).1, .str (tg b i).2]), (25, .bool (!eqT (tg a i) (tg b i)))]) (fun _ => [])])]

noncomputable def vPick  (n m : Int) : Prop := vcF V7 [] 300 [] [(10, .int .i64 0)] 5 [.int .i64 n, .int .i64 m] [] (one (.int .i64 (pickF n m)))
noncomputable def vBacks  (s : List UInt8) : Prop := vcF V7 [] 300 (aBacks s) [] 7 [.str s] [] (one (.bool (backsF s)))
noncomputable def vSame  (a b : TL) (r : TL) : Prop := vcF V7 [(6, .quiet)] 300 (aSame a b) [] 9 [.sl 0 0 a.length a.length false, .sl 1 0 b.length (b.length + r.length) true] [.cells (tagC a) eG false, .cells (tagC (b ++ r)) 0 true] [⟨Unit, fun _ => .bool (decide (a = b)), fun _ => [.cells (tagC a) eG false, .cells (tagC (b ++ r)) 0 true], fun _ => True, none⟩]
theorem vPick_eq  (n m : Int) : vPick n m = (bif ltI m (1 : Int) then ∃ (_x : Unit), True ∧ True ∧ (0 : Int) = pickF n m ∧ True else bif !eqI m (0 : Int) then bif ltI (n.tmod m) (0 : Int) then bif leI (-9223372036854775808 : Int) (n.tmod m + m) && leI (n.tmod m + m) (9223372036854775807 : Int) then ∃ (_x : Unit), True ∧ True ∧ n.tmod m + m = pickF n m ∧ True else False else ∃ (_x : Unit), True ∧ True ∧ n.tmod m = pickF n m ∧ True else False) := by kernel_rfl
theorem vBacks_eq  (s : List UInt8) : vBacks s = ((∃ (x : Nat), (x ≤ s.length ∧ ((List.take x s).any fun (c : UInt8) => decide (c.toNat = (92 : Nat))) = false) ∧ True ∧ (0 : Int) = ic x ∧ True) ∧ ∀ (x : Nat), x ≤ s.length ∧ ((List.take x s).any fun (c : UInt8) => decide (c.toNat = (92 : Nat))) = false → bif ltI (ic x) (ic s.length) then bif ltI (ic x) (ic s.length) then bif eqI (byteAt s x) (92 : Int) then ∃ (_x : Unit), True ∧ True ∧ true = backsF s ∧ True else bif leI (ic x + (1 : Int)) (9223372036854775807 : Int) then ∃ (y : Nat), (y ≤ s.length ∧ ((List.take y s).any fun (c : UInt8) => decide (c.toNat = (92 : Nat))) = false) ∧ s.length - y < s.length - x ∧ True ∧ ic x + (1 : Int) = ic y ∧ True else False else False else ∃ (_x : Unit), True ∧ True ∧ false = backsF s ∧ True) := by kernel_rfl
theorem vSame_eq  (a b : TL) (r : TL) : vSame a b r = (bif !eqI (ic (List.length a)) (ic (List.length b)) then ∃ (_x : Unit), True ∧ ((cellsP (fun (b : Nat) => [(0 : Nat), (1 : Nat)].getD b (2 : Nat)) (tagC a) (tagC a) ∧ True) ∧ (cellsP (fun (b : Nat) => [(0 : Nat), (1 : Nat)].getD b (2 : Nat)) (tagC (b ++ r)) (tagC (b ++ r)) ∧ True) ∧ True) ∧ false = decide (a = b) ∧ True else (∃ (x : Nat), (x ≤ List.length a ∧ List.take x a = List.take x b) ∧ ((cellsP (fun (b : Nat) => [(0 : Nat), (1 : Nat)].getD b (2 : Nat)) (tagC a) (tagC a) ∧ True) ∧ (cellsP (fun (b : Nat) => [(0 : Nat), (1 : Nat)].getD b (2 : Nat)) (tagC (b ++ r)) (tagC (b ++ r)) ∧ True) ∧ True) ∧ (0 : Int) = ic x ∧ True) ∧ ∀ (x : Nat), x ≤ List.length a ∧ List.take x a = List.take x b → bif ltI (ic x) (ic (List.length a)) then bif ltI (ic x) (ic (List.length a)) then bif decide ((0 : Nat) + x * (2 : Nat) + (2 : Nat) ≤ (tagC a).length) then List.take (2 : Nat) (List.drop ((0 : Nat) + x * (2 : Nat)) (tagC a)) = [AV.bool (tg a x).fst, AV.str (tg a x).snd] ∧ bif ltI (ic x) (ic (List.length b)) then bif decide ((0 : Nat) + x * (2 : Nat) + (2 : Nat) ≤ (tagC (b ++ r)).length) then List.take (2 : Nat) (List.drop ((0 : Nat) + x * (2 : Nat)) (tagC (b ++ r))) = [AV.bool (tg b x).fst, AV.str (tg b x).snd] ∧ aeqX Tryz.prog BinOp.neq (29 : Nat) (Operand.tmp (20 : Nat)) (Operand.tmp (24 : Nat)) (AV.agg [AV.bool (tg a x).fst, AV.str (tg a x).snd]) (AV.agg [AV.bool (tg b x).fst, AV.str (tg b x).snd]) = some !eqT (tg a x) (tg b x) ∧ bif !eqT (tg a x) (tg b x) then ∃ (_x : Unit), True ∧ ((cellsP (fun (b : Nat) => [(0 : Nat), (1 : Nat)].getD b (2 : Nat)) (tagC a) (tagC a) ∧ True) ∧ (cellsP (fun (b : Nat) => [(0 : Nat), (1 : Nat)].getD b (2 : Nat)) (tagC (b ++ r)) (tagC (b ++ r)) ∧ True) ∧ True) ∧ false = decide (a = b) ∧ True else bif leI (ic x + (1 : Int)) (9223372036854775807 : Int) then ∃ (y : Nat), (y ≤ List.length a ∧ List.take y a = List.take y b) ∧ List.length a - y < List.length a - x ∧ ((cellsP (fun (b : Nat) => [(0 : Nat), (1 : Nat)].getD b (2 : Nat)) (tagC a) (tagC a) ∧ True) ∧ (cellsP (fun (b : Nat) => [(0 : Nat), (1 : Nat)].getD b (2 : Nat)) (tagC (b ++ r)) (tagC (b ++ r)) ∧ True) ∧ True) ∧ ic x + (1 : Int) = ic y ∧ True else False else False else False else False else False else ∃ (_x : Unit), True ∧ ((cellsP (fun (b : Nat) => [(0 : Nat), (1 : Nat)].getD b (2 : Nat)) (tagC a) (tagC a) ∧ True) ∧ (cellsP (fun (b : Nat) => [(0 : Nat), (1 : Nat)].getD b (2 : Nat)) (tagC (b ++ r)) (tagC (b ++ r)) ∧ True) ∧ True) ∧ true = decide (a = b) ∧ True) := by kernel_rfl
theorem bytes_beq (a b : List UInt8) : ((⟨⟨a⟩⟩ : ByteArray) == ⟨⟨b⟩⟩) = (a == b) := by
  rw [Bool.eq_iff_iff]
  constructor
  · intro h
    have e : (⟨a⟩ : Array UInt8) = ⟨b⟩ := eq_of_beq h
    have e2 : a = b := congrArg Array.toList e
    rw [e2]; simp
  · intro h
    have e : a = b := eq_of_beq h
    subst e
    show ((⟨a⟩ : Array UInt8) == ⟨a⟩) = true
    simp
theorem part_w (c : Bool) (s : ByteArray) : pureRun Tryz.prog (part 4 #[.bool c, .string s] 0) = some (.bool c) := by kernel_rfl
theorem part_v (c : Bool) (s : ByteArray) : pureRun Tryz.prog (part 9 #[.bool c, .string s] 1) = some (.string s) := by kernel_rfl
theorem heldN : Tryz.prog.stoodInHeld 29 = false := by kernel_rfl
theorem guardN : Tryz.prog.eqGuardType Tryz.prog.depth 29 = false := by kernel_rfl
theorem eqIn_tag (d : Nat) (w : Bool) (a b : ByteArray) : pureRun Tryz.prog (Op.equalIn (d + 2) 29 (.agg #[.bool w, .string a]) (.agg #[.bool w, .string b])) = some (a == b) := by
  have hu := pureRun_underlying Tryz.underlying29
  have hp : pureRun Tryz.prog program = some Tryz.prog := rfl
  have hb := pureRun_underlying Tryz.underlying4
  have hs := pureRun_underlying Tryz.underlying9
  have e4 : pureRun Tryz.prog (Op.equalIn (d + 1) 4 (.bool w) (.bool w)) = some true := by
    unfold Op.equalIn
    rw [pureRun_bind _ _ _ hb]
    cases w <;> rfl
  have e9 : pureRun Tryz.prog (Op.equalIn (d + 1) 9 (.string a) (.string b)) = some (a == b) := by
    unfold Op.equalIn
    rw [pureRun_bind _ _ _ hs]
    rfl
  have pw := fun (c : Bool) (s : ByteArray) => part_w c s
  have pv := fun (c : Bool) (s : ByteArray) => part_v c s
  unfold Op.equalIn
  rw [pureRun_bind _ _ _ hu]
  simp only []
  rw [pureRun_bind _ _ _ hp]
  rw [if_neg (by rw [heldN]; decide)]
  simp only [List.forIn_toArray, List.forIn_cons, List.forIn_nil]
  rw [if_pos (by decide), if_pos (by decide)]
  simp only [bind_assoc]
  rw [pureRun_bind _ _ _ (pw w a), pureRun_bind _ _ _ (pw w b), pureRun_bind _ _ _ e4]
  simp only [Bool.not_true, Bool.false_eq_true, if_false, pure_bind, bind_assoc]
  rw [pureRun_bind _ _ _ (pv w a), pureRun_bind _ _ _ (pv w b), pureRun_bind _ _ _ e9]
  cases (a == b) <;> rfl
theorem bin_tagN (x y : Operand) (w : Bool) (a b : ByteArray) : pureRun Tryz.prog (do eqGuard .neq 29 x y (.agg #[.bool w, .string a]) (.agg #[.bool w, .string b]); binOp .neq 29 (.agg #[.bool w, .string a]) (.agg #[.bool w, .string b]) : Sem Value) = some (.bool (!(a == b))) := by
  have hp : pureRun Tryz.prog program = some Tryz.prog := rfl
  have h1 : pureRun Tryz.prog (eqGuard .neq 29 x y (.agg #[.bool w, .string a]) (.agg #[.bool w, .string b])) = some () := by
    unfold eqGuard
    simp only []
    rw [if_neg (by decide), pureRun_bind _ _ _ hp, pureRun_bind _ _ _ hp, if_pos (by rw [guardN]; rfl)]
    rfl
  rw [pureRun_bind _ _ _ h1]
  have h2 := eqIn_tag 9998 w a b
  simp only [binOp]
  rw [pureRun_bind _ _ _ (show pureRun Tryz.prog (Op.equal 29 (.agg #[.bool w, .string a]) (.agg #[.bool w, .string b])) = some (a == b) from h2)]
  rfl
theorem bin_tagN_n (x y : Operand) (w : Bool) (a b : ByteArray) : pureRun Tryz.prog (do eqGuard .neq 29 x y (.agg #[.bool w, .string a]) (.agg #[.bool (!w), .string b]); binOp .neq 29 (.agg #[.bool w, .string a]) (.agg #[.bool (!w), .string b]) : Sem Value) = some (.bool true) := by
  cases w <;> kernel_rfl
theorem aeqX_tagN (x y : Operand) (s t : Bool × List UInt8) : aeqX Tryz.prog .neq 29 x y (.agg [.bool s.1, .str s.2]) (.agg [.bool t.1, .str t.2]) = some (!eqT s t) := by
  obtain ⟨wa, sa⟩ := s
  obtain ⟨wb, sb⟩ := t
  have e1 : scsS [.bool wa, .str sa] = some [.bool wa, .string ⟨⟨sa⟩⟩] := rfl
  have e2 : scsS [.bool wb, .str sb] = some [.bool wb, .string ⟨⟨sb⟩⟩] := rfl
  unfold aeqX
  rw [show aptrEq Tryz.prog .neq 29 (.agg [.bool wa, .str sa]) (.agg [.bool wb, .str sb]) = none by kernel_rfl]
  unfold aaggEq
  simp only [e1, e2, eqT]
  by_cases h : wa = wb
  · subst h
    have e := bin_tagN x y wa ⟨⟨sa⟩⟩ ⟨⟨sb⟩⟩
    simp only [e, bytes_beq, beq_self_eq_true, Bool.true_and]
  · obtain rfl : wb = !wa := by cases wa <;> cases wb <;> simp_all
    have e := bin_tagN_n x y wa ⟨⟨sa⟩⟩ ⟨⟨sb⟩⟩
    simp only [e]
    cases wa <;> rfl
theorem pick_vc (n m : Int) (h1 : inK .i64 n = true) (hm : m ≤ 1000000) : vPick n m := by
  rw [vPick_eq]
  simp only [ic, cond_F]
  simp only [cond_P, leI_t, leI_f, ltI_t, ltI_f, eqI_t, eqI_f, and_t, not_t, not_f, dec_t, dec_f, Nat.zero_add, Nat.mul_one, List.drop_zero]
  simp only [true_and, and_true, exists_const]
  have e : 1 ≤ m → (n.tmod m < 0 → n.tmod m + m = n % m) ∧ (0 ≤ n.tmod m → n.tmod m = n % m) ∧ (-1000000 ≤ n.tmod m ∧ n.tmod m ≤ 1000000) := fun h => by
    have hp : 0 ≤ n % m := Int.emod_nonneg _ (by omega)
    have hq : n % m < m := Int.emod_lt_of_pos _ (by omega)
    have := Int.tmod_eq_emod (a := n) (b := m)
    rw [this]
    have hn : (m.natAbs : Int) = m := by omega
    split <;> refine ⟨fun _ => ?_, fun _ => ?_, ?_⟩ <;> omega
  refine ⟨fun h => by simp [pickF, h], fun h => ⟨by omega, fun g => ⟨by have := e h; omega, ?_⟩, fun g => ?_⟩⟩
  · rw [(e h).1 g, pickF, if_neg (by omega)]
  · rw [(e h).2.1 g, pickF, if_neg (by omega)]
theorem backs_vc (s : List UInt8) (hs : s.length ≤ 281474976710656) : vBacks s := by
  rw [vBacks_eq]
  simp only [ic, cond_F]
  simp only [cond_P, leI_t, leI_f, ltI_t, ltI_f, eqI_t, eqI_f, and_t, not_t, not_f, dec_t, dec_f, Nat.zero_add, Nat.mul_one, List.drop_zero]
  simp only [true_and, and_true, exists_const]
  refine ⟨⟨0, ⟨Nat.zero_le _, rfl⟩, rfl⟩, fun i hi => ⟨fun h => ⟨h, fun hb => ?_, fun hb => ⟨by omega, i + 1, ⟨by omega, ?_⟩, by omega, rfl⟩⟩, fun h => ?_⟩⟩
  · have hi' : i < s.length := by omega
    rw [byteAt_get s i hi'] at hb
    symm
    rw [backsF, List.any_eq_true]
    exact ⟨s[i], List.getElem_mem hi', decide_eq_true (by omega)⟩
  · have hi' : i < s.length := by omega
    rw [byteAt_get s i hi'] at hb
    rw [take_succ' s i hi', List.any_append, hi.2]
    simp; omega
  · rw [backsF, ← hi.2, List.take_of_length_le (by omega)]
theorem tagC_drop : ∀ (l : TL) (i : Nat), i < l.length → ((tagC l).drop (i * 2)).take 2 = [AV.bool (tg l i).1, AV.str (tg l i).2]
  | [], i, h => by simp at h
  | a :: l, 0, _ => rfl
  | a :: l, i + 1, h => by
    have := tagC_drop l i (by simpa using h)
    rw [show (i + 1) * 2 = i * 2 + 2 by omega]
    exact this
theorem tg_app (b r : TL) (i : Nat) (h : i < b.length) : tg (b ++ r) i = tg b i := by
  simp [tg, List.getD_eq_getElem?_getD, List.getElem?_append_left h]
theorem eqT_iff (x y : Bool × List UInt8) : eqT x y = true ↔ x = y := by
  obtain ⟨a, b⟩ := x; obtain ⟨c, d⟩ := y
  simp [eqT]
theorem tg_take {l : TL} {i : Nat} (h : i < l.length) : l.take (i + 1) = l.take i ++ [tg l i] := by
  rw [List.take_succ_eq_append_getElem h]
  simp [tg, List.getD_eq_getElem?_getD, List.getElem?_eq_getElem h]
theorem tg_ne {a b : TL} {i : Nat} (h : ¬ tg a i = tg b i) : ¬ a = b := fun e => h (by rw [e])
theorem cells_tag (σ : Nat → Nat) (a : TL) : cellsP σ (tagC a) (tagC a) = True := eq_true (cells_refl (tagC_flat _))
theorem same_vc (a b r : TL) (hs : a.length ≤ 1099511627776) : vSame a b r := by
  rw [vSame_eq]
  simp only [ic, cond_F]
  simp only [cond_P, leI_t, leI_f, ltI_t, ltI_f, eqI_t, eqI_f, and_t, not_t, not_f, dec_t, dec_f, Nat.zero_add, Nat.mul_one, List.drop_zero]
  simp only [true_and, and_true, exists_const, cells_tag]
  refine ⟨fun h => ?_, fun h => ⟨⟨0, ⟨Nat.zero_le _, rfl⟩, rfl⟩, fun i hi => ⟨fun hl => ⟨hl, ?_, tagC_drop a i (by omega), by omega, ?_, ?_, aeqX_tagN _ _ _ _, fun he => ?_, fun he => ⟨by omega, i + 1, ⟨by omega, ?_⟩, by omega, rfl⟩⟩, fun hl => ?_⟩⟩⟩
  · rw [eq_comm, decide_eq_false_iff_not]
    rintro rfl; exact h rfl
  · rw [tagC_length]; omega
  · rw [tagC_length, List.length_append]; omega
  · rw [tagC_drop _ _ (by rw [List.length_append]; omega), tg_app _ _ _ (by omega)]
  · rw [eq_comm, decide_eq_false_iff_not]
    refine tg_ne (i := i) fun e => ?_
    rw [(eqT_iff _ _).2 e] at he
    cases he
  · rw [tg_take (by omega), tg_take (by omega), hi.2, (eqT_iff _ _).1 he]
  · rw [eq_comm, decide_eq_true_iff]
    have := hi.2
    rwa [List.take_of_length_le (by omega), List.take_of_length_le (by omega)] at this
end Go.Proofs.YtiobbjbodpkpjaaGreatDoor
