/- Two tags, held against each other. -/
import Derived.Test.YtkgkbpfjdlnoeaaGreatDoorEnv11
import Derived.Test.YtkgkbpfjdlnoeaaGreatDoorVe15
namespace Go.Proofs.YtkgkbpfjdlnoeaaGreatDoor
open Go Go.Ve

theorem bytes_beq (a b : List UInt8) : ((⟨⟨a⟩⟩ : ByteArray) == ⟨⟨b⟩⟩) = (a == b) := by
  rw [Bool.eq_iff_iff]
  constructor
  · intro h
    have e : (⟨a⟩ : Array UInt8) = ⟨b⟩ := eq_of_beq h
    have e2 : a = b := congrArg Array.toList e
    rw [e2]; simp
  · intro h
    have e : a = b := eq_of_beq h
    subst e
    show ((⟨a⟩ : Array UInt8) == ⟨a⟩) = true
    simp
theorem part_w (c : Bool) (s : ByteArray) : pureRun Tryz.prog (part 4 #[.bool c, .string s] 0) = some (.bool c) := by kernel_rfl
theorem part_v (c : Bool) (s : ByteArray) : pureRun Tryz.prog (part 9 #[.bool c, .string s] 1) = some (.string s) := by kernel_rfl
theorem heldN : Tryz.prog.stoodInHeld 23 = false := by kernel_rfl
theorem guardN : Tryz.prog.eqGuardType Tryz.prog.depth 23 = false := by kernel_rfl
theorem eqIn_tag (d : Nat) (w : Bool) (a b : ByteArray) : pureRun Tryz.prog (Op.equalIn (d + 2) 23 (.agg #[.bool w, .string a]) (.agg #[.bool w, .string b])) = some (a == b) := by
  have hu := pureRun_underlying Tryz.underlying23
  have hp : pureRun Tryz.prog program = some Tryz.prog := rfl
  have hb := pureRun_underlying Tryz.underlying4
  have hs := pureRun_underlying Tryz.underlying9
  have e4 : pureRun Tryz.prog (Op.equalIn (d + 1) 4 (.bool w) (.bool w)) = some true := by
    unfold Op.equalIn
    rw [pureRun_bind _ _ _ hb]
    cases w <;> rfl
  have e9 : pureRun Tryz.prog (Op.equalIn (d + 1) 9 (.string a) (.string b)) = some (a == b) := by
    unfold Op.equalIn
    rw [pureRun_bind _ _ _ hs]
    rfl
  have pw := fun (c : Bool) (s : ByteArray) => part_w c s
  have pv := fun (c : Bool) (s : ByteArray) => part_v c s
  unfold Op.equalIn
  rw [pureRun_bind _ _ _ hu]
  simp only []
  rw [pureRun_bind _ _ _ hp]
  rw [if_neg (by rw [heldN]; decide)]
  simp only [List.forIn_toArray, List.forIn_cons, List.forIn_nil]
  rw [if_pos (by decide), if_pos (by decide)]
  simp only [bind_assoc]
  rw [pureRun_bind _ _ _ (pw w a), pureRun_bind _ _ _ (pw w b), pureRun_bind _ _ _ e4]
  simp only [Bool.not_true, Bool.false_eq_true, if_false, pure_bind, bind_assoc]
  rw [pureRun_bind _ _ _ (pv w a), pureRun_bind _ _ _ (pv w b), pureRun_bind _ _ _ e9]
  cases (a == b) <;> rfl
theorem bin_tag (x y : Operand) (w : Bool) (a b : ByteArray) : pureRun Tryz.prog (do eqGuard .eql 23 x y (.agg #[.bool w, .string a]) (.agg #[.bool w, .string b]); binOp .eql 23 (.agg #[.bool w, .string a]) (.agg #[.bool w, .string b]) : Sem Value) = some (.bool (a == b)) := by
  have hp : pureRun Tryz.prog program = some Tryz.prog := rfl
  have h1 : pureRun Tryz.prog (eqGuard .eql 23 x y (.agg #[.bool w, .string a]) (.agg #[.bool w, .string b])) = some () := by
    unfold eqGuard
    simp only []
    rw [if_neg (by decide), pureRun_bind _ _ _ hp, pureRun_bind _ _ _ hp, if_pos (by rw [guardN]; rfl)]
    rfl
  rw [pureRun_bind _ _ _ h1]
  have h2 := eqIn_tag 9998 w a b
  simp only [binOp]
  rw [pureRun_bind _ _ _ (show pureRun Tryz.prog (Op.equal 23 (.agg #[.bool w, .string a]) (.agg #[.bool w, .string b])) = some (a == b) from h2)]
  rfl
theorem bin_tag_n (x y : Operand) (w : Bool) (a b : ByteArray) : pureRun Tryz.prog (do eqGuard .eql 23 x y (.agg #[.bool w, .string a]) (.agg #[.bool (!w), .string b]); binOp .eql 23 (.agg #[.bool w, .string a]) (.agg #[.bool (!w), .string b]) : Sem Value) = some (.bool false) := by
  cases w <;> kernel_rfl
theorem aagg_tag (x y : Operand) (wa wb : Bool) (sa sb : List UInt8) : aaggEq Tryz.prog .eql 23 x y (.agg [.bool wa, .str sa]) (.agg [.bool wb, .str sb]) = some (wa == wb && sa == sb) := by
  have e1 : scsS [.bool wa, .str sa] = some [.bool wa, .string ⟨⟨sa⟩⟩] := rfl
  have e2 : scsS [.bool wb, .str sb] = some [.bool wb, .string ⟨⟨sb⟩⟩] := rfl
  unfold aaggEq
  simp only [e1, e2]
  by_cases h : wa = wb
  · subst h
    have e := bin_tag x y wa ⟨⟨sa⟩⟩ ⟨⟨sb⟩⟩
    simp only [e, bytes_beq, beq_self_eq_true, Bool.true_and]
  · obtain rfl : wb = !wa := by cases wa <;> cases wb <;> simp_all
    have e := bin_tag_n x y wa ⟨⟨sa⟩⟩ ⟨⟨sb⟩⟩
    simp only [e]
    cases wa <;> rfl
section
variable {q : Bool} {ops : Array Oper} {o : Oper} {r : List Oper} {fr : List AV} {H : AH} {lo : Nat} {K : List AV → AH → Nat → Prop}
theorem eq_tag_op (hw : awanted ops o fr = some true) {x y : Operand} {yt : TypeId} {wa wb : Bool} {sa sb : List UInt8} (ho : o.op = .binOp .eql 23 x y yt) (hx : aeval fr x = .agg [.bool wa, .str sa]) (hy : aeval fr y = .agg [.bool wb, .str sb])
    {b : Bool} (hb : (wa == wb && sa == sb) = b) {fr' : List AV} (h : opsW env q ops r fr' H lo K) (hfr : aput fr o.dst (.bool b) = fr' := by simp only [aput, List.set_cons_succ, List.set_cons_zero]; rfl) : opsW env q ops (o :: r) fr H lo K := by
  subst hfr
  refine opsW.val (v := .bool b) hw ?_ h rfl (fun _ => rfl)
  have e := aagg_tag x y wa wb sa sb
  have e1 : abinOp env.P .eql 23 x y (.agg [.bool wa, .str sa]) (.agg [.bool wb, .str sb]) = none := rfl
  have e2 : aeqX env.P .eql 23 x y (.agg [.bool wa, .str sa]) (.agg [.bool wb, .str sb]) = some b := by
    unfold aeqX
    rw [show aptrEq env.P .eql 23 (.agg [.bool wa, .str sa]) (.agg [.bool wb, .str sb]) = none by kernel_rfl]
    exact e.trans (congrArg some hb)
  unfold aop
  simp only [ho, hx, hy, e1, e2]
end
end Go.Proofs.YtkgkbpfjdlnoeaaGreatDoor
