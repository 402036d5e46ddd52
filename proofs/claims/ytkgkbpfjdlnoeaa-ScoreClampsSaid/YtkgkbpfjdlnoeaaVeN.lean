/- Numbers that are none: what is known of them. -/
import Derived.Test.YtkgkbpfjdlnoeaaVe2
import Derived.KernelRfl
namespace Go.Ve
open Go Go.RowKit Ieee

def NaNF (k : FloatKind) (n : Nat) : Prop := (k.format.read n).isNaN = true
theorem nan_order_l {d e : Datum} (h : d.isNaN = true) : d.order e = none := by
  cases d <;> first | (simp [Datum.isNaN] at h; done) | (cases e <;> rfl)
theorem nan_order_r {d e : Datum} (h : e.isNaN = true) : d.order e = none := by
  cases e <;> first | (simp [Datum.isNaN] at h; done) | (cases d <;> rfl)
theorem nan_sum_l {d e : Datum} (h : d.isNaN = true) : d.sum e = none := by
  cases d <;> first | (simp [Datum.isNaN] at h; done) | (cases e <;> rfl)
theorem nan_sum_r {d e : Datum} (h : e.isNaN = true) : d.sum e = none := by
  cases e <;> first | (simp [Datum.isNaN] at h; done) | (cases d <;> rfl)
theorem nan_opp {d : Datum} (h : d.isNaN = true) : d.opposite.isNaN = true := by
  cases d <;> first | (simp [Datum.isNaN] at h; done) | rfl
theorem nan_prod_l {d e : Datum} (h : d.isNaN = true) : d.product e = none := by
  cases d <;> first | (simp [Datum.isNaN] at h; done) | (cases e <;> rfl)
theorem nan_prod_r {d e : Datum} (h : e.isNaN = true) : d.product e = none := by
  cases e <;> first | (simp [Datum.isNaN] at h; done) | (cases d <;> rfl)
theorem nan_quo_l {d e : Datum} {n : Nat} (h : d.isNaN = true) : d.quotient n e = none := by
  cases d <;> first | (simp [Datum.isNaN] at h; done) | (cases e <;> rfl)
theorem nan_quo_r {d e : Datum} {n : Nat} (h : e.isNaN = true) : d.quotient n e = none := by
  cases e <;> first | (simp [Datum.isNaN] at h; done) | (cases d <;> rfl)
theorem dbl_sw : double.signWeight = 2 ^ 63 := by kernel_rfl
theorem dbl_bi : double.binade = 2 ^ 52 := by kernel_rfl
theorem dbl_ir : double.infRung = 2047 * 2 ^ 52 := by kernel_rfl
theorem nan_of_rung {n : Nat} (h : 2047 * 2 ^ 52 < n % 2 ^ 63) : NaNF .f64 n := by
  unfold NaNF
  show (double.read n).isNaN = true
  unfold Format.read
  rw [dbl_sw, dbl_bi, dbl_ir]
  simp only
  rw [if_neg (by omega), if_neg (by omega), if_neg (by omega)]
  rfl
theorem nan_cut (x y t : Nat) : NaNF .f64 ((Question.nanBits .f64 x y).cut t) := by
  apply nan_of_rung
  show 2047 * 2 ^ 52 < ((t % 2) * 2 ^ 63 + 0x7ff0000000000000 + 1 + (t / 2) % (2 ^ 52 - 1)) % 2 ^ 63
  have hr : (t / 2) % (2 ^ 52 - 1) < 2 ^ 52 - 1 := Nat.mod_lt _ (by decide)
  generalize (t / 2) % (2 ^ 52 - 1) = r at *
  rcases Nat.mod_two_eq_zero_or_one t with h | h <;> rw [h] <;> omega

/-- What a comparison with such a number answers. -/
def nanCmp : BinOp → Option Bool
  | .eql => some false
  | .neq => some true
  | .lss => some false
  | .leq => some false
  | .gtr => some false
  | .geq => some false
  | _ => none
theorem nanCmp_ok {P : Program} {w : World} {op : BinOp} {r : Bool} (h : nanCmp op = some r) {k : FloatKind} {a b : Nat} (hn : k.format.order a b = none) : (Op.floatCmp op k a b).run P w = .ok (.bool r) w := by
  unfold Op.floatCmp
  rw [hn]
  cases op <;> simp [nanCmp] at h <;> subst h <;> rfl
def farith (op : BinOp) (x y : Nat) : Option (Option Nat) :=
  match op with
  | .add => some (double.add x y)
  | .sub => some (double.sub x y)
  | .mul => some (double.mul x y)
  | .quo => some (double.div x y)
  | _ => none
theorem farith_nan {P : Program} {w : World} {op : BinOp} {x y : Nat} (h : farith op x y = some none) : ∃ r, NaNF .f64 r ∧ (Op.floatArith op .f64 x y).run P w = .ok (.float .f64 r) { w with drawn := w.drawn + 1 } := by
  refine ⟨(Question.nanBits .f64 x y).cut (w.tape w.drawn (.nanBits .f64 x y)), nan_cut _ _ _, ?_⟩
  have hc : ∀ (f : Nat → Sem Value), (Sem.bind (choose (.nanBits .f64 x y)) f).run P w = (f ((Question.nanBits .f64 x y).cut (w.tape w.drawn (.nanBits .f64 x y)))).run P { w with drawn := w.drawn + 1 } := fun f => rfl
  unfold Op.floatArith
  cases op <;> simp [farith] at h
  · show (match double.add x y with | some r => pure (.float .f64 r) | none => (Sem.bind (choose (.nanBits .f64 x y)) fun r => pure (.float .f64 r)) : Sem Value).run P w = _
    rw [h]; exact hc _
  · show (match double.sub x y with | some r => pure (.float .f64 r) | none => (Sem.bind (choose (.nanBits .f64 x y)) fun r => pure (.float .f64 r)) : Sem Value).run P w = _
    rw [h]; exact hc _
  · show (match double.mul x y with | some r => pure (.float .f64 r) | none => (Sem.bind (choose (.nanBits .f64 x y)) fun r => pure (.float .f64 r)) : Sem Value).run P w = _
    rw [h]; exact hc _
  · show (match double.div x y with | some r => pure (.float .f64 r) | none => (Sem.bind (choose (.nanBits .f64 x y)) fun r => pure (.float .f64 r)) : Sem Value).run P w = _
    rw [h]; exact hc _
theorem farith_l {op : BinOp} {x y : Nat} (h : NaNF .f64 x) (ho : (farith op 0 0).isSome = true) : farith op x y = some none := by
  have h : (double.read x).isNaN = true := h
  cases op <;> simp [farith] at ho ⊢
  · unfold Format.add; rw [nan_sum_l h]; rfl
  · unfold Format.sub; rw [nan_sum_l h]; rfl
  · unfold Format.mul; rw [nan_prod_l h]; rfl
  · unfold Format.div; rw [nan_quo_l h]; rfl
theorem farith_r {op : BinOp} {x y : Nat} (h : NaNF .f64 y) (ho : (farith op 0 0).isSome = true) : farith op x y = some none := by
  have h : (double.read y).isNaN = true := h
  cases op <;> simp [farith] at ho ⊢
  · unfold Format.add; rw [nan_sum_r h]; rfl
  · unfold Format.sub; rw [nan_sum_r (nan_opp h)]; rfl
  · unfold Format.mul; rw [nan_prod_r h]; rfl
  · unfold Format.div; rw [nan_quo_r h]; rfl
end Go.Ve
