/- The law ScoreCalls: what its walk asks is so. -/
import Derived.Test.YtainjcpocodehaaScW
set_option linter.unusedSimpArgs false
set_option linter.unusedVariables false
namespace Go.Proofs.Ytainjcpocodehaa
open Go Go.Ve
set_option maxRecDepth 20000
theorem needE {b : Bool} {p q : Prop} (hb : b = true) (h : p) : cond b p q := by subst hb; exact h
theorem needN {b : Bool} {p q : Prop} (hb : b = false) (h : q) : cond b p q := by subst hb; exact h
theorem eqI_self (x : Int) : eqI x x = true := by rw [eqI_t]
theorem sam_self (x : Nat) : samB x x = true := by unfold samB; rw [Nat.beq_refl, Bool.or_true]
theorem posF_le (x : Nat) (s : FL) : ∀ k, posF x s k ≤ k
  | 0 => Nat.le_refl _
  | k + 1 => by
    have := posF_le x s k
    show cond _ (posF x s k) (k + 1) ≤ k + 1
    cases ltI (rk x) (rk (fk s k))
    · exact Nat.le_refl _
    · exact Nat.le_succ_of_le this
theorem insF_perm (x : Nat) (s : FL) : (insF x s).Perm (x :: s) := by
  unfold insF
  rw [List.append_assoc]
  refine List.perm_middle.trans ?_
  show (x :: (List.take (posF x s s.length) s ++ List.drop (posF x s s.length) s)).Perm (x :: s)
  rw [List.take_append_drop]
theorem isF_len (l : FL) : ∀ i, (isF l i).length = i
  | 0 => rfl
  | i + 1 => by
    show (insF _ _).length = _
    rw [(insF_perm _ _).length_eq, List.length_cons, isF_len l i]
theorem isF_ok {l : FL} (h : ok64 l) : ∀ i, i ≤ l.length → ok64 (isF l i)
  | 0, _ => fun x hx => by cases hx
  | i + 1, hi => fun x hx => by
    have hx : x ∈ insF (fk l i) (isF l i) := hx
    rw [(insF_perm _ _).mem_iff, List.mem_cons] at hx
    rcases hx with rfl | hx
    · exact ok64_at h (by omega)
    · exact isF_ok h i (by omega) x hx
set_option maxHeartbeats 1000000 in
theorem sc_vc (l r : FL) (e : Nat) (ro : Bool) (c : Nat) (ex : Bool) (x y z : Nat) (out : Int) (hx : in64 x = true) (hy : in64 y = true) (hz : in64 z = true) (o64 : ok64 (l ++ r)) : vSC l r e ro c ex x y z out := by
  rw [vSC_eq]
  have tk : List.take l.length (getF (fC (l ++ r))) = l := by rw [getF_fC, List.take_left]
  rw [tk, hx, hy, hz]
  refine cond_intro (fun _ => ⟨(), trivial, ⟨F_ok _ _ _ _, trivial⟩, rfl, trivial⟩) fun hl => cond_intro (fun _ => ⟨(), trivial, ⟨F_ok _ _ _ _, trivial⟩, rfl, trivial⟩) fun ho => ?_
  rw [not_f, leI_t] at hl
  have hl : l.length ≤ 60 := by
    have hl : (l.length : Int) ≤ 60 := hl
    omega
  rw [ltI_f] at ho
  have rf : RF (fC (l ++ r)) l.length := ⟨by rw [getF_fC], by rw [getF_fC, List.length_append]; omega, by omega, by rw [getF_fC]; exact o64⟩
  have ol : ok64 l := fun v hv => o64 v (List.mem_append_left _ hv)
  have rg : RF (fC (isF l l.length)) l.length := ⟨by rw [getF_fC], by rw [getF_fC, isF_len]; omega, by omega, by rw [getF_fC]; exact isF_ok ol _ (Nat.le_refl _)⟩
  refine need_intro rfl (need_intro rfl (needE (eqI_self _) (needE (eqI_self _) ⟨rf, rf, needE (eqI_self _) ⟨rf, rf, needE (eqI_self _) ⟨rf, fun x1 h1 => ⟨rf, fun x2 h2 => needE (sam_ok h1 h2) fun x3 h3 => fun x4 h4 => needE (sam_ok h3 h4) ⟨ho, fun x5 h5 => ⟨ho, fun x6 h6 => needE (sam_ok h5 h6) (need_intro rfl (need_intro rfl (needE (sam_self _) ⟨rf, ?_⟩)))⟩⟩⟩⟩⟩⟩)))
  exact cond_intro (fun h0 => ⟨rf, needE h0 ⟨(), trivial, ⟨F_ok _ _ _ _, trivial⟩, rfl, trivial⟩⟩) fun h0 => ⟨rf, needN h0 ⟨⟨rg, rg⟩, (), trivial, ⟨F_ok _ _ _ _, trivial⟩, decide_eq_true rfl, trivial⟩⟩
end Go.Proofs.Ytainjcpocodehaa
