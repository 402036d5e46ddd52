/- The law ReviseDrops: what its walk asks is so. -/
import Derived.Test.YtepohfmphgbknaaRdQ
import Derived.Test.YtepohfmphgbknaaRdR
set_option linter.unusedSimpArgs false
set_option linter.unusedVariables false
namespace Go.Proofs.Ytepohfmphgbknaa
open Go Go.Ve
set_option maxRecDepth 20000
theorem nd_yes {m : Bs} {st : Int} (h : ndB m st = true) (a : decide (m = [71, 69, 84]) = false) (b : decide (m = [72, 69, 65, 68]) = false) (c : decide (m = [79, 80, 84, 73, 79, 78, 83]) = false) (d : decide (m = [84, 82, 65, 67, 69]) = false) (e : ltI st 200 = false) (f : ltI 399 st = false) : False := by
  unfold ndB safeB at h
  rw [a, b, c, d, e, f] at h
  cases h
theorem nd_1 {m : Bs} {st : Int} (h : ndB m st = false) (a : decide (m = [71, 69, 84]) = true) : False := by unfold ndB safeB at h; rw [a] at h; simp at h
theorem nd_2 {m : Bs} {st : Int} (h : ndB m st = false) (a : decide (m = [72, 69, 65, 68]) = true) : False := by unfold ndB safeB at h; rw [a] at h; simp at h
theorem nd_3 {m : Bs} {st : Int} (h : ndB m st = false) (a : decide (m = [79, 80, 84, 73, 79, 78, 83]) = true) : False := by unfold ndB safeB at h; rw [a] at h; simp at h
theorem nd_4 {m : Bs} {st : Int} (h : ndB m st = false) (a : decide (m = [84, 82, 65, 67, 69]) = true) : False := by unfold ndB safeB at h; rw [a] at h; simp at h
theorem nd_5 {m : Bs} {st : Int} (h : ndB m st = false) (a : ltI st 200 = true) : False := by unfold ndB at h; rw [a] at h; simp at h
theorem nd_6 {m : Bs} {st : Int} (h : ndB m st = false) (a : ltI 399 st = true) : False := by unfold ndB at h; rw [a] at h; simp at h
theorem ky_len (ho p : Bs) : (kyP ho p).length = ho.length + 1 + p.length := by
  unfold kyP lower
  rw [List.length_append, List.length_append, List.length_map]; rfl
theorem ky_lt (ho p : Bs) : ltI (ic (kyP ho p).length) (ic (kyP ho []).length) = false := by
  rw [ltI_f, ky_len, ky_len]; show ((ho.length + 1 + 0 : Nat) : Int) ≤ ((ho.length + 1 + p.length : Nat) : Int); omega
theorem ky_le (ho p : Bs) : leI (ic (kyP ho []).length) (ic (kyP ho p).length) = true := by
  rw [leI_t, ky_len, ky_len]; show ((ho.length + 1 + 0 : Nat) : Int) ≤ ((ho.length + 1 + p.length : Nat) : Int); omega
theorem ky_take (ho p : Bs) : (!decide (List.take (kyP ho []).length (kyP ho p) = kyP ho [])) = false := by
  have h : List.take (kyP ho []).length (kyP ho p) = kyP ho [] := by
    have e : kyP ho p = kyP ho [] ++ p := by unfold kyP; rw [List.append_nil]
    rw [e, List.take_left]
  rw [decide_eq_true h]; rfl
theorem ky_same (ho p : Bs) : (!decide (kyP ho p = kyP ho p)) = false := by rw [decide_eq_true rfl]; rfl
theorem not_true {b : Bool} {X Y : Prop} (h : b = false) (y : Y) : (bif b then X else Y) := by rw [h]; exact y
theorem lwN_vc (m : Bs) (st : Int) (ho pa : Bs) : vLwN m st ho pa := by
  rw [vLwN_eq]
  refine cond_intro (fun _ => ⟨(), trivial, trivial, rfl, trivial⟩) fun _ => cond_intro (fun _ => ⟨(), trivial, trivial, rfl, trivial⟩) fun c1 => cond_intro (fun _ => ⟨(), trivial, trivial, rfl, trivial⟩) fun c2 => ?_
  rw [ltI_f] at c1 c2
  have c1 : (ho.length : Int) ≤ 300 := c1
  have c2 : (pa.length : Int) ≤ 300 := c2
  have h1 : le40 ho = true := le_dec (by omega)
  have h2 : le40 pa = true := le_dec (by omega)
  refine ⟨⟨by omega, by omega⟩, cond_intro (fun n => cond_intro (fun _ => ⟨(), trivial, trivial, rfl, trivial⟩) fun a1 => cond_intro (fun _ => ⟨(), trivial, trivial, rfl, trivial⟩) fun a2 => cond_intro (fun _ => ⟨(), trivial, trivial, rfl, trivial⟩) fun a3 => cond_intro (fun _ => ⟨(), trivial, trivial, rfl, trivial⟩) fun a4 => cond_intro (fun _ => ⟨(), trivial, trivial, rfl, trivial⟩) fun a5 => cond_intro (fun _ => ⟨(), trivial, trivial, rfl, trivial⟩) fun a6 => (nd_yes n a1 a2 a3 a4 a5 a6).elim) fun n => cond_intro (fun a => (nd_1 n a).elim) fun _ => cond_intro (fun a => (nd_2 n a).elim) fun _ => cond_intro (fun a => (nd_3 n a).elim) fun _ => cond_intro (fun a => (nd_4 n a).elim) fun _ => cond_intro (fun a => (nd_5 n a).elim) fun _ => cond_intro (fun a => (nd_6 n a).elim) fun _ => need_intro (by rw [h1, h2]; rfl) (not_true (ky_same _ _) (need_intro (by rw [h1]; rfl) (not_true (ky_lt _ _) (need_intro (ky_le _ _) (not_true (ky_take _ _) ⟨(), trivial, trivial, rfl, trivial⟩)))))⟩
theorem lwZ_vc (m : Bs) (st : Int) (ho pa : Bs) : vLwZ m st ho pa := by
  rw [vLwZ_eq]
  refine cond_intro (fun _ => ⟨(), trivial, trivial, rfl, trivial⟩) fun _ => cond_intro (fun _ => ⟨(), trivial, trivial, rfl, trivial⟩) fun c1 => cond_intro (fun _ => ⟨(), trivial, trivial, rfl, trivial⟩) fun c2 => ?_
  rw [ltI_f] at c1 c2
  have c1 : (ho.length : Int) ≤ 300 := c1
  have c2 : (pa.length : Int) ≤ 300 := c2
  have h1 : le40 ho = true := le_dec (by omega)
  have h2 : le40 pa = true := le_dec (by omega)
  refine ⟨⟨by omega, by omega⟩, cond_intro (fun n => cond_intro (fun _ => ⟨(), trivial, trivial, rfl, trivial⟩) fun a1 => cond_intro (fun _ => ⟨(), trivial, trivial, rfl, trivial⟩) fun a2 => cond_intro (fun _ => ⟨(), trivial, trivial, rfl, trivial⟩) fun a3 => cond_intro (fun _ => ⟨(), trivial, trivial, rfl, trivial⟩) fun a4 => cond_intro (fun _ => ⟨(), trivial, trivial, rfl, trivial⟩) fun a5 => cond_intro (fun _ => ⟨(), trivial, trivial, rfl, trivial⟩) fun a6 => (nd_yes n a1 a2 a3 a4 a5 a6).elim) fun n => cond_intro (fun a => (nd_1 n a).elim) fun _ => cond_intro (fun a => (nd_2 n a).elim) fun _ => cond_intro (fun a => (nd_3 n a).elim) fun _ => cond_intro (fun a => (nd_4 n a).elim) fun _ => cond_intro (fun a => (nd_5 n a).elim) fun _ => cond_intro (fun a => (nd_6 n a).elim) fun _ => need_intro (by rw [h1, h2]; rfl) (not_true (ky_same _ _) (need_intro (by rw [h1]; rfl) (not_true (ky_lt _ _) (need_intro (ky_le _ _) (not_true (ky_take _ _) ⟨(), trivial, trivial, rfl, trivial⟩)))))⟩
theorem few_P {l : FL} (h : fewB l = true) : fewP l := by
  unfold fewB at h
  rw [and_t] at h
  have h1 : l.length ≤ 30 := of_decide_eq_true h.1
  have h2 : ∀ f ∈ l, f.1.length ≤ 300 ∧ f.2.length ≤ 300 := fun f hf => by
    have := List.all_eq_true.1 h.2 f hf
    rw [and_t] at this
    exact ⟨of_decide_eq_true this.1, of_decide_eq_true this.2⟩
  refine ⟨fun f hf => (h2 f hf).2, ?_⟩
  have key : ∀ k : FL, (∀ f ∈ k, f.1.length ≤ 300 ∧ f.2.length ≤ 300) → totL k ≤ k.length * 601 := fun k => by
    induction k with
    | nil => intro _; exact Nat.zero_le _
    | cons a r ih =>
      intro hk
      have h3 := ih fun f hf => hk f (List.mem_cons_of_mem _ hf)
      have h4 := hk a (List.mem_cons_self ..)
      simp only [totL, List.map_cons, List.sum_cons, List.length_cons] at h3 ⊢
      omega
  have := key l h2
  omega
theorem lw_vc (m : Bs) (st : Int) (ho pa : Bs) (l r : FL) (e : Nat) (ro : Bool) (c : Nat) (ex : Bool) (hl : l.length ≤ 9223372036854775807) : vLw m st ho pa l r e ro c ex := by
  rw [vLw_eq, getF_fieldC, List.take_left]
  refine ⟨⟨rfl, by rw [List.length_append]; omega, hl⟩, cond_intro (fun _ => ⟨(), trivial, ⟨F_ok _ _ _ _, trivial⟩, rfl, trivial⟩) fun nf => cond_intro (fun _ => ⟨(), trivial, ⟨F_ok _ _ _ _, trivial⟩, rfl, trivial⟩) fun _ => cond_intro (fun _ => ⟨(), trivial, ⟨F_ok _ _ _ _, trivial⟩, rfl, trivial⟩) fun c1 => cond_intro (fun _ => ⟨(), trivial, ⟨F_ok _ _ _ _, trivial⟩, rfl, trivial⟩) fun c2 => ?_⟩
  rw [ltI_f] at c1 c2
  have c1 : (ho.length : Int) ≤ 300 := c1
  have c2 : (pa.length : Int) ≤ 300 := c2
  have h1 : le40 ho = true := le_dec (by omega)
  have h2 : le40 pa = true := le_dec (by omega)
  have hf : fewB l = true := by cases hh : fewB l with | true => rfl | false => rw [hh] at nf; cases nf
  refine ⟨⟨⟨by omega, by omega⟩, rfl, by rw [List.length_append]; omega, few_P hf⟩, cond_intro (fun n => cond_intro (fun _ => ⟨(), trivial, ⟨F_ok _ _ _ _, trivial⟩, rfl, trivial⟩) fun a1 => cond_intro (fun _ => ⟨(), trivial, ⟨F_ok _ _ _ _, trivial⟩, rfl, trivial⟩) fun a2 => cond_intro (fun _ => ⟨(), trivial, ⟨F_ok _ _ _ _, trivial⟩, rfl, trivial⟩) fun a3 => cond_intro (fun _ => ⟨(), trivial, ⟨F_ok _ _ _ _, trivial⟩, rfl, trivial⟩) fun a4 => cond_intro (fun _ => ⟨(), trivial, ⟨F_ok _ _ _ _, trivial⟩, rfl, trivial⟩) fun a5 => cond_intro (fun _ => ⟨(), trivial, ⟨F_ok _ _ _ _, trivial⟩, rfl, trivial⟩) fun a6 => (nd_yes n a1 a2 a3 a4 a5 a6).elim) fun n => fun x _ => cond_intro (fun _ => ?_) fun _ => cond_intro (fun _ => fun y hy => ?_) fun _ => fun y hy => ?_⟩
  · exact cond_intro (fun a => (nd_1 n a).elim) fun _ => cond_intro (fun a => (nd_2 n a).elim) fun _ => cond_intro (fun a => (nd_3 n a).elim) fun _ => cond_intro (fun a => (nd_4 n a).elim) fun _ => cond_intro (fun a => (nd_5 n a).elim) fun _ => cond_intro (fun a => (nd_6 n a).elim) fun _ => need_intro (by rw [h1, h2]; rfl) (not_true (ky_same _ _) (need_intro (by rw [h1]; rfl) (not_true (ky_lt _ _) (need_intro (ky_le _ _) (not_true (ky_take _ _) (⟨(), trivial, ⟨F_ok _ _ _ _, trivial⟩, rfl, trivial⟩))))))
  · exact cond_intro (fun a => (nd_1 n a).elim) fun _ => cond_intro (fun a => (nd_2 n a).elim) fun _ => cond_intro (fun a => (nd_3 n a).elim) fun _ => cond_intro (fun a => (nd_4 n a).elim) fun _ => cond_intro (fun a => (nd_5 n a).elim) fun _ => cond_intro (fun a => (nd_6 n a).elim) fun _ => need_intro (by rw [h1, h2]; rfl) (not_true (ky_same _ _) (need_intro (by rw [h1]; rfl) (not_true (ky_lt _ _) (need_intro (ky_le _ _) (not_true (ky_take _ _) (not_true (ky_lt _ _) (need_intro (ky_le _ _) (not_true (ky_take _ _) (not_true (decide_eq_false fun e => hy.1 e.symm) ⟨(), trivial, ⟨F_ok _ _ _ _, trivial⟩, rfl, trivial⟩)))))))))
  · exact cond_intro (fun a => (nd_1 n a).elim) fun _ => cond_intro (fun a => (nd_2 n a).elim) fun _ => cond_intro (fun a => (nd_3 n a).elim) fun _ => cond_intro (fun a => (nd_4 n a).elim) fun _ => cond_intro (fun a => (nd_5 n a).elim) fun _ => cond_intro (fun a => (nd_6 n a).elim) fun _ => need_intro (by rw [h1, h2]; rfl) (not_true (ky_same _ _) (need_intro (by rw [h1]; rfl) (not_true (ky_lt _ _) (need_intro (ky_le _ _) (not_true (ky_take _ _) (not_true (ky_lt _ _) (need_intro (ky_le _ _) (not_true (ky_take _ _) (not_true (decide_eq_false fun e => hy.1 e.symm) (not_true (ky_lt _ _) (need_intro (ky_le _ _) (not_true (ky_take _ _) (not_true (decide_eq_false fun e => hy.2.1 e.symm) (not_true (decide_eq_false fun e => hy.2.2.1 e.symm) ⟨(), trivial, ⟨F_ok _ _ _ _, trivial⟩, rfl, trivial⟩))))))))))))))
end Go.Proofs.Ytepohfmphgbknaa
