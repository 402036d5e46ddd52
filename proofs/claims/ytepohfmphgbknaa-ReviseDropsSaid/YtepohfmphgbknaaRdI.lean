/- Hosts' ports: totals. -/
import Derived.Test.YtepohfmphgbknaaRdH
set_option linter.unusedSimpArgs false
set_option linter.unusedVariables false
namespace Go.Proofs.Ytepohfmphgbknaa
open Go Go.Ve
set_option maxRecDepth 20000
noncomputable def TPo : List (Nat × SpecE) := [(26, eRun)]
noncomputable def VPo : VE := ⟨Try.prog, tabS TPo noS, noO, fun _ => some ⟨[], [], []⟩⟩

noncomputable def vPort  (s : Bs) : Prop := vcF VPo [] 60 [] [] 19 [.str s] [] [⟨Int × Bool, fun x => .tuple [.int .i64 x.1, .bool x.2], fun _ => [], fun _ => True, gcB⟩]
theorem vPort_eq  (s : Bs) : vPort s = (bif le40 s then ∀ (x : Nat), x ≤ List.length s → bif leI (1 : Int) (ic (List.length s)) then bif leI (1 : Int) (ic (List.length s)) then bif !decide (List.take (1 : Nat) s = [(91 : UInt8)]) then bif eqI (ic x) (0 : Int) then ∃ (x_1 : Int × Bool), True ∧ True ∧ ((0 : Int) = x_1.fst ∧ ltI (0 : Int) (ic x) = x_1.snd ∧ True) ∧ True else bif eqI (ic x) (ic (List.length s)) then ∃ (x_1 : Int × Bool), True ∧ True ∧ ((0 : Int) = x_1.fst ∧ ltI (0 : Int) (ic x) = x_1.snd ∧ True) ∧ True else bif leI (ic x) (ic (List.length s)) then bif leI (1 : Int) (ic (List.drop x s).length) then bif leI (1 : Int) (ic (List.drop x s).length) then bif !decide (List.take (1 : Nat) (List.drop x s) = [(58 : UInt8)]) then ∃ (x_1 : Int × Bool), True ∧ True ∧ (ic (List.drop x s).length = x_1.fst ∧ false = x_1.snd ∧ True) ∧ True else bif leI (1 : Int) (ic (List.drop x s).length) then bif leI (ic (List.drop (1 : Nat) (List.drop x s)).length) (5 : Int) then bif le40 (List.drop (1 : Nat) (List.drop x s)) then ∀ (x_1 : Nat), x_1 ≤ (List.drop (1 : Nat) (List.drop x s)).length → ∃ (x_2 : Int × Bool), True ∧ True ∧ (ic (List.drop (1 : Nat) (List.drop x s)).length = x_2.fst ∧ eqI (ic x_1) (ic (List.drop (1 : Nat) (List.drop x s)).length) = x_2.snd ∧ True) ∧ True else False else ∃ (x_1 : Int × Bool), True ∧ True ∧ (ic (List.drop (1 : Nat) (List.drop x s)).length = x_1.fst ∧ false = x_1.snd ∧ True) ∧ True else False else False else ∃ (x_1 : Int × Bool), True ∧ True ∧ (ic (List.drop x s).length = x_1.fst ∧ false = x_1.snd ∧ True) ∧ True else False else bif leI (1 : Int) (ic (List.length s)) then bif le40 (List.drop (1 : Nat) s) then ∀ (x : Nat), x ≤ (List.drop (1 : Nat) s).length → bif eqI (ic x) (0 : Int) then ∃ (x : Int × Bool), True ∧ True ∧ ((0 : Int) = x.fst ∧ false = x.snd ∧ True) ∧ True else bif eqI (ic x) (ic (List.drop (1 : Nat) s).length) then ∃ (x : Int × Bool), True ∧ True ∧ ((0 : Int) = x.fst ∧ false = x.snd ∧ True) ∧ True else bif ltI (ic x) (ic (List.drop (1 : Nat) s).length) then bif !eqI (byteAt (List.drop (1 : Nat) s) x) (93 : Int) then ∃ (x : Int × Bool), True ∧ True ∧ ((0 : Int) = x.fst ∧ false = x.snd ∧ True) ∧ True else bif leI (ic x + (2 : Int)) (9223372036854775807 : Int) then bif eqI (ic x + (2 : Int)) (ic (List.length s)) then ∃ (x : Int × Bool), True ∧ True ∧ ((0 : Int) = x.fst ∧ true = x.snd ∧ True) ∧ True else bif leI (ic x + (2 : Int)) (ic (List.length s)) then bif leI (1 : Int) (ic (List.drop (ic x + (2 : Int)).toNat s).length) then bif leI (1 : Int) (ic (List.drop (ic x + (2 : Int)).toNat s).length) then bif !decide (List.take (1 : Nat) (List.drop (ic x + (2 : Int)).toNat s) = [(58 : UInt8)]) then ∃ (x_1 : Int × Bool), True ∧ True ∧ (ic (List.drop (ic x + (2 : Int)).toNat s).length = x_1.fst ∧ false = x_1.snd ∧ True) ∧ True else bif leI (1 : Int) (ic (List.drop (ic x + (2 : Int)).toNat s).length) then bif leI (ic (List.drop (1 : Nat) (List.drop (ic x + (2 : Int)).toNat s)).length) (5 : Int) then bif le40 (List.drop (1 : Nat) (List.drop (ic x + (2 : Int)).toNat s)) then ∀ (x_1 : Nat), x_1 ≤ (List.drop (1 : Nat) (List.drop (ic x + (2 : Int)).toNat s)).length → ∃ (x_2 : Int × Bool), True ∧ True ∧ (ic (List.drop (1 : Nat) (List.drop (ic x + (2 : Int)).toNat s)).length = x_2.fst ∧ eqI (ic x_1) (ic (List.drop (1 : Nat) (List.drop (ic x + (2 : Int)).toNat s)).length) = x_2.snd ∧ True) ∧ True else False else ∃ (x_1 : Int × Bool), True ∧ True ∧ (ic (List.drop (1 : Nat) (List.drop (ic x + (2 : Int)).toNat s)).length = x_1.fst ∧ false = x_1.snd ∧ True) ∧ True else False else False else ∃ (x_1 : Int × Bool), True ∧ True ∧ (ic (List.drop (ic x + (2 : Int)).toNat s).length = x_1.fst ∧ false = x_1.snd ∧ True) ∧ True else False else False else False else False else False else False else bif eqI (ic x) (0 : Int) then ∃ (x_1 : Int × Bool), True ∧ True ∧ ((0 : Int) = x_1.fst ∧ ltI (0 : Int) (ic x) = x_1.snd ∧ True) ∧ True else bif eqI (ic x) (ic (List.length s)) then ∃ (x_1 : Int × Bool), True ∧ True ∧ ((0 : Int) = x_1.fst ∧ ltI (0 : Int) (ic x) = x_1.snd ∧ True) ∧ True else bif leI (ic x) (ic (List.length s)) then bif leI (1 : Int) (ic (List.drop x s).length) then bif leI (1 : Int) (ic (List.drop x s).length) then bif !decide (List.take (1 : Nat) (List.drop x s) = [(58 : UInt8)]) then ∃ (x_1 : Int × Bool), True ∧ True ∧ (ic (List.drop x s).length = x_1.fst ∧ false = x_1.snd ∧ True) ∧ True else bif leI (1 : Int) (ic (List.drop x s).length) then bif leI (ic (List.drop (1 : Nat) (List.drop x s)).length) (5 : Int) then bif le40 (List.drop (1 : Nat) (List.drop x s)) then ∀ (x_1 : Nat), x_1 ≤ (List.drop (1 : Nat) (List.drop x s)).length → ∃ (x_2 : Int × Bool), True ∧ True ∧ (ic (List.drop (1 : Nat) (List.drop x s)).length = x_2.fst ∧ eqI (ic x_1) (ic (List.drop (1 : Nat) (List.drop x s)).length) = x_2.snd ∧ True) ∧ True else False else ∃ (x_1 : Int × Bool), True ∧ True ∧ (ic (List.drop (1 : Nat) (List.drop x s)).length = x_1.fst ∧ false = x_1.snd ∧ True) ∧ True else False else False else ∃ (x_1 : Int × Bool), True ∧ True ∧ (ic (List.drop x s).length = x_1.fst ∧ false = x_1.snd ∧ True) ∧ True else False else False) := by kernel_rfl
theorem le_len {s : Bs} (h : s.length ≤ 1099511627776) (a : Nat) : le40 (s.drop a) = true := decide_eq_true (by show _ ≤ 1099511627776; rw [List.length_drop]; omega)
theorem le_len2 {s : Bs} (h : s.length ≤ 1099511627776) (a b : Nat) : le40 ((s.drop a).drop b) = true := decide_eq_true (by show _ ≤ 1099511627776; rw [List.length_drop, List.length_drop]; omega)
theorem leI_in {a b : Nat} (h : a ≤ b) : leI (ic a) (ic b) = true := by rw [leI_t]; exact Int.ofNat_le.2 h
theorem lt_of_ne {a b : Nat} (h : a ≤ b) (k : eqI (ic a) (ic b) = false) : ltI (ic a) (ic b) = true := by
  rw [eqI_f] at k
  have k : ¬ (a : Int) = (b : Int) := k
  rw [ltI_t]; show (a : Int) < (b : Int); omega
theorem port_vc (s : Bs) (hs : s.length ≤ 1099511627776) : vPort s := by
  rw [vPort_eq]
  have tail : ∀ x : Nat, x ≤ s.length → (bif leI 1 (ic (List.drop x s).length) then bif leI 1 (ic (List.drop x s).length) then bif !decide (List.take 1 (List.drop x s) = [58]) then ∃ (x_1 : Int × Bool), True ∧ True ∧ (ic (List.drop x s).length = x_1.fst ∧ false = x_1.snd ∧ True) ∧ True else bif leI 1 (ic (List.drop x s).length) then bif leI (ic (List.drop 1 (List.drop x s)).length) 5 then bif le40 (List.drop 1 (List.drop x s)) then ∀ (x_1 : Nat), x_1 ≤ (List.drop 1 (List.drop x s)).length → ∃ (x_2 : Int × Bool), True ∧ True ∧ (ic (List.drop 1 (List.drop x s)).length = x_2.fst ∧ eqI (ic x_1) (ic (List.drop 1 (List.drop x s)).length) = x_2.snd ∧ True) ∧ True else False else ∃ (x_1 : Int × Bool), True ∧ True ∧ (ic (List.drop 1 (List.drop x s)).length = x_1.fst ∧ false = x_1.snd ∧ True) ∧ True else False else False else ∃ (x_1 : Int × Bool), True ∧ True ∧ (ic (List.drop x s).length = x_1.fst ∧ false = x_1.snd ∧ True) ∧ True) := fun x hx =>
    cond_intro (fun k => need_intro k (cond_intro (fun _ => ⟨(_, _), trivial, trivial, ⟨rfl, rfl, trivial⟩, trivial⟩) fun _ => need_intro k (cond_intro (fun _ => need_intro (le_len2 hs _ _) fun y _ => ⟨(_, _), trivial, trivial, ⟨rfl, rfl, trivial⟩, trivial⟩) fun _ => ⟨(_, _), trivial, trivial, ⟨rfl, rfl, trivial⟩, trivial⟩))) fun _ => ⟨(_, _), trivial, trivial, ⟨rfl, rfl, trivial⟩, trivial⟩
  have plain : ∀ x : Nat, x ≤ s.length → _ := fun x hx => tail x hx
  refine need_intro (decide_eq_true hs) fun x hx => cond_intro (fun k => need_intro k (cond_intro (fun _ => cond_intro (fun _ => ⟨(_, _), trivial, trivial, ⟨rfl, rfl, trivial⟩, trivial⟩) fun _ => cond_intro (fun _ => ⟨(_, _), trivial, trivial, ⟨rfl, rfl, trivial⟩, trivial⟩) fun _ => need_intro (leI_in hx) (tail x hx)) fun _ => need_intro k (need_intro (le_len hs _) fun y hy => cond_intro (fun _ => ⟨(_, _), trivial, trivial, ⟨rfl, rfl, trivial⟩, trivial⟩) fun _ => cond_intro (fun _ => ⟨(_, _), trivial, trivial, ⟨rfl, rfl, trivial⟩, trivial⟩) fun ne => need_intro (lt_of_ne hy ne) (cond_intro (fun _ => ⟨(_, _), trivial, trivial, ⟨rfl, rfl, trivial⟩, trivial⟩) fun _ => need_intro ?_ (cond_intro (fun _ => ⟨(_, _), trivial, trivial, ⟨rfl, rfl, trivial⟩, trivial⟩) fun _ => need_intro ?_ ?_))))) fun _ => cond_intro (fun _ => ⟨(_, _), trivial, trivial, ⟨rfl, rfl, trivial⟩, trivial⟩) fun _ => cond_intro (fun _ => ⟨(_, _), trivial, trivial, ⟨rfl, rfl, trivial⟩, trivial⟩) fun _ => need_intro (leI_in hx) (tail x hx)
  · rw [List.length_drop] at hy
    rw [leI_t]; show (y : Int) + 2 ≤ _; omega
  · rw [leI_t] at k
    have k : (1 : Int) ≤ (s.length : Int) := k
    have l := lt_of_ne hy ne
    rw [ltI_t] at l
    have l : (y : Int) < ((List.drop 1 s).length : Int) := l
    rw [List.length_drop] at l
    rw [leI_t]; show (y : Int) + 2 ≤ (s.length : Int); omega
  · rw [leI_t] at k
    have k : (1 : Int) ≤ (s.length : Int) := k
    have l := lt_of_ne hy ne
    rw [ltI_t] at l
    have l : (y : Int) < ((List.drop 1 s).length : Int) := l
    rw [List.length_drop] at l
    exact tail _ (by show ((y : Int) + 2).toNat ≤ _; omega)
def ePort : SpecE := fun args _ =>
  match args with
  | [.str s] => some (.need (le40 s) (.all (Int × Bool) (fun _ => True) fun x => .ok (.tuple [.int .i64 x.1, .bool x.2]) none))
  | _ => none
theorem TPo_ok : SpecOk Try.prog (tabS TPo noS) := by
  refine tabS_ok (fun p hp => ?_) noS_ok
  simp only [TPo, List.mem_cons, List.mem_nil_iff, or_false] at hp
  subst hp
  exact eRun_ok
theorem ePort_ok : EntryOk Try.prog 19 ePort := by
  intro args H sr hs K hk
  unfold ePort at hs
  split at hs
  · rename_i s
    cases hs
    obtain ⟨h1, hk1⟩ := cond_need hk
    have h2 : SC Try.prog 19 [.str s] H (fun v' H' => ∃ ch, K v' ch ∧ H' = chN H ch) := by
      refine SC.flat (SC.ofF (V := VPo) names0 mixed0 TPo_ok noO_ok (port_vc s (of_decide_eq_true h1))) rfl ?_
      rintro v0 T ⟨o, ho, x, hx, rfl, rfl⟩
      simp only [List.mem_cons, List.mem_nil_iff, or_false] at ho
      subst ho
      exact ⟨(fun k hk => by cases hk), none, hk1 x trivial, by simp [chN]⟩
    exact h2
  · cases hs
