/- What the layer of starts asks of bytes and texts: totals, in any memory. -/
import Derived.Test.YtepohfmphgbknaaRdG
import Derived.Test.YtepohfmphgbknaaRdE
set_option linter.unusedSimpArgs false
set_option linter.unusedVariables false
namespace Go.Proofs.Ytepohfmphgbknaa
open Go Go.Ve
set_option maxRecDepth 20000
theorem dig_vc (b : Int) : vDig b := by
  rw [vDig_eq]
  repeat' (first | exact ⟨_, trivial, trivial, rfl, trivial⟩ | refine cond_intro (fun _ => ?_) fun _ => ?_)
theorem hb_vc (b : Int) : vHb b := by
  rw [vHb_eq]
  repeat' (first | exact ⟨_, trivial, trivial, rfl, trivial⟩ | refine cond_intro (fun _ => ?_) fun _ => ?_)
theorem adr_vc (b : Int) : vAdr b := by
  rw [vAdr_eq]
  repeat' (first | exact ⟨_, trivial, trivial, rfl, trivial⟩ | refine cond_intro (fun _ => ?_) fun _ => ?_)
theorem eB1_of {f : FuncId} (h : ∀ b : Int, SC Try.prog f [.int .u8 b] [] (outE oBool)) : EntryOk Try.prog f eB1 := by
  intro args H sr hs K hk
  unfold eB1 at hs
  split at hs
  · rename_i b
    cases hs
    have h2 : SC Try.prog f [.int .u8 b] H (fun v' H' => ∃ ch, K v' ch ∧ H' = chN H ch) := by
      refine SC.flat (h b) rfl ?_
      rintro v0 T ⟨o, ho, x, hx, rfl, rfl⟩
      simp only [oBool, List.mem_cons, List.mem_nil_iff, or_false] at ho
      subst ho
      exact ⟨(fun k hk => by cases hk), none, hk x trivial, by simp [chN]⟩
    exact h2
  · cases hs
theorem eHb_ok : EntryOk Try.prog 27 eB1 := eB1_of fun b => SC.ofF (V := VPl) names0 mixed0 noS_ok noO_ok (hb_vc b)
theorem eAdr_ok : EntryOk Try.prog 29 eB1 := eB1_of fun b => SC.ofF (V := VPl) names0 mixed0 noS_ok noO_ok (adr_vc b)
theorem eDig_ok : EntryOk Try.prog 30 eB1 := eB1_of fun b => SC.ofF (V := VPl) names0 mixed0 noS_ok noO_ok (dig_vc b)
theorem TBy_ok : SpecOk Try.prog (tabS TBy noS) := by
  refine tabS_ok (fun p hp => ?_) noS_ok
  simp only [TBy, List.mem_cons, List.mem_nil_iff, or_false] at hp
  rcases hp with rfl | rfl | rfl
  · exact eHb_ok
  · exact eAdr_ok
  · exact eDig_ok
theorem runH_vc (s : Bs) (hs : s.length ≤ 1099511627776) : vRunH s := by
  rw [vRunH_eq]
  refine ⟨⟨0, Nat.zero_le _, trivial, rfl, trivial⟩, fun x hx => cond_intro (fun k => need_intro k fun b _ => cond_intro (fun _ => need_intro (by rw [leI_t]; show (x : Int) + 1 ≤ _; omega) ?_) fun _ => ⟨x, hx, trivial, rfl, trivial⟩) fun _ => ⟨x, hx, trivial, rfl, trivial⟩⟩
  rw [ltI_t] at k
  have k : x < s.length := Int.ofNat_lt.1 k
  exact ⟨x + 1, k, by omega, trivial, rfl, trivial⟩
theorem runA_vc (s : Bs) (hs : s.length ≤ 1099511627776) : vRunA s := by
  rw [vRunA_eq]
  refine ⟨⟨0, Nat.zero_le _, trivial, rfl, trivial⟩, fun x hx => cond_intro (fun k => need_intro k fun b _ => cond_intro (fun _ => need_intro (by rw [leI_t]; show (x : Int) + 1 ≤ _; omega) ?_) fun _ => ⟨x, hx, trivial, rfl, trivial⟩) fun _ => ⟨x, hx, trivial, rfl, trivial⟩⟩
  rw [ltI_t] at k
  have k : x < s.length := Int.ofNat_lt.1 k
  exact ⟨x + 1, k, by omega, trivial, rfl, trivial⟩
theorem runD_vc (s : Bs) (hs : s.length ≤ 1099511627776) : vRunD s := by
  rw [vRunD_eq]
  refine ⟨⟨0, Nat.zero_le _, trivial, rfl, trivial⟩, fun x hx => cond_intro (fun k => need_intro k fun b _ => cond_intro (fun _ => need_intro (by rw [leI_t]; show (x : Int) + 1 ≤ _; omega) ?_) fun _ => ⟨x, hx, trivial, rfl, trivial⟩) fun _ => ⟨x, hx, trivial, rfl, trivial⟩⟩
  rw [ltI_t] at k
  have k : x < s.length := Int.ofNat_lt.1 k
  exact ⟨x + 1, k, by omega, trivial, rfl, trivial⟩
/-- How many bytes a text begins with that are so: at most all. -/
def isRun (g : Nat) : Bool := Nat.beq g 27 || Nat.beq g 29 || Nat.beq g 30
def eRun : SpecE := fun args _ =>
  match args with
  | [.str s, .fn (.func g) [] []] => some (.need (isRun g) (.need (le40 s) (.all Nat (fun k => k ≤ s.length) fun k => .ok (.int .i64 k) none)))
  | _ => none
theorem run_of {f : FuncId} {a : AV} {s : Bs} {H : AH} (ha : a.flat = true) (h : SC Try.prog f [.str s, a] [] (outE (oRun s))) {K : AV → Option AH → Prop} (hk : ∀ k : Nat, k ≤ s.length → K (.int .i64 k) none) : SC Try.prog f [.str s, a] H (fun v' H' => ∃ ch, K v' ch ∧ H' = chN H ch) := by
  refine SC.flat h (by simp [AV.flats, AV.flat, ha]) ?_
  rintro v0 T ⟨o, ho, x, hx, rfl, rfl⟩
  simp only [oRun, List.mem_cons, List.mem_nil_iff, or_false] at ho
  subst ho
  exact ⟨(fun k hk => by cases hk), none, hk x hx, by simp [chN]⟩
theorem eRun_ok : EntryOk Try.prog 26 eRun := by
  intro args H sr hs K hk
  unfold eRun at hs
  split at hs
  · rename_i s g
    cases hs
    obtain ⟨h1, hk1⟩ := cond_need hk
    obtain ⟨h2, hk2⟩ := cond_need hk1
    have h2 : s.length ≤ 1099511627776 := of_decide_eq_true h2
    clear hk hk1
    unfold isRun at h1
    rw [Bool.or_eq_true, Bool.or_eq_true] at h1
    rcases h1 with (h1 | h1) | h1
    · obtain rfl := Nat.eq_of_beq_eq_true h1
      exact run_of rfl (SC.ofF (V := VBy) names0 mixed0 TBy_ok noO_ok (runH_vc s h2)) hk2
    · obtain rfl := Nat.eq_of_beq_eq_true h1
      exact run_of rfl (SC.ofF (V := VBy) names0 mixed0 TBy_ok noO_ok (runA_vc s h2)) hk2
    · obtain rfl := Nat.eq_of_beq_eq_true h1
      exact run_of rfl (SC.ofF (V := VBy) names0 mixed0 TBy_ok noO_ok (runD_vc s h2)) hk2
  · cases hs
theorem decN (n b0 b1 b2 b3 : Nat) (hn : 1 ≤ n) : 1 ≤ (Lib.decodeN n b0 b1 b2 b3).2 ∧ (Lib.decodeN n b0 b1 b2 b3).2 ≤ n ∧ ((Lib.decodeN n b0 b1 b2 b3).1 < 128 → (Lib.decodeN n b0 b1 b2 b3).2 = 1 ∧ (Lib.decodeN n b0 b1 b2 b3).1 = b0) := by
  unfold Lib.decodeN
  repeat' split
  all_goals refine ⟨?_, ?_, fun h => ⟨?_, ?_⟩⟩
  all_goals dsimp only at *
  all_goals omega
theorem dec_seen {s : Bs} {x : Nat} (hx : x < s.length) : 1 ≤ (Utf8.decode ⟨⟨s⟩⟩ x).2 ∧ x + (Utf8.decode ⟨⟨s⟩⟩ x).2 ≤ s.length ∧ ((Utf8.decode ⟨⟨s⟩⟩ x).1 < 128 → (Utf8.decode ⟨⟨s⟩⟩ x).2 = 1 ∧ (Utf8.decode ⟨⟨s⟩⟩ x).1 = s[x].toNat) := by
  have e : (List.getD s x 0) = s[x] := by rw [List.getD_eq_getElem?_getD, List.getElem?_eq_getElem hx]; rfl
  have h3 : Utf8.decode ⟨⟨s⟩⟩ x = Lib.decodeN (s.length - x) s[x].toNat (s.getD (x + 1) 0).toNat (s.getD (x + 2) 0).toNat (s.getD (x + 3) 0).toNat := by
    rw [Lib.decode_N]
    show Lib.decodeN (s.length - x) (s.getD x 0).toNat _ _ _ = _
    rw [e]
  have h := decN (s.length - x) s[x].toNat (s.getD (x + 1) 0).toNat (s.getD (x + 2) 0).toNat (s.getD (x + 3) 0).toNat (by omega)
  rw [h3]
  exact ⟨h.1, by have := h.2.1; omega, h.2.2⟩
theorem ink_next {s : Bs} {x : Nat} (hx : x < s.length) (h : inkB (s.take x)) (h1 : 33 ≤ s[x].toNat) (h2 : s[x].toNat ≤ 126) : inkB (s.take (x + 1)) := by
  intro c hc
  rw [List.take_succ_eq_append_getElem hx, List.mem_append] at hc
  rcases hc with hc | hc
  · exact h c hc
  · rw [List.mem_singleton] at hc; subst hc; exact ⟨h1, h2⟩
theorem seen_vc (s : Bs) : vSeen s := by
  rw [vSeen_eq]
  refine cond_intro (fun hne => ⟨⟨0, ⟨Nat.zero_le _, fun c hc => by cases hc⟩, ⟨⟨rfl, rfl⟩, trivial⟩, trivial⟩, fun x hx => cond_intro (fun k => ?_) fun k => ?_⟩) fun _ => ⟨false, (fun h => by cases h), trivial, rfl, trivial⟩
  · have k : x < s.length := of_decide_eq_true k
    obtain ⟨d1, d2, d3⟩ := dec_seen k
    refine cond_intro (fun _ => ⟨false, (fun h => by cases h), trivial, rfl, trivial⟩) fun c1 => cond_intro (fun _ => ⟨false, (fun h => by cases h), trivial, rfl, trivial⟩) fun c2 => ?_
    rw [ltI_f] at c1
    have c2 : ltI 126 (ic (Utf8.decode ⟨⟨s⟩⟩ x).1) = false := by
      cases h : ltI 126 (ic (Utf8.decode ⟨⟨s⟩⟩ x).1) with
      | false => rfl
      | true => rw [h] at c2; cases c2
    rw [ltI_f] at c2
    have c1 : (33 : Int) ≤ ((Utf8.decode ⟨⟨s⟩⟩ x).1 : Int) := c1
    have c2 : ((Utf8.decode ⟨⟨s⟩⟩ x).1 : Int) ≤ 126 := c2
    obtain ⟨w1, w2⟩ := d3 (by omega)
    refine ⟨x + 1, ⟨k, ink_next k hx.2 (by omega) (by omega)⟩, by omega, ⟨⟨rfl, by rw [w1]⟩, trivial⟩, trivial⟩
  · have k : ¬ x < s.length := of_decide_eq_false k
    have e : s.take x = s := List.take_of_length_le (by omega)
    refine ⟨true, fun _ => ⟨?_, by rw [← e]; exact hx.2⟩, trivial, rfl, trivial⟩
    intro h0
    subst h0
    simp at hne
def eSeen : SpecE := fun args _ =>
  match args with
  | [.str s] => some (.all Bool (fun x => x = true → s ≠ [] ∧ inkB s) fun x => .ok (.bool x) none)
  | _ => none
theorem eSeen_ok : EntryOk Try.prog 20 eSeen := by
  intro args H sr hs K hk
  unfold eSeen at hs
  split at hs
  · rename_i s
    cases hs
    have h2 : SC Try.prog 20 [.str s] H (fun v' H' => ∃ ch, K v' ch ∧ H' = chN H ch) := by
      refine SC.flat (SC.ofF (V := VSn s) names0 mixed0 noS_ok noO_ok (seen_vc s)) rfl ?_
      rintro v0 T ⟨o, ho, x, hx, rfl, rfl⟩
      simp only [List.mem_cons, List.mem_nil_iff, or_false] at ho
      subst ho
      exact ⟨(fun k hk => by cases hk), none, hk x hx, by simp [chN]⟩
    exact h2
  · cases hs
end Go.Proofs.Ytepohfmphgbknaa
