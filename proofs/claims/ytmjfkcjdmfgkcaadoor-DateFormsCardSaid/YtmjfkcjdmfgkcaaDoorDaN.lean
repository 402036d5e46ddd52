/- What the reader of a form does: it takes so many digits; the year of two digits. -/
import Derived.Test.YtmjfkcjdmfgkcaaDoorDaR
import Derived.Test.YtmjfkcjdmfgkcaaDoorNumD
set_option linter.unusedSimpArgs false
set_option linter.unusedVariables false
namespace Go.Proofs.YtmjfkcjdmfgkcaaDoor
open Go Go.Ve Go.Cal
set_option maxRecDepth 20000
noncomputable def TDN : List (Nat × SpecE) := [(30, eTake), (31, Dig.eNum)]
noncomputable def VDN : VE := ⟨Tryd.prog, tabS TDN noS, noO, fun _ => none⟩
noncomputable def eNumber : SpecE := fun args H =>
  match args with
  | [.ptr p 0, .int .i64 n] => match H[0]?, H[p]? with
    | some (ABlk.glob 4 [AV.iface _ .bad]), some (.cells [.str s, .bool b] e false) => some (.need (Bool.and (leI 0 n) (Bool.and (leI n 4) (Bool.not (Nat.beq p 0)))) (.ok (.int .i64 (nXh (tkVh n.toNat s))) (some (H.set p (rdB (tkSh n.toNat s) (nmBh n.toNat s b) e)))))
    | _, _ => none
  | _ => none
noncomputable def TDL : List (Nat × SpecE) := [(6, flatE gCiv)]
noncomputable def VDL : VE := ⟨Tryd.prog, tabS TDL noS, noO, fun _ => none⟩
noncomputable def gLate (args : List AV) : Option (Bool × AV) := match args with | [.int .i64 n, .int .i64 now] => some (in99 n, .int .i64 (lateh n now)) | _ => none

noncomputable def vNumber  (s : List UInt8) (b : Bool) (e : Nat) (n : Nat) (te : Nat) : Prop := vcF VDN [] 300 [] [] 25 [.ptr 1 0, .int .i64 n] [Dig.gErr te, rdB s b e] [⟨Unit, fun _ => .int .i64 (nX (tkV n s)), fun _ => [Dig.gErr te, rdB (tkS n s) (nmB n s b) e], fun _ => True, gcB⟩]
noncomputable def vLate  (n : Int) (now : Int) : Prop := vcF VDL [] 300 [] [] 27 [.int .i64 n, .int .i64 now] [] (one (.int .i64 (late n now)))
theorem vNumber_eq  (s : List UInt8) (b : Bool) (e : Nat) (n : Nat) (te : Nat) : vNumber s b e n te = (bif Dig.le40 (tkVh n s) then bif tkBh n s b then ∃ (_x : Unit), True ∧ (((4 : Nat) = (4 : Nat) ∧ (te = te ∧ True) ∧ True) ∧ (bif e.beq e && true then (tkSh n s = tkS n s ∧ true = nmB n s b ∧ True) ∧ True else False) ∧ True) ∧ Dig.numV (tkVh n s) = nX (tkV n s) ∧ True else ∃ (_x : Unit), True ∧ (((4 : Nat) = (4 : Nat) ∧ (te = te ∧ True) ∧ True) ∧ (bif e.beq e && true then (tkSh n s = tkS n s ∧ (!eqI (Dig.numE (tkVh n s)) (0 : Int)) = nmB n s b ∧ True) ∧ True else False) ∧ True) ∧ Dig.numV (tkVh n s) = nX (tkV n s) ∧ True else False) := by kernel_rfl
theorem vLate_eq  (n : Int) (now : Int) : vLate n now = (bif leI (0 : Int) (civ (min (max now (0 : Int)) (253402300799 : Int))).y && true then bif leI (-9223372036854775808 : Int) ((civ (min (max now (0 : Int)) (253402300799 : Int))).y - (civ (min (max now (0 : Int)) (253402300799 : Int))).y % (100 : Int)) && leI ((civ (min (max now (0 : Int)) (253402300799 : Int))).y - (civ (min (max now (0 : Int)) (253402300799 : Int))).y % (100 : Int)) (9223372036854775807 : Int) then bif leI (-9223372036854775808 : Int) ((civ (min (max now (0 : Int)) (253402300799 : Int))).y - (civ (min (max now (0 : Int)) (253402300799 : Int))).y % (100 : Int) + n) && leI ((civ (min (max now (0 : Int)) (253402300799 : Int))).y - (civ (min (max now (0 : Int)) (253402300799 : Int))).y % (100 : Int) + n) (9223372036854775807 : Int) then bif leI (-9223372036854775808 : Int) ((civ (min (max now (0 : Int)) (253402300799 : Int))).y + (50 : Int)) && leI ((civ (min (max now (0 : Int)) (253402300799 : Int))).y + (50 : Int)) (9223372036854775807 : Int) then bif ltI ((civ (min (max now (0 : Int)) (253402300799 : Int))).y + (50 : Int)) ((civ (min (max now (0 : Int)) (253402300799 : Int))).y - (civ (min (max now (0 : Int)) (253402300799 : Int))).y % (100 : Int) + n) then bif leI (-9223372036854775808 : Int) ((civ (min (max now (0 : Int)) (253402300799 : Int))).y - (civ (min (max now (0 : Int)) (253402300799 : Int))).y % (100 : Int) + n - (100 : Int)) && leI ((civ (min (max now (0 : Int)) (253402300799 : Int))).y - (civ (min (max now (0 : Int)) (253402300799 : Int))).y % (100 : Int) + n - (100 : Int)) (9223372036854775807 : Int) then bif ltI ((civ (min (max now (0 : Int)) (253402300799 : Int))).y - (civ (min (max now (0 : Int)) (253402300799 : Int))).y % (100 : Int) + n - (100 : Int)) (1970 : Int) then bif leI (-9223372036854775808 : Int) ((civ (min (max now (0 : Int)) (253402300799 : Int))).y - (civ (min (max now (0 : Int)) (253402300799 : Int))).y % (100 : Int) + n - (100 : Int) + (100 : Int)) && leI ((civ (min (max now (0 : Int)) (253402300799 : Int))).y - (civ (min (max now (0 : Int)) (253402300799 : Int))).y % (100 : Int) + n - (100 : Int) + (100 : Int)) (9223372036854775807 : Int) then ∃ (_x : Unit), True ∧ True ∧ (civ (min (max now (0 : Int)) (253402300799 : Int))).y - (civ (min (max now (0 : Int)) (253402300799 : Int))).y % (100 : Int) + n - (100 : Int) + (100 : Int) = late n now ∧ True else False else ∃ (_x : Unit), True ∧ True ∧ (civ (min (max now (0 : Int)) (253402300799 : Int))).y - (civ (min (max now (0 : Int)) (253402300799 : Int))).y % (100 : Int) + n - (100 : Int) = late n now ∧ True else False else bif ltI ((civ (min (max now (0 : Int)) (253402300799 : Int))).y - (civ (min (max now (0 : Int)) (253402300799 : Int))).y % (100 : Int) + n) (1970 : Int) then bif leI (-9223372036854775808 : Int) ((civ (min (max now (0 : Int)) (253402300799 : Int))).y - (civ (min (max now (0 : Int)) (253402300799 : Int))).y % (100 : Int) + n + (100 : Int)) && leI ((civ (min (max now (0 : Int)) (253402300799 : Int))).y - (civ (min (max now (0 : Int)) (253402300799 : Int))).y % (100 : Int) + n + (100 : Int)) (9223372036854775807 : Int) then ∃ (_x : Unit), True ∧ True ∧ (civ (min (max now (0 : Int)) (253402300799 : Int))).y - (civ (min (max now (0 : Int)) (253402300799 : Int))).y % (100 : Int) + n + (100 : Int) = late n now ∧ True else False else ∃ (_x : Unit), True ∧ True ∧ (civ (min (max now (0 : Int)) (253402300799 : Int))).y - (civ (min (max now (0 : Int)) (253402300799 : Int))).y % (100 : Int) + n = late n now ∧ True else False else False else False else False) := by kernel_rfl
theorem tl_all {p : Nat → Bool} : ∀ {s : List UInt8}, (∀ c ∈ s, p c.toNat = true) → tl p s = []
  | [], _ => rfl
  | a :: r, h => by rw [tl_cons, if_pos (h a (by simp))]; exact tl_all fun c hc => h c (by simp [hc])
theorem trimD_all {s : List UInt8} (h : ∀ c ∈ s, 48 ≤ c.toNat ∧ c.toNat ≤ 57) : Dig.trimD s = [] := by
  have h2 : ∀ c ∈ s, memB Dig.digs c.toNat = true := fun c hc => (Dig.digs_iff _).2 (h c hc)
  unfold Dig.trimD Dig.trimP tr
  rw [tl_all (fun c hc => h2 c (List.mem_reverse.1 hc))]
  rfl
theorem nat_small {s : List UInt8} (hl : s.length ≤ 4) (h : ∀ c ∈ s, 48 ≤ c.toNat ∧ c.toNat ≤ 57) : Dig.natV s ≤ 9999 := by
  match s, hl, h with
  | [], _, _ => simp [Dig.natV]
  | [a], _, h =>
    have := h a (by simp)
    simp only [Dig.natV, List.foldl_cons, List.foldl_nil]; omega
  | [a, b], _, h =>
    have := h a (by simp)
    have := h b (by simp)
    simp only [Dig.natV, List.foldl_cons, List.foldl_nil]; omega
  | [a, b, c], _, h =>
    have := h a (by simp)
    have := h b (by simp)
    have := h c (by simp)
    simp only [Dig.natV, List.foldl_cons, List.foldl_nil]; omega
  | [a, b, c, d], _, h =>
    have := h a (by simp)
    have := h b (by simp)
    have := h c (by simp)
    have := h d (by simp)
    simp only [Dig.natV, List.foldl_cons, List.foldl_nil]; omega
  | _ :: _ :: _ :: _ :: _ :: _, hl, _ => simp at hl
theorem okN_iff {s : List UInt8} : okN s = true ↔ s ≠ [] ∧ ∀ c ∈ s, 48 ≤ c.toNat ∧ c.toNat ≤ 57 := by
  unfold okN
  rw [Bool.and_eq_true, decide_eq_true_iff, List.all_eq_true]
  exact and_congr_right fun _ => forall_congr' fun c => imp_congr_right fun _ => isDg_iff
theorem num_small {s : List UInt8} (hl : s.length ≤ 4) : Dig.numV s = nX s ∧ (!eqI (Dig.numE s) 0) = !okN s := by
  by_cases h : okN s = true
  · obtain ⟨h1, h2⟩ := okN_iff.1 h
    have h3 : Dig.numE s = 0 := by
      unfold Dig.numE
      rw [if_neg (by rintro (e | e); exact h1 e; exact e (trimD_all h2)), if_pos (by have := nat_small hl h2; omega)]
    refine ⟨?_, by rw [h3, h]; rfl⟩
    unfold Dig.numV nX
    rw [if_pos h3, if_pos h]; rfl
  · have h3 : Dig.numE s = 4 := by
      unfold Dig.numE
      rw [if_pos]
      refine Decidable.byContradiction fun hn => h (okN_iff.2 ⟨fun e => hn (.inl e), Dig.digits_of (Decidable.byContradiction fun e => hn (.inr e))⟩)
    refine ⟨?_, by rw [h3]; simp only [Bool.not_eq_true] at h; rw [h]; rfl⟩
    unfold Dig.numV nX
    rw [if_neg (by rw [h3]; decide), if_neg h]
theorem tkV_len (n : Nat) (s : List UInt8) : (tkV n s).length ≤ n := by
  unfold tkV
  split
  · simp
  · rw [List.length_take]; omega
theorem TDN_ok : SpecOk Tryd.prog (tabS TDN noS) := by
  refine tabS_ok (fun p hp => ?_) noS_ok
  simp only [TDN, List.mem_cons, List.mem_nil_iff, or_false] at hp
  rcases hp with rfl | rfl
  · exact eTake_ok
  · exact Dig.eNum_ok
theorem number_vc (s : List UInt8) (b : Bool) (e n te : Nat) (hn : n ≤ 4) : vNumber s b e n te := by
  have hl := Nat.le_trans (tkV_len n s) hn
  obtain ⟨h1, h2⟩ := num_small hl
  rw [vNumber_eq]
  simp only [tkVh_eq, tkSh_eq, tkBh_eq, msBh_eq, nmBh_eq, nXh_eq, nmXh_eq, nmRh_eq]
  ((try simp only [ic, cond_F]); simp only [cond_P, leI_t, leI_f, ltI_t, ltI_f, eqI_t, eqI_f, and_t, not_t, not_f, dec_t, dec_f, true_and, and_true, exists_const, eq_self, Nat.beq_refl, sameB_slf, Nat.zero_add, Nat.mul_one])
  rw [h1, h2]
  refine ⟨decide_eq_true (by omega), fun h => ⟨?_, rfl⟩, fun h => ⟨?_, rfl⟩⟩
  · unfold nmB; rw [if_pos h]
  · unfold nmB; rw [if_neg (by rw [h]; decide)]
theorem eNumber_ok : EntryOk Tryd.prog 25 eNumber := by
  intro args H sr hs K hk
  unfold eNumber at hs
  split at hs
  · rename_i p n
    split at hs
    · rename_i te s b e hg hb
      cases hs
      simp only [tkVh_eq, tkSh_eq, tkBh_eq, msBh_eq, nmBh_eq, nXh_eq, nmXh_eq, nmRh_eq] at hk
      obtain ⟨h1, h2⟩ := cond_need hk
      rw [and_t, and_t, leI_t, leI_t, not_t] at h1
      obtain ⟨m, rfl⟩ : ∃ m : Nat, n = m := ⟨n.toNat, by omega⟩
      have hp : p ≠ 0 := fun e => by rw [e, Nat.beq_refl] at h1; cases h1.2.2
      have hsc : SC Tryd.prog 25 [.ptr 1 0, .int .i64 m] [Dig.gErr te, rdB s b e] (fun v H' => v = .int .i64 (nX (tkV m s)) ∧ H' = [Dig.gErr te, rdB (tkS m s) (nmB m s b) e]) :=
        (SC.ofF (V := VDN) names0 mixed0 TDN_ok noO_ok (number_vc s b e m te (by omega))).mono fun v H' h => by
          obtain ⟨_, _, h1, h2⟩ := outE_one h
          exact ⟨h1, h2⟩
      have := SC.fixed hsc rfl (H := H) (σ := [0, p]) (by simp [Ne.symm hp]) rfl rfl (fun i b' hi => by
          match i, hi with
          | 0, hi => simp at hi; subst hi; exact hg
          | 1, hi => simp at hi; subst hi; exact hb
          | i + 2, hi => simp at hi) (fun k hk => by
          simp at hk
          rcases hk with rfl | rfl
          · exact ⟨by simp [Dig.gErr], fun _ => rfl⟩
          · exact ⟨by simp [rdB], fun _ => rfl⟩) (fun k hk => by
          simp at hk
          rcases hk with rfl | rfl <;> exact fun _ => rfl) (fun i k k' h h' => by
          match i, h, h' with
          | 0, h, h' => simp at h h'; subst h; subst h'; rfl
          | 1, h, h' => simp at h h'; subst h; subst h'; rfl
          | i + 2, h, _ => simp at h)
      refine this.mono ?_
      rintro v H' ⟨rfl, rfl⟩
      refine ⟨_, h2, ?_⟩
      show (H.set 0 _).set p _ = H.set p _
      rw [show H.set 0 (Dig.gErr te) = H from set_same hg]
      rfl
    · cases hs
  · cases hs
theorem TDL_ok : SpecOk Tryd.prog (tabS TDL noS) := by
  refine tabS_ok (fun p hp => ?_) noS_ok
  simp only [TDL, List.mem_cons, List.mem_nil_iff, or_false] at hp
  subst hp
  exact gCiv_ok
theorem late_vc (n now : Int) (h : in99 n = true) : vLate n now := by
  rw [vLate_eq]
  simp only [in99, and_t, leI_t] at h
  have hr := rng_of (civ_ok (t := min (max now 0) 253402300799) (okT_iff.2 (by omega))).1
  have y0 := hr.y0
  have y1 := hr.y1
  obtain ⟨Y, hY⟩ : ∃ Y, Y = (civ (min (max now 0) 253402300799)).y := ⟨_, rfl⟩
  have el : late n now = (fun y : Int => (fun y : Int => if y < 1970 then y + 100 else y) (if Y + 50 < y then y - 100 else y)) (Y - Y % 100 + n) := by rw [hY]; rfl
  simp only at el
  rw [← hY] at y0 y1 ⊢
  ((try simp only [ic, cond_F]); simp only [cond_P, leI_t, leI_f, ltI_t, ltI_f, eqI_t, eqI_f, and_t, not_t, not_f, dec_t, dec_f, true_and, and_true, exists_const, eq_self, Nat.beq_refl, sameB_slf, Nat.zero_add, Nat.mul_one])
  rw [el]
  refine ⟨by omega, by omega, by omega, by omega, fun h1 => ⟨by omega, fun h2 => ⟨by omega, ?_⟩, fun h2 => ?_⟩, fun h1 => ⟨fun h2 => ⟨by omega, ?_⟩, fun h2 => ?_⟩⟩
  · rw [if_pos h1, if_pos h2]
  · rw [if_pos h1, if_neg (by omega)]
  · rw [if_neg (show ¬ (Y + 50 < Y - Y % 100 + n) by omega), if_pos h2]
  · rw [if_neg (show ¬ (Y + 50 < Y - Y % 100 + n) by omega), if_neg (by omega)]
theorem gLate_ok : EntryOk Tryd.prog 27 (flatE gLate) := by
  refine flatE_ok fun args b v hg hb => ?_
  unfold gLate at hg
  split at hg
  · rename_i n now
    cases hg
    rw [lateh_eq]
    exact ⟨rfl, rfl, SC.one (V := VDL) names0 mixed0 TDL_ok noO_ok (late_vc n now hb)⟩
  · cases hg
