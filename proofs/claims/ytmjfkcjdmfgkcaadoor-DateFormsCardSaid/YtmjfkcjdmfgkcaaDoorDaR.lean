/- What the reader of a form does: it takes so many bytes, a text, a name. -/
import Derived.Test.YtmjfkcjdmfgkcaaDoorDaM
import Derived.Test.YtmjfkcjdmfgkcaaDoorDaR0
import Derived.Test.YtmjfkcjdmfgkcaaDoorDtH
set_option linter.unusedSimpArgs false
set_option linter.unusedVariables false
namespace Go.Proofs.YtmjfkcjdmfgkcaaDoor
open Go Go.Ve Go.Cal
set_option maxRecDepth 20000
def rdB (s : List UInt8) (b : Bool) (e : Nat) : ABlk := .cells [.str s, .bool b] e false
noncomputable def eTake : SpecE := fun args H =>
  match args with
  | [.ptr p 0, .int .i64 n] => match H[p]? with
    | some (.cells [.str s, .bool b] e false) => some (.need (leI 0 n) (.ok (.str (tkVh n.toNat s)) (some (H.set p (rdB (tkSh n.toNat s) (tkBh n.toNat s b) e)))))
    | _ => none
  | _ => none
noncomputable def eMust : SpecE := fun args H =>
  match args with
  | [.ptr p 0, .str x] => match H[p]? with
    | some (.cells [.str s, .bool b] e false) => some (.ok (.tuple []) (some (H.set p (rdB (tkSh x.length s) (msBh x s b) e))))
    | _ => none
  | _ => none
def getSD : List AV → List (List UInt8)
  | .str a :: r => a :: getSD r
  | _ => []
noncomputable def eName : SpecE := fun args H =>
  match args with
  | [.ptr p 0, .sl q 0 len _ _, .int .i64 n] => match H[p]?, H[q]? with
    | some (.cells [.str s, .bool b] e false), some (.cells vs _ _) => some (.need (Bool.and (leI 0 n) (Bool.not (Nat.beq p q))) (.needP (vs = tsD (getSD vs) ∧ len = (getSD vs).length ∧ (getSD vs).length ≤ 1000000)
        (.ok (.int .i64 (nmXh (getSD vs) n.toNat (s, b))) (some (H.set p (rdB (nmRh (getSD vs) n.toNat (s, b)).1 (nmRh (getSD vs) n.toNat (s, b)).2 e))))))
    | _, _ => none
  | _ => none
def gPre (args : List AV) : Option (Bool × AV) := match args with | [.str s, .str t] => some (true, .bool (t.isPrefixOf s)) | _ => none
noncomputable def TDR : List (Nat × SpecE) := [(30, eTake), (28, flatE gPre)]
noncomputable def VDR : VE := ⟨Tryd.prog, tabS TDR noS, noO, fun _ => none⟩
noncomputable def VDP : VE := ⟨Tryd.prog, noS, noO, fun _ => some ⟨[], [], []⟩⟩
noncomputable def aName (l : List (List UInt8)) (n : Nat) (s : List UInt8) : Anns := [(2, [.mk Nat (fun i => [(11, .int .i64 i)]) (fun _ => none) (fun i => i ≤ l.length ∧ nmI (l.take i) n s = none) (fun i => l.length - i) gcB gcB (fun i => [(15, .str (l.getD i []))]) (fun _ => [])])]

noncomputable def vTake  (s : List UInt8) (b : Bool) (e : Nat) (n : Nat) : Prop := vcF V0 [] 300 [] [] 30 [.ptr 0 0, .int .i64 n] [rdB s b e] [⟨Unit, fun _ => .str (tkV n s), fun _ => [rdB (tkS n s) (tkB n s b) e], fun _ => True, gcB⟩]
noncomputable def vMust  (s : List UInt8) (b : Bool) (e : Nat) (x : List UInt8) : Prop := vcF VDR [] 300 [] [] 24 [.ptr 0 0, .str x] [rdB s b e] [⟨Unit, fun _ => .tuple [], fun _ => [rdB (tkS x.length s) (msB x s b) e], fun _ => True, gcB⟩]
noncomputable def vPre  (s : List UInt8) (t : List UInt8) : Prop := vcF VDP [] 300 [] [] 28 [.str s, .str t] [] (one (.bool (t.isPrefixOf s)))
noncomputable def vName  (s : List UInt8) (b : Bool) (e : Nat) (l : List B8) (n : Nat) (e2 : Nat) (ro : Bool) (c : Nat) (ex : Bool) : Prop := vcF VDR [] 300 (aName l n s) [] 23 [.ptr 0 0, .sl 1 0 l.length c ex, .int .i64 n] [rdB s b e, .cells (tsD l) e2 ro] [⟨Unit, fun _ => .int .i64 (nmX l n (s, b)), fun _ => [rdB (nmR l n (s, b)).1 (nmR l n (s, b)).2 e, .cells (tsD l) e2 ro], fun _ => True, gcB⟩]
def gqDaR0 : Nat → Nat := (fun (b : Nat) => [(0 : Nat), (1 : Nat)].getD b (2 : Nat))
theorem vTake_eq  (s : List UInt8) (b : Bool) (e : Nat) (n : Nat) : vTake s b e n = (bif ltI (ic s.length) (ic n) then ∃ (_x : Unit), True ∧ ((bif e.beq e && true then (s = tkS n s ∧ true = tkB n s b ∧ True) ∧ True else False) ∧ True) ∧ ([] : List UInt8) = tkV n s ∧ True else bif leI (ic n) (ic s.length) then bif leI (ic n) (ic s.length) then ∃ (_x : Unit), True ∧ ((bif e.beq e && true then (List.drop n s = tkS n s ∧ b = tkB n s b ∧ True) ∧ True else False) ∧ True) ∧ List.take n s = tkV n s ∧ True else False else False) := by kernel_rfl
theorem vMust_eq  (s : List UInt8) (b : Bool) (e : Nat) (x : List UInt8) : vMust s b e x = (bif !decide (tkVh x.length s = x) then ∃ (_x : Unit), True ∧ ((bif e.beq e && true then (tkSh x.length s = tkS x.length s ∧ true = msB x s b ∧ True) ∧ True else False) ∧ True) ∧ True ∧ True else ∃ (_x : Unit), True ∧ ((bif e.beq e && true then (tkSh x.length s = tkS x.length s ∧ tkBh x.length s b = msB x s b ∧ True) ∧ True else False) ∧ True) ∧ True ∧ True) := by kernel_rfl
theorem vPre_eq  (s : List UInt8) (t : List UInt8) : vPre s t = (bif leI (ic t.length) (ic s.length) then bif leI (ic t.length) (ic s.length) then ∃ (_x : Unit), True ∧ True ∧ decide (List.take t.length s = t) = t.isPrefixOf s ∧ True else False else ∃ (_x : Unit), True ∧ True ∧ false = t.isPrefixOf s ∧ True) := by kernel_rfl
theorem vName_eq  (s : List UInt8) (b : Bool) (e : Nat) (l : List B8) (n : Nat) (e2 : Nat) (ro : Bool) (c : Nat) (ex : Bool) : vName s b e l n e2 ro c ex = ((∃ (x : Nat), (x ≤ l.length ∧ nmI (List.take x l) n s = none) ∧ ((bif e.beq e && true then (s = s ∧ b = b ∧ True) ∧ True else False) ∧ (bif e2.beq e2 && sameB ro ro then cellsP gqDaR0 (tsD l) (tsD l) ∧ True else False) ∧ True) ∧ (0 : Int) = ic x ∧ True) ∧ ∀ (x : Nat), x ≤ l.length ∧ nmI (List.take x l) n s = none → bif ltI (ic x) (ic l.length) then bif ltI (ic x) (ic l.length) then (tsD l)[(0 : Nat) + x * (1 : Nat)]? = some (AV.str (l.getD x [])) ∧ bif ltI (0 : Int) (ic n) then bif ltI (ic n) (ic (l.getD x []).length) then bif leI (ic n) (ic (l.getD x []).length) then bif !decide (List.take n (l.getD x []) = []) then bif (List.take n (l.getD x [])).isPrefixOf s then bif leI (ic (List.take n (l.getD x [])).length) (ic s.length) then ∃ (_x : Unit), True ∧ ((bif e.beq e && true then (List.drop (List.take n (l.getD x [])).length s = (nmR l n (s, b)).fst ∧ b = (nmR l n (s, b)).snd ∧ True) ∧ True else False) ∧ (bif e2.beq e2 && sameB ro ro then cellsP gqDaR0 (tsD l) (tsD l) ∧ True else False) ∧ True) ∧ ic x = nmX l n (s, b) ∧ True else False else bif leI (ic x + (1 : Int)) (9223372036854775807 : Int) then ∃ (y : Nat), (y ≤ l.length ∧ nmI (List.take y l) n s = none) ∧ l.length - y < l.length - x ∧ ((bif e.beq e && true then (s = s ∧ b = b ∧ True) ∧ True else False) ∧ (bif e2.beq e2 && sameB ro ro then cellsP gqDaR0 (tsD l) (tsD l) ∧ True else False) ∧ True) ∧ ic x + (1 : Int) = ic y ∧ True else False else bif leI (ic x + (1 : Int)) (9223372036854775807 : Int) then ∃ (y : Nat), (y ≤ l.length ∧ nmI (List.take y l) n s = none) ∧ l.length - y < l.length - x ∧ ((bif e.beq e && true then (s = s ∧ b = b ∧ True) ∧ True else False) ∧ (bif e2.beq e2 && sameB ro ro then cellsP gqDaR0 (tsD l) (tsD l) ∧ True else False) ∧ True) ∧ ic x + (1 : Int) = ic y ∧ True else False else False else bif !decide (l.getD x [] = []) then bif (l.getD x []).isPrefixOf s then bif leI (ic (l.getD x []).length) (ic s.length) then ∃ (_x : Unit), True ∧ ((bif e.beq e && true then (List.drop (l.getD x []).length s = (nmR l n (s, b)).fst ∧ b = (nmR l n (s, b)).snd ∧ True) ∧ True else False) ∧ (bif e2.beq e2 && sameB ro ro then cellsP gqDaR0 (tsD l) (tsD l) ∧ True else False) ∧ True) ∧ ic x = nmX l n (s, b) ∧ True else False else bif leI (ic x + (1 : Int)) (9223372036854775807 : Int) then ∃ (y : Nat), (y ≤ l.length ∧ nmI (List.take y l) n s = none) ∧ l.length - y < l.length - x ∧ ((bif e.beq e && true then (s = s ∧ b = b ∧ True) ∧ True else False) ∧ (bif e2.beq e2 && sameB ro ro then cellsP gqDaR0 (tsD l) (tsD l) ∧ True else False) ∧ True) ∧ ic x + (1 : Int) = ic y ∧ True else False else bif leI (ic x + (1 : Int)) (9223372036854775807 : Int) then ∃ (y : Nat), (y ≤ l.length ∧ nmI (List.take y l) n s = none) ∧ l.length - y < l.length - x ∧ ((bif e.beq e && true then (s = s ∧ b = b ∧ True) ∧ True else False) ∧ (bif e2.beq e2 && sameB ro ro then cellsP gqDaR0 (tsD l) (tsD l) ∧ True else False) ∧ True) ∧ ic x + (1 : Int) = ic y ∧ True else False else bif !decide (l.getD x [] = []) then bif (l.getD x []).isPrefixOf s then bif leI (ic (l.getD x []).length) (ic s.length) then ∃ (_x : Unit), True ∧ ((bif e.beq e && true then (List.drop (l.getD x []).length s = (nmR l n (s, b)).fst ∧ b = (nmR l n (s, b)).snd ∧ True) ∧ True else False) ∧ (bif e2.beq e2 && sameB ro ro then cellsP gqDaR0 (tsD l) (tsD l) ∧ True else False) ∧ True) ∧ ic x = nmX l n (s, b) ∧ True else False else bif leI (ic x + (1 : Int)) (9223372036854775807 : Int) then ∃ (y : Nat), (y ≤ l.length ∧ nmI (List.take y l) n s = none) ∧ l.length - y < l.length - x ∧ ((bif e.beq e && true then (s = s ∧ b = b ∧ True) ∧ True else False) ∧ (bif e2.beq e2 && sameB ro ro then cellsP gqDaR0 (tsD l) (tsD l) ∧ True else False) ∧ True) ∧ ic x + (1 : Int) = ic y ∧ True else False else bif leI (ic x + (1 : Int)) (9223372036854775807 : Int) then ∃ (y : Nat), (y ≤ l.length ∧ nmI (List.take y l) n s = none) ∧ l.length - y < l.length - x ∧ ((bif e.beq e && true then (s = s ∧ b = b ∧ True) ∧ True else False) ∧ (bif e2.beq e2 && sameB ro ro then cellsP gqDaR0 (tsD l) (tsD l) ∧ True else False) ∧ True) ∧ ic x + (1 : Int) = ic y ∧ True else False else False else ∃ (_x : Unit), True ∧ ((bif e.beq e && true then (s = (nmR l n (s, b)).fst ∧ true = (nmR l n (s, b)).snd ∧ True) ∧ True else False) ∧ (bif e2.beq e2 && sameB ro ro then cellsP gqDaR0 (tsD l) (tsD l) ∧ True else False) ∧ True) ∧ (0 : Int) = nmX l n (s, b) ∧ True) := by kernel_rfl
theorem sameB_slf (b : Bool) : sameB b b = true := by cases b <;> rfl
theorem cells_tsD (σ : Nat → Nat) (l : List (List UInt8)) : cellsP σ (tsD l) (tsD l) = True := eq_true (cellsP_flat (tsD_flat _) rfl)
theorem take_vc (s : List UInt8) (b : Bool) (e n : Nat) : vTake s b e n := by
  rw [vTake_eq]
  ((try simp only [ic, cond_F]); simp only [cond_P, leI_t, leI_f, ltI_t, ltI_f, eqI_t, eqI_f, and_t, not_t, not_f, dec_t, dec_f, true_and, and_true, exists_const, eq_self, Nat.beq_refl, sameB_slf, Nat.zero_add, Nat.mul_one])
  refine ⟨fun h => ?_, fun h => ⟨by omega, by omega, ?_⟩⟩
  · have : s.length < n := by omega
    unfold tkS tkB tkV
    simp [this]
  · have : ¬ s.length < n := by omega
    unfold tkS tkB tkV
    simp [this]
theorem rdB_ren (s : List UInt8) (b : Bool) (e : Nat) (ρ : Nat → Nat) : (rdB s b e).ren ρ = rdB s b e := rfl
theorem eTake_ok : EntryOk Tryd.prog 30 eTake := by
  intro args H sr hs K hk
  unfold eTake at hs
  split at hs
  · rename_i p n
    split at hs
    · rename_i s b e hb
      cases hs
      simp only [tkVh_eq, tkSh_eq, tkBh_eq, msBh_eq, nmBh_eq, nXh_eq, nmXh_eq, nmRh_eq] at hk
      obtain ⟨h1, h2⟩ := cond_need hk
      rw [leI_t] at h1
      obtain ⟨m, rfl⟩ : ∃ m : Nat, n = m := ⟨n.toNat, by omega⟩
      have hsc : SC Tryd.prog 30 [.ptr 0 0, .int .i64 m] [rdB s b e] (fun v H' => v = .str (tkV m s) ∧ H' = [rdB (tkS m s) (tkB m s b) e]) :=
        (SC.ofF (V := V0) names0 mixed0 noS_ok noO_ok (take_vc s b e m)).mono fun v H' h => by
          obtain ⟨_, _, h1, h2⟩ := outE_one h
          exact ⟨h1, h2⟩
      have := SC.fixed hsc rfl (H := H) (σ := [p]) (by simp) rfl rfl (fun i b' hi => by cases i with | zero => simp at hi; subst hi; exact hb | succ i => simp at hi) (fun k hk => by simp at hk; subst hk; exact ⟨by simp [rdB], fun _ => rfl⟩) (fun k hk => by simp at hk; subst hk; exact fun _ => rfl) (fun i k k' h h' => by cases i with | zero => simp at h h'; subst h; subst h'; rfl | succ i => simp at h)
      refine this.mono ?_
      rintro v H' ⟨rfl, rfl⟩
      exact ⟨_, h2, rfl⟩
    · cases hs
  · cases hs
theorem pre_dec (s t : List UInt8) : decide (s.take t.length = t) = t.isPrefixOf s := by
  have h : (t.isPrefixOf s = true) ↔ s.take t.length = t := by
    rw [List.isPrefixOf_iff_prefix, List.prefix_iff_eq_take]; exact eq_comm
  by_cases hp : s.take t.length = t
  · rw [decide_eq_true hp, h.2 hp]
  · rw [decide_eq_false hp]
    cases hq : t.isPrefixOf s with
    | false => rfl
    | true => exact absurd (h.1 hq) hp
theorem pre_long {s t : List UInt8} (h : s.length < t.length) : t.isPrefixOf s = false := by
  rw [← pre_dec, decide_eq_false]
  intro e
  have := congrArg List.length e
  rw [List.length_take] at this
  omega
theorem pre_le {s t : List UInt8} (h : t.isPrefixOf s = true) : t.length ≤ s.length := (List.isPrefixOf_iff_prefix.1 h).length_le
theorem pre_vc (s t : List UInt8) : vPre s t := by
  rw [vPre_eq]
  ((try simp only [ic, cond_F]); simp only [cond_P, leI_t, leI_f, ltI_t, ltI_f, eqI_t, eqI_f, and_t, not_t, not_f, dec_t, dec_f, true_and, and_true, exists_const, eq_self, Nat.beq_refl, sameB_slf, Nat.zero_add, Nat.mul_one])
  exact ⟨fun h => ⟨by omega, pre_dec s t⟩, fun h => (pre_long (by omega)).symm⟩
theorem gPre_ok : EntryOk Tryd.prog 28 (flatE gPre) := by
  refine flatE_ok fun args b v hg hb => ?_
  unfold gPre at hg
  split at hg
  · rename_i s t
    cases hg
    exact ⟨rfl, rfl, SC.one (V := VDP) names0 mixed0 noS_ok noO_ok (pre_vc s t)⟩
  · cases hg
theorem TDR_ok : SpecOk Tryd.prog (tabS TDR noS) := by
  refine tabS_ok (fun p hp => ?_) noS_ok
  simp only [TDR, List.mem_cons, List.mem_nil_iff, or_false] at hp
  rcases hp with rfl | rfl
  · exact eTake_ok
  · exact gPre_ok
theorem must_vc (s : List UInt8) (b : Bool) (e : Nat) (x : List UInt8) : vMust s b e x := by
  rw [vMust_eq]
  simp only [tkVh_eq, tkSh_eq, tkBh_eq, msBh_eq, nmBh_eq, nXh_eq, nmXh_eq, nmRh_eq]
  ((try simp only [ic, cond_F]); simp only [cond_P, leI_t, leI_f, ltI_t, ltI_f, eqI_t, eqI_f, and_t, not_t, not_f, dec_t, dec_f, true_and, and_true, exists_const, eq_self, Nat.beq_refl, sameB_slf, Nat.zero_add, Nat.mul_one])
  refine ⟨fun h => ?_, fun h => ?_⟩
  · unfold msB; rw [if_pos h]
  · unfold msB; rw [if_neg (by simpa using h)]
theorem eMust_ok : EntryOk Tryd.prog 24 eMust := by
  intro args H sr hs K hk
  unfold eMust at hs
  split at hs
  · rename_i p x
    split at hs
    · rename_i s b e hb
      cases hs
      simp only [tkVh_eq, tkSh_eq, tkBh_eq, msBh_eq, nmBh_eq, nXh_eq, nmXh_eq, nmRh_eq] at hk
      have hsc : SC Tryd.prog 24 [.ptr 0 0, .str x] [rdB s b e] (fun v H' => v = .tuple [] ∧ H' = [rdB (tkS x.length s) (msB x s b) e]) :=
        (SC.ofF (V := VDR) names0 mixed0 TDR_ok noO_ok (must_vc s b e x)).mono fun v H' h => by
          obtain ⟨_, _, h1, h2⟩ := outE_one h
          exact ⟨h1, h2⟩
      have := SC.fixed hsc rfl (H := H) (σ := [p]) (by simp) rfl rfl (fun i b' hi => by cases i with | zero => simp at hi; subst hi; exact hb | succ i => simp at hi) (fun k hk => by simp at hk; subst hk; exact ⟨by simp [rdB], fun _ => rfl⟩) (fun k hk => by simp at hk; subst hk; exact fun _ => rfl) (fun i k k' h h' => by cases i with | zero => simp at h h'; subst h; subst h'; rfl | succ i => simp at h)
      refine this.mono ?_
      rintro v H' ⟨rfl, rfl⟩
      exact ⟨_, hk, rfl⟩
    · cases hs
  · cases hs
theorem nmI_take {l : List B8} {n x : Nat} {s : B8} (hx : x < l.length) (h : nmI (l.take x) n s = none) (hh : hitB n s (l.getD x []) = false) : nmI (l.take (x + 1)) n s = none := by
  have e : l.take (x + 1) = l.take x ++ [l.getD x []] := by
    rw [List.take_succ_eq_append_getElem hx, List.getD_eq_getElem?_getD, List.getElem?_eq_getElem hx]; rfl
  unfold nmI at h ⊢
  rw [e]
  rw [List.findIdx?_eq_none_iff] at h ⊢
  intro y hy
  rcases List.mem_append.1 hy with hy | hy
  · exact h y hy
  · simp at hy; subst hy; simpa using hh
theorem nmI_hit {l : List B8} {n x : Nat} {s : B8} (hx : x < l.length) (h : nmI (l.take x) n s = none) (hh : hitB n s (l.getD x []) = true) : nmI l n s = some x := by
  unfold nmI at h ⊢
  rw [List.findIdx?_eq_none_iff] at h
  rw [List.findIdx?_eq_some_iff_getElem]
  refine ⟨hx, ?_, fun j hj => ?_⟩
  · rw [List.getD_eq_getElem?_getD, List.getElem?_eq_getElem hx] at hh; exact hh
  · have hjl : j < (l.take x).length := by rw [List.length_take]; omega
    have := h _ (List.getElem_mem hjl)
    rw [List.getElem_take] at this
    simpa using this
theorem hit_out {l : List B8} {n x : Nat} {s : B8} (b : Bool) (hx : x < l.length) (h : nmI (l.take x) n s = none) (hh : hitB n s (l.getD x []) = true) : s.drop (pfx n (l.getD x [])).length = (nmR l n (s, b)).1 ∧ b = (nmR l n (s, b)).2 ∧ (x : Int) = nmX l n (s, b) := by
  have e := nmI_hit hx h hh
  simp [nmR, nmX, e]
theorem non_out {l : List B8} {n : Nat} {s : B8} (b : Bool) (h : nmI l n s = none) : s = (nmR l n (s, b)).1 ∧ true = (nmR l n (s, b)).2 ∧ 0 = nmX l n (s, b) := by
  simp [nmR, nmX, h]
theorem tsD_get {l : List B8} {x : Nat} (hx : x < l.length) : (tsD l)[x]? = some (AV.str (l.getD x [])) := by
  unfold tsD
  rw [List.getElem?_map, List.getD_eq_getElem?_getD, List.getElem?_eq_getElem hx]; rfl
theorem name_vc (s : List UInt8) (b : Bool) (e : Nat) (l : List B8) (n e2 : Nat) (ro : Bool) (c : Nat) (ex : Bool) (hl : l.length ≤ 1000000) : vName s b e l n e2 ro c ex := by
  rw [vName_eq]
  simp only [cells_tsD]
  ((try simp only [ic, cond_F]); simp only [cond_P, leI_t, leI_f, ltI_t, ltI_f, eqI_t, eqI_f, and_t, not_t, not_f, dec_t, dec_f, true_and, and_true, exists_const, eq_self, Nat.beq_refl, sameB_slf, Nat.zero_add, Nat.mul_one])
  refine ⟨⟨0, ⟨Nat.zero_le _, rfl⟩, rfl⟩, fun x hx => ⟨fun hlt => ?_, fun hge => ?_⟩⟩
  · have hx' : x < l.length := by omega
    have next : hitB n s (l.getD x []) = false → (x : Int) + 1 ≤ 9223372036854775807 ∧ ∃ y, (y ≤ l.length ∧ nmI (l.take y) n s = none) ∧ l.length - y < l.length - x ∧ (x : Int) + 1 = (y : Int) := fun hh => ⟨by omega, x + 1, ⟨by omega, nmI_take hx' hx.2 hh⟩, by omega, by omega⟩
    have whole : pfx n (l.getD x []) = l.getD x [] → (l.getD x [] ≠ [] → ((l.getD x []).isPrefixOf s = true → ((l.getD x []).length : Int) ≤ (s.length : Int) ∧ (List.drop (l.getD x []).length s = (nmR l n (s, b)).fst ∧ b = (nmR l n (s, b)).snd) ∧ (x : Int) = nmX l n (s, b)) ∧ ((l.getD x []).isPrefixOf s = false → (x : Int) + 1 ≤ 9223372036854775807 ∧ ∃ y, (y ≤ l.length ∧ nmI (l.take y) n s = none) ∧ l.length - y < l.length - x ∧ (x : Int) + 1 = (y : Int))) ∧
        (l.getD x [] = [] → (x : Int) + 1 ≤ 9223372036854775807 ∧ ∃ y, (y ≤ l.length ∧ nmI (l.take y) n s = none) ∧ l.length - y < l.length - x ∧ (x : Int) + 1 = (y : Int)) := fun hp => by
      refine ⟨fun hne => ⟨fun hpre => ?_, fun hpre => next ?_⟩, fun he => next ?_⟩
      · have hh : hitB n s (l.getD x []) = true := by unfold hitB; rw [hp, decide_eq_true hne, hpre]; rfl
        obtain ⟨o1, o2, o3⟩ := hit_out b hx' hx.2 hh
        rw [hp] at o1
        exact ⟨by have := pre_le hpre; omega, ⟨o1, o2⟩, o3⟩
      · unfold hitB; rw [hp, hpre, Bool.and_false]
      · unfold hitB; rw [hp, he]; rfl
    refine ⟨by omega, tsD_get hx', fun hn => ⟨fun hlen => ⟨by omega, fun hne => ⟨fun hpre => ?_, fun hpre => next ?_⟩, fun he => next ?_⟩, fun hlen => whole ?_⟩, fun hn => whole ?_⟩
    · have hp : pfx n (l.getD x []) = (l.getD x []).take n := by unfold pfx; rw [if_pos ⟨by omega, by omega⟩]
      have hh : hitB n s (l.getD x []) = true := by unfold hitB; rw [hp, decide_eq_true hne, hpre]; rfl
      obtain ⟨o1, o2, o3⟩ := hit_out b hx' hx.2 hh
      rw [hp] at o1
      exact ⟨by have := pre_le hpre; omega, ⟨o1, o2⟩, o3⟩
    · have hp : pfx n (l.getD x []) = (l.getD x []).take n := by unfold pfx; rw [if_pos ⟨by omega, by omega⟩]
      unfold hitB; rw [hp, hpre, Bool.and_false]
    · have hp : pfx n (l.getD x []) = (l.getD x []).take n := by unfold pfx; rw [if_pos ⟨by omega, by omega⟩]
      unfold hitB; rw [hp, he]; rfl
    · unfold pfx; rw [if_neg (by omega)]
    · unfold pfx; rw [if_neg (by omega)]
  · have hh : nmI l n s = none := by
      have := hx.2
      rwa [List.take_of_length_le (by omega)] at this
    obtain ⟨o1, o2, o3⟩ := non_out b hh
    exact ⟨⟨o1, o2⟩, o3⟩
theorem eName_ok : EntryOk Tryd.prog 23 eName := by
  intro args H sr hs K hk
  unfold eName at hs
  split at hs
  · rename_i p q len c ex n
    split at hs
    · rename_i s b e vs e2 ro hb hq
      cases hs
      simp only [tkVh_eq, tkSh_eq, tkBh_eq, msBh_eq, nmBh_eq, nXh_eq, nmXh_eq, nmRh_eq] at hk
      obtain ⟨h1, ⟨h2, h3, hl⟩, h4⟩ := cond_need hk
      rw [and_t, leI_t, not_t] at h1
      obtain ⟨m, rfl⟩ : ∃ m : Nat, n = m := ⟨n.toNat, by omega⟩
      have hpq : p ≠ q := fun e => by rw [e, Nat.beq_refl] at h1; cases h1.2
      generalize getSD vs = l at *
      subst h2; subst h3
      have hsc : SC Tryd.prog 23 [.ptr 0 0, .sl 1 0 l.length c ex, .int .i64 m] [rdB s b e, .cells (tsD l) e2 ro] (fun v H' => v = .int .i64 (nmX l m (s, b)) ∧ H' = [rdB (nmR l m (s, b)).1 (nmR l m (s, b)).2 e, .cells (tsD l) e2 ro]) :=
        (SC.ofF (V := VDR) names0 mixed0 TDR_ok noO_ok (name_vc s b e l m e2 ro c ex hl)).mono fun v H' h => by
          obtain ⟨_, _, h1, h2⟩ := outE_one h
          exact ⟨h1, h2⟩
      have := SC.fixed hsc rfl (H := H) (σ := [p, q]) (by simp [hpq]) rfl rfl (fun i b' hi => by
          match i, hi with
          | 0, hi => simp at hi; subst hi; exact hb
          | 1, hi => simp at hi; subst hi; exact hq
          | i + 2, hi => simp at hi) (fun k hk => by
          simp at hk
          rcases hk with rfl | rfl
          · exact ⟨by simp [rdB], fun _ => rfl⟩
          · exact ⟨by simp, fun ρ => cells_ren (tsD_flat _) e2 ro ρ⟩) (fun k hk => by
          simp at hk
          rcases hk with rfl | rfl
          · exact fun _ => rfl
          · exact fun ρ => cells_ren (tsD_flat _) e2 ro ρ) (fun i k k' h h' => by
          match i, h, h' with
          | 0, h, h' => simp at h h'; subst h; subst h'; rfl
          | 1, h, h' => simp at h h'; subst h; subst h'; rfl
          | i + 2, h, _ => simp at h)
      refine this.mono ?_
      rintro v H' ⟨rfl, rfl⟩
      refine ⟨_, h4, ?_⟩
      show (H.set p _).set q _ = H.set p _
      refine set_same ?_
      rw [List.getElem?_set_ne hpq]; exact hq
    · cases hs
  · cases hs
