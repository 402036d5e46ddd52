/- Numbers picked, lists of integers compared. -/
import Derived.Test.YtainjcpocodehaaTmN0
set_option linter.unusedSimpArgs false
set_option linter.unusedVariables false
namespace Go.Proofs.Ytainjcpocodehaa
open Go Go.Ve
set_option maxRecDepth 20000
def pickN (n m : Int) : Int := if m < 1 then 0 else if Int.tmod n m < 0 then Int.tmod n m + m else Int.tmod n m
abbrev IL := List Int
def iC (l : IL) : List AV := l.map (AV.int .i64)
def getI : List AV → IL
  | .int .i64 a :: r => a :: getI r
  | _ => []
noncomputable def VP0 : VE := ⟨Try.prog, noS, noO, fun _ => none⟩
def gPickN (args : List AV) : Option (Bool × AV) := match args with | [.int .i64 n, .int .i64 m] => some (inK .i64 m, .int .i64 (pickN n m)) | _ => none
noncomputable def eSm : SpecE := fun args H =>
  match args with
  | [.nilsl, .nilsl] => some (.ok (.bool true) none)
  | [.sl b 0 n c ec, .sl b2 0 k d ed] =>
    match H[b]?, H[b2]? with
    | some (.cells cs e ro), some (.cells ds f rp) => some (.need (!(Nat.beq b b2)) (.needP ((cs = iC (getI cs) ∧ n ≤ (getI cs).length ∧ n ≤ 1048576) ∧ (ds = iC (getI ds) ∧ k ≤ (getI ds).length ∧ k ≤ 1048576)) (.ok (.bool (decide ((getI cs).take n = (getI ds).take k))) none)))
    | _, _ => none
  | [.sl b 0 n c ec, .nilsl] =>
    match H[b]? with
    | some (.cells cs e ro) => some (.needP (cs = iC (getI cs) ∧ n ≤ 1048576) (.ok (.bool (decide (n = 0))) none))
    | _ => none
  | [.nilsl, .sl b 0 n c ec] =>
    match H[b]? with
    | some (.cells cs e ro) => some (.needP (cs = iC (getI cs) ∧ n ≤ 1048576) (.ok (.bool (decide (n = 0))) none))
    | _ => none
  | _ => none
noncomputable def aSm1 (a : IL) (n : Nat) : Anns := [(4, [.mk Unit (fun _ => [(5, .int .i64 0)]) (fun _ => none) (fun _ => n = 0) (fun _ => 0) gcB gcB (fun _ => [(20, .int .i64 (a.getD 0 0)), (24, .int .i64 0)]) (fun _ => [])])]
noncomputable def aSm (a b : IL) : Anns := [(4, [.mk Nat (fun i => [(5, .int .i64 i)]) (fun _ => none) (fun i => i ≤ a.length ∧ a.take i = b.take i) (fun i => a.length - i) gcB gcB (fun i => [(20, .int .i64 (a.getD i 0)), (24, .int .i64 (b.getD i 0))]) (fun _ => [])])]

noncomputable def vPick  (n m : Int) : Prop := vcF VP0 [] 300 [] [(10, .int .i64 0)] 41 [.int .i64 n, .int .i64 m] [] (Go.Ve.one (.int .i64 (pickN n m)))
noncomputable def vSm  (a r b s : IL) (c d : Nat) (ec ed : Bool) (e f : Nat) (ro rp : Bool) : Prop := vcF VP0 [] 60 (aSm a b) [] 44 [.sl 0 0 a.length c ec, .sl 1 0 b.length d ed] [.cells (iC (a ++ r)) e ro, .cells (iC (b ++ s)) f rp] [⟨Unit, fun _ => .bool (decide (a = b)), fun _ => [.cells (iC (a ++ r)) e ro, .cells (iC (b ++ s)) f rp], fun _ => True, gcB⟩]
noncomputable def vSm0  : Prop := vcF VP0 [] 60 [] [] 44 [.nilsl, .nilsl] [] (Go.Ve.one (.bool true))
noncomputable def vSm1  (a : IL) (n c : Nat) (ec : Bool) (e : Nat) (ro : Bool) : Prop := vcF VP0 [] 60 (aSm1 a n) [] 44 [.sl 0 0 n c ec, .nilsl] [.cells (iC a) e ro] [⟨Unit, fun _ => .bool (decide (n = 0)), fun _ => [.cells (iC a) e ro], fun _ => True, gcB⟩]
noncomputable def vSm2  (a : IL) (n c : Nat) (ec : Bool) (e : Nat) (ro : Bool) : Prop := vcF VP0 [] 60 [] [] 44 [.nilsl, .sl 0 0 n c ec] [.cells (iC a) e ro] [⟨Unit, fun _ => .bool (decide (n = 0)), fun _ => [.cells (iC a) e ro], fun _ => True, gcB⟩]
def gqTmE0 : Nat → Nat := (fun (b : Nat) => [0, 1].getD b 2)
theorem vPick_eq  (n m : Int) : vPick n m = (bif ltI m (1 : Int) then ∃ (_x : Unit), True ∧ True ∧ (0 : Int) = pickN n m ∧ True else bif !eqI m (0 : Int) then bif ltI (n.tmod m) (0 : Int) then bif leI (-9223372036854775808 : Int) (n.tmod m + m) && leI (n.tmod m + m) (9223372036854775807 : Int) then ∃ (_x : Unit), True ∧ True ∧ n.tmod m + m = pickN n m ∧ True else False else ∃ (_x : Unit), True ∧ True ∧ n.tmod m = pickN n m ∧ True else False) := by kernel_rfl
theorem vSm_eq  (a r b s : IL) (c d : Nat) (ec ed : Bool) (e f : Nat) (ro rp : Bool) : vSm a r b s c d ec ed e f ro rp = (bif !eqI (ic (List.length a)) (ic (List.length b)) then ∃ (_x : Unit), True ∧ ((bif e.beq e && sameB ro ro then cellsP gqTmE0 (iC (a ++ r)) (iC (a ++ r)) ∧ True else False) ∧ (bif f.beq f && sameB rp rp then cellsP gqTmE0 (iC (b ++ s)) (iC (b ++ s)) ∧ True else False) ∧ True) ∧ false = decide (a = b) ∧ True else (∃ (x : Nat), (x ≤ List.length a ∧ List.take x a = List.take x b) ∧ ((bif e.beq e && sameB ro ro then cellsP gqTmE0 (iC (a ++ r)) (iC (a ++ r)) ∧ True else False) ∧ (bif f.beq f && sameB rp rp then cellsP gqTmE0 (iC (b ++ s)) (iC (b ++ s)) ∧ True else False) ∧ True) ∧ (0 : Int) = ic x ∧ True) ∧ ∀ (x : Nat), x ≤ List.length a ∧ List.take x a = List.take x b → bif ltI (ic x) (ic (List.length a)) then bif ltI (ic x) (ic (List.length a)) then (iC (a ++ r))[0 + x * 1]? = some (AV.int IntKind.i64 (List.getD a x (0 : Int))) ∧ bif ltI (ic x) (ic (List.length b)) then (iC (b ++ s))[0 + x * 1]? = some (AV.int IntKind.i64 (List.getD b x (0 : Int))) ∧ bif !eqI (List.getD a x (0 : Int)) (List.getD b x (0 : Int)) then ∃ (_x : Unit), True ∧ ((bif e.beq e && sameB ro ro then cellsP gqTmE0 (iC (a ++ r)) (iC (a ++ r)) ∧ True else False) ∧ (bif f.beq f && sameB rp rp then cellsP gqTmE0 (iC (b ++ s)) (iC (b ++ s)) ∧ True else False) ∧ True) ∧ false = decide (a = b) ∧ True else bif leI (ic x + (1 : Int)) (9223372036854775807 : Int) then ∃ (y : Nat), (y ≤ List.length a ∧ List.take y a = List.take y b) ∧ List.length a - y < List.length a - x ∧ ((bif e.beq e && sameB ro ro then cellsP gqTmE0 (iC (a ++ r)) (iC (a ++ r)) ∧ True else False) ∧ (bif f.beq f && sameB rp rp then cellsP gqTmE0 (iC (b ++ s)) (iC (b ++ s)) ∧ True else False) ∧ True) ∧ ic x + (1 : Int) = ic y ∧ True else False else False else False else ∃ (_x : Unit), True ∧ ((bif e.beq e && sameB ro ro then cellsP gqTmE0 (iC (a ++ r)) (iC (a ++ r)) ∧ True else False) ∧ (bif f.beq f && sameB rp rp then cellsP gqTmE0 (iC (b ++ s)) (iC (b ++ s)) ∧ True else False) ∧ True) ∧ true = decide (a = b) ∧ True) := by kernel_rfl
theorem vSm0_eq  : vSm0  = (∃ (_x : Unit), True ∧ True ∧ true = true ∧ True) := by kernel_rfl
theorem vSm1_eq  (a : IL) (n c : Nat) (ec : Bool) (e : Nat) (ro : Bool) : vSm1 a n c ec e ro = (bif !eqI (ic n) (0 : Int) then ∃ (_x : Unit), True ∧ ((bif e.beq e && sameB ro ro then cellsP (fun (b : Nat) => [0].getD b 1) (iC a) (iC a) ∧ True else False) ∧ True) ∧ false = decide (n = 0) ∧ True else (∃ (_x : Unit), n = 0 ∧ ((bif e.beq e && sameB ro ro then cellsP (fun (b : Nat) => [0].getD b 1) (iC a) (iC a) ∧ True else False) ∧ True) ∧ (0 : Int) = (0 : Int) ∧ True) ∧ ∀ (x : Unit), n = 0 → bif ltI (0 : Int) (ic n) then bif ltI (0 : Int) (ic n) then (iC a)[0]? = some (AV.int IntKind.i64 (List.getD a 0 (0 : Int))) ∧ Stuck 6 23 else False else ∃ (_x : Unit), True ∧ ((bif e.beq e && sameB ro ro then cellsP (fun (b : Nat) => [0].getD b 1) (iC a) (iC a) ∧ True else False) ∧ True) ∧ true = decide (n = 0) ∧ True) := by kernel_rfl
theorem vSm2_eq  (a : IL) (n c : Nat) (ec : Bool) (e : Nat) (ro : Bool) : vSm2 a n c ec e ro = (bif !eqI (0 : Int) (ic n) then ∃ (_x : Unit), True ∧ ((bif e.beq e && sameB ro ro then cellsP (fun (b : Nat) => [0].getD b 1) (iC a) (iC a) ∧ True else False) ∧ True) ∧ false = decide (n = 0) ∧ True else ∃ (_x : Unit), True ∧ ((bif e.beq e && sameB ro ro then cellsP (fun (b : Nat) => [0].getD b 1) (iC a) (iC a) ∧ True else False) ∧ True) ∧ true = decide (n = 0) ∧ True) := by kernel_rfl
theorem iC_flat (l : IL) : AV.flats (iC l) = true := flats_map _ _ fun _ => rfl
theorem getI_iC : ∀ l : IL, getI (iC l) = l
  | [] => rfl
  | a :: r => by
    show getI (.int .i64 a :: iC r) = _
    rw [getI, getI_iC r]
theorem iC_get (a r : IL) {i : Nat} (h : i < a.length) : (iC (a ++ r))[0 + i * 1]? = some (.int .i64 (a.getD i 0)) := by
  unfold iC
  rw [Nat.zero_add, Nat.mul_one, List.getElem?_map, List.getElem?_append_left h, List.getD_eq_getElem?_getD, List.getElem?_eq_getElem h]
  rfl
theorem nC_iC (l : TL) : nC l = iC (l.map (·.1)) := by unfold nC iC; rw [List.map_map]; rfl
theorem pick_vc (n m : Int) (hm : inK .i64 m = true) : vPick n m := by
  rw [vPick_eq]
  simp only [inK, leI_eq, Bool.and_eq_true, decide_eq_true_eq] at hm
  refine cond_intro (fun h => ⟨(), trivial, trivial, ?_, trivial⟩) fun h => ?_
  · rw [ltI_t] at h; unfold pickN; rw [if_pos h]
  · rw [ltI_f] at h
    refine need_intro (by rw [not_t, eqI_f]; omega) (cond_intro (fun h1 => ?_) fun h1 => ⟨(), trivial, trivial, ?_, trivial⟩)
    · rw [ltI_t] at h1
      have h2 : -m < n.tmod m := by
        have := Int.lt_tmod_of_pos n (show 0 < m by omega)
        omega
      refine need_intro (rng_ok (by omega) (by omega)) ⟨(), trivial, trivial, ?_, trivial⟩
      unfold pickN
      rw [if_neg (by omega), if_pos h1]
    · rw [ltI_f] at h1
      unfold pickN
      rw [if_neg (by omega), if_neg (by omega)]
theorem gPickN_ok : EntryOk Try.prog 41 (flatE gPickN) := by
  refine flatE_ok fun args b v hg hb => ?_
  unfold gPickN at hg
  split at hg
  · cases hg
    exact ⟨rfl, rfl, oneS (SC.ofF (V := VP0) names0 mixed0 noS_ok noO_ok (pick_vc _ _ hb))⟩
  · cases hg
theorem I_ok (σ : Nat → Nat) (l : IL) (e : Nat) (ro : Bool) : (bif e.beq e && sameB ro ro then cellsP σ (iC l) (iC l) ∧ True else False) := by
  rw [Nat.beq_refl, sameB_self]
  exact ⟨cellsP_flat (iC_flat _) rfl, trivial⟩
theorem take_succD {a : IL} {i : Nat} (h : i < a.length) : a.take (i + 1) = a.take i ++ [a.getD i 0] := by
  rw [List.take_succ_eq_append_getElem h, List.getD_eq_getElem?_getD, List.getElem?_eq_getElem h]; rfl
theorem sm_vc (a r b s : IL) (c d : Nat) (ec ed : Bool) (e f : Nat) (ro rp : Bool) (ha : a.length ≤ 1048576) : vSm a r b s c d ec ed e f ro rp := by
  rw [vSm_eq]
  refine cond_intro (fun h => ⟨(), trivial, ⟨I_ok _ _ _ _, I_ok _ _ _ _, trivial⟩, ?_, trivial⟩) fun h => ⟨⟨0, ⟨Nat.zero_le _, rfl⟩, ⟨I_ok _ _ _ _, I_ok _ _ _ _, trivial⟩, rfl, trivial⟩, fun x hx => cond_intro (fun k => ?_) fun k => ⟨(), trivial, ⟨I_ok _ _ _ _, I_ok _ _ _ _, trivial⟩, ?_, trivial⟩⟩
  · rw [not_t, eqI_f] at h
    exact (decide_eq_false fun e => h (by rw [e])).symm
  · rw [not_f, eqI_t] at h
    have h : a.length = b.length := Int.ofNat_inj.1 h
    rw [k]
    rw [ltI_t] at k
    have k : x < a.length := Int.ofNat_lt.1 k
    refine need_intro rfl ⟨iC_get _ _ k, need_intro (lt_ok (by omega)) ⟨iC_get _ _ (by omega), cond_intro (fun hne => ⟨(), trivial, ⟨I_ok _ _ _ _, I_ok _ _ _ _, trivial⟩, ?_, trivial⟩) fun hne => need_intro ?_ ⟨x + 1, ⟨by omega, ?_⟩, by omega, ⟨I_ok _ _ _ _, I_ok _ _ _ _, trivial⟩, rfl, trivial⟩⟩⟩
    · rw [not_t, eqI_f] at hne
      exact (decide_eq_false fun e => hne (by rw [e])).symm
    · rw [leI_t]; show (x : Int) + 1 ≤ _; omega
    · rw [not_f, eqI_t] at hne
      rw [take_succD k, take_succD (by omega), hx.2, hne]
  · rw [not_f, eqI_t] at h
    have h : a.length = b.length := Int.ofNat_inj.1 h
    rw [ltI_f] at k
    have k : a.length ≤ x := Int.ofNat_le.1 k
    have e := hx.2
    rw [List.take_of_length_le k, List.take_of_length_le (by omega)] at e
    exact (decide_eq_true e).symm
theorem sm0_vc : HoldsN vSm0 := by
  refine ⟨?_⟩
  rw [vSm0_eq]
  exact ⟨(), trivial, trivial, rfl, trivial⟩
theorem sm0_sc : SC Try.prog 44 [.nilsl, .nilsl] [] (fun v' H' => v' = .bool true ∧ H' = []) := by
  have h : HoldsN vSm0 := sm0_vc
  unfold vSm0 at h
  exact oneS (SC.ofN (V := VP0) names0 mixed0 noS_ok noO_ok h)
theorem sm1_vc (a : IL) (n c : Nat) (ec : Bool) (e : Nat) (ro : Bool) : vSm1 a n c ec e ro := by
  rw [vSm1_eq]
  refine cond_intro (fun h => ⟨(), trivial, ⟨I_ok _ _ _ _, trivial⟩, ?_, trivial⟩) fun h => ⟨⟨(), ?_, ⟨I_ok _ _ _ _, trivial⟩, rfl, trivial⟩, fun _ hn => cond_intro (fun k => ?_) fun k => ⟨(), trivial, ⟨I_ok _ _ _ _, trivial⟩, ?_, trivial⟩⟩
  · rw [not_t, eqI_f] at h
    exact (decide_eq_false fun e => h (by rw [e]; rfl)).symm
  · rw [not_f, eqI_t] at h
    exact Int.ofNat_inj.1 h
  · subst hn
    cases k
  · exact (decide_eq_true hn).symm
theorem sm2_vc (a : IL) (n c : Nat) (ec : Bool) (e : Nat) (ro : Bool) : vSm2 a n c ec e ro := by
  rw [vSm2_eq]
  refine cond_intro (fun h => ⟨(), trivial, ⟨I_ok _ _ _ _, trivial⟩, ?_, trivial⟩) fun h => ⟨(), trivial, ⟨I_ok _ _ _ _, trivial⟩, ?_, trivial⟩
  · rw [not_t, eqI_f] at h
    exact (decide_eq_false fun e => h (by rw [e]; rfl)).symm
  · rw [not_f, eqI_t] at h
    exact (decide_eq_true (Int.ofNat_inj.1 h).symm).symm
theorem eSm_ok : EntryOk Try.prog 44 eSm := by
  intro args H sr hs K hk
  unfold eSm at hs
  split at hs
  · cases hs
    refine SC.flat sm0_sc rfl ?_
    rintro v0 T ⟨rfl, rfl⟩
    exact ⟨(fun k hk => by cases hk), none, hk, by simp [chN]⟩
  · rename_i b n c ec b2 k d ed
    split at hs
    · rename_i cs e ro ds f rp hb hb2
      cases hs
      obtain ⟨hne, ⟨⟨g1, g2, g3⟩, ⟨g4, g5, g6⟩⟩, h2⟩ := cond_need hk
      have hne : b ≠ b2 := fun e => by subst e; rw [Nat.beq_refl] at hne; cases hne
      obtain ⟨A, hA⟩ : ∃ A, (getI cs).take n = A := ⟨_, rfl⟩
      obtain ⟨B, hB⟩ : ∃ B, (getI ds).take k = B := ⟨_, rfl⟩
      have e1 : cs = iC (A ++ (getI cs).drop n) := by rw [← hA, List.take_append_drop]; exact g1
      have e2 : ds = iC (B ++ (getI ds).drop k) := by rw [← hB, List.take_append_drop]; exact g4
      have l1 : n = A.length := by rw [← hA, List.length_take]; omega
      have l2 : k = B.length := by rw [← hB, List.length_take]; omega
      rw [hA, hB] at h2
      generalize (getI cs).drop n = R at *
      generalize (getI ds).drop k = S at *
      clear hA hB g1 g4 g2 g5
      subst e1; subst e2; subst l1; subst l2
      have hsc := SC.ofF (V := VP0) names0 mixed0 noS_ok noO_ok (sm_vc A R B S c d ec ed e f ro rp g3)
      refine SC.reads (σ := [b, b2]) hsc (fun k hk => ?_) (by simp [hne]) rfl (fun i x hx => ?_) ?_
      · simp only [List.mem_cons, List.mem_nil_iff, or_false] at hk
        rcases hk with rfl | rfl <;> exact ⟨by simp, fun ρ => cells_ren (iC_flat _) _ _ _⟩
      · match i, hx with
        | 0, hx => cases hx; exact hb
        | 1, hx => cases hx; exact hb2
        | n + 2, hx => simp at hx
      · intro v0 H0' ho
        obtain ⟨x, hx, rfl, rfl⟩ := outE_one ho
        exact ⟨[], by simp, (fun t ht => by cases ht), none, h2, by simp [chN]⟩
    · cases hs
  · rename_i b n c ec
    split at hs
    · rename_i cs e ro hb
      cases hs
      obtain ⟨⟨g1, g2⟩, h2⟩ := hk
      have hsc := SC.ofF (V := VP0) names0 mixed0 noS_ok noO_ok (sm1_vc (getI cs) n c ec e ro)
      rw [← g1] at hsc
      refine SC.reads (σ := [b]) hsc (fun k hk => ?_) (by simp) rfl (fun i x hx => ?_) ?_
      · simp only [List.mem_cons, List.mem_nil_iff, or_false] at hk
        subst hk
        exact ⟨by simp, fun ρ => by rw [g1]; exact cells_ren (iC_flat _) _ _ _⟩
      · match i, hx with
        | 0, hx => cases hx; exact hb
        | n + 1, hx => simp at hx
      · intro v0 H0' ho
        obtain ⟨x, hx, rfl, rfl⟩ := outE_one ho
        exact ⟨[], by simp [g1.symm], (fun t ht => by cases ht), none, h2, by simp [chN]⟩
    · cases hs
  · rename_i b n c ec
    split at hs
    · rename_i cs e ro hb
      cases hs
      obtain ⟨⟨g1, g2⟩, h2⟩ := hk
      have hsc := SC.ofF (V := VP0) names0 mixed0 noS_ok noO_ok (sm2_vc (getI cs) n c ec e ro)
      rw [← g1] at hsc
      refine SC.reads (σ := [b]) hsc (fun k hk => ?_) (by simp) rfl (fun i x hx => ?_) ?_
      · simp only [List.mem_cons, List.mem_nil_iff, or_false] at hk
        subst hk
        exact ⟨by simp, fun ρ => by rw [g1]; exact cells_ren (iC_flat _) _ _ _⟩
      · match i, hx with
        | 0, hx => cases hx; exact hb
        | n + 1, hx => simp at hx
      · intro v0 H0' ho
        obtain ⟨x, hx, rfl, rfl⟩ := outE_one ho
        exact ⟨[], by simp [g1.symm], (fun t ht => by cases ht), none, h2, by simp [chN]⟩
    · cases hs
  · cases hs
