/- Words by runes are words by bytes; a value with one blank for each run of white bytes (plain law). -/
import Derived.Test.YtciciemaldbidaaGreatDoorOneX
set_option linter.unusedSimpArgs false
set_option linter.unusedVariables false
namespace Go.Proofs.YtciciemaldbidaaGreatDoor
open Go Go.Ve
set_option maxRecDepth 20000
def wbB (c : UInt8) : Bool := decide (c.toNat = 32 ∨ c.toNat = 9)
theorem get_at (s : List UInt8) (i : Nat) (h : i < s.length) : (⟨s.toArray⟩ : ByteArray).get! i = s[i] := by
  simp [ByteArray.get!, h]
theorem dec_wh (c : UInt8) (t : List UInt8) : whR (decR (c :: t)) = wbB c ∧ ∀ (j : Nat) (d : UInt8), 1 ≤ j → j < decN (c :: t) → (c :: t)[j]? = some d → wbB d = false := by
  have hsz : (⟨(c :: t).toArray⟩ : ByteArray).size = t.length + 1 := by simp [ByteArray.size]
  have hd : Lib.decodeGoB ⟨(c :: t).toArray⟩ = Lib.decodeN (t.length + 1) c.toNat ((⟨(c :: t).toArray⟩ : ByteArray).get! 1).toNat ((⟨(c :: t).toArray⟩ : ByteArray).get! 2).toNat ((⟨(c :: t).toArray⟩ : ByteArray).get! 3).toNat := by
    unfold Lib.decodeGoB
    rw [if_neg (by rw [hsz]; omega), Lib.decode_at, hsz]
    have h0 := get_at (c :: t) 0 (by simp)
    simp only [List.getElem_cons_zero] at h0
    rw [h0]
    simp only [Nat.sub_zero, Nat.zero_add]
  have hg : ∀ (j : Nat) (d : UInt8), (c :: t)[j]? = some d → (⟨(c :: t).toArray⟩ : ByteArray).get! j = d := fun j d h => by
    obtain ⟨h1, h2⟩ := List.getElem?_eq_some_iff.1 h
    rw [get_at _ _ h1, h2]
  have hc := UInt8.toNat_lt c
  unfold decR decN whR wbB
  rw [hd]
  generalize hb1 : ((⟨(c :: t).toArray⟩ : ByteArray).get! 1).toNat = b1
  generalize hb2 : ((⟨(c :: t).toArray⟩ : ByteArray).get! 2).toNat = b2
  generalize hb3 : ((⟨(c :: t).toArray⟩ : ByteArray).get! 3).toNat = b3
  have hj : ∀ (j : Nat) (d : UInt8), (c :: t)[j]? = some d → (j = 1 → d.toNat = b1) ∧ (j = 2 → d.toNat = b2) ∧ (j = 3 → d.toNat = b3) := fun j d h =>
    ⟨fun e => by subst e; rw [← hb1, hg 1 d h], fun e => by subst e; rw [← hb2, hg 2 d h], fun e => by subst e; rw [← hb3, hg 3 d h]⟩
  clear hg hd hb1 hb2 hb3
  unfold Lib.decodeN
  constructor
  · repeat' split
    all_goals first | rfl | (simp only [decide_eq_decide]; omega)
  · intro j d h1 h2 h
    obtain ⟨e1, e2, e3⟩ := hj j d h
    have h3 : j = 1 ∨ j = 2 ∨ j = 3 ∨ 4 ≤ j := by omega
    refine decide_eq_false ?_
    repeat' split at h2
    all_goals (simp only at h2; rcases h3 with h3 | h3 | h3 | h3 <;> first | omega | (have := e1 h3; omega) | (have := e2 h3; omega) | (have := e3 h3; omega))
def wordsB : List UInt8 → List UInt8 → List UInt8 → List UInt8
  | [], cur, out => if cur = [] then out else addW out cur
  | c :: r, cur, out => if wbB c = true then (if cur = [] then wordsB r [] out else wordsB r [] (addW out cur)) else wordsB r (cur ++ [c]) out
theorem wordsB_run : ∀ (a r cur out : List UInt8), (∀ c ∈ a, wbB c = false) → wordsB (a ++ r) cur out = wordsB r (cur ++ a) out
  | [], r, cur, out, _ => by simp
  | c :: a, r, cur, out, h => by
    have h1 := h c (List.mem_cons_self ..)
    rw [List.cons_append, wordsB, if_neg (by rw [h1]; decide), wordsB_run a r _ _ fun d hd => h d (List.mem_cons_of_mem _ hd)]
    simp
theorem wh_one (c : UInt8) (t : List UInt8) (h : wbB c = true) : decN (c :: t) = 1 := by
  have hsz : (⟨(c :: t).toArray⟩ : ByteArray).size = t.length + 1 := by simp [ByteArray.size]
  have h1 := of_decide_eq_true h
  unfold decN Lib.decodeGoB
  rw [if_neg (by rw [hsz]; omega), Lib.decode_at]
  have h0 := get_at (c :: t) 0 (by simp)
  simp only [List.getElem_cons_zero] at h0
  rw [h0]
  unfold Lib.decodeN
  rw [if_pos (by omega)]
def curW (s : List UInt8) (i : Nat) (st : Int) : List UInt8 := if 0 ≤ st then (s.drop st.toNat).take (i - st.toNat) else []
theorem words_AB (s : List UInt8) : ∀ (k i : Nat) (st : Int) (out : List UInt8), s.length ≤ i + k → i ≤ s.length → st < i → -1 ≤ st → wordsA s k i st out = wordsB (s.drop i) (curW s i st) out := by
  have fin : ∀ (i : Nat) (st : Int) (out : List UInt8), i = s.length → st < i → (if 0 ≤ st then addW out (s.drop st.toNat) else out) = wordsB (s.drop i) (curW s i st) out := fun i st out hi hst => by
    subst hi
    rw [List.drop_length, wordsB]
    unfold curW
    by_cases h0 : 0 ≤ st
    · have e : (s.drop st.toNat).take (s.length - st.toNat) = s.drop st.toNat := List.take_of_length_le (by rw [List.length_drop]; omega)
      rw [if_pos h0, if_pos h0, e, if_neg]
      intro e2
      have := congrArg List.length e2
      rw [List.length_drop, List.length_nil] at this
      omega
    · rw [if_neg h0, if_neg h0, if_pos rfl]
  intro k
  induction k with
  | zero =>
    intro i st out h1 h2 h3 _
    rw [wordsA]
    exact fin i st out (by omega) h3
  | succ k ih =>
    intro i st out h1 h2 h3 h4
    rw [wordsA]
    by_cases hi : i < s.length
    · rw [if_pos hi]
      have hd : s.drop i = s[i] :: s.drop (i + 1) := List.drop_eq_getElem_cons hi
      obtain ⟨g1, g2⟩ := dec_wh s[i] (s.drop (i + 1))
      rw [← hd] at g1 g2
      have hne : s.drop i ≠ [] := by rw [hd]; exact List.cons_ne_nil _ _
      have hp := decN_pos hne
      have hle := decN_le hne
      rw [List.length_drop] at hle
      by_cases hw : wbB s[i] = true
      · have hn : decN (s.drop i) = 1 := by rw [hd]; exact wh_one _ _ hw
        rw [if_pos (by rw [g1]; exact hw), hn]
        have hr : ∀ cur, wordsB (s.drop i) cur out = if cur = [] then wordsB (s.drop (i + 1)) [] out else wordsB (s.drop (i + 1)) [] (addW out cur) := fun cur => by
          rw [hd, wordsB, if_pos hw]
        by_cases h0 : 0 ≤ st
        · have hc : curW s i st = (s.drop st.toNat).take (i - st.toNat) := if_pos h0
          have hcn : curW s i st ≠ [] := fun e => by
            rw [hc] at e
            have := congrArg List.length e
            rw [List.length_take, List.length_drop, List.length_nil] at this
            omega
          rw [if_pos h0, ih (i + 1) (-1) _ (by omega) (by omega) (by omega) (by omega), hr, if_neg hcn, hc]
          rfl
        · have hc : curW s i st = [] := if_neg h0
          rw [if_neg h0, ih (i + 1) st _ (by omega) (by omega) (by omega) h4, hr, hc, if_pos rfl]
          unfold curW
          rw [if_neg h0]
      · rw [if_neg (by rw [g1]; exact hw)]
        generalize hn : decN (s.drop i) = n at *
        have hall : ∀ c ∈ (s.drop i).take n, wbB c = false := fun c hc => by
          obtain ⟨j, hj, rfl⟩ := List.getElem_of_mem hc
          have hj2 : j < n := by rw [List.length_take] at hj; omega
          rw [List.getElem_take]
          cases j with
          | zero =>
            have : (s.drop i)[0]'(by rw [List.length_drop]; omega) = s[i] := by simp
            rw [this]; simpa using hw
          | succ j => exact g2 (j + 1) _ (by omega) hj2 (List.getElem?_eq_getElem _)
        have hsplit : s.drop i = (s.drop i).take n ++ s.drop (i + n) := by
          rw [← List.drop_drop, List.take_append_drop]
        rw [ih (i + n) _ _ (by omega) (by omega) (by split <;> omega) (by split <;> omega)]
        conv => rhs; rw [hsplit, wordsB_run _ _ _ _ hall]
        congr 1
        unfold curW
        by_cases h0 : 0 ≤ st
        · rw [if_neg (show ¬ st < 0 by omega), if_pos h0, if_pos h0]
          have e : s.drop i = (s.drop st.toNat).drop (i - st.toNat) := by rw [List.drop_drop]; congr 1; omega
          rw [e, ← List.take_add]
          congr 1; omega
        · rw [if_pos (show st < 0 by omega), if_pos (by omega), if_neg h0, List.nil_append]
          congr 1; omega
    · rw [if_neg hi]
      exact fin i st out (by omega) h3
def colA : Bool → List UInt8 → List UInt8
  | _, [] => []
  | p, c :: r => if wbB c = true then (if p = true then colA true r else 32 :: colA true r) else c :: colA false r
def colT (s : List UInt8) : List UInt8 := colA false s
def lastW (s : List UInt8) : Bool := match s.getLast? with | some c => wbB c | none => false
def tr1 (s : List UInt8) : List UInt8 := if lastW s = true then [32] else []
def tr2 (s : List UInt8) : List UInt8 := if s = [] ∨ lastW s = true then [32] else []
theorem lastW_cons {c : UInt8} {r : List UInt8} (h : r ≠ []) : lastW (c :: r) = lastW r := by
  unfold lastW
  cases r with
  | nil => exact absurd rfl h
  | cons d r => rfl
theorem tr1_n {c : UInt8} (r : List UInt8) (h : wbB c = false) : tr1 (c :: r) = tr1 r := by
  unfold tr1
  by_cases hr : r = []
  · subst hr; simp [lastW, h]
  · rw [lastW_cons hr]
theorem tr1_w {c : UInt8} (r : List UInt8) (h : wbB c = true) : tr1 (c :: r) = tr2 r := by
  unfold tr1 tr2
  by_cases hr : r = []
  · subst hr; simp [lastW, h]
  · rw [lastW_cons hr]; simp [hr]
theorem tr2_n {c : UInt8} (r : List UInt8) (h : wbB c = false) : tr2 (c :: r) = tr1 r := by
  rw [← tr1_n r h]; unfold tr1 tr2; simp
theorem tr2_w {c : UInt8} (r : List UInt8) (h : wbB c = true) : tr2 (c :: r) = tr2 r := by
  rw [← tr1_w r h]; unfold tr1 tr2; simp
theorem addW_app (out cur b : List UInt8) : addW out (cur ++ b) = addW out cur ++ b := by
  unfold addW; split <;> simp
theorem addW_ne2 {out cur : List UInt8} (h : cur ≠ []) : addW out cur ≠ [] := by
  unfold addW; split <;> simp [h]
mutual
theorem words_C1 : ∀ (r cur out : List UInt8), cur ≠ [] → wordsB r cur out ++ tr1 r = addW out cur ++ colA false r
  | [], cur, out, h => by simp [wordsB, h, tr1, lastW, colA]
  | c :: r, cur, out, h => by
    by_cases hw : wbB c = true
    · rw [wordsB, if_pos hw, if_neg h, tr1_w r hw, words_C2 r _ (addW_ne2 h), colA, if_pos hw]
      simp
    · have hw' : wbB c = false := by simpa using hw
      rw [wordsB, if_neg hw, tr1_n r hw', words_C1 r _ out (by simp), colA, if_neg hw, addW_app]
      simp
theorem words_C2 : ∀ (r out : List UInt8), out ≠ [] → wordsB r [] out ++ tr2 r = out ++ 32 :: colA true r
  | [], out, _ => by simp [wordsB, tr2, colA]
  | c :: r, out, h => by
    by_cases hw : wbB c = true
    · rw [wordsB, if_pos hw, if_pos rfl, tr2_w r hw, words_C2 r out h, colA, if_pos hw, if_pos rfl]
    · have hw' : wbB c = false := by simpa using hw
      rw [wordsB, if_neg hw, tr2_n r hw', List.nil_append, words_C1 r [c] out (by simp), colA, if_neg hw]
      unfold addW
      rw [if_neg h]
      simp
end
theorem words_C3 : ∀ (s : List UInt8), (colA true s = [] → wordsB s [] [] = []) ∧ (colA true s ≠ [] → wordsB s [] [] ++ tr1 s = colA true s ∧ wordsB s [] [] ≠ [])
  | [] => by simp [colA, wordsB]
  | c :: r => by
    obtain ⟨h1, h2⟩ := words_C3 r
    by_cases hw : wbB c = true
    · rw [colA, if_pos hw, if_pos rfl, wordsB, if_pos hw, if_pos rfl, tr1_w r hw]
      refine ⟨h1, fun h => ?_⟩
      have hr : r ≠ [] := fun e => by subst e; simp [colA] at h
      have : tr2 r = tr1 r := by unfold tr1 tr2; simp [hr]
      rw [this]; exact h2 h
    · have hw' : wbB c = false := by simpa using hw
      rw [colA, if_neg hw, wordsB, if_neg hw, tr1_n r hw']
      have e := words_C1 r [c] [] (by simp)
      refine ⟨(fun h => by cases h), fun _ => ⟨by rw [List.nil_append, e]; simp [addW], fun h0 => ?_⟩⟩
      rw [List.nil_append] at h0
      rw [h0, List.nil_append] at e
      have := congrArg List.length e
      have h3 : (tr1 r).length ≤ 1 := by unfold tr1; split <;> simp
      cases r with
      | nil => simp [tr1, lastW, addW, colA] at e
      | cons d r =>
        by_cases hd : wbB d = true
        · rw [colA, if_pos hd] at this
          simp [addW] at this
          omega
        · rw [colA, if_neg hd] at this
          simp [addW] at this
          omega
theorem ends_col (s : List UInt8) : endsT s = colT s := by
  have h1 : oneT s = wordsB s [] [] := by
    unfold oneT
    rw [words_AB s s.length 0 (-1) [] (by omega) (by omega) (by omega) (by omega)]
    rfl
  cases s with
  | nil => rfl
  | cons c r =>
    obtain ⟨g1, g2⟩ := words_C3 (c :: r)
    have hb0 : whI (byteAt (c :: r) 0) = wbB c := by
      rw [byteAt_get _ _ (by simp), whI_cast]; rfl
    have hbl : whI (byteAt (c :: r) ((c :: r).length - 1)) = lastW (c :: r) := by
      rw [byteAt_get _ _ (by simp), whI_cast]
      unfold lastW
      rw [List.getLast?_eq_getElem?, List.getElem?_eq_getElem (by simp)]
      rfl
    have ea : endsA (c :: r) = if wbB c = true then [32] ++ wordsB (c :: r) [] [] else wordsB (c :: r) [] [] := by
      unfold endsA; rw [hb0, h1]; simp
    have fin : ∀ x : List UInt8, x ≠ [] → x ≠ [32] → (if x ≠ [] ∧ x ≠ [32] ∧ lastW (c :: r) = true then x ++ [32] else x) = x ++ tr1 (c :: r) := fun x h3 h4 => by
      unfold tr1
      by_cases hl : lastW (c :: r) = true
      · rw [if_pos ⟨h3, h4, hl⟩, if_pos hl]
      · rw [if_neg (fun h => hl h.2.2), if_neg hl, List.append_nil]
    unfold endsT colT
    rw [hbl, ea]
    by_cases hw : wbB c = true
    · have hcol : colA false (c :: r) = 32 :: colA true (c :: r) := by simp only [colA, if_pos hw]; rfl
      rw [if_pos hw, hcol]
      by_cases he : colA true (c :: r) = []
      · rw [g1 he, he]; simp
      · obtain ⟨g3, g4⟩ := g2 he
        rw [fin _ (by simp) (by simp [g4]), List.append_assoc, g3]; rfl
    · have hw' : wbB c = false := by simpa using hw
      have hcol : colA true (c :: r) = c :: colA false r := by rw [colA, if_neg hw]
      have hcol2 : colA false (c :: r) = c :: colA false r := by rw [colA, if_neg hw]
      have he : colA true (c :: r) ≠ [] := by rw [hcol]; simp
      obtain ⟨g3, g4⟩ := g2 he
      rw [if_neg hw]
      have h32 : wordsB (c :: r) [] [] ≠ [32] := fun e => by
        rw [e, hcol] at g3
        have := (List.cons.inj g3).1
        rw [← this] at hw'
        exact absurd hw' (by decide)
      rw [fin _ g4 h32, g3, hcol, hcol2]
end Go.Proofs.YtciciemaldbidaaGreatDoor
