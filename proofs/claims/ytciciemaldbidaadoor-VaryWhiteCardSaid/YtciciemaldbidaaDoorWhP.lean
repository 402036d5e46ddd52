/- Words with gaps between them: what vary.one and vary.ends make of them (plain law). -/
import Derived.Test.YtciciemaldbidaaDoorValW
import Derived.Test.YtciciemaldbidaaDoorWhC
import Derived.Lib.TrimAscii
set_option linter.unusedSimpArgs false
set_option linter.unusedVariables false
namespace Go.Proofs.YtciciemaldbidaaDoor
open Go Go.Ve
set_option maxRecDepth 20000
theorem dec_ascii {c : UInt8} {r : List UInt8} (h : c.toNat < 128) : decR (c :: r) = c.toNat ∧ decN (c :: r) = 1 := by
  have e : Lib.decodeGoB (⟨(c :: r).toArray⟩ : ByteArray) = (c.toNat, 1) := by
    unfold Lib.decodeGoB
    rw [if_neg (by simp [ByteArray.size])]
    exact Lib.decodeL_ascii c r h
  unfold decR decN
  rw [e]
  exact ⟨rfl, rfl⟩
def inkC (c : UInt8) : Prop := 33 ≤ c.toNat ∧ c.toNat < 128
def whiC (c : UInt8) : Prop := c.toNat = 32 ∨ c.toNat = 9
theorem drop_mid {s pre post : List UInt8} {c : UInt8} (hs : s = pre ++ c :: post) : pre.length < s.length ∧ s.drop pre.length = c :: post := by
  subst hs; exact ⟨by simp, List.drop_left⟩
theorem ink_step {s pre post : List UInt8} {c : UInt8} {k : Nat} {st : Int} {out : List UInt8} (hs : s = pre ++ c :: post) (hc : inkC c) : wordsA s (k + 1) pre.length st out = wordsA s k (pre.length + 1) (if st < 0 then pre.length else st) out := by
  obtain ⟨h1, h2⟩ := drop_mid hs
  obtain ⟨h3, h4⟩ := dec_ascii (r := post) hc.2
  rw [wordsA, if_pos h1, h2, h3, h4, if_neg]
  unfold whR
  have := hc.1
  intro h
  have := of_decide_eq_true h
  omega
theorem whi_step {s pre post : List UInt8} {c : UInt8} {k : Nat} {st : Int} {out : List UInt8} (hs : s = pre ++ c :: post) (hc : whiC c) : wordsA s (k + 1) pre.length st out = if 0 ≤ st then wordsA s k (pre.length + 1) (-1) (addW out ((s.drop st.toNat).take (pre.length - st.toNat))) else wordsA s k (pre.length + 1) st out := by
  obtain ⟨h1, h2⟩ := drop_mid hs
  obtain ⟨h3, h4⟩ := dec_ascii (c := c) (r := post) (by rcases hc with h | h <;> omega)
  rw [wordsA, if_pos h1, h2, h3, h4, if_pos]
  unfold whR
  exact decide_eq_true hc
theorem ink_run {s : List UInt8} {a : Nat} {out : List UInt8} : ∀ {w pre post : List UInt8} {k : Nat}, s = pre ++ w ++ post → (∀ c ∈ w, inkC c) → wordsA s (k + w.length) pre.length a out = wordsA s k (pre.length + w.length) a out
  | [], _, _, _, _, _ => rfl
  | c :: w, pre, post, k, hs, hw => by
    have h := ink_step (s := s) (pre := pre) (post := w ++ post) (k := k + w.length) (st := a) (out := out) (by rw [hs]; simp) (hw c (by simp))
    rw [if_neg (by omega)] at h
    have ih := ink_run (s := s) (a := a) (out := out) (w := w) (pre := pre ++ [c]) (post := post) (k := k) (by rw [hs]; simp) fun x hx => hw x (by simp [hx])
    simp only [List.length_append, List.length_cons, List.length_nil] at ih ⊢
    rw [← Nat.add_assoc, h, ih]
    congr 1
    omega
theorem whi_run {s : List UInt8} {out : List UInt8} : ∀ {g pre post : List UInt8} {k : Nat}, s = pre ++ g ++ post → (∀ c ∈ g, whiC c) → wordsA s (k + g.length) pre.length (-1) out = wordsA s k (pre.length + g.length) (-1) out
  | [], _, _, _, _, _ => rfl
  | c :: g, pre, post, k, hs, hw => by
    have h := whi_step (s := s) (pre := pre) (post := g ++ post) (k := k + g.length) (st := -1) (out := out) (by rw [hs]; simp) (hw c (by simp))
    rw [if_neg (by omega)] at h
    have ih := whi_run (s := s) (out := out) (g := g) (pre := pre ++ [c]) (post := post) (k := k) (by rw [hs]; simp) fun x hx => hw x (by simp [hx])
    simp only [List.length_append, List.length_cons, List.length_nil] at ih ⊢
    rw [← Nat.add_assoc, h, ih]
    congr 1
    omega
/-- A word begins. -/
theorem ink_word {s w pre post : List UInt8} {out : List UInt8} {k : Nat} (hs : s = pre ++ w ++ post) (hw : ∀ c ∈ w, inkC c) (hn : w ≠ []) : wordsA s (k + w.length) pre.length (-1) out = wordsA s k (pre.length + w.length) pre.length out := by
  cases w with
  | nil => exact absurd rfl hn
  | cons c w =>
    have h := ink_step (s := s) (pre := pre) (post := w ++ post) (k := k + w.length) (st := -1) (out := out) (by rw [hs]; simp) (hw c (by simp))
    rw [if_pos (by omega)] at h
    have ih := ink_run (s := s) (a := pre.length) (out := out) (w := w) (pre := pre ++ [c]) (post := post) (k := k) (by rw [hs]; simp) fun x hx => hw x (by simp [hx])
    simp only [List.length_append, List.length_cons, List.length_nil] at ih ⊢
    rw [← Nat.add_assoc, h, ih]
    congr 1
    omega
/-- A gap behind a word. -/
theorem whi_gap {s v g pre post : List UInt8} {out : List UInt8} {k : Nat} (hs : s = pre ++ v ++ g ++ post) (hw : ∀ c ∈ g, whiC c) (hn : g ≠ []) : wordsA s (k + g.length) (pre ++ v).length pre.length out = wordsA s k ((pre ++ v).length + g.length) (-1) (addW out v) := by
  cases g with
  | nil => exact absurd rfl hn
  | cons c g =>
    have h := whi_step (s := s) (pre := pre ++ v) (post := g ++ post) (k := k + g.length) (st := pre.length) (out := out) (by rw [hs]; simp) (hw c (by simp))
    rw [if_pos (by omega)] at h
    have e : (s.drop (pre.length : Int).toNat).take ((pre ++ v).length - (pre.length : Int).toNat) = v := by
      rw [Int.toNat_natCast, hs, List.append_assoc, List.append_assoc, List.drop_left]
      rw [List.length_append, Nat.add_sub_cancel_left, List.take_left]
    rw [e] at h
    have ih := whi_run (s := s) (out := addW out v) (g := g) (pre := pre ++ v ++ [c]) (post := post) (k := k) (by rw [hs]; simp) fun x hx => hw x (by simp [hx])
    simp only [List.length_append, List.length_cons, List.length_nil] at ih h ⊢
    rw [← Nat.add_assoc, h, ih]
    congr 1
    omega
def sepI (l : LL) (g : Nat → List UInt8) : Nat → List UInt8
  | 0 => []
  | i + 1 => (if i = 0 then [] else sepI l g i ++ g i) ++ l.getD i []
def g32 (_ : Nat) : List UInt8 := [32]
def inkW (w : List UInt8) : Prop := w ≠ [] ∧ ∀ c ∈ w, inkC c
theorem sep_one (l : LL) (g : Nat → List UInt8) : sepI l g 1 = l.getD 0 [] := rfl
theorem sep_step (l : LL) (g : Nat → List UInt8) (n : Nat) : sepI l g (n + 2) = sepI l g (n + 1) ++ g (n + 1) ++ l.getD (n + 1) [] := by
  rw [sepI, if_neg (by omega)]
/-- Where vary.one stands behind so many words. -/
theorem sep_run {l : LL} {g : Nat → List UInt8} (hl : ∀ w ∈ l, inkW w) (hg : ∀ i, g i ≠ [] ∧ ∀ c ∈ g i, whiC c) {s : List UInt8} : ∀ (n : Nat) {post : List UInt8} {k : Nat}, n < l.length → s = sepI l g (n + 1) ++ post →
    ∃ p : List UInt8, sepI l g (n + 1) = p ++ l.getD n [] ∧ wordsA s (k + (sepI l g (n + 1)).length) 0 (-1) [] = wordsA s k (sepI l g (n + 1)).length p.length (sepI l g32 n)
  | 0, post, k, hn, hs => by
    have h := ink_word (s := s) (w := l.getD 0 []) (pre := []) (post := post) (out := []) (k := k) (by rw [hs, sep_one]; simp) (hl _ (getD_mem hn)).2 (hl _ (getD_mem hn)).1
    refine ⟨[], rfl, ?_⟩
    rw [sep_one]
    simpa [sepI] using h
  | n + 1, post, k, hn, hs => by
    rw [sep_step] at hs
    obtain ⟨p, h1, h2⟩ := sep_run hl hg (s := s) n (post := g (n + 1) ++ l.getD (n + 1) [] ++ post) (k := k + (l.getD (n + 1) []).length + (g (n + 1)).length) (by omega) (by rw [hs]; simp)
    have hw := hl _ (getD_mem hn)
    refine ⟨sepI l g (n + 1) ++ g (n + 1), sep_step l g n, ?_⟩
    have e1 := whi_gap (s := s) (v := l.getD n []) (g := g (n + 1)) (pre := p) (post := l.getD (n + 1) [] ++ post) (out := sepI l g32 n) (k := k + (l.getD (n + 1) []).length) (by rw [hs, h1]; simp) (hg _).2 (hg _).1
    rw [← h1] at e1
    have e2 := ink_word (s := s) (w := l.getD (n + 1) []) (pre := sepI l g (n + 1) ++ g (n + 1)) (post := post) (out := addW (sepI l g32 n) (l.getD n [])) (k := k) (by rw [hs]) hw.2 hw.1
    have e3 : addW (sepI l g32 n) (l.getD n []) = sepI l g32 (n + 1) := by
      cases n with
      | zero => rfl
      | succ n =>
        rw [sep_step, addW_ne]
        · rfl
        · cases n with
          | zero => exact (hl _ (getD_mem (i := 0) (by omega))).1
          | succ n => rw [sep_step]; simp [g32]
    rw [e3] at e1 e2
    rw [sep_step]
    simp only [List.length_append] at h2 e1 e2 ⊢
    rw [show k + ((sepI l g (n + 1)).length + (g (n + 1)).length + (l.getD (n + 1) []).length) = k + (l.getD (n + 1) []).length + (g (n + 1)).length + (sepI l g (n + 1)).length by omega, h2, e1, e2]
theorem one_sep {l : LL} {g : Nat → List UInt8} (hl : ∀ w ∈ l, inkW w) (hg : ∀ i, g i ≠ [] ∧ ∀ c ∈ g i, whiC c) {n : Nat} (hn : n < l.length) : oneT (sepI l g (n + 1)) = sepI l g32 (n + 1) := by
  obtain ⟨p, h1, h2⟩ := sep_run hl hg (s := sepI l g (n + 1)) n (post := []) (k := 0) hn (by simp)
  unfold oneT
  rw [Nat.zero_add] at h2
  rw [h2, words_end (Nat.le_refl _), if_pos (by omega), Int.toNat_natCast]
  rw [show (sepI l g (n + 1)).drop p.length = l.getD n [] by rw [h1, List.drop_left]]
  cases n with
  | zero => rfl
  | succ n =>
    rw [sep_step, addW_ne]
    · rfl
    · cases n with
      | zero => exact (hl _ (getD_mem (i := 0) (by omega))).1
      | succ n => rw [sep_step]; simp [g32]
/-- A comma behind each word but the last. -/
def cmL (l : LL) (m : Nat) : LL := (l.take m).map (fun w => w ++ [44]) ++ [l.getD m []]
theorem cm_get {l : LL} {m i : Nat} (hm : m < l.length) (hi : i < m) : (cmL l m).getD i [] = l.getD i [] ++ [44] := by
  unfold cmL
  rw [List.getD_eq_getElem?_getD, List.getElem?_append_left (by simp only [List.length_map, List.length_take]; omega), List.getElem?_map, List.getElem?_take_of_lt hi, List.getElem?_eq_getElem (show i < l.length by omega), List.getD_eq_getElem?_getD, List.getElem?_eq_getElem (show i < l.length by omega)]
  rfl
theorem cm_last {l : LL} {m : Nat} (hm : m < l.length) : (cmL l m).getD m [] = l.getD m [] := by
  unfold cmL
  rw [List.getD_eq_getElem?_getD, List.getElem?_append_right (by simp only [List.length_map, List.length_take]; omega)]
  simp only [List.length_map, List.length_take]
  rw [show m - min m l.length = 0 by omega]
  rfl
def gCm (_ : Nat) : List UInt8 := [44, 32]
theorem cm_pre {l : LL} {m : Nat} (hm : m < l.length) : ∀ n, n < m → sepI (cmL l m) g32 (n + 1) = sepI l gCm (n + 1) ++ [44]
  | 0, h => by rw [sep_one, sep_one, cm_get hm h]
  | n + 1, h => by
    rw [sep_step, sep_step, cm_pre hm n (by omega), cm_get hm h]
    simp [g32, gCm]
theorem cm_sep {l : LL} {m : Nat} (hm : m < l.length) : sepI (cmL l m) g32 (m + 1) = sepI l gCm (m + 1) := by
  cases m with
  | zero => rw [sep_one, sep_one, cm_last hm]
  | succ m =>
    rw [sep_step, sep_step, cm_pre hm m (by omega), cm_last hm]
    simp [g32, gCm]
theorem ink44 : inkC 44 := by constructor <;> decide
theorem cm_ink {l : LL} {m : Nat} (hm : m < l.length) (hl : ∀ w ∈ l, inkW w) : ∀ w ∈ cmL l m, inkW w := by
  intro w hw
  rcases List.mem_append.1 hw with hw | hw
  · obtain ⟨v, hv, rfl⟩ := List.mem_map.1 hw
    have := hl v (List.mem_of_mem_take hv)
    refine ⟨by simp, fun c hc => ?_⟩
    rcases List.mem_append.1 hc with hc | hc
    · exact this.2 c hc
    · rw [List.mem_singleton.1 hc]; exact ink44
  · rw [List.mem_singleton.1 hw]; exact hl _ (getD_mem hm)
theorem one_want {l : LL} {m : Nat} (hm : m < l.length) (hl : ∀ w ∈ l, inkW w) : oneT (sepI l gCm (m + 1)) = sepI l gCm (m + 1) := by
  rw [← cm_sep hm]
  exact one_sep (cm_ink hm hl) (fun _ => ⟨by simp [g32], fun c hc => by rw [List.mem_singleton.1 hc]; exact .inl rfl⟩) (by simp [cmL]; omega)
/-- The ends of a text of words. -/
theorem sep_ends {l : LL} {g : Nat → List UInt8} (hl : ∀ w ∈ l, inkW w) : ∀ (n : Nat), n < l.length → ∃ (c d : UInt8) (y z : List UInt8), sepI l g (n + 1) = c :: y ∧ sepI l g (n + 1) = z ++ [d] ∧ inkC c ∧ inkC d := by
  intro n hn
  have last : ∀ w : List UInt8, inkW w → ∃ (d : UInt8) (z : List UInt8), w = z ++ [d] ∧ inkC d := fun w hw =>
    ⟨w.getLast hw.1, w.dropLast, (List.dropLast_concat_getLast hw.1).symm, hw.2 _ (List.getLast_mem hw.1)⟩
  have first : ∀ n, n < l.length → ∃ (c : UInt8) (y : List UInt8), sepI l g (n + 1) = c :: y ∧ inkC c := fun n => by
    induction n with
    | zero =>
      intro h
      have hw := hl _ (getD_mem h)
      rw [sep_one]
      cases e : l.getD 0 [] with
      | nil => exact absurd e hw.1
      | cons c y => rw [e] at hw; exact ⟨c, y, rfl, hw.2 c (by simp)⟩
    | succ n ih =>
      intro h
      obtain ⟨c, y, h1, h2⟩ := ih (by omega)
      exact ⟨c, y ++ g (n + 1) ++ l.getD (n + 1) [], by rw [sep_step, h1]; simp, h2⟩
  obtain ⟨c, y, h1, h2⟩ := first n hn
  have hw := hl _ (getD_mem hn)
  obtain ⟨d, z, h3, h4⟩ := last _ hw
  cases n with
  | zero => exact ⟨c, d, y, z, h1, by rw [sep_one, h3], h2, h4⟩
  | succ n => exact ⟨c, d, y, sepI l g (n + 1) ++ g (n + 1) ++ z, h1, by rw [sep_step, h3]; simp, h2, h4⟩
theorem whI_ink {c : UInt8} (h : inkC c) : whI c.toNat = false := by
  rw [whI_cast]
  unfold whR
  exact decide_eq_false (by have := h.1; omega)
theorem ends_ink {x : List UInt8} {c d : UInt8} {y z : List UInt8} (h1 : x = c :: y) (h2 : x = z ++ [d]) (hc : inkC c) (hd : inkC d) : endsT x = oneT x := by
  have b1 : byteAt x 0 = c.toNat := by rw [h1, byteAt_get _ _ (by simp)]; rfl
  have b2 : byteAt x (x.length - 1) = d.toNat := by
    have hl : x.length - 1 = z.length := by rw [h2]; simp
    rw [hl, h2, byteAt_get _ _ (by simp)]
    simp
  have e : endsA x = oneT x := if_neg (fun h => by rw [b1, whI_ink hc] at h; exact absurd h.2 (by decide))
  unfold endsT
  rw [if_neg (fun h => by rw [b2, whI_ink hd] at h; exact absurd h.2.2 (by decide)), e]
theorem ends_sep {l : LL} {g : Nat → List UInt8} (hl : ∀ w ∈ l, inkW w) (hg : ∀ i, g i ≠ [] ∧ ∀ c ∈ g i, whiC c) {n : Nat} (hn : n < l.length) : endsT (sepI l g (n + 1)) = sepI l g32 (n + 1) := by
  obtain ⟨c, d, y, z, h1, h2, h3, h4⟩ := sep_ends (g := g) hl n hn
  rw [ends_ink h1 h2 h3 h4, one_sep hl hg hn]
theorem ends_want {l : LL} {m : Nat} (hm : m < l.length) (hl : ∀ w ∈ l, inkW w) : endsT (sepI l gCm (m + 1)) = sepI l gCm (m + 1) := by
  obtain ⟨c, d, y, z, h1, h2, h3, h4⟩ := sep_ends (g := gCm) hl m hm
  rw [ends_ink h1 h2 h3 h4, one_want hm hl]
theorem ends_word {w : List UInt8} (h : inkW w) : endsT w = w := by
  have := ends_sep (l := [w]) (g := g32) (by simpa using h) (fun _ => ⟨by simp [g32], fun c hc => by rw [List.mem_singleton.1 hc]; exact .inl rfl⟩) (n := 0) (by simp)
  exact this
theorem tok_ink {w : List UInt8} (h : tokR w = true) : inkW w := by
  unfold tokR at h
  rw [Bool.and_eq_true] at h
  refine ⟨of_decide_eq_true h.2, fun c hc => ?_⟩
  have h1 := h.1
  unfold tcA at h1
  rw [List.all_eq_true] at h1
  have h2 := of_decide_eq_true (h1 c hc)
  constructor <;> omega
/-- One field; fields of one name. -/
theorem val_one {nm a x : List UInt8} (h : lower a = lower nm) : valT [(a, x)] nm = [43] ++ endsT x := by
  have e : allF [(a, x)] nm = [x] := by simp [allF, h]
  unfold valT
  rw [e, if_neg (by simp)]
  simp [joinF, Lib.join]
def lF (nm : List UInt8) (l : LL) (i : Nat) : FL := (l.take i).map fun p => (nm, p)
theorem all_lF (nm : List UInt8) (l : LL) (i : Nat) : allF (lF nm l i) nm = l.take i := by
  unfold allF lF
  rw [List.filter_eq_self.2 (fun f hf => by obtain ⟨p, _, rfl⟩ := List.mem_map.1 hf; simp), List.map_map]
  simp [Function.comp_def]
theorem join_sep : ∀ {l : LL} (n : Nat), n < l.length → Lib.join (l.take (n + 1)) [44, 32] = sepI l gCm (n + 1)
  | [], n, h => absurd h (Nat.not_lt_zero _)
  | a :: r, 0, _ => by
    rw [sep_one]
    exact Lib.join_one a _
  | a :: r, n + 1, h => by
    have ih := join_sep (l := a :: r) n (by omega)
    have hn : n < r.length := by simpa using h
    rw [List.take_succ_cons, Lib.join_cons] at ih ⊢
    rw [Lib.joinTail_take_succ _ _ n r[n] (List.getElem?_eq_getElem hn), sep_step, ← ih]
    have e : (a :: r).getD (n + 1) [] = r[n] := by rw [List.getD_eq_getElem?_getD, List.getElem?_cons_succ, List.getElem?_eq_getElem hn]; rfl
    rw [e]
    simp [gCm]
/-- What the law asks. -/
theorem val_lF {nm : List UInt8} {l : LL} (hl : ∀ w ∈ l, inkW w) {n : Nat} (hn : n < l.length) : valT (lF nm l (n + 1)) nm = [43] ++ sepI l gCm (n + 1) := by
  unfold valT
  have h0 : l.take (n + 1) ≠ [] := fun e => by
    have := congrArg List.length e
    rw [List.length_take, List.length_nil] at this; omega
  rw [all_lF, if_neg h0]
  have e : (l.take (n + 1)).map endsT = l.take (n + 1) := by
    have h1 : ∀ x ∈ l.take (n + 1), endsT x = x := fun x hx => ends_word (hl x (List.mem_of_mem_take hx))
    exact (List.map_congr_left h1).trans (List.map_id' _)
  rw [e]
  unfold joinF
  rw [join_sep n hn]
end Go.Proofs.YtciciemaldbidaaDoor
