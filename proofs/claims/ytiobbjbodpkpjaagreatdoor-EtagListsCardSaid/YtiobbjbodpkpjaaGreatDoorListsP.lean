/- The plain law of EtagLists: what is written is split and read again. -/
import Derived.Test.YtiobbjbodpkpjaaGreatDoorLists1
set_option linter.unusedSimpArgs false
set_option linter.unusedVariables false
namespace Go.Proofs.YtiobbjbodpkpjaaGreatDoor
open Go Go.Ve
set_option maxRecDepth 20000
def txt (t : Bool × List UInt8) : List UInt8 := textF t.1 t.2
def goodT (t : Bool × List UInt8) : Prop := valueF t.2 = true ∧ (txt t).length ≤ 100 ∧ backsF t.2 = false
theorem body_qt {v : List UInt8} (hv : valueF v = true) : bodyP (qt v) = some v := by
  have e1 : qt v = 34 :: (v ++ [34]) := by simp [qt]
  have e2 : (qt v).take 1 = [34] := by rw [e1]; rfl
  have e3 : (qt v).drop 1 = v ++ [34] := by rw [e1]; rfl
  have e4 : (v ++ [34]).length - 1 = v.length := by simp
  unfold bodyP
  rw [e2, e3, e4, List.drop_left, List.take_left, if_pos ⟨by rw [e1]; simp; omega, rfl⟩, if_pos ⟨by simp; omega, rfl⟩, if_pos hv]
theorem parse_txt {t : Bool × List UInt8} (hv : valueF t.2 = true) : parseF (txt t) = some t := by
  obtain ⟨w, v⟩ := t
  cases w with
  | false =>
    have e1 : txt (false, v) = qt v := rfl
    have e2 : (qt v).take 2 ≠ [87, 47] := by
      have e : qt v = 34 :: (v ++ [34]) := by simp [qt]
      rw [e]
      simp
    rw [e1, parseF, if_neg (fun h => e2 h.2), body_qt hv]
    rfl
  | true =>
    have e1 : txt (true, v) = [87, 47] ++ qt v := rfl
    have e2 : ([87, 47] ++ qt v).drop 2 = qt v := rfl
    rw [e1, parseF, if_pos ⟨by simp; omega, rfl⟩, e2, body_qt hv]
    rfl
theorem pE_txt {t : Bool × List UInt8} (hv : valueF t.2 = true) : pE (txt t) = 0 := by rw [pE, parse_txt hv]
theorem pW_txt {t : Bool × List UInt8} (hv : valueF t.2 = true) : pW (txt t) = t.1 := by rw [pW, parse_txt hv]
theorem pV_txt {t : Bool × List UInt8} (hv : valueF t.2 = true) : pV (txt t) = t.2 := by rw [pV, parse_txt hv]
theorem tagsP_txt : ∀ {l : TL}, (∀ t ∈ l, goodT t) → tagsP (l.map txt) = l
  | [], _ => rfl
  | t :: l, h => by
    have h1 := tagsP_txt (l := l) fun x hx => h x (by simp [hx])
    have ht := (h t (by simp)).1
    unfold tagsP at h1 ⊢
    rw [List.map_cons, List.map_cons, h1, pW_txt ht, pV_txt ht]
theorem pE_star : pE [42] = 4 := by kernel_rfl
theorem txt_star (t : Bool × List UInt8) : txt t ≠ [42] := by
  obtain ⟨w, v⟩ := t
  cases w <;> simp [txt, textF, qt]
theorem byte_mid {s pre post : List UInt8} {c : UInt8} (hs : s = pre ++ c :: post) : pre.length < s.length ∧ byteAt s pre.length = c.toNat := by
  subst hs
  refine ⟨by simp, ?_⟩
  rw [byteAt_get _ _ (by simp)]
  simp
theorem seg_step {s : List UInt8} {post : List UInt8} {q : Bool} {fm : Nat} {acc : LL} : ∀ {seg pre : List UInt8}, s = pre ++ seg ++ post → (∀ c ∈ seg, c.toNat ≠ 34 ∧ (q = true → c.toNat ≠ 92) ∧ (q = false → c.toNat ≠ 44)) → splitF s pre.length fm q acc = splitF s (pre.length + seg.length) fm q acc
  | [], pre, _, _ => rfl
  | c :: seg, pre, hs, hc => by
    obtain ⟨h1, h2, h3⟩ := hc c (by simp)
    obtain ⟨g1, g2⟩ := byte_mid (s := s) (pre := pre) (c := c) (post := seg ++ post) (by rw [hs]; simp)
    have ih := seg_step (s := s) (post := post) (q := q) (fm := fm) (acc := acc) (seg := seg) (pre := pre ++ [c]) (by rw [hs]; simp) fun x hx => hc x (by simp [hx])
    rw [splitF_in g1, g2, if_neg (fun h => h2 h.1 (by omega)), if_neg (by omega), if_neg (fun h => h3 h.2 (by omega))]
    simp only [List.length_append, List.length_cons, List.length_nil] at ih ⊢
    rw [show pre.length + (seg.length + 1) = pre.length + 1 + seg.length by omega]
    exact ih
theorem quote_step {s pre post : List UInt8} {q : Bool} {fm : Nat} {acc : LL} (hs : s = pre ++ 34 :: post) : splitF s pre.length fm q acc = splitF s (pre.length + 1) fm (!q) acc := by
  obtain ⟨g1, g2⟩ := byte_mid hs
  have g3 : byteAt s pre.length = 34 := g2
  rw [splitF_in g1, g3, if_neg (by omega), if_pos rfl]
theorem comma_step {s pre post : List UInt8} {fm : Nat} {acc : LL} (hs : s = pre ++ 44 :: post) : splitF s pre.length fm false acc = splitF s (pre.length + 1) (pre.length + 1) false (putF s fm pre.length acc) := by
  obtain ⟨g1, g2⟩ := byte_mid hs
  have g3 : byteAt s pre.length = 44 := g2
  rw [splitF_in g1, g3, if_neg (by omega), if_neg (by omega), if_pos ⟨rfl, rfl⟩]
theorem good_bytes {t : Bool × List UInt8} (h : goodT t) : ∀ c ∈ t.2, c.toNat ≠ 34 ∧ ((true : Bool) = true → c.toNat ≠ 92) ∧ ((true : Bool) = false → c.toNat ≠ 44) := by
  obtain ⟨h1, _, h2⟩ := h
  intro c hc
  rw [valueF, List.all_eq_true] at h1
  have := (okC_iff c).1 (h1 c hc)
  rw [backsF, List.any_eq_false] at h2
  have h3 := h2 c hc
  simp at h3
  exact ⟨this.2.1, fun _ => h3, fun h => by cases h⟩
theorem qt_step {s pre post : List UInt8} {t : Bool × List UInt8} {fm : Nat} {acc : LL} (hg : goodT t) (hs : s = pre ++ qt t.2 ++ post) : splitF s pre.length fm false acc = splitF s (pre.length + (qt t.2).length) fm false acc := by
  have e1 := quote_step (s := s) (pre := pre) (post := t.2 ++ [34] ++ post) (q := false) (fm := fm) (acc := acc) (by rw [hs]; simp [qt])
  have e2 := seg_step (s := s) (pre := pre ++ [34]) (seg := t.2) (post := [34] ++ post) (q := true) (fm := fm) (acc := acc) (by rw [hs]; simp [qt]) (good_bytes hg)
  have e3 := quote_step (s := s) (pre := pre ++ [34] ++ t.2) (post := post) (q := true) (fm := fm) (acc := acc) (by rw [hs]; simp [qt])
  simp only [List.length_append, List.length_cons, List.length_nil, Bool.not_false, Bool.not_true] at e1 e2 e3
  rw [e1, e2, e3]
  congr 1
  simp [qt]
  omega
theorem item_step {s pre post : List UInt8} {t : Bool × List UInt8} {fm : Nat} {acc : LL} (hg : goodT t) (hs : s = pre ++ txt t ++ post) : splitF s pre.length fm false acc = splitF s (pre.length + (txt t).length) fm false acc := by
  obtain ⟨w, v⟩ := t
  cases w with
  | false => exact qt_step (t := (false, v)) hg hs
  | true =>
    have e0 : txt (true, v) = [87, 47] ++ qt v := rfl
    rw [e0] at hs ⊢
    have e1 := seg_step (s := s) (pre := pre) (seg := [87, 47]) (post := qt v ++ post) (q := false) (fm := fm) (acc := acc) (by rw [hs]; simp) (by simp)
    have e2 := qt_step (s := s) (pre := pre ++ [87, 47]) (post := post) (t := (true, v)) (fm := fm) (acc := acc) hg (by rw [hs]; simp)
    simp only [List.length_append, List.length_cons, List.length_nil] at e1 e2 ⊢
    rw [e1, e2, Nat.add_assoc]
/-- White before and behind falls. -/
theorem trim_mid {a b x : List UInt8} (ha : ∀ c ∈ a, c = 32) (hb : ∀ c ∈ b, c = 32) {c d : UInt8} {y z : List UInt8} (hx : x = c :: y) (hz : x = z ++ [d]) (hc : memB white c.toNat = false) (hd : memB white d.toNat = false) : trimW (a ++ x ++ b) = x := by
  have hw : memB white (32 : UInt8).toNat = true := by decide
  have e0 : ∀ (b u : List UInt8), (∀ c ∈ b, c = 32) → tr (memB white) (u ++ z ++ [d] ++ b.reverse) = u ++ z ++ [d] := by
    intro b u hb
    induction b with
    | nil => rw [List.reverse_nil, List.append_nil, tr_snoc, if_neg (by rw [hd]; decide)]
    | cons k b ih =>
      have hk : k = 32 := hb k (by simp)
      rw [List.reverse_cons, ← List.append_assoc, tr_snoc, hk, if_pos hw]
      exact ih fun c hc => hb c (by simp [hc])
  have e1 : ∀ (b u : List UInt8), (∀ c ∈ b, c = 32) → tr (memB white) (u ++ z ++ [d] ++ b) = u ++ z ++ [d] := by
    intro b u hb
    have := e0 b.reverse u fun c hc => hb c (by simpa using hc)
    rwa [List.reverse_reverse] at this
  have e2 : ∀ a : List UInt8, (∀ c ∈ a, c = 32) → tl (memB white) (a ++ x) = x := by
    intro a ha
    induction a with
    | nil => rw [List.nil_append, hx, tl_cons, if_neg (by rw [hc]; decide)]
    | cons k a ih =>
      have hk : k = 32 := ha k (by simp)
      rw [List.cons_append, tl_cons, hk, if_pos hw]
      exact ih fun c hc => ha c (by simp [hc])
  have e3 := e1 b a hb
  unfold trimW trimP
  rw [show a ++ x ++ b = a ++ z ++ [d] ++ b by rw [hz]; simp, e3, show a ++ z ++ [d] = a ++ x by rw [hz]; simp]
  exact e2 a ha
theorem trim_txt {a b : List UInt8} (ha : ∀ c ∈ a, c = 32) (hb : ∀ c ∈ b, c = 32) (t : Bool × List UInt8) : trimW (a ++ txt t ++ b) = txt t := by
  obtain ⟨w, v⟩ := t
  cases w with
  | false => exact trim_mid ha hb (c := 34) (d := 34) (y := v ++ [34]) (z := 34 :: v) (by simp [txt, textF, qt]) (by simp [txt, textF, qt]) (by decide) (by decide)
  | true => exact trim_mid ha hb (c := 87) (d := 34) (y := [47] ++ qt v) (z := [87, 47, 34] ++ v) (by simp [txt, textF, qt]) (by simp [txt, textF, qt]) (by decide) (by decide)
theorem txt_ne (t : Bool × List UInt8) : txt t ≠ [] := by
  obtain ⟨w, v⟩ := t
  cases w <;> simp [txt, textF, qt]
theorem put_mid {s pre x post : List UInt8} {acc : LL} (hs : s = pre ++ x ++ post) : putF s pre.length (pre.length + x.length) acc = if trimW x = [] then acc else acc ++ [trimW x] := by
  have e : (s.drop pre.length).take (pre.length + x.length - pre.length) = x := by
    rw [hs, List.append_assoc, List.drop_left, Nat.add_sub_cancel_left, List.take_left]
  unfold putF
  rw [e]
def aA (l : TL) : List UInt8 := l.flatMap fun t => txt t ++ [32, 44, 32]
def bA (l : TL) : List UInt8 := l.flatMap fun t => [44] ++ txt t
theorem aA_cons (t : Bool × List UInt8) (l : TL) : aA (t :: l) = txt t ++ [32, 44, 32] ++ aA l := rfl
theorem bA_cons (t : Bool × List UInt8) (l : TL) : bA (t :: l) = [44] ++ txt t ++ bA l := rfl
theorem trim_white {w : List UInt8} (h : ∀ c ∈ w, c = 32) : trimW w = [] := by
  unfold trimW trimP
  have e0 : ∀ b : List UInt8, (∀ c ∈ b, c = 32) → tl (memB white) b = [] := by
    intro b hb
    induction b with
    | nil => rfl
    | cons k b ih =>
      have hk : k = 32 := hb k (by simp)
      rw [tl_cons, hk, if_pos (by decide)]
      exact ih fun c hc => hb c (by simp [hc])
  have e1 : tr (memB white) w = [] := by
    unfold tr
    rw [e0 w.reverse fun c hc => h c (by simpa using hc)]
    rfl
  rw [e1]; rfl
theorem split_aA {s : List UInt8} : ∀ {l : TL} {pre w : List UInt8} {acc : LL}, (∀ t ∈ l, goodT t) → (∀ c ∈ w, c = 32) → s = pre ++ w ++ aA l → splitF s (pre.length + w.length) pre.length false acc = acc ++ l.map txt
  | [], pre, w, acc, _, hw, hs => by
    have hs' : s = pre ++ w := by rw [hs]; simp [aA]
    rw [splitF_end (by rw [hs']; simp)]
    have := put_mid (s := s) (pre := pre) (x := w) (post := []) (acc := acc) (by rw [hs']; simp)
    rw [show s.length = pre.length + w.length by rw [hs']; simp, this, if_pos (trim_white hw)]
    simp
  | t :: l, pre, w, acc, hg, hw, hs => by
    rw [aA_cons] at hs
    have e1 := item_step (s := s) (pre := pre ++ w) (post := [32, 44, 32] ++ aA l) (t := t) (fm := pre.length) (acc := acc) (hg t (by simp)) (by rw [hs]; simp)
    have e2 := seg_step (s := s) (pre := pre ++ w ++ txt t) (seg := [32]) (post := [44, 32] ++ aA l) (q := false) (fm := pre.length) (acc := acc) (by rw [hs]; simp) (by simp)
    have e3 := comma_step (s := s) (pre := pre ++ (w ++ txt t ++ [32])) (post := [32] ++ aA l) (fm := pre.length) (acc := acc) (by rw [hs]; simp)
    have e4 := put_mid (s := s) (pre := pre) (x := w ++ txt t ++ [32]) (post := [44, 32] ++ aA l) (acc := acc) (by rw [hs]; simp)
    rw [trim_txt hw (by simp) t, if_neg (txt_ne t)] at e4
    have e5 := seg_step (s := s) (pre := pre ++ w ++ txt t ++ [32, 44]) (seg := [32]) (post := aA l) (q := false) (fm := (pre ++ w ++ txt t ++ [32, 44]).length) (acc := acc ++ [txt t]) (by rw [hs]; simp) (by simp)
    have ih := split_aA (s := s) (l := l) (pre := pre ++ w ++ txt t ++ [32, 44]) (w := [32]) (acc := acc ++ [txt t]) (fun x hx => hg x (by simp [hx])) (by simp) (by rw [hs]; simp)
    simp only [List.length_append, List.length_cons, List.length_nil, Nat.zero_add] at e1 e2 e3 e4 e5 ih
    rw [e1, e2, show pre.length + w.length + (txt t).length + 1 = pre.length + (w.length + (txt t).length + 1) by omega, e3, e4]
    rw [show pre.length + (w.length + (txt t).length + 1) + 1 = pre.length + w.length + (txt t).length + (1 + 1) by omega, e5, ih]
    simp
theorem split_bA {s : List UInt8} : ∀ {l : TL} {pre x : List UInt8} {acc : LL}, (∀ t ∈ l, goodT t) → s = pre ++ x ++ bA l → trimW x = x → splitF s (pre.length + x.length) pre.length false acc = (if x = [] then acc else acc ++ [x]) ++ l.map txt
  | [], pre, x, acc, _, hs, hx => by
    have hs' : s = pre ++ x := by rw [hs]; simp [bA]
    rw [splitF_end (by rw [hs']; simp)]
    have := put_mid (s := s) (pre := pre) (x := x) (post := []) (acc := acc) (by rw [hs']; simp)
    rw [show s.length = pre.length + x.length by rw [hs']; simp, this, hx]
    simp
  | t :: l, pre, x, acc, hg, hs, hx => by
    rw [bA_cons] at hs
    have e3 := comma_step (s := s) (pre := pre ++ x) (post := txt t ++ bA l) (fm := pre.length) (acc := acc) (by rw [hs]; simp)
    have e4 := put_mid (s := s) (pre := pre) (x := x) (post := [44] ++ txt t ++ bA l) (acc := acc) hs
    rw [hx] at e4
    have e1 := item_step (s := s) (pre := pre ++ x ++ [44]) (post := bA l) (t := t) (fm := (pre ++ x ++ [44]).length) (acc := if x = [] then acc else acc ++ [x]) (hg t (by simp)) (by rw [hs]; simp)
    have ih := split_bA (s := s) (l := l) (pre := pre ++ x ++ [44]) (x := txt t) (acc := if x = [] then acc else acc ++ [x]) (fun y hy => hg y (by simp [hy])) (by rw [hs]; simp) (by have := trim_txt (a := []) (b := []) (by simp) (by simp) t; simpa using this)
    rw [if_neg (txt_ne t)] at ih
    simp only [List.length_append, List.length_cons, List.length_nil, Nat.zero_add] at e1 e3 e4 ih
    rw [e3, e4, e1, ih]
    simp
theorem split_a {l : TL} (hg : ∀ t ∈ l, goodT t) : split (aA l) = l.map txt := by
  have := split_aA (s := aA l) (l := l) (pre := []) (w := []) (acc := []) hg (by simp) rfl
  simpa [split] using this
theorem split_b {l : TL} (hg : ∀ t ∈ l, goodT t) : split (bA l) = l.map txt := by
  have := split_bA (s := bA l) (l := l) (pre := []) (x := []) (acc := []) hg rfl (trim_white (by simp))
  simpa [split] using this
theorem split_star : split [42] = [[42]] := by

  have e1 : trimW [42] = [42] := by kernel_rfl
  have e2 := seg_step (s := [42]) (pre := []) (seg := [42]) (post := []) (q := false) (fm := 0) (acc := []) rfl (by simp)
  have e3 := put_mid (s := [42]) (pre := []) (x := [42]) (post := []) (acc := []) rfl
  rw [e1] at e3
  simp only [List.length_nil, List.length_cons, Nat.zero_add] at e2 e3
  unfold split
  rw [e2, splitF_end (by simp), show ([42] : List UInt8).length = 1 from rfl, e3]
  simp
def aF (l : TL) (c i : Nat) : List UInt8 := aA (l.take (min i c))
def bF (l : TL) (c i : Nat) : List UInt8 := bA ((l.take i).drop c)
theorem parts_ab {l : TL} {c n : Nat} (hn : l.length ≤ n) (hg : ∀ t ∈ l, goodT t) : partsF [aF l c n, bF l c n] = l.map txt := by
  have h1 : l.take (min n c) = l.take c := by rw [Nat.min_comm, ← List.take_take, List.take_of_length_le hn]
  have h2 : l.take n = l := List.take_of_length_le hn
  unfold partsF aF bF
  rw [h1, h2]
  simp only [List.flatMap_cons, List.flatMap_nil, List.append_nil]
  rw [split_a fun t ht => hg t (List.mem_of_mem_take ht), split_b fun t ht => hg t (List.mem_of_mem_drop ht), ← List.map_append, List.take_append_drop]
theorem parts_asb {l : TL} {c n : Nat} (hn : l.length ≤ n) (hg : ∀ t ∈ l, goodT t) : partsF [aF l c n, [42], bF l c n] = (l.take c).map txt ++ [[42]] ++ (l.drop c).map txt := by
  have h1 : l.take (min n c) = l.take c := by rw [Nat.min_comm, ← List.take_take, List.take_of_length_le hn]
  have h2 : l.take n = l := List.take_of_length_le hn
  unfold partsF aF bF
  rw [h1, h2]
  simp only [List.flatMap_cons, List.flatMap_nil, List.append_nil]
  rw [split_a fun t ht => hg t (List.mem_of_mem_take ht), split_b fun t ht => hg t (List.mem_of_mem_drop ht), split_star, List.append_assoc]
end Go.Proofs.YtiobbjbodpkpjaaGreatDoor
