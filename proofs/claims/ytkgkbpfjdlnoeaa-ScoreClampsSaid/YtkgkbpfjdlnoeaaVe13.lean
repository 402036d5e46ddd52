/- Open evaluation: what is to be shown for the evaluator to answer, as a proposition over code. -/
import Derived.Test.YtkgkbpfjdlnoeaaVe11
namespace Go.Ve
open Go Go.RowKit

section
variable {E : Env}

/-- More fuel, the same answer. -/
def Grows (a b : CallF) : Prop := ∀ f args H r, a f args H = some r → b f args H = some r
theorem evOps_grows {P : Program} {a b : CallF} (h : Grows a b) {ops : Array Oper} : ∀ (l : List Oper) {fr : List AV} {H : AH} {lo : Nat} {r : List AV × AH × Nat}, evOps P a ops l fr H lo = some r → evOps P b ops l fr H lo = some r := by
  intro l
  induction l with
  | nil => intro fr H lo r hr; exact hr
  | cons o l ih =>
    intro fr H lo r hr
    simp only [evOps] at hr ⊢
    split at hr
    · cases hr
    · exact ih hr
    · split at hr
      · cases hr
      · exact ih hr
      · exact ih hr
      · rename_i f args hop
        split at hr
        · cases hr
        · rename_i v hc
          rw [h _ _ _ _ hc]
          exact ih hr
        · rename_i v H1 wr hc
          rw [h _ _ _ _ hc]
          exact ih hr
      · cases hr
theorem evQuiet_grows {P : Program} {a b : CallF} (h : Grows a b) {ops : Array Oper} : ∀ (l : List Oper) {fr : List AV} {H : AH} {r : List AV}, evQuiet P a ops l fr H = some r → evQuiet P b ops l fr H = some r := by
  intro l
  induction l with
  | nil => intro fr H r hr; exact hr
  | cons o l ih =>
    intro fr H r hr
    simp only [evQuiet] at hr ⊢
    split at hr
    · cases hr
    · exact ih hr
    · split at hr
      · split at hr
        · rename_i hd
          rw [if_pos hd]
          exact ih hr
        · cases hr
      · rename_i f args hop
        split at hr
        · rename_i v hc
          rw [h _ _ _ _ hc]
          split at hr
          · rename_i hd
            simp only [hd, if_true]
            exact ih hr
          · cases hr
        · cases hr
      · cases hr
theorem evQuiet_evOps {P : Program} {a : CallF} {ops : Array Oper} : ∀ (l : List Oper) {fr fr' : List AV} {H : AH} {lo : Nat}, evQuiet P a ops l fr H = some fr' → evOps P a ops l fr H lo = some (fr', H, lo) := by
  intro l
  induction l with
  | nil => intro fr fr' H lo h; simp only [evQuiet] at h; cases h; rfl
  | cons o l ih =>
    intro fr fr' H lo h
    simp only [evQuiet] at h
    simp only [evOps]
    split at h
    · cases h
    · exact ih h
    · split at h
      · rename_i v hop
        simp only [hop]
        split at h
        · exact ih h
        · cases h
      · rename_i f args hop
        simp only [hop]
        split at h
        · rename_i v hc
          simp only [hc]
          split at h
          · exact ih h
          · cases h
        · cases h
      · cases h
theorem evQuiet_append {P : Program} {a : CallF} {ops : Array Oper} : ∀ (l l2 : List Oper) {fr fr' : List AV} {H : AH}, evQuiet P a ops (l ++ l2) fr H = some fr' → ∃ fr1, evQuiet P a ops l fr H = some fr1 ∧ evQuiet P a ops l2 fr1 H = some fr' := by
  intro l
  induction l with
  | nil => intro l2 fr fr' H h; exact ⟨fr, rfl, h⟩
  | cons o l ih =>
    intro l2 fr fr' H h
    simp only [List.cons_append, evQuiet] at h
    simp only [evQuiet]
    split at h
    · cases h
    · exact ih l2 h
    · split at h
      · split at h
        · rename_i hd
          simp only [hd, if_true]
          exact ih l2 h
        · cases h
      · split at h
        · split at h
          · rename_i hd
            simp only [hd, if_true]
            exact ih l2 h
          · cases h
        · cases h
      · cases h
theorem genStep_grows {P : Program} {a b : CallF} (h : Grows a b) {ops : Array Oper} {hd : List Oper} {bs als : List Nat} {N0 i : Nat} {o : Oper} {fr : List AV} {H : AH} {r : Rec} (hr : genStep P a ops hd bs als N0 i o fr H = some r) : genStep P b ops hd bs als N0 i o fr H = some r := by
  unfold genStep at hr ⊢
  split at hr
  · cases hr
  · exact hr
  · unfold genOp at hr ⊢
    split at hr
    · exact hr
    · exact hr
    · split at hr
      · exact hr
      · exact hr
      · rename_i f args hop
        split at hr
        · rename_i v hc
          rw [h _ _ _ _ hc]
          exact hr
        · rename_i v H' lo hc
          rw [h _ _ _ _ hc]
          exact hr
        · cases hr
      · cases hr
theorem genLex_grows {P : Program} {a b : CallF} (h : Grows a b) {ops : Array Oper} {hd : List Oper} {bs als : List Nat} {N0 : Nat} : ∀ (l : List Oper) {i : Nat} {fr : List AV} {H : AH} {acc recs : List Rec}, genLex P a ops hd bs als N0 i l fr H acc = some recs → genLex P b ops hd bs als N0 i l fr H acc = some recs := by
  intro l
  induction l with
  | nil => intro i fr H acc recs hr; exact hr
  | cons o l ih =>
    intro i fr H acc recs hr
    simp only [genLex] at hr ⊢
    split at hr
    · cases hr
    · rename_i rc hs
      rw [genStep_grows h hs]
      exact ih hr
theorem evGen_grows {P : Program} {a b : CallF} (h : Grows a b) {ops : Array Oper} {n : Nat} {fr : List AV} {H : AH} {lo : Nat} {r : List AV × AH × Nat} (hr : evGen P a ops n fr H lo = some r) : evGen P b ops n fr H lo = some r := by
  unfold evGen at hr ⊢
  split at hr
  · rename_i hg
    rw [if_pos hg]
    split at hr
    · cases hr
    · rename_i recs hl
      rw [genLex_grows h _ hl]
      simp only
      split at hr
      · rename_i hk
        rw [if_pos hk]
        exact evOps_grows h _ hr
      · cases hr
  · cases hr
theorem evDraw_of_tail {P : Program} {b : CallF} {ops : Array Oper} {fr fr1 : List AV} {H : AH} {lo : Nat} {r : List AV × AH × Nat} {k : Nat} (hk : tailQ ops = some k) (h1 : evQuiet P b ops (ops.toList.take k) fr H = some fr1) (h2 : evOps P b ops (ops.toList.drop k) fr1 H lo = some r) : evDraw0 P b ops fr H lo = some r := by
  unfold evDraw0
  split
  · rename_i fr' hq'
    split at hq'
    · rw [← List.take_append_drop k ops.toList] at hq'
      obtain ⟨fr2, h3, h4⟩ := evQuiet_append _ _ hq'
      rw [h1] at h3
      cases h3
      rw [evQuiet_evOps _ h4] at h2
      exact h2
    · cases hq'
  · simp only [hk, h1]
    exact h2
theorem evDraw0_grows {P : Program} {a b : CallF} (h : Grows a b) {ops : Array Oper} {fr : List AV} {H : AH} {lo : Nat} {r : List AV × AH × Nat} (hr : evDraw0 P a ops fr H lo = some r) : evDraw0 P b ops fr H lo = some r := by
  unfold evDraw0 at hr
  split at hr
  · rename_i fr' hq
    split at hq
    · rename_i hl
      unfold evDraw0
      rw [if_pos hl, evQuiet_grows h _ hq]
      exact hr
    · cases hq
  · split at hr
    · rename_i hk
      split at hr
      · cases hr
      · rename_i hs
        unfold evDraw0
        rw [if_neg hs]
        simp only [hk]
        rw [if_neg hs]
        exact evGen_grows h hr
    · rename_i k hk
      split at hr
      · cases hr
      · rename_i fr1 hq
        exact evDraw_of_tail hk (evQuiet_grows h _ hq) (evOps_grows h _ hr)
theorem evDraw_grows {P : Program} {a b : CallF} (h : Grows a b) {ops : Array Oper} {fr : List AV} {H : AH} {lo : Nat} {r : List AV × AH × Nat} (hr : evDraw P a ops fr H lo = some r) : evDraw P b ops fr H lo = some r := by
  unfold evDraw at hr ⊢
  split at hr
  · rename_i hn
    rw [if_pos hn]; exact evGen_grows h hr
  · rename_i hn
    rw [if_neg hn]; exact evDraw0_grows h hr
theorem evCall_grows {rec rec' : Code → List AV → AH → Nat → Option (AEx × List AV × AH × Nat)} (h : ∀ c fr H lo r, rec c fr H lo = some r → rec' c fr H lo = some r) : Grows (evCall E rec) (evCall E rec') := by
  intro f args H r hr
  unfold evCall at hr ⊢
  split at hr
  · rename_i r0 ho
    exact hr
  · split at hr
    · cases hr
    · rename_i fn hf
      split at hr
      · cases hr
      · rename_i c hb
        split at hr
        · cases hr
        · rename_i ex fr H' lo hne hrec
          rw [h _ _ _ _ _ hrec]
          split at hr
          · rename_i vs hvs
            cases ex with
            | exit id => first | exact (hne _ rfl).elim | exact (hne _ _ rfl).elim
            | normal => simp only [hvs]; exact hr
            | ret => simp only [hvs]; exact hr
          · cases hr
        · cases hr
theorem ev_succ : ∀ n c fr H lo r, ev E n c fr H lo = some r → ev E (n + 1) c fr H lo = some r := by
  intro n
  induction n with
  | zero => intro c fr H lo r h; simp [ev] at h
  | succ n ih =>
    intro c fr H lo r h
    have hg := evCall_grows (E := E) ih
    cases c with
    | skip => exact h
    | label l => exact h
    | exit id => exact h
    | ret => exact h
    | rangeFunc f ps as b => simp [ev] at h
    | goto l => simp [ev] at h
    | refuse why => simp [ev] at h
    | region id ops draw =>
      cases draw with
      | false =>
        rw [ev] at h ⊢
        split at h
        · rename_i fr1 H1 lo1 he
          rw [evOps_grows hg _ he]
          exact h
        · cases h
      | true =>
        rw [ev] at h ⊢
        split at h
        · rename_i fr1 H1 lo1 he
          rw [evDraw_grows hg he]
          exact h
        · cases h
    | seq a b =>
      rw [ev] at h ⊢
      split at h
      · rename_i fr1 H1 lo1 he
        rw [ih _ _ _ _ _ he]
        exact ih _ _ _ _ _ h
      · rename_i hne
        rw [ih _ _ _ _ _ h]
        obtain ⟨ex, fr1, H1, lo1⟩ := r
        cases ex with
        | normal => exact absurd h (hne _ _ _)
        | exit id => rfl
        | ret => rfl
    | cond c x y =>
      rw [ev] at h ⊢
      split at h
      · exact ih _ _ _ _ _ h
      · exact ih _ _ _ _ _ h
      · cases h
    | block id b =>
      rw [ev] at h ⊢
      split at h
      · rename_i i fr1 H1 lo1 he
        rw [ih _ _ _ _ _ he]
        exact h
      · rename_i hne
        rw [ih _ _ _ _ _ h]
        obtain ⟨ex, fr1, H1, lo1⟩ := r
        cases ex with
        | normal => rfl
        | exit id => exact absurd h (hne _ _ _ _)
        | ret => rfl
    | loop b =>
      rw [ev] at h ⊢
      split at h
      · rename_i fr1 H1 lo1 he
        rw [ih _ _ _ _ _ he]
        exact ih _ _ _ _ _ h
      · rename_i hne
        rw [ih _ _ _ _ _ h]
        obtain ⟨ex, fr1, H1, lo1⟩ := r
        cases ex with
        | normal => exact absurd h (hne _ _ _)
        | exit id => rfl
        | ret => rfl
    | scope b =>
      rw [ev] at h ⊢
      exact ih _ _ _ _ _ h
theorem ev_le {n m : Nat} (hnm : n ≤ m) {c : Code} {fr : List AV} {H : AH} {lo : Nat} {r : AEx × List AV × AH × Nat} (h : ev E n c fr H lo = some r) : ev E m c fr H lo = some r := by
  induction hnm with
  | refl => exact h
  | step _ ih => exact ev_succ _ _ _ _ _ _ ih

abbrev Post := AEx → List AV → AH → Nat → Prop
/-- The evaluator answers, and the answer is as asked. -/
def WP (E : Env) (c : Code) (fr : List AV) (H : AH) (lo : Nat) (Q : Post) : Prop :=
  ∃ n ex fr' H' lo', ev E n c fr H lo = some (ex, fr', H', lo') ∧ Q ex fr' H' lo'
/-- A call answers. -/
def CW (E : Env) (f : FuncId) (args : List AV) (H : AH) (K : AV → Option (AH × Nat) → Prop) : Prop :=
  ∃ n v ch, evCall E (ev E n) f args H = some (v, ch) ∧ K v ch
theorem CW.le {f : FuncId} {args : List AV} {H : AH} {n m : Nat} (hnm : n ≤ m) {r : AV × Option (AH × Nat)} (h : evCall E (ev E n) f args H = some r) : evCall E (ev E m) f args H = some r :=
  evCall_grows (fun _ _ _ _ _ => ev_le hnm) _ _ _ _ h

theorem WP.mono {c : Code} {fr : List AV} {H : AH} {lo : Nat} {Q Q' : Post} (h : WP E c fr H lo Q) (hq : ∀ ex fr H lo, Q ex fr H lo → Q' ex fr H lo) : WP E c fr H lo Q' := by
  obtain ⟨n, ex, fr', H', lo', h1, h2⟩ := h
  exact ⟨n, ex, fr', H', lo', h1, hq _ _ _ _ h2⟩
def thenQ (K : List AV → AH → Nat → Prop) (Q : Post) : Post
  | .normal, fr, H, lo => K fr H lo
  | e, fr, H, lo => Q e fr H lo
theorem WP.seq {a b : Code} {fr : List AV} {H : AH} {lo : Nat} {Q : Post} (h : WP E a fr H lo (thenQ (fun fr H lo => WP E b fr H lo Q) Q)) : WP E (.seq a b) fr H lo Q := by
  obtain ⟨n, ex, fr1, H1, lo1, h1, h2⟩ := h
  cases ex with
  | normal =>
    obtain ⟨m, ex2, fr2, H2, lo2, h3, h4⟩ := h2
    refine ⟨max n m + 1, ex2, fr2, H2, lo2, ?_, h4⟩
    rw [ev, ev_le (Nat.le_max_left n m) h1]
    exact ev_le (Nat.le_max_right n m) h3
  | exit id => exact ⟨n + 1, .exit id, fr1, H1, lo1, by rw [ev, h1], h2⟩
  | ret => exact ⟨n + 1, .ret, fr1, H1, lo1, by rw [ev, h1], h2⟩
theorem WP.loop {b : Code} {fr : List AV} {H : AH} {lo : Nat} {Q : Post} (h : WP E b fr H lo (thenQ (fun fr H lo => WP E (.loop b) fr H lo Q) Q)) : WP E (.loop b) fr H lo Q := by
  obtain ⟨n, ex, fr1, H1, lo1, h1, h2⟩ := h
  cases ex with
  | normal =>
    obtain ⟨m, ex2, fr2, H2, lo2, h3, h4⟩ := h2
    refine ⟨max n m + 1, ex2, fr2, H2, lo2, ?_, h4⟩
    rw [ev, ev_le (Nat.le_max_left n m) h1]
    exact ev_le (Nat.le_max_right n m) h3
  | exit id => exact ⟨n + 1, .exit id, fr1, H1, lo1, by rw [ev, h1], h2⟩
  | ret => exact ⟨n + 1, .ret, fr1, H1, lo1, by rw [ev, h1], h2⟩
theorem thenQ.norm {K : List AV → AH → Nat → Prop} {Q : Post} {fr : List AV} {H : AH} {lo : Nat} (h : K fr H lo) : thenQ K Q .normal fr H lo := h
theorem thenQ.ret {K : List AV → AH → Nat → Prop} {Q : Post} {fr : List AV} {H : AH} {lo : Nat} (h : Q .ret fr H lo) : thenQ K Q .ret fr H lo := h
theorem thenQ.exit {K : List AV → AH → Nat → Prop} {Q : Post} {fr : List AV} {H : AH} {lo i : Nat} (h : Q (.exit i) fr H lo) : thenQ K Q (.exit i) fr H lo := h
def blockQ (id : Nat) (Q : Post) : Post
  | .exit i, fr, H, lo => if i = id then Q .normal fr H lo else Q (.exit i) fr H lo
  | e, fr, H, lo => Q e fr H lo
theorem blockQ.norm {id : Nat} {Q : Post} {fr : List AV} {H : AH} {lo : Nat} (h : Q .normal fr H lo) : blockQ id Q .normal fr H lo := h
theorem blockQ.ret {id : Nat} {Q : Post} {fr : List AV} {H : AH} {lo : Nat} (h : Q .ret fr H lo) : blockQ id Q .ret fr H lo := h
theorem blockQ.here {id : Nat} {Q : Post} {fr : List AV} {H : AH} {lo : Nat} (h : Q .normal fr H lo) : blockQ id Q (.exit id) fr H lo := by
  simp only [blockQ, if_true]; exact h
theorem blockQ.on {id i : Nat} {Q : Post} {fr : List AV} {H : AH} {lo : Nat} (hi : (i == id) = false) (h : Q (.exit i) fr H lo) : blockQ id Q (.exit i) fr H lo := by
  have : ¬ i = id := by simpa using hi
  simp only [blockQ, if_neg this]; exact h
theorem WP.block {id : Nat} {b : Code} {fr : List AV} {H : AH} {lo : Nat} {Q : Post} (h : WP E b fr H lo (blockQ id Q)) : WP E (.block id b) fr H lo Q := by
  obtain ⟨n, ex, fr1, H1, lo1, h1, h2⟩ := h
  cases ex with
  | normal => exact ⟨n + 1, .normal, fr1, H1, lo1, by rw [ev, h1], h2⟩
  | exit i =>
    simp only [blockQ] at h2
    by_cases hi : i = id
    · rw [if_pos hi] at h2
      exact ⟨n + 1, .normal, fr1, H1, lo1, by rw [ev, h1]; simp [hi], h2⟩
    · rw [if_neg hi] at h2
      exact ⟨n + 1, .exit i, fr1, H1, lo1, by rw [ev, h1]; simp [hi], h2⟩
  | ret => exact ⟨n + 1, .ret, fr1, H1, lo1, by rw [ev, h1], h2⟩
theorem WP.scope {b : Code} {fr : List AV} {H : AH} {lo : Nat} {Q : Post} (h : WP E b fr H lo Q) : WP E (.scope b) fr H lo Q := by
  obtain ⟨n, ex, fr1, H1, lo1, h1, h2⟩ := h
  exact ⟨n + 1, ex, fr1, H1, lo1, by rw [ev, h1], h2⟩
theorem WP.here {c : Code} {fr : List AV} {H : AH} {lo : Nat} {Q : Post} {ex : AEx} (hc : ∀ n, ev E (n + 1) c fr H lo = some (ex, fr, H, lo)) (h : Q ex fr H lo) : WP E c fr H lo Q := ⟨1, ex, fr, H, lo, hc 0, h⟩

/-- The operations of a region, as a proposition: calls by 'CW'. 'q': the region draws its order: then nothing is changed, and each value is told whole. -/
def opsW (E : Env) (q : Bool) (ops : Array Oper) : List Oper → List AV → AH → Nat → (List AV → AH → Nat → Prop) → Prop
  | [], fr, H, lo, K => K fr H lo
  | o :: r, fr, H, lo, K =>
    match awanted ops o fr with
    | none => False
    | some w =>
      (w = false → opsW E q ops r (aput fr o.dst (.tuple [])) H lo K) ∧
      (w = true →
        ∃ ao, aop E.P o (aeval fr) H = some ao ∧
          match ao with
          | .val v none => (q = true → v.det = true) ∧ opsW E q ops r (aput fr o.dst v) H lo K
          | .val v (some (H', wr)) => q = false ∧ opsW E q ops r (aput fr o.dst v) H' (min lo wr) K
          | .call f args => CW E f args H fun v ch =>
              match ch with
              | none => (q = true → v.det = true) ∧ opsW E q ops r (aput fr o.dst v) H lo K
              | some (H', wr) => q = false ∧ opsW E q ops r (aput fr o.dst v) H' (min lo wr) K
          | .round .. => False)
theorem opsW_ok {ops : Array Oper} : ∀ (l : List Oper) {fr : List AV} {H : AH} {lo : Nat} {K : List AV → AH → Nat → Prop}, opsW E false ops l fr H lo K → ∃ n fr' H' lo', evOps E.P (evCall E (ev E n)) ops l fr H lo = some (fr', H', lo') ∧ K fr' H' lo' := by
  intro l
  induction l with
  | nil => intro fr H lo K h; exact ⟨0, fr, H, lo, rfl, h⟩
  | cons o l ih =>
    intro fr H lo K h
    simp only [opsW] at h
    simp only [evOps]
    split at h
    · exact h.elim
    · rename_i w hw
      rw [hw]
      cases w with
      | false => exact ih (h.1 rfl)
      | true =>
        obtain ⟨ao, h1, h2⟩ := h.2 rfl
        simp only [h1]
        cases ao with
        | val v ch =>
          cases ch with
          | none => exact ih h2.2
          | some c => obtain ⟨H', wr⟩ := c; exact ih h2.2
        | call f args =>
          obtain ⟨n, v, ch, h3, h4⟩ := h2
          cases ch with
          | none =>
            obtain ⟨m, fr', H', lo', h5, h6⟩ := ih h4.2
            refine ⟨max n m, fr', H', lo', ?_, h6⟩
            simp only [CW.le (Nat.le_max_left n m) h3]
            exact evOps_grows (evCall_grows fun _ _ _ _ _ => ev_le (Nat.le_max_right n m)) _ h5
          | some c =>
            obtain ⟨H1, wr⟩ := c
            obtain ⟨m, fr', H', lo', h5, h6⟩ := ih h4.2
            refine ⟨max n m, fr', H', lo', ?_, h6⟩
            simp only [CW.le (Nat.le_max_left n m) h3]
            exact evOps_grows (evCall_grows fun _ _ _ _ _ => ev_le (Nat.le_max_right n m)) _ h5
        | round b f as bd => exact h2.elim
theorem opsQ_ok {ops : Array Oper} : ∀ (l : List Oper) {fr : List AV} {H : AH} {lo : Nat} {K : List AV → AH → Nat → Prop}, opsW E true ops l fr H lo K → ∃ n fr', evQuiet E.P (evCall E (ev E n)) ops l fr H = some fr' ∧ K fr' H lo := by
  intro l
  induction l with
  | nil => intro fr H lo K h; exact ⟨0, fr, rfl, h⟩
  | cons o l ih =>
    intro fr H lo K h
    simp only [opsW] at h
    simp only [evQuiet]
    split at h
    · exact h.elim
    · rename_i w hw
      rw [hw]
      cases w with
      | false => exact ih (h.1 rfl)
      | true =>
        obtain ⟨ao, h1, h2⟩ := h.2 rfl
        simp only [h1]
        cases ao with
        | val v ch =>
          cases ch with
          | none =>
            obtain ⟨n, fr', h3, h4⟩ := ih h2.2
            exact ⟨n, fr', by simp only [h2.1 trivial, if_true]; exact h3, h4⟩
          | some c => obtain ⟨H', wr⟩ := c; exact absurd h2.1 (by simp)
        | call f args =>
          obtain ⟨n, v, ch, h3, h4⟩ := h2
          cases ch with
          | none =>
            obtain ⟨m, fr', h5, h6⟩ := ih h4.2
            refine ⟨max n m, fr', ?_, h6⟩
            simp only [CW.le (Nat.le_max_left n m) h3, h4.1 trivial, if_true]
            exact evQuiet_grows (evCall_grows fun _ _ _ _ _ => ev_le (Nat.le_max_right n m)) _ h5
          | some c => obtain ⟨H', wr⟩ := c; exact absurd h4.1 (by simp)
        | round b f as bd => exact h2.elim
theorem WP.regionQ {id : Nat} {ops : Array Oper} {fr : List AV} {H : AH} {lo : Nat} {Q : Post} (hl : (stillB ops && !newB E.P ops) = true) (h : opsW E true ops ops.toList fr H lo (Q .normal)) : WP E (.region id ops true) fr H lo Q := by
  obtain ⟨n, fr', h1, h2⟩ := opsQ_ok _ h
  rw [Bool.and_eq_true] at hl
  have hn : newB E.P ops = false := by simpa using hl.2
  exact ⟨n + 1, .normal, fr', H, lo, by simp only [ev, evDraw, evDraw0, hn, Bool.false_eq_true, if_false, if_pos hl.1, h1], h2⟩
theorem WP.regionT {id : Nat} {ops : Array Oper} {fr : List AV} {H : AH} {lo : Nat} {Q : Post} (k : Nat) (hk : (if newB E.P ops = true then none else tailQ ops) = some k) (h : opsW E true ops (ops.toList.take k) fr H lo (fun fr1 H1 lo1 => H1 = H ∧ lo1 = lo ∧ opsW E false ops (ops.toList.drop k) fr1 H lo (Q .normal))) : WP E (.region id ops true) fr H lo Q := by
  obtain ⟨n, fr1, h1, _, _, h2⟩ := opsQ_ok _ h
  obtain ⟨m, fr', H', lo', h3, h4⟩ := opsW_ok _ h2
  refine ⟨max n m + 1, .normal, fr', H', lo', ?_, h4⟩
  have h5 := evQuiet_grows (evCall_grows (E := E) fun _ _ _ _ _ => ev_le (Nat.le_max_left n m)) _ h1
  have h6 := evOps_grows (evCall_grows (E := E) fun _ _ _ _ _ => ev_le (Nat.le_max_right n m)) _ h3
  have hn : newB E.P ops = false := by
    cases hb : newB E.P ops with
    | true => rw [hb] at hk; cases hk
    | false => rfl
  rw [hn] at hk
  simp only [ev, evDraw, hn, Bool.false_eq_true, if_false, evDraw_of_tail hk h5 h6]
theorem WP.regionG {id : Nat} {ops : Array Oper} {fr : List AV} {H : AH} {lo : Nat} {Q : Post} {m : Nat} {fr' : List AV} {H' : AH} {lo' : Nat} (hl : (stillB ops || newB E.P ops) = false) (hk : tailQ ops = none)
    (h : evGen E.P (evCall E (ev E m)) ops (genAt ops) fr H lo = some (fr', H', lo')) (hq : Q .normal fr' H' lo') : WP E (.region id ops true) fr H lo Q :=
  have hl' := (Bool.or_eq_false_iff).1 hl
  ⟨m + 1, .normal, fr', H', lo', by simp only [ev, evDraw, evDraw0, hl'.1, hl'.2, Bool.false_eq_true, if_false, hk, h], hq⟩
theorem WP.region {id : Nat} {ops : Array Oper} {fr : List AV} {H : AH} {lo : Nat} {Q : Post} (h : opsW E false ops ops.toList fr H lo (Q .normal)) : WP E (.region id ops false) fr H lo Q := by
  obtain ⟨n, fr', H', lo', h1, h2⟩ := opsW_ok _ h
  exact ⟨n + 1, .normal, fr', H', lo', by rw [ev, h1], h2⟩
/-- At a body's end: the results, and whether anything was changed. -/
def RetQ (E : Env) (fn : Func) (n : Nat) (K : AV → Option (AH × Nat) → Prop) : Post := fun ex fr H' lo =>
  (∀ id, ex ≠ .exit id) ∧ ∃ vs, aresults E.P fr H' fn.results.toList = some vs ∧
    ((lo = n ∧ (oneOf vs).flat = true → K (oneOf vs) none) ∧ (¬ (lo = n ∧ (oneOf vs).flat = true) → K (oneOf vs) (some (H', lo))))
theorem CW.body {f : FuncId} {fn : Func} {c : Code} {args : List AV} {H : AH} {K : AV → Option (AH × Nat) → Prop} (ho : E.orc f args H = none) (hf : E.P.funcs[f]? = some fn) (hb : fn.body = some c) {m : Nat} (hm : fn.ntmps = m)
    {fr0 : List AV} (h : WP E c fr0 H H.length (RetQ E fn H.length K))
    (hfr : args ++ List.replicate (m - args.length) (.tuple []) = fr0 := by simp only [List.length_cons, List.length_nil, Nat.reduceAdd, Nat.reduceSub, List.replicate, List.cons_append, List.nil_append, List.append_nil]; rfl) : CW E f args H K := by
  subst hfr; subst hm
  obtain ⟨n, ex, fr, H', lo, h1, hne, vs, h2, h3⟩ := h
  have key : evCall E (ev E n) f args H = if lo = H.length ∧ (oneOf vs).flat = true then some (oneOf vs, none) else some (oneOf vs, some (H', lo)) := by
    unfold evCall
    simp only [ho, hf, hb, h1]
    cases ex with
    | normal => simp only [h2]
    | ret => simp only [h2]
    | exit id => exact absurd rfl (hne id)
  by_cases hc : lo = H.length ∧ (oneOf vs).flat = true
  · rw [if_pos hc] at key
    exact ⟨n, _, _, key, h3.1 hc⟩
  · rw [if_neg hc] at key
    exact ⟨n, _, _, key, h3.2 hc⟩
theorem CW.orc {f : FuncId} {args : List AV} {H : AH} {K : AV → Option (AH × Nat) → Prop} {v : AV} {ch : Option (AH × Nat)} (ho : E.orc f args H = some (v, ch)) (h : K v ch) : CW E f args H K :=
  ⟨0, v, ch, by simp only [evCall, ho], h⟩

section steps
variable {q : Bool} {ops : Array Oper} {o : Oper} {r : List Oper} {fr : List AV} {H : AH} {lo : Nat} {K : List AV → AH → Nat → Prop}
theorem opsW.done (h : K fr H lo) : opsW E q ops [] fr H lo K := h
theorem opsW.skip (hw : awanted ops o fr = some false) {fr' : List AV} (h : opsW E q ops r fr' H lo K) (hfr : aput fr o.dst (.tuple []) = fr' := by simp only [aput, List.set_cons_succ, List.set_cons_zero]; rfl) : opsW E q ops (o :: r) fr H lo K := by
  subst hfr
  rw [opsW, hw]
  exact ⟨fun _ => h, nofun⟩
theorem opsW.val (hw : awanted ops o fr = some true) {v : AV} (ha : aop E.P o (aeval fr) H = some (.val v none)) {fr' : List AV} (h : opsW E q ops r fr' H lo K) (hfr : aput fr o.dst v = fr' := by simp only [aput, List.set_cons_succ, List.set_cons_zero]; rfl) (hq : q = true → v.det = true := by first | exact fun h => Bool.noConfusion h | exact fun _ => rfl) : opsW E q ops (o :: r) fr H lo K := by
  subst hfr
  rw [opsW, hw]
  exact ⟨nofun, fun _ => ⟨_, ha, hq, h⟩⟩
theorem opsW.chg (hw : awanted ops o fr = some true) {v : AV} {H' : AH} {wr : Nat} (ha : aop E.P o (aeval fr) H = some (.val v (some (H', wr)))) {fr' : List AV} (h : opsW E q ops r fr' H' (min lo wr) K) (hfr : aput fr o.dst v = fr' := by simp only [aput, List.set_cons_succ, List.set_cons_zero]; rfl) (hq : q = false := by rfl) : opsW E q ops (o :: r) fr H lo K := by
  subst hfr
  rw [opsW, hw]
  exact ⟨nofun, fun _ => ⟨_, ha, hq, h⟩⟩
theorem opsW.call (hw : awanted ops o fr = some true) {f : FuncId} {args : List AV} (ha : aop E.P o (aeval fr) H = some (.call f args))
    (h : CW E f args H fun v ch => match ch with | none => (q = true → v.det = true) ∧ opsW E q ops r (aput fr o.dst v) H lo K | some (H', wr) => q = false ∧ opsW E q ops r (aput fr o.dst v) H' (min lo wr) K) : opsW E q ops (o :: r) fr H lo K := by
  rw [opsW, hw]
  exact ⟨nofun, fun _ => ⟨_, ha, h⟩⟩
theorem WP.cond_true {c : Operand} {x y : Code} {Q : Post} (hc : aeval fr c = .bool true) (h : WP E x fr H lo Q) : WP E (.cond c x y) fr H lo Q := by
  obtain ⟨n, ex, fr1, H1, lo1, h1, h2⟩ := h
  exact ⟨n + 1, ex, fr1, H1, lo1, by rw [ev, hc]; exact h1, h2⟩
theorem WP.cond_false {c : Operand} {x y : Code} {Q : Post} (hc : aeval fr c = .bool false) (h : WP E y fr H lo Q) : WP E (.cond c x y) fr H lo Q := by
  obtain ⟨n, ex, fr1, H1, lo1, h1, h2⟩ := h
  exact ⟨n + 1, ex, fr1, H1, lo1, by rw [ev, hc]; exact h1, h2⟩
theorem WP.cond {c : Operand} {x y : Code} {Q : Post} {t : Bool} (hc : aeval fr c = .bool t) (h1 : t = true → WP E x fr H lo Q) (h2 : t = false → WP E y fr H lo Q) : WP E (.cond c x y) fr H lo Q := by
  cases t with
  | true => exact WP.cond_true hc (h1 rfl)
  | false => exact WP.cond_false hc (h2 rfl)
theorem WP.skip {Q : Post} (h : Q .normal fr H lo) : WP E .skip fr H lo Q := WP.here (fun _ => rfl) h
theorem WP.label {l : Nat} {Q : Post} (h : Q .normal fr H lo) : WP E (.label l) fr H lo Q := WP.here (fun _ => rfl) h
theorem WP.exit {id : Nat} {Q : Post} (h : Q (.exit id) fr H lo) : WP E (.exit id) fr H lo Q := WP.here (fun _ => rfl) h
theorem WP.ret {Q : Post} (h : Q .ret fr H lo) : WP E .ret fr H lo Q := WP.here (fun _ => rfl) h
end steps

/-- A loop, by what holds at each round's head and a measure that each round lowers. -/
theorem WP.loopI {b : Code} {fr : List AV} {H : AH} {lo : Nat} {Q : Post} (I : List AV → AH → Nat → Prop) (μ : List AV → AH → Nat → Nat) (h0 : I fr H lo)
    (round : ∀ fr H lo, I fr H lo → WP E b fr H lo (thenQ (fun fr' H' lo' => I fr' H' lo' ∧ μ fr' H' lo' < μ fr H lo) Q)) : WP E (.loop b) fr H lo Q := by
  have key : ∀ n fr H lo, μ fr H lo = n → I fr H lo → WP E (.loop b) fr H lo Q := by
    intro n
    induction n using Nat.strongRecOn with
    | _ n ih =>
      intro fr H lo hn hI
      refine WP.loop ((round fr H lo hI).mono fun ex fr' H' lo' hq => ?_)
      cases ex with
      | normal => exact ih _ (hn ▸ hq.2) fr' H' lo' rfl hq.1
      | exit id => exact hq
      | ret => exact hq
  exact key _ fr H lo rfl h0
/-- A loop whose rounds are counted. -/
theorem WP.loopN {b : Code} {fr : List AV} {H : AH} {lo : Nat} {Q : Post} (n : Nat) (I : Nat → List AV → AH → Nat → Prop) (h0 : I n fr H lo)
    (round : ∀ k fr H lo, k ≤ n → I k fr H lo → WP E b fr H lo (thenQ (fun fr' H' lo' => ∃ j, j < k ∧ I j fr' H' lo') Q)) : WP E (.loop b) fr H lo Q := by
  have key : ∀ k, k ≤ n → ∀ fr H lo, I k fr H lo → WP E (.loop b) fr H lo Q := by
    intro k
    induction k using Nat.strongRecOn with
    | _ k ih =>
      intro hk fr H lo hI
      refine WP.loop ((round k fr H lo hk hI).mono fun ex fr' H' lo' hq => ?_)
      cases ex with
      | normal => obtain ⟨j, hj, hI'⟩ := hq; exact ih j hj (by omega) fr' H' lo' hI'
      | exit id => exact hq
      | ret => exact hq
  exact key n (Nat.le_refl n) fr H lo h0
end
end Go.Ve
