/- The evaluator, fast: frames are trees, what is reckoned is reckoned at once. What it answers the other one answers. -/
import Derived.Test.YtkgkbpfjdlnoeaaDoorVe13
import Derived.IntWalk
namespace Go.Ve
open Go Go.RowKit

/-! ### Lists, by their recursor alone -/
section
variable {α β : Type}
def natK (n : Nat) (k : Nat → β) : β :=
  match n with
  | 0 => k 0
  | m + 1 => k (Nat.succ m)
theorem natK_eq (n : Nat) (k : Nat → β) : natK n k = k n := by cases n <;> rfl
def intK (n : Int) (k : Int → β) : β :=
  match n with
  | .ofNat m => natK m fun m => k (.ofNat m)
  | .negSucc m => natK m fun m => k (.negSucc m)
theorem intK_eq (n : Int) (k : Int → β) : intK n k = k n := by cases n <;> simp [intK, natK_eq]
def boolK (b : Bool) (k : Bool → β) : β :=
  match b with
  | true => k true
  | false => k false
theorem boolK_eq (b : Bool) (k : Bool → β) : boolK b k = k b := by cases b <;> rfl
noncomputable def listK (e : α → (α → β) → β) (l : List α) (k : List α → β) : β :=
  List.rec (motive := fun _ => (List α → β) → β) (fun k => k []) (fun a _ ih k => e a fun a' => ih fun t' => k (a' :: t')) l k
theorem listK_eq {e : α → (α → β) → β} (he : ∀ a k, e a k = k a) (l : List α) : ∀ (k : List α → β), listK e l k = k l := by
  induction l with
  | nil => intro k; rfl
  | cons a t ih =>
    intro k
    show e a (fun a' => listK e t fun t' => k (a' :: t')) = _
    rw [he, ih]
def idK (a : α) (k : α → β) : β := k a
noncomputable def getR (l : List α) (n : Nat) : Option α :=
  List.rec (motive := fun _ => Nat → Option α) (fun _ => none) (fun a _ ih n => Nat.rec (motive := fun _ => Option α) (some a) (fun m _ => ih m) n) l n
theorem getR_eq (l : List α) : ∀ n, getR l n = l[n]? := by
  induction l with
  | nil => intro n; rfl
  | cons a t ih =>
    intro n
    cases n with
    | zero => rfl
    | succ m => show getR t m = _; rw [ih]; rfl
/-- One cell set; 'd' where there is none. -/
noncomputable def setR (l : List α) (n : Nat) (x : α) (k : List α → β) (d : β) : β :=
  List.rec (motive := fun _ => Nat → (List α → β) → β) (fun _ _ => d) (fun a t ih n k => Nat.rec (motive := fun _ => β) (k (x :: t)) (fun m _ => ih m fun t' => k (a :: t')) n) l n k
theorem setR_eq (l : List α) : ∀ (n : Nat) (x : α) (k : List α → β) (d : β), setR l n x k d = if n < l.length then k (l.set n x) else d := by
  induction l with
  | nil => intro n x k d; rfl
  | cons a t ih =>
    intro n x k d
    cases n with
    | zero => rfl
    | succ m =>
      show setR t m x (fun t' => k (a :: t')) d = _
      rw [ih]
      simp
noncomputable def lenR (l : List α) : Nat := List.rec (motive := fun _ => Nat → Nat) (fun n => n) (fun _ _ ih n => ih (Nat.succ n)) l 0
/-! ### Trees -/
inductive Tr (α : Type) where
  | leaf
  | node (v : α) (l r : Tr α)
noncomputable def Tr.get (t : Tr α) (n : Nat) : Option α :=
  Tr.rec (motive := fun _ => Nat → Option α) (fun _ => none) (fun v _ _ gl gr n => Nat.rec (motive := fun _ => Option α) (some v) (fun m _ => Bool.rec (motive := fun _ => Option α) (gr (Nat.div m 2)) (gl (Nat.div m 2)) (Nat.beq (Nat.mod m 2) 0)) n) t n
noncomputable def Tr.set (t : Tr α) (n : Nat) (x : α) (k : Tr α → β) : β :=
  Tr.rec (motive := fun _ => Nat → (Tr α → β) → β) (fun _ k => k .leaf) (fun v l r sl sr n k => Nat.rec (motive := fun _ => β) (k (.node x l r)) (fun m _ => Bool.rec (motive := fun _ => β) (sr (Nat.div m 2) fun r => k (.node v l r)) (sl (Nat.div m 2) fun l => k (.node v l r)) (Nat.beq (Nat.mod m 2) 0)) n) t n k
/-- The tree with one cell set. -/
noncomputable def Tr.put (t : Tr α) (n : Nat) (x : α) : Tr α := t.set n x fun t => t
theorem Tr.set_eq (t : Tr α) : ∀ {β : Type} (n : Nat) (x : α) (k : Tr α → β), t.set n x k = k (t.put n x) := by
  induction t with
  | leaf => intro β n x k; rfl
  | node v l r ihl ihr =>
    intro β n x k
    cases n with
    | zero => rfl
    | succ m =>
      show Bool.rec (motive := fun _ => β) (r.set (Nat.div m 2) x fun r => k (.node v l r)) (l.set (Nat.div m 2) x fun l => k (.node v l r)) (Nat.beq (Nat.mod m 2) 0) = k (Bool.rec (motive := fun _ => Tr α) (r.set (Nat.div m 2) x fun r => .node v l r) (l.set (Nat.div m 2) x fun l => .node v l r) (Nat.beq (Nat.mod m 2) 0))
      cases Nat.beq (Nat.mod m 2) 0 with
      | true => show l.set _ x _ = k (l.set _ x _); rw [ihl, ihl (β := Tr α)]
      | false => show r.set _ x _ = k (r.set _ x _); rw [ihr, ihr (β := Tr α)]
theorem Tr.get_node (v : α) (l r : Tr α) (m : Nat) : (Tr.node v l r).get (m + 1) = if Nat.beq (Nat.mod m 2) 0 = true then l.get (Nat.div m 2) else r.get (Nat.div m 2) := by
  show Bool.rec (motive := fun _ => Option α) (r.get (Nat.div m 2)) (l.get (Nat.div m 2)) (Nat.beq (Nat.mod m 2) 0) = _
  cases Nat.beq (Nat.mod m 2) 0 <;> rfl
theorem Tr.put_node (v x : α) (l r : Tr α) (m : Nat) : (Tr.node v l r).put (m + 1) x = if Nat.beq (Nat.mod m 2) 0 = true then .node v (l.put (Nat.div m 2) x) r else .node v l (r.put (Nat.div m 2) x) := by
  show Bool.rec (motive := fun _ => Tr α) (r.set (Nat.div m 2) x fun r => .node v l r) (l.set (Nat.div m 2) x fun l => .node v l r) (Nat.beq (Nat.mod m 2) 0) = _
  cases Nat.beq (Nat.mod m 2) 0 with
  | true => show l.set _ x _ = _; rw [Tr.set_eq]; rfl
  | false => show r.set _ x _ = _; rw [Tr.set_eq]; rfl
theorem Tr.get_put (t : Tr α) : ∀ (n i : Nat) (x : α), (t.put n x).get i = if i = n then (t.get n).map (fun _ => x) else t.get i := by
  induction t with
  | leaf => intro n i x; show none = _; split <;> rfl
  | node v l r ihl ihr =>
    intro n i x
    cases n with
    | zero =>
      show (Tr.node x l r).get i = _
      cases i with
      | zero => rfl
      | succ j => rw [if_neg (by omega), Tr.get_node, Tr.get_node]
    | succ m =>
      rw [Tr.put_node]
      have hm : m % 2 = Nat.mod m 2 := rfl
      have hd : m / 2 = Nat.div m 2 := rfl
      cases i with
      | zero => rw [if_neg (show ¬ (0 = m + 1) by simp)]; split <;> rfl
      | succ j =>
        have hj : j % 2 = Nat.mod j 2 := rfl
        have hjd : j / 2 = Nat.div j 2 := rfl
        rw [Tr.get_node v l r j, Tr.get_node v l r m]
        by_cases hp : Nat.beq (Nat.mod m 2) 0 = true
        · rw [if_pos hp, if_pos hp, Tr.get_node]
          by_cases hq : Nat.beq (Nat.mod j 2) 0 = true
          · rw [if_pos hq, if_pos hq, ihl]
            have h1 := Nat.eq_of_beq_eq_true hp
            have h2 := Nat.eq_of_beq_eq_true hq
            by_cases e : j + 1 = m + 1
            · have : j = m := by omega
              subst this; simp
            · rw [if_neg e, if_neg (by omega)]
          · rw [if_neg hq, if_neg hq]
            rw [if_neg (fun e : j + 1 = m + 1 => hq (by have : j = m := by omega
                                                        subst this; exact hp))]
        · rw [if_neg hp, if_neg hp, Tr.get_node]
          by_cases hq : Nat.beq (Nat.mod j 2) 0 = true
          · rw [if_pos hq, if_pos hq]
            rw [if_neg (fun e : j + 1 = m + 1 => hp (by have : j = m := by omega
                                                        subst this; exact hq))]
          · rw [if_neg hq, if_neg hq, ihr]
            have h1 : m % 2 = 1 := by
              have : ¬ m % 2 = 0 := fun e => hp (by rw [← hm, e]; rfl)
              omega
            have h2 : j % 2 = 1 := by
              have : ¬ j % 2 = 0 := fun e => hq (by rw [← hj, e]; rfl)
              omega
            by_cases e : j + 1 = m + 1
            · have : j = m := by omega
              subst this; simp
            · rw [if_neg e, if_neg (by omega)]
/-- A tree of n cells; d: a bound of its depth. -/
noncomputable def Tr.mk (x : α) (d n : Nat) : Tr α :=
  Nat.rec (motive := fun _ => Nat → Tr α) (fun _ => .leaf) (fun _ ih n => Nat.rec (motive := fun _ => Tr α) .leaf (fun m _ => .node x (ih (Nat.div (Nat.succ m) 2)) (ih (Nat.div m 2))) n) d n
theorem Tr.get_mk (x : α) : ∀ (d n i : Nat), n < 2 ^ d → (Tr.mk x d n).get i = if i < n then some x else none
  | 0, n, i, h => by
    have : n = 0 := by omega
    subst this
    show none = _
    rw [if_neg (by omega)]
  | d + 1, n, i, h => by
    cases n with
    | zero => show none = _; rw [if_neg (by omega)]
    | succ m =>
      have e : Tr.mk x (d + 1) (m + 1) = .node x (Tr.mk x d (Nat.div (m + 1) 2)) (Tr.mk x d (Nat.div m 2)) := rfl
      have hd1 : (m + 1) / 2 = Nat.div (m + 1) 2 := rfl
      have hd2 : m / 2 = Nat.div m 2 := rfl
      have hp : 2 ^ (d + 1) = 2 * 2 ^ d := by rw [Nat.pow_succ]; omega
      rw [e]
      cases i with
      | zero => rw [if_pos (by omega)]; rfl
      | succ j =>
        have hjd : j / 2 = Nat.div j 2 := rfl
        have hjm : j % 2 = Nat.mod j 2 := rfl
        rw [Tr.get_node, Tr.get_mk x d _ _ (by omega), Tr.get_mk x d _ _ (by omega)]
        by_cases hq : Nat.beq (Nat.mod j 2) 0 = true
        · have h2 := Nat.eq_of_beq_eq_true hq
          rw [if_pos hq]
          by_cases hl : j + 1 < m + 1
          · rw [if_pos hl, if_pos (by omega)]
          · rw [if_neg hl, if_neg (by omega)]
        · have h2 : j % 2 = 1 := by
            have : ¬ j % 2 = 0 := fun e => hq (by rw [← hjm, e]; rfl)
            omega
          rw [if_neg hq]
          by_cases hl : j + 1 < m + 1
          · rw [if_pos hl, if_pos (by omega)]
          · rw [if_neg hl, if_neg (by omega)]
/-- The first cells, from i on. -/
noncomputable def Tr.list (t : Tr α) (fuel i : Nat) : List α :=
  Nat.rec (motive := fun _ => Nat → List α) (fun _ => []) (fun _ ih i => Option.rec (motive := fun _ => List α) [] (fun v => v :: ih (Nat.succ i)) (t.get i)) fuel i
def Rep (t : Tr α) (fr : List α) : Prop := ∀ i, t.get i = fr[i]?
theorem Tr.list_eq {t : Tr α} {fr : List α} (h : Rep t fr) : ∀ (fuel i : Nat), fr.length ≤ i + fuel → t.list fuel i = fr.drop i
  | 0, i, hl => by
    rw [List.drop_eq_nil_of_le (by omega)]; rfl
  | fuel + 1, i, hl => by
    show Option.rec (motive := fun _ => List α) [] (fun v => v :: t.list fuel (i + 1)) (t.get i) = _
    rw [h i]
    by_cases hi : i < fr.length
    · rw [List.getElem?_eq_getElem hi, List.drop_eq_getElem_cons hi]
      show _ :: _ = _
      rw [Tr.list_eq h fuel (i + 1) (by omega)]
    · rw [List.getElem?_eq_none (by omega), List.drop_eq_nil_of_le (by omega)]
/-- No cell more. -/
def Shr (t t' : Tr α) : Prop := ∀ i, t.get i = none → t'.get i = none
theorem Shr.refl (t : Tr α) : Shr t t := fun _ h => h
theorem Shr.trans {a b c : Tr α} (h : Shr a b) (k : Shr b c) : Shr a c := fun i hi => k i (h i hi)
theorem Shr.put (t : Tr α) (n : Nat) (x : α) : Shr t (t.put n x) := by
  intro i hi
  rw [Tr.get_put]
  split
  · rename_i e; subst e; rw [hi]; rfl
  · exact hi
def Bound (t : Tr α) (nt : Nat) : Prop := ∀ i, nt ≤ i → t.get i = none
theorem Bound.shr {t t' : Tr α} {nt : Nat} (h : Bound t nt) (k : Shr t t') : Bound t' nt := fun i hi => k i (h i hi)
theorem Bound.le {t : Tr α} {fr : List α} {nt : Nat} (h : Bound t nt) (hr : Rep t fr) : fr.length ≤ nt := by
  have := (hr nt).symm.trans (h nt (Nat.le_refl _))
  exact List.getElem?_eq_none_iff.1 this
theorem Rep.bound {t : Tr α} {fr : List α} {nt : Nat} (hr : Rep t fr) (h : fr.length ≤ nt) : Bound t nt := fun i hi => by
  rw [hr i]
  exact List.getElem?_eq_none (by omega)
theorem Rep.put {t : Tr α} {fr : List α} (h : Rep t fr) (n : Nat) (x : α) : Rep (t.put n x) (fr.set n x) := by
  intro i
  rw [Tr.get_put, List.getElem?_set]
  by_cases e : i = n
  · subst e
    rw [if_pos rfl, if_pos rfl, h i]
    by_cases hi : i < fr.length
    · rw [if_pos hi, List.getElem?_eq_getElem hi]; rfl
    · rw [if_neg hi, List.getElem?_eq_none (by omega)]; rfl
  · rw [if_neg e, if_neg (Ne.symm e), h i]
/-- The first cells set, one by one. -/
noncomputable def Tr.sets (t : Tr α) (xs : List α) (i : Nat) (k : Tr α → β) : β :=
  List.rec (motive := fun _ => Tr α → Nat → β) (fun t _ => k t) (fun x _ ih t i => t.set i x fun t => ih t (Nat.succ i)) xs t i
theorem Tr.sets_rep {d : α} : ∀ (xs : List α) (m : Nat) (pre : List α) (t : Tr α), Rep t (pre ++ List.replicate m d) → xs.length ≤ m → ∃ t', (∀ {β : Type} (k : Tr α → β), t.sets xs pre.length k = k t') ∧ Rep t' (pre ++ xs ++ List.replicate (m - xs.length) d)
  | [], m, pre, t, h, _ => ⟨t, fun _ => rfl, by simpa using h⟩
  | x :: xs, m, pre, t, h, hl => by
    simp only [List.length_cons] at hl
    have h1 := h.put pre.length x
    have e1 : (pre ++ List.replicate m d).set pre.length x = (pre ++ [x]) ++ List.replicate (m - 1) d := by
      obtain ⟨m', rfl⟩ : ∃ m', m = m' + 1 := ⟨m - 1, by omega⟩
      rw [List.set_append_right _ _ (Nat.le_refl _), Nat.sub_self, List.replicate_succ]
      simp
    rw [e1] at h1
    obtain ⟨t', h2, h3⟩ := Tr.sets_rep xs (m - 1) (pre ++ [x]) _ h1 (by omega)
    refine ⟨t', fun k => ?_, ?_⟩
    · show t.set pre.length x (fun t => t.sets xs (pre.length + 1) k) = k t'
      rw [Tr.set_eq]
      have := h2 k
      simpa using this
    · simp only [List.append_assoc, List.cons_append, List.nil_append, List.length_cons] at h3 ⊢
      rwa [show m - (xs.length + 1) = m - 1 - xs.length by omega]
end

/-! ### Values and blocks, reckoned -/
section
variable {β : Type}
noncomputable def leafK (v : AV) (k : AV → β) : β :=
  match v with
  | .bad => k .bad
  | .bool b => boolK b fun b => k (.bool b)
  | .int d n => intK n fun n => k (.int d n)
  | .float d b => natK b fun b => k (.float d b)
  | .str s => listK idK s fun s => k (.str s)
  | .nilptr => k .nilptr
  | .ptr b o => natK b fun b => natK o fun o => k (.ptr b o)
  | .gptr b o => natK b fun b => natK o fun o => k (.gptr b o)
  | .nilsl => k .nilsl
  | .sl b o l c x => natK b fun b => natK o fun o => natK l fun l => natK c fun c => boolK x fun x => k (.sl b o l c x)
  | .sle b o a => natK b fun b => natK o fun o => natK a fun a => k (.sle b o a)
  | .map b => natK b fun b => k (.map b)
  | .yld b => natK b fun b => k (.yld b)
  | v => k v
theorem leafK_eq (v : AV) (k : AV → β) : leafK v k = k v := by
  cases v <;> simp [leafK, natK_eq, intK_eq, boolK_eq, listK_eq (e := idK) (fun _ _ => rfl)]
noncomputable def avK (v : AV) (k : AV → β) : β :=
  match v with
  | .agg cs => listK leafK cs fun cs => k (.agg cs)
  | .tuple vs => listK leafK vs fun vs => k (.tuple vs)
  | .iface t v => leafK v fun v => k (.iface t v)
  | .fn f a b => listK leafK a fun a => listK leafK b fun b => k (.fn f a b)
  | v => leafK v k
theorem avK_eq (v : AV) (k : AV → β) : avK v k = k v := by
  cases v <;> simp [avK, leafK_eq, listK_eq (e := leafK) leafK_eq]
noncomputable def blkK (b : ABlk) (k : ABlk → β) : β :=
  match b with
  | .dead => k .dead
  | .cells vs e ro => listK idK vs fun vs => natK e fun e => boolK ro fun ro => k (.cells vs e ro)
  | .map es ro => listK idK es fun es => k (.map es ro)
  | .siter s p => natK p fun p => k (.siter s p)
  | b => k b
theorem blkK_eq (b : ABlk) (k : ABlk → β) : blkK b k = k b := by
  cases b <;> simp [blkK, natK_eq, boolK_eq, listK_eq (e := idK) (fun _ _ => rfl)]
noncomputable def heapK (wr old : Nat) (H : AH) (i : Nat) (k : AH → β) : β :=
  List.rec (motive := fun _ => Nat → (AH → β) → β) (fun _ k => k []) (fun b _ ih i k => (Bool.rec (motive := fun _ => (ABlk → β) → β) (idK b) (blkK b) (Bool.or (Nat.ble old i) (Nat.beq i wr))) fun b => ih (Nat.succ i) fun t => k (b :: t)) H i k
theorem heapK_eq (wr old : Nat) (H : AH) : ∀ (i : Nat) (k : AH → β), heapK wr old H i k = k H := by
  induction H with
  | nil => intro i k; rfl
  | cons b t ih =>
    intro i k
    show (Bool.rec (motive := fun _ => (ABlk → β) → β) (idK b) (blkK b) (Bool.or (Nat.ble old i) (Nat.beq i wr))) (fun b => heapK wr old t (Nat.succ i) fun t => k (b :: t)) = k (b :: t)
    cases Bool.or (Nat.ble old i) (Nat.beq i wr) with
    | true => show blkK b _ = _; rw [blkK_eq, ih]
    | false => show idK b _ = _; rw [idK, ih]
noncomputable def putT (t : Tr AV) (d : Option Tmp) (v : AV) (k : Tr AV → β) : β :=
  match d with
  | none => k t
  | some i => avK v fun v => t.set i v k
end
theorem putT_rep {t : Tr AV} {fr : List AV} (h : Rep t fr) (d : Option Tmp) (v : AV) : ∃ t', (∀ {β : Type} (k : Tr AV → β), putT t d v k = k t') ∧ Rep t' (aput fr d v) ∧ Shr t t' := by
  cases d with
  | none => exact ⟨t, fun _ => rfl, h, Shr.refl t⟩
  | some i => exact ⟨t.put i v, fun k => by simp [putT, avK_eq, Tr.set_eq], h.put i v, Shr.put t i v⟩

noncomputable def aevalT (t : Tr AV) : Operand → AV
  | .tmp i => Option.rec (motive := fun _ => AV) (.tuple []) (fun v => v) (t.get i)
  | x => aeval [] x
theorem aevalT_eq {t : Tr AV} {fr : List AV} (h : Rep t fr) : aevalT t = aeval fr := by
  funext x
  cases x with
  | tmp i =>
    show Option.rec (motive := fun _ => AV) (.tuple []) (fun v => v) (t.get i) = fr.getD i (.tuple [])
    rw [h i, List.getD_eq_getElem?_getD]
    cases fr[i]? <;> rfl
  | _ => rfl
noncomputable def awantedT (ops : Array Oper) (o : Oper) (t : Tr AV) : Option Bool :=
  match o.guard with
  | none => some true
  | some (j, want) =>
    match (getR ops.toList j).bind (·.dst) with
    | none => some false
    | some d =>
      match t.get d with
      | none => some false
      | some (.bool b) => some (b == want)
      | some .bad => none
      | some .opq => none
      | some _ => some false
theorem awantedT_eq {ops : Array Oper} {o : Oper} {t : Tr AV} {fr : List AV} (h : Rep t fr) : awantedT ops o t = awanted ops o fr := by
  unfold awantedT awanted
  cases hg : o.guard with
  | none => rfl
  | some q =>
    obtain ⟨j, want⟩ := q
    simp only [getR_eq, Array.getElem?_toList]
    cases hd : (ops[j]?).bind (·.dst) with
    | none => rfl
    | some d =>
      simp only [h d]
      rfl

/-! ### Loads and stores of one cell -/
noncomputable def fload (P : Program) (t : TypeId) (H : AH) (p : AV) : Option AV :=
  match isAggP P t, p with
  | some false, .ptr b off =>
    match getR H b with
    | some (.cells vs _ _) => getR vs off
    | _ => none
  | _, _ => none
theorem fload_eq {P : Program} {t : TypeId} {H : AH} {p v : AV} (h : fload P t H p = some v) : aload P t H p = some v := by
  unfold fload at h
  split at h
  · rename_i b off ha
    split at h
    · rename_i vs e ro hb
      rw [getR_eq] at hb h
      simp only [aload, cellsOf?, hb, aloadAt, ha, h]
    · cases h
  · cases h
def oneCell (P : Program) (t : TypeId) : Bool :=
  match P.info? t with
  | some i => Nat.beq i.size 1
  | none => false
noncomputable def fstore {β : Type} (P : Program) (t : TypeId) (H : AH) (p v : AV) (k : AH → Nat → β) (d : β) : β :=
  match p, oneCell P t, v.one with
  | .ptr b off, true, true =>
    match getR H b with
    | some (.cells vs esz false) => avK v fun v => setR vs off v (fun vs => setR H b (.cells vs esz false) (fun H => k H b) d) d
    | _ => d
  | _, _, _ => d
theorem fstore_eq {P : Program} {t : TypeId} {H : AH} {p v : AV} {r : AO} (h : fstore P t H p v (fun H b => some (AO.val (.tuple []) (some (H, b)))) none = some r) : ∃ H' b, astore P t H p v = some H' ∧ b = ptrOf p ∧ r = .val (.tuple []) (some (H', b)) := by
  unfold fstore at h
  split at h
  · rename_i b off h1 h2
    split at h
    · rename_i vs esz hb
      rw [avK_eq, setR_eq] at h
      split at h
      · rename_i hoff
        rw [setR_eq] at h
        split at h
        · rename_i hbl
          cases h
          refine ⟨_, b, ?_, rfl, rfl⟩
          rw [getR_eq] at hb
          unfold oneCell at h1
          cases hi : P.info? t with
          | none => rw [hi] at h1; cases h1
          | some i =>
            rw [hi] at h1
            have hsz : i.size = 1 := Nat.eq_of_beq_eq_true h1
            have hcells : v.cells = [v] := by cases v <;> first | rfl | (simp [AV.one] at h2)
            have hall : AV.allOne [v] = true := by simp [AV.allOne, h2]
            simp only [astore, hb, hi, hcells, hall, hsz, List.length_cons, List.length_nil, true_and]
            rw [if_pos (by omega)]
            rfl
        · cases h
      · cases h
    · cases h
  · cases h
/-! ### Numbers -/
theorem pureRun_bind {α β : Type} (P : Program) : ∀ (s : Sem α) (f : α → Sem β) {a : α}, pureRun P s = some a → pureRun P (s >>= f) = pureRun P (f a) := by
  intro s
  induction s with
  | pure b => intro f a h; simp [pureRun] at h; subst h; rfl
  | program k ih => intro f a h; simp only [pureRun] at h; exact ih P f h
  | mark m k ih => intro f a h; simp only [pureRun] at h; exact ih f h
  | _ => intro f a h; simp [pureRun] at h
theorem pureRun_underlying {P : Program} {t : TypeId} {d : TypeDesc} (h : P.underlying t = some d) : pureRun P (underlying t) = some d := by
  have e : pureRun P (underlying t) = pureRun P (match P.underlying t with | some d => pure d | none => stuck "no such type") := rfl
  rw [e, h]; rfl
theorem pureRun_int {P : Program} {s d : TypeId} {ds : TypeDesc} {k0 k : IntKind} {n : Int} (hs : P.underlying s = some ds) (hd : P.underlying d = some (.int k)) : pureRun P (convert s d (.int k0 n)) = some (.int k (k.wrap n)) := by
  unfold convert
  rw [pureRun_bind P _ _ (pureRun_underlying hs), pureRun_bind P _ _ (pureRun_underlying hd)]
  rfl
def fwrap (k : IntKind) (n : Int) : Int :=
  match k, n with
  | .i64, .ofNat m => cond (Nat.ble 9223372036854775808 m) (IntKind.i64.wrap n) n
  | .i64, .negSucc m => cond (Nat.ble 9223372036854775808 m) (IntKind.i64.wrap n) n
  | .u8, .ofNat m => .ofNat (Nat.mod m 256)
  | .u64, .ofNat m => .ofNat (Nat.mod m 18446744073709551616)
  | .u32, .ofNat m => .ofNat (Nat.mod m 4294967296)
  | .i32, .ofNat m => cond (Nat.ble 2147483648 m) (IntKind.i32.wrap n) n
  | k, n => k.wrap n
theorem cond_ble {α : Type} (c m : Nat) (x y z : α) (h1 : c ≤ m → x = z) (h2 : m < c → y = z) : cond (Nat.ble c m) x y = z := by
  cases hb : Nat.ble c m with
  | true => exact h1 (Nat.le_of_ble_eq_true hb)
  | false => exact h2 (Nat.lt_of_not_le fun h => by rw [Nat.ble_eq_true_of_le h] at hb; cases hb)
theorem fwrap_eq (k : IntKind) (n : Int) : fwrap k n = k.wrap n := by
  unfold fwrap
  split
  · rename_i m
    refine cond_ble _ _ _ _ _ (fun _ => rfl) (fun h => (IntWalk.i64_in _ ?_).symm)
    have : Int.ofNat m = (m : Int) := rfl
    omega
  · rename_i m
    refine cond_ble _ _ _ _ _ (fun _ => rfl) (fun h => (IntWalk.i64_in _ ?_).symm)
    have : Int.negSucc m = -((m : Int) + 1) := rfl
    omega
  · rename_i m
    show ((m % 256 : Nat) : Int) = _
    simp [IntKind.wrap, IntKind.signed, IntKind.bits]
  · rename_i m
    show ((m % 18446744073709551616 : Nat) : Int) = _
    simp [IntKind.wrap, IntKind.signed, IntKind.bits]
  · rename_i m
    show ((m % 4294967296 : Nat) : Int) = _
    simp [IntKind.wrap, IntKind.signed, IntKind.bits]
  · rename_i m
    refine cond_ble _ _ _ _ _ (fun _ => rfl) (fun h => (IntWalk.i32_in _ ?_).symm)
    have : Int.ofNat m = (m : Int) := rfl
    omega
  · rfl
def kidx : IntKind → Nat
  | .i8 => 0 | .i16 => 1 | .i32 => 2 | .i64 => 3 | .u8 => 4 | .u16 => 5 | .u32 => 6 | .u64 => 7
theorem kidx_inj {k k' : IntKind} (h : Nat.beq (kidx k) (kidx k') = true) : k = k' := by
  cases k <;> cases k' <;> first | rfl | (exact absurd h (by decide))
def ltI (a b : Int) : Bool :=
  match a, b with
  | .ofNat m, .ofNat n => Nat.ble (Nat.succ m) n
  | .negSucc _, .ofNat _ => true
  | .ofNat _, .negSucc _ => false
  | .negSucc m, .negSucc n => Nat.ble (Nat.succ n) m
theorem ltI_eq (a b : Int) : ltI a b = decide (a < b) := by
  have key : ∀ {p : Bool} {q : Prop} [Decidable q], (p = true ↔ q) → p = decide q := fun {p q _} h => by cases p <;> simp_all
  apply key
  cases a <;> cases b <;> simp [ltI, Nat.ble_eq] <;> omega
def eqI (a b : Int) : Bool :=
  match a, b with
  | .ofNat m, .ofNat n => Nat.beq m n
  | .negSucc m, .negSucc n => Nat.beq m n
  | _, _ => false
theorem eqI_eq (a b : Int) : eqI a b = decide (a = b) := by
  have key : ∀ {p : Bool} {q : Prop} [Decidable q], (p = true ↔ q) → p = decide q := fun {p q _} h => by cases p <;> simp_all
  apply key
  cases a <;> cases b <;> simp [eqI] <;> omega
def fbin (op : BinOp) (k : IntKind) (a b : Int) : Option AV :=
  match op with
  | .add => some (.int k (fwrap k (Int.add a b)))
  | .sub => some (.int k (fwrap k (Int.sub a b)))
  | .mul => some (.int k (fwrap k (Int.mul a b)))
  | .eql => some (.bool (eqI a b))
  | .neq => some (.bool (Bool.not (eqI a b)))
  | .lss => some (.bool (ltI a b))
  | .gtr => some (.bool (ltI b a))
  | .leq => some (.bool (Bool.not (ltI b a)))
  | .geq => some (.bool (Bool.not (ltI a b)))
  | _ => none
theorem fbin_eq {P : Program} {op : BinOp} {t : TypeId} {xo yo : Operand} {k : IntKind} {a b : Int} {v : AV} (h : fbin op k a b = some v) : abinOp P op t xo yo (.int k a) (.int k b) = some v := by
  have run : ∀ (u : Value), (pureRun P (do eqGuard op t xo yo (.int k a) (.int k b); binOp op t (.int k a) (.int k b) : Sem Value)) = some u → abinOp P op t xo yo (.int k a) (.int k b) = some (ofV1 u) := fun u hu => by
    unfold abinOp
    simp only [AV.sc]
    rw [hu]
    rfl
  unfold fbin at h
  split at h <;> cases h
  · rw [run (.int k (k.wrap (a + b))) (by cases k <;> rfl), fwrap_eq]; rfl
  · rw [run (.int k (k.wrap (a - b))) (by cases k <;> rfl), fwrap_eq]; rfl
  · rw [run (.int k (k.wrap (a * b))) (by cases k <;> rfl), fwrap_eq]; rfl
  · rw [run (.bool (a == b)) (by cases k <;> rfl), eqI_eq]; rfl
  · rw [run (.bool (a != b)) (by cases k <;> rfl), eqI_eq]; rfl
  · rw [run (.bool (a < b)) (by cases k <;> rfl), ltI_eq]; rfl
  · rw [run (.bool (a > b)) (by cases k <;> rfl), ltI_eq]; rfl
  · rw [run (.bool (a ≤ b)) (by cases k <;> rfl), ltI_eq, ← decide_not]; simp only [Int.not_lt]; rfl
  · rw [run (.bool (a ≥ b)) (by cases k <;> rfl), ltI_eq, ← decide_not]; simp only [Int.not_lt]; rfl
def fMove (ρ : Operand → AV) (x : Operand) : Option AO := some (.val (ρ x) none)
def fPick (ρ : Operand → AV) (c a b : Operand) : Option AO :=
  match ρ c with
  | .bool true => some (.val (ρ a) none)
  | .bool false => some (.val (ρ b) none)
  | _ => none
noncomputable def fLoad (P : Program) (ρ : Operand → AV) (H : AH) (t : TypeId) (a : Operand) : Option AO :=
  match fload P t H (ρ a) with
  | some v => some (.val v none)
  | none => none
noncomputable def fStore (P : Program) (ρ : Operand → AV) (H : AH) (t : TypeId) (a x : Operand) : Option AO := fstore P t H (ρ a) (ρ x) (fun H b => some (.val (.tuple []) (some (H, b)))) none
def fBin (ρ : Operand → AV) (op : BinOp) (x y : Operand) : Option AO :=
  match ρ x, ρ y with
  | .int k a, .int k' b =>
    match Nat.beq (kidx k) (kidx k') with
    | true =>
      match fbin op k a b with
      | some v => some (.val v none)
      | none => none
    | false => none
  | _, _ => none
def fConv (P : Program) (ρ : Operand → AV) (s d : TypeId) (x : Operand) : Option AO :=
  match ρ x with
  | .int _ n =>
    match P.underlying s, P.underlying d with
    | some _, some (.int k) => some (.val (.int k (fwrap k n)) none)
    | _, _ => none
  | _ => none
def fExt (ρ : Operand → AV) (x : Operand) (i : Nat) : Option AO := (aextract (ρ x) i).map fun v => .val v none
def fIdx (P : Program) (ρ : Operand → AV) (t : TypeId) (x i : Operand) : Option AO := (aindex P t (ρ x) (ρ i)).map fun v => .val v none
def fIad (P : Program) (ρ : Operand → AV) (t : TypeId) (x i : Operand) : Option AO := (aindexAt P t (ρ x) (ρ i)).map fun v => .val v none
def fFad (P : Program) (ρ : Operand → AV) (s : TypeId) (x : Operand) (f : Nat) : Option AO := (afieldAt P s (ρ x) f).map fun v => .val v none
def fFld (P : Program) (ρ : Operand → AV) (s : TypeId) (x : Operand) (f : Nat) : Option AO := (afield P s (ρ x) f).map fun v => .val v none
/-- The length of a text. -/
noncomputable def fLen (P : Program) (t : TypeId) (x : AV) : Option AO :=
  match x with
  | .str s =>
    match P.underlying t with
    | some .string => some (.val (.int .i64 (.ofNat (lenR s))) none)
    | _ => none
  | .sl _ _ n _ _ =>
    match P.underlying t with
    | some (.slice _) => some (.val (.int .i64 (.ofNat n)) none)
    | _ => none
  | _ => none
noncomputable def fCall (P : Program) (ρ : Operand → AV) (H : AH) (c : Call) : Option AO :=
  match c.callee with
  | .builtin .len =>
    match c.argTypes.toList, c.args.toList with
    | [t], [x] => fLen P t (ρ x)
    | _, _ => none
  | _ => acall P c ρ H
noncomputable def fop (P : Program) (o : Oper) (ρ : Operand → AV) (H : AH) : Option AO :=
  match o.op with
  | .move x => fMove ρ x
  | .assign x => fMove ρ x
  | .pick c a b => fPick ρ c a b
  | .load t a => fLoad P ρ H t a
  | .store t a x => fStore P ρ H t a x
  | .binOp op _ x y _ => fBin ρ op x y
  | .convert s d x => fConv P ρ s d x
  | .extract x i => fExt ρ x i
  | .index t x i => fIdx P ρ t x i
  | .indexAddr t x i => fIad P ρ t x i
  | .fieldAddr s x f => fFad P ρ s x f
  | .field s x f => fFld P ρ s x f
  | .call c => fCall P ρ H c
  | _ => none
theorem lenR_eq {α : Type} (l : List α) : lenR l = l.length := by
  have key : ∀ (l : List α) (n : Nat), (List.rec (motive := fun _ => Nat → Nat) (fun n => n) (fun _ _ ih n => ih (Nat.succ n)) l : Nat → Nat) n = n + l.length := by
    intro l
    induction l with
    | nil => intro n; rfl
    | cons a t ih =>
      intro n
      refine (ih (Nat.succ n)).trans ?_
      simp; omega
  have := key l 0
  rw [Nat.zero_add] at this
  exact this
theorem fop_eq {P : Program} {o : Oper} {ρ : Operand → AV} {H : AH} {r : AO} (h : fop P o ρ H = some r) : aop P o ρ H = some r := by
  unfold fop at h
  split at h
  · rename_i x ho; unfold aop; simp only [ho]; exact h
  · rename_i x ho; unfold aop; simp only [ho]; exact h
  · rename_i c a b ho
    unfold aop
    simp only [ho]
    unfold fPick at h
    split at h
    · rename_i hc; rw [hc]; exact h
    · rename_i hc; rw [hc]; exact h
    · cases h
  · rename_i t a ho
    unfold fLoad at h
    split at h
    · rename_i v hl
      cases h
      unfold aop
      simp only [ho, fload_eq hl]
      rfl
    · cases h
  · rename_i t a x ho
    obtain ⟨H', b, h1, h2, h3⟩ := fstore_eq h
    subst h2; subst h3
    unfold aop
    simp only [ho, h1]
    rfl
  · rename_i op t x y yt ho
    unfold fBin at h
    split at h
    · rename_i k a k' b hx hy
      split at h
      · rename_i hk
        have := kidx_inj hk
        subst this
        split at h
        · rename_i v hb
          cases h
          unfold aop
          simp only [ho, hx, hy, fbin_eq hb]
        · cases h
      · cases h
    · cases h
  · rename_i s d x ho
    unfold fConv at h
    split at h
    · rename_i k0 n hx
      split at h
      · rename_i ds k hs hd
        cases h
        unfold aop
        have hp : aptr P s d (.int k0 n) H = none := by
          unfold aptr
          simp only [hs, hd]
        have hrun : pureRun P (convert s d (.int k0 n)) = some (.int k (k.wrap n)) := pureRun_int hs hd
        simp only [ho, hx, hp, aconvert, AV.sc, hrun, fwrap_eq]
        rfl
      · cases h
    · cases h
  · rename_i x i ho; unfold aop; simp only [ho]; exact h
  · rename_i t x i ho; unfold aop; simp only [ho]; exact h
  · rename_i t x i ho; unfold aop; simp only [ho]; exact h
  · rename_i s x f ho; unfold aop; simp only [ho]; exact h
  · rename_i s x f ho; unfold aop; simp only [ho]; exact h
  · rename_i c ho
    unfold aop
    simp only [ho]
    unfold fCall at h
    split at h
    · rename_i hcal
      split at h
      · rename_i t x ht hx
        unfold fLen at h
        split at h
        · rename_i s hs
          split at h
          · rename_i hu
            cases h
            simp [acall, hcal, ht, hx, abuiltin, alenOf, hu, hs, lenR_eq]
          · cases h
        · rename_i b off n c ex hs
          split at h
          · rename_i e hu
            cases h
            simp [acall, hcal, ht, hx, abuiltin, alenOf, hu, hs]
          · cases h
        · cases h
      · cases h
    · exact h
  · cases h

/-! ### The evaluator -/
noncomputable def tOps (P : Program) (call : CallF) (ops : Array Oper) (l : List Oper) : Tr AV → AH → Nat → Option (Tr AV × AH × Nat) :=
  List.rec (motive := fun _ => Tr AV → AH → Nat → Option (Tr AV × AH × Nat)) (fun t H lo => some (t, H, lo)) (fun o _ ih t H lo =>
    match awantedT ops o t with
    | none => none
    | some false => putT t o.dst (.tuple []) fun t => ih t H lo
    | some true =>
      match fop P o (aevalT t) H with
      | some (.val v none) => putT t o.dst v fun t => ih t H lo
      | some (.val v (some (H', wr))) => putT t o.dst v fun t => natK (min lo wr) fun lo => ih t H' lo
      | _ =>
        match aop P o (aevalT t) H with
        | none => none
        | some (.val v none) => putT t o.dst v fun t => ih t H lo
        | some (.val v (some (H', wr))) => putT t o.dst v fun t => natK wr fun wr => heapK wr (lenR H) H' 0 fun H' => natK (min lo wr) fun lo => ih t H' lo
        | some (.call f args) =>
          listK leafK args fun args =>
          match call f args H with
          | none => none
          | some (v, none) => putT t o.dst v fun t => ih t H lo
          | some (v, some (H', wr)) => putT t o.dst v fun t => natK (min lo wr) fun lo => ih t H' lo
        | some (.round ..) => none) l
theorem tOps_ok {P : Program} {call call' : CallF} (hc : ∀ f args H r, call f args H = some r → call' f args H = some r) {ops : Array Oper} : ∀ (l : List Oper) {t t' : Tr AV} {fr : List AV} {H H' : AH} {lo lo' : Nat}, Rep t fr → tOps P call ops l t H lo = some (t', H', lo') →
    ∃ fr', evOps P call' ops l fr H lo = some (fr', H', lo') ∧ Rep t' fr' ∧ Shr t t' := by
  intro l
  induction l with
  | nil => intro t t' fr H H' lo lo' hr h; cases h; exact ⟨fr, rfl, hr, Shr.refl t⟩
  | cons o l ih =>
    intro t t' fr H H' lo lo' hr h
    have e : tOps P call ops (o :: l) t H lo = (match awantedT ops o t with
      | none => none
      | some false => putT t o.dst (.tuple []) fun t => tOps P call ops l t H lo
      | some true =>
        match fop P o (aevalT t) H with
        | some (.val v none) => putT t o.dst v fun t => tOps P call ops l t H lo
        | some (.val v (some (H', wr))) => putT t o.dst v fun t => natK (min lo wr) fun lo => tOps P call ops l t H' lo
        | _ =>
          match aop P o (aevalT t) H with
          | none => none
          | some (.val v none) => putT t o.dst v fun t => tOps P call ops l t H lo
          | some (.val v (some (H', wr))) => putT t o.dst v fun t => natK wr fun wr => heapK wr (lenR H) H' 0 fun H' => natK (min lo wr) fun lo => tOps P call ops l t H' lo
          | some (.call f args) =>
            listK leafK args fun args =>
            match call f args H with
            | none => none
            | some (v, none) => putT t o.dst v fun t => tOps P call ops l t H lo
            | some (v, some (H', wr)) => putT t o.dst v fun t => natK (min lo wr) fun lo => tOps P call ops l t H' lo
          | some (.round ..) => none) := rfl
    rw [e, awantedT_eq hr, aevalT_eq hr] at h
    simp only [evOps]
    split at h
    · cases h
    · rename_i hw
      obtain ⟨t1, h1, h2, hs⟩ := putT_rep hr o.dst (.tuple [])
      rw [h1] at h
      rw [hw]
      obtain ⟨fr2, g1, g2, g3⟩ := ih h2 h
      exact ⟨fr2, g1, g2, hs.trans g3⟩
    · rename_i hw
      rw [hw]
      simp only
      split at h
      · rename_i v hf
        rw [fop_eq hf]
        obtain ⟨t1, h1, h2, hs⟩ := putT_rep hr o.dst v
        rw [h1] at h
        obtain ⟨fr2, g1, g2, g3⟩ := ih h2 h
        exact ⟨fr2, g1, g2, hs.trans g3⟩
      · rename_i v H1 wr hf
        rw [fop_eq hf]
        obtain ⟨t1, h1, h2, hs⟩ := putT_rep hr o.dst v
        rw [h1, natK_eq] at h
        obtain ⟨fr2, g1, g2, g3⟩ := ih h2 h
        exact ⟨fr2, g1, g2, hs.trans g3⟩
      · split at h
        · cases h
        · rename_i v ha
          rw [ha]
          obtain ⟨t1, h1, h2, hs⟩ := putT_rep hr o.dst v
          rw [h1] at h
          obtain ⟨fr2, g1, g2, g3⟩ := ih h2 h
          exact ⟨fr2, g1, g2, hs.trans g3⟩
        · rename_i v H1 wr ha
          rw [ha]
          obtain ⟨t1, h1, h2, hs⟩ := putT_rep hr o.dst v
          rw [h1, natK_eq, heapK_eq, natK_eq] at h
          obtain ⟨fr2, g1, g2, g3⟩ := ih h2 h
          exact ⟨fr2, g1, g2, hs.trans g3⟩
        · rename_i f args ha
          rw [ha]
          simp only
          rw [listK_eq (e := leafK) leafK_eq] at h
          split at h
          · cases h
          · rename_i v hcall
            rw [hc _ _ _ _ hcall]
            obtain ⟨t1, h1, h2, hs⟩ := putT_rep hr o.dst v
            rw [h1] at h
            obtain ⟨fr2, g1, g2, g3⟩ := ih h2 h
            exact ⟨fr2, g1, g2, hs.trans g3⟩
          · rename_i v H1 wr hcall
            rw [hc _ _ _ _ hcall]
            obtain ⟨t1, h1, h2, hs⟩ := putT_rep hr o.dst v
            rw [h1, natK_eq] at h
            obtain ⟨fr2, g1, g2, g3⟩ := ih h2 h
            exact ⟨fr2, g1, g2, hs.trans g3⟩
        · cases h
noncomputable def tQuiet (P : Program) (call : CallF) (ops : Array Oper) (l : List Oper) : Tr AV → AH → Option (Tr AV) :=
  List.rec (motive := fun _ => Tr AV → AH → Option (Tr AV)) (fun t _ => some t) (fun o _ ih t H =>
    match awantedT ops o t with
    | none => none
    | some false => putT t o.dst (.tuple []) fun t => ih t H
    | some true =>
      match aop P o (aevalT t) H with
      | some (.val v none) => if v.det then putT t o.dst v fun t => ih t H else none
      | some (.call f args) =>
        listK leafK args fun args =>
        match call f args H with
        | some (v, none) => if v.det then putT t o.dst v fun t => ih t H else none
        | _ => none
      | _ => none) l
theorem tQuiet_ok {P : Program} {call call' : CallF} (hc : ∀ f args H r, call f args H = some r → call' f args H = some r) {ops : Array Oper} : ∀ (l : List Oper) {t t' : Tr AV} {fr : List AV} {H : AH}, Rep t fr → tQuiet P call ops l t H = some t' →
    ∃ fr', evQuiet P call' ops l fr H = some fr' ∧ Rep t' fr' ∧ Shr t t' := by
  intro l
  induction l with
  | nil => intro t t' fr H hr h; cases h; exact ⟨fr, rfl, hr, Shr.refl t⟩
  | cons o l ih =>
    intro t t' fr H hr h
    have e : tQuiet P call ops (o :: l) t H = (match awantedT ops o t with
      | none => none
      | some false => putT t o.dst (.tuple []) fun t => tQuiet P call ops l t H
      | some true =>
        match aop P o (aevalT t) H with
        | some (.val v none) => if v.det then putT t o.dst v fun t => tQuiet P call ops l t H else none
        | some (.call f args) =>
          listK leafK args fun args =>
          match call f args H with
          | some (v, none) => if v.det then putT t o.dst v fun t => tQuiet P call ops l t H else none
          | _ => none
        | _ => none) := rfl
    rw [e, awantedT_eq hr, aevalT_eq hr] at h
    simp only [evQuiet]
    split at h
    · cases h
    · rename_i hw
      obtain ⟨t1, h1, h2, hs⟩ := putT_rep hr o.dst (.tuple [])
      rw [h1] at h
      rw [hw]
      obtain ⟨fr2, g1, g2, g3⟩ := ih h2 h
      exact ⟨fr2, g1, g2, hs.trans g3⟩
    · rename_i hw
      rw [hw]
      simp only
      split at h
      · rename_i v ha
        rw [ha]
        simp only
        split at h
        · rename_i hd
          rw [if_pos hd]
          obtain ⟨t1, h1, h2, hs⟩ := putT_rep hr o.dst v
          rw [h1] at h
          obtain ⟨fr2, g1, g2, g3⟩ := ih h2 h
          exact ⟨fr2, g1, g2, hs.trans g3⟩
        · cases h
      · rename_i f args ha
        rw [ha]
        simp only
        rw [listK_eq (e := leafK) leafK_eq] at h
        split at h
        · rename_i v hcall
          rw [hc _ _ _ _ hcall]
          simp only
          split at h
          · rename_i hd
            rw [if_pos hd]
            obtain ⟨t1, h1, h2, hs⟩ := putT_rep hr o.dst v
            rw [h1] at h
            obtain ⟨fr2, g1, g2, g3⟩ := ih h2 h
            exact ⟨fr2, g1, g2, hs.trans g3⟩
          · cases h
        · cases h
      · cases h
/-- The frame as a list, and back. -/
noncomputable def Tr.ofL (fr : List AV) : Tr AV := (Tr.mk (.tuple []) 16 (lenR fr)).sets fr 0 fun t => t
theorem ofL_rep {fr : List AV} (h : fr.length < 65536) : Rep (Tr.ofL fr) fr := by
  have h0 : Rep (Tr.mk (.tuple [] : AV) 16 (lenR fr)) ([] ++ List.replicate fr.length (.tuple [])) := by
    intro i
    rw [Tr.get_mk _ _ _ _ (by rw [lenR_eq]; omega), lenR_eq, List.nil_append, List.getElem?_replicate]
  obtain ⟨t', h1, h2⟩ := Tr.sets_rep fr fr.length [] _ h0 (Nat.le_refl _)
  have e : Tr.ofL fr = t' := h1 fun t => t
  rw [e]
  simpa using h2
noncomputable def tDraw0 (P : Program) (call : CallF) (ops : Array Oper) (nt : Nat) (t : Tr AV) (H : AH) (lo : Nat) : Option (Tr AV × AH × Nat) :=
  match (if stillB ops then tQuiet P call ops ops.toList t H else none) with
  | some t' => some (t', H, lo)
  | none =>
    match tailQ ops with
    | none =>
      if stillB ops then none
      else listK idK (t.list nt 0) fun fr =>
        match evGen P call ops (genAt ops) fr H lo with
        | some (fr', H', lo') => listK avK fr' fun fr' => if Nat.ble 65536 (lenR fr') || Nat.ble (Nat.succ nt) (lenR fr') then none else natK lo' fun lo' => heapK lo' lo' H' 0 fun H' => some (Tr.ofL fr', H', lo')
        | none => none
    | some k =>
      match tQuiet P call ops (ops.toList.take k) t H with
      | none => none
      | some t1 => tOps P call ops (ops.toList.drop k) t1 H lo
noncomputable def tGen (P : Program) (call : CallF) (ops : Array Oper) (nt : Nat) (t : Tr AV) (H : AH) (lo : Nat) : Option (Tr AV × AH × Nat) :=
  listK idK (t.list nt 0) fun fr =>
  match evGen P call ops (genAt ops) fr H lo with
  | some (fr', H', lo') => listK avK fr' fun fr' => if Nat.ble 65536 (lenR fr') || Nat.ble (Nat.succ nt) (lenR fr') then none else natK lo' fun lo' => heapK lo' lo' H' 0 fun H' => some (Tr.ofL fr', H', lo')
  | none => none
noncomputable def tDraw (P : Program) (call : CallF) (ops : Array Oper) (nt : Nat) (t : Tr AV) (H : AH) (lo : Nat) : Option (Tr AV × AH × Nat) :=
  if newB P ops = true then tGen P call ops nt t H lo else tDraw0 P call ops nt t H lo
theorem tGen_ok {P : Program} {call call' : CallF} (hc : ∀ f args H r, call f args H = some r → call' f args H = some r) {ops : Array Oper} {nt : Nat} {t t' : Tr AV} {fr : List AV} {H H' : AH} {lo lo' : Nat} (hr : Rep t fr) (hn : Bound t nt) (h : tGen P call ops nt t H lo = some (t', H', lo')) :
    ∃ fr', evGen P call' ops (genAt ops) fr H lo = some (fr', H', lo') ∧ Rep t' fr' ∧ Bound t' nt := by
  have grows : Grows call call' := hc
  unfold tGen at h
  rw [listK_eq (e := idK) (fun _ _ => rfl), Tr.list_eq hr nt 0 (by have := hn.le hr; omega), List.drop_zero] at h
  split at h
  · rename_i fr1 H1 lo1 hg
    rw [listK_eq (e := avK) avK_eq] at h
    split at h
    · cases h
    · rename_i hl
      rw [natK_eq, heapK_eq] at h
      cases h
      have hl' : lenR fr1 < 65536 ∧ lenR fr1 ≤ nt := by
        constructor
        · exact Nat.lt_of_not_le fun hh => hl (by rw [Nat.ble_eq_true_of_le hh]; rfl)
        · exact Nat.le_of_not_lt fun hh => hl (by rw [Nat.ble_eq_true_of_le (show nt.succ ≤ lenR fr1 from hh), Bool.or_true])
      rw [lenR_eq] at hl'
      exact ⟨fr1, evGen_grows grows hg, ofL_rep hl'.1, (ofL_rep hl'.1).bound hl'.2⟩
  · cases h
theorem tDraw0_ok {P : Program} {call call' : CallF} (hc : ∀ f args H r, call f args H = some r → call' f args H = some r) {ops : Array Oper} {nt : Nat} {t t' : Tr AV} {fr : List AV} {H H' : AH} {lo lo' : Nat} (hr : Rep t fr) (hn : Bound t nt) (h : tDraw0 P call ops nt t H lo = some (t', H', lo')) :
    ∃ fr', evDraw0 P call' ops fr H lo = some (fr', H', lo') ∧ Rep t' fr' ∧ Bound t' nt := by
  have grows : Grows call call' := hc
  unfold tDraw0 at h
  split at h
  · rename_i t1 hq
    cases h
    split at hq
    · rename_i hs
      obtain ⟨fr1, h1, h2, h5⟩ := tQuiet_ok hc _ hr hq
      refine ⟨fr1, ?_, h2, hn.shr h5⟩
      unfold evDraw0
      rw [if_pos hs, h1]
    · cases hq
  · rename_i hq
    split at h
    · rename_i hk
      split at h
      · cases h
      · rename_i hs
        rw [listK_eq (e := idK) (fun _ _ => rfl), Tr.list_eq hr nt 0 (by have := hn.le hr; omega), List.drop_zero] at h
        split at h
        · rename_i fr1 H1 lo1 hg
          rw [listK_eq (e := avK) avK_eq] at h
          split at h
          · cases h
          · rename_i hl
            rw [natK_eq, heapK_eq] at h
            cases h
            have hl' : lenR fr1 < 65536 ∧ lenR fr1 ≤ nt := by
              constructor
              · exact Nat.lt_of_not_le fun hh => hl (by rw [Nat.ble_eq_true_of_le hh]; rfl)
              · exact Nat.le_of_not_lt fun hh => hl (by rw [Nat.ble_eq_true_of_le (show nt.succ ≤ lenR fr1 from hh), Bool.or_true])
            rw [lenR_eq] at hl'
            refine ⟨fr1, ?_, ofL_rep hl'.1, (ofL_rep hl'.1).bound hl'.2⟩
            unfold evDraw0
            rw [if_neg hs]
            simp only [hk]
            rw [if_neg hs]
            exact evGen_grows grows hg
        · cases h
    · rename_i k hk
      split at h
      · cases h
      · rename_i t1 hq1
        obtain ⟨fr1, h1, h2, h5⟩ := tQuiet_ok hc _ hr hq1
        obtain ⟨fr2, h3, h4, h6⟩ := tOps_ok hc _ h2 h
        exact ⟨fr2, evDraw_of_tail hk h1 h3, h4, hn.shr (h5.trans h6)⟩
theorem tDraw_ok {P : Program} {call call' : CallF} (hc : ∀ f args H r, call f args H = some r → call' f args H = some r) {ops : Array Oper} {nt : Nat} {t t' : Tr AV} {fr : List AV} {H H' : AH} {lo lo' : Nat} (hr : Rep t fr) (hn : Bound t nt) (h : tDraw P call ops nt t H lo = some (t', H', lo')) :
    ∃ fr', evDraw P call' ops fr H lo = some (fr', H', lo') ∧ Rep t' fr' ∧ Bound t' nt := by
  unfold tDraw at h
  unfold evDraw
  split at h
  · rename_i hb
    rw [if_pos hb]; exact tGen_ok hc hr hn h
  · rename_i hb
    rw [if_neg hb]; exact tDraw0_ok hc hr hn h
noncomputable def aresultT (P : Program) (t : Tr AV) (H : AH) : ResultVar → Option AV
  | .tmp i => some (aevalT t (.tmp i))
  | .cell a ty =>
    match fload P ty H (aevalT t (.tmp a)) with
    | some v => some v
    | none => aload P ty H (aevalT t (.tmp a))
noncomputable def aresultsT (P : Program) (t : Tr AV) (H : AH) : List ResultVar → Option (List AV)
  | [] => some []
  | r :: rs =>
    match aresultT P t H r, aresultsT P t H rs with
    | some v, some vs => some (v :: vs)
    | _, _ => none
theorem aresultT_eq {P : Program} {t : Tr AV} {fr : List AV} {H : AH} (hr : Rep t fr) (r : ResultVar) : aresultT P t H r = aresult P fr H r := by
  cases r with
  | tmp i => unfold aresultT aresult; rw [aevalT_eq hr]; rfl
  | cell a ty =>
    simp only [aresultT, aresult]
    rw [aevalT_eq hr]
    cases hf : fload P ty H (aeval fr (.tmp a)) with
    | none => rfl
    | some v => exact (fload_eq hf).symm
theorem aresultsT_eq {P : Program} {t : Tr AV} {fr : List AV} {H : AH} (hr : Rep t fr) : ∀ rs, aresultsT P t H rs = aresults P fr H rs
  | [] => rfl
  | r :: rs => by rw [aresultsT, aresults, aresultT_eq hr, aresultsT_eq hr rs]; rfl
noncomputable def tCall (E : Env) (rec : Nat → Code → Tr AV → AH → Nat → Option (AEx × Tr AV × AH × Nat)) : CallF := fun f args H =>
  match E.orc f args H with
  | some r => some r
  | none =>
    match E.P.funcs[f]? with
    | none => none
    | some fn =>
      match fn.body with
      | none => none
      | some c =>
        if Nat.ble (lenR args) fn.ntmps && Nat.ble fn.ntmps 65535 then
          (Tr.mk (.tuple []) 16 fn.ntmps).sets args 0 fun t =>
          natK (lenR H) fun n =>
          match rec fn.ntmps c t H n with
          | some (.exit _, _, _, _) => none
          | some (_, t, H', lo) =>
            match aresultsT E.P t H' fn.results.toList with
            | some vs => avK (oneOf vs) fun v => if Nat.beq lo n = true ∧ v.flat = true then some (v, none) else some (v, some (H', lo))
            | none => none
          | none => none
        else none
noncomputable def tev (E : Env) : Nat → Nat → Code → Tr AV → AH → Nat → Option (AEx × Tr AV × AH × Nat)
  | 0, _, _, _, _, _ => none
  | n + 1, nt, c, t, H, lo =>
    match c with
    | .skip => some (.normal, t, H, lo)
    | .label _ => some (.normal, t, H, lo)
    | .region _ ops false =>
      match tOps E.P (tCall E (tev E n)) ops ops.toList t H lo with
      | some (t', H', lo') => some (.normal, t', H', lo')
      | none => none
    | .region _ ops true =>
      match tDraw E.P (tCall E (tev E n)) ops nt t H lo with
      | some (t', H', lo') => some (.normal, t', H', lo')
      | none => none
    | .seq a b =>
      match tev E n nt a t H lo with
      | some (.normal, t', H', lo') => tev E n nt b t' H' lo'
      | r => r
    | .cond c x y =>
      match aevalT t c with
      | .bool true => tev E n nt x t H lo
      | .bool false => tev E n nt y t H lo
      | _ => none
    | .block id b =>
      match tev E n nt b t H lo with
      | some (.exit i, t', H', lo') => if Nat.beq i id = true then some (.normal, t', H', lo') else some (.exit i, t', H', lo')
      | r => r
    | .loop b =>
      match tev E n nt b t H lo with
      | some (.normal, t', H', lo') => tev E n nt (.loop b) t' H' lo'
      | r => r
    | .exit id => some (.exit id, t, H, lo)
    | .scope b => tev E n nt b t H lo
    | .ret => some (.ret, t, H, lo)
    | _ => none
def TevOk (a : Nat → Code → Tr AV → AH → Nat → Option (AEx × Tr AV × AH × Nat)) (b : Code → List AV → AH → Nat → Option (AEx × List AV × AH × Nat)) : Prop :=
  ∀ nt c t fr H lo ex t' H' lo', Rep t fr → Bound t nt → a nt c t H lo = some (ex, t', H', lo') → ∃ fr', b c fr H lo = some (ex, fr', H', lo') ∧ Rep t' fr' ∧ Bound t' nt
theorem tCall_ok {E : Env} {a : Nat → Code → Tr AV → AH → Nat → Option (AEx × Tr AV × AH × Nat)} {b : Code → List AV → AH → Nat → Option (AEx × List AV × AH × Nat)} (hab : TevOk a b) : ∀ f args H r, tCall E a f args H = some r → evCall E b f args H = some r := by
  intro f args H r h
  unfold tCall at h
  unfold evCall
  cases ho : E.orc f args H with
  | some r0 =>
    rw [ho] at h
    exact h
  | none =>
    rw [ho] at h
    simp only at h ⊢
    cases hf : E.P.funcs[f]? with
    | none => rw [hf] at h; cases h
    | some fn =>
      rw [hf] at h
      simp only at h ⊢
      cases hb : fn.body with
      | none => rw [hb] at h; cases h
      | some c =>
        rw [hb] at h
        simp only at h ⊢
        split at h
        · rename_i hle
          simp only [Bool.and_eq_true, Nat.ble_eq, lenR_eq] at hle
          have h0 : Rep (Tr.mk (.tuple [] : AV) 16 fn.ntmps) ([] ++ List.replicate fn.ntmps (.tuple [])) := by
            intro i
            rw [Tr.get_mk _ _ _ _ (by omega), List.nil_append, List.getElem?_replicate]
          obtain ⟨t0, h1, h2⟩ := Tr.sets_rep args fn.ntmps [] _ h0 hle.1
          have h1' := h1 (β := Option (AV × Option (AH × Nat)))
          simp only [List.length_nil] at h1'
          rw [h1', natK_eq, lenR_eq] at h
          rw [List.nil_append] at h2
          cases hrec : a fn.ntmps c t0 H H.length with
          | none => rw [hrec] at h; cases h
          | some q =>
            obtain ⟨ex, t1, H1, lo1⟩ := q
            rw [hrec] at h
            obtain ⟨fr1, h3, h4, _⟩ := hab _ _ _ _ _ _ _ _ _ _ h2 (h2.bound (by simp; omega)) hrec
            rw [h3]
            cases ex with
            | exit id => cases h
            | normal =>
              simp only [aresultsT_eq h4, avK_eq, Nat.beq_eq] at h ⊢
              exact h
            | ret =>
              simp only [aresultsT_eq h4, avK_eq, Nat.beq_eq] at h ⊢
              exact h
        · cases h
theorem tev_ok (E : Env) : ∀ n, TevOk (tev E n) (ev E n) := by
  intro n
  induction n with
  | zero => intro nt c t fr H lo ex t' H' lo' hr hb h; simp [tev] at h
  | succ n ih =>
    have hC := tCall_ok (E := E) ih
    intro nt c t fr H lo ex t' H' lo' hr hb h
    cases c with
    | skip => simp only [tev] at h; cases h; exact ⟨fr, rfl, hr, hb⟩
    | label l => simp only [tev] at h; cases h; exact ⟨fr, rfl, hr, hb⟩
    | exit id => simp only [tev] at h; cases h; exact ⟨fr, rfl, hr, hb⟩
    | ret => simp only [tev] at h; cases h; exact ⟨fr, rfl, hr, hb⟩
    | rangeFunc f ps as b => simp [tev] at h
    | goto l => simp [tev] at h
    | refuse why => simp [tev] at h
    | scope b =>
      rw [tev] at h
      rw [ev]
      exact ih _ _ _ _ _ _ _ _ _ _ hr hb h
    | region id ops draw =>
      cases draw with
      | false =>
        rw [tev] at h
        rw [ev]
        split at h
        · rename_i t1 H1 lo1 he
          cases h
          obtain ⟨fr1, h1, h2, h3⟩ := tOps_ok hC _ hr he
          exact ⟨fr1, by rw [h1], h2, hb.shr h3⟩
        · cases h
      | true =>
        rw [tev] at h
        rw [ev]
        split at h
        · rename_i t1 H1 lo1 he
          cases h
          obtain ⟨fr1, h1, h2, h3⟩ := tDraw_ok hC hr hb he
          exact ⟨fr1, by rw [h1], h2, h3⟩
        · cases h
    | cond c x y =>
      rw [tev, aevalT_eq hr] at h
      rw [ev]
      split at h
      · rename_i hc; rw [hc]; exact ih _ _ _ _ _ _ _ _ _ _ hr hb h
      · rename_i hc; rw [hc]; exact ih _ _ _ _ _ _ _ _ _ _ hr hb h
      · cases h
    | seq a b =>
      rw [tev] at h
      rw [ev]
      cases hq : tev E n nt a t H lo with
      | none => rw [hq] at h; cases h
      | some q =>
        obtain ⟨ex1, t1, H1, lo1⟩ := q
        rw [hq] at h
        obtain ⟨fr1, h1, h2, h3⟩ := ih _ _ _ _ _ _ _ _ _ _ hr hb hq
        rw [h1]
        cases ex1 with
        | normal => exact ih _ _ _ _ _ _ _ _ _ _ h2 h3 h
        | exit id => cases h; exact ⟨fr1, rfl, h2, h3⟩
        | ret => cases h; exact ⟨fr1, rfl, h2, h3⟩
    | block id b =>
      rw [tev] at h
      rw [ev]
      cases hq : tev E n nt b t H lo with
      | none => rw [hq] at h; cases h
      | some q =>
        obtain ⟨ex1, t1, H1, lo1⟩ := q
        rw [hq] at h
        obtain ⟨fr1, h1, h2, h3⟩ := ih _ _ _ _ _ _ _ _ _ _ hr hb hq
        rw [h1]
        cases ex1 with
        | normal => cases h; exact ⟨fr1, rfl, h2, h3⟩
        | exit i =>
          simp only [Nat.beq_eq] at h ⊢
          split at h
          · rename_i hi; cases h; exact ⟨fr1, by rw [if_pos hi], h2, h3⟩
          · rename_i hi; cases h; exact ⟨fr1, by rw [if_neg hi], h2, h3⟩
        | ret => cases h; exact ⟨fr1, rfl, h2, h3⟩
    | loop b =>
      rw [tev] at h
      rw [ev]
      cases hq : tev E n nt b t H lo with
      | none => rw [hq] at h; cases h
      | some q =>
        obtain ⟨ex1, t1, H1, lo1⟩ := q
        rw [hq] at h
        obtain ⟨fr1, h1, h2, h3⟩ := ih _ _ _ _ _ _ _ _ _ _ hr hb hq
        rw [h1]
        cases ex1 with
        | normal => exact ih _ _ _ _ _ _ _ _ _ _ h2 h3 h
        | exit id => cases h; exact ⟨fr1, rfl, h2, h3⟩
        | ret => cases h; exact ⟨fr1, rfl, h2, h3⟩
/-- A closed call, reckoned. -/
theorem ev_of_tev {E : Env} {n : Nat} {f : FuncId} {args : List AV} {H : AH} {r : AV × Option (AH × Nat)} (h : tCall E (tev E n) f args H = some r) : evCall E (ev E n) f args H = some r := tCall_ok (tev_ok E n) _ _ _ _ h
end Go.Ve
