/- Regions that draw their order, third: a list of operations in the text's order, the checks, and that any other order gives the same. -/
import Derived.Test.YtkgkbpfjdlnoeaaVeG2
namespace Go.Ve
open Go Go.RowKit

noncomputable def genStep (P : Program) (call : CallF) (ops : Array Oper) (hd : List Oper) (bs als : List Nat) (N0 i : Nat) (o : Oper) (fr : List AV) (Hm : AH) : Option Rec :=
  match gwant ops hd bs i o fr with
  | none => none
  | some false => some ⟨.tuple [], none⟩
  | some true => genOp P call (gρ hd bs i fr) (N0 + als.idxOf i) o Hm
def wrs (bs : List Nat) (i : Nat) : Nat → List Rec → List Nat
  | _, [] => []
  | k, r :: rs =>
    match r.ch with
    | some c => if unord bs i k then c.1 :: wrs bs i (k + 1) rs else wrs bs i (k + 1) rs
    | none => wrs bs i (k + 1) rs
theorem wrs_mem {bs : List Nat} {i : Nat} : ∀ {rs : List Rec} {k j : Nat} {r : Rec} {c : Nat × ABlk}, rs[j]? = some r → r.ch = some c → unord bs i (k + j) = true → c.1 ∈ wrs bs i k rs
  | [], _, _, _, _, h, _, _ => by simp at h
  | x :: rs, k, 0, r, c, h, hc, hu => by
    simp at h
    subst h
    rw [Nat.add_zero] at hu
    simp [wrs, hc, hu]
  | x :: rs, k, j + 1, r, c, h, hc, hu => by
    have ih := wrs_mem (rs := rs) (k := k + 1) (j := j) (by simpa using h) hc (by rwa [show k + 1 + j = k + (j + 1) by omega])
    unfold wrs
    split
    · split
      · exact List.mem_cons_of_mem _ ih
      · exact ih
    · exact ih
def applyR (H : AH) (r : Rec) : AH :=
  match r.ch with
  | some c => H.set c.1 c.2
  | none => H
noncomputable def genLex (P : Program) (call : CallF) (ops : Array Oper) (hd : List Oper) (bs als : List Nat) (N0 : Nat) : Nat → List Oper → List AV → AH → List Rec → Option (List Rec)
  | _, [], _, _, acc => some acc
  | i, o :: r, fr, H, acc =>
    match genStep P call ops hd bs als N0 i o fr (maskL (wrs bs i 0 acc) H) with
    | none => none
    | some rc => genLex P call ops hd bs als N0 (i + 1) r (aput fr o.dst rc.v) (applyR H rc) (acc ++ [rc])
def updZ (os : List Oper) (rs : List Rec) : List (Option (Nat × AV)) := (os.zip rs).map fun p => p.1.dst.map fun s => (s, p.2.v)
def allD (_ : Nat) : Bool := true
theorem foldD_shift {α : Type} : ∀ (us : List (Option (Nat × α))) (k : Nat) (l : List α), foldD allD k us l = foldD allD 0 us l
  | [], _, _ => rfl
  | none :: us, k, l => by rw [foldD, foldD, foldD_shift us (k + 1), foldD_shift us 1]
  | some u :: us, k, l => by rw [foldD, foldD, foldD_shift us (k + 1), foldD_shift us 1]; rfl
theorem genLex_ok {P : Program} {call : CallF} {ops : Array Oper} {hd : List Oper} {bs als : List Nat} {N0 : Nat} : ∀ (rest : List Oper) (i : Nat) (fr : List AV) (H : AH) (acc recs : List Rec), genLex P call ops hd bs als N0 i rest fr H acc = some recs →
    ∃ rs, recs = acc ++ rs ∧ rs.length = rest.length ∧ ∀ (j : Nat) (o : Oper), rest[j]? = some o → ∃ r, rs[j]? = some r ∧
      genStep P call ops hd bs als N0 (i + j) o (foldD allD 0 ((updZ rest rs).take j) fr) (maskL (wrs bs (i + j) 0 (acc ++ rs.take j)) (foldD allD 0 ((rs.map (·.ch)).take j) H)) = some r
  | [], i, fr, H, acc, recs, h => by
    simp only [genLex] at h
    cases h
    exact ⟨[], by simp, rfl, fun j o h => by simp at h⟩
  | o :: rest, i, fr, H, acc, recs, h => by
    simp only [genLex] at h
    split at h
    · cases h
    · rename_i rc hst
      obtain ⟨rs, h1, h2, h3⟩ := genLex_ok rest _ _ _ _ _ h
      refine ⟨rc :: rs, by rw [h1]; simp, by simp [h2], fun j o' hj => ?_⟩
      cases j with
      | zero =>
        simp at hj
        subst hj
        refine ⟨rc, rfl, ?_⟩
        simpa [foldD] using hst
      | succ j =>
        obtain ⟨r, h4, h5⟩ := h3 j o' (by simpa using hj)
        refine ⟨r, by simpa using h4, ?_⟩
        have e1 : foldD allD 0 ((updZ (o :: rest) (rc :: rs)).take (j + 1)) fr = foldD allD 0 ((updZ rest rs).take j) (aput fr o.dst rc.v) := by
          simp only [updZ, List.zip_cons_cons, List.map_cons, List.take_succ_cons]
          cases hd : o.dst with
          | none => rw [Option.map_none, foldD, foldD_shift]; rfl
          | some s => rw [Option.map_some, foldD, foldD_shift]; rfl
        have e2 : foldD allD 0 (((rc :: rs).map (·.ch)).take (j + 1)) H = foldD allD 0 ((rs.map (·.ch)).take j) (applyR H rc) := by
          simp only [List.map_cons, List.take_succ_cons]
          unfold applyR
          cases hc : rc.ch with
          | none => rw [foldD, foldD_shift]
          | some c => rw [foldD, foldD_shift]; rfl
        rw [e1, e2, show i + (j + 1) = i + 1 + j by omega]
        simpa using h5

/-- The free places: by the number of the operation that fills each. -/
def allocs : Nat → List Oper → List Nat
  | _, [] => []
  | k, o :: l => if isNew o.op = true then k :: allocs (k + 1) l else allocs (k + 1) l
theorem allocs_mem : ∀ {l : List Oper} {k j : Nat} {o : Oper}, l[j]? = some o → isNew o.op = true → k + j ∈ allocs k l
  | [], _, _, _, h, _ => by simp at h
  | x :: l, k, 0, o, h, ho => by
    simp at h; subst h
    simp [allocs, ho]
  | x :: l, k, j + 1, o, h, ho => by
    have ih := allocs_mem (l := l) (k := k + 1) (j := j) (by simpa using h) ho
    rw [show k + (j + 1) = k + 1 + j by omega]
    unfold allocs
    split
    · exact List.mem_cons_of_mem _ ih
    · exact ih
def okB (bs als : List Nat) (N0 i b : Nat) : Bool := decide (b < N0) || match als[b - N0]? with
  | some k => k == i || (bs.getD i 0).testBit k
  | none => false
def genChk (ops : Array Oper) (hd : List Oper) (bs als : List Nat) (N0 : Nat) (recs : List Rec) : Nat → List Oper → List Rec → List AV → AH → Bool
  | _, [], _, _, _ => true
  | _, _ :: _, [], _, _ => false
  | i, o :: r, rc :: rs, fr, H =>
    lateOk o (gρ hd bs i fr) (maskL (wrs bs i 0 (recs.take i)) H) (wrs bs i (i + 1) rs) &&
    (match rc.ch with
      | some c => !(wrs bs i (i + 1) rs).contains c.1 && okB bs als N0 i c.1 && c.2.onB (okB bs als N0 i)
      | none => true) &&
    rc.v.onB (okB bs als N0 i) &&
    genChk ops hd bs als N0 recs (i + 1) r rs (aput fr o.dst rc.v) (applyR H rc)
theorem genChk_ok {ops : Array Oper} {hd : List Oper} {bs als : List Nat} {N0 : Nat} {recs : List Rec} : ∀ (rest : List Oper) (i : Nat) (rs : List Rec) (fr : List AV) (H : AH), genChk ops hd bs als N0 recs i rest rs fr H = true →
    ∀ (j : Nat) (o : Oper) (rc : Rec), rest[j]? = some o → rs[j]? = some rc →
      lateOk o (gρ hd bs (i + j) (foldD allD 0 ((updZ rest rs).take j) fr)) (maskL (wrs bs (i + j) 0 (recs.take (i + j))) (foldD allD 0 ((rs.map (·.ch)).take j) H)) (wrs bs (i + j) (i + j + 1) (rs.drop (j + 1))) = true ∧
      (∀ c, rc.ch = some c → c.1 ∉ wrs bs (i + j) (i + j + 1) (rs.drop (j + 1)) ∧ okB bs als N0 (i + j) c.1 = true ∧ c.2.onB (okB bs als N0 (i + j)) = true) ∧ rc.v.onB (okB bs als N0 (i + j)) = true
  | [], _, _, _, _, _, j, o, rc, h, _ => by simp at h
  | _ :: _, _, [], _, _, _, j, o, rc, _, h => by simp at h
  | o :: rest, i, rc :: rs, fr, H, h, j, o', rc', hj, hr => by
    simp only [genChk, Bool.and_eq_true] at h
    obtain ⟨⟨⟨h1, h2⟩, h3⟩, h4⟩ := h
    cases j with
    | zero =>
      simp at hj hr
      subst hj; subst hr
      refine ⟨by simpa [foldD] using h1, fun c hc => ?_, h3⟩
      rw [hc] at h2
      simp only [Bool.and_eq_true] at h2
      exact ⟨by simpa using h2.1.1, h2.1.2, h2.2⟩
    | succ j =>
      have ih := genChk_ok rest (i + 1) rs _ _ h4 j o' rc' (by simpa using hj) (by simpa using hr)
      have e1 : foldD allD 0 ((updZ (o :: rest) (rc :: rs)).take (j + 1)) fr = foldD allD 0 ((updZ rest rs).take j) (aput fr o.dst rc.v) := by
        simp only [updZ, List.zip_cons_cons, List.map_cons, List.take_succ_cons]
        cases hd : o.dst with
        | none => rw [Option.map_none, foldD, foldD_shift]; rfl
        | some s => rw [Option.map_some, foldD, foldD_shift]; rfl
      have e2 : foldD allD 0 (((rc :: rs).map (·.ch)).take (j + 1)) H = foldD allD 0 ((rs.map (·.ch)).take j) (applyR H rc) := by
        simp only [List.map_cons, List.take_succ_cons]
        unfold applyR
        cases hc : rc.ch with
        | none => rw [foldD, foldD_shift]
        | some c => rw [foldD, foldD_shift]; rfl
      rw [e1, e2, show i + (j + 1) = i + 1 + j by omega]
      simpa using ih
def nodupD : List Oper → Bool
  | [] => true
  | o :: l => (match o.dst with | none => true | some s => l.all fun o' => o'.dst != some s) && nodupD l
theorem nodupD_ok : ∀ {l : List Oper}, nodupD l = true → ∀ {i j : Nat} {oi oj : Oper} {s : Tmp}, i ≠ j → l[i]? = some oi → l[j]? = some oj → oi.dst = some s → oj.dst ≠ some s
  | [], _, _, _, _, _, _, _, h, _, _ => by simp at h
  | o :: l, h, i, j, oi, oj, s, hij, hi, hj, hd => by
    simp only [nodupD, Bool.and_eq_true] at h
    cases i with
    | zero =>
      cases j with
      | zero => exact absurd rfl hij
      | succ j =>
        simp at hi hj
        subst hi
        rw [hd] at h
        have := List.all_eq_true.1 h.1 oj (List.mem_of_getElem? hj)
        simpa using this
    | succ i =>
      cases j with
      | zero =>
        simp at hi hj
        subst hj
        intro he
        rw [he] at h
        have := List.all_eq_true.1 h.1 oi (List.mem_of_getElem? hi)
        rw [hd] at this
        simp at this
      | succ j => exact nodupD_ok h.2 (i := i) (j := j) (by omega) (by simpa using hi) (by simpa using hj) hd
end Go.Ve
