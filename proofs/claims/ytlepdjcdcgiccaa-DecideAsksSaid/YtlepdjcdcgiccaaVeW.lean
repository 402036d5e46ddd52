/- Open evaluation of a region that draws its order: the records of its operations are given, the rest is walked. -/
import Derived.Test.YtlepdjcdcgiccaaVe13
namespace Go.Ve
open Go Go.RowKit

theorem WP.regionG2 {E : Env} {id : Nat} {ops : Array Oper} {fr : List AV} {H : AH} {lo : Nat} {Q : Post} {n : Nat} {recs : List Rec} {us : List (Option (Nat × AV))} {fr1 : List AV} {H1 : AH} {lo1 : Nat}
    (hl : (stillB ops || newB E.P ops) = false) (hk : (tailQ ops).isNone = true) (hn : Nat.beq (genAt ops) n = true)
    (hs : (fwdB ops && decide (n ≤ ops.size) && nodupD (ops.toList.take n) && (decide (n = ops.size) || tailB ops n)) = true)
    (hx : genLex E.P (evCall E (ev E 0)) ops (ops.toList.take n) (bsOf ops) (allocs 0 (ops.toList.take n)) H.length 0 (ops.toList.take n) fr (H ++ List.replicate (allocs 0 (ops.toList.take n)).length .dead) [] = some recs)
    (hc : genChk ops (ops.toList.take n) (bsOf ops) (allocs 0 (ops.toList.take n)) H.length recs 0 (ops.toList.take n) recs fr (H ++ List.replicate (allocs 0 (ops.toList.take n)).length .dead) = true)
    (hu : updZ (ops.toList.take n) recs = us) (hf : foldD allD 0 us fr = fr1) (hH : HD ops n recs H allD = H1) (hlo : lows recs lo = lo1)
    (h : opsW E false ops (ops.toList.drop n) fr1 H1 lo1 (Q .normal)) : WP E (.region id ops true) fr H lo Q := by
  obtain ⟨m, fr', H', lo', h1, h2⟩ := opsW_ok _ h
  have hl' := (Bool.or_eq_false_iff).1 hl
  have hk' : tailQ ops = none := by simpa using hk
  have hn' : genAt ops = n := Nat.eq_of_beq_eq_true hn
  have key : evGen E.P (evCall E (ev E m)) ops (genAt ops) fr H lo = some (fr', H', lo') := by
    rw [hn']
    unfold evGen
    rw [if_pos hs, genLex_grows (evCall_grows (E := E) fun _ _ _ _ _ => ev_le (Nat.zero_le m)) _ hx]
    simp only
    rw [if_pos hc, frD, hu, hf, hH, hlo]
    exact h1
  exact WP.regionG hl hk' key h2
end Go.Ve
