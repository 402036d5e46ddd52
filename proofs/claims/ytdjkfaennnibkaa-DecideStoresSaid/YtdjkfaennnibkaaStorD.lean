/- Which responses may be stored. -/
import Derived.Test.YtdjkfaennnibkaaMeth
import Derived.Test.YtdjkfaennnibkaaVe15
namespace Go.Proofs.Ytdjkfaennnibkaa
open Go Go.Ve

def finv (st : Int) : Bool := decide (200 ≤ st) && decide (st ≤ 599)
def storv (me : List UInt8) (qns au : Bool) (st mma msma mse : Int) (mns mmr mmu mpb mpv ex la av : Bool) : Bool :=
  !(me != [71, 69, 84]) && (finv st && (!(st == 206) && (!(st == 304) && (!mns && (!qns && (!mpv && (!av && (!(mmu && !(unders.contains st)) && (!(au && (!mmr && (!mpb && decide (msma < 0)))) && (decide (msma ≥ 0) || (decide (mma ≥ 0) || (ex || (mpb || ((heurs.contains st && la) || decide (mse ≥ 0)))))))))))))))
theorem final_ok (s : Int) (H : AH) : CW env 19 [.int .i64 s] H fun v ch => v = .bool (finv s) ∧ ch = none := final s H

end Go.Proofs.Ytdjkfaennnibkaa
