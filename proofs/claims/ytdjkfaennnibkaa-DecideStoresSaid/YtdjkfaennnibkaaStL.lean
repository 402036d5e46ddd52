/- The law of what may be stored: its example; what the walks ask of Storable. -/
import Derived.Test.YtdjkfaennnibkaaPick
import Derived.Test.YtdjkfaennnibkaaStorD
namespace Go.Proofs.Ytdjkfaennnibkaa
open Go Go.Ve

theorem livesS (B0 : ABlk) : evCall env (ev env 40) 10 [] [B0] = some (.bool true, none) := by kernel_rfl
def S1 : Prop := ∀ (me : List UInt8) (qma qsma qmx qmf qsw qse : Int) (qnc qns qnt qoi qmr qpr qmu qpb qpv : Bool) (au : Bool) (st : Int) (mma msma mmx mmf msw mse : Int) (mnc mns mnt moi mmr mpr mmu mpb mpv : Bool) (ex la av : Bool) (B0 : ABlk), CW env 11 [.agg [.str me, .int .i64 qma, .int .i64 qsma, .int .i64 qmx, .int .i64 qmf, .int .i64 qsw, .int .i64 qse, .bool qnc, .bool qns, .bool qnt, .bool qoi, .bool qmr, .bool qpr, .bool qmu, .bool qpb, .bool qpv, .bool au, .int .i64 st, .int .i64 mma, .int .i64 msma, .int .i64 mmx, .int .i64 mmf, .int .i64 msw, .int .i64 mse, .bool mnc, .bool mns, .bool mnt, .bool moi, .bool mmr, .bool mpr, .bool mmu, .bool mpb, .bool mpv, .bool ex, .bool la, .bool av]] [B0] fun v ch => v = .bool (storv me qns au st mma msma mse mns mmr mmu mpb mpv ex la av) ∧ ch = none
def S3 : Prop := ∀ (me : List UInt8) (qma qsma qmx qmf qsw qse : Int) (qnc qns qnt qoi qmr qpr qmu qpb qpv : Bool) (au : Bool) (st : Int) (mma msma mmx mmf msw mse : Int) (mnc mns mnt moi mmr mpr mmu mpb mpv : Bool) (ex la av : Bool) (B0 B1 B2 : ABlk), CW env 11 [.agg [.str me, .int .i64 qma, .int .i64 qsma, .int .i64 qmx, .int .i64 qmf, .int .i64 qsw, .int .i64 qse, .bool qnc, .bool qns, .bool qnt, .bool qoi, .bool qmr, .bool qpr, .bool qmu, .bool qpb, .bool qpv, .bool au, .int .i64 st, .int .i64 mma, .int .i64 msma, .int .i64 mmx, .int .i64 mmf, .int .i64 msw, .int .i64 mse, .bool mnc, .bool mns, .bool mnt, .bool moi, .bool mmr, .bool mpr, .bool mmu, .bool mpb, .bool mpv, .bool ex, .bool la, .bool av]] [B0, B1, B2] fun v ch => v = .bool (storv me qns au st mma msma mse mns mmr mmu mpb mpv ex la av) ∧ ch = none
end Go.Proofs.Ytdjkfaennnibkaa
