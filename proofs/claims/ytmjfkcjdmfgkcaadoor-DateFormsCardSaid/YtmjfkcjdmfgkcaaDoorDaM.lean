/- What the layer of dates answers: the names of days and months. -/
import Derived.Test.YtmjfkcjdmfgkcaaDoorDaB
import Derived.Test.YtmjfkcjdmfgkcaaDoorEe
set_option linter.unusedSimpArgs false
set_option linter.unusedVariables false
namespace Go.Proofs.YtmjfkcjdmfgkcaaDoor
open Go Go.Ve Go.Cal
set_option maxRecDepth 20000
def tsD (l : List (List UInt8)) : List AV := l.map .str
noncomputable def envM : Env := ⟨Tryd.prog, fun _ _ _ => none⟩
theorem envMOk : CallOk envM.P envM.orc := fun f args H v ch h => by cases h
theorem callM : CallOk Tryd.prog (callI envM [] (evI envM [] 100)) := callI_all (E := envM) (fun p hp => by cases hp) names0 mixed0 envMOk 100
theorem months_run : callS envM [] (sevI envM [] 100) 15 [] [] = some (.sl 0 0 13 13 true, some ([.cells (tsD monL) 0 false], 0)) := by kernel_rfl
theorem days_run : callS envM [] (sevI envM [] 100) 13 [] [] = some (.sl 0 0 7 7 true, some ([.cells (tsD dayL) 0 false], 0)) := by kernel_rfl
theorem tsD_flat (l : List (List UInt8)) : AV.flats (tsD l) = true := flats_map _ _ fun _ => rfl
noncomputable def eNames (l : List (List UInt8)) : SpecE := fun args H =>
  match args with
  | [] => some (.ok (.sl H.length 0 l.length l.length true) (some (H ++ [.cells (tsD l) 0 false])))
  | _ => none
theorem eNames_ok {f : FuncId} {l : List (List UInt8)} (h : SC Tryd.prog f [] [] (fun v H => v = .sl 0 0 l.length l.length true ∧ H = [.cells (tsD l) 0 false])) : EntryOk Tryd.prog f (eNames l) := by
  intro args H sr hs K hk
  unfold eNames at hs
  split at hs
  · cases hs
    refine SC.flat h rfl ?_
    rintro v0 T ⟨rfl, rfl⟩
    refine ⟨(fun k hk => by simp at hk; subst hk; exact .inl rfl), _, hk, ?_⟩
    show H ++ [(ABlk.cells (tsD l) 0 false).ren _] = _
    rw [cells_ren (tsD_flat _)]
    rfl
  · cases hs
theorem eMonths_ok : EntryOk Tryd.prog 15 (eNames monL) := eNames_ok (SC.of_call callM (callI_of_sev (fun p hp => by cases hp) months_run))
theorem eDays_ok : EntryOk Tryd.prog 13 (eNames dayL) := eNames_ok (SC.of_call callM (callI_of_sev (fun p hp => by cases hp) days_run))
end Go.Proofs.YtmjfkcjdmfgkcaaDoor
