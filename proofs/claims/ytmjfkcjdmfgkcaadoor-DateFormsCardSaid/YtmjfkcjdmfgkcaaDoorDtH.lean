/- The steps of reading, under names that are not reckoned. -/
import Derived.Test.YtmjfkcjdmfgkcaaDoorDtQ
set_option linter.unusedSimpArgs false
set_option linter.unusedVariables false
namespace Go.Cal
noncomputable def hidf {α : Type} (x : α) : α := Classical.choose (p := fun y => y = x) ⟨x, rfl⟩
theorem hidf_eq {α : Type} (x : α) : hidf x = x := Classical.choose_spec (p := fun y => y = x) ⟨x, rfl⟩
noncomputable def tkVh : Nat → B8 → B8 := hidf tkV
noncomputable def tkSh : Nat → B8 → B8 := hidf tkS
noncomputable def tkBh : Nat → B8 → Bool → Bool := hidf tkB
noncomputable def msBh : B8 → B8 → Bool → Bool := hidf msB
noncomputable def nmBh : Nat → B8 → Bool → Bool := hidf nmB
noncomputable def nXh : B8 → Int := hidf nX
noncomputable def nmXh : List B8 → Nat → RS → Int := hidf nmX
noncomputable def nmRh : List B8 → Nat → RS → RS := hidf nmR
noncomputable def lateh : Int → Int → Int := hidf late
noncomputable def rd1h : B8 → CV × RS := hidf rd1
noncomputable def rd2h : B8 → Int → CV × RS := hidf rd2
noncomputable def rd3h : B8 → CV × RS := hidf rd3
theorem tkVh_eq : tkVh = tkV := hidf_eq _
theorem tkSh_eq : tkSh = tkS := hidf_eq _
theorem tkBh_eq : tkBh = tkB := hidf_eq _
theorem msBh_eq : msBh = msB := hidf_eq _
theorem nmBh_eq : nmBh = nmB := hidf_eq _
theorem nXh_eq : nXh = nX := hidf_eq _
theorem nmXh_eq : nmXh = nmX := hidf_eq _
theorem nmRh_eq : nmRh = nmR := hidf_eq _
theorem lateh_eq : lateh = late := hidf_eq _
theorem rd1h_eq : rd1h = rd1 := hidf_eq _
theorem rd2h_eq : rd2h = rd2 := hidf_eq _
theorem rd3h_eq : rd3h = rd3 := hidf_eq _
end Go.Cal
