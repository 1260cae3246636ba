/- SameSpot of the program is the reference's, for all keys; no condition but that the numbers are of their kind. -/
import Derived.Test.YtbbendmghdccpaaPFnExactSameSpotx0
import Derived.Test.YtbbendmghdccpaaPFnExactSameSpotx1
import Derived.Test.YtbbendmghdccpaaCore
namespace Go.Proofs.Ytbbendmghdccpaa.Pure
open Go.RowKit Go.Proofs.Ytbbendmghdccpaa.PFnExactSameSpot Go.Proofs.Ytbbendmghdccpaa.Core Go.Proofs.YtbbendmghdccpaaW.PrintWords Go.Proofs.YtbbendmghdccpaaW.PrintLast
set_option linter.unusedSimpArgs false
set_option linter.unusedVariables false

theorem FnExactSameSpot (a0_0 : Int) (a0_1 : Int) (a0_2 : Int) (a0_3 : Int) (a0_4 : Int) (a1_0 : Int) (a1_1 : Int) (a1_2 : Int) (a1_3 : Int) (a1_4 : Int) (h0 : (Lit.int .i64 a0_0).wf = true ∧ (Lit.int .i64 a0_1).wf = true ∧ (Lit.int .i64 a0_2).wf = true ∧ (Lit.int .i64 a0_3).wf = true ∧ (Lit.int .i64 a0_4).wf = true) (h1 : (Lit.int .i64 a1_0).wf = true ∧ (Lit.int .i64 a1_1).wf = true ∧ (Lit.int .i64 a1_2).wf = true ∧ (Lit.int .i64 a1_3).wf = true ∧ (Lit.int .i64 a1_4).wf = true) : laws_FnExactSameSpot.f a0_0 a0_1 a0_2 a0_3 a0_4 a1_0 a1_1 a1_2 a1_3 a1_4 = some true := by
  simp only [laws_FnExactSameSpot.f, laws_toKey.f, spec_SameSpot.f, impl_SameSpot.f, Option.bind_some]
  by_cases c : a0_0 = a1_0
  · simp [c]
  · simp [c]

end Go.Proofs.Ytbbendmghdccpaa.Pure
