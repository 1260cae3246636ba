/- SpotOf of the program is the reference's, for all arguments; no condition. -/
import Derived.Test.YtbbendmghdccpaaPFnExactSpotOfx0
import Derived.Test.YtbbendmghdccpaaPFnExactSpotOfx1
import Derived.Test.YtbbendmghdccpaaCore
namespace Go.Proofs.Ytbbendmghdccpaa.Pure
open Go.RowKit Go.Proofs.Ytbbendmghdccpaa.PFnExactSpotOf Go.Proofs.Ytbbendmghdccpaa.Core Go.Proofs.YtbbendmghdccpaaW.PrintWords Go.Proofs.YtbbendmghdccpaaW.PrintLast
set_option linter.unusedSimpArgs false
set_option linter.unusedVariables false

theorem FnExactSpotOf : laws_FnExactSpotOf.Pure := by
  intro a0 a1 _ _
  simp [laws_FnExactSpotOf.f, spec_SpotOf.f, impl_SpotOf.f]

end Go.Proofs.Ytbbendmghdccpaa.Pure
