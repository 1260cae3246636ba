/- Each constant of the program is the reference's: the law answers true; no condition. -/
import Derived.Test.YtbbendmghdccpaaPFnExactConstantsx0
import Derived.Test.YtbbendmghdccpaaPFnExactConstantsx1
import Derived.Test.YtbbendmghdccpaaCore
namespace Go.Proofs.Ytbbendmghdccpaa.Pure
open Go.RowKit Go.Proofs.Ytbbendmghdccpaa.PFnExactConstants Go.Proofs.Ytbbendmghdccpaa.Core Go.Proofs.YtbbendmghdccpaaW.PrintWords Go.Proofs.YtbbendmghdccpaaW.PrintLast
set_option linter.unusedSimpArgs false
set_option linter.unusedVariables false

theorem FnExactConstants : laws_FnExactConstants.Pure := by
  unfold laws_FnExactConstants.Pure laws_FnExactConstants.f
  simp

end Go.Proofs.Ytbbendmghdccpaa.Pure
