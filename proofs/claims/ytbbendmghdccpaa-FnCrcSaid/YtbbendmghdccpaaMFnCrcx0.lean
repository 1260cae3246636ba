/- Plain functions, one for each Go function that the law reaches, and the proof that the machine's call comes to their answer; each theorem says its conditions itself. -/
import Derived.Test.YtbbendmghdccpaaProg
import Derived.Below
import Derived.Deep.Draws
import Derived.Deep.AppendLies
import Derived.Maps.AppendAt
import Derived.OwnWalk
import Derived.Laws.BytesArg
import Derived.Laws.MakeOwn
import Derived.Laws.OwnMore
import Derived.Deep.OwnRows
import Derived.Tactics
import Derived.Lib.ConvBytes
import Derived.Laws.Slices
import Derived.WalkKit
import Derived.KernelRfl
import Derived.RowKit3
import Derived.Deep.LoopGhost
import Derived.Deep.QuietTactic
import Derived.BigQuiet
import Derived.WideLaws
import Derived.Deep.DeepCutAuto
import Derived.Deep.CutBlock
import Derived.Deep.RegionHeld3
import Derived.Laws.Rows
import Derived.Lib.AppendStr
import Derived.ArgAppend
import Derived.Laws.IdiomCopy
import Derived.OrdersHeld
import Derived.Laws.BitsLemmas
import Derived.RowKit
import Derived.Test.YtbbendmghdccpaaWWords
import Derived.Test.YtbbendmghdccpaaWLast
import Derived.Test.YtbbendmghdccpaaWTab
import Derived.Test.YtbbendmghdccpaaWFour
import Derived.Test.YtbbendmghdccpaaWQPut
import Derived.Test.YtbbendmghdccpaaWApart
import Derived.Test.YtbbendmghdccpaaWArr
import Derived.Test.YtbbendmghdccpaaWZeros
import Derived.Test.YtbbendmghdccpaaWFoot
import Derived.Test.YtbbendmghdccpaaWKept
import Derived.Test.YtbbendmghdccpaaWShare
import Derived.Test.YtbbendmghdccpaaWN
import Derived.Test.YtbbendmghdccpaaWFootNe
import Derived.Test.YtbbendmghdccpaaWAt
import Derived.Test.YtbbendmghdccpaaWEqStruct
import Derived.Test.YtbbendmghdccpaaWRepsOne
import Derived.Test.YtbbendmghdccpaaWInv
import Derived.Test.YtbbendmghdccpaaWInvWords
import Derived.Test.YtbbendmghdccpaaWGuard
import Derived.Test.YtbbendmghdccpaaWNEv
import Derived.Test.YtbbendmghdccpaaWMore
namespace Go.Proofs.Ytbbendmghdccpaa.PFnCrc
open Go.RowKit Go.Proofs.YtbbendmghdccpaaW.PrintWords Go.Proofs.YtbbendmghdccpaaW.PrintLast Go.Proofs.YtbbendmghdccpaaW.PrintMore
attribute [local go_sem] max2_int min2_int max_two min_two max_three min_three max_four min_four   -- for this text's walks alone
set_option linter.unusedVariables false
set_option linter.unusedSimpArgs false



def errW : Option Int → Value
  | none => .nilIface
  | some c => .iface 0 (.int .i64 c)
theorem errW_none : errW none = .nilIface := rfl
theorem errW_some (c : Int) : errW (some c) = .iface 0 (.int .i64 c) := rfl

theorem info5 : (Try.prog.info? 5).map (fun i => (i.zero, i.size, i.bytes)) = some (some (.int .u8 0), 1, 1) := by kernel_rfl
-- the values' own types

end Go.Proofs.Ytbbendmghdccpaa.PFnCrc
