/- Plain functions, one for each Go function that the law reaches, and the proof that the machine's call comes to their answer; each theorem says its conditions itself. -/
import Derived.Test.YtkaoiaolbhklnaaProg
import Derived.Below
import Derived.Deep.Draws
import Derived.Deep.AppendLies
import Derived.Maps.AppendAt
import Derived.OwnWalk
import Derived.Laws.BytesArg
import Derived.Laws.MakeOwn
import Derived.Laws.OwnMore
import Derived.Deep.OwnRows
import Derived.Tactics
import Derived.Lib.ConvBytes
import Derived.Laws.Slices
import Derived.WalkKit
import Derived.KernelRfl
import Derived.RowKit3
import Derived.Deep.LoopGhost
import Derived.Deep.QuietTactic
import Derived.BigQuiet
import Derived.WideLaws
import Derived.Deep.DeepCutAuto
import Derived.Deep.CutBlock
import Derived.Deep.RegionHeld3
import Derived.Laws.Rows
import Derived.Lib.AppendStr
import Derived.ArgAppend
import Derived.Laws.IdiomCopy
import Derived.OrdersHeld
import Derived.Laws.BitsLemmas
import Derived.RowKit
import Derived.Test.YtkaoiaolbhklnaaWWords
import Derived.Test.YtkaoiaolbhklnaaWLast
import Derived.Test.YtkaoiaolbhklnaaWTab
import Derived.Test.YtkaoiaolbhklnaaWFour
import Derived.Test.YtkaoiaolbhklnaaWQPut
import Derived.Test.YtkaoiaolbhklnaaWApart
import Derived.Test.YtkaoiaolbhklnaaWArr
import Derived.Test.YtkaoiaolbhklnaaWZeros
import Derived.Test.YtkaoiaolbhklnaaWFoot
import Derived.Test.YtkaoiaolbhklnaaWKept
import Derived.Test.YtkaoiaolbhklnaaWShare
import Derived.Test.YtkaoiaolbhklnaaWN
import Derived.Test.YtkaoiaolbhklnaaWFootNe
import Derived.Test.YtkaoiaolbhklnaaWAt
import Derived.Test.YtkaoiaolbhklnaaWEqStruct
import Derived.Test.YtkaoiaolbhklnaaWRepsOne
import Derived.Test.YtkaoiaolbhklnaaWInv
import Derived.Test.YtkaoiaolbhklnaaWInvWords
import Derived.Test.YtkaoiaolbhklnaaWGuard
import Derived.Test.YtkaoiaolbhklnaaWNEv
import Derived.Test.YtkaoiaolbhklnaaWMore
namespace Go.Proofs.Ytkaoiaolbhklnaa.PFnExactGetKey
open Go.RowKit Go.Proofs.YtkaoiaolbhklnaaW.PrintWords Go.Proofs.YtkaoiaolbhklnaaW.PrintLast Go.Proofs.YtkaoiaolbhklnaaW.PrintMore
attribute [local go_sem] max2_int min2_int max_two min_two max_three min_three max_four min_four   -- for this text's walks alone
set_option linter.unusedVariables false
set_option linter.unusedSimpArgs false



def errW : Option Int → Value
  | none => .nilIface
  | some c => .iface 0 (.int .i64 c)
theorem errW_none : errW none = .nilIface := rfl
theorem errW_some (c : Int) : errW (some c) = .iface 0 (.int .i64 c) := rfl

theorem info5 : (Try.prog.info? 5).map (fun i => (i.zero, i.size, i.bytes)) = some (some (.int .u8 0), 1, 1) := by kernel_rfl
-- the values' own types

end Go.Proofs.Ytkaoiaolbhklnaa.PFnExactGetKey
