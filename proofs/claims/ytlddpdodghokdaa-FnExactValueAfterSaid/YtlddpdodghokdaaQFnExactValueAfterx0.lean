/- What a call of each Go function that FnExactValueAfter reaches comes to, as a Lean function: texts of the kit's print, turned by wip/remake.py. No condition beyond what each names. -/
import Derived.Test.YtlddpdodghokdaaProg
import Derived.Below
import Derived.Deep.Draws
import Derived.Deep.AppendLies
import Derived.Maps.AppendAt
import Derived.OwnWalk
import Derived.Laws.BytesArg
import Derived.Laws.MakeOwn
import Derived.Laws.OwnMore
import Derived.Deep.OwnRows
import Derived.Tactics
import Derived.Lib.ConvBytes
import Derived.Laws.Slices
import Derived.WalkKit
import Derived.KernelRfl
import Derived.RowKit3
import Derived.Deep.LoopGhost
import Derived.Deep.QuietTactic
import Derived.BigQuiet
import Derived.WideLaws
import Derived.Deep.DeepCutAuto
import Derived.Deep.CutBlock
import Derived.Deep.RegionHeld3
import Derived.Laws.Rows
import Derived.Lib.AppendStr
import Derived.ArgAppend
import Derived.Laws.IdiomCopy
import Derived.OrdersHeld
import Derived.Laws.BitsLemmas
import Derived.RowKit
import Derived.Test.YtlddpdodghokdaaWWords
import Derived.Test.YtlddpdodghokdaaWLast
import Derived.Test.YtlddpdodghokdaaWTab
import Derived.Test.YtlddpdodghokdaaWFour
import Derived.Test.YtlddpdodghokdaaWQPut
import Derived.Test.YtlddpdodghokdaaWApart
import Derived.Test.YtlddpdodghokdaaWArr
import Derived.Test.YtlddpdodghokdaaWZeros
import Derived.Test.YtlddpdodghokdaaWFoot
import Derived.Test.YtlddpdodghokdaaWKept
import Derived.Test.YtlddpdodghokdaaWShare
import Derived.Test.YtlddpdodghokdaaWN
import Derived.Test.YtlddpdodghokdaaWFootNe
import Derived.Test.YtlddpdodghokdaaWAt
import Derived.Test.YtlddpdodghokdaaWEqStruct
import Derived.Test.YtlddpdodghokdaaWRepsOne
import Derived.Test.YtlddpdodghokdaaWInv
import Derived.Test.YtlddpdodghokdaaWInvWords
import Derived.Test.YtlddpdodghokdaaWGuard
import Derived.Test.YtlddpdodghokdaaWNEv
import Derived.Test.YtlddpdodghokdaaWMore
namespace Go.Proofs.Ytlddpdodghokdaa.QFnExactValueAfter
open Go.RowKit Go.Proofs.YtlddpdodghokdaaW.PrintWords Go.Proofs.YtlddpdodghokdaaW.PrintLast Go.Proofs.YtlddpdodghokdaaW.PrintMore
attribute [local go_sem] max2_int min2_int max_two min_two max_three min_three max_four min_four   -- for this text's walks alone
set_option linter.unusedVariables false
set_option linter.unusedSimpArgs false



def errW : Option Int → Value
  | none => .nilIface
  | some c => .iface 0 (.int .i64 c)
theorem errW_none : errW none = .nilIface := rfl
theorem errW_some (c : Int) : errW (some c) = .iface 0 (.int .i64 c) := rfl

-- the values' own types

end Go.Proofs.Ytlddpdodghokdaa.QFnExactValueAfter
