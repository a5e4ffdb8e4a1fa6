/- What a call of each Go function that FnExactUnseen reaches comes to, as a Lean function: texts of the kit's print, turned by wip/remake.py. No condition beyond what each names. -/
import Derived.Test.YtdakhelapeojgaaProg
import Derived.Below
import Derived.Deep.Draws
import Derived.Deep.AppendLies
import Derived.Maps.AppendAt
import Derived.OwnWalk
import Derived.Laws.BytesArg
import Derived.Laws.MakeOwn
import Derived.Laws.OwnMore
import Derived.Deep.OwnRows
import Derived.Tactics
import Derived.Lib.ConvBytes
import Derived.Laws.Slices
import Derived.WalkKit
import Derived.KernelRfl
import Derived.RowKit3
import Derived.Deep.LoopGhost
import Derived.Deep.QuietTactic
import Derived.BigQuiet
import Derived.WideLaws
import Derived.Deep.DeepCutAuto
import Derived.Deep.CutBlock
import Derived.Deep.RegionHeld3
import Derived.Laws.Rows
import Derived.Lib.AppendStr
import Derived.ArgAppend
import Derived.Laws.IdiomCopy
import Derived.OrdersHeld
import Derived.Laws.BitsLemmas
import Derived.RowKit
import Derived.Test.YtdakhelapeojgaaWWords
import Derived.Test.YtdakhelapeojgaaWLast
import Derived.Test.YtdakhelapeojgaaWTab
import Derived.Test.YtdakhelapeojgaaWFour
import Derived.Test.YtdakhelapeojgaaWQPut
import Derived.Test.YtdakhelapeojgaaWApart
import Derived.Test.YtdakhelapeojgaaWArr
import Derived.Test.YtdakhelapeojgaaWZeros
import Derived.Test.YtdakhelapeojgaaWFoot
import Derived.Test.YtdakhelapeojgaaWKept
import Derived.Test.YtdakhelapeojgaaWShare
import Derived.Test.YtdakhelapeojgaaWN
import Derived.Test.YtdakhelapeojgaaWFootNe
import Derived.Test.YtdakhelapeojgaaWAt
import Derived.Test.YtdakhelapeojgaaWEqStruct
import Derived.Test.YtdakhelapeojgaaWRepsOne
import Derived.Test.YtdakhelapeojgaaWInv
import Derived.Test.YtdakhelapeojgaaWInvWords
import Derived.Test.YtdakhelapeojgaaWGuard
import Derived.Test.YtdakhelapeojgaaWNEv
import Derived.Test.YtdakhelapeojgaaWMore
namespace Go.Proofs.Ytdakhelapeojgaa.QFnExactUnseen
open Go.RowKit Go.Proofs.YtdakhelapeojgaaW.PrintWords Go.Proofs.YtdakhelapeojgaaW.PrintLast Go.Proofs.YtdakhelapeojgaaW.PrintMore
attribute [local go_sem] max2_int min2_int max_two min_two max_three min_three max_four min_four   -- for this text's walks alone
set_option linter.unusedVariables false
set_option linter.unusedSimpArgs false



def errW : Option Int → Value
  | none => .nilIface
  | some c => .iface 0 (.int .i64 c)
theorem errW_none : errW none = .nilIface := rfl
theorem errW_some (c : Int) : errW (some c) = .iface 0 (.int .i64 c) := rfl

theorem info3 : (Try.prog.info? 3).map (fun i => (i.zero, i.size, i.bytes)) = some (some (.int .i64 0), 1, 8) := by kernel_rfl
-- the values' own types

end Go.Proofs.Ytdakhelapeojgaa.QFnExactUnseen
