/- What a call of each Go function that FnRules reaches comes to, as a Lean function: texts of the kit's print, turned by wip/remake.py. No condition beyond what each names. -/
import Derived.Test.YtdakhelapeojgaaVLibS
import Derived.Test.YtdakhelapeojgaaProg
import Derived.Below
import Derived.Deep.Draws
import Derived.Deep.AppendLies
import Derived.Maps.AppendAt
import Derived.OwnWalk
import Derived.Laws.BytesArg
import Derived.Laws.MakeOwn
import Derived.Laws.OwnMore
import Derived.Deep.OwnRows
import Derived.Tactics
import Derived.Lib.ConvBytes
import Derived.Laws.Slices
import Derived.WalkKit
import Derived.KernelRfl
import Derived.RowKit3
import Derived.Deep.LoopGhost
import Derived.Deep.QuietTactic
import Derived.BigQuiet
import Derived.WideLaws
import Derived.Deep.DeepCutAuto
import Derived.Deep.CutBlock
import Derived.Deep.RegionHeld3
import Derived.Laws.Rows
import Derived.Lib.AppendStr
import Derived.ArgAppend
import Derived.Laws.IdiomCopy
import Derived.OrdersHeld
import Derived.Laws.BitsLemmas
import Derived.RowKit
import Derived.Test.YtdakhelapeojgaaVWords
import Derived.Test.YtdakhelapeojgaaVLast
import Derived.Test.YtdakhelapeojgaaVTab
import Derived.Test.YtdakhelapeojgaaVFour
import Derived.Test.YtdakhelapeojgaaVQPut
import Derived.Test.YtdakhelapeojgaaVApart
import Derived.Test.YtdakhelapeojgaaVArr
import Derived.Test.YtdakhelapeojgaaVZeros
import Derived.Test.YtdakhelapeojgaaVFoot
import Derived.Test.YtdakhelapeojgaaVKept
import Derived.Test.YtdakhelapeojgaaVShare
import Derived.Test.YtdakhelapeojgaaVN
import Derived.Test.YtdakhelapeojgaaVFootNe
import Derived.Test.YtdakhelapeojgaaVAt
import Derived.Test.YtdakhelapeojgaaVEqStruct
import Derived.Test.YtdakhelapeojgaaVRepsOne
import Derived.Test.YtdakhelapeojgaaVInv
import Derived.Test.YtdakhelapeojgaaVInvWords
import Derived.Test.YtdakhelapeojgaaVGuard
import Derived.Test.YtdakhelapeojgaaVNEv
import Derived.Test.YtdakhelapeojgaaVMore
namespace Go.Proofs.Ytdakhelapeojgaa.QFnRules
open Go.RowKit Go.Proofs.YtdakhelapeojgaaW.PrintWords Go.Proofs.YtdakhelapeojgaaW.PrintLast Go.Proofs.YtdakhelapeojgaaW.PrintMore
attribute [local go_sem] max2_int min2_int max_two min_two max_three min_three max_four min_four   -- for this text's walks alone
set_option linter.unusedVariables false
set_option linter.unusedSimpArgs false



def errW : Option Int → Value
  | none => .nilIface
  | some c => .iface 0 (.int .i64 c)
theorem errW_none : errW none = .nilIface := rfl
theorem errW_some (c : Int) : errW (some c) = .iface 0 (.int .i64 c) := rfl

theorem info3 : (Try.prog.info? 3).map (fun i => (i.zero, i.size, i.bytes)) = some (some (.int .i64 0), 1, 8) := by kernel_rfl
theorem info4 : (Try.prog.info? 4).map (fun i => (i.zero, i.size, i.bytes)) = some (some (.bool false), 1, 1) := by kernel_rfl
-- the values' own types

end Go.Proofs.Ytdakhelapeojgaa.QFnRules
