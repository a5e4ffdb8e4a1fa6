/- What a call of each Go function that FnScripts reaches comes to, as a Lean function: texts of the kit's print, turned by wip/remake.py. No condition beyond what each names. -/
import Derived.Lib.AppendIntMem
import Derived.Lib.AtoiErrMem
import Derived.Test.YtdfmobcocaijpaaDoorVLibS
import Derived.Test.YtdfmobcocaijpaaDoorShelfC
import Derived.Test.YtdfmobcocaijpaaDoorProg
import Derived.Below
import Derived.Deep.Draws
import Derived.Deep.AppendLies
import Derived.Maps.AppendAt
import Derived.OwnWalk
import Derived.Laws.BytesArg
import Derived.Laws.MakeOwn
import Derived.Laws.OwnMore
import Derived.Deep.OwnRows
import Derived.Tactics
import Derived.Lib.ConvBytes
import Derived.Laws.Slices
import Derived.WalkKit
import Derived.KernelRfl
import Derived.RowKit3
import Derived.Deep.LoopGhost
import Derived.Deep.QuietTactic
import Derived.BigQuiet
import Derived.WideLaws
import Derived.Deep.DeepCutAuto
import Derived.Deep.CutBlock
import Derived.Deep.RegionHeld3
import Derived.Laws.Rows
import Derived.Lib.AppendStr
import Derived.ArgAppend
import Derived.Laws.IdiomCopy
import Derived.OrdersHeld
import Derived.Laws.BitsLemmas
import Derived.RowKit
import Derived.Test.YtdfmobcocaijpaaDoorVWords
import Derived.Test.YtdfmobcocaijpaaDoorVLast
import Derived.Test.YtdfmobcocaijpaaDoorVTab
import Derived.Test.YtdfmobcocaijpaaDoorVFour
import Derived.Test.YtdfmobcocaijpaaDoorVQPut
import Derived.Test.YtdfmobcocaijpaaDoorVApart
import Derived.Test.YtdfmobcocaijpaaDoorVArr
import Derived.Test.YtdfmobcocaijpaaDoorVZeros
import Derived.Test.YtdfmobcocaijpaaDoorVFoot
import Derived.Test.YtdfmobcocaijpaaDoorVKept
import Derived.Test.YtdfmobcocaijpaaDoorVShare
import Derived.Test.YtdfmobcocaijpaaDoorVN
import Derived.Test.YtdfmobcocaijpaaDoorVFootNe
import Derived.Test.YtdfmobcocaijpaaDoorVAt
import Derived.Test.YtdfmobcocaijpaaDoorVEqStruct
import Derived.Test.YtdfmobcocaijpaaDoorVRepsOne
import Derived.Test.YtdfmobcocaijpaaDoorVInv
import Derived.Test.YtdfmobcocaijpaaDoorVInvWords
import Derived.Test.YtdfmobcocaijpaaDoorVGuard
import Derived.Test.YtdfmobcocaijpaaDoorVNEv
import Derived.Test.YtdfmobcocaijpaaDoorVMore
namespace Go.Proofs.YtdfmobcocaijpaaDoor.QFnScripts
open Go.RowKit Go.Proofs.YtdfmobcocaijpaaDoorW.PrintWords Go.Proofs.YtdfmobcocaijpaaDoorW.PrintLast Go.Proofs.YtdfmobcocaijpaaDoorW.PrintMore
attribute [local go_sem] max2_int min2_int max_two min_two max_three min_three max_four min_four   -- for this text's walks alone
set_option linter.unusedVariables false
set_option linter.unusedSimpArgs false



def errW : Option Int → Value
  | none => .nilIface
  | some c => .iface 95 (.int .i64 c)
theorem errW_none : errW none = .nilIface := rfl
theorem errW_some (c : Int) : errW (some c) = .iface 95 (.int .i64 c) := rfl

theorem info3 : (Tryd.prog.info? 3).map (fun i => (i.zero, i.size, i.bytes)) = some (some (.int .i64 0), 1, 8) := by kernel_rfl
theorem info5 : (Tryd.prog.info? 5).map (fun i => (i.zero, i.size, i.bytes)) = some (some (.int .u8 0), 1, 1) := by kernel_rfl
theorem info9 : (Tryd.prog.info? 9).map (fun i => (i.zero, i.size, i.bytes)) = some (some (.string ⟨#[]⟩), 1, 16) := by kernel_rfl
-- the values' own types

end Go.Proofs.YtdfmobcocaijpaaDoor.QFnScripts
