/- Lemmas that the walks of this claim use: those of the kit's word texts (written by its print) that are named there. No condition beyond what each names. -/
import Derived.Test.YtdfmobcocaijpaaDoorVInv
import Derived.Test.YtdfmobcocaijpaaDoorVFootNe
namespace Go.Proofs.YtdfmobcocaijpaaDoorW.PrintWords
open Go.RowKit
end Go.Proofs.YtdfmobcocaijpaaDoorW.PrintWords
namespace Go.Proofs.YtdfmobcocaijpaaDoorW.PrintLast
section
variable {ops : Array Oper} {a : Act} {o og : Oper} {g : Nat} {t : Tmp} {u : Bool}
end
end Go.Proofs.YtdfmobcocaijpaaDoorW.PrintLast
