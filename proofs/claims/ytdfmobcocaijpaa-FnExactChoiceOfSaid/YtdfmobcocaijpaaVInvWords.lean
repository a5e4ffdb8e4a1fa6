/- Lemmas that the walks of this claim use: those of the kit's word texts (written by its print) that are named there. No condition beyond what each names. -/
import Derived.Test.YtdfmobcocaijpaaVInv
import Derived.Test.YtdfmobcocaijpaaVFootNe
namespace Go.Proofs.YtdfmobcocaijpaaW.PrintWords
open Go.RowKit
end Go.Proofs.YtdfmobcocaijpaaW.PrintWords
namespace Go.Proofs.YtdfmobcocaijpaaW.PrintLast
section
variable {ops : Array Oper} {a : Act} {o og : Oper} {g : Nat} {t : Tmp} {u : Bool}
end
end Go.Proofs.YtdfmobcocaijpaaW.PrintLast
