/- Lemmas that the walks of this claim use: those of the kit's word texts (written by its print) that are named there. No condition beyond what each names. -/
import Derived.Test.YtdakhelapeojgaaVInv
import Derived.Test.YtdakhelapeojgaaVFootNe
namespace Go.Proofs.YtdakhelapeojgaaW.PrintWords
open Go.RowKit
end Go.Proofs.YtdakhelapeojgaaW.PrintWords
namespace Go.Proofs.YtdakhelapeojgaaW.PrintLast
section
variable {ops : Array Oper} {a : Act} {o og : Oper} {g : Nat} {t : Tmp} {u : Bool}
end
end Go.Proofs.YtdakhelapeojgaaW.PrintLast
