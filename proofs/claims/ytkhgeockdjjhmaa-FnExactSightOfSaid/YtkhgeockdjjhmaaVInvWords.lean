/- Lemmas that the walks of this claim use: those of the kit's word texts (written by its print) that are named there. No condition beyond what each names. -/
import Derived.Test.YtkhgeockdjjhmaaVInv
import Derived.Test.YtkhgeockdjjhmaaVFootNe
namespace Go.Proofs.YtkhgeockdjjhmaaW.PrintWords
open Go.RowKit
end Go.Proofs.YtkhgeockdjjhmaaW.PrintWords
namespace Go.Proofs.YtkhgeockdjjhmaaW.PrintLast
section
variable {ops : Array Oper} {a : Act} {o og : Oper} {g : Nat} {t : Tmp} {u : Bool}
end
end Go.Proofs.YtkhgeockdjjhmaaW.PrintLast
