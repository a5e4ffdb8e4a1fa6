/- Lemmas that the walks of this claim use: those of the kit's word texts (written by its print) that are named there. No condition beyond what each names. -/
import Derived.Test.YtdfmobcocaijpaaDoorVTab
namespace Go.Proofs.YtdfmobcocaijpaaDoorW.PrintLast
section
variable {P : Program} {ops : Array Oper} {Q : Exit → Act → World → Prop} {md : Region.Mode} {S : World → Prop} {ds : List Nat} {T : Bool × List (List Nat × List Nat)}
end
end Go.Proofs.YtdfmobcocaijpaaDoorW.PrintLast
