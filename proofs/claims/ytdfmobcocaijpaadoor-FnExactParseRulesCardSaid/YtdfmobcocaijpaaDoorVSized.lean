/- Lemmas that the walks of this claim use: those of the kit's word texts (written by its print) that are named there. No condition beyond what each names. -/
import Derived.SizedLaws
import Derived.ChangeSlices
namespace Go.Proofs.YtdfmobcocaijpaaDoorW.PrintWords
open Go.ChangeShapes Go.WideShapes
end Go.Proofs.YtdfmobcocaijpaaDoorW.PrintWords
