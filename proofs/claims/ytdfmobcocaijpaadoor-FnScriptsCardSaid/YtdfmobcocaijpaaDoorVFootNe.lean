/- Lemmas that the walks of this claim use: those of the kit's word texts (written by its print) that are named there. No condition beyond what each names. -/
import Derived.Test.YtdfmobcocaijpaaDoorVN
namespace Go.Proofs.YtdfmobcocaijpaaDoorW.PrintWords
open Go.RowKit
namespace Kd
section
variable {α : Type} {d : Kd α} {W : World} {g n : Nat} {S ok : Nat → Prop} {A : Option Addr} {ad : Addr} {xs : List α}
end
end Kd
end Go.Proofs.YtdfmobcocaijpaaDoorW.PrintWords
