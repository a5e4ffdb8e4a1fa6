/- Lemmas that the walks of this claim use: those of the kit's word texts (written by its print) that are named there. No condition beyond what each names. -/
import Derived.Test.YtdfmobcocaijpaaDoorVApart
import Derived.Test.YtdfmobcocaijpaaDoorVArr
namespace Go.Proofs.YtdfmobcocaijpaaDoorW.PrintWords
open Go.RowKit
section
variable {P : Program}
end
namespace Kd
section
variable {P : Program} {ops : Array Oper} {rest : List Oper} {o : Oper} {a : Act} {Q : Exit → Act → World → Prop} {Kc : Act → World → Prop} {α : Type}
end
section
variable {α : Type} {d : Kd α} {e : Nat} {w : World} {base : Nat} {ok : Nat → Prop} {v : Value} {xs : List α}
end
section
variable {P : Program} {ops : Array Oper} {rest : List Oper} {o : Oper} {a : Act} {Q : Exit → Act → World → Prop} {Kc : Act → World → Prop} {α : Type}
end
end Kd
end Go.Proofs.YtdfmobcocaijpaaDoorW.PrintWords
