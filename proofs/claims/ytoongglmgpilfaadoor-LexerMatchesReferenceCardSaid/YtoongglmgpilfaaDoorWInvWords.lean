-- cut down by a program of this claim (wip/prune.py): only what the claim speaks of is left
import Derived.Test.YtoongglmgpilfaaDoorWInv
import Derived.Test.YtoongglmgpilfaaDoorWFootNe
namespace Go.Proofs.YtoongglmgpilfaaDoorW.PrintWords
open Go.RowKit
end Go.Proofs.YtoongglmgpilfaaDoorW.PrintWords
namespace Go.Proofs.YtoongglmgpilfaaDoorW.PrintLast
section
variable {ops : Array Oper} {a : Act} {o og : Oper} {g : Nat} {t : Tmp} {u : Bool}
end
end Go.Proofs.YtoongglmgpilfaaDoorW.PrintLast
