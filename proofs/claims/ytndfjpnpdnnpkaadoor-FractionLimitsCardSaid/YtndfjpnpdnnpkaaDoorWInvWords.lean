-- cut down by a program of this claim (wip/prune.py): only what the claim speaks of is left
import Derived.Test.YtndfjpnpdnnpkaaDoorWInv
import Derived.Test.YtndfjpnpdnnpkaaDoorWFootNe
namespace Go.Proofs.YtndfjpnpdnnpkaaDoorW.PrintWords
open Go.RowKit
end Go.Proofs.YtndfjpnpdnnpkaaDoorW.PrintWords
namespace Go.Proofs.YtndfjpnpdnnpkaaDoorW.PrintLast
section
variable {ops : Array Oper} {a : Act} {o og : Oper} {g : Nat} {t : Tmp} {u : Bool}
end
end Go.Proofs.YtndfjpnpdnnpkaaDoorW.PrintLast
