/- Words that the proof uses (of the print; what is used of them). -/
import Derived.Test.YtaopajmpifenoaaDoorVInv
import Derived.Test.YtaopajmpifenoaaDoorVFootNe
namespace Go.Proofs.YtaopajmpifenoaaDoorW.PrintWords
open Go.RowKit
end Go.Proofs.YtaopajmpifenoaaDoorW.PrintWords
namespace Go.Proofs.YtaopajmpifenoaaDoorW.PrintLast
section
variable {ops : Array Oper} {a : Act} {o og : Oper} {g : Nat} {t : Tmp} {u : Bool}
end
end Go.Proofs.YtaopajmpifenoaaDoorW.PrintLast
