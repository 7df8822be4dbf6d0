/- Words that the proof uses (of the print; what is used of them). -/
import Derived.Test.YtaopajmpifenoaaVInv
import Derived.Test.YtaopajmpifenoaaVFootNe
namespace Go.Proofs.YtaopajmpifenoaaW.PrintWords
open Go.RowKit
end Go.Proofs.YtaopajmpifenoaaW.PrintWords
namespace Go.Proofs.YtaopajmpifenoaaW.PrintLast
section
variable {ops : Array Oper} {a : Act} {o og : Oper} {g : Nat} {t : Tmp} {u : Bool}
end
end Go.Proofs.YtaopajmpifenoaaW.PrintLast
