/- Words that the proof uses (of the print; what is used of them). -/
import Derived.Test.YtconpnagoijacaaVInv
import Derived.Test.YtconpnagoijacaaVFootNe
namespace Go.Proofs.YtconpnagoijacaaW.PrintWords
open Go.RowKit
end Go.Proofs.YtconpnagoijacaaW.PrintWords
namespace Go.Proofs.YtconpnagoijacaaW.PrintLast
section
variable {ops : Array Oper} {a : Act} {o og : Oper} {g : Nat} {t : Tmp} {u : Bool}
end
end Go.Proofs.YtconpnagoijacaaW.PrintLast
