/- Words that the proof uses (of the print; what is used of them). -/
import Derived.Test.YtaopajmpifenoaaDoorVWords
import Derived.Laws.StructEq
namespace Go.Proofs.YtaopajmpifenoaaDoorW.PrintWords
open Go.RowKit
section
variable {P : Program} {d : Nat} {xs ys : Array Value} {f : Field} {fs : List Field} {a b : Value} {r s : Bool} {w : World}
end
end Go.Proofs.YtaopajmpifenoaaDoorW.PrintWords
