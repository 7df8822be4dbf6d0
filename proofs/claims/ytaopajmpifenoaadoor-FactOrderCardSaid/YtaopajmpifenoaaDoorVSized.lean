/- Words that the proof uses (of the print; what is used of them). -/
import Derived.SizedLaws
import Derived.ChangeSlices
namespace Go.Proofs.YtaopajmpifenoaaDoorW.PrintWords
open Go.ChangeShapes Go.WideShapes
end Go.Proofs.YtaopajmpifenoaaDoorW.PrintWords
