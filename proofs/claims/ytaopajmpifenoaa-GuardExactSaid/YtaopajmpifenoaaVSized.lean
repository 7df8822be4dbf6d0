/- Words that the proof uses (of the print; what is used of them). -/
import Derived.SizedLaws
import Derived.ChangeSlices
namespace Go.Proofs.YtaopajmpifenoaaW.PrintWords
open Go.ChangeShapes Go.WideShapes
end Go.Proofs.YtaopajmpifenoaaW.PrintWords
