/- Words that the proof uses (of the print; what is used of them). -/
import Derived.Test.YtaopajmpifenoaaDoorVTab
namespace Go.Proofs.YtaopajmpifenoaaDoorW.PrintLast
section
variable {P : Program} {ops : Array Oper} {Q : Exit → Act → World → Prop} {md : Region.Mode} {S : World → Prop} {ds : List Nat} {T : Bool × List (List Nat × List Nat)}
end
end Go.Proofs.YtaopajmpifenoaaDoorW.PrintLast
