/- Words that the proof uses (of the print; what is used of them). -/
import Derived.Test.YtaopajmpifenoaaDoorVN
namespace Go.Proofs.YtaopajmpifenoaaDoorW.PrintWords
open Go.RowKit
namespace Kd
section
variable {α : Type} {d : Kd α} {W : World} {g n : Nat} {S ok : Nat → Prop} {A : Option Addr} {ad : Addr} {xs : List α}
end
end Kd
end Go.Proofs.YtaopajmpifenoaaDoorW.PrintWords
