import Derived.Test.YtconpnagoijacaaPx13
import Derived.Test.YtconpnagoijacaaLNum
namespace Go.Proofs.Ytconpnagoijacaa.P
open Go.RowKit Go.Proofs.YtconpnagoijacaaW.PrintWords Go.Proofs.YtconpnagoijacaaW.PrintLast Go.Proofs.YtconpnagoijacaaW.PrintMore
theorem wakes02_ev : Ev (fun k => constablelaw02_wakes.f k) true := Ev.of (constablelaw02_wakes.mono) (k := 20) (by decide +kernel)
end Go.Proofs.Ytconpnagoijacaa.P
