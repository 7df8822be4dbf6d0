/- Part of the proof of LexLongest. -/
import Derived.Test.YtefolkppcdjbpaaDoorPvL
namespace Go.PV
open Go
/-! laws of signs -/
end Go.PV
