/- Part of the proof of LexLongest. -/
import Derived.Test.YtefolkppcdjbpaaDoorPvO
import Derived.Test.YtefolkppcdjbpaaDoorBase
import Derived.Test.YtefolkppcdjbpaaDoorLaw09
namespace Go.PV
open Go Go.RowKit Go.Proofs
/-! what is known of arguments of these types -/
end Go.PV
