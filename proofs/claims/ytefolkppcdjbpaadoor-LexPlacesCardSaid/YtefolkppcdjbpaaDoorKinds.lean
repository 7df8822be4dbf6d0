/- Part of the proof of LexPlaces. -/
import Derived.Test.YtefolkppcdjbpaaDoorPvO
import Derived.Test.YtefolkppcdjbpaaDoorBase
import Derived.Test.YtefolkppcdjbpaaDoorLaw09b
namespace Go.PV
open Go Go.RowKit Go.Proofs
/-! what is known of arguments of these types -/
end Go.PV
