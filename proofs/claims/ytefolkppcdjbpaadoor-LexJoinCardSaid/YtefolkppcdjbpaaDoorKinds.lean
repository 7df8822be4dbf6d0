/- Part of the proof of LexJoin. -/
import Derived.Test.YtefolkppcdjbpaaDoorPvO
import Derived.Test.YtefolkppcdjbpaaDoorBase
import Derived.Test.YtefolkppcdjbpaaDoorLaw09c
namespace Go.PV
open Go Go.RowKit Go.Proofs
/-! what is known of arguments of these types -/
def ok3 : Int → Prop := fun n : Int => (Lit.int .i64 n).wf = true
abbrev c3 : Int → List V := fun n => [.int .i64 n]
theorem o3 : OpensV 1 c3 Tryd.prog 3 ok3 := OpensV.int Tryd.underlying3 (by kernel_rfl)
end Go.PV
