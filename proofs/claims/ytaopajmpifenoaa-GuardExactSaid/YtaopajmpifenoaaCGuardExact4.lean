/- Part 5 of the proof of GuardExact: words, contracts of functions of the program (what a call answers), and what the answers say. -/
import Derived.Lib.Bytes
import Derived.Laws.BitsLemmas
import Derived.Laws.Bits64
import Derived.ChangeArms
import Derived.DataElems
import Derived.DataReads
import Derived.SizedLaws
import Derived.ChangeSlices
import Derived.RowKit
import Derived.WideShapes
import Derived.ChangeShapes
import Derived.KernelRfl
import Derived.Test.YtaopajmpifenoaaVWords
import Derived.Test.YtaopajmpifenoaaVLast
import Derived.Test.YtaopajmpifenoaaVApart
import Derived.Test.YtaopajmpifenoaaVArr
import Derived.Test.YtaopajmpifenoaaVFoot
import Derived.Test.YtaopajmpifenoaaVKept
import Derived.Test.YtaopajmpifenoaaVShare
import Derived.Test.YtaopajmpifenoaaVZeros
import Derived.Test.YtaopajmpifenoaaVN
import Derived.Test.YtaopajmpifenoaaVFootNe
import Derived.Test.YtaopajmpifenoaaVAt
import Derived.Test.YtaopajmpifenoaaVEqStruct
import Derived.Test.YtaopajmpifenoaaVTab
import Derived.Test.YtaopajmpifenoaaVFour
import Derived.Test.YtaopajmpifenoaaVGuard
import Derived.Test.YtaopajmpifenoaaVInv
import Derived.Test.YtaopajmpifenoaaVInvWords
import Derived.Test.YtaopajmpifenoaaVQPut
import Derived.Test.YtaopajmpifenoaaVNEv
import Derived.Test.YtaopajmpifenoaaVMore
import Derived.Test.YtaopajmpifenoaaVRepsOne
import Derived.Test.YtaopajmpifenoaaVSized
import Derived.Test.YtaopajmpifenoaaCGuardExact0
import Derived.Test.YtaopajmpifenoaaCGuardExact1
import Derived.Test.YtaopajmpifenoaaCGuardExact2
import Derived.Test.YtaopajmpifenoaaCGuardExact3
section
namespace Go.Proofs.Ytaopajmpifenoaa.P
open Go.RowKit Go.Proofs.YtaopajmpifenoaaW.PrintWords Go.Proofs.YtaopajmpifenoaaW.PrintLast Go.Proofs.YtaopajmpifenoaaW.PrintMore
attribute [local go_sem] max2_int min2_int max_two min_two max_three min_three max_four min_four
set_option linter.unusedVariables false
set_option linter.unusedSimpArgs false
mutual
def constablelaw08_GuardExact.j0 : Nat → Int → List (S54) → Bool → Int → Int → ByteArray → Int → Int → ByteArray → Int → ByteArray → List (S72) → Int → List (S67) → List (S67) → Option (Bool)
 | 0, _, _, _, _, _, _, _, _, _, _, _, _, _, _, _ => none
 | k + 1, x0, x4, x38, x368000, x368001, x368002, x369000, x369001, x369002, x370000, x370001, x370002, x370003, x370004, x370005 => if x38 = true then (some true) else ((constablekeep_TwinConds.f k (([(⟨x370000, (⟨x370001, x370002⟩ : S26), x370003, x370004, x370005⟩ : S29)] : List (S29)))).bind fun t375 => (if 0 < (t375.length : Int) then ((guard_Holds.f k x0 x368000 x368001 x368002 x369000 x369001 x369002).bind fun bt380 => ((constableref01_Holds.f k x0 x368000 x368001 x368002 x369000 x369001 x369002).bind fun bt382 => ((guard_Eval.f k ((rd_T29 t375 0).f0) ((rd_T29 t375 0).f1.f0) ((rd_T29 t375 0).f1.f1) ((rd_T29 t375 0).f2) ((rd_T29 t375 0).f3) ((rd_T29 t375 0).f4) x4).bind fun bt384 => (if (bt380.1 != bt382.1) = true then (constablelaw08_GuardExact.j1 k x4 bt384.1 bt384.2 true x370000 x370001 x370002 x370003 x370004 x370005 ((rd_T29 t375 0).f0) ((rd_T29 t375 0).f1.f0) ((rd_T29 t375 0).f1.f1) ((rd_T29 t375 0).f2) ((rd_T29 t375 0).f3) ((rd_T29 t375 0).f4)) else (if bt380.2 = bt382.2 then ((constablekeep_Cond.f k ((rd_T29 t375 0).f0) ((rd_T29 t375 0).f1.f0) ((rd_T29 t375 0).f1.f1) ((rd_T29 t375 0).f2) ((rd_T29 t375 0).f3) ((rd_T29 t375 0).f4) x370000 x370001 x370002 x370003 x370004 x370005).bind fun t386 => (constablelaw08_GuardExact.j1 k x4 bt384.1 bt384.2 (!t386) x370000 x370001 x370002 x370003 x370004 x370005 ((rd_T29 t375 0).f0) ((rd_T29 t375 0).f1.f0) ((rd_T29 t375 0).f1.f1) ((rd_T29 t375 0).f2) ((rd_T29 t375 0).f3) ((rd_T29 t375 0).f4))) else (constablelaw08_GuardExact.j1 k x4 bt384.1 bt384.2 true x370000 x370001 x370002 x370003 x370004 x370005 ((rd_T29 t375 0).f0) ((rd_T29 t375 0).f1.f0) ((rd_T29 t375 0).f1.f1) ((rd_T29 t375 0).f2) ((rd_T29 t375 0).f3) ((rd_T29 t375 0).f4))))))) else (none)))
def constablelaw08_GuardExact.j1 : Nat → List (S54) → Bool → Int → Bool → Int → ByteArray → List (S72) → Int → List (S67) → List (S67) → Int → ByteArray → List (S72) → Int → List (S67) → List (S67) → Option (Bool)
 | 0, _, _, _, _, _, _, _, _, _, _, _, _, _, _, _, _ => none
 | k + 1, x4, x16, x17, x77, x370000, x370001, x370002, x370003, x370004, x370005, x380000, x380001, x380002, x380003, x380004, x380005 => if x77 = true then (some false) else ((constableref01_Guard.f k x370000 x370001 x370002 x370003 x370004 x370005).bind fun t387 => ((guard_Check.f k x380000 x380001 x380002 x380003 x380004 x380005).bind fun t388 => (if ((t388 == 0) != t387) = true then (constablelaw08_GuardExact.j2 k x4 x16 x17 t387 true x370000 x370001 x370002 x370003 x370004 x370005) else (if t387 = true then (constablelaw08_GuardExact.j2 k x4 x16 x17 t387 false x370000 x370001 x370002 x370003 x370004 x370005) else ((guard_Check.f k x380000 x380001 x380002 x380003 x380004 x380005).bind fun t389 => (constablelaw08_GuardExact.j2 k x4 x16 x17 t387 (t389 != 1) x370000 x370001 x370002 x370003 x370004 x370005))))))
def constablelaw08_GuardExact.j2 : Nat → List (S54) → Bool → Int → Bool → Bool → Int → ByteArray → List (S72) → Int → List (S67) → List (S67) → Option (Bool)
 | 0, _, _, _, _, _, _, _, _, _, _, _ => none
 | k + 1, x4, x16, x17, x18, x93, x370000, x370001, x370002, x370003, x370004, x370005 => if x93 = true then (some false) else (if x18 = true then ((constableref01_Binds.f k x4).bind fun t390 => (constablelaw08_GuardExact.j3 k x4 x16 x17 (!t390) x370000 x370001 x370002 x370003 x370004 x370005)) else (constablelaw08_GuardExact.j3 k x4 x16 x17 true x370000 x370001 x370002 x370003 x370004 x370005))
def constablelaw08_GuardExact.j3 : Nat → List (S54) → Bool → Int → Bool → Int → ByteArray → List (S72) → Int → List (S67) → List (S67) → Option (Bool)
 | 0, _, _, _, _, _, _, _, _, _, _ => none
 | k + 1, x4, x16, x17, x100, x370000, x370001, x370002, x370003, x370004, x370005 => if x100 = true then (if x17 = 1 then (if x16 = true then (some false) else ((constablelaw08_wakes.f k).bind fun t391 => (some t391))) else (some false)) else ((constableref01_Test.f k x370000 x370001 x370002 x370003 x370004 x370005 x4).bind fun bt392 => (if x17 = bt392.2 then (if (x16 == bt392.1) = true then ((constablelaw08_wakes.f k).bind fun t394 => (some t394)) else (some false)) else (some false)))
end
def constablelaw08_GuardExact.f (k : Nat) (a0 : Int) (a1_0 : Int) (a1_1 : Int) (a1_2 : ByteArray) (a2_0 : Int) (a2_1 : Int) (a2_2 : ByteArray) (a3_0 : Int) (a3_1 : ByteArray) (l3_2 : List (S72)) (a3_3 : Int) (l3_4 : List (S67)) (l3_5 : List (S67)) (l4 : List (S54)) : Option (Bool) := if (a1_2.size : Int) > 200 then (constablelaw08_GuardExact.j0 k a0 l4 true a1_0 a1_1 a1_2 a2_0 a2_1 a2_2 a3_0 a3_1 l3_2 a3_3 l3_4 l3_5) else (if (a2_2.size : Int) > 200 then (constablelaw08_GuardExact.j0 k a0 l4 true a1_0 a1_1 a1_2 a2_0 a2_1 a2_2 a3_0 a3_1 l3_2 a3_3 l3_4 l3_5) else ((constablelaw08_Heavy.f k a3_0 a3_1 l3_2 a3_3 l3_4 l3_5).bind fun t370 => (if t370 = true then (constablelaw08_GuardExact.j0 k a0 l4 true a1_0 a1_1 a1_2 a2_0 a2_1 a2_2 a3_0 a3_1 l3_2 a3_3 l3_4 l3_5) else ((constablelaw05_Heavy.f k l4).bind fun t371 => (constablelaw08_GuardExact.j0 k a0 l4 t371 a1_0 a1_1 a1_2 a2_0 a2_1 a2_2 a3_0 a3_1 l3_2 a3_3 l3_4 l3_5)))))
theorem constablelaw08_GuardExact.mono_l : ∀ k, (∀ y0 y1 y2 y3 y4 y5 y6 y7 y8 y9 y10 y11 y12 y13 y14, LeO (constablelaw08_GuardExact.j0 k y0 y1 y2 y3 y4 y5 y6 y7 y8 y9 y10 y11 y12 y13 y14) (constablelaw08_GuardExact.j0 (k + 1) y0 y1 y2 y3 y4 y5 y6 y7 y8 y9 y10 y11 y12 y13 y14)) ∧ (∀ y0 y1 y2 y3 y4 y5 y6 y7 y8 y9 y10 y11 y12 y13 y14 y15, LeO (constablelaw08_GuardExact.j1 k y0 y1 y2 y3 y4 y5 y6 y7 y8 y9 y10 y11 y12 y13 y14 y15) (constablelaw08_GuardExact.j1 (k + 1) y0 y1 y2 y3 y4 y5 y6 y7 y8 y9 y10 y11 y12 y13 y14 y15)) ∧ (∀ y0 y1 y2 y3 y4 y5 y6 y7 y8 y9 y10, LeO (constablelaw08_GuardExact.j2 k y0 y1 y2 y3 y4 y5 y6 y7 y8 y9 y10) (constablelaw08_GuardExact.j2 (k + 1) y0 y1 y2 y3 y4 y5 y6 y7 y8 y9 y10)) ∧ (∀ y0 y1 y2 y3 y4 y5 y6 y7 y8 y9, LeO (constablelaw08_GuardExact.j3 k y0 y1 y2 y3 y4 y5 y6 y7 y8 y9) (constablelaw08_GuardExact.j3 (k + 1) y0 y1 y2 y3 y4 y5 y6 y7 y8 y9))
 | 0 => ⟨fun _ _ _ _ _ _ _ _ _ _ _ _ _ _ _ r h => by simp [constablelaw08_GuardExact.j0] at h, fun _ _ _ _ _ _ _ _ _ _ _ _ _ _ _ _ r h => by simp [constablelaw08_GuardExact.j1] at h, fun _ _ _ _ _ _ _ _ _ _ _ r h => by simp [constablelaw08_GuardExact.j2] at h, fun _ _ _ _ _ _ _ _ _ _ r h => by simp [constablelaw08_GuardExact.j3] at h⟩
 | k + 1 => by
  obtain ⟨ih0, ih1, ih2, ih3⟩ := constablelaw08_GuardExact.mono_l k
  refine ⟨?_, ?_, ?_, ?_⟩
  ·intro y0 y1 y2 y3 y4 y5 y6 y7 y8 y9 y10 y11 y12 y13 y14
   unfold constablelaw08_GuardExact.j0
   repeat' first
   | (with_reducible exact ih0 _ _ _ _ _ _ _ _ _ _ _ _ _ _ _)
   | (with_reducible exact ih1 _ _ _ _ _ _ _ _ _ _ _ _ _ _ _ _)
   | (with_reducible exact ih2 _ _ _ _ _ _ _ _ _ _ _)
   | (with_reducible exact ih3 _ _ _ _ _ _ _ _ _ _)
   | (with_reducible exact constablekeep_Cond.mono ..)
   | (with_reducible exact constablekeep_TwinConds.mono ..)
   | (with_reducible exact constablelaw05_Heavy.mono ..)
   | (with_reducible exact constablelaw08_Heavy.mono ..)
   | (with_reducible exact constablelaw08_wakes.mono ..)
   | (with_reducible exact constableref01_Binds.mono ..)
   | (with_reducible exact constableref01_Guard.mono ..)
   | (with_reducible exact constableref01_Holds.mono ..)
   | (with_reducible exact constableref01_Test.mono ..)
   | (with_reducible exact guard_Check.mono ..)
   | (with_reducible exact guard_Eval.mono ..)
   | (with_reducible exact guard_Holds.mono ..)
   | (with_reducible exact LeO.refl _)
   | (with_reducible exact LeO.none _)
   | (with_reducible refine LeO.ite ?_ ?_)
   | (with_reducible refine LeO.bind ?_ (fun _ => ?_))
   | exact ih0 _ _ _ _ _ _ _ _ _ _ _ _ _ _ _
   | exact ih1 _ _ _ _ _ _ _ _ _ _ _ _ _ _ _ _
   | exact ih2 _ _ _ _ _ _ _ _ _ _ _
   | exact ih3 _ _ _ _ _ _ _ _ _ _
   | exact constablekeep_Cond.mono ..
   | exact constablekeep_TwinConds.mono ..
   | exact constablelaw05_Heavy.mono ..
   | exact constablelaw08_Heavy.mono ..
   | exact constablelaw08_wakes.mono ..
   | exact constableref01_Binds.mono ..
   | exact constableref01_Guard.mono ..
   | exact constableref01_Holds.mono ..
   | exact constableref01_Test.mono ..
   | exact guard_Check.mono ..
   | exact guard_Eval.mono ..
   | exact guard_Holds.mono ..
   | exact LeO.none _
   | refine LeO.ite ?_ ?_
   | refine LeO.bind ?_ (fun _ => ?_)
  ·intro y0 y1 y2 y3 y4 y5 y6 y7 y8 y9 y10 y11 y12 y13 y14 y15
   unfold constablelaw08_GuardExact.j1
   repeat' first
   | (with_reducible exact ih0 _ _ _ _ _ _ _ _ _ _ _ _ _ _ _)
   | (with_reducible exact ih1 _ _ _ _ _ _ _ _ _ _ _ _ _ _ _ _)
   | (with_reducible exact ih2 _ _ _ _ _ _ _ _ _ _ _)
   | (with_reducible exact ih3 _ _ _ _ _ _ _ _ _ _)
   | (with_reducible exact constablekeep_Cond.mono ..)
   | (with_reducible exact constablekeep_TwinConds.mono ..)
   | (with_reducible exact constablelaw05_Heavy.mono ..)
   | (with_reducible exact constablelaw08_Heavy.mono ..)
   | (with_reducible exact constablelaw08_wakes.mono ..)
   | (with_reducible exact constableref01_Binds.mono ..)
   | (with_reducible exact constableref01_Guard.mono ..)
   | (with_reducible exact constableref01_Holds.mono ..)
   | (with_reducible exact constableref01_Test.mono ..)
   | (with_reducible exact guard_Check.mono ..)
   | (with_reducible exact guard_Eval.mono ..)
   | (with_reducible exact guard_Holds.mono ..)
   | (with_reducible exact LeO.refl _)
   | (with_reducible exact LeO.none _)
   | (with_reducible refine LeO.ite ?_ ?_)
   | (with_reducible refine LeO.bind ?_ (fun _ => ?_))
   | exact ih0 _ _ _ _ _ _ _ _ _ _ _ _ _ _ _
   | exact ih1 _ _ _ _ _ _ _ _ _ _ _ _ _ _ _ _
   | exact ih2 _ _ _ _ _ _ _ _ _ _ _
   | exact ih3 _ _ _ _ _ _ _ _ _ _
   | exact constablekeep_Cond.mono ..
   | exact constablekeep_TwinConds.mono ..
   | exact constablelaw05_Heavy.mono ..
   | exact constablelaw08_Heavy.mono ..
   | exact constablelaw08_wakes.mono ..
   | exact constableref01_Binds.mono ..
   | exact constableref01_Guard.mono ..
   | exact constableref01_Holds.mono ..
   | exact constableref01_Test.mono ..
   | exact guard_Check.mono ..
   | exact guard_Eval.mono ..
   | exact guard_Holds.mono ..
   | exact LeO.none _
   | refine LeO.ite ?_ ?_
   | refine LeO.bind ?_ (fun _ => ?_)
  ·intro y0 y1 y2 y3 y4 y5 y6 y7 y8 y9 y10
   unfold constablelaw08_GuardExact.j2
   repeat' first
   | (with_reducible exact ih0 _ _ _ _ _ _ _ _ _ _ _ _ _ _ _)
   | (with_reducible exact ih1 _ _ _ _ _ _ _ _ _ _ _ _ _ _ _ _)
   | (with_reducible exact ih2 _ _ _ _ _ _ _ _ _ _ _)
   | (with_reducible exact ih3 _ _ _ _ _ _ _ _ _ _)
   | (with_reducible exact constablekeep_Cond.mono ..)
   | (with_reducible exact constablekeep_TwinConds.mono ..)
   | (with_reducible exact constablelaw05_Heavy.mono ..)
   | (with_reducible exact constablelaw08_Heavy.mono ..)
   | (with_reducible exact constablelaw08_wakes.mono ..)
   | (with_reducible exact constableref01_Binds.mono ..)
   | (with_reducible exact constableref01_Guard.mono ..)
   | (with_reducible exact constableref01_Holds.mono ..)
   | (with_reducible exact constableref01_Test.mono ..)
   | (with_reducible exact guard_Check.mono ..)
   | (with_reducible exact guard_Eval.mono ..)
   | (with_reducible exact guard_Holds.mono ..)
   | (with_reducible exact LeO.refl _)
   | (with_reducible exact LeO.none _)
   | (with_reducible refine LeO.ite ?_ ?_)
   | (with_reducible refine LeO.bind ?_ (fun _ => ?_))
   | exact ih0 _ _ _ _ _ _ _ _ _ _ _ _ _ _ _
   | exact ih1 _ _ _ _ _ _ _ _ _ _ _ _ _ _ _ _
   | exact ih2 _ _ _ _ _ _ _ _ _ _ _
   | exact ih3 _ _ _ _ _ _ _ _ _ _
   | exact constablekeep_Cond.mono ..
   | exact constablekeep_TwinConds.mono ..
   | exact constablelaw05_Heavy.mono ..
   | exact constablelaw08_Heavy.mono ..
   | exact constablelaw08_wakes.mono ..
   | exact constableref01_Binds.mono ..
   | exact constableref01_Guard.mono ..
   | exact constableref01_Holds.mono ..
   | exact constableref01_Test.mono ..
   | exact guard_Check.mono ..
   | exact guard_Eval.mono ..
   | exact guard_Holds.mono ..
   | exact LeO.none _
   | refine LeO.ite ?_ ?_
   | refine LeO.bind ?_ (fun _ => ?_)
  ·intro y0 y1 y2 y3 y4 y5 y6 y7 y8 y9
   unfold constablelaw08_GuardExact.j3
   repeat' first
   | (with_reducible exact ih0 _ _ _ _ _ _ _ _ _ _ _ _ _ _ _)
   | (with_reducible exact ih1 _ _ _ _ _ _ _ _ _ _ _ _ _ _ _ _)
   | (with_reducible exact ih2 _ _ _ _ _ _ _ _ _ _ _)
   | (with_reducible exact ih3 _ _ _ _ _ _ _ _ _ _)
   | (with_reducible exact constablekeep_Cond.mono ..)
   | (with_reducible exact constablekeep_TwinConds.mono ..)
   | (with_reducible exact constablelaw05_Heavy.mono ..)
   | (with_reducible exact constablelaw08_Heavy.mono ..)
   | (with_reducible exact constablelaw08_wakes.mono ..)
   | (with_reducible exact constableref01_Binds.mono ..)
   | (with_reducible exact constableref01_Guard.mono ..)
   | (with_reducible exact constableref01_Holds.mono ..)
   | (with_reducible exact constableref01_Test.mono ..)
   | (with_reducible exact guard_Check.mono ..)
   | (with_reducible exact guard_Eval.mono ..)
   | (with_reducible exact guard_Holds.mono ..)
   | (with_reducible exact LeO.refl _)
   | (with_reducible exact LeO.none _)
   | (with_reducible refine LeO.ite ?_ ?_)
   | (with_reducible refine LeO.bind ?_ (fun _ => ?_))
   | exact ih0 _ _ _ _ _ _ _ _ _ _ _ _ _ _ _
   | exact ih1 _ _ _ _ _ _ _ _ _ _ _ _ _ _ _ _
   | exact ih2 _ _ _ _ _ _ _ _ _ _ _
   | exact ih3 _ _ _ _ _ _ _ _ _ _
   | exact constablekeep_Cond.mono ..
   | exact constablekeep_TwinConds.mono ..
   | exact constablelaw05_Heavy.mono ..
   | exact constablelaw08_Heavy.mono ..
   | exact constablelaw08_wakes.mono ..
   | exact constableref01_Binds.mono ..
   | exact constableref01_Guard.mono ..
   | exact constableref01_Holds.mono ..
   | exact constableref01_Test.mono ..
   | exact guard_Check.mono ..
   | exact guard_Eval.mono ..
   | exact guard_Holds.mono ..
   | exact LeO.none _
   | refine LeO.ite ?_ ?_
   | refine LeO.bind ?_ (fun _ => ?_)
theorem constablelaw08_GuardExact.mono : ∀ a0 a1 a2 a3 a4 a5 a6 a7 a8 a9 a10 a11 a12 a13 k, LeO (constablelaw08_GuardExact.f k a0 a1 a2 a3 a4 a5 a6 a7 a8 a9 a10 a11 a12 a13) (constablelaw08_GuardExact.f (k + 1) a0 a1 a2 a3 a4 a5 a6 a7 a8 a9 a10 a11 a12 a13) := by
 intro a0 a1 a2 a3 a4 a5 a6 a7 a8 a9 a10 a11 a12 a13 k
 obtain ⟨ih0, ih1, ih2, ih3⟩ := constablelaw08_GuardExact.mono_l k
 unfold constablelaw08_GuardExact.f
 repeat' first
   | (with_reducible exact ih0 _ _ _ _ _ _ _ _ _ _ _ _ _ _ _)
   | (with_reducible exact ih1 _ _ _ _ _ _ _ _ _ _ _ _ _ _ _ _)
   | (with_reducible exact ih2 _ _ _ _ _ _ _ _ _ _ _)
   | (with_reducible exact ih3 _ _ _ _ _ _ _ _ _ _)
   | (with_reducible exact constablekeep_Cond.mono ..)
   | (with_reducible exact constablekeep_TwinConds.mono ..)
   | (with_reducible exact constablelaw05_Heavy.mono ..)
   | (with_reducible exact constablelaw08_Heavy.mono ..)
   | (with_reducible exact constablelaw08_wakes.mono ..)
   | (with_reducible exact constableref01_Binds.mono ..)
   | (with_reducible exact constableref01_Guard.mono ..)
   | (with_reducible exact constableref01_Holds.mono ..)
   | (with_reducible exact constableref01_Test.mono ..)
   | (with_reducible exact guard_Check.mono ..)
   | (with_reducible exact guard_Eval.mono ..)
   | (with_reducible exact guard_Holds.mono ..)
   | (with_reducible exact LeO.refl _)
   | (with_reducible exact LeO.none _)
   | (with_reducible refine LeO.ite ?_ ?_)
   | (with_reducible refine LeO.bind ?_ (fun _ => ?_))
   | exact ih0 _ _ _ _ _ _ _ _ _ _ _ _ _ _ _
   | exact ih1 _ _ _ _ _ _ _ _ _ _ _ _ _ _ _ _
   | exact ih2 _ _ _ _ _ _ _ _ _ _ _
   | exact ih3 _ _ _ _ _ _ _ _ _ _
   | exact constablekeep_Cond.mono ..
   | exact constablekeep_TwinConds.mono ..
   | exact constablelaw05_Heavy.mono ..
   | exact constablelaw08_Heavy.mono ..
   | exact constablelaw08_wakes.mono ..
   | exact constableref01_Binds.mono ..
   | exact constableref01_Guard.mono ..
   | exact constableref01_Holds.mono ..
   | exact constableref01_Test.mono ..
   | exact guard_Check.mono ..
   | exact guard_Eval.mono ..
   | exact guard_Holds.mono ..
   | exact LeO.none _
   | refine LeO.ite ?_ ?_
   | refine LeO.bind ?_ (fun _ => ?_)
set_option maxHeartbeats 8000000 in
set_option maxRecDepth 100000 in
theorem constablelaw08_GuardExact.calls (k : Nat) (a0 : Int) (a1_0 : Int) (a1_1 : Int) (a1_2 : ByteArray) (a2_0 : Int) (a2_1 : Int) (a2_2 : ByteArray) (a3_0 : Int) (a3_1 : ByteArray) (P3_2_ : Nat → Prop) (A3_2 : Option Addr) (c3_2 : Nat) (l3_2 : List (S72)) (a3_3 : Int) (P3_4_ : Nat → Prop) (A3_4 : Option Addr) (c3_4 : Nat) (l3_4 : List (S67)) (P3_5_ : Nat → Prop) (A3_5 : Option Addr) (c3_5 : Nat) (l3_5 : List (S67)) (A4 : Option Addr) (c4 : Nat) (l4 : List (S54)) (r : Bool) (w : World) (hs3_2 : Kd.V k72 72 w w.heap.size (fun k_ => P3_2_ k_) (.slice A3_2 l3_2.length c3_2) l3_2) (hs3_4 : Kd.V k67 67 w w.heap.size (fun k_ => P3_4_ k_) (.slice A3_4 l3_4.length c3_4) l3_4) (hs3_5 : Kd.V k67 67 w w.heap.size (fun k_ => P3_5_ k_) (.slice A3_5 l3_5.length c3_5) l3_5) (hr4 : Kd.C k54 w A4 l4.length l4) (hc4 : l4.length ≤ c4) (h : constablelaw08_GuardExact.f k a0 a1_0 a1_1 a1_2 a2_0 a2_1 a2_2 a3_0 a3_1 l3_2 a3_3 l3_4 l3_5 l4 = some r) (hr_ : r = true) :
  Calls Try.prog 3 #[.int .i64 a0, .agg #[.int .i64 a1_0, .int .i64 a1_1, .string a1_2], .agg #[.int .i64 a2_0, .int .i64 a2_1, .string a2_2], .agg #[.int .i64 a3_0, .string a3_1, .slice A3_2 l3_2.length c3_2, .int .i64 a3_3, .slice A3_4 l3_4.length c3_4, .slice A3_5 l3_5.length c3_5], .slice A4 l4.length c4] w fun e w' => e = .returned (.bool r) ∧ Below w.heap.size w w' := by
 have hu23 := Try.underlying23
 have hu29 := Try.underlying29
 have HO3_2 := Aside0.mk (show Kd.V k72 72 w w.heap.size (fun k_ => ((P3_2_ k_ ∨ P3_4_ k_ ∨ P3_5_ k_) ∨ w.heap.size ≤ k_)) (.slice A3_2 l3_2.length c3_2) l3_2 from Kd.V_mono hs3_2 (fun k_ hk => .inl (.inl hk)))
 have HO3_4 := Aside0.mk (show Kd.V k67 67 w w.heap.size (fun k_ => ((P3_2_ k_ ∨ P3_4_ k_ ∨ P3_5_ k_) ∨ w.heap.size ≤ k_)) (.slice A3_4 l3_4.length c3_4) l3_4 from Kd.V_mono hs3_4 (fun k_ hk => .inl (.inr (.inl hk))))
 have HO3_5 := Aside0.mk (show Kd.V k67 67 w w.heap.size (fun k_ => ((P3_2_ k_ ∨ P3_4_ k_ ∨ P3_5_ k_) ∨ w.heap.size ≤ k_)) (.slice A3_5 l3_5.length c3_5) l3_5 from Kd.V_mono hs3_5 (fun k_ hk => .inl (.inr (.inr hk))))
 have HR4 := Aside0.mk hr4
 have HC4 := Aside0.mk hc4
 clear hr4 hc4
 have HB := Aside0.mk (Below.refl w.heap.size w)
 have H : (if (a1_2.size : Int) > 200 then (constablelaw08_GuardExact.j0 k a0 l4 true a1_0 a1_1 a1_2 a2_0 a2_1 a2_2 a3_0 a3_1 l3_2 a3_3 l3_4 l3_5) else (if (a2_2.size : Int) > 200 then (constablelaw08_GuardExact.j0 k a0 l4 true a1_0 a1_1 a1_2 a2_0 a2_1 a2_2 a3_0 a3_1 l3_2 a3_3 l3_4 l3_5) else ((constablelaw08_Heavy.f k a3_0 a3_1 l3_2 a3_3 l3_4 l3_5).bind fun t370 => (if t370 = true then (constablelaw08_GuardExact.j0 k a0 l4 true a1_0 a1_1 a1_2 a2_0 a2_1 a2_2 a3_0 a3_1 l3_2 a3_3 l3_4 l3_5) else ((constablelaw05_Heavy.f k l4).bind fun t371 => (constablelaw08_GuardExact.j0 k a0 l4 t371 a1_0 a1_1 a1_2 a2_0 a2_1 a2_2 a3_0 a3_1 l3_2 a3_3 l3_4 l3_5)))))) = some r := h
 clear h
 have HR_ := Aside0.mk hr_
 clear hr_
 have HC6 := Aside0.mk H
 clear H
 go_enter Try.func3, Try.ntmps3
 go_upto_region 1 with (first | ((with_reducible refine gate_dst (N := 6) rfl ?_); (try (refine gate_guard (by rfl) ?_; dsimp only)); refine box_event ?hg (N := 6) ?hd (cs := #[.int .i64 a1_0, .int .i64 a1_1, .string a1_2]) (t := 23) ?hr ?_; (case hd => rfl); (case hg => rfl); (case hr => first | (go_simp; done) | (go_simp; rfl)); intro gb367 hg w7 hbox hb; replace HO3_2 := Aside0.mk (Kd.V_below (Kd.V_elderB (kV_ HO3_2) gb367 (Nat.le_of_eq hg.symm)) hb); replace HO3_4 := Aside0.mk (Kd.V_below (Kd.V_elderB (kV_ HO3_4) gb367 (Nat.le_of_eq hg.symm)) hb); replace HO3_5 := Aside0.mk (Kd.V_below (Kd.V_elderB (kV_ HO3_5) gb367 (Nat.le_of_eq hg.symm)) hb); have BK367 := Aside0.mk (hbox); have GW367 := gs_ hg (be_ HB); have GE367 := gs_ hg (be_ HB); replace HB := bs_ (be_ HB) hb; clear hb hbox hg) | ((with_reducible refine gate_dst (N := 7) rfl ?_); (try (refine gate_guard (by rfl) ?_; dsimp only)); refine box_event ?hg (N := 7) ?hd (cs := #[.int .i64 a2_0, .int .i64 a2_1, .string a2_2]) (t := 23) ?hr ?_; (case hd => rfl); (case hg => rfl); (case hr => first | (go_simp; done) | (go_simp; rfl)); intro gb368 hg w8 hbox hb; replace HO3_2 := Aside0.mk (Kd.V_below (Kd.V_elderB (kV_ HO3_2) gb368 (Nat.le_of_eq hg.symm)) hb); replace HO3_4 := Aside0.mk (Kd.V_below (Kd.V_elderB (kV_ HO3_4) gb368 (Nat.le_of_eq hg.symm)) hb); replace HO3_5 := Aside0.mk (Kd.V_below (Kd.V_elderB (kV_ HO3_5) gb368 (Nat.le_of_eq hg.symm)) hb); have BK368 := Aside0.mk (hbox); have GW368 := gs_ hg (be_ HB); have GE368 := gs_ hg (be_ HB); replace HB := bs_ (be_ HB) hb; have NB367_368 := nl_ hg (bu_ BK367); have NB368_367 := ng_ hg (bu_ BK367); replace BK367 := bb_ (bu_ BK367) hb; clear hb hbox hg) | ((with_reducible refine gate_dst (N := 8) rfl ?_); (try (refine gate_guard (by rfl) ?_; dsimp only)); refine box_event ?hg (N := 8) ?hd (cs := #[.int .i64 a3_0, .string a3_1, .slice A3_2 l3_2.length c3_2, .int .i64 a3_3, .slice A3_4 l3_4.length c3_4, .slice A3_5 l3_5.length c3_5]) (t := 29) ?hr ?_; (case hd => rfl); (case hg => rfl); (case hr => first | (go_simp; done) | (go_simp; rfl)); intro gb369 hg w9 hbox hb; replace HO3_2 := Aside0.mk (Kd.V_below (Kd.V_elderB (kV_ HO3_2) gb369 (Nat.le_of_eq hg.symm)) hb); replace HO3_4 := Aside0.mk (Kd.V_below (Kd.V_elderB (kV_ HO3_4) gb369 (Nat.le_of_eq hg.symm)) hb); replace HO3_5 := Aside0.mk (Kd.V_below (Kd.V_elderB (kV_ HO3_5) gb369 (Nat.le_of_eq hg.symm)) hb); have BK369 := Aside0.mk (hbox); have GW369 := gs_ hg (be_ HB); have GE369 := gs_ hg (be_ HB); replace HB := bs_ (be_ HB) hb; have NB367_369 := nl_ hg (bu_ BK367); have NB369_367 := ng_ hg (bu_ BK367); replace BK367 := bb_ (bu_ BK367) hb; have NB368_369 := nl_ hg (bu_ BK368); have NB369_368 := ng_ hg (bu_ BK368); replace BK368 := bb_ (bu_ BK368) hb; clear hb hbox hg))
 (try simp only [Act.put, List.setIfInBounds_toArray, List.set_cons_zero, List.set_cons_succ])
 go_cut [38] (fun v38 wc => ∃ (kq : Nat) (x38_5 : Bool), v38 = .bool x38_5 ∧ Aside0 (constablelaw08_GuardExact.j0 kq a0 l4 x38_5 a1_0 a1_1 a1_2 a2_0 a2_1 a2_2 a3_0 a3_1 l3_2 a3_3 l3_4 l3_5 = some r) ∧ Aside0 (kq ≤ k) ∧ Aside0 (Kd.V k72 72 wc w.heap.size (fun k_ => ((P3_2_ k_ ∨ P3_4_ k_ ∨ P3_5_ k_) ∨ w.heap.size ≤ k_) ∧ k_ ≠ gb367 ∧ k_ ≠ gb368 ∧ k_ ≠ gb369) (.slice A3_2 l3_2.length c3_2) l3_2) ∧ Aside0 (Kd.V k67 67 wc w.heap.size (fun k_ => ((P3_2_ k_ ∨ P3_4_ k_ ∨ P3_5_ k_) ∨ w.heap.size ≤ k_) ∧ k_ ≠ gb367 ∧ k_ ≠ gb368 ∧ k_ ≠ gb369) (.slice A3_4 l3_4.length c3_4) l3_4) ∧ Aside0 (Kd.V k67 67 wc w.heap.size (fun k_ => ((P3_2_ k_ ∨ P3_4_ k_ ∨ P3_5_ k_) ∨ w.heap.size ≤ k_) ∧ k_ ≠ gb367 ∧ k_ ≠ gb368 ∧ k_ ≠ gb369) (.slice A3_5 l3_5.length c3_5) l3_5) ∧ Aside0 (wc.heap[gb367]? = some (.cells #[.int .i64 a1_0, .int .i64 a1_1, .string a1_2] 23 (0, 0))) ∧ Aside0 (wc.heap[gb368]? = some (.cells #[.int .i64 a2_0, .int .i64 a2_1, .string a2_2] 23 (0, 0))) ∧ Aside0 (wc.heap[gb369]? = some (.cells #[.int .i64 a3_0, .string a3_1, (.slice A3_2 l3_2.length c3_2), .int .i64 a3_3, (.slice A3_4 l3_4.length c3_4), (.slice A3_5 l3_5.length c3_5)] 29 (0, 0))) ∧ Aside0 (Below w.heap.size w wc))
 case first =>
  have H := HC6.out
  clear HC6
  by_cases c10 : (a1_2.size : Int) > 200
  ·rw [if_pos c10] at H
   have c10b0 : decide (200 < (a1_2.size : Int)) = true := decide_eq_true c10
   have c10b1 : decide (200 < a1_2.size) = true := decide_eq_true (by omega)
   clear c10
   (first | rw [c10b0] | (simp only [i64_w, i32_w]; rw [c10b0]) | skip)
   have H' := Aside0.mk H
   clear H
   have hnb11 := NB367_368.out
   have hnc11 := NB368_367.out
   have hnb12 := NB367_369.out
   have hnc12 := NB369_367.out
   have hcz13_0 : w9.cell? ⟨gb367, 0, none⟩ = some (.int .i64 a1_0) := (blk_cell BK367.out 0).trans rfl
   have hcz13_1 : w9.cell? ⟨gb367, 1, none⟩ = some (.int .i64 a1_1) := (blk_cell BK367.out 1).trans rfl
   have hcz13_2 : w9.cell? ⟨gb367, 2, none⟩ = some (.string a1_2) := (blk_cell BK367.out 2).trans rfl
   have hfz13_0 := blk_frozen BK367.out 0
   have hfz13_1 := blk_frozen BK367.out 1
   have hfz13_2 := blk_frozen BK367.out 2
   go_wp2
   go_meet
   case rel => exact ⟨_, (true), ra_, H', le_, mV_ (Kd.V_mono HO3_2.out (fun _ hk => ⟨hk.1.1.1, ⟨hk.1.1.2, ⟨hk.1.2, hk.2⟩⟩⟩)), mV_ (Kd.V_mono HO3_4.out (fun _ hk => ⟨hk.1.1.1, ⟨hk.1.1.2, ⟨hk.1.2, hk.2⟩⟩⟩)), mV_ (Kd.V_mono HO3_5.out (fun _ hk => ⟨hk.1.1.1, ⟨hk.1.1.2, ⟨hk.1.2, hk.2⟩⟩⟩)), bu2_ BK367, bu2_ BK368, bu2_ BK369, be2_ HB⟩
  ·rw [if_neg c10] at H
   have c10b0 : decide (200 < (a1_2.size : Int)) = false := decide_eq_false c10
   have c10b1 : decide (200 < a1_2.size) = false := decide_eq_false (by omega)
   clear c10
   (first | rw [c10b0] | (simp only [i64_w, i32_w]; rw [c10b0]) | skip)
   by_cases c14 : (a2_2.size : Int) > 200
   ·rw [if_pos c14] at H
    have c14b0 : decide (200 < (a2_2.size : Int)) = true := decide_eq_true c14
    have c14b1 : decide (200 < a2_2.size) = true := decide_eq_true (by omega)
    clear c14
    have H' := Aside0.mk H
    clear H
    have hnb15 := NB367_368.out
    have hnc15 := NB368_367.out
    have hnb16 := NB367_369.out
    have hnc16 := NB369_367.out
    have hcz17_0 : w9.cell? ⟨gb367, 0, none⟩ = some (.int .i64 a1_0) := (blk_cell BK367.out 0).trans rfl
    have hcz17_1 : w9.cell? ⟨gb367, 1, none⟩ = some (.int .i64 a1_1) := (blk_cell BK367.out 1).trans rfl
    have hcz17_2 : w9.cell? ⟨gb367, 2, none⟩ = some (.string a1_2) := (blk_cell BK367.out 2).trans rfl
    have hfz17_0 := blk_frozen BK367.out 0
    have hfz17_1 := blk_frozen BK367.out 1
    have hfz17_2 := blk_frozen BK367.out 2
    have hnb18 := NB368_369.out
    have hnc18 := NB369_368.out
    have hcz19_0 : w9.cell? ⟨gb368, 0, none⟩ = some (.int .i64 a2_0) := (blk_cell BK368.out 0).trans rfl
    have hcz19_1 : w9.cell? ⟨gb368, 1, none⟩ = some (.int .i64 a2_1) := (blk_cell BK368.out 1).trans rfl
    have hcz19_2 : w9.cell? ⟨gb368, 2, none⟩ = some (.string a2_2) := (blk_cell BK368.out 2).trans rfl
    have hfz19_0 := blk_frozen BK368.out 0
    have hfz19_1 := blk_frozen BK368.out 1
    have hfz19_2 := blk_frozen BK368.out 2
    go_wp2
    go_meet
    case rel => exact ⟨_, (true), ra_, H', le_, mV_ (Kd.V_mono HO3_2.out (fun _ hk => ⟨hk.1.1.1, ⟨hk.1.1.2, ⟨hk.1.2, hk.2⟩⟩⟩)), mV_ (Kd.V_mono HO3_4.out (fun _ hk => ⟨hk.1.1.1, ⟨hk.1.1.2, ⟨hk.1.2, hk.2⟩⟩⟩)), mV_ (Kd.V_mono HO3_5.out (fun _ hk => ⟨hk.1.1.1, ⟨hk.1.1.2, ⟨hk.1.2, hk.2⟩⟩⟩)), bu2_ BK367, bu2_ BK368, bu2_ BK369, be2_ HB⟩
   ·rw [if_neg c14] at H
    have c14b0 : decide (200 < (a2_2.size : Int)) = false := decide_eq_false c14
    have c14b1 : decide (200 < a2_2.size) = false := decide_eq_false (by omega)
    clear c14
    replace H := Option.bind_eq_some_iff.mp H
    obtain ⟨t370, A200, H⟩ := H
    try dsimp only at H
    have A20 := Aside0.mk A200
    clear A200
    by_cases c21 : t370 = true
    ·subst c21
     rw [if_pos rfl] at H
     have H' := Aside0.mk H
     clear H
     have hnb22 := NB367_368.out
     have hnc22 := NB368_367.out
     have hnb23 := NB367_369.out
     have hnc23 := NB369_367.out
     have hcz24_0 : w9.cell? ⟨gb367, 0, none⟩ = some (.int .i64 a1_0) := (blk_cell BK367.out 0).trans rfl
     have hcz24_1 : w9.cell? ⟨gb367, 1, none⟩ = some (.int .i64 a1_1) := (blk_cell BK367.out 1).trans rfl
     have hcz24_2 : w9.cell? ⟨gb367, 2, none⟩ = some (.string a1_2) := (blk_cell BK367.out 2).trans rfl
     have hfz24_0 := blk_frozen BK367.out 0
     have hfz24_1 := blk_frozen BK367.out 1
     have hfz24_2 := blk_frozen BK367.out 2
     have hnb25 := NB368_369.out
     have hnc25 := NB369_368.out
     have hcz26_0 : w9.cell? ⟨gb368, 0, none⟩ = some (.int .i64 a2_0) := (blk_cell BK368.out 0).trans rfl
     have hcz26_1 : w9.cell? ⟨gb368, 1, none⟩ = some (.int .i64 a2_1) := (blk_cell BK368.out 1).trans rfl
     have hcz26_2 : w9.cell? ⟨gb368, 2, none⟩ = some (.string a2_2) := (blk_cell BK368.out 2).trans rfl
     have hfz26_0 := blk_frozen BK368.out 0
     have hfz26_1 := blk_frozen BK368.out 1
     have hfz26_2 := blk_frozen BK368.out 2
     have hcz27_0 : w9.cell? ⟨gb369, 0, none⟩ = some (.int .i64 a3_0) := (blk_cell BK369.out 0).trans rfl
     have hcz27_1 : w9.cell? ⟨gb369, 1, none⟩ = some (.string a3_1) := (blk_cell BK369.out 1).trans rfl
     have hcz27_2 : w9.cell? ⟨gb369, 2, none⟩ = some (.slice A3_2 l3_2.length c3_2) := (blk_cell BK369.out 2).trans rfl
     have hcz27_3 : w9.cell? ⟨gb369, 3, none⟩ = some (.int .i64 a3_3) := (blk_cell BK369.out 3).trans rfl
     have hcz27_4 : w9.cell? ⟨gb369, 4, none⟩ = some (.slice A3_4 l3_4.length c3_4) := (blk_cell BK369.out 4).trans rfl
     have hcz27_5 : w9.cell? ⟨gb369, 5, none⟩ = some (.slice A3_5 l3_5.length c3_5) := (blk_cell BK369.out 5).trans rfl
     have hfz27_0 := blk_frozen BK369.out 0
     have hfz27_1 := blk_frozen BK369.out 1
     have hfz27_2 := blk_frozen BK369.out 2
     have hfz27_3 := blk_frozen BK369.out 3
     have hfz27_4 := blk_frozen BK369.out 4
     have hfz27_5 := blk_frozen BK369.out 5
     go_wp2_with (first | (go_at_call 7; (with_reducible refine (constablelaw08_Heavy.calls k a3_0 a3_1 _ _ l3_2 a3_3 _ _ l3_4 _ _ l3_5 true _ ?side1 ?side2 ?side3 ?side4 ?side5 ?side6 A20.out).mono ?_); (case side1 => exact kd_ ((Kd.V_reads' HO3_2.out).2.2)); (case side2 => exact (Kd.V_reads' HO3_2.out).2.1); (case side3 => exact kd_ ((Kd.V_reads' HO3_4.out).2.2)); (case side4 => exact (Kd.V_reads' HO3_4.out).2.1); (case side5 => exact kd_ ((Kd.V_reads' HO3_5.out).2.2)); (case side6 => exact (Kd.V_reads' HO3_5.out).2.1); rintro e w28 ⟨rfl, hb⟩; replace HO3_2 := bV_ HO3_2 hb; replace HO3_4 := bV_ HO3_4 hb; replace HO3_5 := bV_ HO3_5 hb; replace BK367 := bb_ (bu_ BK367) hb; replace BK368 := bb_ (bu_ BK368) hb; replace BK369 := bb_ (bu_ BK369) hb; replace HB := bs_ (be_ HB) hb; (try clear hb); (try clear hb2); (try clear hk); (try clear hi)))
     go_meet
     case rel => exact ⟨_, (true), ra_, H', le_, mV_ (Kd.V_mono HO3_2.out (fun _ hk => ⟨hk.1.1.1, ⟨hk.1.1.2, ⟨hk.1.2, hk.2⟩⟩⟩)), mV_ (Kd.V_mono HO3_4.out (fun _ hk => ⟨hk.1.1.1, ⟨hk.1.1.2, ⟨hk.1.2, hk.2⟩⟩⟩)), mV_ (Kd.V_mono HO3_5.out (fun _ hk => ⟨hk.1.1.1, ⟨hk.1.1.2, ⟨hk.1.2, hk.2⟩⟩⟩)), bu2_ BK367, bu2_ BK368, bu2_ BK369, be2_ HB⟩
    ·replace c21 := Bool.eq_false_iff.mpr c21
     subst c21
     rw [if_neg (show ¬ (false = true) by decide)] at H
     replace H := Option.bind_eq_some_iff.mp H
     obtain ⟨t371, A290, H⟩ := H
     try dsimp only at H
     have A29 := Aside0.mk A290
     clear A290
     have H' := Aside0.mk H
     clear H
     have hnb30 := NB367_368.out
     have hnc30 := NB368_367.out
     have hnb31 := NB367_369.out
     have hnc31 := NB369_367.out
     have hcz32_0 : w9.cell? ⟨gb367, 0, none⟩ = some (.int .i64 a1_0) := (blk_cell BK367.out 0).trans rfl
     have hcz32_1 : w9.cell? ⟨gb367, 1, none⟩ = some (.int .i64 a1_1) := (blk_cell BK367.out 1).trans rfl
     have hcz32_2 : w9.cell? ⟨gb367, 2, none⟩ = some (.string a1_2) := (blk_cell BK367.out 2).trans rfl
     have hfz32_0 := blk_frozen BK367.out 0
     have hfz32_1 := blk_frozen BK367.out 1
     have hfz32_2 := blk_frozen BK367.out 2
     have hnb33 := NB368_369.out
     have hnc33 := NB369_368.out
     have hcz34_0 : w9.cell? ⟨gb368, 0, none⟩ = some (.int .i64 a2_0) := (blk_cell BK368.out 0).trans rfl
     have hcz34_1 : w9.cell? ⟨gb368, 1, none⟩ = some (.int .i64 a2_1) := (blk_cell BK368.out 1).trans rfl
     have hcz34_2 : w9.cell? ⟨gb368, 2, none⟩ = some (.string a2_2) := (blk_cell BK368.out 2).trans rfl
     have hfz34_0 := blk_frozen BK368.out 0
     have hfz34_1 := blk_frozen BK368.out 1
     have hfz34_2 := blk_frozen BK368.out 2
     have hcz35_0 : w9.cell? ⟨gb369, 0, none⟩ = some (.int .i64 a3_0) := (blk_cell BK369.out 0).trans rfl
     have hcz35_1 : w9.cell? ⟨gb369, 1, none⟩ = some (.string a3_1) := (blk_cell BK369.out 1).trans rfl
     have hcz35_2 : w9.cell? ⟨gb369, 2, none⟩ = some (.slice A3_2 l3_2.length c3_2) := (blk_cell BK369.out 2).trans rfl
     have hcz35_3 : w9.cell? ⟨gb369, 3, none⟩ = some (.int .i64 a3_3) := (blk_cell BK369.out 3).trans rfl
     have hcz35_4 : w9.cell? ⟨gb369, 4, none⟩ = some (.slice A3_4 l3_4.length c3_4) := (blk_cell BK369.out 4).trans rfl
     have hcz35_5 : w9.cell? ⟨gb369, 5, none⟩ = some (.slice A3_5 l3_5.length c3_5) := (blk_cell BK369.out 5).trans rfl
     have hfz35_0 := blk_frozen BK369.out 0
     have hfz35_1 := blk_frozen BK369.out 1
     have hfz35_2 := blk_frozen BK369.out 2
     have hfz35_3 := blk_frozen BK369.out 3
     have hfz35_4 := blk_frozen BK369.out 4
     have hfz35_5 := blk_frozen BK369.out 5
     go_wp2_with (first | (go_at_call 7; (with_reducible refine (constablelaw08_Heavy.calls k a3_0 a3_1 _ _ l3_2 a3_3 _ _ l3_4 _ _ l3_5 false _ ?side1 ?side2 ?side3 ?side4 ?side5 ?side6 A20.out).mono ?_); (case side1 => exact kd_ ((Kd.V_reads' HO3_2.out).2.2)); (case side2 => exact (Kd.V_reads' HO3_2.out).2.1); (case side3 => exact kd_ ((Kd.V_reads' HO3_4.out).2.2)); (case side4 => exact (Kd.V_reads' HO3_4.out).2.1); (case side5 => exact kd_ ((Kd.V_reads' HO3_5.out).2.2)); (case side6 => exact (Kd.V_reads' HO3_5.out).2.1); rintro e w36 ⟨rfl, hb⟩; replace HO3_2 := bV_ HO3_2 hb; replace HO3_4 := bV_ HO3_4 hb; replace HO3_5 := bV_ HO3_5 hb; replace BK367 := bb_ (bu_ BK367) hb; replace BK368 := bb_ (bu_ BK368) hb; replace BK369 := bb_ (bu_ BK369) hb; replace HB := bs_ (be_ HB) hb; (try clear hb); (try clear hb2); (try clear hk); (try clear hi)) | (go_at_call 8; (with_reducible refine (constablelaw05_Heavy.calls k _ _ l4 t371 _ ?side1 ?side2 A29.out).mono ?_); (case side1 => exact kd_ ((Kd.C_below HR4.out HB.out))); (case side2 => exact HC4.out); rintro e w' ⟨rfl, ⟨nd, rfl⟩⟩))
     go_meet
     case rel => exact ⟨_, (t371), ra_, H', le_, mV_ (Kd.V_mono HO3_2.out (fun _ hk => ⟨hk.1.1.1, ⟨hk.1.1.2, ⟨hk.1.2, hk.2⟩⟩⟩)), mV_ (Kd.V_mono HO3_4.out (fun _ hk => ⟨hk.1.1.1, ⟨hk.1.1.2, ⟨hk.1.2, hk.2⟩⟩⟩)), mV_ (Kd.V_mono HO3_5.out (fun _ hk => ⟨hk.1.1.1, ⟨hk.1.1.2, ⟨hk.1.2, hk.2⟩⟩⟩)), bu2_ BK367, bu2_ BK368, bu2_ BK369, be2_ HB⟩
 case rest =>
  clear HC6
  try clear c1; try clear c2; try clear p2; try clear c3; try clear c4; try clear c10; try clear c10b0; try clear c10b1; try clear c11; try clear c12; try clear c14; try clear c14b0; try clear c14b1; try clear c15; try clear c16; try clear c18; try clear c21; try clear c22; try clear c23; try clear c25; try clear c30; try clear c31; try clear c33; try clear hcz13_0; try clear hcz13_1; try clear hcz13_2; try clear hcz17_0; try clear hcz17_1; try clear hcz17_2; try clear hcz19_0; try clear hcz19_1; try clear hcz19_2; try clear hcz24_0; try clear hcz24_1; try clear hcz24_2; try clear hcz26_0; try clear hcz26_1; try clear hcz26_2; try clear hcz27_0; try clear hcz27_1; try clear hcz27_2; try clear hcz27_3; try clear hcz27_4; try clear hcz27_5; try clear hcz32_0; try clear hcz32_1; try clear hcz32_2; try clear hcz34_0; try clear hcz34_1; try clear hcz34_2; try clear hcz35_0; try clear hcz35_1; try clear hcz35_2; try clear hcz35_3; try clear hcz35_4; try clear hcz35_5; try clear hfz13_0; try clear hfz13_1; try clear hfz13_2; try clear hfz17_0; try clear hfz17_1; try clear hfz17_2; try clear hfz19_0; try clear hfz19_1; try clear hfz19_2; try clear hfz24_0; try clear hfz24_1; try clear hfz24_2; try clear hfz26_0; try clear hfz26_1; try clear hfz26_2; try clear hfz27_0; try clear hfz27_1; try clear hfz27_2; try clear hfz27_3; try clear hfz27_4; try clear hfz27_5; try clear hfz32_0; try clear hfz32_1; try clear hfz32_2; try clear hfz34_0; try clear hfz34_1; try clear hfz34_2; try clear hfz35_0; try clear hfz35_1; try clear hfz35_2; try clear hfz35_3; try clear hfz35_4; try clear hfz35_5
  obtain ⟨kq, x38_5, rfl, HA, HJ5, HO_370002, HO_370004, HO_370005, BK367, BK368, BK369, HB⟩ := hcut
  cases kq with
  | zero => exact absurd HA.out (by simp [constablelaw08_GuardExact.j0])
  | succ kj5 =>
   have H := HA.out
   clear HA
   simp only [constablelaw08_GuardExact.j0] at H
   by_cases c37 : x38_5 = true
   ·subst c37
    rw [if_pos rfl] at H
    obtain rfl := Option.some.inj H
    go_wp2
    go_ret
    exact ⟨re_, be_ HB⟩
   ·replace c37 := Bool.eq_false_iff.mpr c37
    subst c37
    rw [if_neg (show ¬ (false = true) by decide)] at H
    obtain ⟨y372, hy372⟩ : ∃ y_ : List (S29), y_ = (([(⟨a3_0, (⟨a3_1, l3_2⟩ : S26), a3_3, l3_4, l3_5⟩ : S29)] : List (S29))) := ⟨_, rfl⟩
    replace H : ((constablekeep_TwinConds.f kj5 y372).bind fun t375 => (if 0 < (t375.length : Int) then ((guard_Holds.f kj5 a0 a1_0 a1_1 a1_2 a2_0 a2_1 a2_2).bind fun bt380 => ((constableref01_Holds.f kj5 a0 a1_0 a1_1 a1_2 a2_0 a2_1 a2_2).bind fun bt382 => ((guard_Eval.f kj5 ((rd_T29 t375 0).f0) ((rd_T29 t375 0).f1.f0) ((rd_T29 t375 0).f1.f1) ((rd_T29 t375 0).f2) ((rd_T29 t375 0).f3) ((rd_T29 t375 0).f4) l4).bind fun bt384 => (if (bt380.1 != bt382.1) = true then (constablelaw08_GuardExact.j1 kj5 l4 bt384.1 bt384.2 true a3_0 a3_1 l3_2 a3_3 l3_4 l3_5 ((rd_T29 t375 0).f0) ((rd_T29 t375 0).f1.f0) ((rd_T29 t375 0).f1.f1) ((rd_T29 t375 0).f2) ((rd_T29 t375 0).f3) ((rd_T29 t375 0).f4)) else (if bt380.2 = bt382.2 then ((constablekeep_Cond.f kj5 ((rd_T29 t375 0).f0) ((rd_T29 t375 0).f1.f0) ((rd_T29 t375 0).f1.f1) ((rd_T29 t375 0).f2) ((rd_T29 t375 0).f3) ((rd_T29 t375 0).f4) a3_0 a3_1 l3_2 a3_3 l3_4 l3_5).bind fun t386 => (constablelaw08_GuardExact.j1 kj5 l4 bt384.1 bt384.2 (!t386) a3_0 a3_1 l3_2 a3_3 l3_4 l3_5 ((rd_T29 t375 0).f0) ((rd_T29 t375 0).f1.f0) ((rd_T29 t375 0).f1.f1) ((rd_T29 t375 0).f2) ((rd_T29 t375 0).f3) ((rd_T29 t375 0).f4))) else (constablelaw08_GuardExact.j1 kj5 l4 bt384.1 bt384.2 true a3_0 a3_1 l3_2 a3_3 l3_4 l3_5 ((rd_T29 t375 0).f0) ((rd_T29 t375 0).f1.f0) ((rd_T29 t375 0).f1.f1) ((rd_T29 t375 0).f2) ((rd_T29 t375 0).f3) ((rd_T29 t375 0).f4))))))) else (none))) = some r := by first | (rw [hy372]; with_reducible exact H) | (have H2_ := (Option.bind_some _ _).symm.trans H; rw [hy372]; with_reducible exact H2_) | (have H2_ := (Option.bind_some _ _).symm.trans H; with_reducible exact H2_) | with_reducible exact H | (rw [hy372]; exact H) | exact H
    have Ny372 := Aside0.mk hy372
    clear hy372
    replace H := Option.bind_eq_some_iff.mp H
    obtain ⟨t375, A380, H⟩ := H
    try dsimp only at H
    have A38 := Aside0.mk A380
    clear A380
    by_cases c39 : 0 < (t375.length : Int)
    ·rw [if_pos c39] at H
     have c39b0 : decide (0 < (t375.length : Int)) = true := decide_eq_true c39
     have c39b1 : decide (0 < t375.length) = true := decide_eq_true (by omega)
     clear c39
     replace H := Option.bind_eq_some_iff.mp H
     obtain ⟨⟨t380, t381⟩, A400, H⟩ := H
     try dsimp only at H
     have A40 := Aside0.mk A400
     clear A400
     replace H := Option.bind_eq_some_iff.mp H
     obtain ⟨⟨t382, t383⟩, A410, H⟩ := H
     try dsimp only at H
     have A41 := Aside0.mk A410
     clear A410
     replace H := Option.bind_eq_some_iff.mp H
     obtain ⟨⟨t384, t385⟩, A420, H⟩ := H
     try dsimp only at H
     have A42 := Aside0.mk A420
     clear A420
     have HC43 := Aside0.mk H
     clear H
     have hnb44 := NB369_367.out
     have hnc44 := NB367_369.out
     have hnb45 := NB369_368.out
     have hnc45 := NB368_369.out
     have hcz46_0 : wc.cell? ⟨gb369, 0, none⟩ = some (.int .i64 a3_0) := (blk_cell BK369.out 0).trans rfl
     have hcz46_1 : wc.cell? ⟨gb369, 1, none⟩ = some (.string a3_1) := (blk_cell BK369.out 1).trans rfl
     have hcz46_2 : wc.cell? ⟨gb369, 2, none⟩ = some (.slice A3_2 l3_2.length c3_2) := (blk_cell BK369.out 2).trans rfl
     have hcz46_3 : wc.cell? ⟨gb369, 3, none⟩ = some (.int .i64 a3_3) := (blk_cell BK369.out 3).trans rfl
     have hcz46_4 : wc.cell? ⟨gb369, 4, none⟩ = some (.slice A3_4 l3_4.length c3_4) := (blk_cell BK369.out 4).trans rfl
     have hcz46_5 : wc.cell? ⟨gb369, 5, none⟩ = some (.slice A3_5 l3_5.length c3_5) := (blk_cell BK369.out 5).trans rfl
     have hfz46_0 := blk_frozen BK369.out 0
     have hfz46_1 := blk_frozen BK369.out 1
     have hfz46_2 := blk_frozen BK369.out 2
     have hfz46_3 := blk_frozen BK369.out 3
     have hfz46_4 := blk_frozen BK369.out 4
     have hfz46_5 := blk_frozen BK369.out 5
     go_upto_region 7 with (first | ((with_reducible refine gate_dst (N := 40) rfl ?_); (try (refine gate_guard (by rfl) ?_; dsimp only)); refine Kd.N_lit k29 _ 29 ?hg (N' := 40) ?hd (xs := ([(⟨a3_0, (⟨a3_1, l3_2⟩ : S26), a3_3, l3_4, l3_5⟩ : S29)] : List (S29))) (inner := [.int .i64 a3_0, .string a3_1, .slice A3_2 l3_2.length c3_2, .int .i64 a3_3, .slice A3_4 l3_4.length c3_4, .slice A3_5 l3_5.length c3_5]) (ok := (fun k_ => ((P3_2_ k_ ∨ P3_4_ k_ ∨ P3_5_ k_) ∨ w.heap.size ≤ k_) ∧ k_ ≠ gb367 ∧ k_ ≠ gb368 ∧ k_ ≠ gb369)) (okp := (fun k_ => ((P3_2_ k_ ∨ P3_4_ k_ ∨ P3_5_ k_) ∨ w.heap.size ≤ k_) ∧ k_ ≠ gb367 ∧ k_ ≠ gb368 ∧ k_ ≠ gb369)) ?hr ?hp (fun _ hk => hk) ((show ∀ k_, wc.heap.size ≤ k_ → (fun k_ => ((P3_2_ k_ ∨ P3_4_ k_ ∨ P3_5_ k_) ∨ w.heap.size ≤ k_) ∧ k_ ≠ gb367 ∧ k_ ≠ gb368 ∧ k_ ≠ gb369) k_ from fun k_ hk => ⟨(.inr (Nat.le_trans (below_size (be_ HB)) hk)), Kd.freshB (bu_ BK367) k_ hk, Kd.freshB (bu_ BK368) k_ hk, Kd.freshB (bu_ BK369) k_ hk⟩) _ (Nat.le_refl _)) (Below.refl _ _) (Nat.le_refl _) (by simp) ?_; (case hd => rfl); (case hg => rfl); (case hr => first | (go_simp; done) | (go_simp; rfl)); (case hp => exact (Reps.c6 (show Kd.FK k29 _ _ (⟨a3_0, (⟨a3_1, l3_2⟩ : S26), a3_3, l3_4, l3_5⟩ : S29) [.int .i64 a3_0, .string a3_1, .slice A3_2 l3_2.length c3_2, .int .i64 a3_3, .slice A3_4 l3_4.length c3_4, .slice A3_5 l3_5.length c3_5] from (k29_mkF _ _ (⟨a3_0, (⟨a3_1, l3_2⟩ : S26), a3_3, l3_4, l3_5⟩ : S29) (Kd.V_reads' (Kd.V_mono (ok' := (fun k_ => ((P3_2_ k_ ∨ P3_4_ k_ ∨ P3_5_ k_) ∨ w.heap.size ≤ k_) ∧ k_ ≠ gb367 ∧ k_ ≠ gb368 ∧ k_ ≠ gb369)) (HO_370002.out) (fun k_ hk => ⟨hk.1, ⟨hk.2.1, ⟨hk.2.2.1, hk.2.2.2⟩⟩⟩))).2.1 (Kd.V_F (Kd.V_mono (ok' := (fun k_ => ((P3_2_ k_ ∨ P3_4_ k_ ∨ P3_5_ k_) ∨ w.heap.size ≤ k_) ∧ k_ ≠ gb367 ∧ k_ ≠ gb368 ∧ k_ ≠ gb369)) (HO_370002.out) (fun k_ hk => ⟨hk.1, ⟨hk.2.1, ⟨hk.2.2.1, hk.2.2.2⟩⟩⟩))) (Kd.V_reads' (Kd.V_mono (ok' := (fun k_ => ((P3_2_ k_ ∨ P3_4_ k_ ∨ P3_5_ k_) ∨ w.heap.size ≤ k_) ∧ k_ ≠ gb367 ∧ k_ ≠ gb368 ∧ k_ ≠ gb369)) (HO_370004.out) (fun k_ hk => ⟨hk.1, ⟨hk.2.1, ⟨hk.2.2.1, hk.2.2.2⟩⟩⟩))).2.1 (Kd.V_F (Kd.V_mono (ok' := (fun k_ => ((P3_2_ k_ ∨ P3_4_ k_ ∨ P3_5_ k_) ∨ w.heap.size ≤ k_) ∧ k_ ≠ gb367 ∧ k_ ≠ gb368 ∧ k_ ≠ gb369)) (HO_370004.out) (fun k_ hk => ⟨hk.1, ⟨hk.2.1, ⟨hk.2.2.1, hk.2.2.2⟩⟩⟩))) (Kd.V_reads' (Kd.V_mono (ok' := (fun k_ => ((P3_2_ k_ ∨ P3_4_ k_ ∨ P3_5_ k_) ∨ w.heap.size ≤ k_) ∧ k_ ≠ gb367 ∧ k_ ≠ gb368 ∧ k_ ≠ gb369)) (HO_370005.out) (fun k_ hk => ⟨hk.1, ⟨hk.2.1, ⟨hk.2.2.1, hk.2.2.2⟩⟩⟩))).2.1 (Kd.V_F (Kd.V_mono (ok' := (fun k_ => ((P3_2_ k_ ∨ P3_4_ k_ ∨ P3_5_ k_) ∨ w.heap.size ≤ k_) ∧ k_ ≠ gb367 ∧ k_ ≠ gb368 ∧ k_ ≠ gb369)) (HO_370005.out) (fun k_ hk => ⟨hk.1, ⟨hk.2.1, ⟨hk.2.2.1, hk.2.2.2⟩⟩⟩))))) (Reps.none _ _))); intro v373 w47 ho48 hb hg_ hnew_; clear hg_ hnew_; (first | rw [← Ny372.out] at ho48 | (simp only [Int.reduceToNat] at ho48; rw [← Ny372.out] at ho48)); replace HO_370002 := Aside0.mk (Kd.V_elder' (kV_ HO_370002) (by first | exact Kd.N_base ho48 | exact Kd.S_base ho48 | exact Kd.R_base ho48) hb); replace HO_370004 := Aside0.mk (Kd.V_elder' (kV_ HO_370004) (by first | exact Kd.N_base ho48 | exact Kd.S_base ho48 | exact Kd.R_base ho48) hb); replace HO_370005 := Aside0.mk (Kd.V_elder' (kV_ HO_370005) (by first | exact Kd.N_base ho48 | exact Kd.S_base ho48 | exact Kd.R_base ho48) hb); have HO374 := Aside0.mk (Kd.N_lower ho48 (below_size (be_ HB))); replace BK367 := bb_ (bu_ BK367) hb; replace BK368 := bb_ (bu_ BK368) hb; replace BK369 := bb_ (bu_ BK369) hb; replace HB := bs_ (be_ HB) hb; clear hb ho48; obtain ⟨Ao49, co49, eo49⟩ := Kd.N_slice HO374.out; subst eo49) | ((with_reducible refine gate_callee (f := 9) rfl ?_); refine goesL_ (some 41) rfl rfl Try.func9 (by kernel_rfl) rfl #[.slice Ao49 y372.length co49] rfl ga_ ?_; (with_reducible refine (constablekeep_TwinConds.calls kj5 _ _ y372 t375 _ ?side1 ?side2 A38.out).mono ?_); (case side1 => exact kd_ ((Kd.N_reads' HO374.out).2.2)); (case side2 => exact (Kd.N_reads' HO374.out).2.1); rintro e w50 ⟨v376, rfl, ho0, hb⟩; refine ⟨_, rfl, ?_⟩; replace HO_370002 := Aside0.mk (Kd.V_elder' (kV_ HO_370002) (by first | exact Kd.N_base ho0 | exact Kd.S_base ho0 | exact Kd.R_base ho0) hb); replace HO_370004 := Aside0.mk (Kd.V_elder' (kV_ HO_370004) (by first | exact Kd.N_base ho0 | exact Kd.S_base ho0 | exact Kd.R_base ho0) hb); replace HO_370005 := Aside0.mk (Kd.V_elder' (kV_ HO_370005) (by first | exact Kd.N_base ho0 | exact Kd.S_base ho0 | exact Kd.R_base ho0) hb); have HO377 := Aside0.mk (Kd.N_lower (Kd.N_mono (ok' := fun k_ => ((P3_2_ k_ ∨ P3_4_ k_ ∨ P3_5_ k_) ∨ w.heap.size ≤ k_) ∧ some k_ ≠ (.slice Ao49 y372.length co49 : Value).ownBlock ∧ k_ ≠ gb367 ∧ k_ ≠ gb368 ∧ k_ ≠ gb369) (Kd.S_N (Kd.S_bound ho0)) (fun k_ hk_ => ⟨(.inr (Nat.le_trans (below_size (be_ HB)) hk_.2.1)), (Kd.fresh' (Kd.N_lt (kN_ HO374)) k_ hk_.2.1), (Kd.freshB (bu_ BK367) k_ hk_.2.1), (Kd.freshB (bu_ BK368) k_ hk_.2.1), (Kd.freshB (bu_ BK369) k_ hk_.2.1)⟩)) (below_size (be_ HB))); replace HO374 := Aside0.mk (Kd.N_elder' (kN_ HO374) (by first | exact Kd.N_base ho0 | exact Kd.S_base ho0 | exact Kd.R_base ho0) hb); replace BK367 := bb_ (bu_ BK367) hb; replace BK368 := bb_ (bu_ BK368) hb; replace BK369 := bb_ (bu_ BK369) hb; replace HB := bs_ (be_ HB) hb; (try clear hb); (try clear hb2); (try clear hk); (try clear hi); (try clear ho0); obtain ⟨Ao51, co51, eo51⟩ := Kd.N_slice HO377.out; subst eo51; have p378 : 0 ≤ (0 : Int) := (by omega); have q378 : 0 < (t375.length : Int) := dt_; obtain ⟨ad378, A378_2, c378_2, A378_4, c378_4, A378_5, c378_5, e378, hx378_0, hx378_1, hx378_2, hx378_3, hx378_4, hx378_5, hl378_2, hi378_2, hl378_4, hi378_4, hl378_5, hi378_5⟩ := at_T29 (Kd.N_reads' HO377.out).2.2 0 p378 q378; cases e378; obtain ⟨ce378, hce378, hMe378, hcc378⟩ := Kd.N_get HO377.out z29 0 p378 (by first | exact q378 | exact of_decide_eq_true (by first | (with_reducible assumption) | assumption) | (have e_ := (Kd.N_reads' HO377.out).1; omega)); obtain ⟨ua378_2, uc378_2, ua378_4, uc378_4, ua378_5, uc378_5, rfl, ul378_2, ge378_2, ul378_4, ge378_4, ul378_5, ge378_5⟩ := k29_openF hMe378; have hv378_2 := hcc378 2 _ rfl; rw [add_field _ _ 2 (by omega)] at hv378_2; replace hv378_2 := Option.some.inj (hv378_2.symm.trans hx378_2); injection hv378_2 with hva_ hvn_ hvc_; rw [hva_] at ge378_2; rw [hvc_] at ul378_2; have HL378_2 := Aside0.mk (show Kd.V k72 72 _ w.heap.size _ _ ((rd_T29 t375 0).f1.f1) from Kd.V_mk ul378_2 ge378_2); clear hva_ hvn_ hvc_ ge378_2 ul378_2; have hv378_4 := hcc378 4 _ rfl; rw [add_field _ _ 4 (by omega)] at hv378_4; replace hv378_4 := Option.some.inj (hv378_4.symm.trans hx378_4); injection hv378_4 with hva_ hvn_ hvc_; rw [hva_] at ge378_4; rw [hvc_] at ul378_4; have HL378_4 := Aside0.mk (show Kd.V k67 67 _ w.heap.size _ _ ((rd_T29 t375 0).f3) from Kd.V_mk ul378_4 ge378_4); clear hva_ hvn_ hvc_ ge378_4 ul378_4; have hv378_5 := hcc378 5 _ rfl; rw [add_field _ _ 5 (by omega)] at hv378_5; replace hv378_5 := Option.some.inj (hv378_5.symm.trans hx378_5); injection hv378_5 with hva_ hvn_ hvc_; rw [hva_] at ge378_5; rw [hvc_] at ul378_5; have HL378_5 := Aside0.mk (show Kd.V k67 67 _ w.heap.size _ _ ((rd_T29 t375 0).f4) from Kd.V_mk ul378_5 ge378_5); clear hva_ hvn_ hvc_ ge378_5 ul378_5; clear hcc378 hce378; have qi378 : (0 < t375.length) = True := eq_true (by omega); (try rw [show ((0 : Int)).toNat = 0 from rfl] at hx378_0); (try rw [show 0 * 6 = 0 from rfl] at hx378_0); (try rw [Addr.add_zero'] at hx378_0); (try rw [show ((0 : Int)).toNat = 0 from rfl] at hx378_1); (try rw [show 0 * 6 = 0 from rfl] at hx378_1); (try rw [Addr.add_zero'] at hx378_1); (try rw [show ((0 : Int)).toNat = 0 from rfl] at hx378_2); (try rw [show 0 * 6 = 0 from rfl] at hx378_2); (try rw [Addr.add_zero'] at hx378_2); (try rw [show ((0 : Int)).toNat = 0 from rfl] at hx378_3); (try rw [show 0 * 6 = 0 from rfl] at hx378_3); (try rw [Addr.add_zero'] at hx378_3); (try rw [show ((0 : Int)).toNat = 0 from rfl] at hx378_4); (try rw [show 0 * 6 = 0 from rfl] at hx378_4); (try rw [Addr.add_zero'] at hx378_4); (try rw [show ((0 : Int)).toNat = 0 from rfl] at hx378_5); (try rw [show 0 * 6 = 0 from rfl] at hx378_5); (try rw [Addr.add_zero'] at hx378_5); have HR378_2 := Aside0.mk hi378_2; have HC378_2 := Aside0.mk hl378_2; clear hi378_2 hl378_2; have HR378_4 := Aside0.mk hi378_4; have HC378_4 := Aside0.mk hl378_4; clear hi378_4 hl378_4; have HR378_5 := Aside0.mk hi378_5; have HC378_5 := Aside0.mk hl378_5; clear hi378_5 hl378_5; replace p378 := eq_true p378; replace q378 := eq_true q378) | ((with_reducible refine gate_dst (N := 11) rfl ?_); (try (refine gate_guard (by rfl) ?_; dsimp only)); refine box_event ?hg (N := 11) ?hd (cs := #[.int .i64 0, .string (⟨#[]⟩ : ByteArray), .slice none 0 0, .int .i64 0, .slice none 0 0, .slice none 0 0]) (t := 29) ?hr ?_; (case hd => rfl); (case hg => rfl); (case hr => first | (go_simp; done) | (go_simp; rfl)); intro gb379 hg w52 hbox hb; replace HO_370002 := Aside0.mk (Kd.V_below (Kd.V_elderB (kV_ HO_370002) gb379 (Nat.le_of_eq hg.symm)) hb); replace HO_370004 := Aside0.mk (Kd.V_below (Kd.V_elderB (kV_ HO_370004) gb379 (Nat.le_of_eq hg.symm)) hb); replace HO_370005 := Aside0.mk (Kd.V_below (Kd.V_elderB (kV_ HO_370005) gb379 (Nat.le_of_eq hg.symm)) hb); replace HO374 := Aside0.mk (Kd.N_below (Kd.N_elderB (kN_ HO374) gb379 (Nat.le_of_eq hg.symm)) hb); replace HO377 := Aside0.mk (Kd.N_below (Kd.N_elderB (kN_ HO377) gb379 (Nat.le_of_eq hg.symm)) hb); replace HL378_2 := Aside0.mk (Kd.V_below (Kd.V_elderB (kV_ HL378_2) gb379 (Nat.le_of_eq hg.symm)) hb); replace HL378_4 := Aside0.mk (Kd.V_below (Kd.V_elderB (kV_ HL378_4) gb379 (Nat.le_of_eq hg.symm)) hb); replace HL378_5 := Aside0.mk (Kd.V_below (Kd.V_elderB (kV_ HL378_5) gb379 (Nat.le_of_eq hg.symm)) hb); replace HR378_2 := bC_ HR378_2 hb; replace HR378_4 := bC_ HR378_4 hb; replace HR378_5 := bC_ HR378_5 hb; have BK379 := Aside0.mk (hbox); have GW379 := gs_ hg (be_ HB); have GE379 := gs_ hg (be_ HB); replace HB := bs_ (be_ HB) hb; have NB367_379 := nl_ hg (bu_ BK367); have NB379_367 := ng_ hg (bu_ BK367); replace BK367 := bb_ (bu_ BK367) hb; have NB368_379 := nl_ hg (bu_ BK368); have NB379_368 := ng_ hg (bu_ BK368); replace BK368 := bb_ (bu_ BK368) hb; have NB369_379 := nl_ hg (bu_ BK369); have NB379_369 := ng_ hg (bu_ BK369); replace BK369 := bb_ (bu_ BK369) hb; clear hb hbox hg; have hnb53 := NB379_367.out; have hnc53 := NB367_379.out; have hnb54 := NB379_368.out; have hnc54 := NB368_379.out; have hnb55 := NB379_369.out; have hnc55 := NB369_379.out; have hcz56_0 : w52.cell? ⟨gb379, 0, none⟩ = some (.int .i64 0) := (blk_cell BK379.out 0).trans rfl; have hcz56_1 : w52.cell? ⟨gb379, 1, none⟩ = some (.string (⟨#[]⟩ : ByteArray)) := (blk_cell BK379.out 1).trans rfl; have hcz56_2 : w52.cell? ⟨gb379, 2, none⟩ = some (.slice none 0 0) := (blk_cell BK379.out 2).trans rfl; have hcz56_3 : w52.cell? ⟨gb379, 3, none⟩ = some (.int .i64 0) := (blk_cell BK379.out 3).trans rfl; have hcz56_4 : w52.cell? ⟨gb379, 4, none⟩ = some (.slice none 0 0) := (blk_cell BK379.out 4).trans rfl; have hcz56_5 : w52.cell? ⟨gb379, 5, none⟩ = some (.slice none 0 0) := (blk_cell BK379.out 5).trans rfl; have hfz56_0 := blk_frozen BK379.out 0; have hfz56_1 := blk_frozen BK379.out 1; have hfz56_2 := blk_frozen BK379.out 2; have hfz56_3 := blk_frozen BK379.out 3; have hfz56_4 := blk_frozen BK379.out 4; have hfz56_5 := blk_frozen BK379.out 5; have hnb57 := NB367_368.out; have hnc57 := NB368_367.out; have hcz58_0 : w52.cell? ⟨gb367, 0, none⟩ = some (.int .i64 a1_0) := (blk_cell BK367.out 0).trans rfl; have hcz58_1 : w52.cell? ⟨gb367, 1, none⟩ = some (.int .i64 a1_1) := (blk_cell BK367.out 1).trans rfl; have hcz58_2 : w52.cell? ⟨gb367, 2, none⟩ = some (.string a1_2) := (blk_cell BK367.out 2).trans rfl; have hfz58_0 := blk_frozen BK367.out 0; have hfz58_1 := blk_frozen BK367.out 1; have hfz58_2 := blk_frozen BK367.out 2; have hcz59_0 : w52.cell? ⟨gb368, 0, none⟩ = some (.int .i64 a2_0) := (blk_cell BK368.out 0).trans rfl; have hcz59_1 : w52.cell? ⟨gb368, 1, none⟩ = some (.int .i64 a2_1) := (blk_cell BK368.out 1).trans rfl; have hcz59_2 : w52.cell? ⟨gb368, 2, none⟩ = some (.string a2_2) := (blk_cell BK368.out 2).trans rfl; have hfz59_0 := blk_frozen BK368.out 0; have hfz59_1 := blk_frozen BK368.out 1; have hfz59_2 := blk_frozen BK368.out 2) | ((with_reducible refine gate_callee (f := 10) rfl ?_); refine goesL_ (some 48) rfl rfl Try.func10 (by kernel_rfl) rfl #[.int .i64 a0, .agg #[.int .i64 a1_0, .int .i64 a1_1, .string a1_2], .agg #[.int .i64 a2_0, .int .i64 a2_1, .string a2_2]] rfl ga_ ?_; (with_reducible refine (guard_Holds.calls kj5 a0 a1_0 a1_1 a1_2 a2_0 a2_1 a2_2 t380 t381 _ A40.out).mono ?_); rintro e w60 ⟨rfl, hb⟩; refine ⟨_, rfl, ?_⟩; replace HO_370002 := Aside0.mk (Kd.V_below (by (with_reducible repeat (first | apply Kd.V_alloc | apply Kd.V_drewN | apply Kd.V_drew)); exact (Kd.V_mono (Kd.V_far (p := ⟨gb379, 5, none⟩) (Kd.V_far (p := ⟨gb379, 4, none⟩) (Kd.V_far (p := ⟨gb379, 3, none⟩) (Kd.V_far (p := ⟨gb379, 2, none⟩) (Kd.V_far (p := ⟨gb379, 1, none⟩) (Kd.V_far (p := ⟨gb379, 0, none⟩) (Kd.V_mono HO_370002.out (fun k_ hk => (⟨hk, hk.2⟩ : _ ∧ k_ ≠ gb379))) (fun _ hk => hk.2) (.int .i64 ((rd_T29 t375 0).f0))) (fun _ hk => hk.2) (.string ((rd_T29 t375 0).f1.f0))) (fun _ hk => hk.2) (.slice A378_2 ((rd_T29 t375 0).f1.f1).length c378_2)) (fun _ hk => hk.2) (.int .i64 ((rd_T29 t375 0).f2))) (fun _ hk => hk.2) (.slice A378_4 ((rd_T29 t375 0).f3).length c378_4)) (fun _ hk => hk.2) (.slice A378_5 ((rd_T29 t375 0).f4).length c378_5)) (fun _ h_ => h_.1))) hb); replace HO_370004 := Aside0.mk (Kd.V_below (by (with_reducible repeat (first | apply Kd.V_alloc | apply Kd.V_drewN | apply Kd.V_drew)); exact (Kd.V_mono (Kd.V_far (p := ⟨gb379, 5, none⟩) (Kd.V_far (p := ⟨gb379, 4, none⟩) (Kd.V_far (p := ⟨gb379, 3, none⟩) (Kd.V_far (p := ⟨gb379, 2, none⟩) (Kd.V_far (p := ⟨gb379, 1, none⟩) (Kd.V_far (p := ⟨gb379, 0, none⟩) (Kd.V_mono HO_370004.out (fun k_ hk => (⟨hk, hk.2⟩ : _ ∧ k_ ≠ gb379))) (fun _ hk => hk.2) (.int .i64 ((rd_T29 t375 0).f0))) (fun _ hk => hk.2) (.string ((rd_T29 t375 0).f1.f0))) (fun _ hk => hk.2) (.slice A378_2 ((rd_T29 t375 0).f1.f1).length c378_2)) (fun _ hk => hk.2) (.int .i64 ((rd_T29 t375 0).f2))) (fun _ hk => hk.2) (.slice A378_4 ((rd_T29 t375 0).f3).length c378_4)) (fun _ hk => hk.2) (.slice A378_5 ((rd_T29 t375 0).f4).length c378_5)) (fun _ h_ => h_.1))) hb); replace HO_370005 := Aside0.mk (Kd.V_below (by (with_reducible repeat (first | apply Kd.V_alloc | apply Kd.V_drewN | apply Kd.V_drew)); exact (Kd.V_mono (Kd.V_far (p := ⟨gb379, 5, none⟩) (Kd.V_far (p := ⟨gb379, 4, none⟩) (Kd.V_far (p := ⟨gb379, 3, none⟩) (Kd.V_far (p := ⟨gb379, 2, none⟩) (Kd.V_far (p := ⟨gb379, 1, none⟩) (Kd.V_far (p := ⟨gb379, 0, none⟩) (Kd.V_mono HO_370005.out (fun k_ hk => (⟨hk, hk.2⟩ : _ ∧ k_ ≠ gb379))) (fun _ hk => hk.2) (.int .i64 ((rd_T29 t375 0).f0))) (fun _ hk => hk.2) (.string ((rd_T29 t375 0).f1.f0))) (fun _ hk => hk.2) (.slice A378_2 ((rd_T29 t375 0).f1.f1).length c378_2)) (fun _ hk => hk.2) (.int .i64 ((rd_T29 t375 0).f2))) (fun _ hk => hk.2) (.slice A378_4 ((rd_T29 t375 0).f3).length c378_4)) (fun _ hk => hk.2) (.slice A378_5 ((rd_T29 t375 0).f4).length c378_5)) (fun _ h_ => h_.1))) hb); replace HO374 := Aside0.mk (Kd.N_below (by (with_reducible repeat (first | apply Kd.N_alloc | apply Kd.N_drewN | apply Kd.N_drew)); exact (Kd.N_mono (Kd.N_far (p := ⟨gb379, 5, none⟩) (Kd.N_far (p := ⟨gb379, 4, none⟩) (Kd.N_far (p := ⟨gb379, 3, none⟩) (Kd.N_far (p := ⟨gb379, 2, none⟩) (Kd.N_far (p := ⟨gb379, 1, none⟩) (Kd.N_far (p := ⟨gb379, 0, none⟩) (Kd.N_mono HO374.out (fun k_ hk => (⟨hk, hk.2⟩ : _ ∧ k_ ≠ gb379))) (fun _ hk => hk.2) (.int .i64 ((rd_T29 t375 0).f0))) (fun _ hk => hk.2) (.string ((rd_T29 t375 0).f1.f0))) (fun _ hk => hk.2) (.slice A378_2 ((rd_T29 t375 0).f1.f1).length c378_2)) (fun _ hk => hk.2) (.int .i64 ((rd_T29 t375 0).f2))) (fun _ hk => hk.2) (.slice A378_4 ((rd_T29 t375 0).f3).length c378_4)) (fun _ hk => hk.2) (.slice A378_5 ((rd_T29 t375 0).f4).length c378_5)) (fun _ h_ => h_.1))) hb); replace HO377 := Aside0.mk (Kd.N_below (by (with_reducible repeat (first | apply Kd.N_alloc | apply Kd.N_drewN | apply Kd.N_drew)); exact (Kd.N_mono (Kd.N_far (p := ⟨gb379, 5, none⟩) (Kd.N_far (p := ⟨gb379, 4, none⟩) (Kd.N_far (p := ⟨gb379, 3, none⟩) (Kd.N_far (p := ⟨gb379, 2, none⟩) (Kd.N_far (p := ⟨gb379, 1, none⟩) (Kd.N_far (p := ⟨gb379, 0, none⟩) (Kd.N_mono HO377.out (fun k_ hk => (⟨hk, hk.2⟩ : _ ∧ k_ ≠ gb379))) (fun _ hk => hk.2) (.int .i64 ((rd_T29 t375 0).f0))) (fun _ hk => hk.2) (.string ((rd_T29 t375 0).f1.f0))) (fun _ hk => hk.2) (.slice A378_2 ((rd_T29 t375 0).f1.f1).length c378_2)) (fun _ hk => hk.2) (.int .i64 ((rd_T29 t375 0).f2))) (fun _ hk => hk.2) (.slice A378_4 ((rd_T29 t375 0).f3).length c378_4)) (fun _ hk => hk.2) (.slice A378_5 ((rd_T29 t375 0).f4).length c378_5)) (fun _ h_ => h_.1))) hb); replace BK367 := bb_ (bu_ BK367) hb; replace BK368 := bb_ (bu_ BK368) hb; replace BK369 := bb_ (bu_ BK369) hb; replace HR378_2 := Aside0.mk (Kd.C_below ((Kd.V_reads' (by (with_reducible repeat (first | apply Kd.V_alloc | apply Kd.V_drewN | apply Kd.V_drew)); exact (Kd.V_mono (Kd.V_far (p := ⟨gb379, 5, none⟩) (Kd.V_far (p := ⟨gb379, 4, none⟩) (Kd.V_far (p := ⟨gb379, 3, none⟩) (Kd.V_far (p := ⟨gb379, 2, none⟩) (Kd.V_far (p := ⟨gb379, 1, none⟩) (Kd.V_far (p := ⟨gb379, 0, none⟩) (Kd.V_mono HL378_2.out (fun k_ hk => (⟨hk, hk.2⟩ : _ ∧ k_ ≠ gb379))) (fun _ hk => hk.2) (.int .i64 ((rd_T29 t375 0).f0))) (fun _ hk => hk.2) (.string ((rd_T29 t375 0).f1.f0))) (fun _ hk => hk.2) (.slice A378_2 ((rd_T29 t375 0).f1.f1).length c378_2)) (fun _ hk => hk.2) (.int .i64 ((rd_T29 t375 0).f2))) (fun _ hk => hk.2) (.slice A378_4 ((rd_T29 t375 0).f3).length c378_4)) (fun _ hk => hk.2) (.slice A378_5 ((rd_T29 t375 0).f4).length c378_5)) (fun _ h_ => h_.1)))).2.2) hb); replace HL378_2 := Aside0.mk (Kd.V_below (by (with_reducible repeat (first | apply Kd.V_alloc | apply Kd.V_drewN | apply Kd.V_drew)); exact (Kd.V_mono (Kd.V_far (p := ⟨gb379, 5, none⟩) (Kd.V_far (p := ⟨gb379, 4, none⟩) (Kd.V_far (p := ⟨gb379, 3, none⟩) (Kd.V_far (p := ⟨gb379, 2, none⟩) (Kd.V_far (p := ⟨gb379, 1, none⟩) (Kd.V_far (p := ⟨gb379, 0, none⟩) (Kd.V_mono HL378_2.out (fun k_ hk => (⟨hk, hk.2⟩ : _ ∧ k_ ≠ gb379))) (fun _ hk => hk.2) (.int .i64 ((rd_T29 t375 0).f0))) (fun _ hk => hk.2) (.string ((rd_T29 t375 0).f1.f0))) (fun _ hk => hk.2) (.slice A378_2 ((rd_T29 t375 0).f1.f1).length c378_2)) (fun _ hk => hk.2) (.int .i64 ((rd_T29 t375 0).f2))) (fun _ hk => hk.2) (.slice A378_4 ((rd_T29 t375 0).f3).length c378_4)) (fun _ hk => hk.2) (.slice A378_5 ((rd_T29 t375 0).f4).length c378_5)) (fun _ h_ => h_.1))) hb); replace HR378_4 := Aside0.mk (Kd.C_below ((Kd.V_reads' (by (with_reducible repeat (first | apply Kd.V_alloc | apply Kd.V_drewN | apply Kd.V_drew)); exact (Kd.V_mono (Kd.V_far (p := ⟨gb379, 5, none⟩) (Kd.V_far (p := ⟨gb379, 4, none⟩) (Kd.V_far (p := ⟨gb379, 3, none⟩) (Kd.V_far (p := ⟨gb379, 2, none⟩) (Kd.V_far (p := ⟨gb379, 1, none⟩) (Kd.V_far (p := ⟨gb379, 0, none⟩) (Kd.V_mono HL378_4.out (fun k_ hk => (⟨hk, hk.2⟩ : _ ∧ k_ ≠ gb379))) (fun _ hk => hk.2) (.int .i64 ((rd_T29 t375 0).f0))) (fun _ hk => hk.2) (.string ((rd_T29 t375 0).f1.f0))) (fun _ hk => hk.2) (.slice A378_2 ((rd_T29 t375 0).f1.f1).length c378_2)) (fun _ hk => hk.2) (.int .i64 ((rd_T29 t375 0).f2))) (fun _ hk => hk.2) (.slice A378_4 ((rd_T29 t375 0).f3).length c378_4)) (fun _ hk => hk.2) (.slice A378_5 ((rd_T29 t375 0).f4).length c378_5)) (fun _ h_ => h_.1)))).2.2) hb); replace HL378_4 := Aside0.mk (Kd.V_below (by (with_reducible repeat (first | apply Kd.V_alloc | apply Kd.V_drewN | apply Kd.V_drew)); exact (Kd.V_mono (Kd.V_far (p := ⟨gb379, 5, none⟩) (Kd.V_far (p := ⟨gb379, 4, none⟩) (Kd.V_far (p := ⟨gb379, 3, none⟩) (Kd.V_far (p := ⟨gb379, 2, none⟩) (Kd.V_far (p := ⟨gb379, 1, none⟩) (Kd.V_far (p := ⟨gb379, 0, none⟩) (Kd.V_mono HL378_4.out (fun k_ hk => (⟨hk, hk.2⟩ : _ ∧ k_ ≠ gb379))) (fun _ hk => hk.2) (.int .i64 ((rd_T29 t375 0).f0))) (fun _ hk => hk.2) (.string ((rd_T29 t375 0).f1.f0))) (fun _ hk => hk.2) (.slice A378_2 ((rd_T29 t375 0).f1.f1).length c378_2)) (fun _ hk => hk.2) (.int .i64 ((rd_T29 t375 0).f2))) (fun _ hk => hk.2) (.slice A378_4 ((rd_T29 t375 0).f3).length c378_4)) (fun _ hk => hk.2) (.slice A378_5 ((rd_T29 t375 0).f4).length c378_5)) (fun _ h_ => h_.1))) hb); replace HR378_5 := Aside0.mk (Kd.C_below ((Kd.V_reads' (by (with_reducible repeat (first | apply Kd.V_alloc | apply Kd.V_drewN | apply Kd.V_drew)); exact (Kd.V_mono (Kd.V_far (p := ⟨gb379, 5, none⟩) (Kd.V_far (p := ⟨gb379, 4, none⟩) (Kd.V_far (p := ⟨gb379, 3, none⟩) (Kd.V_far (p := ⟨gb379, 2, none⟩) (Kd.V_far (p := ⟨gb379, 1, none⟩) (Kd.V_far (p := ⟨gb379, 0, none⟩) (Kd.V_mono HL378_5.out (fun k_ hk => (⟨hk, hk.2⟩ : _ ∧ k_ ≠ gb379))) (fun _ hk => hk.2) (.int .i64 ((rd_T29 t375 0).f0))) (fun _ hk => hk.2) (.string ((rd_T29 t375 0).f1.f0))) (fun _ hk => hk.2) (.slice A378_2 ((rd_T29 t375 0).f1.f1).length c378_2)) (fun _ hk => hk.2) (.int .i64 ((rd_T29 t375 0).f2))) (fun _ hk => hk.2) (.slice A378_4 ((rd_T29 t375 0).f3).length c378_4)) (fun _ hk => hk.2) (.slice A378_5 ((rd_T29 t375 0).f4).length c378_5)) (fun _ h_ => h_.1)))).2.2) hb); replace HL378_5 := Aside0.mk (Kd.V_below (by (with_reducible repeat (first | apply Kd.V_alloc | apply Kd.V_drewN | apply Kd.V_drew)); exact (Kd.V_mono (Kd.V_far (p := ⟨gb379, 5, none⟩) (Kd.V_far (p := ⟨gb379, 4, none⟩) (Kd.V_far (p := ⟨gb379, 3, none⟩) (Kd.V_far (p := ⟨gb379, 2, none⟩) (Kd.V_far (p := ⟨gb379, 1, none⟩) (Kd.V_far (p := ⟨gb379, 0, none⟩) (Kd.V_mono HL378_5.out (fun k_ hk => (⟨hk, hk.2⟩ : _ ∧ k_ ≠ gb379))) (fun _ hk => hk.2) (.int .i64 ((rd_T29 t375 0).f0))) (fun _ hk => hk.2) (.string ((rd_T29 t375 0).f1.f0))) (fun _ hk => hk.2) (.slice A378_2 ((rd_T29 t375 0).f1.f1).length c378_2)) (fun _ hk => hk.2) (.int .i64 ((rd_T29 t375 0).f2))) (fun _ hk => hk.2) (.slice A378_4 ((rd_T29 t375 0).f3).length c378_4)) (fun _ hk => hk.2) (.slice A378_5 ((rd_T29 t375 0).f4).length c378_5)) (fun _ h_ => h_.1))) hb); replace BK379 := Aside0.mk (blk_below (o := .cells #[.int .i64 ((rd_T29 t375 0).f0), .string ((rd_T29 t375 0).f1.f0), .slice A378_2 ((rd_T29 t375 0).f1.f1).length c378_2, .int .i64 ((rd_T29 t375 0).f2), .slice A378_4 ((rd_T29 t375 0).f3).length c378_4, .slice A378_5 ((rd_T29 t375 0).f4).length c378_5] 29 (0, 0)) (bp_ BK379) hb); replace HB := bs_ (be_ HB) hb; (try clear hb); (try clear hb2); (try clear hk); (try clear hi); have hcz61_0 : w60.cell? ⟨gb367, 0, none⟩ = some (.int .i64 a1_0) := (blk_cell BK367.out 0).trans rfl; have hcz61_1 : w60.cell? ⟨gb367, 1, none⟩ = some (.int .i64 a1_1) := (blk_cell BK367.out 1).trans rfl; have hcz61_2 : w60.cell? ⟨gb367, 2, none⟩ = some (.string a1_2) := (blk_cell BK367.out 2).trans rfl; have hfz61_0 := blk_frozen BK367.out 0; have hfz61_1 := blk_frozen BK367.out 1; have hfz61_2 := blk_frozen BK367.out 2; have hcz62_0 : w60.cell? ⟨gb368, 0, none⟩ = some (.int .i64 a2_0) := (blk_cell BK368.out 0).trans rfl; have hcz62_1 : w60.cell? ⟨gb368, 1, none⟩ = some (.int .i64 a2_1) := (blk_cell BK368.out 1).trans rfl; have hcz62_2 : w60.cell? ⟨gb368, 2, none⟩ = some (.string a2_2) := (blk_cell BK368.out 2).trans rfl; have hfz62_0 := blk_frozen BK368.out 0; have hfz62_1 := blk_frozen BK368.out 1; have hfz62_2 := blk_frozen BK368.out 2) | ((with_reducible refine gate_callee (f := 11) rfl ?_); refine goesL_ (some 55) rfl rfl Try.func11 (by kernel_rfl) rfl #[.int .i64 a0, .agg #[.int .i64 a1_0, .int .i64 a1_1, .string a1_2], .agg #[.int .i64 a2_0, .int .i64 a2_1, .string a2_2]] rfl ga_ ?_; (with_reducible refine (constableref01_Holds.calls kj5 a0 a1_0 a1_1 a1_2 a2_0 a2_1 a2_2 t382 t383 _ A41.out).mono ?_); rintro e w63 ⟨rfl, hb⟩; refine ⟨_, rfl, ?_⟩; replace HO_370002 := bV_ HO_370002 hb; replace HO_370004 := bV_ HO_370004 hb; replace HO_370005 := bV_ HO_370005 hb; replace HO374 := bN_ HO374 hb; replace HO377 := bN_ HO377 hb; replace HL378_2 := bV_ HL378_2 hb; replace HL378_4 := bV_ HL378_4 hb; replace HL378_5 := bV_ HL378_5 hb; replace BK367 := bb_ (bu_ BK367) hb; replace BK368 := bb_ (bu_ BK368) hb; replace BK369 := bb_ (bu_ BK369) hb; replace HR378_2 := bC_ HR378_2 hb; replace HR378_4 := bC_ HR378_4 hb; replace HR378_5 := bC_ HR378_5 hb; replace BK379 := bb_ (bu_ BK379) hb; replace HB := bs_ (be_ HB) hb; (try clear hb); (try clear hb2); (try clear hk); (try clear hi); have hcz64_0 : w63.cell? ⟨gb379, 0, none⟩ = some (.int .i64 ((rd_T29 t375 0).f0)) := (blk_cell BK379.out 0).trans rfl; have hcz64_1 : w63.cell? ⟨gb379, 1, none⟩ = some (.string ((rd_T29 t375 0).f1.f0)) := (blk_cell BK379.out 1).trans rfl; have hcz64_2 : w63.cell? ⟨gb379, 2, none⟩ = some (.slice A378_2 ((rd_T29 t375 0).f1.f1).length c378_2) := (blk_cell BK379.out 2).trans rfl; have hcz64_3 : w63.cell? ⟨gb379, 3, none⟩ = some (.int .i64 ((rd_T29 t375 0).f2)) := (blk_cell BK379.out 3).trans rfl; have hcz64_4 : w63.cell? ⟨gb379, 4, none⟩ = some (.slice A378_4 ((rd_T29 t375 0).f3).length c378_4) := (blk_cell BK379.out 4).trans rfl; have hcz64_5 : w63.cell? ⟨gb379, 5, none⟩ = some (.slice A378_5 ((rd_T29 t375 0).f4).length c378_5) := (blk_cell BK379.out 5).trans rfl; have hfz64_0 := blk_frozen BK379.out 0; have hfz64_1 := blk_frozen BK379.out 1; have hfz64_2 := blk_frozen BK379.out 2; have hfz64_3 := blk_frozen BK379.out 3; have hfz64_4 := blk_frozen BK379.out 4; have hfz64_5 := blk_frozen BK379.out 5) | ((with_reducible refine gate_callee (f := 12) rfl ?_); refine goesL_ (some 61) rfl rfl Try.func12 (by kernel_rfl) rfl #[.agg #[.int .i64 ((rd_T29 t375 0).f0), .string ((rd_T29 t375 0).f1.f0), .slice A378_2 ((rd_T29 t375 0).f1.f1).length c378_2, .int .i64 ((rd_T29 t375 0).f2), .slice A378_4 ((rd_T29 t375 0).f3).length c378_4, .slice A378_5 ((rd_T29 t375 0).f4).length c378_5], .slice A4 l4.length c4] rfl ga_ ?_; (with_reducible refine (guard_Eval.calls kj5 ((rd_T29 t375 0).f0) ((rd_T29 t375 0).f1.f0) _ _ ((rd_T29 t375 0).f1.f1) ((rd_T29 t375 0).f2) _ _ ((rd_T29 t375 0).f3) _ _ ((rd_T29 t375 0).f4) _ _ l4 t384 t385 _ ?side1 ?side2 ?side3 ?side4 ?side5 ?side6 ?side7 ?side8 A42.out).mono ?_); (case side1 => exact kC_ HR378_2); (case side2 => exact HC378_2.out); (case side3 => exact kC_ HR378_4); (case side4 => exact HC378_4.out); (case side5 => exact kC_ HR378_5); (case side6 => exact HC378_5.out); (case side7 => exact kd_ ((Kd.C_below HR4.out HB.out))); (case side8 => exact HC4.out); rintro e w65 ⟨rfl, hb⟩; refine ⟨_, rfl, ?_⟩; replace HO_370002 := bV_ HO_370002 hb; replace HO_370004 := bV_ HO_370004 hb; replace HO_370005 := bV_ HO_370005 hb; replace HO374 := bN_ HO374 hb; replace HO377 := bN_ HO377 hb; replace HL378_2 := bV_ HL378_2 hb; replace HL378_4 := bV_ HL378_4 hb; replace HL378_5 := bV_ HL378_5 hb; replace BK367 := bb_ (bu_ BK367) hb; replace BK368 := bb_ (bu_ BK368) hb; replace BK369 := bb_ (bu_ BK369) hb; replace HR378_2 := bC_ HR378_2 hb; replace HR378_4 := bC_ HR378_4 hb; replace HR378_5 := bC_ HR378_5 hb; replace BK379 := bb_ (bu_ BK379) hb; replace HB := bs_ (be_ HB) hb; (try clear hb); (try clear hb2); (try clear hk); (try clear hi)))
     (try simp only [Act.put, List.setIfInBounds_toArray, List.set_cons_zero, List.set_cons_succ])
     go_cut [77] (fun v77 wc => ∃ (kq : Nat) (x77_42 : Bool), v77 = .bool x77_42 ∧ Aside0 (constablelaw08_GuardExact.j1 kq l4 t384 t385 x77_42 a3_0 a3_1 l3_2 a3_3 l3_4 l3_5 ((rd_T29 t375 0).f0) ((rd_T29 t375 0).f1.f0) ((rd_T29 t375 0).f1.f1) ((rd_T29 t375 0).f2) ((rd_T29 t375 0).f3) ((rd_T29 t375 0).f4) = some r) ∧ Aside0 (kq ≤ kj5) ∧ Aside0 (Kd.V k72 72 wc w.heap.size (fun k_ => ((P3_2_ k_ ∨ P3_4_ k_ ∨ P3_5_ k_) ∨ w.heap.size ≤ k_) ∧ k_ ≠ gb367 ∧ k_ ≠ gb368 ∧ k_ ≠ gb369 ∧ k_ ≠ gb379) (.slice A3_2 l3_2.length c3_2) l3_2) ∧ Aside0 (Kd.V k67 67 wc w.heap.size (fun k_ => ((P3_2_ k_ ∨ P3_4_ k_ ∨ P3_5_ k_) ∨ w.heap.size ≤ k_) ∧ k_ ≠ gb367 ∧ k_ ≠ gb368 ∧ k_ ≠ gb369 ∧ k_ ≠ gb379) (.slice A3_4 l3_4.length c3_4) l3_4) ∧ Aside0 (Kd.V k67 67 wc w.heap.size (fun k_ => ((P3_2_ k_ ∨ P3_4_ k_ ∨ P3_5_ k_) ∨ w.heap.size ≤ k_) ∧ k_ ≠ gb367 ∧ k_ ≠ gb368 ∧ k_ ≠ gb369 ∧ k_ ≠ gb379) (.slice A3_5 l3_5.length c3_5) l3_5) ∧ Aside0 (Kd.V k72 72 wc w.heap.size (fun k_ => ((P3_2_ k_ ∨ P3_4_ k_ ∨ P3_5_ k_) ∨ w.heap.size ≤ k_) ∧ k_ ≠ gb367 ∧ k_ ≠ gb368 ∧ k_ ≠ gb369 ∧ k_ ≠ gb379) (.slice A378_2 ((rd_T29 t375 0).f1.f1).length c378_2) ((rd_T29 t375 0).f1.f1)) ∧ Aside0 (Kd.V k67 67 wc w.heap.size (fun k_ => ((P3_2_ k_ ∨ P3_4_ k_ ∨ P3_5_ k_) ∨ w.heap.size ≤ k_) ∧ k_ ≠ gb367 ∧ k_ ≠ gb368 ∧ k_ ≠ gb369 ∧ k_ ≠ gb379) (.slice A378_4 ((rd_T29 t375 0).f3).length c378_4) ((rd_T29 t375 0).f3)) ∧ Aside0 (Kd.V k67 67 wc w.heap.size (fun k_ => ((P3_2_ k_ ∨ P3_4_ k_ ∨ P3_5_ k_) ∨ w.heap.size ≤ k_) ∧ k_ ≠ gb367 ∧ k_ ≠ gb368 ∧ k_ ≠ gb369 ∧ k_ ≠ gb379) (.slice A378_5 ((rd_T29 t375 0).f4).length c378_5) ((rd_T29 t375 0).f4)) ∧ Aside0 (wc.heap[gb367]? = some (.cells #[.int .i64 a1_0, .int .i64 a1_1, .string a1_2] 23 (0, 0))) ∧ Aside0 (wc.heap[gb368]? = some (.cells #[.int .i64 a2_0, .int .i64 a2_1, .string a2_2] 23 (0, 0))) ∧ Aside0 (wc.heap[gb369]? = some (.cells #[.int .i64 a3_0, .string a3_1, (.slice A3_2 l3_2.length c3_2), .int .i64 a3_3, (.slice A3_4 l3_4.length c3_4), (.slice A3_5 l3_5.length c3_5)] 29 (0, 0))) ∧ Aside0 (wc.heap[gb379]? = some (.cells #[.int .i64 ((rd_T29 t375 0).f0), .string ((rd_T29 t375 0).f1.f0), (.slice A378_2 ((rd_T29 t375 0).f1.f1).length c378_2), .int .i64 ((rd_T29 t375 0).f2), (.slice A378_4 ((rd_T29 t375 0).f3).length c378_4), (.slice A378_5 ((rd_T29 t375 0).f4).length c378_5)] 29 (0, 0))) ∧ Aside0 (Kd.C k72 wc A378_2 ((rd_T29 t375 0).f1.f1).length ((rd_T29 t375 0).f1.f1)) ∧ Aside0 (Kd.C k67 wc A378_4 ((rd_T29 t375 0).f3).length ((rd_T29 t375 0).f3)) ∧ Aside0 (Kd.C k67 wc A378_5 ((rd_T29 t375 0).f4).length ((rd_T29 t375 0).f4)) ∧ Aside0 (Below w.heap.size w wc))
     case first =>
      have H := HC43.out
      clear HC43
      by_cases c66 : (t380 != t382) = true
      ·rw [if_pos c66] at H
       have c66b0 : (t380 != t382) = true := c66
       (try (have c66b1 : decide (t380 = t382) = false := by simpa using c66))
       (try (have c66b2 : (t380 == t382) = false := by simpa using c66))
       (try (have c66b3 : ¬ (t380 = t382) := by simpa using c66))
       clear c66
       (first | rw [c66b0] | (simp only [i64_w, i32_w]; rw [c66b0]) | skip)
       have H' := Aside0.mk H
       clear H
       go_wp2
       go_meet
       case rel => exact ⟨_, (true), ra_, H', ⟨by have := HJ5.out; first | omega | exact Nat.le_refl _⟩, mV_ (Kd.V_mono HO_370002.out (fun _ hk => ⟨hk.1.1.1.1, ⟨hk.1.1.1.2.1, ⟨hk.1.1.1.2.2.1, ⟨hk.1.1.1.2.2.2, hk.2⟩⟩⟩⟩)), mV_ (Kd.V_mono HO_370004.out (fun _ hk => ⟨hk.1.1.1.1, ⟨hk.1.1.1.2.1, ⟨hk.1.1.1.2.2.1, ⟨hk.1.1.1.2.2.2, hk.2⟩⟩⟩⟩)), mV_ (Kd.V_mono HO_370005.out (fun _ hk => ⟨hk.1.1.1.1, ⟨hk.1.1.1.2.1, ⟨hk.1.1.1.2.2.1, ⟨hk.1.1.1.2.2.2, hk.2⟩⟩⟩⟩)), mV_ (Kd.V_mono HL378_2.out (fun _ hk => ⟨hk.1.1.1, ⟨hk.1.1.2.2.1, ⟨hk.1.1.2.2.2.1, ⟨hk.1.1.2.2.2.2, hk.2⟩⟩⟩⟩)), mV_ (Kd.V_mono HL378_4.out (fun _ hk => ⟨hk.1.1.1, ⟨hk.1.1.2.2.1, ⟨hk.1.1.2.2.2.1, ⟨hk.1.1.2.2.2.2, hk.2⟩⟩⟩⟩)), mV_ (Kd.V_mono HL378_5.out (fun _ hk => ⟨hk.1.1.1, ⟨hk.1.1.2.2.1, ⟨hk.1.1.2.2.2.1, ⟨hk.1.1.2.2.2.2, hk.2⟩⟩⟩⟩)), bu2_ BK367, bu2_ BK368, bu2_ BK369, bu2_ BK379, ⟨by repeat (first | (with_reducible exact HR378_2.out) | (with_reducible refine Kd.C_alloc ?_ _) | (with_reducible refine Kd.C_drewN ?_ _) | (with_reducible refine Kd.C_drew ?_) | exact HR378_2.out)⟩, ⟨by repeat (first | (with_reducible exact HR378_4.out) | (with_reducible refine Kd.C_alloc ?_ _) | (with_reducible refine Kd.C_drewN ?_ _) | (with_reducible refine Kd.C_drew ?_) | exact HR378_4.out)⟩, ⟨by repeat (first | (with_reducible exact HR378_5.out) | (with_reducible refine Kd.C_alloc ?_ _) | (with_reducible refine Kd.C_drewN ?_ _) | (with_reducible refine Kd.C_drew ?_) | exact HR378_5.out)⟩, be2_ HB⟩
      ·rw [if_neg c66] at H
       have c66b0 := Bool.eq_false_iff.2 c66
       (try (have c66b1 : decide (t380 = t382) = true := by simpa using c66))
       (try (have c66b2 : (t380 == t382) = true := by simpa using c66))
       clear c66
       (first | rw [c66b0] | (simp only [i64_w, i32_w]; rw [c66b0]) | skip)
       by_cases c67 : t381 = t383
       ·rw [if_pos c67] at H
        obtain ⟨c67b0, c67b1⟩ := eqB_ c67
        clear c67
        replace H := Option.bind_eq_some_iff.mp H
        obtain ⟨t386, A680, H⟩ := H
        try dsimp only at H
        have A68 := Aside0.mk A680
        clear A680
        have H' := Aside0.mk H
        clear H
        have hnb69 := NB379_367.out
        have hnc69 := NB367_379.out
        have hnb70 := NB379_368.out
        have hnc70 := NB368_379.out
        have hnb71 := NB379_369.out
        have hnc71 := NB369_379.out
        have hcz72_0 : w65.cell? ⟨gb379, 0, none⟩ = some (.int .i64 ((rd_T29 t375 0).f0)) := (blk_cell BK379.out 0).trans rfl
        have hcz72_1 : w65.cell? ⟨gb379, 1, none⟩ = some (.string ((rd_T29 t375 0).f1.f0)) := (blk_cell BK379.out 1).trans rfl
        have hcz72_2 : w65.cell? ⟨gb379, 2, none⟩ = some (.slice A378_2 ((rd_T29 t375 0).f1.f1).length c378_2) := (blk_cell BK379.out 2).trans rfl
        have hcz72_3 : w65.cell? ⟨gb379, 3, none⟩ = some (.int .i64 ((rd_T29 t375 0).f2)) := (blk_cell BK379.out 3).trans rfl
        have hcz72_4 : w65.cell? ⟨gb379, 4, none⟩ = some (.slice A378_4 ((rd_T29 t375 0).f3).length c378_4) := (blk_cell BK379.out 4).trans rfl
        have hcz72_5 : w65.cell? ⟨gb379, 5, none⟩ = some (.slice A378_5 ((rd_T29 t375 0).f4).length c378_5) := (blk_cell BK379.out 5).trans rfl
        have hfz72_0 := blk_frozen BK379.out 0
        have hfz72_1 := blk_frozen BK379.out 1
        have hfz72_2 := blk_frozen BK379.out 2
        have hfz72_3 := blk_frozen BK379.out 3
        have hfz72_4 := blk_frozen BK379.out 4
        have hfz72_5 := blk_frozen BK379.out 5
        have hnb73 := NB369_367.out
        have hnc73 := NB367_369.out
        have hnb74 := NB369_368.out
        have hnc74 := NB368_369.out
        have hcz75_0 : w65.cell? ⟨gb369, 0, none⟩ = some (.int .i64 a3_0) := (blk_cell BK369.out 0).trans rfl
        have hcz75_1 : w65.cell? ⟨gb369, 1, none⟩ = some (.string a3_1) := (blk_cell BK369.out 1).trans rfl
        have hcz75_2 : w65.cell? ⟨gb369, 2, none⟩ = some (.slice A3_2 l3_2.length c3_2) := (blk_cell BK369.out 2).trans rfl
        have hcz75_3 : w65.cell? ⟨gb369, 3, none⟩ = some (.int .i64 a3_3) := (blk_cell BK369.out 3).trans rfl
        have hcz75_4 : w65.cell? ⟨gb369, 4, none⟩ = some (.slice A3_4 l3_4.length c3_4) := (blk_cell BK369.out 4).trans rfl
        have hcz75_5 : w65.cell? ⟨gb369, 5, none⟩ = some (.slice A3_5 l3_5.length c3_5) := (blk_cell BK369.out 5).trans rfl
        have hfz75_0 := blk_frozen BK369.out 0
        have hfz75_1 := blk_frozen BK369.out 1
        have hfz75_2 := blk_frozen BK369.out 2
        have hfz75_3 := blk_frozen BK369.out 3
        have hfz75_4 := blk_frozen BK369.out 4
        have hfz75_5 := blk_frozen BK369.out 5
        go_wp2_with (first | (go_at_call 13; (with_reducible refine (constablekeep_Cond.calls kj5 ((rd_T29 t375 0).f0) ((rd_T29 t375 0).f1.f0) _ _ ((rd_T29 t375 0).f1.f1) ((rd_T29 t375 0).f2) _ _ ((rd_T29 t375 0).f3) _ _ ((rd_T29 t375 0).f4) a3_0 a3_1 _ _ l3_2 a3_3 _ _ l3_4 _ _ l3_5 t386 _ ?side1 ?side2 ?side3 ?side4 ?side5 ?side6 ?side7 ?side8 ?side9 ?side10 ?side11 ?side12 A68.out).mono ?_); (case side1 => exact kC_ HR378_2); (case side2 => exact HC378_2.out); (case side3 => exact kC_ HR378_4); (case side4 => exact HC378_4.out); (case side5 => exact kC_ HR378_5); (case side6 => exact HC378_5.out); (case side7 => exact kd_ ((Kd.V_reads' HO_370002.out).2.2)); (case side8 => exact (Kd.V_reads' HO_370002.out).2.1); (case side9 => exact kd_ ((Kd.V_reads' HO_370004.out).2.2)); (case side10 => exact (Kd.V_reads' HO_370004.out).2.1); (case side11 => exact kd_ ((Kd.V_reads' HO_370005.out).2.2)); (case side12 => exact (Kd.V_reads' HO_370005.out).2.1); rintro e w76 ⟨rfl, hb⟩; replace HO_370002 := bV_ HO_370002 hb; replace HO_370004 := bV_ HO_370004 hb; replace HO_370005 := bV_ HO_370005 hb; replace HO374 := bN_ HO374 hb; replace HO377 := bN_ HO377 hb; replace HL378_2 := bV_ HL378_2 hb; replace HL378_4 := bV_ HL378_4 hb; replace HL378_5 := bV_ HL378_5 hb; replace BK367 := bb_ (bu_ BK367) hb; replace BK368 := bb_ (bu_ BK368) hb; replace BK369 := bb_ (bu_ BK369) hb; replace HR378_2 := bC_ HR378_2 hb; replace HR378_4 := bC_ HR378_4 hb; replace HR378_5 := bC_ HR378_5 hb; replace BK379 := bb_ (bu_ BK379) hb; replace HB := bs_ (be_ HB) hb; (try clear hb); (try clear hb2); (try clear hk); (try clear hi)))
        go_meet
        case rel => exact ⟨_, (!t386), ra_, H', ⟨by have := HJ5.out; first | omega | exact Nat.le_refl _⟩, mV_ (Kd.V_mono HO_370002.out (fun _ hk => ⟨hk.1.1.1.1, ⟨hk.1.1.1.2.1, ⟨hk.1.1.1.2.2.1, ⟨hk.1.1.1.2.2.2, hk.2⟩⟩⟩⟩)), mV_ (Kd.V_mono HO_370004.out (fun _ hk => ⟨hk.1.1.1.1, ⟨hk.1.1.1.2.1, ⟨hk.1.1.1.2.2.1, ⟨hk.1.1.1.2.2.2, hk.2⟩⟩⟩⟩)), mV_ (Kd.V_mono HO_370005.out (fun _ hk => ⟨hk.1.1.1.1, ⟨hk.1.1.1.2.1, ⟨hk.1.1.1.2.2.1, ⟨hk.1.1.1.2.2.2, hk.2⟩⟩⟩⟩)), mV_ (Kd.V_mono HL378_2.out (fun _ hk => ⟨hk.1.1.1, ⟨hk.1.1.2.2.1, ⟨hk.1.1.2.2.2.1, ⟨hk.1.1.2.2.2.2, hk.2⟩⟩⟩⟩)), mV_ (Kd.V_mono HL378_4.out (fun _ hk => ⟨hk.1.1.1, ⟨hk.1.1.2.2.1, ⟨hk.1.1.2.2.2.1, ⟨hk.1.1.2.2.2.2, hk.2⟩⟩⟩⟩)), mV_ (Kd.V_mono HL378_5.out (fun _ hk => ⟨hk.1.1.1, ⟨hk.1.1.2.2.1, ⟨hk.1.1.2.2.2.1, ⟨hk.1.1.2.2.2.2, hk.2⟩⟩⟩⟩)), bu2_ BK367, bu2_ BK368, bu2_ BK369, bu2_ BK379, ⟨by repeat (first | (with_reducible exact HR378_2.out) | (with_reducible refine Kd.C_alloc ?_ _) | (with_reducible refine Kd.C_drewN ?_ _) | (with_reducible refine Kd.C_drew ?_) | exact HR378_2.out)⟩, ⟨by repeat (first | (with_reducible exact HR378_4.out) | (with_reducible refine Kd.C_alloc ?_ _) | (with_reducible refine Kd.C_drewN ?_ _) | (with_reducible refine Kd.C_drew ?_) | exact HR378_4.out)⟩, ⟨by repeat (first | (with_reducible exact HR378_5.out) | (with_reducible refine Kd.C_alloc ?_ _) | (with_reducible refine Kd.C_drewN ?_ _) | (with_reducible refine Kd.C_drew ?_) | exact HR378_5.out)⟩, be2_ HB⟩
       ·rw [if_neg c67] at H
        obtain ⟨c67b0, c67b1⟩ := neB_ c67
        have H' := Aside0.mk H
        clear H
        go_wp2
        go_meet
        case rel => exact ⟨_, (true), ra_, H', ⟨by have := HJ5.out; first | omega | exact Nat.le_refl _⟩, mV_ (Kd.V_mono HO_370002.out (fun _ hk => ⟨hk.1.1.1.1, ⟨hk.1.1.1.2.1, ⟨hk.1.1.1.2.2.1, ⟨hk.1.1.1.2.2.2, hk.2⟩⟩⟩⟩)), mV_ (Kd.V_mono HO_370004.out (fun _ hk => ⟨hk.1.1.1.1, ⟨hk.1.1.1.2.1, ⟨hk.1.1.1.2.2.1, ⟨hk.1.1.1.2.2.2, hk.2⟩⟩⟩⟩)), mV_ (Kd.V_mono HO_370005.out (fun _ hk => ⟨hk.1.1.1.1, ⟨hk.1.1.1.2.1, ⟨hk.1.1.1.2.2.1, ⟨hk.1.1.1.2.2.2, hk.2⟩⟩⟩⟩)), mV_ (Kd.V_mono HL378_2.out (fun _ hk => ⟨hk.1.1.1, ⟨hk.1.1.2.2.1, ⟨hk.1.1.2.2.2.1, ⟨hk.1.1.2.2.2.2, hk.2⟩⟩⟩⟩)), mV_ (Kd.V_mono HL378_4.out (fun _ hk => ⟨hk.1.1.1, ⟨hk.1.1.2.2.1, ⟨hk.1.1.2.2.2.1, ⟨hk.1.1.2.2.2.2, hk.2⟩⟩⟩⟩)), mV_ (Kd.V_mono HL378_5.out (fun _ hk => ⟨hk.1.1.1, ⟨hk.1.1.2.2.1, ⟨hk.1.1.2.2.2.1, ⟨hk.1.1.2.2.2.2, hk.2⟩⟩⟩⟩)), bu2_ BK367, bu2_ BK368, bu2_ BK369, bu2_ BK379, ⟨by repeat (first | (with_reducible exact HR378_2.out) | (with_reducible refine Kd.C_alloc ?_ _) | (with_reducible refine Kd.C_drewN ?_ _) | (with_reducible refine Kd.C_drew ?_) | exact HR378_2.out)⟩, ⟨by repeat (first | (with_reducible exact HR378_4.out) | (with_reducible refine Kd.C_alloc ?_ _) | (with_reducible refine Kd.C_drewN ?_ _) | (with_reducible refine Kd.C_drew ?_) | exact HR378_4.out)⟩, ⟨by repeat (first | (with_reducible exact HR378_5.out) | (with_reducible refine Kd.C_alloc ?_ _) | (with_reducible refine Kd.C_drewN ?_ _) | (with_reducible refine Kd.C_drew ?_) | exact HR378_5.out)⟩, be2_ HB⟩
     case rest =>
      clear HC43
      try clear c1; try clear c2; try clear p2; try clear c3; try clear p3; try clear q3; try clear hx3; try clear qi3; try clear c4; try clear c5; try clear c6; try clear c7; try clear c9; try clear c10; try clear c10b0; try clear c10b1; try clear c11; try clear c12; try clear c14; try clear c14b0; try clear c14b1; try clear c15; try clear c16; try clear c18; try clear c21; try clear c22; try clear c23; try clear c25; try clear c30; try clear c31; try clear c33; try clear c37; try clear p37; try clear q37; try clear hx37; try clear qi37; try clear c39; try clear c39b0; try clear c39b1; try clear c44; try clear c45; try clear c53; try clear c54; try clear c55; try clear c57; try clear c66; try clear c66b0; try clear c66b1; try clear c66b2; try clear c67; try clear c67b0; try clear c67b1; try clear c69; try clear c70; try clear c71; try clear c73; try clear c74; try clear hcz13_0; try clear hcz13_1; try clear hcz13_2; try clear hcz17_0; try clear hcz17_1; try clear hcz17_2; try clear hcz19_0; try clear hcz19_1; try clear hcz19_2; try clear hcz24_0; try clear hcz24_1; try clear hcz24_2; try clear hcz26_0; try clear hcz26_1; try clear hcz26_2; try clear hcz27_0; try clear hcz27_1; try clear hcz27_2; try clear hcz27_3; try clear hcz27_4; try clear hcz27_5; try clear hcz32_0; try clear hcz32_1; try clear hcz32_2; try clear hcz34_0; try clear hcz34_1; try clear hcz34_2; try clear hcz35_0; try clear hcz35_1; try clear hcz35_2; try clear hcz35_3; try clear hcz35_4; try clear hcz35_5; try clear hcz46_0; try clear hcz46_1; try clear hcz46_2; try clear hcz46_3; try clear hcz46_4; try clear hcz46_5; try clear hcz56_0; try clear hcz56_1; try clear hcz56_2; try clear hcz56_3; try clear hcz56_4; try clear hcz56_5; try clear hcz58_0; try clear hcz58_1; try clear hcz58_2; try clear hcz59_0; try clear hcz59_1; try clear hcz59_2; try clear hcz61_0; try clear hcz61_1; try clear hcz61_2; try clear hcz62_0; try clear hcz62_1; try clear hcz62_2; try clear hcz64_0; try clear hcz64_1; try clear hcz64_2; try clear hcz64_3; try clear hcz64_4; try clear hcz64_5; try clear hcz72_0; try clear hcz72_1; try clear hcz72_2; try clear hcz72_3; try clear hcz72_4; try clear hcz72_5; try clear hcz75_0; try clear hcz75_1; try clear hcz75_2; try clear hcz75_3; try clear hcz75_4; try clear hcz75_5; try clear hfz13_0; try clear hfz13_1; try clear hfz13_2; try clear hfz17_0; try clear hfz17_1; try clear hfz17_2; try clear hfz19_0; try clear hfz19_1; try clear hfz19_2; try clear hfz24_0; try clear hfz24_1; try clear hfz24_2; try clear hfz26_0; try clear hfz26_1; try clear hfz26_2; try clear hfz27_0; try clear hfz27_1; try clear hfz27_2; try clear hfz27_3; try clear hfz27_4; try clear hfz27_5; try clear hfz32_0; try clear hfz32_1; try clear hfz32_2; try clear hfz34_0; try clear hfz34_1; try clear hfz34_2; try clear hfz35_0; try clear hfz35_1; try clear hfz35_2; try clear hfz35_3; try clear hfz35_4; try clear hfz35_5; try clear hfz46_0; try clear hfz46_1; try clear hfz46_2; try clear hfz46_3; try clear hfz46_4; try clear hfz46_5; try clear hfz56_0; try clear hfz56_1; try clear hfz56_2; try clear hfz56_3; try clear hfz56_4; try clear hfz56_5; try clear hfz58_0; try clear hfz58_1; try clear hfz58_2; try clear hfz59_0; try clear hfz59_1; try clear hfz59_2; try clear hfz61_0; try clear hfz61_1; try clear hfz61_2; try clear hfz62_0; try clear hfz62_1; try clear hfz62_2; try clear hfz64_0; try clear hfz64_1; try clear hfz64_2; try clear hfz64_3; try clear hfz64_4; try clear hfz64_5; try clear hfz72_0; try clear hfz72_1; try clear hfz72_2; try clear hfz72_3; try clear hfz72_4; try clear hfz72_5; try clear hfz75_0; try clear hfz75_1; try clear hfz75_2; try clear hfz75_3; try clear hfz75_4; try clear hfz75_5; try clear hx378_0; try clear hx378_1; try clear hx378_2; try clear hx378_3; try clear hx378_4; try clear hx378_5; try clear p2; try clear p378; try clear q378
      obtain ⟨kq, x77_42, rfl, HA, HJ42, HO_370002, HO_370004, HO_370005, HO_380002, HO_380004, HO_380005, BK367, BK368, BK369, BK379, HR378_2, HR378_4, HR378_5, HB⟩ := hcut
      cases kq with
      | zero => exact absurd HA.out (by simp [constablelaw08_GuardExact.j1])
      | succ kj42 =>
       have H := HA.out
       clear HA
       simp only [constablelaw08_GuardExact.j1] at H
       by_cases c77 : x77_42 = true
       ·subst c77
        rw [if_pos rfl] at H
        exact absurd ((Option.some.inj H).trans HR_.out) (by decide)
       ·replace c77 := Bool.eq_false_iff.mpr c77
        subst c77
        rw [if_neg (show ¬ (false = true) by decide)] at H
        replace H := Option.bind_eq_some_iff.mp H
        obtain ⟨t387, A780, H⟩ := H
        try dsimp only at H
        have A78 := Aside0.mk A780
        clear A780
        have HC79 := Aside0.mk H
        clear H
        have hnb80 := NB369_367.out
        have hnc80 := NB367_369.out
        have hnb81 := NB369_368.out
        have hnc81 := NB368_369.out
        have hnb82 := NB369_379.out
        have hnc82 := NB379_369.out
        have hcz83_0 : wc.cell? ⟨gb369, 0, none⟩ = some (.int .i64 a3_0) := (blk_cell BK369.out 0).trans rfl
        have hcz83_1 : wc.cell? ⟨gb369, 1, none⟩ = some (.string a3_1) := (blk_cell BK369.out 1).trans rfl
        have hcz83_2 : wc.cell? ⟨gb369, 2, none⟩ = some (.slice A3_2 l3_2.length c3_2) := (blk_cell BK369.out 2).trans rfl
        have hcz83_3 : wc.cell? ⟨gb369, 3, none⟩ = some (.int .i64 a3_3) := (blk_cell BK369.out 3).trans rfl
        have hcz83_4 : wc.cell? ⟨gb369, 4, none⟩ = some (.slice A3_4 l3_4.length c3_4) := (blk_cell BK369.out 4).trans rfl
        have hcz83_5 : wc.cell? ⟨gb369, 5, none⟩ = some (.slice A3_5 l3_5.length c3_5) := (blk_cell BK369.out 5).trans rfl
        have hfz83_0 := blk_frozen BK369.out 0
        have hfz83_1 := blk_frozen BK369.out 1
        have hfz83_2 := blk_frozen BK369.out 2
        have hfz83_3 := blk_frozen BK369.out 3
        have hfz83_4 := blk_frozen BK369.out 4
        have hfz83_5 := blk_frozen BK369.out 5
        go_upto_region 10 with (first | ((with_reducible refine gate_callee (f := 14) rfl ?_); refine goesL_ (some 79) rfl rfl Try.func14 (by kernel_rfl) rfl #[.agg #[.int .i64 a3_0, .string a3_1, .slice A3_2 l3_2.length c3_2, .int .i64 a3_3, .slice A3_4 l3_4.length c3_4, .slice A3_5 l3_5.length c3_5]] rfl ga_ ?_; (with_reducible refine (constableref01_Guard.calls kj42 a3_0 a3_1 _ _ l3_2 a3_3 _ _ l3_4 _ _ l3_5 t387 _ ?side1 ?side2 ?side3 ?side4 ?side5 ?side6 A78.out).mono ?_); (case side1 => exact kd_ ((Kd.V_reads' HO_370002.out).2.2)); (case side2 => exact (Kd.V_reads' HO_370002.out).2.1); (case side3 => exact kd_ ((Kd.V_reads' HO_370004.out).2.2)); (case side4 => exact (Kd.V_reads' HO_370004.out).2.1); (case side5 => exact kd_ ((Kd.V_reads' HO_370005.out).2.2)); (case side6 => exact (Kd.V_reads' HO_370005.out).2.1); rintro e w84 ⟨rfl, hb⟩; refine ⟨_, rfl, ?_⟩; replace HO_370002 := bV_ HO_370002 hb; replace HO_370004 := bV_ HO_370004 hb; replace HO_370005 := bV_ HO_370005 hb; replace HO_380002 := bV_ HO_380002 hb; replace HO_380004 := bV_ HO_380004 hb; replace HO_380005 := bV_ HO_380005 hb; replace BK367 := bb_ (bu_ BK367) hb; replace BK368 := bb_ (bu_ BK368) hb; replace BK369 := bb_ (bu_ BK369) hb; replace BK379 := bb_ (bu_ BK379) hb; replace HR378_2 := bC_ HR378_2 hb; replace HR378_4 := bC_ HR378_4 hb; replace HR378_5 := bC_ HR378_5 hb; replace HB := bs_ (be_ HB) hb; (try clear hb); (try clear hb2); (try clear hk); (try clear hi)))
        (try simp only [Act.put, List.setIfInBounds_toArray, List.set_cons_zero, List.set_cons_succ])
        go_cut [93] (fun v93 wc => ∃ (kq : Nat) (x93_78 : Bool), v93 = .bool x93_78 ∧ Aside0 (constablelaw08_GuardExact.j2 kq l4 t384 t385 t387 x93_78 a3_0 a3_1 l3_2 a3_3 l3_4 l3_5 = some r) ∧ Aside0 (kq ≤ kj42) ∧ Aside0 (Kd.V k72 72 wc w.heap.size (fun k_ => ((P3_2_ k_ ∨ P3_4_ k_ ∨ P3_5_ k_) ∨ w.heap.size ≤ k_) ∧ k_ ≠ gb367 ∧ k_ ≠ gb368 ∧ k_ ≠ gb369 ∧ k_ ≠ gb379) (.slice A3_2 l3_2.length c3_2) l3_2) ∧ Aside0 (Kd.V k67 67 wc w.heap.size (fun k_ => ((P3_2_ k_ ∨ P3_4_ k_ ∨ P3_5_ k_) ∨ w.heap.size ≤ k_) ∧ k_ ≠ gb367 ∧ k_ ≠ gb368 ∧ k_ ≠ gb369 ∧ k_ ≠ gb379) (.slice A3_4 l3_4.length c3_4) l3_4) ∧ Aside0 (Kd.V k67 67 wc w.heap.size (fun k_ => ((P3_2_ k_ ∨ P3_4_ k_ ∨ P3_5_ k_) ∨ w.heap.size ≤ k_) ∧ k_ ≠ gb367 ∧ k_ ≠ gb368 ∧ k_ ≠ gb369 ∧ k_ ≠ gb379) (.slice A3_5 l3_5.length c3_5) l3_5) ∧ Aside0 (Kd.V k72 72 wc w.heap.size (fun k_ => ((P3_2_ k_ ∨ P3_4_ k_ ∨ P3_5_ k_) ∨ w.heap.size ≤ k_) ∧ k_ ≠ gb367 ∧ k_ ≠ gb368 ∧ k_ ≠ gb369 ∧ k_ ≠ gb379) (.slice A378_2 ((rd_T29 t375 0).f1.f1).length c378_2) ((rd_T29 t375 0).f1.f1)) ∧ Aside0 (Kd.V k67 67 wc w.heap.size (fun k_ => ((P3_2_ k_ ∨ P3_4_ k_ ∨ P3_5_ k_) ∨ w.heap.size ≤ k_) ∧ k_ ≠ gb367 ∧ k_ ≠ gb368 ∧ k_ ≠ gb369 ∧ k_ ≠ gb379) (.slice A378_4 ((rd_T29 t375 0).f3).length c378_4) ((rd_T29 t375 0).f3)) ∧ Aside0 (Kd.V k67 67 wc w.heap.size (fun k_ => ((P3_2_ k_ ∨ P3_4_ k_ ∨ P3_5_ k_) ∨ w.heap.size ≤ k_) ∧ k_ ≠ gb367 ∧ k_ ≠ gb368 ∧ k_ ≠ gb369 ∧ k_ ≠ gb379) (.slice A378_5 ((rd_T29 t375 0).f4).length c378_5) ((rd_T29 t375 0).f4)) ∧ Aside0 (wc.heap[gb367]? = some (.cells #[.int .i64 a1_0, .int .i64 a1_1, .string a1_2] 23 (0, 0))) ∧ Aside0 (wc.heap[gb368]? = some (.cells #[.int .i64 a2_0, .int .i64 a2_1, .string a2_2] 23 (0, 0))) ∧ Aside0 (wc.heap[gb369]? = some (.cells #[.int .i64 a3_0, .string a3_1, (.slice A3_2 l3_2.length c3_2), .int .i64 a3_3, (.slice A3_4 l3_4.length c3_4), (.slice A3_5 l3_5.length c3_5)] 29 (0, 0))) ∧ Aside0 (wc.heap[gb379]? = some (.cells #[.int .i64 ((rd_T29 t375 0).f0), .string ((rd_T29 t375 0).f1.f0), (.slice A378_2 ((rd_T29 t375 0).f1.f1).length c378_2), .int .i64 ((rd_T29 t375 0).f2), (.slice A378_4 ((rd_T29 t375 0).f3).length c378_4), (.slice A378_5 ((rd_T29 t375 0).f4).length c378_5)] 29 (0, 0))) ∧ Aside0 (Kd.C k72 wc A378_2 ((rd_T29 t375 0).f1.f1).length ((rd_T29 t375 0).f1.f1)) ∧ Aside0 (Kd.C k67 wc A378_4 ((rd_T29 t375 0).f3).length ((rd_T29 t375 0).f3)) ∧ Aside0 (Kd.C k67 wc A378_5 ((rd_T29 t375 0).f4).length ((rd_T29 t375 0).f4)) ∧ Aside0 (Below w.heap.size w wc))
        case first =>
         have H := HC79.out
         clear HC79
         replace H := Option.bind_eq_some_iff.mp H
         obtain ⟨t388, A850, H⟩ := H
         try dsimp only at H
         have A85 := Aside0.mk A850
         clear A850
         by_cases c86 : ((t388 == 0) != t387) = true
         ·rw [if_pos c86] at H
          have c86b0 : ((t388 == 0) != t387) = true := c86
          (try (have c86b1 : decide ((t388 == 0) = t387) = false := by simpa using c86))
          (try (have c86b2 : ((t388 == 0) == t387) = false := by simpa using c86))
          (try (have c86b3 : ¬ ((t388 == 0) = t387) := by simpa using c86))
          clear c86
          (first | rw [c86b0] | (simp only [i64_w, i32_w]; rw [c86b0]) | skip)
          have H' := Aside0.mk H
          clear H
          have hnb87 := NB379_367.out
          have hnc87 := NB367_379.out
          have hnb88 := NB379_368.out
          have hnc88 := NB368_379.out
          have hnb89 := NB379_369.out
          have hnc89 := NB369_379.out
          have hcz90_0 : w84.cell? ⟨gb379, 0, none⟩ = some (.int .i64 ((rd_T29 t375 0).f0)) := (blk_cell BK379.out 0).trans rfl
          have hcz90_1 : w84.cell? ⟨gb379, 1, none⟩ = some (.string ((rd_T29 t375 0).f1.f0)) := (blk_cell BK379.out 1).trans rfl
          have hcz90_2 : w84.cell? ⟨gb379, 2, none⟩ = some (.slice A378_2 ((rd_T29 t375 0).f1.f1).length c378_2) := (blk_cell BK379.out 2).trans rfl
          have hcz90_3 : w84.cell? ⟨gb379, 3, none⟩ = some (.int .i64 ((rd_T29 t375 0).f2)) := (blk_cell BK379.out 3).trans rfl
          have hcz90_4 : w84.cell? ⟨gb379, 4, none⟩ = some (.slice A378_4 ((rd_T29 t375 0).f3).length c378_4) := (blk_cell BK379.out 4).trans rfl
          have hcz90_5 : w84.cell? ⟨gb379, 5, none⟩ = some (.slice A378_5 ((rd_T29 t375 0).f4).length c378_5) := (blk_cell BK379.out 5).trans rfl
          have hfz90_0 := blk_frozen BK379.out 0
          have hfz90_1 := blk_frozen BK379.out 1
          have hfz90_2 := blk_frozen BK379.out 2
          have hfz90_3 := blk_frozen BK379.out 3
          have hfz90_4 := blk_frozen BK379.out 4
          have hfz90_5 := blk_frozen BK379.out 5
          go_wp2_with (first | ((with_reducible refine gate_callee (f := 15) rfl ?_); refine goesL_ (some 81) rfl rfl Try.func15 (by kernel_rfl) rfl #[.agg #[.int .i64 ((rd_T29 t375 0).f0), .string ((rd_T29 t375 0).f1.f0), .slice A378_2 ((rd_T29 t375 0).f1.f1).length c378_2, .int .i64 ((rd_T29 t375 0).f2), .slice A378_4 ((rd_T29 t375 0).f3).length c378_4, .slice A378_5 ((rd_T29 t375 0).f4).length c378_5]] rfl ga_ ?_; (with_reducible refine (guard_Check.calls kj42 ((rd_T29 t375 0).f0) ((rd_T29 t375 0).f1.f0) _ _ ((rd_T29 t375 0).f1.f1) ((rd_T29 t375 0).f2) _ _ ((rd_T29 t375 0).f3) _ _ ((rd_T29 t375 0).f4) t388 _ ?side1 ?side2 ?side3 ?side4 ?side5 ?side6 A85.out).mono ?_); (case side1 => exact kd_ ((Kd.V_reads' HO_380002.out).2.2)); (case side2 => exact (Kd.V_reads' HO_380002.out).2.1); (case side3 => exact kd_ ((Kd.V_reads' HO_380004.out).2.2)); (case side4 => exact (Kd.V_reads' HO_380004.out).2.1); (case side5 => exact kd_ ((Kd.V_reads' HO_380005.out).2.2)); (case side6 => exact (Kd.V_reads' HO_380005.out).2.1); rintro e w91 ⟨rfl, hb⟩; refine ⟨_, rfl, ?_⟩; replace HO_370002 := bV_ HO_370002 hb; replace HO_370004 := bV_ HO_370004 hb; replace HO_370005 := bV_ HO_370005 hb; replace HO_380002 := bV_ HO_380002 hb; replace HO_380004 := bV_ HO_380004 hb; replace HO_380005 := bV_ HO_380005 hb; replace BK367 := bb_ (bu_ BK367) hb; replace BK368 := bb_ (bu_ BK368) hb; replace BK369 := bb_ (bu_ BK369) hb; replace BK379 := bb_ (bu_ BK379) hb; replace HR378_2 := bC_ HR378_2 hb; replace HR378_4 := bC_ HR378_4 hb; replace HR378_5 := bC_ HR378_5 hb; replace HB := bs_ (be_ HB) hb; (try clear hb); (try clear hb2); (try clear hk); (try clear hi)))
          go_meet
          case rel => exact ⟨_, (true), ra_, H', ⟨by have := HJ5.out; have := HJ42.out; first | omega | exact Nat.le_refl _⟩, mV_ (HO_370002.out), mV_ (HO_370004.out), mV_ (HO_370005.out), mV_ (HO_380002.out), mV_ (HO_380004.out), mV_ (HO_380005.out), bu2_ BK367, bu2_ BK368, bu2_ BK369, bu2_ BK379, ⟨by repeat (first | (with_reducible exact HR378_2.out) | (with_reducible refine Kd.C_alloc ?_ _) | (with_reducible refine Kd.C_drewN ?_ _) | (with_reducible refine Kd.C_drew ?_) | exact HR378_2.out)⟩, ⟨by repeat (first | (with_reducible exact HR378_4.out) | (with_reducible refine Kd.C_alloc ?_ _) | (with_reducible refine Kd.C_drewN ?_ _) | (with_reducible refine Kd.C_drew ?_) | exact HR378_4.out)⟩, ⟨by repeat (first | (with_reducible exact HR378_5.out) | (with_reducible refine Kd.C_alloc ?_ _) | (with_reducible refine Kd.C_drewN ?_ _) | (with_reducible refine Kd.C_drew ?_) | exact HR378_5.out)⟩, be2_ HB⟩
         ·rw [if_neg c86] at H
          have c86b0 := Bool.eq_false_iff.2 c86
          (try (have c86b1 : decide ((t388 == 0) = t387) = true := by simpa using c86))
          (try (have c86b2 : ((t388 == 0) == t387) = true := by simpa using c86))
          clear c86
          (first | rw [c86b0] | (simp only [i64_w, i32_w]; rw [c86b0]) | skip)
          by_cases c92 : t387 = true
          ·subst c92
           rw [if_pos rfl] at H
           have H' := Aside0.mk H
           clear H
           have hnb93 := NB379_367.out
           have hnc93 := NB367_379.out
           have hnb94 := NB379_368.out
           have hnc94 := NB368_379.out
           have hnb95 := NB379_369.out
           have hnc95 := NB369_379.out
           have hcz96_0 : w84.cell? ⟨gb379, 0, none⟩ = some (.int .i64 ((rd_T29 t375 0).f0)) := (blk_cell BK379.out 0).trans rfl
           have hcz96_1 : w84.cell? ⟨gb379, 1, none⟩ = some (.string ((rd_T29 t375 0).f1.f0)) := (blk_cell BK379.out 1).trans rfl
           have hcz96_2 : w84.cell? ⟨gb379, 2, none⟩ = some (.slice A378_2 ((rd_T29 t375 0).f1.f1).length c378_2) := (blk_cell BK379.out 2).trans rfl
           have hcz96_3 : w84.cell? ⟨gb379, 3, none⟩ = some (.int .i64 ((rd_T29 t375 0).f2)) := (blk_cell BK379.out 3).trans rfl
           have hcz96_4 : w84.cell? ⟨gb379, 4, none⟩ = some (.slice A378_4 ((rd_T29 t375 0).f3).length c378_4) := (blk_cell BK379.out 4).trans rfl
           have hcz96_5 : w84.cell? ⟨gb379, 5, none⟩ = some (.slice A378_5 ((rd_T29 t375 0).f4).length c378_5) := (blk_cell BK379.out 5).trans rfl
           have hfz96_0 := blk_frozen BK379.out 0
           have hfz96_1 := blk_frozen BK379.out 1
           have hfz96_2 := blk_frozen BK379.out 2
           have hfz96_3 := blk_frozen BK379.out 3
           have hfz96_4 := blk_frozen BK379.out 4
           have hfz96_5 := blk_frozen BK379.out 5
           go_wp2_with (first | ((with_reducible refine gate_callee (f := 15) rfl ?_); refine goesL_ (some 81) rfl rfl Try.func15 (by kernel_rfl) rfl #[.agg #[.int .i64 ((rd_T29 t375 0).f0), .string ((rd_T29 t375 0).f1.f0), .slice A378_2 ((rd_T29 t375 0).f1.f1).length c378_2, .int .i64 ((rd_T29 t375 0).f2), .slice A378_4 ((rd_T29 t375 0).f3).length c378_4, .slice A378_5 ((rd_T29 t375 0).f4).length c378_5]] rfl ga_ ?_; (with_reducible refine (guard_Check.calls kj42 ((rd_T29 t375 0).f0) ((rd_T29 t375 0).f1.f0) _ _ ((rd_T29 t375 0).f1.f1) ((rd_T29 t375 0).f2) _ _ ((rd_T29 t375 0).f3) _ _ ((rd_T29 t375 0).f4) t388 _ ?side1 ?side2 ?side3 ?side4 ?side5 ?side6 A85.out).mono ?_); (case side1 => exact kd_ ((Kd.V_reads' HO_380002.out).2.2)); (case side2 => exact (Kd.V_reads' HO_380002.out).2.1); (case side3 => exact kd_ ((Kd.V_reads' HO_380004.out).2.2)); (case side4 => exact (Kd.V_reads' HO_380004.out).2.1); (case side5 => exact kd_ ((Kd.V_reads' HO_380005.out).2.2)); (case side6 => exact (Kd.V_reads' HO_380005.out).2.1); rintro e w97 ⟨rfl, hb⟩; refine ⟨_, rfl, ?_⟩; replace HO_370002 := bV_ HO_370002 hb; replace HO_370004 := bV_ HO_370004 hb; replace HO_370005 := bV_ HO_370005 hb; replace HO_380002 := bV_ HO_380002 hb; replace HO_380004 := bV_ HO_380004 hb; replace HO_380005 := bV_ HO_380005 hb; replace BK367 := bb_ (bu_ BK367) hb; replace BK368 := bb_ (bu_ BK368) hb; replace BK369 := bb_ (bu_ BK369) hb; replace BK379 := bb_ (bu_ BK379) hb; replace HR378_2 := bC_ HR378_2 hb; replace HR378_4 := bC_ HR378_4 hb; replace HR378_5 := bC_ HR378_5 hb; replace HB := bs_ (be_ HB) hb; (try clear hb); (try clear hb2); (try clear hk); (try clear hi)))
           go_meet
           case rel => exact ⟨_, (false), ra_, H', ⟨by have := HJ5.out; have := HJ42.out; first | omega | exact Nat.le_refl _⟩, mV_ (HO_370002.out), mV_ (HO_370004.out), mV_ (HO_370005.out), mV_ (HO_380002.out), mV_ (HO_380004.out), mV_ (HO_380005.out), bu2_ BK367, bu2_ BK368, bu2_ BK369, bu2_ BK379, ⟨by repeat (first | (with_reducible exact HR378_2.out) | (with_reducible refine Kd.C_alloc ?_ _) | (with_reducible refine Kd.C_drewN ?_ _) | (with_reducible refine Kd.C_drew ?_) | exact HR378_2.out)⟩, ⟨by repeat (first | (with_reducible exact HR378_4.out) | (with_reducible refine Kd.C_alloc ?_ _) | (with_reducible refine Kd.C_drewN ?_ _) | (with_reducible refine Kd.C_drew ?_) | exact HR378_4.out)⟩, ⟨by repeat (first | (with_reducible exact HR378_5.out) | (with_reducible refine Kd.C_alloc ?_ _) | (with_reducible refine Kd.C_drewN ?_ _) | (with_reducible refine Kd.C_drew ?_) | exact HR378_5.out)⟩, be2_ HB⟩
          ·replace c92 := Bool.eq_false_iff.mpr c92
           subst c92
           rw [if_neg (show ¬ (false = true) by decide)] at H
           replace H := Option.bind_eq_some_iff.mp H
           obtain ⟨t389, A980, H⟩ := H
           try dsimp only at H
           have A98 := Aside0.mk A980
           clear A980
           have H' := Aside0.mk H
           clear H
           have hnb99 := NB379_367.out
           have hnc99 := NB367_379.out
           have hnb100 := NB379_368.out
           have hnc100 := NB368_379.out
           have hnb101 := NB379_369.out
           have hnc101 := NB369_379.out
           have hcz102_0 : w84.cell? ⟨gb379, 0, none⟩ = some (.int .i64 ((rd_T29 t375 0).f0)) := (blk_cell BK379.out 0).trans rfl
           have hcz102_1 : w84.cell? ⟨gb379, 1, none⟩ = some (.string ((rd_T29 t375 0).f1.f0)) := (blk_cell BK379.out 1).trans rfl
           have hcz102_2 : w84.cell? ⟨gb379, 2, none⟩ = some (.slice A378_2 ((rd_T29 t375 0).f1.f1).length c378_2) := (blk_cell BK379.out 2).trans rfl
           have hcz102_3 : w84.cell? ⟨gb379, 3, none⟩ = some (.int .i64 ((rd_T29 t375 0).f2)) := (blk_cell BK379.out 3).trans rfl
           have hcz102_4 : w84.cell? ⟨gb379, 4, none⟩ = some (.slice A378_4 ((rd_T29 t375 0).f3).length c378_4) := (blk_cell BK379.out 4).trans rfl
           have hcz102_5 : w84.cell? ⟨gb379, 5, none⟩ = some (.slice A378_5 ((rd_T29 t375 0).f4).length c378_5) := (blk_cell BK379.out 5).trans rfl
           have hfz102_0 := blk_frozen BK379.out 0
           have hfz102_1 := blk_frozen BK379.out 1
           have hfz102_2 := blk_frozen BK379.out 2
           have hfz102_3 := blk_frozen BK379.out 3
           have hfz102_4 := blk_frozen BK379.out 4
           have hfz102_5 := blk_frozen BK379.out 5
           go_wp2_with (first | ((with_reducible refine gate_callee (f := 15) rfl ?_); refine goesL_ (some 81) rfl rfl Try.func15 (by kernel_rfl) rfl #[.agg #[.int .i64 ((rd_T29 t375 0).f0), .string ((rd_T29 t375 0).f1.f0), .slice A378_2 ((rd_T29 t375 0).f1.f1).length c378_2, .int .i64 ((rd_T29 t375 0).f2), .slice A378_4 ((rd_T29 t375 0).f3).length c378_4, .slice A378_5 ((rd_T29 t375 0).f4).length c378_5]] rfl ga_ ?_; (with_reducible refine (guard_Check.calls kj42 ((rd_T29 t375 0).f0) ((rd_T29 t375 0).f1.f0) _ _ ((rd_T29 t375 0).f1.f1) ((rd_T29 t375 0).f2) _ _ ((rd_T29 t375 0).f3) _ _ ((rd_T29 t375 0).f4) t388 _ ?side1 ?side2 ?side3 ?side4 ?side5 ?side6 A85.out).mono ?_); (case side1 => exact kd_ ((Kd.V_reads' HO_380002.out).2.2)); (case side2 => exact (Kd.V_reads' HO_380002.out).2.1); (case side3 => exact kd_ ((Kd.V_reads' HO_380004.out).2.2)); (case side4 => exact (Kd.V_reads' HO_380004.out).2.1); (case side5 => exact kd_ ((Kd.V_reads' HO_380005.out).2.2)); (case side6 => exact (Kd.V_reads' HO_380005.out).2.1); rintro e w103 ⟨rfl, hb⟩; refine ⟨_, rfl, ?_⟩; replace HO_370002 := bV_ HO_370002 hb; replace HO_370004 := bV_ HO_370004 hb; replace HO_370005 := bV_ HO_370005 hb; replace HO_380002 := bV_ HO_380002 hb; replace HO_380004 := bV_ HO_380004 hb; replace HO_380005 := bV_ HO_380005 hb; replace BK367 := bb_ (bu_ BK367) hb; replace BK368 := bb_ (bu_ BK368) hb; replace BK369 := bb_ (bu_ BK369) hb; replace BK379 := bb_ (bu_ BK379) hb; replace HR378_2 := bC_ HR378_2 hb; replace HR378_4 := bC_ HR378_4 hb; replace HR378_5 := bC_ HR378_5 hb; replace HB := bs_ (be_ HB) hb; (try clear hb); (try clear hb2); (try clear hk); (try clear hi); have hcz104_0 : w103.cell? ⟨gb379, 0, none⟩ = some (.int .i64 ((rd_T29 t375 0).f0)) := (blk_cell BK379.out 0).trans rfl; have hcz104_1 : w103.cell? ⟨gb379, 1, none⟩ = some (.string ((rd_T29 t375 0).f1.f0)) := (blk_cell BK379.out 1).trans rfl; have hcz104_2 : w103.cell? ⟨gb379, 2, none⟩ = some (.slice A378_2 ((rd_T29 t375 0).f1.f1).length c378_2) := (blk_cell BK379.out 2).trans rfl; have hcz104_3 : w103.cell? ⟨gb379, 3, none⟩ = some (.int .i64 ((rd_T29 t375 0).f2)) := (blk_cell BK379.out 3).trans rfl; have hcz104_4 : w103.cell? ⟨gb379, 4, none⟩ = some (.slice A378_4 ((rd_T29 t375 0).f3).length c378_4) := (blk_cell BK379.out 4).trans rfl; have hcz104_5 : w103.cell? ⟨gb379, 5, none⟩ = some (.slice A378_5 ((rd_T29 t375 0).f4).length c378_5) := (blk_cell BK379.out 5).trans rfl; have hfz104_0 := blk_frozen BK379.out 0; have hfz104_1 := blk_frozen BK379.out 1; have hfz104_2 := blk_frozen BK379.out 2; have hfz104_3 := blk_frozen BK379.out 3; have hfz104_4 := blk_frozen BK379.out 4; have hfz104_5 := blk_frozen BK379.out 5) | (go_at_call 15; (with_reducible refine (guard_Check.calls kj42 ((rd_T29 t375 0).f0) ((rd_T29 t375 0).f1.f0) _ _ ((rd_T29 t375 0).f1.f1) ((rd_T29 t375 0).f2) _ _ ((rd_T29 t375 0).f3) _ _ ((rd_T29 t375 0).f4) t389 _ ?side1 ?side2 ?side3 ?side4 ?side5 ?side6 A98.out).mono ?_); (case side1 => exact kd_ ((Kd.V_reads' HO_380002.out).2.2)); (case side2 => exact (Kd.V_reads' HO_380002.out).2.1); (case side3 => exact kd_ ((Kd.V_reads' HO_380004.out).2.2)); (case side4 => exact (Kd.V_reads' HO_380004.out).2.1); (case side5 => exact kd_ ((Kd.V_reads' HO_380005.out).2.2)); (case side6 => exact (Kd.V_reads' HO_380005.out).2.1); rintro e w105 ⟨rfl, hb⟩; replace HO_370002 := bV_ HO_370002 hb; replace HO_370004 := bV_ HO_370004 hb; replace HO_370005 := bV_ HO_370005 hb; replace HO_380002 := bV_ HO_380002 hb; replace HO_380004 := bV_ HO_380004 hb; replace HO_380005 := bV_ HO_380005 hb; replace BK367 := bb_ (bu_ BK367) hb; replace BK368 := bb_ (bu_ BK368) hb; replace BK369 := bb_ (bu_ BK369) hb; replace BK379 := bb_ (bu_ BK379) hb; replace HR378_2 := bC_ HR378_2 hb; replace HR378_4 := bC_ HR378_4 hb; replace HR378_5 := bC_ HR378_5 hb; replace HB := bs_ (be_ HB) hb; (try clear hb); (try clear hb2); (try clear hk); (try clear hi)))
           go_meet
           case rel => exact ⟨_, ((t389 != 1)), ra_, H', ⟨by have := HJ5.out; have := HJ42.out; first | omega | exact Nat.le_refl _⟩, mV_ (HO_370002.out), mV_ (HO_370004.out), mV_ (HO_370005.out), mV_ (HO_380002.out), mV_ (HO_380004.out), mV_ (HO_380005.out), bu2_ BK367, bu2_ BK368, bu2_ BK369, bu2_ BK379, ⟨by repeat (first | (with_reducible exact HR378_2.out) | (with_reducible refine Kd.C_alloc ?_ _) | (with_reducible refine Kd.C_drewN ?_ _) | (with_reducible refine Kd.C_drew ?_) | exact HR378_2.out)⟩, ⟨by repeat (first | (with_reducible exact HR378_4.out) | (with_reducible refine Kd.C_alloc ?_ _) | (with_reducible refine Kd.C_drewN ?_ _) | (with_reducible refine Kd.C_drew ?_) | exact HR378_4.out)⟩, ⟨by repeat (first | (with_reducible exact HR378_5.out) | (with_reducible refine Kd.C_alloc ?_ _) | (with_reducible refine Kd.C_drewN ?_ _) | (with_reducible refine Kd.C_drew ?_) | exact HR378_5.out)⟩, be2_ HB⟩
        case rest =>
         clear HC79
         try clear c1; try clear c2; try clear p2; try clear c3; try clear p3; try clear q3; try clear hx3; try clear qi3; try clear c4; try clear c5; try clear c6; try clear c7; try clear c8; try clear c9; try clear c10; try clear c10b0; try clear c10b1; try clear c11; try clear c12; try clear c14; try clear c14b0; try clear c14b1; try clear c15; try clear c16; try clear c18; try clear c21; try clear c22; try clear c23; try clear c25; try clear c30; try clear c31; try clear c33; try clear c37; try clear p37; try clear q37; try clear hx37; try clear qi37; try clear c39; try clear c39b0; try clear c39b1; try clear c44; try clear c45; try clear c53; try clear c54; try clear c55; try clear c57; try clear c66; try clear c66b0; try clear c66b1; try clear c66b2; try clear c67; try clear c67b0; try clear c67b1; try clear c69; try clear c70; try clear c71; try clear c73; try clear c74; try clear c77; try clear c80; try clear c81; try clear c82; try clear c86; try clear c86b0; try clear c86b1; try clear c86b2; try clear c87; try clear c88; try clear c89; try clear c92; try clear c93; try clear c94; try clear c95; try clear c99; try clear c100; try clear c101; try clear hcz102_0; try clear hcz102_1; try clear hcz102_2; try clear hcz102_3; try clear hcz102_4; try clear hcz102_5; try clear hcz104_0; try clear hcz104_1; try clear hcz104_2; try clear hcz104_3; try clear hcz104_4; try clear hcz104_5; try clear hcz13_0; try clear hcz13_1; try clear hcz13_2; try clear hcz17_0; try clear hcz17_1; try clear hcz17_2; try clear hcz19_0; try clear hcz19_1; try clear hcz19_2; try clear hcz24_0; try clear hcz24_1; try clear hcz24_2; try clear hcz26_0; try clear hcz26_1; try clear hcz26_2; try clear hcz27_0; try clear hcz27_1; try clear hcz27_2; try clear hcz27_3; try clear hcz27_4; try clear hcz27_5; try clear hcz32_0; try clear hcz32_1; try clear hcz32_2; try clear hcz34_0; try clear hcz34_1; try clear hcz34_2; try clear hcz35_0; try clear hcz35_1; try clear hcz35_2; try clear hcz35_3; try clear hcz35_4; try clear hcz35_5; try clear hcz46_0; try clear hcz46_1; try clear hcz46_2; try clear hcz46_3; try clear hcz46_4; try clear hcz46_5; try clear hcz56_0; try clear hcz56_1; try clear hcz56_2; try clear hcz56_3; try clear hcz56_4; try clear hcz56_5; try clear hcz58_0; try clear hcz58_1; try clear hcz58_2; try clear hcz59_0; try clear hcz59_1; try clear hcz59_2; try clear hcz61_0; try clear hcz61_1; try clear hcz61_2; try clear hcz62_0; try clear hcz62_1; try clear hcz62_2; try clear hcz64_0; try clear hcz64_1; try clear hcz64_2; try clear hcz64_3; try clear hcz64_4; try clear hcz64_5; try clear hcz72_0; try clear hcz72_1; try clear hcz72_2; try clear hcz72_3; try clear hcz72_4; try clear hcz72_5; try clear hcz75_0; try clear hcz75_1; try clear hcz75_2; try clear hcz75_3; try clear hcz75_4; try clear hcz75_5; try clear hcz83_0; try clear hcz83_1; try clear hcz83_2; try clear hcz83_3; try clear hcz83_4; try clear hcz83_5; try clear hcz90_0; try clear hcz90_1; try clear hcz90_2; try clear hcz90_3; try clear hcz90_4; try clear hcz90_5; try clear hcz96_0; try clear hcz96_1; try clear hcz96_2; try clear hcz96_3; try clear hcz96_4; try clear hcz96_5; try clear hfz102_0; try clear hfz102_1; try clear hfz102_2; try clear hfz102_3; try clear hfz102_4; try clear hfz102_5; try clear hfz104_0; try clear hfz104_1; try clear hfz104_2; try clear hfz104_3; try clear hfz104_4; try clear hfz104_5; try clear hfz13_0; try clear hfz13_1; try clear hfz13_2; try clear hfz17_0; try clear hfz17_1; try clear hfz17_2; try clear hfz19_0; try clear hfz19_1; try clear hfz19_2; try clear hfz24_0; try clear hfz24_1; try clear hfz24_2; try clear hfz26_0; try clear hfz26_1; try clear hfz26_2; try clear hfz27_0; try clear hfz27_1; try clear hfz27_2; try clear hfz27_3; try clear hfz27_4; try clear hfz27_5; try clear hfz32_0; try clear hfz32_1; try clear hfz32_2; try clear hfz34_0; try clear hfz34_1; try clear hfz34_2; try clear hfz35_0; try clear hfz35_1; try clear hfz35_2; try clear hfz35_3; try clear hfz35_4; try clear hfz35_5; try clear hfz46_0; try clear hfz46_1; try clear hfz46_2; try clear hfz46_3; try clear hfz46_4; try clear hfz46_5; try clear hfz56_0; try clear hfz56_1; try clear hfz56_2; try clear hfz56_3; try clear hfz56_4; try clear hfz56_5; try clear hfz58_0; try clear hfz58_1; try clear hfz58_2; try clear hfz59_0; try clear hfz59_1; try clear hfz59_2; try clear hfz61_0; try clear hfz61_1; try clear hfz61_2; try clear hfz62_0; try clear hfz62_1; try clear hfz62_2; try clear hfz64_0; try clear hfz64_1; try clear hfz64_2; try clear hfz64_3; try clear hfz64_4; try clear hfz64_5; try clear hfz72_0; try clear hfz72_1; try clear hfz72_2; try clear hfz72_3; try clear hfz72_4; try clear hfz72_5; try clear hfz75_0; try clear hfz75_1; try clear hfz75_2; try clear hfz75_3; try clear hfz75_4; try clear hfz75_5; try clear hfz83_0; try clear hfz83_1; try clear hfz83_2; try clear hfz83_3; try clear hfz83_4; try clear hfz83_5; try clear hfz90_0; try clear hfz90_1; try clear hfz90_2; try clear hfz90_3; try clear hfz90_4; try clear hfz90_5; try clear hfz96_0; try clear hfz96_1; try clear hfz96_2; try clear hfz96_3; try clear hfz96_4; try clear hfz96_5; try clear hx378_0; try clear hx378_1; try clear hx378_2; try clear hx378_3; try clear hx378_4; try clear hx378_5; try clear p2; try clear p3; try clear p37; try clear p378; try clear q3; try clear q37; try clear q378
         obtain ⟨kq, x93_78, rfl, HA, HJ78, HO_370002, HO_370004, HO_370005, HO_380002, HO_380004, HO_380005, BK367, BK368, BK369, BK379, HR378_2, HR378_4, HR378_5, HB⟩ := hcut
         cases kq with
         | zero => exact absurd HA.out (by simp [constablelaw08_GuardExact.j2])
         | succ kj78 =>
          have H := HA.out
          clear HA
          simp only [constablelaw08_GuardExact.j2] at H
          by_cases c106 : x93_78 = true
          ·subst c106
           rw [if_pos rfl] at H
           exact absurd ((Option.some.inj H).trans HR_.out) (by decide)
          ·replace c106 := Bool.eq_false_iff.mpr c106
           subst c106
           rw [if_neg (show ¬ (false = true) by decide)] at H
           have HC107 := Aside0.mk H
           clear H
           go_upto_region 12 with (fail)
           go_cut [100] (fun v100 wc => ∃ (kq : Nat) (x100_106 : Bool), v100 = .bool x100_106 ∧ Aside0 (constablelaw08_GuardExact.j3 kq l4 t384 t385 x100_106 a3_0 a3_1 l3_2 a3_3 l3_4 l3_5 = some r) ∧ Aside0 (kq ≤ kj78) ∧ Aside0 (Kd.V k72 72 wc w.heap.size (fun k_ => ((P3_2_ k_ ∨ P3_4_ k_ ∨ P3_5_ k_) ∨ w.heap.size ≤ k_) ∧ k_ ≠ gb367 ∧ k_ ≠ gb368 ∧ k_ ≠ gb369 ∧ k_ ≠ gb379) (.slice A3_2 l3_2.length c3_2) l3_2) ∧ Aside0 (Kd.V k67 67 wc w.heap.size (fun k_ => ((P3_2_ k_ ∨ P3_4_ k_ ∨ P3_5_ k_) ∨ w.heap.size ≤ k_) ∧ k_ ≠ gb367 ∧ k_ ≠ gb368 ∧ k_ ≠ gb369 ∧ k_ ≠ gb379) (.slice A3_4 l3_4.length c3_4) l3_4) ∧ Aside0 (Kd.V k67 67 wc w.heap.size (fun k_ => ((P3_2_ k_ ∨ P3_4_ k_ ∨ P3_5_ k_) ∨ w.heap.size ≤ k_) ∧ k_ ≠ gb367 ∧ k_ ≠ gb368 ∧ k_ ≠ gb369 ∧ k_ ≠ gb379) (.slice A3_5 l3_5.length c3_5) l3_5) ∧ Aside0 (Kd.V k72 72 wc w.heap.size (fun k_ => ((P3_2_ k_ ∨ P3_4_ k_ ∨ P3_5_ k_) ∨ w.heap.size ≤ k_) ∧ k_ ≠ gb367 ∧ k_ ≠ gb368 ∧ k_ ≠ gb369 ∧ k_ ≠ gb379) (.slice A378_2 ((rd_T29 t375 0).f1.f1).length c378_2) ((rd_T29 t375 0).f1.f1)) ∧ Aside0 (Kd.V k67 67 wc w.heap.size (fun k_ => ((P3_2_ k_ ∨ P3_4_ k_ ∨ P3_5_ k_) ∨ w.heap.size ≤ k_) ∧ k_ ≠ gb367 ∧ k_ ≠ gb368 ∧ k_ ≠ gb369 ∧ k_ ≠ gb379) (.slice A378_4 ((rd_T29 t375 0).f3).length c378_4) ((rd_T29 t375 0).f3)) ∧ Aside0 (Kd.V k67 67 wc w.heap.size (fun k_ => ((P3_2_ k_ ∨ P3_4_ k_ ∨ P3_5_ k_) ∨ w.heap.size ≤ k_) ∧ k_ ≠ gb367 ∧ k_ ≠ gb368 ∧ k_ ≠ gb369 ∧ k_ ≠ gb379) (.slice A378_5 ((rd_T29 t375 0).f4).length c378_5) ((rd_T29 t375 0).f4)) ∧ Aside0 (wc.heap[gb367]? = some (.cells #[.int .i64 a1_0, .int .i64 a1_1, .string a1_2] 23 (0, 0))) ∧ Aside0 (wc.heap[gb368]? = some (.cells #[.int .i64 a2_0, .int .i64 a2_1, .string a2_2] 23 (0, 0))) ∧ Aside0 (wc.heap[gb369]? = some (.cells #[.int .i64 a3_0, .string a3_1, (.slice A3_2 l3_2.length c3_2), .int .i64 a3_3, (.slice A3_4 l3_4.length c3_4), (.slice A3_5 l3_5.length c3_5)] 29 (0, 0))) ∧ Aside0 (wc.heap[gb379]? = some (.cells #[.int .i64 ((rd_T29 t375 0).f0), .string ((rd_T29 t375 0).f1.f0), (.slice A378_2 ((rd_T29 t375 0).f1.f1).length c378_2), .int .i64 ((rd_T29 t375 0).f2), (.slice A378_4 ((rd_T29 t375 0).f3).length c378_4), (.slice A378_5 ((rd_T29 t375 0).f4).length c378_5)] 29 (0, 0))) ∧ Aside0 (Kd.C k72 wc A378_2 ((rd_T29 t375 0).f1.f1).length ((rd_T29 t375 0).f1.f1)) ∧ Aside0 (Kd.C k67 wc A378_4 ((rd_T29 t375 0).f3).length ((rd_T29 t375 0).f3)) ∧ Aside0 (Kd.C k67 wc A378_5 ((rd_T29 t375 0).f4).length ((rd_T29 t375 0).f4)) ∧ Aside0 (Below w.heap.size w wc))
           case first =>
            have H := HC107.out
            clear HC107
            by_cases c108 : t387 = true
            ·subst c108
             rw [if_pos rfl] at H
             replace H := Option.bind_eq_some_iff.mp H
             obtain ⟨t390, A1090, H⟩ := H
             try dsimp only at H
             have A109 := Aside0.mk A1090
             clear A1090
             have H' := Aside0.mk H
             clear H
             go_wp2_with (first | (go_at_call 16; (with_reducible refine (constableref01_Binds.calls kj78 _ _ l4 t390 _ ?side1 ?side2 A109.out).mono ?_); (case side1 => exact kd_ ((Kd.C_below HR4.out HB.out))); (case side2 => exact HC4.out); rintro e w110 ⟨rfl, hb⟩; replace HO_370002 := bV_ HO_370002 hb; replace HO_370004 := bV_ HO_370004 hb; replace HO_370005 := bV_ HO_370005 hb; replace HO_380002 := bV_ HO_380002 hb; replace HO_380004 := bV_ HO_380004 hb; replace HO_380005 := bV_ HO_380005 hb; replace BK367 := bb_ (bu_ BK367) hb; replace BK368 := bb_ (bu_ BK368) hb; replace BK369 := bb_ (bu_ BK369) hb; replace BK379 := bb_ (bu_ BK379) hb; replace HR378_2 := bC_ HR378_2 hb; replace HR378_4 := bC_ HR378_4 hb; replace HR378_5 := bC_ HR378_5 hb; replace HB := bs_ (be_ HB) hb; (try clear hb); (try clear hb2); (try clear hk); (try clear hi)))
             go_meet
             case rel => exact ⟨_, (!t390), ra_, H', ⟨by have := HJ5.out; have := HJ42.out; have := HJ78.out; first | omega | exact Nat.le_refl _⟩, mV_ (HO_370002.out), mV_ (HO_370004.out), mV_ (HO_370005.out), mV_ (HO_380002.out), mV_ (HO_380004.out), mV_ (HO_380005.out), bu2_ BK367, bu2_ BK368, bu2_ BK369, bu2_ BK379, ⟨by repeat (first | (with_reducible exact HR378_2.out) | (with_reducible refine Kd.C_alloc ?_ _) | (with_reducible refine Kd.C_drewN ?_ _) | (with_reducible refine Kd.C_drew ?_) | exact HR378_2.out)⟩, ⟨by repeat (first | (with_reducible exact HR378_4.out) | (with_reducible refine Kd.C_alloc ?_ _) | (with_reducible refine Kd.C_drewN ?_ _) | (with_reducible refine Kd.C_drew ?_) | exact HR378_4.out)⟩, ⟨by repeat (first | (with_reducible exact HR378_5.out) | (with_reducible refine Kd.C_alloc ?_ _) | (with_reducible refine Kd.C_drewN ?_ _) | (with_reducible refine Kd.C_drew ?_) | exact HR378_5.out)⟩, be2_ HB⟩
            ·replace c108 := Bool.eq_false_iff.mpr c108
             subst c108
             rw [if_neg (show ¬ (false = true) by decide)] at H
             have H' := Aside0.mk H
             clear H
             go_wp2
             go_meet
             case rel => exact ⟨_, (true), ra_, H', ⟨by have := HJ5.out; have := HJ42.out; have := HJ78.out; first | omega | exact Nat.le_refl _⟩, mV_ (HO_370002.out), mV_ (HO_370004.out), mV_ (HO_370005.out), mV_ (HO_380002.out), mV_ (HO_380004.out), mV_ (HO_380005.out), bu2_ BK367, bu2_ BK368, bu2_ BK369, bu2_ BK379, ⟨by repeat (first | (with_reducible exact HR378_2.out) | (with_reducible refine Kd.C_alloc ?_ _) | (with_reducible refine Kd.C_drewN ?_ _) | (with_reducible refine Kd.C_drew ?_) | exact HR378_2.out)⟩, ⟨by repeat (first | (with_reducible exact HR378_4.out) | (with_reducible refine Kd.C_alloc ?_ _) | (with_reducible refine Kd.C_drewN ?_ _) | (with_reducible refine Kd.C_drew ?_) | exact HR378_4.out)⟩, ⟨by repeat (first | (with_reducible exact HR378_5.out) | (with_reducible refine Kd.C_alloc ?_ _) | (with_reducible refine Kd.C_drewN ?_ _) | (with_reducible refine Kd.C_drew ?_) | exact HR378_5.out)⟩, be2_ HB⟩
           case rest =>
            clear HC107
            try clear c1; try clear c2; try clear p2; try clear c3; try clear p3; try clear q3; try clear hx3; try clear qi3; try clear c4; try clear c5; try clear c6; try clear c7; try clear c8; try clear c9; try clear c10; try clear c10b0; try clear c10b1; try clear c11; try clear c12; try clear c14; try clear c14b0; try clear c14b1; try clear c15; try clear c16; try clear c18; try clear c21; try clear c22; try clear c23; try clear c25; try clear c30; try clear c31; try clear c33; try clear c37; try clear p37; try clear q37; try clear hx37; try clear qi37; try clear c39; try clear c39b0; try clear c39b1; try clear c44; try clear c45; try clear c53; try clear c54; try clear c55; try clear c57; try clear c66; try clear c66b0; try clear c66b1; try clear c66b2; try clear c67; try clear c67b0; try clear c67b1; try clear c69; try clear c70; try clear c71; try clear c73; try clear c74; try clear c77; try clear c80; try clear c81; try clear c82; try clear c86; try clear c86b0; try clear c86b1; try clear c86b2; try clear c87; try clear c88; try clear c89; try clear c92; try clear c93; try clear c94; try clear c95; try clear c99; try clear c100; try clear c101; try clear c106; try clear c108; try clear hcz102_0; try clear hcz102_1; try clear hcz102_2; try clear hcz102_3; try clear hcz102_4; try clear hcz102_5; try clear hcz104_0; try clear hcz104_1; try clear hcz104_2; try clear hcz104_3; try clear hcz104_4; try clear hcz104_5; try clear hcz13_0; try clear hcz13_1; try clear hcz13_2; try clear hcz17_0; try clear hcz17_1; try clear hcz17_2; try clear hcz19_0; try clear hcz19_1; try clear hcz19_2; try clear hcz24_0; try clear hcz24_1; try clear hcz24_2; try clear hcz26_0; try clear hcz26_1; try clear hcz26_2; try clear hcz27_0; try clear hcz27_1; try clear hcz27_2; try clear hcz27_3; try clear hcz27_4; try clear hcz27_5; try clear hcz32_0; try clear hcz32_1; try clear hcz32_2; try clear hcz34_0; try clear hcz34_1; try clear hcz34_2; try clear hcz35_0; try clear hcz35_1; try clear hcz35_2; try clear hcz35_3; try clear hcz35_4; try clear hcz35_5; try clear hcz46_0; try clear hcz46_1; try clear hcz46_2; try clear hcz46_3; try clear hcz46_4; try clear hcz46_5; try clear hcz56_0; try clear hcz56_1; try clear hcz56_2; try clear hcz56_3; try clear hcz56_4; try clear hcz56_5; try clear hcz58_0; try clear hcz58_1; try clear hcz58_2; try clear hcz59_0; try clear hcz59_1; try clear hcz59_2; try clear hcz61_0; try clear hcz61_1; try clear hcz61_2; try clear hcz62_0; try clear hcz62_1; try clear hcz62_2; try clear hcz64_0; try clear hcz64_1; try clear hcz64_2; try clear hcz64_3; try clear hcz64_4; try clear hcz64_5; try clear hcz72_0; try clear hcz72_1; try clear hcz72_2; try clear hcz72_3; try clear hcz72_4; try clear hcz72_5; try clear hcz75_0; try clear hcz75_1; try clear hcz75_2; try clear hcz75_3; try clear hcz75_4; try clear hcz75_5; try clear hcz83_0; try clear hcz83_1; try clear hcz83_2; try clear hcz83_3; try clear hcz83_4; try clear hcz83_5; try clear hcz90_0; try clear hcz90_1; try clear hcz90_2; try clear hcz90_3; try clear hcz90_4; try clear hcz90_5; try clear hcz96_0; try clear hcz96_1; try clear hcz96_2; try clear hcz96_3; try clear hcz96_4; try clear hcz96_5; try clear hfz102_0; try clear hfz102_1; try clear hfz102_2; try clear hfz102_3; try clear hfz102_4; try clear hfz102_5; try clear hfz104_0; try clear hfz104_1; try clear hfz104_2; try clear hfz104_3; try clear hfz104_4; try clear hfz104_5; try clear hfz13_0; try clear hfz13_1; try clear hfz13_2; try clear hfz17_0; try clear hfz17_1; try clear hfz17_2; try clear hfz19_0; try clear hfz19_1; try clear hfz19_2; try clear hfz24_0; try clear hfz24_1; try clear hfz24_2; try clear hfz26_0; try clear hfz26_1; try clear hfz26_2; try clear hfz27_0; try clear hfz27_1; try clear hfz27_2; try clear hfz27_3; try clear hfz27_4; try clear hfz27_5; try clear hfz32_0; try clear hfz32_1; try clear hfz32_2; try clear hfz34_0; try clear hfz34_1; try clear hfz34_2; try clear hfz35_0; try clear hfz35_1; try clear hfz35_2; try clear hfz35_3; try clear hfz35_4; try clear hfz35_5; try clear hfz46_0; try clear hfz46_1; try clear hfz46_2; try clear hfz46_3; try clear hfz46_4; try clear hfz46_5; try clear hfz56_0; try clear hfz56_1; try clear hfz56_2; try clear hfz56_3; try clear hfz56_4; try clear hfz56_5; try clear hfz58_0; try clear hfz58_1; try clear hfz58_2; try clear hfz59_0; try clear hfz59_1; try clear hfz59_2; try clear hfz61_0; try clear hfz61_1; try clear hfz61_2; try clear hfz62_0; try clear hfz62_1; try clear hfz62_2; try clear hfz64_0; try clear hfz64_1; try clear hfz64_2; try clear hfz64_3; try clear hfz64_4; try clear hfz64_5; try clear hfz72_0; try clear hfz72_1; try clear hfz72_2; try clear hfz72_3; try clear hfz72_4; try clear hfz72_5; try clear hfz75_0; try clear hfz75_1; try clear hfz75_2; try clear hfz75_3; try clear hfz75_4; try clear hfz75_5; try clear hfz83_0; try clear hfz83_1; try clear hfz83_2; try clear hfz83_3; try clear hfz83_4; try clear hfz83_5; try clear hfz90_0; try clear hfz90_1; try clear hfz90_2; try clear hfz90_3; try clear hfz90_4; try clear hfz90_5; try clear hfz96_0; try clear hfz96_1; try clear hfz96_2; try clear hfz96_3; try clear hfz96_4; try clear hfz96_5; try clear hx378_0; try clear hx378_1; try clear hx378_2; try clear hx378_3; try clear hx378_4; try clear hx378_5; try clear p2; try clear p3; try clear p37; try clear p378; try clear q3; try clear q37; try clear q378
            obtain ⟨kq, x100_106, rfl, HA, HJ106, HO_370002, HO_370004, HO_370005, HO_380002, HO_380004, HO_380005, BK367, BK368, BK369, BK379, HR378_2, HR378_4, HR378_5, HB⟩ := hcut
            cases kq with
            | zero => exact absurd HA.out (by simp [constablelaw08_GuardExact.j3])
            | succ kj106 =>
             have H := HA.out
             clear HA
             simp only [constablelaw08_GuardExact.j3] at H
             by_cases c111 : x100_106 = true
             ·subst c111
              rw [if_pos rfl] at H
              by_cases c112 : t385 = 1
              ·rw [if_pos c112] at H
               obtain ⟨c112b0, c112b1⟩ := eqB_ c112
               clear c112
               by_cases c113 : t384 = true
               ·subst c113
                rw [if_pos rfl] at H
                exact absurd ((Option.some.inj H).trans HR_.out) (by decide)
               ·replace c113 := Bool.eq_false_iff.mpr c113
                subst c113
                rw [if_neg (show ¬ (false = true) by decide)] at H
                replace H := Option.bind_eq_some_iff.mp H
                obtain ⟨t391, A1140, H⟩ := H
                try dsimp only at H
                have A114 := Aside0.mk A1140
                clear A1140
                obtain rfl := Option.some.inj H
                go_wp2_with (first | (go_at_call 17; (with_reducible refine (constablelaw08_wakes.calls kj106  t391 _ A114.out HR_.out).mono ?_); rintro e w115 ⟨rfl, hb⟩; replace HO_370002 := bV_ HO_370002 hb; replace HO_370004 := bV_ HO_370004 hb; replace HO_370005 := bV_ HO_370005 hb; replace HO_380002 := bV_ HO_380002 hb; replace HO_380004 := bV_ HO_380004 hb; replace HO_380005 := bV_ HO_380005 hb; replace BK367 := bb_ (bu_ BK367) hb; replace BK368 := bb_ (bu_ BK368) hb; replace BK369 := bb_ (bu_ BK369) hb; replace BK379 := bb_ (bu_ BK379) hb; replace HR378_2 := bC_ HR378_2 hb; replace HR378_4 := bC_ HR378_4 hb; replace HR378_5 := bC_ HR378_5 hb; replace HB := bs_ (be_ HB) hb; (try clear hb); (try clear hb2); (try clear hk); (try clear hi)))
                go_ret
                exact ⟨re_, be_ HB⟩
              ·rw [if_neg c112] at H
               obtain ⟨c112b0, c112b1⟩ := neB_ c112
               exact absurd ((Option.some.inj H).trans HR_.out) (by decide)
             ·replace c111 := Bool.eq_false_iff.mpr c111
              subst c111
              rw [if_neg (show ¬ (false = true) by decide)] at H
              replace H := Option.bind_eq_some_iff.mp H
              obtain ⟨⟨t392, t393⟩, A1160, H⟩ := H
              try dsimp only at H
              have A116 := Aside0.mk A1160
              clear A1160
              by_cases c117 : t385 = t393
              ·rw [if_pos c117] at H
               obtain ⟨c117b0, c117b1⟩ := eqB_ c117
               clear c117
               by_cases c118 : (t384 == t392) = true
               ·rw [if_pos c118] at H
                have c118b0 : (t384 == t392) = true := c118
                (try (have c118b1 : decide (t384 = t392) = true := by simpa using c118))
                (try (have c118b2 : (t384 == t392) = true := by simpa using c118))
                clear c118
                replace H := Option.bind_eq_some_iff.mp H
                obtain ⟨t394, A1190, H⟩ := H
                try dsimp only at H
                have A119 := Aside0.mk A1190
                clear A1190
                obtain rfl := Option.some.inj H
                have hnb120 := NB369_367.out
                have hnc120 := NB367_369.out
                have hnb121 := NB369_368.out
                have hnc121 := NB368_369.out
                have hnb122 := NB369_379.out
                have hnc122 := NB379_369.out
                have hcz123_0 : wc.cell? ⟨gb369, 0, none⟩ = some (.int .i64 a3_0) := (blk_cell BK369.out 0).trans rfl
                have hcz123_1 : wc.cell? ⟨gb369, 1, none⟩ = some (.string a3_1) := (blk_cell BK369.out 1).trans rfl
                have hcz123_2 : wc.cell? ⟨gb369, 2, none⟩ = some (.slice A3_2 l3_2.length c3_2) := (blk_cell BK369.out 2).trans rfl
                have hcz123_3 : wc.cell? ⟨gb369, 3, none⟩ = some (.int .i64 a3_3) := (blk_cell BK369.out 3).trans rfl
                have hcz123_4 : wc.cell? ⟨gb369, 4, none⟩ = some (.slice A3_4 l3_4.length c3_4) := (blk_cell BK369.out 4).trans rfl
                have hcz123_5 : wc.cell? ⟨gb369, 5, none⟩ = some (.slice A3_5 l3_5.length c3_5) := (blk_cell BK369.out 5).trans rfl
                have hfz123_0 := blk_frozen BK369.out 0
                have hfz123_1 := blk_frozen BK369.out 1
                have hfz123_2 := blk_frozen BK369.out 2
                have hfz123_3 := blk_frozen BK369.out 3
                have hfz123_4 := blk_frozen BK369.out 4
                have hfz123_5 := blk_frozen BK369.out 5
                go_wp2_with (first | ((with_reducible refine gate_callee (f := 18) rfl ?_); refine goesL_ (some 113) rfl rfl Try.func18 (by kernel_rfl) rfl #[.agg #[.int .i64 a3_0, .string a3_1, .slice A3_2 l3_2.length c3_2, .int .i64 a3_3, .slice A3_4 l3_4.length c3_4, .slice A3_5 l3_5.length c3_5], .slice A4 l4.length c4] rfl ga_ ?_; (with_reducible refine (constableref01_Test.calls kj106 a3_0 a3_1 _ _ l3_2 a3_3 _ _ l3_4 _ _ l3_5 _ _ l4 t392 t393 _ ?side1 ?side2 ?side3 ?side4 ?side5 ?side6 ?side7 ?side8 A116.out).mono ?_); (case side1 => exact kd_ ((Kd.V_reads' HO_370002.out).2.2)); (case side2 => exact (Kd.V_reads' HO_370002.out).2.1); (case side3 => exact kd_ ((Kd.V_reads' HO_370004.out).2.2)); (case side4 => exact (Kd.V_reads' HO_370004.out).2.1); (case side5 => exact kd_ ((Kd.V_reads' HO_370005.out).2.2)); (case side6 => exact (Kd.V_reads' HO_370005.out).2.1); (case side7 => exact kd_ ((Kd.C_below HR4.out HB.out))); (case side8 => exact HC4.out); rintro e w124 ⟨rfl, hb⟩; refine ⟨_, rfl, ?_⟩; replace HO_370002 := bV_ HO_370002 hb; replace HO_370004 := bV_ HO_370004 hb; replace HO_370005 := bV_ HO_370005 hb; replace HO_380002 := bV_ HO_380002 hb; replace HO_380004 := bV_ HO_380004 hb; replace HO_380005 := bV_ HO_380005 hb; replace BK367 := bb_ (bu_ BK367) hb; replace BK368 := bb_ (bu_ BK368) hb; replace BK369 := bb_ (bu_ BK369) hb; replace BK379 := bb_ (bu_ BK379) hb; replace HR378_2 := bC_ HR378_2 hb; replace HR378_4 := bC_ HR378_4 hb; replace HR378_5 := bC_ HR378_5 hb; replace HB := bs_ (be_ HB) hb; (try clear hb); (try clear hb2); (try clear hk); (try clear hi)) | (go_at_call 17; (with_reducible refine (constablelaw08_wakes.calls kj106  t394 _ A119.out HR_.out).mono ?_); rintro e w125 ⟨rfl, hb⟩; replace HO_370002 := bV_ HO_370002 hb; replace HO_370004 := bV_ HO_370004 hb; replace HO_370005 := bV_ HO_370005 hb; replace HO_380002 := bV_ HO_380002 hb; replace HO_380004 := bV_ HO_380004 hb; replace HO_380005 := bV_ HO_380005 hb; replace BK367 := bb_ (bu_ BK367) hb; replace BK368 := bb_ (bu_ BK368) hb; replace BK369 := bb_ (bu_ BK369) hb; replace BK379 := bb_ (bu_ BK379) hb; replace HR378_2 := bC_ HR378_2 hb; replace HR378_4 := bC_ HR378_4 hb; replace HR378_5 := bC_ HR378_5 hb; replace HB := bs_ (be_ HB) hb; (try clear hb); (try clear hb2); (try clear hk); (try clear hi)))
                go_ret
                exact ⟨re_, be_ HB⟩
               ·rw [if_neg c118] at H
                have c118b0 := Bool.eq_false_iff.2 c118
                (try (have c118b1 : decide (t384 = t392) = false := by simpa using c118))
                (try (have c118b2 : (t384 == t392) = false := by simpa using c118))
                (try (have c118b3 : ¬ (t384 = t392) := by simpa using c118))
                clear c118
                exact absurd ((Option.some.inj H).trans HR_.out) (by decide)
              ·rw [if_neg c117] at H
               obtain ⟨c117b0, c117b1⟩ := neB_ c117
               exact absurd ((Option.some.inj H).trans HR_.out) (by decide)
    ·rw [if_neg c39] at H
     exact absurd H (by simp)
end Go.Proofs.Ytaopajmpifenoaa.P
end
section
namespace Go.Proofs.Ytaopajmpifenoaa.P
open Go.RowKit Go.Proofs.YtaopajmpifenoaaW.PrintWords Go.Proofs.YtaopajmpifenoaaW.PrintLast Go.Proofs.YtaopajmpifenoaaW.PrintMore
theorem evPos {α : Type} {c : Prop} [Decidable c] {f g : Nat → Option α} {r : α} (h : c) (k : Ev f r) : Ev (fun n => if c then f n else g n) r := Ev.congr (fun _ => if_pos h) k
theorem evNeg {α : Type} {c : Prop} [Decidable c] {f g : Nat → Option α} {r : α} (h : ¬ c) (k : Ev g r) : Ev (fun n => if c then f n else g n) r := Ev.congr (fun _ => if_neg h) k
theorem evSome {α : Type} {a r : α} (h : a = r) : Ev (fun _ => some a) r := ⟨0, fun _ _ => by rw [h]⟩
theorem evShift {α : Type} {g : Nat → Option α} {r : α} (k : Ev (fun n => g (n + 1)) r) : Ev g r := Ev.step (fun _ => rfl) k
theorem evBind0 {α β : Type} {g : Option α} {f : Nat → α → Option β} {a : α} {r : β} (h : g = some a) (k : Ev (fun n => f n a) r) : Ev (fun n => g.bind (f n)) r := by subst h; exact k
theorem evCond {α : Type} {b : Bool} {f g : Nat → Option α} {r : α} (h1 : b = true → Ev f r) (h2 : b = false → Ev g r) : Ev (fun n => if b = true then f n else g n) r := by
  cases b with
  | true => exact evPos rfl (h1 rfl)
  | false => exact evNeg (by decide) (h2 rfl)
theorem evIf {α : Type} {c : Prop} [Decidable c] {f g : Nat → Option α} {r : α} (h1 : c → Ev f r) (h2 : ¬ c → Ev g r) : Ev (fun n => if c then f n else g n) r := by
  by_cases h : c
  · exact evPos h (h1 h)
  · exact evNeg h (h2 h)
end Go.Proofs.Ytaopajmpifenoaa.P
end
section
namespace Go.Proofs.Ytaopajmpifenoaa.P
open Go.RowKit Go.Proofs.YtaopajmpifenoaaW.PrintWords Go.Proofs.YtaopajmpifenoaaW.PrintLast Go.Proofs.YtaopajmpifenoaaW.PrintMore
theorem len_codes (s : ByteArray) : (bytesOf s).length = s.size := by simp [bytesOf]
theorem bt_codes (s : ByteArray) (i : Int) : bt s i = rd (bytesOf s) i := (rd_bytesOf s i).symm
theorem codes_inj {s t : ByteArray} (h : bytesOf s = bytesOf t) : s = t := by
  have h2 : s.data.toList = t.data.toList := by
    unfold bytesOf at h
    have inj : ∀ (a b : List UInt8), a.map (fun b => ((b.toNat : Nat) : Int)) = b.map (fun b => ((b.toNat : Nat) : Int)) → a = b := by
      intro a
      induction a with
      | nil => intro b hb; cases b with
        | nil => rfl
        | cons y b => simp at hb
      | cons x a ih => intro b hb; cases b with
        | nil => simp at hb
        | cons y b =>
          simp only [List.map_cons, List.cons.injEq] at hb
          have e : x = y := UInt8.toNat_inj.1 (by omega)
          rw [e, ih b hb.2]
    exact inj _ _ h
  cases s with | mk a => cases t with | mk b => cases a; cases b; simp at h2; rw [h2]
theorem tl_data (s : ByteArray) : s.toList = s.data.toList := Lib.toList_data s
theorem tl_inj {s t : ByteArray} : s.toList = t.toList ↔ s = t := by
  constructor
  · intro h
    rw [tl_data, tl_data] at h
    exact codes_inj (by unfold bytesOf; rw [h])
  · intro h; rw [h]
theorem tl_beq (s t : ByteArray) : (s.toList == t.toList) = decide (s = t) := by
  rw [Bool.eq_iff_iff, beq_iff_eq, decide_eq_true_eq, tl_inj]
theorem tl_nil {s : ByteArray} : s.toList = [] ↔ s = ⟨#[]⟩ := by
  rw [← tl_inj]
  have : (⟨#[]⟩ : ByteArray).toList = [] := by rw [tl_data]
  rw [this]
theorem tl_beq_nil (s : ByteArray) : (s.toList == ([] : List UInt8)) = decide (s = ⟨#[]⟩) := by
  rw [Bool.eq_iff_iff, beq_iff_eq, decide_eq_true_eq, tl_nil]
theorem size_zero {s : ByteArray} : s.size = 0 ↔ s = ⟨#[]⟩ := by
  constructor
  · intro h
    apply codes_inj
    have : (bytesOf s).length = 0 := by rw [len_codes]; exact h
    rw [List.eq_nil_of_length_eq_zero this]; rfl
  · intro h; rw [h]; rfl
theorem rd_mid {p : List Int} {x : Int} {l : List Int} : rd (p ++ x :: l) p.length = x := by simp [rd, List.getD_eq_getElem?_getD]
theorem codes_split (s : ByteArray) (i : Nat) (h : i < s.size) : ∃ x, (bytesOf s).drop i = x :: (bytesOf s).drop (i + 1) ∧ bt s i = x := by
  have hl : i < (bytesOf s).length := by rw [len_codes]; exact h
  refine ⟨(bytesOf s)[i], ?_, ?_⟩
  · exact List.drop_eq_getElem_cons hl
  · rw [bt_codes]
    simp [rd, List.getD_eq_getElem?_getD, hl]
theorem back_ind {ρ : Type} (n : Nat) (l : Nat → Int → Option ρ) (spec : Nat → ρ) (hend : Ev (fun k => l k n) (spec n))
    (hstep : ∀ i : Nat, i < n → Ev (fun k => l k ((i + 1 : Nat) : Int)) (spec (i + 1)) → Ev (fun k => l k i) (spec i)) : ∀ i : Nat, i ≤ n → Ev (fun k => l k i) (spec i) := by
  intro i hi
  obtain ⟨d, rfl⟩ : ∃ d, n = i + d := ⟨n - i, by omega⟩
  induction d generalizing i with
  | zero => exact hend
  | succ d ih =>
    refine hstep i (by omega) ?_
    have := ih (i + 1) (by rw [show i + 1 + d = i + (d + 1) by omega]; exact hend) (fun j hj => hstep j (by omega)) (by omega)
    exact this
theorem wrap_succ {i n : Nat} (h : i < n) (hn : n ≤ 9223372036854775807) : wrap64 ((i : Int) + 1) = ((i + 1 : Nat) : Int) := by unfold wrap64; omega
theorem rdOf_nth {α : Type} (d : α) (l : List α) (i : Nat) (h : i < l.length) : rdOf d l i = l[i] := by simp [rdOf, List.getD_eq_getElem?_getD, h]
end Go.Proofs.Ytaopajmpifenoaa.P
end
section
namespace Go.Proofs.Ytaopajmpifenoaa.P
open Go.RowKit Go.Proofs.YtaopajmpifenoaaW.PrintWords Go.Proofs.YtaopajmpifenoaaW.PrintLast Go.Proofs.YtaopajmpifenoaaW.PrintMore
def InB (a : Int) : Prop := -4611686018427387904 ≤ a ∧ a ≤ 4611686018427387904
instance (a : Int) : Decidable (InB a) := inferInstanceAs (Decidable (_ ∧ _))
def doS (kind a b : Int) : Int × Int :=
  if kind = 3 ∨ kind = 4 ∨ kind = 5 then
    if InB a ∧ InB b then
      if InB (if kind = 3 then a + b else if kind = 4 then a - b else a * b) then (if kind = 3 then a + b else if kind = 4 then a - b else a * b, 0) else (0, 4)
    else (0, 4)
  else (0, 3)
theorem InB_iff (a : Int) : InB a ↔ -4611686018427387904 ≤ a ∧ a ≤ 4611686018427387904 := Iff.rfl
theorem num_in_eq (a : Int) : num_in.f a = some (decide (InB a)) := by
  unfold num_in.f
  split
  · congr 1; rw [decide_eq_decide, InB_iff]; omega
  · congr 1; symm; rw [decide_eq_false_iff_not, InB_iff]; omega
theorem num_add_eq {a b : Int} (ha : InB a) (hb : InB b) : num_add.f a b = some (if InB (a + b) then (a + b, true) else (0, false)) := by
  rw [InB_iff] at ha hb
  unfold num_add.f wrap64
  split
  · split
    · rw [if_neg (by rw [InB_iff]; omega)]
    · rw [if_neg (by omega), if_pos (by rw [InB_iff]; omega)]; congr 2; omega
  · split
    · split
      · rw [if_neg (by rw [InB_iff]; omega)]
      · rw [if_pos (by rw [InB_iff]; omega)]; congr 2; omega
    · rw [if_pos (by rw [InB_iff]; omega)]; congr 2; omega
theorem num_size_eq {a : Int} (ha : InB a) : num_size.f a = some (if a < 0 then -a else a) := by
  rw [InB_iff] at ha
  unfold num_size.f wrap64
  split <;> (congr 1; rw [IntKind.wrap_u64]; omega)
theorem and_low {a : Int} (h0 : 0 ≤ a) (h1 : a < 18446744073709551616) : Go.bits .and .u64 a 4294967295 = a % 4294967296 :=
  bits_mask .u64 64 (by decide) (fun n h0 h1 => by rw [IntKind.wrap_u64]; omega) 32 (by decide) a h0 h1
theorem mul_parts (a b : Int) : a * b = (a / 4294967296) * (b / 4294967296) * 18446744073709551616 + ((a / 4294967296) * (b % 4294967296) + (a % 4294967296) * (b / 4294967296)) * 4294967296 + (a % 4294967296) * (b % 4294967296) := by
  have ha : a = 4294967296 * (a / 4294967296) + a % 4294967296 := by omega
  have hb : b = 4294967296 * (b / 4294967296) + b % 4294967296 := by omega
  generalize a / 4294967296 = x at *
  generalize a % 4294967296 = y at *
  generalize b / 4294967296 = z at *
  generalize b % 4294967296 = t at *
  subst ha hb
  grind
theorem mul_le2 {a b m n : Int} (h0 : 0 ≤ a) (h1 : a ≤ m) (h2 : 0 ≤ b) (h3 : b ≤ n) : 0 ≤ a * b ∧ a * b ≤ m * n :=
  ⟨Int.mul_nonneg h0 h2, Int.mul_le_mul h1 h3 h2 (by omega)⟩
theorem bits_Mul64_eq {a b : Int} (ha : 0 ≤ a) (ha' : a ≤ 4611686018427387904) (hb : 0 ≤ b) (hb' : b ≤ 4611686018427387904) :
    bits_Mul64.f a b = some (a * b / 18446744073709551616, a * b % 18446744073709551616) := by
  unfold bits_Mul64.f
  simp only [and_low ha (by omega), and_low hb (by omega)]
  obtain ⟨p0, p1⟩ := mul_le2 (a := a / 4294967296) (m := 1073741824) (b := b / 4294967296) (n := 1073741824) (by omega) (by omega) (by omega) (by omega)
  obtain ⟨q0, q1⟩ := mul_le2 (a := a / 4294967296) (m := 1073741824) (b := b % 4294967296) (n := 4294967295) (by omega) (by omega) (by omega) (by omega)
  obtain ⟨r0, r1⟩ := mul_le2 (a := a % 4294967296) (m := 4294967295) (b := b / 4294967296) (n := 1073741824) (by omega) (by omega) (by omega) (by omega)
  obtain ⟨s0, s1⟩ := mul_le2 (a := a % 4294967296) (m := 4294967295) (b := b % 4294967296) (n := 4294967295) (by omega) (by omega) (by omega) (by omega)
  have hab := mul_parts a b
  generalize (a / 4294967296) * (b / 4294967296) = p at *
  generalize (a / 4294967296) * (b % 4294967296) = q at *
  generalize (a % 4294967296) * (b / 4294967296) = r at *
  generalize (a % 4294967296) * (b % 4294967296) = s at *
  generalize a * b = x at *
  subst hab
  have w : ∀ n : Int, 0 ≤ n → n < 18446744073709551616 → IntKind.u64.wrap n = n := fun n h0 h1 => by rw [IntKind.wrap_u64]; omega
  rw [w p (by omega) (by omega), w q (by omega) (by omega), w s (by omega) (by omega), w r (by omega) (by omega)]
  rw [w (q + s / 4294967296) (by omega) (by omega)]
  rw [and_low (by omega) (by omega)]
  rw [w ((q + s / 4294967296) % 4294967296 + r) (by omega) (by omega)]
  rw [w (p + (q + s / 4294967296) / 4294967296) (by omega) (by omega)]
  rw [w (p + (q + s / 4294967296) / 4294967296 + _) (by omega) (by omega)]
  rw [IntKind.wrap_u64]
  congr 2
  omega
theorem abs_mul (a b : Int) : (if a < 0 then -a else a) * (if b < 0 then -b else b) = if (decide (a < 0) != decide (b < 0)) = true then -(a * b) else a * b := by
  by_cases h1 : a < 0 <;> by_cases h2 : b < 0 <;> simp [h1, h2, Int.neg_mul, Int.mul_neg]
theorem num_mul_eq {a b : Int} (ha : InB a) (hb : InB b) (k : Nat) : num_mul.f (k + 1) a b = some (if InB (a * b) then (a * b, true) else (0, false)) := by
  rw [InB_iff] at ha hb
  unfold num_mul.f
  rw [num_size_eq ha, num_size_eq hb]
  simp only [Option.bind_some]
  rw [bits_Mul64_eq (by split <;> omega) (by split <;> omega) (by split <;> omega) (by split <;> omega)]
  simp only [Option.bind_some, num_mul.j0]
  have hm := abs_mul a b
  have h0 : 0 ≤ (if a < 0 then -a else a) * (if b < 0 then -b else b) := Int.mul_nonneg (by split <;> omega) (by split <;> omega)
  have h1 := (mul_le2 (a := if a < 0 then -a else a) (b := if b < 0 then -b else b) (m := 4611686018427387904) (n := 4611686018427387904) (by split <;> omega) (by split <;> omega) (by split <;> omega) (by split <;> omega)).2
  generalize (if a < 0 then -a else a) * (if b < 0 then -b else b) = x at *
  generalize a * b = y at *
  by_cases hs : (decide (a < 0) != decide (b < 0)) = true
  · rw [if_pos hs] at hm
    simp only [hs, if_true, wrap64]
    split
    · rw [if_neg (by rw [InB_iff]; omega)]
    · by_cases hx : x % 18446744073709551616 > 4611686018427387904
      · rw [decide_eq_true hx, if_pos rfl, if_neg (by rw [InB_iff]; omega)]
      · rw [decide_eq_false hx, if_neg (by decide), if_pos (by rw [InB_iff]; omega)]; congr 2; omega
  · rw [if_neg hs] at hm
    replace hs := Bool.eq_false_iff.mpr hs
    simp only [hs, Bool.false_eq_true, if_false, if_true, wrap64]
    split
    · rw [if_neg (by rw [InB_iff]; omega)]
    · by_cases hx : x % 18446744073709551616 > 4611686018427387904
      · rw [decide_eq_true hx, if_pos rfl, if_neg (by rw [InB_iff]; omega)]
      · rw [decide_eq_false hx, if_neg (by decide), if_pos (by rw [InB_iff]; omega)]; congr 2; omega
theorem num_Do_eq (kind a b : Int) (k : Nat) : num_Do.f (k + 3) kind a b = some (doS kind a b) := by
  unfold num_Do.f doS
  simp only [num_Do.j0, num_Do.j1, num_in_eq, Option.bind_some]
  by_cases ha : InB a
  · by_cases hb : InB b
    · simp only [ha, hb, decide_true, if_true, Bool.not_true, Bool.false_eq_true, if_false, and_self]
      have hn : wrap64 (-b) = -b := by rw [InB_iff] at hb; unfold wrap64; omega
      rw [hn, num_add_eq ha hb, num_add_eq ha (b := -b) (by rw [InB_iff] at *; omega), num_mul_eq ha hb]
      simp only [Option.bind_some, ← Int.sub_eq_add_neg]
      by_cases h3 : kind = 3
      · simp only [h3, if_true, true_or]
        split <;> simp
      · by_cases h4 : kind = 4
        · simp only [h4, if_true, true_or, or_true]
          simp
          split <;> simp
        · by_cases h5 : kind = 5
          · simp only [h5]
            simp
            split <;> simp
          · simp [h3, h4, h5]
    · simp only [ha, hb, decide_true, decide_false, if_true, Bool.not_false, and_false, if_false]
      by_cases h3 : kind = 3
      · simp [h3]
      · by_cases h4 : kind = 4
        · simp [h4]
        · by_cases h5 : kind = 5 <;> simp [h3, h4, h5]
  · simp only [ha, decide_false, Bool.false_eq_true, if_false, if_true, false_and]
    by_cases h3 : kind = 3
    · simp [h3]
    · by_cases h4 : kind = 4
      · simp [h4]
      · by_cases h5 : kind = 5 <;> simp [h3, h4, h5]
theorem num_Do_ev (kind a b : Int) : Ev (fun k => num_Do.f k kind a b) (doS kind a b) := Ev.of (num_Do.mono _ _ _) (num_Do_eq kind a b 0)
def sumS (acc : Int) : List Int → Int × Int
  | [] => (acc, 0)
  | x :: l => if (doS 3 acc x).2 = 0 then sumS (doS 3 acc x).1 l else (0, (doS 3 acc x).2)
theorem rd_at (p : List Int) (x : Int) (l : List Int) : rd (p ++ x :: l) p.length = x := by
  simp [rd, List.getD_eq_getElem?_getD]
theorem wrap_len (p : List Int) (h : p.length ≤ 140737488351232) : wrap64 ((p.length : Int) + 1) = (p.length : Int) + 1 := by unfold wrap64; omega
end Go.Proofs.Ytaopajmpifenoaa.P
end
section
namespace Go.Proofs.Ytaopajmpifenoaa.P
open Go.RowKit Go.Proofs.YtaopajmpifenoaaW.PrintWords Go.Proofs.YtaopajmpifenoaaW.PrintLast Go.Proofs.YtaopajmpifenoaaW.PrintMore
def smallI (c : Int) : Bool := decide (97 ≤ c ∧ c ≤ 122)
def largeI (c : Int) : Bool := decide (65 ≤ c ∧ c ≤ 90)
def digitI (c : Int) : Bool := decide (48 ≤ c ∧ c ≤ 57)
def innerI (c : Int) : Bool := smallI c || largeI c || digitI c || c == 95
def plainI (c : Int) : Bool := decide (32 ≤ c ∧ c ≤ 126)
def wordS (large : Bool) (s : ByteArray) : Bool :=
  decide (1 ≤ s.size ∧ s.size ≤ 24) && (if large then largeI (bt s 0) else smallI (bt s 0)) && (bytesOf s).all innerI
def valS (kind n : Int) (s : ByteArray) : Bool :=
  if kind = 1 then decide (InB n) && decide (s = ⟨#[]⟩)
  else if kind = 2 then decide (n = 0) && wordS false s
  else if kind = 3 then decide (n = 0) && (bytesOf s).all plainI && decide (s.size ≤ 60)
  else false
theorem val_small_eq (c : Int) : val_small.f c = some (smallI c) := by
  unfold val_small.f smallI
  split
  · congr 1; rw [decide_eq_decide]; omega
  · congr 1; symm; rw [decide_eq_false_iff_not]; omega
theorem val_large_eq (c : Int) : val_large.f c = some (largeI c) := by
  unfold val_large.f largeI
  split
  · congr 1; rw [decide_eq_decide]; omega
  · congr 1; symm; rw [decide_eq_false_iff_not]; omega
theorem val_digit_eq (c : Int) : val_digit.f c = some (digitI c) := by
  unfold val_digit.f digitI
  split
  · congr 1; rw [decide_eq_decide]; omega
  · congr 1; symm; rw [decide_eq_false_iff_not]; omega
theorem subst_letter_eq (c : Int) : subst_letter.f c = some (innerI c) := by
  unfold subst_letter.f innerI smallI largeI digitI
  by_cases h1 : 97 ≤ c <;> by_cases h2 : c ≤ 122 <;> by_cases h3 : 65 ≤ c <;> by_cases h4 : c ≤ 90 <;> by_cases h5 : 48 ≤ c <;> by_cases h6 : c ≤ 57 <;> simp [h1, h2, h3, h4, h5, h6]
theorem all_drop {P : Int → Bool} {s : ByteArray} {i : Nat} (h : i < s.size) : ((bytesOf s).drop i).all P = (P (bt s i) && ((bytesOf s).drop (i + 1)).all P) := by
  obtain ⟨x, h1, h2⟩ := codes_split s i h
  rw [h1, h2]; rfl
theorem drop_end (s : ByteArray) : (bytesOf s).drop s.size = [] := by rw [← len_codes s]; exact List.drop_length
theorem val_symbol_l0 (s : ByteArray) (hs : s.size ≤ maxLen) : ∀ i : Nat, i ≤ s.size → Ev (fun k => val_symbol.l0 k s s.size i) (((bytesOf s).drop i).all innerI) := by
  unfold maxLen at hs
  refine back_ind s.size (fun k i => val_symbol.l0 k s s.size i) _ ?_ ?_
  · refine evShift ?_
    simp only [val_symbol.l0]
    refine evNeg (by omega) (evSome (by rw [drop_end]; rfl))
  · intro i hi ih
    refine evShift ?_
    simp only [val_symbol.l0, val_small_eq, val_large_eq, val_digit_eq, Option.bind_some]
    refine evPos (by omega) (evPos (by omega) (evPos (by omega) ?_))
    rw [all_drop hi, wrap_succ hi (by omega)]
    have e : innerI (bt s i) = (smallI (bt s i) || largeI (bt s i) || digitI (bt s i) || bt s i == 95) := rfl
    by_cases h1 : smallI (bt s i) = true
    · rw [e, h1]; simpa using ih
    · by_cases h2 : largeI (bt s i) = true
      · rw [e, h2]; simpa [h1] using ih
      · by_cases h3 : digitI (bt s i) = true
        · rw [e, h3]; simpa [h1, h2] using ih
        · by_cases h4 : bt s i = 95
          · rw [e]; simpa [h1, h2, h3, h4] using ih
          · rw [e]; simp [h1, h2, h3, h4]; exact evSome (by simp [h4])
theorem val_symbol_ev (s : ByteArray) (hs : s.size ≤ maxLen) : Ev (fun k => val_symbol.f k s) (wordS false s) := by
  have hl := val_symbol_l0 s hs 0 (by omega)
  simp only [List.drop_zero, Int.natCast_zero] at hl
  have hj : Ev (fun k => val_symbol.j0 k s true) false := by
    refine evShift ?_
    simp only [val_symbol.j0, if_true]
    exact evSome rfl
  unfold val_symbol.f wordS
  by_cases h1 : (s.size : Int) < 1
  · refine evPos h1 ?_
    have hd : decide (1 ≤ s.size ∧ s.size ≤ 24) = false := decide_eq_false (by omega)
    rw [hd]; exact hj
  · refine evNeg h1 ?_
    by_cases h2 : (s.size : Int) > 24
    · refine evPos h2 ?_
      have hd : decide (1 ≤ s.size ∧ s.size ≤ 24) = false := decide_eq_false (by omega)
      rw [hd]; exact hj
    · refine evNeg h2 (evPos (by omega) ?_)
      have hd : decide (1 ≤ s.size ∧ s.size ≤ 24) = true := decide_eq_true (by omega)
      rw [hd]
      simp only [val_small_eq, Option.bind_some, Bool.true_and]
      by_cases h3 : smallI (bt s 0) = true
      · simp only [h3, Bool.not_true]
        refine evShift ?_
        simp only [val_symbol.j0, Bool.false_eq_true, if_false]
        exact hl
      · replace h3 := Bool.eq_false_iff.mpr h3
        simp only [h3, Bool.not_false]
        exact hj
theorem subst_Var_l0 (s : ByteArray) (hs : s.size ≤ maxLen) : ∀ i : Nat, i ≤ s.size → Ev (fun k => subst_Var.l0 k s s.size i) (((bytesOf s).drop i).all innerI) := by
  unfold maxLen at hs
  refine back_ind s.size (fun k i => subst_Var.l0 k s s.size i) _ ?_ ?_
  · refine evShift ?_
    simp only [subst_Var.l0]
    refine evNeg (by omega) (evSome (by rw [drop_end]; rfl))
  · intro i hi ih
    refine evShift ?_
    simp only [subst_Var.l0, subst_letter_eq, Option.bind_some]
    refine evPos (by omega) (evPos (by omega) (evPos (by omega) ?_))
    rw [all_drop hi, wrap_succ hi (by omega)]
    by_cases h1 : innerI (bt s i) = true
    · rw [h1]; simpa using ih
    · simp [h1]; exact evSome rfl
theorem subst_Var_ev (s : ByteArray) (hs : s.size ≤ maxLen) : Ev (fun k => subst_Var.f k s) (wordS true s) := by
  have hl := subst_Var_l0 s hs 0 (by omega)
  simp only [List.drop_zero, Int.natCast_zero] at hl
  have hj : Ev (fun k => subst_Var.j0 k s true) false := by
    refine evShift ?_
    simp only [subst_Var.j0, if_true]
    exact evSome rfl
  unfold subst_Var.f wordS
  by_cases h1 : (s.size : Int) < 1
  · refine evPos h1 ?_
    have hd : decide (1 ≤ s.size ∧ s.size ≤ 24) = false := decide_eq_false (by omega)
    rw [hd]; exact hj
  · refine evNeg h1 ?_
    by_cases h2 : (s.size : Int) > 24
    · refine evPos h2 ?_
      have hd : decide (1 ≤ s.size ∧ s.size ≤ 24) = false := decide_eq_false (by omega)
      rw [hd]; exact hj
    · refine evNeg h2 (evPos (by omega) ?_)
      have hd : decide (1 ≤ s.size ∧ s.size ≤ 24) = true := decide_eq_true (by omega)
      rw [hd]
      simp only [if_true]
      by_cases h3 : bt s 0 < 65
      · refine evPos h3 ?_
        have : largeI (bt s 0) = false := decide_eq_false (by omega)
        rw [this]; exact hj
      · refine evNeg h3 ?_
        by_cases h4 : bt s 0 > 90
        · have : largeI (bt s 0) = false := decide_eq_false (by omega)
          rw [this, decide_eq_true h4]; exact hj
        · have : largeI (bt s 0) = true := decide_eq_true (by omega)
          rw [this, decide_eq_false h4]
          refine evShift ?_
          simp only [subst_Var.j0, Bool.false_eq_true, if_false, Bool.true_and]
          exact hl
theorem val_plain_ev (s : ByteArray) (hs : s.size ≤ maxLen) : Ev (fun k => val_plain.f k s) ((bytesOf s).all plainI && decide (s.size ≤ 60)) := by
  have h : ∀ i : Nat, i ≤ s.size → Ev (fun k => val_plain.l0 k s s.size i) (((bytesOf s).drop i).all plainI && decide (s.size ≤ 60)) := by
    unfold maxLen at hs
    refine back_ind s.size (fun k i => val_plain.l0 k s s.size i) _ ?_ ?_
    · refine evShift ?_
      simp only [val_plain.l0]
      refine evNeg (by omega) (evSome (by rw [drop_end]; simp; omega))
    · intro i hi ih
      refine evShift ?_
      simp only [val_plain.l0]
      refine evPos (by omega) (evPos (by omega) (evPos (by omega) ?_))
      rw [all_drop hi, wrap_succ hi (by omega)]
      by_cases h1 : bt s i < 32
      · refine evPos h1 (evSome ?_)
        have : plainI (bt s i) = false := decide_eq_false (by omega)
        rw [this]; rfl
      · refine evNeg h1 ?_
        by_cases h2 : bt s i > 126
        · refine evPos h2 (evSome ?_)
          have : plainI (bt s i) = false := decide_eq_false (by omega)
          rw [this]; rfl
        · refine evNeg h2 ?_
          have : plainI (bt s i) = true := decide_eq_true (by omega)
          rw [this]; exact ih
  have := h 0 (by omega)
  simpa [val_plain.f] using this
theorem val_Check_ev (kind n : Int) (s : ByteArray) (hs : s.size ≤ maxLen) : Ev (fun k => val_Check.f k kind n s) (if valS kind n s then 0 else 1) := by
  unfold val_Check.f valS
  by_cases h1 : kind = 1
  · refine evPos h1 ?_
    rw [if_pos h1]
    by_cases h2 : n ≥ -4611686018427387904
    · refine evPos h2 ?_
      by_cases h3 : n ≤ 4611686018427387904
      · refine evPos h3 ?_
        rw [decide_eq_true ((InB_iff n).2 ⟨h2, h3⟩)]
        by_cases h4 : s = ⟨#[]⟩
        · exact evPos (tl_nil.2 h4) (evSome (by simp [h4]))
        · exact evNeg (fun e => h4 (tl_nil.1 e)) (evSome (by simp [h4]))
      · exact evNeg h3 (evSome (by rw [decide_eq_false (fun h => h3 ((InB_iff n).1 h).2)]; rfl))
    · exact evNeg h2 (evSome (by rw [decide_eq_false (fun h => h2 ((InB_iff n).1 h).1)]; rfl))
  · refine evNeg h1 ?_
    rw [if_neg h1]
    by_cases h2 : kind = 2
    · refine evPos h2 ?_
      rw [if_pos h2]
      by_cases h3 : n = 0
      · refine evPos h3 (Ev.bind (val_symbol_ev s hs) ?_)
        rw [decide_eq_true h3]
        cases wordS false s <;> exact evSome rfl
      · refine evNeg h3 (evSome ?_)
        rw [decide_eq_false h3]; rfl
    · refine evNeg h2 ?_
      rw [if_neg h2]
      by_cases h3 : kind = 3
      · refine evPos h3 ?_
        rw [if_pos h3]
        by_cases h4 : n = 0
        · refine evPos h4 (Ev.bind (val_plain_ev s hs) ?_)
          rw [decide_eq_true h4, Bool.true_and]
          cases ((bytesOf s).all plainI && decide (s.size ≤ 60)) <;> exact evSome rfl
        · refine evNeg h4 (evSome ?_)
          rw [decide_eq_false h4]; rfl
      · refine evNeg h3 (evSome ?_)
        rw [if_neg h3]; rfl
end Go.Proofs.Ytaopajmpifenoaa.P
end
section
namespace Go.Proofs.Ytaopajmpifenoaa.P
open Go.RowKit Go.Proofs.YtaopajmpifenoaaW.PrintWords Go.Proofs.YtaopajmpifenoaaW.PrintLast Go.Proofs.YtaopajmpifenoaaW.PrintMore
theorem ref_In_eq (a b c : Int) : constableref01_In.f a b c = some (decide (b ≤ a ∧ a ≤ c)) := by
  unfold constableref01_In.f
  split
  · congr 1; rw [decide_eq_decide]; omega
  · congr 1; symm; rw [decide_eq_false_iff_not]; omega
theorem abs_mul_abs (a b : Int) : (if a < -a then -a else a) * (if b < -b then -b else b) = if a * b < 0 then -(a * b) else a * b := by
  by_cases ha : a < -a <;> by_cases hb : b < -b <;> simp only [ha, hb, if_true, if_false]
  · have : 0 < a * b := Int.mul_pos_of_neg_of_neg (by omega) (by omega)
    rw [if_neg (by omega)]; exact Int.neg_mul_neg a b
  · have : a * b ≤ 0 := Int.mul_nonpos_of_nonpos_of_nonneg (by omega) (by omega)
    rw [Int.neg_mul]; split <;> omega
  · have : a * b ≤ 0 := Int.mul_nonpos_of_nonneg_of_nonpos (by omega) (by omega)
    rw [Int.mul_neg]; split <;> omega
  · have : 0 ≤ a * b := Int.mul_nonneg (by omega) (by omega)
    rw [if_neg (by omega)]
theorem ref_over {a b : Int} (ha : InB a) (hb : InB b) (hb0 : b ≠ 0) :
    (mx a (wrap64 (-a)) > wrap64 (Int.tdiv 4611686018427387904 (mx b (wrap64 (-b))))) ↔ ¬ InB (a * b) := by
  rw [InB_iff] at ha hb
  have e1 : wrap64 (-a) = -a := by unfold wrap64; omega
  have e2 : wrap64 (-b) = -b := by unfold wrap64; omega
  rw [e1, e2]
  have m1 : mx a (-a) = if a < -a then -a else a := rfl
  have m2 : mx b (-b) = if b < -b then -b else b := rfl
  have hm := abs_mul_abs a b
  rw [← m1, ← m2] at hm
  have p1 : 0 ≤ mx a (-a) := by rw [m1]; split <;> omega
  have p2 : 0 < mx b (-b) := by rw [m2]; split <;> omega
  generalize mx a (-a) = x at *
  generalize mx b (-b) = y at *
  rw [Int.tdiv_eq_ediv_of_nonneg (by decide)]
  have h1 : 4611686018427387904 / y ≤ 4611686018427387904 := Int.ediv_le_self _ (by decide)
  have h2 : 0 ≤ 4611686018427387904 / y := Int.ediv_nonneg (by decide) (by omega)
  have e3 : wrap64 (4611686018427387904 / y) = 4611686018427387904 / y := by unfold wrap64; omega
  rw [e3, InB_iff]
  have h3 : 4611686018427387904 / y < x ↔ 4611686018427387904 < x * y := Int.ediv_lt_iff_lt_mul p2
  rw [gt_iff_lt, h3, hm]
  split <;> omega
theorem ref_Do_eq (kind a b : Int) (k : Nat) : constableref01_Do.f (k + 5) kind a b = some (doS kind a b) := by
  unfold constableref01_Do.f doS
  simp only [constableref01_Do.j0, constableref01_Do.j1, constableref01_Do.j2, constableref01_Do.j3, constableref01_Do.j4, ref_In_eq, Option.bind_some]
  have i1 : decide (-4611686018427387904 ≤ a ∧ a ≤ 4611686018427387904) = decide (InB a) := rfl
  have i2 : decide (-4611686018427387904 ≤ b ∧ b ≤ 4611686018427387904) = decide (InB b) := rfl
  rw [i1, i2]
  by_cases ha : InB a
  · by_cases hb : InB b
    · simp only [ha, hb, decide_true, if_true, Bool.not_true, Bool.false_eq_true, if_false, and_self]
      have add : ∀ c : Int, InB c → (if c > 0 then (if a > (wrap64 (4611686018427387904 - c)) then (if true = true then some (0, 4) else some (wrap64 (a + c), 0)) else (if c < 0 then (if decide (a < (wrap64 ((-4611686018427387904) - c))) = true then some (0, 4) else some (wrap64 (a + c), 0)) else (some (wrap64 (a + c), 0)))) else (if c < 0 then (if decide (a < (wrap64 ((-4611686018427387904) - c))) = true then some (0, 4) else some (wrap64 (a + c), 0)) else (some (wrap64 (a + c), 0)))) = some (if InB (a + c) then (a + c, (0 : Int)) else (0, 4)) := by
        intro c hc
        have ha' := (InB_iff a).1 ha
        rw [InB_iff] at hc
        unfold wrap64
        by_cases p : c > 0
        · rw [if_pos p]
          split
          · rw [if_pos rfl, if_neg (by rw [InB_iff]; omega)]
          · rw [if_neg (by omega), if_pos (by rw [InB_iff]; omega)]; congr 2; omega
        · rw [if_neg p]
          split
          · simp only [decide_eq_true_eq]
            split
            · rw [if_neg (by rw [InB_iff]; omega)]
            · rw [if_pos (by rw [InB_iff]; omega)]; congr 2; omega
          · rw [if_pos (by rw [InB_iff]; omega)]; congr 2; omega
      have hn : wrap64 (-b) = -b := by rw [InB_iff] at hb; unfold wrap64; omega
      have a1 := add b hb
      have a2 := add (-b) (by rw [InB_iff] at *; omega)
      rw [hn]
      simp only [if_true] at a1 a2
      by_cases h3 : kind = 3
      · subst h3
        simp only [if_true, true_or]
        simp only [show ((3 : Int) = 4) = False by simp, if_false, beq_self_eq_true, if_true]
        exact a1
      · by_cases h4 : kind = 4
        · subst h4
          simp only [show ((4 : Int) = 3) = False by simp, if_false, true_or, or_true, if_true, beq_self_eq_true, Int.sub_eq_add_neg]
          exact a2
        · by_cases h5 : kind = 5
          · subst h5
            simp only [show ((5 : Int) = 3) = False by simp, show ((5 : Int) = 4) = False by simp, if_false, or_true, if_true]
            simp only [show ((5 : Int) == 3) = false by rfl, show ((5 : Int) != 5) = false by rfl, Bool.false_eq_true, if_false]
            by_cases a0 : a = 0
            · subst a0; simp [wrap64, InB_iff]
            · by_cases b0 : b = 0
              · subst b0; simp [wrap64, InB_iff]
              · have ro := ref_over ha hb b0
                rw [hn] at ro
                rw [if_neg a0, if_neg b0, if_neg]
                · by_cases ho : InB (a * b)
                  · rw [if_neg (by rw [ro]; exact not_not_intro ho), if_pos ho]
                    rw [InB_iff] at ho
                    congr 2
                    unfold wrap64; omega
                  · rw [if_pos (by rw [ro]; exact ho), if_neg ho]
                · have : mx b (-b) = if b < -b then -b else b := rfl
                  rw [this]; split <;> omega
          · simp [h3, h4, h5]
    · simp only [ha, hb, decide_true, decide_false, if_true, Bool.not_false, and_false, if_false]
      by_cases h3 : kind = 3
      · simp [h3]
      · by_cases h4 : kind = 4
        · simp [h4]
        · by_cases h5 : kind = 5 <;> simp [h3, h4, h5]
  · simp only [ha, decide_false, Bool.false_eq_true, if_false, if_true, false_and]
    by_cases h3 : kind = 3
    · simp [h3]
    · by_cases h4 : kind = 4
      · simp [h4]
      · by_cases h5 : kind = 5 <;> simp [h3, h4, h5]
theorem ref_Do_ev (kind a b : Int) : Ev (fun k => constableref01_Do.f k kind a b) (doS kind a b) := Ev.of (constableref01_Do.mono _ _ _) (ref_Do_eq kind a b 0)
end Go.Proofs.Ytaopajmpifenoaa.P
end
section
namespace Go.Proofs.Ytaopajmpifenoaa.P
open Go.RowKit Go.Proofs.YtaopajmpifenoaaW.PrintWords Go.Proofs.YtaopajmpifenoaaW.PrintLast Go.Proofs.YtaopajmpifenoaaW.PrintMore
theorem ref_Lower_eq (c : Int) : constableref01_Lower.f c = some (smallI c) := by
  unfold constableref01_Lower.f smallI
  split
  · congr 1; rw [decide_eq_decide]; omega
  · congr 1; symm; rw [decide_eq_false_iff_not]; omega
theorem ref_Upper_eq (c : Int) : constableref01_Upper.f c = some (largeI c) := by
  unfold constableref01_Upper.f largeI
  split
  · congr 1; rw [decide_eq_decide]; omega
  · congr 1; symm; rw [decide_eq_false_iff_not]; omega
theorem ref_Digit_eq (c : Int) : constableref01_Digit.f c = some (digitI c) := by
  unfold constableref01_Digit.f digitI
  split
  · congr 1; rw [decide_eq_decide]; omega
  · congr 1; symm; rw [decide_eq_false_iff_not]; omega
theorem ref_inner_eq (c : Int) : constableref01_inner.f c = some (innerI c) := by
  unfold constableref01_inner.f innerI
  simp only [ref_Lower_eq, ref_Upper_eq, ref_Digit_eq, Option.bind_some]
  cases smallI c <;> cases largeI c <;> cases digitI c <;> simp
theorem ref_Word_l0 (s : ByteArray) (hs : s.size ≤ maxLen) : ∀ i : Nat, i ≤ s.size → Ev (fun k => constableref01_Word.l0 k s i) (((bytesOf s).drop i).all innerI) := by
  unfold maxLen at hs
  refine back_ind s.size (fun k i => constableref01_Word.l0 k s i) _ ?_ ?_
  · refine evShift ?_
    simp only [constableref01_Word.l0]
    refine evNeg (by omega) (evSome (by rw [drop_end]; rfl))
  · intro i hi ih
    refine evShift ?_
    simp only [constableref01_Word.l0, ref_inner_eq, Option.bind_some]
    refine evPos (by omega) (evPos (by omega) ?_)
    rw [all_drop hi, wrap_succ hi (by omega)]
    by_cases h1 : innerI (bt s i) = true
    · rw [h1]; simpa using ih
    · simp [h1]; exact evSome rfl
theorem not_both (c : Int) : largeI c = true → smallI c = false := by
  unfold largeI smallI
  intro h
  rw [decide_eq_true_eq] at h
  exact decide_eq_false (by omega)
theorem ref_Word_ev (s : ByteArray) (large : Bool) (hs : s.size ≤ maxLen) : Ev (fun k => constableref01_Word.f k s large) (wordS large s) := by
  have hl := ref_Word_l0 s hs 0 (by omega)
  simp only [List.drop_zero, Int.natCast_zero] at hl
  have hj : Ev (fun k => constableref01_Word.j0 k s true) false := by
    refine evShift ?_
    simp only [constableref01_Word.j0, if_true]
    exact evSome rfl
  have hj2 : Ev (fun k => constableref01_Word.j0 k s false) ((bytesOf s).all innerI) := by
    refine evShift ?_
    simp only [constableref01_Word.j0, Bool.false_eq_true, if_false]
    exact hl
  unfold constableref01_Word.f wordS
  simp only [ref_In_eq, ref_Upper_eq, ref_Lower_eq, Option.bind_some]
  by_cases h1 : 1 ≤ s.size ∧ s.size ≤ 24
  · have hd : decide (1 ≤ s.size ∧ s.size ≤ 24) = true := decide_eq_true h1
    have hd' : decide ((1 : Int) ≤ s.size ∧ (s.size : Int) ≤ 24) = true := decide_eq_true (by omega)
    rw [hd, hd']
    refine evPos rfl (evPos (by omega) ?_)
    have hb := not_both (bt s 0)
    cases large <;> cases h2 : largeI (bt s 0) <;> simp [h2] at hb ⊢
    · cases h3 : smallI (bt s 0)
      · simp; exact hj
      · simp; exact hj2
    · rw [hb]; simp; exact hj
    · exact hj
    · exact hj2
  · have hd : decide (1 ≤ s.size ∧ s.size ≤ 24) = false := decide_eq_false h1
    have hd' : decide ((1 : Int) ≤ s.size ∧ (s.size : Int) ≤ 24) = false := decide_eq_false (by omega)
    rw [hd, hd']
    exact evNeg (by decide) hj
theorem ref_Value_l0 (a b : Int) (s : ByteArray) (hs : s.size ≤ maxLen) : ∀ i : Nat, i ≤ s.size → Ev (fun k => constableref01_Value.l0 k i a b s) (((bytesOf s).drop i).all plainI) := by
  unfold maxLen at hs
  refine back_ind s.size (fun k i => constableref01_Value.l0 k i a b s) _ ?_ ?_
  · refine evShift ?_
    simp only [constableref01_Value.l0]
    refine evNeg (by omega) (evSome (by rw [drop_end]; rfl))
  · intro i hi ih
    refine evShift ?_
    simp only [constableref01_Value.l0, ref_In_eq, Option.bind_some]
    refine evPos (by omega) (evPos (by omega) ?_)
    rw [all_drop hi, wrap_succ hi (by omega)]
    have hr := bt_range s i
    have hw : wrap64 (bt s i) = bt s i := by unfold wrap64; omega
    rw [hw]
    have e : decide (32 ≤ bt s i ∧ bt s i ≤ 126) = plainI (bt s i) := rfl
    rw [e]
    by_cases h1 : plainI (bt s i) = true
    · rw [h1]; simpa using ih
    · simp [h1]; exact evSome rfl
theorem ref_Value_ev (kind n : Int) (s : ByteArray) (hs : s.size ≤ maxLen) : Ev (fun k => constableref01_Value.f k kind n s) (valS kind n s) := by
  unfold constableref01_Value.f valS
  by_cases h1 : kind = 1
  · refine evPos h1 ?_
    rw [if_pos h1]
    simp only [ref_In_eq, Option.bind_some]
    have i1 : decide (-4611686018427387904 ≤ n ∧ n ≤ 4611686018427387904) = decide (InB n) := rfl
    rw [i1]
    by_cases h2 : InB n
    · rw [decide_eq_true h2]
      refine evPos rfl (evSome ?_)
      rw [Bool.eq_iff_iff]
      simp [← size_zero]
    · rw [decide_eq_false h2]
      exact evNeg (by decide) (evSome rfl)
  · refine evNeg h1 ?_
    rw [if_neg h1]
    by_cases h2 : kind = 2
    · refine evPos h2 ?_
      rw [if_pos h2]
      by_cases h3 : n = 0
      · refine evPos h3 (Ev.bind (ref_Word_ev s false hs) (evSome ?_))
        rw [decide_eq_true h3]; simp
      · refine evNeg h3 (evSome ?_)
        rw [decide_eq_false h3]; rfl
    · refine evNeg h2 ?_
      rw [if_neg h2]
      by_cases h3 : kind = 3
      · refine evPos h3 ?_
        rw [if_pos h3]
        by_cases h4 : n = 0
        · refine evPos h4 (evShift ?_)
          rw [decide_eq_true h4]
          simp only [constableref01_Value.j0]
          by_cases h5 : (s.size : Int) > 60
          · refine evPos (decide_eq_true h5) (evSome ?_)
            have : decide (s.size ≤ 60) = false := decide_eq_false (by omega)
            rw [this]; simp
          · refine evNeg (by rw [decide_eq_false h5]; decide) ?_
            have : decide (s.size ≤ 60) = true := decide_eq_true (by omega)
            rw [this]
            have := ref_Value_l0 kind n s hs 0 (by omega)
            simpa using this
        · refine evNeg h4 (evShift ?_)
          simp only [constableref01_Value.j0, if_true]
          refine evSome ?_
          rw [decide_eq_false h4]; rfl
      · refine evNeg h3 (evSome ?_)
        rw [if_neg h3]
end Go.Proofs.Ytaopajmpifenoaa.P
end
section
namespace Go.Proofs.Ytaopajmpifenoaa.P
open Go.RowKit Go.Proofs.YtaopajmpifenoaaW.PrintWords Go.Proofs.YtaopajmpifenoaaW.PrintLast Go.Proofs.YtaopajmpifenoaaW.PrintMore
theorem cb_zero : ∀ a b : List UInt8, Lib.compareBytes a b = 0 ↔ a = b
  | [], [] => by simp [Lib.compareBytes]
  | [], _ :: _ => by simp [Lib.compareBytes]
  | _ :: _, [] => by simp [Lib.compareBytes]
  | x :: a, y :: b => by
    have ih := cb_zero a b
    simp only [Lib.compareBytes, List.cons.injEq]
    by_cases h : x < y
    · rw [if_pos h]
      refine ⟨fun h => absurd h (by decide), fun e => ?_⟩
      rw [e.1] at h; exact absurd h (UInt8.lt_irrefl y)
    · rw [if_neg h]
      by_cases h2 : y < x
      · rw [if_pos h2]
        refine ⟨fun h => absurd h (by decide), fun e => ?_⟩
        rw [e.1] at h2; exact absurd h2 (UInt8.lt_irrefl y)
      · rw [if_neg h2, ih]
        have : x = y := by
          rw [UInt8.lt_iff_toNat_lt] at h h2
          exact UInt8.toNat_inj.1 (by omega)
        exact ⟨fun e => ⟨this, e⟩, fun e => e.2⟩
theorem cb_less_iff : ∀ a b : List UInt8, Op.bytesLess a b = true ↔ Lib.compareBytes a b < 0
  | [], [] => by simp [Op.bytesLess, Lib.compareBytes]
  | [], _ :: _ => by simp [Op.bytesLess, Lib.compareBytes]
  | _ :: _, [] => by simp [Op.bytesLess, Lib.compareBytes]
  | x :: a, y :: b => by
    have ih := cb_less_iff a b
    simp only [Op.bytesLess, Lib.compareBytes]
    by_cases h : x < y
    · rw [if_pos h, decide_eq_true h]; simp
    · rw [if_neg h, decide_eq_false h, Bool.false_or]
      by_cases h2 : y < x
      · rw [if_pos h2]
        have e : (x == y) = false := beq_eq_false_iff_ne.mpr (fun e => by rw [e] at h2; exact absurd h2 (UInt8.lt_irrefl y))
        rw [e]; simp
      · rw [if_neg h2]
        have : x = y := by
          rw [UInt8.lt_iff_toNat_lt] at h h2
          exact UInt8.toNat_inj.1 (by omega)
        subst this
        rw [beq_self_eq_true, Bool.true_and]; exact ih
theorem cb_less (a b : List UInt8) : Op.bytesLess a b = decide (Lib.compareBytes a b < 0) := by
  rw [Bool.eq_iff_iff, cb_less_iff, decide_eq_true_eq]
theorem cb_swap : ∀ a b : List UInt8, Lib.compareBytes b a = - Lib.compareBytes a b
  | [], [] => rfl
  | [], _ :: _ => rfl
  | _ :: _, [] => rfl
  | x :: a, y :: b => by
    have ih := cb_swap a b
    simp only [Lib.compareBytes]
    by_cases h : x < y
    · have h2 : ¬ y < x := by rw [UInt8.lt_iff_toNat_lt] at h ⊢; omega
      rw [if_neg h2, if_pos h, if_pos h]; rfl
    · by_cases h2 : y < x
      · rw [if_pos h2, if_neg h, if_pos h2]
      · rw [if_neg h2, if_neg h, if_neg h, if_neg h2]; exact ih
def cmpI (a b : Int) : Int := if a < b then -1 else if a > b then 1 else 0
def cmpB (s t : ByteArray) : Int := Lib.compareBytes s.data.toList t.data.toList
def cmpV (v w : S23) : Int := if cmpI v.f0 w.f0 = 0 then (if cmpI v.f1 w.f1 = 0 then cmpB v.f2 w.f2 else cmpI v.f1 w.f1) else cmpI v.f0 w.f0
theorem cmpI_zero (a b : Int) : cmpI a b = 0 ↔ a = b := by unfold cmpI; split <;> (try split) <;> omega
theorem cmpI_swap (a b : Int) : cmpI b a = - cmpI a b := by unfold cmpI; split <;> (try split) <;> (try split) <;> (try split) <;> omega
theorem cmpB_zero (s t : ByteArray) : cmpB s t = 0 ↔ s = t := by
  unfold cmpB
  rw [cb_zero]
  exact ⟨fun h => ByteArray.ext (Array.toList_inj.1 h), fun h => by rw [h]⟩
theorem cmpV_zero (v w : S23) : cmpV v w = 0 ↔ v = w := by
  obtain ⟨a, b, c⟩ := v
  obtain ⟨x, y, z⟩ := w
  have h1 := cmpI_zero a x
  have h2 := cmpI_zero b y
  have h3 := cmpB_zero c z
  unfold cmpV
  simp only [S23.mk.injEq]
  by_cases e1 : cmpI a x = 0
  · rw [if_pos e1]
    by_cases e2 : cmpI b y = 0
    · rw [if_pos e2, h3]; exact ⟨fun h => ⟨h1.1 e1, h2.1 e2, h⟩, fun h => h.2.2⟩
    · rw [if_neg e2]; exact ⟨fun h => absurd h e2, fun h => absurd (h2.2 h.2.1) e2⟩
  · rw [if_neg e1]; exact ⟨fun h => absurd h e1, fun h => absurd (h1.2 h.1) e1⟩
theorem cmpV_swap (v w : S23) : cmpV w v = - cmpV v w := by
  unfold cmpV cmpB
  rw [cmpI_swap v.f0 w.f0, cmpI_swap v.f1 w.f1, cb_swap v.f2.data.toList w.f2.data.toList]
  split <;> split <;> (try split) <;> (try split) <;> omega
theorem cmp_Compare_eq (a b : Int) : cmp_Compare_int.f a b = some (cmpI a b) := by
  simp only [cmp_Compare_int.f, cmp_isNaN_int.f, Option.bind_some, bne_self_eq_false, Bool.false_eq_true, if_false, cmpI]
  split
  · rfl
  · split <;> rfl
theorem cmp_Or_ev (x y z : Int) : Ev (fun k => cmp_Or_int.f k [x, y, z]) (if x = 0 then (if y = 0 then z else y) else x) := by
  have l3 : (([x, y, z] : List Int).length : Int) = 3 := rfl
  have r0 : rd [x, y, z] 0 = x := rfl
  have r1 : rd [x, y, z] 1 = y := rfl
  have r2 : rd [x, y, z] 2 = z := rfl
  have w0 : wrap64 (0 + 1) = 1 := by unfold wrap64; omega
  have w1 : wrap64 (1 + 1) = 2 := by unfold wrap64; omega
  have w2 : wrap64 (2 + 1) = 3 := by unfold wrap64; omega
  unfold cmp_Or_int.f
  rw [l3]
  refine evShift ?_
  simp only [cmp_Or_int.l0, l3, r0, w0]
  refine evPos (by decide) (evPos (by decide) (evPos (by decide) (evIf (fun h => ?_) (fun h => evSome (by rw [if_neg h])))))
  rw [if_pos h]
  refine evShift ?_
  simp only [cmp_Or_int.l0, l3, r1, w1]
  refine evPos (by decide) (evPos (by decide) (evPos (by decide) (evIf (fun h => ?_) (fun h => evSome (by rw [if_neg h])))))
  rw [if_pos h]
  refine evShift ?_
  simp only [cmp_Or_int.l0, l3, r2, w2]
  refine evPos (by decide) (evPos (by decide) (evPos (by decide) (evIf (fun h => ?_) (fun h => evSome rfl))))
  refine evShift ?_
  simp only [cmp_Or_int.l0]
  exact evNeg (by decide) (evSome h.symm)
theorem val_Compare_ev (v w : S23) : Ev (fun k => val_Compare.f k v.f0 v.f1 v.f2 w.f0 w.f1 w.f2) (cmpV v w) := by
  unfold val_Compare.f
  simp only [cmp_Compare_eq, strings_Compare.f, Option.bind_some]
  exact Ev.bind (cmp_Or_ev _ _ _) (evSome rfl)
theorem guard_right_eq (a : Int) : guard_right.f a = some (decide (1 ≤ a ∧ a ≤ 4)) := by
  unfold guard_right.f
  by_cases h : a ≥ 1
  · rw [if_pos h]; congr 1; rw [Bool.eq_iff_iff]; simp; omega
  · rw [if_neg h]; congr 1; rw [Bool.eq_iff_iff]; simp; omega
def holdsS (how : Int) (v w : S23) : Bool × Int :=
  if (decide (1 ≤ how ∧ how ≤ 4) && (valS v.f0 v.f1 v.f2 && valS w.f0 w.f1 w.f2)) = true then
    (if (how = 3 ∨ how = 4) ∧ v.f0 ≠ w.f0 then (false, 3) else (if how = 1 then cmpV v w == 0 else if how = 2 then cmpV v w != 0 else if how = 3 then decide (cmpV v w < 0) else decide (cmpV v w ≤ 0), 0))
  else (false, 1)
theorem guard_Holds_ev (how : Int) (v w : S23) (hv : v.f2.size ≤ maxLen) (hw : w.f2.size ≤ maxLen) : Ev (fun k => guard_Holds.f k how v.f0 v.f1 v.f2 w.f0 w.f1 w.f2) (holdsS how v w) := by
  unfold guard_Holds.f
  rw [guard_right_eq]
  simp only [Option.bind_some]
  have bad : holdsS how v w = (false, 1) → Ev (fun k => guard_Holds.j0 k how true v.f0 v.f1 v.f2 w.f0 w.f1 w.f2) (holdsS how v w) := by
    intro h
    rw [h]
    refine evShift ?_
    simp only [guard_Holds.j0, if_true]
    exact evSome rfl
  refine evCond (fun h1 => Ev.bind (val_Check_ev _ _ _ hv) ?_) (fun h1 => bad (by unfold holdsS; rw [h1]; rfl))
  cases h2 : valS v.f0 v.f1 v.f2 with
  | false => exact evNeg (by decide) (bad (by unfold holdsS; rw [h2, Bool.false_and, Bool.and_false]; rfl))
  | true =>
    refine evPos rfl (Ev.bind (val_Check_ev _ _ _ hw) ?_)
    cases h3 : valS w.f0 w.f1 w.f2 with
    | false => exact bad (by unfold holdsS; rw [h3, Bool.and_false, Bool.and_false]; rfl)
    | true =>
      have hh : holdsS how v w = (if (how = 3 ∨ how = 4) ∧ v.f0 ≠ w.f0 then (false, 3) else (if how = 1 then cmpV v w == 0 else if how = 2 then cmpV v w != 0 else if how = 3 then decide (cmpV v w < 0) else decide (cmpV v w ≤ 0), 0)) := by
        unfold holdsS; rw [h1, h2, h3]; rfl
      rw [hh]
      have j1 : Ev (fun k => guard_Holds.j1 k how v.f0 v.f1 v.f2 w.f0 w.f1 w.f2) (if how = 1 then cmpV v w == 0 else if how = 2 then cmpV v w != 0 else if how = 3 then decide (cmpV v w < 0) else decide (cmpV v w ≤ 0), 0) := by
        refine evShift ?_
        simp only [guard_Holds.j1]
        refine Ev.bind (val_Compare_ev v w) ?_
        refine evIf (fun h => evSome (by rw [if_pos h])) (fun h => ?_)
        rw [if_neg h]
        refine evIf (fun h => evSome (by rw [if_pos h])) (fun h => ?_)
        rw [if_neg h]
        refine evIf (fun h => evSome (by rw [if_pos h])) (fun h => evSome (by rw [if_neg h]))
      show Ev (fun k => guard_Holds.j0 k how false v.f0 v.f1 v.f2 w.f0 w.f1 w.f2) _
      refine evShift ?_
      simp only [guard_Holds.j0, Bool.false_eq_true, if_false]
      by_cases e : v.f0 = w.f0
      · rw [if_neg (fun h => h.2 e)]
        exact evIf (fun _ => evPos e j1) (fun _ => evIf (fun _ => evPos e j1) (fun _ => j1))
      · refine evIf (fun h => ?_) (fun h => evIf (fun h4 => ?_) (fun h4 => ?_))
        · rw [if_pos ⟨.inl h, e⟩]; exact evNeg e (evSome rfl)
        · rw [if_pos ⟨.inr h4, e⟩]; exact evNeg e (evSome rfl)
        · rw [if_neg (fun hx => by rcases hx.1 with hx | hx <;> contradiction)]; exact j1
end Go.Proofs.Ytaopajmpifenoaa.P
end
section
namespace Go.Proofs.Ytaopajmpifenoaa.P
open Go.RowKit Go.Proofs.YtaopajmpifenoaaW.PrintWords Go.Proofs.YtaopajmpifenoaaW.PrintLast Go.Proofs.YtaopajmpifenoaaW.PrintMore
theorem drop_at {α : Type} (l : List α) (i : Nat) (h : i < l.length) : l.drop i = l[i] :: l.drop (i + 1) := List.drop_eq_getElem_cons h
theorem rdV_nth (l : List S23) (i : Nat) (h : i < l.length) : rd_T23 l i = l[i] := by simp [rd_T23, List.getD_eq_getElem?_getD, h]
theorem rdO_nth (l : List S67) (i : Nat) (h : i < l.length) : rd_T67 l i = l[i] := by simp [rd_T67, List.getD_eq_getElem?_getD, h]
theorem rdB_nth (l : List S54) (i : Nat) (h : i < l.length) : rd_T54 l i = l[i] := by simp [rd_T54, List.getD_eq_getElem?_getD, h]
def pushS (o : S67) : Bool := decide (o.f0 = 1 ∨ o.f0 = 2)
def zeroS (v : S23) : Bool := decide (v.f0 = 0) && (decide (v.f1 = 0) && decide (v.f2 = ⟨#[]⟩))
def opS (o : S67) : Bool :=
  if o.f0 = 1 then wordS true o.f1 && zeroS o.f2
  else if o.f0 = 2 then decide (o.f1 = ⟨#[]⟩) && valS o.f2.f0 o.f2.f1 o.f2.f2
  else decide (o.f0 = 3 ∨ o.f0 = 4 ∨ o.f0 = 5) && (decide (o.f1 = ⟨#[]⟩) && zeroS o.f2)
def deepS : Int → List S67 → Option Int
  | d, [] => some d
  | d, o :: l => if opS o && (pushS o || decide (2 ≤ d)) then deepS (if pushS o then d + 1 else d - 1) l else none
def exprS (l : List S67) : Bool := decide (1 ≤ l.length ∧ l.length ≤ 15) && decide (deepS 0 l = some 1)
def bindS (x : S54) : Bool := wordS true x.f0 && valS x.f1.f0 x.f1.f1 x.f1.f2
def risingS : List S54 → Bool
  | [] => true
  | [x] => bindS x
  | x :: y :: l => bindS x && (Op.bytesLess x.f0.toList y.f0.toList && risingS (y :: l))
def bindsS (l : List S54) : Bool := decide (l.length ≤ 100) && risingS l
def getS (l : List S54) (s : ByteArray) : Option S23 := (l.find? fun x => decide (x.f0 = s)).map (·.f1)
def zV : S23 := ⟨0, 0, ⟨#[]⟩⟩
def tupV (v : S23) (e : Int) : Int × Int × ByteArray × Int := (v.f0, v.f1, v.f2, e)
def pushV (b : List S54) (o : S67) : S23 × Int := if o.f0 = 2 then (o.f2, 0) else match getS b o.f1 with | some v => (v, 0) | none => (zV, 5)
def reckV (kind : Int) (x y : S23) : S23 × Int :=
  if x.f0 = 1 ∧ y.f0 = 1 then (if (doS kind x.f1 y.f1).2 = 0 then (⟨1, (doS kind x.f1 y.f1).1, ⟨#[]⟩⟩, 0) else (zV, (doS kind x.f1 y.f1).2)) else (zV, 3)
def evalS (b : List S54) : List S23 → List S67 → S23 × Int
  | st, [] => (st.getLastD zV, 0)
  | st, o :: l =>
    if pushS o then (if (pushV b o).2 = 0 then evalS b ((pushV b o).1 :: st) l else (zV, (pushV b o).2))
    else match st with
      | y :: x :: st => if (reckV o.f0 x y).2 = 0 then evalS b ((reckV o.f0 x y).1 :: st) l else (zV, (reckV o.f0 x y).2)
      | _ => (zV, 0)
def evalE (l : List S67) (b : List S54) : S23 × Int := if exprS l && bindsS b then evalS b [] l else (zV, 1)
def varsS (out : List ByteArray) : List S67 → List ByteArray
  | [] => out
  | o :: l => if (decide (o.f1 = ⟨#[]⟩) || out.any fun x => decide (x = o.f1)) then varsS out l else varsS (out ++ [o.f1]) l
def partS : Int → List S67 → Int
  | _, [] => -1
  | need, o :: r => if (if pushS o then need - 1 else need + 1) = 0 then (r.length : Int) else partS (if pushS o then need - 1 else need + 1) r
def partE (l : List S67) (e : Int) : Int := if exprS l = true ∧ 0 ≤ e ∧ e < l.length then partS 1 (l.take (e.toNat + 1)).reverse else -1
theorem expr_pushes_eq (o : S67) : expr_pushes.f o.f0 = some (pushS o) := by
  unfold expr_pushes.f pushS
  split
  · rw [decide_eq_true (by omega)]
  · congr 1; rw [Bool.eq_iff_iff]; simp; omega
theorem zero_beq (v : S23) : (v.f0 == 0 && (v.f1 == 0 && (v.f2.toList == ([] : List UInt8)))) = zeroS v := by
  unfold zeroS; rw [tl_beq_nil]; rfl
theorem expr_right_ev (o : S67) (h1 : o.f1.size ≤ maxLen) (h2 : o.f2.f2.size ≤ maxLen) : Ev (fun k => expr_right.f k o.f0 o.f1 o.f2.f0 o.f2.f1 o.f2.f2) (opS o) := by
  unfold expr_right.f opS
  by_cases k1 : o.f0 = 1
  · refine evPos k1 (Ev.bind (subst_Var_ev _ h1) ?_)
    rw [if_pos k1, zero_beq]
    cases wordS true o.f1 <;> exact evSome (by simp)
  · refine evNeg k1 ?_
    rw [if_neg k1]
    by_cases k2 : o.f0 = 2
    · refine evPos k2 ?_
      rw [if_pos k2]
      by_cases k3 : o.f1 = ⟨#[]⟩
      · refine evPos (tl_nil.2 k3) (Ev.bind (val_Check_ev _ _ _ h2) (evSome ?_))
        rw [decide_eq_true k3]
        cases valS o.f2.f0 o.f2.f1 o.f2.f2 <;> simp
      · refine evNeg (fun e => k3 (tl_nil.1 e)) (evSome ?_)
        rw [decide_eq_false k3]; rfl
    · refine evNeg k2 ?_
      rw [if_neg k2]
      have fin : Ev (fun _ => if o.f1.toList = ([] : List UInt8) then some (o.f2.f0 == 0 && (o.f2.f1 == 0 && (o.f2.f2.toList == ([] : List UInt8)))) else some false) (decide (o.f1 = ⟨#[]⟩) && zeroS o.f2) := by
        by_cases k3 : o.f1 = ⟨#[]⟩
        · refine evPos (tl_nil.2 k3) (evSome ?_)
          rw [decide_eq_true k3, zero_beq]; simp
        · refine evNeg (fun e => k3 (tl_nil.1 e)) (evSome ?_)
          rw [decide_eq_false k3]; rfl
      by_cases k3 : o.f0 = 3
      · rw [decide_eq_true (by omega), Bool.true_and]; exact evPos k3 fin
      · refine evNeg k3 ?_
        by_cases k4 : o.f0 = 4
        · rw [decide_eq_true (by omega), Bool.true_and]; exact evPos k4 fin
        · refine evNeg k4 ?_
          by_cases k5 : o.f0 = 5
          · rw [decide_eq_true (by omega), Bool.true_and]; exact evPos k5 fin
          · refine evNeg k5 (evSome ?_)
            rw [decide_eq_false (by omega)]; rfl
def OpsOk (l : List S67) : Prop := ∀ o ∈ l, o.f1.size ≤ maxLen ∧ o.f2.f2.size ≤ maxLen
def BindsOk (l : List S54) : Prop := ∀ x ∈ l, x.f0.size ≤ maxLen ∧ x.f1.f2.size ≤ maxLen
theorem expr_Check_l0 (l : List S67) (ho : OpsOk l) (hl : l.length ≤ 1000000) : ∀ (d : Nat) (i : Nat) (n : Int), i + d = l.length → 0 ≤ n → n ≤ i →
    Ev (fun k => expr_Check.l0 k n l l.length i) (if deepS n (l.drop i) = some 1 then 0 else 1) := by
  intro d
  induction d with
  | zero =>
    intro i n hi h0 h1
    refine evShift ?_
    simp only [expr_Check.l0]
    refine evNeg (by omega) ?_
    rw [List.drop_of_length_le (by omega)]
    simp only [deepS, Option.some.injEq]
    by_cases h : n = 1
    · exact evPos h (evSome (by rw [if_pos h]))
    · exact evNeg h (evSome (by rw [if_neg h]))
  | succ d ih =>
    intro i n hi h0 h1
    have hlt : i < l.length := by omega
    obtain ⟨b1, b2⟩ := ho l[i] (List.getElem_mem hlt)
    refine evShift ?_
    simp only [expr_Check.l0]
    refine evPos (by omega) (evPos (by omega) (evPos (by omega) ?_))
    simp only [rdO_nth l i hlt]
    rw [drop_at l i hlt]
    simp only [deepS]
    refine Ev.bind (expr_right_ev _ b1 b2) ?_
    have j2 : ∀ (x : Bool) (m : Int), m = (if pushS l[i] then n + 1 else n - 1) → (x = false → 0 ≤ m) → Ev (fun k => expr_Check.j2 k n l l.length i x l[i].f0 l[i].f1 l[i].f2.f0 l[i].f2.f1 l[i].f2.f2) (if x = false ∧ deepS m (l.drop (i + 1)) = some 1 then 0 else 1) := by
      intro x m hm hx
      refine evShift ?_
      simp only [expr_Check.j2]
      cases x with
      | true => exact evPos rfl (evSome (by simp))
      | false =>
        refine evNeg (by decide) ?_
        rw [expr_pushes_eq]
        simp only [Option.bind_some]
        have hx := hx rfl
        rw [wrap_succ hlt (by omega)]
        cases hp : pushS l[i] with
        | true =>
          rw [hp] at hm
          simp only [if_true] at hm
          refine evPos rfl ?_
          have e : wrap64 (n + 1) = m := by unfold wrap64; omega
          rw [e]
          simpa using ih (i + 1) m (by omega) hx (by omega)
        | false =>
          rw [hp] at hm
          simp only [Bool.false_eq_true, if_false] at hm
          refine evNeg (by decide) ?_
          have e : wrap64 (n - 1) = m := by unfold wrap64; omega
          rw [e]
          simpa using ih (i + 1) m (by omega) hx (by omega)
    refine evCond (fun hr => ?_) (fun hr => ?_)
    · rw [expr_pushes_eq]
      simp only [Option.bind_some, hr, Bool.true_and]
      refine evCond (fun hp => ?_) (fun hp => ?_)
      · have := j2 false (n + 1) (by rw [hp]; rfl) (fun _ => by omega)
        simpa [hp] using this
      · by_cases h2 : n < 2
        · have := j2 true _ rfl (by simp)
          rw [decide_eq_true h2]
          have h3 : ¬ (2 ≤ n) := by omega
          simpa [h3, hp] using this
        · have := j2 false (n - 1) (by rw [hp]; rfl) (fun _ => by omega)
          rw [decide_eq_false h2]
          have h3 : 2 ≤ n := by omega
          simpa [h3, hp] using this
    · have := j2 true _ rfl (by simp)
      simpa [hr] using this
theorem expr_Check_ev (l : List S67) (ho : OpsOk l) (hl : l.length ≤ maxLen) : Ev (fun k => expr_Check.f k l) (if exprS l then 0 else 1) := by
  unfold maxLen at hl
  have hj : Ev (fun k => expr_Check.j0 k l true) 1 := by
    refine evShift ?_
    simp only [expr_Check.j0, if_true]
    exact evSome rfl
  unfold expr_Check.f exprS
  by_cases h1 : (l.length : Int) < 1
  · refine evPos h1 ?_
    have hd : decide (1 ≤ l.length ∧ l.length ≤ 15) = false := decide_eq_false (by omega)
    rw [hd]; exact hj
  · refine evNeg h1 ?_
    by_cases h2 : (l.length : Int) > 15
    · have hd : decide (1 ≤ l.length ∧ l.length ≤ 15) = false := decide_eq_false (by omega)
      rw [hd, decide_eq_true h2]; exact hj
    · have hd : decide (1 ≤ l.length ∧ l.length ≤ 15) = true := decide_eq_true (by omega)
      rw [hd, decide_eq_false h2]
      refine evShift ?_
      simp only [expr_Check.j0, Bool.false_eq_true, if_false]
      have := expr_Check_l0 l ho (by omega) l.length 0 0 (by omega) (by omega) (by omega)
      simpa using this
theorem subst_right_ev (x : S54) (h1 : x.f0.size ≤ maxLen) (h2 : x.f1.f2.size ≤ maxLen) : Ev (fun k => subst_right.f k x.f0 x.f1.f0 x.f1.f1 x.f1.f2) (bindS x) := by
  unfold subst_right.f bindS
  refine Ev.bind (subst_Var_ev _ h1) ?_
  cases wordS true x.f0 with
  | false => exact evNeg (by decide) (evSome rfl)
  | true =>
    refine evPos rfl (Ev.bind (val_Check_ev _ _ _ h2) (evSome ?_))
    cases valS x.f1.f0 x.f1.f1 x.f1.f2 <;> simp
def restS : Option ByteArray → List S54 → Bool
  | _, [] => true
  | none, x :: l => bindS x && restS (some x.f0) l
  | some s, x :: l => bindS x && (Op.bytesLess s.toList x.f0.toList && restS (some x.f0) l)
theorem rest_rising : ∀ (l : List S54), (restS none l = risingS l) ∧ ∀ x, (bindS x && restS (some x.f0) l) = risingS (x :: l)
  | [] => ⟨rfl, fun x => by simp [restS, risingS]⟩
  | y :: l => by
    obtain ⟨_, h2⟩ := rest_rising l
    refine ⟨by simp only [restS]; exact h2 y, fun x => ?_⟩
    simp only [restS, risingS]
    rw [← h2 y]
    cases bindS x <;> cases bindS y <;> simp
theorem subst_Check_l0 (l : List S54) (ho : BindsOk l) (hl : l.length ≤ 1000000) : ∀ (d : Nat) (i : Nat), i + d = l.length →
    Ev (fun k => subst_Check.l0 k l l l.length i) (if restS (if h : 0 < i ∧ i - 1 < l.length then some (l[i - 1]'h.2).f0 else none) (l.drop i) then 0 else 1) := by
  intro d
  induction d with
  | zero =>
    intro i hi
    refine evShift ?_
    simp only [subst_Check.l0]
    refine evNeg (by omega) (evSome ?_)
    rw [List.drop_of_length_le (by omega)]
    simp [restS]
  | succ d ih =>
    intro i hi
    have hlt : i < l.length := by omega
    obtain ⟨b1, b2⟩ := ho l[i] (List.getElem_mem hlt)
    refine evShift ?_
    simp only [subst_Check.l0]
    refine evPos (by omega) (evPos (by omega) (evPos (by omega) ?_))
    simp only [rdB_nth l i hlt]
    rw [drop_at l i hlt]
    refine Ev.bind (subst_right_ev _ b1 b2) ?_
    have hn := ih (i + 1) (by omega)
    rw [dif_pos (by omega)] at hn
    simp only [Nat.add_sub_cancel] at hn
    rw [wrap_succ hlt (by omega)]
    by_cases h0 : 0 < i
    · rw [dif_pos ⟨h0, by omega⟩]
      simp only [restS]
      refine evCond (fun hb => ?_) (fun hb => evSome (by simp [hb]))
      refine evPos (by omega) ?_
      have e : wrap64 ((i : Int) - 1) = ((i - 1 : Nat) : Int) := by unfold wrap64; omega
      rw [e]
      refine evPos (by omega) (evPos (by omega) ?_)
      rw [rdB_nth l (i - 1) (by omega)]
      refine evCond (fun hc => ?_) (fun hc => evSome (by simp [hc]))
      simpa [hb, hc] using hn
    · rw [dif_neg (by omega)]
      simp only [restS]
      refine evCond (fun hb => ?_) (fun hb => evSome (by simp [hb]))
      refine evNeg (by omega) ?_
      simpa [hb] using hn
theorem subst_Check_ev (l : List S54) (ho : BindsOk l) : Ev (fun k => subst_Check.f k l) (if bindsS l then 0 else 1) := by
  unfold subst_Check.f bindsS
  by_cases h : (l.length : Int) > 100
  · refine evPos h (evSome ?_)
    rw [decide_eq_false (by omega)]; rfl
  · refine evNeg h ?_
    rw [decide_eq_true (by omega)]
    have := subst_Check_l0 l ho (by omega) l.length 0 (by omega)
    rw [dif_neg (by omega)] at this
    simpa [(rest_rising l).1] using this
theorem getS_cons (x : S54) (l : List S54) (s : ByteArray) : getS (x :: l) s = if x.f0 = s then some x.f1 else getS l s := by
  unfold getS
  rw [List.find?_cons]
  by_cases e : x.f0 = s
  · rw [if_pos e, decide_eq_true e]; rfl
  · rw [if_neg e, decide_eq_false e]
theorem subst_Get_ev (l : List S54) (s : ByteArray) (hl : l.length ≤ maxLen) : Ev (fun k => subst_Get.f k l s) (match getS l s with | some v => (v.f0, v.f1, v.f2, true) | none => (0, 0, ⟨#[]⟩, false)) := by
  unfold maxLen at hl
  have h : ∀ i : Nat, i ≤ l.length → Ev (fun k => subst_Get.l0 k s l l.length i) (match getS (l.drop i) s with | some v => (v.f0, v.f1, v.f2, true) | none => (0, 0, ⟨#[]⟩, false)) := by
    refine back_ind l.length (fun k i => subst_Get.l0 k s l l.length i) _ ?_ ?_
    · refine evShift ?_
      simp only [subst_Get.l0]
      refine evNeg (by omega) (evSome ?_)
      rw [List.drop_length]; rfl
    · intro i hi ih
      refine evShift ?_
      simp only [subst_Get.l0]
      refine evPos (by omega) (evPos (by omega) (evPos (by omega) ?_))
      rw [rdB_nth l i hi, drop_at l i hi, wrap_succ hi (by omega)]
      by_cases e : l[i].f0 = s
      · refine evPos (by rw [e]) (evSome ?_)
        rw [getS_cons, if_pos e]
      · refine evNeg (fun h => e (tl_inj.1 h)) ?_
        rw [getS_cons, if_neg e]; exact ih
  have := h 0 (by omega)
  simpa [subst_Get.f] using this
theorem expr_push_ev (o : S67) (b : List S54) (hl : b.length ≤ maxLen) : Ev (fun k => expr_push.f k o.f0 o.f1 o.f2.f0 o.f2.f1 o.f2.f2 b) (tupV (pushV b o).1 (pushV b o).2) := by
  unfold expr_push.f pushV
  by_cases h : o.f0 = 2
  · refine evPos h (evSome ?_)
    rw [if_pos h]; rfl
  · refine evNeg h (Ev.bind (subst_Get_ev b o.f1 hl) ?_)
    rw [if_neg h]
    cases getS b o.f1 with
    | some v => exact evPos rfl (evSome rfl)
    | none => exact evNeg (by decide) (evSome rfl)
theorem expr_reckon_ev (kind : Int) (x y : S23) : Ev (fun k => expr_reckon.f k kind x.f0 x.f1 x.f2 y.f0 y.f1 y.f2) (tupV (reckV kind x y).1 (reckV kind x y).2) := by
  unfold expr_reckon.f reckV
  have hj : Ev (fun k => expr_reckon.j0 k kind true x.f0 x.f1 x.f2 y.f0 y.f1 y.f2) (tupV zV 3) := by
    refine evShift ?_
    simp only [expr_reckon.j0, if_true]
    exact evSome rfl
  by_cases h1 : x.f0 = 1
  · refine evPos h1 ?_
    by_cases h2 : y.f0 = 1
    · rw [if_pos ⟨h1, h2⟩]
      refine evShift ?_
      simp only [expr_reckon.j0, h2, bne_self_eq_false, Bool.false_eq_true, if_false]
      refine Ev.bind (num_Do_ev _ _ _) ?_
      by_cases h3 : (doS kind x.f1 y.f1).2 = 0
      · exact evPos h3 (evSome (by rw [if_pos h3]; rfl))
      · exact evNeg h3 (evSome (by rw [if_neg h3]; rfl))
    · rw [if_neg (fun h => h2 h.2)]
      have : (y.f0 != 1) = true := by simpa using h2
      rw [this]; exact hj
  · rw [if_neg (fun h => h1 h.1)]
    exact evNeg h1 hj
end Go.Proofs.Ytaopajmpifenoaa.P
end
section
namespace Go.Proofs.Ytaopajmpifenoaa.P
open Go.RowKit Go.Proofs.YtaopajmpifenoaaW.PrintWords Go.Proofs.YtaopajmpifenoaaW.PrintLast Go.Proofs.YtaopajmpifenoaaW.PrintMore
theorem rdV_mid (p : List S23) (x : S23) (r : List S23) (i : Int) (h : i = p.length) : rd_T23 (p ++ x :: r) i = x := by
  subst h; simp [rd_T23, List.getD_eq_getElem?_getD]
theorem deep_push {n : Int} {o : S67} {l : List S67} {m : Int} (h : deepS n (o :: l) = some m) (hp : pushS o = true) : opS o = true ∧ deepS (n + 1) l = some m := by
  simp only [deepS, hp, Bool.true_or, Bool.and_true, if_true] at h
  by_cases ho : opS o = true
  · rw [if_pos ho] at h; exact ⟨ho, h⟩
  · rw [if_neg ho] at h; cases h
theorem deep_reck {n : Int} {o : S67} {l : List S67} {m : Int} (h : deepS n (o :: l) = some m) (hp : pushS o = false) : opS o = true ∧ 2 ≤ n ∧ deepS (n - 1) l = some m := by
  simp only [deepS, hp, Bool.false_or, Bool.false_eq_true, if_false] at h
  by_cases ho : (opS o && decide (2 ≤ n)) = true
  · rw [if_pos ho] at h
    simp only [Bool.and_eq_true, decide_eq_true_eq] at ho
    exact ⟨ho.1, ho.2, h⟩
  · rw [if_neg ho] at h; cases h
theorem expr_Eval_l0 (l : List S67) (b : List S54) (hl : l.length ≤ 1000000) (hb : b.length ≤ maxLen) : ∀ (d i : Nat) (st : List S23), i + d = l.length → st.length ≤ i → deepS st.length (l.drop i) = some 1 →
    Ev (fun k => expr_Eval.l0 k b st.reverse l l.length i) (tupV (evalS b st (l.drop i)).1 (evalS b st (l.drop i)).2) := by
  intro d
  induction d with
  | zero =>
    intro i st hi h1 hd
    rw [List.drop_of_length_le (by omega)] at hd ⊢
    simp only [deepS, Option.some.injEq] at hd
    match st, hd with
    | [v], _ =>
      refine evShift ?_
      simp only [expr_Eval.l0]
      exact evNeg (by omega) (evPos (by simp) (evSome rfl))
    | [], hd => simp at hd
    | _ :: _ :: _, hd => simp at hd; omega
  | succ d ih =>
    intro i st hi h1 hd
    have hlt : i < l.length := by omega
    rw [drop_at l i hlt] at hd ⊢
    refine evShift ?_
    simp only [expr_Eval.l0]
    refine evPos (by omega) (evPos (by omega) (evPos (by omega) ?_))
    simp only [rdO_nth l i hlt]
    rw [expr_pushes_eq, wrap_succ hlt (by omega)]
    simp only [Option.bind_some]
    refine evCond (fun hp => ?_) (fun hp => ?_)
    · obtain ⟨_, hd2⟩ := deep_push hd hp
      refine Ev.bind (expr_push_ev l[i] b hb) ?_
      simp only [evalS, hp, if_true]
      refine evIf (fun he => ?_) (fun he => ?_)
      · have he' : (pushV b l[i]).2 = 0 := he
        rw [if_pos he']
        refine evPos (by simp; omega) ?_
        have := ih (i + 1) ((pushV b l[i]).1 :: st) (by omega) (by simp; omega) (by simpa using hd2)
        rw [List.reverse_cons] at this
        exact this
      · have he' : ¬ (pushV b l[i]).2 = 0 := he
        rw [if_neg he']
        exact evSome rfl
    · obtain ⟨_, h2, hd2⟩ := deep_reck hd hp
      match st, h1, h2, hd2 with
      | [], _, h2, _ => simp at h2
      | [_], _, h2, _ => simp at h2
      | y :: x :: st, h1, h2, hd2 =>
        have e : (y :: x :: st).reverse = st.reverse ++ x :: y :: [] := by simp
        have e' : (y :: x :: st).reverse = (st.reverse ++ [x]) ++ y :: [] := by simp
        have w1 : wrap64 (((y :: x :: st).reverse.length : Int) - 2) = (st.reverse.length : Int) := by simp at h1 ⊢; unfold wrap64; omega
        have w2 : wrap64 ((st.reverse.length : Int) + 1) = ((st.reverse ++ [x]).length : Int) := by simp at h1 ⊢; unfold wrap64; omega
        rw [w1, w2]
        refine evPos (by omega) (evPos (by simp; omega) (evPos (by omega) (evPos (by simp) ?_)))
        rw [show rd_T23 (y :: x :: st).reverse (st.reverse.length : Int) = x from by rw [e]; exact rdV_mid _ _ _ _ rfl]
        rw [show rd_T23 (y :: x :: st).reverse ((st.reverse ++ [x]).length : Int) = y from by rw [e']; exact rdV_mid _ _ _ _ rfl]
        refine Ev.bind (expr_reckon_ev _ _ _) (evPos (by simp; omega) ?_)
        have ht : (y :: x :: st).reverse.take ((st.reverse.length : Int)).toNat = st.reverse := by rw [e, Int.toNat_natCast, List.take_left]
        rw [ht]
        refine evBind0 rfl ?_
        simp only [evalS, hp, Bool.false_eq_true, if_false]
        refine evIf (fun he => ?_) (fun he => ?_)
        · have he' : (reckV l[i].f0 x y).2 = 0 := he
          rw [if_pos he']
          simp only [List.length_cons] at h1 hd2
          refine evPos (by simp; omega) ?_
          have := ih (i + 1) ((reckV l[i].f0 x y).1 :: st) (by omega) (by simp; omega) (by
            rw [← hd2]; congr 1; simp only [List.length_cons]; omega)
          rw [List.reverse_cons] at this
          exact this
        · have he' : ¬ (reckV l[i].f0 x y).2 = 0 := he
          rw [if_neg he']
          exact evSome rfl
theorem expr_Eval_ev (l : List S67) (b : List S54) (ho : OpsOk l) (hl : l.length ≤ maxLen) (hbo : BindsOk b) (hb : b.length ≤ maxLen) :
    Ev (fun k => expr_Eval.f k l b) (tupV (evalE l b).1 (evalE l b).2) := by
  unfold expr_Eval.f evalE
  refine Ev.bind (expr_Check_ev l ho hl) ?_
  have hj : Ev (fun k => expr_Eval.j0 k l b 1) (tupV zV 1) := by
    refine evShift ?_
    simp only [expr_Eval.j0]
    exact evNeg (by decide) (evSome rfl)
  cases he : exprS l with
  | false => exact evNeg (by decide) hj
  | true =>
    refine evPos rfl (Ev.bind (subst_Check_ev b hbo) ?_)
    cases hb2 : bindsS b with
    | false => exact hj
    | true =>
      refine evShift ?_
      simp only [expr_Eval.j0, if_true, Bool.and_self]
      simp only [exprS, Bool.and_eq_true, decide_eq_true_eq] at he
      have := expr_Eval_l0 l b (by omega) hb l.length 0 [] (by omega) (by simp) (by simpa using he.2)
      simpa using this
def idxS (s : ByteArray) : Nat → List ByteArray → Int
  | _, [] => -1
  | i, x :: l => if x = s then (i : Int) else idxS s (i + 1) l
theorem idx_any (s : ByteArray) : ∀ (l : List ByteArray) (i : Nat), decide (idxS s i l ≥ 0) = l.any fun x => decide (x = s)
  | [], i => by simp [idxS]
  | x :: l, i => by
    by_cases e : x = s
    · simp [idxS, e]
    · simp only [idxS, if_neg e, List.any_cons, decide_eq_false e, Bool.false_or]
      exact idx_any s l (i + 1)
theorem rdS_nth (l : List ByteArray) (i : Nat) (h : i < l.length) : rdOf ByteArray.empty l i = l[i] := rdOf_nth _ l i h
theorem deep_append : ∀ (P R : List S67) (n : Int), deepS n (P ++ R) = (deepS n P).bind fun m => deepS m R
  | [], R, n => rfl
  | o :: P, R, n => by
    simp only [List.cons_append, deepS]
    split
    · exact deep_append P R _
    · rfl
theorem snoc_of {α : Type} (l : List α) (h : l ≠ []) : ∃ p x, l = p ++ [x] := ⟨l.dropLast, l.getLast h, (List.dropLast_concat_getLast h).symm⟩
theorem part_ok : ∀ (n : Nat) (P : List S67) (d need : Int), P.length = n → deepS 0 P = some d → 1 ≤ need → need ≤ d →
    ∃ Q R, P = Q ++ R ∧ R ≠ [] ∧ partS need P.reverse = Q.length ∧ deepS 0 Q = some (d - need) ∧ deepS 0 R = some need := by
  intro n
  induction n with
  | zero =>
    intro P d need hP hd h1 h2
    obtain rfl := List.eq_nil_of_length_eq_zero hP
    simp only [deepS, Option.some.injEq] at hd
    omega
  | succ n ih =>
    intro P d need hP hd h1 h2
    obtain ⟨P0, o, rfl⟩ := snoc_of P (by intro h; rw [h] at hP; simp at hP)
    have hP0 : P0.length = n := by simpa using hP
    rw [deep_append, Option.bind_eq_some_iff] at hd
    obtain ⟨m, hm, hd⟩ := hd
    rw [List.reverse_append]
    simp only [List.reverse_cons, List.reverse_nil, List.nil_append, List.cons_append, partS]
    cases hp : pushS o with
    | true =>
      obtain ⟨ho, hd⟩ := deep_push hd hp
      simp only [deepS, Option.some.injEq] at hd
      have one : deepS 0 [o] = some 1 := by simp [deepS, ho, hp]
      by_cases h0 : need - 1 = 0
      · refine ⟨P0, [o], rfl, by simp, ?_, ?_, ?_⟩
        · simp [h0]
        · rw [hm]; congr 1; omega
        · rw [one]; congr 1; omega
      · obtain ⟨Q, R, rfl, hR, hq, hQ, hRd⟩ := ih P0 m (need - 1) hP0 hm (by omega) (by omega)
        refine ⟨Q, R ++ [o], by simp, by simp, ?_, ?_, ?_⟩
        · simp only [if_true, h0, if_false]; exact hq
        · rw [hQ]; congr 1; omega
        · rw [deep_append, hRd]; simp [deepS, ho, hp]
    | false =>
      obtain ⟨ho, h3, hd⟩ := deep_reck hd hp
      simp only [deepS, Option.some.injEq] at hd
      obtain ⟨Q, R, rfl, hR, hq, hQ, hRd⟩ := ih P0 m (need + 1) hP0 hm (by omega) (by omega)
      refine ⟨Q, R ++ [o], by simp, by simp, ?_, ?_, ?_⟩
      · have h0 : ¬ need + 1 = 0 := by omega
        simp only [Bool.false_eq_true, if_false, h0]; exact hq
      · rw [hQ]; congr 1; omega
      · rw [deep_append, hRd]
        simp only [Option.bind_some, deepS, ho, hp, Bool.false_or, Bool.true_and, Bool.false_eq_true, if_false]
        rw [if_pos (by simp; omega)]; congr 1; omega
theorem deep_prefix : ∀ (P R : List S67) (n m : Int), deepS n (P ++ R) = some m → ∃ d, deepS n P = some d ∧ deepS d R = some m := by
  intro P R n m h
  rw [deep_append, Option.bind_eq_some_iff] at h
  exact h
theorem deep_pos : ∀ (P : List S67) (n d : Int), 0 ≤ n → deepS n P = some d → (P ≠ [] ∨ 1 ≤ n) → 1 ≤ d
  | [], n, d, _, h, hp => by
    simp only [deepS, Option.some.injEq] at h
    rcases hp with hp | hp
    · exact absurd rfl hp
    · omega
  | o :: P, n, d, h0, h, _ => by
    cases hp : pushS o with
    | true =>
      obtain ⟨_, h⟩ := deep_push h hp
      exact deep_pos P (n + 1) d (by omega) h (.inr (by omega))
    | false =>
      obtain ⟨_, h2, h⟩ := deep_reck h hp
      exact deep_pos P (n - 1) d (by omega) h (.inr (by omega))
theorem take_snoc (l : List S67) (i : Nat) (h : i < l.length) : (l.take (i + 1)).reverse = l[i] :: (l.take i).reverse := by
  rw [List.take_succ_eq_append_getElem h, List.reverse_append]; rfl
theorem part_in (l : List S67) (h : exprS l = true) (i : Nat) (hi : i < l.length) : ∃ Q R, l.take (i + 1) = Q ++ R ∧ R ≠ [] ∧ partS 1 (l.take (i + 1)).reverse = Q.length ∧ deepS 0 R = some 1 ∧ ∃ d, deepS 0 Q = some d ∧ deepS 0 (l.take (i + 1)) = some (d + 1) := by
  simp only [exprS, Bool.and_eq_true, decide_eq_true_eq] at h
  have hs : deepS 0 (l.take (i + 1) ++ l.drop (i + 1)) = some 1 := by rw [List.take_append_drop]; exact h.2
  obtain ⟨d, h1, _⟩ := deep_prefix _ _ _ _ hs
  have hd := deep_pos _ _ _ (by omega) h1 (.inl (by
    intro e
    have h9 : (l.take (i + 1)).length = 0 := by rw [e]; rfl
    rw [List.length_take] at h9
    omega))
  obtain ⟨Q, R, e, hR, hq, hQ, hRd⟩ := part_ok _ _ d 1 rfl h1 (by omega) hd
  exact ⟨Q, R, e, hR, hq, hRd, d - 1, hQ, by rw [h1]; congr 1; omega⟩
end Go.Proofs.Ytaopajmpifenoaa.P
end
section
namespace Go.Proofs.Ytaopajmpifenoaa.P
open Go.RowKit Go.Proofs.YtaopajmpifenoaaW.PrintWords Go.Proofs.YtaopajmpifenoaaW.PrintLast Go.Proofs.YtaopajmpifenoaaW.PrintMore
def condS (kind : Int) (name : ByteArray) (args : List S72) (how : Int) (x y : List S67) : Bool :=
  decide (kind = 3) && (decide (name = ⟨#[]⟩) && (decide (args.length = 0) && (decide (1 ≤ how ∧ how ≤ 4) && (exprS x && exprS y))))
theorem guard_Check_ev (kind : Int) (name : ByteArray) (args : List S72) (how : Int) (x y : List S67) (hx : OpsOk x) (lx : x.length ≤ maxLen) (hy : OpsOk y) (ly : y.length ≤ maxLen) :
    Ev (fun k => guard_Check.f k kind name args how x y) (if condS kind name args how x y then 0 else 1) := by
  unfold guard_Check.f condS
  by_cases h1 : kind = 3
  · refine evPos h1 ?_
    rw [decide_eq_true h1, Bool.true_and]
    by_cases h2 : name = ⟨#[]⟩
    · refine evPos (tl_nil.2 h2) ?_
      rw [decide_eq_true h2, Bool.true_and]
      by_cases h3 : args.length = 0
      · refine evNeg (by omega) ?_
        rw [decide_eq_true h3, Bool.true_and, guard_right_eq]
        simp only [Option.bind_some]
        refine evCond (fun h4 => ?_) (fun h4 => evSome (by rw [h4]; rfl))
        rw [h4, Bool.true_and]
        refine Ev.bind (expr_Check_ev x hx lx) ?_
        cases exprS x with
        | false => exact evNeg (by decide) (evSome rfl)
        | true =>
          refine evPos rfl (Ev.bind (expr_Check_ev y hy ly) ?_)
          cases exprS y with
          | false => exact evNeg (by decide) (evSome rfl)
          | true => exact evPos rfl (evSome rfl)
      · exact evPos (by omega) (evSome (by rw [decide_eq_false h3]; rfl))
    · exact evNeg (fun e => h2 (tl_nil.1 e)) (evSome (by rw [decide_eq_false h2]; rfl))
  · exact evNeg h1 (evSome (by rw [decide_eq_false h1]; rfl))
theorem getS_size {b : List S54} (hb : BindsOk b) {s : ByteArray} {v : S23} (h : getS b s = some v) : v.f2.size ≤ maxLen := by
  unfold getS at h
  obtain ⟨x, hx, rfl⟩ := Option.map_eq_some_iff.1 h
  exact (hb x (List.mem_of_find?_eq_some hx)).2
theorem zV_size : zV.f2.size ≤ maxLen := by unfold maxLen; exact Nat.zero_le _
theorem pushV_size {b : List S54} (hb : BindsOk b) {o : S67} (ho : o.f2.f2.size ≤ maxLen) : (pushV b o).1.f2.size ≤ maxLen := by
  unfold pushV
  split
  · exact ho
  · split
    · exact getS_size hb ‹_›
    · exact zV_size
theorem reckV_size (kind : Int) (x y : S23) : (reckV kind x y).1.f2.size ≤ maxLen := by
  unfold reckV
  split
  · split
    · unfold maxLen; exact Nat.zero_le _
    · exact zV_size
  · exact zV_size
theorem evalS_size {b : List S54} (hb : BindsOk b) : ∀ (l : List S67) (st : List S23), OpsOk l → (∀ v ∈ st, v.f2.size ≤ maxLen) → (evalS b st l).1.f2.size ≤ maxLen
  | [], st, _, hs => by
    simp only [evalS]
    cases h : st.getLast? with
    | none => rw [List.getLast?_eq_none_iff.1 h]; exact zV_size
    | some v =>
      rw [List.getLastD_eq_getLast?, h]
      exact hs v (List.mem_of_getLast? h)
  | o :: l, st, ho, hs => by
    have h1 := ho o (List.mem_cons_self ..)
    have h2 : OpsOk l := fun x hx => ho x (List.mem_cons_of_mem _ hx)
    unfold evalS
    split
    · split
      · refine evalS_size hb l _ h2 (fun v hv => ?_)
        rcases List.mem_cons.1 hv with rfl | hv
        · exact pushV_size hb h1.2
        · exact hs v hv
      · exact zV_size
    · split
      · split
        · refine evalS_size hb l _ h2 (fun v hv => ?_)
          rcases List.mem_cons.1 hv with rfl | hv
          · exact reckV_size _ _ _
          · exact hs v (List.mem_cons_of_mem _ (List.mem_cons_of_mem _ hv))
        · exact zV_size
      · exact zV_size
theorem evalE_size {b : List S54} (hb : BindsOk b) {l : List S67} (hl : OpsOk l) : (evalE l b).1.f2.size ≤ maxLen := by
  unfold evalE
  split
  · exact evalS_size hb l [] hl (fun v hv => by cases hv)
  · exact zV_size
def testS (how : Int) (x y : List S67) (b : List S54) : Bool × Int :=
  if (evalE x b).2 = 0 then (if (evalE y b).2 = 0 then holdsS how (evalE x b).1 (evalE y b).1 else (false, (evalE y b).2)) else (false, (evalE x b).2)
theorem guard_Eval_ev (kind : Int) (name : ByteArray) (args : List S72) (how : Int) (x y : List S67) (b : List S54) (hx : OpsOk x) (lx : x.length ≤ maxLen) (hy : OpsOk y) (ly : y.length ≤ maxLen) (hb : BindsOk b) (lb : b.length ≤ maxLen) :
    Ev (fun k => guard_Eval.f k kind name args how x y b) (if condS kind name args how x y then testS how x y b else (false, 1)) := by
  unfold guard_Eval.f
  refine Ev.bind (guard_Check_ev kind name args how x y hx lx hy ly) ?_
  cases condS kind name args how x y with
  | false => exact evNeg (by decide) (evSome rfl)
  | true =>
    refine evPos rfl (Ev.bind (expr_Eval_ev x b hx lx hb lb) ?_)
    simp only [if_true]
    unfold testS
    refine evIf (fun h1 => ?_) (fun h1 => evSome (by rw [if_neg (show ¬ (evalE x b).2 = 0 from h1)]; rfl))
    rw [if_pos (show (evalE x b).2 = 0 from h1)]
    refine Ev.bind (expr_Eval_ev y b hy ly hb lb) ?_
    refine evIf (fun h2 => ?_) (fun h2 => evSome (by rw [if_neg (show ¬ (evalE y b).2 = 0 from h2)]; rfl))
    rw [if_pos (show (evalE y b).2 = 0 from h2)]
    exact Ev.bind (guard_Holds_ev how (evalE x b).1 (evalE y b).1 (evalE_size hb hx) (evalE_size hb hy)) (evSome rfl)
end Go.Proofs.Ytaopajmpifenoaa.P
end
section
namespace Go.Proofs.Ytaopajmpifenoaa.P
open Go.RowKit Go.Proofs.YtaopajmpifenoaaW.PrintWords Go.Proofs.YtaopajmpifenoaaW.PrintLast Go.Proofs.YtaopajmpifenoaaW.PrintMore
def cmpS : List Int → List Int → Int
  | [], [] => 0
  | [], _ :: _ => -1
  | _ :: _, [] => 1
  | x :: a, y :: b => if x = y then cmpS a b else if x < y then -1 else 1
theorem ref_order_eq (a b : Int) : constableref01_order.f a b = some (if a < b then -1 else if a > b then 1 else 0) := by
  unfold constableref01_order.f
  split
  · rfl
  · split <;> rfl
theorem ref_Strings_ev (a b : ByteArray) (ha : a.size ≤ maxLen) (hb : b.size ≤ maxLen) : Ev (fun k => constableref01_Strings.f k a b) (cmpS (bytesOf a) (bytesOf b)) := by
  unfold maxLen at ha hb
  have h : ∀ (d i : Nat), i + d = a.size → i ≤ b.size → Ev (fun k => constableref01_Strings.l0 k a b i) (cmpS ((bytesOf a).drop i) ((bytesOf b).drop i)) := by
    intro d
    induction d with
    | zero =>
      intro i hi hib
      refine evShift ?_
      simp only [constableref01_Strings.l0]
      refine evNeg (by omega) (evShift ?_)
      simp only [constableref01_Strings.j1, Bool.false_eq_true, if_false, ref_order_eq, Option.bind_some]
      refine evSome ?_
      rw [List.drop_of_length_le (by rw [len_codes]; omega)]
      by_cases h2 : i < b.size
      · obtain ⟨y, hy, _⟩ := codes_split b i h2
        rw [hy]
        simp only [cmpS]
        rw [if_pos (by omega)]
      · rw [List.drop_of_length_le (by rw [len_codes]; omega)]
        simp only [cmpS]
        rw [if_neg (by omega), if_neg (by omega)]
    | succ d ih =>
      intro i hi hib
      have hlt : i < a.size := by omega
      obtain ⟨x, hx, ex⟩ := codes_split a i hlt
      refine evShift ?_
      simp only [constableref01_Strings.l0]
      refine evPos (by omega) (evShift ?_)
      simp only [constableref01_Strings.j1]
      by_cases h2 : i < b.size
      · obtain ⟨y, hy, ey⟩ := codes_split b i h2
        rw [hx, hy, ex, ey]
        simp only [cmpS]
        refine evPos (by rw [decide_eq_true_eq]; omega) (evPos (by omega) (evPos (by omega) (evPos (by omega) ?_)))
        have r1 := bt_range a i
        have r2 := bt_range b i
        have w1 : wrap64 x = x := by unfold wrap64; omega
        have w2 : wrap64 y = y := by unfold wrap64; omega
        rw [w1, w2]
        refine evIf (fun e => ?_) (fun e => ?_)
        · rw [if_pos e, wrap_succ hlt (by omega)]
          exact ih (i + 1) (by omega) (by omega)
        · rw [if_neg e]
          simp only [ref_order_eq, Option.bind_some]
          refine evSome ?_
          by_cases h3 : x < y
          · rw [if_pos h3, if_pos h3]
          · rw [if_neg h3, if_neg h3, if_pos (by omega)]
      · refine evNeg (by rw [decide_eq_true_eq]; omega) ?_
        simp only [ref_order_eq, Option.bind_some]
        refine evSome ?_
        rw [hx, List.drop_of_length_le (l := bytesOf b) (by rw [len_codes]; omega)]
        simp only [cmpS]
        rw [if_neg (by omega), if_pos (by omega)]
  have h0 := h a.size 0 (by omega) (by omega)
  simpa [constableref01_Strings.f] using h0
theorem less_cmp : ∀ a b : List UInt8, Op.bytesLess a b = decide (cmpS (a.map fun c => ((c.toNat : Nat) : Int)) (b.map fun c => ((c.toNat : Nat) : Int)) < 0)
  | [], [] => rfl
  | [], _ :: _ => rfl
  | _ :: _, [] => rfl
  | x :: a, y :: b => by
    simp only [Op.bytesLess, List.map_cons, cmpS]
    by_cases e : x = y
    · subst e
      simp only [if_true]
      rw [← less_cmp a b]; simp
    · have h1 : ¬ ((x.toNat : Nat) : Int) = ((y.toNat : Nat) : Int) := fun h => e (UInt8.toNat_inj.1 (by omega))
      have h2 : (x == y) = false := beq_eq_false_iff_ne.mpr e
      rw [if_neg h1, h2, Bool.false_and, Bool.or_false]
      by_cases h3 : x < y
      · have h4 : ((x.toNat : Nat) : Int) < ((y.toNat : Nat) : Int) := by have := UInt8.lt_iff_toNat_lt.1 h3; omega
        rw [if_pos h4, decide_eq_true h3]; rfl
      · have h4 : ¬ ((x.toNat : Nat) : Int) < ((y.toNat : Nat) : Int) := fun h => h3 (UInt8.lt_iff_toNat_lt.2 (by omega))
        rw [if_neg h4, decide_eq_false h3]; rfl
theorem less_codes (s t : ByteArray) : Op.bytesLess s.toList t.toList = decide (cmpS (bytesOf s) (bytesOf t) < 0) := by
  rw [tl_data, tl_data]; exact less_cmp _ _
end Go.Proofs.Ytaopajmpifenoaa.P
end
section
namespace Go.Proofs.Ytaopajmpifenoaa.P
open Go.RowKit Go.Proofs.YtaopajmpifenoaaW.PrintWords Go.Proofs.YtaopajmpifenoaaW.PrintLast Go.Proofs.YtaopajmpifenoaaW.PrintMore
theorem ref_zero (v : S23) : (!(v.f0 == 0) || (!(v.f1 == 0) || (!(v.f2.toList == ([] : List UInt8))))) = !zeroS v := by
  unfold zeroS
  rw [tl_beq_nil]
  by_cases h1 : v.f0 = 0 <;> by_cases h2 : v.f1 = 0 <;> by_cases h3 : v.f2 = ⟨#[]⟩ <;> simp [h1, h2, h3]
theorem size_pos_iff (s : ByteArray) : ((s.size : Int) > 0) ↔ ¬ s = ⟨#[]⟩ := by
  rw [← size_zero]; omega
theorem ref_Expr_l0 (l : List S67) (ho : OpsOk l) (hl : l.length ≤ 1000000) : ∀ (d i : Nat) (n : Int), i + d = l.length → 0 ≤ n → n ≤ i →
    Ev (fun k => constableref01_Expr.l0 k l n i) (decide (deepS n (l.drop i) = some 1)) := by
  intro d
  induction d with
  | zero =>
    intro i n hi h0 h1
    refine evShift ?_
    simp only [constableref01_Expr.l0]
    refine evNeg (by omega) (evSome ?_)
    rw [List.drop_of_length_le (by omega)]
    simp only [deepS, Option.some.injEq]
    rw [Bool.eq_iff_iff]; simp
  | succ d ih =>
    intro i n hi h0 h1
    have hlt : i < l.length := by omega
    obtain ⟨b1, b2⟩ := ho l[i] (List.getElem_mem hlt)
    have i1 := fun (m : Int) h0 h1 => ih (i + 1) m (by omega) h0 h1
    refine evShift ?_
    simp only [constableref01_Expr.l0]
    refine evPos (by omega) (evPos (by omega) ?_)
    simp only [rdO_nth l i hlt]
    rw [drop_at l i hlt, wrap_succ hlt (by omega)]
    have w1 : wrap64 (n + 1) = n + 1 := by unfold wrap64; omega
    rw [w1]
    simp only [deepS, ref_zero]
    refine evIf (fun k1 => ?_) (fun k1 => ?_)
    · have hp : pushS l[i] = true := decide_eq_true (.inl k1)
      have hop : opS l[i] = (wordS true l[i].f1 && zeroS l[i].f2) := by unfold opS; rw [if_pos k1]
      simp only [hp, hop, Bool.true_or, Bool.and_true, if_true]
      refine Ev.bind (ref_Word_ev _ true b1) (evCond (fun hw => ?_) (fun hw => evSome (by simp [hw])))
      refine evCond (fun hz => evSome ?_) (fun hz => ?_)
      · have : zeroS l[i].f2 = false := by simpa using hz
        simp [this]
      · have : zeroS l[i].f2 = true := by simpa using hz
        simp only [hw, this, Bool.and_self, if_true]
        exact i1 (n + 1) (by omega) (by omega)
    · refine evIf (fun k2 => ?_) (fun k2 => ?_)
      · have hp : pushS l[i] = true := decide_eq_true (.inr k2)
        have hop : opS l[i] = (decide (l[i].f1 = ⟨#[]⟩) && valS l[i].f2.f0 l[i].f2.f1 l[i].f2.f2) := by unfold opS; rw [if_neg k1, if_pos k2]
        simp only [hp, hop, Bool.true_or, Bool.and_true, if_true]
        refine evIf (fun hz => evSome ?_) (fun hz => ?_)
        · rw [size_pos_iff] at hz; simp [hz]
        · rw [size_pos_iff, Classical.not_not] at hz
          refine Ev.bind (ref_Value_ev _ _ _ b2) (evCond (fun hv => ?_) (fun hv => evSome (by simp [hv])))
          simp only [hz, hv, decide_true, Bool.and_self, if_true]
          exact i1 (n + 1) (by omega) (by omega)
      · have hp : pushS l[i] = false := decide_eq_false (by omega)
        have hop : opS l[i] = (decide (l[i].f0 = 3 ∨ l[i].f0 = 4 ∨ l[i].f0 = 5) && (decide (l[i].f1 = ⟨#[]⟩) && zeroS l[i].f2)) := by unfold opS; rw [if_neg k1, if_neg k2]
        have j1 : ∀ x : Bool, x = decide (l[i].f0 = 3 ∨ l[i].f0 = 4 ∨ l[i].f0 = 5) → Ev (fun k => constableref01_Expr.j1 k l n i x l[i].f0 l[i].f1 l[i].f2.f0 l[i].f2.f1 l[i].f2.f2)
            (decide ((if opS l[i] && (pushS l[i] || decide (2 ≤ n)) then deepS (if pushS l[i] then n + 1 else n - 1) (l.drop (i + 1)) else none) = some 1)) := by
          intro x hx
          refine evShift ?_
          simp only [constableref01_Expr.j1, ref_zero]
          rw [hop, ← hx, hp]
          simp only [Bool.false_or, Bool.false_eq_true, if_false]
          refine evCond (fun hx2 => ?_) (fun hx2 => evSome (by simp [hx2]))
          rw [hx2, wrap_succ hlt (by omega)]
          refine evIf (fun hz => evSome ?_) (fun hz => ?_)
          · rw [size_pos_iff] at hz; simp [hz]
          · rw [size_pos_iff, Classical.not_not] at hz
            refine evCond (fun hz2 => evSome ?_) (fun hz2 => ?_)
            · have : zeroS l[i].f2 = false := by simpa using hz2
              simp [this]
            · have hz3 : zeroS l[i].f2 = true := by simpa using hz2
              refine evIf (fun h2 => evSome ?_) (fun h2 => ?_)
              · have : ¬ (2 ≤ n) := by omega
                simp [this]
              · have h3 : 2 ≤ n := by omega
                have w2 : wrap64 (n - 1) = n - 1 := by unfold wrap64; omega
                rw [w2]
                simp only [hz, hz3, h3, decide_true, Bool.and_self, if_true]
                exact i1 (n - 1) (by omega) (by omega)
        refine evIf (fun k3 => ?_) (fun k3 => ?_)
        · exact j1 _ (by rw [k3]; rfl)
        · refine evIf (fun k4 => ?_) (fun k4 => ?_)
          · exact j1 _ (by rw [k4]; rfl)
          · exact j1 _ (by rw [Bool.eq_iff_iff]; simp [k3, k4])
theorem ref_Expr_ev (l : List S67) (ho : OpsOk l) : Ev (fun k => constableref01_Expr.f k l) (exprS l) := by
  unfold constableref01_Expr.f exprS
  simp only [ref_In_eq, Option.bind_some]
  refine evIf (fun h => ?_) (fun h => ?_)
  · rw [decide_eq_true_eq] at h
    rw [decide_eq_true (by omega), Bool.true_and]
    have := ref_Expr_l0 l ho (by omega) l.length 0 0 (by omega) (by omega) (by omega)
    simpa using this
  · rw [decide_eq_true_eq] at h
    refine evSome ?_
    rw [decide_eq_false (by omega), Bool.false_and]
theorem ref_Binds_l0 (l : List S54) (ho : BindsOk l) (hl : l.length ≤ 1000000) : ∀ (d : Nat) (i : Nat), i + d = l.length →
    Ev (fun k => constableref01_Binds.l0 k l i) (restS (if h : 0 < i ∧ i - 1 < l.length then some (l[i - 1]'h.2).f0 else none) (l.drop i)) := by
  intro d
  induction d with
  | zero =>
    intro i hi
    refine evShift ?_
    simp only [constableref01_Binds.l0]
    refine evNeg (by omega) (evSome ?_)
    rw [List.drop_of_length_le (by omega)]
    simp [restS]
  | succ d ih =>
    intro i hi
    have hlt : i < l.length := by omega
    obtain ⟨b1, b2⟩ := ho l[i] (List.getElem_mem hlt)
    refine evShift ?_
    simp only [constableref01_Binds.l0]
    refine evPos (by omega) (evPos (by omega) ?_)
    simp only [rdB_nth l i hlt]
    rw [drop_at l i hlt]
    have hn := ih (i + 1) (by omega)
    rw [dif_pos (by omega)] at hn
    simp only [Nat.add_sub_cancel] at hn
    rw [wrap_succ hlt (by omega)]
    have hb0 : bindS l[i] = (wordS true l[i].f0 && valS l[i].f1.f0 l[i].f1.f1 l[i].f1.f2) := rfl
    by_cases h0 : 0 < i
    · rw [dif_pos ⟨h0, by omega⟩]
      simp only [restS, hb0]
      refine Ev.bind (ref_Word_ev _ true b1) (evCond (fun h1 => ?_) (fun h1 => evSome (by simp [h1])))
      refine Ev.bind (ref_Value_ev _ _ _ b2) (evCond (fun h2 => ?_) (fun h2 => evSome (by simp [h2])))
      refine evPos (by omega) ?_
      have e : wrap64 ((i : Int) - 1) = ((i - 1 : Nat) : Int) := by unfold wrap64; omega
      rw [e]
      refine evPos (by omega) (evPos (by omega) ?_)
      rw [rdB_nth l (i - 1) (by omega)]
      refine Ev.bind (ref_Strings_ev _ _ (ho _ (List.getElem_mem _)).1 b1) ?_
      rw [less_codes]
      refine evIf (fun hc => evSome ?_) (fun hc => ?_)
      · rw [decide_eq_false (by omega)]; simp
      · rw [decide_eq_true (by omega)]
        simpa [h1, h2] using hn
    · rw [dif_neg (by omega)]
      simp only [restS, hb0]
      refine Ev.bind (ref_Word_ev _ true b1) (evCond (fun h1 => ?_) (fun h1 => evSome (by simp [h1])))
      refine Ev.bind (ref_Value_ev _ _ _ b2) (evCond (fun h2 => ?_) (fun h2 => evSome (by simp [h2])))
      refine evNeg (by omega) ?_
      simpa [h1, h2] using hn
theorem ref_Binds_ev (l : List S54) (ho : BindsOk l) : Ev (fun k => constableref01_Binds.f k l) (bindsS l) := by
  unfold constableref01_Binds.f bindsS
  refine evIf (fun h => evSome ?_) (fun h => ?_)
  · rw [decide_eq_false (by omega)]; rfl
  · rw [decide_eq_true (by omega)]
    have := ref_Binds_l0 l ho (by omega) l.length 0 (by omega)
    rw [dif_neg (by omega)] at this
    simpa [(rest_rising l).1] using this
theorem ref_Get_ev (l : List S54) (s : ByteArray) (hl : l.length ≤ maxLen) : Ev (fun k => constableref01_Get.f k l s) (match getS l s with | some v => (v.f0, v.f1, v.f2, true) | none => (0, 0, ⟨#[]⟩, false)) := by
  unfold maxLen at hl
  have h : ∀ i : Nat, i ≤ l.length → Ev (fun k => constableref01_Get.l0 k l s i) (match getS (l.drop i) s with | some v => (v.f0, v.f1, v.f2, true) | none => (0, 0, ⟨#[]⟩, false)) := by
    refine back_ind l.length (fun k i => constableref01_Get.l0 k l s i) _ ?_ ?_
    · refine evShift ?_
      simp only [constableref01_Get.l0]
      refine evNeg (by omega) (evSome ?_)
      rw [List.drop_length]; rfl
    · intro i hi ih
      refine evShift ?_
      simp only [constableref01_Get.l0]
      refine evPos (by omega) (evPos (by omega) ?_)
      rw [rdB_nth l i hi, drop_at l i hi, wrap_succ hi (by omega)]
      by_cases e : l[i].f0 = s
      · refine evPos (by rw [e]) (evSome ?_)
        rw [getS_cons, if_pos e]
      · refine evNeg (fun h => e (tl_inj.1 h)) ?_
        rw [getS_cons, if_neg e]; exact ih
  have := h 0 (by omega)
  simpa [constableref01_Get.f] using this
theorem ref_Eval_l0 (l : List S67) (b : List S54) (hl : l.length ≤ 1000000) (hb : b.length ≤ maxLen) : ∀ (d i : Nat) (st : List S23), i + d = l.length → st.length ≤ i → deepS st.length (l.drop i) = some 1 →
    Ev (fun k => constableref01_Eval.l0 k l b st.reverse i) (tupV (evalS b st (l.drop i)).1 (evalS b st (l.drop i)).2) := by
  intro d
  induction d with
  | zero =>
    intro i st hi h1 hd
    rw [List.drop_of_length_le (by omega)] at hd ⊢
    simp only [deepS, Option.some.injEq] at hd
    match st, hd with
    | [v], _ =>
      refine evShift ?_
      simp only [constableref01_Eval.l0]
      exact evNeg (by omega) (evPos (by simp) (evSome rfl))
    | [], hd => simp at hd
    | _ :: _ :: _, hd => simp at hd; omega
  | succ d ih =>
    intro i st hi h1 hd
    have hlt : i < l.length := by omega
    rw [drop_at l i hlt] at hd ⊢
    refine evShift ?_
    simp only [constableref01_Eval.l0]
    refine evPos (by omega) (evPos (by omega) ?_)
    simp only [rdO_nth l i hlt]
    rw [wrap_succ hlt (by omega)]
    have next : pushS l[i] = true → (pushV b l[i]).2 = 0 → Ev (fun k => constableref01_Eval.l0 k l b (st.reverse ++ [(pushV b l[i]).1]) ((i + 1 : Nat) : Int)) (tupV (evalS b st (l[i] :: l.drop (i + 1))).1 (evalS b st (l[i] :: l.drop (i + 1))).2) := by
      intro hp he
      obtain ⟨_, hd2⟩ := deep_push hd hp
      simp only [evalS, hp, if_true, he]
      have := ih (i + 1) ((pushV b l[i]).1 :: st) (by omega) (by simp; omega) (by simpa using hd2)
      rw [List.reverse_cons] at this
      exact this
    refine evIf (fun k1 => ?_) (fun k1 => ?_)
    · have hp : pushS l[i] = true := decide_eq_true (.inl k1)
      refine Ev.bind (ref_Get_ev b l[i].f1 hb) ?_
      cases hg : getS b l[i].f1 with
      | some v =>
        have hpv : pushV b l[i] = (v, 0) := by unfold pushV; rw [if_neg (by omega), hg]
        refine evPos rfl (evPos (by simp; omega) ?_)
        have := next hp (by rw [hpv])
        rw [hpv] at this
        exact this
      | none =>
        have hpv : pushV b l[i] = (zV, 5) := by unfold pushV; rw [if_neg (by omega), hg]
        refine evNeg (by decide) (evSome ?_)
        simp only [evalS, hp, if_true, hpv]
        rfl
    · refine evIf (fun k2 => ?_) (fun k2 => ?_)
      · have hp : pushS l[i] = true := decide_eq_true (.inr k2)
        have hpv : pushV b l[i] = (l[i].f2, 0) := by unfold pushV; rw [if_pos k2]
        refine evPos (by simp; omega) ?_
        have := next hp (by rw [hpv])
        rw [hpv] at this
        exact this
      · have hp : pushS l[i] = false := decide_eq_false (by omega)
        obtain ⟨_, h2, hd2⟩ := deep_reck hd hp
        match st, h1, h2, hd2 with
        | [], _, h2, _ => simp at h2
        | [_], _, h2, _ => simp at h2
        | y :: x :: st, h1, h2, hd2 =>
          have e : (y :: x :: st).reverse = st.reverse ++ x :: y :: [] := by simp
          have e' : (y :: x :: st).reverse = (st.reverse ++ [x]) ++ y :: [] := by simp
          have w1 : wrap64 (((y :: x :: st).reverse.length : Int) - 2) = (st.reverse.length : Int) := by simp at h1 ⊢; unfold wrap64; omega
          have w2 : wrap64 (((y :: x :: st).reverse.length : Int) - 1) = ((st.reverse ++ [x]).length : Int) := by simp at h1 ⊢; unfold wrap64; omega
          rw [w1, w2]
          refine evPos (by omega) (evPos (by simp; omega) (evPos (by omega) (evPos (by simp) ?_)))
          rw [show rd_T23 (y :: x :: st).reverse (st.reverse.length : Int) = x from by rw [e]; exact rdV_mid _ _ _ _ rfl]
          rw [show rd_T23 (y :: x :: st).reverse ((st.reverse ++ [x]).length : Int) = y from by rw [e']; exact rdV_mid _ _ _ _ rfl]
          have bad : reckV l[i].f0 x y = (zV, 3) → Ev (fun k => constableref01_Eval.j1 k l b (y :: x :: st).reverse i true x.f0 x.f1 x.f2 y.f0 y.f1 y.f2) (tupV (evalS b (y :: x :: st) (l[i] :: l.drop (i + 1))).1 (evalS b (y :: x :: st) (l[i] :: l.drop (i + 1))).2) := by
            intro hr
            refine evShift ?_
            simp only [constableref01_Eval.j1, if_true]
            refine evSome ?_
            simp only [evalS, hp, Bool.false_eq_true, if_false, hr]
            rfl
          refine evIf (fun x1 => ?_) (fun x1 => ?_)
          · by_cases y1 : y.f0 = 1
            · have hy : (y.f0 != 1) = false := by simpa using y1
              rw [hy]
              refine evShift ?_
              simp only [constableref01_Eval.j1, Bool.false_eq_true, if_false]
              refine evPos (by omega) (evPos (by omega) ?_)
              rw [rdO_nth l i hlt]
              refine Ev.bind (ref_Do_ev _ _ _) ?_
              have hr : reckV l[i].f0 x y = if (doS l[i].f0 x.f1 y.f1).2 = 0 then (⟨1, (doS l[i].f0 x.f1 y.f1).1, ⟨#[]⟩⟩, 0) else (zV, (doS l[i].f0 x.f1 y.f1).2) := by unfold reckV; rw [if_pos ⟨x1, y1⟩]
              refine evIf (fun he => ?_) (fun he => ?_)
              · rw [if_pos he] at hr
                simp only [evalS, hp, Bool.false_eq_true, if_false, hr, if_true]
                rw [w1]
                have ht : (y :: x :: st).reverse.take ((st.reverse.length : Int)).toNat = st.reverse := by rw [e, Int.toNat_natCast, List.take_left]
                refine evPos (by omega) (evPos (by simp; omega) ?_)
                rw [ht, wrap_succ hlt (by omega)]
                refine evBind0 rfl (evPos (by simp at h1 ⊢; omega) ?_)
                have := ih (i + 1) ((⟨1, (doS l[i].f0 x.f1 y.f1).1, ⟨#[]⟩⟩ : S23) :: st) (by omega) (by simp at h1 ⊢; omega) (by
                  rw [← hd2]; congr 1; simp only [List.length_cons]; omega)
                rw [List.reverse_cons] at this
                exact this
              · rw [if_neg he] at hr
                simp only [evalS, hp, Bool.false_eq_true, if_false, hr, if_neg he]
                exact evSome rfl
            · have hy : (y.f0 != 1) = true := by simpa using y1
              rw [hy]
              exact bad (by unfold reckV; rw [if_neg (fun h => y1 h.2)])
          · exact bad (by unfold reckV; rw [if_neg (fun h => x1 h.1)])
theorem ref_Eval_ev (l : List S67) (b : List S54) (hl : exprS l = true) (hb : b.length ≤ maxLen) :
    Ev (fun k => constableref01_Eval.f k l b) (tupV (evalS b [] l).1 (evalS b [] l).2) := by
  simp only [exprS, Bool.and_eq_true, decide_eq_true_eq] at hl
  have := ref_Eval_l0 l b (by omega) hb l.length 0 [] (by omega) (by simp) (by simpa using hl.2)
  simpa [constableref01_Eval.f] using this
theorem twinOps_eq (l : List S67) (h : l.length ≤ 1000000) : constablekeep_TwinOps.f l = some l := by
  unfold constablekeep_TwinOps.f
  rw [if_pos (by simp; omega)]; rfl
theorem keep_Ops_ev (a : List S67) (h : a.length ≤ 1000000) : Ev (fun k => constablekeep_Ops.f k a a) true := by
  have h1 : ∀ i : Nat, i ≤ a.length → Ev (fun k => constablekeep_Ops.l0 k a a i) true := by
    refine back_ind a.length (fun k i => constablekeep_Ops.l0 k a a i) (fun _ => true) ?_ ?_
    · refine evShift ?_
      simp only [constablekeep_Ops.l0]
      exact evNeg (by omega) (evSome rfl)
    · intro i hi ih
      refine evShift ?_
      simp only [constablekeep_Ops.l0]
      refine evPos (by omega) (evPos (by omega) (evPos (by omega) (evNeg (by simp) ?_)))
      rw [wrap_succ hi (by omega)]; exact ih
  exact evPos rfl (h1 0 (by omega))
theorem vars_len (l : List S67) : ∀ out : List ByteArray, (varsS out l).length ≤ out.length + l.length := by
  induction l with
  | nil => intro out; simp [varsS]
  | cons o l ih =>
    intro out
    simp only [varsS]
    split
    · have := ih out; simp; omega
    · have := ih (out ++ [o.f1]); simp at this ⊢; omega
theorem opS_kind {o : S67} (h : opS o = true) : (o.f0 ≥ 3 ↔ pushS o = false) := by
  unfold opS at h
  unfold pushS
  rw [decide_eq_false_iff_not]
  by_cases k1 : o.f0 = 1
  · omega
  · by_cases k2 : o.f0 = 2
    · omega
    · rw [if_neg k1, if_neg k2] at h
      simp only [Bool.and_eq_true, decide_eq_true_eq] at h
      omega
theorem deep_ops : ∀ (l : List S67) (n m : Int), deepS n l = some m → ∀ o ∈ l, opS o = true
  | [], _, _, _, o, ho => by simp at ho
  | x :: l, n, m, h, o, ho => by
    have hx : opS x = true ∧ ∃ n', deepS n' l = some m := by
      cases hp : pushS x with
      | true => obtain ⟨h1, h2⟩ := deep_push h hp; exact ⟨h1, _, h2⟩
      | false => obtain ⟨h1, _, h2⟩ := deep_reck h hp; exact ⟨h1, _, h2⟩
    rcases List.mem_cons.1 ho with rfl | ho
    · exact hx.1
    · obtain ⟨n', h2⟩ := hx.2
      exact deep_ops l n' m h2 o ho
def heavyO (l : List S67) : Bool := decide (l.length > 40) || l.any fun o => decide (o.f1.size > 200) || decide (o.f2.f2.size > 200)
def heavyB (l : List S54) : Bool := decide (l.length > 110) || l.any fun o => decide (o.f0.size > 200) || decide (o.f1.f2.size > 200)
theorem heavy07_ev (l : List S67) : Ev (fun k => constablelaw07_Heavy.f k l) (heavyO l) := by
  unfold constablelaw07_Heavy.f heavyO
  refine evIf (fun h => evSome ?_) (fun h => ?_)
  · rw [decide_eq_true (by omega)]; rfl
  · rw [decide_eq_false (by omega), Bool.false_or]
    have h1 : ∀ i : Nat, i ≤ l.length → Ev (fun k => constablelaw07_Heavy.l0 k l i) ((l.drop i).any fun o => decide (o.f1.size > 200) || decide (o.f2.f2.size > 200)) := by
      refine back_ind l.length (fun k i => constablelaw07_Heavy.l0 k l i) _ ?_ ?_
      · refine evShift ?_
        simp only [constablelaw07_Heavy.l0]
        refine evNeg (by omega) (evSome ?_)
        rw [List.drop_length]; rfl
      · intro i hi ih
        refine evShift ?_
        simp only [constablelaw07_Heavy.l0]
        refine evPos (by omega) (evPos (by omega) ?_)
        rw [rdO_nth l i hi, drop_at l i hi, wrap_succ hi (by omega)]
        simp only [List.any_cons]
        refine evIf (fun e => evSome ?_) (fun e => ?_)
        · rw [decide_eq_true (by omega)]; rfl
        · rw [decide_eq_false (by omega)]
          refine evIf (fun e => evSome ?_) (fun e => ?_)
          · rw [decide_eq_true (by omega)]; rfl
          · rw [decide_eq_false (by omega)]; exact ih
    have := h1 0 (by omega)
    simpa using this
theorem heavy05_ev (l : List S54) : Ev (fun k => constablelaw05_Heavy.f k l) (heavyB l) := by
  unfold constablelaw05_Heavy.f heavyB
  refine evIf (fun h => evSome ?_) (fun h => ?_)
  · rw [decide_eq_true (by omega)]; rfl
  · rw [decide_eq_false (by omega), Bool.false_or]
    have h1 : ∀ i : Nat, i ≤ l.length → Ev (fun k => constablelaw05_Heavy.l0 k l i) ((l.drop i).any fun o => decide (o.f0.size > 200) || decide (o.f1.f2.size > 200)) := by
      refine back_ind l.length (fun k i => constablelaw05_Heavy.l0 k l i) _ ?_ ?_
      · refine evShift ?_
        simp only [constablelaw05_Heavy.l0]
        refine evNeg (by omega) (evSome ?_)
        rw [List.drop_length]; rfl
      · intro i hi ih
        refine evShift ?_
        simp only [constablelaw05_Heavy.l0]
        refine evPos (by omega) (evPos (by omega) ?_)
        rw [rdB_nth l i hi, drop_at l i hi, wrap_succ hi (by omega)]
        simp only [List.any_cons]
        refine evIf (fun e => evSome ?_) (fun e => ?_)
        · rw [decide_eq_true (by omega)]; rfl
        · rw [decide_eq_false (by omega)]
          refine evIf (fun e => evSome ?_) (fun e => ?_)
          · rw [decide_eq_true (by omega)]; rfl
          · rw [decide_eq_false (by omega)]; exact ih
    have := h1 0 (by omega)
    simpa using this
theorem light_ops {l : List S67} (h : heavyO l = false) : l.length ≤ 40 ∧ OpsOk l := by
  unfold heavyO at h
  simp only [Bool.or_eq_false_iff, decide_eq_false_iff_not, List.any_eq_false, Bool.or_eq_true, decide_eq_true_eq, not_or] at h
  refine ⟨by omega, fun o ho => ?_⟩
  have := h.2 o ho
  unfold maxLen
  constructor <;> omega
theorem light_binds {l : List S54} (h : heavyB l = false) : l.length ≤ 110 ∧ BindsOk l := by
  unfold heavyB at h
  simp only [Bool.or_eq_false_iff, decide_eq_false_iff_not, List.any_eq_false, Bool.or_eq_true, decide_eq_true_eq, not_or] at h
  refine ⟨by omega, fun o ho => ?_⟩
  have := h.2 o ho
  unfold maxLen
  constructor <;> omega
end Go.Proofs.Ytaopajmpifenoaa.P
end
section
namespace Go.Proofs.Ytaopajmpifenoaa.P
open Go.RowKit Go.Proofs.YtaopajmpifenoaaW.PrintWords Go.Proofs.YtaopajmpifenoaaW.PrintLast Go.Proofs.YtaopajmpifenoaaW.PrintMore
def vI (a : Int) : S23 := ⟨1, a, ⟨#[]⟩⟩
def vY (s : ByteArray) : S23 := ⟨2, 0, s⟩
def vS (s : ByteArray) : S23 := ⟨3, 0, s⟩
theorem val_beq (v w : S23) : (v.f0 == w.f0 && (v.f1 == w.f1 && (v.f2.toList == w.f2.toList))) = (cmpV v w == 0) := by
  rw [Bool.eq_iff_iff, beq_iff_eq, cmpV_zero, tl_beq]
  cases v; cases w
  simp
theorem cmpB_nil : cmpB ⟨#[]⟩ ⟨#[]⟩ = 0 := (cmpB_zero _ _).2 rfl
theorem cmp_vI (a b : Int) : cmpV (vI a) (vI b) = cmpI a b := by
  show (if cmpI 1 1 = 0 then (if cmpI a b = 0 then cmpB ⟨#[]⟩ ⟨#[]⟩ else cmpI a b) else cmpI 1 1) = _
  rw [if_pos ((cmpI_zero 1 1).2 rfl), cmpB_nil]
  split
  · exact (‹cmpI a b = 0›).symm
  · rfl
def Tr (x y z : Int) : Prop := (x ≤ 0 → y ≤ 0 → z ≤ 0) ∧ (x < 0 → y ≤ 0 → z < 0) ∧ (x ≤ 0 → y < 0 → z < 0) ∧ (x = 0 → y = 0 → z = 0)
def lexI (a b : Int) : Int := if a = 0 then b else a
theorem Tr.lex {x y z a b c : Int} (h : Tr x y z) (k : Tr a b c) : Tr (lexI x a) (lexI y b) (lexI z c) := by
  unfold Tr lexI at *
  obtain ⟨h1, h2, h3, h4⟩ := h
  obtain ⟨k1, k2, k3, k4⟩ := k
  by_cases ex : x = 0
  · by_cases ey : y = 0
    · rw [if_pos ex, if_pos ey, if_pos (h4 ex ey)]; exact ⟨k1, k2, k3, k4⟩
    · rw [if_pos ex, if_neg ey]
      refine ⟨fun _ q => ?_, fun _ q => ?_, fun _ q => ?_, fun _ q => absurd q ey⟩ <;> (have := h3 (by omega) (by omega); rw [if_neg (by omega)]; omega)
  · by_cases ey : y = 0
    · rw [if_neg ex, if_pos ey]
      refine ⟨fun p _ => ?_, fun p _ => ?_, fun p _ => ?_, fun p _ => absurd p ex⟩ <;> (have := h2 (by omega) (by omega); rw [if_neg (by omega)]; omega)
    · rw [if_neg ex, if_neg ey]
      refine ⟨fun p q => ?_, fun p q => ?_, fun p q => ?_, fun p _ => absurd p ex⟩ <;> (have := h2 (by omega) (by omega); rw [if_neg (by omega)]; omega)
theorem cmpI_tr (a b c : Int) : Tr (cmpI a b) (cmpI b c) (cmpI a c) := by
  unfold Tr cmpI
  refine ⟨?_, ?_, ?_, ?_⟩ <;> (intro p q; repeat' split at p) <;> (repeat' split at q) <;> (repeat' split) <;> omega
theorem cb_cons (x y : UInt8) (a b : List UInt8) : Lib.compareBytes (x :: a) (y :: b) = lexI (cmpI (x.toNat : Int) (y.toNat : Int)) (Lib.compareBytes a b) := by
  simp only [Lib.compareBytes, UInt8.lt_iff_toNat_lt]
  by_cases h : x.toNat < y.toNat
  · have e : cmpI (x.toNat : Int) (y.toNat : Int) = -1 := by unfold cmpI; rw [if_pos (by omega)]
    rw [if_pos h, e]; rfl
  · rw [if_neg h]
    by_cases h2 : y.toNat < x.toNat
    · have e : cmpI (x.toNat : Int) (y.toNat : Int) = 1 := by unfold cmpI; rw [if_neg (by omega), if_pos (by omega)]
      rw [if_pos h2, e]; rfl
    · have e : cmpI (x.toNat : Int) (y.toNat : Int) = 0 := by unfold cmpI; rw [if_neg (by omega), if_neg (by omega)]
      rw [if_neg h2, e]; rfl
theorem cb_nn : Lib.compareBytes [] [] = 0 := rfl
theorem cb_nc (y : UInt8) (b : List UInt8) : Lib.compareBytes [] (y :: b) = -1 := rfl
theorem cb_cn (x : UInt8) (a : List UInt8) : Lib.compareBytes (x :: a) [] = 1 := rfl
theorem cb_tr : ∀ a b c : List UInt8, Tr (Lib.compareBytes a b) (Lib.compareBytes b c) (Lib.compareBytes a c)
  | [], [], [] => by unfold Tr; rw [cb_nn]; omega
  | [], [], _ :: _ => by unfold Tr; rw [cb_nn, cb_nc]; omega
  | [], _ :: _, [] => by unfold Tr; rw [cb_nn, cb_nc, cb_cn]; omega
  | [], _ :: _, _ :: _ => by unfold Tr; rw [cb_nc, cb_nc]; omega
  | _ :: _, [], [] => by unfold Tr; rw [cb_nn, cb_cn]; omega
  | _ :: _, [], _ :: _ => by unfold Tr; rw [cb_cn, cb_nc]; omega
  | _ :: _, _ :: _, [] => by unfold Tr; rw [cb_cn, cb_cn]; omega
  | x :: a, y :: b, z :: c => by
    rw [cb_cons, cb_cons, cb_cons]
    exact (cmpI_tr _ _ _).lex (cb_tr a b c)
theorem cmpV_lex (v w : S23) : cmpV v w = lexI (cmpI v.f0 w.f0) (lexI (cmpI v.f1 w.f1) (cmpB v.f2 w.f2)) := rfl
theorem cmpV_tr (u v w : S23) : Tr (cmpV u v) (cmpV v w) (cmpV u w) := by
  rw [cmpV_lex, cmpV_lex, cmpV_lex]
  exact (cmpI_tr _ _ _).lex ((cmpI_tr _ _ _).lex (cb_tr _ _ _))
theorem cmpI_bd (a b : Int) : -1 ≤ cmpI a b ∧ cmpI a b ≤ 1 := by unfold cmpI; split <;> (try split) <;> omega
theorem lexI_bd {a b : Int} (h : -1 ≤ a ∧ a ≤ 1) (k : -1 ≤ b ∧ b ≤ 1) : -1 ≤ lexI a b ∧ lexI a b ≤ 1 := by unfold lexI; split <;> assumption
theorem cb_bd : ∀ a b : List UInt8, -1 ≤ Lib.compareBytes a b ∧ Lib.compareBytes a b ≤ 1
  | [], [] => by rw [cb_nn]; omega
  | [], _ :: _ => by rw [cb_nc]; omega
  | _ :: _, [] => by rw [cb_cn]; omega
  | x :: a, y :: b => by rw [cb_cons]; exact lexI_bd (cmpI_bd _ _) (cb_bd a b)
theorem cmpV_bd (v w : S23) : -1 ≤ cmpV v w ∧ cmpV v w ≤ 1 := by
  rw [cmpV_lex]
  exact lexI_bd (cmpI_bd _ _) (lexI_bd (cmpI_bd _ _) (cb_bd _ _))
end Go.Proofs.Ytaopajmpifenoaa.P
end
section
namespace Go.Proofs.Ytaopajmpifenoaa.P
open Go.RowKit Go.Proofs.YtaopajmpifenoaaW.PrintWords Go.Proofs.YtaopajmpifenoaaW.PrintLast Go.Proofs.YtaopajmpifenoaaW.PrintMore
theorem cmpS_cb : ∀ a b : List UInt8, cmpS (a.map fun c => ((c.toNat : Nat) : Int)) (b.map fun c => ((c.toNat : Nat) : Int)) = Lib.compareBytes a b
  | [], [] => rfl
  | [], _ :: _ => rfl
  | _ :: _, [] => rfl
  | x :: a, y :: b => by
    rw [cb_cons, ← cmpS_cb a b]
    simp only [List.map_cons, cmpS, lexI]
    by_cases e : ((x.toNat : Nat) : Int) = ((y.toNat : Nat) : Int)
    · rw [if_pos e, if_pos ((cmpI_zero _ _).2 e)]
    · rw [if_neg e, if_neg (fun h => e ((cmpI_zero _ _).1 h))]
      unfold cmpI
      split
      · rfl
      · rw [if_pos (by omega)]
theorem ref_order_cmp (a b : Int) : constableref01_order.f a b = some (cmpI a b) := ref_order_eq a b
theorem ref_Values_ev (v w : S23) (hv : v.f2.size ≤ maxLen) (hw : w.f2.size ≤ maxLen) : Ev (fun k => constableref01_Values.f k v.f0 v.f1 v.f2 w.f0 w.f1 w.f2) (cmpV v w) := by
  unfold constableref01_Values.f cmpV
  simp only [ref_order_cmp, Option.bind_some]
  refine evIf (fun h1 => ?_) (fun h1 => evSome (by rw [if_neg h1]))
  rw [if_pos h1]
  refine evIf (fun h2 => ?_) (fun h2 => evSome (by rw [if_neg h2]))
  rw [if_pos h2]
  have := ref_Strings_ev v.f2 w.f2 hv hw
  have e : cmpS (bytesOf v.f2) (bytesOf w.f2) = cmpB v.f2 w.f2 := cmpS_cb _ _
  rw [e] at this
  exact Ev.bind this (evSome rfl)
end Go.Proofs.Ytaopajmpifenoaa.P
end
section
namespace Go.Proofs.Ytaopajmpifenoaa.P
open Go.RowKit Go.Proofs.YtaopajmpifenoaaW.PrintWords Go.Proofs.YtaopajmpifenoaaW.PrintLast Go.Proofs.YtaopajmpifenoaaW.PrintMore
theorem rdT_nth (l : List S72) (i : Nat) (h : i < l.length) : rd_T72 l i = l[i] := by simp [rd_T72, List.getD_eq_getElem?_getD, h]
def heavyT (t : S72) : Bool := decide (t.f0.size > 200) || decide (t.f1.f2.size > 200)
def heavyA (n : ByteArray) (l : List S72) : Bool := decide (n.size > 200) || (decide (l.length > 20) || l.any heavyT)
theorem heavy06_ev (n : ByteArray) (l : List S72) : Ev (fun k => constablelaw06_Heavy.f k n l) (heavyA n l) := by
  unfold constablelaw06_Heavy.f heavyA
  refine evIf (fun h => ?_) (fun h => ?_)
  · refine evShift ?_
    simp only [constablelaw06_Heavy.j0, if_true]
    exact evSome (by rw [decide_eq_true (by omega)]; rfl)
  · rw [decide_eq_false (show ¬ n.size > 200 by omega), Bool.false_or]
    refine evShift ?_
    simp only [constablelaw06_Heavy.j0]
    refine evIf (fun h1 => ?_) (fun h1 => ?_)
    · have h2 : (l.length : Int) > 20 := of_decide_eq_true h1
      exact evSome (by rw [decide_eq_true (by omega)]; rfl)
    · have h2 : ¬ (l.length : Int) > 20 := fun h => h1 (decide_eq_true h)
      rw [decide_eq_false (show ¬ l.length > 20 by omega), Bool.false_or]
      have h3 : ∀ i : Nat, i ≤ l.length → Ev (fun k => constablelaw06_Heavy.l0 k i n l) ((l.drop i).any heavyT) := by
        refine back_ind l.length (fun k i => constablelaw06_Heavy.l0 k i n l) (fun i => (l.drop i).any heavyT) ?_ ?_
        · refine evShift ?_
          simp only [constablelaw06_Heavy.l0]
          exact evNeg (by omega) (evSome (by rw [List.drop_length]; rfl))
        · intro i hi ih
          refine evShift ?_
          simp only [constablelaw06_Heavy.l0, rdT_nth l i hi]
          rw [wrap_succ hi (by omega), List.drop_eq_getElem_cons hi, List.any_cons]
          refine evPos (by omega) (evPos (by omega) (evIf (fun h4 => ?_) (fun h4 => evIf (fun h5 => ?_) (fun h5 => ?_))))
          · exact evSome (by unfold heavyT; rw [decide_eq_true (show (l[i]).f0.size > 200 by omega)]; rfl)
          · exact evSome (by unfold heavyT; rw [decide_eq_true (show (l[i]).f1.f2.size > 200 by omega), Bool.or_true]; rfl)
          · have e : heavyT l[i] = false := by unfold heavyT; rw [decide_eq_false (show ¬ (l[i]).f0.size > 200 by omega), decide_eq_false (show ¬ (l[i]).f1.f2.size > 200 by omega)]; rfl
            rw [e, Bool.false_or]
            exact ih
      exact h3 0 (Nat.zero_le _)
def heavyC (n : ByteArray) (l : List S72) (x y : List S67) : Bool := heavyA n l || (heavyO x || heavyO y)
theorem heavy08_ev (kind : Int) (n : ByteArray) (l : List S72) (how : Int) (x y : List S67) : Ev (fun k => constablelaw08_Heavy.f k kind n l how x y) (heavyC n l x y) := by
  unfold constablelaw08_Heavy.f heavyC
  refine Ev.bind (heavy06_ev n l) (evCond (fun h => evSome (by rw [h]; rfl)) (fun h => ?_))
  rw [h, Bool.false_or]
  refine Ev.bind (heavy07_ev x) (evCond (fun h => evSome (by rw [h]; rfl)) (fun h => ?_))
  rw [h, Bool.false_or]
  exact Ev.bind (heavy07_ev y) (evSome rfl)
theorem light_cond {n : ByteArray} {l : List S72} {x y : List S67} (h : heavyC n l x y = false) : n.size ≤ 200 ∧ l.length ≤ 20 ∧ heavyO x = false ∧ heavyO y = false := by
  unfold heavyC heavyA at h
  simp only [Bool.or_eq_false_iff, decide_eq_false_iff_not] at h
  exact ⟨by omega, by omega, h.2.1, h.2.2⟩
theorem twinAtom_eq (n : ByteArray) (l : List S72) (h : l.length ≤ 1000000) : constablekeep_TwinAtom.f n l = some (n, l) := by
  unfold constablekeep_TwinAtom.f
  rw [if_pos (by rw [List.length_nil]; omega), List.nil_append]
theorem twinConds_one (c : S29) (ha : c.f1.f1.length ≤ 1000000) (hx : c.f3.length ≤ 1000000) (hy : c.f4.length ≤ 1000000) : Ev (fun k => constablekeep_TwinConds.f k [c]) [c] := by
  unfold constablekeep_TwinConds.f
  refine evShift ?_
  have hr : rd_T29 [c] 0 = c := rfl
  simp only [constablekeep_TwinConds.l0, hr, twinAtom_eq c.f1.f0 c.f1.f1 ha, twinOps_eq _ hx, twinOps_eq _ hy, Option.bind_some]
  refine evPos (by simp) (evPos (by omega) (evPos (by decide) ?_))
  refine evShift ?_
  simp only [constablekeep_TwinConds.l0]
  exact evNeg (by unfold wrap64; simp) (evSome rfl)
theorem keep_Atom_ev (n : ByteArray) (l : List S72) (hl : l.length ≤ 1000000) : Ev (fun k => constablekeep_Atom.f k n l n l) true := by
  have h : ∀ i : Nat, i ≤ l.length → Ev (fun k => constablekeep_Atom.l0 k i n l n l) true := by
    refine back_ind l.length (fun k i => constablekeep_Atom.l0 k i n l n l) (fun _ => true) ?_ ?_
    · refine evShift ?_
      simp only [constablekeep_Atom.l0]
      exact evNeg (by omega) (evSome rfl)
    · intro i hi ih
      refine evShift ?_
      simp only [constablekeep_Atom.l0]
      rw [wrap_succ hi (by omega)]
      exact evPos (by omega) (evPos (by omega) (evPos (by omega) (evNeg (by simp) ih)))
  unfold constablekeep_Atom.f
  refine evPos rfl ?_
  rw [bne_self_eq_false]
  refine evShift ?_
  simp only [constablekeep_Atom.j0, Bool.false_eq_true, if_false]
  exact h 0 (Nat.zero_le _)
theorem keep_Cond_ev (kind : Int) (n : ByteArray) (l : List S72) (how : Int) (x y : List S67) (hl : l.length ≤ 1000000) (hx : x.length ≤ 1000000) (hy : y.length ≤ 1000000) : Ev (fun k => constablekeep_Cond.f k kind n l how x y kind n l how x y) true := by
  unfold constablekeep_Cond.f
  exact evPos rfl (Ev.bind (keep_Atom_ev n l hl) (evPos rfl (evPos rfl (Ev.bind (keep_Ops_ev x hx) (evPos rfl (Ev.bind (keep_Ops_ev y hy) (evSome rfl)))))))
theorem ref_Holds_ev (how : Int) (v w : S23) (hv : v.f2.size ≤ maxLen) (hw : w.f2.size ≤ maxLen) : Ev (fun k => constableref01_Holds.f k how v.f0 v.f1 v.f2 w.f0 w.f1 w.f2) (holdsS how v w) := by
  unfold constableref01_Holds.f
  rw [ref_In_eq]
  simp only [Option.bind_some]
  have bad : holdsS how v w = (false, 1) → Ev (fun k => constableref01_Holds.j0 k how true v.f0 v.f1 v.f2 w.f0 w.f1 w.f2) (holdsS how v w) := by
    intro h
    refine evShift ?_
    simp only [constableref01_Holds.j0, if_true]
    exact evSome h.symm
  refine evCond (fun h1 => Ev.bind (ref_Value_ev _ _ _ hv) (evCond (fun h2 => Ev.bind (ref_Value_ev _ _ _ hw) ?_) (fun h2 => bad ?_))) (fun h1 => bad ?_)
  · cases h3 : valS w.f0 w.f1 w.f2 with
    | false => exact bad (by unfold holdsS; rw [h3, Bool.and_false, Bool.and_false]; rfl)
    | true =>
      have hH : holdsS how v w = if (how = 3 ∨ how = 4) ∧ v.f0 ≠ w.f0 then (false, 3) else (if how = 1 then cmpV v w == 0 else if how = 2 then cmpV v w != 0 else if how = 3 then decide (cmpV v w < 0) else decide (cmpV v w ≤ 0), 0) := by
        unfold holdsS
        rw [h1, h2, h3]
        exact if_pos rfl
      have hb : 1 ≤ how ∧ how ≤ 4 := of_decide_eq_true h1
      have good : ¬ ((how = 3 ∨ how = 4) ∧ v.f0 ≠ w.f0) → Ev (fun k => constableref01_Holds.j1 k how false v.f0 v.f1 v.f2 w.f0 w.f1 w.f2) (holdsS how v w) := by
        intro hn
        rw [hH, if_neg hn]
        refine evShift ?_
        simp only [constableref01_Holds.j1, Bool.false_eq_true, if_false]
        refine Ev.bind (ref_Values_ev v w hv hw) ?_
        refine evIf (fun e => evSome (by rw [if_pos e])) (fun e => evIf (fun e2 => evSome (by rw [if_neg e, if_pos e2])) (fun e2 => evIf (fun e3 => evSome (by rw [if_neg e, if_neg e2, if_pos e3])) (fun e3 => evSome (by rw [if_neg e, if_neg e2, if_neg e3]))))
      refine evShift ?_
      simp only [constableref01_Holds.j0, Bool.not_true, Bool.false_eq_true, if_false]
      refine evIf (fun e => ?_) (fun e => good (fun h => by omega))
      by_cases e2 : v.f0 = w.f0
      · have e3 : (v.f0 != w.f0) = false := by rw [e2, bne_self_eq_false]
        rw [e3]
        exact good (fun h => h.2 e2)
      · have e3 : (v.f0 != w.f0) = true := bne_iff_ne.2 e2
        rw [e3, hH, if_pos ⟨by omega, e2⟩]
        refine evShift ?_
        simp only [constableref01_Holds.j1, if_true]
        exact evSome rfl
  · unfold holdsS; rw [h2, Bool.false_and, Bool.and_false]; rfl
  · unfold holdsS; rw [h1, Bool.false_and]; rfl
theorem ref_Guard_ev (kind : Int) (n : ByteArray) (l : List S72) (how : Int) (x y : List S67) (hn : n.size ≤ 200) (hl : l.length ≤ 20) (hx : OpsOk x) (hy : OpsOk y) : Ev (fun k => constableref01_Guard.f k kind n l how x y) (condS kind n l how x y) := by
  unfold constableref01_Guard.f condS
  refine evIf (fun h1 => ?_) (fun h1 => evSome (by rw [decide_eq_false h1]; rfl))
  rw [decide_eq_true h1, Bool.true_and]
  have hz : (wrap64 ((n.size : Int) + (l.length : Int)) = 0) ↔ (n = ⟨#[]⟩ ∧ l.length = 0) := by
    have := size_pos_iff n
    constructor
    · intro h
      have h2 : n.size = 0 ∧ l.length = 0 := by unfold wrap64 at h; omega
      exact ⟨Classical.byContradiction fun c => by have := this.2 c; omega, h2.2⟩
    · intro h
      have h2 : ¬ (n.size : Int) > 0 := fun c => this.1 c h.1
      unfold wrap64
      omega
  refine evIf (fun h2 => ?_) (fun h2 => ?_)
  · obtain ⟨h3, h4⟩ := hz.1 h2
    rw [decide_eq_true h3, decide_eq_true h4, Bool.true_and, Bool.true_and, ref_In_eq]
    simp only [Option.bind_some]
    refine evCond (fun h5 => ?_) (fun h5 => evSome (by rw [h5]; rfl))
    rw [h5, Bool.true_and]
    refine Ev.bind (ref_Expr_ev x hx) (evCond (fun h6 => ?_) (fun h6 => evSome (by rw [h6]; rfl)))
    rw [h6, Bool.true_and]
    exact Ev.bind (ref_Expr_ev y hy) (evSome rfl)
  · refine evSome ?_
    by_cases h3 : n = ⟨#[]⟩
    · rw [decide_eq_true h3, decide_eq_false (fun h4 => h2 (hz.2 ⟨h3, h4⟩))]; rfl
    · rw [decide_eq_false h3]; rfl
theorem ref_Test_ev (kind : Int) (n : ByteArray) (l : List S72) (how : Int) (x y : List S67) (b : List S54) (hx : exprS x = true) (hy : exprS y = true) (hb : bindsS b = true) (ox : OpsOk x) (oy : OpsOk y) (ob : BindsOk b) (lb : b.length ≤ maxLen) :
    Ev (fun k => constableref01_Test.f k kind n l how x y b) (testS how x y b) := by
  have e1 : evalE x b = evalS b [] x := by unfold evalE; rw [hx, hb]; rfl
  have e2 : evalE y b = evalS b [] y := by unfold evalE; rw [hy, hb]; rfl
  have r1 := ref_Eval_ev x b hx lb
  have r2 := ref_Eval_ev y b hy lb
  rw [← e1] at r1
  rw [← e2] at r2
  unfold constableref01_Test.f testS
  refine Ev.bind r1 (evIf (fun h1 => ?_) (fun h1 => evSome (by rw [if_neg (show ¬ (evalE x b).2 = 0 from h1)]; rfl)))
  rw [if_pos (show (evalE x b).2 = 0 from h1)]
  refine Ev.bind r2 (evIf (fun h2 => ?_) (fun h2 => evSome (by rw [if_neg (show ¬ (evalE y b).2 = 0 from h2)]; rfl)))
  rw [if_pos (show (evalE y b).2 = 0 from h2)]
  exact Ev.bind (ref_Holds_ev how (evalE x b).1 (evalE y b).1 (evalE_size ob ox) (evalE_size ob oy)) (evSome rfl)
end Go.Proofs.Ytaopajmpifenoaa.P
end
section
namespace Go.Proofs.Ytaopajmpifenoaa.P
open Go.RowKit Go.Proofs.YtaopajmpifenoaaW.PrintWords Go.Proofs.YtaopajmpifenoaaW.PrintLast Go.Proofs.YtaopajmpifenoaaW.PrintMore
theorem wakes08_ev : Ev (fun k => constablelaw08_wakes.f k) true := Ev.of (constablelaw08_wakes.mono) (k := 60) (by decide +kernel)
theorem wakesEnd {g : Nat → Option Bool} (h : Ev g true) : Ev (fun k => (g k).bind fun t => some t) true := Ev.bind h (evSome rfl)
end Go.Proofs.Ytaopajmpifenoaa.P
end
section
namespace Go.Proofs.Ytaopajmpifenoaa.P
open Go.RowKit Go.Proofs.YtaopajmpifenoaaW.PrintWords Go.Proofs.YtaopajmpifenoaaW.PrintLast Go.Proofs.YtaopajmpifenoaaW.PrintMore
structure Opens {α : Type} (d : Kd α) (P : Program) (t : TypeId) (ok : α → Prop) : Prop where
  cells : P.cellsOf t = d.sz
  opens : ∀ {H : Type} {enc : TypeId × Value → H} {w : World} {base : Nat} {spare : Nat → Bool} {held : Bool} {fuel : Nat} {cs : List Value} {x : DataW H × List MemPlace},
    DataW.trod enc P w base spare held fuel t cs = some x → ∃ v, d.K w v cs ∧ ok v
theorem Opens.mono {α : Type} {d : Kd α} {P : Program} {t : TypeId} {ok ok' : α → Prop} (h : Opens d P t ok) (hm : ∀ v, ok v → ok' v) : Opens d P t ok' :=
  ⟨h.cells, fun hx => by obtain ⟨v, h1, h2⟩ := h.opens hx; exact ⟨v, h1, hm v h2⟩⟩
theorem Opens.int {k : IntKind} {P : Program} {t : TypeId} (hu : P.underlying t = some (.int k)) (hc : P.cellsOf t = 1) : Opens (Kd.int k) P t (fun n => (Lit.int k n).wf = true) :=
  ⟨hc, fun hx => by obtain ⟨m, rfl, rfl, hw⟩ := DataW.trod_int hu hx; exact ⟨m, rfl, hw⟩⟩
theorem Opens.string {P : Program} {t : TypeId} (hu : P.underlying t = some .string) (hc : P.cellsOf t = 1) : Opens Kd.string P t (fun s => s.size ≤ maxLen) :=
  ⟨hc, fun hx => by obtain ⟨s, rfl, _, hw⟩ := DataW.trod_string hu hx; exact ⟨s, rfl, hw⟩⟩
theorem Opens.bool {P : Program} {t : TypeId} (hu : P.underlying t = some .bool) (hc : P.cellsOf t = 1) : Opens Kd.bool P t (fun _ => True) :=
  ⟨hc, fun hx => by obtain ⟨b, rfl, _⟩ := DataW.trod_bool hu hx; exact ⟨b, rfl, trivial⟩⟩
theorem Opens.iso {α β : Type} {d : Kd α} {P : Program} {t : TypeId} {ok : α → Prop} {f : β → α} (g : α → β) (hg : ∀ a, f (g a) = a) (h : Opens d P t ok) : Opens (Kd.iso d f) P t (fun b => ok (f b)) :=
  ⟨h.cells, fun hx => by
    obtain ⟨v, h1, h2⟩ := h.opens hx
    refine ⟨g v, ?_, ?_⟩
    · show d.K _ (f (g v)) _
      rw [hg]; exact h1
    · show ok (f (g v))
      rw [hg]; exact h2⟩
structure OpensFs {α : Type} (d : Kd α) (P : Program) (fs : List Field) (off : Nat) (ok : α → Prop) : Prop where
  opens : ∀ {H : Type} {enc : TypeId × Value → H} {w : World} {base : Nat} {spare : Nat → Bool} {held : Bool} {fuel : Nat} {cs : List Value},
    off + d.sz = cs.length → (∀ (i : Nat) (f : Field), fs[i]? = some f → ∃ x, DataW.trod enc P w base spare held fuel f.type ((cs.drop f.offset).take (P.cellsOf f.type)) = some x) → ∃ v, d.K w v (cs.drop off) ∧ ok v
theorem OpensFs.one {α : Type} {d : Kd α} {P : Program} {f : Field} {off : Nat} {ok : α → Prop} (ho : f.offset = off) (h : Opens d P f.type ok) : OpensFs d P [f] off ok := by
  refine ⟨?_⟩
  intro H enc w base spare held fuel cs hl hx
  obtain ⟨x, hx⟩ := hx 0 f rfl
  rw [ho, h.cells, List.take_of_length_le (by simp; omega)] at hx
  exact h.opens hx
theorem OpensFs.cons {α β : Type} {d : Kd α} {d' : Kd β} {P : Program} {f : Field} {fs : List Field} {off : Nat} {ok : α → Prop} {ok' : β → Prop} {ok2 : α × β → Prop} (ho : f.offset = off) (h : Opens d P f.type ok) (h' : OpensFs d' P fs (off + d.sz) ok') (hk : ∀ v, ok v.1 → ok' v.2 → ok2 v) :
    OpensFs (Kd.pair d d') P (f :: fs) off ok2 := by
  refine ⟨?_⟩
  intro H enc w base spare held fuel cs hl hx
  obtain ⟨x, hx0⟩ := hx 0 f rfl
  rw [ho, h.cells] at hx0
  obtain ⟨v, hv, ov⟩ := h.opens hx0
  have hl' : off + (d.sz + d'.sz) = cs.length := hl
  obtain ⟨u, hu, ou⟩ := h'.opens (cs := cs) (by omega) (fun i g hg => hx (i + 1) g hg)
  refine ⟨(v, u), ⟨(cs.drop off).take d.sz, cs.drop (off + d.sz), ?_, hv, hu⟩, hk (v, u) ov ou⟩
  rw [← List.drop_drop, List.take_append_drop]
theorem Opens.struct {α : Type} {d : Kd α} {P : Program} {t : TypeId} {fs : Array Field} {ok : α → Prop} (hu : P.underlying t = some (.struct fs)) (hc : P.cellsOf t = d.sz) (h : OpensFs d P fs.toList 0 ok) : Opens d P t ok := by
  refine ⟨hc, ?_⟩
  intro H enc w base spare held fuel cs x hx
  obtain ⟨xs, n, rfl, _, hl, hxl, hf⟩ := DataW.trod_struct hu hx
  have := h.opens (cs := cs) (enc := enc) (w := w) (base := base) (spare := spare) (held := held) (fuel := n) (by omega) (by
    intro i f hi
    have hi' : fs[i]? = some f := by simpa using hi
    have hlt : i < xs.length := by
      rw [hxl]
      exact (Array.getElem?_eq_some_iff.1 hi').1
    exact ⟨xs[i], by rw [hf i f hi', List.getElem?_eq_getElem hlt]⟩)
  simpa using this
theorem list_of {α : Type} {Q : Nat → α → Prop} : ∀ n : Nat, (∀ i, i < n → ∃ v, Q i v) → ∃ l : List α, l.length = n ∧ ∀ i v, l[i]? = some v → Q i v := by
  intro n
  induction n with
  | zero => intro _; exact ⟨[], rfl, fun i v h => by simp at h⟩
  | succ n ih =>
    intro h
    obtain ⟨l, hl, hq⟩ := ih (fun i hi => h i (by omega))
    obtain ⟨v, hv⟩ := h n (by omega)
    refine ⟨l ++ [v], by simp [hl], ?_⟩
    intro i u hu
    by_cases hi : i < l.length
    · rw [List.getElem?_append_left hi] at hu
      exact hq i u hu
    · rw [List.getElem?_append_right (by omega)] at hu
      have h0 : i - l.length = 0 := by
        by_cases h0 : i - l.length = 0
        · exact h0
        · rw [List.getElem?_eq_none (by simp; omega)] at hu; cases hu
      rw [h0] at hu
      simp at hu
      subst hu
      have : i = n := by omega
      subst this
      exact hv
theorem Opens.row {α : Type} {d : Kd α} {P : Program} {t e : TypeId} {ok : α → Prop} (h : Opens d P e ok) (hu : P.underlying t = some (.slice e))
    {H : Type} {enc : TypeId × Value → H} {w : World} {base : Nat} {spare : Nat → Bool} {held : Bool} {fuel : Nat} {A : Option Addr} {len cap : Nat} {x : DataW H × List MemPlace}
    (hx : DataW.trod enc P w base spare held fuel t [.slice A len cap] = some x) : ∃ l, l.length = len ∧ d.C w A len l ∧ len ≤ cap ∧ cap ≤ maxLen ∧ ∀ v ∈ l, ok v := by
  rcases DataW.trod_slice hu hx with ⟨hcs, _⟩ | ⟨a, len', cap', elems, rest, n, rfl, hcs, _, hb, hl, hm, hlen, hel, _⟩
  · simp only [List.cons.injEq, Value.slice.injEq, and_true] at hcs
    obtain ⟨rfl, rfl, rfl⟩ := hcs
    exact ⟨[], rfl, ⟨rfl, by omega, fun h => by omega⟩, Nat.le_refl _, by unfold maxLen; omega, fun v hv => by simp at hv⟩
  · simp only [List.cons.injEq, Value.slice.injEq, and_true] at hcs
    obtain ⟨rfl, rfl, rfl⟩ := hcs
    obtain ⟨l, hll, hq⟩ := list_of (Q := fun i v => ∃ cs, w.cells? base (a.add (i * P.cellsOf e)) (P.cellsOf e) = some cs ∧ d.K w v cs ∧ ok v) len (by
      intro i hi
      have h1 := hel i hi
      rw [List.getElem?_eq_getElem (by omega), Option.bind_eq_some_iff] at h1
      obtain ⟨cs, h2, h3⟩ := h1
      obtain ⟨v, h4, h5⟩ := h.opens h3
      exact ⟨v, cs, h2, h4, h5⟩)
    refine ⟨l, hll, ⟨hll, by unfold maxLen at hm; omega, fun _ => ⟨a, rfl, ?_⟩⟩, hl, hm, ?_⟩
    · intro j p hp
      obtain ⟨cs, h2, h4, _⟩ := hq j p hp
      obtain ⟨_, h6, h7⟩ := World.cells?_some h2
      refine ⟨cs, by rw [h6, h.cells], h4, ?_⟩
      intro i u hi
      have hlt : i < P.cellsOf e := by rw [← h6]; exact (List.getElem?_eq_some_iff.1 hi).1
      have h8 := h7 i hlt
      rw [Addr.add_add, h.cells, hi] at h8
      exact h8
    · intro v hv
      obtain ⟨i, hi⟩ := List.getElem?_of_mem hv
      obtain ⟨_, _, _, h5⟩ := hq i v hi
      exact h5
theorem Opens.slice {α : Type} {d : Kd α} {P : Program} {t e : TypeId} {ok : α → Prop} (h : Opens d P e ok) (hu : P.underlying t = some (.slice e)) (hc : P.cellsOf t = 1) : Opens (Kd.slice e d) P t (fun l => l.length ≤ maxLen ∧ ∀ v ∈ l, ok v) := by
  refine ⟨hc, ?_⟩
  intro H enc w base spare held fuel cs x hx
  have hx0 := hx
  rcases DataW.trod_slice hu hx with ⟨hcs, _⟩ | ⟨a, len', cap', elems, rest, n, rfl, hcs, _⟩ <;> subst hcs
  all_goals
    obtain ⟨l, h1, h2, h3, h4, h5⟩ := h.row hu hx0
    have h6 := Nat.le_trans h3 h4
    rw [← h1] at h2 h3 h6 ⊢
    exact ⟨l, ⟨_, _, rfl, h3, h2⟩, h6, h5⟩
theorem Opens.arg {α : Type} {d : Kd α} {P : Program} {t e : TypeId} {ok : α → Prop} (h : Opens d P e ok) (hu : P.underlying t = some (.slice e)) {B : Nat} (hB : P.bytesOf e = B)
    {H : Type} {enc : TypeId × Value → H} {w : World} {base : Nat} {spare : Nat → Bool} {held : Bool} {a : Option Addr} {len cap : Nat} {x : DataW H} {ps : List MemPlace} {ts : List TypeId} {ds : List (DataW H)} {j : Nat}
    (hsz : (DataW.weightsEach P ts ds).all (· ≤ reachBytes) = true) (ht : ts[j]? = some t) (hd : ds[j]? = some x)
    (hx : DataW.Trod enc P w base spare held t (.slice a len cap) x ps) : ∃ l, l.length = len ∧ d.C w a len l ∧ len ≤ cap ∧ (len ≤ maxLen ∧ len * B ≤ 140737488351232) ∧ ∀ v ∈ l, ok v := by
  obtain ⟨fuel, hf⟩ := hx
  have hf' : DataW.trod enc P w base spare held fuel t [.slice a len cap] = some (x, ps) := hf
  obtain ⟨l, h1, h2, h3, h4, h5⟩ := h.row hu hf'
  refine ⟨l, h1, h2, h3, ⟨Nat.le_trans h3 h4, ?_⟩, h5⟩
  rcases DataW.trod_slice hu hf' with ⟨hcs, _⟩ | ⟨a', len', cap', elems, rest, n, _, hcs, hxx, _, hl, _, hlen, _⟩
  · simp only [List.cons.injEq, Value.slice.injEq, and_true] at hcs
    obtain ⟨_, rfl, _⟩ := hcs
    omega
  · simp only [List.cons.injEq, Value.slice.injEq, and_true] at hcs
    obtain ⟨_, rfl, _⟩ := hcs
    obtain ⟨rfl, _⟩ := Prod.mk.inj hxx
    have z := sized_slice hsz ht hd hu
    rw [hB] at z
    have : len ≤ (elems.map (·.1)).length + (rest.map (·.1)).length := by simp; omega
    exact Nat.le_trans (Nat.mul_le_mul_right _ this) z
theorem Opens.agg {α : Type} {d : Kd α} {P : Program} {t : TypeId} {ok : α → Prop} (h : Opens d P t ok) {fs : Array Field} (hu : P.underlying t = some (.struct fs))
    {H : Type} {enc : TypeId × Value → H} {w : World} {r : Reach} {base b0 : Nat} {spare : Nat → Bool} {held : Bool} {v : Value} {x : DataW H} {ps : List MemPlace}
    (hv : Value.okWide P w r b0 t v) (hx : DataW.Trod enc P w base spare held t v x ps) : ∃ u cs, v = .agg ⟨cs⟩ ∧ d.K w u cs ∧ ok u := by
  obtain ⟨cs, rfl, _⟩ := Go.WideShapes.okWide_struct hu hv
  obtain ⟨fuel, hf⟩ := hx
  obtain ⟨u, h1, h2⟩ := h.opens hf
  exact ⟨u, cs.toList, rfl, h1, h2⟩
end Go.Proofs.Ytaopajmpifenoaa.P
end
section
namespace Go.Proofs.Ytaopajmpifenoaa.P
open Go.RowKit Go.Proofs.YtaopajmpifenoaaW.PrintWords Go.Proofs.YtaopajmpifenoaaW.PrintLast Go.Proofs.YtaopajmpifenoaaW.PrintMore
theorem o3 : Opens (Kd.int .i64) Try.prog 3 (fun x => (Lit.int .i64 x).wf = true) := Opens.int Try.underlying3 (by kernel_rfl)
theorem o9 : Opens Kd.string Try.prog 9 (fun x => x.size ≤ maxLen) := Opens.string Try.underlying9 (by kernel_rfl)
def ok23 (x : S23) : Prop := (Lit.int .i64 x.f0).wf = true ∧ (Lit.int .i64 x.f1).wf = true ∧ x.f2.size ≤ maxLen
theorem o23 : Opens k23 Try.prog 23 ok23 := by
  have h1 := Opens.struct (d := (Kd.pair (Kd.int .i64) (Kd.pair (Kd.int .i64) Kd.string))) (ok := fun a => (Lit.int .i64 a.1).wf = true ∧ (Lit.int .i64 a.2.1).wf = true ∧ a.2.2.size ≤ maxLen) Try.underlying23 (by kernel_rfl) (OpensFs.cons (ok2 := fun a : (Int) × (Int) × (ByteArray) => (Lit.int .i64 a.1).wf = true ∧ (Lit.int .i64 a.2.1).wf = true ∧ a.2.2.size ≤ maxLen) (ok' := fun a : (Int) × (ByteArray) => (Lit.int .i64 a.1).wf = true ∧ a.2.size ≤ maxLen) (by rfl) o3 (OpensFs.cons (ok2 := fun a : (Int) × (ByteArray) => (Lit.int .i64 a.1).wf = true ∧ a.2.size ≤ maxLen) (ok' := fun a : (ByteArray) => a.size ≤ maxLen) (by rfl) o3 (OpensFs.one (by rfl) o9) (fun v h1 h2 => ⟨h1, h2⟩)) (fun v h1 h2 => ⟨h1, h2⟩))
  exact Opens.mono (Opens.iso (fun a => ⟨a.1, a.2.1, a.2.2⟩) (fun _ => rfl) h1) (fun _ h => h)
theorem kc23 {w : World} {v : S23} {cs : List Value} (h : k23.K w v cs) : cs = [.int .i64 v.f0, .int .i64 v.f1, .string v.f2] := by
  have h0 : ((Kd.pair (Kd.int .i64) (Kd.pair (Kd.int .i64) Kd.string))).K w (v.f0, v.f1, v.f2) cs := h
  obtain ⟨c0, d0, rfl, g0, h1⟩ := h0
  obtain rfl := g0
  obtain ⟨c1, d1, rfl, g1, h2⟩ := h1
  obtain rfl := g1
  obtain rfl := h2
  exact rfl
def ok67 (x : S67) : Prop := (Lit.int .i64 x.f0).wf = true ∧ x.f1.size ≤ maxLen ∧ ok23 x.f2
theorem o67 : Opens k67 Try.prog 67 ok67 := by
  have h1 := Opens.struct (d := (Kd.pair (Kd.int .i64) (Kd.pair Kd.string k23))) (ok := fun a => (Lit.int .i64 a.1).wf = true ∧ a.2.1.size ≤ maxLen ∧ ok23 a.2.2) Try.underlying67 (by kernel_rfl) (OpensFs.cons (ok2 := fun a : (Int) × (ByteArray) × (S23) => (Lit.int .i64 a.1).wf = true ∧ a.2.1.size ≤ maxLen ∧ ok23 a.2.2) (ok' := fun a : (ByteArray) × (S23) => a.1.size ≤ maxLen ∧ ok23 a.2) (by rfl) o3 (OpensFs.cons (ok2 := fun a : (ByteArray) × (S23) => a.1.size ≤ maxLen ∧ ok23 a.2) (ok' := fun a : (S23) => ok23 a) (by rfl) o9 (OpensFs.one (by rfl) o23) (fun v h1 h2 => ⟨h1, h2⟩)) (fun v h1 h2 => ⟨h1, h2⟩))
  exact Opens.mono (Opens.iso (fun a => ⟨a.1, a.2.1, a.2.2⟩) (fun _ => rfl) h1) (fun _ h => h)
theorem kc67 {w : World} {v : S67} {cs : List Value} (h : k67.K w v cs) : cs = [.int .i64 v.f0, .string v.f1, .int .i64 v.f2.f0, .int .i64 v.f2.f1, .string v.f2.f2] := by
  have h0 : ((Kd.pair (Kd.int .i64) (Kd.pair Kd.string k23))).K w (v.f0, v.f1, v.f2) cs := h
  obtain ⟨c0, d0, rfl, g0, h1⟩ := h0
  obtain rfl := g0
  obtain ⟨c1, d1, rfl, g1, h2⟩ := h1
  obtain rfl := g1
  obtain rfl := kc23 h2
  exact rfl
def ok54 (x : S54) : Prop := x.f0.size ≤ maxLen ∧ ok23 x.f1
theorem o54 : Opens k54 Try.prog 54 ok54 := by
  have h1 := Opens.struct (d := (Kd.pair Kd.string k23)) (ok := fun a => a.1.size ≤ maxLen ∧ ok23 a.2) Try.underlying54 (by kernel_rfl) (OpensFs.cons (ok2 := fun a : (ByteArray) × (S23) => a.1.size ≤ maxLen ∧ ok23 a.2) (ok' := fun a : (S23) => ok23 a) (by rfl) o9 (OpensFs.one (by rfl) o23) (fun v h1 h2 => ⟨h1, h2⟩))
  exact Opens.mono (Opens.iso (fun a => ⟨a.1, a.2⟩) (fun _ => rfl) h1) (fun _ h => h)
theorem kc54 {w : World} {v : S54} {cs : List Value} (h : k54.K w v cs) : cs = [.string v.f0, .int .i64 v.f1.f0, .int .i64 v.f1.f1, .string v.f1.f2] := by
  have h0 : ((Kd.pair Kd.string k23)).K w (v.f0, v.f1) cs := h
  obtain ⟨c0, d0, rfl, g0, h1⟩ := h0
  obtain rfl := g0
  obtain rfl := kc23 h1
  exact rfl
def ok72 (x : S72) : Prop := x.f0.size ≤ maxLen ∧ ok23 x.f1
theorem o72 : Opens k72 Try.prog 72 ok72 := by
  have h1 := Opens.struct (d := (Kd.pair Kd.string k23)) (ok := fun a => a.1.size ≤ maxLen ∧ ok23 a.2) Try.underlying72 (by kernel_rfl) (OpensFs.cons (ok2 := fun a : (ByteArray) × (S23) => a.1.size ≤ maxLen ∧ ok23 a.2) (ok' := fun a : (S23) => ok23 a) (by rfl) o9 (OpensFs.one (by rfl) o23) (fun v h1 h2 => ⟨h1, h2⟩))
  exact Opens.mono (Opens.iso (fun a => ⟨a.1, a.2⟩) (fun _ => rfl) h1) (fun _ h => h)
theorem kc72 {w : World} {v : S72} {cs : List Value} (h : k72.K w v cs) : cs = [.string v.f0, .int .i64 v.f1.f0, .int .i64 v.f1.f1, .string v.f1.f2] := by
  have h0 : ((Kd.pair Kd.string k23)).K w (v.f0, v.f1) cs := h
  obtain ⟨c0, d0, rfl, g0, h1⟩ := h0
  obtain rfl := g0
  obtain rfl := kc23 h1
  exact rfl
theorem o24 : Opens (Kd.slice 72 k72) Try.prog 24 (fun x => (x.length ≤ maxLen ∧ ∀ v ∈ x, ok72 v)) := Opens.slice o72 Try.underlying24 (by kernel_rfl)
def ok26 (x : S26) : Prop := x.f0.size ≤ maxLen ∧ (x.f1.length ≤ maxLen ∧ ∀ v ∈ x.f1, ok72 v)
theorem o26 : Opens k26 Try.prog 26 ok26 := by
  have h1 := Opens.struct (d := (Kd.pair Kd.string (Kd.slice 72 k72))) (ok := fun a => a.1.size ≤ maxLen ∧ (a.2.length ≤ maxLen ∧ ∀ v ∈ a.2, ok72 v)) Try.underlying26 (by kernel_rfl) (OpensFs.cons (ok2 := fun a : (ByteArray) × (List (S72)) => a.1.size ≤ maxLen ∧ (a.2.length ≤ maxLen ∧ ∀ v ∈ a.2, ok72 v)) (ok' := fun a : (List (S72)) => (a.length ≤ maxLen ∧ ∀ v ∈ a, ok72 v)) (by rfl) o9 (OpensFs.one (by rfl) o24) (fun v h1 h2 => ⟨h1, h2⟩))
  exact Opens.mono (Opens.iso (fun a => ⟨a.1, a.2⟩) (fun _ => rfl) h1) (fun _ h => h)
theorem kc26 {w : World} {v : S26} {cs : List Value} (h : k26.K w v cs) : ∃ A0 c0, cs = [.string v.f0, .slice A0 v.f1.length c0] ∧ v.f1.length ≤ c0 ∧ Kd.C k72 w A0 v.f1.length v.f1 := by
  have h0 : ((Kd.pair Kd.string (Kd.slice 72 k72))).K w (v.f0, v.f1) cs := h
  obtain ⟨c0, d0, rfl, g0, h1⟩ := h0
  obtain rfl := g0
  obtain ⟨B1, e1, rfl, l1, r1⟩ := h1
  exact ⟨B1, e1, rfl, l1, r1⟩
theorem o27 : Opens (Kd.slice 67 k67) Try.prog 27 (fun x => (x.length ≤ maxLen ∧ ∀ v ∈ x, ok67 v)) := Opens.slice o67 Try.underlying27 (by kernel_rfl)
def ok29 (x : S29) : Prop := (Lit.int .i64 x.f0).wf = true ∧ ok26 x.f1 ∧ (Lit.int .i64 x.f2).wf = true ∧ (x.f3.length ≤ maxLen ∧ ∀ v ∈ x.f3, ok67 v) ∧ (x.f4.length ≤ maxLen ∧ ∀ v ∈ x.f4, ok67 v)
theorem o29 : Opens k29 Try.prog 29 ok29 := by
  have h1 := Opens.struct (d := (Kd.pair (Kd.int .i64) (Kd.pair k26 (Kd.pair (Kd.int .i64) (Kd.pair (Kd.slice 67 k67) (Kd.slice 67 k67)))))) (ok := fun a => (Lit.int .i64 a.1).wf = true ∧ ok26 a.2.1 ∧ (Lit.int .i64 a.2.2.1).wf = true ∧ (a.2.2.2.1.length ≤ maxLen ∧ ∀ v ∈ a.2.2.2.1, ok67 v) ∧ (a.2.2.2.2.length ≤ maxLen ∧ ∀ v ∈ a.2.2.2.2, ok67 v)) Try.underlying29 (by kernel_rfl) (OpensFs.cons (ok2 := fun a : (Int) × (S26) × (Int) × (List (S67)) × (List (S67)) => (Lit.int .i64 a.1).wf = true ∧ ok26 a.2.1 ∧ (Lit.int .i64 a.2.2.1).wf = true ∧ (a.2.2.2.1.length ≤ maxLen ∧ ∀ v ∈ a.2.2.2.1, ok67 v) ∧ (a.2.2.2.2.length ≤ maxLen ∧ ∀ v ∈ a.2.2.2.2, ok67 v)) (ok' := fun a : (S26) × (Int) × (List (S67)) × (List (S67)) => ok26 a.1 ∧ (Lit.int .i64 a.2.1).wf = true ∧ (a.2.2.1.length ≤ maxLen ∧ ∀ v ∈ a.2.2.1, ok67 v) ∧ (a.2.2.2.length ≤ maxLen ∧ ∀ v ∈ a.2.2.2, ok67 v)) (by rfl) o3 (OpensFs.cons (ok2 := fun a : (S26) × (Int) × (List (S67)) × (List (S67)) => ok26 a.1 ∧ (Lit.int .i64 a.2.1).wf = true ∧ (a.2.2.1.length ≤ maxLen ∧ ∀ v ∈ a.2.2.1, ok67 v) ∧ (a.2.2.2.length ≤ maxLen ∧ ∀ v ∈ a.2.2.2, ok67 v)) (ok' := fun a : (Int) × (List (S67)) × (List (S67)) => (Lit.int .i64 a.1).wf = true ∧ (a.2.1.length ≤ maxLen ∧ ∀ v ∈ a.2.1, ok67 v) ∧ (a.2.2.length ≤ maxLen ∧ ∀ v ∈ a.2.2, ok67 v)) (by rfl) o26 (OpensFs.cons (ok2 := fun a : (Int) × (List (S67)) × (List (S67)) => (Lit.int .i64 a.1).wf = true ∧ (a.2.1.length ≤ maxLen ∧ ∀ v ∈ a.2.1, ok67 v) ∧ (a.2.2.length ≤ maxLen ∧ ∀ v ∈ a.2.2, ok67 v)) (ok' := fun a : (List (S67)) × (List (S67)) => (a.1.length ≤ maxLen ∧ ∀ v ∈ a.1, ok67 v) ∧ (a.2.length ≤ maxLen ∧ ∀ v ∈ a.2, ok67 v)) (by rfl) o3 (OpensFs.cons (ok2 := fun a : (List (S67)) × (List (S67)) => (a.1.length ≤ maxLen ∧ ∀ v ∈ a.1, ok67 v) ∧ (a.2.length ≤ maxLen ∧ ∀ v ∈ a.2, ok67 v)) (ok' := fun a : (List (S67)) => (a.length ≤ maxLen ∧ ∀ v ∈ a, ok67 v)) (by rfl) o27 (OpensFs.one (by rfl) o27) (fun v h1 h2 => ⟨h1, h2⟩)) (fun v h1 h2 => ⟨h1, h2⟩)) (fun v h1 h2 => ⟨h1, h2⟩)) (fun v h1 h2 => ⟨h1, h2⟩))
  exact Opens.mono (Opens.iso (fun a => ⟨a.1, a.2.1, a.2.2.1, a.2.2.2.1, a.2.2.2.2⟩) (fun _ => rfl) h1) (fun _ h => h)
theorem kc29 {w : World} {v : S29} {cs : List Value} (h : k29.K w v cs) : ∃ A0 c0 A1 c1 A2 c2, cs = [.int .i64 v.f0, .string v.f1.f0, .slice A0 v.f1.f1.length c0, .int .i64 v.f2, .slice A1 v.f3.length c1, .slice A2 v.f4.length c2] ∧ v.f1.f1.length ≤ c0 ∧ Kd.C k72 w A0 v.f1.f1.length v.f1.f1 ∧ v.f3.length ≤ c1 ∧ Kd.C k67 w A1 v.f3.length v.f3 ∧ v.f4.length ≤ c2 ∧ Kd.C k67 w A2 v.f4.length v.f4 := by
  have h0 : ((Kd.pair (Kd.int .i64) (Kd.pair k26 (Kd.pair (Kd.int .i64) (Kd.pair (Kd.slice 67 k67) (Kd.slice 67 k67)))))).K w (v.f0, v.f1, v.f2, v.f3, v.f4) cs := h
  obtain ⟨c0, d0, rfl, g0, h1⟩ := h0
  obtain rfl := g0
  obtain ⟨c1, d1, rfl, g1, h2⟩ := h1
  obtain ⟨B1_0, e1_0, rfl, l1_0, r1_0⟩ := kc26 g1
  obtain ⟨c2, d2, rfl, g2, h3⟩ := h2
  obtain rfl := g2
  obtain ⟨c3, d3, rfl, g3, h4⟩ := h3
  obtain ⟨B3, e3, rfl, l3, r3⟩ := g3
  obtain ⟨B4, e4, rfl, l4, r4⟩ := h4
  exact ⟨B1_0, e1_0, B3, e3, B4, e4, rfl, l1_0, r1_0, l3, r3, l4, r4⟩
end Go.Proofs.Ytaopajmpifenoaa.P
end
section
namespace Go.Proofs.Ytaopajmpifenoaa.Pure
open Go.RowKit Go.Proofs.Ytaopajmpifenoaa.P Go.Proofs.YtaopajmpifenoaaW.PrintWords Go.Proofs.YtaopajmpifenoaaW.PrintLast Go.Proofs.YtaopajmpifenoaaW.PrintMore
theorem GuardExact (how : Int) (v w : S23) (c : S29) (b : List S54) (_w0 : (Lit.int .i64 how).wf = true) (_hv : ok23 v) (_hw : ok23 w) (_hc : ok29 c) (hz : b.length ≤ maxLen ∧ b.length * 48 ≤ 140737488351232) (_ho : ∀ x ∈ b, ok54 x) :
    ∃ k, constablelaw08_GuardExact.f k how v.f0 v.f1 v.f2 w.f0 w.f1 w.f2 c.f0 c.f1.f0 c.f1.f1 c.f2 c.f3 c.f4 b = some true := by
  refine Ev.rounds (r := true) ?_
  have hwk := wakesEnd wakes08_ev
  unfold constablelaw08_GuardExact.f
  have hj : Ev (fun k => constablelaw08_GuardExact.j0 k how b true v.f0 v.f1 v.f2 w.f0 w.f1 w.f2 c.f0 c.f1.f0 c.f1.f1 c.f2 c.f3 c.f4) true := by
    refine evShift ?_
    simp only [constablelaw08_GuardExact.j0, if_true]
    exact evSome rfl
  refine evIf (fun _ => hj) (fun s1 => evIf (fun _ => hj) (fun s2 => Ev.bind (heavy08_ev _ _ _ _ _ _) (evCond (fun _ => hj) (fun h3 => Ev.bind (heavy05_ev b) ?_))))
  cases h4 : heavyB b with
  | true => exact hj
  | false =>
    obtain ⟨hn, hl, h5, h6⟩ := light_cond h3
    obtain ⟨hxl, hxo⟩ := light_ops h5
    obtain ⟨hyl, hyo⟩ := light_ops h6
    obtain ⟨hbl, hbo⟩ := light_binds h4
    have mx : maxLen = 9223372036854775807 := rfl
    have v2 : v.f2.size ≤ maxLen := by omega
    have w2 : w.f2.size ≤ maxLen := by omega
    refine evShift ?_
    simp only [constablelaw08_GuardExact.j0, Bool.false_eq_true, if_false]
    have hr : rd_T29 [c] 0 = c := rfl
    refine Ev.bind (twinConds_one c (by omega) (by omega) (by omega)) (evPos (by simp) ?_)
    simp only [hr]
    have gE := guard_Eval_ev c.f0 c.f1.f0 c.f1.f1 c.f2 c.f3 c.f4 b hxo (by omega) hyo (by omega) hbo (by omega)
    have gC := guard_Check_ev c.f0 c.f1.f0 c.f1.f1 c.f2 c.f3 c.f4 hxo (by omega) hyo (by omega)
    have j3 : Ev (fun k => constablelaw08_GuardExact.j3 k b (if condS c.f0 c.f1.f0 c.f1.f1 c.f2 c.f3 c.f4 then testS c.f2 c.f3 c.f4 b else (false, 1)).1 (if condS c.f0 c.f1.f0 c.f1.f1 c.f2 c.f3 c.f4 then testS c.f2 c.f3 c.f4 b else (false, 1)).2 (!(condS c.f0 c.f1.f0 c.f1.f1 c.f2 c.f3 c.f4 && bindsS b)) c.f0 c.f1.f0 c.f1.f1 c.f2 c.f3 c.f4) true := by
      refine evShift ?_
      cases hcd : condS c.f0 c.f1.f0 c.f1.f1 c.f2 c.f3 c.f4 with
      | false =>
        simp only [constablelaw08_GuardExact.j3, Bool.false_and, Bool.not_false, if_true, Bool.false_eq_true, if_false]
        exact hwk
      | true =>
        have hxy : exprS c.f3 = true ∧ exprS c.f4 = true := by
          unfold condS at hcd
          simp only [Bool.and_eq_true] at hcd
          exact ⟨hcd.2.2.2.2.1, hcd.2.2.2.2.2⟩
        cases hbs : bindsS b with
        | false =>
          have e1 : evalE c.f3 b = (zV, 1) := by unfold evalE; rw [hbs, Bool.and_false]; rfl
          have et : testS c.f2 c.f3 c.f4 b = (false, 1) := by unfold testS; rw [e1]; rfl
          simp only [constablelaw08_GuardExact.j3, Bool.and_false, Bool.not_false, if_true, et, Bool.false_eq_true, if_false]
          exact hwk
        | true =>
          simp only [constablelaw08_GuardExact.j3, Bool.and_true, Bool.not_true, Bool.false_eq_true, if_false, if_true]
          exact Ev.bind (ref_Test_ev c.f0 c.f1.f0 c.f1.f1 c.f2 c.f3 c.f4 b hxy.1 hxy.2 hbs hxo hyo hbo (by omega)) (evPos rfl (evPos (beq_self_eq_true _) hwk))
    refine Ev.bind (guard_Holds_ev how v w v2 w2) (Ev.bind (ref_Holds_ev how v w v2 w2) (Ev.bind gE ?_))
    refine evNeg (by rw [bne_self_eq_false]; decide) (evPos rfl ?_)
    refine Ev.bind (keep_Cond_ev c.f0 c.f1.f0 c.f1.f1 c.f2 c.f3 c.f4 (by omega) (by omega) (by omega)) ?_
    rw [Bool.not_true]
    refine evShift ?_
    simp only [constablelaw08_GuardExact.j1, Bool.false_eq_true, if_false]
    refine Ev.bind (ref_Guard_ev c.f0 c.f1.f0 c.f1.f1 c.f2 c.f3 c.f4 hn hl hxo hyo) (Ev.bind gC ?_)
    cases hcd : condS c.f0 c.f1.f0 c.f1.f1 c.f2 c.f3 c.f4 with
    | false =>
      rw [hcd] at gC j3
      refine evNeg (by decide) (evNeg (by decide) (Ev.bind gC ?_))
      refine evShift ?_
      simp only [constablelaw08_GuardExact.j2, Bool.false_eq_true, if_false]
      exact j3
    | true =>
      rw [hcd] at j3
      refine evNeg (by decide) (evPos rfl (evShift ?_))
      simp only [constablelaw08_GuardExact.j2, Bool.false_eq_true, if_false, if_true]
      exact Ev.bind (ref_Binds_ev b hbo) j3
end Go.Proofs.Ytaopajmpifenoaa.Pure
end
