/- Part 4 of the proof of GuardParts: words, contracts of functions of the program (what a call answers), and what the answers say. -/
import Derived.Lib.Bytes
import Derived.Laws.BitsLemmas
import Derived.Laws.Bits64
import Derived.Test.YtaopajmpifenoaaVWords
import Derived.Test.YtaopajmpifenoaaVLast
import Derived.Test.YtaopajmpifenoaaVApart
import Derived.Test.YtaopajmpifenoaaVArr
import Derived.Test.YtaopajmpifenoaaVFoot
import Derived.Test.YtaopajmpifenoaaVKept
import Derived.Test.YtaopajmpifenoaaVShare
import Derived.Test.YtaopajmpifenoaaVZeros
import Derived.Test.YtaopajmpifenoaaVN
import Derived.Test.YtaopajmpifenoaaVFootNe
import Derived.Test.YtaopajmpifenoaaVAt
import Derived.Test.YtaopajmpifenoaaVEqStruct
import Derived.Test.YtaopajmpifenoaaVTab
import Derived.Test.YtaopajmpifenoaaVFour
import Derived.Test.YtaopajmpifenoaaVGuard
import Derived.Test.YtaopajmpifenoaaVInv
import Derived.Test.YtaopajmpifenoaaVInvWords
import Derived.Test.YtaopajmpifenoaaVQPut
import Derived.Test.YtaopajmpifenoaaVNEv
import Derived.Test.YtaopajmpifenoaaVMore
import Derived.Test.YtaopajmpifenoaaVRepsOne
import Derived.Test.YtaopajmpifenoaaVSized
import Derived.Test.YtaopajmpifenoaaCGuardParts0
import Derived.Test.YtaopajmpifenoaaCGuardParts1
import Derived.Test.YtaopajmpifenoaaCGuardParts2
section
namespace Go.Proofs.Ytaopajmpifenoaa.P
open Go.RowKit Go.Proofs.YtaopajmpifenoaaW.PrintWords Go.Proofs.YtaopajmpifenoaaW.PrintLast Go.Proofs.YtaopajmpifenoaaW.PrintMore
attribute [local go_sem] max2_int min2_int max_two min_two max_three min_three max_four min_four
set_option linter.unusedVariables false
set_option linter.unusedSimpArgs false
def constablelaw08_GuardParts.j0 : Nat → Int → List (S67) → List (S67) → List (S54) → Bool → Option (Bool)
  | 0, _, _, _, _, _ => none
  | k + 1, x0, x1, x2, x3, x42 => if x42 = true then (some true) else ((expr_Eval.f k x1 x3).bind fun bt396 => ((expr_Eval.f k x2 x3).bind fun bt401 => ((guard_Eval.f k 3 (⟨#[]⟩ : ByteArray) ([] : List (S72)) (wrap64 (1 + (wrap64 (Int.tmod (IntKind.u64.wrap (x0)) 4)))) x1 x2 x3).bind fun bt407 => (if bt396.2.2.2 = 0 then (if bt401.2.2.2 = 0 then ((guard_Holds.f k (wrap64 (1 + (wrap64 (Int.tmod (IntKind.u64.wrap (x0)) 4)))) bt396.1 bt396.2.1 bt396.2.2.1 bt401.1 bt401.2.1 bt401.2.2.1).bind fun bt410 => (if bt407.2 = bt410.2 then (if (bt407.1 == bt410.1) = true then ((guard_Check.f k 3 (⟨#[]⟩ : ByteArray) ([] : List (S72)) (wrap64 (1 + (wrap64 (Int.tmod (IntKind.u64.wrap (x0)) 4)))) x1 x2).bind fun t412 => (if t412 = 0 then ((constablelaw08_wakes.f k).bind fun t413 => (some t413)) else (some false))) else (some false)) else (some false))) else (if bt407.2 = bt401.2.2.2 then (if bt407.1 = true then (some false) else ((constablelaw08_wakes.f k).bind fun t414 => (some t414))) else (some false))) else (if bt407.2 = bt396.2.2.2 then (if bt407.1 = true then (some false) else ((constablelaw08_wakes.f k).bind fun t409 => (some t409))) else (some false))))))
def constablelaw08_GuardParts.f (k : Nat) (a0 : Int) (l1 : List (S67)) (l2 : List (S67)) (l3 : List (S54)) : Option (Bool) := (constablelaw07_Heavy.f k l1).bind fun t390 => (if t390 = true then (constablelaw08_GuardParts.j0 k a0 l1 l2 l3 true) else ((constablelaw07_Heavy.f k l2).bind fun t391 => (if t391 = true then (constablelaw08_GuardParts.j0 k a0 l1 l2 l3 true) else ((constablelaw05_Heavy.f k l3).bind fun t392 => (if t392 = true then (constablelaw08_GuardParts.j0 k a0 l1 l2 l3 true) else ((constableref01_Expr.f k l1).bind fun t393 => (if t393 = true then ((constableref01_Expr.f k l2).bind fun t394 => (if t394 = true then ((constableref01_Binds.f k l3).bind fun t395 => (constablelaw08_GuardParts.j0 k a0 l1 l2 l3 (!t395))) else (constablelaw08_GuardParts.j0 k a0 l1 l2 l3 true))) else (constablelaw08_GuardParts.j0 k a0 l1 l2 l3 true))))))))
theorem constablelaw08_GuardParts.mono_l : ∀ k, (∀ y0 y1 y2 y3 y4, LeO (constablelaw08_GuardParts.j0 k y0 y1 y2 y3 y4) (constablelaw08_GuardParts.j0 (k + 1) y0 y1 y2 y3 y4))
  | 0 => fun _ _ _ _ _ r h => by simp [constablelaw08_GuardParts.j0] at h
  | k + 1 => by
    have ih0 := constablelaw08_GuardParts.mono_l k
    · intro y0 y1 y2 y3 y4
      unfold constablelaw08_GuardParts.j0
      repeat' first
      | (with_reducible exact ih0 _ _ _ _ _)
      | (with_reducible exact constablelaw05_Heavy.mono _ _)
      | (with_reducible exact constablelaw07_Heavy.mono _ _)
      | (with_reducible exact constablelaw08_wakes.mono _)
      | (with_reducible exact constableref01_Binds.mono _ _)
      | (with_reducible exact constableref01_Expr.mono _ _)
      | (with_reducible exact expr_Eval.mono _ _ _)
      | (with_reducible exact guard_Check.mono _ _ _ _ _ _ _)
      | (with_reducible exact guard_Eval.mono _ _ _ _ _ _ _ _)
      | (with_reducible exact guard_Holds.mono _ _ _ _ _ _ _ _)
      | (with_reducible exact LeO.refl _)
      | (with_reducible exact LeO.none _)
      | (with_reducible refine LeO.ite ?_ ?_)
      | (with_reducible refine LeO.bind ?_ (fun _ => ?_))
      | exact ih0 _ _ _ _ _
      | exact constablelaw05_Heavy.mono _ _
      | exact constablelaw07_Heavy.mono _ _
      | exact constablelaw08_wakes.mono _
      | exact constableref01_Binds.mono _ _
      | exact constableref01_Expr.mono _ _
      | exact expr_Eval.mono _ _ _
      | exact guard_Check.mono _ _ _ _ _ _ _
      | exact guard_Eval.mono _ _ _ _ _ _ _ _
      | exact guard_Holds.mono _ _ _ _ _ _ _ _
      | exact LeO.none _
      | refine LeO.ite ?_ ?_
      | refine LeO.bind ?_ (fun _ => ?_)
theorem constablelaw08_GuardParts.mono : ∀ a0 a1 a2 a3 k, LeO (constablelaw08_GuardParts.f k a0 a1 a2 a3) (constablelaw08_GuardParts.f (k + 1) a0 a1 a2 a3) := by
  intro a0 a1 a2 a3 k
  have ih0 := constablelaw08_GuardParts.mono_l k
  unfold constablelaw08_GuardParts.f
  repeat' first
      | (with_reducible exact ih0 _ _ _ _ _)
      | (with_reducible exact constablelaw05_Heavy.mono _ _)
      | (with_reducible exact constablelaw07_Heavy.mono _ _)
      | (with_reducible exact constablelaw08_wakes.mono _)
      | (with_reducible exact constableref01_Binds.mono _ _)
      | (with_reducible exact constableref01_Expr.mono _ _)
      | (with_reducible exact expr_Eval.mono _ _ _)
      | (with_reducible exact guard_Check.mono _ _ _ _ _ _ _)
      | (with_reducible exact guard_Eval.mono _ _ _ _ _ _ _ _)
      | (with_reducible exact guard_Holds.mono _ _ _ _ _ _ _ _)
      | (with_reducible exact LeO.refl _)
      | (with_reducible exact LeO.none _)
      | (with_reducible refine LeO.ite ?_ ?_)
      | (with_reducible refine LeO.bind ?_ (fun _ => ?_))
      | exact ih0 _ _ _ _ _
      | exact constablelaw05_Heavy.mono _ _
      | exact constablelaw07_Heavy.mono _ _
      | exact constablelaw08_wakes.mono _
      | exact constableref01_Binds.mono _ _
      | exact constableref01_Expr.mono _ _
      | exact expr_Eval.mono _ _ _
      | exact guard_Check.mono _ _ _ _ _ _ _
      | exact guard_Eval.mono _ _ _ _ _ _ _ _
      | exact guard_Holds.mono _ _ _ _ _ _ _ _
      | exact LeO.none _
      | refine LeO.ite ?_ ?_
      | refine LeO.bind ?_ (fun _ => ?_)
set_option maxHeartbeats 8000000 in
set_option maxRecDepth 100000 in
theorem constablelaw08_GuardParts.calls (k : Nat) (a0 : Int) (A1 : Option Addr) (c1 : Nat) (l1 : List (S67)) (A2 : Option Addr) (c2 : Nat) (l2 : List (S67)) (A3 : Option Addr) (c3 : Nat) (l3 : List (S54)) (r : Bool) (w : World) (hr1 : Kd.C k67 w A1 l1.length l1) (hc1 : l1.length ≤ c1) (hr2 : Kd.C k67 w A2 l2.length l2) (hc2 : l2.length ≤ c2) (hr3 : Kd.C k54 w A3 l3.length l3) (hc3 : l3.length ≤ c3) (h : constablelaw08_GuardParts.f k a0 l1 l2 l3 = some r) (hr_ : r = true) :
    Calls Try.prog 5 #[.int .i64 a0, .slice A1 l1.length c1, .slice A2 l2.length c2, .slice A3 l3.length c3] w fun e w' => e = .returned (.bool r) ∧ Below w.heap.size w w' := by
  have hu23 := Try.underlying23
  have hu29 := Try.underlying29
  have HR1 := Aside0.mk hr1
  have HC1 := Aside0.mk hc1
  clear hr1 hc1
  have HR2 := Aside0.mk hr2
  have HC2 := Aside0.mk hc2
  clear hr2 hc2
  have HR3 := Aside0.mk hr3
  have HC3 := Aside0.mk hc3
  clear hr3 hc3
  have HB := Aside0.mk (Below.refl w.heap.size w)
  have H : ((constablelaw07_Heavy.f k l1).bind fun t390 => (if t390 = true then (constablelaw08_GuardParts.j0 k a0 l1 l2 l3 true) else ((constablelaw07_Heavy.f k l2).bind fun t391 => (if t391 = true then (constablelaw08_GuardParts.j0 k a0 l1 l2 l3 true) else ((constablelaw05_Heavy.f k l3).bind fun t392 => (if t392 = true then (constablelaw08_GuardParts.j0 k a0 l1 l2 l3 true) else ((constableref01_Expr.f k l1).bind fun t393 => (if t393 = true then ((constableref01_Expr.f k l2).bind fun t394 => (if t394 = true then ((constableref01_Binds.f k l3).bind fun t395 => (constablelaw08_GuardParts.j0 k a0 l1 l2 l3 (!t395))) else (constablelaw08_GuardParts.j0 k a0 l1 l2 l3 true))) else (constablelaw08_GuardParts.j0 k a0 l1 l2 l3 true))))))))) = some r := h
  clear h
  have HR_ := Aside0.mk hr_
  clear hr_
  have HC5 := Aside0.mk H
  clear H
  go_enter Try.func5, Try.ntmps5
  go_upto_region 1 with (fail)
  go_cut [42] (fun v42 wc => ∃ (kq : Nat) (x42_4 : Bool), v42 = .bool x42_4 ∧ Aside0 (constablelaw08_GuardParts.j0 kq a0 l1 l2 l3 x42_4 = some r) ∧ Aside0 (kq ≤ k) ∧ Aside0 (Below w.heap.size w wc))
  case first =>
    have H := HC5.out
    clear HC5
    replace H := Option.bind_eq_some_iff.mp H
    obtain ⟨t390, A60, H⟩ := H
    replace H : (if t390 = true then (constablelaw08_GuardParts.j0 k a0 l1 l2 l3 true) else ((constablelaw07_Heavy.f k l2).bind fun t391 => (if t391 = true then (constablelaw08_GuardParts.j0 k a0 l1 l2 l3 true) else ((constablelaw05_Heavy.f k l3).bind fun t392 => (if t392 = true then (constablelaw08_GuardParts.j0 k a0 l1 l2 l3 true) else ((constableref01_Expr.f k l1).bind fun t393 => (if t393 = true then ((constableref01_Expr.f k l2).bind fun t394 => (if t394 = true then ((constableref01_Binds.f k l3).bind fun t395 => (constablelaw08_GuardParts.j0 k a0 l1 l2 l3 (!t395))) else (constablelaw08_GuardParts.j0 k a0 l1 l2 l3 true))) else (constablelaw08_GuardParts.j0 k a0 l1 l2 l3 true)))))))) = some r := H
    have A6 := Aside0.mk A60
    clear A60
    by_cases c7 : t390 = true
    · subst c7
      have H1 : (constablelaw08_GuardParts.j0 k a0 l1 l2 l3 true) = some r := by rw [if_pos rfl] at H; exact H
      clear H
      have H := H1
      clear H1
      have H' := Aside0.mk H
      clear H
      go_wp2_with (first | ((with_reducible refine gate_callee (f := 20) rfl ?_); refine goesL_ (some 19) rfl rfl Try.func20 (by kernel_rfl) rfl #[.slice A1 l1.length c1] rfl ga_ ?_; (with_reducible refine (constablelaw07_Heavy.calls k _ _ l1 true _ ?side1 ?side2 A6.out).mono ?_); (case side1 => repeat (first | exact (Kd.C_below HR1.out HB.out) | (with_reducible refine Kd.C_alloc ?_ _) | (with_reducible refine Kd.C_drewN ?_ _) | (with_reducible refine Kd.C_drew ?_))); (case side2 => exact HC1.out); rintro e w' ⟨rfl, ⟨nd, rfl⟩⟩; refine ⟨_, rfl, ?_⟩))
      go_meet
      case rel => exact ⟨_, (true), ra_, H', ⟨by first | omega | exact Nat.le_refl _⟩, ⟨by repeat (first | (with_reducible first | exact HB.out | apply below_alloc | apply pw_below_drewN | apply below_drew1) | exact HB.out)⟩⟩
    · replace c7 := Bool.eq_false_iff.mpr c7
      subst c7
      have H1 : ((constablelaw07_Heavy.f k l2).bind fun t391 => (if t391 = true then (constablelaw08_GuardParts.j0 k a0 l1 l2 l3 true) else ((constablelaw05_Heavy.f k l3).bind fun t392 => (if t392 = true then (constablelaw08_GuardParts.j0 k a0 l1 l2 l3 true) else ((constableref01_Expr.f k l1).bind fun t393 => (if t393 = true then ((constableref01_Expr.f k l2).bind fun t394 => (if t394 = true then ((constableref01_Binds.f k l3).bind fun t395 => (constablelaw08_GuardParts.j0 k a0 l1 l2 l3 (!t395))) else (constablelaw08_GuardParts.j0 k a0 l1 l2 l3 true))) else (constablelaw08_GuardParts.j0 k a0 l1 l2 l3 true))))))) = some r := by rw [if_neg (show ¬ (false = true) by decide)] at H; exact H
      clear H
      have H := H1
      clear H1
      replace H := Option.bind_eq_some_iff.mp H
      obtain ⟨t391, A80, H⟩ := H
      replace H : (if t391 = true then (constablelaw08_GuardParts.j0 k a0 l1 l2 l3 true) else ((constablelaw05_Heavy.f k l3).bind fun t392 => (if t392 = true then (constablelaw08_GuardParts.j0 k a0 l1 l2 l3 true) else ((constableref01_Expr.f k l1).bind fun t393 => (if t393 = true then ((constableref01_Expr.f k l2).bind fun t394 => (if t394 = true then ((constableref01_Binds.f k l3).bind fun t395 => (constablelaw08_GuardParts.j0 k a0 l1 l2 l3 (!t395))) else (constablelaw08_GuardParts.j0 k a0 l1 l2 l3 true))) else (constablelaw08_GuardParts.j0 k a0 l1 l2 l3 true)))))) = some r := H
      have A8 := Aside0.mk A80
      clear A80
      by_cases c9 : t391 = true
      · subst c9
        have H1 : (constablelaw08_GuardParts.j0 k a0 l1 l2 l3 true) = some r := by rw [if_pos rfl] at H; exact H
        clear H
        have H := H1
        clear H1
        have H' := Aside0.mk H
        clear H
        go_wp2_with (first | ((with_reducible refine gate_callee (f := 20) rfl ?_); refine goesL_ (some 19) rfl rfl Try.func20 (by kernel_rfl) rfl #[.slice A1 l1.length c1] rfl ga_ ?_; (with_reducible refine (constablelaw07_Heavy.calls k _ _ l1 false _ ?side1 ?side2 A6.out).mono ?_); (case side1 => repeat (first | exact (Kd.C_below HR1.out HB.out) | (with_reducible refine Kd.C_alloc ?_ _) | (with_reducible refine Kd.C_drewN ?_ _) | (with_reducible refine Kd.C_drew ?_))); (case side2 => exact HC1.out); rintro e w' ⟨rfl, ⟨nd, rfl⟩⟩; refine ⟨_, rfl, ?_⟩) | (go_at_call 20; (with_reducible refine (constablelaw07_Heavy.calls k _ _ l2 true _ ?side1 ?side2 A8.out).mono ?_); (case side1 => repeat (first | exact (Kd.C_below HR2.out (be_ HB)) | (with_reducible refine Kd.C_alloc ?_ _) | (with_reducible refine Kd.C_drewN ?_ _) | (with_reducible refine Kd.C_drew ?_))); (case side2 => exact HC2.out); rintro e w' ⟨rfl, ⟨nd, rfl⟩⟩))
        go_meet
        case rel => exact ⟨_, (true), ra_, H', ⟨by first | omega | exact Nat.le_refl _⟩, ⟨by repeat (first | (with_reducible first | exact HB.out | apply below_alloc | apply pw_below_drewN | apply below_drew1) | exact HB.out)⟩⟩
      · replace c9 := Bool.eq_false_iff.mpr c9
        subst c9
        have H1 : ((constablelaw05_Heavy.f k l3).bind fun t392 => (if t392 = true then (constablelaw08_GuardParts.j0 k a0 l1 l2 l3 true) else ((constableref01_Expr.f k l1).bind fun t393 => (if t393 = true then ((constableref01_Expr.f k l2).bind fun t394 => (if t394 = true then ((constableref01_Binds.f k l3).bind fun t395 => (constablelaw08_GuardParts.j0 k a0 l1 l2 l3 (!t395))) else (constablelaw08_GuardParts.j0 k a0 l1 l2 l3 true))) else (constablelaw08_GuardParts.j0 k a0 l1 l2 l3 true))))) = some r := by rw [if_neg (show ¬ (false = true) by decide)] at H; exact H
        clear H
        have H := H1
        clear H1
        replace H := Option.bind_eq_some_iff.mp H
        obtain ⟨t392, A100, H⟩ := H
        replace H : (if t392 = true then (constablelaw08_GuardParts.j0 k a0 l1 l2 l3 true) else ((constableref01_Expr.f k l1).bind fun t393 => (if t393 = true then ((constableref01_Expr.f k l2).bind fun t394 => (if t394 = true then ((constableref01_Binds.f k l3).bind fun t395 => (constablelaw08_GuardParts.j0 k a0 l1 l2 l3 (!t395))) else (constablelaw08_GuardParts.j0 k a0 l1 l2 l3 true))) else (constablelaw08_GuardParts.j0 k a0 l1 l2 l3 true)))) = some r := H
        have A10 := Aside0.mk A100
        clear A100
        by_cases c11 : t392 = true
        · subst c11
          have H1 : (constablelaw08_GuardParts.j0 k a0 l1 l2 l3 true) = some r := by rw [if_pos rfl] at H; exact H
          clear H
          have H := H1
          clear H1
          have H' := Aside0.mk H
          clear H
          go_wp2_with (first | ((with_reducible refine gate_callee (f := 20) rfl ?_); refine goesL_ (some 19) rfl rfl Try.func20 (by kernel_rfl) rfl #[.slice A1 l1.length c1] rfl ga_ ?_; (with_reducible refine (constablelaw07_Heavy.calls k _ _ l1 false _ ?side1 ?side2 A6.out).mono ?_); (case side1 => repeat (first | exact (Kd.C_below HR1.out HB.out) | (with_reducible refine Kd.C_alloc ?_ _) | (with_reducible refine Kd.C_drewN ?_ _) | (with_reducible refine Kd.C_drew ?_))); (case side2 => exact HC1.out); rintro e w' ⟨rfl, ⟨nd, rfl⟩⟩; refine ⟨_, rfl, ?_⟩) | (go_at_call 20; (with_reducible refine (constablelaw07_Heavy.calls k _ _ l2 false _ ?side1 ?side2 A8.out).mono ?_); (case side1 => repeat (first | exact (Kd.C_below HR2.out (be_ HB)) | (with_reducible refine Kd.C_alloc ?_ _) | (with_reducible refine Kd.C_drewN ?_ _) | (with_reducible refine Kd.C_drew ?_))); (case side2 => exact HC2.out); rintro e w' ⟨rfl, ⟨nd, rfl⟩⟩) | (go_at_call 8; (with_reducible refine (constablelaw05_Heavy.calls k _ _ l3 true _ ?side1 ?side2 A10.out).mono ?_); (case side1 => repeat (first | exact (Kd.C_below HR3.out (be_ HB)) | (with_reducible refine Kd.C_alloc ?_ _) | (with_reducible refine Kd.C_drewN ?_ _) | (with_reducible refine Kd.C_drew ?_))); (case side2 => exact HC3.out); rintro e w' ⟨rfl, ⟨nd, rfl⟩⟩))
          go_meet
          case rel => exact ⟨_, (true), ra_, H', ⟨by first | omega | exact Nat.le_refl _⟩, ⟨by repeat (first | (with_reducible first | exact HB.out | apply below_alloc | apply pw_below_drewN | apply below_drew1) | exact HB.out)⟩⟩
        · replace c11 := Bool.eq_false_iff.mpr c11
          subst c11
          have H1 : ((constableref01_Expr.f k l1).bind fun t393 => (if t393 = true then ((constableref01_Expr.f k l2).bind fun t394 => (if t394 = true then ((constableref01_Binds.f k l3).bind fun t395 => (constablelaw08_GuardParts.j0 k a0 l1 l2 l3 (!t395))) else (constablelaw08_GuardParts.j0 k a0 l1 l2 l3 true))) else (constablelaw08_GuardParts.j0 k a0 l1 l2 l3 true))) = some r := by rw [if_neg (show ¬ (false = true) by decide)] at H; exact H
          clear H
          have H := H1
          clear H1
          replace H := Option.bind_eq_some_iff.mp H
          obtain ⟨t393, A120, H⟩ := H
          replace H : (if t393 = true then ((constableref01_Expr.f k l2).bind fun t394 => (if t394 = true then ((constableref01_Binds.f k l3).bind fun t395 => (constablelaw08_GuardParts.j0 k a0 l1 l2 l3 (!t395))) else (constablelaw08_GuardParts.j0 k a0 l1 l2 l3 true))) else (constablelaw08_GuardParts.j0 k a0 l1 l2 l3 true)) = some r := H
          have A12 := Aside0.mk A120
          clear A120
          by_cases c13 : t393 = true
          · subst c13
            have H1 : ((constableref01_Expr.f k l2).bind fun t394 => (if t394 = true then ((constableref01_Binds.f k l3).bind fun t395 => (constablelaw08_GuardParts.j0 k a0 l1 l2 l3 (!t395))) else (constablelaw08_GuardParts.j0 k a0 l1 l2 l3 true))) = some r := by rw [if_pos rfl] at H; exact H
            clear H
            have H := H1
            clear H1
            replace H := Option.bind_eq_some_iff.mp H
            obtain ⟨t394, A140, H⟩ := H
            replace H : (if t394 = true then ((constableref01_Binds.f k l3).bind fun t395 => (constablelaw08_GuardParts.j0 k a0 l1 l2 l3 (!t395))) else (constablelaw08_GuardParts.j0 k a0 l1 l2 l3 true)) = some r := H
            have A14 := Aside0.mk A140
            clear A140
            by_cases c15 : t394 = true
            · subst c15
              have H1 : ((constableref01_Binds.f k l3).bind fun t395 => (constablelaw08_GuardParts.j0 k a0 l1 l2 l3 (!t395))) = some r := by rw [if_pos rfl] at H; exact H
              clear H
              have H := H1
              clear H1
              replace H := Option.bind_eq_some_iff.mp H
              obtain ⟨t395, A160, H⟩ := H
              replace H : (constablelaw08_GuardParts.j0 k a0 l1 l2 l3 (!t395)) = some r := H
              have A16 := Aside0.mk A160
              clear A160
              have H' := Aside0.mk H
              clear H
              go_wp2_with (first | ((with_reducible refine gate_callee (f := 20) rfl ?_); refine goesL_ (some 19) rfl rfl Try.func20 (by kernel_rfl) rfl #[.slice A1 l1.length c1] rfl ga_ ?_; (with_reducible refine (constablelaw07_Heavy.calls k _ _ l1 false _ ?side1 ?side2 A6.out).mono ?_); (case side1 => repeat (first | exact (Kd.C_below HR1.out HB.out) | (with_reducible refine Kd.C_alloc ?_ _) | (with_reducible refine Kd.C_drewN ?_ _) | (with_reducible refine Kd.C_drew ?_))); (case side2 => exact HC1.out); rintro e w' ⟨rfl, ⟨nd, rfl⟩⟩; refine ⟨_, rfl, ?_⟩) | (go_at_call 20; (with_reducible refine (constablelaw07_Heavy.calls k _ _ l2 false _ ?side1 ?side2 A8.out).mono ?_); (case side1 => repeat (first | exact (Kd.C_below HR2.out (be_ HB)) | (with_reducible refine Kd.C_alloc ?_ _) | (with_reducible refine Kd.C_drewN ?_ _) | (with_reducible refine Kd.C_drew ?_))); (case side2 => exact HC2.out); rintro e w' ⟨rfl, ⟨nd, rfl⟩⟩) | (go_at_call 8; (with_reducible refine (constablelaw05_Heavy.calls k _ _ l3 false _ ?side1 ?side2 A10.out).mono ?_); (case side1 => repeat (first | exact (Kd.C_below HR3.out (be_ HB)) | (with_reducible refine Kd.C_alloc ?_ _) | (with_reducible refine Kd.C_drewN ?_ _) | (with_reducible refine Kd.C_drew ?_))); (case side2 => exact HC3.out); rintro e w' ⟨rfl, ⟨nd, rfl⟩⟩) | (go_at_call 21; (with_reducible refine (constableref01_Expr.calls k _ _ l1 true _ ?side1 ?side2 A12.out).mono ?_); (case side1 => repeat (first | exact (Kd.C_below HR1.out (be_ HB)) | (with_reducible refine Kd.C_alloc ?_ _) | (with_reducible refine Kd.C_drewN ?_ _) | (with_reducible refine Kd.C_drew ?_))); (case side2 => exact HC1.out); rintro e w17 ⟨rfl, hb⟩; have n0_ := bs_ (be_ HB) hb; clear HB; have HB := n0_; clear n0_; (try clear hb); (try clear hb2); (try clear hk); (try clear hi)) | (go_at_call 21; (with_reducible refine (constableref01_Expr.calls k _ _ l2 true _ ?side1 ?side2 A14.out).mono ?_); (case side1 => repeat (first | exact (Kd.C_below HR2.out HB.out) | (with_reducible refine Kd.C_alloc ?_ _) | (with_reducible refine Kd.C_drewN ?_ _) | (with_reducible refine Kd.C_drew ?_))); (case side2 => exact HC2.out); rintro e w18 ⟨rfl, hb⟩; have n0_ := bs_ (be_ HB) hb; clear HB; have HB := n0_; clear n0_; (try clear hb); (try clear hb2); (try clear hk); (try clear hi)) | (go_at_call 16; (with_reducible refine (constableref01_Binds.calls k _ _ l3 t395 _ ?side1 ?side2 A16.out).mono ?_); (case side1 => repeat (first | exact (Kd.C_below HR3.out HB.out) | (with_reducible refine Kd.C_alloc ?_ _) | (with_reducible refine Kd.C_drewN ?_ _) | (with_reducible refine Kd.C_drew ?_))); (case side2 => exact HC3.out); rintro e w19 ⟨rfl, hb⟩; have n0_ := bs_ (be_ HB) hb; clear HB; have HB := n0_; clear n0_; (try clear hb); (try clear hb2); (try clear hk); (try clear hi)))
              go_meet
              case rel => exact ⟨_, (!t395), ra_, H', ⟨by first | omega | exact Nat.le_refl _⟩, ⟨by repeat (first | (with_reducible first | exact HB.out | apply below_alloc | apply pw_below_drewN | apply below_drew1) | exact HB.out)⟩⟩
            · replace c15 := Bool.eq_false_iff.mpr c15
              subst c15
              have H1 : (constablelaw08_GuardParts.j0 k a0 l1 l2 l3 true) = some r := by rw [if_neg (show ¬ (false = true) by decide)] at H; exact H
              clear H
              have H := H1
              clear H1
              have H' := Aside0.mk H
              clear H
              go_wp2_with (first | ((with_reducible refine gate_callee (f := 20) rfl ?_); refine goesL_ (some 19) rfl rfl Try.func20 (by kernel_rfl) rfl #[.slice A1 l1.length c1] rfl ga_ ?_; (with_reducible refine (constablelaw07_Heavy.calls k _ _ l1 false _ ?side1 ?side2 A6.out).mono ?_); (case side1 => repeat (first | exact (Kd.C_below HR1.out HB.out) | (with_reducible refine Kd.C_alloc ?_ _) | (with_reducible refine Kd.C_drewN ?_ _) | (with_reducible refine Kd.C_drew ?_))); (case side2 => exact HC1.out); rintro e w' ⟨rfl, ⟨nd, rfl⟩⟩; refine ⟨_, rfl, ?_⟩) | (go_at_call 20; (with_reducible refine (constablelaw07_Heavy.calls k _ _ l2 false _ ?side1 ?side2 A8.out).mono ?_); (case side1 => repeat (first | exact (Kd.C_below HR2.out (be_ HB)) | (with_reducible refine Kd.C_alloc ?_ _) | (with_reducible refine Kd.C_drewN ?_ _) | (with_reducible refine Kd.C_drew ?_))); (case side2 => exact HC2.out); rintro e w' ⟨rfl, ⟨nd, rfl⟩⟩) | (go_at_call 8; (with_reducible refine (constablelaw05_Heavy.calls k _ _ l3 false _ ?side1 ?side2 A10.out).mono ?_); (case side1 => repeat (first | exact (Kd.C_below HR3.out (be_ HB)) | (with_reducible refine Kd.C_alloc ?_ _) | (with_reducible refine Kd.C_drewN ?_ _) | (with_reducible refine Kd.C_drew ?_))); (case side2 => exact HC3.out); rintro e w' ⟨rfl, ⟨nd, rfl⟩⟩) | (go_at_call 21; (with_reducible refine (constableref01_Expr.calls k _ _ l1 true _ ?side1 ?side2 A12.out).mono ?_); (case side1 => repeat (first | exact (Kd.C_below HR1.out (be_ HB)) | (with_reducible refine Kd.C_alloc ?_ _) | (with_reducible refine Kd.C_drewN ?_ _) | (with_reducible refine Kd.C_drew ?_))); (case side2 => exact HC1.out); rintro e w20 ⟨rfl, hb⟩; have n0_ := bs_ (be_ HB) hb; clear HB; have HB := n0_; clear n0_; (try clear hb); (try clear hb2); (try clear hk); (try clear hi)) | (go_at_call 21; (with_reducible refine (constableref01_Expr.calls k _ _ l2 false _ ?side1 ?side2 A14.out).mono ?_); (case side1 => repeat (first | exact (Kd.C_below HR2.out HB.out) | (with_reducible refine Kd.C_alloc ?_ _) | (with_reducible refine Kd.C_drewN ?_ _) | (with_reducible refine Kd.C_drew ?_))); (case side2 => exact HC2.out); rintro e w21 ⟨rfl, hb⟩; have n0_ := bs_ (be_ HB) hb; clear HB; have HB := n0_; clear n0_; (try clear hb); (try clear hb2); (try clear hk); (try clear hi)))
              go_meet
              case rel => exact ⟨_, (true), ra_, H', ⟨by first | omega | exact Nat.le_refl _⟩, ⟨by repeat (first | (with_reducible first | exact HB.out | apply below_alloc | apply pw_below_drewN | apply below_drew1) | exact HB.out)⟩⟩
          · replace c13 := Bool.eq_false_iff.mpr c13
            subst c13
            have H1 : (constablelaw08_GuardParts.j0 k a0 l1 l2 l3 true) = some r := by rw [if_neg (show ¬ (false = true) by decide)] at H; exact H
            clear H
            have H := H1
            clear H1
            have H' := Aside0.mk H
            clear H
            go_wp2_with (first | ((with_reducible refine gate_callee (f := 20) rfl ?_); refine goesL_ (some 19) rfl rfl Try.func20 (by kernel_rfl) rfl #[.slice A1 l1.length c1] rfl ga_ ?_; (with_reducible refine (constablelaw07_Heavy.calls k _ _ l1 false _ ?side1 ?side2 A6.out).mono ?_); (case side1 => repeat (first | exact (Kd.C_below HR1.out HB.out) | (with_reducible refine Kd.C_alloc ?_ _) | (with_reducible refine Kd.C_drewN ?_ _) | (with_reducible refine Kd.C_drew ?_))); (case side2 => exact HC1.out); rintro e w' ⟨rfl, ⟨nd, rfl⟩⟩; refine ⟨_, rfl, ?_⟩) | (go_at_call 20; (with_reducible refine (constablelaw07_Heavy.calls k _ _ l2 false _ ?side1 ?side2 A8.out).mono ?_); (case side1 => repeat (first | exact (Kd.C_below HR2.out (be_ HB)) | (with_reducible refine Kd.C_alloc ?_ _) | (with_reducible refine Kd.C_drewN ?_ _) | (with_reducible refine Kd.C_drew ?_))); (case side2 => exact HC2.out); rintro e w' ⟨rfl, ⟨nd, rfl⟩⟩) | (go_at_call 8; (with_reducible refine (constablelaw05_Heavy.calls k _ _ l3 false _ ?side1 ?side2 A10.out).mono ?_); (case side1 => repeat (first | exact (Kd.C_below HR3.out (be_ HB)) | (with_reducible refine Kd.C_alloc ?_ _) | (with_reducible refine Kd.C_drewN ?_ _) | (with_reducible refine Kd.C_drew ?_))); (case side2 => exact HC3.out); rintro e w' ⟨rfl, ⟨nd, rfl⟩⟩) | (go_at_call 21; (with_reducible refine (constableref01_Expr.calls k _ _ l1 false _ ?side1 ?side2 A12.out).mono ?_); (case side1 => repeat (first | exact (Kd.C_below HR1.out (be_ HB)) | (with_reducible refine Kd.C_alloc ?_ _) | (with_reducible refine Kd.C_drewN ?_ _) | (with_reducible refine Kd.C_drew ?_))); (case side2 => exact HC1.out); rintro e w22 ⟨rfl, hb⟩; have n0_ := bs_ (be_ HB) hb; clear HB; have HB := n0_; clear n0_; (try clear hb); (try clear hb2); (try clear hk); (try clear hi)))
            go_meet
            case rel => exact ⟨_, (true), ra_, H', ⟨by first | omega | exact Nat.le_refl _⟩, ⟨by repeat (first | (with_reducible first | exact HB.out | apply below_alloc | apply pw_below_drewN | apply below_drew1) | exact HB.out)⟩⟩
  case rest =>
    clear HC5
    try clear c1
    try clear c2
    try clear p2
    try clear c3
    try clear c5
    try clear c7
    try clear c9
    try clear c11
    try clear c13
    try clear c15
    try clear c20
    obtain ⟨kq, x42_4, rfl, HA, HJ4, HB⟩ := hcut
    cases kq with
    | zero => exact absurd HA.out (by simp [constablelaw08_GuardParts.j0])
    | succ kj4 =>
      have H := HA.out
      clear HA
      simp only [constablelaw08_GuardParts.j0] at H
      by_cases c23 : x42_4 = true
      · subst c23
        have H1 : (some true) = some r := by rw [if_pos rfl] at H; exact H
        clear H
        have H := H1
        clear H1
        obtain rfl := Option.some.inj H
        go_wp2
        go_ret
        exact ⟨by first | rfl | (simp [errW_none, errW_some] <;> rfl) | (simp [*, errW_none, errW_some] <;> rfl), by repeat (first | (with_reducible first | exact HB.out | apply below_alloc | apply pw_below_drewN | apply below_drew1) | exact HB.out)⟩
      · replace c23 := Bool.eq_false_iff.mpr c23
        subst c23
        have H1 : ((expr_Eval.f kj4 l1 l3).bind fun bt396 => ((expr_Eval.f kj4 l2 l3).bind fun bt401 => ((guard_Eval.f kj4 3 (⟨#[]⟩ : ByteArray) ([] : List (S72)) (wrap64 (1 + (wrap64 (Int.tmod (IntKind.u64.wrap (a0)) 4)))) l1 l2 l3).bind fun bt407 => (if bt396.2.2.2 = 0 then (if bt401.2.2.2 = 0 then ((guard_Holds.f kj4 (wrap64 (1 + (wrap64 (Int.tmod (IntKind.u64.wrap (a0)) 4)))) bt396.1 bt396.2.1 bt396.2.2.1 bt401.1 bt401.2.1 bt401.2.2.1).bind fun bt410 => (if bt407.2 = bt410.2 then (if (bt407.1 == bt410.1) = true then ((guard_Check.f kj4 3 (⟨#[]⟩ : ByteArray) ([] : List (S72)) (wrap64 (1 + (wrap64 (Int.tmod (IntKind.u64.wrap (a0)) 4)))) l1 l2).bind fun t412 => (if t412 = 0 then ((constablelaw08_wakes.f kj4).bind fun t413 => (some t413)) else (some false))) else (some false)) else (some false))) else (if bt407.2 = bt401.2.2.2 then (if bt407.1 = true then (some false) else ((constablelaw08_wakes.f kj4).bind fun t414 => (some t414))) else (some false))) else (if bt407.2 = bt396.2.2.2 then (if bt407.1 = true then (some false) else ((constablelaw08_wakes.f kj4).bind fun t409 => (some t409))) else (some false)))))) = some r := by rw [if_neg (show ¬ (false = true) by decide)] at H; exact H
        clear H
        have H := H1
        clear H1
        replace H := Option.bind_eq_some_iff.mp H
        obtain ⟨⟨t396, t397, t398, t399⟩, A240, H⟩ := H
        replace H : ((expr_Eval.f kj4 l2 l3).bind fun bt401 => ((guard_Eval.f kj4 3 (⟨#[]⟩ : ByteArray) ([] : List (S72)) (wrap64 (1 + (wrap64 (Int.tmod (IntKind.u64.wrap (a0)) 4)))) l1 l2 l3).bind fun bt407 => (if t399 = 0 then (if bt401.2.2.2 = 0 then ((guard_Holds.f kj4 (wrap64 (1 + (wrap64 (Int.tmod (IntKind.u64.wrap (a0)) 4)))) t396 t397 t398 bt401.1 bt401.2.1 bt401.2.2.1).bind fun bt410 => (if bt407.2 = bt410.2 then (if (bt407.1 == bt410.1) = true then ((guard_Check.f kj4 3 (⟨#[]⟩ : ByteArray) ([] : List (S72)) (wrap64 (1 + (wrap64 (Int.tmod (IntKind.u64.wrap (a0)) 4)))) l1 l2).bind fun t412 => (if t412 = 0 then ((constablelaw08_wakes.f kj4).bind fun t413 => (some t413)) else (some false))) else (some false)) else (some false))) else (if bt407.2 = bt401.2.2.2 then (if bt407.1 = true then (some false) else ((constablelaw08_wakes.f kj4).bind fun t414 => (some t414))) else (some false))) else (if bt407.2 = t399 then (if bt407.1 = true then (some false) else ((constablelaw08_wakes.f kj4).bind fun t409 => (some t409))) else (some false))))) = some r := H
        have A24 := Aside0.mk A240
        clear A240
        replace H := Option.bind_eq_some_iff.mp H
        obtain ⟨⟨t401, t402, t403, t404⟩, A250, H⟩ := H
        replace H : ((guard_Eval.f kj4 3 (⟨#[]⟩ : ByteArray) ([] : List (S72)) (wrap64 (1 + (wrap64 (Int.tmod (IntKind.u64.wrap (a0)) 4)))) l1 l2 l3).bind fun bt407 => (if t399 = 0 then (if t404 = 0 then ((guard_Holds.f kj4 (wrap64 (1 + (wrap64 (Int.tmod (IntKind.u64.wrap (a0)) 4)))) t396 t397 t398 t401 t402 t403).bind fun bt410 => (if bt407.2 = bt410.2 then (if (bt407.1 == bt410.1) = true then ((guard_Check.f kj4 3 (⟨#[]⟩ : ByteArray) ([] : List (S72)) (wrap64 (1 + (wrap64 (Int.tmod (IntKind.u64.wrap (a0)) 4)))) l1 l2).bind fun t412 => (if t412 = 0 then ((constablelaw08_wakes.f kj4).bind fun t413 => (some t413)) else (some false))) else (some false)) else (some false))) else (if bt407.2 = t404 then (if bt407.1 = true then (some false) else ((constablelaw08_wakes.f kj4).bind fun t414 => (some t414))) else (some false))) else (if bt407.2 = t399 then (if bt407.1 = true then (some false) else ((constablelaw08_wakes.f kj4).bind fun t409 => (some t409))) else (some false)))) = some r := H
        have A25 := Aside0.mk A250
        clear A250
        replace H := Option.bind_eq_some_iff.mp H
        obtain ⟨⟨t407, t408⟩, A260, H⟩ := H
        replace H : (if t399 = 0 then (if t404 = 0 then ((guard_Holds.f kj4 (wrap64 (1 + (wrap64 (Int.tmod (IntKind.u64.wrap (a0)) 4)))) t396 t397 t398 t401 t402 t403).bind fun bt410 => (if t408 = bt410.2 then (if (t407 == bt410.1) = true then ((guard_Check.f kj4 3 (⟨#[]⟩ : ByteArray) ([] : List (S72)) (wrap64 (1 + (wrap64 (Int.tmod (IntKind.u64.wrap (a0)) 4)))) l1 l2).bind fun t412 => (if t412 = 0 then ((constablelaw08_wakes.f kj4).bind fun t413 => (some t413)) else (some false))) else (some false)) else (some false))) else (if t408 = t404 then (if t407 = true then (some false) else ((constablelaw08_wakes.f kj4).bind fun t414 => (some t414))) else (some false))) else (if t408 = t399 then (if t407 = true then (some false) else ((constablelaw08_wakes.f kj4).bind fun t409 => (some t409))) else (some false))) = some r := H
        have A26 := Aside0.mk A260
        clear A260
        by_cases c27 : t399 = 0
        · rw [if_pos c27] at H
          obtain ⟨c27b0, c27b1⟩ := eqB_ c27
          clear c27
          by_cases c28 : t404 = 0
          · rw [if_pos c28] at H
            obtain ⟨c28b0, c28b1⟩ := eqB_ c28
            clear c28
            replace H := Option.bind_eq_some_iff.mp H
            obtain ⟨⟨t410, t411⟩, A290, H⟩ := H
            replace H : (if t408 = t411 then (if (t407 == t410) = true then ((guard_Check.f kj4 3 (⟨#[]⟩ : ByteArray) ([] : List (S72)) (wrap64 (1 + (wrap64 (Int.tmod (IntKind.u64.wrap (a0)) 4)))) l1 l2).bind fun t412 => (if t412 = 0 then ((constablelaw08_wakes.f kj4).bind fun t413 => (some t413)) else (some false))) else (some false)) else (some false)) = some r := H
            have A29 := Aside0.mk A290
            clear A290
            by_cases c30 : t408 = t411
            · rw [if_pos c30] at H
              obtain ⟨c30b0, c30b1⟩ := eqB_ c30
              clear c30
              by_cases c31 : (t407 == t410) = true
              · rw [if_pos c31] at H
                have c31b0 : (t407 == t410) = true := c31
                (try (have c31b1 : decide (t407 = t410) = true := by simpa using c31))
                (try (have c31b2 : (t407 == t410) = true := by simpa using c31))
                clear c31
                replace H := Option.bind_eq_some_iff.mp H
                obtain ⟨t412, A320, H⟩ := H
                replace H : (if t412 = 0 then ((constablelaw08_wakes.f kj4).bind fun t413 => (some t413)) else (some false)) = some r := H
                have A32 := Aside0.mk A320
                clear A320
                by_cases c33 : t412 = 0
                · rw [if_pos c33] at H
                  obtain ⟨c33b0, c33b1⟩ := eqB_ c33
                  clear c33
                  replace H := Option.bind_eq_some_iff.mp H
                  obtain ⟨t413, A340, H⟩ := H
                  replace H : (some t413) = some r := H
                  have A34 := Aside0.mk A340
                  clear A340
                  obtain rfl := Option.some.inj H
                  go_wp2_with (first | ((with_reducible refine gate_callee (f := 22) rfl ?_); refine goesL_ (some 51) rfl rfl Try.func22 (by kernel_rfl) rfl #[.slice A1 l1.length c1, .slice A3 l3.length c3] rfl ga_ ?_; (with_reducible refine (expr_Eval.calls kj4 _ _ l1 _ _ l3 t396 t397 t398 t399 _ ?side1 ?side2 ?side3 ?side4 A24.out).mono ?_); (case side1 => repeat (first | exact (Kd.C_below HR1.out HB.out) | (with_reducible refine Kd.C_alloc ?_ _) | (with_reducible refine Kd.C_drewN ?_ _) | (with_reducible refine Kd.C_drew ?_))); (case side2 => exact HC1.out); (case side3 => repeat (first | exact (Kd.C_below HR3.out HB.out) | (with_reducible refine Kd.C_alloc ?_ _) | (with_reducible refine Kd.C_drewN ?_ _) | (with_reducible refine Kd.C_drew ?_))); (case side4 => exact HC3.out); rintro e w35 ⟨rfl, hb⟩; refine ⟨_, rfl, ?_⟩; have n0_ := bs_ (be_ HB) hb; clear HB; have HB := n0_; clear n0_; (try clear hb); (try clear hb2); (try clear hk); (try clear hi)) | ((with_reducible refine gate_dst (N := 9) rfl ?_); refine box_event ?hg (N := 9) ?hd (cs := #[.int .i64 0, .int .i64 0, .string (⟨#[]⟩ : ByteArray)]) (t := 23) ?hr ?_; (case hd => rfl); (case hg => rfl); (case hr => first | (go_simp; done) | (go_simp; rfl)); intro gb400 hg w36 hbox hb; have n0_ := bs_ (be_ HB) hb; have n1_ := Aside0.mk (hbox); have n2_ := gs_ hg (be_ HB); have n3_ := gs_ hg (be_ HB); clear HB; have HB := n0_; have BK400 := n1_; have GW400 := n2_; have GE400 := n3_; clear n0_ n1_ n2_ n3_; clear hb hbox hg; have hcz37_0 : w36.cell? ⟨gb400, 0, none⟩ = some (.int .i64 0) := (blk_cell BK400.out 0).trans rfl; have hcz37_1 : w36.cell? ⟨gb400, 1, none⟩ = some (.int .i64 0) := (blk_cell BK400.out 1).trans rfl; have hcz37_2 : w36.cell? ⟨gb400, 2, none⟩ = some (.string (⟨#[]⟩ : ByteArray)) := (blk_cell BK400.out 2).trans rfl; have hfz37_0 := blk_frozen BK400.out 0; have hfz37_1 := blk_frozen BK400.out 1; have hfz37_2 := blk_frozen BK400.out 2) | ((with_reducible refine gate_callee (f := 22) rfl ?_); refine goesL_ (some 57) rfl rfl Try.func22 (by kernel_rfl) rfl #[.slice A2 l2.length c2, .slice A3 l3.length c3] rfl ga_ ?_; (with_reducible refine (expr_Eval.calls kj4 _ _ l2 _ _ l3 t401 t402 t403 t404 _ ?side1 ?side2 ?side3 ?side4 A25.out).mono ?_); (case side1 => exact Kd.C_below HR2.out (be_ HB)); (case side2 => exact HC2.out); (case side3 => exact Kd.C_below HR3.out (be_ HB)); (case side4 => exact HC3.out); rintro e w38 ⟨rfl, hb⟩; refine ⟨_, rfl, ?_⟩; have n0_ := Aside0.mk (blk_below (o := .cells #[.int .i64 t396, .int .i64 t397, .string t398] 23 (0, 0)) (bp_ BK400) hb); have n1_ := bs_ (be_ HB) hb; clear BK400; clear HB; have BK400 := n0_; have HB := n1_; clear n0_ n1_; (try clear hcz37_0 hcz37_1 hcz37_2 hfz37_0 hfz37_1 hfz37_2); (try clear hb); (try clear hb2); (try clear hk); (try clear hi)) | ((with_reducible refine gate_dst (N := 11) rfl ?_); refine box_event ?hg (N := 11) ?hd (cs := #[.int .i64 0, .int .i64 0, .string (⟨#[]⟩ : ByteArray)]) (t := 23) ?hr ?_; (case hd => rfl); (case hg => rfl); (case hr => first | (go_simp; done) | (go_simp; rfl)); intro gb405 hg w39 hbox hb; have n0_ := bb_ (bu_ BK400) hb; have n1_ := bs_ (be_ HB) hb; have n2_ := Aside0.mk (hbox); have n3_ := gs_ hg (be_ HB); have n4_ := gs_ hg (be_ HB); have n5_ := nl_ hg (bu_ BK400); have n6_ := ng_ hg (bu_ BK400); clear BK400; clear HB; have BK400 := n0_; have HB := n1_; have BK405 := n2_; have GW405 := n3_; have GE405 := n4_; have NB400_405 := n5_; have NB405_400 := n6_; clear n0_ n1_ n2_ n3_ n4_ n5_ n6_; clear hb hbox hg; have hnb40 := NB405_400.out; have hnc40 := NB400_405.out; have hcz41_0 : w39.cell? ⟨gb405, 0, none⟩ = some (.int .i64 0) := (blk_cell BK405.out 0).trans rfl; have hcz41_1 : w39.cell? ⟨gb405, 1, none⟩ = some (.int .i64 0) := (blk_cell BK405.out 1).trans rfl; have hcz41_2 : w39.cell? ⟨gb405, 2, none⟩ = some (.string (⟨#[]⟩ : ByteArray)) := (blk_cell BK405.out 2).trans rfl; have hfz41_0 := blk_frozen BK405.out 0; have hfz41_1 := blk_frozen BK405.out 1; have hfz41_2 := blk_frozen BK405.out 2) | ((with_reducible refine gate_dst (N := 13) rfl ?_); refine box_event ?hg (N := 13) ?hd (cs := #[.int .i64 0, .string (⟨#[]⟩ : ByteArray), .slice none 0 0, .int .i64 0, .slice none 0 0, .slice none 0 0]) (t := 29) ?hr ?_; (case hd => rfl); (case hg => rfl); (case hr => first | (go_simp; done) | (go_simp; rfl)); intro gb406 hg w42 hbox hb; have n0_ := bb_ (bu_ BK400) hb; have n1_ := Aside0.mk (blk_below (o := .cells #[.int .i64 t401, .int .i64 t402, .string t403] 23 (0, 0)) (bp_ BK405) hb); have n2_ := bs_ (be_ HB) hb; have n3_ := Aside0.mk (hbox); have n4_ := gs_ hg (be_ HB); have n5_ := gs_ hg (be_ HB); have n6_ := nl_ hg (bu_ BK400); have n7_ := ng_ hg (bu_ BK400); have n8_ := Aside0.mk ((by rw [hg]; exact Nat.ne_of_lt (blk_lt (o := .cells #[.int .i64 t401, .int .i64 t402, .string t403] 23 (0, 0)) (bp_ BK405)) : gb405 ≠ gb406)); have n9_ := Aside0.mk ((by rw [hg]; exact Nat.ne_of_gt (blk_lt (o := .cells #[.int .i64 t401, .int .i64 t402, .string t403] 23 (0, 0)) (bp_ BK405)) : gb406 ≠ gb405)); clear BK400; clear BK405; clear HB; have BK400 := n0_; have BK405 := n1_; have HB := n2_; have BK406 := n3_; have GW406 := n4_; have GE406 := n5_; have NB400_406 := n6_; have NB406_400 := n7_; have NB405_406 := n8_; have NB406_405 := n9_; clear n0_ n1_ n2_ n3_ n4_ n5_ n6_ n7_ n8_ n9_; (try clear hcz41_0 hcz41_1 hcz41_2 hfz41_0 hfz41_1 hfz41_2); clear hb hbox hg; have hnb43 := NB406_400.out; have hnc43 := NB400_406.out; have hnb44 := NB406_405.out; have hnc44 := NB405_406.out; have hcz45_0 : w42.cell? ⟨gb406, 0, none⟩ = some (.int .i64 0) := (blk_cell BK406.out 0).trans rfl; have hcz45_1 : w42.cell? ⟨gb406, 1, none⟩ = some (.string (⟨#[]⟩ : ByteArray)) := (blk_cell BK406.out 1).trans rfl; have hcz45_2 : w42.cell? ⟨gb406, 2, none⟩ = some (.slice none 0 0) := (blk_cell BK406.out 2).trans rfl; have hcz45_3 : w42.cell? ⟨gb406, 3, none⟩ = some (.int .i64 0) := (blk_cell BK406.out 3).trans rfl; have hcz45_4 : w42.cell? ⟨gb406, 4, none⟩ = some (.slice none 0 0) := (blk_cell BK406.out 4).trans rfl; have hcz45_5 : w42.cell? ⟨gb406, 5, none⟩ = some (.slice none 0 0) := (blk_cell BK406.out 5).trans rfl; have hfz45_0 := blk_frozen BK406.out 0; have hfz45_1 := blk_frozen BK406.out 1; have hfz45_2 := blk_frozen BK406.out 2; have hfz45_3 := blk_frozen BK406.out 3; have hfz45_4 := blk_frozen BK406.out 4; have hfz45_5 := blk_frozen BK406.out 5) | ((with_reducible refine gate_callee (f := 12) rfl ?_); refine goesL_ (some 67) rfl rfl Try.func12 (by kernel_rfl) rfl #[.agg #[.int .i64 3, .string (⟨#[]⟩ : ByteArray), .slice none 0 0, .int .i64 (wrap64 (1 + (wrap64 (Int.tmod (IntKind.u64.wrap (a0)) 4)))), .slice A1 l1.length c1, .slice A2 l2.length c2], .slice A3 l3.length c3] rfl ga_ ?_; (refine (guard_Eval.calls kj4 3 (⟨#[]⟩ : ByteArray) none 0 ([] : List (S72)) (wrap64 (1 + (wrap64 (Int.tmod (IntKind.u64.wrap (a0)) 4)))) _ _ l1 _ _ l2 _ _ l3 t407 t408 _ ?side1 ?side2 ?side3 ?side4 ?side5 ?side6 ?side7 ?side8 A26.out).mono ?_); (case side1 => exact Kd.C_nil _ _); (case side2 => exact Nat.le_refl _); (case side3 => exact Kd.C_below HR1.out (be_ HB)); (case side4 => exact HC1.out); (case side5 => exact Kd.C_below HR2.out (be_ HB)); (case side6 => exact HC2.out); (case side7 => exact Kd.C_below HR3.out (be_ HB)); (case side8 => exact HC3.out); rintro e w46 ⟨rfl, hb⟩; refine ⟨_, rfl, ?_⟩; have n0_ := bb_ (bu_ BK400) hb; have n1_ := bb_ (bu_ BK405) hb; have n2_ := Aside0.mk (blk_below (o := .cells #[.int .i64 3, .string (⟨#[]⟩ : ByteArray), .slice none 0 0, .int .i64 (wrap64 (1 + (wrap64 (Int.tmod (IntKind.u64.wrap (a0)) 4)))), .slice A1 l1.length c1, .slice A2 l2.length c2] 29 (0, 0)) (bp_ BK406) hb); have n3_ := bs_ (be_ HB) hb; clear BK400; clear BK405; clear BK406; clear HB; have BK400 := n0_; have BK405 := n1_; have BK406 := n2_; have HB := n3_; clear n0_ n1_ n2_ n3_; (try clear hcz45_0 hcz45_1 hcz45_2 hcz45_3 hcz45_4 hcz45_5 hfz45_0 hfz45_1 hfz45_2 hfz45_3 hfz45_4 hfz45_5); (try clear hb); (try clear hb2); (try clear hk); (try clear hi); have hcz47_0 : w46.cell? ⟨gb400, 0, none⟩ = some (.int .i64 t396) := (blk_cell BK400.out 0).trans rfl; have hcz47_1 : w46.cell? ⟨gb400, 1, none⟩ = some (.int .i64 t397) := (blk_cell BK400.out 1).trans rfl; have hcz47_2 : w46.cell? ⟨gb400, 2, none⟩ = some (.string t398) := (blk_cell BK400.out 2).trans rfl; have hfz47_0 := blk_frozen BK400.out 0; have hfz47_1 := blk_frozen BK400.out 1; have hfz47_2 := blk_frozen BK400.out 2; have hcz48_0 : w46.cell? ⟨gb405, 0, none⟩ = some (.int .i64 t401) := (blk_cell BK405.out 0).trans rfl; have hcz48_1 : w46.cell? ⟨gb405, 1, none⟩ = some (.int .i64 t402) := (blk_cell BK405.out 1).trans rfl; have hcz48_2 : w46.cell? ⟨gb405, 2, none⟩ = some (.string t403) := (blk_cell BK405.out 2).trans rfl; have hfz48_0 := blk_frozen BK405.out 0; have hfz48_1 := blk_frozen BK405.out 1; have hfz48_2 := blk_frozen BK405.out 2; (try clear A26)) | ((with_reducible refine gate_callee (f := 10) rfl ?_); refine goesL_ (some 98) rfl rfl Try.func10 (by kernel_rfl) rfl #[.int .i64 (wrap64 (1 + (wrap64 (Int.tmod (IntKind.u64.wrap (a0)) 4)))), .agg #[.int .i64 t396, .int .i64 t397, .string t398], .agg #[.int .i64 t401, .int .i64 t402, .string t403]] rfl ga_ ?_; (with_reducible refine (guard_Holds.calls kj4 (wrap64 (1 + (wrap64 (Int.tmod (IntKind.u64.wrap (a0)) 4)))) t396 t397 t398 t401 t402 t403 t410 t411 _ A29.out).mono ?_); rintro e w49 ⟨rfl, hb⟩; refine ⟨_, rfl, ?_⟩; have n0_ := bb_ (bu_ BK400) hb; have n1_ := bb_ (bu_ BK405) hb; have n2_ := bb_ (bu_ BK406) hb; have n3_ := bs_ (be_ HB) hb; clear BK400; clear BK405; clear BK406; clear HB; have BK400 := n0_; have BK405 := n1_; have BK406 := n2_; have HB := n3_; clear n0_ n1_ n2_ n3_; (try clear hcz47_0 hcz47_1 hcz47_2 hfz47_0 hfz47_1 hfz47_2 hcz48_0 hcz48_1 hcz48_2 hfz48_0 hfz48_1 hfz48_2); (try clear hb); (try clear hb2); (try clear hk); (try clear hi); have hcz50_0 : w49.cell? ⟨gb406, 0, none⟩ = some (.int .i64 3) := (blk_cell BK406.out 0).trans rfl; have hcz50_1 : w49.cell? ⟨gb406, 1, none⟩ = some (.string (⟨#[]⟩ : ByteArray)) := (blk_cell BK406.out 1).trans rfl; have hcz50_2 : w49.cell? ⟨gb406, 2, none⟩ = some (.slice none 0 0) := (blk_cell BK406.out 2).trans rfl; have hcz50_3 : w49.cell? ⟨gb406, 3, none⟩ = some (.int .i64 (wrap64 (1 + (wrap64 (Int.tmod (IntKind.u64.wrap (a0)) 4))))) := (blk_cell BK406.out 3).trans rfl; have hcz50_4 : w49.cell? ⟨gb406, 4, none⟩ = some (.slice A1 l1.length c1) := (blk_cell BK406.out 4).trans rfl; have hcz50_5 : w49.cell? ⟨gb406, 5, none⟩ = some (.slice A2 l2.length c2) := (blk_cell BK406.out 5).trans rfl; have hfz50_0 := blk_frozen BK406.out 0; have hfz50_1 := blk_frozen BK406.out 1; have hfz50_2 := blk_frozen BK406.out 2; have hfz50_3 := blk_frozen BK406.out 3; have hfz50_4 := blk_frozen BK406.out 4; have hfz50_5 := blk_frozen BK406.out 5) | (go_at_call 15; (refine (guard_Check.calls kj4 3 (⟨#[]⟩ : ByteArray) none 0 ([] : List (S72)) (wrap64 (1 + (wrap64 (Int.tmod (IntKind.u64.wrap (a0)) 4)))) _ _ l1 _ _ l2 t412 _ ?side1 ?side2 ?side3 ?side4 ?side5 ?side6 A32.out).mono ?_); (case side1 => exact Kd.C_nil _ _); (case side2 => exact Nat.le_refl _); (case side3 => repeat (first | exact (Kd.C_below HR1.out HB.out) | (with_reducible refine Kd.C_alloc ?_ _) | (with_reducible refine Kd.C_drewN ?_ _) | (with_reducible refine Kd.C_drew ?_))); (case side4 => exact HC1.out); (case side5 => repeat (first | exact (Kd.C_below HR2.out HB.out) | (with_reducible refine Kd.C_alloc ?_ _) | (with_reducible refine Kd.C_drewN ?_ _) | (with_reducible refine Kd.C_drew ?_))); (case side6 => exact HC2.out); rintro e w51 ⟨rfl, hb⟩; have n0_ := bb_ (bu_ BK400) hb; have n1_ := bb_ (bu_ BK405) hb; have n2_ := bb_ (bu_ BK406) hb; have n3_ := bs_ (be_ HB) hb; clear BK400; clear BK405; clear BK406; clear HB; have BK400 := n0_; have BK405 := n1_; have BK406 := n2_; have HB := n3_; clear n0_ n1_ n2_ n3_; (try clear hcz50_0 hcz50_1 hcz50_2 hcz50_3 hcz50_4 hcz50_5 hfz50_0 hfz50_1 hfz50_2 hfz50_3 hfz50_4 hfz50_5); (try clear hb); (try clear hb2); (try clear hk); (try clear hi); (try clear A32)) | (go_at_call 17; (with_reducible refine (constablelaw08_wakes.calls kj4  t413 _ A34.out HR_.out).mono ?_); rintro e w52 ⟨rfl, hb⟩; have n0_ := bb_ (bu_ BK400) hb; have n1_ := bb_ (bu_ BK405) hb; have n2_ := bb_ (bu_ BK406) hb; have n3_ := bs_ (be_ HB) hb; clear BK400; clear BK405; clear BK406; clear HB; have BK400 := n0_; have BK405 := n1_; have BK406 := n2_; have HB := n3_; clear n0_ n1_ n2_ n3_; (try clear hb); (try clear hb2); (try clear hk); (try clear hi)))
                  go_ret
                  exact ⟨by first | rfl | (simp [errW_none, errW_some] <;> rfl) | (simp [*, errW_none, errW_some] <;> rfl), by repeat (first | (with_reducible first | exact HB.out | apply below_alloc | apply pw_below_drewN | apply below_drew1 | refine below_set ?_ GE400.out | refine below_set ?_ GE405.out | refine below_set ?_ GE406.out) | exact HB.out)⟩
                · rw [if_neg c33] at H
                  obtain ⟨c33b0, c33b1⟩ := neB_ c33
                  exact absurd ((Option.some.inj H).trans HR_.out) (by decide)
              · rw [if_neg c31] at H
                have c31b0 : (t407 == t410) = false := by simpa using c31
                (try (have c31b1 : decide (t407 = t410) = false := by simpa using c31))
                (try (have c31b2 : (t407 == t410) = false := by simpa using c31))
                (try (have c31b3 : ¬ (t407 = t410) := by simpa using c31))
                clear c31
                exact absurd ((Option.some.inj H).trans HR_.out) (by decide)
            · rw [if_neg c30] at H
              obtain ⟨c30b0, c30b1⟩ := neB_ c30
              exact absurd ((Option.some.inj H).trans HR_.out) (by decide)
          · rw [if_neg c28] at H
            obtain ⟨c28b0, c28b1⟩ := neB_ c28
            by_cases c53 : t408 = t404
            · rw [if_pos c53] at H
              obtain ⟨c53b0, c53b1⟩ := eqB_ c53
              clear c53
              by_cases c54 : t407 = true
              · subst c54
                have H1 : (some false) = some r := by rw [if_pos rfl] at H; exact H
                clear H
                have H := H1
                clear H1
                exact absurd ((Option.some.inj H).trans HR_.out) (by decide)
              · replace c54 := Bool.eq_false_iff.mpr c54
                subst c54
                have H1 : ((constablelaw08_wakes.f kj4).bind fun t414 => (some t414)) = some r := by rw [if_neg (show ¬ (false = true) by decide)] at H; exact H
                clear H
                have H := H1
                clear H1
                replace H := Option.bind_eq_some_iff.mp H
                obtain ⟨t414, A550, H⟩ := H
                replace H : (some t414) = some r := H
                have A55 := Aside0.mk A550
                clear A550
                obtain rfl := Option.some.inj H
                go_wp2_with (first | ((with_reducible refine gate_callee (f := 22) rfl ?_); refine goesL_ (some 51) rfl rfl Try.func22 (by kernel_rfl) rfl #[.slice A1 l1.length c1, .slice A3 l3.length c3] rfl ga_ ?_; (with_reducible refine (expr_Eval.calls kj4 _ _ l1 _ _ l3 t396 t397 t398 t399 _ ?side1 ?side2 ?side3 ?side4 A24.out).mono ?_); (case side1 => repeat (first | exact (Kd.C_below HR1.out HB.out) | (with_reducible refine Kd.C_alloc ?_ _) | (with_reducible refine Kd.C_drewN ?_ _) | (with_reducible refine Kd.C_drew ?_))); (case side2 => exact HC1.out); (case side3 => repeat (first | exact (Kd.C_below HR3.out HB.out) | (with_reducible refine Kd.C_alloc ?_ _) | (with_reducible refine Kd.C_drewN ?_ _) | (with_reducible refine Kd.C_drew ?_))); (case side4 => exact HC3.out); rintro e w56 ⟨rfl, hb⟩; refine ⟨_, rfl, ?_⟩; have n0_ := bs_ (be_ HB) hb; clear HB; have HB := n0_; clear n0_; (try clear hb); (try clear hb2); (try clear hk); (try clear hi)) | ((with_reducible refine gate_dst (N := 9) rfl ?_); refine box_event ?hg (N := 9) ?hd (cs := #[.int .i64 0, .int .i64 0, .string (⟨#[]⟩ : ByteArray)]) (t := 23) ?hr ?_; (case hd => rfl); (case hg => rfl); (case hr => first | (go_simp; done) | (go_simp; rfl)); intro gb400 hg w57 hbox hb; have n0_ := bs_ (be_ HB) hb; have n1_ := Aside0.mk (hbox); have n2_ := gs_ hg (be_ HB); have n3_ := gs_ hg (be_ HB); clear HB; have HB := n0_; have BK400 := n1_; have GW400 := n2_; have GE400 := n3_; clear n0_ n1_ n2_ n3_; clear hb hbox hg; have hcz58_0 : w57.cell? ⟨gb400, 0, none⟩ = some (.int .i64 0) := (blk_cell BK400.out 0).trans rfl; have hcz58_1 : w57.cell? ⟨gb400, 1, none⟩ = some (.int .i64 0) := (blk_cell BK400.out 1).trans rfl; have hcz58_2 : w57.cell? ⟨gb400, 2, none⟩ = some (.string (⟨#[]⟩ : ByteArray)) := (blk_cell BK400.out 2).trans rfl; have hfz58_0 := blk_frozen BK400.out 0; have hfz58_1 := blk_frozen BK400.out 1; have hfz58_2 := blk_frozen BK400.out 2) | ((with_reducible refine gate_callee (f := 22) rfl ?_); refine goesL_ (some 57) rfl rfl Try.func22 (by kernel_rfl) rfl #[.slice A2 l2.length c2, .slice A3 l3.length c3] rfl ga_ ?_; (with_reducible refine (expr_Eval.calls kj4 _ _ l2 _ _ l3 t401 t402 t403 t404 _ ?side1 ?side2 ?side3 ?side4 A25.out).mono ?_); (case side1 => exact Kd.C_below HR2.out (be_ HB)); (case side2 => exact HC2.out); (case side3 => exact Kd.C_below HR3.out (be_ HB)); (case side4 => exact HC3.out); rintro e w59 ⟨rfl, hb⟩; refine ⟨_, rfl, ?_⟩; have n0_ := Aside0.mk (blk_below (o := .cells #[.int .i64 t396, .int .i64 t397, .string t398] 23 (0, 0)) (bp_ BK400) hb); have n1_ := bs_ (be_ HB) hb; clear BK400; clear HB; have BK400 := n0_; have HB := n1_; clear n0_ n1_; (try clear hcz58_0 hcz58_1 hcz58_2 hfz58_0 hfz58_1 hfz58_2); (try clear hb); (try clear hb2); (try clear hk); (try clear hi)) | ((with_reducible refine gate_dst (N := 11) rfl ?_); refine box_event ?hg (N := 11) ?hd (cs := #[.int .i64 0, .int .i64 0, .string (⟨#[]⟩ : ByteArray)]) (t := 23) ?hr ?_; (case hd => rfl); (case hg => rfl); (case hr => first | (go_simp; done) | (go_simp; rfl)); intro gb405 hg w60 hbox hb; have n0_ := bb_ (bu_ BK400) hb; have n1_ := bs_ (be_ HB) hb; have n2_ := Aside0.mk (hbox); have n3_ := gs_ hg (be_ HB); have n4_ := gs_ hg (be_ HB); have n5_ := nl_ hg (bu_ BK400); have n6_ := ng_ hg (bu_ BK400); clear BK400; clear HB; have BK400 := n0_; have HB := n1_; have BK405 := n2_; have GW405 := n3_; have GE405 := n4_; have NB400_405 := n5_; have NB405_400 := n6_; clear n0_ n1_ n2_ n3_ n4_ n5_ n6_; clear hb hbox hg; have hnb61 := NB405_400.out; have hnc61 := NB400_405.out; have hcz62_0 : w60.cell? ⟨gb405, 0, none⟩ = some (.int .i64 0) := (blk_cell BK405.out 0).trans rfl; have hcz62_1 : w60.cell? ⟨gb405, 1, none⟩ = some (.int .i64 0) := (blk_cell BK405.out 1).trans rfl; have hcz62_2 : w60.cell? ⟨gb405, 2, none⟩ = some (.string (⟨#[]⟩ : ByteArray)) := (blk_cell BK405.out 2).trans rfl; have hfz62_0 := blk_frozen BK405.out 0; have hfz62_1 := blk_frozen BK405.out 1; have hfz62_2 := blk_frozen BK405.out 2) | ((with_reducible refine gate_dst (N := 13) rfl ?_); refine box_event ?hg (N := 13) ?hd (cs := #[.int .i64 0, .string (⟨#[]⟩ : ByteArray), .slice none 0 0, .int .i64 0, .slice none 0 0, .slice none 0 0]) (t := 29) ?hr ?_; (case hd => rfl); (case hg => rfl); (case hr => first | (go_simp; done) | (go_simp; rfl)); intro gb406 hg w63 hbox hb; have n0_ := bb_ (bu_ BK400) hb; have n1_ := Aside0.mk (blk_below (o := .cells #[.int .i64 t401, .int .i64 t402, .string t403] 23 (0, 0)) (bp_ BK405) hb); have n2_ := bs_ (be_ HB) hb; have n3_ := Aside0.mk (hbox); have n4_ := gs_ hg (be_ HB); have n5_ := gs_ hg (be_ HB); have n6_ := nl_ hg (bu_ BK400); have n7_ := ng_ hg (bu_ BK400); have n8_ := Aside0.mk ((by rw [hg]; exact Nat.ne_of_lt (blk_lt (o := .cells #[.int .i64 t401, .int .i64 t402, .string t403] 23 (0, 0)) (bp_ BK405)) : gb405 ≠ gb406)); have n9_ := Aside0.mk ((by rw [hg]; exact Nat.ne_of_gt (blk_lt (o := .cells #[.int .i64 t401, .int .i64 t402, .string t403] 23 (0, 0)) (bp_ BK405)) : gb406 ≠ gb405)); clear BK400; clear BK405; clear HB; have BK400 := n0_; have BK405 := n1_; have HB := n2_; have BK406 := n3_; have GW406 := n4_; have GE406 := n5_; have NB400_406 := n6_; have NB406_400 := n7_; have NB405_406 := n8_; have NB406_405 := n9_; clear n0_ n1_ n2_ n3_ n4_ n5_ n6_ n7_ n8_ n9_; (try clear hcz62_0 hcz62_1 hcz62_2 hfz62_0 hfz62_1 hfz62_2); clear hb hbox hg; have hnb64 := NB406_400.out; have hnc64 := NB400_406.out; have hnb65 := NB406_405.out; have hnc65 := NB405_406.out; have hcz66_0 : w63.cell? ⟨gb406, 0, none⟩ = some (.int .i64 0) := (blk_cell BK406.out 0).trans rfl; have hcz66_1 : w63.cell? ⟨gb406, 1, none⟩ = some (.string (⟨#[]⟩ : ByteArray)) := (blk_cell BK406.out 1).trans rfl; have hcz66_2 : w63.cell? ⟨gb406, 2, none⟩ = some (.slice none 0 0) := (blk_cell BK406.out 2).trans rfl; have hcz66_3 : w63.cell? ⟨gb406, 3, none⟩ = some (.int .i64 0) := (blk_cell BK406.out 3).trans rfl; have hcz66_4 : w63.cell? ⟨gb406, 4, none⟩ = some (.slice none 0 0) := (blk_cell BK406.out 4).trans rfl; have hcz66_5 : w63.cell? ⟨gb406, 5, none⟩ = some (.slice none 0 0) := (blk_cell BK406.out 5).trans rfl; have hfz66_0 := blk_frozen BK406.out 0; have hfz66_1 := blk_frozen BK406.out 1; have hfz66_2 := blk_frozen BK406.out 2; have hfz66_3 := blk_frozen BK406.out 3; have hfz66_4 := blk_frozen BK406.out 4; have hfz66_5 := blk_frozen BK406.out 5) | ((with_reducible refine gate_callee (f := 12) rfl ?_); refine goesL_ (some 67) rfl rfl Try.func12 (by kernel_rfl) rfl #[.agg #[.int .i64 3, .string (⟨#[]⟩ : ByteArray), .slice none 0 0, .int .i64 (wrap64 (1 + (wrap64 (Int.tmod (IntKind.u64.wrap (a0)) 4)))), .slice A1 l1.length c1, .slice A2 l2.length c2], .slice A3 l3.length c3] rfl ga_ ?_; (refine (guard_Eval.calls kj4 3 (⟨#[]⟩ : ByteArray) none 0 ([] : List (S72)) (wrap64 (1 + (wrap64 (Int.tmod (IntKind.u64.wrap (a0)) 4)))) _ _ l1 _ _ l2 _ _ l3 false t408 _ ?side1 ?side2 ?side3 ?side4 ?side5 ?side6 ?side7 ?side8 A26.out).mono ?_); (case side1 => exact Kd.C_nil _ _); (case side2 => exact Nat.le_refl _); (case side3 => exact Kd.C_below HR1.out (be_ HB)); (case side4 => exact HC1.out); (case side5 => exact Kd.C_below HR2.out (be_ HB)); (case side6 => exact HC2.out); (case side7 => exact Kd.C_below HR3.out (be_ HB)); (case side8 => exact HC3.out); rintro e w67 ⟨rfl, hb⟩; refine ⟨_, rfl, ?_⟩; have n0_ := bb_ (bu_ BK400) hb; have n1_ := bb_ (bu_ BK405) hb; have n2_ := Aside0.mk (blk_below (o := .cells #[.int .i64 3, .string (⟨#[]⟩ : ByteArray), .slice none 0 0, .int .i64 (wrap64 (1 + (wrap64 (Int.tmod (IntKind.u64.wrap (a0)) 4)))), .slice A1 l1.length c1, .slice A2 l2.length c2] 29 (0, 0)) (bp_ BK406) hb); have n3_ := bs_ (be_ HB) hb; clear BK400; clear BK405; clear BK406; clear HB; have BK400 := n0_; have BK405 := n1_; have BK406 := n2_; have HB := n3_; clear n0_ n1_ n2_ n3_; (try clear hcz66_0 hcz66_1 hcz66_2 hcz66_3 hcz66_4 hcz66_5 hfz66_0 hfz66_1 hfz66_2 hfz66_3 hfz66_4 hfz66_5); (try clear hb); (try clear hb2); (try clear hk); (try clear hi); (try clear A26)) | (go_at_call 17; (with_reducible refine (constablelaw08_wakes.calls kj4  t414 _ A55.out HR_.out).mono ?_); rintro e w68 ⟨rfl, hb⟩; have n0_ := bb_ (bu_ BK400) hb; have n1_ := bb_ (bu_ BK405) hb; have n2_ := bb_ (bu_ BK406) hb; have n3_ := bs_ (be_ HB) hb; clear BK400; clear BK405; clear BK406; clear HB; have BK400 := n0_; have BK405 := n1_; have BK406 := n2_; have HB := n3_; clear n0_ n1_ n2_ n3_; (try clear hb); (try clear hb2); (try clear hk); (try clear hi)))
                go_ret
                exact ⟨by first | rfl | (simp [errW_none, errW_some] <;> rfl) | (simp [*, errW_none, errW_some] <;> rfl), by repeat (first | (with_reducible first | exact HB.out | apply below_alloc | apply pw_below_drewN | apply below_drew1 | refine below_set ?_ GE400.out | refine below_set ?_ GE405.out | refine below_set ?_ GE406.out) | exact HB.out)⟩
            · rw [if_neg c53] at H
              obtain ⟨c53b0, c53b1⟩ := neB_ c53
              exact absurd ((Option.some.inj H).trans HR_.out) (by decide)
        · rw [if_neg c27] at H
          obtain ⟨c27b0, c27b1⟩ := neB_ c27
          by_cases c69 : t408 = t399
          · rw [if_pos c69] at H
            obtain ⟨c69b0, c69b1⟩ := eqB_ c69
            clear c69
            by_cases c70 : t407 = true
            · subst c70
              have H1 : (some false) = some r := by rw [if_pos rfl] at H; exact H
              clear H
              have H := H1
              clear H1
              exact absurd ((Option.some.inj H).trans HR_.out) (by decide)
            · replace c70 := Bool.eq_false_iff.mpr c70
              subst c70
              have H1 : ((constablelaw08_wakes.f kj4).bind fun t409 => (some t409)) = some r := by rw [if_neg (show ¬ (false = true) by decide)] at H; exact H
              clear H
              have H := H1
              clear H1
              replace H := Option.bind_eq_some_iff.mp H
              obtain ⟨t409, A710, H⟩ := H
              replace H : (some t409) = some r := H
              have A71 := Aside0.mk A710
              clear A710
              obtain rfl := Option.some.inj H
              go_wp2_with (first | ((with_reducible refine gate_callee (f := 22) rfl ?_); refine goesL_ (some 51) rfl rfl Try.func22 (by kernel_rfl) rfl #[.slice A1 l1.length c1, .slice A3 l3.length c3] rfl ga_ ?_; (with_reducible refine (expr_Eval.calls kj4 _ _ l1 _ _ l3 t396 t397 t398 t399 _ ?side1 ?side2 ?side3 ?side4 A24.out).mono ?_); (case side1 => repeat (first | exact (Kd.C_below HR1.out HB.out) | (with_reducible refine Kd.C_alloc ?_ _) | (with_reducible refine Kd.C_drewN ?_ _) | (with_reducible refine Kd.C_drew ?_))); (case side2 => exact HC1.out); (case side3 => repeat (first | exact (Kd.C_below HR3.out HB.out) | (with_reducible refine Kd.C_alloc ?_ _) | (with_reducible refine Kd.C_drewN ?_ _) | (with_reducible refine Kd.C_drew ?_))); (case side4 => exact HC3.out); rintro e w72 ⟨rfl, hb⟩; refine ⟨_, rfl, ?_⟩; have n0_ := bs_ (be_ HB) hb; clear HB; have HB := n0_; clear n0_; (try clear hb); (try clear hb2); (try clear hk); (try clear hi)) | ((with_reducible refine gate_dst (N := 9) rfl ?_); refine box_event ?hg (N := 9) ?hd (cs := #[.int .i64 0, .int .i64 0, .string (⟨#[]⟩ : ByteArray)]) (t := 23) ?hr ?_; (case hd => rfl); (case hg => rfl); (case hr => first | (go_simp; done) | (go_simp; rfl)); intro gb400 hg w73 hbox hb; have n0_ := bs_ (be_ HB) hb; have n1_ := Aside0.mk (hbox); have n2_ := gs_ hg (be_ HB); have n3_ := gs_ hg (be_ HB); clear HB; have HB := n0_; have BK400 := n1_; have GW400 := n2_; have GE400 := n3_; clear n0_ n1_ n2_ n3_; clear hb hbox hg; have hcz74_0 : w73.cell? ⟨gb400, 0, none⟩ = some (.int .i64 0) := (blk_cell BK400.out 0).trans rfl; have hcz74_1 : w73.cell? ⟨gb400, 1, none⟩ = some (.int .i64 0) := (blk_cell BK400.out 1).trans rfl; have hcz74_2 : w73.cell? ⟨gb400, 2, none⟩ = some (.string (⟨#[]⟩ : ByteArray)) := (blk_cell BK400.out 2).trans rfl; have hfz74_0 := blk_frozen BK400.out 0; have hfz74_1 := blk_frozen BK400.out 1; have hfz74_2 := blk_frozen BK400.out 2) | ((with_reducible refine gate_callee (f := 22) rfl ?_); refine goesL_ (some 57) rfl rfl Try.func22 (by kernel_rfl) rfl #[.slice A2 l2.length c2, .slice A3 l3.length c3] rfl ga_ ?_; (with_reducible refine (expr_Eval.calls kj4 _ _ l2 _ _ l3 t401 t402 t403 t404 _ ?side1 ?side2 ?side3 ?side4 A25.out).mono ?_); (case side1 => exact Kd.C_below HR2.out (be_ HB)); (case side2 => exact HC2.out); (case side3 => exact Kd.C_below HR3.out (be_ HB)); (case side4 => exact HC3.out); rintro e w75 ⟨rfl, hb⟩; refine ⟨_, rfl, ?_⟩; have n0_ := Aside0.mk (blk_below (o := .cells #[.int .i64 t396, .int .i64 t397, .string t398] 23 (0, 0)) (bp_ BK400) hb); have n1_ := bs_ (be_ HB) hb; clear BK400; clear HB; have BK400 := n0_; have HB := n1_; clear n0_ n1_; (try clear hcz74_0 hcz74_1 hcz74_2 hfz74_0 hfz74_1 hfz74_2); (try clear hb); (try clear hb2); (try clear hk); (try clear hi)) | ((with_reducible refine gate_dst (N := 11) rfl ?_); refine box_event ?hg (N := 11) ?hd (cs := #[.int .i64 0, .int .i64 0, .string (⟨#[]⟩ : ByteArray)]) (t := 23) ?hr ?_; (case hd => rfl); (case hg => rfl); (case hr => first | (go_simp; done) | (go_simp; rfl)); intro gb405 hg w76 hbox hb; have n0_ := bb_ (bu_ BK400) hb; have n1_ := bs_ (be_ HB) hb; have n2_ := Aside0.mk (hbox); have n3_ := gs_ hg (be_ HB); have n4_ := gs_ hg (be_ HB); have n5_ := nl_ hg (bu_ BK400); have n6_ := ng_ hg (bu_ BK400); clear BK400; clear HB; have BK400 := n0_; have HB := n1_; have BK405 := n2_; have GW405 := n3_; have GE405 := n4_; have NB400_405 := n5_; have NB405_400 := n6_; clear n0_ n1_ n2_ n3_ n4_ n5_ n6_; clear hb hbox hg; have hnb77 := NB405_400.out; have hnc77 := NB400_405.out; have hcz78_0 : w76.cell? ⟨gb405, 0, none⟩ = some (.int .i64 0) := (blk_cell BK405.out 0).trans rfl; have hcz78_1 : w76.cell? ⟨gb405, 1, none⟩ = some (.int .i64 0) := (blk_cell BK405.out 1).trans rfl; have hcz78_2 : w76.cell? ⟨gb405, 2, none⟩ = some (.string (⟨#[]⟩ : ByteArray)) := (blk_cell BK405.out 2).trans rfl; have hfz78_0 := blk_frozen BK405.out 0; have hfz78_1 := blk_frozen BK405.out 1; have hfz78_2 := blk_frozen BK405.out 2) | ((with_reducible refine gate_dst (N := 13) rfl ?_); refine box_event ?hg (N := 13) ?hd (cs := #[.int .i64 0, .string (⟨#[]⟩ : ByteArray), .slice none 0 0, .int .i64 0, .slice none 0 0, .slice none 0 0]) (t := 29) ?hr ?_; (case hd => rfl); (case hg => rfl); (case hr => first | (go_simp; done) | (go_simp; rfl)); intro gb406 hg w79 hbox hb; have n0_ := bb_ (bu_ BK400) hb; have n1_ := Aside0.mk (blk_below (o := .cells #[.int .i64 t401, .int .i64 t402, .string t403] 23 (0, 0)) (bp_ BK405) hb); have n2_ := bs_ (be_ HB) hb; have n3_ := Aside0.mk (hbox); have n4_ := gs_ hg (be_ HB); have n5_ := gs_ hg (be_ HB); have n6_ := nl_ hg (bu_ BK400); have n7_ := ng_ hg (bu_ BK400); have n8_ := Aside0.mk ((by rw [hg]; exact Nat.ne_of_lt (blk_lt (o := .cells #[.int .i64 t401, .int .i64 t402, .string t403] 23 (0, 0)) (bp_ BK405)) : gb405 ≠ gb406)); have n9_ := Aside0.mk ((by rw [hg]; exact Nat.ne_of_gt (blk_lt (o := .cells #[.int .i64 t401, .int .i64 t402, .string t403] 23 (0, 0)) (bp_ BK405)) : gb406 ≠ gb405)); clear BK400; clear BK405; clear HB; have BK400 := n0_; have BK405 := n1_; have HB := n2_; have BK406 := n3_; have GW406 := n4_; have GE406 := n5_; have NB400_406 := n6_; have NB406_400 := n7_; have NB405_406 := n8_; have NB406_405 := n9_; clear n0_ n1_ n2_ n3_ n4_ n5_ n6_ n7_ n8_ n9_; (try clear hcz78_0 hcz78_1 hcz78_2 hfz78_0 hfz78_1 hfz78_2); clear hb hbox hg; have hnb80 := NB406_400.out; have hnc80 := NB400_406.out; have hnb81 := NB406_405.out; have hnc81 := NB405_406.out; have hcz82_0 : w79.cell? ⟨gb406, 0, none⟩ = some (.int .i64 0) := (blk_cell BK406.out 0).trans rfl; have hcz82_1 : w79.cell? ⟨gb406, 1, none⟩ = some (.string (⟨#[]⟩ : ByteArray)) := (blk_cell BK406.out 1).trans rfl; have hcz82_2 : w79.cell? ⟨gb406, 2, none⟩ = some (.slice none 0 0) := (blk_cell BK406.out 2).trans rfl; have hcz82_3 : w79.cell? ⟨gb406, 3, none⟩ = some (.int .i64 0) := (blk_cell BK406.out 3).trans rfl; have hcz82_4 : w79.cell? ⟨gb406, 4, none⟩ = some (.slice none 0 0) := (blk_cell BK406.out 4).trans rfl; have hcz82_5 : w79.cell? ⟨gb406, 5, none⟩ = some (.slice none 0 0) := (blk_cell BK406.out 5).trans rfl; have hfz82_0 := blk_frozen BK406.out 0; have hfz82_1 := blk_frozen BK406.out 1; have hfz82_2 := blk_frozen BK406.out 2; have hfz82_3 := blk_frozen BK406.out 3; have hfz82_4 := blk_frozen BK406.out 4; have hfz82_5 := blk_frozen BK406.out 5) | ((with_reducible refine gate_callee (f := 12) rfl ?_); refine goesL_ (some 67) rfl rfl Try.func12 (by kernel_rfl) rfl #[.agg #[.int .i64 3, .string (⟨#[]⟩ : ByteArray), .slice none 0 0, .int .i64 (wrap64 (1 + (wrap64 (Int.tmod (IntKind.u64.wrap (a0)) 4)))), .slice A1 l1.length c1, .slice A2 l2.length c2], .slice A3 l3.length c3] rfl ga_ ?_; (refine (guard_Eval.calls kj4 3 (⟨#[]⟩ : ByteArray) none 0 ([] : List (S72)) (wrap64 (1 + (wrap64 (Int.tmod (IntKind.u64.wrap (a0)) 4)))) _ _ l1 _ _ l2 _ _ l3 false t408 _ ?side1 ?side2 ?side3 ?side4 ?side5 ?side6 ?side7 ?side8 A26.out).mono ?_); (case side1 => exact Kd.C_nil _ _); (case side2 => exact Nat.le_refl _); (case side3 => exact Kd.C_below HR1.out (be_ HB)); (case side4 => exact HC1.out); (case side5 => exact Kd.C_below HR2.out (be_ HB)); (case side6 => exact HC2.out); (case side7 => exact Kd.C_below HR3.out (be_ HB)); (case side8 => exact HC3.out); rintro e w83 ⟨rfl, hb⟩; refine ⟨_, rfl, ?_⟩; have n0_ := bb_ (bu_ BK400) hb; have n1_ := bb_ (bu_ BK405) hb; have n2_ := Aside0.mk (blk_below (o := .cells #[.int .i64 3, .string (⟨#[]⟩ : ByteArray), .slice none 0 0, .int .i64 (wrap64 (1 + (wrap64 (Int.tmod (IntKind.u64.wrap (a0)) 4)))), .slice A1 l1.length c1, .slice A2 l2.length c2] 29 (0, 0)) (bp_ BK406) hb); have n3_ := bs_ (be_ HB) hb; clear BK400; clear BK405; clear BK406; clear HB; have BK400 := n0_; have BK405 := n1_; have BK406 := n2_; have HB := n3_; clear n0_ n1_ n2_ n3_; (try clear hcz82_0 hcz82_1 hcz82_2 hcz82_3 hcz82_4 hcz82_5 hfz82_0 hfz82_1 hfz82_2 hfz82_3 hfz82_4 hfz82_5); (try clear hb); (try clear hb2); (try clear hk); (try clear hi); (try clear A26)) | (go_at_call 17; (with_reducible refine (constablelaw08_wakes.calls kj4  t409 _ A71.out HR_.out).mono ?_); rintro e w84 ⟨rfl, hb⟩; have n0_ := bb_ (bu_ BK400) hb; have n1_ := bb_ (bu_ BK405) hb; have n2_ := bb_ (bu_ BK406) hb; have n3_ := bs_ (be_ HB) hb; clear BK400; clear BK405; clear BK406; clear HB; have BK400 := n0_; have BK405 := n1_; have BK406 := n2_; have HB := n3_; clear n0_ n1_ n2_ n3_; (try clear hb); (try clear hb2); (try clear hk); (try clear hi)))
              go_ret
              exact ⟨by first | rfl | (simp [errW_none, errW_some] <;> rfl) | (simp [*, errW_none, errW_some] <;> rfl), by repeat (first | (with_reducible first | exact HB.out | apply below_alloc | apply pw_below_drewN | apply below_drew1 | refine below_set ?_ GE400.out | refine below_set ?_ GE405.out | refine below_set ?_ GE406.out) | exact HB.out)⟩
          · rw [if_neg c69] at H
            obtain ⟨c69b0, c69b1⟩ := neB_ c69
            exact absurd ((Option.some.inj H).trans HR_.out) (by decide)
end Go.Proofs.Ytaopajmpifenoaa.P
end
section
namespace Go.Proofs.Ytaopajmpifenoaa.P
open Go.RowKit Go.Proofs.YtaopajmpifenoaaW.PrintWords Go.Proofs.YtaopajmpifenoaaW.PrintLast Go.Proofs.YtaopajmpifenoaaW.PrintMore
theorem evPos {α : Type} {c : Prop} [Decidable c] {f g : Nat → Option α} {r : α} (h : c) (k : Ev f r) : Ev (fun n => if c then f n else g n) r := Ev.congr (fun _ => if_pos h) k
theorem evNeg {α : Type} {c : Prop} [Decidable c] {f g : Nat → Option α} {r : α} (h : ¬ c) (k : Ev g r) : Ev (fun n => if c then f n else g n) r := Ev.congr (fun _ => if_neg h) k
theorem evSome {α : Type} {a r : α} (h : a = r) : Ev (fun _ => some a) r := ⟨0, fun _ _ => by rw [h]⟩
theorem evShift {α : Type} {g : Nat → Option α} {r : α} (k : Ev (fun n => g (n + 1)) r) : Ev g r := Ev.step (fun _ => rfl) k
theorem evBind0 {α β : Type} {g : Option α} {f : Nat → α → Option β} {a : α} {r : β} (h : g = some a) (k : Ev (fun n => f n a) r) : Ev (fun n => g.bind (f n)) r := by subst h; exact k
theorem evCond {α : Type} {b : Bool} {f g : Nat → Option α} {r : α} (h1 : b = true → Ev f r) (h2 : b = false → Ev g r) : Ev (fun n => if b = true then f n else g n) r := by
  cases b with
  | true => exact evPos rfl (h1 rfl)
  | false => exact evNeg (by decide) (h2 rfl)
theorem evIf {α : Type} {c : Prop} [Decidable c] {f g : Nat → Option α} {r : α} (h1 : c → Ev f r) (h2 : ¬ c → Ev g r) : Ev (fun n => if c then f n else g n) r := by
  by_cases h : c
  · exact evPos h (h1 h)
  · exact evNeg h (h2 h)
end Go.Proofs.Ytaopajmpifenoaa.P
end
section
namespace Go.Proofs.Ytaopajmpifenoaa.P
open Go.RowKit Go.Proofs.YtaopajmpifenoaaW.PrintWords Go.Proofs.YtaopajmpifenoaaW.PrintLast Go.Proofs.YtaopajmpifenoaaW.PrintMore
theorem len_codes (s : ByteArray) : (bytesOf s).length = s.size := by simp [bytesOf]
theorem bt_codes (s : ByteArray) (i : Int) : bt s i = rd (bytesOf s) i := (rd_bytesOf s i).symm
theorem codes_inj {s t : ByteArray} (h : bytesOf s = bytesOf t) : s = t := by
  have h2 : s.data.toList = t.data.toList := by
    unfold bytesOf at h
    have inj : ∀ (a b : List UInt8), a.map (fun b => ((b.toNat : Nat) : Int)) = b.map (fun b => ((b.toNat : Nat) : Int)) → a = b := by
      intro a
      induction a with
      | nil => intro b hb; cases b with
        | nil => rfl
        | cons y b => simp at hb
      | cons x a ih => intro b hb; cases b with
        | nil => simp at hb
        | cons y b =>
          simp only [List.map_cons, List.cons.injEq] at hb
          have e : x = y := UInt8.toNat_inj.1 (by omega)
          rw [e, ih b hb.2]
    exact inj _ _ h
  cases s with | mk a => cases t with | mk b => cases a; cases b; simp at h2; rw [h2]
theorem tl_data (s : ByteArray) : s.toList = s.data.toList := Lib.toList_data s
theorem tl_inj {s t : ByteArray} : s.toList = t.toList ↔ s = t := by
  constructor
  · intro h
    rw [tl_data, tl_data] at h
    exact codes_inj (by unfold bytesOf; rw [h])
  · intro h; rw [h]
theorem tl_beq (s t : ByteArray) : (s.toList == t.toList) = decide (s = t) := by
  rw [Bool.eq_iff_iff, beq_iff_eq, decide_eq_true_eq, tl_inj]
theorem tl_nil {s : ByteArray} : s.toList = [] ↔ s = ⟨#[]⟩ := by
  rw [← tl_inj]
  have : (⟨#[]⟩ : ByteArray).toList = [] := by rw [tl_data]
  rw [this]
theorem tl_beq_nil (s : ByteArray) : (s.toList == ([] : List UInt8)) = decide (s = ⟨#[]⟩) := by
  rw [Bool.eq_iff_iff, beq_iff_eq, decide_eq_true_eq, tl_nil]
theorem size_zero {s : ByteArray} : s.size = 0 ↔ s = ⟨#[]⟩ := by
  constructor
  · intro h
    apply codes_inj
    have : (bytesOf s).length = 0 := by rw [len_codes]; exact h
    rw [List.eq_nil_of_length_eq_zero this]; rfl
  · intro h; rw [h]; rfl
theorem rd_mid {p : List Int} {x : Int} {l : List Int} : rd (p ++ x :: l) p.length = x := by simp [rd, List.getD_eq_getElem?_getD]
theorem codes_split (s : ByteArray) (i : Nat) (h : i < s.size) : ∃ x, (bytesOf s).drop i = x :: (bytesOf s).drop (i + 1) ∧ bt s i = x := by
  have hl : i < (bytesOf s).length := by rw [len_codes]; exact h
  refine ⟨(bytesOf s)[i], ?_, ?_⟩
  · exact List.drop_eq_getElem_cons hl
  · rw [bt_codes]
    simp [rd, List.getD_eq_getElem?_getD, hl]
theorem back_ind {ρ : Type} (n : Nat) (l : Nat → Int → Option ρ) (spec : Nat → ρ) (hend : Ev (fun k => l k n) (spec n))
    (hstep : ∀ i : Nat, i < n → Ev (fun k => l k ((i + 1 : Nat) : Int)) (spec (i + 1)) → Ev (fun k => l k i) (spec i)) : ∀ i : Nat, i ≤ n → Ev (fun k => l k i) (spec i) := by
  intro i hi
  obtain ⟨d, rfl⟩ : ∃ d, n = i + d := ⟨n - i, by omega⟩
  induction d generalizing i with
  | zero => exact hend
  | succ d ih =>
    refine hstep i (by omega) ?_
    have := ih (i + 1) (by rw [show i + 1 + d = i + (d + 1) by omega]; exact hend) (fun j hj => hstep j (by omega)) (by omega)
    exact this
theorem wrap_succ {i n : Nat} (h : i < n) (hn : n ≤ 9223372036854775807) : wrap64 ((i : Int) + 1) = ((i + 1 : Nat) : Int) := by unfold wrap64; omega
theorem rdOf_nth {α : Type} (d : α) (l : List α) (i : Nat) (h : i < l.length) : rdOf d l i = l[i] := by simp [rdOf, List.getD_eq_getElem?_getD, h]
end Go.Proofs.Ytaopajmpifenoaa.P
end
section
namespace Go.Proofs.Ytaopajmpifenoaa.P
open Go.RowKit Go.Proofs.YtaopajmpifenoaaW.PrintWords Go.Proofs.YtaopajmpifenoaaW.PrintLast Go.Proofs.YtaopajmpifenoaaW.PrintMore
def InB (a : Int) : Prop := -4611686018427387904 ≤ a ∧ a ≤ 4611686018427387904
instance (a : Int) : Decidable (InB a) := inferInstanceAs (Decidable (_ ∧ _))
def doS (kind a b : Int) : Int × Int :=
  if kind = 3 ∨ kind = 4 ∨ kind = 5 then
    if InB a ∧ InB b then
      if InB (if kind = 3 then a + b else if kind = 4 then a - b else a * b) then (if kind = 3 then a + b else if kind = 4 then a - b else a * b, 0) else (0, 4)
    else (0, 4)
  else (0, 3)
theorem InB_iff (a : Int) : InB a ↔ -4611686018427387904 ≤ a ∧ a ≤ 4611686018427387904 := Iff.rfl
theorem num_in_eq (a : Int) : num_in.f a = some (decide (InB a)) := by
  unfold num_in.f
  split
  · congr 1; rw [decide_eq_decide, InB_iff]; omega
  · congr 1; symm; rw [decide_eq_false_iff_not, InB_iff]; omega
theorem num_add_eq {a b : Int} (ha : InB a) (hb : InB b) : num_add.f a b = some (if InB (a + b) then (a + b, true) else (0, false)) := by
  rw [InB_iff] at ha hb
  unfold num_add.f wrap64
  split
  · split
    · rw [if_neg (by rw [InB_iff]; omega)]
    · rw [if_neg (by omega), if_pos (by rw [InB_iff]; omega)]; congr 2; omega
  · split
    · split
      · rw [if_neg (by rw [InB_iff]; omega)]
      · rw [if_pos (by rw [InB_iff]; omega)]; congr 2; omega
    · rw [if_pos (by rw [InB_iff]; omega)]; congr 2; omega
theorem num_size_eq {a : Int} (ha : InB a) : num_size.f a = some (if a < 0 then -a else a) := by
  rw [InB_iff] at ha
  unfold num_size.f wrap64
  split <;> (congr 1; rw [IntKind.wrap_u64]; omega)
theorem and_low {a : Int} (h0 : 0 ≤ a) (h1 : a < 18446744073709551616) : Go.bits .and .u64 a 4294967295 = a % 4294967296 :=
  bits_mask .u64 64 (by decide) (fun n h0 h1 => by rw [IntKind.wrap_u64]; omega) 32 (by decide) a h0 h1
theorem mul_parts (a b : Int) : a * b = (a / 4294967296) * (b / 4294967296) * 18446744073709551616 + ((a / 4294967296) * (b % 4294967296) + (a % 4294967296) * (b / 4294967296)) * 4294967296 + (a % 4294967296) * (b % 4294967296) := by
  have ha : a = 4294967296 * (a / 4294967296) + a % 4294967296 := by omega
  have hb : b = 4294967296 * (b / 4294967296) + b % 4294967296 := by omega
  generalize a / 4294967296 = x at *
  generalize a % 4294967296 = y at *
  generalize b / 4294967296 = z at *
  generalize b % 4294967296 = t at *
  subst ha hb
  grind
theorem mul_le2 {a b m n : Int} (h0 : 0 ≤ a) (h1 : a ≤ m) (h2 : 0 ≤ b) (h3 : b ≤ n) : 0 ≤ a * b ∧ a * b ≤ m * n :=
  ⟨Int.mul_nonneg h0 h2, Int.mul_le_mul h1 h3 h2 (by omega)⟩
theorem bits_Mul64_eq {a b : Int} (ha : 0 ≤ a) (ha' : a ≤ 4611686018427387904) (hb : 0 ≤ b) (hb' : b ≤ 4611686018427387904) :
    bits_Mul64.f a b = some (a * b / 18446744073709551616, a * b % 18446744073709551616) := by
  unfold bits_Mul64.f
  simp only [and_low ha (by omega), and_low hb (by omega)]
  obtain ⟨p0, p1⟩ := mul_le2 (a := a / 4294967296) (m := 1073741824) (b := b / 4294967296) (n := 1073741824) (by omega) (by omega) (by omega) (by omega)
  obtain ⟨q0, q1⟩ := mul_le2 (a := a / 4294967296) (m := 1073741824) (b := b % 4294967296) (n := 4294967295) (by omega) (by omega) (by omega) (by omega)
  obtain ⟨r0, r1⟩ := mul_le2 (a := a % 4294967296) (m := 4294967295) (b := b / 4294967296) (n := 1073741824) (by omega) (by omega) (by omega) (by omega)
  obtain ⟨s0, s1⟩ := mul_le2 (a := a % 4294967296) (m := 4294967295) (b := b % 4294967296) (n := 4294967295) (by omega) (by omega) (by omega) (by omega)
  have hab := mul_parts a b
  generalize (a / 4294967296) * (b / 4294967296) = p at *
  generalize (a / 4294967296) * (b % 4294967296) = q at *
  generalize (a % 4294967296) * (b / 4294967296) = r at *
  generalize (a % 4294967296) * (b % 4294967296) = s at *
  generalize a * b = x at *
  subst hab
  have w : ∀ n : Int, 0 ≤ n → n < 18446744073709551616 → IntKind.u64.wrap n = n := fun n h0 h1 => by rw [IntKind.wrap_u64]; omega
  rw [w p (by omega) (by omega), w q (by omega) (by omega), w s (by omega) (by omega), w r (by omega) (by omega)]
  rw [w (q + s / 4294967296) (by omega) (by omega)]
  rw [and_low (by omega) (by omega)]
  rw [w ((q + s / 4294967296) % 4294967296 + r) (by omega) (by omega)]
  rw [w (p + (q + s / 4294967296) / 4294967296) (by omega) (by omega)]
  rw [w (p + (q + s / 4294967296) / 4294967296 + _) (by omega) (by omega)]
  rw [IntKind.wrap_u64]
  congr 2
  omega
theorem abs_mul (a b : Int) : (if a < 0 then -a else a) * (if b < 0 then -b else b) = if (decide (a < 0) != decide (b < 0)) = true then -(a * b) else a * b := by
  by_cases h1 : a < 0 <;> by_cases h2 : b < 0 <;> simp [h1, h2, Int.neg_mul, Int.mul_neg]
theorem num_mul_eq {a b : Int} (ha : InB a) (hb : InB b) (k : Nat) : num_mul.f (k + 1) a b = some (if InB (a * b) then (a * b, true) else (0, false)) := by
  rw [InB_iff] at ha hb
  unfold num_mul.f
  rw [num_size_eq ha, num_size_eq hb]
  simp only [Option.bind_some]
  rw [bits_Mul64_eq (by split <;> omega) (by split <;> omega) (by split <;> omega) (by split <;> omega)]
  simp only [Option.bind_some, num_mul.j0]
  have hm := abs_mul a b
  have h0 : 0 ≤ (if a < 0 then -a else a) * (if b < 0 then -b else b) := Int.mul_nonneg (by split <;> omega) (by split <;> omega)
  have h1 := (mul_le2 (a := if a < 0 then -a else a) (b := if b < 0 then -b else b) (m := 4611686018427387904) (n := 4611686018427387904) (by split <;> omega) (by split <;> omega) (by split <;> omega) (by split <;> omega)).2
  generalize (if a < 0 then -a else a) * (if b < 0 then -b else b) = x at *
  generalize a * b = y at *
  by_cases hs : (decide (a < 0) != decide (b < 0)) = true
  · rw [if_pos hs] at hm
    simp only [hs, if_true, wrap64]
    split
    · rw [if_neg (by rw [InB_iff]; omega)]
    · by_cases hx : x % 18446744073709551616 > 4611686018427387904
      · rw [decide_eq_true hx, if_pos rfl, if_neg (by rw [InB_iff]; omega)]
      · rw [decide_eq_false hx, if_neg (by decide), if_pos (by rw [InB_iff]; omega)]; congr 2; omega
  · rw [if_neg hs] at hm
    replace hs := Bool.eq_false_iff.mpr hs
    simp only [hs, Bool.false_eq_true, if_false, if_true, wrap64]
    split
    · rw [if_neg (by rw [InB_iff]; omega)]
    · by_cases hx : x % 18446744073709551616 > 4611686018427387904
      · rw [decide_eq_true hx, if_pos rfl, if_neg (by rw [InB_iff]; omega)]
      · rw [decide_eq_false hx, if_neg (by decide), if_pos (by rw [InB_iff]; omega)]; congr 2; omega
theorem num_Do_eq (kind a b : Int) (k : Nat) : num_Do.f (k + 3) kind a b = some (doS kind a b) := by
  unfold num_Do.f doS
  simp only [num_Do.j0, num_Do.j1, num_in_eq, Option.bind_some]
  by_cases ha : InB a
  · by_cases hb : InB b
    · simp only [ha, hb, decide_true, if_true, Bool.not_true, Bool.false_eq_true, if_false, and_self]
      have hn : wrap64 (-b) = -b := by rw [InB_iff] at hb; unfold wrap64; omega
      rw [hn, num_add_eq ha hb, num_add_eq ha (b := -b) (by rw [InB_iff] at *; omega), num_mul_eq ha hb]
      simp only [Option.bind_some, ← Int.sub_eq_add_neg]
      by_cases h3 : kind = 3
      · simp only [h3, if_true, true_or]
        split <;> simp
      · by_cases h4 : kind = 4
        · simp only [h4, if_true, true_or, or_true]
          simp
          split <;> simp
        · by_cases h5 : kind = 5
          · simp only [h5]
            simp
            split <;> simp
          · simp [h3, h4, h5]
    · simp only [ha, hb, decide_true, decide_false, if_true, Bool.not_false, and_false, if_false]
      by_cases h3 : kind = 3
      · simp [h3]
      · by_cases h4 : kind = 4
        · simp [h4]
        · by_cases h5 : kind = 5 <;> simp [h3, h4, h5]
  · simp only [ha, decide_false, Bool.false_eq_true, if_false, if_true, false_and]
    by_cases h3 : kind = 3
    · simp [h3]
    · by_cases h4 : kind = 4
      · simp [h4]
      · by_cases h5 : kind = 5 <;> simp [h3, h4, h5]
theorem num_Do_ev (kind a b : Int) : Ev (fun k => num_Do.f k kind a b) (doS kind a b) := Ev.of (num_Do.mono _ _ _) (num_Do_eq kind a b 0)
def sumS (acc : Int) : List Int → Int × Int
  | [] => (acc, 0)
  | x :: l => if (doS 3 acc x).2 = 0 then sumS (doS 3 acc x).1 l else (0, (doS 3 acc x).2)
theorem rd_at (p : List Int) (x : Int) (l : List Int) : rd (p ++ x :: l) p.length = x := by
  simp [rd, List.getD_eq_getElem?_getD]
theorem wrap_len (p : List Int) (h : p.length ≤ 140737488351232) : wrap64 ((p.length : Int) + 1) = (p.length : Int) + 1 := by unfold wrap64; omega
end Go.Proofs.Ytaopajmpifenoaa.P
end
section
namespace Go.Proofs.Ytaopajmpifenoaa.P
open Go.RowKit Go.Proofs.YtaopajmpifenoaaW.PrintWords Go.Proofs.YtaopajmpifenoaaW.PrintLast Go.Proofs.YtaopajmpifenoaaW.PrintMore
def smallI (c : Int) : Bool := decide (97 ≤ c ∧ c ≤ 122)
def largeI (c : Int) : Bool := decide (65 ≤ c ∧ c ≤ 90)
def digitI (c : Int) : Bool := decide (48 ≤ c ∧ c ≤ 57)
def innerI (c : Int) : Bool := smallI c || largeI c || digitI c || c == 95
def plainI (c : Int) : Bool := decide (32 ≤ c ∧ c ≤ 126)
def wordS (large : Bool) (s : ByteArray) : Bool :=
  decide (1 ≤ s.size ∧ s.size ≤ 24) && (if large then largeI (bt s 0) else smallI (bt s 0)) && (bytesOf s).all innerI
def valS (kind n : Int) (s : ByteArray) : Bool :=
  if kind = 1 then decide (InB n) && decide (s = ⟨#[]⟩)
  else if kind = 2 then decide (n = 0) && wordS false s
  else if kind = 3 then decide (n = 0) && (bytesOf s).all plainI && decide (s.size ≤ 60)
  else false
theorem val_small_eq (c : Int) : val_small.f c = some (smallI c) := by
  unfold val_small.f smallI
  split
  · congr 1; rw [decide_eq_decide]; omega
  · congr 1; symm; rw [decide_eq_false_iff_not]; omega
theorem val_large_eq (c : Int) : val_large.f c = some (largeI c) := by
  unfold val_large.f largeI
  split
  · congr 1; rw [decide_eq_decide]; omega
  · congr 1; symm; rw [decide_eq_false_iff_not]; omega
theorem val_digit_eq (c : Int) : val_digit.f c = some (digitI c) := by
  unfold val_digit.f digitI
  split
  · congr 1; rw [decide_eq_decide]; omega
  · congr 1; symm; rw [decide_eq_false_iff_not]; omega
theorem subst_letter_eq (c : Int) : subst_letter.f c = some (innerI c) := by
  unfold subst_letter.f innerI smallI largeI digitI
  by_cases h1 : 97 ≤ c <;> by_cases h2 : c ≤ 122 <;> by_cases h3 : 65 ≤ c <;> by_cases h4 : c ≤ 90 <;> by_cases h5 : 48 ≤ c <;> by_cases h6 : c ≤ 57 <;> simp [h1, h2, h3, h4, h5, h6]
theorem all_drop {P : Int → Bool} {s : ByteArray} {i : Nat} (h : i < s.size) : ((bytesOf s).drop i).all P = (P (bt s i) && ((bytesOf s).drop (i + 1)).all P) := by
  obtain ⟨x, h1, h2⟩ := codes_split s i h
  rw [h1, h2]; rfl
theorem drop_end (s : ByteArray) : (bytesOf s).drop s.size = [] := by rw [← len_codes s]; exact List.drop_length
theorem val_symbol_l0 (s : ByteArray) (hs : s.size ≤ maxLen) : ∀ i : Nat, i ≤ s.size → Ev (fun k => val_symbol.l0 k s s.size i) (((bytesOf s).drop i).all innerI) := by
  unfold maxLen at hs
  refine back_ind s.size (fun k i => val_symbol.l0 k s s.size i) _ ?_ ?_
  · refine evShift ?_
    simp only [val_symbol.l0]
    refine evNeg (by omega) (evSome (by rw [drop_end]; rfl))
  · intro i hi ih
    refine evShift ?_
    simp only [val_symbol.l0, val_small_eq, val_large_eq, val_digit_eq, Option.bind_some]
    refine evPos (by omega) (evPos (by omega) (evPos (by omega) ?_))
    rw [all_drop hi, wrap_succ hi (by omega)]
    have e : innerI (bt s i) = (smallI (bt s i) || largeI (bt s i) || digitI (bt s i) || bt s i == 95) := rfl
    by_cases h1 : smallI (bt s i) = true
    · rw [e, h1]; simpa using ih
    · by_cases h2 : largeI (bt s i) = true
      · rw [e, h2]; simpa [h1] using ih
      · by_cases h3 : digitI (bt s i) = true
        · rw [e, h3]; simpa [h1, h2] using ih
        · by_cases h4 : bt s i = 95
          · rw [e]; simpa [h1, h2, h3, h4] using ih
          · rw [e]; simp [h1, h2, h3, h4]; exact evSome (by simp [h4])
theorem val_symbol_ev (s : ByteArray) (hs : s.size ≤ maxLen) : Ev (fun k => val_symbol.f k s) (wordS false s) := by
  have hl := val_symbol_l0 s hs 0 (by omega)
  simp only [List.drop_zero, Int.natCast_zero] at hl
  have hj : Ev (fun k => val_symbol.j0 k s true) false := by
    refine evShift ?_
    simp only [val_symbol.j0, if_true]
    exact evSome rfl
  unfold val_symbol.f wordS
  by_cases h1 : (s.size : Int) < 1
  · refine evPos h1 ?_
    have hd : decide (1 ≤ s.size ∧ s.size ≤ 24) = false := decide_eq_false (by omega)
    rw [hd]; exact hj
  · refine evNeg h1 ?_
    by_cases h2 : (s.size : Int) > 24
    · refine evPos h2 ?_
      have hd : decide (1 ≤ s.size ∧ s.size ≤ 24) = false := decide_eq_false (by omega)
      rw [hd]; exact hj
    · refine evNeg h2 (evPos (by omega) ?_)
      have hd : decide (1 ≤ s.size ∧ s.size ≤ 24) = true := decide_eq_true (by omega)
      rw [hd]
      simp only [val_small_eq, Option.bind_some, Bool.true_and]
      by_cases h3 : smallI (bt s 0) = true
      · simp only [h3, Bool.not_true]
        refine evShift ?_
        simp only [val_symbol.j0, Bool.false_eq_true, if_false]
        exact hl
      · replace h3 := Bool.eq_false_iff.mpr h3
        simp only [h3, Bool.not_false]
        exact hj
theorem subst_Var_l0 (s : ByteArray) (hs : s.size ≤ maxLen) : ∀ i : Nat, i ≤ s.size → Ev (fun k => subst_Var.l0 k s s.size i) (((bytesOf s).drop i).all innerI) := by
  unfold maxLen at hs
  refine back_ind s.size (fun k i => subst_Var.l0 k s s.size i) _ ?_ ?_
  · refine evShift ?_
    simp only [subst_Var.l0]
    refine evNeg (by omega) (evSome (by rw [drop_end]; rfl))
  · intro i hi ih
    refine evShift ?_
    simp only [subst_Var.l0, subst_letter_eq, Option.bind_some]
    refine evPos (by omega) (evPos (by omega) (evPos (by omega) ?_))
    rw [all_drop hi, wrap_succ hi (by omega)]
    by_cases h1 : innerI (bt s i) = true
    · rw [h1]; simpa using ih
    · simp [h1]; exact evSome rfl
theorem subst_Var_ev (s : ByteArray) (hs : s.size ≤ maxLen) : Ev (fun k => subst_Var.f k s) (wordS true s) := by
  have hl := subst_Var_l0 s hs 0 (by omega)
  simp only [List.drop_zero, Int.natCast_zero] at hl
  have hj : Ev (fun k => subst_Var.j0 k s true) false := by
    refine evShift ?_
    simp only [subst_Var.j0, if_true]
    exact evSome rfl
  unfold subst_Var.f wordS
  by_cases h1 : (s.size : Int) < 1
  · refine evPos h1 ?_
    have hd : decide (1 ≤ s.size ∧ s.size ≤ 24) = false := decide_eq_false (by omega)
    rw [hd]; exact hj
  · refine evNeg h1 ?_
    by_cases h2 : (s.size : Int) > 24
    · refine evPos h2 ?_
      have hd : decide (1 ≤ s.size ∧ s.size ≤ 24) = false := decide_eq_false (by omega)
      rw [hd]; exact hj
    · refine evNeg h2 (evPos (by omega) ?_)
      have hd : decide (1 ≤ s.size ∧ s.size ≤ 24) = true := decide_eq_true (by omega)
      rw [hd]
      simp only [if_true]
      by_cases h3 : bt s 0 < 65
      · refine evPos h3 ?_
        have : largeI (bt s 0) = false := decide_eq_false (by omega)
        rw [this]; exact hj
      · refine evNeg h3 ?_
        by_cases h4 : bt s 0 > 90
        · have : largeI (bt s 0) = false := decide_eq_false (by omega)
          rw [this, decide_eq_true h4]; exact hj
        · have : largeI (bt s 0) = true := decide_eq_true (by omega)
          rw [this, decide_eq_false h4]
          refine evShift ?_
          simp only [subst_Var.j0, Bool.false_eq_true, if_false, Bool.true_and]
          exact hl
theorem val_plain_ev (s : ByteArray) (hs : s.size ≤ maxLen) : Ev (fun k => val_plain.f k s) ((bytesOf s).all plainI && decide (s.size ≤ 60)) := by
  have h : ∀ i : Nat, i ≤ s.size → Ev (fun k => val_plain.l0 k s s.size i) (((bytesOf s).drop i).all plainI && decide (s.size ≤ 60)) := by
    unfold maxLen at hs
    refine back_ind s.size (fun k i => val_plain.l0 k s s.size i) _ ?_ ?_
    · refine evShift ?_
      simp only [val_plain.l0]
      refine evNeg (by omega) (evSome (by rw [drop_end]; simp; omega))
    · intro i hi ih
      refine evShift ?_
      simp only [val_plain.l0]
      refine evPos (by omega) (evPos (by omega) (evPos (by omega) ?_))
      rw [all_drop hi, wrap_succ hi (by omega)]
      by_cases h1 : bt s i < 32
      · refine evPos h1 (evSome ?_)
        have : plainI (bt s i) = false := decide_eq_false (by omega)
        rw [this]; rfl
      · refine evNeg h1 ?_
        by_cases h2 : bt s i > 126
        · refine evPos h2 (evSome ?_)
          have : plainI (bt s i) = false := decide_eq_false (by omega)
          rw [this]; rfl
        · refine evNeg h2 ?_
          have : plainI (bt s i) = true := decide_eq_true (by omega)
          rw [this]; exact ih
  have := h 0 (by omega)
  simpa [val_plain.f] using this
theorem val_Check_ev (kind n : Int) (s : ByteArray) (hs : s.size ≤ maxLen) : Ev (fun k => val_Check.f k kind n s) (if valS kind n s then 0 else 1) := by
  unfold val_Check.f valS
  by_cases h1 : kind = 1
  · refine evPos h1 ?_
    rw [if_pos h1]
    by_cases h2 : n ≥ -4611686018427387904
    · refine evPos h2 ?_
      by_cases h3 : n ≤ 4611686018427387904
      · refine evPos h3 ?_
        rw [decide_eq_true ((InB_iff n).2 ⟨h2, h3⟩)]
        by_cases h4 : s = ⟨#[]⟩
        · exact evPos (tl_nil.2 h4) (evSome (by simp [h4]))
        · exact evNeg (fun e => h4 (tl_nil.1 e)) (evSome (by simp [h4]))
      · exact evNeg h3 (evSome (by rw [decide_eq_false (fun h => h3 ((InB_iff n).1 h).2)]; rfl))
    · exact evNeg h2 (evSome (by rw [decide_eq_false (fun h => h2 ((InB_iff n).1 h).1)]; rfl))
  · refine evNeg h1 ?_
    rw [if_neg h1]
    by_cases h2 : kind = 2
    · refine evPos h2 ?_
      rw [if_pos h2]
      by_cases h3 : n = 0
      · refine evPos h3 (Ev.bind (val_symbol_ev s hs) ?_)
        rw [decide_eq_true h3]
        cases wordS false s <;> exact evSome rfl
      · refine evNeg h3 (evSome ?_)
        rw [decide_eq_false h3]; rfl
    · refine evNeg h2 ?_
      rw [if_neg h2]
      by_cases h3 : kind = 3
      · refine evPos h3 ?_
        rw [if_pos h3]
        by_cases h4 : n = 0
        · refine evPos h4 (Ev.bind (val_plain_ev s hs) ?_)
          rw [decide_eq_true h4, Bool.true_and]
          cases ((bytesOf s).all plainI && decide (s.size ≤ 60)) <;> exact evSome rfl
        · refine evNeg h4 (evSome ?_)
          rw [decide_eq_false h4]; rfl
      · refine evNeg h3 (evSome ?_)
        rw [if_neg h3]; rfl
end Go.Proofs.Ytaopajmpifenoaa.P
end
section
namespace Go.Proofs.Ytaopajmpifenoaa.P
open Go.RowKit Go.Proofs.YtaopajmpifenoaaW.PrintWords Go.Proofs.YtaopajmpifenoaaW.PrintLast Go.Proofs.YtaopajmpifenoaaW.PrintMore
attribute [local go_sem] max2_int min2_int max_two min_two max_three min_three max_four min_four
set_option linter.unusedVariables false
set_option linter.unusedSimpArgs false
mutual
def constableref01_Do.j0 : Nat → Int → Int → Int → Bool → Option (Int × Int)
  | 0, _, _, _, _ => none
  | k + 1, x0, x1, x2, x17 => if x17 = true then (some (0, 3)) else ((constableref01_In.f x1 (-4611686018427387904) 4611686018427387904).bind fun t323 => (if t323 = true then ((constableref01_In.f x2 (-4611686018427387904) 4611686018427387904).bind fun t324 => (constableref01_Do.j1 k x0 x1 x2 (!t324))) else (constableref01_Do.j1 k x0 x1 x2 true)))
def constableref01_Do.j1 : Nat → Int → Int → Int → Bool → Option (Int × Int)
  | 0, _, _, _, _ => none
  | k + 1, x0, x1, x2, x25 => if x25 = true then (some (0, 4)) else (if x0 = 4 then (constableref01_Do.j2 k x0 x1 x2 (x0 == 4)) else (constableref01_Do.j2 k x0 x1 x2 (x0 == 3)))
def constableref01_Do.j2 : Nat → Int → Int → Int → Bool → Option (Int × Int)
  | 0, _, _, _, _ => none
  | k + 1, x0, x1, x2, x27 => if x27 = true then (if x0 = 4 then (constableref01_Do.j3 k x1 (wrap64 (-x2))) else (constableref01_Do.j3 k x1 x2)) else (if x1 = 0 then (some (wrap64 (x1 * x2), 0)) else (if x2 = 0 then (some (wrap64 (x1 * x2), 0)) else (if (mx x2 (wrap64 (-x2))) = 0 then (none) else (if (mx x1 (wrap64 (-x1))) > (wrap64 (Int.tdiv (4611686018427387904 : Int) (mx x2 (wrap64 (-x2))))) then (some (0, 4)) else (some (wrap64 (x1 * x2), 0))))))
def constableref01_Do.j3 : Nat → Int → Int → Option (Int × Int)
  | 0, _, _ => none
  | k + 1, x1, x2 => if x2 > 0 then (if x1 > (wrap64 (4611686018427387904 - x2)) then (constableref01_Do.j4 k x1 x2 true) else (if x2 < 0 then (constableref01_Do.j4 k x1 x2 (decide (x1 < (wrap64 ((-4611686018427387904) - x2))))) else (constableref01_Do.j4 k x1 x2 false))) else (if x2 < 0 then (constableref01_Do.j4 k x1 x2 (decide (x1 < (wrap64 ((-4611686018427387904) - x2))))) else (constableref01_Do.j4 k x1 x2 false))
def constableref01_Do.j4 : Nat → Int → Int → Bool → Option (Int × Int)
  | 0, _, _, _ => none
  | k + 1, x1, x2, x51 => if x51 = true then (some (0, 4)) else (some (wrap64 (x1 + x2), 0))
end
def constableref01_Do.f (k : Nat) (a0 : Int) (a1 : Int) (a2 : Int) : Option (Int × Int) := if a0 = 3 then (constableref01_Do.j0 k a0 a1 a2 false) else (if a0 = 4 then (constableref01_Do.j0 k a0 a1 a2 false) else (constableref01_Do.j0 k a0 a1 a2 (a0 != 5)))
theorem constableref01_Do.mono_l : ∀ k, (∀ y0 y1 y2 y3, LeO (constableref01_Do.j0 k y0 y1 y2 y3) (constableref01_Do.j0 (k + 1) y0 y1 y2 y3)) ∧ (∀ y0 y1 y2 y3, LeO (constableref01_Do.j1 k y0 y1 y2 y3) (constableref01_Do.j1 (k + 1) y0 y1 y2 y3)) ∧ (∀ y0 y1 y2 y3, LeO (constableref01_Do.j2 k y0 y1 y2 y3) (constableref01_Do.j2 (k + 1) y0 y1 y2 y3)) ∧ (∀ y0 y1, LeO (constableref01_Do.j3 k y0 y1) (constableref01_Do.j3 (k + 1) y0 y1)) ∧ (∀ y0 y1 y2, LeO (constableref01_Do.j4 k y0 y1 y2) (constableref01_Do.j4 (k + 1) y0 y1 y2))
  | 0 => ⟨fun _ _ _ _ r h => by simp [constableref01_Do.j0] at h, fun _ _ _ _ r h => by simp [constableref01_Do.j1] at h, fun _ _ _ _ r h => by simp [constableref01_Do.j2] at h, fun _ _ r h => by simp [constableref01_Do.j3] at h, fun _ _ _ r h => by simp [constableref01_Do.j4] at h⟩
  | k + 1 => by
    obtain ⟨ih0, ih1, ih2, ih3, ih4⟩ := constableref01_Do.mono_l k
    refine ⟨?_, ?_, ?_, ?_, ?_⟩
    · intro y0 y1 y2 y3
      unfold constableref01_Do.j0
      repeat' first
      | (with_reducible exact ih0 _ _ _ _)
      | (with_reducible exact ih1 _ _ _ _)
      | (with_reducible exact ih2 _ _ _ _)
      | (with_reducible exact ih3 _ _)
      | (with_reducible exact ih4 _ _ _)
      | (with_reducible exact LeO.refl _)
      | (with_reducible exact LeO.none _)
      | (with_reducible refine LeO.ite ?_ ?_)
      | (with_reducible refine LeO.bind ?_ (fun _ => ?_))
      | exact ih0 _ _ _ _
      | exact ih1 _ _ _ _
      | exact ih2 _ _ _ _
      | exact ih3 _ _
      | exact ih4 _ _ _
      | exact LeO.none _
      | refine LeO.ite ?_ ?_
      | refine LeO.bind ?_ (fun _ => ?_)
    · intro y0 y1 y2 y3
      unfold constableref01_Do.j1
      repeat' first
      | (with_reducible exact ih0 _ _ _ _)
      | (with_reducible exact ih1 _ _ _ _)
      | (with_reducible exact ih2 _ _ _ _)
      | (with_reducible exact ih3 _ _)
      | (with_reducible exact ih4 _ _ _)
      | (with_reducible exact LeO.refl _)
      | (with_reducible exact LeO.none _)
      | (with_reducible refine LeO.ite ?_ ?_)
      | (with_reducible refine LeO.bind ?_ (fun _ => ?_))
      | exact ih0 _ _ _ _
      | exact ih1 _ _ _ _
      | exact ih2 _ _ _ _
      | exact ih3 _ _
      | exact ih4 _ _ _
      | exact LeO.none _
      | refine LeO.ite ?_ ?_
      | refine LeO.bind ?_ (fun _ => ?_)
    · intro y0 y1 y2 y3
      unfold constableref01_Do.j2
      repeat' first
      | (with_reducible exact ih0 _ _ _ _)
      | (with_reducible exact ih1 _ _ _ _)
      | (with_reducible exact ih2 _ _ _ _)
      | (with_reducible exact ih3 _ _)
      | (with_reducible exact ih4 _ _ _)
      | (with_reducible exact LeO.refl _)
      | (with_reducible exact LeO.none _)
      | (with_reducible refine LeO.ite ?_ ?_)
      | (with_reducible refine LeO.bind ?_ (fun _ => ?_))
      | exact ih0 _ _ _ _
      | exact ih1 _ _ _ _
      | exact ih2 _ _ _ _
      | exact ih3 _ _
      | exact ih4 _ _ _
      | exact LeO.none _
      | refine LeO.ite ?_ ?_
      | refine LeO.bind ?_ (fun _ => ?_)
    · intro y0 y1
      unfold constableref01_Do.j3
      repeat' first
      | (with_reducible exact ih0 _ _ _ _)
      | (with_reducible exact ih1 _ _ _ _)
      | (with_reducible exact ih2 _ _ _ _)
      | (with_reducible exact ih3 _ _)
      | (with_reducible exact ih4 _ _ _)
      | (with_reducible exact LeO.refl _)
      | (with_reducible exact LeO.none _)
      | (with_reducible refine LeO.ite ?_ ?_)
      | (with_reducible refine LeO.bind ?_ (fun _ => ?_))
      | exact ih0 _ _ _ _
      | exact ih1 _ _ _ _
      | exact ih2 _ _ _ _
      | exact ih3 _ _
      | exact ih4 _ _ _
      | exact LeO.none _
      | refine LeO.ite ?_ ?_
      | refine LeO.bind ?_ (fun _ => ?_)
    · intro y0 y1 y2
      unfold constableref01_Do.j4
      repeat' first
      | (with_reducible exact ih0 _ _ _ _)
      | (with_reducible exact ih1 _ _ _ _)
      | (with_reducible exact ih2 _ _ _ _)
      | (with_reducible exact ih3 _ _)
      | (with_reducible exact ih4 _ _ _)
      | (with_reducible exact LeO.refl _)
      | (with_reducible exact LeO.none _)
      | (with_reducible refine LeO.ite ?_ ?_)
      | (with_reducible refine LeO.bind ?_ (fun _ => ?_))
      | exact ih0 _ _ _ _
      | exact ih1 _ _ _ _
      | exact ih2 _ _ _ _
      | exact ih3 _ _
      | exact ih4 _ _ _
      | exact LeO.none _
      | refine LeO.ite ?_ ?_
      | refine LeO.bind ?_ (fun _ => ?_)
theorem constableref01_Do.mono : ∀ a0 a1 a2 k, LeO (constableref01_Do.f k a0 a1 a2) (constableref01_Do.f (k + 1) a0 a1 a2) := by
  intro a0 a1 a2 k
  obtain ⟨ih0, ih1, ih2, ih3, ih4⟩ := constableref01_Do.mono_l k
  unfold constableref01_Do.f
  repeat' first
      | (with_reducible exact ih0 _ _ _ _)
      | (with_reducible exact ih1 _ _ _ _)
      | (with_reducible exact ih2 _ _ _ _)
      | (with_reducible exact ih3 _ _)
      | (with_reducible exact ih4 _ _ _)
      | (with_reducible exact LeO.refl _)
      | (with_reducible exact LeO.none _)
      | (with_reducible refine LeO.ite ?_ ?_)
      | (with_reducible refine LeO.bind ?_ (fun _ => ?_))
      | exact ih0 _ _ _ _
      | exact ih1 _ _ _ _
      | exact ih2 _ _ _ _
      | exact ih3 _ _
      | exact ih4 _ _ _
      | exact LeO.none _
      | refine LeO.ite ?_ ?_
      | refine LeO.bind ?_ (fun _ => ?_)
set_option maxHeartbeats 8000000 in
set_option maxRecDepth 100000 in
theorem constableref01_Do.calls (k : Nat) (a0 : Int) (a1 : Int) (a2 : Int) (r1 : Int) (r2 : Int) (w : World) (h : constableref01_Do.f k a0 a1 a2 = some (r1, r2)) :
    Calls Try.prog 52 #[.int .i64 a0, .int .i64 a1, .int .i64 a2] w fun e w' => e = .returned (.tuple #[.int .i64 r1, .int .i64 r2]) ∧ Below w.heap.size w w' := by
  have HB := Aside0.mk (Below.refl w.heap.size w)
  have H : (if a0 = 3 then (constableref01_Do.j0 k a0 a1 a2 false) else (if a0 = 4 then (constableref01_Do.j0 k a0 a1 a2 false) else (constableref01_Do.j0 k a0 a1 a2 (a0 != 5)))) = some (r1, r2) := h
  clear h
  have HC4 := Aside0.mk H
  clear H
  go_enter Try.func52, Try.ntmps52
  go_upto_region 1 with (fail)
  go_cut [17] (fun v17 wc => ∃ (kq : Nat) (x17_3 : Bool), v17 = .bool x17_3 ∧ Aside0 (constableref01_Do.j0 kq a0 a1 a2 x17_3 = some (r1, r2)) ∧ Aside0 (kq ≤ k) ∧ Aside0 (Below w.heap.size w wc))
  case first =>
    have H := HC4.out
    clear HC4
    by_cases c5 : a0 = 3
    · rw [if_pos c5] at H
      obtain ⟨c5b0, c5b1⟩ := eqB_ c5
      clear c5
      (first | rw [c5b0] | (simp only [i64_w, i32_w]; rw [c5b0]) | skip)
      have H' := Aside0.mk H
      clear H
      go_wp2
      go_meet
      case rel => exact ⟨_, (false), ra_, H', ⟨by first | omega | exact Nat.le_refl _⟩, ⟨by repeat (first | (with_reducible first | exact HB.out | apply below_alloc | apply pw_below_drewN | apply below_drew1) | exact HB.out)⟩⟩
    · rw [if_neg c5] at H
      obtain ⟨c5b0, c5b1⟩ := neB_ c5
      (first | rw [c5b0] | (simp only [i64_w, i32_w]; rw [c5b0]) | skip)
      by_cases c6 : a0 = 4
      · rw [if_pos c6] at H
        obtain ⟨c6b0, c6b1⟩ := eqB_ c6
        clear c6
        have H' := Aside0.mk H
        clear H
        go_wp2
        go_meet
        case rel => exact ⟨_, (false), ra_, H', ⟨by first | omega | exact Nat.le_refl _⟩, ⟨by repeat (first | (with_reducible first | exact HB.out | apply below_alloc | apply pw_below_drewN | apply below_drew1) | exact HB.out)⟩⟩
      · rw [if_neg c6] at H
        obtain ⟨c6b0, c6b1⟩ := neB_ c6
        have H' := Aside0.mk H
        clear H
        go_wp2
        go_meet
        case rel => exact ⟨_, ((a0 != 5)), ra_, H', ⟨by first | omega | exact Nat.le_refl _⟩, ⟨by repeat (first | (with_reducible first | exact HB.out | apply below_alloc | apply pw_below_drewN | apply below_drew1) | exact HB.out)⟩⟩
  case rest =>
    clear HC4
    try clear p2
    try clear c5
    try clear c5b0
    try clear c5b1
    try clear c6
    try clear c6b0
    try clear c6b1
    obtain ⟨kq, x17_3, rfl, HA, HJ3, HB⟩ := hcut
    cases kq with
    | zero => exact absurd HA.out (by simp [constableref01_Do.j0])
    | succ kj3 =>
      have H := HA.out
      clear HA
      simp only [constableref01_Do.j0] at H
      by_cases c7 : x17_3 = true
      · subst c7
        have H1 : (some (0, 3)) = some (r1, r2) := by rw [if_pos rfl] at H; exact H
        clear H
        have H := H1
        clear H1
        simp only [Option.some.injEq, Prod.mk.injEq] at H
        obtain ⟨rfl, rfl⟩ := H
        go_wp2
        go_ret2
        exact ⟨by first | rfl | (simp [errW_none, errW_some] <;> rfl) | (simp [*, errW_none, errW_some] <;> rfl), by repeat (first | (with_reducible first | exact HB.out | apply below_alloc | apply pw_below_drewN | apply below_drew1) | exact HB.out)⟩
      · replace c7 := Bool.eq_false_iff.mpr c7
        subst c7
        have H1 : ((constableref01_In.f a1 (-4611686018427387904) 4611686018427387904).bind fun t323 => (if t323 = true then ((constableref01_In.f a2 (-4611686018427387904) 4611686018427387904).bind fun t324 => (constableref01_Do.j1 kj3 a0 a1 a2 (!t324))) else (constableref01_Do.j1 kj3 a0 a1 a2 true))) = some (r1, r2) := by rw [if_neg (show ¬ (false = true) by decide)] at H; exact H
        clear H
        have H := H1
        clear H1
        have HC8 := Aside0.mk H
        clear H
        go_upto_region 3 with (fail)
        go_cut [25] (fun v25 wc => ∃ (kq : Nat) (x25_7 : Bool), v25 = .bool x25_7 ∧ Aside0 (constableref01_Do.j1 kq a0 a1 a2 x25_7 = some (r1, r2)) ∧ Aside0 (kq ≤ kj3) ∧ Aside0 (Below w.heap.size w wc))
        case first =>
          have H := HC8.out
          clear HC8
          replace H := Option.bind_eq_some_iff.mp H
          obtain ⟨t323, A90, H⟩ := H
          replace H : (if t323 = true then ((constableref01_In.f a2 (-4611686018427387904) 4611686018427387904).bind fun t324 => (constableref01_Do.j1 kj3 a0 a1 a2 (!t324))) else (constableref01_Do.j1 kj3 a0 a1 a2 true)) = some (r1, r2) := H
          have A9 := Aside0.mk A90
          clear A90
          by_cases c10 : t323 = true
          · subst c10
            have H1 : ((constableref01_In.f a2 (-4611686018427387904) 4611686018427387904).bind fun t324 => (constableref01_Do.j1 kj3 a0 a1 a2 (!t324))) = some (r1, r2) := by rw [if_pos rfl] at H; exact H
            clear H
            have H := H1
            clear H1
            replace H := Option.bind_eq_some_iff.mp H
            obtain ⟨t324, A110, H⟩ := H
            replace H : (constableref01_Do.j1 kj3 a0 a1 a2 (!t324)) = some (r1, r2) := H
            have A11 := Aside0.mk A110
            clear A110
            have H' := Aside0.mk H
            clear H
            go_wp2_with (first | ((with_reducible refine gate_callee (f := 29) rfl ?_); refine goesL_ (some 19) rfl rfl Try.func29 (by kernel_rfl) rfl #[.int .i64 a1, .int .i64 (-4611686018427387904), .int .i64 4611686018427387904] rfl ga_ ?_; (with_reducible refine (constableref01_In.calls a1 (-4611686018427387904) 4611686018427387904 true _ A9.out).mono ?_); rintro e w' ⟨rfl, ⟨nd, rfl⟩⟩; refine ⟨_, rfl, ?_⟩) | (go_at_call 29; (with_reducible refine (constableref01_In.calls a2 (-4611686018427387904) 4611686018427387904 t324 _ A11.out).mono ?_); rintro e w' ⟨rfl, ⟨nd, rfl⟩⟩))
            go_meet
            case rel => exact ⟨_, (!t324), ra_, H', ⟨by have := HJ3.out; first | omega | exact Nat.le_refl _⟩, ⟨by repeat (first | (with_reducible first | exact HB.out | apply below_alloc | apply pw_below_drewN | apply below_drew1) | exact HB.out)⟩⟩
          · replace c10 := Bool.eq_false_iff.mpr c10
            subst c10
            have H1 : (constableref01_Do.j1 kj3 a0 a1 a2 true) = some (r1, r2) := by rw [if_neg (show ¬ (false = true) by decide)] at H; exact H
            clear H
            have H := H1
            clear H1
            have H' := Aside0.mk H
            clear H
            go_wp2_with (first | ((with_reducible refine gate_callee (f := 29) rfl ?_); refine goesL_ (some 19) rfl rfl Try.func29 (by kernel_rfl) rfl #[.int .i64 a1, .int .i64 (-4611686018427387904), .int .i64 4611686018427387904] rfl ga_ ?_; (with_reducible refine (constableref01_In.calls a1 (-4611686018427387904) 4611686018427387904 false _ A9.out).mono ?_); rintro e w' ⟨rfl, ⟨nd, rfl⟩⟩; refine ⟨_, rfl, ?_⟩))
            go_meet
            case rel => exact ⟨_, (true), ra_, H', ⟨by have := HJ3.out; first | omega | exact Nat.le_refl _⟩, ⟨by repeat (first | (with_reducible first | exact HB.out | apply below_alloc | apply pw_below_drewN | apply below_drew1) | exact HB.out)⟩⟩
        case rest =>
          clear HC8
          try clear c1
          try clear c2
          try clear p2
          try clear c5
          try clear c5b0
          try clear c5b1
          try clear c6
          try clear c6b0
          try clear c6b1
          try clear c7
          try clear c10
          try clear p2
          obtain ⟨kq, x25_7, rfl, HA, HJ7, HB⟩ := hcut
          cases kq with
          | zero => exact absurd HA.out (by simp [constableref01_Do.j1])
          | succ kj7 =>
            have H := HA.out
            clear HA
            simp only [constableref01_Do.j1] at H
            by_cases c12 : x25_7 = true
            · subst c12
              have H1 : (some (0, 4)) = some (r1, r2) := by rw [if_pos rfl] at H; exact H
              clear H
              have H := H1
              clear H1
              simp only [Option.some.injEq, Prod.mk.injEq] at H
              obtain ⟨rfl, rfl⟩ := H
              go_wp2
              go_ret2
              exact ⟨by first | rfl | (simp [errW_none, errW_some] <;> rfl) | (simp [*, errW_none, errW_some] <;> rfl), by repeat (first | (with_reducible first | exact HB.out | apply below_alloc | apply pw_below_drewN | apply below_drew1) | exact HB.out)⟩
            · replace c12 := Bool.eq_false_iff.mpr c12
              subst c12
              have H1 : (if a0 = 4 then (constableref01_Do.j2 kj7 a0 a1 a2 (a0 == 4)) else (constableref01_Do.j2 kj7 a0 a1 a2 (a0 == 3))) = some (r1, r2) := by rw [if_neg (show ¬ (false = true) by decide)] at H; exact H
              clear H
              have H := H1
              clear H1
              have HC13 := Aside0.mk H
              clear H
              go_upto_if 27 with (fail)
              go_cut [27] (fun v27 wc => ∃ (kq : Nat) (x27_12 : Bool), v27 = .bool x27_12 ∧ Aside0 (constableref01_Do.j2 kq a0 a1 a2 x27_12 = some (r1, r2)) ∧ Aside0 (kq ≤ kj7) ∧ Aside0 (Below w.heap.size w wc))
              case first =>
                have H := HC13.out
                clear HC13
                by_cases c14 : a0 = 4
                · rw [if_pos c14] at H
                  obtain ⟨c14b0, c14b1⟩ := eqB_ c14
                  clear c14
                  (first | rw [c14b0] | (simp only [i64_w, i32_w]; rw [c14b0]) | skip)
                  have H' := Aside0.mk H
                  clear H
                  go_wp2
                  go_meet
                  case rel => exact ⟨_, ((a0 == 4)), ra_, H', ⟨by have := HJ3.out; have := HJ7.out; first | omega | exact Nat.le_refl _⟩, ⟨by repeat (first | (with_reducible first | exact HB.out | apply below_alloc | apply pw_below_drewN | apply below_drew1) | exact HB.out)⟩⟩
                · rw [if_neg c14] at H
                  obtain ⟨c14b0, c14b1⟩ := neB_ c14
                  (first | rw [c14b0] | (simp only [i64_w, i32_w]; rw [c14b0]) | skip)
                  have H' := Aside0.mk H
                  clear H
                  go_wp2
                  go_meet
                  case rel => exact ⟨_, ((a0 == 3)), ra_, H', ⟨by have := HJ3.out; have := HJ7.out; first | omega | exact Nat.le_refl _⟩, ⟨by repeat (first | (with_reducible first | exact HB.out | apply below_alloc | apply pw_below_drewN | apply below_drew1) | exact HB.out)⟩⟩
              case rest =>
                clear HC13
                try clear c1
                try clear c2
                try clear p2
                try clear c5
                try clear c5b0
                try clear c5b1
                try clear c6
                try clear c6b0
                try clear c6b1
                try clear c7
                try clear c10
                try clear c12
                try clear c14
                try clear c14b0
                try clear c14b1
                try clear p2
                obtain ⟨kq, x27_12, rfl, HA, HJ12, HB⟩ := hcut
                cases kq with
                | zero => exact absurd HA.out (by simp [constableref01_Do.j2])
                | succ kj12 =>
                  have H := HA.out
                  clear HA
                  simp only [constableref01_Do.j2] at H
                  by_cases c15 : x27_12 = true
                  · subst c15
                    have H1 : (if a0 = 4 then (constableref01_Do.j3 kj12 a1 (wrap64 (-a2))) else (constableref01_Do.j3 kj12 a1 a2)) = some (r1, r2) := by rw [if_pos rfl] at H; exact H
                    clear H
                    have H := H1
                    clear H1
                    have HC16 := Aside0.mk H
                    clear H
                    go_upto_if 31 with (fail)
                    go_cut [2] (fun v2 wc => ∃ (kq : Nat) (x2_15 : Int), v2 = .int .i64 x2_15 ∧ Aside0 (constableref01_Do.j3 kq a1 x2_15 = some (r1, r2)) ∧ Aside0 (kq ≤ kj12) ∧ Aside0 (Below w.heap.size w wc))
                    case first =>
                      have H := HC16.out
                      clear HC16
                      by_cases c17 : a0 = 4
                      · rw [if_pos c17] at H
                        obtain ⟨c17b0, c17b1⟩ := eqB_ c17
                        clear c17
                        (first | rw [c17b0] | (simp only [i64_w, i32_w]; rw [c17b0]) | skip)
                        have H' := Aside0.mk H
                        clear H
                        go_wp2
                        go_meet
                        case rel => exact ⟨_, (wrap64 (-a2)), ra_, H', ⟨by have := HJ3.out; have := HJ7.out; have := HJ12.out; first | omega | exact Nat.le_refl _⟩, ⟨by repeat (first | (with_reducible first | exact HB.out | apply below_alloc | apply pw_below_drewN | apply below_drew1) | exact HB.out)⟩⟩
                      · rw [if_neg c17] at H
                        obtain ⟨c17b0, c17b1⟩ := neB_ c17
                        (first | rw [c17b0] | (simp only [i64_w, i32_w]; rw [c17b0]) | skip)
                        have H' := Aside0.mk H
                        clear H
                        go_wp2
                        go_meet
                        case rel => exact ⟨_, (a2), ra_, H', ⟨by have := HJ3.out; have := HJ7.out; have := HJ12.out; first | omega | exact Nat.le_refl _⟩, ⟨by repeat (first | (with_reducible first | exact HB.out | apply below_alloc | apply pw_below_drewN | apply below_drew1) | exact HB.out)⟩⟩
                    case rest =>
                      clear HC16
                      try clear c1
                      try clear c2
                      try clear p2
                      try clear c5
                      try clear c5b0
                      try clear c5b1
                      try clear c6
                      try clear c6b0
                      try clear c6b1
                      try clear p6
                      try clear c7
                      try clear c10
                      try clear c12
                      try clear c14
                      try clear c14b0
                      try clear c14b1
                      try clear c15
                      try clear c17
                      try clear c17b0
                      try clear c17b1
                      try clear p2
                      obtain ⟨kq, x2_15, rfl, HA, HJ15, HB⟩ := hcut
                      cases kq with
                      | zero => exact absurd HA.out (by simp [constableref01_Do.j3])
                      | succ kj15 =>
                        have H := HA.out
                        clear HA
                        simp only [constableref01_Do.j3] at H
                        have HC18 := Aside0.mk H
                        clear H
                        go_upto_region 10 with (fail)
                        go_cut [51] (fun v51 wc => ∃ (kq : Nat) (x51_17 : Bool), v51 = .bool x51_17 ∧ Aside0 (constableref01_Do.j4 kq a1 x2_15 x51_17 = some (r1, r2)) ∧ Aside0 (kq ≤ kj15) ∧ Aside0 (Below w.heap.size w wc))
                        case first =>
                          have H := HC18.out
                          clear HC18
                          by_cases c19 : x2_15 > 0
                          · rw [if_pos c19] at H
                            have c19b0 : decide (0 < x2_15) = true := decide_eq_true c19
                            clear c19
                            (first | rw [c19b0] | (simp only [i64_w, i32_w]; rw [c19b0]) | skip)
                            by_cases c20 : a1 > (wrap64 (4611686018427387904 - x2_15))
                            · rw [if_pos c20] at H
                              have c20b0 : decide ((wrap64 (4611686018427387904 - x2_15)) < a1) = true := decide_eq_true c20
                              clear c20
                              have H' := Aside0.mk H
                              clear H
                              go_wp2
                              go_meet
                              case rel => exact ⟨_, (true), ra_, H', ⟨by have := HJ3.out; have := HJ7.out; have := HJ12.out; have := HJ15.out; first | omega | exact Nat.le_refl _⟩, ⟨by repeat (first | (with_reducible first | exact HB.out | apply below_alloc | apply pw_below_drewN | apply below_drew1) | exact HB.out)⟩⟩
                            · rw [if_neg c20] at H
                              have c20b0 : decide ((wrap64 (4611686018427387904 - x2_15)) < a1) = false := decide_eq_false c20
                              clear c20
                              by_cases c21 : x2_15 < 0
                              · rw [if_pos c21] at H
                                have c21b0 : decide (x2_15 < 0) = true := decide_eq_true c21
                                clear c21
                                have H' := Aside0.mk H
                                clear H
                                go_wp2
                                go_meet
                                case rel => exact ⟨_, (decide (a1 < (wrap64 ((-4611686018427387904) - x2_15)))), ra_, H', ⟨by have := HJ3.out; have := HJ7.out; have := HJ12.out; have := HJ15.out; first | omega | exact Nat.le_refl _⟩, ⟨by repeat (first | (with_reducible first | exact HB.out | apply below_alloc | apply pw_below_drewN | apply below_drew1) | exact HB.out)⟩⟩
                              · rw [if_neg c21] at H
                                have c21b0 : decide (x2_15 < 0) = false := decide_eq_false c21
                                clear c21
                                have H' := Aside0.mk H
                                clear H
                                go_wp2
                                go_meet
                                case rel => exact ⟨_, (false), ra_, H', ⟨by have := HJ3.out; have := HJ7.out; have := HJ12.out; have := HJ15.out; first | omega | exact Nat.le_refl _⟩, ⟨by repeat (first | (with_reducible first | exact HB.out | apply below_alloc | apply pw_below_drewN | apply below_drew1) | exact HB.out)⟩⟩
                          · rw [if_neg c19] at H
                            have c19b0 : decide (0 < x2_15) = false := decide_eq_false c19
                            clear c19
                            (first | rw [c19b0] | (simp only [i64_w, i32_w]; rw [c19b0]) | skip)
                            by_cases c22 : x2_15 < 0
                            · rw [if_pos c22] at H
                              have c22b0 : decide (x2_15 < 0) = true := decide_eq_true c22
                              clear c22
                              have H' := Aside0.mk H
                              clear H
                              go_wp2
                              go_meet
                              case rel => exact ⟨_, (decide (a1 < (wrap64 ((-4611686018427387904) - x2_15)))), ra_, H', ⟨by have := HJ3.out; have := HJ7.out; have := HJ12.out; have := HJ15.out; first | omega | exact Nat.le_refl _⟩, ⟨by repeat (first | (with_reducible first | exact HB.out | apply below_alloc | apply pw_below_drewN | apply below_drew1) | exact HB.out)⟩⟩
                            · rw [if_neg c22] at H
                              have c22b0 : decide (x2_15 < 0) = false := decide_eq_false c22
                              clear c22
                              have H' := Aside0.mk H
                              clear H
                              go_wp2
                              go_meet
                              case rel => exact ⟨_, (false), ra_, H', ⟨by have := HJ3.out; have := HJ7.out; have := HJ12.out; have := HJ15.out; first | omega | exact Nat.le_refl _⟩, ⟨by repeat (first | (with_reducible first | exact HB.out | apply below_alloc | apply pw_below_drewN | apply below_drew1) | exact HB.out)⟩⟩
                        case rest =>
                          clear HC18
                          try clear c1
                          try clear c2
                          try clear p2
                          try clear c5
                          try clear c5b0
                          try clear c5b1
                          try clear c6
                          try clear c6b0
                          try clear c6b1
                          try clear p6
                          try clear c7
                          try clear c10
                          try clear c12
                          try clear c14
                          try clear c14b0
                          try clear c14b1
                          try clear c15
                          try clear c17
                          try clear c17b0
                          try clear c17b1
                          try clear c19
                          try clear c19b0
                          try clear c20
                          try clear c20b0
                          try clear c21
                          try clear c21b0
                          try clear c22
                          try clear c22b0
                          try clear p2
                          try clear p6
                          obtain ⟨kq, x51_17, rfl, HA, HJ17, HB⟩ := hcut
                          cases kq with
                          | zero => exact absurd HA.out (by simp [constableref01_Do.j4])
                          | succ kj17 =>
                            have H := HA.out
                            clear HA
                            simp only [constableref01_Do.j4] at H
                            by_cases c23 : x51_17 = true
                            · subst c23
                              have H1 : (some (0, 4)) = some (r1, r2) := by rw [if_pos rfl] at H; exact H
                              clear H
                              have H := H1
                              clear H1
                              simp only [Option.some.injEq, Prod.mk.injEq] at H
                              obtain ⟨rfl, rfl⟩ := H
                              go_wp2
                              go_ret2
                              exact ⟨by first | rfl | (simp [errW_none, errW_some] <;> rfl) | (simp [*, errW_none, errW_some] <;> rfl), by repeat (first | (with_reducible first | exact HB.out | apply below_alloc | apply pw_below_drewN | apply below_drew1) | exact HB.out)⟩
                            · replace c23 := Bool.eq_false_iff.mpr c23
                              subst c23
                              have H1 : (some (wrap64 (a1 + x2_15), 0)) = some (r1, r2) := by rw [if_neg (show ¬ (false = true) by decide)] at H; exact H
                              clear H
                              have H := H1
                              clear H1
                              simp only [Option.some.injEq, Prod.mk.injEq] at H
                              obtain ⟨rfl, rfl⟩ := H
                              go_wp2
                              go_ret2
                              exact ⟨by first | rfl | (simp [errW_none, errW_some] <;> rfl) | (simp [*, errW_none, errW_some] <;> rfl), by repeat (first | (with_reducible first | exact HB.out | apply below_alloc | apply pw_below_drewN | apply below_drew1) | exact HB.out)⟩
                  · replace c15 := Bool.eq_false_iff.mpr c15
                    subst c15
                    have H1 : (if a1 = 0 then (some (wrap64 (a1 * a2), 0)) else (if a2 = 0 then (some (wrap64 (a1 * a2), 0)) else (if (mx a2 (wrap64 (-a2))) = 0 then (none) else (if (mx a1 (wrap64 (-a1))) > (wrap64 (Int.tdiv (4611686018427387904 : Int) (mx a2 (wrap64 (-a2))))) then (some (0, 4)) else (some (wrap64 (a1 * a2), 0)))))) = some (r1, r2) := by rw [if_neg (show ¬ (false = true) by decide)] at H; exact H
                    clear H
                    have H := H1
                    clear H1
                    by_cases c24 : a1 = 0
                    · rw [if_pos c24] at H
                      obtain ⟨c24b0, c24b1⟩ := eqB_ c24
                      clear c24
                      simp only [Option.some.injEq, Prod.mk.injEq] at H
                      obtain ⟨rfl, rfl⟩ := H
                      go_wp2
                      go_ret2
                      exact ⟨by first | rfl | (simp [errW_none, errW_some] <;> rfl) | (simp [*, errW_none, errW_some] <;> rfl), by repeat (first | (with_reducible first | exact HB.out | apply below_alloc | apply pw_below_drewN | apply below_drew1) | exact HB.out)⟩
                    · rw [if_neg c24] at H
                      obtain ⟨c24b0, c24b1⟩ := neB_ c24
                      by_cases c25 : a2 = 0
                      · rw [if_pos c25] at H
                        obtain ⟨c25b0, c25b1⟩ := eqB_ c25
                        clear c25
                        simp only [Option.some.injEq, Prod.mk.injEq] at H
                        obtain ⟨rfl, rfl⟩ := H
                        go_wp2
                        go_ret2
                        exact ⟨by first | rfl | (simp [errW_none, errW_some] <;> rfl) | (simp [*, errW_none, errW_some] <;> rfl), by repeat (first | (with_reducible first | exact HB.out | apply below_alloc | apply pw_below_drewN | apply below_drew1) | exact HB.out)⟩
                      · rw [if_neg c25] at H
                        obtain ⟨c25b0, c25b1⟩ := neB_ c25
                        obtain ⟨ji26, hji26⟩ : ∃ j_ : Int, (mx a1 (wrap64 (-a1))) = j_ := ⟨_, rfl⟩
                        replace H : (if (mx a2 (wrap64 (-a2))) = 0 then (none) else (if (ji26) > (wrap64 (Int.tdiv (4611686018427387904 : Int) (mx a2 (wrap64 (-a2))))) then (some (0, 4)) else (some (wrap64 (a1 * a2), 0)))) = some (r1, r2) := by first | (rw [hji26] at H; exact H) | (simp only [hji26] at H ⊢; exact H)
                        have hji26_ : (if a1 < (wrap64 (-a1)) then (wrap64 (-a1)) else a1) = ji26 := hji26
                        obtain ⟨ji27, hji27⟩ : ∃ j_ : Int, (mx a2 (wrap64 (-a2))) = j_ := ⟨_, rfl⟩
                        replace H : (if (ji27) = 0 then (none) else (if (ji26) > (wrap64 (Int.tdiv (4611686018427387904 : Int) (ji27))) then (some (0, 4)) else (some (wrap64 (a1 * a2), 0)))) = some (r1, r2) := by first | (rw [hji27] at H; exact H) | (simp only [hji27] at H ⊢; exact H)
                        have hji27_ : (if a2 < (wrap64 (-a2)) then (wrap64 (-a2)) else a2) = ji27 := hji27
                        by_cases c28 : (ji27) = 0
                        · rw [if_pos c28] at H
                          exact absurd H (by simp)
                        · rw [if_neg c28] at H
                          obtain ⟨c28b0, c28b1⟩ := neB_ c28
                          by_cases c29 : (ji26) > (wrap64 (Int.tdiv (4611686018427387904 : Int) (ji27)))
                          · rw [if_pos c29] at H
                            have c29b0 : decide ((wrap64 (Int.tdiv (4611686018427387904 : Int) (ji27))) < (ji26)) = true := decide_eq_true c29
                            clear c29
                            simp only [Option.some.injEq, Prod.mk.injEq] at H
                            obtain ⟨rfl, rfl⟩ := H
                            go_wp2
                            go_ret2
                            exact ⟨by first | rfl | (simp [errW_none, errW_some] <;> rfl) | (simp only [← hji26, ← hji27]; first | rfl | (simp [errW_none, errW_some] <;> rfl)) | (simp [*, errW_none, errW_some] <;> rfl), by repeat (first | (with_reducible first | exact HB.out | apply below_alloc | apply pw_below_drewN | apply below_drew1) | exact HB.out)⟩
                          · rw [if_neg c29] at H
                            have c29b0 : decide ((wrap64 (Int.tdiv (4611686018427387904 : Int) (ji27))) < (ji26)) = false := decide_eq_false c29
                            clear c29
                            simp only [Option.some.injEq, Prod.mk.injEq] at H
                            obtain ⟨rfl, rfl⟩ := H
                            go_wp2
                            go_ret2
                            exact ⟨by first | rfl | (simp [errW_none, errW_some] <;> rfl) | (simp only [← hji26, ← hji27]; first | rfl | (simp [errW_none, errW_some] <;> rfl)) | (simp [*, errW_none, errW_some] <;> rfl), by repeat (first | (with_reducible first | exact HB.out | apply below_alloc | apply pw_below_drewN | apply below_drew1) | exact HB.out)⟩
end Go.Proofs.Ytaopajmpifenoaa.P
end
section
namespace Go.Proofs.Ytaopajmpifenoaa.P
open Go.RowKit Go.Proofs.YtaopajmpifenoaaW.PrintWords Go.Proofs.YtaopajmpifenoaaW.PrintLast Go.Proofs.YtaopajmpifenoaaW.PrintMore
theorem ref_In_eq (a b c : Int) : constableref01_In.f a b c = some (decide (b ≤ a ∧ a ≤ c)) := by
  unfold constableref01_In.f
  split
  · congr 1; rw [decide_eq_decide]; omega
  · congr 1; symm; rw [decide_eq_false_iff_not]; omega
theorem abs_mul_abs (a b : Int) : (if a < -a then -a else a) * (if b < -b then -b else b) = if a * b < 0 then -(a * b) else a * b := by
  by_cases ha : a < -a <;> by_cases hb : b < -b <;> simp only [ha, hb, if_true, if_false]
  · have : 0 < a * b := Int.mul_pos_of_neg_of_neg (by omega) (by omega)
    rw [if_neg (by omega)]; exact Int.neg_mul_neg a b
  · have : a * b ≤ 0 := Int.mul_nonpos_of_nonpos_of_nonneg (by omega) (by omega)
    rw [Int.neg_mul]; split <;> omega
  · have : a * b ≤ 0 := Int.mul_nonpos_of_nonneg_of_nonpos (by omega) (by omega)
    rw [Int.mul_neg]; split <;> omega
  · have : 0 ≤ a * b := Int.mul_nonneg (by omega) (by omega)
    rw [if_neg (by omega)]
theorem ref_over {a b : Int} (ha : InB a) (hb : InB b) (hb0 : b ≠ 0) :
    (mx a (wrap64 (-a)) > wrap64 (Int.tdiv 4611686018427387904 (mx b (wrap64 (-b))))) ↔ ¬ InB (a * b) := by
  rw [InB_iff] at ha hb
  have e1 : wrap64 (-a) = -a := by unfold wrap64; omega
  have e2 : wrap64 (-b) = -b := by unfold wrap64; omega
  rw [e1, e2]
  have m1 : mx a (-a) = if a < -a then -a else a := rfl
  have m2 : mx b (-b) = if b < -b then -b else b := rfl
  have hm := abs_mul_abs a b
  rw [← m1, ← m2] at hm
  have p1 : 0 ≤ mx a (-a) := by rw [m1]; split <;> omega
  have p2 : 0 < mx b (-b) := by rw [m2]; split <;> omega
  generalize mx a (-a) = x at *
  generalize mx b (-b) = y at *
  rw [Int.tdiv_eq_ediv_of_nonneg (by decide)]
  have h1 : 4611686018427387904 / y ≤ 4611686018427387904 := Int.ediv_le_self _ (by decide)
  have h2 : 0 ≤ 4611686018427387904 / y := Int.ediv_nonneg (by decide) (by omega)
  have e3 : wrap64 (4611686018427387904 / y) = 4611686018427387904 / y := by unfold wrap64; omega
  rw [e3, InB_iff]
  have h3 : 4611686018427387904 / y < x ↔ 4611686018427387904 < x * y := Int.ediv_lt_iff_lt_mul p2
  rw [gt_iff_lt, h3, hm]
  split <;> omega
theorem ref_Do_eq (kind a b : Int) (k : Nat) : constableref01_Do.f (k + 5) kind a b = some (doS kind a b) := by
  unfold constableref01_Do.f doS
  simp only [constableref01_Do.j0, constableref01_Do.j1, constableref01_Do.j2, constableref01_Do.j3, constableref01_Do.j4, ref_In_eq, Option.bind_some]
  have i1 : decide (-4611686018427387904 ≤ a ∧ a ≤ 4611686018427387904) = decide (InB a) := rfl
  have i2 : decide (-4611686018427387904 ≤ b ∧ b ≤ 4611686018427387904) = decide (InB b) := rfl
  rw [i1, i2]
  by_cases ha : InB a
  · by_cases hb : InB b
    · simp only [ha, hb, decide_true, if_true, Bool.not_true, Bool.false_eq_true, if_false, and_self]
      have add : ∀ c : Int, InB c → (if c > 0 then (if a > (wrap64 (4611686018427387904 - c)) then (if true = true then some (0, 4) else some (wrap64 (a + c), 0)) else (if c < 0 then (if decide (a < (wrap64 ((-4611686018427387904) - c))) = true then some (0, 4) else some (wrap64 (a + c), 0)) else (some (wrap64 (a + c), 0)))) else (if c < 0 then (if decide (a < (wrap64 ((-4611686018427387904) - c))) = true then some (0, 4) else some (wrap64 (a + c), 0)) else (some (wrap64 (a + c), 0)))) = some (if InB (a + c) then (a + c, (0 : Int)) else (0, 4)) := by
        intro c hc
        have ha' := (InB_iff a).1 ha
        rw [InB_iff] at hc
        unfold wrap64
        by_cases p : c > 0
        · rw [if_pos p]
          split
          · rw [if_pos rfl, if_neg (by rw [InB_iff]; omega)]
          · rw [if_neg (by omega), if_pos (by rw [InB_iff]; omega)]; congr 2; omega
        · rw [if_neg p]
          split
          · simp only [decide_eq_true_eq]
            split
            · rw [if_neg (by rw [InB_iff]; omega)]
            · rw [if_pos (by rw [InB_iff]; omega)]; congr 2; omega
          · rw [if_pos (by rw [InB_iff]; omega)]; congr 2; omega
      have hn : wrap64 (-b) = -b := by rw [InB_iff] at hb; unfold wrap64; omega
      have a1 := add b hb
      have a2 := add (-b) (by rw [InB_iff] at *; omega)
      rw [hn]
      simp only [if_true] at a1 a2
      by_cases h3 : kind = 3
      · subst h3
        simp only [if_true, true_or]
        simp only [show ((3 : Int) = 4) = False by simp, if_false, beq_self_eq_true, if_true]
        exact a1
      · by_cases h4 : kind = 4
        · subst h4
          simp only [show ((4 : Int) = 3) = False by simp, if_false, true_or, or_true, if_true, beq_self_eq_true, Int.sub_eq_add_neg]
          exact a2
        · by_cases h5 : kind = 5
          · subst h5
            simp only [show ((5 : Int) = 3) = False by simp, show ((5 : Int) = 4) = False by simp, if_false, or_true, if_true]
            simp only [show ((5 : Int) == 3) = false by rfl, show ((5 : Int) != 5) = false by rfl, Bool.false_eq_true, if_false]
            by_cases a0 : a = 0
            · subst a0; simp [wrap64, InB_iff]
            · by_cases b0 : b = 0
              · subst b0; simp [wrap64, InB_iff]
              · have ro := ref_over ha hb b0
                rw [hn] at ro
                rw [if_neg a0, if_neg b0, if_neg]
                · by_cases ho : InB (a * b)
                  · rw [if_neg (by rw [ro]; exact not_not_intro ho), if_pos ho]
                    rw [InB_iff] at ho
                    congr 2
                    unfold wrap64; omega
                  · rw [if_pos (by rw [ro]; exact ho), if_neg ho]
                · have : mx b (-b) = if b < -b then -b else b := rfl
                  rw [this]; split <;> omega
          · simp [h3, h4, h5]
    · simp only [ha, hb, decide_true, decide_false, if_true, Bool.not_false, and_false, if_false]
      by_cases h3 : kind = 3
      · simp [h3]
      · by_cases h4 : kind = 4
        · simp [h4]
        · by_cases h5 : kind = 5 <;> simp [h3, h4, h5]
  · simp only [ha, decide_false, Bool.false_eq_true, if_false, if_true, false_and]
    by_cases h3 : kind = 3
    · simp [h3]
    · by_cases h4 : kind = 4
      · simp [h4]
      · by_cases h5 : kind = 5 <;> simp [h3, h4, h5]
theorem ref_Do_ev (kind a b : Int) : Ev (fun k => constableref01_Do.f k kind a b) (doS kind a b) := Ev.of (constableref01_Do.mono _ _ _) (ref_Do_eq kind a b 0)
end Go.Proofs.Ytaopajmpifenoaa.P
end
section
namespace Go.Proofs.Ytaopajmpifenoaa.P
open Go.RowKit Go.Proofs.YtaopajmpifenoaaW.PrintWords Go.Proofs.YtaopajmpifenoaaW.PrintLast Go.Proofs.YtaopajmpifenoaaW.PrintMore
theorem ref_Lower_eq (c : Int) : constableref01_Lower.f c = some (smallI c) := by
  unfold constableref01_Lower.f smallI
  split
  · congr 1; rw [decide_eq_decide]; omega
  · congr 1; symm; rw [decide_eq_false_iff_not]; omega
theorem ref_Upper_eq (c : Int) : constableref01_Upper.f c = some (largeI c) := by
  unfold constableref01_Upper.f largeI
  split
  · congr 1; rw [decide_eq_decide]; omega
  · congr 1; symm; rw [decide_eq_false_iff_not]; omega
theorem ref_Digit_eq (c : Int) : constableref01_Digit.f c = some (digitI c) := by
  unfold constableref01_Digit.f digitI
  split
  · congr 1; rw [decide_eq_decide]; omega
  · congr 1; symm; rw [decide_eq_false_iff_not]; omega
theorem ref_inner_eq (c : Int) : constableref01_inner.f c = some (innerI c) := by
  unfold constableref01_inner.f innerI
  simp only [ref_Lower_eq, ref_Upper_eq, ref_Digit_eq, Option.bind_some]
  cases smallI c <;> cases largeI c <;> cases digitI c <;> simp
theorem ref_Word_l0 (s : ByteArray) (hs : s.size ≤ maxLen) : ∀ i : Nat, i ≤ s.size → Ev (fun k => constableref01_Word.l0 k s i) (((bytesOf s).drop i).all innerI) := by
  unfold maxLen at hs
  refine back_ind s.size (fun k i => constableref01_Word.l0 k s i) _ ?_ ?_
  · refine evShift ?_
    simp only [constableref01_Word.l0]
    refine evNeg (by omega) (evSome (by rw [drop_end]; rfl))
  · intro i hi ih
    refine evShift ?_
    simp only [constableref01_Word.l0, ref_inner_eq, Option.bind_some]
    refine evPos (by omega) (evPos (by omega) ?_)
    rw [all_drop hi, wrap_succ hi (by omega)]
    by_cases h1 : innerI (bt s i) = true
    · rw [h1]; simpa using ih
    · simp [h1]; exact evSome rfl
theorem not_both (c : Int) : largeI c = true → smallI c = false := by
  unfold largeI smallI
  intro h
  rw [decide_eq_true_eq] at h
  exact decide_eq_false (by omega)
theorem ref_Word_ev (s : ByteArray) (large : Bool) (hs : s.size ≤ maxLen) : Ev (fun k => constableref01_Word.f k s large) (wordS large s) := by
  have hl := ref_Word_l0 s hs 0 (by omega)
  simp only [List.drop_zero, Int.natCast_zero] at hl
  have hj : Ev (fun k => constableref01_Word.j0 k s true) false := by
    refine evShift ?_
    simp only [constableref01_Word.j0, if_true]
    exact evSome rfl
  have hj2 : Ev (fun k => constableref01_Word.j0 k s false) ((bytesOf s).all innerI) := by
    refine evShift ?_
    simp only [constableref01_Word.j0, Bool.false_eq_true, if_false]
    exact hl
  unfold constableref01_Word.f wordS
  simp only [ref_In_eq, ref_Upper_eq, ref_Lower_eq, Option.bind_some]
  by_cases h1 : 1 ≤ s.size ∧ s.size ≤ 24
  · have hd : decide (1 ≤ s.size ∧ s.size ≤ 24) = true := decide_eq_true h1
    have hd' : decide ((1 : Int) ≤ s.size ∧ (s.size : Int) ≤ 24) = true := decide_eq_true (by omega)
    rw [hd, hd']
    refine evPos rfl (evPos (by omega) ?_)
    have hb := not_both (bt s 0)
    cases large <;> cases h2 : largeI (bt s 0) <;> simp [h2] at hb ⊢
    · cases h3 : smallI (bt s 0)
      · simp; exact hj
      · simp; exact hj2
    · rw [hb]; simp; exact hj
    · exact hj
    · exact hj2
  · have hd : decide (1 ≤ s.size ∧ s.size ≤ 24) = false := decide_eq_false h1
    have hd' : decide ((1 : Int) ≤ s.size ∧ (s.size : Int) ≤ 24) = false := decide_eq_false (by omega)
    rw [hd, hd']
    exact evNeg (by decide) hj
theorem ref_Value_l0 (a b : Int) (s : ByteArray) (hs : s.size ≤ maxLen) : ∀ i : Nat, i ≤ s.size → Ev (fun k => constableref01_Value.l0 k i a b s) (((bytesOf s).drop i).all plainI) := by
  unfold maxLen at hs
  refine back_ind s.size (fun k i => constableref01_Value.l0 k i a b s) _ ?_ ?_
  · refine evShift ?_
    simp only [constableref01_Value.l0]
    refine evNeg (by omega) (evSome (by rw [drop_end]; rfl))
  · intro i hi ih
    refine evShift ?_
    simp only [constableref01_Value.l0, ref_In_eq, Option.bind_some]
    refine evPos (by omega) (evPos (by omega) ?_)
    rw [all_drop hi, wrap_succ hi (by omega)]
    have hr := bt_range s i
    have hw : wrap64 (bt s i) = bt s i := by unfold wrap64; omega
    rw [hw]
    have e : decide (32 ≤ bt s i ∧ bt s i ≤ 126) = plainI (bt s i) := rfl
    rw [e]
    by_cases h1 : plainI (bt s i) = true
    · rw [h1]; simpa using ih
    · simp [h1]; exact evSome rfl
theorem ref_Value_ev (kind n : Int) (s : ByteArray) (hs : s.size ≤ maxLen) : Ev (fun k => constableref01_Value.f k kind n s) (valS kind n s) := by
  unfold constableref01_Value.f valS
  by_cases h1 : kind = 1
  · refine evPos h1 ?_
    rw [if_pos h1]
    simp only [ref_In_eq, Option.bind_some]
    have i1 : decide (-4611686018427387904 ≤ n ∧ n ≤ 4611686018427387904) = decide (InB n) := rfl
    rw [i1]
    by_cases h2 : InB n
    · rw [decide_eq_true h2]
      refine evPos rfl (evSome ?_)
      rw [Bool.eq_iff_iff]
      simp [← size_zero]
    · rw [decide_eq_false h2]
      exact evNeg (by decide) (evSome rfl)
  · refine evNeg h1 ?_
    rw [if_neg h1]
    by_cases h2 : kind = 2
    · refine evPos h2 ?_
      rw [if_pos h2]
      by_cases h3 : n = 0
      · refine evPos h3 (Ev.bind (ref_Word_ev s false hs) (evSome ?_))
        rw [decide_eq_true h3]; simp
      · refine evNeg h3 (evSome ?_)
        rw [decide_eq_false h3]; rfl
    · refine evNeg h2 ?_
      rw [if_neg h2]
      by_cases h3 : kind = 3
      · refine evPos h3 ?_
        rw [if_pos h3]
        by_cases h4 : n = 0
        · refine evPos h4 (evShift ?_)
          rw [decide_eq_true h4]
          simp only [constableref01_Value.j0]
          by_cases h5 : (s.size : Int) > 60
          · refine evPos (decide_eq_true h5) (evSome ?_)
            have : decide (s.size ≤ 60) = false := decide_eq_false (by omega)
            rw [this]; simp
          · refine evNeg (by rw [decide_eq_false h5]; decide) ?_
            have : decide (s.size ≤ 60) = true := decide_eq_true (by omega)
            rw [this]
            have := ref_Value_l0 kind n s hs 0 (by omega)
            simpa using this
        · refine evNeg h4 (evShift ?_)
          simp only [constableref01_Value.j0, if_true]
          refine evSome ?_
          rw [decide_eq_false h4]; rfl
      · refine evNeg h3 (evSome ?_)
        rw [if_neg h3]
end Go.Proofs.Ytaopajmpifenoaa.P
end
section
namespace Go.Proofs.Ytaopajmpifenoaa.P
open Go.RowKit Go.Proofs.YtaopajmpifenoaaW.PrintWords Go.Proofs.YtaopajmpifenoaaW.PrintLast Go.Proofs.YtaopajmpifenoaaW.PrintMore
theorem cb_zero : ∀ a b : List UInt8, Lib.compareBytes a b = 0 ↔ a = b
  | [], [] => by simp [Lib.compareBytes]
  | [], _ :: _ => by simp [Lib.compareBytes]
  | _ :: _, [] => by simp [Lib.compareBytes]
  | x :: a, y :: b => by
    have ih := cb_zero a b
    simp only [Lib.compareBytes, List.cons.injEq]
    by_cases h : x < y
    · rw [if_pos h]
      refine ⟨fun h => absurd h (by decide), fun e => ?_⟩
      rw [e.1] at h; exact absurd h (UInt8.lt_irrefl y)
    · rw [if_neg h]
      by_cases h2 : y < x
      · rw [if_pos h2]
        refine ⟨fun h => absurd h (by decide), fun e => ?_⟩
        rw [e.1] at h2; exact absurd h2 (UInt8.lt_irrefl y)
      · rw [if_neg h2, ih]
        have : x = y := by
          rw [UInt8.lt_iff_toNat_lt] at h h2
          exact UInt8.toNat_inj.1 (by omega)
        exact ⟨fun e => ⟨this, e⟩, fun e => e.2⟩
theorem cb_less_iff : ∀ a b : List UInt8, Op.bytesLess a b = true ↔ Lib.compareBytes a b < 0
  | [], [] => by simp [Op.bytesLess, Lib.compareBytes]
  | [], _ :: _ => by simp [Op.bytesLess, Lib.compareBytes]
  | _ :: _, [] => by simp [Op.bytesLess, Lib.compareBytes]
  | x :: a, y :: b => by
    have ih := cb_less_iff a b
    simp only [Op.bytesLess, Lib.compareBytes]
    by_cases h : x < y
    · rw [if_pos h, decide_eq_true h]; simp
    · rw [if_neg h, decide_eq_false h, Bool.false_or]
      by_cases h2 : y < x
      · rw [if_pos h2]
        have e : (x == y) = false := beq_eq_false_iff_ne.mpr (fun e => by rw [e] at h2; exact absurd h2 (UInt8.lt_irrefl y))
        rw [e]; simp
      · rw [if_neg h2]
        have : x = y := by
          rw [UInt8.lt_iff_toNat_lt] at h h2
          exact UInt8.toNat_inj.1 (by omega)
        subst this
        rw [beq_self_eq_true, Bool.true_and]; exact ih
theorem cb_less (a b : List UInt8) : Op.bytesLess a b = decide (Lib.compareBytes a b < 0) := by
  rw [Bool.eq_iff_iff, cb_less_iff, decide_eq_true_eq]
theorem cb_swap : ∀ a b : List UInt8, Lib.compareBytes b a = - Lib.compareBytes a b
  | [], [] => rfl
  | [], _ :: _ => rfl
  | _ :: _, [] => rfl
  | x :: a, y :: b => by
    have ih := cb_swap a b
    simp only [Lib.compareBytes]
    by_cases h : x < y
    · have h2 : ¬ y < x := by rw [UInt8.lt_iff_toNat_lt] at h ⊢; omega
      rw [if_neg h2, if_pos h, if_pos h]; rfl
    · by_cases h2 : y < x
      · rw [if_pos h2, if_neg h, if_pos h2]
      · rw [if_neg h2, if_neg h, if_neg h, if_neg h2]; exact ih
def cmpI (a b : Int) : Int := if a < b then -1 else if a > b then 1 else 0
def cmpB (s t : ByteArray) : Int := Lib.compareBytes s.data.toList t.data.toList
def cmpV (v w : S23) : Int := if cmpI v.f0 w.f0 = 0 then (if cmpI v.f1 w.f1 = 0 then cmpB v.f2 w.f2 else cmpI v.f1 w.f1) else cmpI v.f0 w.f0
theorem cmpI_zero (a b : Int) : cmpI a b = 0 ↔ a = b := by unfold cmpI; split <;> (try split) <;> omega
theorem cmpI_swap (a b : Int) : cmpI b a = - cmpI a b := by unfold cmpI; split <;> (try split) <;> (try split) <;> (try split) <;> omega
theorem cmpB_zero (s t : ByteArray) : cmpB s t = 0 ↔ s = t := by
  unfold cmpB
  rw [cb_zero]
  exact ⟨fun h => ByteArray.ext (Array.toList_inj.1 h), fun h => by rw [h]⟩
theorem cmpV_zero (v w : S23) : cmpV v w = 0 ↔ v = w := by
  obtain ⟨a, b, c⟩ := v
  obtain ⟨x, y, z⟩ := w
  have h1 := cmpI_zero a x
  have h2 := cmpI_zero b y
  have h3 := cmpB_zero c z
  unfold cmpV
  simp only [S23.mk.injEq]
  by_cases e1 : cmpI a x = 0
  · rw [if_pos e1]
    by_cases e2 : cmpI b y = 0
    · rw [if_pos e2, h3]; exact ⟨fun h => ⟨h1.1 e1, h2.1 e2, h⟩, fun h => h.2.2⟩
    · rw [if_neg e2]; exact ⟨fun h => absurd h e2, fun h => absurd (h2.2 h.2.1) e2⟩
  · rw [if_neg e1]; exact ⟨fun h => absurd h e1, fun h => absurd (h1.2 h.1) e1⟩
theorem cmpV_swap (v w : S23) : cmpV w v = - cmpV v w := by
  unfold cmpV cmpB
  rw [cmpI_swap v.f0 w.f0, cmpI_swap v.f1 w.f1, cb_swap v.f2.data.toList w.f2.data.toList]
  split <;> split <;> (try split) <;> (try split) <;> omega
theorem cmp_Compare_eq (a b : Int) : cmp_Compare_int.f a b = some (cmpI a b) := by
  simp only [cmp_Compare_int.f, cmp_isNaN_int.f, Option.bind_some, bne_self_eq_false, Bool.false_eq_true, if_false, cmpI]
  split
  · rfl
  · split <;> rfl
theorem cmp_Or_ev (x y z : Int) : Ev (fun k => cmp_Or_int.f k [x, y, z]) (if x = 0 then (if y = 0 then z else y) else x) := by
  have l3 : (([x, y, z] : List Int).length : Int) = 3 := rfl
  have r0 : rd [x, y, z] 0 = x := rfl
  have r1 : rd [x, y, z] 1 = y := rfl
  have r2 : rd [x, y, z] 2 = z := rfl
  have w0 : wrap64 (0 + 1) = 1 := by unfold wrap64; omega
  have w1 : wrap64 (1 + 1) = 2 := by unfold wrap64; omega
  have w2 : wrap64 (2 + 1) = 3 := by unfold wrap64; omega
  unfold cmp_Or_int.f
  rw [l3]
  refine evShift ?_
  simp only [cmp_Or_int.l0, l3, r0, w0]
  refine evPos (by decide) (evPos (by decide) (evPos (by decide) (evIf (fun h => ?_) (fun h => evSome (by rw [if_neg h])))))
  rw [if_pos h]
  refine evShift ?_
  simp only [cmp_Or_int.l0, l3, r1, w1]
  refine evPos (by decide) (evPos (by decide) (evPos (by decide) (evIf (fun h => ?_) (fun h => evSome (by rw [if_neg h])))))
  rw [if_pos h]
  refine evShift ?_
  simp only [cmp_Or_int.l0, l3, r2, w2]
  refine evPos (by decide) (evPos (by decide) (evPos (by decide) (evIf (fun h => ?_) (fun h => evSome rfl))))
  refine evShift ?_
  simp only [cmp_Or_int.l0]
  exact evNeg (by decide) (evSome h.symm)
theorem val_Compare_ev (v w : S23) : Ev (fun k => val_Compare.f k v.f0 v.f1 v.f2 w.f0 w.f1 w.f2) (cmpV v w) := by
  unfold val_Compare.f
  simp only [cmp_Compare_eq, strings_Compare.f, Option.bind_some]
  exact Ev.bind (cmp_Or_ev _ _ _) (evSome rfl)
theorem guard_right_eq (a : Int) : guard_right.f a = some (decide (1 ≤ a ∧ a ≤ 4)) := by
  unfold guard_right.f
  by_cases h : a ≥ 1
  · rw [if_pos h]; congr 1; rw [Bool.eq_iff_iff]; simp; omega
  · rw [if_neg h]; congr 1; rw [Bool.eq_iff_iff]; simp; omega
def holdsS (how : Int) (v w : S23) : Bool × Int :=
  if (decide (1 ≤ how ∧ how ≤ 4) && (valS v.f0 v.f1 v.f2 && valS w.f0 w.f1 w.f2)) = true then
    (if (how = 3 ∨ how = 4) ∧ v.f0 ≠ w.f0 then (false, 3) else (if how = 1 then cmpV v w == 0 else if how = 2 then cmpV v w != 0 else if how = 3 then decide (cmpV v w < 0) else decide (cmpV v w ≤ 0), 0))
  else (false, 1)
theorem guard_Holds_ev (how : Int) (v w : S23) (hv : v.f2.size ≤ maxLen) (hw : w.f2.size ≤ maxLen) : Ev (fun k => guard_Holds.f k how v.f0 v.f1 v.f2 w.f0 w.f1 w.f2) (holdsS how v w) := by
  unfold guard_Holds.f
  rw [guard_right_eq]
  simp only [Option.bind_some]
  have bad : holdsS how v w = (false, 1) → Ev (fun k => guard_Holds.j0 k how true v.f0 v.f1 v.f2 w.f0 w.f1 w.f2) (holdsS how v w) := by
    intro h
    rw [h]
    refine evShift ?_
    simp only [guard_Holds.j0, if_true]
    exact evSome rfl
  refine evCond (fun h1 => Ev.bind (val_Check_ev _ _ _ hv) ?_) (fun h1 => bad (by unfold holdsS; rw [h1]; rfl))
  cases h2 : valS v.f0 v.f1 v.f2 with
  | false => exact evNeg (by decide) (bad (by unfold holdsS; rw [h2, Bool.false_and, Bool.and_false]; rfl))
  | true =>
    refine evPos rfl (Ev.bind (val_Check_ev _ _ _ hw) ?_)
    cases h3 : valS w.f0 w.f1 w.f2 with
    | false => exact bad (by unfold holdsS; rw [h3, Bool.and_false, Bool.and_false]; rfl)
    | true =>
      have hh : holdsS how v w = (if (how = 3 ∨ how = 4) ∧ v.f0 ≠ w.f0 then (false, 3) else (if how = 1 then cmpV v w == 0 else if how = 2 then cmpV v w != 0 else if how = 3 then decide (cmpV v w < 0) else decide (cmpV v w ≤ 0), 0)) := by
        unfold holdsS; rw [h1, h2, h3]; rfl
      rw [hh]
      have j1 : Ev (fun k => guard_Holds.j1 k how v.f0 v.f1 v.f2 w.f0 w.f1 w.f2) (if how = 1 then cmpV v w == 0 else if how = 2 then cmpV v w != 0 else if how = 3 then decide (cmpV v w < 0) else decide (cmpV v w ≤ 0), 0) := by
        refine evShift ?_
        simp only [guard_Holds.j1]
        refine Ev.bind (val_Compare_ev v w) ?_
        refine evIf (fun h => evSome (by rw [if_pos h])) (fun h => ?_)
        rw [if_neg h]
        refine evIf (fun h => evSome (by rw [if_pos h])) (fun h => ?_)
        rw [if_neg h]
        refine evIf (fun h => evSome (by rw [if_pos h])) (fun h => evSome (by rw [if_neg h]))
      show Ev (fun k => guard_Holds.j0 k how false v.f0 v.f1 v.f2 w.f0 w.f1 w.f2) _
      refine evShift ?_
      simp only [guard_Holds.j0, Bool.false_eq_true, if_false]
      by_cases e : v.f0 = w.f0
      · rw [if_neg (fun h => h.2 e)]
        exact evIf (fun _ => evPos e j1) (fun _ => evIf (fun _ => evPos e j1) (fun _ => j1))
      · refine evIf (fun h => ?_) (fun h => evIf (fun h4 => ?_) (fun h4 => ?_))
        · rw [if_pos ⟨.inl h, e⟩]; exact evNeg e (evSome rfl)
        · rw [if_pos ⟨.inr h4, e⟩]; exact evNeg e (evSome rfl)
        · rw [if_neg (fun hx => by rcases hx.1 with hx | hx <;> contradiction)]; exact j1
end Go.Proofs.Ytaopajmpifenoaa.P
end
section
namespace Go.Proofs.Ytaopajmpifenoaa.P
open Go.RowKit Go.Proofs.YtaopajmpifenoaaW.PrintWords Go.Proofs.YtaopajmpifenoaaW.PrintLast Go.Proofs.YtaopajmpifenoaaW.PrintMore
theorem drop_at {α : Type} (l : List α) (i : Nat) (h : i < l.length) : l.drop i = l[i] :: l.drop (i + 1) := List.drop_eq_getElem_cons h
theorem rdV_nth (l : List S23) (i : Nat) (h : i < l.length) : rd_T23 l i = l[i] := by simp [rd_T23, List.getD_eq_getElem?_getD, h]
theorem rdO_nth (l : List S67) (i : Nat) (h : i < l.length) : rd_T67 l i = l[i] := by simp [rd_T67, List.getD_eq_getElem?_getD, h]
theorem rdB_nth (l : List S54) (i : Nat) (h : i < l.length) : rd_T54 l i = l[i] := by simp [rd_T54, List.getD_eq_getElem?_getD, h]
def pushS (o : S67) : Bool := decide (o.f0 = 1 ∨ o.f0 = 2)
def zeroS (v : S23) : Bool := decide (v.f0 = 0) && (decide (v.f1 = 0) && decide (v.f2 = ⟨#[]⟩))
def opS (o : S67) : Bool :=
  if o.f0 = 1 then wordS true o.f1 && zeroS o.f2
  else if o.f0 = 2 then decide (o.f1 = ⟨#[]⟩) && valS o.f2.f0 o.f2.f1 o.f2.f2
  else decide (o.f0 = 3 ∨ o.f0 = 4 ∨ o.f0 = 5) && (decide (o.f1 = ⟨#[]⟩) && zeroS o.f2)
def deepS : Int → List S67 → Option Int
  | d, [] => some d
  | d, o :: l => if opS o && (pushS o || decide (2 ≤ d)) then deepS (if pushS o then d + 1 else d - 1) l else none
def exprS (l : List S67) : Bool := decide (1 ≤ l.length ∧ l.length ≤ 15) && decide (deepS 0 l = some 1)
def bindS (x : S54) : Bool := wordS true x.f0 && valS x.f1.f0 x.f1.f1 x.f1.f2
def risingS : List S54 → Bool
  | [] => true
  | [x] => bindS x
  | x :: y :: l => bindS x && (Op.bytesLess x.f0.toList y.f0.toList && risingS (y :: l))
def bindsS (l : List S54) : Bool := decide (l.length ≤ 100) && risingS l
def getS (l : List S54) (s : ByteArray) : Option S23 := (l.find? fun x => decide (x.f0 = s)).map (·.f1)
def zV : S23 := ⟨0, 0, ⟨#[]⟩⟩
def tupV (v : S23) (e : Int) : Int × Int × ByteArray × Int := (v.f0, v.f1, v.f2, e)
def pushV (b : List S54) (o : S67) : S23 × Int := if o.f0 = 2 then (o.f2, 0) else match getS b o.f1 with | some v => (v, 0) | none => (zV, 5)
def reckV (kind : Int) (x y : S23) : S23 × Int :=
  if x.f0 = 1 ∧ y.f0 = 1 then (if (doS kind x.f1 y.f1).2 = 0 then (⟨1, (doS kind x.f1 y.f1).1, ⟨#[]⟩⟩, 0) else (zV, (doS kind x.f1 y.f1).2)) else (zV, 3)
def evalS (b : List S54) : List S23 → List S67 → S23 × Int
  | st, [] => (st.getLastD zV, 0)
  | st, o :: l =>
    if pushS o then (if (pushV b o).2 = 0 then evalS b ((pushV b o).1 :: st) l else (zV, (pushV b o).2))
    else match st with
      | y :: x :: st => if (reckV o.f0 x y).2 = 0 then evalS b ((reckV o.f0 x y).1 :: st) l else (zV, (reckV o.f0 x y).2)
      | _ => (zV, 0)
def evalE (l : List S67) (b : List S54) : S23 × Int := if exprS l && bindsS b then evalS b [] l else (zV, 1)
def varsS (out : List ByteArray) : List S67 → List ByteArray
  | [] => out
  | o :: l => if (decide (o.f1 = ⟨#[]⟩) || out.any fun x => decide (x = o.f1)) then varsS out l else varsS (out ++ [o.f1]) l
def partS : Int → List S67 → Int
  | _, [] => -1
  | need, o :: r => if (if pushS o then need - 1 else need + 1) = 0 then (r.length : Int) else partS (if pushS o then need - 1 else need + 1) r
def partE (l : List S67) (e : Int) : Int := if exprS l = true ∧ 0 ≤ e ∧ e < l.length then partS 1 (l.take (e.toNat + 1)).reverse else -1
theorem expr_pushes_eq (o : S67) : expr_pushes.f o.f0 = some (pushS o) := by
  unfold expr_pushes.f pushS
  split
  · rw [decide_eq_true (by omega)]
  · congr 1; rw [Bool.eq_iff_iff]; simp; omega
theorem zero_beq (v : S23) : (v.f0 == 0 && (v.f1 == 0 && (v.f2.toList == ([] : List UInt8)))) = zeroS v := by
  unfold zeroS; rw [tl_beq_nil]; rfl
theorem expr_right_ev (o : S67) (h1 : o.f1.size ≤ maxLen) (h2 : o.f2.f2.size ≤ maxLen) : Ev (fun k => expr_right.f k o.f0 o.f1 o.f2.f0 o.f2.f1 o.f2.f2) (opS o) := by
  unfold expr_right.f opS
  by_cases k1 : o.f0 = 1
  · refine evPos k1 (Ev.bind (subst_Var_ev _ h1) ?_)
    rw [if_pos k1, zero_beq]
    cases wordS true o.f1 <;> exact evSome (by simp)
  · refine evNeg k1 ?_
    rw [if_neg k1]
    by_cases k2 : o.f0 = 2
    · refine evPos k2 ?_
      rw [if_pos k2]
      by_cases k3 : o.f1 = ⟨#[]⟩
      · refine evPos (tl_nil.2 k3) (Ev.bind (val_Check_ev _ _ _ h2) (evSome ?_))
        rw [decide_eq_true k3]
        cases valS o.f2.f0 o.f2.f1 o.f2.f2 <;> simp
      · refine evNeg (fun e => k3 (tl_nil.1 e)) (evSome ?_)
        rw [decide_eq_false k3]; rfl
    · refine evNeg k2 ?_
      rw [if_neg k2]
      have fin : Ev (fun _ => if o.f1.toList = ([] : List UInt8) then some (o.f2.f0 == 0 && (o.f2.f1 == 0 && (o.f2.f2.toList == ([] : List UInt8)))) else some false) (decide (o.f1 = ⟨#[]⟩) && zeroS o.f2) := by
        by_cases k3 : o.f1 = ⟨#[]⟩
        · refine evPos (tl_nil.2 k3) (evSome ?_)
          rw [decide_eq_true k3, zero_beq]; simp
        · refine evNeg (fun e => k3 (tl_nil.1 e)) (evSome ?_)
          rw [decide_eq_false k3]; rfl
      by_cases k3 : o.f0 = 3
      · rw [decide_eq_true (by omega), Bool.true_and]; exact evPos k3 fin
      · refine evNeg k3 ?_
        by_cases k4 : o.f0 = 4
        · rw [decide_eq_true (by omega), Bool.true_and]; exact evPos k4 fin
        · refine evNeg k4 ?_
          by_cases k5 : o.f0 = 5
          · rw [decide_eq_true (by omega), Bool.true_and]; exact evPos k5 fin
          · refine evNeg k5 (evSome ?_)
            rw [decide_eq_false (by omega)]; rfl
def OpsOk (l : List S67) : Prop := ∀ o ∈ l, o.f1.size ≤ maxLen ∧ o.f2.f2.size ≤ maxLen
def BindsOk (l : List S54) : Prop := ∀ x ∈ l, x.f0.size ≤ maxLen ∧ x.f1.f2.size ≤ maxLen
theorem expr_Check_l0 (l : List S67) (ho : OpsOk l) (hl : l.length ≤ 1000000) : ∀ (d : Nat) (i : Nat) (n : Int), i + d = l.length → 0 ≤ n → n ≤ i →
    Ev (fun k => expr_Check.l0 k n l l.length i) (if deepS n (l.drop i) = some 1 then 0 else 1) := by
  intro d
  induction d with
  | zero =>
    intro i n hi h0 h1
    refine evShift ?_
    simp only [expr_Check.l0]
    refine evNeg (by omega) ?_
    rw [List.drop_of_length_le (by omega)]
    simp only [deepS, Option.some.injEq]
    by_cases h : n = 1
    · exact evPos h (evSome (by rw [if_pos h]))
    · exact evNeg h (evSome (by rw [if_neg h]))
  | succ d ih =>
    intro i n hi h0 h1
    have hlt : i < l.length := by omega
    obtain ⟨b1, b2⟩ := ho l[i] (List.getElem_mem hlt)
    refine evShift ?_
    simp only [expr_Check.l0]
    refine evPos (by omega) (evPos (by omega) (evPos (by omega) ?_))
    simp only [rdO_nth l i hlt]
    rw [drop_at l i hlt]
    simp only [deepS]
    refine Ev.bind (expr_right_ev _ b1 b2) ?_
    have j2 : ∀ (x : Bool) (m : Int), m = (if pushS l[i] then n + 1 else n - 1) → (x = false → 0 ≤ m) → Ev (fun k => expr_Check.j2 k n l l.length i x l[i].f0 l[i].f1 l[i].f2.f0 l[i].f2.f1 l[i].f2.f2) (if x = false ∧ deepS m (l.drop (i + 1)) = some 1 then 0 else 1) := by
      intro x m hm hx
      refine evShift ?_
      simp only [expr_Check.j2]
      cases x with
      | true => exact evPos rfl (evSome (by simp))
      | false =>
        refine evNeg (by decide) ?_
        rw [expr_pushes_eq]
        simp only [Option.bind_some]
        have hx := hx rfl
        rw [wrap_succ hlt (by omega)]
        cases hp : pushS l[i] with
        | true =>
          rw [hp] at hm
          simp only [if_true] at hm
          refine evPos rfl ?_
          have e : wrap64 (n + 1) = m := by unfold wrap64; omega
          rw [e]
          simpa using ih (i + 1) m (by omega) hx (by omega)
        | false =>
          rw [hp] at hm
          simp only [Bool.false_eq_true, if_false] at hm
          refine evNeg (by decide) ?_
          have e : wrap64 (n - 1) = m := by unfold wrap64; omega
          rw [e]
          simpa using ih (i + 1) m (by omega) hx (by omega)
    refine evCond (fun hr => ?_) (fun hr => ?_)
    · rw [expr_pushes_eq]
      simp only [Option.bind_some, hr, Bool.true_and]
      refine evCond (fun hp => ?_) (fun hp => ?_)
      · have := j2 false (n + 1) (by rw [hp]; rfl) (fun _ => by omega)
        simpa [hp] using this
      · by_cases h2 : n < 2
        · have := j2 true _ rfl (by simp)
          rw [decide_eq_true h2]
          have h3 : ¬ (2 ≤ n) := by omega
          simpa [h3, hp] using this
        · have := j2 false (n - 1) (by rw [hp]; rfl) (fun _ => by omega)
          rw [decide_eq_false h2]
          have h3 : 2 ≤ n := by omega
          simpa [h3, hp] using this
    · have := j2 true _ rfl (by simp)
      simpa [hr] using this
theorem expr_Check_ev (l : List S67) (ho : OpsOk l) (hl : l.length ≤ maxLen) : Ev (fun k => expr_Check.f k l) (if exprS l then 0 else 1) := by
  unfold maxLen at hl
  have hj : Ev (fun k => expr_Check.j0 k l true) 1 := by
    refine evShift ?_
    simp only [expr_Check.j0, if_true]
    exact evSome rfl
  unfold expr_Check.f exprS
  by_cases h1 : (l.length : Int) < 1
  · refine evPos h1 ?_
    have hd : decide (1 ≤ l.length ∧ l.length ≤ 15) = false := decide_eq_false (by omega)
    rw [hd]; exact hj
  · refine evNeg h1 ?_
    by_cases h2 : (l.length : Int) > 15
    · have hd : decide (1 ≤ l.length ∧ l.length ≤ 15) = false := decide_eq_false (by omega)
      rw [hd, decide_eq_true h2]; exact hj
    · have hd : decide (1 ≤ l.length ∧ l.length ≤ 15) = true := decide_eq_true (by omega)
      rw [hd, decide_eq_false h2]
      refine evShift ?_
      simp only [expr_Check.j0, Bool.false_eq_true, if_false]
      have := expr_Check_l0 l ho (by omega) l.length 0 0 (by omega) (by omega) (by omega)
      simpa using this
theorem subst_right_ev (x : S54) (h1 : x.f0.size ≤ maxLen) (h2 : x.f1.f2.size ≤ maxLen) : Ev (fun k => subst_right.f k x.f0 x.f1.f0 x.f1.f1 x.f1.f2) (bindS x) := by
  unfold subst_right.f bindS
  refine Ev.bind (subst_Var_ev _ h1) ?_
  cases wordS true x.f0 with
  | false => exact evNeg (by decide) (evSome rfl)
  | true =>
    refine evPos rfl (Ev.bind (val_Check_ev _ _ _ h2) (evSome ?_))
    cases valS x.f1.f0 x.f1.f1 x.f1.f2 <;> simp
def restS : Option ByteArray → List S54 → Bool
  | _, [] => true
  | none, x :: l => bindS x && restS (some x.f0) l
  | some s, x :: l => bindS x && (Op.bytesLess s.toList x.f0.toList && restS (some x.f0) l)
theorem rest_rising : ∀ (l : List S54), (restS none l = risingS l) ∧ ∀ x, (bindS x && restS (some x.f0) l) = risingS (x :: l)
  | [] => ⟨rfl, fun x => by simp [restS, risingS]⟩
  | y :: l => by
    obtain ⟨_, h2⟩ := rest_rising l
    refine ⟨by simp only [restS]; exact h2 y, fun x => ?_⟩
    simp only [restS, risingS]
    rw [← h2 y]
    cases bindS x <;> cases bindS y <;> simp
theorem subst_Check_l0 (l : List S54) (ho : BindsOk l) (hl : l.length ≤ 1000000) : ∀ (d : Nat) (i : Nat), i + d = l.length →
    Ev (fun k => subst_Check.l0 k l l l.length i) (if restS (if h : 0 < i ∧ i - 1 < l.length then some (l[i - 1]'h.2).f0 else none) (l.drop i) then 0 else 1) := by
  intro d
  induction d with
  | zero =>
    intro i hi
    refine evShift ?_
    simp only [subst_Check.l0]
    refine evNeg (by omega) (evSome ?_)
    rw [List.drop_of_length_le (by omega)]
    simp [restS]
  | succ d ih =>
    intro i hi
    have hlt : i < l.length := by omega
    obtain ⟨b1, b2⟩ := ho l[i] (List.getElem_mem hlt)
    refine evShift ?_
    simp only [subst_Check.l0]
    refine evPos (by omega) (evPos (by omega) (evPos (by omega) ?_))
    simp only [rdB_nth l i hlt]
    rw [drop_at l i hlt]
    refine Ev.bind (subst_right_ev _ b1 b2) ?_
    have hn := ih (i + 1) (by omega)
    rw [dif_pos (by omega)] at hn
    simp only [Nat.add_sub_cancel] at hn
    rw [wrap_succ hlt (by omega)]
    by_cases h0 : 0 < i
    · rw [dif_pos ⟨h0, by omega⟩]
      simp only [restS]
      refine evCond (fun hb => ?_) (fun hb => evSome (by simp [hb]))
      refine evPos (by omega) ?_
      have e : wrap64 ((i : Int) - 1) = ((i - 1 : Nat) : Int) := by unfold wrap64; omega
      rw [e]
      refine evPos (by omega) (evPos (by omega) ?_)
      rw [rdB_nth l (i - 1) (by omega)]
      refine evCond (fun hc => ?_) (fun hc => evSome (by simp [hc]))
      simpa [hb, hc] using hn
    · rw [dif_neg (by omega)]
      simp only [restS]
      refine evCond (fun hb => ?_) (fun hb => evSome (by simp [hb]))
      refine evNeg (by omega) ?_
      simpa [hb] using hn
theorem subst_Check_ev (l : List S54) (ho : BindsOk l) : Ev (fun k => subst_Check.f k l) (if bindsS l then 0 else 1) := by
  unfold subst_Check.f bindsS
  by_cases h : (l.length : Int) > 100
  · refine evPos h (evSome ?_)
    rw [decide_eq_false (by omega)]; rfl
  · refine evNeg h ?_
    rw [decide_eq_true (by omega)]
    have := subst_Check_l0 l ho (by omega) l.length 0 (by omega)
    rw [dif_neg (by omega)] at this
    simpa [(rest_rising l).1] using this
theorem getS_cons (x : S54) (l : List S54) (s : ByteArray) : getS (x :: l) s = if x.f0 = s then some x.f1 else getS l s := by
  unfold getS
  rw [List.find?_cons]
  by_cases e : x.f0 = s
  · rw [if_pos e, decide_eq_true e]; rfl
  · rw [if_neg e, decide_eq_false e]
theorem subst_Get_ev (l : List S54) (s : ByteArray) (hl : l.length ≤ maxLen) : Ev (fun k => subst_Get.f k l s) (match getS l s with | some v => (v.f0, v.f1, v.f2, true) | none => (0, 0, ⟨#[]⟩, false)) := by
  unfold maxLen at hl
  have h : ∀ i : Nat, i ≤ l.length → Ev (fun k => subst_Get.l0 k s l l.length i) (match getS (l.drop i) s with | some v => (v.f0, v.f1, v.f2, true) | none => (0, 0, ⟨#[]⟩, false)) := by
    refine back_ind l.length (fun k i => subst_Get.l0 k s l l.length i) _ ?_ ?_
    · refine evShift ?_
      simp only [subst_Get.l0]
      refine evNeg (by omega) (evSome ?_)
      rw [List.drop_length]; rfl
    · intro i hi ih
      refine evShift ?_
      simp only [subst_Get.l0]
      refine evPos (by omega) (evPos (by omega) (evPos (by omega) ?_))
      rw [rdB_nth l i hi, drop_at l i hi, wrap_succ hi (by omega)]
      by_cases e : l[i].f0 = s
      · refine evPos (by rw [e]) (evSome ?_)
        rw [getS_cons, if_pos e]
      · refine evNeg (fun h => e (tl_inj.1 h)) ?_
        rw [getS_cons, if_neg e]; exact ih
  have := h 0 (by omega)
  simpa [subst_Get.f] using this
theorem expr_push_ev (o : S67) (b : List S54) (hl : b.length ≤ maxLen) : Ev (fun k => expr_push.f k o.f0 o.f1 o.f2.f0 o.f2.f1 o.f2.f2 b) (tupV (pushV b o).1 (pushV b o).2) := by
  unfold expr_push.f pushV
  by_cases h : o.f0 = 2
  · refine evPos h (evSome ?_)
    rw [if_pos h]; rfl
  · refine evNeg h (Ev.bind (subst_Get_ev b o.f1 hl) ?_)
    rw [if_neg h]
    cases getS b o.f1 with
    | some v => exact evPos rfl (evSome rfl)
    | none => exact evNeg (by decide) (evSome rfl)
theorem expr_reckon_ev (kind : Int) (x y : S23) : Ev (fun k => expr_reckon.f k kind x.f0 x.f1 x.f2 y.f0 y.f1 y.f2) (tupV (reckV kind x y).1 (reckV kind x y).2) := by
  unfold expr_reckon.f reckV
  have hj : Ev (fun k => expr_reckon.j0 k kind true x.f0 x.f1 x.f2 y.f0 y.f1 y.f2) (tupV zV 3) := by
    refine evShift ?_
    simp only [expr_reckon.j0, if_true]
    exact evSome rfl
  by_cases h1 : x.f0 = 1
  · refine evPos h1 ?_
    by_cases h2 : y.f0 = 1
    · rw [if_pos ⟨h1, h2⟩]
      refine evShift ?_
      simp only [expr_reckon.j0, h2, bne_self_eq_false, Bool.false_eq_true, if_false]
      refine Ev.bind (num_Do_ev _ _ _) ?_
      by_cases h3 : (doS kind x.f1 y.f1).2 = 0
      · exact evPos h3 (evSome (by rw [if_pos h3]; rfl))
      · exact evNeg h3 (evSome (by rw [if_neg h3]; rfl))
    · rw [if_neg (fun h => h2 h.2)]
      have : (y.f0 != 1) = true := by simpa using h2
      rw [this]; exact hj
  · rw [if_neg (fun h => h1 h.1)]
    exact evNeg h1 hj
end Go.Proofs.Ytaopajmpifenoaa.P
end
section
namespace Go.Proofs.Ytaopajmpifenoaa.P
open Go.RowKit Go.Proofs.YtaopajmpifenoaaW.PrintWords Go.Proofs.YtaopajmpifenoaaW.PrintLast Go.Proofs.YtaopajmpifenoaaW.PrintMore
theorem rdV_mid (p : List S23) (x : S23) (r : List S23) (i : Int) (h : i = p.length) : rd_T23 (p ++ x :: r) i = x := by
  subst h; simp [rd_T23, List.getD_eq_getElem?_getD]
theorem deep_push {n : Int} {o : S67} {l : List S67} {m : Int} (h : deepS n (o :: l) = some m) (hp : pushS o = true) : opS o = true ∧ deepS (n + 1) l = some m := by
  simp only [deepS, hp, Bool.true_or, Bool.and_true, if_true] at h
  by_cases ho : opS o = true
  · rw [if_pos ho] at h; exact ⟨ho, h⟩
  · rw [if_neg ho] at h; cases h
theorem deep_reck {n : Int} {o : S67} {l : List S67} {m : Int} (h : deepS n (o :: l) = some m) (hp : pushS o = false) : opS o = true ∧ 2 ≤ n ∧ deepS (n - 1) l = some m := by
  simp only [deepS, hp, Bool.false_or, Bool.false_eq_true, if_false] at h
  by_cases ho : (opS o && decide (2 ≤ n)) = true
  · rw [if_pos ho] at h
    simp only [Bool.and_eq_true, decide_eq_true_eq] at ho
    exact ⟨ho.1, ho.2, h⟩
  · rw [if_neg ho] at h; cases h
theorem expr_Eval_l0 (l : List S67) (b : List S54) (hl : l.length ≤ 1000000) (hb : b.length ≤ maxLen) : ∀ (d i : Nat) (st : List S23), i + d = l.length → st.length ≤ i → deepS st.length (l.drop i) = some 1 →
    Ev (fun k => expr_Eval.l0 k b st.reverse l l.length i) (tupV (evalS b st (l.drop i)).1 (evalS b st (l.drop i)).2) := by
  intro d
  induction d with
  | zero =>
    intro i st hi h1 hd
    rw [List.drop_of_length_le (by omega)] at hd ⊢
    simp only [deepS, Option.some.injEq] at hd
    match st, hd with
    | [v], _ =>
      refine evShift ?_
      simp only [expr_Eval.l0]
      exact evNeg (by omega) (evPos (by simp) (evSome rfl))
    | [], hd => simp at hd
    | _ :: _ :: _, hd => simp at hd; omega
  | succ d ih =>
    intro i st hi h1 hd
    have hlt : i < l.length := by omega
    rw [drop_at l i hlt] at hd ⊢
    refine evShift ?_
    simp only [expr_Eval.l0]
    refine evPos (by omega) (evPos (by omega) (evPos (by omega) ?_))
    simp only [rdO_nth l i hlt]
    rw [expr_pushes_eq, wrap_succ hlt (by omega)]
    simp only [Option.bind_some]
    refine evCond (fun hp => ?_) (fun hp => ?_)
    · obtain ⟨_, hd2⟩ := deep_push hd hp
      refine Ev.bind (expr_push_ev l[i] b hb) ?_
      simp only [evalS, hp, if_true]
      refine evIf (fun he => ?_) (fun he => ?_)
      · have he' : (pushV b l[i]).2 = 0 := he
        rw [if_pos he']
        refine evPos (by simp; omega) ?_
        have := ih (i + 1) ((pushV b l[i]).1 :: st) (by omega) (by simp; omega) (by simpa using hd2)
        rw [List.reverse_cons] at this
        exact this
      · have he' : ¬ (pushV b l[i]).2 = 0 := he
        rw [if_neg he']
        exact evSome rfl
    · obtain ⟨_, h2, hd2⟩ := deep_reck hd hp
      match st, h1, h2, hd2 with
      | [], _, h2, _ => simp at h2
      | [_], _, h2, _ => simp at h2
      | y :: x :: st, h1, h2, hd2 =>
        have e : (y :: x :: st).reverse = st.reverse ++ x :: y :: [] := by simp
        have e' : (y :: x :: st).reverse = (st.reverse ++ [x]) ++ y :: [] := by simp
        have w1 : wrap64 (((y :: x :: st).reverse.length : Int) - 2) = (st.reverse.length : Int) := by simp at h1 ⊢; unfold wrap64; omega
        have w2 : wrap64 ((st.reverse.length : Int) + 1) = ((st.reverse ++ [x]).length : Int) := by simp at h1 ⊢; unfold wrap64; omega
        rw [w1, w2]
        refine evPos (by omega) (evPos (by simp; omega) (evPos (by omega) (evPos (by simp) ?_)))
        rw [show rd_T23 (y :: x :: st).reverse (st.reverse.length : Int) = x from by rw [e]; exact rdV_mid _ _ _ _ rfl]
        rw [show rd_T23 (y :: x :: st).reverse ((st.reverse ++ [x]).length : Int) = y from by rw [e']; exact rdV_mid _ _ _ _ rfl]
        refine Ev.bind (expr_reckon_ev _ _ _) (evPos (by simp; omega) ?_)
        have ht : (y :: x :: st).reverse.take ((st.reverse.length : Int)).toNat = st.reverse := by rw [e, Int.toNat_natCast, List.take_left]
        rw [ht]
        refine evBind0 rfl ?_
        simp only [evalS, hp, Bool.false_eq_true, if_false]
        refine evIf (fun he => ?_) (fun he => ?_)
        · have he' : (reckV l[i].f0 x y).2 = 0 := he
          rw [if_pos he']
          simp only [List.length_cons] at h1 hd2
          refine evPos (by simp; omega) ?_
          have := ih (i + 1) ((reckV l[i].f0 x y).1 :: st) (by omega) (by simp; omega) (by
            rw [← hd2]; congr 1; simp only [List.length_cons]; omega)
          rw [List.reverse_cons] at this
          exact this
        · have he' : ¬ (reckV l[i].f0 x y).2 = 0 := he
          rw [if_neg he']
          exact evSome rfl
theorem expr_Eval_ev (l : List S67) (b : List S54) (ho : OpsOk l) (hl : l.length ≤ maxLen) (hbo : BindsOk b) (hb : b.length ≤ maxLen) :
    Ev (fun k => expr_Eval.f k l b) (tupV (evalE l b).1 (evalE l b).2) := by
  unfold expr_Eval.f evalE
  refine Ev.bind (expr_Check_ev l ho hl) ?_
  have hj : Ev (fun k => expr_Eval.j0 k l b 1) (tupV zV 1) := by
    refine evShift ?_
    simp only [expr_Eval.j0]
    exact evNeg (by decide) (evSome rfl)
  cases he : exprS l with
  | false => exact evNeg (by decide) hj
  | true =>
    refine evPos rfl (Ev.bind (subst_Check_ev b hbo) ?_)
    cases hb2 : bindsS b with
    | false => exact hj
    | true =>
      refine evShift ?_
      simp only [expr_Eval.j0, if_true, Bool.and_self]
      simp only [exprS, Bool.and_eq_true, decide_eq_true_eq] at he
      have := expr_Eval_l0 l b (by omega) hb l.length 0 [] (by omega) (by simp) (by simpa using he.2)
      simpa using this
def idxS (s : ByteArray) : Nat → List ByteArray → Int
  | _, [] => -1
  | i, x :: l => if x = s then (i : Int) else idxS s (i + 1) l
theorem idx_any (s : ByteArray) : ∀ (l : List ByteArray) (i : Nat), decide (idxS s i l ≥ 0) = l.any fun x => decide (x = s)
  | [], i => by simp [idxS]
  | x :: l, i => by
    by_cases e : x = s
    · simp [idxS, e]
    · simp only [idxS, if_neg e, List.any_cons, decide_eq_false e, Bool.false_or]
      exact idx_any s l (i + 1)
theorem rdS_nth (l : List ByteArray) (i : Nat) (h : i < l.length) : rdOf ByteArray.empty l i = l[i] := rdOf_nth _ l i h
theorem deep_append : ∀ (P R : List S67) (n : Int), deepS n (P ++ R) = (deepS n P).bind fun m => deepS m R
  | [], R, n => rfl
  | o :: P, R, n => by
    simp only [List.cons_append, deepS]
    split
    · exact deep_append P R _
    · rfl
theorem snoc_of {α : Type} (l : List α) (h : l ≠ []) : ∃ p x, l = p ++ [x] := ⟨l.dropLast, l.getLast h, (List.dropLast_concat_getLast h).symm⟩
theorem part_ok : ∀ (n : Nat) (P : List S67) (d need : Int), P.length = n → deepS 0 P = some d → 1 ≤ need → need ≤ d →
    ∃ Q R, P = Q ++ R ∧ R ≠ [] ∧ partS need P.reverse = Q.length ∧ deepS 0 Q = some (d - need) ∧ deepS 0 R = some need := by
  intro n
  induction n with
  | zero =>
    intro P d need hP hd h1 h2
    obtain rfl := List.eq_nil_of_length_eq_zero hP
    simp only [deepS, Option.some.injEq] at hd
    omega
  | succ n ih =>
    intro P d need hP hd h1 h2
    obtain ⟨P0, o, rfl⟩ := snoc_of P (by intro h; rw [h] at hP; simp at hP)
    have hP0 : P0.length = n := by simpa using hP
    rw [deep_append, Option.bind_eq_some_iff] at hd
    obtain ⟨m, hm, hd⟩ := hd
    rw [List.reverse_append]
    simp only [List.reverse_cons, List.reverse_nil, List.nil_append, List.cons_append, partS]
    cases hp : pushS o with
    | true =>
      obtain ⟨ho, hd⟩ := deep_push hd hp
      simp only [deepS, Option.some.injEq] at hd
      have one : deepS 0 [o] = some 1 := by simp [deepS, ho, hp]
      by_cases h0 : need - 1 = 0
      · refine ⟨P0, [o], rfl, by simp, ?_, ?_, ?_⟩
        · simp [h0]
        · rw [hm]; congr 1; omega
        · rw [one]; congr 1; omega
      · obtain ⟨Q, R, rfl, hR, hq, hQ, hRd⟩ := ih P0 m (need - 1) hP0 hm (by omega) (by omega)
        refine ⟨Q, R ++ [o], by simp, by simp, ?_, ?_, ?_⟩
        · simp only [if_true, h0, if_false]; exact hq
        · rw [hQ]; congr 1; omega
        · rw [deep_append, hRd]; simp [deepS, ho, hp]
    | false =>
      obtain ⟨ho, h3, hd⟩ := deep_reck hd hp
      simp only [deepS, Option.some.injEq] at hd
      obtain ⟨Q, R, rfl, hR, hq, hQ, hRd⟩ := ih P0 m (need + 1) hP0 hm (by omega) (by omega)
      refine ⟨Q, R ++ [o], by simp, by simp, ?_, ?_, ?_⟩
      · have h0 : ¬ need + 1 = 0 := by omega
        simp only [Bool.false_eq_true, if_false, h0]; exact hq
      · rw [hQ]; congr 1; omega
      · rw [deep_append, hRd]
        simp only [Option.bind_some, deepS, ho, hp, Bool.false_or, Bool.true_and, Bool.false_eq_true, if_false]
        rw [if_pos (by simp; omega)]; congr 1; omega
theorem deep_prefix : ∀ (P R : List S67) (n m : Int), deepS n (P ++ R) = some m → ∃ d, deepS n P = some d ∧ deepS d R = some m := by
  intro P R n m h
  rw [deep_append, Option.bind_eq_some_iff] at h
  exact h
theorem deep_pos : ∀ (P : List S67) (n d : Int), 0 ≤ n → deepS n P = some d → (P ≠ [] ∨ 1 ≤ n) → 1 ≤ d
  | [], n, d, _, h, hp => by
    simp only [deepS, Option.some.injEq] at h
    rcases hp with hp | hp
    · exact absurd rfl hp
    · omega
  | o :: P, n, d, h0, h, _ => by
    cases hp : pushS o with
    | true =>
      obtain ⟨_, h⟩ := deep_push h hp
      exact deep_pos P (n + 1) d (by omega) h (.inr (by omega))
    | false =>
      obtain ⟨_, h2, h⟩ := deep_reck h hp
      exact deep_pos P (n - 1) d (by omega) h (.inr (by omega))
theorem take_snoc (l : List S67) (i : Nat) (h : i < l.length) : (l.take (i + 1)).reverse = l[i] :: (l.take i).reverse := by
  rw [List.take_succ_eq_append_getElem h, List.reverse_append]; rfl
theorem part_in (l : List S67) (h : exprS l = true) (i : Nat) (hi : i < l.length) : ∃ Q R, l.take (i + 1) = Q ++ R ∧ R ≠ [] ∧ partS 1 (l.take (i + 1)).reverse = Q.length ∧ deepS 0 R = some 1 ∧ ∃ d, deepS 0 Q = some d ∧ deepS 0 (l.take (i + 1)) = some (d + 1) := by
  simp only [exprS, Bool.and_eq_true, decide_eq_true_eq] at h
  have hs : deepS 0 (l.take (i + 1) ++ l.drop (i + 1)) = some 1 := by rw [List.take_append_drop]; exact h.2
  obtain ⟨d, h1, _⟩ := deep_prefix _ _ _ _ hs
  have hd := deep_pos _ _ _ (by omega) h1 (.inl (by
    intro e
    have h9 : (l.take (i + 1)).length = 0 := by rw [e]; rfl
    rw [List.length_take] at h9
    omega))
  obtain ⟨Q, R, e, hR, hq, hQ, hRd⟩ := part_ok _ _ d 1 rfl h1 (by omega) hd
  exact ⟨Q, R, e, hR, hq, hRd, d - 1, hQ, by rw [h1]; congr 1; omega⟩
end Go.Proofs.Ytaopajmpifenoaa.P
end
section
namespace Go.Proofs.Ytaopajmpifenoaa.P
open Go.RowKit Go.Proofs.YtaopajmpifenoaaW.PrintWords Go.Proofs.YtaopajmpifenoaaW.PrintLast Go.Proofs.YtaopajmpifenoaaW.PrintMore
def condS (kind : Int) (name : ByteArray) (args : List S72) (how : Int) (x y : List S67) : Bool :=
  decide (kind = 3) && (decide (name = ⟨#[]⟩) && (decide (args.length = 0) && (decide (1 ≤ how ∧ how ≤ 4) && (exprS x && exprS y))))
theorem guard_Check_ev (kind : Int) (name : ByteArray) (args : List S72) (how : Int) (x y : List S67) (hx : OpsOk x) (lx : x.length ≤ maxLen) (hy : OpsOk y) (ly : y.length ≤ maxLen) :
    Ev (fun k => guard_Check.f k kind name args how x y) (if condS kind name args how x y then 0 else 1) := by
  unfold guard_Check.f condS
  by_cases h1 : kind = 3
  · refine evPos h1 ?_
    rw [decide_eq_true h1, Bool.true_and]
    by_cases h2 : name = ⟨#[]⟩
    · refine evPos (tl_nil.2 h2) ?_
      rw [decide_eq_true h2, Bool.true_and]
      by_cases h3 : args.length = 0
      · refine evNeg (by omega) ?_
        rw [decide_eq_true h3, Bool.true_and, guard_right_eq]
        simp only [Option.bind_some]
        refine evCond (fun h4 => ?_) (fun h4 => evSome (by rw [h4]; rfl))
        rw [h4, Bool.true_and]
        refine Ev.bind (expr_Check_ev x hx lx) ?_
        cases exprS x with
        | false => exact evNeg (by decide) (evSome rfl)
        | true =>
          refine evPos rfl (Ev.bind (expr_Check_ev y hy ly) ?_)
          cases exprS y with
          | false => exact evNeg (by decide) (evSome rfl)
          | true => exact evPos rfl (evSome rfl)
      · exact evPos (by omega) (evSome (by rw [decide_eq_false h3]; rfl))
    · exact evNeg (fun e => h2 (tl_nil.1 e)) (evSome (by rw [decide_eq_false h2]; rfl))
  · exact evNeg h1 (evSome (by rw [decide_eq_false h1]; rfl))
theorem getS_size {b : List S54} (hb : BindsOk b) {s : ByteArray} {v : S23} (h : getS b s = some v) : v.f2.size ≤ maxLen := by
  unfold getS at h
  obtain ⟨x, hx, rfl⟩ := Option.map_eq_some_iff.1 h
  exact (hb x (List.mem_of_find?_eq_some hx)).2
theorem zV_size : zV.f2.size ≤ maxLen := by unfold maxLen; exact Nat.zero_le _
theorem pushV_size {b : List S54} (hb : BindsOk b) {o : S67} (ho : o.f2.f2.size ≤ maxLen) : (pushV b o).1.f2.size ≤ maxLen := by
  unfold pushV
  split
  · exact ho
  · split
    · exact getS_size hb ‹_›
    · exact zV_size
theorem reckV_size (kind : Int) (x y : S23) : (reckV kind x y).1.f2.size ≤ maxLen := by
  unfold reckV
  split
  · split
    · unfold maxLen; exact Nat.zero_le _
    · exact zV_size
  · exact zV_size
theorem evalS_size {b : List S54} (hb : BindsOk b) : ∀ (l : List S67) (st : List S23), OpsOk l → (∀ v ∈ st, v.f2.size ≤ maxLen) → (evalS b st l).1.f2.size ≤ maxLen
  | [], st, _, hs => by
    simp only [evalS]
    cases h : st.getLast? with
    | none => rw [List.getLast?_eq_none_iff.1 h]; exact zV_size
    | some v =>
      rw [List.getLastD_eq_getLast?, h]
      exact hs v (List.mem_of_getLast? h)
  | o :: l, st, ho, hs => by
    have h1 := ho o (List.mem_cons_self ..)
    have h2 : OpsOk l := fun x hx => ho x (List.mem_cons_of_mem _ hx)
    unfold evalS
    split
    · split
      · refine evalS_size hb l _ h2 (fun v hv => ?_)
        rcases List.mem_cons.1 hv with rfl | hv
        · exact pushV_size hb h1.2
        · exact hs v hv
      · exact zV_size
    · split
      · split
        · refine evalS_size hb l _ h2 (fun v hv => ?_)
          rcases List.mem_cons.1 hv with rfl | hv
          · exact reckV_size _ _ _
          · exact hs v (List.mem_cons_of_mem _ (List.mem_cons_of_mem _ hv))
        · exact zV_size
      · exact zV_size
theorem evalE_size {b : List S54} (hb : BindsOk b) {l : List S67} (hl : OpsOk l) : (evalE l b).1.f2.size ≤ maxLen := by
  unfold evalE
  split
  · exact evalS_size hb l [] hl (fun v hv => by cases hv)
  · exact zV_size
def testS (how : Int) (x y : List S67) (b : List S54) : Bool × Int :=
  if (evalE x b).2 = 0 then (if (evalE y b).2 = 0 then holdsS how (evalE x b).1 (evalE y b).1 else (false, (evalE y b).2)) else (false, (evalE x b).2)
theorem guard_Eval_ev (kind : Int) (name : ByteArray) (args : List S72) (how : Int) (x y : List S67) (b : List S54) (hx : OpsOk x) (lx : x.length ≤ maxLen) (hy : OpsOk y) (ly : y.length ≤ maxLen) (hb : BindsOk b) (lb : b.length ≤ maxLen) :
    Ev (fun k => guard_Eval.f k kind name args how x y b) (if condS kind name args how x y then testS how x y b else (false, 1)) := by
  unfold guard_Eval.f
  refine Ev.bind (guard_Check_ev kind name args how x y hx lx hy ly) ?_
  cases condS kind name args how x y with
  | false => exact evNeg (by decide) (evSome rfl)
  | true =>
    refine evPos rfl (Ev.bind (expr_Eval_ev x b hx lx hb lb) ?_)
    simp only [if_true]
    unfold testS
    refine evIf (fun h1 => ?_) (fun h1 => evSome (by rw [if_neg (show ¬ (evalE x b).2 = 0 from h1)]; rfl))
    rw [if_pos (show (evalE x b).2 = 0 from h1)]
    refine Ev.bind (expr_Eval_ev y b hy ly hb lb) ?_
    refine evIf (fun h2 => ?_) (fun h2 => evSome (by rw [if_neg (show ¬ (evalE y b).2 = 0 from h2)]; rfl))
    rw [if_pos (show (evalE y b).2 = 0 from h2)]
    exact Ev.bind (guard_Holds_ev how (evalE x b).1 (evalE y b).1 (evalE_size hb hx) (evalE_size hb hy)) (evSome rfl)
end Go.Proofs.Ytaopajmpifenoaa.P
end
section
namespace Go.Proofs.Ytaopajmpifenoaa.P
open Go.RowKit Go.Proofs.YtaopajmpifenoaaW.PrintWords Go.Proofs.YtaopajmpifenoaaW.PrintLast Go.Proofs.YtaopajmpifenoaaW.PrintMore
attribute [local go_sem] max2_int min2_int max_two min_two max_three min_three max_four min_four
set_option linter.unusedVariables false
set_option linter.unusedSimpArgs false
def constableref01_Get.l0 : Nat → List (S54) → ByteArray → Int → Option (Int × Int × ByteArray × Bool)
  | 0, _, _, _ => none
  | k + 1, x0, x1, x6 => if x6 < (x0.length : Int) then (if 0 ≤ x6 then (if ((rd_T54 x0 x6).f0).toList = x1.toList then (some ((rd_T54 x0 x6).f1.f0, (rd_T54 x0 x6).f1.f1, (rd_T54 x0 x6).f1.f2, true)) else (constableref01_Get.l0 k x0 x1 (wrap64 (x6 + 1)))) else (none)) else (some (0, 0, (⟨#[]⟩ : ByteArray), false))
def constableref01_Get.f (k : Nat) (l0 : List (S54)) (a1 : ByteArray) : Option (Int × Int × ByteArray × Bool) := constableref01_Get.l0 k l0 a1 0
theorem constableref01_Get.mono_l : ∀ k, (∀ y0 y1 y2, LeO (constableref01_Get.l0 k y0 y1 y2) (constableref01_Get.l0 (k + 1) y0 y1 y2))
  | 0 => fun _ _ _ r h => by simp [constableref01_Get.l0] at h
  | k + 1 => by
    have ih0 := constableref01_Get.mono_l k
    · intro y0 y1 y2
      unfold constableref01_Get.l0
      repeat' first
      | (with_reducible exact ih0 _ _ _)
      | (with_reducible exact LeO.refl _)
      | (with_reducible exact LeO.none _)
      | (with_reducible refine LeO.ite ?_ ?_)
      | (with_reducible refine LeO.bind ?_ (fun _ => ?_))
      | exact ih0 _ _ _
      | exact LeO.none _
      | refine LeO.ite ?_ ?_
      | refine LeO.bind ?_ (fun _ => ?_)
theorem constableref01_Get.mono : ∀ a0 a1 k, LeO (constableref01_Get.f k a0 a1) (constableref01_Get.f (k + 1) a0 a1) := by
  intro a0 a1 k
  have ih0 := constableref01_Get.mono_l k
  unfold constableref01_Get.f
  repeat' first
      | (with_reducible exact ih0 _ _ _)
      | (with_reducible exact LeO.refl _)
      | (with_reducible exact LeO.none _)
      | (with_reducible refine LeO.ite ?_ ?_)
      | (with_reducible refine LeO.bind ?_ (fun _ => ?_))
      | exact ih0 _ _ _
      | exact LeO.none _
      | refine LeO.ite ?_ ?_
      | refine LeO.bind ?_ (fun _ => ?_)
set_option maxHeartbeats 8000000 in
set_option maxRecDepth 100000 in
theorem constableref01_Get.calls (k : Nat) (A0 : Option Addr) (c0 : Nat) (l0 : List (S54)) (a1 : ByteArray) (r1 : Int) (r2 : Int) (r3 : ByteArray) (r4 : Bool) (w : World) (hr0 : Kd.C k54 w A0 l0.length l0) (hc0 : l0.length ≤ c0) (h : constableref01_Get.f k l0 a1 = some (r1, r2, r3, r4)) :
    Calls Try.prog 51 #[.slice A0 l0.length c0, .string a1] w fun e w' => e = .returned (.tuple #[.agg #[.int .i64 r1, .int .i64 r2, .string r3], .bool r4]) ∧ Below w.heap.size w w' := by
  have hu23 := Try.underlying23
  have HR0 := Aside0.mk hr0
  have HC0 := Aside0.mk hc0
  clear hr0 hc0
  have HB := Aside0.mk (Below.refl w.heap.size w)
  have H : (constableref01_Get.l0 k l0 a1 0) = some (r1, r2, r3, r4) := h
  clear h
  have H' := Aside0.mk H
  clear H
  go_enter Try.func51, Try.ntmps51
  go_wp2_with (first | ((with_reducible refine gate_dst (N := 4) rfl ?_); refine box_event ?hg (N := 4) ?hd (cs := #[.int .i64 0, .int .i64 0, .string (⟨#[]⟩ : ByteArray)]) (t := 23) ?hr ?_; (case hd => rfl); (case hg => rfl); (case hr => first | (go_simp; done) | (go_simp; rfl)); intro gb320 hg w3 hbox hb; have n0_ := bs_ (be_ HB) hb; have n1_ := Aside0.mk (hbox); have n2_ := gs_ hg (be_ HB); have n3_ := gs_ hg (be_ HB); clear HB; have HB := n0_; have BK320 := n1_; have GW320 := n2_; have GE320 := n3_; clear n0_ n1_ n2_ n3_; clear hb hbox hg))
  go_loopg [6] k (fun kq v6 w' => ∃ (x6_1 : Int) (x321000_1 : Int) (x321001_1 : Int) (x321002_1 : ByteArray), v6 = .int .i64 x6_1 ∧ Aside0 (constableref01_Get.l0 kq l0 a1 x6_1 = some (r1, r2, r3, r4)) ∧ Aside0 (kq ≤ k) ∧ Aside0 (w'.heap[gb320]? = some (.cells #[.int .i64 x321000_1, .int .i64 x321001_1, .string x321002_1] 23 (0, 0))) ∧ Aside0 (Below w.heap.size w w'))
  case atStart => exact ⟨(0), (0), (0), ((⟨#[]⟩ : ByteArray)), ra_, H', ⟨Nat.le_refl _⟩, ⟨by (with_reducible repeat (first | refine blk_drewN ?_ _ | refine blk_drew ?_ | refine blk_alloc ?_ _)); exact BK320.out⟩, ⟨by repeat (first | (with_reducible first | exact HB.out | apply below_alloc | apply pw_below_drewN | apply below_drew1 | refine below_set ?_ GE320.out) | exact HB.out)⟩⟩
  case round =>
    clear H'
    try clear p2
    obtain ⟨x6_1, x321000_1, x321001_1, x321002_1, rfl, HA, HK1, BK320, HB⟩ := hrel
    cases gk with
    | zero => exact absurd HA.out (by simp [constableref01_Get.l0])
    | succ k1 =>
      have H := HA.out
      clear HA
      simp only [constableref01_Get.l0] at H
      by_cases c4 : x6_1 < (l0.length : Int)
      · rw [if_pos c4] at H
        have c4b0 : decide (x6_1 < (l0.length : Int)) = true := decide_eq_true c4
        clear c4
        by_cases c5 : 0 ≤ x6_1
        · rw [if_pos c5] at H
          have c5b0 : decide (0 ≤ x6_1) = true := decide_eq_true c5
          clear c5
          by_cases c6 : ((rd_T54 l0 x6_1).f0).toList = a1.toList
          · rw [if_pos c6] at H
            obtain ⟨c6b0, c6b1⟩ := eqB_ c6
            clear c6
            simp only [Option.some.injEq, Prod.mk.injEq] at H
            obtain ⟨rfl, rfl, rfl, rfl⟩ := H
            have p321 : 0 ≤ (x6_1 : Int) := dt_
            have q321 : x6_1 < (l0.length : Int) := dt_
            obtain ⟨ad321, e321, hx321_0, hx321_1, hx321_2, hx321_3⟩ := at_T54 HR0.out x6_1 p321 q321
            cases e321
            replace hx321_0 := cm_ HB hx321_0
            replace hx321_1 := cm_ HB hx321_1
            replace hx321_2 := cm_ HB hx321_2
            replace hx321_3 := cm_ HB hx321_3
            replace p321 := eq_true p321
            replace q321 := eq_true q321
            have p322 : 0 ≤ (x6_1 : Int) := dt_
            have q322 : x6_1 < (l0.length : Int) := dt_
            obtain ⟨ad322, e322, hx322_0, hx322_1, hx322_2, hx322_3⟩ := at_T54 HR0.out x6_1 p322 q322
            obtain rfl : ad321 = ad322 := (by injection e322)
            replace hx322_0 := cm_ HB hx322_0
            replace hx322_1 := cm_ HB hx322_1
            replace hx322_2 := cm_ HB hx322_2
            replace hx322_3 := cm_ HB hx322_3
            replace p322 := eq_true p322
            replace q322 := eq_true q322
            have hcz7_0 : wr.cell? ⟨gb320, 0, none⟩ = some (.int .i64 x321000_1) := (blk_cell BK320.out 0).trans rfl
            have hcz7_1 : wr.cell? ⟨gb320, 1, none⟩ = some (.int .i64 x321001_1) := (blk_cell BK320.out 1).trans rfl
            have hcz7_2 : wr.cell? ⟨gb320, 2, none⟩ = some (.string x321002_1) := (blk_cell BK320.out 2).trans rfl
            have hfz7_0 := blk_frozen BK320.out 0
            have hfz7_1 := blk_frozen BK320.out 1
            have hfz7_2 := blk_frozen BK320.out 2
            go_wp2
            refine bodyPost_ret (results_ct rfl _ _ gb320 23 #[.int .i64 ((rd_T54 l0 x6_1).f1.f0), .int .i64 ((rd_T54 l0 x6_1).f1.f1), .string ((rd_T54 l0 x6_1).f1.f2)] (0, 0) _ rfl (bp_ BK320) Try.underlying23 rfl (by kernel_rfl)) rfl ?_
            exact ⟨by first | rfl | (simp [errW_none, errW_some] <;> rfl) | (simp [*, errW_none, errW_some] <;> rfl), by repeat (first | (with_reducible first | exact HB.out | apply below_alloc | apply pw_below_drewN | apply below_drew1 | refine below_set ?_ GE320.out) | exact HB.out)⟩
          · rw [if_neg c6] at H
            obtain ⟨c6b0, c6b1⟩ := neB_ c6
            have H' := Aside0.mk H
            clear H
            have p321 : 0 ≤ (x6_1 : Int) := dt_
            have q321 : x6_1 < (l0.length : Int) := dt_
            obtain ⟨ad321, e321, hx321_0, hx321_1, hx321_2, hx321_3⟩ := at_T54 HR0.out x6_1 p321 q321
            cases e321
            replace hx321_0 := cm_ HB hx321_0
            replace hx321_1 := cm_ HB hx321_1
            replace hx321_2 := cm_ HB hx321_2
            replace hx321_3 := cm_ HB hx321_3
            replace p321 := eq_true p321
            replace q321 := eq_true q321
            go_wp2
            go_roundg k1
            case measure => have := HK1.out; omega
            case rel => exact ⟨(wrap64 (x6_1 + 1)), (x321000_1), (x321001_1), (x321002_1), ra_, H', ⟨by have := HK1.out; omega⟩, ⟨by (with_reducible repeat (first | refine blk_drewN ?_ _ | refine blk_drew ?_ | refine blk_alloc ?_ _)); exact BK320.out⟩, ⟨by repeat (first | (with_reducible first | exact HB.out | apply below_alloc | apply pw_below_drewN | apply below_drew1 | refine below_set ?_ GE320.out) | exact HB.out)⟩⟩
        · rw [if_neg c5] at H
          exact absurd H (by simp)
      · rw [if_neg c4] at H
        have c4b0 : decide (x6_1 < (l0.length : Int)) = false := decide_eq_false c4
        clear c4
        simp only [Option.some.injEq, Prod.mk.injEq] at H
        obtain ⟨rfl, rfl, rfl, rfl⟩ := H
        have hcz8_0 : wr.cell? ⟨gb320, 0, none⟩ = some (.int .i64 x321000_1) := (blk_cell BK320.out 0).trans rfl
        have hcz8_1 : wr.cell? ⟨gb320, 1, none⟩ = some (.int .i64 x321001_1) := (blk_cell BK320.out 1).trans rfl
        have hcz8_2 : wr.cell? ⟨gb320, 2, none⟩ = some (.string x321002_1) := (blk_cell BK320.out 2).trans rfl
        have hfz8_0 := blk_frozen BK320.out 0
        have hfz8_1 := blk_frozen BK320.out 1
        have hfz8_2 := blk_frozen BK320.out 2
        go_wp2
        refine bodyPost_ret (results_ct rfl _ _ gb320 23 #[.int .i64 0, .int .i64 0, .string (⟨#[]⟩ : ByteArray)] (0, 0) _ rfl (bp_ BK320) Try.underlying23 rfl (by kernel_rfl)) rfl ?_
        exact ⟨by first | rfl | (simp [errW_none, errW_some] <;> rfl) | (simp [*, errW_none, errW_some] <;> rfl), by repeat (first | (with_reducible first | exact HB.out | apply below_alloc | apply pw_below_drewN | apply below_drew1 | refine below_set ?_ GE320.out) | exact HB.out)⟩
end Go.Proofs.Ytaopajmpifenoaa.P
end
