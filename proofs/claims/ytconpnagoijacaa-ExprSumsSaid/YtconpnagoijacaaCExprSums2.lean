/- Part 3 of the proof of ExprSums: words, contracts of functions of the program (what a call answers), and what the answers say. -/
import Derived.Test.YtconpnagoijacaaVWords
import Derived.Test.YtconpnagoijacaaVLast
import Derived.Test.YtconpnagoijacaaVApart
import Derived.Test.YtconpnagoijacaaVArr
import Derived.Test.YtconpnagoijacaaVFoot
import Derived.Test.YtconpnagoijacaaVKept
import Derived.Test.YtconpnagoijacaaVShare
import Derived.Test.YtconpnagoijacaaVZeros
import Derived.Test.YtconpnagoijacaaVN
import Derived.Test.YtconpnagoijacaaVFootNe
import Derived.Test.YtconpnagoijacaaVAt
import Derived.Test.YtconpnagoijacaaVEqStruct
import Derived.Test.YtconpnagoijacaaVTab
import Derived.Test.YtconpnagoijacaaVFour
import Derived.Test.YtconpnagoijacaaVGuard
import Derived.Test.YtconpnagoijacaaVInv
import Derived.Test.YtconpnagoijacaaVInvWords
import Derived.Test.YtconpnagoijacaaVQPut
import Derived.Test.YtconpnagoijacaaVNEv
import Derived.Test.YtconpnagoijacaaVMore
import Derived.Test.YtconpnagoijacaaVRepsOne
import Derived.Test.YtconpnagoijacaaVSized
import Derived.Test.YtconpnagoijacaaCExprSums0
import Derived.Test.YtconpnagoijacaaCExprSums1
section
namespace Go.Proofs.Ytconpnagoijacaa.P
open Go.RowKit Go.Proofs.YtconpnagoijacaaW.PrintWords Go.Proofs.YtconpnagoijacaaW.PrintLast Go.Proofs.YtconpnagoijacaaW.PrintMore
attribute [local go_sem] max2_int min2_int max_two min_two max_three min_three max_four min_four
set_option linter.unusedVariables false
set_option linter.unusedSimpArgs false
attribute [local go_sem high] eqA40
mutual
def constablelaw07_ExprSums.j0 : Nat → List Int → Bool → Option (Bool)
  | 0, _, _ => none
  | k + 1, x0, x23 => if x23 = true then (some true) else (constablelaw07_ExprSums.l0 k x0 ([] : List (S52)) ([] : List (S52)) 0)
def constablelaw07_ExprSums.l0 : Nat → List Int → List (S52) → List (S52) → Int → Option (Bool)
  | 0, _, _, _, _ => none
  | k + 1, x0, x3, x4, x5 => if x5 < (x0.length : Int) then (if 0 ≤ x5 then (if x3.length < 2513169434916 then ((some (x3 ++ [(⟨2, (⟨#[]⟩ : ByteArray), (⟨1, Int.tmod (rd x0 x5) 1152921504606846976, (⟨#[]⟩ : ByteArray)⟩ : S40)⟩ : S52)] : List (S52))).bind fun y562 => (if x4.length < 2513169434916 then ((some (x4 ++ [(⟨2, (⟨#[]⟩ : ByteArray), (⟨1, Int.tmod (rd x0 x5) 1152921504606846976, (⟨#[]⟩ : ByteArray)⟩ : S40)⟩ : S52)] : List (S52))).bind fun y565 => (if x5 > 0 then (if y562.length < 2513169434916 then (constablelaw07_ExprSums.l0 k x0 (y562 ++ [(⟨3, (⟨#[]⟩ : ByteArray), (⟨0, 0, (⟨#[]⟩ : ByteArray)⟩ : S40)⟩ : S52)]) y565 (wrap64 (x5 + 1))) else (none)) else (constablelaw07_ExprSums.l0 k x0 y562 y565 (wrap64 (x5 + 1))))) else (none))) else (none)) else (none)) else (constablelaw07_ExprSums.l1 k x0 x3 x4 ([] : List Int) 0)
def constablelaw07_ExprSums.l1 : Nat → List Int → List (S52) → List (S52) → List Int → Int → Option (Bool)
  | 0, _, _, _, _, _ => none
  | k + 1, x0, x3, x4, x8, x9 => if x9 < (x0.length : Int) then (if 0 ≤ x9 then (if x8.length < 17592186044416 then ((some (x8 ++ [Int.tmod (rd x0 x9) 1152921504606846976] : List Int)).bind fun y572 => (if x9 > 0 then (if x4.length < 2513169434916 then (constablelaw07_ExprSums.l1 k x0 x3 (x4 ++ [(⟨3, (⟨#[]⟩ : ByteArray), (⟨0, 0, (⟨#[]⟩ : ByteArray)⟩ : S40)⟩ : S52)]) y572 (wrap64 (x9 + 1))) else (none)) else (constablelaw07_ExprSums.l1 k x0 x3 x4 y572 (wrap64 (x9 + 1))))) else (none)) else (none)) else ((expr_Eval.f k x3 ([] : List (S62))).bind fun bt578 => ((num_Sum.f k x8).bind fun bt583 => ((expr_Eval.f k x4 ([] : List (S62))).bind fun bt585 => (if bt578.2.2.2 = bt583.2 then (if bt578.2.2.2 = 0 then (if bt578.1 = 1 then (if bt578.2.1 = bt583.1 then (if bt585.2.2.2 = 4 then ((constablelaw07_wakes.f k).bind fun t590 => (some t590)) else (if bt578.2.2.2 = 4 then ((constablelaw07_wakes.f k).bind fun t591 => (some t591)) else (if bt585.2.2.2 = 0 then (if (bt585.1 == bt578.1 && (bt585.2.1 == bt578.2.1 && (bt585.2.2.1.toList == bt578.2.2.1.toList))) = true then ((constablelaw07_wakes.f k).bind fun t592 => (some t592)) else (some false)) else (some false)))) else (some false)) else (some false)) else (if bt585.2.2.2 = 4 then ((constablelaw07_wakes.f k).bind fun t593 => (some t593)) else (if bt578.2.2.2 = 4 then ((constablelaw07_wakes.f k).bind fun t594 => (some t594)) else (if bt585.2.2.2 = 0 then (if (bt585.1 == bt578.1 && (bt585.2.1 == bt578.2.1 && (bt585.2.2.1.toList == bt578.2.2.1.toList))) = true then ((constablelaw07_wakes.f k).bind fun t595 => (some t595)) else (some false)) else (some false))))) else (some false)))))
end
def constablelaw07_ExprSums.f (k : Nat) (l0 : List Int) : Option (Bool) := if (l0.length : Int) = 0 then (constablelaw07_ExprSums.j0 k l0 true) else (constablelaw07_ExprSums.j0 k l0 (decide ((l0.length : Int) > 8)))
theorem constablelaw07_ExprSums.mono_l : ∀ k, (∀ y0 y1, LeO (constablelaw07_ExprSums.j0 k y0 y1) (constablelaw07_ExprSums.j0 (k + 1) y0 y1)) ∧ (∀ y0 y1 y2 y3, LeO (constablelaw07_ExprSums.l0 k y0 y1 y2 y3) (constablelaw07_ExprSums.l0 (k + 1) y0 y1 y2 y3)) ∧ (∀ y0 y1 y2 y3 y4, LeO (constablelaw07_ExprSums.l1 k y0 y1 y2 y3 y4) (constablelaw07_ExprSums.l1 (k + 1) y0 y1 y2 y3 y4))
  | 0 => ⟨fun _ _ r h => by simp [constablelaw07_ExprSums.j0] at h, fun _ _ _ _ r h => by simp [constablelaw07_ExprSums.l0] at h, fun _ _ _ _ _ r h => by simp [constablelaw07_ExprSums.l1] at h⟩
  | k + 1 => by
    obtain ⟨ih0, ih1, ih2⟩ := constablelaw07_ExprSums.mono_l k
    refine ⟨?_, ?_, ?_⟩
    · intro y0 y1
      unfold constablelaw07_ExprSums.j0
      repeat' first
      | (with_reducible exact ih0 _ _)
      | (with_reducible exact ih1 _ _ _ _)
      | (with_reducible exact ih2 _ _ _ _ _)
      | (with_reducible exact constablelaw07_wakes.mono _)
      | (with_reducible exact expr_Eval.mono _ _ _)
      | (with_reducible exact num_Sum.mono _ _)
      | (with_reducible exact LeO.refl _)
      | (with_reducible exact LeO.none _)
      | (with_reducible refine LeO.ite ?_ ?_)
      | (with_reducible refine LeO.bind ?_ (fun _ => ?_))
      | exact ih0 _ _
      | exact ih1 _ _ _ _
      | exact ih2 _ _ _ _ _
      | exact constablelaw07_wakes.mono _
      | exact expr_Eval.mono _ _ _
      | exact num_Sum.mono _ _
      | exact LeO.none _
      | refine LeO.ite ?_ ?_
      | refine LeO.bind ?_ (fun _ => ?_)
    · intro y0 y1 y2 y3
      unfold constablelaw07_ExprSums.l0
      repeat' first
      | (with_reducible exact ih0 _ _)
      | (with_reducible exact ih1 _ _ _ _)
      | (with_reducible exact ih2 _ _ _ _ _)
      | (with_reducible exact constablelaw07_wakes.mono _)
      | (with_reducible exact expr_Eval.mono _ _ _)
      | (with_reducible exact num_Sum.mono _ _)
      | (with_reducible exact LeO.refl _)
      | (with_reducible exact LeO.none _)
      | (with_reducible refine LeO.ite ?_ ?_)
      | (with_reducible refine LeO.bind ?_ (fun _ => ?_))
      | exact ih0 _ _
      | exact ih1 _ _ _ _
      | exact ih2 _ _ _ _ _
      | exact constablelaw07_wakes.mono _
      | exact expr_Eval.mono _ _ _
      | exact num_Sum.mono _ _
      | exact LeO.none _
      | refine LeO.ite ?_ ?_
      | refine LeO.bind ?_ (fun _ => ?_)
    · intro y0 y1 y2 y3 y4
      unfold constablelaw07_ExprSums.l1
      repeat' first
      | (with_reducible exact ih0 _ _)
      | (with_reducible exact ih1 _ _ _ _)
      | (with_reducible exact ih2 _ _ _ _ _)
      | (with_reducible exact constablelaw07_wakes.mono _)
      | (with_reducible exact expr_Eval.mono _ _ _)
      | (with_reducible exact num_Sum.mono _ _)
      | (with_reducible exact LeO.refl _)
      | (with_reducible exact LeO.none _)
      | (with_reducible refine LeO.ite ?_ ?_)
      | (with_reducible refine LeO.bind ?_ (fun _ => ?_))
      | exact ih0 _ _
      | exact ih1 _ _ _ _
      | exact ih2 _ _ _ _ _
      | exact constablelaw07_wakes.mono _
      | exact expr_Eval.mono _ _ _
      | exact num_Sum.mono _ _
      | exact LeO.none _
      | refine LeO.ite ?_ ?_
      | refine LeO.bind ?_ (fun _ => ?_)
theorem constablelaw07_ExprSums.mono : ∀ a0 k, LeO (constablelaw07_ExprSums.f k a0) (constablelaw07_ExprSums.f (k + 1) a0) := by
  intro a0 k
  obtain ⟨ih0, ih1, ih2⟩ := constablelaw07_ExprSums.mono_l k
  unfold constablelaw07_ExprSums.f
  repeat' first
      | (with_reducible exact ih0 _ _)
      | (with_reducible exact ih1 _ _ _ _)
      | (with_reducible exact ih2 _ _ _ _ _)
      | (with_reducible exact constablelaw07_wakes.mono _)
      | (with_reducible exact expr_Eval.mono _ _ _)
      | (with_reducible exact num_Sum.mono _ _)
      | (with_reducible exact LeO.refl _)
      | (with_reducible exact LeO.none _)
      | (with_reducible refine LeO.ite ?_ ?_)
      | (with_reducible refine LeO.bind ?_ (fun _ => ?_))
      | exact ih0 _ _
      | exact ih1 _ _ _ _
      | exact ih2 _ _ _ _ _
      | exact constablelaw07_wakes.mono _
      | exact expr_Eval.mono _ _ _
      | exact num_Sum.mono _ _
      | exact LeO.none _
      | refine LeO.ite ?_ ?_
      | refine LeO.bind ?_ (fun _ => ?_)
set_option maxHeartbeats 8000000 in
set_option maxRecDepth 100000 in
theorem constablelaw07_ExprSums.calls (k : Nat) (A0 : Option Addr) (c0 : Nat) (l0 : List Int) (r : Bool) (w : World) (hr0 : Kd.C (Kd.int .i64) w A0 l0.length l0) (hc0 : l0.length ≤ c0) (h : constablelaw07_ExprSums.f k l0 = some r) (hr_ : r = true) :
    Calls Try.prog 12 #[.slice A0 l0.length c0] w fun e w' => e = .returned (.bool r) ∧ Below w.heap.size w w' := by
  have hu40 := Try.underlying40
  have hu52 := Try.underlying52
  have HR0 := Aside0.mk hr0
  have HC0 := Aside0.mk hc0
  clear hr0 hc0
  have HB := Aside0.mk (Below.refl w.heap.size w)
  have H : (if (l0.length : Int) = 0 then (constablelaw07_ExprSums.j0 k l0 true) else (constablelaw07_ExprSums.j0 k l0 (decide ((l0.length : Int) > 8)))) = some r := h
  clear h
  have HR_ := Aside0.mk hr_
  clear hr_
  have HC2 := Aside0.mk H
  clear H
  go_enter Try.func12, Try.ntmps12
  go_upto_region 1 with (fail)
  go_cut [23] (fun v23 wc => ∃ (kq : Nat) (x23_1 : Bool), v23 = .bool x23_1 ∧ Aside0 (constablelaw07_ExprSums.j0 kq l0 x23_1 = some r) ∧ Aside0 (kq ≤ k) ∧ Aside0 (Below w.heap.size w wc))
  case first =>
    have H := HC2.out
    clear HC2
    by_cases c3 : (l0.length : Int) = 0
    · rw [if_pos c3] at H
      obtain ⟨c3b0, c3b1⟩ := eqB_ c3
      clear c3
      (first | rw [c3b0] | (simp only [i64_w, i32_w]; rw [c3b0]) | skip)
      have H' := Aside0.mk H
      clear H
      go_wp2
      go_meet
      case rel => exact ⟨_, (true), ra_, H', ⟨by first | omega | exact Nat.le_refl _⟩, ⟨by repeat (first | (with_reducible first | exact HB.out | apply below_alloc | apply pw_below_drewN | apply below_drew1) | exact HB.out)⟩⟩
    · rw [if_neg c3] at H
      obtain ⟨c3b0, c3b1⟩ := neB_ c3
      have c3b2 : ¬ (l0 = []) := fun h_ => c3 (by rw [h_]; rfl)
      (first | rw [c3b0] | (simp only [i64_w, i32_w]; rw [c3b0]) | skip)
      have H' := Aside0.mk H
      clear H
      go_wp2
      go_meet
      case rel => exact ⟨_, (decide ((l0.length : Int) > 8)), ra_, H', ⟨by first | omega | exact Nat.le_refl _⟩, ⟨by repeat (first | (with_reducible first | exact HB.out | apply below_alloc | apply pw_below_drewN | apply below_drew1) | exact HB.out)⟩⟩
  case rest =>
    clear HC2
    try clear c1
    try clear p2
    try clear c3
    try clear c3b0
    try clear c3b1
    try clear c3b2
    obtain ⟨kq, x23_1, rfl, HA, HJ1, HB⟩ := hcut
    cases kq with
    | zero => exact absurd HA.out (by simp [constablelaw07_ExprSums.j0])
    | succ kj1 =>
      have H := HA.out
      clear HA
      simp only [constablelaw07_ExprSums.j0] at H
      by_cases c4 : x23_1 = true
      · subst c4
        have H1 : (some true) = some r := by rw [if_pos rfl] at H; exact H
        clear H
        have H := H1
        clear H1
        obtain rfl := Option.some.inj H
        go_wp2
        go_ret
        exact ⟨by first | rfl | (simp [errW_none, errW_some] <;> rfl) | (simp [*, errW_none, errW_some] <;> rfl), by repeat (first | (with_reducible first | exact HB.out | apply below_alloc | apply pw_below_drewN | apply below_drew1) | exact HB.out)⟩
      · replace c4 := Bool.eq_false_iff.mpr c4
        subst c4
        have H1 : (constablelaw07_ExprSums.l0 kj1 l0 ([] : List (S52)) ([] : List (S52)) 0) = some r := by rw [if_neg (show ¬ (false = true) by decide)] at H; exact H
        clear H
        have H := H1
        clear H1
        have H' := Aside0.mk H
        clear H
        go_wp2
        go_loopg [3, 4, 5] kj1 (fun kq v3 v4 v5 w' => ∃ (x3_2 : List (S52)) (x4_2 : List (S52)) (x5_2 : Int), v5 = .int .i64 x5_2 ∧ Aside0 (constablelaw07_ExprSums.l0 kq l0 x3_2 x4_2 x5_2 = some r) ∧ Aside0 (kq ≤ kj1) ∧ Aside0 (Kd.R k52 52 w' w.heap.size (fun k_ => some k_ ≠ (v4 : Value).ownBlock) v3 x3_2) ∧ Aside0 (Kd.R k52 52 w' w.heap.size (fun k_ => some k_ ≠ (v3 : Value).ownBlock) v4 x4_2) ∧ Aside0 (Below w.heap.size w w'))
        case atStart => exact ⟨(([] : List (S52))), (([] : List (S52))), (0), ra_, H', ⟨Nat.le_refl _⟩, ⟨by first | exact Kd.R_nil _ _ _ _ _ | exact Kd.N_nil _ _ _ _ _ | exact Kd.V_nil _ _ _ _ _ | exact Kd.Q_nil _ _ _ _ _ | exact Kd.S_nil _ _ _ _ _⟩, ⟨by first | exact Kd.R_nil _ _ _ _ _ | exact Kd.N_nil _ _ _ _ _ | exact Kd.V_nil _ _ _ _ _ | exact Kd.Q_nil _ _ _ _ _ | exact Kd.S_nil _ _ _ _ _⟩, ⟨by repeat (first | (with_reducible first | exact HB.out | apply below_alloc | apply pw_below_drewN | apply below_drew1) | exact HB.out)⟩⟩
        case round =>
          clear H'
          try clear c1
          try clear p2
          try clear c3
          try clear c3b0
          try clear c3b1
          try clear c3b2
          try clear c4
          try clear p2
          obtain ⟨x3_2, x4_2, x5_2, rfl, HA, HK2, HO_3, HO_4, HB⟩ := hrel
          cases gk with
          | zero => exact absurd HA.out (by simp [constablelaw07_ExprSums.l0])
          | succ k2 =>
            have H := HA.out
            clear HA
            simp only [constablelaw07_ExprSums.l0] at H
            by_cases c5 : x5_2 < (l0.length : Int)
            · rw [if_pos c5] at H
              have c5b0 : decide (x5_2 < (l0.length : Int)) = true := decide_eq_true c5
              clear c5
              by_cases c6 : 0 ≤ x5_2
              · rw [if_pos c6] at H
                have c6b0 : decide (0 ≤ x5_2) = true := decide_eq_true c6
                clear c6
                by_cases c7 : x3_2.length < 2513169434916
                · rw [if_pos c7] at H
                  have LMc7 := Aside0.mk c7
                  clear c7
                  obtain ⟨y562, hy562⟩ : ∃ y_ : List (S52), y_ = (x3_2 ++ [(⟨2, (⟨#[]⟩ : ByteArray), (⟨1, Int.tmod (rd l0 x5_2) 1152921504606846976, (⟨#[]⟩ : ByteArray)⟩ : S40)⟩ : S52)]) := ⟨_, rfl⟩
                  replace H : (if x4_2.length < 2513169434916 then ((some (x4_2 ++ [(⟨2, (⟨#[]⟩ : ByteArray), (⟨1, Int.tmod (rd l0 x5_2) 1152921504606846976, (⟨#[]⟩ : ByteArray)⟩ : S40)⟩ : S52)] : List (S52))).bind fun y565 => (if x5_2 > 0 then (if y562.length < 2513169434916 then (constablelaw07_ExprSums.l0 k2 l0 (y562 ++ [(⟨3, (⟨#[]⟩ : ByteArray), (⟨0, 0, (⟨#[]⟩ : ByteArray)⟩ : S40)⟩ : S52)]) y565 (wrap64 (x5_2 + 1))) else (none)) else (constablelaw07_ExprSums.l0 k2 l0 y562 y565 (wrap64 (x5_2 + 1))))) else (none)) = some r := by first | (rw [hy562]; with_reducible exact H) | (have H2_ := (Option.bind_some _ _).symm.trans H; rw [hy562]; with_reducible exact H2_) | (have H2_ := (Option.bind_some _ _).symm.trans H; with_reducible exact H2_) | with_reducible exact H | (rw [hy562]; exact H) | exact H
                  have Ny562 := Aside0.mk hy562
                  clear hy562
                  by_cases c8 : x4_2.length < 2513169434916
                  · rw [if_pos c8] at H
                    have LMc8 := Aside0.mk c8
                    clear c8
                    obtain ⟨y565, hy565⟩ : ∃ y_ : List (S52), y_ = (x4_2 ++ [(⟨2, (⟨#[]⟩ : ByteArray), (⟨1, Int.tmod (rd l0 x5_2) 1152921504606846976, (⟨#[]⟩ : ByteArray)⟩ : S40)⟩ : S52)]) := ⟨_, rfl⟩
                    replace H : (if x5_2 > 0 then (if y562.length < 2513169434916 then (constablelaw07_ExprSums.l0 k2 l0 (y562 ++ [(⟨3, (⟨#[]⟩ : ByteArray), (⟨0, 0, (⟨#[]⟩ : ByteArray)⟩ : S40)⟩ : S52)]) y565 (wrap64 (x5_2 + 1))) else (none)) else (constablelaw07_ExprSums.l0 k2 l0 y562 y565 (wrap64 (x5_2 + 1)))) = some r := by first | (rw [hy565]; with_reducible exact H) | (have H2_ := (Option.bind_some _ _).symm.trans H; rw [hy565]; with_reducible exact H2_) | (have H2_ := (Option.bind_some _ _).symm.trans H; with_reducible exact H2_) | with_reducible exact H | (rw [hy565]; exact H) | exact H
                    have Ny565 := Aside0.mk hy565
                    clear hy565
                    by_cases c9 : x5_2 > 0
                    · rw [if_pos c9] at H
                      have c9b0 : decide (0 < x5_2) = true := decide_eq_true c9
                      clear c9
                      by_cases c10 : y562.length < 2513169434916
                      · rw [if_pos c10] at H
                        have LMc10 := Aside0.mk c10
                        clear c10
                        obtain ⟨y568, hy568⟩ : ∃ y_ : List (S52), y_ = (y562 ++ [(⟨3, (⟨#[]⟩ : ByteArray), (⟨0, 0, (⟨#[]⟩ : ByteArray)⟩ : S40)⟩ : S52)]) := ⟨_, rfl⟩
                        replace H : (constablelaw07_ExprSums.l0 k2 l0 y568 y565 (wrap64 (x5_2 + 1))) = some r := by first | (rw [hy568]; with_reducible exact H) | (have H2_ := (Option.bind_some _ _).symm.trans H; rw [hy568]; with_reducible exact H2_) | (have H2_ := (Option.bind_some _ _).symm.trans H; with_reducible exact H2_) | with_reducible exact H | (rw [hy568]; exact H) | exact H
                        have Ny568 := Aside0.mk hy568
                        clear hy568
                        have H' := Aside0.mk H
                        clear H
                        have p560 : 0 ≤ (x5_2 : Int) := dt_
                        have q560 : x5_2 < (l0.length : Int) := dt_
                        obtain ⟨ad560, e560, hx560_0⟩ := Kd.at_int HR0.out x5_2 p560 q560
                        cases e560
                        replace hx560_0 := cm_ HB hx560_0
                        replace p560 := eq_true p560
                        replace q560 := eq_true q560
                        go_wp2_with (first | ((with_reducible refine gate_dst (N := 7) rfl ?_); (try (refine gate_guard (by rfl) ?_; dsimp only)); refine box_event ?hg (N := 7) ?hd (cs := #[.int .i64 0, .string (⟨#[]⟩ : ByteArray), .int .i64 0, .int .i64 0, .string (⟨#[]⟩ : ByteArray)]) (t := 52) ?hr ?_; (case hd => rfl); (case hg => rfl); (case hr => first | (go_simp; done) | (go_simp; rfl)); intro gb561 hg w11 hbox hb; have n0_ := Aside0.mk (Kd.R_below (Kd.R_elderB (ku_ HO_3.out) gb561 (Nat.le_of_eq hg.symm)) hb); have n1_ := Aside0.mk (Kd.R_below (Kd.R_elderB (ku_ HO_4.out) gb561 (Nat.le_of_eq hg.symm)) hb); have n2_ := bs_ (be_ HB) hb; have n3_ := Aside0.mk (hbox); have n4_ := gs_ hg (be_ HB); have n5_ := gs_ hg (be_ HB); clear HO_3; clear HO_4; clear HB; have HO_3 := n0_; have HO_4 := n1_; have HB := n2_; have BK561 := n3_; have GW561 := n4_; have GE561 := n5_; clear n0_ n1_ n2_ n3_ n4_ n5_; clear hb hbox hg; have hcz12_0 : w11.cell? ⟨gb561, 0, none⟩ = some (.int .i64 0) := (blk_cell BK561.out 0).trans rfl; have hcz12_1 : w11.cell? ⟨gb561, 1, none⟩ = some (.string (⟨#[]⟩ : ByteArray)) := (blk_cell BK561.out 1).trans rfl; have hcz12_2 : w11.cell? ⟨gb561, 2, none⟩ = some (.int .i64 0) := (blk_cell BK561.out 2).trans rfl; have hcz12_3 : w11.cell? ⟨gb561, 3, none⟩ = some (.int .i64 0) := (blk_cell BK561.out 3).trans rfl; have hcz12_4 : w11.cell? ⟨gb561, 4, none⟩ = some (.string (⟨#[]⟩ : ByteArray)) := (blk_cell BK561.out 4).trans rfl; have hfz12_0 := blk_frozen BK561.out 0; have hfz12_1 := blk_frozen BK561.out 1; have hfz12_2 := blk_frozen BK561.out 2; have hfz12_3 := blk_frozen BK561.out 3; have hfz12_4 := blk_frozen BK561.out 4) | ((with_reducible refine gate_builtin (b := .append) (xs := #[.tmp 38, .tmp 40]) rfl ?_); (try (refine gate_guard (by rfl) ?_; dsimp only)); at_builtin; refine Kd.R_append k52 (w0 := w) w.heap.size rfl (.tmp 38) (.tmp 40) 33 52 (.agg #[(.int .i64 0), (.string ⟨#[]⟩), (.int .i64 0), (.int .i64 0), (.string ⟨#[]⟩)]) 56 rfl Try.underlying33 info52 rfl (by decide) (by omega) u3 x3_2 (⟨2, (⟨#[]⟩ : ByteArray), (⟨1, Int.tmod (rd l0 x5_2) 1152921504606846976, (⟨#[]⟩ : ByteArray)⟩ : S40)⟩ : S52) [.int .i64 2, .string (⟨#[]⟩ : ByteArray), .int .i64 1, .int .i64 (Int.tmod (rd l0 x5_2) 1152921504606846976), .string (⟨#[]⟩ : ByteArray)] (fun k_ => some k_ ≠ (u4 : Value).ownBlock ∧ k_ ≠ gb561) (fun _ => False) rfl (by first | (go_simp; done) | (go_simp; rfl)) ?aP (fun _ hk => hk.elim) ?aF ?aO ?aB ?aS ?aL ?_; (case aP => exact k52_mkM _ _ _ (⟨2, (⟨#[]⟩ : ByteArray), (⟨1, Int.tmod (rd l0 x5_2) 1152921504606846976, (⟨#[]⟩ : ByteArray)⟩ : S40)⟩ : S52)); (case aB => exact (be_ HB)); (case aF => exact (fun k_ hk => ⟨Kd.fresh' (Kd.R_lt (ku_ (Kd.R_mono (Kd.R_far (p := ⟨gb561, 4, none⟩) (Kd.R_far (p := ⟨gb561, 3, none⟩) (Kd.R_far (p := ⟨gb561, 2, none⟩) (Kd.R_far (p := ⟨gb561, 1, none⟩) (Kd.R_far (p := ⟨gb561, 0, none⟩) (Kd.R_mono HO_4.out (fun k_ hk => (⟨hk, hk.2⟩ : _ ∧ k_ ≠ gb561))) (fun _ hk => hk.2) (.int .i64 2)) (fun _ hk => hk.2) (.string (⟨#[]⟩ : ByteArray))) (fun _ hk => hk.2) (.int .i64 1)) (fun _ hk => hk.2) (.int .i64 (Int.tmod (rd l0 x5_2) 1152921504606846976))) (fun _ hk => hk.2) (.string (⟨#[]⟩ : ByteArray))) (fun _ h_ => h_.1)))) k_ hk, Kd.freshB (o := .cells #[.int .i64 2, .string (⟨#[]⟩ : ByteArray), .int .i64 1, .int .i64 (Int.tmod (rd l0 x5_2) 1152921504606846976), .string (⟨#[]⟩ : ByteArray)] 52 (0, 0)) (bp_ BK561) k_ hk⟩)); (case aO => exact (by (with_reducible repeat (first | apply Kd.R_alloc | apply Kd.R_drewN | apply Kd.R_drew)); exact Kd.R_mono (Kd.R_far (p := ⟨gb561, 4, none⟩) (Kd.R_far (p := ⟨gb561, 3, none⟩) (Kd.R_far (p := ⟨gb561, 2, none⟩) (Kd.R_far (p := ⟨gb561, 1, none⟩) (Kd.R_far (p := ⟨gb561, 0, none⟩) (Kd.R_mono HO_3.out (fun k_ hk => (⟨hk, hk.2⟩ : _ ∧ k_ ≠ gb561))) (fun _ hk => hk.2) (.int .i64 2)) (fun _ hk => hk.2) (.string (⟨#[]⟩ : ByteArray))) (fun _ hk => hk.2) (.int .i64 1)) (fun _ hk => hk.2) (.int .i64 (Int.tmod (rd l0 x5_2) 1152921504606846976))) (fun _ hk => hk.2) (.string (⟨#[]⟩ : ByteArray))) (fun _ hk => ⟨hk.1.1, hk.1.2⟩))); (case aS => exact (below_size (be_ HB))); (case aL => have := LMc7.out; omega); intro v563 w13 ho hb hg hat; rw [← Ny562.out] at ho; have n0_ := Aside0.mk (Kd.R_after (ok := (fun k_ => k_ ≠ gb561)) (by (with_reducible repeat (first | apply Kd.R_alloc | apply Kd.R_drewN | apply Kd.R_drew)); exact Kd.R_mono (Kd.R_far (p := ⟨gb561, 4, none⟩) (Kd.R_far (p := ⟨gb561, 3, none⟩) (Kd.R_far (p := ⟨gb561, 2, none⟩) (Kd.R_far (p := ⟨gb561, 1, none⟩) (Kd.R_far (p := ⟨gb561, 0, none⟩) (Kd.R_mono HO_4.out (fun k_ hk => (⟨hk, hk.2⟩ : _ ∧ k_ ≠ gb561))) (fun _ hk => hk.2) (.int .i64 2)) (fun _ hk => hk.2) (.string (⟨#[]⟩ : ByteArray))) (fun _ hk => hk.2) (.int .i64 1)) (fun _ hk => hk.2) (.int .i64 (Int.tmod (rd l0 x5_2) 1152921504606846976))) (fun _ hk => hk.2) (.string (⟨#[]⟩ : ByteArray))) (fun _ hk => ⟨hk.1.2, hk.1.1⟩)) hg hat); have n1_ := Aside0.mk (blk_grown (o := .cells #[.int .i64 2, .string (⟨#[]⟩ : ByteArray), .int .i64 1, .int .i64 (Int.tmod (rd l0 x5_2) 1152921504606846976), .string (⟨#[]⟩ : ByteArray)] 52 (0, 0)) (bp_ BK561) hg (Kd.R_away HO_3.out (fun _ hk => hk.2))); have n2_ := Aside0.mk (hb); have n3_ := Aside0.mk (ho); clear HO_4; clear BK561; clear HB; clear HO_3; have HO_4 := n0_; have BK561 := n1_; have HB := n2_; have HO564 := n3_; clear n0_ n1_ n2_ n3_; clear ho hb hg hat; have hcz14_0 : w13.cell? ⟨gb561, 0, none⟩ = some (.int .i64 2) := (blk_cell BK561.out 0).trans rfl; have hcz14_1 : w13.cell? ⟨gb561, 1, none⟩ = some (.string (⟨#[]⟩ : ByteArray)) := (blk_cell BK561.out 1).trans rfl; have hcz14_2 : w13.cell? ⟨gb561, 2, none⟩ = some (.int .i64 1) := (blk_cell BK561.out 2).trans rfl; have hcz14_3 : w13.cell? ⟨gb561, 3, none⟩ = some (.int .i64 (Int.tmod (rd l0 x5_2) 1152921504606846976)) := (blk_cell BK561.out 3).trans rfl; have hcz14_4 : w13.cell? ⟨gb561, 4, none⟩ = some (.string (⟨#[]⟩ : ByteArray)) := (blk_cell BK561.out 4).trans rfl; have hfz14_0 := blk_frozen BK561.out 0; have hfz14_1 := blk_frozen BK561.out 1; have hfz14_2 := blk_frozen BK561.out 2; have hfz14_3 := blk_frozen BK561.out 3; have hfz14_4 := blk_frozen BK561.out 4) | ((with_reducible refine gate_builtin (b := .append) (xs := #[.tmp 42, .tmp 44]) rfl ?_); (try (refine gate_guard (by rfl) ?_; dsimp only)); at_builtin; refine Kd.R_append k52 (w0 := w) w.heap.size rfl (.tmp 42) (.tmp 44) 33 52 (.agg #[(.int .i64 0), (.string ⟨#[]⟩), (.int .i64 0), (.int .i64 0), (.string ⟨#[]⟩)]) 56 rfl Try.underlying33 info52 rfl (by decide) (by omega) u4 x4_2 (⟨2, (⟨#[]⟩ : ByteArray), (⟨1, Int.tmod (rd l0 x5_2) 1152921504606846976, (⟨#[]⟩ : ByteArray)⟩ : S40)⟩ : S52) [.int .i64 2, .string (⟨#[]⟩ : ByteArray), .int .i64 1, .int .i64 (Int.tmod (rd l0 x5_2) 1152921504606846976), .string (⟨#[]⟩ : ByteArray)] (fun k_ => some k_ ≠ (v563 : Value).ownBlock ∧ k_ ≠ gb561) (fun _ => False) rfl rfl ?aP (fun _ hk => hk.elim) ?aF ?aO ?aB ?aS ?aL ?_; (case aP => exact k52_mkM _ _ _ (⟨2, (⟨#[]⟩ : ByteArray), (⟨1, Int.tmod (rd l0 x5_2) 1152921504606846976, (⟨#[]⟩ : ByteArray)⟩ : S40)⟩ : S52)); (case aB => exact (be_ HB)); (case aF => exact (fun k_ hk => ⟨Kd.fresh' (Kd.R_lt (ku_ HO564.out)) k_ hk, Kd.freshB (bu_ BK561) k_ hk⟩)); (case aO => exact (by (with_reducible repeat (first | apply Kd.R_alloc | apply Kd.R_drewN | apply Kd.R_drew)); exact Kd.R_mono HO_4.out (fun _ hk => ⟨hk.2, hk.1⟩))); (case aS => exact (below_size (be_ HB))); (case aL => have := LMc8.out; omega); intro v566 w15 ho hb hg hat; rw [← Ny565.out] at ho; have n0_ := Aside0.mk (blk_grown (bu_ BK561) hg (Kd.R_away HO_4.out (fun _ hk => hk.1))); have n1_ := Aside0.mk (Kd.R_after (ok := (fun k_ => k_ ≠ gb561)) (by (with_reducible repeat (first | apply Kd.R_alloc | apply Kd.R_drewN | apply Kd.R_drew)); exact Kd.R_mono HO564.out (fun _ hk => ⟨hk.2, hk.1⟩)) hg hat); have n2_ := Aside0.mk (hb); have n3_ := Aside0.mk (ho); clear BK561; clear HO564; clear HB; clear HO_4; have BK561 := n0_; have HO564 := n1_; have HB := n2_; have HO567 := n3_; clear n0_ n1_ n2_ n3_; clear ho hb hg hat) | ((with_reducible refine gate_builtin (b := .append) (xs := #[.tmp 48, .tmp 50]) rfl ?_); (try (refine gate_guard (by rfl) ?_; dsimp only)); at_builtin; refine Kd.R_append k52 (w0 := w) w.heap.size rfl (.tmp 48) (.tmp 50) 33 52 (.agg #[(.int .i64 0), (.string ⟨#[]⟩), (.int .i64 0), (.int .i64 0), (.string ⟨#[]⟩)]) 56 rfl Try.underlying33 info52 rfl (by decide) (by omega) v563 y562 (⟨3, (⟨#[]⟩ : ByteArray), (⟨0, 0, (⟨#[]⟩ : ByteArray)⟩ : S40)⟩ : S52) [.int .i64 3, .string (⟨#[]⟩ : ByteArray), .int .i64 0, .int .i64 0, .string (⟨#[]⟩ : ByteArray)] (fun k_ => some k_ ≠ (v566 : Value).ownBlock ∧ k_ ≠ gb561) (fun _ => False) rfl rfl ?aP (fun _ hk => hk.elim) ?aF ?aO ?aB ?aS ?aL ?_; (case aP => exact k52_mkM _ _ _ (⟨3, (⟨#[]⟩ : ByteArray), (⟨0, 0, (⟨#[]⟩ : ByteArray)⟩ : S40)⟩ : S52)); (case aB => exact (be_ HB)); (case aF => exact (fun k_ hk => ⟨Kd.fresh' (Kd.R_lt (ku_ HO567.out)) k_ hk, Kd.freshB (bu_ BK561) k_ hk⟩)); (case aO => exact (by (with_reducible repeat (first | apply Kd.R_alloc | apply Kd.R_drewN | apply Kd.R_drew)); exact Kd.R_mono HO564.out (fun _ hk => ⟨hk.2, hk.1⟩))); (case aS => exact (below_size (be_ HB))); (case aL => have := LMc10.out; omega); intro v569 w16 ho hb hg hat; rw [← Ny568.out] at ho; have n0_ := Aside0.mk (blk_grown (bu_ BK561) hg (Kd.R_away HO564.out (fun _ hk => hk.1))); have n1_ := Aside0.mk (Kd.R_after (ok := (fun k_ => k_ ≠ gb561)) (by (with_reducible repeat (first | apply Kd.R_alloc | apply Kd.R_drewN | apply Kd.R_drew)); exact Kd.R_mono HO567.out (fun _ hk => ⟨hk.2, hk.1⟩)) hg hat); have n2_ := Aside0.mk (hb); have n3_ := Aside0.mk (ho); clear BK561; clear HO567; clear HB; clear HO564; have BK561 := n0_; have HO567 := n1_; have HB := n2_; have HO570 := n3_; clear n0_ n1_ n2_ n3_; clear ho hb hg hat))
                        go_roundg k2
                        case measure => have := HJ1.out; have := HK2.out; omega
                        case rel => exact ⟨(y568), (y565), (wrap64 (x5_2 + 1)), ra_, H', ⟨by have := HJ1.out; have := HK2.out; omega⟩, ⟨by (with_reducible repeat (first | apply Kd.R_alloc | apply Kd.R_drewN | apply Kd.R_drew)); exact Kd.R_mono HO570.out (fun _ hk => hk.1)⟩, ⟨by (with_reducible repeat (first | apply Kd.R_alloc | apply Kd.R_drewN | apply Kd.R_drew)); exact Kd.R_mono HO567.out (fun _ hk => hk.2)⟩, ⟨by repeat (first | (with_reducible first | exact HB.out | apply below_alloc | apply pw_below_drewN | apply below_drew1 | refine below_set ?_ GE561.out) | exact HB.out)⟩⟩
                      · rw [if_neg c10] at H
                        exact absurd H (by simp)
                    · rw [if_neg c9] at H
                      have c9b0 : decide (0 < x5_2) = false := decide_eq_false c9
                      clear c9
                      have H' := Aside0.mk H
                      clear H
                      have p560 : 0 ≤ (x5_2 : Int) := dt_
                      have q560 : x5_2 < (l0.length : Int) := dt_
                      obtain ⟨ad560, e560, hx560_0⟩ := Kd.at_int HR0.out x5_2 p560 q560
                      cases e560
                      replace hx560_0 := cm_ HB hx560_0
                      replace p560 := eq_true p560
                      replace q560 := eq_true q560
                      go_wp2_with (first | ((with_reducible refine gate_dst (N := 7) rfl ?_); (try (refine gate_guard (by rfl) ?_; dsimp only)); refine box_event ?hg (N := 7) ?hd (cs := #[.int .i64 0, .string (⟨#[]⟩ : ByteArray), .int .i64 0, .int .i64 0, .string (⟨#[]⟩ : ByteArray)]) (t := 52) ?hr ?_; (case hd => rfl); (case hg => rfl); (case hr => first | (go_simp; done) | (go_simp; rfl)); intro gb561 hg w17 hbox hb; have n0_ := Aside0.mk (Kd.R_below (Kd.R_elderB (ku_ HO_3.out) gb561 (Nat.le_of_eq hg.symm)) hb); have n1_ := Aside0.mk (Kd.R_below (Kd.R_elderB (ku_ HO_4.out) gb561 (Nat.le_of_eq hg.symm)) hb); have n2_ := bs_ (be_ HB) hb; have n3_ := Aside0.mk (hbox); have n4_ := gs_ hg (be_ HB); have n5_ := gs_ hg (be_ HB); clear HO_3; clear HO_4; clear HB; have HO_3 := n0_; have HO_4 := n1_; have HB := n2_; have BK561 := n3_; have GW561 := n4_; have GE561 := n5_; clear n0_ n1_ n2_ n3_ n4_ n5_; clear hb hbox hg; have hcz18_0 : w17.cell? ⟨gb561, 0, none⟩ = some (.int .i64 0) := (blk_cell BK561.out 0).trans rfl; have hcz18_1 : w17.cell? ⟨gb561, 1, none⟩ = some (.string (⟨#[]⟩ : ByteArray)) := (blk_cell BK561.out 1).trans rfl; have hcz18_2 : w17.cell? ⟨gb561, 2, none⟩ = some (.int .i64 0) := (blk_cell BK561.out 2).trans rfl; have hcz18_3 : w17.cell? ⟨gb561, 3, none⟩ = some (.int .i64 0) := (blk_cell BK561.out 3).trans rfl; have hcz18_4 : w17.cell? ⟨gb561, 4, none⟩ = some (.string (⟨#[]⟩ : ByteArray)) := (blk_cell BK561.out 4).trans rfl; have hfz18_0 := blk_frozen BK561.out 0; have hfz18_1 := blk_frozen BK561.out 1; have hfz18_2 := blk_frozen BK561.out 2; have hfz18_3 := blk_frozen BK561.out 3; have hfz18_4 := blk_frozen BK561.out 4) | ((with_reducible refine gate_builtin (b := .append) (xs := #[.tmp 38, .tmp 40]) rfl ?_); (try (refine gate_guard (by rfl) ?_; dsimp only)); at_builtin; refine Kd.R_append k52 (w0 := w) w.heap.size rfl (.tmp 38) (.tmp 40) 33 52 (.agg #[(.int .i64 0), (.string ⟨#[]⟩), (.int .i64 0), (.int .i64 0), (.string ⟨#[]⟩)]) 56 rfl Try.underlying33 info52 rfl (by decide) (by omega) u3 x3_2 (⟨2, (⟨#[]⟩ : ByteArray), (⟨1, Int.tmod (rd l0 x5_2) 1152921504606846976, (⟨#[]⟩ : ByteArray)⟩ : S40)⟩ : S52) [.int .i64 2, .string (⟨#[]⟩ : ByteArray), .int .i64 1, .int .i64 (Int.tmod (rd l0 x5_2) 1152921504606846976), .string (⟨#[]⟩ : ByteArray)] (fun k_ => some k_ ≠ (u4 : Value).ownBlock ∧ k_ ≠ gb561) (fun _ => False) rfl (by first | (go_simp; done) | (go_simp; rfl)) ?aP (fun _ hk => hk.elim) ?aF ?aO ?aB ?aS ?aL ?_; (case aP => exact k52_mkM _ _ _ (⟨2, (⟨#[]⟩ : ByteArray), (⟨1, Int.tmod (rd l0 x5_2) 1152921504606846976, (⟨#[]⟩ : ByteArray)⟩ : S40)⟩ : S52)); (case aB => exact (be_ HB)); (case aF => exact (fun k_ hk => ⟨Kd.fresh' (Kd.R_lt (ku_ (Kd.R_mono (Kd.R_far (p := ⟨gb561, 4, none⟩) (Kd.R_far (p := ⟨gb561, 3, none⟩) (Kd.R_far (p := ⟨gb561, 2, none⟩) (Kd.R_far (p := ⟨gb561, 1, none⟩) (Kd.R_far (p := ⟨gb561, 0, none⟩) (Kd.R_mono HO_4.out (fun k_ hk => (⟨hk, hk.2⟩ : _ ∧ k_ ≠ gb561))) (fun _ hk => hk.2) (.int .i64 2)) (fun _ hk => hk.2) (.string (⟨#[]⟩ : ByteArray))) (fun _ hk => hk.2) (.int .i64 1)) (fun _ hk => hk.2) (.int .i64 (Int.tmod (rd l0 x5_2) 1152921504606846976))) (fun _ hk => hk.2) (.string (⟨#[]⟩ : ByteArray))) (fun _ h_ => h_.1)))) k_ hk, Kd.freshB (o := .cells #[.int .i64 2, .string (⟨#[]⟩ : ByteArray), .int .i64 1, .int .i64 (Int.tmod (rd l0 x5_2) 1152921504606846976), .string (⟨#[]⟩ : ByteArray)] 52 (0, 0)) (bp_ BK561) k_ hk⟩)); (case aO => exact (by (with_reducible repeat (first | apply Kd.R_alloc | apply Kd.R_drewN | apply Kd.R_drew)); exact Kd.R_mono (Kd.R_far (p := ⟨gb561, 4, none⟩) (Kd.R_far (p := ⟨gb561, 3, none⟩) (Kd.R_far (p := ⟨gb561, 2, none⟩) (Kd.R_far (p := ⟨gb561, 1, none⟩) (Kd.R_far (p := ⟨gb561, 0, none⟩) (Kd.R_mono HO_3.out (fun k_ hk => (⟨hk, hk.2⟩ : _ ∧ k_ ≠ gb561))) (fun _ hk => hk.2) (.int .i64 2)) (fun _ hk => hk.2) (.string (⟨#[]⟩ : ByteArray))) (fun _ hk => hk.2) (.int .i64 1)) (fun _ hk => hk.2) (.int .i64 (Int.tmod (rd l0 x5_2) 1152921504606846976))) (fun _ hk => hk.2) (.string (⟨#[]⟩ : ByteArray))) (fun _ hk => ⟨hk.1.1, hk.1.2⟩))); (case aS => exact (below_size (be_ HB))); (case aL => have := LMc7.out; omega); intro v563 w19 ho hb hg hat; rw [← Ny562.out] at ho; have n0_ := Aside0.mk (Kd.R_after (ok := (fun k_ => k_ ≠ gb561)) (by (with_reducible repeat (first | apply Kd.R_alloc | apply Kd.R_drewN | apply Kd.R_drew)); exact Kd.R_mono (Kd.R_far (p := ⟨gb561, 4, none⟩) (Kd.R_far (p := ⟨gb561, 3, none⟩) (Kd.R_far (p := ⟨gb561, 2, none⟩) (Kd.R_far (p := ⟨gb561, 1, none⟩) (Kd.R_far (p := ⟨gb561, 0, none⟩) (Kd.R_mono HO_4.out (fun k_ hk => (⟨hk, hk.2⟩ : _ ∧ k_ ≠ gb561))) (fun _ hk => hk.2) (.int .i64 2)) (fun _ hk => hk.2) (.string (⟨#[]⟩ : ByteArray))) (fun _ hk => hk.2) (.int .i64 1)) (fun _ hk => hk.2) (.int .i64 (Int.tmod (rd l0 x5_2) 1152921504606846976))) (fun _ hk => hk.2) (.string (⟨#[]⟩ : ByteArray))) (fun _ hk => ⟨hk.1.2, hk.1.1⟩)) hg hat); have n1_ := Aside0.mk (blk_grown (o := .cells #[.int .i64 2, .string (⟨#[]⟩ : ByteArray), .int .i64 1, .int .i64 (Int.tmod (rd l0 x5_2) 1152921504606846976), .string (⟨#[]⟩ : ByteArray)] 52 (0, 0)) (bp_ BK561) hg (Kd.R_away HO_3.out (fun _ hk => hk.2))); have n2_ := Aside0.mk (hb); have n3_ := Aside0.mk (ho); clear HO_4; clear BK561; clear HB; clear HO_3; have HO_4 := n0_; have BK561 := n1_; have HB := n2_; have HO564 := n3_; clear n0_ n1_ n2_ n3_; clear ho hb hg hat; have hcz20_0 : w19.cell? ⟨gb561, 0, none⟩ = some (.int .i64 2) := (blk_cell BK561.out 0).trans rfl; have hcz20_1 : w19.cell? ⟨gb561, 1, none⟩ = some (.string (⟨#[]⟩ : ByteArray)) := (blk_cell BK561.out 1).trans rfl; have hcz20_2 : w19.cell? ⟨gb561, 2, none⟩ = some (.int .i64 1) := (blk_cell BK561.out 2).trans rfl; have hcz20_3 : w19.cell? ⟨gb561, 3, none⟩ = some (.int .i64 (Int.tmod (rd l0 x5_2) 1152921504606846976)) := (blk_cell BK561.out 3).trans rfl; have hcz20_4 : w19.cell? ⟨gb561, 4, none⟩ = some (.string (⟨#[]⟩ : ByteArray)) := (blk_cell BK561.out 4).trans rfl; have hfz20_0 := blk_frozen BK561.out 0; have hfz20_1 := blk_frozen BK561.out 1; have hfz20_2 := blk_frozen BK561.out 2; have hfz20_3 := blk_frozen BK561.out 3; have hfz20_4 := blk_frozen BK561.out 4) | ((with_reducible refine gate_builtin (b := .append) (xs := #[.tmp 42, .tmp 44]) rfl ?_); (try (refine gate_guard (by rfl) ?_; dsimp only)); at_builtin; refine Kd.R_append k52 (w0 := w) w.heap.size rfl (.tmp 42) (.tmp 44) 33 52 (.agg #[(.int .i64 0), (.string ⟨#[]⟩), (.int .i64 0), (.int .i64 0), (.string ⟨#[]⟩)]) 56 rfl Try.underlying33 info52 rfl (by decide) (by omega) u4 x4_2 (⟨2, (⟨#[]⟩ : ByteArray), (⟨1, Int.tmod (rd l0 x5_2) 1152921504606846976, (⟨#[]⟩ : ByteArray)⟩ : S40)⟩ : S52) [.int .i64 2, .string (⟨#[]⟩ : ByteArray), .int .i64 1, .int .i64 (Int.tmod (rd l0 x5_2) 1152921504606846976), .string (⟨#[]⟩ : ByteArray)] (fun k_ => some k_ ≠ (v563 : Value).ownBlock ∧ k_ ≠ gb561) (fun _ => False) rfl rfl ?aP (fun _ hk => hk.elim) ?aF ?aO ?aB ?aS ?aL ?_; (case aP => exact k52_mkM _ _ _ (⟨2, (⟨#[]⟩ : ByteArray), (⟨1, Int.tmod (rd l0 x5_2) 1152921504606846976, (⟨#[]⟩ : ByteArray)⟩ : S40)⟩ : S52)); (case aB => exact (be_ HB)); (case aF => exact (fun k_ hk => ⟨Kd.fresh' (Kd.R_lt (ku_ HO564.out)) k_ hk, Kd.freshB (bu_ BK561) k_ hk⟩)); (case aO => exact (by (with_reducible repeat (first | apply Kd.R_alloc | apply Kd.R_drewN | apply Kd.R_drew)); exact Kd.R_mono HO_4.out (fun _ hk => ⟨hk.2, hk.1⟩))); (case aS => exact (below_size (be_ HB))); (case aL => have := LMc8.out; omega); intro v566 w21 ho hb hg hat; rw [← Ny565.out] at ho; have n0_ := Aside0.mk (blk_grown (bu_ BK561) hg (Kd.R_away HO_4.out (fun _ hk => hk.1))); have n1_ := Aside0.mk (Kd.R_after (ok := (fun k_ => k_ ≠ gb561)) (by (with_reducible repeat (first | apply Kd.R_alloc | apply Kd.R_drewN | apply Kd.R_drew)); exact Kd.R_mono HO564.out (fun _ hk => ⟨hk.2, hk.1⟩)) hg hat); have n2_ := Aside0.mk (hb); have n3_ := Aside0.mk (ho); clear BK561; clear HO564; clear HB; clear HO_4; have BK561 := n0_; have HO564 := n1_; have HB := n2_; have HO567 := n3_; clear n0_ n1_ n2_ n3_; clear ho hb hg hat))
                      go_roundg k2
                      case measure => have := HJ1.out; have := HK2.out; omega
                      case rel => exact ⟨(y562), (y565), (wrap64 (x5_2 + 1)), ra_, H', ⟨by have := HJ1.out; have := HK2.out; omega⟩, ⟨by (with_reducible repeat (first | apply Kd.R_alloc | apply Kd.R_drewN | apply Kd.R_drew)); exact Kd.R_mono HO564.out (fun _ hk => hk.2)⟩, ⟨by (with_reducible repeat (first | apply Kd.R_alloc | apply Kd.R_drewN | apply Kd.R_drew)); exact Kd.R_mono HO567.out (fun _ hk => hk.1)⟩, ⟨by repeat (first | (with_reducible first | exact HB.out | apply below_alloc | apply pw_below_drewN | apply below_drew1 | refine below_set ?_ GE561.out) | exact HB.out)⟩⟩
                  · rw [if_neg c8] at H
                    exact absurd H (by simp)
                · rw [if_neg c7] at H
                  exact absurd H (by simp)
              · rw [if_neg c6] at H
                exact absurd H (by simp)
            · rw [if_neg c5] at H
              have c5b0 : decide (x5_2 < (l0.length : Int)) = false := decide_eq_false c5
              clear c5
              have H' := Aside0.mk H
              clear H
              go_wp2
              go_loopg [4, 8, 9] k2 (fun kq v4 v8 v9 w' => ∃ (x4_3 : List (S52)) (x8_3 : List Int) (x9_3 : Int), v9 = .int .i64 x9_3 ∧ Aside0 (constablelaw07_ExprSums.l1 kq l0 x3_2 x4_3 x8_3 x9_3 = some r) ∧ Aside0 (kq ≤ k2) ∧ Aside0 (Kd.R k52 52 w' w.heap.size (fun k_ => some k_ ≠ (v4 : Value).ownBlock) u3 x3_2) ∧ Aside0 (Kd.R k52 52 w' w.heap.size (fun k_ => some k_ ≠ (u3 : Value).ownBlock) v4 x4_3) ∧ Aside0 (Kd.R (Kd.int .i64) 3 w' w.heap.size (fun _ => True) v8 x8_3) ∧ Aside0 (Below w.heap.size w w'))
              case atStart => exact ⟨(x4_2), (([] : List Int)), (0), ra_, H', ⟨Nat.le_refl _⟩, ⟨by (with_reducible repeat (first | apply Kd.R_alloc | apply Kd.R_drewN | apply Kd.R_drew)); exact HO_3.out⟩, ⟨by (with_reducible repeat (first | apply Kd.R_alloc | apply Kd.R_drewN | apply Kd.R_drew)); exact HO_4.out⟩, ⟨by first | exact Kd.R_nil _ _ _ _ _ | exact Kd.N_nil _ _ _ _ _ | exact Kd.V_nil _ _ _ _ _ | exact Kd.Q_nil _ _ _ _ _ | exact Kd.S_nil _ _ _ _ _⟩, ⟨by repeat (first | (with_reducible first | exact HB.out | apply below_alloc | apply pw_below_drewN | apply below_drew1) | exact HB.out)⟩⟩
              case round =>
                clear H'
                try clear c1
                try clear p2
                try clear c3
                try clear c3b0
                try clear c3b1
                try clear c3b2
                try clear c4
                try clear c5
                try clear c5b0
                try clear p5
                try clear q5
                try clear hx5
                try clear c6
                try clear c6b0
                try clear p6
                try clear c7
                try clear c8
                try clear c9
                try clear c9b0
                try clear c10
                try clear c12
                try clear hcz12_0
                try clear hcz12_1
                try clear hcz12_2
                try clear hcz12_3
                try clear hcz12_4
                try clear hcz14_0
                try clear hcz14_1
                try clear hcz14_2
                try clear hcz14_3
                try clear hcz14_4
                try clear hcz18_0
                try clear hcz18_1
                try clear hcz18_2
                try clear hcz18_3
                try clear hcz18_4
                try clear hcz20_0
                try clear hcz20_1
                try clear hcz20_2
                try clear hcz20_3
                try clear hcz20_4
                try clear hfz12_0
                try clear hfz12_1
                try clear hfz12_2
                try clear hfz12_3
                try clear hfz12_4
                try clear hfz14_0
                try clear hfz14_1
                try clear hfz14_2
                try clear hfz14_3
                try clear hfz14_4
                try clear hfz18_0
                try clear hfz18_1
                try clear hfz18_2
                try clear hfz18_3
                try clear hfz18_4
                try clear hfz20_0
                try clear hfz20_1
                try clear hfz20_2
                try clear hfz20_3
                try clear hfz20_4
                try clear hx560_0
                try clear p2
                try clear p560
                try clear q560
                obtain ⟨x4_3, x8_3, x9_3, rfl, HA, HK3, HO_3, HO_4, HO_8, HB⟩ := hrel
                cases gk with
                | zero => exact absurd HA.out (by simp [constablelaw07_ExprSums.l1])
                | succ k3 =>
                  have H := HA.out
                  clear HA
                  simp only [constablelaw07_ExprSums.l1] at H
                  by_cases c22 : x9_3 < (l0.length : Int)
                  · rw [if_pos c22] at H
                    have c22b0 : decide (x9_3 < (l0.length : Int)) = true := decide_eq_true c22
                    clear c22
                    by_cases c23 : 0 ≤ x9_3
                    · rw [if_pos c23] at H
                      have c23b0 : decide (0 ≤ x9_3) = true := decide_eq_true c23
                      clear c23
                      by_cases c24 : x8_3.length < 17592186044416
                      · rw [if_pos c24] at H
                        have LMc24 := Aside0.mk c24
                        clear c24
                        obtain ⟨y572, hy572⟩ : ∃ y_ : List Int, y_ = (x8_3 ++ [Int.tmod (rd l0 x9_3) 1152921504606846976]) := ⟨_, rfl⟩
                        replace H : (if x9_3 > 0 then (if x4_3.length < 2513169434916 then (constablelaw07_ExprSums.l1 k3 l0 x3_2 (x4_3 ++ [(⟨3, (⟨#[]⟩ : ByteArray), (⟨0, 0, (⟨#[]⟩ : ByteArray)⟩ : S40)⟩ : S52)]) y572 (wrap64 (x9_3 + 1))) else (none)) else (constablelaw07_ExprSums.l1 k3 l0 x3_2 x4_3 y572 (wrap64 (x9_3 + 1)))) = some r := by first | (rw [hy572]; with_reducible exact H) | (have H2_ := (Option.bind_some _ _).symm.trans H; rw [hy572]; with_reducible exact H2_) | (have H2_ := (Option.bind_some _ _).symm.trans H; with_reducible exact H2_) | with_reducible exact H | (rw [hy572]; exact H) | exact H
                        have Ny572 := Aside0.mk hy572
                        clear hy572
                        by_cases c25 : x9_3 > 0
                        · rw [if_pos c25] at H
                          have c25b0 : decide (0 < x9_3) = true := decide_eq_true c25
                          clear c25
                          by_cases c26 : x4_3.length < 2513169434916
                          · rw [if_pos c26] at H
                            have LMc26 := Aside0.mk c26
                            clear c26
                            obtain ⟨y575, hy575⟩ : ∃ y_ : List (S52), y_ = (x4_3 ++ [(⟨3, (⟨#[]⟩ : ByteArray), (⟨0, 0, (⟨#[]⟩ : ByteArray)⟩ : S40)⟩ : S52)]) := ⟨_, rfl⟩
                            replace H : (constablelaw07_ExprSums.l1 k3 l0 x3_2 y575 y572 (wrap64 (x9_3 + 1))) = some r := by first | (rw [hy575]; with_reducible exact H) | (have H2_ := (Option.bind_some _ _).symm.trans H; rw [hy575]; with_reducible exact H2_) | (have H2_ := (Option.bind_some _ _).symm.trans H; with_reducible exact H2_) | with_reducible exact H | (rw [hy575]; exact H) | exact H
                            have Ny575 := Aside0.mk hy575
                            clear hy575
                            have H' := Aside0.mk H
                            clear H
                            have p571 : 0 ≤ (x9_3 : Int) := dt_
                            have q571 : x9_3 < (l0.length : Int) := dt_
                            obtain ⟨ad571, e571, hx571_0⟩ := Kd.at_int HR0.out x9_3 p571 q571
                            cases e571
                            replace hx571_0 := cm_ HB hx571_0
                            replace p571 := eq_true p571
                            replace q571 := eq_true q571
                            go_wp2_with (first | ((with_reducible refine gate_builtin (b := .append) (xs := #[.tmp 58, .tmp 64]) rfl ?_); (try (refine gate_guard (by rfl) ?_; dsimp only)); at_builtin; refine Kd.R_append (Kd.int .i64) (w0 := w) w.heap.size rfl (.tmp 58) (.tmp 64) 22 3 (.int .i64 0) 8 rfl Try.underlying22 info3 rfl (by decide) (by omega) u8 x8_3 (Int.tmod (rd l0 x9_3) 1152921504606846976) [.int .i64 (Int.tmod (rd l0 x9_3) 1152921504606846976)] (fun _ => True) (fun _ => False) rfl rfl ?aP (fun _ hk => hk.elim) ?aF ?aO ?aB ?aS ?aL ?_; (case aP => exact rfl); (case aB => exact (be_ HB)); (case aF => exact (fun _ _ => trivial)); (case aO => exact (ku_ HO_8.out)); (case aS => exact (below_size (be_ HB))); (case aL => have := LMc24.out; omega); intro v573 w27 ho hb hg hat; rw [← Ny572.out] at ho; have n0_ := Aside0.mk (Kd.R_over' (ku_ HO_3.out) (Kd.R_typed (ku_ HO_8.out)) (by decide) hg); have n1_ := Aside0.mk (Kd.R_over' (ku_ HO_4.out) (Kd.R_typed (ku_ HO_8.out)) (by decide) hg); have n2_ := Aside0.mk (hb); have n3_ := Aside0.mk (ho); clear HO_3; clear HO_4; clear HB; clear HO_8; have HO_3 := n0_; have HO_4 := n1_; have HB := n2_; have HO574 := n3_; clear n0_ n1_ n2_ n3_; clear ho hb hg hat) | ((with_reducible refine gate_builtin (b := .append) (xs := #[.tmp 68, .tmp 70]) rfl ?_); (try (refine gate_guard (by rfl) ?_; dsimp only)); at_builtin; refine Kd.R_append k52 (w0 := w) w.heap.size rfl (.tmp 68) (.tmp 70) 33 52 (.agg #[(.int .i64 0), (.string ⟨#[]⟩), (.int .i64 0), (.int .i64 0), (.string ⟨#[]⟩)]) 56 rfl Try.underlying33 info52 rfl (by decide) (by omega) u4 x4_3 (⟨3, (⟨#[]⟩ : ByteArray), (⟨0, 0, (⟨#[]⟩ : ByteArray)⟩ : S40)⟩ : S52) [.int .i64 3, .string (⟨#[]⟩ : ByteArray), .int .i64 0, .int .i64 0, .string (⟨#[]⟩ : ByteArray)] (fun k_ => some k_ ≠ (u3 : Value).ownBlock) (fun _ => False) rfl rfl ?aP (fun _ hk => hk.elim) ?aF ?aO ?aB ?aS ?aL ?_; (case aP => exact k52_mkM _ _ _ (⟨3, (⟨#[]⟩ : ByteArray), (⟨0, 0, (⟨#[]⟩ : ByteArray)⟩ : S40)⟩ : S52)); (case aB => exact (be_ HB)); (case aF => exact (fun k_ hk => Kd.fresh' (Kd.R_lt (ku_ HO_3.out)) k_ hk)); (case aO => exact (ku_ HO_4.out)); (case aS => exact (below_size (be_ HB))); (case aL => have := LMc26.out; omega); intro v576 w28 ho hb hg hat; rw [← Ny575.out] at ho; have n0_ := Aside0.mk (Kd.R_after (ok := (fun _ => True)) (by (with_reducible repeat (first | apply Kd.R_alloc | apply Kd.R_drewN | apply Kd.R_drew)); exact Kd.R_mono HO_3.out (fun _ hk => ⟨trivial, hk⟩)) hg hat); have n1_ := Aside0.mk (Kd.R_over' (ku_ HO574.out) (Kd.R_typed (ku_ HO_4.out)) (by decide) hg); have n2_ := Aside0.mk (hb); have n3_ := Aside0.mk (ho); clear HO_3; clear HO574; clear HB; clear HO_4; have HO_3 := n0_; have HO574 := n1_; have HB := n2_; have HO577 := n3_; clear n0_ n1_ n2_ n3_; clear ho hb hg hat))
                            go_roundg k3
                            case measure => have := HJ1.out; have := HK2.out; have := HK3.out; omega
                            case rel => exact ⟨(y575), (y572), (wrap64 (x9_3 + 1)), ra_, H', ⟨by have := HJ1.out; have := HK2.out; have := HK3.out; omega⟩, ⟨by (with_reducible repeat (first | apply Kd.R_alloc | apply Kd.R_drewN | apply Kd.R_drew)); exact Kd.R_mono HO_3.out (fun _ hk => hk.2)⟩, ⟨by (with_reducible repeat (first | apply Kd.R_alloc | apply Kd.R_drewN | apply Kd.R_drew)); exact HO577.out⟩, ⟨by (with_reducible repeat (first | apply Kd.R_alloc | apply Kd.R_drewN | apply Kd.R_drew)); exact HO574.out⟩, ⟨by repeat (first | (with_reducible first | exact HB.out | apply below_alloc | apply pw_below_drewN | apply below_drew1) | exact HB.out)⟩⟩
                          · rw [if_neg c26] at H
                            exact absurd H (by simp)
                        · rw [if_neg c25] at H
                          have c25b0 : decide (0 < x9_3) = false := decide_eq_false c25
                          clear c25
                          have H' := Aside0.mk H
                          clear H
                          have p571 : 0 ≤ (x9_3 : Int) := dt_
                          have q571 : x9_3 < (l0.length : Int) := dt_
                          obtain ⟨ad571, e571, hx571_0⟩ := Kd.at_int HR0.out x9_3 p571 q571
                          cases e571
                          replace hx571_0 := cm_ HB hx571_0
                          replace p571 := eq_true p571
                          replace q571 := eq_true q571
                          go_wp2_with (first | ((with_reducible refine gate_builtin (b := .append) (xs := #[.tmp 58, .tmp 64]) rfl ?_); (try (refine gate_guard (by rfl) ?_; dsimp only)); at_builtin; refine Kd.R_append (Kd.int .i64) (w0 := w) w.heap.size rfl (.tmp 58) (.tmp 64) 22 3 (.int .i64 0) 8 rfl Try.underlying22 info3 rfl (by decide) (by omega) u8 x8_3 (Int.tmod (rd l0 x9_3) 1152921504606846976) [.int .i64 (Int.tmod (rd l0 x9_3) 1152921504606846976)] (fun _ => True) (fun _ => False) rfl rfl ?aP (fun _ hk => hk.elim) ?aF ?aO ?aB ?aS ?aL ?_; (case aP => exact rfl); (case aB => exact (be_ HB)); (case aF => exact (fun _ _ => trivial)); (case aO => exact (ku_ HO_8.out)); (case aS => exact (below_size (be_ HB))); (case aL => have := LMc24.out; omega); intro v573 w29 ho hb hg hat; rw [← Ny572.out] at ho; have n0_ := Aside0.mk (Kd.R_over' (ku_ HO_3.out) (Kd.R_typed (ku_ HO_8.out)) (by decide) hg); have n1_ := Aside0.mk (Kd.R_over' (ku_ HO_4.out) (Kd.R_typed (ku_ HO_8.out)) (by decide) hg); have n2_ := Aside0.mk (hb); have n3_ := Aside0.mk (ho); clear HO_3; clear HO_4; clear HB; clear HO_8; have HO_3 := n0_; have HO_4 := n1_; have HB := n2_; have HO574 := n3_; clear n0_ n1_ n2_ n3_; clear ho hb hg hat))
                          go_roundg k3
                          case measure => have := HJ1.out; have := HK2.out; have := HK3.out; omega
                          case rel => exact ⟨(x4_3), (y572), (wrap64 (x9_3 + 1)), ra_, H', ⟨by have := HJ1.out; have := HK2.out; have := HK3.out; omega⟩, ⟨by (with_reducible repeat (first | apply Kd.R_alloc | apply Kd.R_drewN | apply Kd.R_drew)); exact HO_3.out⟩, ⟨by (with_reducible repeat (first | apply Kd.R_alloc | apply Kd.R_drewN | apply Kd.R_drew)); exact HO_4.out⟩, ⟨by (with_reducible repeat (first | apply Kd.R_alloc | apply Kd.R_drewN | apply Kd.R_drew)); exact HO574.out⟩, ⟨by repeat (first | (with_reducible first | exact HB.out | apply below_alloc | apply pw_below_drewN | apply below_drew1) | exact HB.out)⟩⟩
                      · rw [if_neg c24] at H
                        exact absurd H (by simp)
                    · rw [if_neg c23] at H
                      exact absurd H (by simp)
                  · rw [if_neg c22] at H
                    have c22b0 : decide (x9_3 < (l0.length : Int)) = false := decide_eq_false c22
                    clear c22
                    replace H := Option.bind_eq_some_iff.mp H
                    obtain ⟨⟨t578, t579, t580, t581⟩, A300, H⟩ := H
                    replace H : ((num_Sum.f k3 x8_3).bind fun bt583 => ((expr_Eval.f k3 x4_3 ([] : List (S62))).bind fun bt585 => (if t581 = bt583.2 then (if t581 = 0 then (if t578 = 1 then (if t579 = bt583.1 then (if bt585.2.2.2 = 4 then ((constablelaw07_wakes.f k3).bind fun t590 => (some t590)) else (if t581 = 4 then ((constablelaw07_wakes.f k3).bind fun t591 => (some t591)) else (if bt585.2.2.2 = 0 then (if (bt585.1 == t578 && (bt585.2.1 == t579 && (bt585.2.2.1.toList == t580.toList))) = true then ((constablelaw07_wakes.f k3).bind fun t592 => (some t592)) else (some false)) else (some false)))) else (some false)) else (some false)) else (if bt585.2.2.2 = 4 then ((constablelaw07_wakes.f k3).bind fun t593 => (some t593)) else (if t581 = 4 then ((constablelaw07_wakes.f k3).bind fun t594 => (some t594)) else (if bt585.2.2.2 = 0 then (if (bt585.1 == t578 && (bt585.2.1 == t579 && (bt585.2.2.1.toList == t580.toList))) = true then ((constablelaw07_wakes.f k3).bind fun t595 => (some t595)) else (some false)) else (some false))))) else (some false)))) = some r := H
                    have A30 := Aside0.mk A300
                    clear A300
                    replace H := Option.bind_eq_some_iff.mp H
                    obtain ⟨⟨t583, t584⟩, A310, H⟩ := H
                    replace H : ((expr_Eval.f k3 x4_3 ([] : List (S62))).bind fun bt585 => (if t581 = t584 then (if t581 = 0 then (if t578 = 1 then (if t579 = t583 then (if bt585.2.2.2 = 4 then ((constablelaw07_wakes.f k3).bind fun t590 => (some t590)) else (if t581 = 4 then ((constablelaw07_wakes.f k3).bind fun t591 => (some t591)) else (if bt585.2.2.2 = 0 then (if (bt585.1 == t578 && (bt585.2.1 == t579 && (bt585.2.2.1.toList == t580.toList))) = true then ((constablelaw07_wakes.f k3).bind fun t592 => (some t592)) else (some false)) else (some false)))) else (some false)) else (some false)) else (if bt585.2.2.2 = 4 then ((constablelaw07_wakes.f k3).bind fun t593 => (some t593)) else (if t581 = 4 then ((constablelaw07_wakes.f k3).bind fun t594 => (some t594)) else (if bt585.2.2.2 = 0 then (if (bt585.1 == t578 && (bt585.2.1 == t579 && (bt585.2.2.1.toList == t580.toList))) = true then ((constablelaw07_wakes.f k3).bind fun t595 => (some t595)) else (some false)) else (some false))))) else (some false))) = some r := H
                    have A31 := Aside0.mk A310
                    clear A310
                    replace H := Option.bind_eq_some_iff.mp H
                    obtain ⟨⟨t585, t586, t587, t588⟩, A320, H⟩ := H
                    replace H : (if t581 = t584 then (if t581 = 0 then (if t578 = 1 then (if t579 = t583 then (if t588 = 4 then ((constablelaw07_wakes.f k3).bind fun t590 => (some t590)) else (if t581 = 4 then ((constablelaw07_wakes.f k3).bind fun t591 => (some t591)) else (if t588 = 0 then (if (t585 == t578 && (t586 == t579 && (t587.toList == t580.toList))) = true then ((constablelaw07_wakes.f k3).bind fun t592 => (some t592)) else (some false)) else (some false)))) else (some false)) else (some false)) else (if t588 = 4 then ((constablelaw07_wakes.f k3).bind fun t593 => (some t593)) else (if t581 = 4 then ((constablelaw07_wakes.f k3).bind fun t594 => (some t594)) else (if t588 = 0 then (if (t585 == t578 && (t586 == t579 && (t587.toList == t580.toList))) = true then ((constablelaw07_wakes.f k3).bind fun t595 => (some t595)) else (some false)) else (some false))))) else (some false)) = some r := H
                    have A32 := Aside0.mk A320
                    clear A320
                    by_cases c33 : t581 = t584
                    · rw [if_pos c33] at H
                      obtain ⟨c33b0, c33b1⟩ := eqB_ c33
                      clear c33
                      by_cases c34 : t581 = 0
                      · rw [if_pos c34] at H
                        obtain ⟨c34b0, c34b1⟩ := eqB_ c34
                        clear c34
                        by_cases c35 : t578 = 1
                        · rw [if_pos c35] at H
                          obtain ⟨c35b0, c35b1⟩ := eqB_ c35
                          clear c35
                          by_cases c36 : t579 = t583
                          · rw [if_pos c36] at H
                            obtain ⟨c36b0, c36b1⟩ := eqB_ c36
                            clear c36
                            by_cases c37 : t588 = 4
                            · rw [if_pos c37] at H
                              obtain ⟨c37b0, c37b1⟩ := eqB_ c37
                              clear c37
                              replace H := Option.bind_eq_some_iff.mp H
                              obtain ⟨t590, A380, H⟩ := H
                              replace H : (some t590) = some r := H
                              have A38 := Aside0.mk A380
                              clear A380
                              obtain rfl := Option.some.inj H
                              obtain ⟨Ao39, co39, eo39⟩ := Kd.R_slice HO_3.out
                              subst eo39
                              go_wp2_with (first | ((with_reducible refine gate_callee (f := 21) rfl ?_); refine goesL_ (some 74) rfl rfl Try.func21 (by kernel_rfl) rfl #[.slice Ao39 x3_2.length co39, .slice none 0 0] rfl ga_ ?_; (refine (expr_Eval.calls k3 _ _ x3_2 _ _ ([] : List (S62)) t578 t579 t580 t581 _ ?side1 ?side2 ?side3 ?side4 A30.out).mono ?_); (case side1 => repeat (first | exact (Kd.R_reads' HO_3.out).2.2 | (with_reducible refine Kd.C_alloc ?_ _) | (with_reducible refine Kd.C_drewN ?_ _) | (with_reducible refine Kd.C_drew ?_))); (case side2 => exact (Kd.R_reads' HO_3.out).2.1); (case side3 => exact Kd.C_nil _ _); (case side4 => exact Nat.le_refl _); rintro e w40 ⟨rfl, hb⟩; refine ⟨_, rfl, ?_⟩; have n0_ := kb_ (ku_ HO_3.out) hb; have n1_ := kb_ (ku_ HO_4.out) hb; have n2_ := kb_ (ku_ HO_8.out) hb; have n3_ := bs_ (be_ HB) hb; clear HO_3; clear HO_4; clear HO_8; clear HB; have HO_3 := n0_; have HO_4 := n1_; have HO_8 := n2_; have HB := n3_; clear n0_ n1_ n2_ n3_; (try clear hb); (try clear hb2); (try clear hk); (try clear hi)) | ((with_reducible refine gate_dst (N := 10) rfl ?_); (try (refine gate_guard (by rfl) ?_; dsimp only)); refine box_event ?hg (N := 10) ?hd (cs := #[.int .i64 0, .int .i64 0, .string (⟨#[]⟩ : ByteArray)]) (t := 40) ?hr ?_; (case hd => rfl); (case hg => rfl); (case hr => first | (go_simp; done) | (go_simp; rfl)); intro gb582 hg w41 hbox hb; have n0_ := kb_ (ku_ HO_3.out) hb; have n1_ := kb_ (ku_ HO_4.out) hb; have n2_ := kb_ (ku_ HO_8.out) hb; have n3_ := bs_ (be_ HB) hb; have n4_ := Aside0.mk (hbox); have n5_ := gs_ hg (be_ HB); have n6_ := gs_ hg (be_ HB); clear HO_3; clear HO_4; clear HO_8; clear HB; have HO_3 := n0_; have HO_4 := n1_; have HO_8 := n2_; have HB := n3_; have BK582 := n4_; have GW582 := n5_; have GE582 := n6_; clear n0_ n1_ n2_ n3_ n4_ n5_ n6_; clear hb hbox hg; have hcz42_0 : w41.cell? ⟨gb582, 0, none⟩ = some (.int .i64 0) := (blk_cell BK582.out 0).trans rfl; have hcz42_1 : w41.cell? ⟨gb582, 1, none⟩ = some (.int .i64 0) := (blk_cell BK582.out 1).trans rfl; have hcz42_2 : w41.cell? ⟨gb582, 2, none⟩ = some (.string (⟨#[]⟩ : ByteArray)) := (blk_cell BK582.out 2).trans rfl; have hfz42_0 := blk_frozen BK582.out 0; have hfz42_1 := blk_frozen BK582.out 1; have hfz42_2 := blk_frozen BK582.out 2; obtain ⟨Ao43, co43, eo43⟩ := Kd.R_slice HO_8.out; subst eo43) | ((with_reducible refine gate_callee (f := 15) rfl ?_); refine goesL_ (some 79) rfl rfl Try.func15 (by kernel_rfl) rfl #[.slice Ao43 x8_3.length co43] rfl ga_ ?_; (with_reducible refine (num_Sum.calls k3 _ _ x8_3 t583 t584 _ ?side1 ?side2 A31.out).mono ?_); (case side1 => refine (Kd.R_reads' (e := 3) (base := w.heap.size) (ok := fun k_ => True) (n := x8_3.length) (c := co43) ?_).2.2; exact (ku_ (Kd.R_mono (Kd.R_far (p := ⟨gb582, 2, none⟩) (Kd.R_far (p := ⟨gb582, 1, none⟩) (Kd.R_far (p := ⟨gb582, 0, none⟩) (Kd.R_types HO_8.out BK582.out (by decide)) (fun _ hk => hk.2) (.int .i64 t578)) (fun _ hk => hk.2) (.int .i64 t579)) (fun _ hk => hk.2) (.string t580)) (fun _ h_ => h_.1)))); (case side2 => exact (Kd.R_reads' HO_8.out).2.1); rintro e w' ⟨rfl, ⟨nd, rfl⟩⟩; refine ⟨_, rfl, ?_⟩; obtain ⟨Ao44, co44, eo44⟩ := Kd.R_slice HO_4.out; subst eo44) | ((with_reducible refine gate_callee (f := 21) rfl ?_); refine goesL_ (some 84) rfl rfl Try.func21 (by kernel_rfl) rfl #[.slice Ao44 x4_3.length co44, .slice none 0 0] rfl ga_ ?_; (refine (expr_Eval.calls k3 _ _ x4_3 _ _ ([] : List (S62)) t585 t586 t587 t588 _ ?side1 ?side2 ?side3 ?side4 A32.out).mono ?_); (case side1 => refine (Kd.R_reads' (e := 52) (base := w.heap.size) (ok := fun k_ => some k_ ≠ (.slice Ao39 x3_2.length co39 : Value).ownBlock) (n := x4_3.length) (c := co44) ?_).2.2; exact (ku_ (Kd.R_mono (Kd.R_far (p := ⟨gb582, 2, none⟩) (Kd.R_far (p := ⟨gb582, 1, none⟩) (Kd.R_far (p := ⟨gb582, 0, none⟩) (Kd.R_types HO_4.out BK582.out (by decide)) (fun _ hk => hk.2) (.int .i64 t578)) (fun _ hk => hk.2) (.int .i64 t579)) (fun _ hk => hk.2) (.string t580)) (fun _ h_ => h_.1)))); (case side2 => exact (Kd.R_reads' HO_4.out).2.1); (case side3 => exact Kd.C_nil _ _); (case side4 => exact Nat.le_refl _); rintro e w45 ⟨rfl, hb⟩; refine ⟨_, rfl, ?_⟩; have n0_ := Aside0.mk (Kd.R_below (ku_ (Kd.R_mono (Kd.R_far (p := ⟨gb582, 2, none⟩) (Kd.R_far (p := ⟨gb582, 1, none⟩) (Kd.R_far (p := ⟨gb582, 0, none⟩) (Kd.R_types HO_3.out BK582.out (by decide)) (fun _ hk => hk.2) (.int .i64 t578)) (fun _ hk => hk.2) (.int .i64 t579)) (fun _ hk => hk.2) (.string t580)) (fun _ h_ => h_.1))) hb); have n1_ := Aside0.mk (Kd.R_below (ku_ (Kd.R_mono (Kd.R_far (p := ⟨gb582, 2, none⟩) (Kd.R_far (p := ⟨gb582, 1, none⟩) (Kd.R_far (p := ⟨gb582, 0, none⟩) (Kd.R_types HO_4.out BK582.out (by decide)) (fun _ hk => hk.2) (.int .i64 t578)) (fun _ hk => hk.2) (.int .i64 t579)) (fun _ hk => hk.2) (.string t580)) (fun _ h_ => h_.1))) hb); have n2_ := Aside0.mk (Kd.R_below (ku_ (Kd.R_mono (Kd.R_far (p := ⟨gb582, 2, none⟩) (Kd.R_far (p := ⟨gb582, 1, none⟩) (Kd.R_far (p := ⟨gb582, 0, none⟩) (Kd.R_types HO_8.out BK582.out (by decide)) (fun _ hk => hk.2) (.int .i64 t578)) (fun _ hk => hk.2) (.int .i64 t579)) (fun _ hk => hk.2) (.string t580)) (fun _ h_ => h_.1))) hb); have n3_ := Aside0.mk (blk_below (o := .cells #[.int .i64 t578, .int .i64 t579, .string t580] 40 (0, 0)) (bp_ BK582) hb); have n4_ := bs_ (be_ HB) hb; clear HO_3; clear HO_4; clear HO_8; clear BK582; clear HB; have HO_3 := n0_; have HO_4 := n1_; have HO_8 := n2_; have BK582 := n3_; have HB := n4_; clear n0_ n1_ n2_ n3_ n4_; (try clear hb); (try clear hb2); (try clear hk); (try clear hi)) | ((with_reducible refine gate_dst (N := 14) rfl ?_); (try (refine gate_guard (by rfl) ?_; dsimp only)); refine box_event ?hg (N := 14) ?hd (cs := #[.int .i64 0, .int .i64 0, .string (⟨#[]⟩ : ByteArray)]) (t := 40) ?hr ?_; (case hd => rfl); (case hg => rfl); (case hr => first | (go_simp; done) | (go_simp; rfl)); intro gb589 hg w46 hbox hb; have n0_ := kb_ (ku_ HO_3.out) hb; have n1_ := kb_ (ku_ HO_4.out) hb; have n2_ := kb_ (ku_ HO_8.out) hb; have n3_ := bb_ (bu_ BK582) hb; have n4_ := bs_ (be_ HB) hb; have n5_ := Aside0.mk (hbox); have n6_ := gs_ hg (be_ HB); have n7_ := gs_ hg (be_ HB); have n8_ := nl_ hg (bu_ BK582); have n9_ := ng_ hg (bu_ BK582); clear HO_3; clear HO_4; clear HO_8; clear BK582; clear HB; have HO_3 := n0_; have HO_4 := n1_; have HO_8 := n2_; have BK582 := n3_; have HB := n4_; have BK589 := n5_; have GW589 := n6_; have GE589 := n7_; have NB582_589 := n8_; have NB589_582 := n9_; clear n0_ n1_ n2_ n3_ n4_ n5_ n6_ n7_ n8_ n9_; clear hb hbox hg; have hnb47 := NB589_582.out; have hnc47 := NB582_589.out; have hcz48_0 : w46.cell? ⟨gb589, 0, none⟩ = some (.int .i64 0) := (blk_cell BK589.out 0).trans rfl; have hcz48_1 : w46.cell? ⟨gb589, 1, none⟩ = some (.int .i64 0) := (blk_cell BK589.out 1).trans rfl; have hcz48_2 : w46.cell? ⟨gb589, 2, none⟩ = some (.string (⟨#[]⟩ : ByteArray)) := (blk_cell BK589.out 2).trans rfl; have hfz48_0 := blk_frozen BK589.out 0; have hfz48_1 := blk_frozen BK589.out 1; have hfz48_2 := blk_frozen BK589.out 2; have hcz49_0 : w46.cell? ⟨gb582, 0, none⟩ = some (.int .i64 t578) := (blk_cell BK582.out 0).trans rfl; have hcz49_1 : w46.cell? ⟨gb582, 1, none⟩ = some (.int .i64 t579) := (blk_cell BK582.out 1).trans rfl; have hcz49_2 : w46.cell? ⟨gb582, 2, none⟩ = some (.string t580) := (blk_cell BK582.out 2).trans rfl; have hfz49_0 := blk_frozen BK582.out 0; have hfz49_1 := blk_frozen BK582.out 1; have hfz49_2 := blk_frozen BK582.out 2) | (go_at_call 32; (with_reducible refine (constablelaw07_wakes.calls k3  t590 _ A38.out HR_.out).mono ?_); rintro e w50 ⟨rfl, hb⟩; have n0_ := Aside0.mk (Kd.R_below (ku_ (Kd.R_mono (Kd.R_far (p := ⟨gb589, 2, none⟩) (Kd.R_far (p := ⟨gb589, 1, none⟩) (Kd.R_far (p := ⟨gb589, 0, none⟩) (Kd.R_types HO_3.out BK589.out (by decide)) (fun _ hk => hk.2) (.int .i64 t585)) (fun _ hk => hk.2) (.int .i64 t586)) (fun _ hk => hk.2) (.string t587)) (fun _ h_ => h_.1))) hb); have n1_ := Aside0.mk (Kd.R_below (ku_ (Kd.R_mono (Kd.R_far (p := ⟨gb589, 2, none⟩) (Kd.R_far (p := ⟨gb589, 1, none⟩) (Kd.R_far (p := ⟨gb589, 0, none⟩) (Kd.R_types HO_4.out BK589.out (by decide)) (fun _ hk => hk.2) (.int .i64 t585)) (fun _ hk => hk.2) (.int .i64 t586)) (fun _ hk => hk.2) (.string t587)) (fun _ h_ => h_.1))) hb); have n2_ := Aside0.mk (Kd.R_below (ku_ (Kd.R_mono (Kd.R_far (p := ⟨gb589, 2, none⟩) (Kd.R_far (p := ⟨gb589, 1, none⟩) (Kd.R_far (p := ⟨gb589, 0, none⟩) (Kd.R_types HO_8.out BK589.out (by decide)) (fun _ hk => hk.2) (.int .i64 t585)) (fun _ hk => hk.2) (.int .i64 t586)) (fun _ hk => hk.2) (.string t587)) (fun _ h_ => h_.1))) hb); have n3_ := bb_ (bu_ BK582) hb; have n4_ := Aside0.mk (blk_below (o := .cells #[.int .i64 t585, .int .i64 t586, .string t587] 40 (0, 0)) (bp_ BK589) hb); have n5_ := bs_ (be_ HB) hb; clear HO_3; clear HO_4; clear HO_8; clear BK582; clear BK589; clear HB; have HO_3 := n0_; have HO_4 := n1_; have HO_8 := n2_; have BK582 := n3_; have BK589 := n4_; have HB := n5_; clear n0_ n1_ n2_ n3_ n4_ n5_; (try clear hb); (try clear hb2); (try clear hk); (try clear hi)))
                              go_ret
                              exact ⟨by first | rfl | (simp [errW_none, errW_some] <;> rfl) | (simp [*, errW_none, errW_some] <;> rfl), by repeat (first | (with_reducible first | exact HB.out | apply below_alloc | apply pw_below_drewN | apply below_drew1 | refine below_set ?_ GE582.out | refine below_set ?_ GE589.out) | exact HB.out)⟩
                            · rw [if_neg c37] at H
                              obtain ⟨c37b0, c37b1⟩ := neB_ c37
                              by_cases c51 : t581 = 4
                              · rw [if_pos c51] at H
                                obtain ⟨c51b0, c51b1⟩ := eqB_ c51
                                clear c51
                                replace H := Option.bind_eq_some_iff.mp H
                                obtain ⟨t591, A520, H⟩ := H
                                replace H : (some t591) = some r := H
                                have A52 := Aside0.mk A520
                                clear A520
                                obtain rfl := Option.some.inj H
                                obtain ⟨Ao53, co53, eo53⟩ := Kd.R_slice HO_3.out
                                subst eo53
                                go_wp2_with (first | ((with_reducible refine gate_callee (f := 21) rfl ?_); refine goesL_ (some 74) rfl rfl Try.func21 (by kernel_rfl) rfl #[.slice Ao53 x3_2.length co53, .slice none 0 0] rfl ga_ ?_; (refine (expr_Eval.calls k3 _ _ x3_2 _ _ ([] : List (S62)) t578 t579 t580 t581 _ ?side1 ?side2 ?side3 ?side4 A30.out).mono ?_); (case side1 => repeat (first | exact (Kd.R_reads' HO_3.out).2.2 | (with_reducible refine Kd.C_alloc ?_ _) | (with_reducible refine Kd.C_drewN ?_ _) | (with_reducible refine Kd.C_drew ?_))); (case side2 => exact (Kd.R_reads' HO_3.out).2.1); (case side3 => exact Kd.C_nil _ _); (case side4 => exact Nat.le_refl _); rintro e w54 ⟨rfl, hb⟩; refine ⟨_, rfl, ?_⟩; have n0_ := kb_ (ku_ HO_3.out) hb; have n1_ := kb_ (ku_ HO_4.out) hb; have n2_ := kb_ (ku_ HO_8.out) hb; have n3_ := bs_ (be_ HB) hb; clear HO_3; clear HO_4; clear HO_8; clear HB; have HO_3 := n0_; have HO_4 := n1_; have HO_8 := n2_; have HB := n3_; clear n0_ n1_ n2_ n3_; (try clear hb); (try clear hb2); (try clear hk); (try clear hi)) | ((with_reducible refine gate_dst (N := 10) rfl ?_); (try (refine gate_guard (by rfl) ?_; dsimp only)); refine box_event ?hg (N := 10) ?hd (cs := #[.int .i64 0, .int .i64 0, .string (⟨#[]⟩ : ByteArray)]) (t := 40) ?hr ?_; (case hd => rfl); (case hg => rfl); (case hr => first | (go_simp; done) | (go_simp; rfl)); intro gb582 hg w55 hbox hb; have n0_ := kb_ (ku_ HO_3.out) hb; have n1_ := kb_ (ku_ HO_4.out) hb; have n2_ := kb_ (ku_ HO_8.out) hb; have n3_ := bs_ (be_ HB) hb; have n4_ := Aside0.mk (hbox); have n5_ := gs_ hg (be_ HB); have n6_ := gs_ hg (be_ HB); clear HO_3; clear HO_4; clear HO_8; clear HB; have HO_3 := n0_; have HO_4 := n1_; have HO_8 := n2_; have HB := n3_; have BK582 := n4_; have GW582 := n5_; have GE582 := n6_; clear n0_ n1_ n2_ n3_ n4_ n5_ n6_; clear hb hbox hg; have hcz56_0 : w55.cell? ⟨gb582, 0, none⟩ = some (.int .i64 0) := (blk_cell BK582.out 0).trans rfl; have hcz56_1 : w55.cell? ⟨gb582, 1, none⟩ = some (.int .i64 0) := (blk_cell BK582.out 1).trans rfl; have hcz56_2 : w55.cell? ⟨gb582, 2, none⟩ = some (.string (⟨#[]⟩ : ByteArray)) := (blk_cell BK582.out 2).trans rfl; have hfz56_0 := blk_frozen BK582.out 0; have hfz56_1 := blk_frozen BK582.out 1; have hfz56_2 := blk_frozen BK582.out 2; obtain ⟨Ao57, co57, eo57⟩ := Kd.R_slice HO_8.out; subst eo57) | ((with_reducible refine gate_callee (f := 15) rfl ?_); refine goesL_ (some 79) rfl rfl Try.func15 (by kernel_rfl) rfl #[.slice Ao57 x8_3.length co57] rfl ga_ ?_; (with_reducible refine (num_Sum.calls k3 _ _ x8_3 t583 t584 _ ?side1 ?side2 A31.out).mono ?_); (case side1 => refine (Kd.R_reads' (e := 3) (base := w.heap.size) (ok := fun k_ => True) (n := x8_3.length) (c := co57) ?_).2.2; exact (ku_ (Kd.R_mono (Kd.R_far (p := ⟨gb582, 2, none⟩) (Kd.R_far (p := ⟨gb582, 1, none⟩) (Kd.R_far (p := ⟨gb582, 0, none⟩) (Kd.R_types HO_8.out BK582.out (by decide)) (fun _ hk => hk.2) (.int .i64 t578)) (fun _ hk => hk.2) (.int .i64 t579)) (fun _ hk => hk.2) (.string t580)) (fun _ h_ => h_.1)))); (case side2 => exact (Kd.R_reads' HO_8.out).2.1); rintro e w' ⟨rfl, ⟨nd, rfl⟩⟩; refine ⟨_, rfl, ?_⟩; obtain ⟨Ao58, co58, eo58⟩ := Kd.R_slice HO_4.out; subst eo58) | ((with_reducible refine gate_callee (f := 21) rfl ?_); refine goesL_ (some 84) rfl rfl Try.func21 (by kernel_rfl) rfl #[.slice Ao58 x4_3.length co58, .slice none 0 0] rfl ga_ ?_; (refine (expr_Eval.calls k3 _ _ x4_3 _ _ ([] : List (S62)) t585 t586 t587 t588 _ ?side1 ?side2 ?side3 ?side4 A32.out).mono ?_); (case side1 => refine (Kd.R_reads' (e := 52) (base := w.heap.size) (ok := fun k_ => some k_ ≠ (.slice Ao53 x3_2.length co53 : Value).ownBlock) (n := x4_3.length) (c := co58) ?_).2.2; exact (ku_ (Kd.R_mono (Kd.R_far (p := ⟨gb582, 2, none⟩) (Kd.R_far (p := ⟨gb582, 1, none⟩) (Kd.R_far (p := ⟨gb582, 0, none⟩) (Kd.R_types HO_4.out BK582.out (by decide)) (fun _ hk => hk.2) (.int .i64 t578)) (fun _ hk => hk.2) (.int .i64 t579)) (fun _ hk => hk.2) (.string t580)) (fun _ h_ => h_.1)))); (case side2 => exact (Kd.R_reads' HO_4.out).2.1); (case side3 => exact Kd.C_nil _ _); (case side4 => exact Nat.le_refl _); rintro e w59 ⟨rfl, hb⟩; refine ⟨_, rfl, ?_⟩; have n0_ := Aside0.mk (Kd.R_below (ku_ (Kd.R_mono (Kd.R_far (p := ⟨gb582, 2, none⟩) (Kd.R_far (p := ⟨gb582, 1, none⟩) (Kd.R_far (p := ⟨gb582, 0, none⟩) (Kd.R_types HO_3.out BK582.out (by decide)) (fun _ hk => hk.2) (.int .i64 t578)) (fun _ hk => hk.2) (.int .i64 t579)) (fun _ hk => hk.2) (.string t580)) (fun _ h_ => h_.1))) hb); have n1_ := Aside0.mk (Kd.R_below (ku_ (Kd.R_mono (Kd.R_far (p := ⟨gb582, 2, none⟩) (Kd.R_far (p := ⟨gb582, 1, none⟩) (Kd.R_far (p := ⟨gb582, 0, none⟩) (Kd.R_types HO_4.out BK582.out (by decide)) (fun _ hk => hk.2) (.int .i64 t578)) (fun _ hk => hk.2) (.int .i64 t579)) (fun _ hk => hk.2) (.string t580)) (fun _ h_ => h_.1))) hb); have n2_ := Aside0.mk (Kd.R_below (ku_ (Kd.R_mono (Kd.R_far (p := ⟨gb582, 2, none⟩) (Kd.R_far (p := ⟨gb582, 1, none⟩) (Kd.R_far (p := ⟨gb582, 0, none⟩) (Kd.R_types HO_8.out BK582.out (by decide)) (fun _ hk => hk.2) (.int .i64 t578)) (fun _ hk => hk.2) (.int .i64 t579)) (fun _ hk => hk.2) (.string t580)) (fun _ h_ => h_.1))) hb); have n3_ := Aside0.mk (blk_below (o := .cells #[.int .i64 t578, .int .i64 t579, .string t580] 40 (0, 0)) (bp_ BK582) hb); have n4_ := bs_ (be_ HB) hb; clear HO_3; clear HO_4; clear HO_8; clear BK582; clear HB; have HO_3 := n0_; have HO_4 := n1_; have HO_8 := n2_; have BK582 := n3_; have HB := n4_; clear n0_ n1_ n2_ n3_ n4_; (try clear hb); (try clear hb2); (try clear hk); (try clear hi)) | ((with_reducible refine gate_dst (N := 14) rfl ?_); (try (refine gate_guard (by rfl) ?_; dsimp only)); refine box_event ?hg (N := 14) ?hd (cs := #[.int .i64 0, .int .i64 0, .string (⟨#[]⟩ : ByteArray)]) (t := 40) ?hr ?_; (case hd => rfl); (case hg => rfl); (case hr => first | (go_simp; done) | (go_simp; rfl)); intro gb589 hg w60 hbox hb; have n0_ := kb_ (ku_ HO_3.out) hb; have n1_ := kb_ (ku_ HO_4.out) hb; have n2_ := kb_ (ku_ HO_8.out) hb; have n3_ := bb_ (bu_ BK582) hb; have n4_ := bs_ (be_ HB) hb; have n5_ := Aside0.mk (hbox); have n6_ := gs_ hg (be_ HB); have n7_ := gs_ hg (be_ HB); have n8_ := nl_ hg (bu_ BK582); have n9_ := ng_ hg (bu_ BK582); clear HO_3; clear HO_4; clear HO_8; clear BK582; clear HB; have HO_3 := n0_; have HO_4 := n1_; have HO_8 := n2_; have BK582 := n3_; have HB := n4_; have BK589 := n5_; have GW589 := n6_; have GE589 := n7_; have NB582_589 := n8_; have NB589_582 := n9_; clear n0_ n1_ n2_ n3_ n4_ n5_ n6_ n7_ n8_ n9_; clear hb hbox hg; have hnb61 := NB589_582.out; have hnc61 := NB582_589.out; have hcz62_0 : w60.cell? ⟨gb589, 0, none⟩ = some (.int .i64 0) := (blk_cell BK589.out 0).trans rfl; have hcz62_1 : w60.cell? ⟨gb589, 1, none⟩ = some (.int .i64 0) := (blk_cell BK589.out 1).trans rfl; have hcz62_2 : w60.cell? ⟨gb589, 2, none⟩ = some (.string (⟨#[]⟩ : ByteArray)) := (blk_cell BK589.out 2).trans rfl; have hfz62_0 := blk_frozen BK589.out 0; have hfz62_1 := blk_frozen BK589.out 1; have hfz62_2 := blk_frozen BK589.out 2; have hcz63_0 : w60.cell? ⟨gb582, 0, none⟩ = some (.int .i64 t578) := (blk_cell BK582.out 0).trans rfl; have hcz63_1 : w60.cell? ⟨gb582, 1, none⟩ = some (.int .i64 t579) := (blk_cell BK582.out 1).trans rfl; have hcz63_2 : w60.cell? ⟨gb582, 2, none⟩ = some (.string t580) := (blk_cell BK582.out 2).trans rfl; have hfz63_0 := blk_frozen BK582.out 0; have hfz63_1 := blk_frozen BK582.out 1; have hfz63_2 := blk_frozen BK582.out 2) | (go_at_call 32; (with_reducible refine (constablelaw07_wakes.calls k3  t591 _ A52.out HR_.out).mono ?_); rintro e w64 ⟨rfl, hb⟩; have n0_ := Aside0.mk (Kd.R_below (ku_ (Kd.R_mono (Kd.R_far (p := ⟨gb589, 2, none⟩) (Kd.R_far (p := ⟨gb589, 1, none⟩) (Kd.R_far (p := ⟨gb589, 0, none⟩) (Kd.R_types HO_3.out BK589.out (by decide)) (fun _ hk => hk.2) (.int .i64 t585)) (fun _ hk => hk.2) (.int .i64 t586)) (fun _ hk => hk.2) (.string t587)) (fun _ h_ => h_.1))) hb); have n1_ := Aside0.mk (Kd.R_below (ku_ (Kd.R_mono (Kd.R_far (p := ⟨gb589, 2, none⟩) (Kd.R_far (p := ⟨gb589, 1, none⟩) (Kd.R_far (p := ⟨gb589, 0, none⟩) (Kd.R_types HO_4.out BK589.out (by decide)) (fun _ hk => hk.2) (.int .i64 t585)) (fun _ hk => hk.2) (.int .i64 t586)) (fun _ hk => hk.2) (.string t587)) (fun _ h_ => h_.1))) hb); have n2_ := Aside0.mk (Kd.R_below (ku_ (Kd.R_mono (Kd.R_far (p := ⟨gb589, 2, none⟩) (Kd.R_far (p := ⟨gb589, 1, none⟩) (Kd.R_far (p := ⟨gb589, 0, none⟩) (Kd.R_types HO_8.out BK589.out (by decide)) (fun _ hk => hk.2) (.int .i64 t585)) (fun _ hk => hk.2) (.int .i64 t586)) (fun _ hk => hk.2) (.string t587)) (fun _ h_ => h_.1))) hb); have n3_ := bb_ (bu_ BK582) hb; have n4_ := Aside0.mk (blk_below (o := .cells #[.int .i64 t585, .int .i64 t586, .string t587] 40 (0, 0)) (bp_ BK589) hb); have n5_ := bs_ (be_ HB) hb; clear HO_3; clear HO_4; clear HO_8; clear BK582; clear BK589; clear HB; have HO_3 := n0_; have HO_4 := n1_; have HO_8 := n2_; have BK582 := n3_; have BK589 := n4_; have HB := n5_; clear n0_ n1_ n2_ n3_ n4_ n5_; (try clear hb); (try clear hb2); (try clear hk); (try clear hi)))
                                go_ret
                                exact ⟨by first | rfl | (simp [errW_none, errW_some] <;> rfl) | (simp [*, errW_none, errW_some] <;> rfl), by repeat (first | (with_reducible first | exact HB.out | apply below_alloc | apply pw_below_drewN | apply below_drew1 | refine below_set ?_ GE582.out | refine below_set ?_ GE589.out) | exact HB.out)⟩
                              · rw [if_neg c51] at H
                                obtain ⟨c51b0, c51b1⟩ := neB_ c51
                                by_cases c65 : t588 = 0
                                · rw [if_pos c65] at H
                                  obtain ⟨c65b0, c65b1⟩ := eqB_ c65
                                  clear c65
                                  by_cases c66 : (t585 == t578 && (t586 == t579 && (t587.toList == t580.toList))) = true
                                  · rw [if_pos c66] at H
                                    have c66b0 : (t585 == t578 && (t586 == t579 && (t587.toList == t580.toList))) = true := c66
                                    (try (have c66b1 : decide (t585 = t578 && (t586 == t579 && (t587.toList == t580.toList))) = true := by simpa using c66))
                                    (try (have c66b2 : (t585 == t578 && (t586 == t579 && (t587.toList == t580.toList))) = true := by simpa using c66))
                                    clear c66
                                    replace H := Option.bind_eq_some_iff.mp H
                                    obtain ⟨t592, A670, H⟩ := H
                                    replace H : (some t592) = some r := H
                                    have A67 := Aside0.mk A670
                                    clear A670
                                    obtain rfl := Option.some.inj H
                                    obtain ⟨Ao68, co68, eo68⟩ := Kd.R_slice HO_3.out
                                    subst eo68
                                    go_wp2_with (first | ((with_reducible refine gate_callee (f := 21) rfl ?_); refine goesL_ (some 74) rfl rfl Try.func21 (by kernel_rfl) rfl #[.slice Ao68 x3_2.length co68, .slice none 0 0] rfl ga_ ?_; (refine (expr_Eval.calls k3 _ _ x3_2 _ _ ([] : List (S62)) t578 t579 t580 t581 _ ?side1 ?side2 ?side3 ?side4 A30.out).mono ?_); (case side1 => repeat (first | exact (Kd.R_reads' HO_3.out).2.2 | (with_reducible refine Kd.C_alloc ?_ _) | (with_reducible refine Kd.C_drewN ?_ _) | (with_reducible refine Kd.C_drew ?_))); (case side2 => exact (Kd.R_reads' HO_3.out).2.1); (case side3 => exact Kd.C_nil _ _); (case side4 => exact Nat.le_refl _); rintro e w69 ⟨rfl, hb⟩; refine ⟨_, rfl, ?_⟩; have n0_ := kb_ (ku_ HO_3.out) hb; have n1_ := kb_ (ku_ HO_4.out) hb; have n2_ := kb_ (ku_ HO_8.out) hb; have n3_ := bs_ (be_ HB) hb; clear HO_3; clear HO_4; clear HO_8; clear HB; have HO_3 := n0_; have HO_4 := n1_; have HO_8 := n2_; have HB := n3_; clear n0_ n1_ n2_ n3_; (try clear hb); (try clear hb2); (try clear hk); (try clear hi)) | ((with_reducible refine gate_dst (N := 10) rfl ?_); (try (refine gate_guard (by rfl) ?_; dsimp only)); refine box_event ?hg (N := 10) ?hd (cs := #[.int .i64 0, .int .i64 0, .string (⟨#[]⟩ : ByteArray)]) (t := 40) ?hr ?_; (case hd => rfl); (case hg => rfl); (case hr => first | (go_simp; done) | (go_simp; rfl)); intro gb582 hg w70 hbox hb; have n0_ := kb_ (ku_ HO_3.out) hb; have n1_ := kb_ (ku_ HO_4.out) hb; have n2_ := kb_ (ku_ HO_8.out) hb; have n3_ := bs_ (be_ HB) hb; have n4_ := Aside0.mk (hbox); have n5_ := gs_ hg (be_ HB); have n6_ := gs_ hg (be_ HB); clear HO_3; clear HO_4; clear HO_8; clear HB; have HO_3 := n0_; have HO_4 := n1_; have HO_8 := n2_; have HB := n3_; have BK582 := n4_; have GW582 := n5_; have GE582 := n6_; clear n0_ n1_ n2_ n3_ n4_ n5_ n6_; clear hb hbox hg; have hcz71_0 : w70.cell? ⟨gb582, 0, none⟩ = some (.int .i64 0) := (blk_cell BK582.out 0).trans rfl; have hcz71_1 : w70.cell? ⟨gb582, 1, none⟩ = some (.int .i64 0) := (blk_cell BK582.out 1).trans rfl; have hcz71_2 : w70.cell? ⟨gb582, 2, none⟩ = some (.string (⟨#[]⟩ : ByteArray)) := (blk_cell BK582.out 2).trans rfl; have hfz71_0 := blk_frozen BK582.out 0; have hfz71_1 := blk_frozen BK582.out 1; have hfz71_2 := blk_frozen BK582.out 2; obtain ⟨Ao72, co72, eo72⟩ := Kd.R_slice HO_8.out; subst eo72) | ((with_reducible refine gate_callee (f := 15) rfl ?_); refine goesL_ (some 79) rfl rfl Try.func15 (by kernel_rfl) rfl #[.slice Ao72 x8_3.length co72] rfl ga_ ?_; (with_reducible refine (num_Sum.calls k3 _ _ x8_3 t583 t584 _ ?side1 ?side2 A31.out).mono ?_); (case side1 => refine (Kd.R_reads' (e := 3) (base := w.heap.size) (ok := fun k_ => True) (n := x8_3.length) (c := co72) ?_).2.2; exact (ku_ (Kd.R_mono (Kd.R_far (p := ⟨gb582, 2, none⟩) (Kd.R_far (p := ⟨gb582, 1, none⟩) (Kd.R_far (p := ⟨gb582, 0, none⟩) (Kd.R_types HO_8.out BK582.out (by decide)) (fun _ hk => hk.2) (.int .i64 t578)) (fun _ hk => hk.2) (.int .i64 t579)) (fun _ hk => hk.2) (.string t580)) (fun _ h_ => h_.1)))); (case side2 => exact (Kd.R_reads' HO_8.out).2.1); rintro e w' ⟨rfl, ⟨nd, rfl⟩⟩; refine ⟨_, rfl, ?_⟩; obtain ⟨Ao73, co73, eo73⟩ := Kd.R_slice HO_4.out; subst eo73) | ((with_reducible refine gate_callee (f := 21) rfl ?_); refine goesL_ (some 84) rfl rfl Try.func21 (by kernel_rfl) rfl #[.slice Ao73 x4_3.length co73, .slice none 0 0] rfl ga_ ?_; (refine (expr_Eval.calls k3 _ _ x4_3 _ _ ([] : List (S62)) t585 t586 t587 t588 _ ?side1 ?side2 ?side3 ?side4 A32.out).mono ?_); (case side1 => refine (Kd.R_reads' (e := 52) (base := w.heap.size) (ok := fun k_ => some k_ ≠ (.slice Ao68 x3_2.length co68 : Value).ownBlock) (n := x4_3.length) (c := co73) ?_).2.2; exact (ku_ (Kd.R_mono (Kd.R_far (p := ⟨gb582, 2, none⟩) (Kd.R_far (p := ⟨gb582, 1, none⟩) (Kd.R_far (p := ⟨gb582, 0, none⟩) (Kd.R_types HO_4.out BK582.out (by decide)) (fun _ hk => hk.2) (.int .i64 t578)) (fun _ hk => hk.2) (.int .i64 t579)) (fun _ hk => hk.2) (.string t580)) (fun _ h_ => h_.1)))); (case side2 => exact (Kd.R_reads' HO_4.out).2.1); (case side3 => exact Kd.C_nil _ _); (case side4 => exact Nat.le_refl _); rintro e w74 ⟨rfl, hb⟩; refine ⟨_, rfl, ?_⟩; have n0_ := Aside0.mk (Kd.R_below (ku_ (Kd.R_mono (Kd.R_far (p := ⟨gb582, 2, none⟩) (Kd.R_far (p := ⟨gb582, 1, none⟩) (Kd.R_far (p := ⟨gb582, 0, none⟩) (Kd.R_types HO_3.out BK582.out (by decide)) (fun _ hk => hk.2) (.int .i64 t578)) (fun _ hk => hk.2) (.int .i64 t579)) (fun _ hk => hk.2) (.string t580)) (fun _ h_ => h_.1))) hb); have n1_ := Aside0.mk (Kd.R_below (ku_ (Kd.R_mono (Kd.R_far (p := ⟨gb582, 2, none⟩) (Kd.R_far (p := ⟨gb582, 1, none⟩) (Kd.R_far (p := ⟨gb582, 0, none⟩) (Kd.R_types HO_4.out BK582.out (by decide)) (fun _ hk => hk.2) (.int .i64 t578)) (fun _ hk => hk.2) (.int .i64 t579)) (fun _ hk => hk.2) (.string t580)) (fun _ h_ => h_.1))) hb); have n2_ := Aside0.mk (Kd.R_below (ku_ (Kd.R_mono (Kd.R_far (p := ⟨gb582, 2, none⟩) (Kd.R_far (p := ⟨gb582, 1, none⟩) (Kd.R_far (p := ⟨gb582, 0, none⟩) (Kd.R_types HO_8.out BK582.out (by decide)) (fun _ hk => hk.2) (.int .i64 t578)) (fun _ hk => hk.2) (.int .i64 t579)) (fun _ hk => hk.2) (.string t580)) (fun _ h_ => h_.1))) hb); have n3_ := Aside0.mk (blk_below (o := .cells #[.int .i64 t578, .int .i64 t579, .string t580] 40 (0, 0)) (bp_ BK582) hb); have n4_ := bs_ (be_ HB) hb; clear HO_3; clear HO_4; clear HO_8; clear BK582; clear HB; have HO_3 := n0_; have HO_4 := n1_; have HO_8 := n2_; have BK582 := n3_; have HB := n4_; clear n0_ n1_ n2_ n3_ n4_; (try clear hb); (try clear hb2); (try clear hk); (try clear hi)) | ((with_reducible refine gate_dst (N := 14) rfl ?_); (try (refine gate_guard (by rfl) ?_; dsimp only)); refine box_event ?hg (N := 14) ?hd (cs := #[.int .i64 0, .int .i64 0, .string (⟨#[]⟩ : ByteArray)]) (t := 40) ?hr ?_; (case hd => rfl); (case hg => rfl); (case hr => first | (go_simp; done) | (go_simp; rfl)); intro gb589 hg w75 hbox hb; have n0_ := kb_ (ku_ HO_3.out) hb; have n1_ := kb_ (ku_ HO_4.out) hb; have n2_ := kb_ (ku_ HO_8.out) hb; have n3_ := bb_ (bu_ BK582) hb; have n4_ := bs_ (be_ HB) hb; have n5_ := Aside0.mk (hbox); have n6_ := gs_ hg (be_ HB); have n7_ := gs_ hg (be_ HB); have n8_ := nl_ hg (bu_ BK582); have n9_ := ng_ hg (bu_ BK582); clear HO_3; clear HO_4; clear HO_8; clear BK582; clear HB; have HO_3 := n0_; have HO_4 := n1_; have HO_8 := n2_; have BK582 := n3_; have HB := n4_; have BK589 := n5_; have GW589 := n6_; have GE589 := n7_; have NB582_589 := n8_; have NB589_582 := n9_; clear n0_ n1_ n2_ n3_ n4_ n5_ n6_ n7_ n8_ n9_; clear hb hbox hg; have hnb76 := NB589_582.out; have hnc76 := NB582_589.out; have hcz77_0 : w75.cell? ⟨gb589, 0, none⟩ = some (.int .i64 0) := (blk_cell BK589.out 0).trans rfl; have hcz77_1 : w75.cell? ⟨gb589, 1, none⟩ = some (.int .i64 0) := (blk_cell BK589.out 1).trans rfl; have hcz77_2 : w75.cell? ⟨gb589, 2, none⟩ = some (.string (⟨#[]⟩ : ByteArray)) := (blk_cell BK589.out 2).trans rfl; have hfz77_0 := blk_frozen BK589.out 0; have hfz77_1 := blk_frozen BK589.out 1; have hfz77_2 := blk_frozen BK589.out 2; have hcz78_0 : w75.cell? ⟨gb582, 0, none⟩ = some (.int .i64 t578) := (blk_cell BK582.out 0).trans rfl; have hcz78_1 : w75.cell? ⟨gb582, 1, none⟩ = some (.int .i64 t579) := (blk_cell BK582.out 1).trans rfl; have hcz78_2 : w75.cell? ⟨gb582, 2, none⟩ = some (.string t580) := (blk_cell BK582.out 2).trans rfl; have hfz78_0 := blk_frozen BK582.out 0; have hfz78_1 := blk_frozen BK582.out 1; have hfz78_2 := blk_frozen BK582.out 2) | (go_at_call 32; (with_reducible refine (constablelaw07_wakes.calls k3  t592 _ A67.out HR_.out).mono ?_); rintro e w79 ⟨rfl, hb⟩; have n0_ := Aside0.mk (Kd.R_below (ku_ (Kd.R_mono (Kd.R_far (p := ⟨gb589, 2, none⟩) (Kd.R_far (p := ⟨gb589, 1, none⟩) (Kd.R_far (p := ⟨gb589, 0, none⟩) (Kd.R_types HO_3.out BK589.out (by decide)) (fun _ hk => hk.2) (.int .i64 t585)) (fun _ hk => hk.2) (.int .i64 t586)) (fun _ hk => hk.2) (.string t587)) (fun _ h_ => h_.1))) hb); have n1_ := Aside0.mk (Kd.R_below (ku_ (Kd.R_mono (Kd.R_far (p := ⟨gb589, 2, none⟩) (Kd.R_far (p := ⟨gb589, 1, none⟩) (Kd.R_far (p := ⟨gb589, 0, none⟩) (Kd.R_types HO_4.out BK589.out (by decide)) (fun _ hk => hk.2) (.int .i64 t585)) (fun _ hk => hk.2) (.int .i64 t586)) (fun _ hk => hk.2) (.string t587)) (fun _ h_ => h_.1))) hb); have n2_ := Aside0.mk (Kd.R_below (ku_ (Kd.R_mono (Kd.R_far (p := ⟨gb589, 2, none⟩) (Kd.R_far (p := ⟨gb589, 1, none⟩) (Kd.R_far (p := ⟨gb589, 0, none⟩) (Kd.R_types HO_8.out BK589.out (by decide)) (fun _ hk => hk.2) (.int .i64 t585)) (fun _ hk => hk.2) (.int .i64 t586)) (fun _ hk => hk.2) (.string t587)) (fun _ h_ => h_.1))) hb); have n3_ := bb_ (bu_ BK582) hb; have n4_ := Aside0.mk (blk_below (o := .cells #[.int .i64 t585, .int .i64 t586, .string t587] 40 (0, 0)) (bp_ BK589) hb); have n5_ := bs_ (be_ HB) hb; clear HO_3; clear HO_4; clear HO_8; clear BK582; clear BK589; clear HB; have HO_3 := n0_; have HO_4 := n1_; have HO_8 := n2_; have BK582 := n3_; have BK589 := n4_; have HB := n5_; clear n0_ n1_ n2_ n3_ n4_ n5_; (try clear hb); (try clear hb2); (try clear hk); (try clear hi)))
                                    go_ret
                                    exact ⟨by first | rfl | (simp [errW_none, errW_some] <;> rfl) | (simp [*, errW_none, errW_some] <;> rfl), by repeat (first | (with_reducible first | exact HB.out | apply below_alloc | apply pw_below_drewN | apply below_drew1 | refine below_set ?_ GE582.out | refine below_set ?_ GE589.out) | exact HB.out)⟩
                                  · rw [if_neg c66] at H
                                    have c66b0 : (t585 == t578 && (t586 == t579 && (t587.toList == t580.toList))) = false := by simpa using c66
                                    (try (have c66b1 : decide (t585 = t578 && (t586 == t579 && (t587.toList == t580.toList))) = false := by simpa using c66))
                                    (try (have c66b2 : (t585 == t578 && (t586 == t579 && (t587.toList == t580.toList))) = false := by simpa using c66))
                                    (try (have c66b3 : ¬ (t585 = t578 && (t586 == t579 && (t587.toList == t580.toList))) := by simpa using c66))
                                    clear c66
                                    exact absurd ((Option.some.inj H).trans HR_.out) (by decide)
                                · rw [if_neg c65] at H
                                  obtain ⟨c65b0, c65b1⟩ := neB_ c65
                                  exact absurd ((Option.some.inj H).trans HR_.out) (by decide)
                          · rw [if_neg c36] at H
                            obtain ⟨c36b0, c36b1⟩ := neB_ c36
                            exact absurd ((Option.some.inj H).trans HR_.out) (by decide)
                        · rw [if_neg c35] at H
                          obtain ⟨c35b0, c35b1⟩ := neB_ c35
                          exact absurd ((Option.some.inj H).trans HR_.out) (by decide)
                      · rw [if_neg c34] at H
                        obtain ⟨c34b0, c34b1⟩ := neB_ c34
                        by_cases c80 : t588 = 4
                        · rw [if_pos c80] at H
                          obtain ⟨c80b0, c80b1⟩ := eqB_ c80
                          clear c80
                          replace H := Option.bind_eq_some_iff.mp H
                          obtain ⟨t593, A810, H⟩ := H
                          replace H : (some t593) = some r := H
                          have A81 := Aside0.mk A810
                          clear A810
                          obtain rfl := Option.some.inj H
                          obtain ⟨Ao82, co82, eo82⟩ := Kd.R_slice HO_3.out
                          subst eo82
                          go_wp2_with (first | ((with_reducible refine gate_callee (f := 21) rfl ?_); refine goesL_ (some 74) rfl rfl Try.func21 (by kernel_rfl) rfl #[.slice Ao82 x3_2.length co82, .slice none 0 0] rfl ga_ ?_; (refine (expr_Eval.calls k3 _ _ x3_2 _ _ ([] : List (S62)) t578 t579 t580 t581 _ ?side1 ?side2 ?side3 ?side4 A30.out).mono ?_); (case side1 => repeat (first | exact (Kd.R_reads' HO_3.out).2.2 | (with_reducible refine Kd.C_alloc ?_ _) | (with_reducible refine Kd.C_drewN ?_ _) | (with_reducible refine Kd.C_drew ?_))); (case side2 => exact (Kd.R_reads' HO_3.out).2.1); (case side3 => exact Kd.C_nil _ _); (case side4 => exact Nat.le_refl _); rintro e w83 ⟨rfl, hb⟩; refine ⟨_, rfl, ?_⟩; have n0_ := kb_ (ku_ HO_3.out) hb; have n1_ := kb_ (ku_ HO_4.out) hb; have n2_ := kb_ (ku_ HO_8.out) hb; have n3_ := bs_ (be_ HB) hb; clear HO_3; clear HO_4; clear HO_8; clear HB; have HO_3 := n0_; have HO_4 := n1_; have HO_8 := n2_; have HB := n3_; clear n0_ n1_ n2_ n3_; (try clear hb); (try clear hb2); (try clear hk); (try clear hi)) | ((with_reducible refine gate_dst (N := 10) rfl ?_); (try (refine gate_guard (by rfl) ?_; dsimp only)); refine box_event ?hg (N := 10) ?hd (cs := #[.int .i64 0, .int .i64 0, .string (⟨#[]⟩ : ByteArray)]) (t := 40) ?hr ?_; (case hd => rfl); (case hg => rfl); (case hr => first | (go_simp; done) | (go_simp; rfl)); intro gb582 hg w84 hbox hb; have n0_ := kb_ (ku_ HO_3.out) hb; have n1_ := kb_ (ku_ HO_4.out) hb; have n2_ := kb_ (ku_ HO_8.out) hb; have n3_ := bs_ (be_ HB) hb; have n4_ := Aside0.mk (hbox); have n5_ := gs_ hg (be_ HB); have n6_ := gs_ hg (be_ HB); clear HO_3; clear HO_4; clear HO_8; clear HB; have HO_3 := n0_; have HO_4 := n1_; have HO_8 := n2_; have HB := n3_; have BK582 := n4_; have GW582 := n5_; have GE582 := n6_; clear n0_ n1_ n2_ n3_ n4_ n5_ n6_; clear hb hbox hg; have hcz85_0 : w84.cell? ⟨gb582, 0, none⟩ = some (.int .i64 0) := (blk_cell BK582.out 0).trans rfl; have hcz85_1 : w84.cell? ⟨gb582, 1, none⟩ = some (.int .i64 0) := (blk_cell BK582.out 1).trans rfl; have hcz85_2 : w84.cell? ⟨gb582, 2, none⟩ = some (.string (⟨#[]⟩ : ByteArray)) := (blk_cell BK582.out 2).trans rfl; have hfz85_0 := blk_frozen BK582.out 0; have hfz85_1 := blk_frozen BK582.out 1; have hfz85_2 := blk_frozen BK582.out 2; obtain ⟨Ao86, co86, eo86⟩ := Kd.R_slice HO_8.out; subst eo86) | ((with_reducible refine gate_callee (f := 15) rfl ?_); refine goesL_ (some 79) rfl rfl Try.func15 (by kernel_rfl) rfl #[.slice Ao86 x8_3.length co86] rfl ga_ ?_; (with_reducible refine (num_Sum.calls k3 _ _ x8_3 t583 t584 _ ?side1 ?side2 A31.out).mono ?_); (case side1 => refine (Kd.R_reads' (e := 3) (base := w.heap.size) (ok := fun k_ => True) (n := x8_3.length) (c := co86) ?_).2.2; exact (ku_ (Kd.R_mono (Kd.R_far (p := ⟨gb582, 2, none⟩) (Kd.R_far (p := ⟨gb582, 1, none⟩) (Kd.R_far (p := ⟨gb582, 0, none⟩) (Kd.R_types HO_8.out BK582.out (by decide)) (fun _ hk => hk.2) (.int .i64 t578)) (fun _ hk => hk.2) (.int .i64 t579)) (fun _ hk => hk.2) (.string t580)) (fun _ h_ => h_.1)))); (case side2 => exact (Kd.R_reads' HO_8.out).2.1); rintro e w' ⟨rfl, ⟨nd, rfl⟩⟩; refine ⟨_, rfl, ?_⟩; obtain ⟨Ao87, co87, eo87⟩ := Kd.R_slice HO_4.out; subst eo87) | ((with_reducible refine gate_callee (f := 21) rfl ?_); refine goesL_ (some 84) rfl rfl Try.func21 (by kernel_rfl) rfl #[.slice Ao87 x4_3.length co87, .slice none 0 0] rfl ga_ ?_; (refine (expr_Eval.calls k3 _ _ x4_3 _ _ ([] : List (S62)) t585 t586 t587 t588 _ ?side1 ?side2 ?side3 ?side4 A32.out).mono ?_); (case side1 => refine (Kd.R_reads' (e := 52) (base := w.heap.size) (ok := fun k_ => some k_ ≠ (.slice Ao82 x3_2.length co82 : Value).ownBlock) (n := x4_3.length) (c := co87) ?_).2.2; exact (ku_ (Kd.R_mono (Kd.R_far (p := ⟨gb582, 2, none⟩) (Kd.R_far (p := ⟨gb582, 1, none⟩) (Kd.R_far (p := ⟨gb582, 0, none⟩) (Kd.R_types HO_4.out BK582.out (by decide)) (fun _ hk => hk.2) (.int .i64 t578)) (fun _ hk => hk.2) (.int .i64 t579)) (fun _ hk => hk.2) (.string t580)) (fun _ h_ => h_.1)))); (case side2 => exact (Kd.R_reads' HO_4.out).2.1); (case side3 => exact Kd.C_nil _ _); (case side4 => exact Nat.le_refl _); rintro e w88 ⟨rfl, hb⟩; refine ⟨_, rfl, ?_⟩; have n0_ := Aside0.mk (Kd.R_below (ku_ (Kd.R_mono (Kd.R_far (p := ⟨gb582, 2, none⟩) (Kd.R_far (p := ⟨gb582, 1, none⟩) (Kd.R_far (p := ⟨gb582, 0, none⟩) (Kd.R_types HO_3.out BK582.out (by decide)) (fun _ hk => hk.2) (.int .i64 t578)) (fun _ hk => hk.2) (.int .i64 t579)) (fun _ hk => hk.2) (.string t580)) (fun _ h_ => h_.1))) hb); have n1_ := Aside0.mk (Kd.R_below (ku_ (Kd.R_mono (Kd.R_far (p := ⟨gb582, 2, none⟩) (Kd.R_far (p := ⟨gb582, 1, none⟩) (Kd.R_far (p := ⟨gb582, 0, none⟩) (Kd.R_types HO_4.out BK582.out (by decide)) (fun _ hk => hk.2) (.int .i64 t578)) (fun _ hk => hk.2) (.int .i64 t579)) (fun _ hk => hk.2) (.string t580)) (fun _ h_ => h_.1))) hb); have n2_ := Aside0.mk (Kd.R_below (ku_ (Kd.R_mono (Kd.R_far (p := ⟨gb582, 2, none⟩) (Kd.R_far (p := ⟨gb582, 1, none⟩) (Kd.R_far (p := ⟨gb582, 0, none⟩) (Kd.R_types HO_8.out BK582.out (by decide)) (fun _ hk => hk.2) (.int .i64 t578)) (fun _ hk => hk.2) (.int .i64 t579)) (fun _ hk => hk.2) (.string t580)) (fun _ h_ => h_.1))) hb); have n3_ := Aside0.mk (blk_below (o := .cells #[.int .i64 t578, .int .i64 t579, .string t580] 40 (0, 0)) (bp_ BK582) hb); have n4_ := bs_ (be_ HB) hb; clear HO_3; clear HO_4; clear HO_8; clear BK582; clear HB; have HO_3 := n0_; have HO_4 := n1_; have HO_8 := n2_; have BK582 := n3_; have HB := n4_; clear n0_ n1_ n2_ n3_ n4_; (try clear hb); (try clear hb2); (try clear hk); (try clear hi)) | ((with_reducible refine gate_dst (N := 14) rfl ?_); (try (refine gate_guard (by rfl) ?_; dsimp only)); refine box_event ?hg (N := 14) ?hd (cs := #[.int .i64 0, .int .i64 0, .string (⟨#[]⟩ : ByteArray)]) (t := 40) ?hr ?_; (case hd => rfl); (case hg => rfl); (case hr => first | (go_simp; done) | (go_simp; rfl)); intro gb589 hg w89 hbox hb; have n0_ := kb_ (ku_ HO_3.out) hb; have n1_ := kb_ (ku_ HO_4.out) hb; have n2_ := kb_ (ku_ HO_8.out) hb; have n3_ := bb_ (bu_ BK582) hb; have n4_ := bs_ (be_ HB) hb; have n5_ := Aside0.mk (hbox); have n6_ := gs_ hg (be_ HB); have n7_ := gs_ hg (be_ HB); have n8_ := nl_ hg (bu_ BK582); have n9_ := ng_ hg (bu_ BK582); clear HO_3; clear HO_4; clear HO_8; clear BK582; clear HB; have HO_3 := n0_; have HO_4 := n1_; have HO_8 := n2_; have BK582 := n3_; have HB := n4_; have BK589 := n5_; have GW589 := n6_; have GE589 := n7_; have NB582_589 := n8_; have NB589_582 := n9_; clear n0_ n1_ n2_ n3_ n4_ n5_ n6_ n7_ n8_ n9_; clear hb hbox hg; have hnb90 := NB589_582.out; have hnc90 := NB582_589.out; have hcz91_0 : w89.cell? ⟨gb589, 0, none⟩ = some (.int .i64 0) := (blk_cell BK589.out 0).trans rfl; have hcz91_1 : w89.cell? ⟨gb589, 1, none⟩ = some (.int .i64 0) := (blk_cell BK589.out 1).trans rfl; have hcz91_2 : w89.cell? ⟨gb589, 2, none⟩ = some (.string (⟨#[]⟩ : ByteArray)) := (blk_cell BK589.out 2).trans rfl; have hfz91_0 := blk_frozen BK589.out 0; have hfz91_1 := blk_frozen BK589.out 1; have hfz91_2 := blk_frozen BK589.out 2) | (go_at_call 32; (with_reducible refine (constablelaw07_wakes.calls k3  t593 _ A81.out HR_.out).mono ?_); rintro e w92 ⟨rfl, hb⟩; have n0_ := Aside0.mk (Kd.R_below (ku_ (Kd.R_mono (Kd.R_far (p := ⟨gb589, 2, none⟩) (Kd.R_far (p := ⟨gb589, 1, none⟩) (Kd.R_far (p := ⟨gb589, 0, none⟩) (Kd.R_types HO_3.out BK589.out (by decide)) (fun _ hk => hk.2) (.int .i64 t585)) (fun _ hk => hk.2) (.int .i64 t586)) (fun _ hk => hk.2) (.string t587)) (fun _ h_ => h_.1))) hb); have n1_ := Aside0.mk (Kd.R_below (ku_ (Kd.R_mono (Kd.R_far (p := ⟨gb589, 2, none⟩) (Kd.R_far (p := ⟨gb589, 1, none⟩) (Kd.R_far (p := ⟨gb589, 0, none⟩) (Kd.R_types HO_4.out BK589.out (by decide)) (fun _ hk => hk.2) (.int .i64 t585)) (fun _ hk => hk.2) (.int .i64 t586)) (fun _ hk => hk.2) (.string t587)) (fun _ h_ => h_.1))) hb); have n2_ := Aside0.mk (Kd.R_below (ku_ (Kd.R_mono (Kd.R_far (p := ⟨gb589, 2, none⟩) (Kd.R_far (p := ⟨gb589, 1, none⟩) (Kd.R_far (p := ⟨gb589, 0, none⟩) (Kd.R_types HO_8.out BK589.out (by decide)) (fun _ hk => hk.2) (.int .i64 t585)) (fun _ hk => hk.2) (.int .i64 t586)) (fun _ hk => hk.2) (.string t587)) (fun _ h_ => h_.1))) hb); have n3_ := bb_ (bu_ BK582) hb; have n4_ := Aside0.mk (blk_below (o := .cells #[.int .i64 t585, .int .i64 t586, .string t587] 40 (0, 0)) (bp_ BK589) hb); have n5_ := bs_ (be_ HB) hb; clear HO_3; clear HO_4; clear HO_8; clear BK582; clear BK589; clear HB; have HO_3 := n0_; have HO_4 := n1_; have HO_8 := n2_; have BK582 := n3_; have BK589 := n4_; have HB := n5_; clear n0_ n1_ n2_ n3_ n4_ n5_; (try clear hb); (try clear hb2); (try clear hk); (try clear hi)))
                          go_ret
                          exact ⟨by first | rfl | (simp [errW_none, errW_some] <;> rfl) | (simp [*, errW_none, errW_some] <;> rfl), by repeat (first | (with_reducible first | exact HB.out | apply below_alloc | apply pw_below_drewN | apply below_drew1 | refine below_set ?_ GE582.out | refine below_set ?_ GE589.out) | exact HB.out)⟩
                        · rw [if_neg c80] at H
                          obtain ⟨c80b0, c80b1⟩ := neB_ c80
                          by_cases c93 : t581 = 4
                          · rw [if_pos c93] at H
                            obtain ⟨c93b0, c93b1⟩ := eqB_ c93
                            clear c93
                            replace H := Option.bind_eq_some_iff.mp H
                            obtain ⟨t594, A940, H⟩ := H
                            replace H : (some t594) = some r := H
                            have A94 := Aside0.mk A940
                            clear A940
                            obtain rfl := Option.some.inj H
                            obtain ⟨Ao95, co95, eo95⟩ := Kd.R_slice HO_3.out
                            subst eo95
                            go_wp2_with (first | ((with_reducible refine gate_callee (f := 21) rfl ?_); refine goesL_ (some 74) rfl rfl Try.func21 (by kernel_rfl) rfl #[.slice Ao95 x3_2.length co95, .slice none 0 0] rfl ga_ ?_; (refine (expr_Eval.calls k3 _ _ x3_2 _ _ ([] : List (S62)) t578 t579 t580 t581 _ ?side1 ?side2 ?side3 ?side4 A30.out).mono ?_); (case side1 => repeat (first | exact (Kd.R_reads' HO_3.out).2.2 | (with_reducible refine Kd.C_alloc ?_ _) | (with_reducible refine Kd.C_drewN ?_ _) | (with_reducible refine Kd.C_drew ?_))); (case side2 => exact (Kd.R_reads' HO_3.out).2.1); (case side3 => exact Kd.C_nil _ _); (case side4 => exact Nat.le_refl _); rintro e w96 ⟨rfl, hb⟩; refine ⟨_, rfl, ?_⟩; have n0_ := kb_ (ku_ HO_3.out) hb; have n1_ := kb_ (ku_ HO_4.out) hb; have n2_ := kb_ (ku_ HO_8.out) hb; have n3_ := bs_ (be_ HB) hb; clear HO_3; clear HO_4; clear HO_8; clear HB; have HO_3 := n0_; have HO_4 := n1_; have HO_8 := n2_; have HB := n3_; clear n0_ n1_ n2_ n3_; (try clear hb); (try clear hb2); (try clear hk); (try clear hi)) | ((with_reducible refine gate_dst (N := 10) rfl ?_); (try (refine gate_guard (by rfl) ?_; dsimp only)); refine box_event ?hg (N := 10) ?hd (cs := #[.int .i64 0, .int .i64 0, .string (⟨#[]⟩ : ByteArray)]) (t := 40) ?hr ?_; (case hd => rfl); (case hg => rfl); (case hr => first | (go_simp; done) | (go_simp; rfl)); intro gb582 hg w97 hbox hb; have n0_ := kb_ (ku_ HO_3.out) hb; have n1_ := kb_ (ku_ HO_4.out) hb; have n2_ := kb_ (ku_ HO_8.out) hb; have n3_ := bs_ (be_ HB) hb; have n4_ := Aside0.mk (hbox); have n5_ := gs_ hg (be_ HB); have n6_ := gs_ hg (be_ HB); clear HO_3; clear HO_4; clear HO_8; clear HB; have HO_3 := n0_; have HO_4 := n1_; have HO_8 := n2_; have HB := n3_; have BK582 := n4_; have GW582 := n5_; have GE582 := n6_; clear n0_ n1_ n2_ n3_ n4_ n5_ n6_; clear hb hbox hg; have hcz98_0 : w97.cell? ⟨gb582, 0, none⟩ = some (.int .i64 0) := (blk_cell BK582.out 0).trans rfl; have hcz98_1 : w97.cell? ⟨gb582, 1, none⟩ = some (.int .i64 0) := (blk_cell BK582.out 1).trans rfl; have hcz98_2 : w97.cell? ⟨gb582, 2, none⟩ = some (.string (⟨#[]⟩ : ByteArray)) := (blk_cell BK582.out 2).trans rfl; have hfz98_0 := blk_frozen BK582.out 0; have hfz98_1 := blk_frozen BK582.out 1; have hfz98_2 := blk_frozen BK582.out 2; obtain ⟨Ao99, co99, eo99⟩ := Kd.R_slice HO_8.out; subst eo99) | ((with_reducible refine gate_callee (f := 15) rfl ?_); refine goesL_ (some 79) rfl rfl Try.func15 (by kernel_rfl) rfl #[.slice Ao99 x8_3.length co99] rfl ga_ ?_; (with_reducible refine (num_Sum.calls k3 _ _ x8_3 t583 t584 _ ?side1 ?side2 A31.out).mono ?_); (case side1 => refine (Kd.R_reads' (e := 3) (base := w.heap.size) (ok := fun k_ => True) (n := x8_3.length) (c := co99) ?_).2.2; exact (ku_ (Kd.R_mono (Kd.R_far (p := ⟨gb582, 2, none⟩) (Kd.R_far (p := ⟨gb582, 1, none⟩) (Kd.R_far (p := ⟨gb582, 0, none⟩) (Kd.R_types HO_8.out BK582.out (by decide)) (fun _ hk => hk.2) (.int .i64 t578)) (fun _ hk => hk.2) (.int .i64 t579)) (fun _ hk => hk.2) (.string t580)) (fun _ h_ => h_.1)))); (case side2 => exact (Kd.R_reads' HO_8.out).2.1); rintro e w' ⟨rfl, ⟨nd, rfl⟩⟩; refine ⟨_, rfl, ?_⟩; obtain ⟨Ao100, co100, eo100⟩ := Kd.R_slice HO_4.out; subst eo100) | ((with_reducible refine gate_callee (f := 21) rfl ?_); refine goesL_ (some 84) rfl rfl Try.func21 (by kernel_rfl) rfl #[.slice Ao100 x4_3.length co100, .slice none 0 0] rfl ga_ ?_; (refine (expr_Eval.calls k3 _ _ x4_3 _ _ ([] : List (S62)) t585 t586 t587 t588 _ ?side1 ?side2 ?side3 ?side4 A32.out).mono ?_); (case side1 => refine (Kd.R_reads' (e := 52) (base := w.heap.size) (ok := fun k_ => some k_ ≠ (.slice Ao95 x3_2.length co95 : Value).ownBlock) (n := x4_3.length) (c := co100) ?_).2.2; exact (ku_ (Kd.R_mono (Kd.R_far (p := ⟨gb582, 2, none⟩) (Kd.R_far (p := ⟨gb582, 1, none⟩) (Kd.R_far (p := ⟨gb582, 0, none⟩) (Kd.R_types HO_4.out BK582.out (by decide)) (fun _ hk => hk.2) (.int .i64 t578)) (fun _ hk => hk.2) (.int .i64 t579)) (fun _ hk => hk.2) (.string t580)) (fun _ h_ => h_.1)))); (case side2 => exact (Kd.R_reads' HO_4.out).2.1); (case side3 => exact Kd.C_nil _ _); (case side4 => exact Nat.le_refl _); rintro e w101 ⟨rfl, hb⟩; refine ⟨_, rfl, ?_⟩; have n0_ := Aside0.mk (Kd.R_below (ku_ (Kd.R_mono (Kd.R_far (p := ⟨gb582, 2, none⟩) (Kd.R_far (p := ⟨gb582, 1, none⟩) (Kd.R_far (p := ⟨gb582, 0, none⟩) (Kd.R_types HO_3.out BK582.out (by decide)) (fun _ hk => hk.2) (.int .i64 t578)) (fun _ hk => hk.2) (.int .i64 t579)) (fun _ hk => hk.2) (.string t580)) (fun _ h_ => h_.1))) hb); have n1_ := Aside0.mk (Kd.R_below (ku_ (Kd.R_mono (Kd.R_far (p := ⟨gb582, 2, none⟩) (Kd.R_far (p := ⟨gb582, 1, none⟩) (Kd.R_far (p := ⟨gb582, 0, none⟩) (Kd.R_types HO_4.out BK582.out (by decide)) (fun _ hk => hk.2) (.int .i64 t578)) (fun _ hk => hk.2) (.int .i64 t579)) (fun _ hk => hk.2) (.string t580)) (fun _ h_ => h_.1))) hb); have n2_ := Aside0.mk (Kd.R_below (ku_ (Kd.R_mono (Kd.R_far (p := ⟨gb582, 2, none⟩) (Kd.R_far (p := ⟨gb582, 1, none⟩) (Kd.R_far (p := ⟨gb582, 0, none⟩) (Kd.R_types HO_8.out BK582.out (by decide)) (fun _ hk => hk.2) (.int .i64 t578)) (fun _ hk => hk.2) (.int .i64 t579)) (fun _ hk => hk.2) (.string t580)) (fun _ h_ => h_.1))) hb); have n3_ := Aside0.mk (blk_below (o := .cells #[.int .i64 t578, .int .i64 t579, .string t580] 40 (0, 0)) (bp_ BK582) hb); have n4_ := bs_ (be_ HB) hb; clear HO_3; clear HO_4; clear HO_8; clear BK582; clear HB; have HO_3 := n0_; have HO_4 := n1_; have HO_8 := n2_; have BK582 := n3_; have HB := n4_; clear n0_ n1_ n2_ n3_ n4_; (try clear hb); (try clear hb2); (try clear hk); (try clear hi)) | ((with_reducible refine gate_dst (N := 14) rfl ?_); (try (refine gate_guard (by rfl) ?_; dsimp only)); refine box_event ?hg (N := 14) ?hd (cs := #[.int .i64 0, .int .i64 0, .string (⟨#[]⟩ : ByteArray)]) (t := 40) ?hr ?_; (case hd => rfl); (case hg => rfl); (case hr => first | (go_simp; done) | (go_simp; rfl)); intro gb589 hg w102 hbox hb; have n0_ := kb_ (ku_ HO_3.out) hb; have n1_ := kb_ (ku_ HO_4.out) hb; have n2_ := kb_ (ku_ HO_8.out) hb; have n3_ := bb_ (bu_ BK582) hb; have n4_ := bs_ (be_ HB) hb; have n5_ := Aside0.mk (hbox); have n6_ := gs_ hg (be_ HB); have n7_ := gs_ hg (be_ HB); have n8_ := nl_ hg (bu_ BK582); have n9_ := ng_ hg (bu_ BK582); clear HO_3; clear HO_4; clear HO_8; clear BK582; clear HB; have HO_3 := n0_; have HO_4 := n1_; have HO_8 := n2_; have BK582 := n3_; have HB := n4_; have BK589 := n5_; have GW589 := n6_; have GE589 := n7_; have NB582_589 := n8_; have NB589_582 := n9_; clear n0_ n1_ n2_ n3_ n4_ n5_ n6_ n7_ n8_ n9_; clear hb hbox hg; have hnb103 := NB589_582.out; have hnc103 := NB582_589.out; have hcz104_0 : w102.cell? ⟨gb589, 0, none⟩ = some (.int .i64 0) := (blk_cell BK589.out 0).trans rfl; have hcz104_1 : w102.cell? ⟨gb589, 1, none⟩ = some (.int .i64 0) := (blk_cell BK589.out 1).trans rfl; have hcz104_2 : w102.cell? ⟨gb589, 2, none⟩ = some (.string (⟨#[]⟩ : ByteArray)) := (blk_cell BK589.out 2).trans rfl; have hfz104_0 := blk_frozen BK589.out 0; have hfz104_1 := blk_frozen BK589.out 1; have hfz104_2 := blk_frozen BK589.out 2) | (go_at_call 32; (with_reducible refine (constablelaw07_wakes.calls k3  t594 _ A94.out HR_.out).mono ?_); rintro e w105 ⟨rfl, hb⟩; have n0_ := Aside0.mk (Kd.R_below (ku_ (Kd.R_mono (Kd.R_far (p := ⟨gb589, 2, none⟩) (Kd.R_far (p := ⟨gb589, 1, none⟩) (Kd.R_far (p := ⟨gb589, 0, none⟩) (Kd.R_types HO_3.out BK589.out (by decide)) (fun _ hk => hk.2) (.int .i64 t585)) (fun _ hk => hk.2) (.int .i64 t586)) (fun _ hk => hk.2) (.string t587)) (fun _ h_ => h_.1))) hb); have n1_ := Aside0.mk (Kd.R_below (ku_ (Kd.R_mono (Kd.R_far (p := ⟨gb589, 2, none⟩) (Kd.R_far (p := ⟨gb589, 1, none⟩) (Kd.R_far (p := ⟨gb589, 0, none⟩) (Kd.R_types HO_4.out BK589.out (by decide)) (fun _ hk => hk.2) (.int .i64 t585)) (fun _ hk => hk.2) (.int .i64 t586)) (fun _ hk => hk.2) (.string t587)) (fun _ h_ => h_.1))) hb); have n2_ := Aside0.mk (Kd.R_below (ku_ (Kd.R_mono (Kd.R_far (p := ⟨gb589, 2, none⟩) (Kd.R_far (p := ⟨gb589, 1, none⟩) (Kd.R_far (p := ⟨gb589, 0, none⟩) (Kd.R_types HO_8.out BK589.out (by decide)) (fun _ hk => hk.2) (.int .i64 t585)) (fun _ hk => hk.2) (.int .i64 t586)) (fun _ hk => hk.2) (.string t587)) (fun _ h_ => h_.1))) hb); have n3_ := bb_ (bu_ BK582) hb; have n4_ := Aside0.mk (blk_below (o := .cells #[.int .i64 t585, .int .i64 t586, .string t587] 40 (0, 0)) (bp_ BK589) hb); have n5_ := bs_ (be_ HB) hb; clear HO_3; clear HO_4; clear HO_8; clear BK582; clear BK589; clear HB; have HO_3 := n0_; have HO_4 := n1_; have HO_8 := n2_; have BK582 := n3_; have BK589 := n4_; have HB := n5_; clear n0_ n1_ n2_ n3_ n4_ n5_; (try clear hb); (try clear hb2); (try clear hk); (try clear hi)))
                            go_ret
                            exact ⟨by first | rfl | (simp [errW_none, errW_some] <;> rfl) | (simp [*, errW_none, errW_some] <;> rfl), by repeat (first | (with_reducible first | exact HB.out | apply below_alloc | apply pw_below_drewN | apply below_drew1 | refine below_set ?_ GE582.out | refine below_set ?_ GE589.out) | exact HB.out)⟩
                          · rw [if_neg c93] at H
                            obtain ⟨c93b0, c93b1⟩ := neB_ c93
                            by_cases c106 : t588 = 0
                            · rw [if_pos c106] at H
                              obtain ⟨c106b0, c106b1⟩ := eqB_ c106
                              clear c106
                              by_cases c107 : (t585 == t578 && (t586 == t579 && (t587.toList == t580.toList))) = true
                              · rw [if_pos c107] at H
                                have c107b0 : (t585 == t578 && (t586 == t579 && (t587.toList == t580.toList))) = true := c107
                                (try (have c107b1 : decide (t585 = t578 && (t586 == t579 && (t587.toList == t580.toList))) = true := by simpa using c107))
                                (try (have c107b2 : (t585 == t578 && (t586 == t579 && (t587.toList == t580.toList))) = true := by simpa using c107))
                                clear c107
                                replace H := Option.bind_eq_some_iff.mp H
                                obtain ⟨t595, A1080, H⟩ := H
                                replace H : (some t595) = some r := H
                                have A108 := Aside0.mk A1080
                                clear A1080
                                obtain rfl := Option.some.inj H
                                obtain ⟨Ao109, co109, eo109⟩ := Kd.R_slice HO_3.out
                                subst eo109
                                go_wp2_with (first | ((with_reducible refine gate_callee (f := 21) rfl ?_); refine goesL_ (some 74) rfl rfl Try.func21 (by kernel_rfl) rfl #[.slice Ao109 x3_2.length co109, .slice none 0 0] rfl ga_ ?_; (refine (expr_Eval.calls k3 _ _ x3_2 _ _ ([] : List (S62)) t578 t579 t580 t581 _ ?side1 ?side2 ?side3 ?side4 A30.out).mono ?_); (case side1 => repeat (first | exact (Kd.R_reads' HO_3.out).2.2 | (with_reducible refine Kd.C_alloc ?_ _) | (with_reducible refine Kd.C_drewN ?_ _) | (with_reducible refine Kd.C_drew ?_))); (case side2 => exact (Kd.R_reads' HO_3.out).2.1); (case side3 => exact Kd.C_nil _ _); (case side4 => exact Nat.le_refl _); rintro e w110 ⟨rfl, hb⟩; refine ⟨_, rfl, ?_⟩; have n0_ := kb_ (ku_ HO_3.out) hb; have n1_ := kb_ (ku_ HO_4.out) hb; have n2_ := kb_ (ku_ HO_8.out) hb; have n3_ := bs_ (be_ HB) hb; clear HO_3; clear HO_4; clear HO_8; clear HB; have HO_3 := n0_; have HO_4 := n1_; have HO_8 := n2_; have HB := n3_; clear n0_ n1_ n2_ n3_; (try clear hb); (try clear hb2); (try clear hk); (try clear hi)) | ((with_reducible refine gate_dst (N := 10) rfl ?_); (try (refine gate_guard (by rfl) ?_; dsimp only)); refine box_event ?hg (N := 10) ?hd (cs := #[.int .i64 0, .int .i64 0, .string (⟨#[]⟩ : ByteArray)]) (t := 40) ?hr ?_; (case hd => rfl); (case hg => rfl); (case hr => first | (go_simp; done) | (go_simp; rfl)); intro gb582 hg w111 hbox hb; have n0_ := kb_ (ku_ HO_3.out) hb; have n1_ := kb_ (ku_ HO_4.out) hb; have n2_ := kb_ (ku_ HO_8.out) hb; have n3_ := bs_ (be_ HB) hb; have n4_ := Aside0.mk (hbox); have n5_ := gs_ hg (be_ HB); have n6_ := gs_ hg (be_ HB); clear HO_3; clear HO_4; clear HO_8; clear HB; have HO_3 := n0_; have HO_4 := n1_; have HO_8 := n2_; have HB := n3_; have BK582 := n4_; have GW582 := n5_; have GE582 := n6_; clear n0_ n1_ n2_ n3_ n4_ n5_ n6_; clear hb hbox hg; have hcz112_0 : w111.cell? ⟨gb582, 0, none⟩ = some (.int .i64 0) := (blk_cell BK582.out 0).trans rfl; have hcz112_1 : w111.cell? ⟨gb582, 1, none⟩ = some (.int .i64 0) := (blk_cell BK582.out 1).trans rfl; have hcz112_2 : w111.cell? ⟨gb582, 2, none⟩ = some (.string (⟨#[]⟩ : ByteArray)) := (blk_cell BK582.out 2).trans rfl; have hfz112_0 := blk_frozen BK582.out 0; have hfz112_1 := blk_frozen BK582.out 1; have hfz112_2 := blk_frozen BK582.out 2; obtain ⟨Ao113, co113, eo113⟩ := Kd.R_slice HO_8.out; subst eo113) | ((with_reducible refine gate_callee (f := 15) rfl ?_); refine goesL_ (some 79) rfl rfl Try.func15 (by kernel_rfl) rfl #[.slice Ao113 x8_3.length co113] rfl ga_ ?_; (with_reducible refine (num_Sum.calls k3 _ _ x8_3 t583 t584 _ ?side1 ?side2 A31.out).mono ?_); (case side1 => refine (Kd.R_reads' (e := 3) (base := w.heap.size) (ok := fun k_ => True) (n := x8_3.length) (c := co113) ?_).2.2; exact (ku_ (Kd.R_mono (Kd.R_far (p := ⟨gb582, 2, none⟩) (Kd.R_far (p := ⟨gb582, 1, none⟩) (Kd.R_far (p := ⟨gb582, 0, none⟩) (Kd.R_types HO_8.out BK582.out (by decide)) (fun _ hk => hk.2) (.int .i64 t578)) (fun _ hk => hk.2) (.int .i64 t579)) (fun _ hk => hk.2) (.string t580)) (fun _ h_ => h_.1)))); (case side2 => exact (Kd.R_reads' HO_8.out).2.1); rintro e w' ⟨rfl, ⟨nd, rfl⟩⟩; refine ⟨_, rfl, ?_⟩; obtain ⟨Ao114, co114, eo114⟩ := Kd.R_slice HO_4.out; subst eo114) | ((with_reducible refine gate_callee (f := 21) rfl ?_); refine goesL_ (some 84) rfl rfl Try.func21 (by kernel_rfl) rfl #[.slice Ao114 x4_3.length co114, .slice none 0 0] rfl ga_ ?_; (refine (expr_Eval.calls k3 _ _ x4_3 _ _ ([] : List (S62)) t585 t586 t587 t588 _ ?side1 ?side2 ?side3 ?side4 A32.out).mono ?_); (case side1 => refine (Kd.R_reads' (e := 52) (base := w.heap.size) (ok := fun k_ => some k_ ≠ (.slice Ao109 x3_2.length co109 : Value).ownBlock) (n := x4_3.length) (c := co114) ?_).2.2; exact (ku_ (Kd.R_mono (Kd.R_far (p := ⟨gb582, 2, none⟩) (Kd.R_far (p := ⟨gb582, 1, none⟩) (Kd.R_far (p := ⟨gb582, 0, none⟩) (Kd.R_types HO_4.out BK582.out (by decide)) (fun _ hk => hk.2) (.int .i64 t578)) (fun _ hk => hk.2) (.int .i64 t579)) (fun _ hk => hk.2) (.string t580)) (fun _ h_ => h_.1)))); (case side2 => exact (Kd.R_reads' HO_4.out).2.1); (case side3 => exact Kd.C_nil _ _); (case side4 => exact Nat.le_refl _); rintro e w115 ⟨rfl, hb⟩; refine ⟨_, rfl, ?_⟩; have n0_ := Aside0.mk (Kd.R_below (ku_ (Kd.R_mono (Kd.R_far (p := ⟨gb582, 2, none⟩) (Kd.R_far (p := ⟨gb582, 1, none⟩) (Kd.R_far (p := ⟨gb582, 0, none⟩) (Kd.R_types HO_3.out BK582.out (by decide)) (fun _ hk => hk.2) (.int .i64 t578)) (fun _ hk => hk.2) (.int .i64 t579)) (fun _ hk => hk.2) (.string t580)) (fun _ h_ => h_.1))) hb); have n1_ := Aside0.mk (Kd.R_below (ku_ (Kd.R_mono (Kd.R_far (p := ⟨gb582, 2, none⟩) (Kd.R_far (p := ⟨gb582, 1, none⟩) (Kd.R_far (p := ⟨gb582, 0, none⟩) (Kd.R_types HO_4.out BK582.out (by decide)) (fun _ hk => hk.2) (.int .i64 t578)) (fun _ hk => hk.2) (.int .i64 t579)) (fun _ hk => hk.2) (.string t580)) (fun _ h_ => h_.1))) hb); have n2_ := Aside0.mk (Kd.R_below (ku_ (Kd.R_mono (Kd.R_far (p := ⟨gb582, 2, none⟩) (Kd.R_far (p := ⟨gb582, 1, none⟩) (Kd.R_far (p := ⟨gb582, 0, none⟩) (Kd.R_types HO_8.out BK582.out (by decide)) (fun _ hk => hk.2) (.int .i64 t578)) (fun _ hk => hk.2) (.int .i64 t579)) (fun _ hk => hk.2) (.string t580)) (fun _ h_ => h_.1))) hb); have n3_ := Aside0.mk (blk_below (o := .cells #[.int .i64 t578, .int .i64 t579, .string t580] 40 (0, 0)) (bp_ BK582) hb); have n4_ := bs_ (be_ HB) hb; clear HO_3; clear HO_4; clear HO_8; clear BK582; clear HB; have HO_3 := n0_; have HO_4 := n1_; have HO_8 := n2_; have BK582 := n3_; have HB := n4_; clear n0_ n1_ n2_ n3_ n4_; (try clear hb); (try clear hb2); (try clear hk); (try clear hi)) | ((with_reducible refine gate_dst (N := 14) rfl ?_); (try (refine gate_guard (by rfl) ?_; dsimp only)); refine box_event ?hg (N := 14) ?hd (cs := #[.int .i64 0, .int .i64 0, .string (⟨#[]⟩ : ByteArray)]) (t := 40) ?hr ?_; (case hd => rfl); (case hg => rfl); (case hr => first | (go_simp; done) | (go_simp; rfl)); intro gb589 hg w116 hbox hb; have n0_ := kb_ (ku_ HO_3.out) hb; have n1_ := kb_ (ku_ HO_4.out) hb; have n2_ := kb_ (ku_ HO_8.out) hb; have n3_ := bb_ (bu_ BK582) hb; have n4_ := bs_ (be_ HB) hb; have n5_ := Aside0.mk (hbox); have n6_ := gs_ hg (be_ HB); have n7_ := gs_ hg (be_ HB); have n8_ := nl_ hg (bu_ BK582); have n9_ := ng_ hg (bu_ BK582); clear HO_3; clear HO_4; clear HO_8; clear BK582; clear HB; have HO_3 := n0_; have HO_4 := n1_; have HO_8 := n2_; have BK582 := n3_; have HB := n4_; have BK589 := n5_; have GW589 := n6_; have GE589 := n7_; have NB582_589 := n8_; have NB589_582 := n9_; clear n0_ n1_ n2_ n3_ n4_ n5_ n6_ n7_ n8_ n9_; clear hb hbox hg; have hnb117 := NB589_582.out; have hnc117 := NB582_589.out; have hcz118_0 : w116.cell? ⟨gb589, 0, none⟩ = some (.int .i64 0) := (blk_cell BK589.out 0).trans rfl; have hcz118_1 : w116.cell? ⟨gb589, 1, none⟩ = some (.int .i64 0) := (blk_cell BK589.out 1).trans rfl; have hcz118_2 : w116.cell? ⟨gb589, 2, none⟩ = some (.string (⟨#[]⟩ : ByteArray)) := (blk_cell BK589.out 2).trans rfl; have hfz118_0 := blk_frozen BK589.out 0; have hfz118_1 := blk_frozen BK589.out 1; have hfz118_2 := blk_frozen BK589.out 2; have hcz119_0 : w116.cell? ⟨gb582, 0, none⟩ = some (.int .i64 t578) := (blk_cell BK582.out 0).trans rfl; have hcz119_1 : w116.cell? ⟨gb582, 1, none⟩ = some (.int .i64 t579) := (blk_cell BK582.out 1).trans rfl; have hcz119_2 : w116.cell? ⟨gb582, 2, none⟩ = some (.string t580) := (blk_cell BK582.out 2).trans rfl; have hfz119_0 := blk_frozen BK582.out 0; have hfz119_1 := blk_frozen BK582.out 1; have hfz119_2 := blk_frozen BK582.out 2) | (go_at_call 32; (with_reducible refine (constablelaw07_wakes.calls k3  t595 _ A108.out HR_.out).mono ?_); rintro e w120 ⟨rfl, hb⟩; have n0_ := Aside0.mk (Kd.R_below (ku_ (Kd.R_mono (Kd.R_far (p := ⟨gb589, 2, none⟩) (Kd.R_far (p := ⟨gb589, 1, none⟩) (Kd.R_far (p := ⟨gb589, 0, none⟩) (Kd.R_types HO_3.out BK589.out (by decide)) (fun _ hk => hk.2) (.int .i64 t585)) (fun _ hk => hk.2) (.int .i64 t586)) (fun _ hk => hk.2) (.string t587)) (fun _ h_ => h_.1))) hb); have n1_ := Aside0.mk (Kd.R_below (ku_ (Kd.R_mono (Kd.R_far (p := ⟨gb589, 2, none⟩) (Kd.R_far (p := ⟨gb589, 1, none⟩) (Kd.R_far (p := ⟨gb589, 0, none⟩) (Kd.R_types HO_4.out BK589.out (by decide)) (fun _ hk => hk.2) (.int .i64 t585)) (fun _ hk => hk.2) (.int .i64 t586)) (fun _ hk => hk.2) (.string t587)) (fun _ h_ => h_.1))) hb); have n2_ := Aside0.mk (Kd.R_below (ku_ (Kd.R_mono (Kd.R_far (p := ⟨gb589, 2, none⟩) (Kd.R_far (p := ⟨gb589, 1, none⟩) (Kd.R_far (p := ⟨gb589, 0, none⟩) (Kd.R_types HO_8.out BK589.out (by decide)) (fun _ hk => hk.2) (.int .i64 t585)) (fun _ hk => hk.2) (.int .i64 t586)) (fun _ hk => hk.2) (.string t587)) (fun _ h_ => h_.1))) hb); have n3_ := bb_ (bu_ BK582) hb; have n4_ := Aside0.mk (blk_below (o := .cells #[.int .i64 t585, .int .i64 t586, .string t587] 40 (0, 0)) (bp_ BK589) hb); have n5_ := bs_ (be_ HB) hb; clear HO_3; clear HO_4; clear HO_8; clear BK582; clear BK589; clear HB; have HO_3 := n0_; have HO_4 := n1_; have HO_8 := n2_; have BK582 := n3_; have BK589 := n4_; have HB := n5_; clear n0_ n1_ n2_ n3_ n4_ n5_; (try clear hb); (try clear hb2); (try clear hk); (try clear hi)))
                                go_ret
                                exact ⟨by first | rfl | (simp [errW_none, errW_some] <;> rfl) | (simp [*, errW_none, errW_some] <;> rfl), by repeat (first | (with_reducible first | exact HB.out | apply below_alloc | apply pw_below_drewN | apply below_drew1 | refine below_set ?_ GE582.out | refine below_set ?_ GE589.out) | exact HB.out)⟩
                              · rw [if_neg c107] at H
                                have c107b0 : (t585 == t578 && (t586 == t579 && (t587.toList == t580.toList))) = false := by simpa using c107
                                (try (have c107b1 : decide (t585 = t578 && (t586 == t579 && (t587.toList == t580.toList))) = false := by simpa using c107))
                                (try (have c107b2 : (t585 == t578 && (t586 == t579 && (t587.toList == t580.toList))) = false := by simpa using c107))
                                (try (have c107b3 : ¬ (t585 = t578 && (t586 == t579 && (t587.toList == t580.toList))) := by simpa using c107))
                                clear c107
                                exact absurd ((Option.some.inj H).trans HR_.out) (by decide)
                            · rw [if_neg c106] at H
                              obtain ⟨c106b0, c106b1⟩ := neB_ c106
                              exact absurd ((Option.some.inj H).trans HR_.out) (by decide)
                    · rw [if_neg c33] at H
                      obtain ⟨c33b0, c33b1⟩ := neB_ c33
                      exact absurd ((Option.some.inj H).trans HR_.out) (by decide)
def constablelaw07_ExprSums.Pure : Prop := ∀ (l0 : List Int), l0.length ≤ maxLen → l0.length * 8 ≤ 140737488351232 → (∀ x ∈ l0, (Lit.int .i64 x).wf = true) → ∃ k, constablelaw07_ExprSums.f k l0 = some true
theorem constablelaw07_ExprSums.walk (P : constablelaw07_ExprSums.Pure) (a0 : Option Addr) (len0 cap0 : Nat) (z0 : List Int) (w : World) (w0 : (a0 = none ∧ len0 = 0 ∧ cap0 = 0 ∧ z0 = []) ∨ ∃ x, a0 = some x ∧ len0 ≤ cap0 ∧ cap0 ≤ maxLen ∧ z0.length = cap0 ∧ (∀ i, i < z0.length → w.cell? (x.add i) = some (.int .i64 (z0.getD i 0))) ∧ ∀ n ∈ z0, (Lit.int .i64 n).wf = true) (y0 : len0 * 8 ≤ 140737488351232) :
    Calls Try.prog 12 #[.slice a0 len0 cap0] w fun e w' => e = .returned (.bool true) ∧ Below w.heap.size w w' := by
  obtain ⟨l0, rfl, hr0, hm0, hw0, hc0⟩ := ReadsInt.ofRowC w0
  obtain ⟨k, h⟩ := P l0 hm0 y0 hw0
  refine (constablelaw07_ExprSums.calls k _ _ l0 true w (Kd.C_of_reads (d := (0 : Int)) (h1 := fun _ => rfl) hr0) hc0 h rfl).mono ?_
  rintro e w' ⟨rfl, hd⟩
  exact ⟨rfl, hd⟩
end Go.Proofs.Ytconpnagoijacaa.P
end
section
namespace Go.Proofs.Ytconpnagoijacaa.P
open Go.RowKit Go.Proofs.YtconpnagoijacaaW.PrintWords Go.Proofs.YtconpnagoijacaaW.PrintLast Go.Proofs.YtconpnagoijacaaW.PrintMore
attribute [local go_sem] max2_int min2_int max_two min_two max_three min_three max_four min_four
set_option linter.unusedVariables false
set_option linter.unusedSimpArgs false
def constableref01_order.f (a0 : Int) (a1 : Int) : Option (Int) := if a0 < a1 then (some (-1)) else (if a0 > a1 then (some 1) else (some 0))
set_option maxHeartbeats 8000000 in
set_option maxRecDepth 100000 in
theorem constableref01_order.calls (a0 : Int) (a1 : Int) (r : Int) (w : World) (h : constableref01_order.f a0 a1 = some r) :
    Calls Try.prog 59 #[.int .i64 a0, .int .i64 a1] w fun e w' => e = .returned (.int .i64 r) ∧ Drawn0 w w' := by
  have H : (if a0 < a1 then (some (-1)) else (if a0 > a1 then (some 1) else (some 0))) = some r := h
  clear h
  by_cases c3 : a0 < a1
  · rw [if_pos c3] at H
    have c3b0 : decide (a0 < a1) = true := decide_eq_true c3
    clear c3
    obtain rfl := Option.some.inj H
    go_enter Try.func59, Try.ntmps59
    go_wp2
    go_ret
    exact rz_
  · rw [if_neg c3] at H
    have c3b0 : decide (a0 < a1) = false := decide_eq_false c3
    clear c3
    by_cases c4 : a0 > a1
    · rw [if_pos c4] at H
      have c4b0 : decide (a1 < a0) = true := decide_eq_true c4
      clear c4
      obtain rfl := Option.some.inj H
      go_enter Try.func59, Try.ntmps59
      go_wp2
      go_ret
      exact rz_
    · rw [if_neg c4] at H
      have c4b0 : decide (a1 < a0) = false := decide_eq_false c4
      clear c4
      obtain rfl := Option.some.inj H
      go_enter Try.func59, Try.ntmps59
      go_wp2
      go_ret
      exact rz_
end Go.Proofs.Ytconpnagoijacaa.P
end
section
namespace Go.Proofs.Ytconpnagoijacaa.P
open Go.RowKit Go.Proofs.YtconpnagoijacaaW.PrintWords Go.Proofs.YtconpnagoijacaaW.PrintLast Go.Proofs.YtconpnagoijacaaW.PrintMore
attribute [local go_sem] max2_int min2_int max_two min_two max_three min_three max_four min_four
set_option linter.unusedVariables false
set_option linter.unusedSimpArgs false
mutual
def constableref01_Strings.l0 : Nat → ByteArray → ByteArray → Int → Option (Int)
  | 0, _, _, _ => none
  | k + 1, x0, x1, x5 => if x5 < (x0.size : Int) then (constableref01_Strings.j1 k x0 x1 x5 (decide (x5 < (x1.size : Int)))) else (constableref01_Strings.j1 k x0 x1 x5 false)
def constableref01_Strings.j1 : Nat → ByteArray → ByteArray → Int → Bool → Option (Int)
  | 0, _, _, _, _ => none
  | k + 1, x0, x1, x5, x15 => if x15 = true then (if 0 ≤ x5 then (if x5 < (x0.size : Int) then (if x5 < (x1.size : Int) then (if (bt x0 x5) = (bt x1 x5) then (constableref01_Strings.l0 k x0 x1 (wrap64 (x5 + 1))) else ((constableref01_order.f (wrap64 (bt x0 x5)) (wrap64 (bt x1 x5))).bind fun t317 => (some t317))) else (none)) else (none)) else (none)) else ((constableref01_order.f (x0.size : Int) (x1.size : Int)).bind fun t318 => (some t318))
end
def constableref01_Strings.f (k : Nat) (a0 : ByteArray) (a1 : ByteArray) : Option (Int) := constableref01_Strings.l0 k a0 a1 0
theorem constableref01_Strings.mono_l : ∀ k, (∀ y0 y1 y2, LeO (constableref01_Strings.l0 k y0 y1 y2) (constableref01_Strings.l0 (k + 1) y0 y1 y2)) ∧ (∀ y0 y1 y2 y3, LeO (constableref01_Strings.j1 k y0 y1 y2 y3) (constableref01_Strings.j1 (k + 1) y0 y1 y2 y3))
  | 0 => ⟨fun _ _ _ r h => by simp [constableref01_Strings.l0] at h, fun _ _ _ _ r h => by simp [constableref01_Strings.j1] at h⟩
  | k + 1 => by
    obtain ⟨ih0, ih1⟩ := constableref01_Strings.mono_l k
    refine ⟨?_, ?_⟩
    · intro y0 y1 y2
      unfold constableref01_Strings.l0
      repeat' first
      | (with_reducible exact ih0 _ _ _)
      | (with_reducible exact ih1 _ _ _ _)
      | (with_reducible exact LeO.refl _)
      | (with_reducible exact LeO.none _)
      | (with_reducible refine LeO.ite ?_ ?_)
      | (with_reducible refine LeO.bind ?_ (fun _ => ?_))
      | exact ih0 _ _ _
      | exact ih1 _ _ _ _
      | exact LeO.none _
      | refine LeO.ite ?_ ?_
      | refine LeO.bind ?_ (fun _ => ?_)
    · intro y0 y1 y2 y3
      unfold constableref01_Strings.j1
      repeat' first
      | (with_reducible exact ih0 _ _ _)
      | (with_reducible exact ih1 _ _ _ _)
      | (with_reducible exact LeO.refl _)
      | (with_reducible exact LeO.none _)
      | (with_reducible refine LeO.ite ?_ ?_)
      | (with_reducible refine LeO.bind ?_ (fun _ => ?_))
      | exact ih0 _ _ _
      | exact ih1 _ _ _ _
      | exact LeO.none _
      | refine LeO.ite ?_ ?_
      | refine LeO.bind ?_ (fun _ => ?_)
theorem constableref01_Strings.mono : ∀ a0 a1 k, LeO (constableref01_Strings.f k a0 a1) (constableref01_Strings.f (k + 1) a0 a1) := by
  intro a0 a1 k
  obtain ⟨ih0, ih1⟩ := constableref01_Strings.mono_l k
  unfold constableref01_Strings.f
  repeat' first
      | (with_reducible exact ih0 _ _ _)
      | (with_reducible exact ih1 _ _ _ _)
      | (with_reducible exact LeO.refl _)
      | (with_reducible exact LeO.none _)
      | (with_reducible refine LeO.ite ?_ ?_)
      | (with_reducible refine LeO.bind ?_ (fun _ => ?_))
      | exact ih0 _ _ _
      | exact ih1 _ _ _ _
      | exact LeO.none _
      | refine LeO.ite ?_ ?_
      | refine LeO.bind ?_ (fun _ => ?_)
set_option maxHeartbeats 8000000 in
set_option maxRecDepth 100000 in
theorem constableref01_Strings.calls (k : Nat) (a0 : ByteArray) (a1 : ByteArray) (r : Int) (w : World) (h : constableref01_Strings.f k a0 a1 = some r) :
    Calls Try.prog 48 #[.string a0, .string a1] w fun e w' => e = .returned (.int .i64 r) ∧ Drawn0 w w' := by
  have H : (constableref01_Strings.l0 k a0 a1 0) = some r := h
  clear h
  have H' := Aside0.mk H
  clear H
  go_enter Try.func48, Try.ntmps48
  go_wp2
  repeat (go_quiet (fail); try go_wp2)
  go_loopg [5] k (fun kq v5 w' => ∃ (x5_1 : Int), v5 = .int .i64 x5_1 ∧ Aside0 (constableref01_Strings.l0 kq a0 a1 x5_1 = some r) ∧ Aside0 (kq ≤ k) ∧ Drawn0 w w')
  case atStart => exact ⟨(0), ra_, H', ⟨Nat.le_refl _⟩, dz_⟩
  case round =>
    clear H'
    try clear p2
    obtain ⟨x5_1, rfl, HA, HK1, ⟨m1, rfl⟩⟩ := hrel
    cases gk with
    | zero => exact absurd HA.out (by simp [constableref01_Strings.l0])
    | succ k1 =>
      have H := HA.out
      clear HA
      simp only [constableref01_Strings.l0] at H
      have HC3 := Aside0.mk H
      clear H
      go_upto_region 2 with (fail)
      repeat (go_quiet (fail); go_upto_region 2 with (fail))
      go_cut [15] (fun v15 wc => ∃ (kq : Nat) (x15_2 : Bool), v15 = .bool x15_2 ∧ Aside0 (constableref01_Strings.j1 kq a0 a1 x5_1 x15_2 = some r) ∧ Aside0 (kq ≤ k1) ∧ Drawn0 w wc)
      case first =>
        have H := HC3.out
        clear HC3
        by_cases c4 : x5_1 < (a0.size : Int)
        · rw [if_pos c4] at H
          have c4b0 : decide (x5_1 < (a0.size : Int)) = true := decide_eq_true c4
          clear c4
          (first | rw [c4b0] | (simp only [i64_w, i32_w]; rw [c4b0]) | skip)
          have H' := Aside0.mk H
          clear H
          go_wp2
          repeat (go_quiet (fail); try go_wp2)
          go_meet
          case rel => exact ⟨_, (decide (x5_1 < (a1.size : Int))), ra_, H', ⟨by have := HK1.out; first | omega | exact Nat.le_refl _⟩, dz_⟩
        · rw [if_neg c4] at H
          have c4b0 : decide (x5_1 < (a0.size : Int)) = false := decide_eq_false c4
          clear c4
          (first | rw [c4b0] | (simp only [i64_w, i32_w]; rw [c4b0]) | skip)
          have H' := Aside0.mk H
          clear H
          go_wp2
          repeat (go_quiet (fail); try go_wp2)
          go_meet
          case rel => exact ⟨_, (false), ra_, H', ⟨by have := HK1.out; first | omega | exact Nat.le_refl _⟩, dz_⟩
      case rest =>
        clear HC3
        try clear p2
        try clear c4
        try clear c4b0
        try clear p2
        obtain ⟨kq, x15_2, rfl, HA, HJ2, ⟨mc2, rfl⟩⟩ := hcut
        cases kq with
        | zero => exact absurd HA.out (by simp [constableref01_Strings.j1])
        | succ kj2 =>
          have H := HA.out
          clear HA
          simp only [constableref01_Strings.j1] at H
          by_cases c5 : x15_2 = true
          · subst c5
            have H1 : (if 0 ≤ x5_1 then (if x5_1 < (a0.size : Int) then (if x5_1 < (a1.size : Int) then (if (bt a0 x5_1) = (bt a1 x5_1) then (constableref01_Strings.l0 kj2 a0 a1 (wrap64 (x5_1 + 1))) else ((constableref01_order.f (wrap64 (bt a0 x5_1)) (wrap64 (bt a1 x5_1))).bind fun t317 => (some t317))) else (none)) else (none)) else (none)) = some r := by rw [if_pos rfl] at H; exact H
            clear H
            have H := H1
            clear H1
            by_cases c6 : 0 ≤ x5_1
            · rw [if_pos c6] at H
              have c6b0 : decide (0 ≤ x5_1) = true := decide_eq_true c6
              clear c6
              by_cases c7 : x5_1 < (a0.size : Int)
              · rw [if_pos c7] at H
                have c7b0 : decide (x5_1 < (a0.size : Int)) = true := decide_eq_true c7
                clear c7
                by_cases c9 : x5_1 < (a1.size : Int)
                · rw [if_pos c9] at H
                  have c9b0 : decide (x5_1 < (a1.size : Int)) = true := decide_eq_true c9
                  clear c9
                  by_cases c11 : (bt a0 x5_1) = (bt a1 x5_1)
                  · rw [if_pos c11] at H
                    obtain ⟨c11b0, c11b1⟩ := eqB_ c11
                    clear c11
                    have H' := Aside0.mk H
                    clear H
                    have p8 : 0 ≤ (x5_1 : Int) := dt_
                    have q8 : x5_1 < (a0.size : Int) := dt_
                    have hx8 := bt_at a0 x5_1
                    replace p8 := eq_true p8
                    replace q8 := eq_true q8
                    have p10 : 0 ≤ (x5_1 : Int) := dt_
                    have q10 : x5_1 < (a1.size : Int) := dt_
                    have hx10 := bt_at a1 x5_1
                    replace p10 := eq_true p10
                    replace q10 := eq_true q10
                    go_wp2
                    repeat (go_quiet (fail); try go_wp2)
                    go_roundg kj2
                    case measure => have := HK1.out; have := HJ2.out; omega
                    case rel => exact ⟨(wrap64 (x5_1 + 1)), ra_, H', ⟨by have := HK1.out; have := HJ2.out; omega⟩, dz_⟩
                  · rw [if_neg c11] at H
                    obtain ⟨c11b0, c11b1⟩ := neB_ c11
                    replace H := Option.bind_eq_some_iff.mp H
                    obtain ⟨t317, A140, H⟩ := H
                    replace H : (some t317) = some r := H
                    have A14 := Aside0.mk A140
                    clear A140
                    obtain rfl := Option.some.inj H
                    have p8 : 0 ≤ (x5_1 : Int) := dt_
                    have q8 : x5_1 < (a0.size : Int) := dt_
                    have hx8 := bt_at a0 x5_1
                    replace p8 := eq_true p8
                    replace q8 := eq_true q8
                    have p10 : 0 ≤ (x5_1 : Int) := dt_
                    have q10 : x5_1 < (a1.size : Int) := dt_
                    have hx10 := bt_at a1 x5_1
                    replace p10 := eq_true p10
                    replace q10 := eq_true q10
                    have p12 : 0 ≤ (x5_1 : Int) := dt_
                    have q12 : x5_1 < (a0.size : Int) := dt_
                    have hx12 := bt_at a0 x5_1
                    replace p12 := eq_true p12
                    replace q12 := eq_true q12
                    have p13 : 0 ≤ (x5_1 : Int) := dt_
                    have q13 : x5_1 < (a1.size : Int) := dt_
                    have hx13 := bt_at a1 x5_1
                    replace p13 := eq_true p13
                    replace q13 := eq_true q13
                    go_wp2_with (first | (go_at_call 59; (with_reducible refine (constableref01_order.calls (wrap64 (bt a0 x5_1)) (wrap64 (bt a1 x5_1)) t317 _ A14.out).mono ?_); rintro e w' ⟨rfl, ⟨nd, rfl⟩⟩; (try first | exact ⟨rfl, _, World.drewN_drewN _ _ _⟩ | exact ⟨rfl, _, Eq.trans (World.drewN_drewN _ _ _) (congrArg (World.drewN _) (Nat.add_assoc _ _ _))⟩)))
                    repeat (go_quiet (first | (go_at_call 59; (with_reducible refine (constableref01_order.calls (wrap64 (bt a0 x5_1)) (wrap64 (bt a1 x5_1)) t317 _ A14.out).mono ?_); rintro e w' ⟨rfl, ⟨nd, rfl⟩⟩; (try first | exact ⟨rfl, _, World.drewN_drewN _ _ _⟩ | exact ⟨rfl, _, Eq.trans (World.drewN_drewN _ _ _) (congrArg (World.drewN _) (Nat.add_assoc _ _ _))⟩))); try go_wp2_with (first | (go_at_call 59; (with_reducible refine (constableref01_order.calls (wrap64 (bt a0 x5_1)) (wrap64 (bt a1 x5_1)) t317 _ A14.out).mono ?_); rintro e w' ⟨rfl, ⟨nd, rfl⟩⟩; (try first | exact ⟨rfl, _, World.drewN_drewN _ _ _⟩ | exact ⟨rfl, _, Eq.trans (World.drewN_drewN _ _ _) (congrArg (World.drewN _) (Nat.add_assoc _ _ _))⟩))))
                    go_ret
                    exact rz_
                · rw [if_neg c9] at H
                  exact absurd H (by simp)
              · rw [if_neg c7] at H
                exact absurd H (by simp)
            · rw [if_neg c6] at H
              exact absurd H (by simp)
          · replace c5 := Bool.eq_false_iff.mpr c5
            subst c5
            have H1 : ((constableref01_order.f (a0.size : Int) (a1.size : Int)).bind fun t318 => (some t318)) = some r := by rw [if_neg (show ¬ (false = true) by decide)] at H; exact H
            clear H
            have H := H1
            clear H1
            replace H := Option.bind_eq_some_iff.mp H
            obtain ⟨t318, A150, H⟩ := H
            replace H : (some t318) = some r := H
            have A15 := Aside0.mk A150
            clear A150
            obtain rfl := Option.some.inj H
            go_wp2_with (first | (go_at_call 59; (with_reducible refine (constableref01_order.calls (a0.size : Int) (a1.size : Int) t318 _ A15.out).mono ?_); rintro e w' ⟨rfl, ⟨nd, rfl⟩⟩; (try first | exact ⟨rfl, _, World.drewN_drewN _ _ _⟩ | exact ⟨rfl, _, Eq.trans (World.drewN_drewN _ _ _) (congrArg (World.drewN _) (Nat.add_assoc _ _ _))⟩)))
            repeat (go_quiet (first | (go_at_call 59; (with_reducible refine (constableref01_order.calls (a0.size : Int) (a1.size : Int) t318 _ A15.out).mono ?_); rintro e w' ⟨rfl, ⟨nd, rfl⟩⟩; (try first | exact ⟨rfl, _, World.drewN_drewN _ _ _⟩ | exact ⟨rfl, _, Eq.trans (World.drewN_drewN _ _ _) (congrArg (World.drewN _) (Nat.add_assoc _ _ _))⟩))); try go_wp2_with (first | (go_at_call 59; (with_reducible refine (constableref01_order.calls (a0.size : Int) (a1.size : Int) t318 _ A15.out).mono ?_); rintro e w' ⟨rfl, ⟨nd, rfl⟩⟩; (try first | exact ⟨rfl, _, World.drewN_drewN _ _ _⟩ | exact ⟨rfl, _, Eq.trans (World.drewN_drewN _ _ _) (congrArg (World.drewN _) (Nat.add_assoc _ _ _))⟩))))
            go_ret
            exact rz_
end Go.Proofs.Ytconpnagoijacaa.P
end
section
namespace Go.Proofs.Ytconpnagoijacaa.P
open Go.RowKit Go.Proofs.YtconpnagoijacaaW.PrintWords Go.Proofs.YtconpnagoijacaaW.PrintLast Go.Proofs.YtconpnagoijacaaW.PrintMore
attribute [local go_sem] max2_int min2_int max_two min_two max_three min_three max_four min_four
set_option linter.unusedVariables false
set_option linter.unusedSimpArgs false
def constableref01_In.f (a0 : Int) (a1 : Int) (a2 : Int) : Option (Bool) := if a0 ≥ a1 then (some (decide (a0 ≤ a2))) else (some false)
set_option maxHeartbeats 8000000 in
set_option maxRecDepth 100000 in
theorem constableref01_In.calls (a0 : Int) (a1 : Int) (a2 : Int) (r : Bool) (w : World) (h : constableref01_In.f a0 a1 a2 = some r) :
    Calls Try.prog 38 #[.int .i64 a0, .int .i64 a1, .int .i64 a2] w fun e w' => e = .returned (.bool r) ∧ Drawn0 w w' := by
  have H : (if a0 ≥ a1 then (some (decide (a0 ≤ a2))) else (some false)) = some r := h
  clear h
  by_cases c4 : a0 ≥ a1
  · rw [if_pos c4] at H
    have c4b0 : decide (a1 ≤ a0) = true := decide_eq_true c4
    clear c4
    obtain rfl := Option.some.inj H
    go_enter Try.func38, Try.ntmps38
    go_wp2
    go_ret
    exact rz_
  · rw [if_neg c4] at H
    have c4b0 : decide (a1 ≤ a0) = false := decide_eq_false c4
    clear c4
    obtain rfl := Option.some.inj H
    go_enter Try.func38, Try.ntmps38
    go_wp2
    go_ret
    exact rz_
end Go.Proofs.Ytconpnagoijacaa.P
end
section
namespace Go.Proofs.Ytconpnagoijacaa.P
open Go.RowKit Go.Proofs.YtconpnagoijacaaW.PrintWords Go.Proofs.YtconpnagoijacaaW.PrintLast Go.Proofs.YtconpnagoijacaaW.PrintMore
attribute [local go_sem] max2_int min2_int max_two min_two max_three min_three max_four min_four
set_option linter.unusedVariables false
set_option linter.unusedSimpArgs false
def constableref01_Upper.f (a0 : Int) : Option (Bool) := if a0 ≥ 65 then (some (decide (a0 ≤ 90))) else (some false)
set_option maxHeartbeats 8000000 in
set_option maxRecDepth 100000 in
theorem constableref01_Upper.calls (a0 : Int) (r : Bool) (w : World) (h : constableref01_Upper.f a0 = some r) :
    Calls Try.prog 54 #[.int .u8 a0] w fun e w' => e = .returned (.bool r) ∧ Drawn0 w w' := by
  have H : (if a0 ≥ 65 then (some (decide (a0 ≤ 90))) else (some false)) = some r := h
  clear h
  by_cases c2 : a0 ≥ 65
  · rw [if_pos c2] at H
    have c2b0 : decide (65 ≤ a0) = true := decide_eq_true c2
    clear c2
    obtain rfl := Option.some.inj H
    go_enter Try.func54, Try.ntmps54
    go_wp2
    go_ret
    exact rz_
  · rw [if_neg c2] at H
    have c2b0 : decide (65 ≤ a0) = false := decide_eq_false c2
    clear c2
    obtain rfl := Option.some.inj H
    go_enter Try.func54, Try.ntmps54
    go_wp2
    go_ret
    exact rz_
end Go.Proofs.Ytconpnagoijacaa.P
end
section
namespace Go.Proofs.Ytconpnagoijacaa.P
open Go.RowKit Go.Proofs.YtconpnagoijacaaW.PrintWords Go.Proofs.YtconpnagoijacaaW.PrintLast Go.Proofs.YtconpnagoijacaaW.PrintMore
attribute [local go_sem] max2_int min2_int max_two min_two max_three min_three max_four min_four
set_option linter.unusedVariables false
set_option linter.unusedSimpArgs false
def constableref01_Lower.f (a0 : Int) : Option (Bool) := if a0 ≥ 97 then (some (decide (a0 ≤ 122))) else (some false)
set_option maxHeartbeats 8000000 in
set_option maxRecDepth 100000 in
theorem constableref01_Lower.calls (a0 : Int) (r : Bool) (w : World) (h : constableref01_Lower.f a0 = some r) :
    Calls Try.prog 55 #[.int .u8 a0] w fun e w' => e = .returned (.bool r) ∧ Drawn0 w w' := by
  have H : (if a0 ≥ 97 then (some (decide (a0 ≤ 122))) else (some false)) = some r := h
  clear h
  by_cases c2 : a0 ≥ 97
  · rw [if_pos c2] at H
    have c2b0 : decide (97 ≤ a0) = true := decide_eq_true c2
    clear c2
    obtain rfl := Option.some.inj H
    go_enter Try.func55, Try.ntmps55
    go_wp2
    go_ret
    exact rz_
  · rw [if_neg c2] at H
    have c2b0 : decide (97 ≤ a0) = false := decide_eq_false c2
    clear c2
    obtain rfl := Option.some.inj H
    go_enter Try.func55, Try.ntmps55
    go_wp2
    go_ret
    exact rz_
end Go.Proofs.Ytconpnagoijacaa.P
end
section
namespace Go.Proofs.Ytconpnagoijacaa.P
open Go.RowKit Go.Proofs.YtconpnagoijacaaW.PrintWords Go.Proofs.YtconpnagoijacaaW.PrintLast Go.Proofs.YtconpnagoijacaaW.PrintMore
attribute [local go_sem] max2_int min2_int max_two min_two max_three min_three max_four min_four
set_option linter.unusedVariables false
set_option linter.unusedSimpArgs false
def constableref01_Digit.f (a0 : Int) : Option (Bool) := if a0 ≥ 48 then (some (decide (a0 ≤ 57))) else (some false)
set_option maxHeartbeats 8000000 in
set_option maxRecDepth 100000 in
theorem constableref01_Digit.calls (a0 : Int) (r : Bool) (w : World) (h : constableref01_Digit.f a0 = some r) :
    Calls Try.prog 60 #[.int .u8 a0] w fun e w' => e = .returned (.bool r) ∧ Drawn0 w w' := by
  have H : (if a0 ≥ 48 then (some (decide (a0 ≤ 57))) else (some false)) = some r := h
  clear h
  by_cases c2 : a0 ≥ 48
  · rw [if_pos c2] at H
    have c2b0 : decide (48 ≤ a0) = true := decide_eq_true c2
    clear c2
    obtain rfl := Option.some.inj H
    go_enter Try.func60, Try.ntmps60
    go_wp2
    go_ret
    exact rz_
  · rw [if_neg c2] at H
    have c2b0 : decide (48 ≤ a0) = false := decide_eq_false c2
    clear c2
    obtain rfl := Option.some.inj H
    go_enter Try.func60, Try.ntmps60
    go_wp2
    go_ret
    exact rz_
end Go.Proofs.Ytconpnagoijacaa.P
end
section
namespace Go.Proofs.Ytconpnagoijacaa.P
open Go.RowKit Go.Proofs.YtconpnagoijacaaW.PrintWords Go.Proofs.YtconpnagoijacaaW.PrintLast Go.Proofs.YtconpnagoijacaaW.PrintMore
attribute [local go_sem] max2_int min2_int max_two min_two max_three min_three max_four min_four
set_option linter.unusedVariables false
set_option linter.unusedSimpArgs false
def constableref01_inner.f (a0 : Int) : Option (Bool) := (constableref01_Lower.f a0).bind fun t297 => (if t297 = true then (some true) else ((constableref01_Upper.f a0).bind fun t298 => (if t298 = true then (some true) else ((constableref01_Digit.f a0).bind fun t299 => (if t299 = true then (some true) else (some (a0 == 95)))))))
set_option maxHeartbeats 8000000 in
set_option maxRecDepth 100000 in
theorem constableref01_inner.calls (a0 : Int) (r : Bool) (w : World) (h : constableref01_inner.f a0 = some r) :
    Calls Try.prog 56 #[.int .u8 a0] w fun e w' => e = .returned (.bool r) ∧ Drawn0 w w' := by
  have H : ((constableref01_Lower.f a0).bind fun t297 => (if t297 = true then (some true) else ((constableref01_Upper.f a0).bind fun t298 => (if t298 = true then (some true) else ((constableref01_Digit.f a0).bind fun t299 => (if t299 = true then (some true) else (some (a0 == 95)))))))) = some r := h
  clear h
  replace H := Option.bind_eq_some_iff.mp H
  obtain ⟨t297, A20, H⟩ := H
  replace H : (if t297 = true then (some true) else ((constableref01_Upper.f a0).bind fun t298 => (if t298 = true then (some true) else ((constableref01_Digit.f a0).bind fun t299 => (if t299 = true then (some true) else (some (a0 == 95))))))) = some r := H
  have A2 := Aside0.mk A20
  clear A20
  by_cases c3 : t297 = true
  · subst c3
    have H1 : (some true) = some r := by rw [if_pos rfl] at H; exact H
    clear H
    have H := H1
    clear H1
    obtain rfl := Option.some.inj H
    go_enter Try.func56, Try.ntmps56
    go_wp2_with (first | ((with_reducible refine gate_callee (f := 55) rfl ?_); refine goesL_ (some 4) rfl rfl Try.func55 (by kernel_rfl) rfl #[.int .u8 a0] rfl ga_ ?_; (with_reducible refine (constableref01_Lower.calls a0 true _ A2.out).mono ?_); rintro e w' ⟨rfl, ⟨nd, rfl⟩⟩; refine ⟨_, rfl, ?_⟩))
    go_ret
    exact rz_
  · replace c3 := Bool.eq_false_iff.mpr c3
    subst c3
    have H1 : ((constableref01_Upper.f a0).bind fun t298 => (if t298 = true then (some true) else ((constableref01_Digit.f a0).bind fun t299 => (if t299 = true then (some true) else (some (a0 == 95)))))) = some r := by rw [if_neg (show ¬ (false = true) by decide)] at H; exact H
    clear H
    have H := H1
    clear H1
    replace H := Option.bind_eq_some_iff.mp H
    obtain ⟨t298, A40, H⟩ := H
    replace H : (if t298 = true then (some true) else ((constableref01_Digit.f a0).bind fun t299 => (if t299 = true then (some true) else (some (a0 == 95))))) = some r := H
    have A4 := Aside0.mk A40
    clear A40
    by_cases c5 : t298 = true
    · subst c5
      have H1 : (some true) = some r := by rw [if_pos rfl] at H; exact H
      clear H
      have H := H1
      clear H1
      obtain rfl := Option.some.inj H
      go_enter Try.func56, Try.ntmps56
      go_wp2_with (first | ((with_reducible refine gate_callee (f := 55) rfl ?_); refine goesL_ (some 4) rfl rfl Try.func55 (by kernel_rfl) rfl #[.int .u8 a0] rfl ga_ ?_; (with_reducible refine (constableref01_Lower.calls a0 false _ A2.out).mono ?_); rintro e w' ⟨rfl, ⟨nd, rfl⟩⟩; refine ⟨_, rfl, ?_⟩) | (go_at_call 54; (with_reducible refine (constableref01_Upper.calls a0 true _ A4.out).mono ?_); rintro e w' ⟨rfl, ⟨nd, rfl⟩⟩))
      go_ret
      exact rz_
    · replace c5 := Bool.eq_false_iff.mpr c5
      subst c5
      have H1 : ((constableref01_Digit.f a0).bind fun t299 => (if t299 = true then (some true) else (some (a0 == 95)))) = some r := by rw [if_neg (show ¬ (false = true) by decide)] at H; exact H
      clear H
      have H := H1
      clear H1
      replace H := Option.bind_eq_some_iff.mp H
      obtain ⟨t299, A60, H⟩ := H
      replace H : (if t299 = true then (some true) else (some (a0 == 95))) = some r := H
      have A6 := Aside0.mk A60
      clear A60
      by_cases c7 : t299 = true
      · subst c7
        have H1 : (some true) = some r := by rw [if_pos rfl] at H; exact H
        clear H
        have H := H1
        clear H1
        obtain rfl := Option.some.inj H
        go_enter Try.func56, Try.ntmps56
        go_wp2_with (first | ((with_reducible refine gate_callee (f := 55) rfl ?_); refine goesL_ (some 4) rfl rfl Try.func55 (by kernel_rfl) rfl #[.int .u8 a0] rfl ga_ ?_; (with_reducible refine (constableref01_Lower.calls a0 false _ A2.out).mono ?_); rintro e w' ⟨rfl, ⟨nd, rfl⟩⟩; refine ⟨_, rfl, ?_⟩) | (go_at_call 54; (with_reducible refine (constableref01_Upper.calls a0 false _ A4.out).mono ?_); rintro e w' ⟨rfl, ⟨nd, rfl⟩⟩) | (go_at_call 60; (with_reducible refine (constableref01_Digit.calls a0 true _ A6.out).mono ?_); rintro e w' ⟨rfl, ⟨nd, rfl⟩⟩))
        go_ret
        exact rz_
      · replace c7 := Bool.eq_false_iff.mpr c7
        subst c7
        have H1 : (some (a0 == 95)) = some r := by rw [if_neg (show ¬ (false = true) by decide)] at H; exact H
        clear H
        have H := H1
        clear H1
        obtain rfl := Option.some.inj H
        go_enter Try.func56, Try.ntmps56
        go_wp2_with (first | ((with_reducible refine gate_callee (f := 55) rfl ?_); refine goesL_ (some 4) rfl rfl Try.func55 (by kernel_rfl) rfl #[.int .u8 a0] rfl ga_ ?_; (with_reducible refine (constableref01_Lower.calls a0 false _ A2.out).mono ?_); rintro e w' ⟨rfl, ⟨nd, rfl⟩⟩; refine ⟨_, rfl, ?_⟩) | (go_at_call 54; (with_reducible refine (constableref01_Upper.calls a0 false _ A4.out).mono ?_); rintro e w' ⟨rfl, ⟨nd, rfl⟩⟩) | (go_at_call 60; (with_reducible refine (constableref01_Digit.calls a0 false _ A6.out).mono ?_); rintro e w' ⟨rfl, ⟨nd, rfl⟩⟩))
        go_ret
        exact rz_
end Go.Proofs.Ytconpnagoijacaa.P
end
section
namespace Go.Proofs.Ytconpnagoijacaa.P
open Go.RowKit Go.Proofs.YtconpnagoijacaaW.PrintWords Go.Proofs.YtconpnagoijacaaW.PrintLast Go.Proofs.YtconpnagoijacaaW.PrintMore
attribute [local go_sem] max2_int min2_int max_two min_two max_three min_three max_four min_four
set_option linter.unusedVariables false
set_option linter.unusedSimpArgs false
mutual
def constableref01_Word.j0 : Nat → ByteArray → Bool → Option (Bool)
  | 0, _, _ => none
  | k + 1, x0, x26 => if x26 = true then (some false) else (constableref01_Word.l0 k x0 0)
def constableref01_Word.l0 : Nat → ByteArray → Int → Option (Bool)
  | 0, _, _ => none
  | k + 1, x0, x5 => if x5 < (x0.size : Int) then (if 0 ≤ x5 then ((constableref01_inner.f (bt x0 x5)).bind fun t303 => (if t303 = true then (constableref01_Word.l0 k x0 (wrap64 (x5 + 1))) else (some false))) else (none)) else (some true)
end
def constableref01_Word.f (k : Nat) (a0 : ByteArray) (a1 : Bool) : Option (Bool) := (constableref01_In.f (a0.size : Int) 1 24).bind fun t300 => (if t300 = true then (if 0 < (a0.size : Int) then ((constableref01_Upper.f (bt a0 0)).bind fun t301 => (if (a1 != t301) = true then (constableref01_Word.j0 k a0 true) else (if a1 = true then (constableref01_Word.j0 k a0 false) else ((constableref01_Lower.f (bt a0 0)).bind fun t302 => (constableref01_Word.j0 k a0 (!t302)))))) else (none)) else (constableref01_Word.j0 k a0 true))
theorem constableref01_Word.mono_l : ∀ k, (∀ y0 y1, LeO (constableref01_Word.j0 k y0 y1) (constableref01_Word.j0 (k + 1) y0 y1)) ∧ (∀ y0 y1, LeO (constableref01_Word.l0 k y0 y1) (constableref01_Word.l0 (k + 1) y0 y1))
  | 0 => ⟨fun _ _ r h => by simp [constableref01_Word.j0] at h, fun _ _ r h => by simp [constableref01_Word.l0] at h⟩
  | k + 1 => by
    obtain ⟨ih0, ih1⟩ := constableref01_Word.mono_l k
    refine ⟨?_, ?_⟩
    · intro y0 y1
      unfold constableref01_Word.j0
      repeat' first
      | (with_reducible exact ih0 _ _)
      | (with_reducible exact ih1 _ _)
      | (with_reducible exact LeO.refl _)
      | (with_reducible exact LeO.none _)
      | (with_reducible refine LeO.ite ?_ ?_)
      | (with_reducible refine LeO.bind ?_ (fun _ => ?_))
      | exact ih0 _ _
      | exact ih1 _ _
      | exact LeO.none _
      | refine LeO.ite ?_ ?_
      | refine LeO.bind ?_ (fun _ => ?_)
    · intro y0 y1
      unfold constableref01_Word.l0
      repeat' first
      | (with_reducible exact ih0 _ _)
      | (with_reducible exact ih1 _ _)
      | (with_reducible exact LeO.refl _)
      | (with_reducible exact LeO.none _)
      | (with_reducible refine LeO.ite ?_ ?_)
      | (with_reducible refine LeO.bind ?_ (fun _ => ?_))
      | exact ih0 _ _
      | exact ih1 _ _
      | exact LeO.none _
      | refine LeO.ite ?_ ?_
      | refine LeO.bind ?_ (fun _ => ?_)
theorem constableref01_Word.mono : ∀ a0 a1 k, LeO (constableref01_Word.f k a0 a1) (constableref01_Word.f (k + 1) a0 a1) := by
  intro a0 a1 k
  obtain ⟨ih0, ih1⟩ := constableref01_Word.mono_l k
  unfold constableref01_Word.f
  repeat' first
      | (with_reducible exact ih0 _ _)
      | (with_reducible exact ih1 _ _)
      | (with_reducible exact LeO.refl _)
      | (with_reducible exact LeO.none _)
      | (with_reducible refine LeO.ite ?_ ?_)
      | (with_reducible refine LeO.bind ?_ (fun _ => ?_))
      | exact ih0 _ _
      | exact ih1 _ _
      | exact LeO.none _
      | refine LeO.ite ?_ ?_
      | refine LeO.bind ?_ (fun _ => ?_)
set_option maxHeartbeats 8000000 in
set_option maxRecDepth 100000 in
theorem constableref01_Word.calls (k : Nat) (a0 : ByteArray) (a1 : Bool) (r : Bool) (w : World) (h : constableref01_Word.f k a0 a1 = some r) :
    Calls Try.prog 45 #[.string a0, .bool a1] w fun e w' => e = .returned (.bool r) ∧ Drawn0 w w' := by
  have H : ((constableref01_In.f (a0.size : Int) 1 24).bind fun t300 => (if t300 = true then (if 0 < (a0.size : Int) then ((constableref01_Upper.f (bt a0 0)).bind fun t301 => (if (a1 != t301) = true then (constableref01_Word.j0 k a0 true) else (if a1 = true then (constableref01_Word.j0 k a0 false) else ((constableref01_Lower.f (bt a0 0)).bind fun t302 => (constableref01_Word.j0 k a0 (!t302)))))) else (none)) else (constableref01_Word.j0 k a0 true))) = some r := h
  clear h
  have HC3 := Aside0.mk H
  clear H
  go_enter Try.func45, Try.ntmps45
  go_upto_region 1 with (fail)
  go_cut [26] (fun v26 wc => ∃ (kq : Nat) (x26_2 : Bool), v26 = .bool x26_2 ∧ Aside0 (constableref01_Word.j0 kq a0 x26_2 = some r) ∧ Aside0 (kq ≤ k) ∧ Drawn0 w wc)
  case first =>
    have H := HC3.out
    clear HC3
    replace H := Option.bind_eq_some_iff.mp H
    obtain ⟨t300, A40, H⟩ := H
    replace H : (if t300 = true then (if 0 < (a0.size : Int) then ((constableref01_Upper.f (bt a0 0)).bind fun t301 => (if (a1 != t301) = true then (constableref01_Word.j0 k a0 true) else (if a1 = true then (constableref01_Word.j0 k a0 false) else ((constableref01_Lower.f (bt a0 0)).bind fun t302 => (constableref01_Word.j0 k a0 (!t302)))))) else (none)) else (constableref01_Word.j0 k a0 true)) = some r := H
    have A4 := Aside0.mk A40
    clear A40
    by_cases c5 : t300 = true
    · subst c5
      have H1 : (if 0 < (a0.size : Int) then ((constableref01_Upper.f (bt a0 0)).bind fun t301 => (if (a1 != t301) = true then (constableref01_Word.j0 k a0 true) else (if a1 = true then (constableref01_Word.j0 k a0 false) else ((constableref01_Lower.f (bt a0 0)).bind fun t302 => (constableref01_Word.j0 k a0 (!t302)))))) else (none)) = some r := by rw [if_pos rfl] at H; exact H
      clear H
      have H := H1
      clear H1
      by_cases c6 : 0 < (a0.size : Int)
      · rw [if_pos c6] at H
        have c6b0 : decide (0 < (a0.size : Int)) = true := decide_eq_true c6
        have c6b1 : decide (0 < a0.size) = true := decide_eq_true (by omega)
        clear c6
        (first | rw [c6b0] | (simp only [i64_w, i32_w]; rw [c6b0]) | skip)
        replace H := Option.bind_eq_some_iff.mp H
        obtain ⟨t301, A80, H⟩ := H
        replace H : (if (a1 != t301) = true then (constableref01_Word.j0 k a0 true) else (if a1 = true then (constableref01_Word.j0 k a0 false) else ((constableref01_Lower.f (bt a0 0)).bind fun t302 => (constableref01_Word.j0 k a0 (!t302))))) = some r := H
        have A8 := Aside0.mk A80
        clear A80
        by_cases c9 : (a1 != t301) = true
        · rw [if_pos c9] at H
          have c9b0 : (a1 != t301) = true := c9
          (try (have c9b1 : decide (a1 = t301) = false := by simpa using c9))
          (try (have c9b2 : (a1 == t301) = false := by simpa using c9))
          (try (have c9b3 : ¬ (a1 = t301) := by simpa using c9))
          clear c9
          have H' := Aside0.mk H
          clear H
          go_wp2_with (first | ((with_reducible refine gate_callee (f := 38) rfl ?_); refine goesL_ (some 8) rfl rfl Try.func38 (by kernel_rfl) rfl #[.int .i64 (a0.size : Int), .int .i64 1, .int .i64 24] rfl ga_ ?_; (with_reducible refine (constableref01_In.calls (a0.size : Int) 1 24 true _ A4.out).mono ?_); rintro e w' ⟨rfl, ⟨nd, rfl⟩⟩; refine ⟨_, rfl, ?_⟩; have p7 : 0 ≤ (0 : Int) := (by omega); have q7 : 0 < a0.size := (by have : (0 : Int) < (a0.size : Int) := dt_; omega); have hx7 : ∀ h : 0 < a0.size, ((a0[0]'h).toNat : Int) = bt a0 0 := bt_at a0 0; clear p7; have qi7 : (0 < (a0.size : Int)) = True := eq_true dt_; replace q7 := eq_true q7) | (go_at_call 54; (with_reducible refine (constableref01_Upper.calls (bt a0 0) t301 _ A8.out).mono ?_); rintro e w' ⟨rfl, ⟨nd, rfl⟩⟩))
          go_meet
          case rel => exact ⟨_, (true), ra_, H', ⟨by first | omega | exact Nat.le_refl _⟩, dz_⟩
        · rw [if_neg c9] at H
          have c9b0 : (a1 != t301) = false := by simpa using c9
          (try (have c9b1 : decide (a1 = t301) = true := by simpa using c9))
          (try (have c9b2 : (a1 == t301) = true := by simpa using c9))
          clear c9
          by_cases c10 : a1 = true
          · subst c10
            have H1 : (constableref01_Word.j0 k a0 false) = some r := by rw [if_pos rfl] at H; exact H
            clear H
            have H := H1
            clear H1
            have H' := Aside0.mk H
            clear H
            go_wp2_with (first | ((with_reducible refine gate_callee (f := 38) rfl ?_); refine goesL_ (some 8) rfl rfl Try.func38 (by kernel_rfl) rfl #[.int .i64 (a0.size : Int), .int .i64 1, .int .i64 24] rfl ga_ ?_; (with_reducible refine (constableref01_In.calls (a0.size : Int) 1 24 true _ A4.out).mono ?_); rintro e w' ⟨rfl, ⟨nd, rfl⟩⟩; refine ⟨_, rfl, ?_⟩; have p7 : 0 ≤ (0 : Int) := (by omega); have q7 : 0 < a0.size := (by have : (0 : Int) < (a0.size : Int) := dt_; omega); have hx7 : ∀ h : 0 < a0.size, ((a0[0]'h).toNat : Int) = bt a0 0 := bt_at a0 0; clear p7; have qi7 : (0 < (a0.size : Int)) = True := eq_true dt_; replace q7 := eq_true q7) | (go_at_call 54; (with_reducible refine (constableref01_Upper.calls (bt a0 0) t301 _ A8.out).mono ?_); rintro e w' ⟨rfl, ⟨nd, rfl⟩⟩))
            go_meet
            case rel => exact ⟨_, (false), ra_, H', ⟨by first | omega | exact Nat.le_refl _⟩, dz_⟩
          · replace c10 := Bool.eq_false_iff.mpr c10
            subst c10
            have H1 : ((constableref01_Lower.f (bt a0 0)).bind fun t302 => (constableref01_Word.j0 k a0 (!t302))) = some r := by rw [if_neg (show ¬ (false = true) by decide)] at H; exact H
            clear H
            have H := H1
            clear H1
            replace H := Option.bind_eq_some_iff.mp H
            obtain ⟨t302, A120, H⟩ := H
            replace H : (constableref01_Word.j0 k a0 (!t302)) = some r := H
            have A12 := Aside0.mk A120
            clear A120
            have H' := Aside0.mk H
            clear H
            go_wp2_with (first | ((with_reducible refine gate_callee (f := 38) rfl ?_); refine goesL_ (some 8) rfl rfl Try.func38 (by kernel_rfl) rfl #[.int .i64 (a0.size : Int), .int .i64 1, .int .i64 24] rfl ga_ ?_; (with_reducible refine (constableref01_In.calls (a0.size : Int) 1 24 true _ A4.out).mono ?_); rintro e w' ⟨rfl, ⟨nd, rfl⟩⟩; refine ⟨_, rfl, ?_⟩; have p7 : 0 ≤ (0 : Int) := (by omega); have q7 : 0 < a0.size := (by have : (0 : Int) < (a0.size : Int) := dt_; omega); have hx7 : ∀ h : 0 < a0.size, ((a0[0]'h).toNat : Int) = bt a0 0 := bt_at a0 0; clear p7; have qi7 : (0 < (a0.size : Int)) = True := eq_true dt_; replace q7 := eq_true q7) | (go_at_call 54; (with_reducible refine (constableref01_Upper.calls (bt a0 0) t301 _ A8.out).mono ?_); rintro e w' ⟨rfl, ⟨nd, rfl⟩⟩; have p11 : 0 ≤ (0 : Int) := (by omega); have q11 : 0 < a0.size := (by have : (0 : Int) < (a0.size : Int) := dt_; omega); have hx11 : ∀ h : 0 < a0.size, ((a0[0]'h).toNat : Int) = bt a0 0 := bt_at a0 0; clear p11; have qi11 : (0 < (a0.size : Int)) = True := eq_true dt_; replace q11 := eq_true q11) | (go_at_call 55; (with_reducible refine (constableref01_Lower.calls (bt a0 0) t302 _ A12.out).mono ?_); rintro e w' ⟨rfl, ⟨nd, rfl⟩⟩))
            go_meet
            case rel => exact ⟨_, (!t302), ra_, H', ⟨by first | omega | exact Nat.le_refl _⟩, dz_⟩
      · rw [if_neg c6] at H
        exact absurd H (by simp)
    · replace c5 := Bool.eq_false_iff.mpr c5
      subst c5
      have H1 : (constableref01_Word.j0 k a0 true) = some r := by rw [if_neg (show ¬ (false = true) by decide)] at H; exact H
      clear H
      have H := H1
      clear H1
      have H' := Aside0.mk H
      clear H
      go_wp2_with (first | ((with_reducible refine gate_callee (f := 38) rfl ?_); refine goesL_ (some 8) rfl rfl Try.func38 (by kernel_rfl) rfl #[.int .i64 (a0.size : Int), .int .i64 1, .int .i64 24] rfl ga_ ?_; (with_reducible refine (constableref01_In.calls (a0.size : Int) 1 24 false _ A4.out).mono ?_); rintro e w' ⟨rfl, ⟨nd, rfl⟩⟩; refine ⟨_, rfl, ?_⟩))
      go_meet
      case rel => exact ⟨_, (true), ra_, H', ⟨by first | omega | exact Nat.le_refl _⟩, dz_⟩
  case rest =>
    clear HC3
    try clear c1
    try clear p1
    try clear q1
    try clear hx1
    try clear qi1
    try clear p2
    try clear c3
    try clear c4
    try clear c5
    try clear c6
    try clear c6b0
    try clear c6b1
    try clear p7
    try clear q7
    try clear hx7
    try clear qi7
    try clear c9
    try clear c9b0
    try clear c9b1
    try clear c9b2
    try clear c10
    try clear p11
    try clear q11
    try clear hx11
    try clear qi11
    try clear p11
    try clear p7
    try clear q11
    try clear q7
    obtain ⟨kq, x26_2, rfl, HA, HJ2, ⟨mc2, rfl⟩⟩ := hcut
    cases kq with
    | zero => exact absurd HA.out (by simp [constableref01_Word.j0])
    | succ kj2 =>
      have H := HA.out
      clear HA
      simp only [constableref01_Word.j0] at H
      by_cases c13 : x26_2 = true
      · subst c13
        have H1 : (some false) = some r := by rw [if_pos rfl] at H; exact H
        clear H
        have H := H1
        clear H1
        obtain rfl := Option.some.inj H
        go_wp2
        go_ret
        exact rz_
      · replace c13 := Bool.eq_false_iff.mpr c13
        subst c13
        have H1 : (constableref01_Word.l0 kj2 a0 0) = some r := by rw [if_neg (show ¬ (false = true) by decide)] at H; exact H
        clear H
        have H := H1
        clear H1
        have H' := Aside0.mk H
        clear H
        go_wp2
        go_loopg [5] kj2 (fun kq v5 w' => ∃ (x5_2 : Int), v5 = .int .i64 x5_2 ∧ Aside0 (constableref01_Word.l0 kq a0 x5_2 = some r) ∧ Aside0 (kq ≤ kj2) ∧ Drawn0 w w')
        case atStart => exact ⟨(0), ra_, H', ⟨Nat.le_refl _⟩, dz_⟩
        case round =>
          clear H'
          try clear c1
          try clear p1
          try clear q1
          try clear hx1
          try clear qi1
          try clear c2
          try clear p2
          try clear c3
          try clear c4
          try clear c5
          try clear c6
          try clear c6b0
          try clear c6b1
          try clear p7
          try clear q7
          try clear hx7
          try clear qi7
          try clear c9
          try clear c9b0
          try clear c9b1
          try clear c9b2
          try clear c10
          try clear p11
          try clear q11
          try clear hx11
          try clear qi11
          try clear c13
          try clear p1
          try clear p11
          try clear p2
          try clear p7
          try clear q1
          try clear q11
          try clear q7
          obtain ⟨x5_2, rfl, HA, HK2, ⟨m2, rfl⟩⟩ := hrel
          cases gk with
          | zero => exact absurd HA.out (by simp [constableref01_Word.l0])
          | succ k2 =>
            have H := HA.out
            clear HA
            simp only [constableref01_Word.l0] at H
            by_cases c14 : x5_2 < (a0.size : Int)
            · rw [if_pos c14] at H
              have c14b0 : decide (x5_2 < (a0.size : Int)) = true := decide_eq_true c14
              clear c14
              by_cases c15 : 0 ≤ x5_2
              · rw [if_pos c15] at H
                have c15b0 : decide (0 ≤ x5_2) = true := decide_eq_true c15
                clear c15
                replace H := Option.bind_eq_some_iff.mp H
                obtain ⟨t303, A170, H⟩ := H
                replace H : (if t303 = true then (constableref01_Word.l0 k2 a0 (wrap64 (x5_2 + 1))) else (some false)) = some r := H
                have A17 := Aside0.mk A170
                clear A170
                by_cases c18 : t303 = true
                · subst c18
                  have H1 : (constableref01_Word.l0 k2 a0 (wrap64 (x5_2 + 1))) = some r := by rw [if_pos rfl] at H; exact H
                  clear H
                  have H := H1
                  clear H1
                  have H' := Aside0.mk H
                  clear H
                  have p16 : 0 ≤ (x5_2 : Int) := dt_
                  have q16 : x5_2 < (a0.size : Int) := dt_
                  have hx16 := bt_at a0 x5_2
                  replace p16 := eq_true p16
                  replace q16 := eq_true q16
                  go_wp2_with (first | ((with_reducible refine gate_callee (f := 56) rfl ?_); refine goesL_ (some 36) rfl rfl Try.func56 (by kernel_rfl) rfl #[.int .u8 (bt a0 x5_2)] rfl ga_ ?_; (with_reducible refine (constableref01_inner.calls (bt a0 x5_2) true _ A17.out).mono ?_); rintro e w' ⟨rfl, ⟨nd, rfl⟩⟩; refine ⟨_, rfl, ?_⟩))
                  go_roundg k2
                  case measure => have := HJ2.out; have := HK2.out; omega
                  case rel => exact ⟨(wrap64 (x5_2 + 1)), ra_, H', ⟨by have := HJ2.out; have := HK2.out; omega⟩, dz_⟩
                · replace c18 := Bool.eq_false_iff.mpr c18
                  subst c18
                  have H1 : (some false) = some r := by rw [if_neg (show ¬ (false = true) by decide)] at H; exact H
                  clear H
                  have H := H1
                  clear H1
                  obtain rfl := Option.some.inj H
                  have p16 : 0 ≤ (x5_2 : Int) := dt_
                  have q16 : x5_2 < (a0.size : Int) := dt_
                  have hx16 := bt_at a0 x5_2
                  replace p16 := eq_true p16
                  replace q16 := eq_true q16
                  go_wp2_with (first | ((with_reducible refine gate_callee (f := 56) rfl ?_); refine goesL_ (some 36) rfl rfl Try.func56 (by kernel_rfl) rfl #[.int .u8 (bt a0 x5_2)] rfl ga_ ?_; (with_reducible refine (constableref01_inner.calls (bt a0 x5_2) false _ A17.out).mono ?_); rintro e w' ⟨rfl, ⟨nd, rfl⟩⟩; refine ⟨_, rfl, ?_⟩))
                  go_ret
                  exact rz_
              · rw [if_neg c15] at H
                exact absurd H (by simp)
            · rw [if_neg c14] at H
              have c14b0 : decide (x5_2 < (a0.size : Int)) = false := decide_eq_false c14
              clear c14
              obtain rfl := Option.some.inj H
              go_wp2
              go_ret
              exact rz_
end Go.Proofs.Ytconpnagoijacaa.P
end
section
namespace Go.Proofs.Ytconpnagoijacaa.P
open Go.RowKit Go.Proofs.YtconpnagoijacaaW.PrintWords Go.Proofs.YtconpnagoijacaaW.PrintLast Go.Proofs.YtconpnagoijacaaW.PrintMore
attribute [local go_sem] max2_int min2_int max_two min_two max_three min_three max_four min_four
set_option linter.unusedVariables false
set_option linter.unusedSimpArgs false
mutual
def constableref01_Value.j0 : Nat → Bool → Int → Int → ByteArray → Option (Bool)
  | 0, _, _, _, _ => none
  | k + 1, x37, x305000, x305001, x305002 => if x37 = true then (some false) else (constableref01_Value.l0 k 0 x305000 x305001 x305002)
def constableref01_Value.l0 : Nat → Int → Int → Int → ByteArray → Option (Bool)
  | 0, _, _, _, _ => none
  | k + 1, x3, x305000, x305001, x305002 => if x3 < (x305002.size : Int) then (if 0 ≤ x3 then ((constableref01_In.f (wrap64 (bt x305002 x3)) 32 126).bind fun t307 => (if t307 = true then (constableref01_Value.l0 k (wrap64 (x3 + 1)) x305000 x305001 x305002) else (some false))) else (none)) else (some true)
end
def constableref01_Value.f (k : Nat) (a0_0 : Int) (a0_1 : Int) (a0_2 : ByteArray) : Option (Bool) := if a0_0 = 1 then ((constableref01_In.f a0_1 (-4611686018427387904) 4611686018427387904).bind fun t305 => (if t305 = true then (some ((a0_2.size : Int) == 0)) else (some false))) else (if a0_0 = 2 then (if a0_1 = 0 then ((constableref01_Word.f k a0_2 false).bind fun t306 => (some t306)) else (some false)) else (if a0_0 = 3 then (if a0_1 = 0 then (constableref01_Value.j0 k (decide ((a0_2.size : Int) > 60)) a0_0 a0_1 a0_2) else (constableref01_Value.j0 k true a0_0 a0_1 a0_2)) else (some false)))
theorem constableref01_Value.mono_l : ∀ k, (∀ y0 y1 y2 y3, LeO (constableref01_Value.j0 k y0 y1 y2 y3) (constableref01_Value.j0 (k + 1) y0 y1 y2 y3)) ∧ (∀ y0 y1 y2 y3, LeO (constableref01_Value.l0 k y0 y1 y2 y3) (constableref01_Value.l0 (k + 1) y0 y1 y2 y3))
  | 0 => ⟨fun _ _ _ _ r h => by simp [constableref01_Value.j0] at h, fun _ _ _ _ r h => by simp [constableref01_Value.l0] at h⟩
  | k + 1 => by
    obtain ⟨ih0, ih1⟩ := constableref01_Value.mono_l k
    refine ⟨?_, ?_⟩
    · intro y0 y1 y2 y3
      unfold constableref01_Value.j0
      repeat' first
      | (with_reducible exact ih0 _ _ _ _)
      | (with_reducible exact ih1 _ _ _ _)
      | (with_reducible exact constableref01_Word.mono _ _ _)
      | (with_reducible exact LeO.refl _)
      | (with_reducible exact LeO.none _)
      | (with_reducible refine LeO.ite ?_ ?_)
      | (with_reducible refine LeO.bind ?_ (fun _ => ?_))
      | exact ih0 _ _ _ _
      | exact ih1 _ _ _ _
      | exact constableref01_Word.mono _ _ _
      | exact LeO.none _
      | refine LeO.ite ?_ ?_
      | refine LeO.bind ?_ (fun _ => ?_)
    · intro y0 y1 y2 y3
      unfold constableref01_Value.l0
      repeat' first
      | (with_reducible exact ih0 _ _ _ _)
      | (with_reducible exact ih1 _ _ _ _)
      | (with_reducible exact constableref01_Word.mono _ _ _)
      | (with_reducible exact LeO.refl _)
      | (with_reducible exact LeO.none _)
      | (with_reducible refine LeO.ite ?_ ?_)
      | (with_reducible refine LeO.bind ?_ (fun _ => ?_))
      | exact ih0 _ _ _ _
      | exact ih1 _ _ _ _
      | exact constableref01_Word.mono _ _ _
      | exact LeO.none _
      | refine LeO.ite ?_ ?_
      | refine LeO.bind ?_ (fun _ => ?_)
theorem constableref01_Value.mono : ∀ a0 a1 a2 k, LeO (constableref01_Value.f k a0 a1 a2) (constableref01_Value.f (k + 1) a0 a1 a2) := by
  intro a0 a1 a2 k
  obtain ⟨ih0, ih1⟩ := constableref01_Value.mono_l k
  unfold constableref01_Value.f
  repeat' first
      | (with_reducible exact ih0 _ _ _ _)
      | (with_reducible exact ih1 _ _ _ _)
      | (with_reducible exact constableref01_Word.mono _ _ _)
      | (with_reducible exact LeO.refl _)
      | (with_reducible exact LeO.none _)
      | (with_reducible refine LeO.ite ?_ ?_)
      | (with_reducible refine LeO.bind ?_ (fun _ => ?_))
      | exact ih0 _ _ _ _
      | exact ih1 _ _ _ _
      | exact constableref01_Word.mono _ _ _
      | exact LeO.none _
      | refine LeO.ite ?_ ?_
      | refine LeO.bind ?_ (fun _ => ?_)
set_option maxHeartbeats 8000000 in
set_option maxRecDepth 100000 in
theorem constableref01_Value.calls (k : Nat) (a0_0 : Int) (a0_1 : Int) (a0_2 : ByteArray) (r : Bool) (w : World) (h : constableref01_Value.f k a0_0 a0_1 a0_2 = some r) :
    Calls Try.prog 46 #[.agg #[.int .i64 a0_0, .int .i64 a0_1, .string a0_2]] w fun e w' => e = .returned (.bool r) ∧ Below w.heap.size w w' := by
  have hu40 := Try.underlying40
  have HB := Aside0.mk (Below.refl w.heap.size w)
  have H : (if a0_0 = 1 then ((constableref01_In.f a0_1 (-4611686018427387904) 4611686018427387904).bind fun t305 => (if t305 = true then (some ((a0_2.size : Int) == 0)) else (some false))) else (if a0_0 = 2 then (if a0_1 = 0 then ((constableref01_Word.f k a0_2 false).bind fun t306 => (some t306)) else (some false)) else (if a0_0 = 3 then (if a0_1 = 0 then (constableref01_Value.j0 k (decide ((a0_2.size : Int) > 60)) a0_0 a0_1 a0_2) else (constableref01_Value.j0 k true a0_0 a0_1 a0_2)) else (some false)))) = some r := h
  clear h
  by_cases c2 : a0_0 = 1
  · rw [if_pos c2] at H
    obtain ⟨c2b0, c2b1⟩ := eqB_ c2
    clear c2
    replace H := Option.bind_eq_some_iff.mp H
    obtain ⟨t305, A30, H⟩ := H
    replace H : (if t305 = true then (some ((a0_2.size : Int) == 0)) else (some false)) = some r := H
    have A3 := Aside0.mk A30
    clear A30
    by_cases c4 : t305 = true
    · subst c4
      have H1 : (some ((a0_2.size : Int) == 0)) = some r := by rw [if_pos rfl] at H; exact H
      clear H
      have H := H1
      clear H1
      obtain rfl := Option.some.inj H
      go_enter Try.func46, Try.ntmps46
      go_wp2_with (first | ((with_reducible refine gate_dst (N := 1) rfl ?_); (try (refine gate_guard (by rfl) ?_; dsimp only)); refine box_event ?hg (N := 1) ?hd (cs := #[.int .i64 a0_0, .int .i64 a0_1, .string a0_2]) (t := 40) ?hr ?_; (case hd => rfl); (case hg => rfl); (case hr => first | (go_simp; done) | (go_simp; rfl)); intro gb304 hg w5 hbox hb; have n0_ := bs_ (be_ HB) hb; have n1_ := Aside0.mk (hbox); have n2_ := gs_ hg (be_ HB); have n3_ := gs_ hg (be_ HB); clear HB; have HB := n0_; have BK304 := n1_; have GW304 := n2_; have GE304 := n3_; clear n0_ n1_ n2_ n3_; clear hb hbox hg; have hcz6_0 : w5.cell? ⟨gb304, 0, none⟩ = some (.int .i64 a0_0) := (blk_cell BK304.out 0).trans rfl; have hcz6_1 : w5.cell? ⟨gb304, 1, none⟩ = some (.int .i64 a0_1) := (blk_cell BK304.out 1).trans rfl; have hcz6_2 : w5.cell? ⟨gb304, 2, none⟩ = some (.string a0_2) := (blk_cell BK304.out 2).trans rfl; have hfz6_0 := blk_frozen BK304.out 0; have hfz6_1 := blk_frozen BK304.out 1; have hfz6_2 := blk_frozen BK304.out 2) | ((with_reducible refine gate_callee (f := 38) rfl ?_); refine goesL_ (some 10) rfl rfl Try.func38 (by kernel_rfl) rfl #[.int .i64 a0_1, .int .i64 (-4611686018427387904), .int .i64 4611686018427387904] rfl ga_ ?_; (with_reducible refine (constableref01_In.calls a0_1 (-4611686018427387904) 4611686018427387904 true _ A3.out).mono ?_); rintro e w' ⟨rfl, ⟨nd, rfl⟩⟩; refine ⟨_, rfl, ?_⟩))
      go_ret
      exact ⟨by first | rfl | (simp [errW_none, errW_some] <;> rfl) | (simp [*, errW_none, errW_some] <;> rfl), by repeat (first | (with_reducible first | exact HB.out | apply below_alloc | apply pw_below_drewN | apply below_drew1 | refine below_set ?_ GE304.out) | exact HB.out)⟩
    · replace c4 := Bool.eq_false_iff.mpr c4
      subst c4
      have H1 : (some false) = some r := by rw [if_neg (show ¬ (false = true) by decide)] at H; exact H
      clear H
      have H := H1
      clear H1
      obtain rfl := Option.some.inj H
      go_enter Try.func46, Try.ntmps46
      go_wp2_with (first | ((with_reducible refine gate_dst (N := 1) rfl ?_); (try (refine gate_guard (by rfl) ?_; dsimp only)); refine box_event ?hg (N := 1) ?hd (cs := #[.int .i64 a0_0, .int .i64 a0_1, .string a0_2]) (t := 40) ?hr ?_; (case hd => rfl); (case hg => rfl); (case hr => first | (go_simp; done) | (go_simp; rfl)); intro gb304 hg w7 hbox hb; have n0_ := bs_ (be_ HB) hb; have n1_ := Aside0.mk (hbox); have n2_ := gs_ hg (be_ HB); have n3_ := gs_ hg (be_ HB); clear HB; have HB := n0_; have BK304 := n1_; have GW304 := n2_; have GE304 := n3_; clear n0_ n1_ n2_ n3_; clear hb hbox hg; have hcz8_0 : w7.cell? ⟨gb304, 0, none⟩ = some (.int .i64 a0_0) := (blk_cell BK304.out 0).trans rfl; have hcz8_1 : w7.cell? ⟨gb304, 1, none⟩ = some (.int .i64 a0_1) := (blk_cell BK304.out 1).trans rfl; have hcz8_2 : w7.cell? ⟨gb304, 2, none⟩ = some (.string a0_2) := (blk_cell BK304.out 2).trans rfl; have hfz8_0 := blk_frozen BK304.out 0; have hfz8_1 := blk_frozen BK304.out 1; have hfz8_2 := blk_frozen BK304.out 2) | ((with_reducible refine gate_callee (f := 38) rfl ?_); refine goesL_ (some 10) rfl rfl Try.func38 (by kernel_rfl) rfl #[.int .i64 a0_1, .int .i64 (-4611686018427387904), .int .i64 4611686018427387904] rfl ga_ ?_; (with_reducible refine (constableref01_In.calls a0_1 (-4611686018427387904) 4611686018427387904 false _ A3.out).mono ?_); rintro e w' ⟨rfl, ⟨nd, rfl⟩⟩; refine ⟨_, rfl, ?_⟩))
      go_ret
      exact ⟨by first | rfl | (simp [errW_none, errW_some] <;> rfl) | (simp [*, errW_none, errW_some] <;> rfl), by repeat (first | (with_reducible first | exact HB.out | apply below_alloc | apply pw_below_drewN | apply below_drew1 | refine below_set ?_ GE304.out) | exact HB.out)⟩
  · rw [if_neg c2] at H
    obtain ⟨c2b0, c2b1⟩ := neB_ c2
    by_cases c9 : a0_0 = 2
    · rw [if_pos c9] at H
      obtain ⟨c9b0, c9b1⟩ := eqB_ c9
      clear c9
      by_cases c10 : a0_1 = 0
      · rw [if_pos c10] at H
        obtain ⟨c10b0, c10b1⟩ := eqB_ c10
        clear c10
        replace H := Option.bind_eq_some_iff.mp H
        obtain ⟨t306, A110, H⟩ := H
        replace H : (some t306) = some r := H
        have A11 := Aside0.mk A110
        clear A110
        obtain rfl := Option.some.inj H
        go_enter Try.func46, Try.ntmps46
        go_wp2_with (first | ((with_reducible refine gate_dst (N := 1) rfl ?_); (try (refine gate_guard (by rfl) ?_; dsimp only)); refine box_event ?hg (N := 1) ?hd (cs := #[.int .i64 a0_0, .int .i64 a0_1, .string a0_2]) (t := 40) ?hr ?_; (case hd => rfl); (case hg => rfl); (case hr => first | (go_simp; done) | (go_simp; rfl)); intro gb304 hg w12 hbox hb; have n0_ := bs_ (be_ HB) hb; have n1_ := Aside0.mk (hbox); have n2_ := gs_ hg (be_ HB); have n3_ := gs_ hg (be_ HB); clear HB; have HB := n0_; have BK304 := n1_; have GW304 := n2_; have GE304 := n3_; clear n0_ n1_ n2_ n3_; clear hb hbox hg; have hcz13_0 : w12.cell? ⟨gb304, 0, none⟩ = some (.int .i64 a0_0) := (blk_cell BK304.out 0).trans rfl; have hcz13_1 : w12.cell? ⟨gb304, 1, none⟩ = some (.int .i64 a0_1) := (blk_cell BK304.out 1).trans rfl; have hcz13_2 : w12.cell? ⟨gb304, 2, none⟩ = some (.string a0_2) := (blk_cell BK304.out 2).trans rfl; have hfz13_0 := blk_frozen BK304.out 0; have hfz13_1 := blk_frozen BK304.out 1; have hfz13_2 := blk_frozen BK304.out 2) | (go_at_call 45; (with_reducible refine (constableref01_Word.calls k a0_2 false t306 _ A11.out).mono ?_); rintro e w' ⟨rfl, ⟨nd, rfl⟩⟩))
        go_ret
        exact ⟨by first | rfl | (simp [errW_none, errW_some] <;> rfl) | (simp [*, errW_none, errW_some] <;> rfl), by repeat (first | (with_reducible first | exact HB.out | apply below_alloc | apply pw_below_drewN | apply below_drew1 | refine below_set ?_ GE304.out) | exact HB.out)⟩
      · rw [if_neg c10] at H
        obtain ⟨c10b0, c10b1⟩ := neB_ c10
        obtain rfl := Option.some.inj H
        go_enter Try.func46, Try.ntmps46
        go_wp2_with (first | ((with_reducible refine gate_dst (N := 1) rfl ?_); (try (refine gate_guard (by rfl) ?_; dsimp only)); refine box_event ?hg (N := 1) ?hd (cs := #[.int .i64 a0_0, .int .i64 a0_1, .string a0_2]) (t := 40) ?hr ?_; (case hd => rfl); (case hg => rfl); (case hr => first | (go_simp; done) | (go_simp; rfl)); intro gb304 hg w14 hbox hb; have n0_ := bs_ (be_ HB) hb; have n1_ := Aside0.mk (hbox); have n2_ := gs_ hg (be_ HB); have n3_ := gs_ hg (be_ HB); clear HB; have HB := n0_; have BK304 := n1_; have GW304 := n2_; have GE304 := n3_; clear n0_ n1_ n2_ n3_; clear hb hbox hg; have hcz15_0 : w14.cell? ⟨gb304, 0, none⟩ = some (.int .i64 a0_0) := (blk_cell BK304.out 0).trans rfl; have hcz15_1 : w14.cell? ⟨gb304, 1, none⟩ = some (.int .i64 a0_1) := (blk_cell BK304.out 1).trans rfl; have hcz15_2 : w14.cell? ⟨gb304, 2, none⟩ = some (.string a0_2) := (blk_cell BK304.out 2).trans rfl; have hfz15_0 := blk_frozen BK304.out 0; have hfz15_1 := blk_frozen BK304.out 1; have hfz15_2 := blk_frozen BK304.out 2))
        go_ret
        exact ⟨by first | rfl | (simp [errW_none, errW_some] <;> rfl) | (simp [*, errW_none, errW_some] <;> rfl), by repeat (first | (with_reducible first | exact HB.out | apply below_alloc | apply pw_below_drewN | apply below_drew1 | refine below_set ?_ GE304.out) | exact HB.out)⟩
    · rw [if_neg c9] at H
      obtain ⟨c9b0, c9b1⟩ := neB_ c9
      by_cases c16 : a0_0 = 3
      · rw [if_pos c16] at H
        obtain ⟨c16b0, c16b1⟩ := eqB_ c16
        clear c16
        have HC17 := Aside0.mk H
        clear H
        go_enter Try.func46, Try.ntmps46
        go_upto_region 7 with (first | ((with_reducible refine gate_dst (N := 1) rfl ?_); (try (refine gate_guard (by rfl) ?_; dsimp only)); refine box_event ?hg (N := 1) ?hd (cs := #[.int .i64 a0_0, .int .i64 a0_1, .string a0_2]) (t := 40) ?hr ?_; (case hd => rfl); (case hg => rfl); (case hr => first | (go_simp; done) | (go_simp; rfl)); intro gb304 hg w18 hbox hb; have n0_ := bs_ (be_ HB) hb; have n1_ := Aside0.mk (hbox); have n2_ := gs_ hg (be_ HB); have n3_ := gs_ hg (be_ HB); clear HB; have HB := n0_; have BK304 := n1_; have GW304 := n2_; have GE304 := n3_; clear n0_ n1_ n2_ n3_; clear hb hbox hg; have hcz19_0 : w18.cell? ⟨gb304, 0, none⟩ = some (.int .i64 a0_0) := (blk_cell BK304.out 0).trans rfl; have hcz19_1 : w18.cell? ⟨gb304, 1, none⟩ = some (.int .i64 a0_1) := (blk_cell BK304.out 1).trans rfl; have hcz19_2 : w18.cell? ⟨gb304, 2, none⟩ = some (.string a0_2) := (blk_cell BK304.out 2).trans rfl; have hfz19_0 := blk_frozen BK304.out 0; have hfz19_1 := blk_frozen BK304.out 1; have hfz19_2 := blk_frozen BK304.out 2))
        (try simp only [Act.put, List.setIfInBounds_toArray, List.set_cons_zero, List.set_cons_succ])
        go_cut [37] (fun v37 wc => ∃ (kq : Nat) (x37_16 : Bool), v37 = .bool x37_16 ∧ Aside0 (constableref01_Value.j0 kq x37_16 a0_0 a0_1 a0_2 = some r) ∧ Aside0 (kq ≤ k) ∧ Aside0 (wc.heap[gb304]? = some (.cells #[.int .i64 a0_0, .int .i64 a0_1, .string a0_2] 40 (0, 0))) ∧ Aside0 (Below w.heap.size w wc))
        case first =>
          have H := HC17.out
          clear HC17
          by_cases c20 : a0_1 = 0
          · rw [if_pos c20] at H
            obtain ⟨c20b0, c20b1⟩ := eqB_ c20
            clear c20
            (first | rw [c20b0] | (simp only [i64_w, i32_w]; rw [c20b0]) | skip)
            have H' := Aside0.mk H
            clear H
            have hcz21_0 : w18.cell? ⟨gb304, 0, none⟩ = some (.int .i64 a0_0) := (blk_cell BK304.out 0).trans rfl
            have hcz21_1 : w18.cell? ⟨gb304, 1, none⟩ = some (.int .i64 a0_1) := (blk_cell BK304.out 1).trans rfl
            have hcz21_2 : w18.cell? ⟨gb304, 2, none⟩ = some (.string a0_2) := (blk_cell BK304.out 2).trans rfl
            have hfz21_0 := blk_frozen BK304.out 0
            have hfz21_1 := blk_frozen BK304.out 1
            have hfz21_2 := blk_frozen BK304.out 2
            go_wp2
            go_meet
            case rel => exact ⟨_, (decide ((a0_2.size : Int) > 60)), ra_, H', ⟨by first | omega | exact Nat.le_refl _⟩, ⟨by (with_reducible repeat (first | refine blk_drewN ?_ _ | refine blk_drew ?_ | refine blk_alloc ?_ _)); exact BK304.out⟩, ⟨by repeat (first | (with_reducible first | exact HB.out | apply below_alloc | apply pw_below_drewN | apply below_drew1 | refine below_set ?_ GE304.out) | exact HB.out)⟩⟩
          · rw [if_neg c20] at H
            obtain ⟨c20b0, c20b1⟩ := neB_ c20
            (first | rw [c20b0] | (simp only [i64_w, i32_w]; rw [c20b0]) | skip)
            have H' := Aside0.mk H
            clear H
            have hcz22_0 : w18.cell? ⟨gb304, 0, none⟩ = some (.int .i64 a0_0) := (blk_cell BK304.out 0).trans rfl
            have hcz22_1 : w18.cell? ⟨gb304, 1, none⟩ = some (.int .i64 a0_1) := (blk_cell BK304.out 1).trans rfl
            have hcz22_2 : w18.cell? ⟨gb304, 2, none⟩ = some (.string a0_2) := (blk_cell BK304.out 2).trans rfl
            have hfz22_0 := blk_frozen BK304.out 0
            have hfz22_1 := blk_frozen BK304.out 1
            have hfz22_2 := blk_frozen BK304.out 2
            go_wp2
            go_meet
            case rel => exact ⟨_, (true), ra_, H', ⟨by first | omega | exact Nat.le_refl _⟩, ⟨by (with_reducible repeat (first | refine blk_drewN ?_ _ | refine blk_drew ?_ | refine blk_alloc ?_ _)); exact BK304.out⟩, ⟨by repeat (first | (with_reducible first | exact HB.out | apply below_alloc | apply pw_below_drewN | apply below_drew1 | refine below_set ?_ GE304.out) | exact HB.out)⟩⟩
        case rest =>
          clear HC17
          try clear c1
          try clear c2
          try clear c2b0
          try clear c2b1
          try clear p2
          try clear c3
          try clear c4
          try clear c9
          try clear c9b0
          try clear c9b1
          try clear c10
          try clear c10b0
          try clear c10b1
          try clear c16
          try clear c16b0
          try clear c16b1
          try clear c20
          try clear c20b0
          try clear c20b1
          try clear hcz13_0
          try clear hcz13_1
          try clear hcz13_2
          try clear hcz15_0
          try clear hcz15_1
          try clear hcz15_2
          try clear hcz19_0
          try clear hcz19_1
          try clear hcz19_2
          try clear hcz21_0
          try clear hcz21_1
          try clear hcz21_2
          try clear hcz22_0
          try clear hcz22_1
          try clear hcz22_2
          try clear hcz6_0
          try clear hcz6_1
          try clear hcz6_2
          try clear hcz8_0
          try clear hcz8_1
          try clear hcz8_2
          try clear hfz13_0
          try clear hfz13_1
          try clear hfz13_2
          try clear hfz15_0
          try clear hfz15_1
          try clear hfz15_2
          try clear hfz19_0
          try clear hfz19_1
          try clear hfz19_2
          try clear hfz21_0
          try clear hfz21_1
          try clear hfz21_2
          try clear hfz22_0
          try clear hfz22_1
          try clear hfz22_2
          try clear hfz6_0
          try clear hfz6_1
          try clear hfz6_2
          try clear hfz8_0
          try clear hfz8_1
          try clear hfz8_2
          obtain ⟨kq, x37_16, rfl, HA, HJ16, BK304, HB⟩ := hcut
          cases kq with
          | zero => exact absurd HA.out (by simp [constableref01_Value.j0])
          | succ kj16 =>
            have H := HA.out
            clear HA
            simp only [constableref01_Value.j0] at H
            by_cases c23 : x37_16 = true
            · subst c23
              have H1 : (some false) = some r := by rw [if_pos rfl] at H; exact H
              clear H
              have H := H1
              clear H1
              obtain rfl := Option.some.inj H
              go_wp2
              go_ret
              exact ⟨by first | rfl | (simp [errW_none, errW_some] <;> rfl) | (simp [*, errW_none, errW_some] <;> rfl), by repeat (first | (with_reducible first | exact HB.out | apply below_alloc | apply pw_below_drewN | apply below_drew1 | refine below_set ?_ GE304.out) | exact HB.out)⟩
            · replace c23 := Bool.eq_false_iff.mpr c23
              subst c23
              have H1 : (constableref01_Value.l0 kj16 0 a0_0 a0_1 a0_2) = some r := by rw [if_neg (show ¬ (false = true) by decide)] at H; exact H
              clear H
              have H := H1
              clear H1
              have H' := Aside0.mk H
              clear H
              go_wp2
              go_loopg [3] kj16 (fun kq v3 w' => ∃ (x3_2 : Int), v3 = .int .i64 x3_2 ∧ Aside0 (constableref01_Value.l0 kq x3_2 a0_0 a0_1 a0_2 = some r) ∧ Aside0 (kq ≤ kj16) ∧ Aside0 (w'.heap[gb304]? = some (.cells #[.int .i64 a0_0, .int .i64 a0_1, .string a0_2] 40 (0, 0))) ∧ Aside0 (Below w.heap.size w w'))
              case atStart => exact ⟨(0), ra_, H', ⟨Nat.le_refl _⟩, ⟨by (with_reducible repeat (first | refine blk_drewN ?_ _ | refine blk_drew ?_ | refine blk_alloc ?_ _)); exact BK304.out⟩, ⟨by repeat (first | (with_reducible first | exact HB.out | apply below_alloc | apply pw_below_drewN | apply below_drew1 | refine below_set ?_ GE304.out) | exact HB.out)⟩⟩
              case round =>
                clear H'
                try clear c1
                try clear c2
                try clear c2b0
                try clear c2b1
                try clear p2
                try clear c3
                try clear c4
                try clear c9
                try clear c9b0
                try clear c9b1
                try clear c10
                try clear c10b0
                try clear c10b1
                try clear c16
                try clear c16b0
                try clear c16b1
                try clear c20
                try clear c20b0
                try clear c20b1
                try clear c23
                try clear hcz13_0
                try clear hcz13_1
                try clear hcz13_2
                try clear hcz15_0
                try clear hcz15_1
                try clear hcz15_2
                try clear hcz19_0
                try clear hcz19_1
                try clear hcz19_2
                try clear hcz21_0
                try clear hcz21_1
                try clear hcz21_2
                try clear hcz22_0
                try clear hcz22_1
                try clear hcz22_2
                try clear hcz6_0
                try clear hcz6_1
                try clear hcz6_2
                try clear hcz8_0
                try clear hcz8_1
                try clear hcz8_2
                try clear hfz13_0
                try clear hfz13_1
                try clear hfz13_2
                try clear hfz15_0
                try clear hfz15_1
                try clear hfz15_2
                try clear hfz19_0
                try clear hfz19_1
                try clear hfz19_2
                try clear hfz21_0
                try clear hfz21_1
                try clear hfz21_2
                try clear hfz22_0
                try clear hfz22_1
                try clear hfz22_2
                try clear hfz6_0
                try clear hfz6_1
                try clear hfz6_2
                try clear hfz8_0
                try clear hfz8_1
                try clear hfz8_2
                try clear p2
                obtain ⟨x3_2, rfl, HA, HK2, BK304, HB⟩ := hrel
                cases gk with
                | zero => exact absurd HA.out (by simp [constableref01_Value.l0])
                | succ k2 =>
                  have H := HA.out
                  clear HA
                  simp only [constableref01_Value.l0] at H
                  by_cases c24 : x3_2 < (a0_2.size : Int)
                  · rw [if_pos c24] at H
                    have c24b0 : decide (x3_2 < (a0_2.size : Int)) = true := decide_eq_true c24
                    clear c24
                    by_cases c25 : 0 ≤ x3_2
                    · rw [if_pos c25] at H
                      have c25b0 : decide (0 ≤ x3_2) = true := decide_eq_true c25
                      clear c25
                      replace H := Option.bind_eq_some_iff.mp H
                      obtain ⟨t307, A270, H⟩ := H
                      replace H : (if t307 = true then (constableref01_Value.l0 k2 (wrap64 (x3_2 + 1)) a0_0 a0_1 a0_2) else (some false)) = some r := H
                      have A27 := Aside0.mk A270
                      clear A270
                      by_cases c28 : t307 = true
                      · subst c28
                        have H1 : (constableref01_Value.l0 k2 (wrap64 (x3_2 + 1)) a0_0 a0_1 a0_2) = some r := by rw [if_pos rfl] at H; exact H
                        clear H
                        have H := H1
                        clear H1
                        have H' := Aside0.mk H
                        clear H
                        have hcz29_0 : wr.cell? ⟨gb304, 0, none⟩ = some (.int .i64 a0_0) := (blk_cell BK304.out 0).trans rfl
                        have hcz29_1 : wr.cell? ⟨gb304, 1, none⟩ = some (.int .i64 a0_1) := (blk_cell BK304.out 1).trans rfl
                        have hcz29_2 : wr.cell? ⟨gb304, 2, none⟩ = some (.string a0_2) := (blk_cell BK304.out 2).trans rfl
                        have hfz29_0 := blk_frozen BK304.out 0
                        have hfz29_1 := blk_frozen BK304.out 1
                        have hfz29_2 := blk_frozen BK304.out 2
                        have p26 : 0 ≤ (x3_2 : Int) := dt_
                        have q26 : x3_2 < (a0_2.size : Int) := dt_
                        have hx26 := bt_at a0_2 x3_2
                        replace p26 := eq_true p26
                        replace q26 := eq_true q26
                        go_wp2_with (first | ((with_reducible refine gate_callee (f := 38) rfl ?_); refine goesL_ (some 50) rfl rfl Try.func38 (by kernel_rfl) rfl #[.int .i64 (wrap64 (bt a0_2 x3_2)), .int .i64 32, .int .i64 126] rfl ga_ ?_; (with_reducible refine (constableref01_In.calls (wrap64 (bt a0_2 x3_2)) 32 126 true _ A27.out).mono ?_); rintro e w' ⟨rfl, ⟨nd, rfl⟩⟩; refine ⟨_, rfl, ?_⟩))
                        go_roundg k2
                        case measure => have := HJ16.out; have := HK2.out; omega
                        case rel => exact ⟨(wrap64 (x3_2 + 1)), ra_, H', ⟨by have := HJ16.out; have := HK2.out; omega⟩, ⟨by (with_reducible repeat (first | refine blk_drewN ?_ _ | refine blk_drew ?_ | refine blk_alloc ?_ _)); exact BK304.out⟩, ⟨by repeat (first | (with_reducible first | exact HB.out | apply below_alloc | apply pw_below_drewN | apply below_drew1 | refine below_set ?_ GE304.out) | exact HB.out)⟩⟩
                      · replace c28 := Bool.eq_false_iff.mpr c28
                        subst c28
                        have H1 : (some false) = some r := by rw [if_neg (show ¬ (false = true) by decide)] at H; exact H
                        clear H
                        have H := H1
                        clear H1
                        obtain rfl := Option.some.inj H
                        have hcz30_0 : wr.cell? ⟨gb304, 0, none⟩ = some (.int .i64 a0_0) := (blk_cell BK304.out 0).trans rfl
                        have hcz30_1 : wr.cell? ⟨gb304, 1, none⟩ = some (.int .i64 a0_1) := (blk_cell BK304.out 1).trans rfl
                        have hcz30_2 : wr.cell? ⟨gb304, 2, none⟩ = some (.string a0_2) := (blk_cell BK304.out 2).trans rfl
                        have hfz30_0 := blk_frozen BK304.out 0
                        have hfz30_1 := blk_frozen BK304.out 1
                        have hfz30_2 := blk_frozen BK304.out 2
                        have p26 : 0 ≤ (x3_2 : Int) := dt_
                        have q26 : x3_2 < (a0_2.size : Int) := dt_
                        have hx26 := bt_at a0_2 x3_2
                        replace p26 := eq_true p26
                        replace q26 := eq_true q26
                        go_wp2_with (first | ((with_reducible refine gate_callee (f := 38) rfl ?_); refine goesL_ (some 50) rfl rfl Try.func38 (by kernel_rfl) rfl #[.int .i64 (wrap64 (bt a0_2 x3_2)), .int .i64 32, .int .i64 126] rfl ga_ ?_; (with_reducible refine (constableref01_In.calls (wrap64 (bt a0_2 x3_2)) 32 126 false _ A27.out).mono ?_); rintro e w' ⟨rfl, ⟨nd, rfl⟩⟩; refine ⟨_, rfl, ?_⟩))
                        go_ret
                        exact ⟨by first | rfl | (simp [errW_none, errW_some] <;> rfl) | (simp [*, errW_none, errW_some] <;> rfl), by repeat (first | (with_reducible first | exact HB.out | apply below_alloc | apply pw_below_drewN | apply below_drew1 | refine below_set ?_ GE304.out) | exact HB.out)⟩
                    · rw [if_neg c25] at H
                      exact absurd H (by simp)
                  · rw [if_neg c24] at H
                    have c24b0 : decide (x3_2 < (a0_2.size : Int)) = false := decide_eq_false c24
                    clear c24
                    obtain rfl := Option.some.inj H
                    have hcz31_0 : wr.cell? ⟨gb304, 0, none⟩ = some (.int .i64 a0_0) := (blk_cell BK304.out 0).trans rfl
                    have hcz31_1 : wr.cell? ⟨gb304, 1, none⟩ = some (.int .i64 a0_1) := (blk_cell BK304.out 1).trans rfl
                    have hcz31_2 : wr.cell? ⟨gb304, 2, none⟩ = some (.string a0_2) := (blk_cell BK304.out 2).trans rfl
                    have hfz31_0 := blk_frozen BK304.out 0
                    have hfz31_1 := blk_frozen BK304.out 1
                    have hfz31_2 := blk_frozen BK304.out 2
                    go_wp2
                    go_ret
                    exact ⟨by first | rfl | (simp [errW_none, errW_some] <;> rfl) | (simp [*, errW_none, errW_some] <;> rfl), by repeat (first | (with_reducible first | exact HB.out | apply below_alloc | apply pw_below_drewN | apply below_drew1 | refine below_set ?_ GE304.out) | exact HB.out)⟩
      · rw [if_neg c16] at H
        obtain ⟨c16b0, c16b1⟩ := neB_ c16
        obtain rfl := Option.some.inj H
        go_enter Try.func46, Try.ntmps46
        go_wp2_with (first | ((with_reducible refine gate_dst (N := 1) rfl ?_); (try (refine gate_guard (by rfl) ?_; dsimp only)); refine box_event ?hg (N := 1) ?hd (cs := #[.int .i64 a0_0, .int .i64 a0_1, .string a0_2]) (t := 40) ?hr ?_; (case hd => rfl); (case hg => rfl); (case hr => first | (go_simp; done) | (go_simp; rfl)); intro gb304 hg w32 hbox hb; have n0_ := bs_ (be_ HB) hb; have n1_ := Aside0.mk (hbox); have n2_ := gs_ hg (be_ HB); have n3_ := gs_ hg (be_ HB); clear HB; have HB := n0_; have BK304 := n1_; have GW304 := n2_; have GE304 := n3_; clear n0_ n1_ n2_ n3_; clear hb hbox hg; have hcz33_0 : w32.cell? ⟨gb304, 0, none⟩ = some (.int .i64 a0_0) := (blk_cell BK304.out 0).trans rfl; have hcz33_1 : w32.cell? ⟨gb304, 1, none⟩ = some (.int .i64 a0_1) := (blk_cell BK304.out 1).trans rfl; have hcz33_2 : w32.cell? ⟨gb304, 2, none⟩ = some (.string a0_2) := (blk_cell BK304.out 2).trans rfl; have hfz33_0 := blk_frozen BK304.out 0; have hfz33_1 := blk_frozen BK304.out 1; have hfz33_2 := blk_frozen BK304.out 2))
        go_ret
        exact ⟨by first | rfl | (simp [errW_none, errW_some] <;> rfl) | (simp [*, errW_none, errW_some] <;> rfl), by repeat (first | (with_reducible first | exact HB.out | apply below_alloc | apply pw_below_drewN | apply below_drew1 | refine below_set ?_ GE304.out) | exact HB.out)⟩
end Go.Proofs.Ytconpnagoijacaa.P
end
section
namespace Go.Proofs.Ytconpnagoijacaa.P
open Go.RowKit Go.Proofs.YtconpnagoijacaaW.PrintWords Go.Proofs.YtconpnagoijacaaW.PrintLast Go.Proofs.YtconpnagoijacaaW.PrintMore
attribute [local go_sem] max2_int min2_int max_two min_two max_three min_three max_four min_four
set_option linter.unusedVariables false
set_option linter.unusedSimpArgs false
attribute [local go_sem high] eqA40
mutual
def constableref01_Expr.l0 : Nat → List (S52) → Int → Int → Option (Bool)
  | 0, _, _, _ => none
  | k + 1, x0, x3, x4 => if x4 < (x0.length : Int) then (if 0 ≤ x4 then (if ((rd_T52 x0 x4).f0) = 1 then ((constableref01_Word.f k ((rd_T52 x0 x4).f1) true).bind fun t311 => (if t311 = true then (if (!(((rd_T52 x0 x4).f2.f0) == 0) || (!(((rd_T52 x0 x4).f2.f1) == 0) || (!((((rd_T52 x0 x4).f2.f2).toList) == ([] : List UInt8))))) = true then (some false) else (constableref01_Expr.l0 k x0 (wrap64 (x3 + 1)) (wrap64 (x4 + 1)))) else (some false))) else (if ((rd_T52 x0 x4).f0) = 2 then (if (((rd_T52 x0 x4).f1).size : Int) > 0 then (some false) else ((constableref01_Value.f k ((rd_T52 x0 x4).f2.f0) ((rd_T52 x0 x4).f2.f1) ((rd_T52 x0 x4).f2.f2)).bind fun t312 => (if t312 = true then (constableref01_Expr.l0 k x0 (wrap64 (x3 + 1)) (wrap64 (x4 + 1))) else (some false)))) else (if ((rd_T52 x0 x4).f0) = 3 then (constableref01_Expr.j1 k x0 x3 x4 (((rd_T52 x0 x4).f0) == 3) ((rd_T52 x0 x4).f0) ((rd_T52 x0 x4).f1) ((rd_T52 x0 x4).f2.f0) ((rd_T52 x0 x4).f2.f1) ((rd_T52 x0 x4).f2.f2)) else (if ((rd_T52 x0 x4).f0) = 4 then (constableref01_Expr.j1 k x0 x3 x4 (((rd_T52 x0 x4).f0) == 4) ((rd_T52 x0 x4).f0) ((rd_T52 x0 x4).f1) ((rd_T52 x0 x4).f2.f0) ((rd_T52 x0 x4).f2.f1) ((rd_T52 x0 x4).f2.f2)) else (constableref01_Expr.j1 k x0 x3 x4 (((rd_T52 x0 x4).f0) == 5) ((rd_T52 x0 x4).f0) ((rd_T52 x0 x4).f1) ((rd_T52 x0 x4).f2.f0) ((rd_T52 x0 x4).f2.f1) ((rd_T52 x0 x4).f2.f2)))))) else (none)) else (some (x3 == 1))
def constableref01_Expr.j1 : Nat → List (S52) → Int → Int → Bool → Int → ByteArray → Int → Int → ByteArray → Option (Bool)
  | 0, _, _, _, _, _, _, _, _, _ => none
  | k + 1, x0, x3, x4, x50, x311000, x311001, x311002, x311003, x311004 => if x50 = true then (if (x311001.size : Int) > 0 then (some false) else (if (!(x311002 == 0) || (!(x311003 == 0) || (!(x311004.toList == ([] : List UInt8))))) = true then (some false) else (if x3 < 2 then (some false) else (constableref01_Expr.l0 k x0 (wrap64 (x3 - 1)) (wrap64 (x4 + 1)))))) else (some false)
end
def constableref01_Expr.f (k : Nat) (l0 : List (S52)) : Option (Bool) := (constableref01_In.f (l0.length : Int) 1 15).bind fun t308 => (if t308 = true then (constableref01_Expr.l0 k l0 0 0) else (some false))
theorem constableref01_Expr.mono_l : ∀ k, (∀ y0 y1 y2, LeO (constableref01_Expr.l0 k y0 y1 y2) (constableref01_Expr.l0 (k + 1) y0 y1 y2)) ∧ (∀ y0 y1 y2 y3 y4 y5 y6 y7 y8, LeO (constableref01_Expr.j1 k y0 y1 y2 y3 y4 y5 y6 y7 y8) (constableref01_Expr.j1 (k + 1) y0 y1 y2 y3 y4 y5 y6 y7 y8))
  | 0 => ⟨fun _ _ _ r h => by simp [constableref01_Expr.l0] at h, fun _ _ _ _ _ _ _ _ _ r h => by simp [constableref01_Expr.j1] at h⟩
  | k + 1 => by
    obtain ⟨ih0, ih1⟩ := constableref01_Expr.mono_l k
    refine ⟨?_, ?_⟩
    · intro y0 y1 y2
      unfold constableref01_Expr.l0
      repeat' first
      | (with_reducible exact ih0 _ _ _)
      | (with_reducible exact ih1 _ _ _ _ _ _ _ _ _)
      | (with_reducible exact constableref01_Value.mono _ _ _ _)
      | (with_reducible exact constableref01_Word.mono _ _ _)
      | (with_reducible exact LeO.refl _)
      | (with_reducible exact LeO.none _)
      | (with_reducible refine LeO.ite ?_ ?_)
      | (with_reducible refine LeO.bind ?_ (fun _ => ?_))
      | exact ih0 _ _ _
      | exact ih1 _ _ _ _ _ _ _ _ _
      | exact constableref01_Value.mono _ _ _ _
      | exact constableref01_Word.mono _ _ _
      | exact LeO.none _
      | refine LeO.ite ?_ ?_
      | refine LeO.bind ?_ (fun _ => ?_)
    · intro y0 y1 y2 y3 y4 y5 y6 y7 y8
      unfold constableref01_Expr.j1
      repeat' first
      | (with_reducible exact ih0 _ _ _)
      | (with_reducible exact ih1 _ _ _ _ _ _ _ _ _)
      | (with_reducible exact constableref01_Value.mono _ _ _ _)
      | (with_reducible exact constableref01_Word.mono _ _ _)
      | (with_reducible exact LeO.refl _)
      | (with_reducible exact LeO.none _)
      | (with_reducible refine LeO.ite ?_ ?_)
      | (with_reducible refine LeO.bind ?_ (fun _ => ?_))
      | exact ih0 _ _ _
      | exact ih1 _ _ _ _ _ _ _ _ _
      | exact constableref01_Value.mono _ _ _ _
      | exact constableref01_Word.mono _ _ _
      | exact LeO.none _
      | refine LeO.ite ?_ ?_
      | refine LeO.bind ?_ (fun _ => ?_)
theorem constableref01_Expr.mono : ∀ a0 k, LeO (constableref01_Expr.f k a0) (constableref01_Expr.f (k + 1) a0) := by
  intro a0 k
  obtain ⟨ih0, ih1⟩ := constableref01_Expr.mono_l k
  unfold constableref01_Expr.f
  repeat' first
      | (with_reducible exact ih0 _ _ _)
      | (with_reducible exact ih1 _ _ _ _ _ _ _ _ _)
      | (with_reducible exact constableref01_Value.mono _ _ _ _)
      | (with_reducible exact constableref01_Word.mono _ _ _)
      | (with_reducible exact LeO.refl _)
      | (with_reducible exact LeO.none _)
      | (with_reducible refine LeO.ite ?_ ?_)
      | (with_reducible refine LeO.bind ?_ (fun _ => ?_))
      | exact ih0 _ _ _
      | exact ih1 _ _ _ _ _ _ _ _ _
      | exact constableref01_Value.mono _ _ _ _
      | exact constableref01_Word.mono _ _ _
      | exact LeO.none _
      | refine LeO.ite ?_ ?_
      | refine LeO.bind ?_ (fun _ => ?_)
set_option maxHeartbeats 8000000 in
set_option maxRecDepth 100000 in
theorem constableref01_Expr.calls (k : Nat) (A0 : Option Addr) (c0 : Nat) (l0 : List (S52)) (r : Bool) (w : World) (hr0 : Kd.C k52 w A0 l0.length l0) (hc0 : l0.length ≤ c0) (h : constableref01_Expr.f k l0 = some r) :
    Calls Try.prog 27 #[.slice A0 l0.length c0] w fun e w' => e = .returned (.bool r) ∧ Below w.heap.size w w' := by
  have hu52 := Try.underlying52
  have hu40 := Try.underlying40
  have HR0 := Aside0.mk hr0
  have HC0 := Aside0.mk hc0
  clear hr0 hc0
  have HB := Aside0.mk (Below.refl w.heap.size w)
  have H : ((constableref01_In.f (l0.length : Int) 1 15).bind fun t308 => (if t308 = true then (constableref01_Expr.l0 k l0 0 0) else (some false))) = some r := h
  clear h
  replace H := Option.bind_eq_some_iff.mp H
  obtain ⟨t308, A20, H⟩ := H
  replace H : (if t308 = true then (constableref01_Expr.l0 k l0 0 0) else (some false)) = some r := H
  have A2 := Aside0.mk A20
  clear A20
  by_cases c3 : t308 = true
  · subst c3
    have H1 : (constableref01_Expr.l0 k l0 0 0) = some r := by rw [if_pos rfl] at H; exact H
    clear H
    have H := H1
    clear H1
    have H' := Aside0.mk H
    clear H
    go_enter Try.func27, Try.ntmps27
    go_wp2_with (first | ((with_reducible refine gate_callee (f := 38) rfl ?_); refine goesL_ (some 8) rfl rfl Try.func38 (by kernel_rfl) rfl #[.int .i64 (l0.length : Int), .int .i64 1, .int .i64 15] rfl ga_ ?_; (with_reducible refine (constableref01_In.calls (l0.length : Int) 1 15 true _ A2.out).mono ?_); rintro e w' ⟨rfl, ⟨nd, rfl⟩⟩; refine ⟨_, rfl, ?_⟩))
    go_loopg [3, 4] k (fun kq v3 v4 w' => ∃ (x3_1 : Int) (x4_1 : Int), v3 = .int .i64 x3_1 ∧ v4 = .int .i64 x4_1 ∧ Aside0 (constableref01_Expr.l0 kq l0 x3_1 x4_1 = some r) ∧ Aside0 (kq ≤ k) ∧ Aside0 (Below w.heap.size w w'))
    case atStart => exact ⟨(0), (0), ra_, ra_, H', ⟨Nat.le_refl _⟩, ⟨by repeat (first | (with_reducible first | exact HB.out | apply below_alloc | apply pw_below_drewN | apply below_drew1) | exact HB.out)⟩⟩
    case round =>
      clear H'
      try clear c2
      try clear p2
      try clear c3
      obtain ⟨x3_1, x4_1, rfl, rfl, HA, HK1, HB⟩ := hrel
      cases gk with
      | zero => exact absurd HA.out (by simp [constableref01_Expr.l0])
      | succ k1 =>
        have H := HA.out
        clear HA
        simp only [constableref01_Expr.l0] at H
        by_cases c4 : x4_1 < (l0.length : Int)
        · rw [if_pos c4] at H
          have c4b0 : decide (x4_1 < (l0.length : Int)) = true := decide_eq_true c4
          clear c4
          by_cases c5 : 0 ≤ x4_1
          · rw [if_pos c5] at H
            have c5b0 : decide (0 ≤ x4_1) = true := decide_eq_true c5
            clear c5
            by_cases c6 : ((rd_T52 l0 x4_1).f0) = 1
            · rw [if_pos c6] at H
              obtain ⟨c6b0, c6b1⟩ := eqB_ c6
              clear c6
              replace H := Option.bind_eq_some_iff.mp H
              obtain ⟨t311, A70, H⟩ := H
              replace H : (if t311 = true then (if (!(((rd_T52 l0 x4_1).f2.f0) == 0) || (!(((rd_T52 l0 x4_1).f2.f1) == 0) || (!((((rd_T52 l0 x4_1).f2.f2).toList) == ([] : List UInt8))))) = true then (some false) else (constableref01_Expr.l0 k1 l0 (wrap64 (x3_1 + 1)) (wrap64 (x4_1 + 1)))) else (some false)) = some r := H
              have A7 := Aside0.mk A70
              clear A70
              by_cases c8 : t311 = true
              · subst c8
                have H1 : (if (!(((rd_T52 l0 x4_1).f2.f0) == 0) || (!(((rd_T52 l0 x4_1).f2.f1) == 0) || (!((((rd_T52 l0 x4_1).f2.f2).toList) == ([] : List UInt8))))) = true then (some false) else (constableref01_Expr.l0 k1 l0 (wrap64 (x3_1 + 1)) (wrap64 (x4_1 + 1)))) = some r := by rw [if_pos rfl] at H; exact H
                clear H
                have H := H1
                clear H1
                by_cases c9 : (!(((rd_T52 l0 x4_1).f2.f0) == 0) || (!(((rd_T52 l0 x4_1).f2.f1) == 0) || (!((((rd_T52 l0 x4_1).f2.f2).toList) == ([] : List UInt8))))) = true
                · rw [if_pos c9] at H
                  have c9b0 : (!(((rd_T52 l0 x4_1).f2.f0) == 0) || (!(((rd_T52 l0 x4_1).f2.f1) == 0) || (!((((rd_T52 l0 x4_1).f2.f2).toList) == ([] : List UInt8))))) = true := c9
                  (try (have c9b1 : (!(((rd_T52 l0 x4_1).f2.f0) == 0) || (!(((rd_T52 l0 x4_1).f2.f1) == 0) || (!((((rd_T52 l0 x4_1).f2.f2).toList).isEmpty)))) = true := by first | simpa using c9 | (simp at c9 ⊢; exact c9)))
                  clear c9
                  obtain rfl := Option.some.inj H
                  have p309 : 0 ≤ (x4_1 : Int) := dt_
                  have q309 : x4_1 < (l0.length : Int) := dt_
                  obtain ⟨ad309, e309, hx309_0, hx309_1, hx309_2, hx309_3, hx309_4⟩ := at_T52 HR0.out x4_1 p309 q309
                  cases e309
                  replace hx309_0 := cm_ HB hx309_0
                  replace hx309_1 := cm_ HB hx309_1
                  replace hx309_2 := cm_ HB hx309_2
                  replace hx309_3 := cm_ HB hx309_3
                  replace hx309_4 := cm_ HB hx309_4
                  replace p309 := eq_true p309
                  replace q309 := eq_true q309
                  go_wp2_with (first | ((with_reducible refine gate_dst (N := 5) rfl ?_); refine box_event ?hg (N := 5) ?hd (cs := #[.int .i64 0, .string (⟨#[]⟩ : ByteArray), .int .i64 0, .int .i64 0, .string (⟨#[]⟩ : ByteArray)]) (t := 52) ?hr ?_; (case hd => rfl); (case hg => rfl); (case hr => first | (go_simp; done) | (go_simp; rfl)); intro gb310 hg w10 hbox hb; have n0_ := bs_ (be_ HB) hb; have n1_ := Aside0.mk (hbox); have n2_ := gs_ hg (be_ HB); have n3_ := gs_ hg (be_ HB); clear HB; have HB := n0_; have BK310 := n1_; have GW310 := n2_; have GE310 := n3_; clear n0_ n1_ n2_ n3_; clear hb hbox hg; have hcz11_0 : w10.cell? ⟨gb310, 0, none⟩ = some (.int .i64 0) := (blk_cell BK310.out 0).trans rfl; have hcz11_1 : w10.cell? ⟨gb310, 1, none⟩ = some (.string (⟨#[]⟩ : ByteArray)) := (blk_cell BK310.out 1).trans rfl; have hcz11_2 : w10.cell? ⟨gb310, 2, none⟩ = some (.int .i64 0) := (blk_cell BK310.out 2).trans rfl; have hcz11_3 : w10.cell? ⟨gb310, 3, none⟩ = some (.int .i64 0) := (blk_cell BK310.out 3).trans rfl; have hcz11_4 : w10.cell? ⟨gb310, 4, none⟩ = some (.string (⟨#[]⟩ : ByteArray)) := (blk_cell BK310.out 4).trans rfl; have hfz11_0 := blk_frozen BK310.out 0; have hfz11_1 := blk_frozen BK310.out 1; have hfz11_2 := blk_frozen BK310.out 2; have hfz11_3 := blk_frozen BK310.out 3; have hfz11_4 := blk_frozen BK310.out 4) | ((with_reducible refine gate_callee (f := 45) rfl ?_); refine goesL_ (some 26) rfl rfl Try.func45 (by kernel_rfl) rfl #[.string ((rd_T52 l0 x4_1).f1), .bool true] rfl ga_ ?_; (with_reducible refine (constableref01_Word.calls k1 ((rd_T52 l0 x4_1).f1) true true _ A7.out).mono ?_); rintro e w' ⟨rfl, ⟨nd, rfl⟩⟩; refine ⟨_, rfl, ?_⟩))
                  go_ret
                  exact ⟨by first | rfl | (simp [errW_none, errW_some] <;> rfl) | (simp [*, errW_none, errW_some] <;> rfl), by repeat (first | (with_reducible first | exact HB.out | apply below_alloc | apply pw_below_drewN | apply below_drew1 | refine below_set ?_ GE310.out) | exact HB.out)⟩
                · rw [if_neg c9] at H
                  have c9b0 : (!(((rd_T52 l0 x4_1).f2.f0) == 0) || (!(((rd_T52 l0 x4_1).f2.f1) == 0) || (!((((rd_T52 l0 x4_1).f2.f2).toList) == ([] : List UInt8))))) = false := by simpa using c9
                  (try (have c9b1 : (!(((rd_T52 l0 x4_1).f2.f0) == 0) || (!(((rd_T52 l0 x4_1).f2.f1) == 0) || (!((((rd_T52 l0 x4_1).f2.f2).toList).isEmpty)))) = false := by first | simpa using c9 | (simp at c9 ⊢; exact c9)))
                  clear c9
                  have H' := Aside0.mk H
                  clear H
                  have p309 : 0 ≤ (x4_1 : Int) := dt_
                  have q309 : x4_1 < (l0.length : Int) := dt_
                  obtain ⟨ad309, e309, hx309_0, hx309_1, hx309_2, hx309_3, hx309_4⟩ := at_T52 HR0.out x4_1 p309 q309
                  cases e309
                  replace hx309_0 := cm_ HB hx309_0
                  replace hx309_1 := cm_ HB hx309_1
                  replace hx309_2 := cm_ HB hx309_2
                  replace hx309_3 := cm_ HB hx309_3
                  replace hx309_4 := cm_ HB hx309_4
                  replace p309 := eq_true p309
                  replace q309 := eq_true q309
                  go_wp2_with (first | ((with_reducible refine gate_dst (N := 5) rfl ?_); refine box_event ?hg (N := 5) ?hd (cs := #[.int .i64 0, .string (⟨#[]⟩ : ByteArray), .int .i64 0, .int .i64 0, .string (⟨#[]⟩ : ByteArray)]) (t := 52) ?hr ?_; (case hd => rfl); (case hg => rfl); (case hr => first | (go_simp; done) | (go_simp; rfl)); intro gb310 hg w12 hbox hb; have n0_ := bs_ (be_ HB) hb; have n1_ := Aside0.mk (hbox); have n2_ := gs_ hg (be_ HB); have n3_ := gs_ hg (be_ HB); clear HB; have HB := n0_; have BK310 := n1_; have GW310 := n2_; have GE310 := n3_; clear n0_ n1_ n2_ n3_; clear hb hbox hg; have hcz13_0 : w12.cell? ⟨gb310, 0, none⟩ = some (.int .i64 0) := (blk_cell BK310.out 0).trans rfl; have hcz13_1 : w12.cell? ⟨gb310, 1, none⟩ = some (.string (⟨#[]⟩ : ByteArray)) := (blk_cell BK310.out 1).trans rfl; have hcz13_2 : w12.cell? ⟨gb310, 2, none⟩ = some (.int .i64 0) := (blk_cell BK310.out 2).trans rfl; have hcz13_3 : w12.cell? ⟨gb310, 3, none⟩ = some (.int .i64 0) := (blk_cell BK310.out 3).trans rfl; have hcz13_4 : w12.cell? ⟨gb310, 4, none⟩ = some (.string (⟨#[]⟩ : ByteArray)) := (blk_cell BK310.out 4).trans rfl; have hfz13_0 := blk_frozen BK310.out 0; have hfz13_1 := blk_frozen BK310.out 1; have hfz13_2 := blk_frozen BK310.out 2; have hfz13_3 := blk_frozen BK310.out 3; have hfz13_4 := blk_frozen BK310.out 4) | ((with_reducible refine gate_callee (f := 45) rfl ?_); refine goesL_ (some 26) rfl rfl Try.func45 (by kernel_rfl) rfl #[.string ((rd_T52 l0 x4_1).f1), .bool true] rfl ga_ ?_; (with_reducible refine (constableref01_Word.calls k1 ((rd_T52 l0 x4_1).f1) true true _ A7.out).mono ?_); rintro e w' ⟨rfl, ⟨nd, rfl⟩⟩; refine ⟨_, rfl, ?_⟩))
                  go_roundg k1
                  case measure => have := HK1.out; omega
                  case rel => exact ⟨(wrap64 (x3_1 + 1)), (wrap64 (x4_1 + 1)), ra_, ra_, H', ⟨by have := HK1.out; omega⟩, ⟨by repeat (first | (with_reducible first | exact HB.out | apply below_alloc | apply pw_below_drewN | apply below_drew1 | refine below_set ?_ GE310.out) | exact HB.out)⟩⟩
              · replace c8 := Bool.eq_false_iff.mpr c8
                subst c8
                have H1 : (some false) = some r := by rw [if_neg (show ¬ (false = true) by decide)] at H; exact H
                clear H
                have H := H1
                clear H1
                obtain rfl := Option.some.inj H
                have p309 : 0 ≤ (x4_1 : Int) := dt_
                have q309 : x4_1 < (l0.length : Int) := dt_
                obtain ⟨ad309, e309, hx309_0, hx309_1, hx309_2, hx309_3, hx309_4⟩ := at_T52 HR0.out x4_1 p309 q309
                cases e309
                replace hx309_0 := cm_ HB hx309_0
                replace hx309_1 := cm_ HB hx309_1
                replace hx309_2 := cm_ HB hx309_2
                replace hx309_3 := cm_ HB hx309_3
                replace hx309_4 := cm_ HB hx309_4
                replace p309 := eq_true p309
                replace q309 := eq_true q309
                go_wp2_with (first | ((with_reducible refine gate_dst (N := 5) rfl ?_); refine box_event ?hg (N := 5) ?hd (cs := #[.int .i64 0, .string (⟨#[]⟩ : ByteArray), .int .i64 0, .int .i64 0, .string (⟨#[]⟩ : ByteArray)]) (t := 52) ?hr ?_; (case hd => rfl); (case hg => rfl); (case hr => first | (go_simp; done) | (go_simp; rfl)); intro gb310 hg w14 hbox hb; have n0_ := bs_ (be_ HB) hb; have n1_ := Aside0.mk (hbox); have n2_ := gs_ hg (be_ HB); have n3_ := gs_ hg (be_ HB); clear HB; have HB := n0_; have BK310 := n1_; have GW310 := n2_; have GE310 := n3_; clear n0_ n1_ n2_ n3_; clear hb hbox hg; have hcz15_0 : w14.cell? ⟨gb310, 0, none⟩ = some (.int .i64 0) := (blk_cell BK310.out 0).trans rfl; have hcz15_1 : w14.cell? ⟨gb310, 1, none⟩ = some (.string (⟨#[]⟩ : ByteArray)) := (blk_cell BK310.out 1).trans rfl; have hcz15_2 : w14.cell? ⟨gb310, 2, none⟩ = some (.int .i64 0) := (blk_cell BK310.out 2).trans rfl; have hcz15_3 : w14.cell? ⟨gb310, 3, none⟩ = some (.int .i64 0) := (blk_cell BK310.out 3).trans rfl; have hcz15_4 : w14.cell? ⟨gb310, 4, none⟩ = some (.string (⟨#[]⟩ : ByteArray)) := (blk_cell BK310.out 4).trans rfl; have hfz15_0 := blk_frozen BK310.out 0; have hfz15_1 := blk_frozen BK310.out 1; have hfz15_2 := blk_frozen BK310.out 2; have hfz15_3 := blk_frozen BK310.out 3; have hfz15_4 := blk_frozen BK310.out 4) | ((with_reducible refine gate_callee (f := 45) rfl ?_); refine goesL_ (some 26) rfl rfl Try.func45 (by kernel_rfl) rfl #[.string ((rd_T52 l0 x4_1).f1), .bool true] rfl ga_ ?_; (with_reducible refine (constableref01_Word.calls k1 ((rd_T52 l0 x4_1).f1) true false _ A7.out).mono ?_); rintro e w' ⟨rfl, ⟨nd, rfl⟩⟩; refine ⟨_, rfl, ?_⟩))
                go_ret
                exact ⟨by first | rfl | (simp [errW_none, errW_some] <;> rfl) | (simp [*, errW_none, errW_some] <;> rfl), by repeat (first | (with_reducible first | exact HB.out | apply below_alloc | apply pw_below_drewN | apply below_drew1 | refine below_set ?_ GE310.out) | exact HB.out)⟩
            · rw [if_neg c6] at H
              obtain ⟨c6b0, c6b1⟩ := neB_ c6
              by_cases c16 : ((rd_T52 l0 x4_1).f0) = 2
              · rw [if_pos c16] at H
                obtain ⟨c16b0, c16b1⟩ := eqB_ c16
                clear c16
                by_cases c17 : (((rd_T52 l0 x4_1).f1).size : Int) > 0
                · rw [if_pos c17] at H
                  have c17b0 : decide (0 < (((rd_T52 l0 x4_1).f1).size : Int)) = true := decide_eq_true c17
                  have c17b1 : decide (0 < ((rd_T52 l0 x4_1).f1).size) = true := decide_eq_true (by omega)
                  clear c17
                  obtain rfl := Option.some.inj H
                  have p309 : 0 ≤ (x4_1 : Int) := dt_
                  have q309 : x4_1 < (l0.length : Int) := dt_
                  obtain ⟨ad309, e309, hx309_0, hx309_1, hx309_2, hx309_3, hx309_4⟩ := at_T52 HR0.out x4_1 p309 q309
                  cases e309
                  replace hx309_0 := cm_ HB hx309_0
                  replace hx309_1 := cm_ HB hx309_1
                  replace hx309_2 := cm_ HB hx309_2
                  replace hx309_3 := cm_ HB hx309_3
                  replace hx309_4 := cm_ HB hx309_4
                  replace p309 := eq_true p309
                  replace q309 := eq_true q309
                  go_wp2_with (first | ((with_reducible refine gate_dst (N := 5) rfl ?_); refine box_event ?hg (N := 5) ?hd (cs := #[.int .i64 0, .string (⟨#[]⟩ : ByteArray), .int .i64 0, .int .i64 0, .string (⟨#[]⟩ : ByteArray)]) (t := 52) ?hr ?_; (case hd => rfl); (case hg => rfl); (case hr => first | (go_simp; done) | (go_simp; rfl)); intro gb310 hg w18 hbox hb; have n0_ := bs_ (be_ HB) hb; have n1_ := Aside0.mk (hbox); have n2_ := gs_ hg (be_ HB); have n3_ := gs_ hg (be_ HB); clear HB; have HB := n0_; have BK310 := n1_; have GW310 := n2_; have GE310 := n3_; clear n0_ n1_ n2_ n3_; clear hb hbox hg; have hcz19_0 : w18.cell? ⟨gb310, 0, none⟩ = some (.int .i64 0) := (blk_cell BK310.out 0).trans rfl; have hcz19_1 : w18.cell? ⟨gb310, 1, none⟩ = some (.string (⟨#[]⟩ : ByteArray)) := (blk_cell BK310.out 1).trans rfl; have hcz19_2 : w18.cell? ⟨gb310, 2, none⟩ = some (.int .i64 0) := (blk_cell BK310.out 2).trans rfl; have hcz19_3 : w18.cell? ⟨gb310, 3, none⟩ = some (.int .i64 0) := (blk_cell BK310.out 3).trans rfl; have hcz19_4 : w18.cell? ⟨gb310, 4, none⟩ = some (.string (⟨#[]⟩ : ByteArray)) := (blk_cell BK310.out 4).trans rfl; have hfz19_0 := blk_frozen BK310.out 0; have hfz19_1 := blk_frozen BK310.out 1; have hfz19_2 := blk_frozen BK310.out 2; have hfz19_3 := blk_frozen BK310.out 3; have hfz19_4 := blk_frozen BK310.out 4))
                  go_ret
                  exact ⟨by first | rfl | (simp [errW_none, errW_some] <;> rfl) | (simp [*, errW_none, errW_some] <;> rfl), by repeat (first | (with_reducible first | exact HB.out | apply below_alloc | apply pw_below_drewN | apply below_drew1 | refine below_set ?_ GE310.out) | exact HB.out)⟩
                · rw [if_neg c17] at H
                  have c17b0 : decide (0 < (((rd_T52 l0 x4_1).f1).size : Int)) = false := decide_eq_false c17
                  have c17b1 : decide (0 < ((rd_T52 l0 x4_1).f1).size) = false := decide_eq_false (by omega)
                  clear c17
                  replace H := Option.bind_eq_some_iff.mp H
                  obtain ⟨t312, A200, H⟩ := H
                  replace H : (if t312 = true then (constableref01_Expr.l0 k1 l0 (wrap64 (x3_1 + 1)) (wrap64 (x4_1 + 1))) else (some false)) = some r := H
                  have A20 := Aside0.mk A200
                  clear A200
                  by_cases c21 : t312 = true
                  · subst c21
                    have H1 : (constableref01_Expr.l0 k1 l0 (wrap64 (x3_1 + 1)) (wrap64 (x4_1 + 1))) = some r := by rw [if_pos rfl] at H; exact H
                    clear H
                    have H := H1
                    clear H1
                    have H' := Aside0.mk H
                    clear H
                    have p309 : 0 ≤ (x4_1 : Int) := dt_
                    have q309 : x4_1 < (l0.length : Int) := dt_
                    obtain ⟨ad309, e309, hx309_0, hx309_1, hx309_2, hx309_3, hx309_4⟩ := at_T52 HR0.out x4_1 p309 q309
                    cases e309
                    replace hx309_0 := cm_ HB hx309_0
                    replace hx309_1 := cm_ HB hx309_1
                    replace hx309_2 := cm_ HB hx309_2
                    replace hx309_3 := cm_ HB hx309_3
                    replace hx309_4 := cm_ HB hx309_4
                    replace p309 := eq_true p309
                    replace q309 := eq_true q309
                    go_wp2_with (first | ((with_reducible refine gate_dst (N := 5) rfl ?_); refine box_event ?hg (N := 5) ?hd (cs := #[.int .i64 0, .string (⟨#[]⟩ : ByteArray), .int .i64 0, .int .i64 0, .string (⟨#[]⟩ : ByteArray)]) (t := 52) ?hr ?_; (case hd => rfl); (case hg => rfl); (case hr => first | (go_simp; done) | (go_simp; rfl)); intro gb310 hg w22 hbox hb; have n0_ := bs_ (be_ HB) hb; have n1_ := Aside0.mk (hbox); have n2_ := gs_ hg (be_ HB); have n3_ := gs_ hg (be_ HB); clear HB; have HB := n0_; have BK310 := n1_; have GW310 := n2_; have GE310 := n3_; clear n0_ n1_ n2_ n3_; clear hb hbox hg; have hcz23_0 : w22.cell? ⟨gb310, 0, none⟩ = some (.int .i64 0) := (blk_cell BK310.out 0).trans rfl; have hcz23_1 : w22.cell? ⟨gb310, 1, none⟩ = some (.string (⟨#[]⟩ : ByteArray)) := (blk_cell BK310.out 1).trans rfl; have hcz23_2 : w22.cell? ⟨gb310, 2, none⟩ = some (.int .i64 0) := (blk_cell BK310.out 2).trans rfl; have hcz23_3 : w22.cell? ⟨gb310, 3, none⟩ = some (.int .i64 0) := (blk_cell BK310.out 3).trans rfl; have hcz23_4 : w22.cell? ⟨gb310, 4, none⟩ = some (.string (⟨#[]⟩ : ByteArray)) := (blk_cell BK310.out 4).trans rfl; have hfz23_0 := blk_frozen BK310.out 0; have hfz23_1 := blk_frozen BK310.out 1; have hfz23_2 := blk_frozen BK310.out 2; have hfz23_3 := blk_frozen BK310.out 3; have hfz23_4 := blk_frozen BK310.out 4) | (go_at_call 46; (with_reducible refine (constableref01_Value.calls k1 ((rd_T52 l0 x4_1).f2.f0) ((rd_T52 l0 x4_1).f2.f1) ((rd_T52 l0 x4_1).f2.f2) true _ A20.out).mono ?_); rintro e w24 ⟨rfl, hb⟩; have n0_ := Aside0.mk (blk_below (o := .cells #[.int .i64 ((rd_T52 l0 x4_1).f0), .string ((rd_T52 l0 x4_1).f1), .int .i64 ((rd_T52 l0 x4_1).f2.f0), .int .i64 ((rd_T52 l0 x4_1).f2.f1), .string ((rd_T52 l0 x4_1).f2.f2)] 52 (0, 0)) (bp_ BK310) hb); have n1_ := bs_ (be_ HB) hb; clear BK310; clear HB; have BK310 := n0_; have HB := n1_; clear n0_ n1_; (try clear hb); (try clear hb2); (try clear hk); (try clear hi)))
                    go_roundg k1
                    case measure => have := HK1.out; omega
                    case rel => exact ⟨(wrap64 (x3_1 + 1)), (wrap64 (x4_1 + 1)), ra_, ra_, H', ⟨by have := HK1.out; omega⟩, ⟨by repeat (first | (with_reducible first | exact HB.out | apply below_alloc | apply pw_below_drewN | apply below_drew1 | refine below_set ?_ GE310.out) | exact HB.out)⟩⟩
                  · replace c21 := Bool.eq_false_iff.mpr c21
                    subst c21
                    have H1 : (some false) = some r := by rw [if_neg (show ¬ (false = true) by decide)] at H; exact H
                    clear H
                    have H := H1
                    clear H1
                    obtain rfl := Option.some.inj H
                    have p309 : 0 ≤ (x4_1 : Int) := dt_
                    have q309 : x4_1 < (l0.length : Int) := dt_
                    obtain ⟨ad309, e309, hx309_0, hx309_1, hx309_2, hx309_3, hx309_4⟩ := at_T52 HR0.out x4_1 p309 q309
                    cases e309
                    replace hx309_0 := cm_ HB hx309_0
                    replace hx309_1 := cm_ HB hx309_1
                    replace hx309_2 := cm_ HB hx309_2
                    replace hx309_3 := cm_ HB hx309_3
                    replace hx309_4 := cm_ HB hx309_4
                    replace p309 := eq_true p309
                    replace q309 := eq_true q309
                    go_wp2_with (first | ((with_reducible refine gate_dst (N := 5) rfl ?_); refine box_event ?hg (N := 5) ?hd (cs := #[.int .i64 0, .string (⟨#[]⟩ : ByteArray), .int .i64 0, .int .i64 0, .string (⟨#[]⟩ : ByteArray)]) (t := 52) ?hr ?_; (case hd => rfl); (case hg => rfl); (case hr => first | (go_simp; done) | (go_simp; rfl)); intro gb310 hg w25 hbox hb; have n0_ := bs_ (be_ HB) hb; have n1_ := Aside0.mk (hbox); have n2_ := gs_ hg (be_ HB); have n3_ := gs_ hg (be_ HB); clear HB; have HB := n0_; have BK310 := n1_; have GW310 := n2_; have GE310 := n3_; clear n0_ n1_ n2_ n3_; clear hb hbox hg; have hcz26_0 : w25.cell? ⟨gb310, 0, none⟩ = some (.int .i64 0) := (blk_cell BK310.out 0).trans rfl; have hcz26_1 : w25.cell? ⟨gb310, 1, none⟩ = some (.string (⟨#[]⟩ : ByteArray)) := (blk_cell BK310.out 1).trans rfl; have hcz26_2 : w25.cell? ⟨gb310, 2, none⟩ = some (.int .i64 0) := (blk_cell BK310.out 2).trans rfl; have hcz26_3 : w25.cell? ⟨gb310, 3, none⟩ = some (.int .i64 0) := (blk_cell BK310.out 3).trans rfl; have hcz26_4 : w25.cell? ⟨gb310, 4, none⟩ = some (.string (⟨#[]⟩ : ByteArray)) := (blk_cell BK310.out 4).trans rfl; have hfz26_0 := blk_frozen BK310.out 0; have hfz26_1 := blk_frozen BK310.out 1; have hfz26_2 := blk_frozen BK310.out 2; have hfz26_3 := blk_frozen BK310.out 3; have hfz26_4 := blk_frozen BK310.out 4) | (go_at_call 46; (with_reducible refine (constableref01_Value.calls k1 ((rd_T52 l0 x4_1).f2.f0) ((rd_T52 l0 x4_1).f2.f1) ((rd_T52 l0 x4_1).f2.f2) false _ A20.out).mono ?_); rintro e w27 ⟨rfl, hb⟩; have n0_ := Aside0.mk (blk_below (o := .cells #[.int .i64 ((rd_T52 l0 x4_1).f0), .string ((rd_T52 l0 x4_1).f1), .int .i64 ((rd_T52 l0 x4_1).f2.f0), .int .i64 ((rd_T52 l0 x4_1).f2.f1), .string ((rd_T52 l0 x4_1).f2.f2)] 52 (0, 0)) (bp_ BK310) hb); have n1_ := bs_ (be_ HB) hb; clear BK310; clear HB; have BK310 := n0_; have HB := n1_; clear n0_ n1_; (try clear hb); (try clear hb2); (try clear hk); (try clear hi)))
                    go_ret
                    exact ⟨by first | rfl | (simp [errW_none, errW_some] <;> rfl) | (simp [*, errW_none, errW_some] <;> rfl), by repeat (first | (with_reducible first | exact HB.out | apply below_alloc | apply pw_below_drewN | apply below_drew1 | refine below_set ?_ GE310.out) | exact HB.out)⟩
              · rw [if_neg c16] at H
                obtain ⟨c16b0, c16b1⟩ := neB_ c16
                have HC28 := Aside0.mk H
                clear H
                have p309 : 0 ≤ (x4_1 : Int) := dt_
                have q309 : x4_1 < (l0.length : Int) := dt_
                obtain ⟨ad309, e309, hx309_0, hx309_1, hx309_2, hx309_3, hx309_4⟩ := at_T52 HR0.out x4_1 p309 q309
                cases e309
                replace hx309_0 := cm_ HB hx309_0
                replace hx309_1 := cm_ HB hx309_1
                replace hx309_2 := cm_ HB hx309_2
                replace hx309_3 := cm_ HB hx309_3
                replace hx309_4 := cm_ HB hx309_4
                replace p309 := eq_true p309
                replace q309 := eq_true q309
                go_upto_if 50 with (first | ((with_reducible refine gate_dst (N := 5) rfl ?_); refine box_event ?hg (N := 5) ?hd (cs := #[.int .i64 0, .string (⟨#[]⟩ : ByteArray), .int .i64 0, .int .i64 0, .string (⟨#[]⟩ : ByteArray)]) (t := 52) ?hr ?_; (case hd => rfl); (case hg => rfl); (case hr => first | (go_simp; done) | (go_simp; rfl)); intro gb310 hg w29 hbox hb; have n0_ := bs_ (be_ HB) hb; have n1_ := Aside0.mk (hbox); have n2_ := gs_ hg (be_ HB); have n3_ := gs_ hg (be_ HB); clear HB; have HB := n0_; have BK310 := n1_; have GW310 := n2_; have GE310 := n3_; clear n0_ n1_ n2_ n3_; clear hb hbox hg; have hcz30_0 : w29.cell? ⟨gb310, 0, none⟩ = some (.int .i64 0) := (blk_cell BK310.out 0).trans rfl; have hcz30_1 : w29.cell? ⟨gb310, 1, none⟩ = some (.string (⟨#[]⟩ : ByteArray)) := (blk_cell BK310.out 1).trans rfl; have hcz30_2 : w29.cell? ⟨gb310, 2, none⟩ = some (.int .i64 0) := (blk_cell BK310.out 2).trans rfl; have hcz30_3 : w29.cell? ⟨gb310, 3, none⟩ = some (.int .i64 0) := (blk_cell BK310.out 3).trans rfl; have hcz30_4 : w29.cell? ⟨gb310, 4, none⟩ = some (.string (⟨#[]⟩ : ByteArray)) := (blk_cell BK310.out 4).trans rfl; have hfz30_0 := blk_frozen BK310.out 0; have hfz30_1 := blk_frozen BK310.out 1; have hfz30_2 := blk_frozen BK310.out 2; have hfz30_3 := blk_frozen BK310.out 3; have hfz30_4 := blk_frozen BK310.out 4))
                (try simp only [Act.put, List.setIfInBounds_toArray, List.set_cons_zero, List.set_cons_succ])
                go_cut [50] (fun v50 wc => ∃ (kq : Nat) (x50_27 : Bool), v50 = .bool x50_27 ∧ Aside0 (constableref01_Expr.j1 kq l0 x3_1 x4_1 x50_27 ((rd_T52 l0 x4_1).f0) ((rd_T52 l0 x4_1).f1) ((rd_T52 l0 x4_1).f2.f0) ((rd_T52 l0 x4_1).f2.f1) ((rd_T52 l0 x4_1).f2.f2) = some r) ∧ Aside0 (kq ≤ k1) ∧ Aside0 (wc.heap[gb310]? = some (.cells #[.int .i64 ((rd_T52 l0 x4_1).f0), .string ((rd_T52 l0 x4_1).f1), .int .i64 ((rd_T52 l0 x4_1).f2.f0), .int .i64 ((rd_T52 l0 x4_1).f2.f1), .string ((rd_T52 l0 x4_1).f2.f2)] 52 (0, 0))) ∧ Aside0 (Below w.heap.size w wc))
                case first =>
                  have H := HC28.out
                  clear HC28
                  by_cases c31 : ((rd_T52 l0 x4_1).f0) = 3
                  · rw [if_pos c31] at H
                    obtain ⟨c31b0, c31b1⟩ := eqB_ c31
                    clear c31
                    (first | rw [c31b0] | (simp only [i64_w, i32_w]; rw [c31b0]) | skip)
                    have H' := Aside0.mk H
                    clear H
                    go_wp2
                    go_meet
                    case rel => exact ⟨_, ((((rd_T52 l0 x4_1).f0) == 3)), ra_, H', ⟨by have := HK1.out; first | omega | exact Nat.le_refl _⟩, ⟨by (with_reducible repeat (first | refine blk_drewN ?_ _ | refine blk_drew ?_ | refine blk_alloc ?_ _)); refine blk_put (cs := #[.int .i64 ((rd_T52 l0 x4_1).f0), .string ((rd_T52 l0 x4_1).f1), .int .i64 ((rd_T52 l0 x4_1).f2.f0), .int .i64 ((rd_T52 l0 x4_1).f2.f1), .string (⟨#[]⟩ : ByteArray)]) ?_ 4 _ rfl; (with_reducible repeat (first | refine blk_drewN ?_ _ | refine blk_drew ?_ | refine blk_alloc ?_ _)); refine blk_put (cs := #[.int .i64 ((rd_T52 l0 x4_1).f0), .string ((rd_T52 l0 x4_1).f1), .int .i64 ((rd_T52 l0 x4_1).f2.f0), .int .i64 0, .string (⟨#[]⟩ : ByteArray)]) ?_ 3 _ rfl; (with_reducible repeat (first | refine blk_drewN ?_ _ | refine blk_drew ?_ | refine blk_alloc ?_ _)); refine blk_put (cs := #[.int .i64 ((rd_T52 l0 x4_1).f0), .string ((rd_T52 l0 x4_1).f1), .int .i64 0, .int .i64 0, .string (⟨#[]⟩ : ByteArray)]) ?_ 2 _ rfl; (with_reducible repeat (first | refine blk_drewN ?_ _ | refine blk_drew ?_ | refine blk_alloc ?_ _)); refine blk_put (cs := #[.int .i64 ((rd_T52 l0 x4_1).f0), .string (⟨#[]⟩ : ByteArray), .int .i64 0, .int .i64 0, .string (⟨#[]⟩ : ByteArray)]) ?_ 1 _ rfl; (with_reducible repeat (first | refine blk_drewN ?_ _ | refine blk_drew ?_ | refine blk_alloc ?_ _)); refine blk_put (cs := #[.int .i64 0, .string (⟨#[]⟩ : ByteArray), .int .i64 0, .int .i64 0, .string (⟨#[]⟩ : ByteArray)]) ?_ 0 _ rfl; (with_reducible repeat (first | refine blk_drewN ?_ _ | refine blk_drew ?_ | refine blk_alloc ?_ _)); exact BK310.out⟩, ⟨by repeat (first | (with_reducible first | exact HB.out | apply below_alloc | apply pw_below_drewN | apply below_drew1 | refine below_set ?_ GE310.out) | exact HB.out)⟩⟩
                  · rw [if_neg c31] at H
                    obtain ⟨c31b0, c31b1⟩ := neB_ c31
                    (first | rw [c31b0] | (simp only [i64_w, i32_w]; rw [c31b0]) | skip)
                    by_cases c32 : ((rd_T52 l0 x4_1).f0) = 4
                    · rw [if_pos c32] at H
                      obtain ⟨c32b0, c32b1⟩ := eqB_ c32
                      clear c32
                      have H' := Aside0.mk H
                      clear H
                      go_wp2
                      go_meet
                      case rel => exact ⟨_, ((((rd_T52 l0 x4_1).f0) == 4)), ra_, H', ⟨by have := HK1.out; first | omega | exact Nat.le_refl _⟩, ⟨by (with_reducible repeat (first | refine blk_drewN ?_ _ | refine blk_drew ?_ | refine blk_alloc ?_ _)); refine blk_put (cs := #[.int .i64 ((rd_T52 l0 x4_1).f0), .string ((rd_T52 l0 x4_1).f1), .int .i64 ((rd_T52 l0 x4_1).f2.f0), .int .i64 ((rd_T52 l0 x4_1).f2.f1), .string (⟨#[]⟩ : ByteArray)]) ?_ 4 _ rfl; (with_reducible repeat (first | refine blk_drewN ?_ _ | refine blk_drew ?_ | refine blk_alloc ?_ _)); refine blk_put (cs := #[.int .i64 ((rd_T52 l0 x4_1).f0), .string ((rd_T52 l0 x4_1).f1), .int .i64 ((rd_T52 l0 x4_1).f2.f0), .int .i64 0, .string (⟨#[]⟩ : ByteArray)]) ?_ 3 _ rfl; (with_reducible repeat (first | refine blk_drewN ?_ _ | refine blk_drew ?_ | refine blk_alloc ?_ _)); refine blk_put (cs := #[.int .i64 ((rd_T52 l0 x4_1).f0), .string ((rd_T52 l0 x4_1).f1), .int .i64 0, .int .i64 0, .string (⟨#[]⟩ : ByteArray)]) ?_ 2 _ rfl; (with_reducible repeat (first | refine blk_drewN ?_ _ | refine blk_drew ?_ | refine blk_alloc ?_ _)); refine blk_put (cs := #[.int .i64 ((rd_T52 l0 x4_1).f0), .string (⟨#[]⟩ : ByteArray), .int .i64 0, .int .i64 0, .string (⟨#[]⟩ : ByteArray)]) ?_ 1 _ rfl; (with_reducible repeat (first | refine blk_drewN ?_ _ | refine blk_drew ?_ | refine blk_alloc ?_ _)); refine blk_put (cs := #[.int .i64 0, .string (⟨#[]⟩ : ByteArray), .int .i64 0, .int .i64 0, .string (⟨#[]⟩ : ByteArray)]) ?_ 0 _ rfl; (with_reducible repeat (first | refine blk_drewN ?_ _ | refine blk_drew ?_ | refine blk_alloc ?_ _)); exact BK310.out⟩, ⟨by repeat (first | (with_reducible first | exact HB.out | apply below_alloc | apply pw_below_drewN | apply below_drew1 | refine below_set ?_ GE310.out) | exact HB.out)⟩⟩
                    · rw [if_neg c32] at H
                      obtain ⟨c32b0, c32b1⟩ := neB_ c32
                      have H' := Aside0.mk H
                      clear H
                      go_wp2
                      go_meet
                      case rel => exact ⟨_, ((((rd_T52 l0 x4_1).f0) == 5)), ra_, H', ⟨by have := HK1.out; first | omega | exact Nat.le_refl _⟩, ⟨by (with_reducible repeat (first | refine blk_drewN ?_ _ | refine blk_drew ?_ | refine blk_alloc ?_ _)); refine blk_put (cs := #[.int .i64 ((rd_T52 l0 x4_1).f0), .string ((rd_T52 l0 x4_1).f1), .int .i64 ((rd_T52 l0 x4_1).f2.f0), .int .i64 ((rd_T52 l0 x4_1).f2.f1), .string (⟨#[]⟩ : ByteArray)]) ?_ 4 _ rfl; (with_reducible repeat (first | refine blk_drewN ?_ _ | refine blk_drew ?_ | refine blk_alloc ?_ _)); refine blk_put (cs := #[.int .i64 ((rd_T52 l0 x4_1).f0), .string ((rd_T52 l0 x4_1).f1), .int .i64 ((rd_T52 l0 x4_1).f2.f0), .int .i64 0, .string (⟨#[]⟩ : ByteArray)]) ?_ 3 _ rfl; (with_reducible repeat (first | refine blk_drewN ?_ _ | refine blk_drew ?_ | refine blk_alloc ?_ _)); refine blk_put (cs := #[.int .i64 ((rd_T52 l0 x4_1).f0), .string ((rd_T52 l0 x4_1).f1), .int .i64 0, .int .i64 0, .string (⟨#[]⟩ : ByteArray)]) ?_ 2 _ rfl; (with_reducible repeat (first | refine blk_drewN ?_ _ | refine blk_drew ?_ | refine blk_alloc ?_ _)); refine blk_put (cs := #[.int .i64 ((rd_T52 l0 x4_1).f0), .string (⟨#[]⟩ : ByteArray), .int .i64 0, .int .i64 0, .string (⟨#[]⟩ : ByteArray)]) ?_ 1 _ rfl; (with_reducible repeat (first | refine blk_drewN ?_ _ | refine blk_drew ?_ | refine blk_alloc ?_ _)); refine blk_put (cs := #[.int .i64 0, .string (⟨#[]⟩ : ByteArray), .int .i64 0, .int .i64 0, .string (⟨#[]⟩ : ByteArray)]) ?_ 0 _ rfl; (with_reducible repeat (first | refine blk_drewN ?_ _ | refine blk_drew ?_ | refine blk_alloc ?_ _)); exact BK310.out⟩, ⟨by repeat (first | (with_reducible first | exact HB.out | apply below_alloc | apply pw_below_drewN | apply below_drew1 | refine below_set ?_ GE310.out) | exact HB.out)⟩⟩
                case rest =>
                  clear HC28
                  try clear c1
                  try clear c2
                  try clear p2
                  try clear c3
                  try clear p3
                  try clear q3
                  try clear hx3
                  try clear c4
                  try clear c4b0
                  try clear c5
                  try clear c5b0
                  try clear c6
                  try clear c6b0
                  try clear c6b1
                  try clear p6
                  try clear c8
                  try clear c9
                  try clear c9b0
                  try clear c9b1
                  try clear c16
                  try clear c16b0
                  try clear c16b1
                  try clear c17
                  try clear c17b0
                  try clear c17b1
                  try clear c21
                  try clear c27
                  try clear p30
                  try clear q30
                  try clear hx30
                  try clear c31
                  try clear c31b0
                  try clear c31b1
                  try clear c32
                  try clear c32b0
                  try clear c32b1
                  try clear hcz11_0
                  try clear hcz11_1
                  try clear hcz11_2
                  try clear hcz11_3
                  try clear hcz11_4
                  try clear hcz13_0
                  try clear hcz13_1
                  try clear hcz13_2
                  try clear hcz13_3
                  try clear hcz13_4
                  try clear hcz15_0
                  try clear hcz15_1
                  try clear hcz15_2
                  try clear hcz15_3
                  try clear hcz15_4
                  try clear hcz19_0
                  try clear hcz19_1
                  try clear hcz19_2
                  try clear hcz19_3
                  try clear hcz19_4
                  try clear hcz23_0
                  try clear hcz23_1
                  try clear hcz23_2
                  try clear hcz23_3
                  try clear hcz23_4
                  try clear hcz26_0
                  try clear hcz26_1
                  try clear hcz26_2
                  try clear hcz26_3
                  try clear hcz26_4
                  try clear hcz30_0
                  try clear hcz30_1
                  try clear hcz30_2
                  try clear hcz30_3
                  try clear hcz30_4
                  try clear hfz11_0
                  try clear hfz11_1
                  try clear hfz11_2
                  try clear hfz11_3
                  try clear hfz11_4
                  try clear hfz13_0
                  try clear hfz13_1
                  try clear hfz13_2
                  try clear hfz13_3
                  try clear hfz13_4
                  try clear hfz15_0
                  try clear hfz15_1
                  try clear hfz15_2
                  try clear hfz15_3
                  try clear hfz15_4
                  try clear hfz19_0
                  try clear hfz19_1
                  try clear hfz19_2
                  try clear hfz19_3
                  try clear hfz19_4
                  try clear hfz23_0
                  try clear hfz23_1
                  try clear hfz23_2
                  try clear hfz23_3
                  try clear hfz23_4
                  try clear hfz26_0
                  try clear hfz26_1
                  try clear hfz26_2
                  try clear hfz26_3
                  try clear hfz26_4
                  try clear hfz30_0
                  try clear hfz30_1
                  try clear hfz30_2
                  try clear hfz30_3
                  try clear hfz30_4
                  try clear hx309_0
                  try clear hx309_1
                  try clear hx309_2
                  try clear hx309_3
                  try clear hx309_4
                  try clear p2
                  try clear p309
                  try clear q309
                  obtain ⟨kq, x50_27, rfl, HA, HJ27, BK310, HB⟩ := hcut
                  cases kq with
                  | zero => exact absurd HA.out (by simp [constableref01_Expr.j1])
                  | succ kj27 =>
                    have H := HA.out
                    clear HA
                    simp only [constableref01_Expr.j1] at H
                    by_cases c33 : x50_27 = true
                    · subst c33
                      have H1 : (if (((rd_T52 l0 x4_1).f1).size : Int) > 0 then (some false) else (if (!(((rd_T52 l0 x4_1).f2.f0) == 0) || (!(((rd_T52 l0 x4_1).f2.f1) == 0) || (!(((rd_T52 l0 x4_1).f2.f2).toList == ([] : List UInt8))))) = true then (some false) else (if x3_1 < 2 then (some false) else (constableref01_Expr.l0 kj27 l0 (wrap64 (x3_1 - 1)) (wrap64 (x4_1 + 1)))))) = some r := by rw [if_pos rfl] at H; exact H
                      clear H
                      have H := H1
                      clear H1
                      by_cases c34 : (((rd_T52 l0 x4_1).f1).size : Int) > 0
                      · rw [if_pos c34] at H
                        have c34b0 : decide (0 < (((rd_T52 l0 x4_1).f1).size : Int)) = true := decide_eq_true c34
                        have c34b1 : decide (0 < ((rd_T52 l0 x4_1).f1).size) = true := decide_eq_true (by omega)
                        clear c34
                        obtain rfl := Option.some.inj H
                        have hcz35_0 : wc.cell? ⟨gb310, 0, none⟩ = some (.int .i64 ((rd_T52 l0 x4_1).f0)) := (blk_cell BK310.out 0).trans rfl
                        have hcz35_1 : wc.cell? ⟨gb310, 1, none⟩ = some (.string ((rd_T52 l0 x4_1).f1)) := (blk_cell BK310.out 1).trans rfl
                        have hcz35_2 : wc.cell? ⟨gb310, 2, none⟩ = some (.int .i64 ((rd_T52 l0 x4_1).f2.f0)) := (blk_cell BK310.out 2).trans rfl
                        have hcz35_3 : wc.cell? ⟨gb310, 3, none⟩ = some (.int .i64 ((rd_T52 l0 x4_1).f2.f1)) := (blk_cell BK310.out 3).trans rfl
                        have hcz35_4 : wc.cell? ⟨gb310, 4, none⟩ = some (.string ((rd_T52 l0 x4_1).f2.f2)) := (blk_cell BK310.out 4).trans rfl
                        have hfz35_0 := blk_frozen BK310.out 0
                        have hfz35_1 := blk_frozen BK310.out 1
                        have hfz35_2 := blk_frozen BK310.out 2
                        have hfz35_3 := blk_frozen BK310.out 3
                        have hfz35_4 := blk_frozen BK310.out 4
                        go_wp2
                        go_ret
                        exact ⟨by first | rfl | (simp [errW_none, errW_some] <;> rfl) | (simp [*, errW_none, errW_some] <;> rfl), by repeat (first | (with_reducible first | exact HB.out | apply below_alloc | apply pw_below_drewN | apply below_drew1 | refine below_set ?_ GE310.out) | exact HB.out)⟩
                      · rw [if_neg c34] at H
                        have c34b0 : decide (0 < (((rd_T52 l0 x4_1).f1).size : Int)) = false := decide_eq_false c34
                        have c34b1 : decide (0 < ((rd_T52 l0 x4_1).f1).size) = false := decide_eq_false (by omega)
                        clear c34
                        by_cases c36 : (!(((rd_T52 l0 x4_1).f2.f0) == 0) || (!(((rd_T52 l0 x4_1).f2.f1) == 0) || (!(((rd_T52 l0 x4_1).f2.f2).toList == ([] : List UInt8))))) = true
                        · rw [if_pos c36] at H
                          have c36b0 : (!(((rd_T52 l0 x4_1).f2.f0) == 0) || (!(((rd_T52 l0 x4_1).f2.f1) == 0) || (!(((rd_T52 l0 x4_1).f2.f2).toList == ([] : List UInt8))))) = true := c36
                          (try (have c36b1 : (!(((rd_T52 l0 x4_1).f2.f0) == 0) || (!(((rd_T52 l0 x4_1).f2.f1) == 0) || (!(((rd_T52 l0 x4_1).f2.f2).toList.isEmpty)))) = true := by first | simpa using c36 | (simp at c36 ⊢; exact c36)))
                          clear c36
                          obtain rfl := Option.some.inj H
                          have hcz37_0 : wc.cell? ⟨gb310, 0, none⟩ = some (.int .i64 ((rd_T52 l0 x4_1).f0)) := (blk_cell BK310.out 0).trans rfl
                          have hcz37_1 : wc.cell? ⟨gb310, 1, none⟩ = some (.string ((rd_T52 l0 x4_1).f1)) := (blk_cell BK310.out 1).trans rfl
                          have hcz37_2 : wc.cell? ⟨gb310, 2, none⟩ = some (.int .i64 ((rd_T52 l0 x4_1).f2.f0)) := (blk_cell BK310.out 2).trans rfl
                          have hcz37_3 : wc.cell? ⟨gb310, 3, none⟩ = some (.int .i64 ((rd_T52 l0 x4_1).f2.f1)) := (blk_cell BK310.out 3).trans rfl
                          have hcz37_4 : wc.cell? ⟨gb310, 4, none⟩ = some (.string ((rd_T52 l0 x4_1).f2.f2)) := (blk_cell BK310.out 4).trans rfl
                          have hfz37_0 := blk_frozen BK310.out 0
                          have hfz37_1 := blk_frozen BK310.out 1
                          have hfz37_2 := blk_frozen BK310.out 2
                          have hfz37_3 := blk_frozen BK310.out 3
                          have hfz37_4 := blk_frozen BK310.out 4
                          go_wp2
                          go_ret
                          exact ⟨by first | rfl | (simp [errW_none, errW_some] <;> rfl) | (simp [*, errW_none, errW_some] <;> rfl), by repeat (first | (with_reducible first | exact HB.out | apply below_alloc | apply pw_below_drewN | apply below_drew1 | refine below_set ?_ GE310.out) | exact HB.out)⟩
                        · rw [if_neg c36] at H
                          have c36b0 : (!(((rd_T52 l0 x4_1).f2.f0) == 0) || (!(((rd_T52 l0 x4_1).f2.f1) == 0) || (!(((rd_T52 l0 x4_1).f2.f2).toList == ([] : List UInt8))))) = false := by simpa using c36
                          (try (have c36b1 : (!(((rd_T52 l0 x4_1).f2.f0) == 0) || (!(((rd_T52 l0 x4_1).f2.f1) == 0) || (!(((rd_T52 l0 x4_1).f2.f2).toList.isEmpty)))) = false := by first | simpa using c36 | (simp at c36 ⊢; exact c36)))
                          clear c36
                          by_cases c38 : x3_1 < 2
                          · rw [if_pos c38] at H
                            have c38b0 : decide (x3_1 < 2) = true := decide_eq_true c38
                            clear c38
                            obtain rfl := Option.some.inj H
                            have hcz39_0 : wc.cell? ⟨gb310, 0, none⟩ = some (.int .i64 ((rd_T52 l0 x4_1).f0)) := (blk_cell BK310.out 0).trans rfl
                            have hcz39_1 : wc.cell? ⟨gb310, 1, none⟩ = some (.string ((rd_T52 l0 x4_1).f1)) := (blk_cell BK310.out 1).trans rfl
                            have hcz39_2 : wc.cell? ⟨gb310, 2, none⟩ = some (.int .i64 ((rd_T52 l0 x4_1).f2.f0)) := (blk_cell BK310.out 2).trans rfl
                            have hcz39_3 : wc.cell? ⟨gb310, 3, none⟩ = some (.int .i64 ((rd_T52 l0 x4_1).f2.f1)) := (blk_cell BK310.out 3).trans rfl
                            have hcz39_4 : wc.cell? ⟨gb310, 4, none⟩ = some (.string ((rd_T52 l0 x4_1).f2.f2)) := (blk_cell BK310.out 4).trans rfl
                            have hfz39_0 := blk_frozen BK310.out 0
                            have hfz39_1 := blk_frozen BK310.out 1
                            have hfz39_2 := blk_frozen BK310.out 2
                            have hfz39_3 := blk_frozen BK310.out 3
                            have hfz39_4 := blk_frozen BK310.out 4
                            go_wp2
                            go_ret
                            exact ⟨by first | rfl | (simp [errW_none, errW_some] <;> rfl) | (simp [*, errW_none, errW_some] <;> rfl), by repeat (first | (with_reducible first | exact HB.out | apply below_alloc | apply pw_below_drewN | apply below_drew1 | refine below_set ?_ GE310.out) | exact HB.out)⟩
                          · rw [if_neg c38] at H
                            have c38b0 : decide (x3_1 < 2) = false := decide_eq_false c38
                            clear c38
                            have H' := Aside0.mk H
                            clear H
                            have hcz40_0 : wc.cell? ⟨gb310, 0, none⟩ = some (.int .i64 ((rd_T52 l0 x4_1).f0)) := (blk_cell BK310.out 0).trans rfl
                            have hcz40_1 : wc.cell? ⟨gb310, 1, none⟩ = some (.string ((rd_T52 l0 x4_1).f1)) := (blk_cell BK310.out 1).trans rfl
                            have hcz40_2 : wc.cell? ⟨gb310, 2, none⟩ = some (.int .i64 ((rd_T52 l0 x4_1).f2.f0)) := (blk_cell BK310.out 2).trans rfl
                            have hcz40_3 : wc.cell? ⟨gb310, 3, none⟩ = some (.int .i64 ((rd_T52 l0 x4_1).f2.f1)) := (blk_cell BK310.out 3).trans rfl
                            have hcz40_4 : wc.cell? ⟨gb310, 4, none⟩ = some (.string ((rd_T52 l0 x4_1).f2.f2)) := (blk_cell BK310.out 4).trans rfl
                            have hfz40_0 := blk_frozen BK310.out 0
                            have hfz40_1 := blk_frozen BK310.out 1
                            have hfz40_2 := blk_frozen BK310.out 2
                            have hfz40_3 := blk_frozen BK310.out 3
                            have hfz40_4 := blk_frozen BK310.out 4
                            go_wp2
                            go_roundg kj27
                            case measure => have := HK1.out; have := HJ27.out; omega
                            case rel => exact ⟨(wrap64 (x3_1 - 1)), (wrap64 (x4_1 + 1)), ra_, ra_, H', ⟨by have := HK1.out; have := HJ27.out; omega⟩, ⟨by repeat (first | (with_reducible first | exact HB.out | apply below_alloc | apply pw_below_drewN | apply below_drew1 | refine below_set ?_ GE310.out) | exact HB.out)⟩⟩
                    · replace c33 := Bool.eq_false_iff.mpr c33
                      subst c33
                      have H1 : (some false) = some r := by rw [if_neg (show ¬ (false = true) by decide)] at H; exact H
                      clear H
                      have H := H1
                      clear H1
                      obtain rfl := Option.some.inj H
                      go_wp2
                      go_ret
                      exact ⟨by first | rfl | (simp [errW_none, errW_some] <;> rfl) | (simp [*, errW_none, errW_some] <;> rfl), by repeat (first | (with_reducible first | exact HB.out | apply below_alloc | apply pw_below_drewN | apply below_drew1 | refine below_set ?_ GE310.out) | exact HB.out)⟩
          · rw [if_neg c5] at H
            exact absurd H (by simp)
        · rw [if_neg c4] at H
          have c4b0 : decide (x4_1 < (l0.length : Int)) = false := decide_eq_false c4
          clear c4
          obtain rfl := Option.some.inj H
          go_wp2
          go_ret
          exact ⟨by first | rfl | (simp [errW_none, errW_some] <;> rfl) | (simp [*, errW_none, errW_some] <;> rfl), by repeat (first | (with_reducible first | exact HB.out | apply below_alloc | apply pw_below_drewN | apply below_drew1) | exact HB.out)⟩
  · replace c3 := Bool.eq_false_iff.mpr c3
    subst c3
    have H1 : (some false) = some r := by rw [if_neg (show ¬ (false = true) by decide)] at H; exact H
    clear H
    have H := H1
    clear H1
    obtain rfl := Option.some.inj H
    go_enter Try.func27, Try.ntmps27
    go_wp2_with (first | ((with_reducible refine gate_callee (f := 38) rfl ?_); refine goesL_ (some 8) rfl rfl Try.func38 (by kernel_rfl) rfl #[.int .i64 (l0.length : Int), .int .i64 1, .int .i64 15] rfl ga_ ?_; (with_reducible refine (constableref01_In.calls (l0.length : Int) 1 15 false _ A2.out).mono ?_); rintro e w' ⟨rfl, ⟨nd, rfl⟩⟩; refine ⟨_, rfl, ?_⟩))
    go_ret
    exact ⟨by first | rfl | (simp [errW_none, errW_some] <;> rfl) | (simp [*, errW_none, errW_some] <;> rfl), by repeat (first | (with_reducible first | exact HB.out | apply below_alloc | apply pw_below_drewN | apply below_drew1) | exact HB.out)⟩
end Go.Proofs.Ytconpnagoijacaa.P
end
