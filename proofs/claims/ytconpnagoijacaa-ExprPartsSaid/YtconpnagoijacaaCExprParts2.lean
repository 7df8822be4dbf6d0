/- Part 3 of the proof of ExprParts: words, contracts of functions of the program (what a call answers), and what the answers say. -/
import Derived.Test.YtconpnagoijacaaVWords
import Derived.Test.YtconpnagoijacaaVLast
import Derived.Test.YtconpnagoijacaaVApart
import Derived.Test.YtconpnagoijacaaVArr
import Derived.Test.YtconpnagoijacaaVFoot
import Derived.Test.YtconpnagoijacaaVKept
import Derived.Test.YtconpnagoijacaaVShare
import Derived.Test.YtconpnagoijacaaVZeros
import Derived.Test.YtconpnagoijacaaVN
import Derived.Test.YtconpnagoijacaaVFootNe
import Derived.Test.YtconpnagoijacaaVAt
import Derived.Test.YtconpnagoijacaaVEqStruct
import Derived.Test.YtconpnagoijacaaVTab
import Derived.Test.YtconpnagoijacaaVFour
import Derived.Test.YtconpnagoijacaaVGuard
import Derived.Test.YtconpnagoijacaaVInv
import Derived.Test.YtconpnagoijacaaVInvWords
import Derived.Test.YtconpnagoijacaaVQPut
import Derived.Test.YtconpnagoijacaaVNEv
import Derived.Test.YtconpnagoijacaaVMore
import Derived.Test.YtconpnagoijacaaVRepsOne
import Derived.Test.YtconpnagoijacaaVSized
import Derived.Test.YtconpnagoijacaaCExprParts0
import Derived.Test.YtconpnagoijacaaCExprParts1
section
namespace Go.Proofs.Ytconpnagoijacaa.P
open Go.RowKit Go.Proofs.YtconpnagoijacaaW.PrintWords Go.Proofs.YtconpnagoijacaaW.PrintLast Go.Proofs.YtconpnagoijacaaW.PrintMore
attribute [local go_sem] max2_int min2_int max_two min_two max_three min_three max_four min_four
set_option linter.unusedVariables false
set_option linter.unusedSimpArgs false
mutual
def expr_Part.j0 : Nat → List (S52) → Int → Bool → Option (Int)
  | 0, _, _, _ => none
  | k + 1, x0, x1, x19 => if x19 = true then (some (-1)) else (expr_Part.l0 k x0 1 x1)
def expr_Part.l0 : Nat → List (S52) → Int → Int → Option (Int)
  | 0, _, _, _ => none
  | k + 1, x0, x5, x6 => if 0 ≤ x6 then (if x6 < (x0.length : Int) then ((expr_pushes.f ((rd_T52 x0 x6).f0)).bind fun t316 => (if t316 = true then (if (wrap64 (x5 - 1)) = 0 then (some x6) else (expr_Part.l0 k x0 (wrap64 (x5 - 1)) (wrap64 (x6 - 1)))) else (if (wrap64 (x5 + 1)) = 0 then (some x6) else (expr_Part.l0 k x0 (wrap64 (x5 + 1)) (wrap64 (x6 - 1)))))) else (none)) else (none)
end
def expr_Part.f (k : Nat) (l0 : List (S52)) (a1 : Int) : Option (Int) := (expr_Check.f k l0).bind fun t314 => (if t314 = 0 then (if a1 < 0 then (expr_Part.j0 k l0 a1 true) else (expr_Part.j0 k l0 a1 (decide (a1 ≥ (l0.length : Int))))) else (expr_Part.j0 k l0 a1 true))
theorem expr_Part.mono_l : ∀ k, (∀ y0 y1 y2, LeO (expr_Part.j0 k y0 y1 y2) (expr_Part.j0 (k + 1) y0 y1 y2)) ∧ (∀ y0 y1 y2, LeO (expr_Part.l0 k y0 y1 y2) (expr_Part.l0 (k + 1) y0 y1 y2))
  | 0 => ⟨fun _ _ _ r h => by simp [expr_Part.j0] at h, fun _ _ _ r h => by simp [expr_Part.l0] at h⟩
  | k + 1 => by
    obtain ⟨ih0, ih1⟩ := expr_Part.mono_l k
    refine ⟨?_, ?_⟩
    · intro y0 y1 y2
      unfold expr_Part.j0
      repeat' first
      | (with_reducible exact ih0 _ _ _)
      | (with_reducible exact ih1 _ _ _)
      | (with_reducible exact expr_Check.mono _ _)
      | (with_reducible exact LeO.refl _)
      | (with_reducible exact LeO.none _)
      | (with_reducible refine LeO.ite ?_ ?_)
      | (with_reducible refine LeO.bind ?_ (fun _ => ?_))
      | exact ih0 _ _ _
      | exact ih1 _ _ _
      | exact expr_Check.mono _ _
      | exact LeO.none _
      | refine LeO.ite ?_ ?_
      | refine LeO.bind ?_ (fun _ => ?_)
    · intro y0 y1 y2
      unfold expr_Part.l0
      repeat' first
      | (with_reducible exact ih0 _ _ _)
      | (with_reducible exact ih1 _ _ _)
      | (with_reducible exact expr_Check.mono _ _)
      | (with_reducible exact LeO.refl _)
      | (with_reducible exact LeO.none _)
      | (with_reducible refine LeO.ite ?_ ?_)
      | (with_reducible refine LeO.bind ?_ (fun _ => ?_))
      | exact ih0 _ _ _
      | exact ih1 _ _ _
      | exact expr_Check.mono _ _
      | exact LeO.none _
      | refine LeO.ite ?_ ?_
      | refine LeO.bind ?_ (fun _ => ?_)
theorem expr_Part.mono : ∀ a0 a1 k, LeO (expr_Part.f k a0 a1) (expr_Part.f (k + 1) a0 a1) := by
  intro a0 a1 k
  obtain ⟨ih0, ih1⟩ := expr_Part.mono_l k
  unfold expr_Part.f
  repeat' first
      | (with_reducible exact ih0 _ _ _)
      | (with_reducible exact ih1 _ _ _)
      | (with_reducible exact expr_Check.mono _ _)
      | (with_reducible exact LeO.refl _)
      | (with_reducible exact LeO.none _)
      | (with_reducible refine LeO.ite ?_ ?_)
      | (with_reducible refine LeO.bind ?_ (fun _ => ?_))
      | exact ih0 _ _ _
      | exact ih1 _ _ _
      | exact expr_Check.mono _ _
      | exact LeO.none _
      | refine LeO.ite ?_ ?_
      | refine LeO.bind ?_ (fun _ => ?_)
set_option maxHeartbeats 8000000 in
set_option maxRecDepth 100000 in
theorem expr_Part.calls (k : Nat) (A0 : Option Addr) (c0 : Nat) (l0 : List (S52)) (a1 : Int) (r : Int) (w : World) (hr0 : Kd.C k52 w A0 l0.length l0) (hc0 : l0.length ≤ c0) (h : expr_Part.f k l0 a1 = some r) :
    Calls Try.prog 30 #[.slice A0 l0.length c0, .int .i64 a1] w fun e w' => e = .returned (.int .i64 r) ∧ Below w.heap.size w w' := by
  have HR0 := Aside0.mk hr0
  have HC0 := Aside0.mk hc0
  clear hr0 hc0
  have HB := Aside0.mk (Below.refl w.heap.size w)
  have H : ((expr_Check.f k l0).bind fun t314 => (if t314 = 0 then (if a1 < 0 then (expr_Part.j0 k l0 a1 true) else (expr_Part.j0 k l0 a1 (decide (a1 ≥ (l0.length : Int))))) else (expr_Part.j0 k l0 a1 true))) = some r := h
  clear h
  have HC3 := Aside0.mk H
  clear H
  go_enter Try.func30, Try.ntmps30
  go_upto_region 1 with (fail)
  go_cut [19] (fun v19 wc => ∃ (kq : Nat) (x19_2 : Bool), v19 = .bool x19_2 ∧ Aside0 (expr_Part.j0 kq l0 a1 x19_2 = some r) ∧ Aside0 (kq ≤ k) ∧ Aside0 (Below w.heap.size w wc))
  case first =>
    have H := HC3.out
    clear HC3
    replace H := Option.bind_eq_some_iff.mp H
    obtain ⟨t314, A40, H⟩ := H
    replace H : (if t314 = 0 then (if a1 < 0 then (expr_Part.j0 k l0 a1 true) else (expr_Part.j0 k l0 a1 (decide (a1 ≥ (l0.length : Int))))) else (expr_Part.j0 k l0 a1 true)) = some r := H
    have A4 := Aside0.mk A40
    clear A40
    by_cases c5 : t314 = 0
    · rw [if_pos c5] at H
      obtain ⟨c5b0, c5b1⟩ := eqB_ c5
      clear c5
      (first | rw [c5b0] | (simp only [i64_w, i32_w]; rw [c5b0]) | skip)
      by_cases c6 : a1 < 0
      · rw [if_pos c6] at H
        have c6b0 : decide (a1 < 0) = true := decide_eq_true c6
        clear c6
        have H' := Aside0.mk H
        clear H
        go_wp2_with (first | ((with_reducible refine gate_callee (f := 28) rfl ?_); refine goesL_ (some 8) rfl rfl Try.func28 (by kernel_rfl) rfl #[.slice A0 l0.length c0] rfl ga_ ?_; (with_reducible refine (expr_Check.calls k _ _ l0 t314 _ ?side1 ?side2 A4.out).mono ?_); (case side1 => repeat (first | exact (Kd.C_below HR0.out HB.out) | (with_reducible refine Kd.C_alloc ?_ _) | (with_reducible refine Kd.C_drewN ?_ _) | (with_reducible refine Kd.C_drew ?_))); (case side2 => exact HC0.out); rintro e w7 ⟨rfl, hb⟩; refine ⟨_, rfl, ?_⟩; have n0_ := bs_ (be_ HB) hb; clear HB; have HB := n0_; clear n0_; (try clear hb); (try clear hb2); (try clear hk); (try clear hi)))
        go_meet
        case rel => exact ⟨_, (true), ra_, H', ⟨by first | omega | exact Nat.le_refl _⟩, ⟨by repeat (first | (with_reducible first | exact HB.out | apply below_alloc | apply pw_below_drewN | apply below_drew1) | exact HB.out)⟩⟩
      · rw [if_neg c6] at H
        have c6b0 : decide (a1 < 0) = false := decide_eq_false c6
        clear c6
        have H' := Aside0.mk H
        clear H
        go_wp2_with (first | ((with_reducible refine gate_callee (f := 28) rfl ?_); refine goesL_ (some 8) rfl rfl Try.func28 (by kernel_rfl) rfl #[.slice A0 l0.length c0] rfl ga_ ?_; (with_reducible refine (expr_Check.calls k _ _ l0 t314 _ ?side1 ?side2 A4.out).mono ?_); (case side1 => repeat (first | exact (Kd.C_below HR0.out HB.out) | (with_reducible refine Kd.C_alloc ?_ _) | (with_reducible refine Kd.C_drewN ?_ _) | (with_reducible refine Kd.C_drew ?_))); (case side2 => exact HC0.out); rintro e w8 ⟨rfl, hb⟩; refine ⟨_, rfl, ?_⟩; have n0_ := bs_ (be_ HB) hb; clear HB; have HB := n0_; clear n0_; (try clear hb); (try clear hb2); (try clear hk); (try clear hi)))
        go_meet
        case rel => exact ⟨_, (decide (a1 ≥ (l0.length : Int))), ra_, H', ⟨by first | omega | exact Nat.le_refl _⟩, ⟨by repeat (first | (with_reducible first | exact HB.out | apply below_alloc | apply pw_below_drewN | apply below_drew1) | exact HB.out)⟩⟩
    · rw [if_neg c5] at H
      obtain ⟨c5b0, c5b1⟩ := neB_ c5
      (first | rw [c5b0] | (simp only [i64_w, i32_w]; rw [c5b0]) | skip)
      have H' := Aside0.mk H
      clear H
      go_wp2_with (first | ((with_reducible refine gate_callee (f := 28) rfl ?_); refine goesL_ (some 8) rfl rfl Try.func28 (by kernel_rfl) rfl #[.slice A0 l0.length c0] rfl ga_ ?_; (with_reducible refine (expr_Check.calls k _ _ l0 t314 _ ?side1 ?side2 A4.out).mono ?_); (case side1 => repeat (first | exact (Kd.C_below HR0.out HB.out) | (with_reducible refine Kd.C_alloc ?_ _) | (with_reducible refine Kd.C_drewN ?_ _) | (with_reducible refine Kd.C_drew ?_))); (case side2 => exact HC0.out); rintro e w9 ⟨rfl, hb⟩; refine ⟨_, rfl, ?_⟩; have n0_ := bs_ (be_ HB) hb; clear HB; have HB := n0_; clear n0_; (try clear hb); (try clear hb2); (try clear hk); (try clear hi)))
      go_meet
      case rel => exact ⟨_, (true), ra_, H', ⟨by first | omega | exact Nat.le_refl _⟩, ⟨by repeat (first | (with_reducible first | exact HB.out | apply below_alloc | apply pw_below_drewN | apply below_drew1) | exact HB.out)⟩⟩
  case rest =>
    clear HC3
    try clear c2
    try clear p2
    try clear c3
    try clear c5
    try clear c5b0
    try clear c5b1
    try clear c6
    try clear c6b0
    obtain ⟨kq, x19_2, rfl, HA, HJ2, HB⟩ := hcut
    cases kq with
    | zero => exact absurd HA.out (by simp [expr_Part.j0])
    | succ kj2 =>
      have H := HA.out
      clear HA
      simp only [expr_Part.j0] at H
      by_cases c10 : x19_2 = true
      · subst c10
        have H1 : (some (-1)) = some r := by rw [if_pos rfl] at H; exact H
        clear H
        have H := H1
        clear H1
        obtain rfl := Option.some.inj H
        go_wp2
        go_ret
        exact ⟨by first | rfl | (simp [errW_none, errW_some] <;> rfl) | (simp [*, errW_none, errW_some] <;> rfl), by repeat (first | (with_reducible first | exact HB.out | apply below_alloc | apply pw_below_drewN | apply below_drew1) | exact HB.out)⟩
      · replace c10 := Bool.eq_false_iff.mpr c10
        subst c10
        have H1 : (expr_Part.l0 kj2 l0 1 a1) = some r := by rw [if_neg (show ¬ (false = true) by decide)] at H; exact H
        clear H
        have H := H1
        clear H1
        have H' := Aside0.mk H
        clear H
        go_wp2
        go_loopg [5, 6] kj2 (fun kq v5 v6 w' => ∃ (x5_2 : Int) (x6_2 : Int), v5 = .int .i64 x5_2 ∧ v6 = .int .i64 x6_2 ∧ Aside0 (expr_Part.l0 kq l0 x5_2 x6_2 = some r) ∧ Aside0 (kq ≤ kj2) ∧ Aside0 (Below w.heap.size w w'))
        case atStart => exact ⟨(1), (a1), ra_, ra_, H', ⟨Nat.le_refl _⟩, ⟨by repeat (first | (with_reducible first | exact HB.out | apply below_alloc | apply pw_below_drewN | apply below_drew1) | exact HB.out)⟩⟩
        case round =>
          clear H'
          try clear c1
          try clear c2
          try clear p2
          try clear c3
          try clear c5
          try clear c5b0
          try clear c5b1
          try clear c6
          try clear c6b0
          try clear c10
          try clear p2
          obtain ⟨x5_2, x6_2, rfl, rfl, HA, HK2, HB⟩ := hrel
          cases gk with
          | zero => exact absurd HA.out (by simp [expr_Part.l0])
          | succ k2 =>
            have H := HA.out
            clear HA
            simp only [expr_Part.l0] at H
            by_cases c11 : 0 ≤ x6_2
            · rw [if_pos c11] at H
              have c11b0 : decide (0 ≤ x6_2) = true := decide_eq_true c11
              clear c11
              by_cases c12 : x6_2 < (l0.length : Int)
              · rw [if_pos c12] at H
                have c12b0 : decide (x6_2 < (l0.length : Int)) = true := decide_eq_true c12
                clear c12
                replace H := Option.bind_eq_some_iff.mp H
                obtain ⟨t316, A130, H⟩ := H
                replace H : (if t316 = true then (if (wrap64 (x5_2 - 1)) = 0 then (some x6_2) else (expr_Part.l0 k2 l0 (wrap64 (x5_2 - 1)) (wrap64 (x6_2 - 1)))) else (if (wrap64 (x5_2 + 1)) = 0 then (some x6_2) else (expr_Part.l0 k2 l0 (wrap64 (x5_2 + 1)) (wrap64 (x6_2 - 1))))) = some r := H
                have A13 := Aside0.mk A130
                clear A130
                by_cases c14 : t316 = true
                · subst c14
                  have H1 : (if (wrap64 (x5_2 - 1)) = 0 then (some x6_2) else (expr_Part.l0 k2 l0 (wrap64 (x5_2 - 1)) (wrap64 (x6_2 - 1)))) = some r := by rw [if_pos rfl] at H; exact H
                  clear H
                  have H := H1
                  clear H1
                  by_cases c15 : (wrap64 (x5_2 - 1)) = 0
                  · rw [if_pos c15] at H
                    obtain ⟨c15b0, c15b1⟩ := eqB_ c15
                    clear c15
                    obtain rfl := Option.some.inj H
                    have p315 : 0 ≤ (x6_2 : Int) := dt_
                    have q315 : x6_2 < (l0.length : Int) := dt_
                    obtain ⟨ad315, e315, hx315_0, hx315_1, hx315_2, hx315_3, hx315_4⟩ := at_T52 HR0.out x6_2 p315 q315
                    cases e315
                    replace hx315_0 := cm_ HB hx315_0
                    replace hx315_1 := cm_ HB hx315_1
                    replace hx315_2 := cm_ HB hx315_2
                    replace hx315_3 := cm_ HB hx315_3
                    replace hx315_4 := cm_ HB hx315_4
                    replace p315 := eq_true p315
                    replace q315 := eq_true q315
                    go_wp2_with (first | ((with_reducible refine gate_callee (f := 40) rfl ?_); refine goesL_ (some 28) rfl rfl Try.func40 (by kernel_rfl) rfl #[.int .i64 ((rd_T52 l0 x6_2).f0)] rfl ga_ ?_; (with_reducible refine (expr_pushes.calls ((rd_T52 l0 x6_2).f0) true _ A13.out).mono ?_); rintro e w' ⟨rfl, ⟨nd, rfl⟩⟩; refine ⟨_, rfl, ?_⟩))
                    go_ret
                    exact ⟨by first | rfl | (simp [errW_none, errW_some] <;> rfl) | (simp [*, errW_none, errW_some] <;> rfl), by repeat (first | (with_reducible first | exact HB.out | apply below_alloc | apply pw_below_drewN | apply below_drew1) | exact HB.out)⟩
                  · rw [if_neg c15] at H
                    obtain ⟨c15b0, c15b1⟩ := neB_ c15
                    have H' := Aside0.mk H
                    clear H
                    have p315 : 0 ≤ (x6_2 : Int) := dt_
                    have q315 : x6_2 < (l0.length : Int) := dt_
                    obtain ⟨ad315, e315, hx315_0, hx315_1, hx315_2, hx315_3, hx315_4⟩ := at_T52 HR0.out x6_2 p315 q315
                    cases e315
                    replace hx315_0 := cm_ HB hx315_0
                    replace hx315_1 := cm_ HB hx315_1
                    replace hx315_2 := cm_ HB hx315_2
                    replace hx315_3 := cm_ HB hx315_3
                    replace hx315_4 := cm_ HB hx315_4
                    replace p315 := eq_true p315
                    replace q315 := eq_true q315
                    go_wp2_with (first | ((with_reducible refine gate_callee (f := 40) rfl ?_); refine goesL_ (some 28) rfl rfl Try.func40 (by kernel_rfl) rfl #[.int .i64 ((rd_T52 l0 x6_2).f0)] rfl ga_ ?_; (with_reducible refine (expr_pushes.calls ((rd_T52 l0 x6_2).f0) true _ A13.out).mono ?_); rintro e w' ⟨rfl, ⟨nd, rfl⟩⟩; refine ⟨_, rfl, ?_⟩))
                    go_roundg k2
                    case measure => have := HJ2.out; have := HK2.out; omega
                    case rel => exact ⟨(wrap64 (x5_2 - 1)), (wrap64 (x6_2 - 1)), ra_, ra_, H', ⟨by have := HJ2.out; have := HK2.out; omega⟩, ⟨by repeat (first | (with_reducible first | exact HB.out | apply below_alloc | apply pw_below_drewN | apply below_drew1) | exact HB.out)⟩⟩
                · replace c14 := Bool.eq_false_iff.mpr c14
                  subst c14
                  have H1 : (if (wrap64 (x5_2 + 1)) = 0 then (some x6_2) else (expr_Part.l0 k2 l0 (wrap64 (x5_2 + 1)) (wrap64 (x6_2 - 1)))) = some r := by rw [if_neg (show ¬ (false = true) by decide)] at H; exact H
                  clear H
                  have H := H1
                  clear H1
                  by_cases c16 : (wrap64 (x5_2 + 1)) = 0
                  · rw [if_pos c16] at H
                    obtain ⟨c16b0, c16b1⟩ := eqB_ c16
                    clear c16
                    obtain rfl := Option.some.inj H
                    have p315 : 0 ≤ (x6_2 : Int) := dt_
                    have q315 : x6_2 < (l0.length : Int) := dt_
                    obtain ⟨ad315, e315, hx315_0, hx315_1, hx315_2, hx315_3, hx315_4⟩ := at_T52 HR0.out x6_2 p315 q315
                    cases e315
                    replace hx315_0 := cm_ HB hx315_0
                    replace hx315_1 := cm_ HB hx315_1
                    replace hx315_2 := cm_ HB hx315_2
                    replace hx315_3 := cm_ HB hx315_3
                    replace hx315_4 := cm_ HB hx315_4
                    replace p315 := eq_true p315
                    replace q315 := eq_true q315
                    go_wp2_with (first | ((with_reducible refine gate_callee (f := 40) rfl ?_); refine goesL_ (some 28) rfl rfl Try.func40 (by kernel_rfl) rfl #[.int .i64 ((rd_T52 l0 x6_2).f0)] rfl ga_ ?_; (with_reducible refine (expr_pushes.calls ((rd_T52 l0 x6_2).f0) false _ A13.out).mono ?_); rintro e w' ⟨rfl, ⟨nd, rfl⟩⟩; refine ⟨_, rfl, ?_⟩))
                    go_ret
                    exact ⟨by first | rfl | (simp [errW_none, errW_some] <;> rfl) | (simp [*, errW_none, errW_some] <;> rfl), by repeat (first | (with_reducible first | exact HB.out | apply below_alloc | apply pw_below_drewN | apply below_drew1) | exact HB.out)⟩
                  · rw [if_neg c16] at H
                    obtain ⟨c16b0, c16b1⟩ := neB_ c16
                    have H' := Aside0.mk H
                    clear H
                    have p315 : 0 ≤ (x6_2 : Int) := dt_
                    have q315 : x6_2 < (l0.length : Int) := dt_
                    obtain ⟨ad315, e315, hx315_0, hx315_1, hx315_2, hx315_3, hx315_4⟩ := at_T52 HR0.out x6_2 p315 q315
                    cases e315
                    replace hx315_0 := cm_ HB hx315_0
                    replace hx315_1 := cm_ HB hx315_1
                    replace hx315_2 := cm_ HB hx315_2
                    replace hx315_3 := cm_ HB hx315_3
                    replace hx315_4 := cm_ HB hx315_4
                    replace p315 := eq_true p315
                    replace q315 := eq_true q315
                    go_wp2_with (first | ((with_reducible refine gate_callee (f := 40) rfl ?_); refine goesL_ (some 28) rfl rfl Try.func40 (by kernel_rfl) rfl #[.int .i64 ((rd_T52 l0 x6_2).f0)] rfl ga_ ?_; (with_reducible refine (expr_pushes.calls ((rd_T52 l0 x6_2).f0) false _ A13.out).mono ?_); rintro e w' ⟨rfl, ⟨nd, rfl⟩⟩; refine ⟨_, rfl, ?_⟩))
                    go_roundg k2
                    case measure => have := HJ2.out; have := HK2.out; omega
                    case rel => exact ⟨(wrap64 (x5_2 + 1)), (wrap64 (x6_2 - 1)), ra_, ra_, H', ⟨by have := HJ2.out; have := HK2.out; omega⟩, ⟨by repeat (first | (with_reducible first | exact HB.out | apply below_alloc | apply pw_below_drewN | apply below_drew1) | exact HB.out)⟩⟩
              · rw [if_neg c12] at H
                exact absurd H (by simp)
            · rw [if_neg c11] at H
              exact absurd H (by simp)
end Go.Proofs.Ytconpnagoijacaa.P
end
section
namespace Go.Proofs.Ytconpnagoijacaa.P
open Go.RowKit Go.Proofs.YtconpnagoijacaaW.PrintWords Go.Proofs.YtconpnagoijacaaW.PrintLast Go.Proofs.YtconpnagoijacaaW.PrintMore
attribute [local go_sem] max2_int min2_int max_two min_two max_three min_three max_four min_four
set_option linter.unusedVariables false
set_option linter.unusedSimpArgs false
def constableref01_order.f (a0 : Int) (a1 : Int) : Option (Int) := if a0 < a1 then (some (-1)) else (if a0 > a1 then (some 1) else (some 0))
set_option maxHeartbeats 8000000 in
set_option maxRecDepth 100000 in
theorem constableref01_order.calls (a0 : Int) (a1 : Int) (r : Int) (w : World) (h : constableref01_order.f a0 a1 = some r) :
    Calls Try.prog 59 #[.int .i64 a0, .int .i64 a1] w fun e w' => e = .returned (.int .i64 r) ∧ Drawn0 w w' := by
  have H : (if a0 < a1 then (some (-1)) else (if a0 > a1 then (some 1) else (some 0))) = some r := h
  clear h
  by_cases c3 : a0 < a1
  · rw [if_pos c3] at H
    have c3b0 : decide (a0 < a1) = true := decide_eq_true c3
    clear c3
    obtain rfl := Option.some.inj H
    go_enter Try.func59, Try.ntmps59
    go_wp2
    go_ret
    exact rz_
  · rw [if_neg c3] at H
    have c3b0 : decide (a0 < a1) = false := decide_eq_false c3
    clear c3
    by_cases c4 : a0 > a1
    · rw [if_pos c4] at H
      have c4b0 : decide (a1 < a0) = true := decide_eq_true c4
      clear c4
      obtain rfl := Option.some.inj H
      go_enter Try.func59, Try.ntmps59
      go_wp2
      go_ret
      exact rz_
    · rw [if_neg c4] at H
      have c4b0 : decide (a1 < a0) = false := decide_eq_false c4
      clear c4
      obtain rfl := Option.some.inj H
      go_enter Try.func59, Try.ntmps59
      go_wp2
      go_ret
      exact rz_
end Go.Proofs.Ytconpnagoijacaa.P
end
section
namespace Go.Proofs.Ytconpnagoijacaa.P
open Go.RowKit Go.Proofs.YtconpnagoijacaaW.PrintWords Go.Proofs.YtconpnagoijacaaW.PrintLast Go.Proofs.YtconpnagoijacaaW.PrintMore
attribute [local go_sem] max2_int min2_int max_two min_two max_three min_three max_four min_four
set_option linter.unusedVariables false
set_option linter.unusedSimpArgs false
mutual
def constableref01_Strings.l0 : Nat → ByteArray → ByteArray → Int → Option (Int)
  | 0, _, _, _ => none
  | k + 1, x0, x1, x5 => if x5 < (x0.size : Int) then (constableref01_Strings.j1 k x0 x1 x5 (decide (x5 < (x1.size : Int)))) else (constableref01_Strings.j1 k x0 x1 x5 false)
def constableref01_Strings.j1 : Nat → ByteArray → ByteArray → Int → Bool → Option (Int)
  | 0, _, _, _, _ => none
  | k + 1, x0, x1, x5, x15 => if x15 = true then (if 0 ≤ x5 then (if x5 < (x0.size : Int) then (if x5 < (x1.size : Int) then (if (bt x0 x5) = (bt x1 x5) then (constableref01_Strings.l0 k x0 x1 (wrap64 (x5 + 1))) else ((constableref01_order.f (wrap64 (bt x0 x5)) (wrap64 (bt x1 x5))).bind fun t317 => (some t317))) else (none)) else (none)) else (none)) else ((constableref01_order.f (x0.size : Int) (x1.size : Int)).bind fun t318 => (some t318))
end
def constableref01_Strings.f (k : Nat) (a0 : ByteArray) (a1 : ByteArray) : Option (Int) := constableref01_Strings.l0 k a0 a1 0
theorem constableref01_Strings.mono_l : ∀ k, (∀ y0 y1 y2, LeO (constableref01_Strings.l0 k y0 y1 y2) (constableref01_Strings.l0 (k + 1) y0 y1 y2)) ∧ (∀ y0 y1 y2 y3, LeO (constableref01_Strings.j1 k y0 y1 y2 y3) (constableref01_Strings.j1 (k + 1) y0 y1 y2 y3))
  | 0 => ⟨fun _ _ _ r h => by simp [constableref01_Strings.l0] at h, fun _ _ _ _ r h => by simp [constableref01_Strings.j1] at h⟩
  | k + 1 => by
    obtain ⟨ih0, ih1⟩ := constableref01_Strings.mono_l k
    refine ⟨?_, ?_⟩
    · intro y0 y1 y2
      unfold constableref01_Strings.l0
      repeat' first
      | (with_reducible exact ih0 _ _ _)
      | (with_reducible exact ih1 _ _ _ _)
      | (with_reducible exact LeO.refl _)
      | (with_reducible exact LeO.none _)
      | (with_reducible refine LeO.ite ?_ ?_)
      | (with_reducible refine LeO.bind ?_ (fun _ => ?_))
      | exact ih0 _ _ _
      | exact ih1 _ _ _ _
      | exact LeO.none _
      | refine LeO.ite ?_ ?_
      | refine LeO.bind ?_ (fun _ => ?_)
    · intro y0 y1 y2 y3
      unfold constableref01_Strings.j1
      repeat' first
      | (with_reducible exact ih0 _ _ _)
      | (with_reducible exact ih1 _ _ _ _)
      | (with_reducible exact LeO.refl _)
      | (with_reducible exact LeO.none _)
      | (with_reducible refine LeO.ite ?_ ?_)
      | (with_reducible refine LeO.bind ?_ (fun _ => ?_))
      | exact ih0 _ _ _
      | exact ih1 _ _ _ _
      | exact LeO.none _
      | refine LeO.ite ?_ ?_
      | refine LeO.bind ?_ (fun _ => ?_)
theorem constableref01_Strings.mono : ∀ a0 a1 k, LeO (constableref01_Strings.f k a0 a1) (constableref01_Strings.f (k + 1) a0 a1) := by
  intro a0 a1 k
  obtain ⟨ih0, ih1⟩ := constableref01_Strings.mono_l k
  unfold constableref01_Strings.f
  repeat' first
      | (with_reducible exact ih0 _ _ _)
      | (with_reducible exact ih1 _ _ _ _)
      | (with_reducible exact LeO.refl _)
      | (with_reducible exact LeO.none _)
      | (with_reducible refine LeO.ite ?_ ?_)
      | (with_reducible refine LeO.bind ?_ (fun _ => ?_))
      | exact ih0 _ _ _
      | exact ih1 _ _ _ _
      | exact LeO.none _
      | refine LeO.ite ?_ ?_
      | refine LeO.bind ?_ (fun _ => ?_)
set_option maxHeartbeats 8000000 in
set_option maxRecDepth 100000 in
theorem constableref01_Strings.calls (k : Nat) (a0 : ByteArray) (a1 : ByteArray) (r : Int) (w : World) (h : constableref01_Strings.f k a0 a1 = some r) :
    Calls Try.prog 48 #[.string a0, .string a1] w fun e w' => e = .returned (.int .i64 r) ∧ Drawn0 w w' := by
  have H : (constableref01_Strings.l0 k a0 a1 0) = some r := h
  clear h
  have H' := Aside0.mk H
  clear H
  go_enter Try.func48, Try.ntmps48
  go_wp2
  repeat (go_quiet (fail); try go_wp2)
  go_loopg [5] k (fun kq v5 w' => ∃ (x5_1 : Int), v5 = .int .i64 x5_1 ∧ Aside0 (constableref01_Strings.l0 kq a0 a1 x5_1 = some r) ∧ Aside0 (kq ≤ k) ∧ Drawn0 w w')
  case atStart => exact ⟨(0), ra_, H', ⟨Nat.le_refl _⟩, dz_⟩
  case round =>
    clear H'
    try clear p2
    obtain ⟨x5_1, rfl, HA, HK1, ⟨m1, rfl⟩⟩ := hrel
    cases gk with
    | zero => exact absurd HA.out (by simp [constableref01_Strings.l0])
    | succ k1 =>
      have H := HA.out
      clear HA
      simp only [constableref01_Strings.l0] at H
      have HC3 := Aside0.mk H
      clear H
      go_upto_region 2 with (fail)
      repeat (go_quiet (fail); go_upto_region 2 with (fail))
      go_cut [15] (fun v15 wc => ∃ (kq : Nat) (x15_2 : Bool), v15 = .bool x15_2 ∧ Aside0 (constableref01_Strings.j1 kq a0 a1 x5_1 x15_2 = some r) ∧ Aside0 (kq ≤ k1) ∧ Drawn0 w wc)
      case first =>
        have H := HC3.out
        clear HC3
        by_cases c4 : x5_1 < (a0.size : Int)
        · rw [if_pos c4] at H
          have c4b0 : decide (x5_1 < (a0.size : Int)) = true := decide_eq_true c4
          clear c4
          (first | rw [c4b0] | (simp only [i64_w, i32_w]; rw [c4b0]) | skip)
          have H' := Aside0.mk H
          clear H
          go_wp2
          repeat (go_quiet (fail); try go_wp2)
          go_meet
          case rel => exact ⟨_, (decide (x5_1 < (a1.size : Int))), ra_, H', ⟨by have := HK1.out; first | omega | exact Nat.le_refl _⟩, dz_⟩
        · rw [if_neg c4] at H
          have c4b0 : decide (x5_1 < (a0.size : Int)) = false := decide_eq_false c4
          clear c4
          (first | rw [c4b0] | (simp only [i64_w, i32_w]; rw [c4b0]) | skip)
          have H' := Aside0.mk H
          clear H
          go_wp2
          repeat (go_quiet (fail); try go_wp2)
          go_meet
          case rel => exact ⟨_, (false), ra_, H', ⟨by have := HK1.out; first | omega | exact Nat.le_refl _⟩, dz_⟩
      case rest =>
        clear HC3
        try clear p2
        try clear c4
        try clear c4b0
        try clear p2
        obtain ⟨kq, x15_2, rfl, HA, HJ2, ⟨mc2, rfl⟩⟩ := hcut
        cases kq with
        | zero => exact absurd HA.out (by simp [constableref01_Strings.j1])
        | succ kj2 =>
          have H := HA.out
          clear HA
          simp only [constableref01_Strings.j1] at H
          by_cases c5 : x15_2 = true
          · subst c5
            have H1 : (if 0 ≤ x5_1 then (if x5_1 < (a0.size : Int) then (if x5_1 < (a1.size : Int) then (if (bt a0 x5_1) = (bt a1 x5_1) then (constableref01_Strings.l0 kj2 a0 a1 (wrap64 (x5_1 + 1))) else ((constableref01_order.f (wrap64 (bt a0 x5_1)) (wrap64 (bt a1 x5_1))).bind fun t317 => (some t317))) else (none)) else (none)) else (none)) = some r := by rw [if_pos rfl] at H; exact H
            clear H
            have H := H1
            clear H1
            by_cases c6 : 0 ≤ x5_1
            · rw [if_pos c6] at H
              have c6b0 : decide (0 ≤ x5_1) = true := decide_eq_true c6
              clear c6
              by_cases c7 : x5_1 < (a0.size : Int)
              · rw [if_pos c7] at H
                have c7b0 : decide (x5_1 < (a0.size : Int)) = true := decide_eq_true c7
                clear c7
                by_cases c9 : x5_1 < (a1.size : Int)
                · rw [if_pos c9] at H
                  have c9b0 : decide (x5_1 < (a1.size : Int)) = true := decide_eq_true c9
                  clear c9
                  by_cases c11 : (bt a0 x5_1) = (bt a1 x5_1)
                  · rw [if_pos c11] at H
                    obtain ⟨c11b0, c11b1⟩ := eqB_ c11
                    clear c11
                    have H' := Aside0.mk H
                    clear H
                    have p8 : 0 ≤ (x5_1 : Int) := dt_
                    have q8 : x5_1 < (a0.size : Int) := dt_
                    have hx8 := bt_at a0 x5_1
                    replace p8 := eq_true p8
                    replace q8 := eq_true q8
                    have p10 : 0 ≤ (x5_1 : Int) := dt_
                    have q10 : x5_1 < (a1.size : Int) := dt_
                    have hx10 := bt_at a1 x5_1
                    replace p10 := eq_true p10
                    replace q10 := eq_true q10
                    go_wp2
                    repeat (go_quiet (fail); try go_wp2)
                    go_roundg kj2
                    case measure => have := HK1.out; have := HJ2.out; omega
                    case rel => exact ⟨(wrap64 (x5_1 + 1)), ra_, H', ⟨by have := HK1.out; have := HJ2.out; omega⟩, dz_⟩
                  · rw [if_neg c11] at H
                    obtain ⟨c11b0, c11b1⟩ := neB_ c11
                    replace H := Option.bind_eq_some_iff.mp H
                    obtain ⟨t317, A140, H⟩ := H
                    replace H : (some t317) = some r := H
                    have A14 := Aside0.mk A140
                    clear A140
                    obtain rfl := Option.some.inj H
                    have p8 : 0 ≤ (x5_1 : Int) := dt_
                    have q8 : x5_1 < (a0.size : Int) := dt_
                    have hx8 := bt_at a0 x5_1
                    replace p8 := eq_true p8
                    replace q8 := eq_true q8
                    have p10 : 0 ≤ (x5_1 : Int) := dt_
                    have q10 : x5_1 < (a1.size : Int) := dt_
                    have hx10 := bt_at a1 x5_1
                    replace p10 := eq_true p10
                    replace q10 := eq_true q10
                    have p12 : 0 ≤ (x5_1 : Int) := dt_
                    have q12 : x5_1 < (a0.size : Int) := dt_
                    have hx12 := bt_at a0 x5_1
                    replace p12 := eq_true p12
                    replace q12 := eq_true q12
                    have p13 : 0 ≤ (x5_1 : Int) := dt_
                    have q13 : x5_1 < (a1.size : Int) := dt_
                    have hx13 := bt_at a1 x5_1
                    replace p13 := eq_true p13
                    replace q13 := eq_true q13
                    go_wp2_with (first | (go_at_call 59; (with_reducible refine (constableref01_order.calls (wrap64 (bt a0 x5_1)) (wrap64 (bt a1 x5_1)) t317 _ A14.out).mono ?_); rintro e w' ⟨rfl, ⟨nd, rfl⟩⟩; (try first | exact ⟨rfl, _, World.drewN_drewN _ _ _⟩ | exact ⟨rfl, _, Eq.trans (World.drewN_drewN _ _ _) (congrArg (World.drewN _) (Nat.add_assoc _ _ _))⟩)))
                    repeat (go_quiet (first | (go_at_call 59; (with_reducible refine (constableref01_order.calls (wrap64 (bt a0 x5_1)) (wrap64 (bt a1 x5_1)) t317 _ A14.out).mono ?_); rintro e w' ⟨rfl, ⟨nd, rfl⟩⟩; (try first | exact ⟨rfl, _, World.drewN_drewN _ _ _⟩ | exact ⟨rfl, _, Eq.trans (World.drewN_drewN _ _ _) (congrArg (World.drewN _) (Nat.add_assoc _ _ _))⟩))); try go_wp2_with (first | (go_at_call 59; (with_reducible refine (constableref01_order.calls (wrap64 (bt a0 x5_1)) (wrap64 (bt a1 x5_1)) t317 _ A14.out).mono ?_); rintro e w' ⟨rfl, ⟨nd, rfl⟩⟩; (try first | exact ⟨rfl, _, World.drewN_drewN _ _ _⟩ | exact ⟨rfl, _, Eq.trans (World.drewN_drewN _ _ _) (congrArg (World.drewN _) (Nat.add_assoc _ _ _))⟩))))
                    go_ret
                    exact rz_
                · rw [if_neg c9] at H
                  exact absurd H (by simp)
              · rw [if_neg c7] at H
                exact absurd H (by simp)
            · rw [if_neg c6] at H
              exact absurd H (by simp)
          · replace c5 := Bool.eq_false_iff.mpr c5
            subst c5
            have H1 : ((constableref01_order.f (a0.size : Int) (a1.size : Int)).bind fun t318 => (some t318)) = some r := by rw [if_neg (show ¬ (false = true) by decide)] at H; exact H
            clear H
            have H := H1
            clear H1
            replace H := Option.bind_eq_some_iff.mp H
            obtain ⟨t318, A150, H⟩ := H
            replace H : (some t318) = some r := H
            have A15 := Aside0.mk A150
            clear A150
            obtain rfl := Option.some.inj H
            go_wp2_with (first | (go_at_call 59; (with_reducible refine (constableref01_order.calls (a0.size : Int) (a1.size : Int) t318 _ A15.out).mono ?_); rintro e w' ⟨rfl, ⟨nd, rfl⟩⟩; (try first | exact ⟨rfl, _, World.drewN_drewN _ _ _⟩ | exact ⟨rfl, _, Eq.trans (World.drewN_drewN _ _ _) (congrArg (World.drewN _) (Nat.add_assoc _ _ _))⟩)))
            repeat (go_quiet (first | (go_at_call 59; (with_reducible refine (constableref01_order.calls (a0.size : Int) (a1.size : Int) t318 _ A15.out).mono ?_); rintro e w' ⟨rfl, ⟨nd, rfl⟩⟩; (try first | exact ⟨rfl, _, World.drewN_drewN _ _ _⟩ | exact ⟨rfl, _, Eq.trans (World.drewN_drewN _ _ _) (congrArg (World.drewN _) (Nat.add_assoc _ _ _))⟩))); try go_wp2_with (first | (go_at_call 59; (with_reducible refine (constableref01_order.calls (a0.size : Int) (a1.size : Int) t318 _ A15.out).mono ?_); rintro e w' ⟨rfl, ⟨nd, rfl⟩⟩; (try first | exact ⟨rfl, _, World.drewN_drewN _ _ _⟩ | exact ⟨rfl, _, Eq.trans (World.drewN_drewN _ _ _) (congrArg (World.drewN _) (Nat.add_assoc _ _ _))⟩))))
            go_ret
            exact rz_
end Go.Proofs.Ytconpnagoijacaa.P
end
section
namespace Go.Proofs.Ytconpnagoijacaa.P
open Go.RowKit Go.Proofs.YtconpnagoijacaaW.PrintWords Go.Proofs.YtconpnagoijacaaW.PrintLast Go.Proofs.YtconpnagoijacaaW.PrintMore
attribute [local go_sem] max2_int min2_int max_two min_two max_three min_three max_four min_four
set_option linter.unusedVariables false
set_option linter.unusedSimpArgs false
def constableref01_Binds.l0 : Nat → List (S62) → Int → Option (Bool)
  | 0, _, _ => none
  | k + 1, x0, x3 => if x3 < (x0.length : Int) then (if 0 ≤ x3 then ((constableref01_Word.f k ((rd_T62 x0 x3).f0) true).bind fun t320 => (if t320 = true then ((constableref01_Value.f k ((rd_T62 x0 x3).f1.f0) ((rd_T62 x0 x3).f1.f1) ((rd_T62 x0 x3).f1.f2)).bind fun t322 => (if t322 = true then (if x3 > 0 then (if 0 ≤ (wrap64 (x3 - 1)) then (if (wrap64 (x3 - 1)) < (x0.length : Int) then ((constableref01_Strings.f k ((rd_T62 x0 (wrap64 (x3 - 1))).f0) ((rd_T62 x0 x3).f0)).bind fun t325 => (if t325 ≥ 0 then (some false) else (constableref01_Binds.l0 k x0 (wrap64 (x3 + 1))))) else (none)) else (none)) else (constableref01_Binds.l0 k x0 (wrap64 (x3 + 1)))) else (some false))) else (some false))) else (none)) else (some true)
def constableref01_Binds.f (k : Nat) (l0 : List (S62)) : Option (Bool) := if (l0.length : Int) > 100 then (some false) else (constableref01_Binds.l0 k l0 0)
theorem constableref01_Binds.mono_l : ∀ k, (∀ y0 y1, LeO (constableref01_Binds.l0 k y0 y1) (constableref01_Binds.l0 (k + 1) y0 y1))
  | 0 => fun _ _ r h => by simp [constableref01_Binds.l0] at h
  | k + 1 => by
    have ih0 := constableref01_Binds.mono_l k
    · intro y0 y1
      unfold constableref01_Binds.l0
      repeat' first
      | (with_reducible exact ih0 _ _)
      | (with_reducible exact constableref01_Strings.mono _ _ _)
      | (with_reducible exact constableref01_Value.mono _ _ _ _)
      | (with_reducible exact constableref01_Word.mono _ _ _)
      | (with_reducible exact LeO.refl _)
      | (with_reducible exact LeO.none _)
      | (with_reducible refine LeO.ite ?_ ?_)
      | (with_reducible refine LeO.bind ?_ (fun _ => ?_))
      | exact ih0 _ _
      | exact constableref01_Strings.mono _ _ _
      | exact constableref01_Value.mono _ _ _ _
      | exact constableref01_Word.mono _ _ _
      | exact LeO.none _
      | refine LeO.ite ?_ ?_
      | refine LeO.bind ?_ (fun _ => ?_)
theorem constableref01_Binds.mono : ∀ a0 k, LeO (constableref01_Binds.f k a0) (constableref01_Binds.f (k + 1) a0) := by
  intro a0 k
  have ih0 := constableref01_Binds.mono_l k
  unfold constableref01_Binds.f
  repeat' first
      | (with_reducible exact ih0 _ _)
      | (with_reducible exact constableref01_Strings.mono _ _ _)
      | (with_reducible exact constableref01_Value.mono _ _ _ _)
      | (with_reducible exact constableref01_Word.mono _ _ _)
      | (with_reducible exact LeO.refl _)
      | (with_reducible exact LeO.none _)
      | (with_reducible refine LeO.ite ?_ ?_)
      | (with_reducible refine LeO.bind ?_ (fun _ => ?_))
      | exact ih0 _ _
      | exact constableref01_Strings.mono _ _ _
      | exact constableref01_Value.mono _ _ _ _
      | exact constableref01_Word.mono _ _ _
      | exact LeO.none _
      | refine LeO.ite ?_ ?_
      | refine LeO.bind ?_ (fun _ => ?_)
def constableref01_Binds.T6 : Bool × List (List Nat × List Nat) := (true, [([], []), ([], []), ([0, 1], [0, 1]), ([2], [2]), ([3], [3]), ([4], [4]), ([5], [5]), ([6, 5], [6]), ([7], [7]), ([7], [7]), ([8, 9, 7], [7, 8, 9]), ([10, 7], [7, 10]), ([11, 7], [7, 11]), ([12, 7, 7], [7, 12]), ([13, 7], [7, 13]), ([7, 14], [7, 14]), ([15, 13], [15]), ([16], [16]), ([17, 16], [16, 17]), ([18, 16, 16], [16, 18]), ([19], [19]), ([19], [19]), ([21, 19], [19, 21]), ([20, 22, 19], [19, 20, 22]), ([23, 19], [19, 23]), ([24, 19], [19, 24]), ([19], [19]), ([19], [19]), ([26, 27, 19], [19, 26, 27]), ([28, 19], [19, 28]), ([29, 19], [19, 29]), ([25, 30, 19, 19], [19, 25, 30]), ([31, 19], [19, 31]), ([19, 32, 16], [16, 19, 32]), ([16, 33], [16, 33])])
def constableref01_Binds.B6 : List Nat := [0, 0, 3, 7, 15, 31, 63, 127, 255, 255, 1023, 2047, 4095, 8191, 16383, 32767, 65535, 131071, 262143, 524287, 1048575, 1048575, 3145727, 8388607, 16777215, 33554431, 1048575, 1048575, 202375167, 470810623, 1007681535, 2147483647, 4294967295, 8589934591, 17179869183]
theorem constableref01_Binds.tab6 : rtab .any (opsOf Try.f31 6) = constableref01_Binds.T6 := by kernel_rfl
theorem constableref01_Binds.bits6 : waitsOk constableref01_Binds.T6.2 constableref01_Binds.B6 = true := by kernel_rfl
set_option maxHeartbeats 8000000 in
set_option maxRecDepth 100000 in
theorem constableref01_Binds.calls (k : Nat) (A0 : Option Addr) (c0 : Nat) (l0 : List (S62)) (r : Bool) (w : World) (hr0 : Kd.C k62 w A0 l0.length l0) (hc0 : l0.length ≤ c0) (h : constableref01_Binds.f k l0 = some r) :
    Calls Try.prog 31 #[.slice A0 l0.length c0] w fun e w' => e = .returned (.bool r) ∧ Below w.heap.size w w' := by
  have hu40 := Try.underlying40
  have HR0 := Aside0.mk hr0
  have HC0 := Aside0.mk hc0
  clear hr0 hc0
  have HB := Aside0.mk (Below.refl w.heap.size w)
  have H : (if (l0.length : Int) > 100 then (some false) else (constableref01_Binds.l0 k l0 0)) = some r := h
  clear h
  by_cases c2 : (l0.length : Int) > 100
  · rw [if_pos c2] at H
    have c2b0 : decide (100 < (l0.length : Int)) = true := decide_eq_true c2
    have c2b1 : decide (100 < l0.length) = true := decide_eq_true (by omega)
    clear c2
    obtain rfl := Option.some.inj H
    go_enter Try.func31, Try.ntmps31
    go_wp2
    go_ret
    exact ⟨by first | rfl | (simp [errW_none, errW_some] <;> rfl) | (simp [*, errW_none, errW_some] <;> rfl), by repeat (first | (with_reducible first | exact HB.out | apply below_alloc | apply pw_below_drewN | apply below_drew1) | exact HB.out)⟩
  · rw [if_neg c2] at H
    have c2b0 : decide (100 < (l0.length : Int)) = false := decide_eq_false c2
    have c2b1 : decide (100 < l0.length) = false := decide_eq_false (by omega)
    clear c2
    have H' := Aside0.mk H
    clear H
    go_enter Try.func31, Try.ntmps31
    go_wp2
    go_loopg [3] k (fun kq v3 w' => ∃ (x3_1 : Int), v3 = .int .i64 x3_1 ∧ Aside0 (constableref01_Binds.l0 kq l0 x3_1 = some r) ∧ Aside0 (kq ≤ k) ∧ Aside0 (Below w.heap.size w w'))
    case atStart => exact ⟨(0), ra_, H', ⟨Nat.le_refl _⟩, ⟨by repeat (first | (with_reducible first | exact HB.out | apply below_alloc | apply pw_below_drewN | apply below_drew1) | exact HB.out)⟩⟩
    case round =>
      clear H'
      try clear c2
      try clear c2b0
      try clear c2b1
      try clear p2
      obtain ⟨x3_1, rfl, HA, HK1, HB⟩ := hrel
      cases gk with
      | zero => exact absurd HA.out (by simp [constableref01_Binds.l0])
      | succ k1 =>
        have H := HA.out
        clear HA
        simp only [constableref01_Binds.l0] at H
        by_cases c3 : x3_1 < (l0.length : Int)
        · rw [if_pos c3] at H
          have c3b0 : decide (x3_1 < (l0.length : Int)) = true := decide_eq_true c3
          clear c3
          by_cases c4 : 0 ≤ x3_1
          · rw [if_pos c4] at H
            have c4b0 : decide (0 ≤ x3_1) = true := decide_eq_true c4
            clear c4
            replace H := Option.bind_eq_some_iff.mp H
            obtain ⟨t320, A50, H⟩ := H
            replace H : (if t320 = true then ((constableref01_Value.f k1 ((rd_T62 l0 x3_1).f1.f0) ((rd_T62 l0 x3_1).f1.f1) ((rd_T62 l0 x3_1).f1.f2)).bind fun t322 => (if t322 = true then (if x3_1 > 0 then (if 0 ≤ (wrap64 (x3_1 - 1)) then (if (wrap64 (x3_1 - 1)) < (l0.length : Int) then ((constableref01_Strings.f k1 ((rd_T62 l0 (wrap64 (x3_1 - 1))).f0) ((rd_T62 l0 x3_1).f0)).bind fun t325 => (if t325 ≥ 0 then (some false) else (constableref01_Binds.l0 k1 l0 (wrap64 (x3_1 + 1))))) else (none)) else (none)) else (constableref01_Binds.l0 k1 l0 (wrap64 (x3_1 + 1)))) else (some false))) else (some false)) = some r := H
            have A5 := Aside0.mk A50
            clear A50
            by_cases c6 : t320 = true
            · subst c6
              have H1 : ((constableref01_Value.f k1 ((rd_T62 l0 x3_1).f1.f0) ((rd_T62 l0 x3_1).f1.f1) ((rd_T62 l0 x3_1).f1.f2)).bind fun t322 => (if t322 = true then (if x3_1 > 0 then (if 0 ≤ (wrap64 (x3_1 - 1)) then (if (wrap64 (x3_1 - 1)) < (l0.length : Int) then ((constableref01_Strings.f k1 ((rd_T62 l0 (wrap64 (x3_1 - 1))).f0) ((rd_T62 l0 x3_1).f0)).bind fun t325 => (if t325 ≥ 0 then (some false) else (constableref01_Binds.l0 k1 l0 (wrap64 (x3_1 + 1))))) else (none)) else (none)) else (constableref01_Binds.l0 k1 l0 (wrap64 (x3_1 + 1)))) else (some false))) = some r := by rw [if_pos rfl] at H; exact H
              clear H
              have H := H1
              clear H1
              replace H := Option.bind_eq_some_iff.mp H
              obtain ⟨t322, A70, H⟩ := H
              replace H : (if t322 = true then (if x3_1 > 0 then (if 0 ≤ (wrap64 (x3_1 - 1)) then (if (wrap64 (x3_1 - 1)) < (l0.length : Int) then ((constableref01_Strings.f k1 ((rd_T62 l0 (wrap64 (x3_1 - 1))).f0) ((rd_T62 l0 x3_1).f0)).bind fun t325 => (if t325 ≥ 0 then (some false) else (constableref01_Binds.l0 k1 l0 (wrap64 (x3_1 + 1))))) else (none)) else (none)) else (constableref01_Binds.l0 k1 l0 (wrap64 (x3_1 + 1)))) else (some false)) = some r := H
              have A7 := Aside0.mk A70
              clear A70
              by_cases c8 : t322 = true
              · subst c8
                have H1 : (if x3_1 > 0 then (if 0 ≤ (wrap64 (x3_1 - 1)) then (if (wrap64 (x3_1 - 1)) < (l0.length : Int) then ((constableref01_Strings.f k1 ((rd_T62 l0 (wrap64 (x3_1 - 1))).f0) ((rd_T62 l0 x3_1).f0)).bind fun t325 => (if t325 ≥ 0 then (some false) else (constableref01_Binds.l0 k1 l0 (wrap64 (x3_1 + 1))))) else (none)) else (none)) else (constableref01_Binds.l0 k1 l0 (wrap64 (x3_1 + 1)))) = some r := by rw [if_pos rfl] at H; exact H
                clear H
                have H := H1
                clear H1
                by_cases c9 : x3_1 > 0
                · rw [if_pos c9] at H
                  have c9b0 : decide (0 < x3_1) = true := decide_eq_true c9
                  clear c9
                  obtain ⟨ji10, hji10⟩ : ∃ j_ : Int, (wrap64 (x3_1 - 1)) = j_ := ⟨_, rfl⟩
                  replace H : (if 0 ≤ (ji10) then (if (ji10) < (l0.length : Int) then ((constableref01_Strings.f k1 ((rd_T62 l0 (ji10)).f0) ((rd_T62 l0 x3_1).f0)).bind fun t325 => (if t325 ≥ 0 then (some false) else (constableref01_Binds.l0 k1 l0 (wrap64 (x3_1 + 1))))) else (none)) else (none)) = some r := by first | (rw [hji10] at H; exact H) | (simp only [hji10] at H ⊢; exact H)
                  (try rw [hji10] at A5)
                  (try rw [hji10] at A7)
                  have hji10w : (IntKind.i64.wrap (x3_1 - 1)) = ji10 := (i64_w _).trans hji10
                  by_cases c11 : 0 ≤ (ji10)
                  · rw [if_pos c11] at H
                    have c11b0 : decide (0 ≤ (ji10)) = true := decide_eq_true c11
                    clear c11
                    by_cases c12 : (ji10) < (l0.length : Int)
                    · rw [if_pos c12] at H
                      have c12b0 : decide ((ji10) < (l0.length : Int)) = true := decide_eq_true c12
                      clear c12
                      replace H := Option.bind_eq_some_iff.mp H
                      obtain ⟨t325, A130, H⟩ := H
                      replace H : (if t325 ≥ 0 then (some false) else (constableref01_Binds.l0 k1 l0 (wrap64 (x3_1 + 1)))) = some r := H
                      have A13 := Aside0.mk A130
                      clear A130
                      by_cases c14 : t325 ≥ 0
                      · rw [if_pos c14] at H
                        have c14b0 : decide (0 ≤ t325) = true := decide_eq_true c14
                        clear c14
                        obtain rfl := Option.some.inj H
                        try go_wp2
                        have n0_ := Aside0.mk (below_drew1 HB.out)
                        clear HB
                        have HB := n0_
                        clear n0_
                        have p319 : 0 ≤ (x3_1 : Int) := dt_
                        have q319 : x3_1 < (l0.length : Int) := dt_
                        obtain ⟨ad319, e319, hx319_0, hx319_1, hx319_2, hx319_3⟩ := at_T62 HR0.out x3_1 p319 q319
                        have hw319_3 := hx319_3
                        have hw319_2 := hx319_2
                        have hw319_1 := hx319_1
                        have hw319_0 := hx319_0
                        cases e319
                        replace hx319_0 := cm_ HB hx319_0
                        replace hx319_1 := cm_ HB hx319_1
                        replace hx319_2 := cm_ HB hx319_2
                        replace hx319_3 := cm_ HB hx319_3
                        replace p319 := eq_true p319
                        replace q319 := eq_true q319
                        have p321 : 0 ≤ (x3_1 : Int) := dt_
                        have q321 : x3_1 < (l0.length : Int) := dt_
                        obtain ⟨ad321, e321, hx321_0, hx321_1, hx321_2, hx321_3⟩ := at_T62 HR0.out x3_1 p321 q321
                        have hw321_3 := hx321_3
                        have hw321_2 := hx321_2
                        have hw321_1 := hx321_1
                        have hw321_0 := hx321_0
                        obtain rfl : ad319 = ad321 := (by injection e321)
                        replace hx321_0 := cm_ HB hx321_0
                        replace hx321_1 := cm_ HB hx321_1
                        replace hx321_2 := cm_ HB hx321_2
                        replace hx321_3 := cm_ HB hx321_3
                        replace p321 := eq_true p321
                        replace q321 := eq_true q321
                        have p323 : 0 ≤ ((ji10) : Int) := dt_
                        have q323 : (ji10) < (l0.length : Int) := dt_
                        obtain ⟨ad323, e323, hx323_0, hx323_1, hx323_2, hx323_3⟩ := at_T62 HR0.out (ji10) p323 q323
                        have hw323_3 := hx323_3
                        have hw323_2 := hx323_2
                        have hw323_1 := hx323_1
                        have hw323_0 := hx323_0
                        obtain rfl : ad319 = ad323 := (by injection e323)
                        replace hx323_0 := cm_ HB hx323_0
                        replace hx323_1 := cm_ HB hx323_1
                        replace hx323_2 := cm_ HB hx323_2
                        replace hx323_3 := cm_ HB hx323_3
                        replace p323 := eq_true p323
                        replace q323 := eq_true q323
                        have p324 : 0 ≤ (x3_1 : Int) := dt_
                        have q324 : x3_1 < (l0.length : Int) := dt_
                        obtain ⟨ad324, e324, hx324_0, hx324_1, hx324_2, hx324_3⟩ := at_T62 HR0.out x3_1 p324 q324
                        have hw324_3 := hx324_3
                        have hw324_2 := hx324_2
                        have hw324_1 := hx324_1
                        have hw324_0 := hx324_0
                        obtain rfl : ad319 = ad324 := (by injection e324)
                        replace hx324_0 := cm_ HB hx324_0
                        replace hx324_1 := cm_ HB hx324_1
                        replace hx324_2 := cm_ HB hx324_2
                        replace hx324_3 := cm_ HB hx324_3
                        replace p324 := eq_true p324
                        replace q324 := eq_true q324
                        refine start_ (n := 35) (S := fun w' => w'.cell? (ad319.add ((x3_1).toNat * 4)) = some (.string ((rd_T62 l0 x3_1).f0)) ∧ w'.cell? ⟨(ad319.add ((x3_1).toNat * 4)).block, (ad319.add ((x3_1).toNat * 4)).off + 1, none⟩ = some (.int .i64 ((rd_T62 l0 x3_1).f1.f0)) ∧ w'.cell? ⟨(ad319.add ((x3_1).toNat * 4)).block, (ad319.add ((x3_1).toNat * 4)).off + 2, none⟩ = some (.int .i64 ((rd_T62 l0 x3_1).f1.f1)) ∧ w'.cell? ⟨(ad319.add ((x3_1).toNat * 4)).block, (ad319.add ((x3_1).toNat * 4)).off + 3, none⟩ = some (.string ((rd_T62 l0 x3_1).f1.f2)) ∧ w'.cell? (ad319.add ((x3_1).toNat * 4)) = some (.string ((rd_T62 l0 x3_1).f0)) ∧ w'.cell? ⟨(ad319.add ((x3_1).toNat * 4)).block, (ad319.add ((x3_1).toNat * 4)).off + 1, none⟩ = some (.int .i64 ((rd_T62 l0 x3_1).f1.f0)) ∧ w'.cell? ⟨(ad319.add ((x3_1).toNat * 4)).block, (ad319.add ((x3_1).toNat * 4)).off + 2, none⟩ = some (.int .i64 ((rd_T62 l0 x3_1).f1.f1)) ∧ w'.cell? ⟨(ad319.add ((x3_1).toNat * 4)).block, (ad319.add ((x3_1).toNat * 4)).off + 3, none⟩ = some (.string ((rd_T62 l0 x3_1).f1.f2)) ∧ w'.cell? (ad319.add (((ji10)).toNat * 4)) = some (.string ((rd_T62 l0 (ji10)).f0)) ∧ w'.cell? ⟨(ad319.add (((ji10)).toNat * 4)).block, (ad319.add (((ji10)).toNat * 4)).off + 1, none⟩ = some (.int .i64 ((rd_T62 l0 (ji10)).f1.f0)) ∧ w'.cell? ⟨(ad319.add (((ji10)).toNat * 4)).block, (ad319.add (((ji10)).toNat * 4)).off + 2, none⟩ = some (.int .i64 ((rd_T62 l0 (ji10)).f1.f1)) ∧ w'.cell? ⟨(ad319.add (((ji10)).toNat * 4)).block, (ad319.add (((ji10)).toNat * 4)).off + 3, none⟩ = some (.string ((rd_T62 l0 (ji10)).f1.f2)) ∧ w'.cell? (ad319.add ((x3_1).toNat * 4)) = some (.string ((rd_T62 l0 x3_1).f0)) ∧ w'.cell? ⟨(ad319.add ((x3_1).toNat * 4)).block, (ad319.add ((x3_1).toNat * 4)).off + 1, none⟩ = some (.int .i64 ((rd_T62 l0 x3_1).f1.f0)) ∧ w'.cell? ⟨(ad319.add ((x3_1).toNat * 4)).block, (ad319.add ((x3_1).toNat * 4)).off + 2, none⟩ = some (.int .i64 ((rd_T62 l0 x3_1).f1.f1)) ∧ w'.cell? ⟨(ad319.add ((x3_1).toNat * 4)).block, (ad319.add ((x3_1).toNat * 4)).off + 3, none⟩ = some (.string ((rd_T62 l0 x3_1).f1.f2))) (ds := []) (mk_ 35 0) (by kernel_rfl) rfl rfl ⟨(cl_ HB hw319_0), (cl_ HB hw319_1), (cl_ HB hw319_2), (cl_ HB hw319_3), (cl_ HB hw321_0), (cl_ HB hw321_1), (cl_ HB hw321_2), (cl_ HB hw321_3), (cl_ HB hw323_0), (cl_ HB hw323_1), (cl_ HB hw323_2), (cl_ HB hw323_3), (cl_ HB hw324_0), (cl_ HB hw324_1), (cl_ HB hw324_2), (cl_ HB hw324_3)⟩ (fun hHeld => ?_); refine with_tabW constableref01_Binds.tab6 constableref01_Binds.bits6 (fun HT_ HW_ => ?_)
                        generalize wr.drew = w15 at HB hx319_0 hx319_1 hx319_2 hx319_3 hx321_0 hx321_1 hx321_2 hx321_3 hx323_0 hx323_1 hx323_2 hx323_3 hx324_0 hx324_1 hx324_2 hx324_3 hHeld ⊢
                        refine pu_ 0 13 1 HT_ ?_; refine pu_ 1 14 3 HT_ ?_; refine pu_ 2 15 7 HT_ ?_; refine pu_ 3 16 15 HT_ ?_; refine tk_ 4 17 31 HT_ HW_ hHeld ?_
                        refine one_ (i := 5) (N := some 18) (mk_ 35 63) rfl rfl (one_of HT_.out (by kernel_rfl)) (by decide) (fun K hK => ?_)
                        refine goes_ Try.func45 (by kernel_rfl) rfl #[.string ((rd_T62 l0 x3_1).f0), .bool true] (by rfl) rfl rfl ga_ ?_
                        with_reducible refine (constableref01_Word.calls k1 ((rd_T62 l0 x3_1).f0) true true _ A5.out).mono ?_
                        rintro e w' ⟨rfl, ⟨nd, rfl⟩⟩
                        refine ⟨_, rfl, ?_⟩
                        refine hK.out _ _ ⟨(cl_ HB hw319_0), (cl_ HB hw319_1), (cl_ HB hw319_2), (cl_ HB hw319_3), (cl_ HB hw321_0), (cl_ HB hw321_1), (cl_ HB hw321_2), (cl_ HB hw321_3), (cl_ HB hw323_0), (cl_ HB hw323_1), (cl_ HB hw323_2), (cl_ HB hw323_3), (cl_ HB hw324_0), (cl_ HB hw324_1), (cl_ HB hw324_2), (cl_ HB hw324_3)⟩ (fun hHeld => ?_)
                        clear hK K
                        refine nm_ 18 ?_; refine pu_ 6 19 127 HT_ ?_; refine pu_ 7 20 255 HT_ ?_; refine pu_ 8 21 511 HT_ ?_; refine pu_ 9 22 1023 HT_ ?_; refine pu_ 10 23 2047 HT_ ?_; refine pu_ 11 24 4095 HT_ ?_; refine tk_ 12 25 8191 HT_ HW_ hHeld ?_
                        refine one_ (i := 13) (N := some 26) (mk_ 35 16383) rfl rfl (one_of HT_.out (by kernel_rfl)) (by decide) (fun K hK => ?_)
                        refine goes_ Try.func46 (by kernel_rfl) rfl #[.agg #[.int .i64 ((rd_T62 l0 x3_1).f1.f0), .int .i64 ((rd_T62 l0 x3_1).f1.f1), .string ((rd_T62 l0 x3_1).f1.f2)]] (by rfl) rfl rfl ga_ ?_
                        with_reducible refine (constableref01_Value.calls k1 ((rd_T62 l0 x3_1).f1.f0) ((rd_T62 l0 x3_1).f1.f1) ((rd_T62 l0 x3_1).f1.f2) true _ A7.out).mono ?_
                        rintro e w16 ⟨rfl, hb⟩
                        refine ⟨_, rfl, ?_⟩
                        have n0_ := bs_ (be_ HB) hb
                        clear HB
                        have HB := n0_
                        clear n0_
                        (try clear hb)
                        (try clear hb2)
                        (try clear hk)
                        (try clear hi)
                        refine hK.out _ _ ⟨(cl_ HB hw319_0), (cl_ HB hw319_1), (cl_ HB hw319_2), (cl_ HB hw319_3), (cl_ HB hw321_0), (cl_ HB hw321_1), (cl_ HB hw321_2), (cl_ HB hw321_3), (cl_ HB hw323_0), (cl_ HB hw323_1), (cl_ HB hw323_2), (cl_ HB hw323_3), (cl_ HB hw324_0), (cl_ HB hw324_1), (cl_ HB hw324_2), (cl_ HB hw324_3)⟩ (fun hHeld => ?_)
                        clear hK K
                        refine nm_ 26 ?_; refine pu_ 14 27 32767 HT_ ?_; refine pu_ 15 28 65535 HT_ ?_; refine pu_ 16 29 131071 HT_ ?_; refine pu_ 17 30 262143 HT_ ?_; refine pu_ 18 31 524287 HT_ ?_; refine pu_ 19 32 1048575 HT_ ?_; refine pu_ 20 33 2097151 HT_ ?_; refine pu_ 21 34 4194303 HT_ ?_; refine pu_ 22 35 8388607 HT_ ?_; refine pu_ 23 36 16777215 HT_ ?_; refine pu_ 24 37 33554431 HT_ ?_; refine pu_ 26 39 100663295 HT_ ?_; refine pu_ 27 40 234881023 HT_ ?_; refine pu_ 28 41 503316479 HT_ ?_; refine pu_ 29 42 1040187391 HT_ ?_; refine tk_ 25 38 1073741823 HT_ HW_ hHeld ?_; refine tk_ 30 43 2147483647 HT_ HW_ hHeld ?_
                        refine one_ (i := 31) (N := some 44) (mk_ 35 4294967295) rfl rfl (one_of HT_.out (by kernel_rfl)) (by decide) (fun K hK => ?_)
                        refine goes_ Try.func48 (by kernel_rfl) rfl #[.string ((rd_T62 l0 (ji10)).f0), .string ((rd_T62 l0 x3_1).f0)] (by rfl) rfl rfl (by (try simp only [List.map_toArray, List.map_cons, List.map_nil]); first | done | (simp only [hji10]; rfl) | rfl | (simp only [List.length_drop, List.length_take]; rfl)) ?_
                        with_reducible refine (constableref01_Strings.calls k1 ((rd_T62 l0 (ji10)).f0) ((rd_T62 l0 x3_1).f0) t325 _ A13.out).mono ?_
                        rintro e w' ⟨rfl, ⟨nd, rfl⟩⟩
                        refine ⟨_, rfl, ?_⟩
                        refine hK.out _ _ ⟨(cl_ HB hw319_0), (cl_ HB hw319_1), (cl_ HB hw319_2), (cl_ HB hw319_3), (cl_ HB hw321_0), (cl_ HB hw321_1), (cl_ HB hw321_2), (cl_ HB hw321_3), (cl_ HB hw323_0), (cl_ HB hw323_1), (cl_ HB hw323_2), (cl_ HB hw323_3), (cl_ HB hw324_0), (cl_ HB hw324_1), (cl_ HB hw324_2), (cl_ HB hw324_3)⟩ (fun hHeld => ?_)
                        clear hK K
                        refine nm_ 44 ?_; refine pu_ 32 45 8589934591 HT_ ?_; refine pu_ 33 46 17179869183 HT_ ?_; refine pu_ 34 47 34359738367 HT_ ?_
                        refine done_ (done_of HT_.out (by kernel_rfl)) ?_
                        try go_wp2
                        go_ret
                        exact ⟨by first | rfl | (simp [errW_none, errW_some] <;> rfl) | (simp only [← hji10]; first | rfl | (simp [errW_none, errW_some] <;> rfl)) | (simp [*, errW_none, errW_some] <;> rfl), by repeat (first | (with_reducible first | exact HB.out | apply below_alloc | apply pw_below_drewN | apply below_drew1) | exact HB.out)⟩
                      · rw [if_neg c14] at H
                        have c14b0 : decide (0 ≤ t325) = false := decide_eq_false c14
                        clear c14
                        have H' := Aside0.mk H
                        clear H
                        try go_wp2
                        have n0_ := Aside0.mk (below_drew1 HB.out)
                        clear HB
                        have HB := n0_
                        clear n0_
                        have p319 : 0 ≤ (x3_1 : Int) := dt_
                        have q319 : x3_1 < (l0.length : Int) := dt_
                        obtain ⟨ad319, e319, hx319_0, hx319_1, hx319_2, hx319_3⟩ := at_T62 HR0.out x3_1 p319 q319
                        have hw319_3 := hx319_3
                        have hw319_2 := hx319_2
                        have hw319_1 := hx319_1
                        have hw319_0 := hx319_0
                        cases e319
                        replace hx319_0 := cm_ HB hx319_0
                        replace hx319_1 := cm_ HB hx319_1
                        replace hx319_2 := cm_ HB hx319_2
                        replace hx319_3 := cm_ HB hx319_3
                        replace p319 := eq_true p319
                        replace q319 := eq_true q319
                        have p321 : 0 ≤ (x3_1 : Int) := dt_
                        have q321 : x3_1 < (l0.length : Int) := dt_
                        obtain ⟨ad321, e321, hx321_0, hx321_1, hx321_2, hx321_3⟩ := at_T62 HR0.out x3_1 p321 q321
                        have hw321_3 := hx321_3
                        have hw321_2 := hx321_2
                        have hw321_1 := hx321_1
                        have hw321_0 := hx321_0
                        obtain rfl : ad319 = ad321 := (by injection e321)
                        replace hx321_0 := cm_ HB hx321_0
                        replace hx321_1 := cm_ HB hx321_1
                        replace hx321_2 := cm_ HB hx321_2
                        replace hx321_3 := cm_ HB hx321_3
                        replace p321 := eq_true p321
                        replace q321 := eq_true q321
                        have p323 : 0 ≤ ((ji10) : Int) := dt_
                        have q323 : (ji10) < (l0.length : Int) := dt_
                        obtain ⟨ad323, e323, hx323_0, hx323_1, hx323_2, hx323_3⟩ := at_T62 HR0.out (ji10) p323 q323
                        have hw323_3 := hx323_3
                        have hw323_2 := hx323_2
                        have hw323_1 := hx323_1
                        have hw323_0 := hx323_0
                        obtain rfl : ad319 = ad323 := (by injection e323)
                        replace hx323_0 := cm_ HB hx323_0
                        replace hx323_1 := cm_ HB hx323_1
                        replace hx323_2 := cm_ HB hx323_2
                        replace hx323_3 := cm_ HB hx323_3
                        replace p323 := eq_true p323
                        replace q323 := eq_true q323
                        have p324 : 0 ≤ (x3_1 : Int) := dt_
                        have q324 : x3_1 < (l0.length : Int) := dt_
                        obtain ⟨ad324, e324, hx324_0, hx324_1, hx324_2, hx324_3⟩ := at_T62 HR0.out x3_1 p324 q324
                        have hw324_3 := hx324_3
                        have hw324_2 := hx324_2
                        have hw324_1 := hx324_1
                        have hw324_0 := hx324_0
                        obtain rfl : ad319 = ad324 := (by injection e324)
                        replace hx324_0 := cm_ HB hx324_0
                        replace hx324_1 := cm_ HB hx324_1
                        replace hx324_2 := cm_ HB hx324_2
                        replace hx324_3 := cm_ HB hx324_3
                        replace p324 := eq_true p324
                        replace q324 := eq_true q324
                        refine start_ (n := 35) (S := fun w' => w'.cell? (ad319.add ((x3_1).toNat * 4)) = some (.string ((rd_T62 l0 x3_1).f0)) ∧ w'.cell? ⟨(ad319.add ((x3_1).toNat * 4)).block, (ad319.add ((x3_1).toNat * 4)).off + 1, none⟩ = some (.int .i64 ((rd_T62 l0 x3_1).f1.f0)) ∧ w'.cell? ⟨(ad319.add ((x3_1).toNat * 4)).block, (ad319.add ((x3_1).toNat * 4)).off + 2, none⟩ = some (.int .i64 ((rd_T62 l0 x3_1).f1.f1)) ∧ w'.cell? ⟨(ad319.add ((x3_1).toNat * 4)).block, (ad319.add ((x3_1).toNat * 4)).off + 3, none⟩ = some (.string ((rd_T62 l0 x3_1).f1.f2)) ∧ w'.cell? (ad319.add ((x3_1).toNat * 4)) = some (.string ((rd_T62 l0 x3_1).f0)) ∧ w'.cell? ⟨(ad319.add ((x3_1).toNat * 4)).block, (ad319.add ((x3_1).toNat * 4)).off + 1, none⟩ = some (.int .i64 ((rd_T62 l0 x3_1).f1.f0)) ∧ w'.cell? ⟨(ad319.add ((x3_1).toNat * 4)).block, (ad319.add ((x3_1).toNat * 4)).off + 2, none⟩ = some (.int .i64 ((rd_T62 l0 x3_1).f1.f1)) ∧ w'.cell? ⟨(ad319.add ((x3_1).toNat * 4)).block, (ad319.add ((x3_1).toNat * 4)).off + 3, none⟩ = some (.string ((rd_T62 l0 x3_1).f1.f2)) ∧ w'.cell? (ad319.add (((ji10)).toNat * 4)) = some (.string ((rd_T62 l0 (ji10)).f0)) ∧ w'.cell? ⟨(ad319.add (((ji10)).toNat * 4)).block, (ad319.add (((ji10)).toNat * 4)).off + 1, none⟩ = some (.int .i64 ((rd_T62 l0 (ji10)).f1.f0)) ∧ w'.cell? ⟨(ad319.add (((ji10)).toNat * 4)).block, (ad319.add (((ji10)).toNat * 4)).off + 2, none⟩ = some (.int .i64 ((rd_T62 l0 (ji10)).f1.f1)) ∧ w'.cell? ⟨(ad319.add (((ji10)).toNat * 4)).block, (ad319.add (((ji10)).toNat * 4)).off + 3, none⟩ = some (.string ((rd_T62 l0 (ji10)).f1.f2)) ∧ w'.cell? (ad319.add ((x3_1).toNat * 4)) = some (.string ((rd_T62 l0 x3_1).f0)) ∧ w'.cell? ⟨(ad319.add ((x3_1).toNat * 4)).block, (ad319.add ((x3_1).toNat * 4)).off + 1, none⟩ = some (.int .i64 ((rd_T62 l0 x3_1).f1.f0)) ∧ w'.cell? ⟨(ad319.add ((x3_1).toNat * 4)).block, (ad319.add ((x3_1).toNat * 4)).off + 2, none⟩ = some (.int .i64 ((rd_T62 l0 x3_1).f1.f1)) ∧ w'.cell? ⟨(ad319.add ((x3_1).toNat * 4)).block, (ad319.add ((x3_1).toNat * 4)).off + 3, none⟩ = some (.string ((rd_T62 l0 x3_1).f1.f2))) (ds := []) (mk_ 35 0) (by kernel_rfl) rfl rfl ⟨(cl_ HB hw319_0), (cl_ HB hw319_1), (cl_ HB hw319_2), (cl_ HB hw319_3), (cl_ HB hw321_0), (cl_ HB hw321_1), (cl_ HB hw321_2), (cl_ HB hw321_3), (cl_ HB hw323_0), (cl_ HB hw323_1), (cl_ HB hw323_2), (cl_ HB hw323_3), (cl_ HB hw324_0), (cl_ HB hw324_1), (cl_ HB hw324_2), (cl_ HB hw324_3)⟩ (fun hHeld => ?_); refine with_tabW constableref01_Binds.tab6 constableref01_Binds.bits6 (fun HT_ HW_ => ?_)
                        generalize wr.drew = w17 at HB hx319_0 hx319_1 hx319_2 hx319_3 hx321_0 hx321_1 hx321_2 hx321_3 hx323_0 hx323_1 hx323_2 hx323_3 hx324_0 hx324_1 hx324_2 hx324_3 hHeld ⊢
                        refine pu_ 0 13 1 HT_ ?_; refine pu_ 1 14 3 HT_ ?_; refine pu_ 2 15 7 HT_ ?_; refine pu_ 3 16 15 HT_ ?_; refine tk_ 4 17 31 HT_ HW_ hHeld ?_
                        refine one_ (i := 5) (N := some 18) (mk_ 35 63) rfl rfl (one_of HT_.out (by kernel_rfl)) (by decide) (fun K hK => ?_)
                        refine goes_ Try.func45 (by kernel_rfl) rfl #[.string ((rd_T62 l0 x3_1).f0), .bool true] (by rfl) rfl rfl ga_ ?_
                        with_reducible refine (constableref01_Word.calls k1 ((rd_T62 l0 x3_1).f0) true true _ A5.out).mono ?_
                        rintro e w' ⟨rfl, ⟨nd, rfl⟩⟩
                        refine ⟨_, rfl, ?_⟩
                        refine hK.out _ _ ⟨(cl_ HB hw319_0), (cl_ HB hw319_1), (cl_ HB hw319_2), (cl_ HB hw319_3), (cl_ HB hw321_0), (cl_ HB hw321_1), (cl_ HB hw321_2), (cl_ HB hw321_3), (cl_ HB hw323_0), (cl_ HB hw323_1), (cl_ HB hw323_2), (cl_ HB hw323_3), (cl_ HB hw324_0), (cl_ HB hw324_1), (cl_ HB hw324_2), (cl_ HB hw324_3)⟩ (fun hHeld => ?_)
                        clear hK K
                        refine nm_ 18 ?_; refine pu_ 6 19 127 HT_ ?_; refine pu_ 7 20 255 HT_ ?_; refine pu_ 8 21 511 HT_ ?_; refine pu_ 9 22 1023 HT_ ?_; refine pu_ 10 23 2047 HT_ ?_; refine pu_ 11 24 4095 HT_ ?_; refine tk_ 12 25 8191 HT_ HW_ hHeld ?_
                        refine one_ (i := 13) (N := some 26) (mk_ 35 16383) rfl rfl (one_of HT_.out (by kernel_rfl)) (by decide) (fun K hK => ?_)
                        refine goes_ Try.func46 (by kernel_rfl) rfl #[.agg #[.int .i64 ((rd_T62 l0 x3_1).f1.f0), .int .i64 ((rd_T62 l0 x3_1).f1.f1), .string ((rd_T62 l0 x3_1).f1.f2)]] (by rfl) rfl rfl ga_ ?_
                        with_reducible refine (constableref01_Value.calls k1 ((rd_T62 l0 x3_1).f1.f0) ((rd_T62 l0 x3_1).f1.f1) ((rd_T62 l0 x3_1).f1.f2) true _ A7.out).mono ?_
                        rintro e w18 ⟨rfl, hb⟩
                        refine ⟨_, rfl, ?_⟩
                        have n0_ := bs_ (be_ HB) hb
                        clear HB
                        have HB := n0_
                        clear n0_
                        (try clear hb)
                        (try clear hb2)
                        (try clear hk)
                        (try clear hi)
                        refine hK.out _ _ ⟨(cl_ HB hw319_0), (cl_ HB hw319_1), (cl_ HB hw319_2), (cl_ HB hw319_3), (cl_ HB hw321_0), (cl_ HB hw321_1), (cl_ HB hw321_2), (cl_ HB hw321_3), (cl_ HB hw323_0), (cl_ HB hw323_1), (cl_ HB hw323_2), (cl_ HB hw323_3), (cl_ HB hw324_0), (cl_ HB hw324_1), (cl_ HB hw324_2), (cl_ HB hw324_3)⟩ (fun hHeld => ?_)
                        clear hK K
                        refine nm_ 26 ?_; refine pu_ 14 27 32767 HT_ ?_; refine pu_ 15 28 65535 HT_ ?_; refine pu_ 16 29 131071 HT_ ?_; refine pu_ 17 30 262143 HT_ ?_; refine pu_ 18 31 524287 HT_ ?_; refine pu_ 19 32 1048575 HT_ ?_; refine pu_ 20 33 2097151 HT_ ?_; refine pu_ 21 34 4194303 HT_ ?_; refine pu_ 22 35 8388607 HT_ ?_; refine pu_ 23 36 16777215 HT_ ?_; refine pu_ 24 37 33554431 HT_ ?_; refine pu_ 26 39 100663295 HT_ ?_; refine pu_ 27 40 234881023 HT_ ?_; refine pu_ 28 41 503316479 HT_ ?_; refine pu_ 29 42 1040187391 HT_ ?_; refine tk_ 25 38 1073741823 HT_ HW_ hHeld ?_; refine tk_ 30 43 2147483647 HT_ HW_ hHeld ?_
                        refine one_ (i := 31) (N := some 44) (mk_ 35 4294967295) rfl rfl (one_of HT_.out (by kernel_rfl)) (by decide) (fun K hK => ?_)
                        refine goes_ Try.func48 (by kernel_rfl) rfl #[.string ((rd_T62 l0 (ji10)).f0), .string ((rd_T62 l0 x3_1).f0)] (by rfl) rfl rfl (by (try simp only [List.map_toArray, List.map_cons, List.map_nil]); first | done | (simp only [hji10]; rfl) | rfl | (simp only [List.length_drop, List.length_take]; rfl)) ?_
                        with_reducible refine (constableref01_Strings.calls k1 ((rd_T62 l0 (ji10)).f0) ((rd_T62 l0 x3_1).f0) t325 _ A13.out).mono ?_
                        rintro e w' ⟨rfl, ⟨nd, rfl⟩⟩
                        refine ⟨_, rfl, ?_⟩
                        refine hK.out _ _ ⟨(cl_ HB hw319_0), (cl_ HB hw319_1), (cl_ HB hw319_2), (cl_ HB hw319_3), (cl_ HB hw321_0), (cl_ HB hw321_1), (cl_ HB hw321_2), (cl_ HB hw321_3), (cl_ HB hw323_0), (cl_ HB hw323_1), (cl_ HB hw323_2), (cl_ HB hw323_3), (cl_ HB hw324_0), (cl_ HB hw324_1), (cl_ HB hw324_2), (cl_ HB hw324_3)⟩ (fun hHeld => ?_)
                        clear hK K
                        refine nm_ 44 ?_; refine pu_ 32 45 8589934591 HT_ ?_; refine pu_ 33 46 17179869183 HT_ ?_; refine pu_ 34 47 34359738367 HT_ ?_
                        refine done_ (done_of HT_.out (by kernel_rfl)) ?_
                        try go_wp2
                        go_roundg k1
                        case measure => have := HK1.out; omega
                        case rel => exact ⟨(wrap64 (x3_1 + 1)), ra_, H', ⟨by have := HK1.out; omega⟩, ⟨by repeat (first | (with_reducible first | exact HB.out | apply below_alloc | apply pw_below_drewN | apply below_drew1) | exact HB.out)⟩⟩
                    · rw [if_neg c12] at H
                      exact absurd H (by simp)
                  · rw [if_neg c11] at H
                    exact absurd H (by simp)
                · rw [if_neg c9] at H
                  have c9b0 : decide (0 < x3_1) = false := decide_eq_false c9
                  clear c9
                  have H' := Aside0.mk H
                  clear H
                  try go_wp2
                  have n0_ := Aside0.mk (below_drew1 HB.out)
                  clear HB
                  have HB := n0_
                  clear n0_
                  have p319 : 0 ≤ (x3_1 : Int) := dt_
                  have q319 : x3_1 < (l0.length : Int) := dt_
                  obtain ⟨ad319, e319, hx319_0, hx319_1, hx319_2, hx319_3⟩ := at_T62 HR0.out x3_1 p319 q319
                  have hw319_3 := hx319_3
                  have hw319_2 := hx319_2
                  have hw319_1 := hx319_1
                  have hw319_0 := hx319_0
                  cases e319
                  replace hx319_0 := cm_ HB hx319_0
                  replace hx319_1 := cm_ HB hx319_1
                  replace hx319_2 := cm_ HB hx319_2
                  replace hx319_3 := cm_ HB hx319_3
                  replace p319 := eq_true p319
                  replace q319 := eq_true q319
                  have p321 : 0 ≤ (x3_1 : Int) := dt_
                  have q321 : x3_1 < (l0.length : Int) := dt_
                  obtain ⟨ad321, e321, hx321_0, hx321_1, hx321_2, hx321_3⟩ := at_T62 HR0.out x3_1 p321 q321
                  have hw321_3 := hx321_3
                  have hw321_2 := hx321_2
                  have hw321_1 := hx321_1
                  have hw321_0 := hx321_0
                  obtain rfl : ad319 = ad321 := (by injection e321)
                  replace hx321_0 := cm_ HB hx321_0
                  replace hx321_1 := cm_ HB hx321_1
                  replace hx321_2 := cm_ HB hx321_2
                  replace hx321_3 := cm_ HB hx321_3
                  replace p321 := eq_true p321
                  replace q321 := eq_true q321
                  refine start_ (n := 35) (S := fun w' => w'.cell? (ad319.add ((x3_1).toNat * 4)) = some (.string ((rd_T62 l0 x3_1).f0)) ∧ w'.cell? ⟨(ad319.add ((x3_1).toNat * 4)).block, (ad319.add ((x3_1).toNat * 4)).off + 1, none⟩ = some (.int .i64 ((rd_T62 l0 x3_1).f1.f0)) ∧ w'.cell? ⟨(ad319.add ((x3_1).toNat * 4)).block, (ad319.add ((x3_1).toNat * 4)).off + 2, none⟩ = some (.int .i64 ((rd_T62 l0 x3_1).f1.f1)) ∧ w'.cell? ⟨(ad319.add ((x3_1).toNat * 4)).block, (ad319.add ((x3_1).toNat * 4)).off + 3, none⟩ = some (.string ((rd_T62 l0 x3_1).f1.f2)) ∧ w'.cell? (ad319.add ((x3_1).toNat * 4)) = some (.string ((rd_T62 l0 x3_1).f0)) ∧ w'.cell? ⟨(ad319.add ((x3_1).toNat * 4)).block, (ad319.add ((x3_1).toNat * 4)).off + 1, none⟩ = some (.int .i64 ((rd_T62 l0 x3_1).f1.f0)) ∧ w'.cell? ⟨(ad319.add ((x3_1).toNat * 4)).block, (ad319.add ((x3_1).toNat * 4)).off + 2, none⟩ = some (.int .i64 ((rd_T62 l0 x3_1).f1.f1)) ∧ w'.cell? ⟨(ad319.add ((x3_1).toNat * 4)).block, (ad319.add ((x3_1).toNat * 4)).off + 3, none⟩ = some (.string ((rd_T62 l0 x3_1).f1.f2))) (ds := []) (mk_ 35 0) (by kernel_rfl) rfl rfl ⟨(cl_ HB hw319_0), (cl_ HB hw319_1), (cl_ HB hw319_2), (cl_ HB hw319_3), (cl_ HB hw321_0), (cl_ HB hw321_1), (cl_ HB hw321_2), (cl_ HB hw321_3)⟩ (fun hHeld => ?_); refine with_tabW constableref01_Binds.tab6 constableref01_Binds.bits6 (fun HT_ HW_ => ?_)
                  generalize wr.drew = w19 at HB hx319_0 hx319_1 hx319_2 hx319_3 hx321_0 hx321_1 hx321_2 hx321_3 hHeld ⊢
                  refine pu_ 0 13 1 HT_ ?_; refine pu_ 1 14 3 HT_ ?_; refine pu_ 2 15 7 HT_ ?_; refine pu_ 3 16 15 HT_ ?_; refine tk_ 4 17 31 HT_ HW_ hHeld ?_
                  refine one_ (i := 5) (N := some 18) (mk_ 35 63) rfl rfl (one_of HT_.out (by kernel_rfl)) (by decide) (fun K hK => ?_)
                  refine goes_ Try.func45 (by kernel_rfl) rfl #[.string ((rd_T62 l0 x3_1).f0), .bool true] (by rfl) rfl rfl ga_ ?_
                  with_reducible refine (constableref01_Word.calls k1 ((rd_T62 l0 x3_1).f0) true true _ A5.out).mono ?_
                  rintro e w' ⟨rfl, ⟨nd, rfl⟩⟩
                  refine ⟨_, rfl, ?_⟩
                  refine hK.out _ _ ⟨(cl_ HB hw319_0), (cl_ HB hw319_1), (cl_ HB hw319_2), (cl_ HB hw319_3), (cl_ HB hw321_0), (cl_ HB hw321_1), (cl_ HB hw321_2), (cl_ HB hw321_3)⟩ (fun hHeld => ?_)
                  clear hK K
                  refine nm_ 18 ?_; refine pu_ 6 19 127 HT_ ?_; refine pu_ 7 20 255 HT_ ?_; refine pu_ 8 21 511 HT_ ?_; refine pu_ 9 22 1023 HT_ ?_; refine pu_ 10 23 2047 HT_ ?_; refine pu_ 11 24 4095 HT_ ?_; refine tk_ 12 25 8191 HT_ HW_ hHeld ?_
                  refine one_ (i := 13) (N := some 26) (mk_ 35 16383) rfl rfl (one_of HT_.out (by kernel_rfl)) (by decide) (fun K hK => ?_)
                  refine goes_ Try.func46 (by kernel_rfl) rfl #[.agg #[.int .i64 ((rd_T62 l0 x3_1).f1.f0), .int .i64 ((rd_T62 l0 x3_1).f1.f1), .string ((rd_T62 l0 x3_1).f1.f2)]] (by rfl) rfl rfl ga_ ?_
                  with_reducible refine (constableref01_Value.calls k1 ((rd_T62 l0 x3_1).f1.f0) ((rd_T62 l0 x3_1).f1.f1) ((rd_T62 l0 x3_1).f1.f2) true _ A7.out).mono ?_
                  rintro e w20 ⟨rfl, hb⟩
                  refine ⟨_, rfl, ?_⟩
                  have n0_ := bs_ (be_ HB) hb
                  clear HB
                  have HB := n0_
                  clear n0_
                  (try clear hb)
                  (try clear hb2)
                  (try clear hk)
                  (try clear hi)
                  refine hK.out _ _ ⟨(cl_ HB hw319_0), (cl_ HB hw319_1), (cl_ HB hw319_2), (cl_ HB hw319_3), (cl_ HB hw321_0), (cl_ HB hw321_1), (cl_ HB hw321_2), (cl_ HB hw321_3)⟩ (fun hHeld => ?_)
                  clear hK K
                  refine nm_ 26 ?_; refine pu_ 14 27 32767 HT_ ?_; refine pu_ 15 28 65535 HT_ ?_; refine pu_ 16 29 131071 HT_ ?_; refine pu_ 17 30 262143 HT_ ?_; refine pu_ 18 31 524287 HT_ ?_; refine pu_ 19 32 1048575 HT_ ?_; refine pn_ 20 33 2097151 HT_ ?_; refine pn_ 21 34 4194303 HT_ ?_; refine pn_ 22 35 8388607 HT_ ?_; refine pn_ 23 36 16777215 HT_ ?_; refine pn_ 24 37 33554431 HT_ ?_; refine pn_ 25 38 67108863 HT_ ?_; refine pn_ 26 39 134217727 HT_ ?_; refine pn_ 27 40 268435455 HT_ ?_; refine pn_ 28 41 536870911 HT_ ?_; refine pn_ 29 42 1073741823 HT_ ?_; refine pn_ 30 43 2147483647 HT_ ?_; refine pn_ 31 44 4294967295 HT_ ?_; refine pn_ 32 45 8589934591 HT_ ?_; refine pu_ 33 46 17179869183 HT_ ?_; refine pu_ 34 47 34359738367 HT_ ?_
                  refine done_ (done_of HT_.out (by kernel_rfl)) ?_
                  try go_wp2
                  go_roundg k1
                  case measure => have := HK1.out; omega
                  case rel => exact ⟨(wrap64 (x3_1 + 1)), ra_, H', ⟨by have := HK1.out; omega⟩, ⟨by repeat (first | (with_reducible first | exact HB.out | apply below_alloc | apply pw_below_drewN | apply below_drew1) | exact HB.out)⟩⟩
              · replace c8 := Bool.eq_false_iff.mpr c8
                subst c8
                have H1 : (some false) = some r := by rw [if_neg (show ¬ (false = true) by decide)] at H; exact H
                clear H
                have H := H1
                clear H1
                obtain rfl := Option.some.inj H
                try go_wp2
                have n0_ := Aside0.mk (below_drew1 HB.out)
                clear HB
                have HB := n0_
                clear n0_
                have p319 : 0 ≤ (x3_1 : Int) := dt_
                have q319 : x3_1 < (l0.length : Int) := dt_
                obtain ⟨ad319, e319, hx319_0, hx319_1, hx319_2, hx319_3⟩ := at_T62 HR0.out x3_1 p319 q319
                have hw319_3 := hx319_3
                have hw319_2 := hx319_2
                have hw319_1 := hx319_1
                have hw319_0 := hx319_0
                cases e319
                replace hx319_0 := cm_ HB hx319_0
                replace hx319_1 := cm_ HB hx319_1
                replace hx319_2 := cm_ HB hx319_2
                replace hx319_3 := cm_ HB hx319_3
                replace p319 := eq_true p319
                replace q319 := eq_true q319
                have p321 : 0 ≤ (x3_1 : Int) := dt_
                have q321 : x3_1 < (l0.length : Int) := dt_
                obtain ⟨ad321, e321, hx321_0, hx321_1, hx321_2, hx321_3⟩ := at_T62 HR0.out x3_1 p321 q321
                have hw321_3 := hx321_3
                have hw321_2 := hx321_2
                have hw321_1 := hx321_1
                have hw321_0 := hx321_0
                obtain rfl : ad319 = ad321 := (by injection e321)
                replace hx321_0 := cm_ HB hx321_0
                replace hx321_1 := cm_ HB hx321_1
                replace hx321_2 := cm_ HB hx321_2
                replace hx321_3 := cm_ HB hx321_3
                replace p321 := eq_true p321
                replace q321 := eq_true q321
                refine start_ (n := 35) (S := fun w' => w'.cell? (ad319.add ((x3_1).toNat * 4)) = some (.string ((rd_T62 l0 x3_1).f0)) ∧ w'.cell? ⟨(ad319.add ((x3_1).toNat * 4)).block, (ad319.add ((x3_1).toNat * 4)).off + 1, none⟩ = some (.int .i64 ((rd_T62 l0 x3_1).f1.f0)) ∧ w'.cell? ⟨(ad319.add ((x3_1).toNat * 4)).block, (ad319.add ((x3_1).toNat * 4)).off + 2, none⟩ = some (.int .i64 ((rd_T62 l0 x3_1).f1.f1)) ∧ w'.cell? ⟨(ad319.add ((x3_1).toNat * 4)).block, (ad319.add ((x3_1).toNat * 4)).off + 3, none⟩ = some (.string ((rd_T62 l0 x3_1).f1.f2)) ∧ w'.cell? (ad319.add ((x3_1).toNat * 4)) = some (.string ((rd_T62 l0 x3_1).f0)) ∧ w'.cell? ⟨(ad319.add ((x3_1).toNat * 4)).block, (ad319.add ((x3_1).toNat * 4)).off + 1, none⟩ = some (.int .i64 ((rd_T62 l0 x3_1).f1.f0)) ∧ w'.cell? ⟨(ad319.add ((x3_1).toNat * 4)).block, (ad319.add ((x3_1).toNat * 4)).off + 2, none⟩ = some (.int .i64 ((rd_T62 l0 x3_1).f1.f1)) ∧ w'.cell? ⟨(ad319.add ((x3_1).toNat * 4)).block, (ad319.add ((x3_1).toNat * 4)).off + 3, none⟩ = some (.string ((rd_T62 l0 x3_1).f1.f2))) (ds := []) (mk_ 35 0) (by kernel_rfl) rfl rfl ⟨(cl_ HB hw319_0), (cl_ HB hw319_1), (cl_ HB hw319_2), (cl_ HB hw319_3), (cl_ HB hw321_0), (cl_ HB hw321_1), (cl_ HB hw321_2), (cl_ HB hw321_3)⟩ (fun hHeld => ?_); refine with_tabW constableref01_Binds.tab6 constableref01_Binds.bits6 (fun HT_ HW_ => ?_)
                generalize wr.drew = w21 at HB hx319_0 hx319_1 hx319_2 hx319_3 hx321_0 hx321_1 hx321_2 hx321_3 hHeld ⊢
                refine pu_ 0 13 1 HT_ ?_; refine pu_ 1 14 3 HT_ ?_; refine pu_ 2 15 7 HT_ ?_; refine pu_ 3 16 15 HT_ ?_; refine tk_ 4 17 31 HT_ HW_ hHeld ?_
                refine one_ (i := 5) (N := some 18) (mk_ 35 63) rfl rfl (one_of HT_.out (by kernel_rfl)) (by decide) (fun K hK => ?_)
                refine goes_ Try.func45 (by kernel_rfl) rfl #[.string ((rd_T62 l0 x3_1).f0), .bool true] (by rfl) rfl rfl ga_ ?_
                with_reducible refine (constableref01_Word.calls k1 ((rd_T62 l0 x3_1).f0) true true _ A5.out).mono ?_
                rintro e w' ⟨rfl, ⟨nd, rfl⟩⟩
                refine ⟨_, rfl, ?_⟩
                refine hK.out _ _ ⟨(cl_ HB hw319_0), (cl_ HB hw319_1), (cl_ HB hw319_2), (cl_ HB hw319_3), (cl_ HB hw321_0), (cl_ HB hw321_1), (cl_ HB hw321_2), (cl_ HB hw321_3)⟩ (fun hHeld => ?_)
                clear hK K
                refine nm_ 18 ?_; refine pu_ 6 19 127 HT_ ?_; refine pu_ 7 20 255 HT_ ?_; refine pu_ 8 21 511 HT_ ?_; refine pu_ 9 22 1023 HT_ ?_; refine pu_ 10 23 2047 HT_ ?_; refine pu_ 11 24 4095 HT_ ?_; refine tk_ 12 25 8191 HT_ HW_ hHeld ?_
                refine one_ (i := 13) (N := some 26) (mk_ 35 16383) rfl rfl (one_of HT_.out (by kernel_rfl)) (by decide) (fun K hK => ?_)
                refine goes_ Try.func46 (by kernel_rfl) rfl #[.agg #[.int .i64 ((rd_T62 l0 x3_1).f1.f0), .int .i64 ((rd_T62 l0 x3_1).f1.f1), .string ((rd_T62 l0 x3_1).f1.f2)]] (by rfl) rfl rfl ga_ ?_
                with_reducible refine (constableref01_Value.calls k1 ((rd_T62 l0 x3_1).f1.f0) ((rd_T62 l0 x3_1).f1.f1) ((rd_T62 l0 x3_1).f1.f2) false _ A7.out).mono ?_
                rintro e w22 ⟨rfl, hb⟩
                refine ⟨_, rfl, ?_⟩
                have n0_ := bs_ (be_ HB) hb
                clear HB
                have HB := n0_
                clear n0_
                (try clear hb)
                (try clear hb2)
                (try clear hk)
                (try clear hi)
                refine hK.out _ _ ⟨(cl_ HB hw319_0), (cl_ HB hw319_1), (cl_ HB hw319_2), (cl_ HB hw319_3), (cl_ HB hw321_0), (cl_ HB hw321_1), (cl_ HB hw321_2), (cl_ HB hw321_3)⟩ (fun hHeld => ?_)
                clear hK K
                refine nm_ 26 ?_; refine pu_ 14 27 32767 HT_ ?_; refine pu_ 15 28 65535 HT_ ?_; refine pu_ 16 29 131071 HT_ ?_; refine pn_ 17 30 262143 HT_ ?_; refine pn_ 18 31 524287 HT_ ?_; refine pn_ 19 32 1048575 HT_ ?_; refine pn_ 20 33 2097151 HT_ ?_; refine pn_ 21 34 4194303 HT_ ?_; refine pn_ 22 35 8388607 HT_ ?_; refine pn_ 23 36 16777215 HT_ ?_; refine pn_ 24 37 33554431 HT_ ?_; refine pn_ 25 38 67108863 HT_ ?_; refine pn_ 26 39 134217727 HT_ ?_; refine pn_ 27 40 268435455 HT_ ?_; refine pn_ 28 41 536870911 HT_ ?_; refine pn_ 29 42 1073741823 HT_ ?_; refine pn_ 30 43 2147483647 HT_ ?_; refine pn_ 31 44 4294967295 HT_ ?_; refine pn_ 32 45 8589934591 HT_ ?_; refine pn_ 33 46 17179869183 HT_ ?_; refine pu_ 34 47 34359738367 HT_ ?_
                refine done_ (done_of HT_.out (by kernel_rfl)) ?_
                try go_wp2
                go_ret
                exact ⟨by first | rfl | (simp [errW_none, errW_some] <;> rfl) | (simp [*, errW_none, errW_some] <;> rfl), by repeat (first | (with_reducible first | exact HB.out | apply below_alloc | apply pw_below_drewN | apply below_drew1) | exact HB.out)⟩
            · replace c6 := Bool.eq_false_iff.mpr c6
              subst c6
              have H1 : (some false) = some r := by rw [if_neg (show ¬ (false = true) by decide)] at H; exact H
              clear H
              have H := H1
              clear H1
              obtain rfl := Option.some.inj H
              try go_wp2
              have n0_ := Aside0.mk (below_drew1 HB.out)
              clear HB
              have HB := n0_
              clear n0_
              have p319 : 0 ≤ (x3_1 : Int) := dt_
              have q319 : x3_1 < (l0.length : Int) := dt_
              obtain ⟨ad319, e319, hx319_0, hx319_1, hx319_2, hx319_3⟩ := at_T62 HR0.out x3_1 p319 q319
              have hw319_3 := hx319_3
              have hw319_2 := hx319_2
              have hw319_1 := hx319_1
              have hw319_0 := hx319_0
              cases e319
              replace hx319_0 := cm_ HB hx319_0
              replace hx319_1 := cm_ HB hx319_1
              replace hx319_2 := cm_ HB hx319_2
              replace hx319_3 := cm_ HB hx319_3
              replace p319 := eq_true p319
              replace q319 := eq_true q319
              refine start_ (n := 35) (S := fun w' => w'.cell? (ad319.add ((x3_1).toNat * 4)) = some (.string ((rd_T62 l0 x3_1).f0)) ∧ w'.cell? ⟨(ad319.add ((x3_1).toNat * 4)).block, (ad319.add ((x3_1).toNat * 4)).off + 1, none⟩ = some (.int .i64 ((rd_T62 l0 x3_1).f1.f0)) ∧ w'.cell? ⟨(ad319.add ((x3_1).toNat * 4)).block, (ad319.add ((x3_1).toNat * 4)).off + 2, none⟩ = some (.int .i64 ((rd_T62 l0 x3_1).f1.f1)) ∧ w'.cell? ⟨(ad319.add ((x3_1).toNat * 4)).block, (ad319.add ((x3_1).toNat * 4)).off + 3, none⟩ = some (.string ((rd_T62 l0 x3_1).f1.f2))) (ds := []) (mk_ 35 0) (by kernel_rfl) rfl rfl ⟨(cl_ HB hw319_0), (cl_ HB hw319_1), (cl_ HB hw319_2), (cl_ HB hw319_3)⟩ (fun hHeld => ?_); refine with_tabW constableref01_Binds.tab6 constableref01_Binds.bits6 (fun HT_ HW_ => ?_)
              generalize wr.drew = w23 at HB hx319_0 hx319_1 hx319_2 hx319_3 hHeld ⊢
              refine pu_ 0 13 1 HT_ ?_; refine pu_ 1 14 3 HT_ ?_; refine pu_ 2 15 7 HT_ ?_; refine pu_ 3 16 15 HT_ ?_; refine tk_ 4 17 31 HT_ HW_ hHeld ?_
              refine one_ (i := 5) (N := some 18) (mk_ 35 63) rfl rfl (one_of HT_.out (by kernel_rfl)) (by decide) (fun K hK => ?_)
              refine goes_ Try.func45 (by kernel_rfl) rfl #[.string ((rd_T62 l0 x3_1).f0), .bool true] (by rfl) rfl rfl ga_ ?_
              with_reducible refine (constableref01_Word.calls k1 ((rd_T62 l0 x3_1).f0) true false _ A5.out).mono ?_
              rintro e w' ⟨rfl, ⟨nd, rfl⟩⟩
              refine ⟨_, rfl, ?_⟩
              refine hK.out _ _ ⟨(cl_ HB hw319_0), (cl_ HB hw319_1), (cl_ HB hw319_2), (cl_ HB hw319_3)⟩ (fun hHeld => ?_)
              clear hK K
              refine nm_ 18 ?_; refine pu_ 6 19 127 HT_ ?_; refine pu_ 7 20 255 HT_ ?_; refine pn_ 8 21 511 HT_ ?_; refine pn_ 9 22 1023 HT_ ?_; refine pn_ 10 23 2047 HT_ ?_; refine pn_ 11 24 4095 HT_ ?_; refine pn_ 12 25 8191 HT_ ?_; refine pn_ 13 26 16383 HT_ ?_; refine pn_ 14 27 32767 HT_ ?_; refine pu_ 15 28 65535 HT_ ?_; refine pu_ 16 29 131071 HT_ ?_; refine pn_ 17 30 262143 HT_ ?_; refine pn_ 18 31 524287 HT_ ?_; refine pn_ 19 32 1048575 HT_ ?_; refine pn_ 20 33 2097151 HT_ ?_; refine pn_ 21 34 4194303 HT_ ?_; refine pn_ 22 35 8388607 HT_ ?_; refine pn_ 23 36 16777215 HT_ ?_; refine pn_ 24 37 33554431 HT_ ?_; refine pn_ 25 38 67108863 HT_ ?_; refine pn_ 26 39 134217727 HT_ ?_; refine pn_ 27 40 268435455 HT_ ?_; refine pn_ 28 41 536870911 HT_ ?_; refine pn_ 29 42 1073741823 HT_ ?_; refine pn_ 30 43 2147483647 HT_ ?_; refine pn_ 31 44 4294967295 HT_ ?_; refine pn_ 32 45 8589934591 HT_ ?_; refine pn_ 33 46 17179869183 HT_ ?_; refine pu_ 34 47 34359738367 HT_ ?_
              refine done_ (done_of HT_.out (by kernel_rfl)) ?_
              try go_wp2
              go_ret
              exact ⟨by first | rfl | (simp [errW_none, errW_some] <;> rfl) | (simp [*, errW_none, errW_some] <;> rfl), by repeat (first | (with_reducible first | exact HB.out | apply below_alloc | apply pw_below_drewN | apply below_drew1) | exact HB.out)⟩
          · rw [if_neg c4] at H
            exact absurd H (by simp)
        · rw [if_neg c3] at H
          have c3b0 : decide (x3_1 < (l0.length : Int)) = false := decide_eq_false c3
          clear c3
          obtain rfl := Option.some.inj H
          go_wp2
          go_ret
          exact ⟨by first | rfl | (simp [errW_none, errW_some] <;> rfl) | (simp [*, errW_none, errW_some] <;> rfl), by repeat (first | (with_reducible first | exact HB.out | apply below_alloc | apply pw_below_drewN | apply below_drew1) | exact HB.out)⟩
end Go.Proofs.Ytconpnagoijacaa.P
end
section
namespace Go.Proofs.Ytconpnagoijacaa.P
open Go.RowKit Go.Proofs.YtconpnagoijacaaW.PrintWords Go.Proofs.YtconpnagoijacaaW.PrintLast Go.Proofs.YtconpnagoijacaaW.PrintMore
attribute [local go_sem] max2_int min2_int max_two min_two max_three min_three max_four min_four
set_option linter.unusedVariables false
set_option linter.unusedSimpArgs false
def slices_Index_string_string.l0 : Nat → List ByteArray → ByteArray → Int → Int → Option (Int)
  | 0, _, _, _, _ => none
  | k + 1, x0, x1, x7, x8 => if x8 < x7 then (if 0 ≤ x8 then (if x8 < (x0.length : Int) then (if x1.toList = (rdOf ByteArray.empty x0 x8).toList then (some x8) else (slices_Index_string_string.l0 k x0 x1 x7 (wrap64 (x8 + 1)))) else (none)) else (none)) else (some (-1))
def slices_Index_string_string.f (k : Nat) (l0 : List ByteArray) (a1 : ByteArray) : Option (Int) := slices_Index_string_string.l0 k l0 a1 (l0.length : Int) 0
theorem slices_Index_string_string.mono_l : ∀ k, (∀ y0 y1 y2 y3, LeO (slices_Index_string_string.l0 k y0 y1 y2 y3) (slices_Index_string_string.l0 (k + 1) y0 y1 y2 y3))
  | 0 => fun _ _ _ _ r h => by simp [slices_Index_string_string.l0] at h
  | k + 1 => by
    have ih0 := slices_Index_string_string.mono_l k
    · intro y0 y1 y2 y3
      unfold slices_Index_string_string.l0
      repeat' first
      | (with_reducible exact ih0 _ _ _ _)
      | (with_reducible exact LeO.refl _)
      | (with_reducible exact LeO.none _)
      | (with_reducible refine LeO.ite ?_ ?_)
      | (with_reducible refine LeO.bind ?_ (fun _ => ?_))
      | exact ih0 _ _ _ _
      | exact LeO.none _
      | refine LeO.ite ?_ ?_
      | refine LeO.bind ?_ (fun _ => ?_)
theorem slices_Index_string_string.mono : ∀ a0 a1 k, LeO (slices_Index_string_string.f k a0 a1) (slices_Index_string_string.f (k + 1) a0 a1) := by
  intro a0 a1 k
  have ih0 := slices_Index_string_string.mono_l k
  unfold slices_Index_string_string.f
  repeat' first
      | (with_reducible exact ih0 _ _ _ _)
      | (with_reducible exact LeO.refl _)
      | (with_reducible exact LeO.none _)
      | (with_reducible refine LeO.ite ?_ ?_)
      | (with_reducible refine LeO.bind ?_ (fun _ => ?_))
      | exact ih0 _ _ _ _
      | exact LeO.none _
      | refine LeO.ite ?_ ?_
      | refine LeO.bind ?_ (fun _ => ?_)
set_option maxHeartbeats 8000000 in
set_option maxRecDepth 100000 in
theorem slices_Index_string_string.calls (k : Nat) (A0 : Option Addr) (c0 : Nat) (l0 : List ByteArray) (a1 : ByteArray) (r : Int) (w : World) (hr0 : Kd.C Kd.string w A0 l0.length l0) (hc0 : l0.length ≤ c0) (h : slices_Index_string_string.f k l0 a1 = some r) :
    Calls Try.prog 53 #[.slice A0 l0.length c0, .string a1] w fun e w' => e = .returned (.int .i64 r) ∧ Drawn0 w w' := by
  have HR0 := Aside0.mk hr0
  have HC0 := Aside0.mk hc0
  clear hr0 hc0
  have H : (slices_Index_string_string.l0 k l0 a1 (l0.length : Int) 0) = some r := h
  clear h
  have H' := Aside0.mk H
  clear H
  go_enter Try.func53, Try.ntmps53
  go_wp2
  go_loopg [8] k (fun kq v8 w' => ∃ (x8_1 : Int), v8 = .int .i64 x8_1 ∧ Aside0 (slices_Index_string_string.l0 kq l0 a1 (l0.length : Int) x8_1 = some r) ∧ Aside0 (kq ≤ k) ∧ Drawn0 w w')
  case atStart => exact ⟨(0), ra_, H', ⟨Nat.le_refl _⟩, dz_⟩
  case round =>
    clear H'
    try clear p2
    obtain ⟨x8_1, rfl, HA, HK1, ⟨m1, rfl⟩⟩ := hrel
    cases gk with
    | zero => exact absurd HA.out (by simp [slices_Index_string_string.l0])
    | succ k1 =>
      have H := HA.out
      clear HA
      simp only [slices_Index_string_string.l0] at H
      by_cases c3 : x8_1 < (l0.length : Int)
      · rw [if_pos c3] at H
        have c3b0 : decide (x8_1 < (l0.length : Int)) = true := decide_eq_true c3
        clear c3
        by_cases c4 : 0 ≤ x8_1
        · rw [if_pos c4] at H
          have c4b0 : decide (0 ≤ x8_1) = true := decide_eq_true c4
          clear c4
          by_cases c5 : x8_1 < (l0.length : Int)
          · rw [if_pos c5] at H
            have c5b0 : decide (x8_1 < (l0.length : Int)) = true := decide_eq_true c5
            clear c5
            by_cases c6 : a1.toList = (rdOf ByteArray.empty l0 x8_1).toList
            · rw [if_pos c6] at H
              obtain ⟨c6b0, c6b1⟩ := eqB_ c6
              clear c6
              obtain rfl := Option.some.inj H
              have p277 : 0 ≤ (x8_1 : Int) := dt_
              have q277 : x8_1 < (l0.length : Int) := dt_
              obtain ⟨ad277, e277, hx277_0⟩ := Kd.at_string HR0.out x8_1 p277 q277
              cases e277
              replace p277 := eq_true p277
              replace q277 := eq_true q277
              go_wp2
              go_ret
              exact rz_
            · rw [if_neg c6] at H
              obtain ⟨c6b0, c6b1⟩ := neB_ c6
              have H' := Aside0.mk H
              clear H
              have p277 : 0 ≤ (x8_1 : Int) := dt_
              have q277 : x8_1 < (l0.length : Int) := dt_
              obtain ⟨ad277, e277, hx277_0⟩ := Kd.at_string HR0.out x8_1 p277 q277
              cases e277
              replace p277 := eq_true p277
              replace q277 := eq_true q277
              go_wp2
              go_roundg k1
              case measure => have := HK1.out; omega
              case rel => exact ⟨(wrap64 (x8_1 + 1)), ra_, H', ⟨by have := HK1.out; omega⟩, dz_⟩
          · rw [if_neg c5] at H
            exact absurd H (by simp)
        · rw [if_neg c4] at H
          exact absurd H (by simp)
      · rw [if_neg c3] at H
        have c3b0 : decide (x8_1 < (l0.length : Int)) = false := decide_eq_false c3
        clear c3
        obtain rfl := Option.some.inj H
        go_wp2
        go_ret
        exact rz_
end Go.Proofs.Ytconpnagoijacaa.P
end
section
namespace Go.Proofs.Ytconpnagoijacaa.P
open Go.RowKit Go.Proofs.YtconpnagoijacaaW.PrintWords Go.Proofs.YtconpnagoijacaaW.PrintLast Go.Proofs.YtconpnagoijacaaW.PrintMore
attribute [local go_sem] max2_int min2_int max_two min_two max_three min_three max_four min_four
set_option linter.unusedVariables false
set_option linter.unusedSimpArgs false
def slices_Contains_string_string.f (k : Nat) (l0 : List ByteArray) (a1 : ByteArray) : Option (Bool) := (slices_Index_string_string.f k l0 a1).bind fun t278 => (some (decide (t278 ≥ 0)))
theorem slices_Contains_string_string.mono : ∀ a0 a1 k, LeO (slices_Contains_string_string.f k a0 a1) (slices_Contains_string_string.f (k + 1) a0 a1) := by
  intro a0 a1 k
  unfold slices_Contains_string_string.f
  repeat' first
      | (with_reducible exact slices_Index_string_string.mono _ _ _)
      | (with_reducible exact LeO.refl _)
      | (with_reducible exact LeO.none _)
      | (with_reducible refine LeO.ite ?_ ?_)
      | (with_reducible refine LeO.bind ?_ (fun _ => ?_))
      | exact slices_Index_string_string.mono _ _ _
      | exact LeO.none _
      | refine LeO.ite ?_ ?_
      | refine LeO.bind ?_ (fun _ => ?_)
set_option maxHeartbeats 8000000 in
set_option maxRecDepth 100000 in
theorem slices_Contains_string_string.calls (k : Nat) (A0 : Option Addr) (c0 : Nat) (l0 : List ByteArray) (a1 : ByteArray) (r : Bool) (w : World) (hr0 : Kd.C Kd.string w A0 l0.length l0) (hc0 : l0.length ≤ c0) (h : slices_Contains_string_string.f k l0 a1 = some r) :
    Calls Try.prog 43 #[.slice A0 l0.length c0, .string a1] w fun e w' => e = .returned (.bool r) ∧ Drawn0 w w' := by
  have HR0 := Aside0.mk hr0
  have HC0 := Aside0.mk hc0
  clear hr0 hc0
  have H : ((slices_Index_string_string.f k l0 a1).bind fun t278 => (some (decide (t278 ≥ 0)))) = some r := h
  clear h
  replace H := Option.bind_eq_some_iff.mp H
  obtain ⟨t278, A30, H⟩ := H
  replace H : (some (decide (t278 ≥ 0))) = some r := H
  have A3 := Aside0.mk A30
  clear A30
  obtain rfl := Option.some.inj H
  go_enter Try.func43, Try.ntmps43
  go_wp2_with (first | ((with_reducible refine gate_callee (f := 53) rfl ?_); refine goesL_ (some 7) rfl rfl Try.func53 (by kernel_rfl) rfl #[.slice A0 l0.length c0, .string a1] rfl ga_ ?_; (with_reducible refine (slices_Index_string_string.calls k _ _ l0 a1 t278 _ ?side1 ?side2 A3.out).mono ?_); (case side1 => repeat (first | exact HR0.out | (with_reducible refine Kd.C_alloc ?_ _) | (with_reducible refine Kd.C_drewN ?_ _) | (with_reducible refine Kd.C_drew ?_))); (case side2 => exact HC0.out); rintro e w' ⟨rfl, ⟨nd, rfl⟩⟩; refine ⟨_, rfl, ?_⟩))
  go_ret
  exact rz_
end Go.Proofs.Ytconpnagoijacaa.P
end
section
namespace Go.Proofs.Ytconpnagoijacaa.P
open Go.RowKit Go.Proofs.YtconpnagoijacaaW.PrintWords Go.Proofs.YtconpnagoijacaaW.PrintLast Go.Proofs.YtconpnagoijacaaW.PrintMore
attribute [local go_sem] max2_int min2_int max_two min_two max_three min_three max_four min_four
set_option linter.unusedVariables false
set_option linter.unusedSimpArgs false
def expr_Vars.l0 : Nat → List ByteArray → List (S52) → Int → Int → Option (List ByteArray)
  | 0, _, _, _, _ => none
  | k + 1, x3, x6, x7, x8 => if x8 < x7 then (if 0 ≤ x8 then (if x8 < (x6.length : Int) then (if ((rd_T52 x6 x8).f1).toList = ([] : List UInt8) then (expr_Vars.l0 k x3 x6 x7 (wrap64 (x8 + 1))) else ((slices_Contains_string_string.f k x3 ((rd_T52 x6 x8).f1)).bind fun t281 => (if t281 = true then (expr_Vars.l0 k x3 x6 x7 (wrap64 (x8 + 1))) else (if x3.length < 8796093022208 then (expr_Vars.l0 k (x3 ++ [(rd_T52 x6 x8).f1]) x6 x7 (wrap64 (x8 + 1))) else (none))))) else (none)) else (none)) else (some x3)
def expr_Vars.f (k : Nat) (l0 : List (S52)) : Option (List ByteArray) := expr_Vars.l0 k ([] : List ByteArray) l0 (l0.length : Int) 0
theorem expr_Vars.mono_l : ∀ k, (∀ y0 y1 y2 y3, LeO (expr_Vars.l0 k y0 y1 y2 y3) (expr_Vars.l0 (k + 1) y0 y1 y2 y3))
  | 0 => fun _ _ _ _ r h => by simp [expr_Vars.l0] at h
  | k + 1 => by
    have ih0 := expr_Vars.mono_l k
    · intro y0 y1 y2 y3
      unfold expr_Vars.l0
      repeat' first
      | (with_reducible exact ih0 _ _ _ _)
      | (with_reducible exact slices_Contains_string_string.mono _ _ _)
      | (with_reducible exact LeO.refl _)
      | (with_reducible exact LeO.none _)
      | (with_reducible refine LeO.ite ?_ ?_)
      | (with_reducible refine LeO.bind ?_ (fun _ => ?_))
      | exact ih0 _ _ _ _
      | exact slices_Contains_string_string.mono _ _ _
      | exact LeO.none _
      | refine LeO.ite ?_ ?_
      | refine LeO.bind ?_ (fun _ => ?_)
theorem expr_Vars.mono : ∀ a0 k, LeO (expr_Vars.f k a0) (expr_Vars.f (k + 1) a0) := by
  intro a0 k
  have ih0 := expr_Vars.mono_l k
  unfold expr_Vars.f
  repeat' first
      | (with_reducible exact ih0 _ _ _ _)
      | (with_reducible exact slices_Contains_string_string.mono _ _ _)
      | (with_reducible exact LeO.refl _)
      | (with_reducible exact LeO.none _)
      | (with_reducible refine LeO.ite ?_ ?_)
      | (with_reducible refine LeO.bind ?_ (fun _ => ?_))
      | exact ih0 _ _ _ _
      | exact slices_Contains_string_string.mono _ _ _
      | exact LeO.none _
      | refine LeO.ite ?_ ?_
      | refine LeO.bind ?_ (fun _ => ?_)
set_option maxHeartbeats 8000000 in
set_option maxRecDepth 100000 in
theorem expr_Vars.calls (k : Nat) (A0 : Option Addr) (c0 : Nat) (l0 : List (S52)) (r : List ByteArray) (w : World) (hr0 : Kd.C k52 w A0 l0.length l0) (hc0 : l0.length ≤ c0) (h : expr_Vars.f k l0 = some r) :
    Calls Try.prog 23 #[.slice A0 l0.length c0] w fun e w' => ∃ v0_ : Value, e = .returned (v0_) ∧ Kd.R Kd.string 9 w' w.heap.size (fun _ => True) v0_ r ∧ Below w.heap.size w w' := by
  have hu52 := Try.underlying52
  have HR0 := Aside0.mk hr0
  have HC0 := Aside0.mk hc0
  clear hr0 hc0
  have HB := Aside0.mk (Below.refl w.heap.size w)
  have H : (expr_Vars.l0 k ([] : List ByteArray) l0 (l0.length : Int) 0) = some r := h
  clear h
  have H' := Aside0.mk H
  clear H
  go_enter Try.func23, Try.ntmps23
  go_wp2
  go_loopg [3, 8] k (fun kq v3 v8 w' => ∃ (x3_1 : List ByteArray) (x8_1 : Int), v8 = .int .i64 x8_1 ∧ Aside0 (expr_Vars.l0 kq x3_1 l0 (l0.length : Int) x8_1 = some r) ∧ Aside0 (kq ≤ k) ∧ Aside0 (Kd.R Kd.string 9 w' w.heap.size (fun _ => True) v3 x3_1) ∧ Aside0 (Below w.heap.size w w'))
  case atStart => exact ⟨(([] : List ByteArray)), (0), ra_, H', ⟨Nat.le_refl _⟩, ⟨by first | exact Kd.R_nil _ _ _ _ _ | exact Kd.N_nil _ _ _ _ _ | exact Kd.V_nil _ _ _ _ _ | exact Kd.Q_nil _ _ _ _ _ | exact Kd.S_nil _ _ _ _ _⟩, ⟨by repeat (first | (with_reducible first | exact HB.out | apply below_alloc | apply pw_below_drewN | apply below_drew1) | exact HB.out)⟩⟩
  case round =>
    clear H'
    obtain ⟨x3_1, x8_1, rfl, HA, HK1, HO_3, HB⟩ := hrel
    cases gk with
    | zero => exact absurd HA.out (by simp [expr_Vars.l0])
    | succ k1 =>
      have H := HA.out
      clear HA
      simp only [expr_Vars.l0] at H
      by_cases c2 : x8_1 < (l0.length : Int)
      · rw [if_pos c2] at H
        have c2b0 : decide (x8_1 < (l0.length : Int)) = true := decide_eq_true c2
        clear c2
        by_cases c3 : 0 ≤ x8_1
        · rw [if_pos c3] at H
          have c3b0 : decide (0 ≤ x8_1) = true := decide_eq_true c3
          clear c3
          by_cases c4 : x8_1 < (l0.length : Int)
          · rw [if_pos c4] at H
            have c4b0 : decide (x8_1 < (l0.length : Int)) = true := decide_eq_true c4
            clear c4
            by_cases c5 : ((rd_T52 l0 x8_1).f1).toList = ([] : List UInt8)
            · rw [if_pos c5] at H
              obtain ⟨c5b0, c5b1⟩ := eqB_ c5
              clear c5
              have H' := Aside0.mk H
              clear H
              have p279 : 0 ≤ (x8_1 : Int) := dt_
              have q279 : x8_1 < (l0.length : Int) := dt_
              obtain ⟨ad279, e279, hx279_0, hx279_1, hx279_2, hx279_3, hx279_4⟩ := at_T52 HR0.out x8_1 p279 q279
              cases e279
              replace hx279_0 := cm_ HB hx279_0
              replace hx279_1 := cm_ HB hx279_1
              replace hx279_2 := cm_ HB hx279_2
              replace hx279_3 := cm_ HB hx279_3
              replace hx279_4 := cm_ HB hx279_4
              replace p279 := eq_true p279
              replace q279 := eq_true q279
              go_wp2_with (first | ((with_reducible refine gate_dst (N := 5) rfl ?_); refine box_event ?hg (N := 5) ?hd (cs := #[.int .i64 0, .string (⟨#[]⟩ : ByteArray), .int .i64 0, .int .i64 0, .string (⟨#[]⟩ : ByteArray)]) (t := 52) ?hr ?_; (case hd => rfl); (case hg => rfl); (case hr => first | (go_simp; done) | (go_simp; rfl)); intro gb280 hg w6 hbox hb; have n0_ := kb_ (ku_ HO_3.out) hb; have n1_ := bs_ (be_ HB) hb; have n2_ := Aside0.mk (hbox); have n3_ := gs_ hg (be_ HB); have n4_ := gs_ hg (be_ HB); clear HO_3; clear HB; have HO_3 := n0_; have HB := n1_; have BK280 := n2_; have GW280 := n3_; have GE280 := n4_; clear n0_ n1_ n2_ n3_ n4_; clear hb hbox hg; have hcz7_0 : w6.cell? ⟨gb280, 0, none⟩ = some (.int .i64 0) := (blk_cell BK280.out 0).trans rfl; have hcz7_1 : w6.cell? ⟨gb280, 1, none⟩ = some (.string (⟨#[]⟩ : ByteArray)) := (blk_cell BK280.out 1).trans rfl; have hcz7_2 : w6.cell? ⟨gb280, 2, none⟩ = some (.int .i64 0) := (blk_cell BK280.out 2).trans rfl; have hcz7_3 : w6.cell? ⟨gb280, 3, none⟩ = some (.int .i64 0) := (blk_cell BK280.out 3).trans rfl; have hcz7_4 : w6.cell? ⟨gb280, 4, none⟩ = some (.string (⟨#[]⟩ : ByteArray)) := (blk_cell BK280.out 4).trans rfl; have hfz7_0 := blk_frozen BK280.out 0; have hfz7_1 := blk_frozen BK280.out 1; have hfz7_2 := blk_frozen BK280.out 2; have hfz7_3 := blk_frozen BK280.out 3; have hfz7_4 := blk_frozen BK280.out 4))
              go_roundg k1
              case measure => have := HK1.out; omega
              case rel => exact ⟨(x3_1), (wrap64 (x8_1 + 1)), ra_, H', ⟨by have := HK1.out; omega⟩, ⟨by (with_reducible repeat (first | apply Kd.R_alloc | apply Kd.R_drewN | apply Kd.R_drew)); exact Kd.R_mono (Kd.R_far (p := ⟨gb280, 4, none⟩) (Kd.R_far (p := ⟨gb280, 3, none⟩) (Kd.R_far (p := ⟨gb280, 2, none⟩) (Kd.R_far (p := ⟨gb280, 1, none⟩) (Kd.R_far (p := ⟨gb280, 0, none⟩) (Kd.R_types HO_3.out BK280.out (by decide)) (fun _ hk => hk.2) (.int .i64 ((rd_T52 l0 x8_1).f0))) (fun _ hk => hk.2) (.string ((rd_T52 l0 x8_1).f1))) (fun _ hk => hk.2) (.int .i64 ((rd_T52 l0 x8_1).f2.f0))) (fun _ hk => hk.2) (.int .i64 ((rd_T52 l0 x8_1).f2.f1))) (fun _ hk => hk.2) (.string ((rd_T52 l0 x8_1).f2.f2))) (fun _ hk => trivial)⟩, ⟨by repeat (first | (with_reducible first | exact HB.out | apply below_alloc | apply pw_below_drewN | apply below_drew1 | refine below_set ?_ GE280.out) | exact HB.out)⟩⟩
            · rw [if_neg c5] at H
              obtain ⟨c5b0, c5b1⟩ := neB_ c5
              replace H := Option.bind_eq_some_iff.mp H
              obtain ⟨t281, A80, H⟩ := H
              replace H : (if t281 = true then (expr_Vars.l0 k1 x3_1 l0 (l0.length : Int) (wrap64 (x8_1 + 1))) else (if x3_1.length < 8796093022208 then (expr_Vars.l0 k1 (x3_1 ++ [(rd_T52 l0 x8_1).f1]) l0 (l0.length : Int) (wrap64 (x8_1 + 1))) else (none))) = some r := H
              have A8 := Aside0.mk A80
              clear A80
              by_cases c9 : t281 = true
              · subst c9
                have H1 : (expr_Vars.l0 k1 x3_1 l0 (l0.length : Int) (wrap64 (x8_1 + 1))) = some r := by rw [if_pos rfl] at H; exact H
                clear H
                have H := H1
                clear H1
                have H' := Aside0.mk H
                clear H
                have p279 : 0 ≤ (x8_1 : Int) := dt_
                have q279 : x8_1 < (l0.length : Int) := dt_
                obtain ⟨ad279, e279, hx279_0, hx279_1, hx279_2, hx279_3, hx279_4⟩ := at_T52 HR0.out x8_1 p279 q279
                cases e279
                replace hx279_0 := cm_ HB hx279_0
                replace hx279_1 := cm_ HB hx279_1
                replace hx279_2 := cm_ HB hx279_2
                replace hx279_3 := cm_ HB hx279_3
                replace hx279_4 := cm_ HB hx279_4
                replace p279 := eq_true p279
                replace q279 := eq_true q279
                go_wp2_with (first | ((with_reducible refine gate_dst (N := 5) rfl ?_); refine box_event ?hg (N := 5) ?hd (cs := #[.int .i64 0, .string (⟨#[]⟩ : ByteArray), .int .i64 0, .int .i64 0, .string (⟨#[]⟩ : ByteArray)]) (t := 52) ?hr ?_; (case hd => rfl); (case hg => rfl); (case hr => first | (go_simp; done) | (go_simp; rfl)); intro gb280 hg w10 hbox hb; have n0_ := kb_ (ku_ HO_3.out) hb; have n1_ := bs_ (be_ HB) hb; have n2_ := Aside0.mk (hbox); have n3_ := gs_ hg (be_ HB); have n4_ := gs_ hg (be_ HB); clear HO_3; clear HB; have HO_3 := n0_; have HB := n1_; have BK280 := n2_; have GW280 := n3_; have GE280 := n4_; clear n0_ n1_ n2_ n3_ n4_; clear hb hbox hg; have hcz11_0 : w10.cell? ⟨gb280, 0, none⟩ = some (.int .i64 0) := (blk_cell BK280.out 0).trans rfl; have hcz11_1 : w10.cell? ⟨gb280, 1, none⟩ = some (.string (⟨#[]⟩ : ByteArray)) := (blk_cell BK280.out 1).trans rfl; have hcz11_2 : w10.cell? ⟨gb280, 2, none⟩ = some (.int .i64 0) := (blk_cell BK280.out 2).trans rfl; have hcz11_3 : w10.cell? ⟨gb280, 3, none⟩ = some (.int .i64 0) := (blk_cell BK280.out 3).trans rfl; have hcz11_4 : w10.cell? ⟨gb280, 4, none⟩ = some (.string (⟨#[]⟩ : ByteArray)) := (blk_cell BK280.out 4).trans rfl; have hfz11_0 := blk_frozen BK280.out 0; have hfz11_1 := blk_frozen BK280.out 1; have hfz11_2 := blk_frozen BK280.out 2; have hfz11_3 := blk_frozen BK280.out 3; have hfz11_4 := blk_frozen BK280.out 4; obtain ⟨Ao12, co12, eo12⟩ := Kd.R_slice HO_3.out; subst eo12) | (go_at_call 43; (with_reducible refine (slices_Contains_string_string.calls k1 _ _ x3_1 ((rd_T52 l0 x8_1).f1) true _ ?side1 ?side2 A8.out).mono ?_); (case side1 => refine (Kd.R_reads' (e := 9) (base := w.heap.size) (ok := fun k_ => True) (n := x3_1.length) (c := co12) ?_).2.2; exact (ku_ (Kd.R_mono (Kd.R_far (p := ⟨gb280, 4, none⟩) (Kd.R_far (p := ⟨gb280, 3, none⟩) (Kd.R_far (p := ⟨gb280, 2, none⟩) (Kd.R_far (p := ⟨gb280, 1, none⟩) (Kd.R_far (p := ⟨gb280, 0, none⟩) (Kd.R_types HO_3.out BK280.out (by decide)) (fun _ hk => hk.2) (.int .i64 ((rd_T52 l0 x8_1).f0))) (fun _ hk => hk.2) (.string ((rd_T52 l0 x8_1).f1))) (fun _ hk => hk.2) (.int .i64 ((rd_T52 l0 x8_1).f2.f0))) (fun _ hk => hk.2) (.int .i64 ((rd_T52 l0 x8_1).f2.f1))) (fun _ hk => hk.2) (.string ((rd_T52 l0 x8_1).f2.f2))) (fun _ h_ => h_.1)))); (case side2 => exact (Kd.R_reads' HO_3.out).2.1); rintro e w' ⟨rfl, ⟨nd, rfl⟩⟩))
                go_roundg k1
                case measure => have := HK1.out; omega
                case rel => exact ⟨(x3_1), (wrap64 (x8_1 + 1)), ra_, H', ⟨by have := HK1.out; omega⟩, ⟨by (with_reducible repeat (first | apply Kd.R_alloc | apply Kd.R_drewN | apply Kd.R_drew)); exact Kd.R_mono (Kd.R_far (p := ⟨gb280, 4, none⟩) (Kd.R_far (p := ⟨gb280, 3, none⟩) (Kd.R_far (p := ⟨gb280, 2, none⟩) (Kd.R_far (p := ⟨gb280, 1, none⟩) (Kd.R_far (p := ⟨gb280, 0, none⟩) (Kd.R_types HO_3.out BK280.out (by decide)) (fun _ hk => hk.2) (.int .i64 ((rd_T52 l0 x8_1).f0))) (fun _ hk => hk.2) (.string ((rd_T52 l0 x8_1).f1))) (fun _ hk => hk.2) (.int .i64 ((rd_T52 l0 x8_1).f2.f0))) (fun _ hk => hk.2) (.int .i64 ((rd_T52 l0 x8_1).f2.f1))) (fun _ hk => hk.2) (.string ((rd_T52 l0 x8_1).f2.f2))) (fun _ hk => trivial)⟩, ⟨by repeat (first | (with_reducible first | exact HB.out | apply below_alloc | apply pw_below_drewN | apply below_drew1 | refine below_set ?_ GE280.out) | exact HB.out)⟩⟩
              · replace c9 := Bool.eq_false_iff.mpr c9
                subst c9
                have H1 : (if x3_1.length < 8796093022208 then (expr_Vars.l0 k1 (x3_1 ++ [(rd_T52 l0 x8_1).f1]) l0 (l0.length : Int) (wrap64 (x8_1 + 1))) else (none)) = some r := by rw [if_neg (show ¬ (false = true) by decide)] at H; exact H
                clear H
                have H := H1
                clear H1
                by_cases c13 : x3_1.length < 8796093022208
                · rw [if_pos c13] at H
                  have LMc13 := Aside0.mk c13
                  clear c13
                  obtain ⟨y282, hy282⟩ : ∃ y_ : List ByteArray, y_ = (x3_1 ++ [(rd_T52 l0 x8_1).f1]) := ⟨_, rfl⟩
                  replace H : (expr_Vars.l0 k1 y282 l0 (l0.length : Int) (wrap64 (x8_1 + 1))) = some r := by first | (rw [hy282]; with_reducible exact H) | (have H2_ := (Option.bind_some _ _).symm.trans H; rw [hy282]; with_reducible exact H2_) | (have H2_ := (Option.bind_some _ _).symm.trans H; with_reducible exact H2_) | with_reducible exact H | (rw [hy282]; exact H) | exact H
                  have Ny282 := Aside0.mk hy282
                  clear hy282
                  have H' := Aside0.mk H
                  clear H
                  have p279 : 0 ≤ (x8_1 : Int) := dt_
                  have q279 : x8_1 < (l0.length : Int) := dt_
                  obtain ⟨ad279, e279, hx279_0, hx279_1, hx279_2, hx279_3, hx279_4⟩ := at_T52 HR0.out x8_1 p279 q279
                  cases e279
                  replace hx279_0 := cm_ HB hx279_0
                  replace hx279_1 := cm_ HB hx279_1
                  replace hx279_2 := cm_ HB hx279_2
                  replace hx279_3 := cm_ HB hx279_3
                  replace hx279_4 := cm_ HB hx279_4
                  replace p279 := eq_true p279
                  replace q279 := eq_true q279
                  go_wp2_with (first | ((with_reducible refine gate_dst (N := 5) rfl ?_); refine box_event ?hg (N := 5) ?hd (cs := #[.int .i64 0, .string (⟨#[]⟩ : ByteArray), .int .i64 0, .int .i64 0, .string (⟨#[]⟩ : ByteArray)]) (t := 52) ?hr ?_; (case hd => rfl); (case hg => rfl); (case hr => first | (go_simp; done) | (go_simp; rfl)); intro gb280 hg w14 hbox hb; have n0_ := kb_ (ku_ HO_3.out) hb; have n1_ := bs_ (be_ HB) hb; have n2_ := Aside0.mk (hbox); have n3_ := gs_ hg (be_ HB); have n4_ := gs_ hg (be_ HB); clear HO_3; clear HB; have HO_3 := n0_; have HB := n1_; have BK280 := n2_; have GW280 := n3_; have GE280 := n4_; clear n0_ n1_ n2_ n3_ n4_; clear hb hbox hg; have hcz15_0 : w14.cell? ⟨gb280, 0, none⟩ = some (.int .i64 0) := (blk_cell BK280.out 0).trans rfl; have hcz15_1 : w14.cell? ⟨gb280, 1, none⟩ = some (.string (⟨#[]⟩ : ByteArray)) := (blk_cell BK280.out 1).trans rfl; have hcz15_2 : w14.cell? ⟨gb280, 2, none⟩ = some (.int .i64 0) := (blk_cell BK280.out 2).trans rfl; have hcz15_3 : w14.cell? ⟨gb280, 3, none⟩ = some (.int .i64 0) := (blk_cell BK280.out 3).trans rfl; have hcz15_4 : w14.cell? ⟨gb280, 4, none⟩ = some (.string (⟨#[]⟩ : ByteArray)) := (blk_cell BK280.out 4).trans rfl; have hfz15_0 := blk_frozen BK280.out 0; have hfz15_1 := blk_frozen BK280.out 1; have hfz15_2 := blk_frozen BK280.out 2; have hfz15_3 := blk_frozen BK280.out 3; have hfz15_4 := blk_frozen BK280.out 4; obtain ⟨Ao16, co16, eo16⟩ := Kd.R_slice HO_3.out; subst eo16) | (go_at_call 43; (with_reducible refine (slices_Contains_string_string.calls k1 _ _ x3_1 ((rd_T52 l0 x8_1).f1) false _ ?side1 ?side2 A8.out).mono ?_); (case side1 => refine (Kd.R_reads' (e := 9) (base := w.heap.size) (ok := fun k_ => True) (n := x3_1.length) (c := co16) ?_).2.2; exact (ku_ (Kd.R_mono (Kd.R_far (p := ⟨gb280, 4, none⟩) (Kd.R_far (p := ⟨gb280, 3, none⟩) (Kd.R_far (p := ⟨gb280, 2, none⟩) (Kd.R_far (p := ⟨gb280, 1, none⟩) (Kd.R_far (p := ⟨gb280, 0, none⟩) (Kd.R_types HO_3.out BK280.out (by decide)) (fun _ hk => hk.2) (.int .i64 ((rd_T52 l0 x8_1).f0))) (fun _ hk => hk.2) (.string ((rd_T52 l0 x8_1).f1))) (fun _ hk => hk.2) (.int .i64 ((rd_T52 l0 x8_1).f2.f0))) (fun _ hk => hk.2) (.int .i64 ((rd_T52 l0 x8_1).f2.f1))) (fun _ hk => hk.2) (.string ((rd_T52 l0 x8_1).f2.f2))) (fun _ h_ => h_.1)))); (case side2 => exact (Kd.R_reads' HO_3.out).2.1); rintro e w' ⟨rfl, ⟨nd, rfl⟩⟩) | ((with_reducible refine gate_builtin (b := .append) (xs := #[.tmp 22, .tmp 25]) rfl ?_); at_builtin; refine Kd.R_append Kd.string (w0 := w) w.heap.size rfl (.tmp 22) (.tmp 25) 44 9 (.string ⟨#[]⟩) 16 rfl Try.underlying44 info9 rfl (by decide) (by omega) (.slice Ao16 x3_1.length co16) x3_1 ((rd_T52 l0 x8_1).f1) [.string ((rd_T52 l0 x8_1).f1)] (fun _ => True) (fun _ => False) rfl (by first | (go_simp; done) | (go_simp; rfl)) ?aP (fun _ hk => hk.elim) ?aF ?aO ?aB ?aS ?aL ?_; (case aP => exact rfl); (case aB => exact (be_ HB)); (case aF => exact (fun _ _ => trivial)); (case aO => exact (by (with_reducible repeat (first | apply Kd.R_alloc | apply Kd.R_drewN | apply Kd.R_drew)); exact Kd.R_mono (Kd.R_far (p := ⟨gb280, 4, none⟩) (Kd.R_far (p := ⟨gb280, 3, none⟩) (Kd.R_far (p := ⟨gb280, 2, none⟩) (Kd.R_far (p := ⟨gb280, 1, none⟩) (Kd.R_far (p := ⟨gb280, 0, none⟩) (Kd.R_types HO_3.out BK280.out (by decide)) (fun _ hk => hk.2) (.int .i64 ((rd_T52 l0 x8_1).f0))) (fun _ hk => hk.2) (.string ((rd_T52 l0 x8_1).f1))) (fun _ hk => hk.2) (.int .i64 ((rd_T52 l0 x8_1).f2.f0))) (fun _ hk => hk.2) (.int .i64 ((rd_T52 l0 x8_1).f2.f1))) (fun _ hk => hk.2) (.string ((rd_T52 l0 x8_1).f2.f2))) (fun _ hk => trivial))); (case aS => exact (below_size (be_ HB))); (case aL => have := LMc13.out; omega); intro v283 w17 ho hb hg hat; rw [← Ny282.out] at ho; have n0_ := Aside0.mk (blk_grown (o := .cells #[.int .i64 ((rd_T52 l0 x8_1).f0), .string ((rd_T52 l0 x8_1).f1), .int .i64 ((rd_T52 l0 x8_1).f2.f0), .int .i64 ((rd_T52 l0 x8_1).f2.f1), .string ((rd_T52 l0 x8_1).f2.f2)] 52 (0, 0)) (bp_ BK280) hg (Kd.R_ne HO_3.out BK280.out (by decide))); have n1_ := Aside0.mk (hb); have n2_ := Aside0.mk (ho); clear BK280; clear HB; clear HO_3; have BK280 := n0_; have HB := n1_; have HO284 := n2_; clear n0_ n1_ n2_; clear ho hb hg hat))
                  go_roundg k1
                  case measure => have := HK1.out; omega
                  case rel => exact ⟨(y282), (wrap64 (x8_1 + 1)), ra_, H', ⟨by have := HK1.out; omega⟩, ⟨by (with_reducible repeat (first | apply Kd.R_alloc | apply Kd.R_drewN | apply Kd.R_drew)); exact HO284.out⟩, ⟨by repeat (first | (with_reducible first | exact HB.out | apply below_alloc | apply pw_below_drewN | apply below_drew1 | refine below_set ?_ GE280.out) | exact HB.out)⟩⟩
                · rw [if_neg c13] at H
                  exact absurd H (by simp)
          · rw [if_neg c4] at H
            exact absurd H (by simp)
        · rw [if_neg c3] at H
          exact absurd H (by simp)
      · rw [if_neg c2] at H
        have c2b0 : decide (x8_1 < (l0.length : Int)) = false := decide_eq_false c2
        clear c2
        obtain rfl := Option.some.inj H
        go_wp2
        go_ret
        exact ⟨_, by first | rfl | (simp [errW_none, errW_some] <;> rfl) | (simp [*, errW_none, errW_some] <;> rfl), by (with_reducible repeat (first | apply Kd.R_alloc | apply Kd.R_drewN | apply Kd.R_drew)); exact HO_3.out, by repeat (first | (with_reducible first | exact HB.out | apply below_alloc | apply pw_below_drewN | apply below_drew1) | exact HB.out)⟩
end Go.Proofs.Ytconpnagoijacaa.P
end
section
namespace Go.Proofs.Ytconpnagoijacaa.P
open Go.RowKit Go.Proofs.YtconpnagoijacaaW.PrintWords Go.Proofs.YtconpnagoijacaaW.PrintLast Go.Proofs.YtconpnagoijacaaW.PrintMore
attribute [local go_sem] max2_int min2_int max_two min_two max_three min_three max_four min_four
set_option linter.unusedVariables false
set_option linter.unusedSimpArgs false
def constablelaw07_wakes.f (k : Nat)  : Option (Bool) := (some (([(⟨1, (⟨#[88]⟩ : ByteArray), (⟨0, 0, (⟨#[]⟩ : ByteArray)⟩ : S40)⟩ : S52), (⟨2, (⟨#[]⟩ : ByteArray), (⟨1, 2, (⟨#[]⟩ : ByteArray)⟩ : S40)⟩ : S52), (⟨5, (⟨#[]⟩ : ByteArray), (⟨0, 0, (⟨#[]⟩ : ByteArray)⟩ : S40)⟩ : S52)] : List (S52)) : List (S52))).bind fun y328 => ((expr_Eval.f k y328 (([(⟨(⟨#[88]⟩ : ByteArray), (⟨1, 3, (⟨#[]⟩ : ByteArray)⟩ : S40)⟩ : S62)] : List (S62)))).bind fun bt334 => ((expr_Eval.f k y328 ([] : List (S62))).bind fun bt339 => (if bt334.2.2.2 = 0 then (if bt334.2.1 = 6 then (if bt339.2.2.2 = 5 then ((expr_Vars.f k y328).bind fun t344 => (if (t344.length : Int) = 1 then ((expr_Part.f k y328 2).bind fun t347 => (if t347 = 0 then ((expr_Part.f k y328 1).bind fun t348 => (if t348 = 1 then ((expr_Check.f k ([] : List (S52))).bind fun t349 => (some (t349 == 1))) else (some false))) else (some false))) else (some false))) else (some false)) else (some false)) else (some false))))
theorem constablelaw07_wakes.mono : ∀ k, LeO (constablelaw07_wakes.f k ) (constablelaw07_wakes.f (k + 1) ) := by
  intro  k
  unfold constablelaw07_wakes.f
  repeat' first
      | (with_reducible exact expr_Check.mono _ _)
      | (with_reducible exact expr_Eval.mono _ _ _)
      | (with_reducible exact expr_Part.mono _ _ _)
      | (with_reducible exact expr_Vars.mono _ _)
      | (with_reducible exact LeO.refl _)
      | (with_reducible exact LeO.none _)
      | (with_reducible refine LeO.ite ?_ ?_)
      | (with_reducible refine LeO.bind ?_ (fun _ => ?_))
      | exact expr_Check.mono _ _
      | exact expr_Eval.mono _ _ _
      | exact expr_Part.mono _ _ _
      | exact expr_Vars.mono _ _
      | exact LeO.none _
      | refine LeO.ite ?_ ?_
      | refine LeO.bind ?_ (fun _ => ?_)
set_option maxHeartbeats 8000000 in
set_option maxRecDepth 100000 in
theorem constablelaw07_wakes.calls (k : Nat)  (r : Bool) (w : World) (h : constablelaw07_wakes.f k  = some r) (hr_ : r = true) :
    Calls Try.prog 32 #[] w fun e w' => e = .returned (.bool r) ∧ Below w.heap.size w w' := by
  have hu40 := Try.underlying40
  have hu52 := Try.underlying52
  have hu62 := Try.underlying62
  have HB := Aside0.mk (Below.refl w.heap.size w)
  have H : ((some (([(⟨1, (⟨#[88]⟩ : ByteArray), (⟨0, 0, (⟨#[]⟩ : ByteArray)⟩ : S40)⟩ : S52), (⟨2, (⟨#[]⟩ : ByteArray), (⟨1, 2, (⟨#[]⟩ : ByteArray)⟩ : S40)⟩ : S52), (⟨5, (⟨#[]⟩ : ByteArray), (⟨0, 0, (⟨#[]⟩ : ByteArray)⟩ : S40)⟩ : S52)] : List (S52)) : List (S52))).bind fun y328 => ((expr_Eval.f k y328 (([(⟨(⟨#[88]⟩ : ByteArray), (⟨1, 3, (⟨#[]⟩ : ByteArray)⟩ : S40)⟩ : S62)] : List (S62)))).bind fun bt334 => ((expr_Eval.f k y328 ([] : List (S62))).bind fun bt339 => (if bt334.2.2.2 = 0 then (if bt334.2.1 = 6 then (if bt339.2.2.2 = 5 then ((expr_Vars.f k y328).bind fun t344 => (if (t344.length : Int) = 1 then ((expr_Part.f k y328 2).bind fun t347 => (if t347 = 0 then ((expr_Part.f k y328 1).bind fun t348 => (if t348 = 1 then ((expr_Check.f k ([] : List (S52))).bind fun t349 => (some (t349 == 1))) else (some false))) else (some false))) else (some false))) else (some false)) else (some false)) else (some false))))) = some r := h
  clear h
  have HR_ := Aside0.mk hr_
  clear hr_
  obtain ⟨y328, hy328⟩ : ∃ y_ : List (S52), y_ = (([(⟨1, (⟨#[88]⟩ : ByteArray), (⟨0, 0, (⟨#[]⟩ : ByteArray)⟩ : S40)⟩ : S52), (⟨2, (⟨#[]⟩ : ByteArray), (⟨1, 2, (⟨#[]⟩ : ByteArray)⟩ : S40)⟩ : S52), (⟨5, (⟨#[]⟩ : ByteArray), (⟨0, 0, (⟨#[]⟩ : ByteArray)⟩ : S40)⟩ : S52)] : List (S52))) := ⟨_, rfl⟩
  replace H : ((expr_Eval.f k y328 (([(⟨(⟨#[88]⟩ : ByteArray), (⟨1, 3, (⟨#[]⟩ : ByteArray)⟩ : S40)⟩ : S62)] : List (S62)))).bind fun bt334 => ((expr_Eval.f k y328 ([] : List (S62))).bind fun bt339 => (if bt334.2.2.2 = 0 then (if bt334.2.1 = 6 then (if bt339.2.2.2 = 5 then ((expr_Vars.f k y328).bind fun t344 => (if (t344.length : Int) = 1 then ((expr_Part.f k y328 2).bind fun t347 => (if t347 = 0 then ((expr_Part.f k y328 1).bind fun t348 => (if t348 = 1 then ((expr_Check.f k ([] : List (S52))).bind fun t349 => (some (t349 == 1))) else (some false))) else (some false))) else (some false))) else (some false)) else (some false)) else (some false)))) = some r := by first | (rw [hy328]; with_reducible exact H) | (have H2_ := (Option.bind_some _ _).symm.trans H; rw [hy328]; with_reducible exact H2_) | (have H2_ := (Option.bind_some _ _).symm.trans H; with_reducible exact H2_) | with_reducible exact H | (rw [hy328]; exact H) | exact H
  have Ny328 := Aside0.mk hy328
  clear hy328
  obtain ⟨y331, hy331⟩ : ∃ y_ : List (S62), y_ = (([(⟨(⟨#[88]⟩ : ByteArray), (⟨1, 3, (⟨#[]⟩ : ByteArray)⟩ : S40)⟩ : S62)] : List (S62))) := ⟨_, rfl⟩
  replace H : ((expr_Eval.f k y328 y331).bind fun bt334 => ((expr_Eval.f k y328 ([] : List (S62))).bind fun bt339 => (if bt334.2.2.2 = 0 then (if bt334.2.1 = 6 then (if bt339.2.2.2 = 5 then ((expr_Vars.f k y328).bind fun t344 => (if (t344.length : Int) = 1 then ((expr_Part.f k y328 2).bind fun t347 => (if t347 = 0 then ((expr_Part.f k y328 1).bind fun t348 => (if t348 = 1 then ((expr_Check.f k ([] : List (S52))).bind fun t349 => (some (t349 == 1))) else (some false))) else (some false))) else (some false))) else (some false)) else (some false)) else (some false)))) = some r := by first | (rw [hy331]; with_reducible exact H) | (have H2_ := (Option.bind_some _ _).symm.trans H; rw [hy331]; with_reducible exact H2_) | (have H2_ := (Option.bind_some _ _).symm.trans H; with_reducible exact H2_) | with_reducible exact H | (rw [hy331]; exact H) | exact H
  have Ny331 := Aside0.mk hy331
  clear hy331
  replace H := Option.bind_eq_some_iff.mp H
  obtain ⟨⟨t334, t335, t336, t337⟩, A10, H⟩ := H
  replace H : ((expr_Eval.f k y328 ([] : List (S62))).bind fun bt339 => (if t337 = 0 then (if t335 = 6 then (if bt339.2.2.2 = 5 then ((expr_Vars.f k y328).bind fun t344 => (if (t344.length : Int) = 1 then ((expr_Part.f k y328 2).bind fun t347 => (if t347 = 0 then ((expr_Part.f k y328 1).bind fun t348 => (if t348 = 1 then ((expr_Check.f k ([] : List (S52))).bind fun t349 => (some (t349 == 1))) else (some false))) else (some false))) else (some false))) else (some false)) else (some false)) else (some false))) = some r := H
  have A1 := Aside0.mk A10
  clear A10
  replace H := Option.bind_eq_some_iff.mp H
  obtain ⟨⟨t339, t340, t341, t342⟩, A20, H⟩ := H
  replace H : (if t337 = 0 then (if t335 = 6 then (if t342 = 5 then ((expr_Vars.f k y328).bind fun t344 => (if (t344.length : Int) = 1 then ((expr_Part.f k y328 2).bind fun t347 => (if t347 = 0 then ((expr_Part.f k y328 1).bind fun t348 => (if t348 = 1 then ((expr_Check.f k ([] : List (S52))).bind fun t349 => (some (t349 == 1))) else (some false))) else (some false))) else (some false))) else (some false)) else (some false)) else (some false)) = some r := H
  have A2 := Aside0.mk A20
  clear A20
  by_cases c3 : t337 = 0
  · rw [if_pos c3] at H
    obtain ⟨c3b0, c3b1⟩ := eqB_ c3
    clear c3
    by_cases c4 : t335 = 6
    · rw [if_pos c4] at H
      obtain ⟨c4b0, c4b1⟩ := eqB_ c4
      clear c4
      by_cases c5 : t342 = 5
      · rw [if_pos c5] at H
        obtain ⟨c5b0, c5b1⟩ := eqB_ c5
        clear c5
        replace H := Option.bind_eq_some_iff.mp H
        obtain ⟨t344, A60, H⟩ := H
        replace H : (if (t344.length : Int) = 1 then ((expr_Part.f k y328 2).bind fun t347 => (if t347 = 0 then ((expr_Part.f k y328 1).bind fun t348 => (if t348 = 1 then ((expr_Check.f k ([] : List (S52))).bind fun t349 => (some (t349 == 1))) else (some false))) else (some false))) else (some false)) = some r := H
        have A6 := Aside0.mk A60
        clear A60
        by_cases c7 : (t344.length : Int) = 1
        · rw [if_pos c7] at H
          obtain ⟨c7b0, c7b1⟩ := eqB_ c7
          clear c7
          replace H := Option.bind_eq_some_iff.mp H
          obtain ⟨t347, A80, H⟩ := H
          replace H : (if t347 = 0 then ((expr_Part.f k y328 1).bind fun t348 => (if t348 = 1 then ((expr_Check.f k ([] : List (S52))).bind fun t349 => (some (t349 == 1))) else (some false))) else (some false)) = some r := H
          have A8 := Aside0.mk A80
          clear A80
          by_cases c9 : t347 = 0
          · rw [if_pos c9] at H
            obtain ⟨c9b0, c9b1⟩ := eqB_ c9
            clear c9
            replace H := Option.bind_eq_some_iff.mp H
            obtain ⟨t348, A100, H⟩ := H
            replace H : (if t348 = 1 then ((expr_Check.f k ([] : List (S52))).bind fun t349 => (some (t349 == 1))) else (some false)) = some r := H
            have A10 := Aside0.mk A100
            clear A100
            by_cases c11 : t348 = 1
            · rw [if_pos c11] at H
              obtain ⟨c11b0, c11b1⟩ := eqB_ c11
              clear c11
              replace H := Option.bind_eq_some_iff.mp H
              obtain ⟨t349, A120, H⟩ := H
              replace H : (some (t349 == 1)) = some r := H
              have A12 := Aside0.mk A120
              clear A120
              obtain rfl := Option.some.inj H
              go_enter Try.func32, Try.ntmps32
              go_wp2_with (first | ((with_reducible refine gate_dst (N := 1) rfl ?_); (try (refine gate_guard (by rfl) ?_; dsimp only)); refine box_event ?hg (N := 1) ?hd (cs := #[.int .i64 0, .int .i64 0, .string (⟨#[]⟩ : ByteArray)]) (t := 40) ?hr ?_; (case hd => rfl); (case hg => rfl); (case hr => first | (go_simp; done) | (go_simp; rfl)); intro gb326 hg w13 hbox hb; have n0_ := bs_ (be_ HB) hb; have n1_ := Aside0.mk (hbox); have n2_ := gs_ hg (be_ HB); have n3_ := gs_ hg (be_ HB); clear HB; have HB := n0_; have BK326 := n1_; have GW326 := n2_; have GE326 := n3_; clear n0_ n1_ n2_ n3_; clear hb hbox hg) | ((with_reducible refine gate_dst (N := 2) rfl ?_); (try (refine gate_guard (by rfl) ?_; dsimp only)); refine box_event ?hg (N := 2) ?hd (cs := #[.int .i64 0, .int .i64 0, .string (⟨#[]⟩ : ByteArray)]) (t := 40) ?hr ?_; (case hd => rfl); (case hg => rfl); (case hr => first | (go_simp; done) | (go_simp; rfl)); intro gb327 hg w14 hbox hb; have n0_ := bb_ (bu_ BK326) hb; have n1_ := bs_ (be_ HB) hb; have n2_ := Aside0.mk (hbox); have n3_ := gs_ hg (be_ HB); have n4_ := gs_ hg (be_ HB); have n5_ := nl_ hg (bu_ BK326); have n6_ := ng_ hg (bu_ BK326); clear BK326; clear HB; have BK326 := n0_; have HB := n1_; have BK327 := n2_; have GW327 := n3_; have GE327 := n4_; have NB326_327 := n5_; have NB327_326 := n6_; clear n0_ n1_ n2_ n3_ n4_ n5_ n6_; clear hb hbox hg; have hnb15 := NB326_327.out; have hnc15 := NB327_326.out; have hcz16_0 : w14.cell? ⟨gb326, 0, none⟩ = some (.int .i64 0) := (blk_cell BK326.out 0).trans rfl; have hcz16_1 : w14.cell? ⟨gb326, 1, none⟩ = some (.int .i64 0) := (blk_cell BK326.out 1).trans rfl; have hcz16_2 : w14.cell? ⟨gb326, 2, none⟩ = some (.string (⟨#[]⟩ : ByteArray)) := (blk_cell BK326.out 2).trans rfl; have hfz16_0 := blk_frozen BK326.out 0; have hfz16_1 := blk_frozen BK326.out 1; have hfz16_2 := blk_frozen BK326.out 2; have hcz17_0 : w14.cell? ⟨gb327, 0, none⟩ = some (.int .i64 0) := (blk_cell BK327.out 0).trans rfl; have hcz17_1 : w14.cell? ⟨gb327, 1, none⟩ = some (.int .i64 0) := (blk_cell BK327.out 1).trans rfl; have hcz17_2 : w14.cell? ⟨gb327, 2, none⟩ = some (.string (⟨#[]⟩ : ByteArray)) := (blk_cell BK327.out 2).trans rfl; have hfz17_0 := blk_frozen BK327.out 0; have hfz17_1 := blk_frozen BK327.out 1; have hfz17_2 := blk_frozen BK327.out 2) | ((with_reducible refine gate_dst (N := 14) rfl ?_); (try (refine gate_guard (by rfl) ?_; dsimp only)); refine Kd.R_lit k52 _ 52 ?hg (N := 14) ?hd (xs := ([(⟨1, (⟨#[88]⟩ : ByteArray), (⟨0, 0, (⟨#[]⟩ : ByteArray)⟩ : S40)⟩ : S52), (⟨2, (⟨#[]⟩ : ByteArray), (⟨1, 2, (⟨#[]⟩ : ByteArray)⟩ : S40)⟩ : S52), (⟨5, (⟨#[]⟩ : ByteArray), (⟨0, 0, (⟨#[]⟩ : ByteArray)⟩ : S40)⟩ : S52)] : List (S52))) (inner := [.int .i64 1, .string (⟨#[88]⟩ : ByteArray), .int .i64 0, .int .i64 0, .string (⟨#[]⟩ : ByteArray), .int .i64 2, .string (⟨#[]⟩ : ByteArray), .int .i64 1, .int .i64 2, .string (⟨#[]⟩ : ByteArray), .int .i64 5, .string (⟨#[]⟩ : ByteArray), .int .i64 0, .int .i64 0, .string (⟨#[]⟩ : ByteArray)]) (ok := fun _ => True) (okp := fun _ => True) ?hr ?hp (fun _ hk => hk) trivial (Below.refl _ _) (Nat.le_refl _) (by simp) ?_; (case hd => rfl); (case hg => rfl); (case hr => first | (go_simp; done) | (go_simp; rfl)); (case hp => exact (Reps.c5 (show Kd.M k52 _ _ _ (⟨1, (⟨#[88]⟩ : ByteArray), (⟨0, 0, (⟨#[]⟩ : ByteArray)⟩ : S40)⟩ : S52) [.int .i64 1, .string (⟨#[88]⟩ : ByteArray), .int .i64 0, .int .i64 0, .string (⟨#[]⟩ : ByteArray)] from (k52_mkM _ _ _ (⟨1, (⟨#[88]⟩ : ByteArray), (⟨0, 0, (⟨#[]⟩ : ByteArray)⟩ : S40)⟩ : S52) )) (Reps.c5 (show Kd.M k52 _ _ _ (⟨2, (⟨#[]⟩ : ByteArray), (⟨1, 2, (⟨#[]⟩ : ByteArray)⟩ : S40)⟩ : S52) [.int .i64 2, .string (⟨#[]⟩ : ByteArray), .int .i64 1, .int .i64 2, .string (⟨#[]⟩ : ByteArray)] from (k52_mkM _ _ _ (⟨2, (⟨#[]⟩ : ByteArray), (⟨1, 2, (⟨#[]⟩ : ByteArray)⟩ : S40)⟩ : S52) )) (Reps.c5 (show Kd.M k52 _ _ _ (⟨5, (⟨#[]⟩ : ByteArray), (⟨0, 0, (⟨#[]⟩ : ByteArray)⟩ : S40)⟩ : S52) [.int .i64 5, .string (⟨#[]⟩ : ByteArray), .int .i64 0, .int .i64 0, .string (⟨#[]⟩ : ByteArray)] from (k52_mkM _ _ _ (⟨5, (⟨#[]⟩ : ByteArray), (⟨0, 0, (⟨#[]⟩ : ByteArray)⟩ : S40)⟩ : S52) )) (Reps.none _ _))))); intro v329 w18 ho19 hb hg_ hnew_; clear hg_ hnew_; (first | rw [← Ny328.out] at ho19 | (simp only [Int.reduceToNat] at ho19; rw [← Ny328.out] at ho19)); have n0_ := Aside0.mk (Kd.R_lower ho19 (below_size (be_ HB))); have n1_ := Aside0.mk (blk_below (o := .cells #[.int .i64 1, .int .i64 2, .string (⟨#[]⟩ : ByteArray)] 40 (0, 0)) (bp_ BK326) hb); have n2_ := Aside0.mk (blk_below (o := .cells #[.int .i64 1, .int .i64 3, .string (⟨#[]⟩ : ByteArray)] 40 (0, 0)) (bp_ BK327) hb); have n3_ := bs_ (be_ HB) hb; clear BK326; clear BK327; clear HB; have HO330 := n0_; have BK326 := n1_; have BK327 := n2_; have HB := n3_; clear n0_ n1_ n2_ n3_; clear hb ho19; have hcz20_0 : w18.cell? ⟨gb327, 0, none⟩ = some (.int .i64 1) := (blk_cell BK327.out 0).trans rfl; have hcz20_1 : w18.cell? ⟨gb327, 1, none⟩ = some (.int .i64 3) := (blk_cell BK327.out 1).trans rfl; have hcz20_2 : w18.cell? ⟨gb327, 2, none⟩ = some (.string (⟨#[]⟩ : ByteArray)) := (blk_cell BK327.out 2).trans rfl; have hfz20_0 := blk_frozen BK327.out 0; have hfz20_1 := blk_frozen BK327.out 1; have hfz20_2 := blk_frozen BK327.out 2) | ((with_reducible refine gate_dst (N := 19) rfl ?_); (try (refine gate_guard (by rfl) ?_; dsimp only)); refine Kd.R_lit k62 _ 62 ?hg (N := 19) ?hd (xs := ([(⟨(⟨#[88]⟩ : ByteArray), (⟨1, 3, (⟨#[]⟩ : ByteArray)⟩ : S40)⟩ : S62)] : List (S62))) (inner := [.string (⟨#[88]⟩ : ByteArray), .int .i64 1, .int .i64 3, .string (⟨#[]⟩ : ByteArray)]) (ok := fun _ => True) (okp := fun _ => True) ?hr ?hp (fun _ hk => hk) trivial (Below.refl _ _) (Nat.le_refl _) (by simp) ?_; (case hd => rfl); (case hg => rfl); (case hr => first | (go_simp; done) | (go_simp; rfl)); (case hp => exact (Reps.c4 (show Kd.M k62 _ _ _ (⟨(⟨#[88]⟩ : ByteArray), (⟨1, 3, (⟨#[]⟩ : ByteArray)⟩ : S40)⟩ : S62) [.string (⟨#[88]⟩ : ByteArray), .int .i64 1, .int .i64 3, .string (⟨#[]⟩ : ByteArray)] from (k62_mkM _ _ _ (⟨(⟨#[88]⟩ : ByteArray), (⟨1, 3, (⟨#[]⟩ : ByteArray)⟩ : S40)⟩ : S62) )) (Reps.none _ _))); intro v332 w21 ho22 hb hg_ hnew_; clear hg_ hnew_; (first | rw [← Ny331.out] at ho22 | (simp only [Int.reduceToNat] at ho22; rw [← Ny331.out] at ho22)); have n0_ := kb_ (ku_ HO330.out) hb; have n1_ := Aside0.mk (Kd.R_lower ho22 (below_size (be_ HB))); have n2_ := bb_ (bu_ BK326) hb; have n3_ := bb_ (bu_ BK327) hb; have n4_ := bs_ (be_ HB) hb; clear HO330; clear BK326; clear BK327; clear HB; have HO330 := n0_; have HO333 := n1_; have BK326 := n2_; have BK327 := n3_; have HB := n4_; clear n0_ n1_ n2_ n3_ n4_; clear hb ho22; obtain ⟨Ao23, co23, eo23⟩ := Kd.R_slice HO330.out; subst eo23; obtain ⟨Ao24, co24, eo24⟩ := Kd.R_slice HO333.out; subst eo24) | ((with_reducible refine gate_callee (f := 21) rfl ?_); refine goesL_ (some 20) rfl rfl Try.func21 (by kernel_rfl) rfl #[.slice Ao23 y328.length co23, .slice Ao24 y331.length co24] rfl ga_ ?_; (with_reducible refine (expr_Eval.calls k _ _ y328 _ _ y331 t334 t335 t336 t337 _ ?side1 ?side2 ?side3 ?side4 A1.out).mono ?_); (case side1 => repeat (first | exact (Kd.R_reads' HO330.out).2.2 | (with_reducible refine Kd.C_alloc ?_ _) | (with_reducible refine Kd.C_drewN ?_ _) | (with_reducible refine Kd.C_drew ?_))); (case side2 => exact (Kd.R_reads' HO330.out).2.1); (case side3 => repeat (first | exact (Kd.R_reads' HO333.out).2.2 | (with_reducible refine Kd.C_alloc ?_ _) | (with_reducible refine Kd.C_drewN ?_ _) | (with_reducible refine Kd.C_drew ?_))); (case side4 => exact (Kd.R_reads' HO333.out).2.1); rintro e w25 ⟨rfl, hb⟩; refine ⟨_, rfl, ?_⟩; have n0_ := kb_ (ku_ HO330.out) hb; have n1_ := kb_ (ku_ HO333.out) hb; have n2_ := bb_ (bu_ BK326) hb; have n3_ := bb_ (bu_ BK327) hb; have n4_ := bs_ (be_ HB) hb; clear HO330; clear HO333; clear BK326; clear BK327; clear HB; have HO330 := n0_; have HO333 := n1_; have BK326 := n2_; have BK327 := n3_; have HB := n4_; clear n0_ n1_ n2_ n3_ n4_; (try clear hb); (try clear hb2); (try clear hk); (try clear hi)) | ((with_reducible refine gate_dst (N := 4) rfl ?_); (try (refine gate_guard (by rfl) ?_; dsimp only)); refine box_event ?hg (N := 4) ?hd (cs := #[.int .i64 0, .int .i64 0, .string (⟨#[]⟩ : ByteArray)]) (t := 40) ?hr ?_; (case hd => rfl); (case hg => rfl); (case hr => first | (go_simp; done) | (go_simp; rfl)); intro gb338 hg w26 hbox hb; have n0_ := kb_ (ku_ HO330.out) hb; have n1_ := kb_ (ku_ HO333.out) hb; have n2_ := bb_ (bu_ BK326) hb; have n3_ := bb_ (bu_ BK327) hb; have n4_ := bs_ (be_ HB) hb; have n5_ := Aside0.mk (hbox); have n6_ := gs_ hg (be_ HB); have n7_ := gs_ hg (be_ HB); have n8_ := nl_ hg (bu_ BK326); have n9_ := ng_ hg (bu_ BK326); have n10_ := nl_ hg (bu_ BK327); have n11_ := ng_ hg (bu_ BK327); clear HO330; clear HO333; clear BK326; clear BK327; clear HB; have HO330 := n0_; have HO333 := n1_; have BK326 := n2_; have BK327 := n3_; have HB := n4_; have BK338 := n5_; have GW338 := n6_; have GE338 := n7_; have NB326_338 := n8_; have NB338_326 := n9_; have NB327_338 := n10_; have NB338_327 := n11_; clear n0_ n1_ n2_ n3_ n4_ n5_ n6_ n7_ n8_ n9_ n10_ n11_; clear hb hbox hg; have hnb27 := NB338_326.out; have hnc27 := NB326_338.out; have hnb28 := NB338_327.out; have hnc28 := NB327_338.out; have hcz29_0 : w26.cell? ⟨gb338, 0, none⟩ = some (.int .i64 0) := (blk_cell BK338.out 0).trans rfl; have hcz29_1 : w26.cell? ⟨gb338, 1, none⟩ = some (.int .i64 0) := (blk_cell BK338.out 1).trans rfl; have hcz29_2 : w26.cell? ⟨gb338, 2, none⟩ = some (.string (⟨#[]⟩ : ByteArray)) := (blk_cell BK338.out 2).trans rfl; have hfz29_0 := blk_frozen BK338.out 0; have hfz29_1 := blk_frozen BK338.out 1; have hfz29_2 := blk_frozen BK338.out 2) | ((with_reducible refine gate_callee (f := 21) rfl ?_); refine goesL_ (some 25) rfl rfl Try.func21 (by kernel_rfl) rfl #[.slice Ao23 y328.length co23, .slice none 0 0] rfl ga_ ?_; (refine (expr_Eval.calls k _ _ y328 _ _ ([] : List (S62)) t339 t340 t341 t342 _ ?side1 ?side2 ?side3 ?side4 A2.out).mono ?_); (case side1 => refine (Kd.R_reads' (e := 52) (base := w.heap.size) (ok := fun k_ => True) (n := y328.length) (c := co23) ?_).2.2; exact (ku_ (Kd.R_mono (Kd.R_far (p := ⟨gb338, 2, none⟩) (Kd.R_far (p := ⟨gb338, 1, none⟩) (Kd.R_far (p := ⟨gb338, 0, none⟩) (Kd.R_types HO330.out BK338.out (by decide)) (fun _ hk => hk.2) (.int .i64 t334)) (fun _ hk => hk.2) (.int .i64 t335)) (fun _ hk => hk.2) (.string t336)) (fun _ h_ => h_.1)))); (case side2 => exact (Kd.R_reads' HO330.out).2.1); (case side3 => exact Kd.C_nil _ _); (case side4 => exact Nat.le_refl _); rintro e w30 ⟨rfl, hb⟩; refine ⟨_, rfl, ?_⟩; have n0_ := Aside0.mk (Kd.R_below (ku_ (Kd.R_mono (Kd.R_far (p := ⟨gb338, 2, none⟩) (Kd.R_far (p := ⟨gb338, 1, none⟩) (Kd.R_far (p := ⟨gb338, 0, none⟩) (Kd.R_types HO330.out BK338.out (by decide)) (fun _ hk => hk.2) (.int .i64 t334)) (fun _ hk => hk.2) (.int .i64 t335)) (fun _ hk => hk.2) (.string t336)) (fun _ h_ => h_.1))) hb); have n1_ := Aside0.mk (Kd.R_below (ku_ (Kd.R_mono (Kd.R_far (p := ⟨gb338, 2, none⟩) (Kd.R_far (p := ⟨gb338, 1, none⟩) (Kd.R_far (p := ⟨gb338, 0, none⟩) (Kd.R_types HO333.out BK338.out (by decide)) (fun _ hk => hk.2) (.int .i64 t334)) (fun _ hk => hk.2) (.int .i64 t335)) (fun _ hk => hk.2) (.string t336)) (fun _ h_ => h_.1))) hb); have n2_ := bb_ (bu_ BK326) hb; have n3_ := bb_ (bu_ BK327) hb; have n4_ := Aside0.mk (blk_below (o := .cells #[.int .i64 t334, .int .i64 t335, .string t336] 40 (0, 0)) (bp_ BK338) hb); have n5_ := bs_ (be_ HB) hb; clear HO330; clear HO333; clear BK326; clear BK327; clear BK338; clear HB; have HO330 := n0_; have HO333 := n1_; have BK326 := n2_; have BK327 := n3_; have BK338 := n4_; have HB := n5_; clear n0_ n1_ n2_ n3_ n4_ n5_; (try clear hb); (try clear hb2); (try clear hk); (try clear hi)) | ((with_reducible refine gate_dst (N := 6) rfl ?_); (try (refine gate_guard (by rfl) ?_; dsimp only)); refine box_event ?hg (N := 6) ?hd (cs := #[.int .i64 0, .int .i64 0, .string (⟨#[]⟩ : ByteArray)]) (t := 40) ?hr ?_; (case hd => rfl); (case hg => rfl); (case hr => first | (go_simp; done) | (go_simp; rfl)); intro gb343 hg w31 hbox hb; have n0_ := kb_ (ku_ HO330.out) hb; have n1_ := kb_ (ku_ HO333.out) hb; have n2_ := bb_ (bu_ BK326) hb; have n3_ := bb_ (bu_ BK327) hb; have n4_ := bb_ (bu_ BK338) hb; have n5_ := bs_ (be_ HB) hb; have n6_ := Aside0.mk (hbox); have n7_ := gs_ hg (be_ HB); have n8_ := gs_ hg (be_ HB); have n9_ := nl_ hg (bu_ BK326); have n10_ := ng_ hg (bu_ BK326); have n11_ := nl_ hg (bu_ BK327); have n12_ := ng_ hg (bu_ BK327); have n13_ := nl_ hg (bu_ BK338); have n14_ := ng_ hg (bu_ BK338); clear HO330; clear HO333; clear BK326; clear BK327; clear BK338; clear HB; have HO330 := n0_; have HO333 := n1_; have BK326 := n2_; have BK327 := n3_; have BK338 := n4_; have HB := n5_; have BK343 := n6_; have GW343 := n7_; have GE343 := n8_; have NB326_343 := n9_; have NB343_326 := n10_; have NB327_343 := n11_; have NB343_327 := n12_; have NB338_343 := n13_; have NB343_338 := n14_; clear n0_ n1_ n2_ n3_ n4_ n5_ n6_ n7_ n8_ n9_ n10_ n11_ n12_ n13_ n14_; clear hb hbox hg; have hnb32 := NB343_326.out; have hnc32 := NB326_343.out; have hnb33 := NB343_327.out; have hnc33 := NB327_343.out; have hnb34 := NB343_338.out; have hnc34 := NB338_343.out; have hcz35_0 : w31.cell? ⟨gb343, 0, none⟩ = some (.int .i64 0) := (blk_cell BK343.out 0).trans rfl; have hcz35_1 : w31.cell? ⟨gb343, 1, none⟩ = some (.int .i64 0) := (blk_cell BK343.out 1).trans rfl; have hcz35_2 : w31.cell? ⟨gb343, 2, none⟩ = some (.string (⟨#[]⟩ : ByteArray)) := (blk_cell BK343.out 2).trans rfl; have hfz35_0 := blk_frozen BK343.out 0; have hfz35_1 := blk_frozen BK343.out 1; have hfz35_2 := blk_frozen BK343.out 2; have hcz36_0 : w31.cell? ⟨gb338, 0, none⟩ = some (.int .i64 t334) := (blk_cell BK338.out 0).trans rfl; have hcz36_1 : w31.cell? ⟨gb338, 1, none⟩ = some (.int .i64 t335) := (blk_cell BK338.out 1).trans rfl; have hcz36_2 : w31.cell? ⟨gb338, 2, none⟩ = some (.string t336) := (blk_cell BK338.out 2).trans rfl; have hfz36_0 := blk_frozen BK338.out 0; have hfz36_1 := blk_frozen BK338.out 1; have hfz36_2 := blk_frozen BK338.out 2) | (go_at_call 23; (with_reducible refine (expr_Vars.calls k _ _ y328 t344 _ ?side1 ?side2 A6.out).mono ?_); (case side1 => refine (Kd.R_reads' (e := 52) (base := w.heap.size) (ok := fun k_ => True) (n := y328.length) (c := co23) ?_).2.2; exact (ku_ (Kd.R_mono (Kd.R_far (p := ⟨gb343, 2, none⟩) (Kd.R_far (p := ⟨gb343, 1, none⟩) (Kd.R_far (p := ⟨gb343, 0, none⟩) (Kd.R_types HO330.out BK343.out (by decide)) (fun _ hk => hk.2) (.int .i64 t339)) (fun _ hk => hk.2) (.int .i64 t340)) (fun _ hk => hk.2) (.string t341)) (fun _ h_ => h_.1)))); (case side2 => exact (Kd.R_reads' HO330.out).2.1); rintro e w37 ⟨v345, rfl, ho0, hb⟩; have n0_ := Aside0.mk (Kd.R_below (ku_ (Kd.R_mono (Kd.R_far (p := ⟨gb343, 2, none⟩) (Kd.R_far (p := ⟨gb343, 1, none⟩) (Kd.R_far (p := ⟨gb343, 0, none⟩) (Kd.R_types HO330.out BK343.out (by decide)) (fun _ hk => hk.2) (.int .i64 t339)) (fun _ hk => hk.2) (.int .i64 t340)) (fun _ hk => hk.2) (.string t341)) (fun _ h_ => h_.1))) hb); have n1_ := Aside0.mk (Kd.R_below (ku_ (Kd.R_mono (Kd.R_far (p := ⟨gb343, 2, none⟩) (Kd.R_far (p := ⟨gb343, 1, none⟩) (Kd.R_far (p := ⟨gb343, 0, none⟩) (Kd.R_types HO333.out BK343.out (by decide)) (fun _ hk => hk.2) (.int .i64 t339)) (fun _ hk => hk.2) (.int .i64 t340)) (fun _ hk => hk.2) (.string t341)) (fun _ h_ => h_.1))) hb); have n2_ := Aside0.mk (Kd.R_lower ho0 (below_size (be_ HB))); have n3_ := bb_ (bu_ BK326) hb; have n4_ := bb_ (bu_ BK327) hb; have n5_ := bb_ (bu_ BK338) hb; have n6_ := Aside0.mk (blk_below (o := .cells #[.int .i64 t339, .int .i64 t340, .string t341] 40 (0, 0)) (bp_ BK343) hb); have n7_ := bs_ (be_ HB) hb; clear HO330; clear HO333; clear BK326; clear BK327; clear BK338; clear BK343; clear HB; have HO330 := n0_; have HO333 := n1_; have HO346 := n2_; have BK326 := n3_; have BK327 := n4_; have BK338 := n5_; have BK343 := n6_; have HB := n7_; clear n0_ n1_ n2_ n3_ n4_ n5_ n6_ n7_; (try clear hb); (try clear hb2); (try clear hk); (try clear hi); (try clear ho0); obtain ⟨Ao38, co38, eo38⟩ := Kd.R_slice HO346.out; subst eo38) | (go_at_call 30; (with_reducible refine (expr_Part.calls k _ _ y328 2 t347 _ ?side1 ?side2 A8.out).mono ?_); (case side1 => repeat (first | exact (Kd.R_reads' HO330.out).2.2 | (with_reducible refine Kd.C_alloc ?_ _) | (with_reducible refine Kd.C_drewN ?_ _) | (with_reducible refine Kd.C_drew ?_))); (case side2 => exact (Kd.R_reads' HO330.out).2.1); rintro e w39 ⟨rfl, hb⟩; have n0_ := kb_ (ku_ HO330.out) hb; have n1_ := kb_ (ku_ HO333.out) hb; have n2_ := kb_ (ku_ HO346.out) hb; have n3_ := bb_ (bu_ BK326) hb; have n4_ := bb_ (bu_ BK327) hb; have n5_ := bb_ (bu_ BK338) hb; have n6_ := bb_ (bu_ BK343) hb; have n7_ := bs_ (be_ HB) hb; clear HO330; clear HO333; clear HO346; clear BK326; clear BK327; clear BK338; clear BK343; clear HB; have HO330 := n0_; have HO333 := n1_; have HO346 := n2_; have BK326 := n3_; have BK327 := n4_; have BK338 := n5_; have BK343 := n6_; have HB := n7_; clear n0_ n1_ n2_ n3_ n4_ n5_ n6_ n7_; (try clear hb); (try clear hb2); (try clear hk); (try clear hi)) | (go_at_call 30; (with_reducible refine (expr_Part.calls k _ _ y328 1 t348 _ ?side1 ?side2 A10.out).mono ?_); (case side1 => repeat (first | exact (Kd.R_reads' HO330.out).2.2 | (with_reducible refine Kd.C_alloc ?_ _) | (with_reducible refine Kd.C_drewN ?_ _) | (with_reducible refine Kd.C_drew ?_))); (case side2 => exact (Kd.R_reads' HO330.out).2.1); rintro e w40 ⟨rfl, hb⟩; have n0_ := kb_ (ku_ HO330.out) hb; have n1_ := kb_ (ku_ HO333.out) hb; have n2_ := kb_ (ku_ HO346.out) hb; have n3_ := bb_ (bu_ BK326) hb; have n4_ := bb_ (bu_ BK327) hb; have n5_ := bb_ (bu_ BK338) hb; have n6_ := bb_ (bu_ BK343) hb; have n7_ := bs_ (be_ HB) hb; clear HO330; clear HO333; clear HO346; clear BK326; clear BK327; clear BK338; clear BK343; clear HB; have HO330 := n0_; have HO333 := n1_; have HO346 := n2_; have BK326 := n3_; have BK327 := n4_; have BK338 := n5_; have BK343 := n6_; have HB := n7_; clear n0_ n1_ n2_ n3_ n4_ n5_ n6_ n7_; (try clear hb); (try clear hb2); (try clear hk); (try clear hi)) | (go_at_call 28; (refine (expr_Check.calls k _ _ ([] : List (S52)) t349 _ ?side1 ?side2 A12.out).mono ?_); (case side1 => exact Kd.C_nil _ _); (case side2 => exact Nat.le_refl _); rintro e w41 ⟨rfl, hb⟩; have n0_ := kb_ (ku_ HO330.out) hb; have n1_ := kb_ (ku_ HO333.out) hb; have n2_ := kb_ (ku_ HO346.out) hb; have n3_ := bb_ (bu_ BK326) hb; have n4_ := bb_ (bu_ BK327) hb; have n5_ := bb_ (bu_ BK338) hb; have n6_ := bb_ (bu_ BK343) hb; have n7_ := bs_ (be_ HB) hb; clear HO330; clear HO333; clear HO346; clear BK326; clear BK327; clear BK338; clear BK343; clear HB; have HO330 := n0_; have HO333 := n1_; have HO346 := n2_; have BK326 := n3_; have BK327 := n4_; have BK338 := n5_; have BK343 := n6_; have HB := n7_; clear n0_ n1_ n2_ n3_ n4_ n5_ n6_ n7_; (try clear hb); (try clear hb2); (try clear hk); (try clear hi)))
              go_ret
              exact ⟨by first | rfl | (simp [errW_none, errW_some] <;> rfl) | (simp [*, errW_none, errW_some] <;> rfl), by repeat (first | (with_reducible first | exact HB.out | apply below_alloc | apply pw_below_drewN | apply below_drew1 | refine below_set ?_ GE326.out | refine below_set ?_ GE327.out | refine below_set ?_ GE338.out | refine below_set ?_ GE343.out) | exact HB.out)⟩
            · rw [if_neg c11] at H
              obtain ⟨c11b0, c11b1⟩ := neB_ c11
              exact absurd ((Option.some.inj H).trans HR_.out) (by decide)
          · rw [if_neg c9] at H
            obtain ⟨c9b0, c9b1⟩ := neB_ c9
            exact absurd ((Option.some.inj H).trans HR_.out) (by decide)
        · rw [if_neg c7] at H
          obtain ⟨c7b0, c7b1⟩ := neB_ c7
          exact absurd ((Option.some.inj H).trans HR_.out) (by decide)
      · rw [if_neg c5] at H
        obtain ⟨c5b0, c5b1⟩ := neB_ c5
        exact absurd ((Option.some.inj H).trans HR_.out) (by decide)
    · rw [if_neg c4] at H
      obtain ⟨c4b0, c4b1⟩ := neB_ c4
      exact absurd ((Option.some.inj H).trans HR_.out) (by decide)
  · rw [if_neg c3] at H
    obtain ⟨c3b0, c3b1⟩ := neB_ c3
    exact absurd ((Option.some.inj H).trans HR_.out) (by decide)
end Go.Proofs.Ytconpnagoijacaa.P
end
section
namespace Go.Proofs.Ytconpnagoijacaa.P
open Go.RowKit Go.Proofs.YtconpnagoijacaaW.PrintWords Go.Proofs.YtconpnagoijacaaW.PrintLast Go.Proofs.YtconpnagoijacaaW.PrintMore
attribute [local go_sem] max2_int min2_int max_two min_two max_three min_three max_four min_four
set_option linter.unusedVariables false
set_option linter.unusedSimpArgs false
mutual
def constablelaw07_ExprParts.j0 : Nat → List (S52) → List (S52) → Int → List (S62) → Bool → Option (Bool)
  | 0, _, _, _, _, _ => none
  | k + 1, x0, x1, x2, x3, x50 => if x50 = true then (some true) else ((constablekeep_TwinOps.f x0).bind fun t423 => (if t423.length + x1.length < 2513169434916 then ((some (t423 ++ x1 : List (S52))).bind fun y426 => (if y426.length < 2513169434916 then ((some (y426 ++ [(⟨wrap64 (3 + (wrap64 (Int.tmod (IntKind.u64.wrap (x2)) 3))), (⟨#[]⟩ : ByteArray), (⟨0, 0, (⟨#[]⟩ : ByteArray)⟩ : S40)⟩ : S52)] : List (S52))).bind fun y429 => ((expr_Eval.f k x0 x3).bind fun bt432 => ((expr_Eval.f k x1 x3).bind fun bt437 => ((expr_Eval.f k y429 x3).bind fun bt442 => ((expr_Check.f k y429).bind fun t447 => (if t447 = 0 then ((expr_Part.f k y429 (wrap64 ((y429.length : Int) - 1))).bind fun t448 => (if t448 = 0 then ((expr_Part.f k y429 (wrap64 ((y429.length : Int) - 2))).bind fun t449 => (constablelaw07_ExprParts.j1 k (wrap64 (3 + (wrap64 (Int.tmod (IntKind.u64.wrap (x2)) 3)))) bt432.2.2.2 bt437.2.2.2 bt442.2.2.2 (t449 != (x0.length : Int)) bt432.1 bt432.2.1 bt432.2.2.1 bt437.1 bt437.2.1 bt437.2.2.1 bt442.1 bt442.2.1 bt442.2.2.1)) else (constablelaw07_ExprParts.j1 k (wrap64 (3 + (wrap64 (Int.tmod (IntKind.u64.wrap (x2)) 3)))) bt432.2.2.2 bt437.2.2.2 bt442.2.2.2 true bt432.1 bt432.2.1 bt432.2.2.1 bt437.1 bt437.2.1 bt437.2.2.1 bt442.1 bt442.2.1 bt442.2.2.1))) else (constablelaw07_ExprParts.j1 k (wrap64 (3 + (wrap64 (Int.tmod (IntKind.u64.wrap (x2)) 3)))) bt432.2.2.2 bt437.2.2.2 bt442.2.2.2 true bt432.1 bt432.2.1 bt432.2.2.1 bt437.1 bt437.2.1 bt437.2.2.1 bt442.1 bt442.2.1 bt442.2.2.1))))))) else (none))) else (none)))
def constablelaw07_ExprParts.j1 : Nat → Int → Int → Int → Int → Bool → Int → Int → ByteArray → Int → Int → ByteArray → Int → Int → ByteArray → Option (Bool)
  | 0, _, _, _, _, _, _, _, _, _, _, _, _, _, _ => none
  | k + 1, x2, x11, x13, x15, x102, x437000, x437001, x437002, x442000, x442001, x442002, x447000, x447001, x447002 => if x102 = true then (some false) else (if x11 = 0 then (if x13 = 0 then (if x437000 = 1 then (constablelaw07_ExprParts.j2 k x2 x15 (x442000 != 1) x437000 x437001 x437002 x442000 x442001 x442002 x447000 x447001 x447002) else (constablelaw07_ExprParts.j2 k x2 x15 true x437000 x437001 x437002 x442000 x442001 x442002 x447000 x447001 x447002)) else (if x15 = x13 then ((constablelaw07_wakes.f k).bind fun t455 => (some t455)) else (some false))) else (if x15 = x11 then ((constablelaw07_wakes.f k).bind fun t456 => (some t456)) else (some false)))
def constablelaw07_ExprParts.j2 : Nat → Int → Int → Bool → Int → Int → ByteArray → Int → Int → ByteArray → Int → Int → ByteArray → Option (Bool)
  | 0, _, _, _, _, _, _, _, _, _, _, _, _ => none
  | k + 1, x2, x15, x121, x437000, x437001, x437002, x442000, x442001, x442002, x447000, x447001, x447002 => if x121 = true then (if x15 = 3 then ((constablelaw07_wakes.f k).bind fun t450 => (some t450)) else (some false)) else ((num_Do.f k x2 x437001 x442001).bind fun bt451 => (if x15 = bt451.2 then (if bt451.2 = 0 then (if x447000 = 1 then (if x447001 = bt451.1 then ((constablelaw07_wakes.f k).bind fun t453 => (some t453)) else (some false)) else (some false)) else ((constablelaw07_wakes.f k).bind fun t454 => (some t454))) else (some false)))
end
def constablelaw07_ExprParts.f (k : Nat) (l0 : List (S52)) (l1 : List (S52)) (a2 : Int) (l3 : List (S62)) : Option (Bool) := (constablelaw07_Heavy.f k l0).bind fun t417 => (if t417 = true then (constablelaw07_ExprParts.j0 k l0 l1 a2 l3 true) else ((constablelaw07_Heavy.f k l1).bind fun t418 => (if t418 = true then (constablelaw07_ExprParts.j0 k l0 l1 a2 l3 true) else ((constablelaw05_Heavy.f k l3).bind fun t419 => (if t419 = true then (constablelaw07_ExprParts.j0 k l0 l1 a2 l3 true) else (if (wrap64 ((l0.length : Int) + (l1.length : Int))) ≥ 15 then (constablelaw07_ExprParts.j0 k l0 l1 a2 l3 true) else ((constableref01_Expr.f k l0).bind fun t420 => (if t420 = true then ((constableref01_Expr.f k l1).bind fun t421 => (if t421 = true then ((constableref01_Binds.f k l3).bind fun t422 => (constablelaw07_ExprParts.j0 k l0 l1 a2 l3 (!t422))) else (constablelaw07_ExprParts.j0 k l0 l1 a2 l3 true))) else (constablelaw07_ExprParts.j0 k l0 l1 a2 l3 true)))))))))
theorem constablelaw07_ExprParts.mono_l : ∀ k, (∀ y0 y1 y2 y3 y4, LeO (constablelaw07_ExprParts.j0 k y0 y1 y2 y3 y4) (constablelaw07_ExprParts.j0 (k + 1) y0 y1 y2 y3 y4)) ∧ (∀ y0 y1 y2 y3 y4 y5 y6 y7 y8 y9 y10 y11 y12 y13, LeO (constablelaw07_ExprParts.j1 k y0 y1 y2 y3 y4 y5 y6 y7 y8 y9 y10 y11 y12 y13) (constablelaw07_ExprParts.j1 (k + 1) y0 y1 y2 y3 y4 y5 y6 y7 y8 y9 y10 y11 y12 y13)) ∧ (∀ y0 y1 y2 y3 y4 y5 y6 y7 y8 y9 y10 y11, LeO (constablelaw07_ExprParts.j2 k y0 y1 y2 y3 y4 y5 y6 y7 y8 y9 y10 y11) (constablelaw07_ExprParts.j2 (k + 1) y0 y1 y2 y3 y4 y5 y6 y7 y8 y9 y10 y11))
  | 0 => ⟨fun _ _ _ _ _ r h => by simp [constablelaw07_ExprParts.j0] at h, fun _ _ _ _ _ _ _ _ _ _ _ _ _ _ r h => by simp [constablelaw07_ExprParts.j1] at h, fun _ _ _ _ _ _ _ _ _ _ _ _ r h => by simp [constablelaw07_ExprParts.j2] at h⟩
  | k + 1 => by
    obtain ⟨ih0, ih1, ih2⟩ := constablelaw07_ExprParts.mono_l k
    refine ⟨?_, ?_, ?_⟩
    · intro y0 y1 y2 y3 y4
      unfold constablelaw07_ExprParts.j0
      repeat' first
      | (with_reducible exact ih0 _ _ _ _ _)
      | (with_reducible exact ih1 _ _ _ _ _ _ _ _ _ _ _ _ _ _)
      | (with_reducible exact ih2 _ _ _ _ _ _ _ _ _ _ _ _)
      | (with_reducible exact constablelaw05_Heavy.mono _ _)
      | (with_reducible exact constablelaw07_Heavy.mono _ _)
      | (with_reducible exact constablelaw07_wakes.mono _)
      | (with_reducible exact constableref01_Binds.mono _ _)
      | (with_reducible exact constableref01_Expr.mono _ _)
      | (with_reducible exact expr_Check.mono _ _)
      | (with_reducible exact expr_Eval.mono _ _ _)
      | (with_reducible exact expr_Part.mono _ _ _)
      | (with_reducible exact num_Do.mono _ _ _ _)
      | (with_reducible exact LeO.refl _)
      | (with_reducible exact LeO.none _)
      | (with_reducible refine LeO.ite ?_ ?_)
      | (with_reducible refine LeO.bind ?_ (fun _ => ?_))
      | exact ih0 _ _ _ _ _
      | exact ih1 _ _ _ _ _ _ _ _ _ _ _ _ _ _
      | exact ih2 _ _ _ _ _ _ _ _ _ _ _ _
      | exact constablelaw05_Heavy.mono _ _
      | exact constablelaw07_Heavy.mono _ _
      | exact constablelaw07_wakes.mono _
      | exact constableref01_Binds.mono _ _
      | exact constableref01_Expr.mono _ _
      | exact expr_Check.mono _ _
      | exact expr_Eval.mono _ _ _
      | exact expr_Part.mono _ _ _
      | exact num_Do.mono _ _ _ _
      | exact LeO.none _
      | refine LeO.ite ?_ ?_
      | refine LeO.bind ?_ (fun _ => ?_)
    · intro y0 y1 y2 y3 y4 y5 y6 y7 y8 y9 y10 y11 y12 y13
      unfold constablelaw07_ExprParts.j1
      repeat' first
      | (with_reducible exact ih0 _ _ _ _ _)
      | (with_reducible exact ih1 _ _ _ _ _ _ _ _ _ _ _ _ _ _)
      | (with_reducible exact ih2 _ _ _ _ _ _ _ _ _ _ _ _)
      | (with_reducible exact constablelaw05_Heavy.mono _ _)
      | (with_reducible exact constablelaw07_Heavy.mono _ _)
      | (with_reducible exact constablelaw07_wakes.mono _)
      | (with_reducible exact constableref01_Binds.mono _ _)
      | (with_reducible exact constableref01_Expr.mono _ _)
      | (with_reducible exact expr_Check.mono _ _)
      | (with_reducible exact expr_Eval.mono _ _ _)
      | (with_reducible exact expr_Part.mono _ _ _)
      | (with_reducible exact num_Do.mono _ _ _ _)
      | (with_reducible exact LeO.refl _)
      | (with_reducible exact LeO.none _)
      | (with_reducible refine LeO.ite ?_ ?_)
      | (with_reducible refine LeO.bind ?_ (fun _ => ?_))
      | exact ih0 _ _ _ _ _
      | exact ih1 _ _ _ _ _ _ _ _ _ _ _ _ _ _
      | exact ih2 _ _ _ _ _ _ _ _ _ _ _ _
      | exact constablelaw05_Heavy.mono _ _
      | exact constablelaw07_Heavy.mono _ _
      | exact constablelaw07_wakes.mono _
      | exact constableref01_Binds.mono _ _
      | exact constableref01_Expr.mono _ _
      | exact expr_Check.mono _ _
      | exact expr_Eval.mono _ _ _
      | exact expr_Part.mono _ _ _
      | exact num_Do.mono _ _ _ _
      | exact LeO.none _
      | refine LeO.ite ?_ ?_
      | refine LeO.bind ?_ (fun _ => ?_)
    · intro y0 y1 y2 y3 y4 y5 y6 y7 y8 y9 y10 y11
      unfold constablelaw07_ExprParts.j2
      repeat' first
      | (with_reducible exact ih0 _ _ _ _ _)
      | (with_reducible exact ih1 _ _ _ _ _ _ _ _ _ _ _ _ _ _)
      | (with_reducible exact ih2 _ _ _ _ _ _ _ _ _ _ _ _)
      | (with_reducible exact constablelaw05_Heavy.mono _ _)
      | (with_reducible exact constablelaw07_Heavy.mono _ _)
      | (with_reducible exact constablelaw07_wakes.mono _)
      | (with_reducible exact constableref01_Binds.mono _ _)
      | (with_reducible exact constableref01_Expr.mono _ _)
      | (with_reducible exact expr_Check.mono _ _)
      | (with_reducible exact expr_Eval.mono _ _ _)
      | (with_reducible exact expr_Part.mono _ _ _)
      | (with_reducible exact num_Do.mono _ _ _ _)
      | (with_reducible exact LeO.refl _)
      | (with_reducible exact LeO.none _)
      | (with_reducible refine LeO.ite ?_ ?_)
      | (with_reducible refine LeO.bind ?_ (fun _ => ?_))
      | exact ih0 _ _ _ _ _
      | exact ih1 _ _ _ _ _ _ _ _ _ _ _ _ _ _
      | exact ih2 _ _ _ _ _ _ _ _ _ _ _ _
      | exact constablelaw05_Heavy.mono _ _
      | exact constablelaw07_Heavy.mono _ _
      | exact constablelaw07_wakes.mono _
      | exact constableref01_Binds.mono _ _
      | exact constableref01_Expr.mono _ _
      | exact expr_Check.mono _ _
      | exact expr_Eval.mono _ _ _
      | exact expr_Part.mono _ _ _
      | exact num_Do.mono _ _ _ _
      | exact LeO.none _
      | refine LeO.ite ?_ ?_
      | refine LeO.bind ?_ (fun _ => ?_)
theorem constablelaw07_ExprParts.mono : ∀ a0 a1 a2 a3 k, LeO (constablelaw07_ExprParts.f k a0 a1 a2 a3) (constablelaw07_ExprParts.f (k + 1) a0 a1 a2 a3) := by
  intro a0 a1 a2 a3 k
  obtain ⟨ih0, ih1, ih2⟩ := constablelaw07_ExprParts.mono_l k
  unfold constablelaw07_ExprParts.f
  repeat' first
      | (with_reducible exact ih0 _ _ _ _ _)
      | (with_reducible exact ih1 _ _ _ _ _ _ _ _ _ _ _ _ _ _)
      | (with_reducible exact ih2 _ _ _ _ _ _ _ _ _ _ _ _)
      | (with_reducible exact constablelaw05_Heavy.mono _ _)
      | (with_reducible exact constablelaw07_Heavy.mono _ _)
      | (with_reducible exact constablelaw07_wakes.mono _)
      | (with_reducible exact constableref01_Binds.mono _ _)
      | (with_reducible exact constableref01_Expr.mono _ _)
      | (with_reducible exact expr_Check.mono _ _)
      | (with_reducible exact expr_Eval.mono _ _ _)
      | (with_reducible exact expr_Part.mono _ _ _)
      | (with_reducible exact num_Do.mono _ _ _ _)
      | (with_reducible exact LeO.refl _)
      | (with_reducible exact LeO.none _)
      | (with_reducible refine LeO.ite ?_ ?_)
      | (with_reducible refine LeO.bind ?_ (fun _ => ?_))
      | exact ih0 _ _ _ _ _
      | exact ih1 _ _ _ _ _ _ _ _ _ _ _ _ _ _
      | exact ih2 _ _ _ _ _ _ _ _ _ _ _ _
      | exact constablelaw05_Heavy.mono _ _
      | exact constablelaw07_Heavy.mono _ _
      | exact constablelaw07_wakes.mono _
      | exact constableref01_Binds.mono _ _
      | exact constableref01_Expr.mono _ _
      | exact expr_Check.mono _ _
      | exact expr_Eval.mono _ _ _
      | exact expr_Part.mono _ _ _
      | exact num_Do.mono _ _ _ _
      | exact LeO.none _
      | refine LeO.ite ?_ ?_
      | refine LeO.bind ?_ (fun _ => ?_)
set_option maxHeartbeats 8000000 in
set_option maxRecDepth 100000 in
theorem constablelaw07_ExprParts.calls (k : Nat) (A0 : Option Addr) (c0 : Nat) (l0 : List (S52)) (A1 : Option Addr) (c1 : Nat) (l1 : List (S52)) (a2 : Int) (A3 : Option Addr) (c3 : Nat) (l3 : List (S62)) (r : Bool) (w : World) (hr0 : Kd.C k52 w A0 l0.length l0) (hc0 : l0.length ≤ c0) (hr1 : Kd.C k52 w A1 l1.length l1) (hc1 : l1.length ≤ c1) (hr3 : Kd.C k62 w A3 l3.length l3) (hc3 : l3.length ≤ c3) (h : constablelaw07_ExprParts.f k l0 l1 a2 l3 = some r) (hr_ : r = true) :
    Calls Try.prog 8 #[.slice A0 l0.length c0, .slice A1 l1.length c1, .int .i64 a2, .slice A3 l3.length c3] w fun e w' => e = .returned (.bool r) ∧ Below w.heap.size w w' := by
  have hu52 := Try.underlying52
  have hu40 := Try.underlying40
  have HR0 := Aside0.mk hr0
  have HC0 := Aside0.mk hc0
  clear hr0 hc0
  have HR1 := Aside0.mk hr1
  have HC1 := Aside0.mk hc1
  clear hr1 hc1
  have HR3 := Aside0.mk hr3
  have HC3 := Aside0.mk hc3
  clear hr3 hc3
  have HB := Aside0.mk (Below.refl w.heap.size w)
  have H : ((constablelaw07_Heavy.f k l0).bind fun t417 => (if t417 = true then (constablelaw07_ExprParts.j0 k l0 l1 a2 l3 true) else ((constablelaw07_Heavy.f k l1).bind fun t418 => (if t418 = true then (constablelaw07_ExprParts.j0 k l0 l1 a2 l3 true) else ((constablelaw05_Heavy.f k l3).bind fun t419 => (if t419 = true then (constablelaw07_ExprParts.j0 k l0 l1 a2 l3 true) else (if (wrap64 ((l0.length : Int) + (l1.length : Int))) ≥ 15 then (constablelaw07_ExprParts.j0 k l0 l1 a2 l3 true) else ((constableref01_Expr.f k l0).bind fun t420 => (if t420 = true then ((constableref01_Expr.f k l1).bind fun t421 => (if t421 = true then ((constableref01_Binds.f k l3).bind fun t422 => (constablelaw07_ExprParts.j0 k l0 l1 a2 l3 (!t422))) else (constablelaw07_ExprParts.j0 k l0 l1 a2 l3 true))) else (constablelaw07_ExprParts.j0 k l0 l1 a2 l3 true)))))))))) = some r := h
  clear h
  have HR_ := Aside0.mk hr_
  clear hr_
  have HC5 := Aside0.mk H
  clear H
  go_enter Try.func8, Try.ntmps8
  go_upto_region 1 with (fail)
  go_cut [50] (fun v50 wc => ∃ (kq : Nat) (x50_4 : Bool), v50 = .bool x50_4 ∧ Aside0 (constablelaw07_ExprParts.j0 kq l0 l1 a2 l3 x50_4 = some r) ∧ Aside0 (kq ≤ k) ∧ Aside0 (Below w.heap.size w wc))
  case first =>
    have H := HC5.out
    clear HC5
    replace H := Option.bind_eq_some_iff.mp H
    obtain ⟨t417, A60, H⟩ := H
    replace H : (if t417 = true then (constablelaw07_ExprParts.j0 k l0 l1 a2 l3 true) else ((constablelaw07_Heavy.f k l1).bind fun t418 => (if t418 = true then (constablelaw07_ExprParts.j0 k l0 l1 a2 l3 true) else ((constablelaw05_Heavy.f k l3).bind fun t419 => (if t419 = true then (constablelaw07_ExprParts.j0 k l0 l1 a2 l3 true) else (if (wrap64 ((l0.length : Int) + (l1.length : Int))) ≥ 15 then (constablelaw07_ExprParts.j0 k l0 l1 a2 l3 true) else ((constableref01_Expr.f k l0).bind fun t420 => (if t420 = true then ((constableref01_Expr.f k l1).bind fun t421 => (if t421 = true then ((constableref01_Binds.f k l3).bind fun t422 => (constablelaw07_ExprParts.j0 k l0 l1 a2 l3 (!t422))) else (constablelaw07_ExprParts.j0 k l0 l1 a2 l3 true))) else (constablelaw07_ExprParts.j0 k l0 l1 a2 l3 true))))))))) = some r := H
    have A6 := Aside0.mk A60
    clear A60
    by_cases c7 : t417 = true
    · subst c7
      have H1 : (constablelaw07_ExprParts.j0 k l0 l1 a2 l3 true) = some r := by rw [if_pos rfl] at H; exact H
      clear H
      have H := H1
      clear H1
      have H' := Aside0.mk H
      clear H
      go_wp2_with (first | ((with_reducible refine gate_callee (f := 17) rfl ?_); refine goesL_ (some 19) rfl rfl Try.func17 (by kernel_rfl) rfl #[.slice A0 l0.length c0] rfl ga_ ?_; (with_reducible refine (constablelaw07_Heavy.calls k _ _ l0 true _ ?side1 ?side2 A6.out).mono ?_); (case side1 => repeat (first | exact (Kd.C_below HR0.out HB.out) | (with_reducible refine Kd.C_alloc ?_ _) | (with_reducible refine Kd.C_drewN ?_ _) | (with_reducible refine Kd.C_drew ?_))); (case side2 => exact HC0.out); rintro e w' ⟨rfl, ⟨nd, rfl⟩⟩; refine ⟨_, rfl, ?_⟩))
      go_meet
      case rel => exact ⟨_, (true), ra_, H', ⟨by first | omega | exact Nat.le_refl _⟩, ⟨by repeat (first | (with_reducible first | exact HB.out | apply below_alloc | apply pw_below_drewN | apply below_drew1) | exact HB.out)⟩⟩
    · replace c7 := Bool.eq_false_iff.mpr c7
      subst c7
      have H1 : ((constablelaw07_Heavy.f k l1).bind fun t418 => (if t418 = true then (constablelaw07_ExprParts.j0 k l0 l1 a2 l3 true) else ((constablelaw05_Heavy.f k l3).bind fun t419 => (if t419 = true then (constablelaw07_ExprParts.j0 k l0 l1 a2 l3 true) else (if (wrap64 ((l0.length : Int) + (l1.length : Int))) ≥ 15 then (constablelaw07_ExprParts.j0 k l0 l1 a2 l3 true) else ((constableref01_Expr.f k l0).bind fun t420 => (if t420 = true then ((constableref01_Expr.f k l1).bind fun t421 => (if t421 = true then ((constableref01_Binds.f k l3).bind fun t422 => (constablelaw07_ExprParts.j0 k l0 l1 a2 l3 (!t422))) else (constablelaw07_ExprParts.j0 k l0 l1 a2 l3 true))) else (constablelaw07_ExprParts.j0 k l0 l1 a2 l3 true)))))))) = some r := by rw [if_neg (show ¬ (false = true) by decide)] at H; exact H
      clear H
      have H := H1
      clear H1
      replace H := Option.bind_eq_some_iff.mp H
      obtain ⟨t418, A80, H⟩ := H
      replace H : (if t418 = true then (constablelaw07_ExprParts.j0 k l0 l1 a2 l3 true) else ((constablelaw05_Heavy.f k l3).bind fun t419 => (if t419 = true then (constablelaw07_ExprParts.j0 k l0 l1 a2 l3 true) else (if (wrap64 ((l0.length : Int) + (l1.length : Int))) ≥ 15 then (constablelaw07_ExprParts.j0 k l0 l1 a2 l3 true) else ((constableref01_Expr.f k l0).bind fun t420 => (if t420 = true then ((constableref01_Expr.f k l1).bind fun t421 => (if t421 = true then ((constableref01_Binds.f k l3).bind fun t422 => (constablelaw07_ExprParts.j0 k l0 l1 a2 l3 (!t422))) else (constablelaw07_ExprParts.j0 k l0 l1 a2 l3 true))) else (constablelaw07_ExprParts.j0 k l0 l1 a2 l3 true))))))) = some r := H
      have A8 := Aside0.mk A80
      clear A80
      by_cases c9 : t418 = true
      · subst c9
        have H1 : (constablelaw07_ExprParts.j0 k l0 l1 a2 l3 true) = some r := by rw [if_pos rfl] at H; exact H
        clear H
        have H := H1
        clear H1
        have H' := Aside0.mk H
        clear H
        go_wp2_with (first | ((with_reducible refine gate_callee (f := 17) rfl ?_); refine goesL_ (some 19) rfl rfl Try.func17 (by kernel_rfl) rfl #[.slice A0 l0.length c0] rfl ga_ ?_; (with_reducible refine (constablelaw07_Heavy.calls k _ _ l0 false _ ?side1 ?side2 A6.out).mono ?_); (case side1 => repeat (first | exact (Kd.C_below HR0.out HB.out) | (with_reducible refine Kd.C_alloc ?_ _) | (with_reducible refine Kd.C_drewN ?_ _) | (with_reducible refine Kd.C_drew ?_))); (case side2 => exact HC0.out); rintro e w' ⟨rfl, ⟨nd, rfl⟩⟩; refine ⟨_, rfl, ?_⟩) | (go_at_call 17; (with_reducible refine (constablelaw07_Heavy.calls k _ _ l1 true _ ?side1 ?side2 A8.out).mono ?_); (case side1 => repeat (first | exact (Kd.C_below HR1.out (be_ HB)) | (with_reducible refine Kd.C_alloc ?_ _) | (with_reducible refine Kd.C_drewN ?_ _) | (with_reducible refine Kd.C_drew ?_))); (case side2 => exact HC1.out); rintro e w' ⟨rfl, ⟨nd, rfl⟩⟩))
        go_meet
        case rel => exact ⟨_, (true), ra_, H', ⟨by first | omega | exact Nat.le_refl _⟩, ⟨by repeat (first | (with_reducible first | exact HB.out | apply below_alloc | apply pw_below_drewN | apply below_drew1) | exact HB.out)⟩⟩
      · replace c9 := Bool.eq_false_iff.mpr c9
        subst c9
        have H1 : ((constablelaw05_Heavy.f k l3).bind fun t419 => (if t419 = true then (constablelaw07_ExprParts.j0 k l0 l1 a2 l3 true) else (if (wrap64 ((l0.length : Int) + (l1.length : Int))) ≥ 15 then (constablelaw07_ExprParts.j0 k l0 l1 a2 l3 true) else ((constableref01_Expr.f k l0).bind fun t420 => (if t420 = true then ((constableref01_Expr.f k l1).bind fun t421 => (if t421 = true then ((constableref01_Binds.f k l3).bind fun t422 => (constablelaw07_ExprParts.j0 k l0 l1 a2 l3 (!t422))) else (constablelaw07_ExprParts.j0 k l0 l1 a2 l3 true))) else (constablelaw07_ExprParts.j0 k l0 l1 a2 l3 true)))))) = some r := by rw [if_neg (show ¬ (false = true) by decide)] at H; exact H
        clear H
        have H := H1
        clear H1
        replace H := Option.bind_eq_some_iff.mp H
        obtain ⟨t419, A100, H⟩ := H
        replace H : (if t419 = true then (constablelaw07_ExprParts.j0 k l0 l1 a2 l3 true) else (if (wrap64 ((l0.length : Int) + (l1.length : Int))) ≥ 15 then (constablelaw07_ExprParts.j0 k l0 l1 a2 l3 true) else ((constableref01_Expr.f k l0).bind fun t420 => (if t420 = true then ((constableref01_Expr.f k l1).bind fun t421 => (if t421 = true then ((constableref01_Binds.f k l3).bind fun t422 => (constablelaw07_ExprParts.j0 k l0 l1 a2 l3 (!t422))) else (constablelaw07_ExprParts.j0 k l0 l1 a2 l3 true))) else (constablelaw07_ExprParts.j0 k l0 l1 a2 l3 true))))) = some r := H
        have A10 := Aside0.mk A100
        clear A100
        by_cases c11 : t419 = true
        · subst c11
          have H1 : (constablelaw07_ExprParts.j0 k l0 l1 a2 l3 true) = some r := by rw [if_pos rfl] at H; exact H
          clear H
          have H := H1
          clear H1
          have H' := Aside0.mk H
          clear H
          go_wp2_with (first | ((with_reducible refine gate_callee (f := 17) rfl ?_); refine goesL_ (some 19) rfl rfl Try.func17 (by kernel_rfl) rfl #[.slice A0 l0.length c0] rfl ga_ ?_; (with_reducible refine (constablelaw07_Heavy.calls k _ _ l0 false _ ?side1 ?side2 A6.out).mono ?_); (case side1 => repeat (first | exact (Kd.C_below HR0.out HB.out) | (with_reducible refine Kd.C_alloc ?_ _) | (with_reducible refine Kd.C_drewN ?_ _) | (with_reducible refine Kd.C_drew ?_))); (case side2 => exact HC0.out); rintro e w' ⟨rfl, ⟨nd, rfl⟩⟩; refine ⟨_, rfl, ?_⟩) | (go_at_call 17; (with_reducible refine (constablelaw07_Heavy.calls k _ _ l1 false _ ?side1 ?side2 A8.out).mono ?_); (case side1 => repeat (first | exact (Kd.C_below HR1.out (be_ HB)) | (with_reducible refine Kd.C_alloc ?_ _) | (with_reducible refine Kd.C_drewN ?_ _) | (with_reducible refine Kd.C_drew ?_))); (case side2 => exact HC1.out); rintro e w' ⟨rfl, ⟨nd, rfl⟩⟩) | (go_at_call 18; (with_reducible refine (constablelaw05_Heavy.calls k _ _ l3 true _ ?side1 ?side2 A10.out).mono ?_); (case side1 => repeat (first | exact (Kd.C_below HR3.out (be_ HB)) | (with_reducible refine Kd.C_alloc ?_ _) | (with_reducible refine Kd.C_drewN ?_ _) | (with_reducible refine Kd.C_drew ?_))); (case side2 => exact HC3.out); rintro e w' ⟨rfl, ⟨nd, rfl⟩⟩))
          go_meet
          case rel => exact ⟨_, (true), ra_, H', ⟨by first | omega | exact Nat.le_refl _⟩, ⟨by repeat (first | (with_reducible first | exact HB.out | apply below_alloc | apply pw_below_drewN | apply below_drew1) | exact HB.out)⟩⟩
        · replace c11 := Bool.eq_false_iff.mpr c11
          subst c11
          have H1 : (if (wrap64 ((l0.length : Int) + (l1.length : Int))) ≥ 15 then (constablelaw07_ExprParts.j0 k l0 l1 a2 l3 true) else ((constableref01_Expr.f k l0).bind fun t420 => (if t420 = true then ((constableref01_Expr.f k l1).bind fun t421 => (if t421 = true then ((constableref01_Binds.f k l3).bind fun t422 => (constablelaw07_ExprParts.j0 k l0 l1 a2 l3 (!t422))) else (constablelaw07_ExprParts.j0 k l0 l1 a2 l3 true))) else (constablelaw07_ExprParts.j0 k l0 l1 a2 l3 true)))) = some r := by rw [if_neg (show ¬ (false = true) by decide)] at H; exact H
          clear H
          have H := H1
          clear H1
          by_cases c12 : (wrap64 ((l0.length : Int) + (l1.length : Int))) ≥ 15
          · rw [if_pos c12] at H
            have c12b0 : decide (15 ≤ (wrap64 ((l0.length : Int) + (l1.length : Int)))) = true := decide_eq_true c12
            clear c12
            (first | rw [c12b0] | (simp only [i64_w, i32_w]; rw [c12b0]) | skip)
            have H' := Aside0.mk H
            clear H
            go_wp2_with (first | ((with_reducible refine gate_callee (f := 17) rfl ?_); refine goesL_ (some 19) rfl rfl Try.func17 (by kernel_rfl) rfl #[.slice A0 l0.length c0] rfl ga_ ?_; (with_reducible refine (constablelaw07_Heavy.calls k _ _ l0 false _ ?side1 ?side2 A6.out).mono ?_); (case side1 => repeat (first | exact (Kd.C_below HR0.out HB.out) | (with_reducible refine Kd.C_alloc ?_ _) | (with_reducible refine Kd.C_drewN ?_ _) | (with_reducible refine Kd.C_drew ?_))); (case side2 => exact HC0.out); rintro e w' ⟨rfl, ⟨nd, rfl⟩⟩; refine ⟨_, rfl, ?_⟩) | (go_at_call 17; (with_reducible refine (constablelaw07_Heavy.calls k _ _ l1 false _ ?side1 ?side2 A8.out).mono ?_); (case side1 => repeat (first | exact (Kd.C_below HR1.out (be_ HB)) | (with_reducible refine Kd.C_alloc ?_ _) | (with_reducible refine Kd.C_drewN ?_ _) | (with_reducible refine Kd.C_drew ?_))); (case side2 => exact HC1.out); rintro e w' ⟨rfl, ⟨nd, rfl⟩⟩) | (go_at_call 18; (with_reducible refine (constablelaw05_Heavy.calls k _ _ l3 false _ ?side1 ?side2 A10.out).mono ?_); (case side1 => repeat (first | exact (Kd.C_below HR3.out (be_ HB)) | (with_reducible refine Kd.C_alloc ?_ _) | (with_reducible refine Kd.C_drewN ?_ _) | (with_reducible refine Kd.C_drew ?_))); (case side2 => exact HC3.out); rintro e w' ⟨rfl, ⟨nd, rfl⟩⟩))
            go_meet
            case rel => exact ⟨_, (true), ra_, H', ⟨by first | omega | exact Nat.le_refl _⟩, ⟨by repeat (first | (with_reducible first | exact HB.out | apply below_alloc | apply pw_below_drewN | apply below_drew1) | exact HB.out)⟩⟩
          · rw [if_neg c12] at H
            have c12b0 : decide (15 ≤ (wrap64 ((l0.length : Int) + (l1.length : Int)))) = false := decide_eq_false c12
            clear c12
            (first | rw [c12b0] | (simp only [i64_w, i32_w]; rw [c12b0]) | skip)
            replace H := Option.bind_eq_some_iff.mp H
            obtain ⟨t420, A130, H⟩ := H
            replace H : (if t420 = true then ((constableref01_Expr.f k l1).bind fun t421 => (if t421 = true then ((constableref01_Binds.f k l3).bind fun t422 => (constablelaw07_ExprParts.j0 k l0 l1 a2 l3 (!t422))) else (constablelaw07_ExprParts.j0 k l0 l1 a2 l3 true))) else (constablelaw07_ExprParts.j0 k l0 l1 a2 l3 true)) = some r := H
            have A13 := Aside0.mk A130
            clear A130
            by_cases c14 : t420 = true
            · subst c14
              have H1 : ((constableref01_Expr.f k l1).bind fun t421 => (if t421 = true then ((constableref01_Binds.f k l3).bind fun t422 => (constablelaw07_ExprParts.j0 k l0 l1 a2 l3 (!t422))) else (constablelaw07_ExprParts.j0 k l0 l1 a2 l3 true))) = some r := by rw [if_pos rfl] at H; exact H
              clear H
              have H := H1
              clear H1
              replace H := Option.bind_eq_some_iff.mp H
              obtain ⟨t421, A150, H⟩ := H
              replace H : (if t421 = true then ((constableref01_Binds.f k l3).bind fun t422 => (constablelaw07_ExprParts.j0 k l0 l1 a2 l3 (!t422))) else (constablelaw07_ExprParts.j0 k l0 l1 a2 l3 true)) = some r := H
              have A15 := Aside0.mk A150
              clear A150
              by_cases c16 : t421 = true
              · subst c16
                have H1 : ((constableref01_Binds.f k l3).bind fun t422 => (constablelaw07_ExprParts.j0 k l0 l1 a2 l3 (!t422))) = some r := by rw [if_pos rfl] at H; exact H
                clear H
                have H := H1
                clear H1
                replace H := Option.bind_eq_some_iff.mp H
                obtain ⟨t422, A170, H⟩ := H
                replace H : (constablelaw07_ExprParts.j0 k l0 l1 a2 l3 (!t422)) = some r := H
                have A17 := Aside0.mk A170
                clear A170
                have H' := Aside0.mk H
                clear H
                go_wp2_with (first | ((with_reducible refine gate_callee (f := 17) rfl ?_); refine goesL_ (some 19) rfl rfl Try.func17 (by kernel_rfl) rfl #[.slice A0 l0.length c0] rfl ga_ ?_; (with_reducible refine (constablelaw07_Heavy.calls k _ _ l0 false _ ?side1 ?side2 A6.out).mono ?_); (case side1 => repeat (first | exact (Kd.C_below HR0.out HB.out) | (with_reducible refine Kd.C_alloc ?_ _) | (with_reducible refine Kd.C_drewN ?_ _) | (with_reducible refine Kd.C_drew ?_))); (case side2 => exact HC0.out); rintro e w' ⟨rfl, ⟨nd, rfl⟩⟩; refine ⟨_, rfl, ?_⟩) | (go_at_call 17; (with_reducible refine (constablelaw07_Heavy.calls k _ _ l1 false _ ?side1 ?side2 A8.out).mono ?_); (case side1 => repeat (first | exact (Kd.C_below HR1.out (be_ HB)) | (with_reducible refine Kd.C_alloc ?_ _) | (with_reducible refine Kd.C_drewN ?_ _) | (with_reducible refine Kd.C_drew ?_))); (case side2 => exact HC1.out); rintro e w' ⟨rfl, ⟨nd, rfl⟩⟩) | (go_at_call 18; (with_reducible refine (constablelaw05_Heavy.calls k _ _ l3 false _ ?side1 ?side2 A10.out).mono ?_); (case side1 => repeat (first | exact (Kd.C_below HR3.out (be_ HB)) | (with_reducible refine Kd.C_alloc ?_ _) | (with_reducible refine Kd.C_drewN ?_ _) | (with_reducible refine Kd.C_drew ?_))); (case side2 => exact HC3.out); rintro e w' ⟨rfl, ⟨nd, rfl⟩⟩) | (go_at_call 27; (with_reducible refine (constableref01_Expr.calls k _ _ l0 true _ ?side1 ?side2 A13.out).mono ?_); (case side1 => repeat (first | exact (Kd.C_below HR0.out (be_ HB)) | (with_reducible refine Kd.C_alloc ?_ _) | (with_reducible refine Kd.C_drewN ?_ _) | (with_reducible refine Kd.C_drew ?_))); (case side2 => exact HC0.out); rintro e w18 ⟨rfl, hb⟩; have n0_ := bs_ (be_ HB) hb; clear HB; have HB := n0_; clear n0_; (try clear hb); (try clear hb2); (try clear hk); (try clear hi)) | (go_at_call 27; (with_reducible refine (constableref01_Expr.calls k _ _ l1 true _ ?side1 ?side2 A15.out).mono ?_); (case side1 => repeat (first | exact (Kd.C_below HR1.out HB.out) | (with_reducible refine Kd.C_alloc ?_ _) | (with_reducible refine Kd.C_drewN ?_ _) | (with_reducible refine Kd.C_drew ?_))); (case side2 => exact HC1.out); rintro e w19 ⟨rfl, hb⟩; have n0_ := bs_ (be_ HB) hb; clear HB; have HB := n0_; clear n0_; (try clear hb); (try clear hb2); (try clear hk); (try clear hi)) | (go_at_call 31; (with_reducible refine (constableref01_Binds.calls k _ _ l3 t422 _ ?side1 ?side2 A17.out).mono ?_); (case side1 => repeat (first | exact (Kd.C_below HR3.out HB.out) | (with_reducible refine Kd.C_alloc ?_ _) | (with_reducible refine Kd.C_drewN ?_ _) | (with_reducible refine Kd.C_drew ?_))); (case side2 => exact HC3.out); rintro e w20 ⟨rfl, hb⟩; have n0_ := bs_ (be_ HB) hb; clear HB; have HB := n0_; clear n0_; (try clear hb); (try clear hb2); (try clear hk); (try clear hi)))
                go_meet
                case rel => exact ⟨_, (!t422), ra_, H', ⟨by first | omega | exact Nat.le_refl _⟩, ⟨by repeat (first | (with_reducible first | exact HB.out | apply below_alloc | apply pw_below_drewN | apply below_drew1) | exact HB.out)⟩⟩
              · replace c16 := Bool.eq_false_iff.mpr c16
                subst c16
                have H1 : (constablelaw07_ExprParts.j0 k l0 l1 a2 l3 true) = some r := by rw [if_neg (show ¬ (false = true) by decide)] at H; exact H
                clear H
                have H := H1
                clear H1
                have H' := Aside0.mk H
                clear H
                go_wp2_with (first | ((with_reducible refine gate_callee (f := 17) rfl ?_); refine goesL_ (some 19) rfl rfl Try.func17 (by kernel_rfl) rfl #[.slice A0 l0.length c0] rfl ga_ ?_; (with_reducible refine (constablelaw07_Heavy.calls k _ _ l0 false _ ?side1 ?side2 A6.out).mono ?_); (case side1 => repeat (first | exact (Kd.C_below HR0.out HB.out) | (with_reducible refine Kd.C_alloc ?_ _) | (with_reducible refine Kd.C_drewN ?_ _) | (with_reducible refine Kd.C_drew ?_))); (case side2 => exact HC0.out); rintro e w' ⟨rfl, ⟨nd, rfl⟩⟩; refine ⟨_, rfl, ?_⟩) | (go_at_call 17; (with_reducible refine (constablelaw07_Heavy.calls k _ _ l1 false _ ?side1 ?side2 A8.out).mono ?_); (case side1 => repeat (first | exact (Kd.C_below HR1.out (be_ HB)) | (with_reducible refine Kd.C_alloc ?_ _) | (with_reducible refine Kd.C_drewN ?_ _) | (with_reducible refine Kd.C_drew ?_))); (case side2 => exact HC1.out); rintro e w' ⟨rfl, ⟨nd, rfl⟩⟩) | (go_at_call 18; (with_reducible refine (constablelaw05_Heavy.calls k _ _ l3 false _ ?side1 ?side2 A10.out).mono ?_); (case side1 => repeat (first | exact (Kd.C_below HR3.out (be_ HB)) | (with_reducible refine Kd.C_alloc ?_ _) | (with_reducible refine Kd.C_drewN ?_ _) | (with_reducible refine Kd.C_drew ?_))); (case side2 => exact HC3.out); rintro e w' ⟨rfl, ⟨nd, rfl⟩⟩) | (go_at_call 27; (with_reducible refine (constableref01_Expr.calls k _ _ l0 true _ ?side1 ?side2 A13.out).mono ?_); (case side1 => repeat (first | exact (Kd.C_below HR0.out (be_ HB)) | (with_reducible refine Kd.C_alloc ?_ _) | (with_reducible refine Kd.C_drewN ?_ _) | (with_reducible refine Kd.C_drew ?_))); (case side2 => exact HC0.out); rintro e w21 ⟨rfl, hb⟩; have n0_ := bs_ (be_ HB) hb; clear HB; have HB := n0_; clear n0_; (try clear hb); (try clear hb2); (try clear hk); (try clear hi)) | (go_at_call 27; (with_reducible refine (constableref01_Expr.calls k _ _ l1 false _ ?side1 ?side2 A15.out).mono ?_); (case side1 => repeat (first | exact (Kd.C_below HR1.out HB.out) | (with_reducible refine Kd.C_alloc ?_ _) | (with_reducible refine Kd.C_drewN ?_ _) | (with_reducible refine Kd.C_drew ?_))); (case side2 => exact HC1.out); rintro e w22 ⟨rfl, hb⟩; have n0_ := bs_ (be_ HB) hb; clear HB; have HB := n0_; clear n0_; (try clear hb); (try clear hb2); (try clear hk); (try clear hi)))
                go_meet
                case rel => exact ⟨_, (true), ra_, H', ⟨by first | omega | exact Nat.le_refl _⟩, ⟨by repeat (first | (with_reducible first | exact HB.out | apply below_alloc | apply pw_below_drewN | apply below_drew1) | exact HB.out)⟩⟩
            · replace c14 := Bool.eq_false_iff.mpr c14
              subst c14
              have H1 : (constablelaw07_ExprParts.j0 k l0 l1 a2 l3 true) = some r := by rw [if_neg (show ¬ (false = true) by decide)] at H; exact H
              clear H
              have H := H1
              clear H1
              have H' := Aside0.mk H
              clear H
              go_wp2_with (first | ((with_reducible refine gate_callee (f := 17) rfl ?_); refine goesL_ (some 19) rfl rfl Try.func17 (by kernel_rfl) rfl #[.slice A0 l0.length c0] rfl ga_ ?_; (with_reducible refine (constablelaw07_Heavy.calls k _ _ l0 false _ ?side1 ?side2 A6.out).mono ?_); (case side1 => repeat (first | exact (Kd.C_below HR0.out HB.out) | (with_reducible refine Kd.C_alloc ?_ _) | (with_reducible refine Kd.C_drewN ?_ _) | (with_reducible refine Kd.C_drew ?_))); (case side2 => exact HC0.out); rintro e w' ⟨rfl, ⟨nd, rfl⟩⟩; refine ⟨_, rfl, ?_⟩) | (go_at_call 17; (with_reducible refine (constablelaw07_Heavy.calls k _ _ l1 false _ ?side1 ?side2 A8.out).mono ?_); (case side1 => repeat (first | exact (Kd.C_below HR1.out (be_ HB)) | (with_reducible refine Kd.C_alloc ?_ _) | (with_reducible refine Kd.C_drewN ?_ _) | (with_reducible refine Kd.C_drew ?_))); (case side2 => exact HC1.out); rintro e w' ⟨rfl, ⟨nd, rfl⟩⟩) | (go_at_call 18; (with_reducible refine (constablelaw05_Heavy.calls k _ _ l3 false _ ?side1 ?side2 A10.out).mono ?_); (case side1 => repeat (first | exact (Kd.C_below HR3.out (be_ HB)) | (with_reducible refine Kd.C_alloc ?_ _) | (with_reducible refine Kd.C_drewN ?_ _) | (with_reducible refine Kd.C_drew ?_))); (case side2 => exact HC3.out); rintro e w' ⟨rfl, ⟨nd, rfl⟩⟩) | (go_at_call 27; (with_reducible refine (constableref01_Expr.calls k _ _ l0 false _ ?side1 ?side2 A13.out).mono ?_); (case side1 => repeat (first | exact (Kd.C_below HR0.out (be_ HB)) | (with_reducible refine Kd.C_alloc ?_ _) | (with_reducible refine Kd.C_drewN ?_ _) | (with_reducible refine Kd.C_drew ?_))); (case side2 => exact HC0.out); rintro e w23 ⟨rfl, hb⟩; have n0_ := bs_ (be_ HB) hb; clear HB; have HB := n0_; clear n0_; (try clear hb); (try clear hb2); (try clear hk); (try clear hi)))
              go_meet
              case rel => exact ⟨_, (true), ra_, H', ⟨by first | omega | exact Nat.le_refl _⟩, ⟨by repeat (first | (with_reducible first | exact HB.out | apply below_alloc | apply pw_below_drewN | apply below_drew1) | exact HB.out)⟩⟩
  case rest =>
    clear HC5
    try clear c1
    try clear p2
    try clear c3
    try clear p6
    try clear c7
    try clear c8
    try clear c9
    try clear c11
    try clear c12
    try clear c12b0
    try clear c14
    try clear c16
    try clear c17
    obtain ⟨kq, x50_4, rfl, HA, HJ4, HB⟩ := hcut
    cases kq with
    | zero => exact absurd HA.out (by simp [constablelaw07_ExprParts.j0])
    | succ kj4 =>
      have H := HA.out
      clear HA
      simp only [constablelaw07_ExprParts.j0] at H
      by_cases c24 : x50_4 = true
      · subst c24
        have H1 : (some true) = some r := by rw [if_pos rfl] at H; exact H
        clear H
        have H := H1
        clear H1
        obtain rfl := Option.some.inj H
        go_wp2
        go_ret
        exact ⟨by first | rfl | (simp [errW_none, errW_some] <;> rfl) | (simp [*, errW_none, errW_some] <;> rfl), by repeat (first | (with_reducible first | exact HB.out | apply below_alloc | apply pw_below_drewN | apply below_drew1) | exact HB.out)⟩
      · replace c24 := Bool.eq_false_iff.mpr c24
        subst c24
        have H1 : ((constablekeep_TwinOps.f l0).bind fun t423 => (if t423.length + l1.length < 2513169434916 then ((some (t423 ++ l1 : List (S52))).bind fun y426 => (if y426.length < 2513169434916 then ((some (y426 ++ [(⟨wrap64 (3 + (wrap64 (Int.tmod (IntKind.u64.wrap (a2)) 3))), (⟨#[]⟩ : ByteArray), (⟨0, 0, (⟨#[]⟩ : ByteArray)⟩ : S40)⟩ : S52)] : List (S52))).bind fun y429 => ((expr_Eval.f kj4 l0 l3).bind fun bt432 => ((expr_Eval.f kj4 l1 l3).bind fun bt437 => ((expr_Eval.f kj4 y429 l3).bind fun bt442 => ((expr_Check.f kj4 y429).bind fun t447 => (if t447 = 0 then ((expr_Part.f kj4 y429 (wrap64 ((y429.length : Int) - 1))).bind fun t448 => (if t448 = 0 then ((expr_Part.f kj4 y429 (wrap64 ((y429.length : Int) - 2))).bind fun t449 => (constablelaw07_ExprParts.j1 kj4 (wrap64 (3 + (wrap64 (Int.tmod (IntKind.u64.wrap (a2)) 3)))) bt432.2.2.2 bt437.2.2.2 bt442.2.2.2 (t449 != (l0.length : Int)) bt432.1 bt432.2.1 bt432.2.2.1 bt437.1 bt437.2.1 bt437.2.2.1 bt442.1 bt442.2.1 bt442.2.2.1)) else (constablelaw07_ExprParts.j1 kj4 (wrap64 (3 + (wrap64 (Int.tmod (IntKind.u64.wrap (a2)) 3)))) bt432.2.2.2 bt437.2.2.2 bt442.2.2.2 true bt432.1 bt432.2.1 bt432.2.2.1 bt437.1 bt437.2.1 bt437.2.2.1 bt442.1 bt442.2.1 bt442.2.2.1))) else (constablelaw07_ExprParts.j1 kj4 (wrap64 (3 + (wrap64 (Int.tmod (IntKind.u64.wrap (a2)) 3)))) bt432.2.2.2 bt437.2.2.2 bt442.2.2.2 true bt432.1 bt432.2.1 bt432.2.2.1 bt437.1 bt437.2.1 bt437.2.2.1 bt442.1 bt442.2.1 bt442.2.2.1))))))) else (none))) else (none))) = some r := by rw [if_neg (show ¬ (false = true) by decide)] at H; exact H
        clear H
        have H := H1
        clear H1
        replace H := Option.bind_eq_some_iff.mp H
        obtain ⟨t423, A250, H⟩ := H
        replace H : (if t423.length + l1.length < 2513169434916 then ((some (t423 ++ l1 : List (S52))).bind fun y426 => (if y426.length < 2513169434916 then ((some (y426 ++ [(⟨wrap64 (3 + (wrap64 (Int.tmod (IntKind.u64.wrap (a2)) 3))), (⟨#[]⟩ : ByteArray), (⟨0, 0, (⟨#[]⟩ : ByteArray)⟩ : S40)⟩ : S52)] : List (S52))).bind fun y429 => ((expr_Eval.f kj4 l0 l3).bind fun bt432 => ((expr_Eval.f kj4 l1 l3).bind fun bt437 => ((expr_Eval.f kj4 y429 l3).bind fun bt442 => ((expr_Check.f kj4 y429).bind fun t447 => (if t447 = 0 then ((expr_Part.f kj4 y429 (wrap64 ((y429.length : Int) - 1))).bind fun t448 => (if t448 = 0 then ((expr_Part.f kj4 y429 (wrap64 ((y429.length : Int) - 2))).bind fun t449 => (constablelaw07_ExprParts.j1 kj4 (wrap64 (3 + (wrap64 (Int.tmod (IntKind.u64.wrap (a2)) 3)))) bt432.2.2.2 bt437.2.2.2 bt442.2.2.2 (t449 != (l0.length : Int)) bt432.1 bt432.2.1 bt432.2.2.1 bt437.1 bt437.2.1 bt437.2.2.1 bt442.1 bt442.2.1 bt442.2.2.1)) else (constablelaw07_ExprParts.j1 kj4 (wrap64 (3 + (wrap64 (Int.tmod (IntKind.u64.wrap (a2)) 3)))) bt432.2.2.2 bt437.2.2.2 bt442.2.2.2 true bt432.1 bt432.2.1 bt432.2.2.1 bt437.1 bt437.2.1 bt437.2.2.1 bt442.1 bt442.2.1 bt442.2.2.1))) else (constablelaw07_ExprParts.j1 kj4 (wrap64 (3 + (wrap64 (Int.tmod (IntKind.u64.wrap (a2)) 3)))) bt432.2.2.2 bt437.2.2.2 bt442.2.2.2 true bt432.1 bt432.2.1 bt432.2.2.1 bt437.1 bt437.2.1 bt437.2.2.1 bt442.1 bt442.2.1 bt442.2.2.1))))))) else (none))) else (none)) = some r := H
        have A25 := Aside0.mk A250
        clear A250
        by_cases c26 : t423.length + l1.length < 2513169434916
        · rw [if_pos c26] at H
          have LMc26 := Aside0.mk c26
          clear c26
          obtain ⟨y426, hy426⟩ : ∃ y_ : List (S52), y_ = (t423 ++ l1) := ⟨_, rfl⟩
          replace H : (if y426.length < 2513169434916 then ((some (y426 ++ [(⟨wrap64 (3 + (wrap64 (Int.tmod (IntKind.u64.wrap (a2)) 3))), (⟨#[]⟩ : ByteArray), (⟨0, 0, (⟨#[]⟩ : ByteArray)⟩ : S40)⟩ : S52)] : List (S52))).bind fun y429 => ((expr_Eval.f kj4 l0 l3).bind fun bt432 => ((expr_Eval.f kj4 l1 l3).bind fun bt437 => ((expr_Eval.f kj4 y429 l3).bind fun bt442 => ((expr_Check.f kj4 y429).bind fun t447 => (if t447 = 0 then ((expr_Part.f kj4 y429 (wrap64 ((y429.length : Int) - 1))).bind fun t448 => (if t448 = 0 then ((expr_Part.f kj4 y429 (wrap64 ((y429.length : Int) - 2))).bind fun t449 => (constablelaw07_ExprParts.j1 kj4 (wrap64 (3 + (wrap64 (Int.tmod (IntKind.u64.wrap (a2)) 3)))) bt432.2.2.2 bt437.2.2.2 bt442.2.2.2 (t449 != (l0.length : Int)) bt432.1 bt432.2.1 bt432.2.2.1 bt437.1 bt437.2.1 bt437.2.2.1 bt442.1 bt442.2.1 bt442.2.2.1)) else (constablelaw07_ExprParts.j1 kj4 (wrap64 (3 + (wrap64 (Int.tmod (IntKind.u64.wrap (a2)) 3)))) bt432.2.2.2 bt437.2.2.2 bt442.2.2.2 true bt432.1 bt432.2.1 bt432.2.2.1 bt437.1 bt437.2.1 bt437.2.2.1 bt442.1 bt442.2.1 bt442.2.2.1))) else (constablelaw07_ExprParts.j1 kj4 (wrap64 (3 + (wrap64 (Int.tmod (IntKind.u64.wrap (a2)) 3)))) bt432.2.2.2 bt437.2.2.2 bt442.2.2.2 true bt432.1 bt432.2.1 bt432.2.2.1 bt437.1 bt437.2.1 bt437.2.2.1 bt442.1 bt442.2.1 bt442.2.2.1))))))) else (none)) = some r := by first | (rw [hy426]; with_reducible exact H) | (have H2_ := (Option.bind_some _ _).symm.trans H; rw [hy426]; with_reducible exact H2_) | (have H2_ := (Option.bind_some _ _).symm.trans H; with_reducible exact H2_) | with_reducible exact H | (rw [hy426]; exact H) | exact H
          have Ny426 := Aside0.mk hy426
          clear hy426
          by_cases c27 : y426.length < 2513169434916
          · rw [if_pos c27] at H
            have LMc27 := Aside0.mk c27
            clear c27
            obtain ⟨y429, hy429⟩ : ∃ y_ : List (S52), y_ = (y426 ++ [(⟨wrap64 (3 + (wrap64 (Int.tmod (IntKind.u64.wrap (a2)) 3))), (⟨#[]⟩ : ByteArray), (⟨0, 0, (⟨#[]⟩ : ByteArray)⟩ : S40)⟩ : S52)]) := ⟨_, rfl⟩
            replace H : ((expr_Eval.f kj4 l0 l3).bind fun bt432 => ((expr_Eval.f kj4 l1 l3).bind fun bt437 => ((expr_Eval.f kj4 y429 l3).bind fun bt442 => ((expr_Check.f kj4 y429).bind fun t447 => (if t447 = 0 then ((expr_Part.f kj4 y429 (wrap64 ((y429.length : Int) - 1))).bind fun t448 => (if t448 = 0 then ((expr_Part.f kj4 y429 (wrap64 ((y429.length : Int) - 2))).bind fun t449 => (constablelaw07_ExprParts.j1 kj4 (wrap64 (3 + (wrap64 (Int.tmod (IntKind.u64.wrap (a2)) 3)))) bt432.2.2.2 bt437.2.2.2 bt442.2.2.2 (t449 != (l0.length : Int)) bt432.1 bt432.2.1 bt432.2.2.1 bt437.1 bt437.2.1 bt437.2.2.1 bt442.1 bt442.2.1 bt442.2.2.1)) else (constablelaw07_ExprParts.j1 kj4 (wrap64 (3 + (wrap64 (Int.tmod (IntKind.u64.wrap (a2)) 3)))) bt432.2.2.2 bt437.2.2.2 bt442.2.2.2 true bt432.1 bt432.2.1 bt432.2.2.1 bt437.1 bt437.2.1 bt437.2.2.1 bt442.1 bt442.2.1 bt442.2.2.1))) else (constablelaw07_ExprParts.j1 kj4 (wrap64 (3 + (wrap64 (Int.tmod (IntKind.u64.wrap (a2)) 3)))) bt432.2.2.2 bt437.2.2.2 bt442.2.2.2 true bt432.1 bt432.2.1 bt432.2.2.1 bt437.1 bt437.2.1 bt437.2.2.1 bt442.1 bt442.2.1 bt442.2.2.1)))))) = some r := by first | (rw [hy429]; with_reducible exact H) | (have H2_ := (Option.bind_some _ _).symm.trans H; rw [hy429]; with_reducible exact H2_) | (have H2_ := (Option.bind_some _ _).symm.trans H; with_reducible exact H2_) | with_reducible exact H | (rw [hy429]; exact H) | exact H
            have Ny429 := Aside0.mk hy429
            clear hy429
            replace H := Option.bind_eq_some_iff.mp H
            obtain ⟨⟨t432, t433, t434, t435⟩, A280, H⟩ := H
            replace H : ((expr_Eval.f kj4 l1 l3).bind fun bt437 => ((expr_Eval.f kj4 y429 l3).bind fun bt442 => ((expr_Check.f kj4 y429).bind fun t447 => (if t447 = 0 then ((expr_Part.f kj4 y429 (wrap64 ((y429.length : Int) - 1))).bind fun t448 => (if t448 = 0 then ((expr_Part.f kj4 y429 (wrap64 ((y429.length : Int) - 2))).bind fun t449 => (constablelaw07_ExprParts.j1 kj4 (wrap64 (3 + (wrap64 (Int.tmod (IntKind.u64.wrap (a2)) 3)))) t435 bt437.2.2.2 bt442.2.2.2 (t449 != (l0.length : Int)) t432 t433 t434 bt437.1 bt437.2.1 bt437.2.2.1 bt442.1 bt442.2.1 bt442.2.2.1)) else (constablelaw07_ExprParts.j1 kj4 (wrap64 (3 + (wrap64 (Int.tmod (IntKind.u64.wrap (a2)) 3)))) t435 bt437.2.2.2 bt442.2.2.2 true t432 t433 t434 bt437.1 bt437.2.1 bt437.2.2.1 bt442.1 bt442.2.1 bt442.2.2.1))) else (constablelaw07_ExprParts.j1 kj4 (wrap64 (3 + (wrap64 (Int.tmod (IntKind.u64.wrap (a2)) 3)))) t435 bt437.2.2.2 bt442.2.2.2 true t432 t433 t434 bt437.1 bt437.2.1 bt437.2.2.1 bt442.1 bt442.2.1 bt442.2.2.1))))) = some r := H
            have A28 := Aside0.mk A280
            clear A280
            replace H := Option.bind_eq_some_iff.mp H
            obtain ⟨⟨t437, t438, t439, t440⟩, A290, H⟩ := H
            replace H : ((expr_Eval.f kj4 y429 l3).bind fun bt442 => ((expr_Check.f kj4 y429).bind fun t447 => (if t447 = 0 then ((expr_Part.f kj4 y429 (wrap64 ((y429.length : Int) - 1))).bind fun t448 => (if t448 = 0 then ((expr_Part.f kj4 y429 (wrap64 ((y429.length : Int) - 2))).bind fun t449 => (constablelaw07_ExprParts.j1 kj4 (wrap64 (3 + (wrap64 (Int.tmod (IntKind.u64.wrap (a2)) 3)))) t435 t440 bt442.2.2.2 (t449 != (l0.length : Int)) t432 t433 t434 t437 t438 t439 bt442.1 bt442.2.1 bt442.2.2.1)) else (constablelaw07_ExprParts.j1 kj4 (wrap64 (3 + (wrap64 (Int.tmod (IntKind.u64.wrap (a2)) 3)))) t435 t440 bt442.2.2.2 true t432 t433 t434 t437 t438 t439 bt442.1 bt442.2.1 bt442.2.2.1))) else (constablelaw07_ExprParts.j1 kj4 (wrap64 (3 + (wrap64 (Int.tmod (IntKind.u64.wrap (a2)) 3)))) t435 t440 bt442.2.2.2 true t432 t433 t434 t437 t438 t439 bt442.1 bt442.2.1 bt442.2.2.1)))) = some r := H
            have A29 := Aside0.mk A290
            clear A290
            replace H := Option.bind_eq_some_iff.mp H
            obtain ⟨⟨t442, t443, t444, t445⟩, A300, H⟩ := H
            replace H : ((expr_Check.f kj4 y429).bind fun t447 => (if t447 = 0 then ((expr_Part.f kj4 y429 (wrap64 ((y429.length : Int) - 1))).bind fun t448 => (if t448 = 0 then ((expr_Part.f kj4 y429 (wrap64 ((y429.length : Int) - 2))).bind fun t449 => (constablelaw07_ExprParts.j1 kj4 (wrap64 (3 + (wrap64 (Int.tmod (IntKind.u64.wrap (a2)) 3)))) t435 t440 t445 (t449 != (l0.length : Int)) t432 t433 t434 t437 t438 t439 t442 t443 t444)) else (constablelaw07_ExprParts.j1 kj4 (wrap64 (3 + (wrap64 (Int.tmod (IntKind.u64.wrap (a2)) 3)))) t435 t440 t445 true t432 t433 t434 t437 t438 t439 t442 t443 t444))) else (constablelaw07_ExprParts.j1 kj4 (wrap64 (3 + (wrap64 (Int.tmod (IntKind.u64.wrap (a2)) 3)))) t435 t440 t445 true t432 t433 t434 t437 t438 t439 t442 t443 t444))) = some r := H
            have A30 := Aside0.mk A300
            clear A300
            have HC31 := Aside0.mk H
            clear H
            go_upto_region 8 with (first | ((with_reducible refine gate_callee (f := 19) rfl ?_); refine goesL_ (some 57) rfl rfl Try.func19 (by kernel_rfl) rfl #[.slice A0 l0.length c0] rfl ga_ ?_; (with_reducible refine (constablekeep_TwinOps.calls _ _ l0 t423 _ ?side1 ?side2 A25.out).mono ?_); (case side1 => repeat (first | exact (Kd.C_below HR0.out HB.out) | (with_reducible refine Kd.C_alloc ?_ _) | (with_reducible refine Kd.C_drewN ?_ _) | (with_reducible refine Kd.C_drew ?_))); (case side2 => exact HC0.out); rintro e w32 ⟨v424, rfl, ho0, hb⟩; refine ⟨_, rfl, ?_⟩; have n0_ := Aside0.mk (Kd.R_lower ho0 (below_size (be_ HB))); have n1_ := bs_ (be_ HB) hb; clear HB; have HO425 := n0_; have HB := n1_; clear n0_ n1_; (try clear hb); (try clear hb2); (try clear hk); (try clear hi); (try clear ho0)) | ((with_reducible refine gate_builtin (b := .append) (xs := #[.tmp 57, .tmp 58]) rfl ?_); (try (refine gate_guard (by rfl) ?_; dsimp only)); at_builtin; refine Kd.R_append_rows k52 (w0 := w) w.heap.size rfl (.tmp 57) (.tmp 58) 33 52 (.agg #[(.int .i64 0), (.string ⟨#[]⟩), (.int .i64 0), (.int .i64 0), (.string ⟨#[]⟩)]) 56 rfl Try.underlying33 info52 rfl (by decide) (by omega) v424 t423 l1 _ _ _ (fun _ => True) (fun _ => False) rfl rfl ?aO ?aR (fun _ _ h => h) (fun _ h => h.elim) ?aF ?aB ?aS ?aL ?_; (case aR => repeat (first | exact (Kd.C_below HR1.out HB.out) | (with_reducible refine Kd.C_alloc ?_ _) | (with_reducible refine Kd.C_drewN ?_ _) | (with_reducible refine Kd.C_drew ?_))); (case aB => exact (be_ HB)); (case aF => exact (fun _ _ => trivial)); (case aO => exact (ku_ HO425.out)); (case aS => exact (below_size (be_ HB))); (case aL => have := LMc26.out; omega); intro v427 w33 ho hb hg hat; rw [← Ny426.out] at ho; have n0_ := Aside0.mk (hb); have n1_ := Aside0.mk (ho); clear HB; clear HO425; have HB := n0_; have HO428 := n1_; clear n0_ n1_; clear ho hb hg hat) | ((with_reducible refine gate_builtin (b := .append) (xs := #[.tmp 59, .tmp 62]) rfl ?_); (try (refine gate_guard (by rfl) ?_; dsimp only)); at_builtin; refine Kd.R_append k52 (w0 := w) w.heap.size rfl (.tmp 59) (.tmp 62) 33 52 (.agg #[(.int .i64 0), (.string ⟨#[]⟩), (.int .i64 0), (.int .i64 0), (.string ⟨#[]⟩)]) 56 rfl Try.underlying33 info52 rfl (by decide) (by omega) v427 y426 (⟨wrap64 (3 + (wrap64 (Int.tmod (IntKind.u64.wrap (a2)) 3))), (⟨#[]⟩ : ByteArray), (⟨0, 0, (⟨#[]⟩ : ByteArray)⟩ : S40)⟩ : S52) [.int .i64 (wrap64 (3 + (wrap64 (Int.tmod (IntKind.u64.wrap (a2)) 3)))), .string (⟨#[]⟩ : ByteArray), .int .i64 0, .int .i64 0, .string (⟨#[]⟩ : ByteArray)] (fun _ => True) (fun _ => False) rfl rfl ?aP (fun _ hk => hk.elim) ?aF ?aO ?aB ?aS ?aL ?_; (case aP => exact k52_mkM _ _ _ (⟨wrap64 (3 + (wrap64 (Int.tmod (IntKind.u64.wrap (a2)) 3))), (⟨#[]⟩ : ByteArray), (⟨0, 0, (⟨#[]⟩ : ByteArray)⟩ : S40)⟩ : S52)); (case aB => exact (be_ HB)); (case aF => exact (fun _ _ => trivial)); (case aO => exact (ku_ HO428.out)); (case aS => exact (below_size (be_ HB))); (case aL => have := LMc27.out; omega); intro v430 w34 ho hb hg hat; rw [← Ny429.out] at ho; have n0_ := Aside0.mk (hb); have n1_ := Aside0.mk (ho); clear HB; clear HO428; have HB := n0_; have HO431 := n1_; clear n0_ n1_; clear ho hb hg hat) | ((with_reducible refine gate_callee (f := 21) rfl ?_); refine goesL_ (some 67) rfl rfl Try.func21 (by kernel_rfl) rfl #[.slice A0 l0.length c0, .slice A3 l3.length c3] rfl ga_ ?_; (with_reducible refine (expr_Eval.calls kj4 _ _ l0 _ _ l3 t432 t433 t434 t435 _ ?side1 ?side2 ?side3 ?side4 A28.out).mono ?_); (case side1 => repeat (first | exact (Kd.C_below HR0.out HB.out) | (with_reducible refine Kd.C_alloc ?_ _) | (with_reducible refine Kd.C_drewN ?_ _) | (with_reducible refine Kd.C_drew ?_))); (case side2 => exact HC0.out); (case side3 => repeat (first | exact (Kd.C_below HR3.out HB.out) | (with_reducible refine Kd.C_alloc ?_ _) | (with_reducible refine Kd.C_drewN ?_ _) | (with_reducible refine Kd.C_drew ?_))); (case side4 => exact HC3.out); rintro e w35 ⟨rfl, hb⟩; refine ⟨_, rfl, ?_⟩; have n0_ := kb_ (ku_ HO431.out) hb; have n1_ := bs_ (be_ HB) hb; clear HO431; clear HB; have HO431 := n0_; have HB := n1_; clear n0_ n1_; (try clear hb); (try clear hb2); (try clear hk); (try clear hi)) | ((with_reducible refine gate_dst (N := 10) rfl ?_); (try (refine gate_guard (by rfl) ?_; dsimp only)); refine box_event ?hg (N := 10) ?hd (cs := #[.int .i64 0, .int .i64 0, .string (⟨#[]⟩ : ByteArray)]) (t := 40) ?hr ?_; (case hd => rfl); (case hg => rfl); (case hr => first | (go_simp; done) | (go_simp; rfl)); intro gb436 hg w36 hbox hb; have n0_ := kb_ (ku_ HO431.out) hb; have n1_ := bs_ (be_ HB) hb; have n2_ := Aside0.mk (hbox); have n3_ := gs_ hg (be_ HB); have n4_ := gs_ hg (be_ HB); clear HO431; clear HB; have HO431 := n0_; have HB := n1_; have BK436 := n2_; have GW436 := n3_; have GE436 := n4_; clear n0_ n1_ n2_ n3_ n4_; clear hb hbox hg; have hcz37_0 : w36.cell? ⟨gb436, 0, none⟩ = some (.int .i64 0) := (blk_cell BK436.out 0).trans rfl; have hcz37_1 : w36.cell? ⟨gb436, 1, none⟩ = some (.int .i64 0) := (blk_cell BK436.out 1).trans rfl; have hcz37_2 : w36.cell? ⟨gb436, 2, none⟩ = some (.string (⟨#[]⟩ : ByteArray)) := (blk_cell BK436.out 2).trans rfl; have hfz37_0 := blk_frozen BK436.out 0; have hfz37_1 := blk_frozen BK436.out 1; have hfz37_2 := blk_frozen BK436.out 2) | ((with_reducible refine gate_callee (f := 21) rfl ?_); refine goesL_ (some 73) rfl rfl Try.func21 (by kernel_rfl) rfl #[.slice A1 l1.length c1, .slice A3 l3.length c3] rfl ga_ ?_; (with_reducible refine (expr_Eval.calls kj4 _ _ l1 _ _ l3 t437 t438 t439 t440 _ ?side1 ?side2 ?side3 ?side4 A29.out).mono ?_); (case side1 => exact Kd.C_below HR1.out (be_ HB)); (case side2 => exact HC1.out); (case side3 => exact Kd.C_below HR3.out (be_ HB)); (case side4 => exact HC3.out); rintro e w38 ⟨rfl, hb⟩; refine ⟨_, rfl, ?_⟩; have n0_ := Aside0.mk (Kd.R_below (ku_ (Kd.R_mono (Kd.R_far (p := ⟨gb436, 2, none⟩) (Kd.R_far (p := ⟨gb436, 1, none⟩) (Kd.R_far (p := ⟨gb436, 0, none⟩) (Kd.R_types HO431.out BK436.out (by decide)) (fun _ hk => hk.2) (.int .i64 t432)) (fun _ hk => hk.2) (.int .i64 t433)) (fun _ hk => hk.2) (.string t434)) (fun _ h_ => h_.1))) hb); have n1_ := Aside0.mk (blk_below (o := .cells #[.int .i64 t432, .int .i64 t433, .string t434] 40 (0, 0)) (bp_ BK436) hb); have n2_ := bs_ (be_ HB) hb; clear HO431; clear BK436; clear HB; have HO431 := n0_; have BK436 := n1_; have HB := n2_; clear n0_ n1_ n2_; (try clear hb); (try clear hb2); (try clear hk); (try clear hi)) | ((with_reducible refine gate_dst (N := 12) rfl ?_); (try (refine gate_guard (by rfl) ?_; dsimp only)); refine box_event ?hg (N := 12) ?hd (cs := #[.int .i64 0, .int .i64 0, .string (⟨#[]⟩ : ByteArray)]) (t := 40) ?hr ?_; (case hd => rfl); (case hg => rfl); (case hr => first | (go_simp; done) | (go_simp; rfl)); intro gb441 hg w39 hbox hb; have n0_ := kb_ (ku_ HO431.out) hb; have n1_ := bb_ (bu_ BK436) hb; have n2_ := bs_ (be_ HB) hb; have n3_ := Aside0.mk (hbox); have n4_ := gs_ hg (be_ HB); have n5_ := gs_ hg (be_ HB); have n6_ := nl_ hg (bu_ BK436); have n7_ := ng_ hg (bu_ BK436); clear HO431; clear BK436; clear HB; have HO431 := n0_; have BK436 := n1_; have HB := n2_; have BK441 := n3_; have GW441 := n4_; have GE441 := n5_; have NB436_441 := n6_; have NB441_436 := n7_; clear n0_ n1_ n2_ n3_ n4_ n5_ n6_ n7_; clear hb hbox hg; have hnb40 := NB441_436.out; have hnc40 := NB436_441.out; have hcz41_0 : w39.cell? ⟨gb441, 0, none⟩ = some (.int .i64 0) := (blk_cell BK441.out 0).trans rfl; have hcz41_1 : w39.cell? ⟨gb441, 1, none⟩ = some (.int .i64 0) := (blk_cell BK441.out 1).trans rfl; have hcz41_2 : w39.cell? ⟨gb441, 2, none⟩ = some (.string (⟨#[]⟩ : ByteArray)) := (blk_cell BK441.out 2).trans rfl; have hfz41_0 := blk_frozen BK441.out 0; have hfz41_1 := blk_frozen BK441.out 1; have hfz41_2 := blk_frozen BK441.out 2; obtain ⟨Ao42, co42, eo42⟩ := Kd.R_slice HO431.out; subst eo42) | ((with_reducible refine gate_callee (f := 21) rfl ?_); refine goesL_ (some 79) rfl rfl Try.func21 (by kernel_rfl) rfl #[.slice Ao42 y429.length co42, .slice A3 l3.length c3] rfl ga_ ?_; (with_reducible refine (expr_Eval.calls kj4 _ _ y429 _ _ l3 t442 t443 t444 t445 _ ?side1 ?side2 ?side3 ?side4 A30.out).mono ?_); (case side1 => refine (Kd.R_reads' (e := 52) (base := w.heap.size) (ok := fun k_ => True) (n := y429.length) (c := co42) ?_).2.2; exact (ku_ (Kd.R_mono (Kd.R_far (p := ⟨gb441, 2, none⟩) (Kd.R_far (p := ⟨gb441, 1, none⟩) (Kd.R_far (p := ⟨gb441, 0, none⟩) (Kd.R_types HO431.out BK441.out (by decide)) (fun _ hk => hk.2) (.int .i64 t437)) (fun _ hk => hk.2) (.int .i64 t438)) (fun _ hk => hk.2) (.string t439)) (fun _ h_ => h_.1)))); (case side2 => exact (Kd.R_reads' HO431.out).2.1); (case side3 => exact Kd.C_below HR3.out (be_ HB)); (case side4 => exact HC3.out); rintro e w43 ⟨rfl, hb⟩; refine ⟨_, rfl, ?_⟩; have n0_ := Aside0.mk (Kd.R_below (ku_ (Kd.R_mono (Kd.R_far (p := ⟨gb441, 2, none⟩) (Kd.R_far (p := ⟨gb441, 1, none⟩) (Kd.R_far (p := ⟨gb441, 0, none⟩) (Kd.R_types HO431.out BK441.out (by decide)) (fun _ hk => hk.2) (.int .i64 t437)) (fun _ hk => hk.2) (.int .i64 t438)) (fun _ hk => hk.2) (.string t439)) (fun _ h_ => h_.1))) hb); have n1_ := bb_ (bu_ BK436) hb; have n2_ := Aside0.mk (blk_below (o := .cells #[.int .i64 t437, .int .i64 t438, .string t439] 40 (0, 0)) (bp_ BK441) hb); have n3_ := bs_ (be_ HB) hb; clear HO431; clear BK436; clear BK441; clear HB; have HO431 := n0_; have BK436 := n1_; have BK441 := n2_; have HB := n3_; clear n0_ n1_ n2_ n3_; (try clear hb); (try clear hb2); (try clear hk); (try clear hi)) | ((with_reducible refine gate_dst (N := 14) rfl ?_); (try (refine gate_guard (by rfl) ?_; dsimp only)); refine box_event ?hg (N := 14) ?hd (cs := #[.int .i64 0, .int .i64 0, .string (⟨#[]⟩ : ByteArray)]) (t := 40) ?hr ?_; (case hd => rfl); (case hg => rfl); (case hr => first | (go_simp; done) | (go_simp; rfl)); intro gb446 hg w44 hbox hb; have n0_ := kb_ (ku_ HO431.out) hb; have n1_ := bb_ (bu_ BK436) hb; have n2_ := bb_ (bu_ BK441) hb; have n3_ := bs_ (be_ HB) hb; have n4_ := Aside0.mk (hbox); have n5_ := gs_ hg (be_ HB); have n6_ := gs_ hg (be_ HB); have n7_ := nl_ hg (bu_ BK436); have n8_ := ng_ hg (bu_ BK436); have n9_ := nl_ hg (bu_ BK441); have n10_ := ng_ hg (bu_ BK441); clear HO431; clear BK436; clear BK441; clear HB; have HO431 := n0_; have BK436 := n1_; have BK441 := n2_; have HB := n3_; have BK446 := n4_; have GW446 := n5_; have GE446 := n6_; have NB436_446 := n7_; have NB446_436 := n8_; have NB441_446 := n9_; have NB446_441 := n10_; clear n0_ n1_ n2_ n3_ n4_ n5_ n6_ n7_ n8_ n9_ n10_; clear hb hbox hg; have hnb45 := NB446_436.out; have hnc45 := NB436_446.out; have hnb46 := NB446_441.out; have hnc46 := NB441_446.out; have hcz47_0 : w44.cell? ⟨gb446, 0, none⟩ = some (.int .i64 0) := (blk_cell BK446.out 0).trans rfl; have hcz47_1 : w44.cell? ⟨gb446, 1, none⟩ = some (.int .i64 0) := (blk_cell BK446.out 1).trans rfl; have hcz47_2 : w44.cell? ⟨gb446, 2, none⟩ = some (.string (⟨#[]⟩ : ByteArray)) := (blk_cell BK446.out 2).trans rfl; have hfz47_0 := blk_frozen BK446.out 0; have hfz47_1 := blk_frozen BK446.out 1; have hfz47_2 := blk_frozen BK446.out 2))
            (try simp only [Act.put, List.setIfInBounds_toArray, List.set_cons_zero, List.set_cons_succ])
            go_cut [102] (fun v102 wc => ∃ (kq : Nat) (x102_30 : Bool), v102 = .bool x102_30 ∧ Aside0 (constablelaw07_ExprParts.j1 kq (wrap64 (3 + (wrap64 (Int.tmod (IntKind.u64.wrap (a2)) 3)))) t435 t440 t445 x102_30 t432 t433 t434 t437 t438 t439 t442 t443 t444 = some r) ∧ Aside0 (kq ≤ kj4) ∧ Aside0 (wc.heap[gb436]? = some (.cells #[.int .i64 t432, .int .i64 t433, .string t434] 40 (0, 0))) ∧ Aside0 (wc.heap[gb441]? = some (.cells #[.int .i64 t437, .int .i64 t438, .string t439] 40 (0, 0))) ∧ Aside0 (wc.heap[gb446]? = some (.cells #[.int .i64 t442, .int .i64 t443, .string t444] 40 (0, 0))) ∧ Aside0 (Below w.heap.size w wc))
            case first =>
              have H := HC31.out
              clear HC31
              replace H := Option.bind_eq_some_iff.mp H
              obtain ⟨t447, A480, H⟩ := H
              replace H : (if t447 = 0 then ((expr_Part.f kj4 y429 (wrap64 ((y429.length : Int) - 1))).bind fun t448 => (if t448 = 0 then ((expr_Part.f kj4 y429 (wrap64 ((y429.length : Int) - 2))).bind fun t449 => (constablelaw07_ExprParts.j1 kj4 (wrap64 (3 + (wrap64 (Int.tmod (IntKind.u64.wrap (a2)) 3)))) t435 t440 t445 (t449 != (l0.length : Int)) t432 t433 t434 t437 t438 t439 t442 t443 t444)) else (constablelaw07_ExprParts.j1 kj4 (wrap64 (3 + (wrap64 (Int.tmod (IntKind.u64.wrap (a2)) 3)))) t435 t440 t445 true t432 t433 t434 t437 t438 t439 t442 t443 t444))) else (constablelaw07_ExprParts.j1 kj4 (wrap64 (3 + (wrap64 (Int.tmod (IntKind.u64.wrap (a2)) 3)))) t435 t440 t445 true t432 t433 t434 t437 t438 t439 t442 t443 t444)) = some r := H
              have A48 := Aside0.mk A480
              clear A480
              by_cases c49 : t447 = 0
              · rw [if_pos c49] at H
                obtain ⟨c49b0, c49b1⟩ := eqB_ c49
                clear c49
                (first | rw [c49b0] | (simp only [i64_w, i32_w]; rw [c49b0]) | skip)
                replace H := Option.bind_eq_some_iff.mp H
                obtain ⟨t448, A500, H⟩ := H
                replace H : (if t448 = 0 then ((expr_Part.f kj4 y429 (wrap64 ((y429.length : Int) - 2))).bind fun t449 => (constablelaw07_ExprParts.j1 kj4 (wrap64 (3 + (wrap64 (Int.tmod (IntKind.u64.wrap (a2)) 3)))) t435 t440 t445 (t449 != (l0.length : Int)) t432 t433 t434 t437 t438 t439 t442 t443 t444)) else (constablelaw07_ExprParts.j1 kj4 (wrap64 (3 + (wrap64 (Int.tmod (IntKind.u64.wrap (a2)) 3)))) t435 t440 t445 true t432 t433 t434 t437 t438 t439 t442 t443 t444)) = some r := H
                have A50 := Aside0.mk A500
                clear A500
                by_cases c51 : t448 = 0
                · rw [if_pos c51] at H
                  obtain ⟨c51b0, c51b1⟩ := eqB_ c51
                  clear c51
                  replace H := Option.bind_eq_some_iff.mp H
                  obtain ⟨t449, A520, H⟩ := H
                  replace H : (constablelaw07_ExprParts.j1 kj4 (wrap64 (3 + (wrap64 (Int.tmod (IntKind.u64.wrap (a2)) 3)))) t435 t440 t445 (t449 != (l0.length : Int)) t432 t433 t434 t437 t438 t439 t442 t443 t444) = some r := H
                  have A52 := Aside0.mk A520
                  clear A520
                  have H' := Aside0.mk H
                  clear H
                  go_wp2_with (first | ((with_reducible refine gate_callee (f := 28) rfl ?_); refine goesL_ (some 83) rfl rfl Try.func28 (by kernel_rfl) rfl #[.slice Ao42 y429.length co42] rfl ga_ ?_; (with_reducible refine (expr_Check.calls kj4 _ _ y429 t447 _ ?side1 ?side2 A48.out).mono ?_); (case side1 => refine (Kd.R_reads' (e := 52) (base := w.heap.size) (ok := fun k_ => True) (n := y429.length) (c := co42) ?_).2.2; exact (ku_ (Kd.R_mono (Kd.R_far (p := ⟨gb446, 2, none⟩) (Kd.R_far (p := ⟨gb446, 1, none⟩) (Kd.R_far (p := ⟨gb446, 0, none⟩) (Kd.R_types HO431.out BK446.out (by decide)) (fun _ hk => hk.2) (.int .i64 t442)) (fun _ hk => hk.2) (.int .i64 t443)) (fun _ hk => hk.2) (.string t444)) (fun _ h_ => h_.1)))); (case side2 => exact (Kd.R_reads' HO431.out).2.1); rintro e w53 ⟨rfl, hb⟩; refine ⟨_, rfl, ?_⟩; have n0_ := Aside0.mk (Kd.R_below (ku_ (Kd.R_mono (Kd.R_far (p := ⟨gb446, 2, none⟩) (Kd.R_far (p := ⟨gb446, 1, none⟩) (Kd.R_far (p := ⟨gb446, 0, none⟩) (Kd.R_types HO431.out BK446.out (by decide)) (fun _ hk => hk.2) (.int .i64 t442)) (fun _ hk => hk.2) (.int .i64 t443)) (fun _ hk => hk.2) (.string t444)) (fun _ h_ => h_.1))) hb); have n1_ := bb_ (bu_ BK436) hb; have n2_ := bb_ (bu_ BK441) hb; have n3_ := Aside0.mk (blk_below (o := .cells #[.int .i64 t442, .int .i64 t443, .string t444] 40 (0, 0)) (bp_ BK446) hb); have n4_ := bs_ (be_ HB) hb; clear HO431; clear BK436; clear BK441; clear BK446; clear HB; have HO431 := n0_; have BK436 := n1_; have BK441 := n2_; have BK446 := n3_; have HB := n4_; clear n0_ n1_ n2_ n3_ n4_; (try clear hb); (try clear hb2); (try clear hk); (try clear hi)) | (go_at_call 30; (with_reducible refine (expr_Part.calls kj4 _ _ y429 (wrap64 ((y429.length : Int) - 1)) t448 _ ?side1 ?side2 A50.out).mono ?_); (case side1 => repeat (first | exact (Kd.R_reads' HO431.out).2.2 | (with_reducible refine Kd.C_alloc ?_ _) | (with_reducible refine Kd.C_drewN ?_ _) | (with_reducible refine Kd.C_drew ?_))); (case side2 => exact (Kd.R_reads' HO431.out).2.1); rintro e w54 ⟨rfl, hb⟩; have n0_ := kb_ (ku_ HO431.out) hb; have n1_ := bb_ (bu_ BK436) hb; have n2_ := bb_ (bu_ BK441) hb; have n3_ := bb_ (bu_ BK446) hb; have n4_ := bs_ (be_ HB) hb; clear HO431; clear BK436; clear BK441; clear BK446; clear HB; have HO431 := n0_; have BK436 := n1_; have BK441 := n2_; have BK446 := n3_; have HB := n4_; clear n0_ n1_ n2_ n3_ n4_; (try clear hb); (try clear hb2); (try clear hk); (try clear hi)) | (go_at_call 30; (with_reducible refine (expr_Part.calls kj4 _ _ y429 (wrap64 ((y429.length : Int) - 2)) t449 _ ?side1 ?side2 A52.out).mono ?_); (case side1 => repeat (first | exact (Kd.R_reads' HO431.out).2.2 | (with_reducible refine Kd.C_alloc ?_ _) | (with_reducible refine Kd.C_drewN ?_ _) | (with_reducible refine Kd.C_drew ?_))); (case side2 => exact (Kd.R_reads' HO431.out).2.1); rintro e w55 ⟨rfl, hb⟩; have n0_ := kb_ (ku_ HO431.out) hb; have n1_ := bb_ (bu_ BK436) hb; have n2_ := bb_ (bu_ BK441) hb; have n3_ := bb_ (bu_ BK446) hb; have n4_ := bs_ (be_ HB) hb; clear HO431; clear BK436; clear BK441; clear BK446; clear HB; have HO431 := n0_; have BK436 := n1_; have BK441 := n2_; have BK446 := n3_; have HB := n4_; clear n0_ n1_ n2_ n3_ n4_; (try clear hb); (try clear hb2); (try clear hk); (try clear hi)))
                  go_meet
                  case rel => exact ⟨_, ((t449 != (l0.length : Int))), ra_, H', ⟨by have := HJ4.out; first | omega | exact Nat.le_refl _⟩, ⟨by (with_reducible repeat (first | refine blk_drewN ?_ _ | refine blk_drew ?_ | refine blk_alloc ?_ _)); exact BK436.out⟩, ⟨by (with_reducible repeat (first | refine blk_drewN ?_ _ | refine blk_drew ?_ | refine blk_alloc ?_ _)); exact BK441.out⟩, ⟨by (with_reducible repeat (first | refine blk_drewN ?_ _ | refine blk_drew ?_ | refine blk_alloc ?_ _)); exact BK446.out⟩, ⟨by repeat (first | (with_reducible first | exact HB.out | apply below_alloc | apply pw_below_drewN | apply below_drew1 | refine below_set ?_ GE436.out | refine below_set ?_ GE441.out | refine below_set ?_ GE446.out) | exact HB.out)⟩⟩
                · rw [if_neg c51] at H
                  obtain ⟨c51b0, c51b1⟩ := neB_ c51
                  have H' := Aside0.mk H
                  clear H
                  go_wp2_with (first | ((with_reducible refine gate_callee (f := 28) rfl ?_); refine goesL_ (some 83) rfl rfl Try.func28 (by kernel_rfl) rfl #[.slice Ao42 y429.length co42] rfl ga_ ?_; (with_reducible refine (expr_Check.calls kj4 _ _ y429 t447 _ ?side1 ?side2 A48.out).mono ?_); (case side1 => refine (Kd.R_reads' (e := 52) (base := w.heap.size) (ok := fun k_ => True) (n := y429.length) (c := co42) ?_).2.2; exact (ku_ (Kd.R_mono (Kd.R_far (p := ⟨gb446, 2, none⟩) (Kd.R_far (p := ⟨gb446, 1, none⟩) (Kd.R_far (p := ⟨gb446, 0, none⟩) (Kd.R_types HO431.out BK446.out (by decide)) (fun _ hk => hk.2) (.int .i64 t442)) (fun _ hk => hk.2) (.int .i64 t443)) (fun _ hk => hk.2) (.string t444)) (fun _ h_ => h_.1)))); (case side2 => exact (Kd.R_reads' HO431.out).2.1); rintro e w56 ⟨rfl, hb⟩; refine ⟨_, rfl, ?_⟩; have n0_ := Aside0.mk (Kd.R_below (ku_ (Kd.R_mono (Kd.R_far (p := ⟨gb446, 2, none⟩) (Kd.R_far (p := ⟨gb446, 1, none⟩) (Kd.R_far (p := ⟨gb446, 0, none⟩) (Kd.R_types HO431.out BK446.out (by decide)) (fun _ hk => hk.2) (.int .i64 t442)) (fun _ hk => hk.2) (.int .i64 t443)) (fun _ hk => hk.2) (.string t444)) (fun _ h_ => h_.1))) hb); have n1_ := bb_ (bu_ BK436) hb; have n2_ := bb_ (bu_ BK441) hb; have n3_ := Aside0.mk (blk_below (o := .cells #[.int .i64 t442, .int .i64 t443, .string t444] 40 (0, 0)) (bp_ BK446) hb); have n4_ := bs_ (be_ HB) hb; clear HO431; clear BK436; clear BK441; clear BK446; clear HB; have HO431 := n0_; have BK436 := n1_; have BK441 := n2_; have BK446 := n3_; have HB := n4_; clear n0_ n1_ n2_ n3_ n4_; (try clear hb); (try clear hb2); (try clear hk); (try clear hi)) | (go_at_call 30; (with_reducible refine (expr_Part.calls kj4 _ _ y429 (wrap64 ((y429.length : Int) - 1)) t448 _ ?side1 ?side2 A50.out).mono ?_); (case side1 => repeat (first | exact (Kd.R_reads' HO431.out).2.2 | (with_reducible refine Kd.C_alloc ?_ _) | (with_reducible refine Kd.C_drewN ?_ _) | (with_reducible refine Kd.C_drew ?_))); (case side2 => exact (Kd.R_reads' HO431.out).2.1); rintro e w57 ⟨rfl, hb⟩; have n0_ := kb_ (ku_ HO431.out) hb; have n1_ := bb_ (bu_ BK436) hb; have n2_ := bb_ (bu_ BK441) hb; have n3_ := bb_ (bu_ BK446) hb; have n4_ := bs_ (be_ HB) hb; clear HO431; clear BK436; clear BK441; clear BK446; clear HB; have HO431 := n0_; have BK436 := n1_; have BK441 := n2_; have BK446 := n3_; have HB := n4_; clear n0_ n1_ n2_ n3_ n4_; (try clear hb); (try clear hb2); (try clear hk); (try clear hi)))
                  go_meet
                  case rel => exact ⟨_, (true), ra_, H', ⟨by have := HJ4.out; first | omega | exact Nat.le_refl _⟩, ⟨by (with_reducible repeat (first | refine blk_drewN ?_ _ | refine blk_drew ?_ | refine blk_alloc ?_ _)); exact BK436.out⟩, ⟨by (with_reducible repeat (first | refine blk_drewN ?_ _ | refine blk_drew ?_ | refine blk_alloc ?_ _)); exact BK441.out⟩, ⟨by (with_reducible repeat (first | refine blk_drewN ?_ _ | refine blk_drew ?_ | refine blk_alloc ?_ _)); exact BK446.out⟩, ⟨by repeat (first | (with_reducible first | exact HB.out | apply below_alloc | apply pw_below_drewN | apply below_drew1 | refine below_set ?_ GE436.out | refine below_set ?_ GE441.out | refine below_set ?_ GE446.out) | exact HB.out)⟩⟩
              · rw [if_neg c49] at H
                obtain ⟨c49b0, c49b1⟩ := neB_ c49
                (first | rw [c49b0] | (simp only [i64_w, i32_w]; rw [c49b0]) | skip)
                have H' := Aside0.mk H
                clear H
                go_wp2_with (first | ((with_reducible refine gate_callee (f := 28) rfl ?_); refine goesL_ (some 83) rfl rfl Try.func28 (by kernel_rfl) rfl #[.slice Ao42 y429.length co42] rfl ga_ ?_; (with_reducible refine (expr_Check.calls kj4 _ _ y429 t447 _ ?side1 ?side2 A48.out).mono ?_); (case side1 => refine (Kd.R_reads' (e := 52) (base := w.heap.size) (ok := fun k_ => True) (n := y429.length) (c := co42) ?_).2.2; exact (ku_ (Kd.R_mono (Kd.R_far (p := ⟨gb446, 2, none⟩) (Kd.R_far (p := ⟨gb446, 1, none⟩) (Kd.R_far (p := ⟨gb446, 0, none⟩) (Kd.R_types HO431.out BK446.out (by decide)) (fun _ hk => hk.2) (.int .i64 t442)) (fun _ hk => hk.2) (.int .i64 t443)) (fun _ hk => hk.2) (.string t444)) (fun _ h_ => h_.1)))); (case side2 => exact (Kd.R_reads' HO431.out).2.1); rintro e w58 ⟨rfl, hb⟩; refine ⟨_, rfl, ?_⟩; have n0_ := Aside0.mk (Kd.R_below (ku_ (Kd.R_mono (Kd.R_far (p := ⟨gb446, 2, none⟩) (Kd.R_far (p := ⟨gb446, 1, none⟩) (Kd.R_far (p := ⟨gb446, 0, none⟩) (Kd.R_types HO431.out BK446.out (by decide)) (fun _ hk => hk.2) (.int .i64 t442)) (fun _ hk => hk.2) (.int .i64 t443)) (fun _ hk => hk.2) (.string t444)) (fun _ h_ => h_.1))) hb); have n1_ := bb_ (bu_ BK436) hb; have n2_ := bb_ (bu_ BK441) hb; have n3_ := Aside0.mk (blk_below (o := .cells #[.int .i64 t442, .int .i64 t443, .string t444] 40 (0, 0)) (bp_ BK446) hb); have n4_ := bs_ (be_ HB) hb; clear HO431; clear BK436; clear BK441; clear BK446; clear HB; have HO431 := n0_; have BK436 := n1_; have BK441 := n2_; have BK446 := n3_; have HB := n4_; clear n0_ n1_ n2_ n3_ n4_; (try clear hb); (try clear hb2); (try clear hk); (try clear hi)))
                go_meet
                case rel => exact ⟨_, (true), ra_, H', ⟨by have := HJ4.out; first | omega | exact Nat.le_refl _⟩, ⟨by (with_reducible repeat (first | refine blk_drewN ?_ _ | refine blk_drew ?_ | refine blk_alloc ?_ _)); exact BK436.out⟩, ⟨by (with_reducible repeat (first | refine blk_drewN ?_ _ | refine blk_drew ?_ | refine blk_alloc ?_ _)); exact BK441.out⟩, ⟨by (with_reducible repeat (first | refine blk_drewN ?_ _ | refine blk_drew ?_ | refine blk_alloc ?_ _)); exact BK446.out⟩, ⟨by repeat (first | (with_reducible first | exact HB.out | apply below_alloc | apply pw_below_drewN | apply below_drew1 | refine below_set ?_ GE436.out | refine below_set ?_ GE441.out | refine below_set ?_ GE446.out) | exact HB.out)⟩⟩
            case rest =>
              clear HC31
              try clear c1
              try clear c2
              try clear p2
              try clear c3
              try clear c4
              try clear c5
              try clear p6
              try clear c7
              try clear c8
              try clear c9
              try clear c11
              try clear c12
              try clear c12b0
              try clear c14
              try clear c16
              try clear c17
              try clear c19
              try clear c21
              try clear c24
              try clear c26
              try clear c27
              try clear c28
              try clear c40
              try clear c45
              try clear c46
              try clear c49
              try clear c49b0
              try clear c49b1
              try clear c51
              try clear c51b0
              try clear c51b1
              try clear hcz37_0
              try clear hcz37_1
              try clear hcz37_2
              try clear hcz41_0
              try clear hcz41_1
              try clear hcz41_2
              try clear hcz47_0
              try clear hcz47_1
              try clear hcz47_2
              try clear hfz37_0
              try clear hfz37_1
              try clear hfz37_2
              try clear hfz41_0
              try clear hfz41_1
              try clear hfz41_2
              try clear hfz47_0
              try clear hfz47_1
              try clear hfz47_2
              try clear p2
              try clear p6
              obtain ⟨kq, x102_30, rfl, HA, HJ30, BK436, BK441, BK446, HB⟩ := hcut
              cases kq with
              | zero => exact absurd HA.out (by simp [constablelaw07_ExprParts.j1])
              | succ kj30 =>
                have H := HA.out
                clear HA
                simp only [constablelaw07_ExprParts.j1] at H
                by_cases c59 : x102_30 = true
                · subst c59
                  have H1 : (some false) = some r := by rw [if_pos rfl] at H; exact H
                  clear H
                  have H := H1
                  clear H1
                  exact absurd ((Option.some.inj H).trans HR_.out) (by decide)
                · replace c59 := Bool.eq_false_iff.mpr c59
                  subst c59
                  have H1 : (if t435 = 0 then (if t440 = 0 then (if t432 = 1 then (constablelaw07_ExprParts.j2 kj30 (wrap64 (3 + (wrap64 (Int.tmod (IntKind.u64.wrap (a2)) 3)))) t445 (t437 != 1) t432 t433 t434 t437 t438 t439 t442 t443 t444) else (constablelaw07_ExprParts.j2 kj30 (wrap64 (3 + (wrap64 (Int.tmod (IntKind.u64.wrap (a2)) 3)))) t445 true t432 t433 t434 t437 t438 t439 t442 t443 t444)) else (if t445 = t440 then ((constablelaw07_wakes.f kj30).bind fun t455 => (some t455)) else (some false))) else (if t445 = t435 then ((constablelaw07_wakes.f kj30).bind fun t456 => (some t456)) else (some false))) = some r := by rw [if_neg (show ¬ (false = true) by decide)] at H; exact H
                  clear H
                  have H := H1
                  clear H1
                  by_cases c60 : t435 = 0
                  · rw [if_pos c60] at H
                    obtain ⟨c60b0, c60b1⟩ := eqB_ c60
                    clear c60
                    by_cases c61 : t440 = 0
                    · rw [if_pos c61] at H
                      obtain ⟨c61b0, c61b1⟩ := eqB_ c61
                      clear c61
                      have HC62 := Aside0.mk H
                      clear H
                      go_upto_region 14 with (fail)
                      go_cut [121] (fun v121 wc => ∃ (kq : Nat) (x121_61 : Bool), v121 = .bool x121_61 ∧ Aside0 (constablelaw07_ExprParts.j2 kq (wrap64 (3 + (wrap64 (Int.tmod (IntKind.u64.wrap (a2)) 3)))) t445 x121_61 t432 t433 t434 t437 t438 t439 t442 t443 t444 = some r) ∧ Aside0 (kq ≤ kj30) ∧ Aside0 (wc.heap[gb436]? = some (.cells #[.int .i64 t432, .int .i64 t433, .string t434] 40 (0, 0))) ∧ Aside0 (wc.heap[gb441]? = some (.cells #[.int .i64 t437, .int .i64 t438, .string t439] 40 (0, 0))) ∧ Aside0 (wc.heap[gb446]? = some (.cells #[.int .i64 t442, .int .i64 t443, .string t444] 40 (0, 0))) ∧ Aside0 (Below w.heap.size w wc))
                      case first =>
                        have H := HC62.out
                        clear HC62
                        by_cases c63 : t432 = 1
                        · rw [if_pos c63] at H
                          obtain ⟨c63b0, c63b1⟩ := eqB_ c63
                          clear c63
                          (first | rw [c63b0] | (simp only [i64_w, i32_w]; rw [c63b0]) | skip)
                          have H' := Aside0.mk H
                          clear H
                          have hnb64 := NB436_441.out
                          have hnc64 := NB441_436.out
                          have hnb65 := NB436_446.out
                          have hnc65 := NB446_436.out
                          have hcz66_0 : wc.cell? ⟨gb436, 0, none⟩ = some (.int .i64 t432) := (blk_cell BK436.out 0).trans rfl
                          have hcz66_1 : wc.cell? ⟨gb436, 1, none⟩ = some (.int .i64 t433) := (blk_cell BK436.out 1).trans rfl
                          have hcz66_2 : wc.cell? ⟨gb436, 2, none⟩ = some (.string t434) := (blk_cell BK436.out 2).trans rfl
                          have hfz66_0 := blk_frozen BK436.out 0
                          have hfz66_1 := blk_frozen BK436.out 1
                          have hfz66_2 := blk_frozen BK436.out 2
                          have hnb67 := NB441_446.out
                          have hnc67 := NB446_441.out
                          have hcz68_0 : wc.cell? ⟨gb441, 0, none⟩ = some (.int .i64 t437) := (blk_cell BK441.out 0).trans rfl
                          have hcz68_1 : wc.cell? ⟨gb441, 1, none⟩ = some (.int .i64 t438) := (blk_cell BK441.out 1).trans rfl
                          have hcz68_2 : wc.cell? ⟨gb441, 2, none⟩ = some (.string t439) := (blk_cell BK441.out 2).trans rfl
                          have hfz68_0 := blk_frozen BK441.out 0
                          have hfz68_1 := blk_frozen BK441.out 1
                          have hfz68_2 := blk_frozen BK441.out 2
                          go_wp2
                          go_meet
                          case rel => exact ⟨_, ((t437 != 1)), ra_, H', ⟨by have := HJ4.out; have := HJ30.out; first | omega | exact Nat.le_refl _⟩, ⟨by (with_reducible repeat (first | refine blk_drewN ?_ _ | refine blk_drew ?_ | refine blk_alloc ?_ _)); exact BK436.out⟩, ⟨by (with_reducible repeat (first | refine blk_drewN ?_ _ | refine blk_drew ?_ | refine blk_alloc ?_ _)); exact BK441.out⟩, ⟨by (with_reducible repeat (first | refine blk_drewN ?_ _ | refine blk_drew ?_ | refine blk_alloc ?_ _)); exact BK446.out⟩, ⟨by repeat (first | (with_reducible first | exact HB.out | apply below_alloc | apply pw_below_drewN | apply below_drew1 | refine below_set ?_ GE436.out | refine below_set ?_ GE441.out | refine below_set ?_ GE446.out) | exact HB.out)⟩⟩
                        · rw [if_neg c63] at H
                          obtain ⟨c63b0, c63b1⟩ := neB_ c63
                          (first | rw [c63b0] | (simp only [i64_w, i32_w]; rw [c63b0]) | skip)
                          have H' := Aside0.mk H
                          clear H
                          have hnb69 := NB436_441.out
                          have hnc69 := NB441_436.out
                          have hnb70 := NB436_446.out
                          have hnc70 := NB446_436.out
                          have hcz71_0 : wc.cell? ⟨gb436, 0, none⟩ = some (.int .i64 t432) := (blk_cell BK436.out 0).trans rfl
                          have hcz71_1 : wc.cell? ⟨gb436, 1, none⟩ = some (.int .i64 t433) := (blk_cell BK436.out 1).trans rfl
                          have hcz71_2 : wc.cell? ⟨gb436, 2, none⟩ = some (.string t434) := (blk_cell BK436.out 2).trans rfl
                          have hfz71_0 := blk_frozen BK436.out 0
                          have hfz71_1 := blk_frozen BK436.out 1
                          have hfz71_2 := blk_frozen BK436.out 2
                          go_wp2
                          go_meet
                          case rel => exact ⟨_, (true), ra_, H', ⟨by have := HJ4.out; have := HJ30.out; first | omega | exact Nat.le_refl _⟩, ⟨by (with_reducible repeat (first | refine blk_drewN ?_ _ | refine blk_drew ?_ | refine blk_alloc ?_ _)); exact BK436.out⟩, ⟨by (with_reducible repeat (first | refine blk_drewN ?_ _ | refine blk_drew ?_ | refine blk_alloc ?_ _)); exact BK441.out⟩, ⟨by (with_reducible repeat (first | refine blk_drewN ?_ _ | refine blk_drew ?_ | refine blk_alloc ?_ _)); exact BK446.out⟩, ⟨by repeat (first | (with_reducible first | exact HB.out | apply below_alloc | apply pw_below_drewN | apply below_drew1 | refine below_set ?_ GE436.out | refine below_set ?_ GE441.out | refine below_set ?_ GE446.out) | exact HB.out)⟩⟩
                      case rest =>
                        clear HC62
                        try clear c1
                        try clear c2
                        try clear p2
                        try clear c3
                        try clear c4
                        try clear c5
                        try clear c6
                        try clear p6
                        try clear c7
                        try clear c8
                        try clear c9
                        try clear c11
                        try clear c12
                        try clear c12b0
                        try clear c14
                        try clear c16
                        try clear c17
                        try clear c19
                        try clear c21
                        try clear c24
                        try clear c26
                        try clear c27
                        try clear c28
                        try clear c40
                        try clear c45
                        try clear c46
                        try clear c49
                        try clear c49b0
                        try clear c49b1
                        try clear c51
                        try clear c51b0
                        try clear c51b1
                        try clear c59
                        try clear c60
                        try clear c60b0
                        try clear c60b1
                        try clear c61
                        try clear c61b0
                        try clear c61b1
                        try clear c63
                        try clear c63b0
                        try clear c63b1
                        try clear c64
                        try clear p64
                        try clear c65
                        try clear c67
                        try clear c69
                        try clear c70
                        try clear hcz37_0
                        try clear hcz37_1
                        try clear hcz37_2
                        try clear hcz41_0
                        try clear hcz41_1
                        try clear hcz41_2
                        try clear hcz47_0
                        try clear hcz47_1
                        try clear hcz47_2
                        try clear hcz66_0
                        try clear hcz66_1
                        try clear hcz66_2
                        try clear hcz68_0
                        try clear hcz68_1
                        try clear hcz68_2
                        try clear hcz71_0
                        try clear hcz71_1
                        try clear hcz71_2
                        try clear hfz37_0
                        try clear hfz37_1
                        try clear hfz37_2
                        try clear hfz41_0
                        try clear hfz41_1
                        try clear hfz41_2
                        try clear hfz47_0
                        try clear hfz47_1
                        try clear hfz47_2
                        try clear hfz66_0
                        try clear hfz66_1
                        try clear hfz66_2
                        try clear hfz68_0
                        try clear hfz68_1
                        try clear hfz68_2
                        try clear hfz71_0
                        try clear hfz71_1
                        try clear hfz71_2
                        try clear p2
                        try clear p6
                        obtain ⟨kq, x121_61, rfl, HA, HJ61, BK436, BK441, BK446, HB⟩ := hcut
                        cases kq with
                        | zero => exact absurd HA.out (by simp [constablelaw07_ExprParts.j2])
                        | succ kj61 =>
                          have H := HA.out
                          clear HA
                          simp only [constablelaw07_ExprParts.j2] at H
                          by_cases c72 : x121_61 = true
                          · subst c72
                            have H1 : (if t445 = 3 then ((constablelaw07_wakes.f kj61).bind fun t450 => (some t450)) else (some false)) = some r := by rw [if_pos rfl] at H; exact H
                            clear H
                            have H := H1
                            clear H1
                            by_cases c73 : t445 = 3
                            · rw [if_pos c73] at H
                              obtain ⟨c73b0, c73b1⟩ := eqB_ c73
                              clear c73
                              replace H := Option.bind_eq_some_iff.mp H
                              obtain ⟨t450, A740, H⟩ := H
                              replace H : (some t450) = some r := H
                              have A74 := Aside0.mk A740
                              clear A740
                              obtain rfl := Option.some.inj H
                              go_wp2_with (first | (go_at_call 32; (with_reducible refine (constablelaw07_wakes.calls kj61  t450 _ A74.out HR_.out).mono ?_); rintro e w75 ⟨rfl, hb⟩; have n0_ := bb_ (bu_ BK436) hb; have n1_ := bb_ (bu_ BK441) hb; have n2_ := bb_ (bu_ BK446) hb; have n3_ := bs_ (be_ HB) hb; clear BK436; clear BK441; clear BK446; clear HB; have BK436 := n0_; have BK441 := n1_; have BK446 := n2_; have HB := n3_; clear n0_ n1_ n2_ n3_; (try clear hb); (try clear hb2); (try clear hk); (try clear hi)))
                              go_ret
                              exact ⟨by first | rfl | (simp [errW_none, errW_some] <;> rfl) | (simp [*, errW_none, errW_some] <;> rfl), by repeat (first | (with_reducible first | exact HB.out | apply below_alloc | apply pw_below_drewN | apply below_drew1 | refine below_set ?_ GE436.out | refine below_set ?_ GE441.out | refine below_set ?_ GE446.out) | exact HB.out)⟩
                            · rw [if_neg c73] at H
                              obtain ⟨c73b0, c73b1⟩ := neB_ c73
                              exact absurd ((Option.some.inj H).trans HR_.out) (by decide)
                          · replace c72 := Bool.eq_false_iff.mpr c72
                            subst c72
                            have H1 : ((num_Do.f kj61 (wrap64 (3 + (wrap64 (Int.tmod (IntKind.u64.wrap (a2)) 3)))) t433 t438).bind fun bt451 => (if t445 = bt451.2 then (if bt451.2 = 0 then (if t442 = 1 then (if t443 = bt451.1 then ((constablelaw07_wakes.f kj61).bind fun t453 => (some t453)) else (some false)) else (some false)) else ((constablelaw07_wakes.f kj61).bind fun t454 => (some t454))) else (some false))) = some r := by rw [if_neg (show ¬ (false = true) by decide)] at H; exact H
                            clear H
                            have H := H1
                            clear H1
                            replace H := Option.bind_eq_some_iff.mp H
                            obtain ⟨⟨t451, t452⟩, A760, H⟩ := H
                            replace H : (if t445 = t452 then (if t452 = 0 then (if t442 = 1 then (if t443 = t451 then ((constablelaw07_wakes.f kj61).bind fun t453 => (some t453)) else (some false)) else (some false)) else ((constablelaw07_wakes.f kj61).bind fun t454 => (some t454))) else (some false)) = some r := H
                            have A76 := Aside0.mk A760
                            clear A760
                            by_cases c77 : t445 = t452
                            · rw [if_pos c77] at H
                              obtain ⟨c77b0, c77b1⟩ := eqB_ c77
                              clear c77
                              by_cases c78 : t452 = 0
                              · rw [if_pos c78] at H
                                obtain ⟨c78b0, c78b1⟩ := eqB_ c78
                                clear c78
                                by_cases c79 : t442 = 1
                                · rw [if_pos c79] at H
                                  obtain ⟨c79b0, c79b1⟩ := eqB_ c79
                                  clear c79
                                  by_cases c80 : t443 = t451
                                  · rw [if_pos c80] at H
                                    obtain ⟨c80b0, c80b1⟩ := eqB_ c80
                                    clear c80
                                    replace H := Option.bind_eq_some_iff.mp H
                                    obtain ⟨t453, A810, H⟩ := H
                                    replace H : (some t453) = some r := H
                                    have A81 := Aside0.mk A810
                                    clear A810
                                    obtain rfl := Option.some.inj H
                                    have hnb82 := NB436_441.out
                                    have hnc82 := NB441_436.out
                                    have hnb83 := NB436_446.out
                                    have hnc83 := NB446_436.out
                                    have hcz84_0 : wc.cell? ⟨gb436, 0, none⟩ = some (.int .i64 t432) := (blk_cell BK436.out 0).trans rfl
                                    have hcz84_1 : wc.cell? ⟨gb436, 1, none⟩ = some (.int .i64 t433) := (blk_cell BK436.out 1).trans rfl
                                    have hcz84_2 : wc.cell? ⟨gb436, 2, none⟩ = some (.string t434) := (blk_cell BK436.out 2).trans rfl
                                    have hfz84_0 := blk_frozen BK436.out 0
                                    have hfz84_1 := blk_frozen BK436.out 1
                                    have hfz84_2 := blk_frozen BK436.out 2
                                    have hnb85 := NB441_446.out
                                    have hnc85 := NB446_441.out
                                    have hcz86_0 : wc.cell? ⟨gb441, 0, none⟩ = some (.int .i64 t437) := (blk_cell BK441.out 0).trans rfl
                                    have hcz86_1 : wc.cell? ⟨gb441, 1, none⟩ = some (.int .i64 t438) := (blk_cell BK441.out 1).trans rfl
                                    have hcz86_2 : wc.cell? ⟨gb441, 2, none⟩ = some (.string t439) := (blk_cell BK441.out 2).trans rfl
                                    have hfz86_0 := blk_frozen BK441.out 0
                                    have hfz86_1 := blk_frozen BK441.out 1
                                    have hfz86_2 := blk_frozen BK441.out 2
                                    go_wp2_with (first | ((with_reducible refine gate_callee (f := 13) rfl ?_); refine goesL_ (some 141) rfl rfl Try.func13 (by kernel_rfl) rfl #[.int .i64 (wrap64 (3 + (wrap64 (Int.tmod (IntKind.u64.wrap (a2)) 3)))), .int .i64 t433, .int .i64 t438] rfl ga_ ?_; (with_reducible refine (num_Do.calls kj61 (wrap64 (3 + (wrap64 (Int.tmod (IntKind.u64.wrap (a2)) 3)))) t433 t438 t451 t452 _ A76.out).mono ?_); rintro e w' ⟨rfl, ⟨nd, rfl⟩⟩; refine ⟨_, rfl, ?_⟩; have hcz87_0 : wc.cell? ⟨gb446, 0, none⟩ = some (.int .i64 t442) := (blk_cell BK446.out 0).trans rfl; have hcz87_1 : wc.cell? ⟨gb446, 1, none⟩ = some (.int .i64 t443) := (blk_cell BK446.out 1).trans rfl; have hcz87_2 : wc.cell? ⟨gb446, 2, none⟩ = some (.string t444) := (blk_cell BK446.out 2).trans rfl; have hfz87_0 := blk_frozen BK446.out 0; have hfz87_1 := blk_frozen BK446.out 1; have hfz87_2 := blk_frozen BK446.out 2) | (go_at_call 32; (with_reducible refine (constablelaw07_wakes.calls kj61  t453 _ A81.out HR_.out).mono ?_); rintro e w88 ⟨rfl, hb⟩; have n0_ := bb_ (bu_ BK436) hb; have n1_ := bb_ (bu_ BK441) hb; have n2_ := bb_ (bu_ BK446) hb; have n3_ := bs_ (be_ HB) hb; clear BK436; clear BK441; clear BK446; clear HB; have BK436 := n0_; have BK441 := n1_; have BK446 := n2_; have HB := n3_; clear n0_ n1_ n2_ n3_; (try clear hb); (try clear hb2); (try clear hk); (try clear hi)))
                                    go_ret
                                    exact ⟨by first | rfl | (simp [errW_none, errW_some] <;> rfl) | (simp [*, errW_none, errW_some] <;> rfl), by repeat (first | (with_reducible first | exact HB.out | apply below_alloc | apply pw_below_drewN | apply below_drew1 | refine below_set ?_ GE436.out | refine below_set ?_ GE441.out | refine below_set ?_ GE446.out) | exact HB.out)⟩
                                  · rw [if_neg c80] at H
                                    obtain ⟨c80b0, c80b1⟩ := neB_ c80
                                    exact absurd ((Option.some.inj H).trans HR_.out) (by decide)
                                · rw [if_neg c79] at H
                                  obtain ⟨c79b0, c79b1⟩ := neB_ c79
                                  exact absurd ((Option.some.inj H).trans HR_.out) (by decide)
                              · rw [if_neg c78] at H
                                obtain ⟨c78b0, c78b1⟩ := neB_ c78
                                replace H := Option.bind_eq_some_iff.mp H
                                obtain ⟨t454, A890, H⟩ := H
                                replace H : (some t454) = some r := H
                                have A89 := Aside0.mk A890
                                clear A890
                                obtain rfl := Option.some.inj H
                                have hnb90 := NB436_441.out
                                have hnc90 := NB441_436.out
                                have hnb91 := NB436_446.out
                                have hnc91 := NB446_436.out
                                have hcz92_0 : wc.cell? ⟨gb436, 0, none⟩ = some (.int .i64 t432) := (blk_cell BK436.out 0).trans rfl
                                have hcz92_1 : wc.cell? ⟨gb436, 1, none⟩ = some (.int .i64 t433) := (blk_cell BK436.out 1).trans rfl
                                have hcz92_2 : wc.cell? ⟨gb436, 2, none⟩ = some (.string t434) := (blk_cell BK436.out 2).trans rfl
                                have hfz92_0 := blk_frozen BK436.out 0
                                have hfz92_1 := blk_frozen BK436.out 1
                                have hfz92_2 := blk_frozen BK436.out 2
                                have hnb93 := NB441_446.out
                                have hnc93 := NB446_441.out
                                have hcz94_0 : wc.cell? ⟨gb441, 0, none⟩ = some (.int .i64 t437) := (blk_cell BK441.out 0).trans rfl
                                have hcz94_1 : wc.cell? ⟨gb441, 1, none⟩ = some (.int .i64 t438) := (blk_cell BK441.out 1).trans rfl
                                have hcz94_2 : wc.cell? ⟨gb441, 2, none⟩ = some (.string t439) := (blk_cell BK441.out 2).trans rfl
                                have hfz94_0 := blk_frozen BK441.out 0
                                have hfz94_1 := blk_frozen BK441.out 1
                                have hfz94_2 := blk_frozen BK441.out 2
                                go_wp2_with (first | ((with_reducible refine gate_callee (f := 13) rfl ?_); refine goesL_ (some 141) rfl rfl Try.func13 (by kernel_rfl) rfl #[.int .i64 (wrap64 (3 + (wrap64 (Int.tmod (IntKind.u64.wrap (a2)) 3)))), .int .i64 t433, .int .i64 t438] rfl ga_ ?_; (with_reducible refine (num_Do.calls kj61 (wrap64 (3 + (wrap64 (Int.tmod (IntKind.u64.wrap (a2)) 3)))) t433 t438 t451 t452 _ A76.out).mono ?_); rintro e w' ⟨rfl, ⟨nd, rfl⟩⟩; refine ⟨_, rfl, ?_⟩) | (go_at_call 32; (with_reducible refine (constablelaw07_wakes.calls kj61  t454 _ A89.out HR_.out).mono ?_); rintro e w95 ⟨rfl, hb⟩; have n0_ := bb_ (bu_ BK436) hb; have n1_ := bb_ (bu_ BK441) hb; have n2_ := bb_ (bu_ BK446) hb; have n3_ := bs_ (be_ HB) hb; clear BK436; clear BK441; clear BK446; clear HB; have BK436 := n0_; have BK441 := n1_; have BK446 := n2_; have HB := n3_; clear n0_ n1_ n2_ n3_; (try clear hb); (try clear hb2); (try clear hk); (try clear hi)))
                                go_ret
                                exact ⟨by first | rfl | (simp [errW_none, errW_some] <;> rfl) | (simp [*, errW_none, errW_some] <;> rfl), by repeat (first | (with_reducible first | exact HB.out | apply below_alloc | apply pw_below_drewN | apply below_drew1 | refine below_set ?_ GE436.out | refine below_set ?_ GE441.out | refine below_set ?_ GE446.out) | exact HB.out)⟩
                            · rw [if_neg c77] at H
                              obtain ⟨c77b0, c77b1⟩ := neB_ c77
                              exact absurd ((Option.some.inj H).trans HR_.out) (by decide)
                    · rw [if_neg c61] at H
                      obtain ⟨c61b0, c61b1⟩ := neB_ c61
                      by_cases c96 : t445 = t440
                      · rw [if_pos c96] at H
                        obtain ⟨c96b0, c96b1⟩ := eqB_ c96
                        clear c96
                        replace H := Option.bind_eq_some_iff.mp H
                        obtain ⟨t455, A970, H⟩ := H
                        replace H : (some t455) = some r := H
                        have A97 := Aside0.mk A970
                        clear A970
                        obtain rfl := Option.some.inj H
                        go_wp2_with (first | (go_at_call 32; (with_reducible refine (constablelaw07_wakes.calls kj30  t455 _ A97.out HR_.out).mono ?_); rintro e w98 ⟨rfl, hb⟩; have n0_ := bb_ (bu_ BK436) hb; have n1_ := bb_ (bu_ BK441) hb; have n2_ := bb_ (bu_ BK446) hb; have n3_ := bs_ (be_ HB) hb; clear BK436; clear BK441; clear BK446; clear HB; have BK436 := n0_; have BK441 := n1_; have BK446 := n2_; have HB := n3_; clear n0_ n1_ n2_ n3_; (try clear hb); (try clear hb2); (try clear hk); (try clear hi)))
                        go_ret
                        exact ⟨by first | rfl | (simp [errW_none, errW_some] <;> rfl) | (simp [*, errW_none, errW_some] <;> rfl), by repeat (first | (with_reducible first | exact HB.out | apply below_alloc | apply pw_below_drewN | apply below_drew1 | refine below_set ?_ GE436.out | refine below_set ?_ GE441.out | refine below_set ?_ GE446.out) | exact HB.out)⟩
                      · rw [if_neg c96] at H
                        obtain ⟨c96b0, c96b1⟩ := neB_ c96
                        exact absurd ((Option.some.inj H).trans HR_.out) (by decide)
                  · rw [if_neg c60] at H
                    obtain ⟨c60b0, c60b1⟩ := neB_ c60
                    by_cases c99 : t445 = t435
                    · rw [if_pos c99] at H
                      obtain ⟨c99b0, c99b1⟩ := eqB_ c99
                      clear c99
                      replace H := Option.bind_eq_some_iff.mp H
                      obtain ⟨t456, A1000, H⟩ := H
                      replace H : (some t456) = some r := H
                      have A100 := Aside0.mk A1000
                      clear A1000
                      obtain rfl := Option.some.inj H
                      go_wp2_with (first | (go_at_call 32; (with_reducible refine (constablelaw07_wakes.calls kj30  t456 _ A100.out HR_.out).mono ?_); rintro e w101 ⟨rfl, hb⟩; have n0_ := bb_ (bu_ BK436) hb; have n1_ := bb_ (bu_ BK441) hb; have n2_ := bb_ (bu_ BK446) hb; have n3_ := bs_ (be_ HB) hb; clear BK436; clear BK441; clear BK446; clear HB; have BK436 := n0_; have BK441 := n1_; have BK446 := n2_; have HB := n3_; clear n0_ n1_ n2_ n3_; (try clear hb); (try clear hb2); (try clear hk); (try clear hi)))
                      go_ret
                      exact ⟨by first | rfl | (simp [errW_none, errW_some] <;> rfl) | (simp [*, errW_none, errW_some] <;> rfl), by repeat (first | (with_reducible first | exact HB.out | apply below_alloc | apply pw_below_drewN | apply below_drew1 | refine below_set ?_ GE436.out | refine below_set ?_ GE441.out | refine below_set ?_ GE446.out) | exact HB.out)⟩
                    · rw [if_neg c99] at H
                      obtain ⟨c99b0, c99b1⟩ := neB_ c99
                      exact absurd ((Option.some.inj H).trans HR_.out) (by decide)
          · rw [if_neg c27] at H
            exact absurd H (by simp)
        · rw [if_neg c26] at H
          exact absurd H (by simp)
end Go.Proofs.Ytconpnagoijacaa.P
end
section
namespace Go.Proofs.Ytconpnagoijacaa.P
open Go.RowKit Go.Proofs.YtconpnagoijacaaW.PrintWords Go.Proofs.YtconpnagoijacaaW.PrintLast Go.Proofs.YtconpnagoijacaaW.PrintMore
attribute [local go_sem] max2_int min2_int max_two min_two max_three min_three max_four min_four
set_option linter.unusedVariables false
set_option linter.unusedSimpArgs false
def constableref01_Get.l0 : Nat → List (S62) → ByteArray → Int → Option (Int × Int × ByteArray × Bool)
  | 0, _, _, _ => none
  | k + 1, x0, x1, x6 => if x6 < (x0.length : Int) then (if 0 ≤ x6 then (if ((rd_T62 x0 x6).f0).toList = x1.toList then (some ((rd_T62 x0 x6).f1.f0, (rd_T62 x0 x6).f1.f1, (rd_T62 x0 x6).f1.f2, true)) else (constableref01_Get.l0 k x0 x1 (wrap64 (x6 + 1)))) else (none)) else (some (0, 0, (⟨#[]⟩ : ByteArray), false))
def constableref01_Get.f (k : Nat) (l0 : List (S62)) (a1 : ByteArray) : Option (Int × Int × ByteArray × Bool) := constableref01_Get.l0 k l0 a1 0
theorem constableref01_Get.mono_l : ∀ k, (∀ y0 y1 y2, LeO (constableref01_Get.l0 k y0 y1 y2) (constableref01_Get.l0 (k + 1) y0 y1 y2))
  | 0 => fun _ _ _ r h => by simp [constableref01_Get.l0] at h
  | k + 1 => by
    have ih0 := constableref01_Get.mono_l k
    · intro y0 y1 y2
      unfold constableref01_Get.l0
      repeat' first
      | (with_reducible exact ih0 _ _ _)
      | (with_reducible exact LeO.refl _)
      | (with_reducible exact LeO.none _)
      | (with_reducible refine LeO.ite ?_ ?_)
      | (with_reducible refine LeO.bind ?_ (fun _ => ?_))
      | exact ih0 _ _ _
      | exact LeO.none _
      | refine LeO.ite ?_ ?_
      | refine LeO.bind ?_ (fun _ => ?_)
theorem constableref01_Get.mono : ∀ a0 a1 k, LeO (constableref01_Get.f k a0 a1) (constableref01_Get.f (k + 1) a0 a1) := by
  intro a0 a1 k
  have ih0 := constableref01_Get.mono_l k
  unfold constableref01_Get.f
  repeat' first
      | (with_reducible exact ih0 _ _ _)
      | (with_reducible exact LeO.refl _)
      | (with_reducible exact LeO.none _)
      | (with_reducible refine LeO.ite ?_ ?_)
      | (with_reducible refine LeO.bind ?_ (fun _ => ?_))
      | exact ih0 _ _ _
      | exact LeO.none _
      | refine LeO.ite ?_ ?_
      | refine LeO.bind ?_ (fun _ => ?_)
set_option maxHeartbeats 8000000 in
set_option maxRecDepth 100000 in
theorem constableref01_Get.calls (k : Nat) (A0 : Option Addr) (c0 : Nat) (l0 : List (S62)) (a1 : ByteArray) (r1 : Int) (r2 : Int) (r3 : ByteArray) (r4 : Bool) (w : World) (hr0 : Kd.C k62 w A0 l0.length l0) (hc0 : l0.length ≤ c0) (h : constableref01_Get.f k l0 a1 = some (r1, r2, r3, r4)) :
    Calls Try.prog 34 #[.slice A0 l0.length c0, .string a1] w fun e w' => e = .returned (.tuple #[.agg #[.int .i64 r1, .int .i64 r2, .string r3], .bool r4]) ∧ Below w.heap.size w w' := by
  have hu40 := Try.underlying40
  have HR0 := Aside0.mk hr0
  have HC0 := Aside0.mk hc0
  clear hr0 hc0
  have HB := Aside0.mk (Below.refl w.heap.size w)
  have H : (constableref01_Get.l0 k l0 a1 0) = some (r1, r2, r3, r4) := h
  clear h
  have H' := Aside0.mk H
  clear H
  go_enter Try.func34, Try.ntmps34
  go_wp2_with (first | ((with_reducible refine gate_dst (N := 4) rfl ?_); refine box_event ?hg (N := 4) ?hd (cs := #[.int .i64 0, .int .i64 0, .string (⟨#[]⟩ : ByteArray)]) (t := 40) ?hr ?_; (case hd => rfl); (case hg => rfl); (case hr => first | (go_simp; done) | (go_simp; rfl)); intro gb350 hg w3 hbox hb; have n0_ := bs_ (be_ HB) hb; have n1_ := Aside0.mk (hbox); have n2_ := gs_ hg (be_ HB); have n3_ := gs_ hg (be_ HB); clear HB; have HB := n0_; have BK350 := n1_; have GW350 := n2_; have GE350 := n3_; clear n0_ n1_ n2_ n3_; clear hb hbox hg))
  go_loopg [6] k (fun kq v6 w' => ∃ (x6_1 : Int) (x351000_1 : Int) (x351001_1 : Int) (x351002_1 : ByteArray), v6 = .int .i64 x6_1 ∧ Aside0 (constableref01_Get.l0 kq l0 a1 x6_1 = some (r1, r2, r3, r4)) ∧ Aside0 (kq ≤ k) ∧ Aside0 (w'.heap[gb350]? = some (.cells #[.int .i64 x351000_1, .int .i64 x351001_1, .string x351002_1] 40 (0, 0))) ∧ Aside0 (Below w.heap.size w w'))
  case atStart => exact ⟨(0), (0), (0), ((⟨#[]⟩ : ByteArray)), ra_, H', ⟨Nat.le_refl _⟩, ⟨by (with_reducible repeat (first | refine blk_drewN ?_ _ | refine blk_drew ?_ | refine blk_alloc ?_ _)); exact BK350.out⟩, ⟨by repeat (first | (with_reducible first | exact HB.out | apply below_alloc | apply pw_below_drewN | apply below_drew1 | refine below_set ?_ GE350.out) | exact HB.out)⟩⟩
  case round =>
    clear H'
    try clear p2
    try clear c3
    obtain ⟨x6_1, x351000_1, x351001_1, x351002_1, rfl, HA, HK1, BK350, HB⟩ := hrel
    cases gk with
    | zero => exact absurd HA.out (by simp [constableref01_Get.l0])
    | succ k1 =>
      have H := HA.out
      clear HA
      simp only [constableref01_Get.l0] at H
      by_cases c4 : x6_1 < (l0.length : Int)
      · rw [if_pos c4] at H
        have c4b0 : decide (x6_1 < (l0.length : Int)) = true := decide_eq_true c4
        clear c4
        by_cases c5 : 0 ≤ x6_1
        · rw [if_pos c5] at H
          have c5b0 : decide (0 ≤ x6_1) = true := decide_eq_true c5
          clear c5
          by_cases c6 : ((rd_T62 l0 x6_1).f0).toList = a1.toList
          · rw [if_pos c6] at H
            obtain ⟨c6b0, c6b1⟩ := eqB_ c6
            clear c6
            simp only [Option.some.injEq, Prod.mk.injEq] at H
            obtain ⟨rfl, rfl, rfl, rfl⟩ := H
            have p351 : 0 ≤ (x6_1 : Int) := dt_
            have q351 : x6_1 < (l0.length : Int) := dt_
            obtain ⟨ad351, e351, hx351_0, hx351_1, hx351_2, hx351_3⟩ := at_T62 HR0.out x6_1 p351 q351
            cases e351
            replace hx351_0 := cm_ HB hx351_0
            replace hx351_1 := cm_ HB hx351_1
            replace hx351_2 := cm_ HB hx351_2
            replace hx351_3 := cm_ HB hx351_3
            replace p351 := eq_true p351
            replace q351 := eq_true q351
            have p352 : 0 ≤ (x6_1 : Int) := dt_
            have q352 : x6_1 < (l0.length : Int) := dt_
            obtain ⟨ad352, e352, hx352_0, hx352_1, hx352_2, hx352_3⟩ := at_T62 HR0.out x6_1 p352 q352
            obtain rfl : ad351 = ad352 := (by injection e352)
            replace hx352_0 := cm_ HB hx352_0
            replace hx352_1 := cm_ HB hx352_1
            replace hx352_2 := cm_ HB hx352_2
            replace hx352_3 := cm_ HB hx352_3
            replace p352 := eq_true p352
            replace q352 := eq_true q352
            have hcz7_0 : wr.cell? ⟨gb350, 0, none⟩ = some (.int .i64 x351000_1) := (blk_cell BK350.out 0).trans rfl
            have hcz7_1 : wr.cell? ⟨gb350, 1, none⟩ = some (.int .i64 x351001_1) := (blk_cell BK350.out 1).trans rfl
            have hcz7_2 : wr.cell? ⟨gb350, 2, none⟩ = some (.string x351002_1) := (blk_cell BK350.out 2).trans rfl
            have hfz7_0 := blk_frozen BK350.out 0
            have hfz7_1 := blk_frozen BK350.out 1
            have hfz7_2 := blk_frozen BK350.out 2
            go_wp2
            refine bodyPost_ret (results_ct rfl _ _ gb350 40 #[.int .i64 ((rd_T62 l0 x6_1).f1.f0), .int .i64 ((rd_T62 l0 x6_1).f1.f1), .string ((rd_T62 l0 x6_1).f1.f2)] (0, 0) _ rfl (bp_ BK350) Try.underlying40 rfl (by kernel_rfl)) rfl ?_
            exact ⟨by first | rfl | (simp [errW_none, errW_some] <;> rfl) | (simp [*, errW_none, errW_some] <;> rfl), by repeat (first | (with_reducible first | exact HB.out | apply below_alloc | apply pw_below_drewN | apply below_drew1 | refine below_set ?_ GE350.out) | exact HB.out)⟩
          · rw [if_neg c6] at H
            obtain ⟨c6b0, c6b1⟩ := neB_ c6
            have H' := Aside0.mk H
            clear H
            have p351 : 0 ≤ (x6_1 : Int) := dt_
            have q351 : x6_1 < (l0.length : Int) := dt_
            obtain ⟨ad351, e351, hx351_0, hx351_1, hx351_2, hx351_3⟩ := at_T62 HR0.out x6_1 p351 q351
            cases e351
            replace hx351_0 := cm_ HB hx351_0
            replace hx351_1 := cm_ HB hx351_1
            replace hx351_2 := cm_ HB hx351_2
            replace hx351_3 := cm_ HB hx351_3
            replace p351 := eq_true p351
            replace q351 := eq_true q351
            go_wp2
            go_roundg k1
            case measure => have := HK1.out; omega
            case rel => exact ⟨(wrap64 (x6_1 + 1)), (x351000_1), (x351001_1), (x351002_1), ra_, H', ⟨by have := HK1.out; omega⟩, ⟨by (with_reducible repeat (first | refine blk_drewN ?_ _ | refine blk_drew ?_ | refine blk_alloc ?_ _)); exact BK350.out⟩, ⟨by repeat (first | (with_reducible first | exact HB.out | apply below_alloc | apply pw_below_drewN | apply below_drew1 | refine below_set ?_ GE350.out) | exact HB.out)⟩⟩
        · rw [if_neg c5] at H
          exact absurd H (by simp)
      · rw [if_neg c4] at H
        have c4b0 : decide (x6_1 < (l0.length : Int)) = false := decide_eq_false c4
        clear c4
        simp only [Option.some.injEq, Prod.mk.injEq] at H
        obtain ⟨rfl, rfl, rfl, rfl⟩ := H
        have hcz8_0 : wr.cell? ⟨gb350, 0, none⟩ = some (.int .i64 x351000_1) := (blk_cell BK350.out 0).trans rfl
        have hcz8_1 : wr.cell? ⟨gb350, 1, none⟩ = some (.int .i64 x351001_1) := (blk_cell BK350.out 1).trans rfl
        have hcz8_2 : wr.cell? ⟨gb350, 2, none⟩ = some (.string x351002_1) := (blk_cell BK350.out 2).trans rfl
        have hfz8_0 := blk_frozen BK350.out 0
        have hfz8_1 := blk_frozen BK350.out 1
        have hfz8_2 := blk_frozen BK350.out 2
        go_wp2
        refine bodyPost_ret (results_ct rfl _ _ gb350 40 #[.int .i64 0, .int .i64 0, .string (⟨#[]⟩ : ByteArray)] (0, 0) _ rfl (bp_ BK350) Try.underlying40 rfl (by kernel_rfl)) rfl ?_
        exact ⟨by first | rfl | (simp [errW_none, errW_some] <;> rfl) | (simp [*, errW_none, errW_some] <;> rfl), by repeat (first | (with_reducible first | exact HB.out | apply below_alloc | apply pw_below_drewN | apply below_drew1 | refine below_set ?_ GE350.out) | exact HB.out)⟩
end Go.Proofs.Ytconpnagoijacaa.P
end
