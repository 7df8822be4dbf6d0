/- Part 4 of the proof of ExprPut: words, contracts of functions of the program (what a call answers), and what the answers say. -/
import Derived.Lib.Bytes
import Derived.Laws.BitsLemmas
import Derived.Laws.Bits64
import Derived.Test.YtconpnagoijacaaVWords
import Derived.Test.YtconpnagoijacaaVLast
import Derived.Test.YtconpnagoijacaaVApart
import Derived.Test.YtconpnagoijacaaVArr
import Derived.Test.YtconpnagoijacaaVFoot
import Derived.Test.YtconpnagoijacaaVKept
import Derived.Test.YtconpnagoijacaaVShare
import Derived.Test.YtconpnagoijacaaVZeros
import Derived.Test.YtconpnagoijacaaVN
import Derived.Test.YtconpnagoijacaaVFootNe
import Derived.Test.YtconpnagoijacaaVAt
import Derived.Test.YtconpnagoijacaaVEqStruct
import Derived.Test.YtconpnagoijacaaVTab
import Derived.Test.YtconpnagoijacaaVFour
import Derived.Test.YtconpnagoijacaaVGuard
import Derived.Test.YtconpnagoijacaaVInv
import Derived.Test.YtconpnagoijacaaVInvWords
import Derived.Test.YtconpnagoijacaaVQPut
import Derived.Test.YtconpnagoijacaaVNEv
import Derived.Test.YtconpnagoijacaaVMore
import Derived.Test.YtconpnagoijacaaVRepsOne
import Derived.Test.YtconpnagoijacaaVSized
import Derived.Test.YtconpnagoijacaaCExprPut0
import Derived.Test.YtconpnagoijacaaCExprPut1
import Derived.Test.YtconpnagoijacaaCExprPut2
section
namespace Go.Proofs.Ytconpnagoijacaa.P
open Go.RowKit Go.Proofs.YtconpnagoijacaaW.PrintWords Go.Proofs.YtconpnagoijacaaW.PrintLast Go.Proofs.YtconpnagoijacaaW.PrintMore
attribute [local go_sem] max2_int min2_int max_two min_two max_three min_three max_four min_four
set_option linter.unusedVariables false
set_option linter.unusedSimpArgs false
mutual
def constableref01_Do.j0 : Nat → Int → Int → Int → Bool → Option (Int × Int)
  | 0, _, _, _, _ => none
  | k + 1, x0, x1, x2, x17 => if x17 = true then (some (0, 3)) else ((constableref01_In.f x1 (-4611686018427387904) 4611686018427387904).bind fun t113 => (if t113 = true then ((constableref01_In.f x2 (-4611686018427387904) 4611686018427387904).bind fun t114 => (constableref01_Do.j1 k x0 x1 x2 (!t114))) else (constableref01_Do.j1 k x0 x1 x2 true)))
def constableref01_Do.j1 : Nat → Int → Int → Int → Bool → Option (Int × Int)
  | 0, _, _, _, _ => none
  | k + 1, x0, x1, x2, x25 => if x25 = true then (some (0, 4)) else (if x0 = 4 then (constableref01_Do.j2 k x0 x1 x2 (x0 == 4)) else (constableref01_Do.j2 k x0 x1 x2 (x0 == 3)))
def constableref01_Do.j2 : Nat → Int → Int → Int → Bool → Option (Int × Int)
  | 0, _, _, _, _ => none
  | k + 1, x0, x1, x2, x27 => if x27 = true then (if x0 = 4 then (constableref01_Do.j3 k x1 (wrap64 (-x2))) else (constableref01_Do.j3 k x1 x2)) else (if x1 = 0 then (some (wrap64 (x1 * x2), 0)) else (if x2 = 0 then (some (wrap64 (x1 * x2), 0)) else (if (mx x2 (wrap64 (-x2))) = 0 then (none) else (if (mx x1 (wrap64 (-x1))) > (wrap64 (Int.tdiv (4611686018427387904 : Int) (mx x2 (wrap64 (-x2))))) then (some (0, 4)) else (some (wrap64 (x1 * x2), 0))))))
def constableref01_Do.j3 : Nat → Int → Int → Option (Int × Int)
  | 0, _, _ => none
  | k + 1, x1, x2 => if x2 > 0 then (if x1 > (wrap64 (4611686018427387904 - x2)) then (constableref01_Do.j4 k x1 x2 true) else (if x2 < 0 then (constableref01_Do.j4 k x1 x2 (decide (x1 < (wrap64 ((-4611686018427387904) - x2))))) else (constableref01_Do.j4 k x1 x2 false))) else (if x2 < 0 then (constableref01_Do.j4 k x1 x2 (decide (x1 < (wrap64 ((-4611686018427387904) - x2))))) else (constableref01_Do.j4 k x1 x2 false))
def constableref01_Do.j4 : Nat → Int → Int → Bool → Option (Int × Int)
  | 0, _, _, _ => none
  | k + 1, x1, x2, x51 => if x51 = true then (some (0, 4)) else (some (wrap64 (x1 + x2), 0))
end
def constableref01_Do.f (k : Nat) (a0 : Int) (a1 : Int) (a2 : Int) : Option (Int × Int) := if a0 = 3 then (constableref01_Do.j0 k a0 a1 a2 false) else (if a0 = 4 then (constableref01_Do.j0 k a0 a1 a2 false) else (constableref01_Do.j0 k a0 a1 a2 (a0 != 5)))
theorem constableref01_Do.mono_l : ∀ k, (∀ y0 y1 y2 y3, LeO (constableref01_Do.j0 k y0 y1 y2 y3) (constableref01_Do.j0 (k + 1) y0 y1 y2 y3)) ∧ (∀ y0 y1 y2 y3, LeO (constableref01_Do.j1 k y0 y1 y2 y3) (constableref01_Do.j1 (k + 1) y0 y1 y2 y3)) ∧ (∀ y0 y1 y2 y3, LeO (constableref01_Do.j2 k y0 y1 y2 y3) (constableref01_Do.j2 (k + 1) y0 y1 y2 y3)) ∧ (∀ y0 y1, LeO (constableref01_Do.j3 k y0 y1) (constableref01_Do.j3 (k + 1) y0 y1)) ∧ (∀ y0 y1 y2, LeO (constableref01_Do.j4 k y0 y1 y2) (constableref01_Do.j4 (k + 1) y0 y1 y2))
  | 0 => ⟨fun _ _ _ _ r h => by simp [constableref01_Do.j0] at h, fun _ _ _ _ r h => by simp [constableref01_Do.j1] at h, fun _ _ _ _ r h => by simp [constableref01_Do.j2] at h, fun _ _ r h => by simp [constableref01_Do.j3] at h, fun _ _ _ r h => by simp [constableref01_Do.j4] at h⟩
  | k + 1 => by
    obtain ⟨ih0, ih1, ih2, ih3, ih4⟩ := constableref01_Do.mono_l k
    refine ⟨?_, ?_, ?_, ?_, ?_⟩
    · intro y0 y1 y2 y3
      unfold constableref01_Do.j0
      repeat' first
      | (with_reducible exact ih0 _ _ _ _)
      | (with_reducible exact ih1 _ _ _ _)
      | (with_reducible exact ih2 _ _ _ _)
      | (with_reducible exact ih3 _ _)
      | (with_reducible exact ih4 _ _ _)
      | (with_reducible exact LeO.refl _)
      | (with_reducible exact LeO.none _)
      | (with_reducible refine LeO.ite ?_ ?_)
      | (with_reducible refine LeO.bind ?_ (fun _ => ?_))
      | exact ih0 _ _ _ _
      | exact ih1 _ _ _ _
      | exact ih2 _ _ _ _
      | exact ih3 _ _
      | exact ih4 _ _ _
      | exact LeO.none _
      | refine LeO.ite ?_ ?_
      | refine LeO.bind ?_ (fun _ => ?_)
    · intro y0 y1 y2 y3
      unfold constableref01_Do.j1
      repeat' first
      | (with_reducible exact ih0 _ _ _ _)
      | (with_reducible exact ih1 _ _ _ _)
      | (with_reducible exact ih2 _ _ _ _)
      | (with_reducible exact ih3 _ _)
      | (with_reducible exact ih4 _ _ _)
      | (with_reducible exact LeO.refl _)
      | (with_reducible exact LeO.none _)
      | (with_reducible refine LeO.ite ?_ ?_)
      | (with_reducible refine LeO.bind ?_ (fun _ => ?_))
      | exact ih0 _ _ _ _
      | exact ih1 _ _ _ _
      | exact ih2 _ _ _ _
      | exact ih3 _ _
      | exact ih4 _ _ _
      | exact LeO.none _
      | refine LeO.ite ?_ ?_
      | refine LeO.bind ?_ (fun _ => ?_)
    · intro y0 y1 y2 y3
      unfold constableref01_Do.j2
      repeat' first
      | (with_reducible exact ih0 _ _ _ _)
      | (with_reducible exact ih1 _ _ _ _)
      | (with_reducible exact ih2 _ _ _ _)
      | (with_reducible exact ih3 _ _)
      | (with_reducible exact ih4 _ _ _)
      | (with_reducible exact LeO.refl _)
      | (with_reducible exact LeO.none _)
      | (with_reducible refine LeO.ite ?_ ?_)
      | (with_reducible refine LeO.bind ?_ (fun _ => ?_))
      | exact ih0 _ _ _ _
      | exact ih1 _ _ _ _
      | exact ih2 _ _ _ _
      | exact ih3 _ _
      | exact ih4 _ _ _
      | exact LeO.none _
      | refine LeO.ite ?_ ?_
      | refine LeO.bind ?_ (fun _ => ?_)
    · intro y0 y1
      unfold constableref01_Do.j3
      repeat' first
      | (with_reducible exact ih0 _ _ _ _)
      | (with_reducible exact ih1 _ _ _ _)
      | (with_reducible exact ih2 _ _ _ _)
      | (with_reducible exact ih3 _ _)
      | (with_reducible exact ih4 _ _ _)
      | (with_reducible exact LeO.refl _)
      | (with_reducible exact LeO.none _)
      | (with_reducible refine LeO.ite ?_ ?_)
      | (with_reducible refine LeO.bind ?_ (fun _ => ?_))
      | exact ih0 _ _ _ _
      | exact ih1 _ _ _ _
      | exact ih2 _ _ _ _
      | exact ih3 _ _
      | exact ih4 _ _ _
      | exact LeO.none _
      | refine LeO.ite ?_ ?_
      | refine LeO.bind ?_ (fun _ => ?_)
    · intro y0 y1 y2
      unfold constableref01_Do.j4
      repeat' first
      | (with_reducible exact ih0 _ _ _ _)
      | (with_reducible exact ih1 _ _ _ _)
      | (with_reducible exact ih2 _ _ _ _)
      | (with_reducible exact ih3 _ _)
      | (with_reducible exact ih4 _ _ _)
      | (with_reducible exact LeO.refl _)
      | (with_reducible exact LeO.none _)
      | (with_reducible refine LeO.ite ?_ ?_)
      | (with_reducible refine LeO.bind ?_ (fun _ => ?_))
      | exact ih0 _ _ _ _
      | exact ih1 _ _ _ _
      | exact ih2 _ _ _ _
      | exact ih3 _ _
      | exact ih4 _ _ _
      | exact LeO.none _
      | refine LeO.ite ?_ ?_
      | refine LeO.bind ?_ (fun _ => ?_)
theorem constableref01_Do.mono : ∀ a0 a1 a2 k, LeO (constableref01_Do.f k a0 a1 a2) (constableref01_Do.f (k + 1) a0 a1 a2) := by
  intro a0 a1 a2 k
  obtain ⟨ih0, ih1, ih2, ih3, ih4⟩ := constableref01_Do.mono_l k
  unfold constableref01_Do.f
  repeat' first
      | (with_reducible exact ih0 _ _ _ _)
      | (with_reducible exact ih1 _ _ _ _)
      | (with_reducible exact ih2 _ _ _ _)
      | (with_reducible exact ih3 _ _)
      | (with_reducible exact ih4 _ _ _)
      | (with_reducible exact LeO.refl _)
      | (with_reducible exact LeO.none _)
      | (with_reducible refine LeO.ite ?_ ?_)
      | (with_reducible refine LeO.bind ?_ (fun _ => ?_))
      | exact ih0 _ _ _ _
      | exact ih1 _ _ _ _
      | exact ih2 _ _ _ _
      | exact ih3 _ _
      | exact ih4 _ _ _
      | exact LeO.none _
      | refine LeO.ite ?_ ?_
      | refine LeO.bind ?_ (fun _ => ?_)
set_option maxHeartbeats 8000000 in
set_option maxRecDepth 100000 in
theorem constableref01_Do.calls (k : Nat) (a0 : Int) (a1 : Int) (a2 : Int) (r1 : Int) (r2 : Int) (w : World) (h : constableref01_Do.f k a0 a1 a2 = some (r1, r2)) :
    Calls Try.prog 14 #[.int .i64 a0, .int .i64 a1, .int .i64 a2] w fun e w' => e = .returned (.tuple #[.int .i64 r1, .int .i64 r2]) ∧ Below w.heap.size w w' := by
  have HB := Aside0.mk (Below.refl w.heap.size w)
  have H : (if a0 = 3 then (constableref01_Do.j0 k a0 a1 a2 false) else (if a0 = 4 then (constableref01_Do.j0 k a0 a1 a2 false) else (constableref01_Do.j0 k a0 a1 a2 (a0 != 5)))) = some (r1, r2) := h
  clear h
  have HC4 := Aside0.mk H
  clear H
  go_enter Try.func14, Try.ntmps14
  go_upto_region 1 with (fail)
  go_cut [17] (fun v17 wc => ∃ (kq : Nat) (x17_3 : Bool), v17 = .bool x17_3 ∧ Aside0 (constableref01_Do.j0 kq a0 a1 a2 x17_3 = some (r1, r2)) ∧ Aside0 (kq ≤ k) ∧ Aside0 (Below w.heap.size w wc))
  case first =>
    have H := HC4.out
    clear HC4
    by_cases c5 : a0 = 3
    · rw [if_pos c5] at H
      obtain ⟨c5b0, c5b1⟩ := eqB_ c5
      clear c5
      (first | rw [c5b0] | (simp only [i64_w, i32_w]; rw [c5b0]) | skip)
      have H' := Aside0.mk H
      clear H
      go_wp2
      go_meet
      case rel => exact ⟨_, (false), ra_, H', ⟨by first | omega | exact Nat.le_refl _⟩, ⟨by repeat (first | (with_reducible first | exact HB.out | apply below_alloc | apply pw_below_drewN | apply below_drew1) | exact HB.out)⟩⟩
    · rw [if_neg c5] at H
      obtain ⟨c5b0, c5b1⟩ := neB_ c5
      (first | rw [c5b0] | (simp only [i64_w, i32_w]; rw [c5b0]) | skip)
      by_cases c6 : a0 = 4
      · rw [if_pos c6] at H
        obtain ⟨c6b0, c6b1⟩ := eqB_ c6
        clear c6
        have H' := Aside0.mk H
        clear H
        go_wp2
        go_meet
        case rel => exact ⟨_, (false), ra_, H', ⟨by first | omega | exact Nat.le_refl _⟩, ⟨by repeat (first | (with_reducible first | exact HB.out | apply below_alloc | apply pw_below_drewN | apply below_drew1) | exact HB.out)⟩⟩
      · rw [if_neg c6] at H
        obtain ⟨c6b0, c6b1⟩ := neB_ c6
        have H' := Aside0.mk H
        clear H
        go_wp2
        go_meet
        case rel => exact ⟨_, ((a0 != 5)), ra_, H', ⟨by first | omega | exact Nat.le_refl _⟩, ⟨by repeat (first | (with_reducible first | exact HB.out | apply below_alloc | apply pw_below_drewN | apply below_drew1) | exact HB.out)⟩⟩
  case rest =>
    clear HC4
    try clear c1
    try clear p2
    try clear c5
    try clear c5b0
    try clear c5b1
    try clear c6
    try clear c6b0
    try clear c6b1
    obtain ⟨kq, x17_3, rfl, HA, HJ3, HB⟩ := hcut
    cases kq with
    | zero => exact absurd HA.out (by simp [constableref01_Do.j0])
    | succ kj3 =>
      have H := HA.out
      clear HA
      simp only [constableref01_Do.j0] at H
      by_cases c7 : x17_3 = true
      · subst c7
        have H1 : (some (0, 3)) = some (r1, r2) := by rw [if_pos rfl] at H; exact H
        clear H
        have H := H1
        clear H1
        simp only [Option.some.injEq, Prod.mk.injEq] at H
        obtain ⟨rfl, rfl⟩ := H
        go_wp2
        go_ret2
        exact ⟨by first | rfl | (simp [errW_none, errW_some] <;> rfl) | (simp [*, errW_none, errW_some] <;> rfl), by repeat (first | (with_reducible first | exact HB.out | apply below_alloc | apply pw_below_drewN | apply below_drew1) | exact HB.out)⟩
      · replace c7 := Bool.eq_false_iff.mpr c7
        subst c7
        have H1 : ((constableref01_In.f a1 (-4611686018427387904) 4611686018427387904).bind fun t113 => (if t113 = true then ((constableref01_In.f a2 (-4611686018427387904) 4611686018427387904).bind fun t114 => (constableref01_Do.j1 kj3 a0 a1 a2 (!t114))) else (constableref01_Do.j1 kj3 a0 a1 a2 true))) = some (r1, r2) := by rw [if_neg (show ¬ (false = true) by decide)] at H; exact H
        clear H
        have H := H1
        clear H1
        have HC8 := Aside0.mk H
        clear H
        go_upto_region 3 with (fail)
        go_cut [25] (fun v25 wc => ∃ (kq : Nat) (x25_7 : Bool), v25 = .bool x25_7 ∧ Aside0 (constableref01_Do.j1 kq a0 a1 a2 x25_7 = some (r1, r2)) ∧ Aside0 (kq ≤ kj3) ∧ Aside0 (Below w.heap.size w wc))
        case first =>
          have H := HC8.out
          clear HC8
          replace H := Option.bind_eq_some_iff.mp H
          obtain ⟨t113, A90, H⟩ := H
          replace H : (if t113 = true then ((constableref01_In.f a2 (-4611686018427387904) 4611686018427387904).bind fun t114 => (constableref01_Do.j1 kj3 a0 a1 a2 (!t114))) else (constableref01_Do.j1 kj3 a0 a1 a2 true)) = some (r1, r2) := H
          have A9 := Aside0.mk A90
          clear A90
          by_cases c10 : t113 = true
          · subst c10
            have H1 : ((constableref01_In.f a2 (-4611686018427387904) 4611686018427387904).bind fun t114 => (constableref01_Do.j1 kj3 a0 a1 a2 (!t114))) = some (r1, r2) := by rw [if_pos rfl] at H; exact H
            clear H
            have H := H1
            clear H1
            replace H := Option.bind_eq_some_iff.mp H
            obtain ⟨t114, A110, H⟩ := H
            replace H : (constableref01_Do.j1 kj3 a0 a1 a2 (!t114)) = some (r1, r2) := H
            have A11 := Aside0.mk A110
            clear A110
            have H' := Aside0.mk H
            clear H
            go_wp2_with (first | ((with_reducible refine gate_callee (f := 38) rfl ?_); refine goesL_ (some 19) rfl rfl Try.func38 (by kernel_rfl) rfl #[.int .i64 a1, .int .i64 (-4611686018427387904), .int .i64 4611686018427387904] rfl ga_ ?_; (with_reducible refine (constableref01_In.calls a1 (-4611686018427387904) 4611686018427387904 true _ A9.out).mono ?_); rintro e w' ⟨rfl, ⟨nd, rfl⟩⟩; refine ⟨_, rfl, ?_⟩) | (go_at_call 38; (with_reducible refine (constableref01_In.calls a2 (-4611686018427387904) 4611686018427387904 t114 _ A11.out).mono ?_); rintro e w' ⟨rfl, ⟨nd, rfl⟩⟩))
            go_meet
            case rel => exact ⟨_, (!t114), ra_, H', ⟨by have := HJ3.out; first | omega | exact Nat.le_refl _⟩, ⟨by repeat (first | (with_reducible first | exact HB.out | apply below_alloc | apply pw_below_drewN | apply below_drew1) | exact HB.out)⟩⟩
          · replace c10 := Bool.eq_false_iff.mpr c10
            subst c10
            have H1 : (constableref01_Do.j1 kj3 a0 a1 a2 true) = some (r1, r2) := by rw [if_neg (show ¬ (false = true) by decide)] at H; exact H
            clear H
            have H := H1
            clear H1
            have H' := Aside0.mk H
            clear H
            go_wp2_with (first | ((with_reducible refine gate_callee (f := 38) rfl ?_); refine goesL_ (some 19) rfl rfl Try.func38 (by kernel_rfl) rfl #[.int .i64 a1, .int .i64 (-4611686018427387904), .int .i64 4611686018427387904] rfl ga_ ?_; (with_reducible refine (constableref01_In.calls a1 (-4611686018427387904) 4611686018427387904 false _ A9.out).mono ?_); rintro e w' ⟨rfl, ⟨nd, rfl⟩⟩; refine ⟨_, rfl, ?_⟩))
            go_meet
            case rel => exact ⟨_, (true), ra_, H', ⟨by have := HJ3.out; first | omega | exact Nat.le_refl _⟩, ⟨by repeat (first | (with_reducible first | exact HB.out | apply below_alloc | apply pw_below_drewN | apply below_drew1) | exact HB.out)⟩⟩
        case rest =>
          clear HC8
          try clear c1
          try clear p2
          try clear c3
          try clear c5
          try clear c5b0
          try clear c5b1
          try clear c6
          try clear c6b0
          try clear c6b1
          try clear c7
          try clear c10
          try clear p2
          obtain ⟨kq, x25_7, rfl, HA, HJ7, HB⟩ := hcut
          cases kq with
          | zero => exact absurd HA.out (by simp [constableref01_Do.j1])
          | succ kj7 =>
            have H := HA.out
            clear HA
            simp only [constableref01_Do.j1] at H
            by_cases c12 : x25_7 = true
            · subst c12
              have H1 : (some (0, 4)) = some (r1, r2) := by rw [if_pos rfl] at H; exact H
              clear H
              have H := H1
              clear H1
              simp only [Option.some.injEq, Prod.mk.injEq] at H
              obtain ⟨rfl, rfl⟩ := H
              go_wp2
              go_ret2
              exact ⟨by first | rfl | (simp [errW_none, errW_some] <;> rfl) | (simp [*, errW_none, errW_some] <;> rfl), by repeat (first | (with_reducible first | exact HB.out | apply below_alloc | apply pw_below_drewN | apply below_drew1) | exact HB.out)⟩
            · replace c12 := Bool.eq_false_iff.mpr c12
              subst c12
              have H1 : (if a0 = 4 then (constableref01_Do.j2 kj7 a0 a1 a2 (a0 == 4)) else (constableref01_Do.j2 kj7 a0 a1 a2 (a0 == 3))) = some (r1, r2) := by rw [if_neg (show ¬ (false = true) by decide)] at H; exact H
              clear H
              have H := H1
              clear H1
              have HC13 := Aside0.mk H
              clear H
              go_upto_if 27 with (fail)
              go_cut [27] (fun v27 wc => ∃ (kq : Nat) (x27_12 : Bool), v27 = .bool x27_12 ∧ Aside0 (constableref01_Do.j2 kq a0 a1 a2 x27_12 = some (r1, r2)) ∧ Aside0 (kq ≤ kj7) ∧ Aside0 (Below w.heap.size w wc))
              case first =>
                have H := HC13.out
                clear HC13
                by_cases c14 : a0 = 4
                · rw [if_pos c14] at H
                  obtain ⟨c14b0, c14b1⟩ := eqB_ c14
                  clear c14
                  (first | rw [c14b0] | (simp only [i64_w, i32_w]; rw [c14b0]) | skip)
                  have H' := Aside0.mk H
                  clear H
                  go_wp2
                  go_meet
                  case rel => exact ⟨_, ((a0 == 4)), ra_, H', ⟨by have := HJ3.out; have := HJ7.out; first | omega | exact Nat.le_refl _⟩, ⟨by repeat (first | (with_reducible first | exact HB.out | apply below_alloc | apply pw_below_drewN | apply below_drew1) | exact HB.out)⟩⟩
                · rw [if_neg c14] at H
                  obtain ⟨c14b0, c14b1⟩ := neB_ c14
                  (first | rw [c14b0] | (simp only [i64_w, i32_w]; rw [c14b0]) | skip)
                  have H' := Aside0.mk H
                  clear H
                  go_wp2
                  go_meet
                  case rel => exact ⟨_, ((a0 == 3)), ra_, H', ⟨by have := HJ3.out; have := HJ7.out; first | omega | exact Nat.le_refl _⟩, ⟨by repeat (first | (with_reducible first | exact HB.out | apply below_alloc | apply pw_below_drewN | apply below_drew1) | exact HB.out)⟩⟩
              case rest =>
                clear HC13
                try clear c1
                try clear p2
                try clear c3
                try clear c5
                try clear c5b0
                try clear c5b1
                try clear c6
                try clear c6b0
                try clear c6b1
                try clear c7
                try clear c10
                try clear c12
                try clear c14
                try clear c14b0
                try clear c14b1
                try clear p2
                obtain ⟨kq, x27_12, rfl, HA, HJ12, HB⟩ := hcut
                cases kq with
                | zero => exact absurd HA.out (by simp [constableref01_Do.j2])
                | succ kj12 =>
                  have H := HA.out
                  clear HA
                  simp only [constableref01_Do.j2] at H
                  by_cases c15 : x27_12 = true
                  · subst c15
                    have H1 : (if a0 = 4 then (constableref01_Do.j3 kj12 a1 (wrap64 (-a2))) else (constableref01_Do.j3 kj12 a1 a2)) = some (r1, r2) := by rw [if_pos rfl] at H; exact H
                    clear H
                    have H := H1
                    clear H1
                    have HC16 := Aside0.mk H
                    clear H
                    go_upto_if 31 with (fail)
                    go_cut [2] (fun v2 wc => ∃ (kq : Nat) (x2_15 : Int), v2 = .int .i64 x2_15 ∧ Aside0 (constableref01_Do.j3 kq a1 x2_15 = some (r1, r2)) ∧ Aside0 (kq ≤ kj12) ∧ Aside0 (Below w.heap.size w wc))
                    case first =>
                      have H := HC16.out
                      clear HC16
                      by_cases c17 : a0 = 4
                      · rw [if_pos c17] at H
                        obtain ⟨c17b0, c17b1⟩ := eqB_ c17
                        clear c17
                        (first | rw [c17b0] | (simp only [i64_w, i32_w]; rw [c17b0]) | skip)
                        have H' := Aside0.mk H
                        clear H
                        go_wp2
                        go_meet
                        case rel => exact ⟨_, (wrap64 (-a2)), ra_, H', ⟨by have := HJ3.out; have := HJ7.out; have := HJ12.out; first | omega | exact Nat.le_refl _⟩, ⟨by repeat (first | (with_reducible first | exact HB.out | apply below_alloc | apply pw_below_drewN | apply below_drew1) | exact HB.out)⟩⟩
                      · rw [if_neg c17] at H
                        obtain ⟨c17b0, c17b1⟩ := neB_ c17
                        (first | rw [c17b0] | (simp only [i64_w, i32_w]; rw [c17b0]) | skip)
                        have H' := Aside0.mk H
                        clear H
                        go_wp2
                        go_meet
                        case rel => exact ⟨_, (a2), ra_, H', ⟨by have := HJ3.out; have := HJ7.out; have := HJ12.out; first | omega | exact Nat.le_refl _⟩, ⟨by repeat (first | (with_reducible first | exact HB.out | apply below_alloc | apply pw_below_drewN | apply below_drew1) | exact HB.out)⟩⟩
                    case rest =>
                      clear HC16
                      try clear c1
                      try clear p2
                      try clear c3
                      try clear c5
                      try clear c5b0
                      try clear c5b1
                      try clear c6
                      try clear c6b0
                      try clear c6b1
                      try clear p6
                      try clear c7
                      try clear c10
                      try clear c12
                      try clear c14
                      try clear c14b0
                      try clear c14b1
                      try clear c15
                      try clear c17
                      try clear c17b0
                      try clear c17b1
                      try clear p2
                      obtain ⟨kq, x2_15, rfl, HA, HJ15, HB⟩ := hcut
                      cases kq with
                      | zero => exact absurd HA.out (by simp [constableref01_Do.j3])
                      | succ kj15 =>
                        have H := HA.out
                        clear HA
                        simp only [constableref01_Do.j3] at H
                        have HC18 := Aside0.mk H
                        clear H
                        go_upto_region 10 with (fail)
                        go_cut [51] (fun v51 wc => ∃ (kq : Nat) (x51_17 : Bool), v51 = .bool x51_17 ∧ Aside0 (constableref01_Do.j4 kq a1 x2_15 x51_17 = some (r1, r2)) ∧ Aside0 (kq ≤ kj15) ∧ Aside0 (Below w.heap.size w wc))
                        case first =>
                          have H := HC18.out
                          clear HC18
                          by_cases c19 : x2_15 > 0
                          · rw [if_pos c19] at H
                            have c19b0 : decide (0 < x2_15) = true := decide_eq_true c19
                            clear c19
                            (first | rw [c19b0] | (simp only [i64_w, i32_w]; rw [c19b0]) | skip)
                            by_cases c20 : a1 > (wrap64 (4611686018427387904 - x2_15))
                            · rw [if_pos c20] at H
                              have c20b0 : decide ((wrap64 (4611686018427387904 - x2_15)) < a1) = true := decide_eq_true c20
                              clear c20
                              have H' := Aside0.mk H
                              clear H
                              go_wp2
                              go_meet
                              case rel => exact ⟨_, (true), ra_, H', ⟨by have := HJ3.out; have := HJ7.out; have := HJ12.out; have := HJ15.out; first | omega | exact Nat.le_refl _⟩, ⟨by repeat (first | (with_reducible first | exact HB.out | apply below_alloc | apply pw_below_drewN | apply below_drew1) | exact HB.out)⟩⟩
                            · rw [if_neg c20] at H
                              have c20b0 : decide ((wrap64 (4611686018427387904 - x2_15)) < a1) = false := decide_eq_false c20
                              clear c20
                              by_cases c21 : x2_15 < 0
                              · rw [if_pos c21] at H
                                have c21b0 : decide (x2_15 < 0) = true := decide_eq_true c21
                                clear c21
                                have H' := Aside0.mk H
                                clear H
                                go_wp2
                                go_meet
                                case rel => exact ⟨_, (decide (a1 < (wrap64 ((-4611686018427387904) - x2_15)))), ra_, H', ⟨by have := HJ3.out; have := HJ7.out; have := HJ12.out; have := HJ15.out; first | omega | exact Nat.le_refl _⟩, ⟨by repeat (first | (with_reducible first | exact HB.out | apply below_alloc | apply pw_below_drewN | apply below_drew1) | exact HB.out)⟩⟩
                              · rw [if_neg c21] at H
                                have c21b0 : decide (x2_15 < 0) = false := decide_eq_false c21
                                clear c21
                                have H' := Aside0.mk H
                                clear H
                                go_wp2
                                go_meet
                                case rel => exact ⟨_, (false), ra_, H', ⟨by have := HJ3.out; have := HJ7.out; have := HJ12.out; have := HJ15.out; first | omega | exact Nat.le_refl _⟩, ⟨by repeat (first | (with_reducible first | exact HB.out | apply below_alloc | apply pw_below_drewN | apply below_drew1) | exact HB.out)⟩⟩
                          · rw [if_neg c19] at H
                            have c19b0 : decide (0 < x2_15) = false := decide_eq_false c19
                            clear c19
                            (first | rw [c19b0] | (simp only [i64_w, i32_w]; rw [c19b0]) | skip)
                            by_cases c22 : x2_15 < 0
                            · rw [if_pos c22] at H
                              have c22b0 : decide (x2_15 < 0) = true := decide_eq_true c22
                              clear c22
                              have H' := Aside0.mk H
                              clear H
                              go_wp2
                              go_meet
                              case rel => exact ⟨_, (decide (a1 < (wrap64 ((-4611686018427387904) - x2_15)))), ra_, H', ⟨by have := HJ3.out; have := HJ7.out; have := HJ12.out; have := HJ15.out; first | omega | exact Nat.le_refl _⟩, ⟨by repeat (first | (with_reducible first | exact HB.out | apply below_alloc | apply pw_below_drewN | apply below_drew1) | exact HB.out)⟩⟩
                            · rw [if_neg c22] at H
                              have c22b0 : decide (x2_15 < 0) = false := decide_eq_false c22
                              clear c22
                              have H' := Aside0.mk H
                              clear H
                              go_wp2
                              go_meet
                              case rel => exact ⟨_, (false), ra_, H', ⟨by have := HJ3.out; have := HJ7.out; have := HJ12.out; have := HJ15.out; first | omega | exact Nat.le_refl _⟩, ⟨by repeat (first | (with_reducible first | exact HB.out | apply below_alloc | apply pw_below_drewN | apply below_drew1) | exact HB.out)⟩⟩
                        case rest =>
                          clear HC18
                          try clear c1
                          try clear c2
                          try clear p2
                          try clear c3
                          try clear c5
                          try clear c5b0
                          try clear c5b1
                          try clear c6
                          try clear c6b0
                          try clear c6b1
                          try clear p6
                          try clear c7
                          try clear c10
                          try clear c12
                          try clear c14
                          try clear c14b0
                          try clear c14b1
                          try clear c15
                          try clear c17
                          try clear c17b0
                          try clear c17b1
                          try clear c19
                          try clear c19b0
                          try clear c20
                          try clear c20b0
                          try clear c21
                          try clear c21b0
                          try clear c22
                          try clear c22b0
                          try clear p2
                          try clear p6
                          obtain ⟨kq, x51_17, rfl, HA, HJ17, HB⟩ := hcut
                          cases kq with
                          | zero => exact absurd HA.out (by simp [constableref01_Do.j4])
                          | succ kj17 =>
                            have H := HA.out
                            clear HA
                            simp only [constableref01_Do.j4] at H
                            by_cases c23 : x51_17 = true
                            · subst c23
                              have H1 : (some (0, 4)) = some (r1, r2) := by rw [if_pos rfl] at H; exact H
                              clear H
                              have H := H1
                              clear H1
                              simp only [Option.some.injEq, Prod.mk.injEq] at H
                              obtain ⟨rfl, rfl⟩ := H
                              go_wp2
                              go_ret2
                              exact ⟨by first | rfl | (simp [errW_none, errW_some] <;> rfl) | (simp [*, errW_none, errW_some] <;> rfl), by repeat (first | (with_reducible first | exact HB.out | apply below_alloc | apply pw_below_drewN | apply below_drew1) | exact HB.out)⟩
                            · replace c23 := Bool.eq_false_iff.mpr c23
                              subst c23
                              have H1 : (some (wrap64 (a1 + x2_15), 0)) = some (r1, r2) := by rw [if_neg (show ¬ (false = true) by decide)] at H; exact H
                              clear H
                              have H := H1
                              clear H1
                              simp only [Option.some.injEq, Prod.mk.injEq] at H
                              obtain ⟨rfl, rfl⟩ := H
                              go_wp2
                              go_ret2
                              exact ⟨by first | rfl | (simp [errW_none, errW_some] <;> rfl) | (simp [*, errW_none, errW_some] <;> rfl), by repeat (first | (with_reducible first | exact HB.out | apply below_alloc | apply pw_below_drewN | apply below_drew1) | exact HB.out)⟩
                  · replace c15 := Bool.eq_false_iff.mpr c15
                    subst c15
                    have H1 : (if a1 = 0 then (some (wrap64 (a1 * a2), 0)) else (if a2 = 0 then (some (wrap64 (a1 * a2), 0)) else (if (mx a2 (wrap64 (-a2))) = 0 then (none) else (if (mx a1 (wrap64 (-a1))) > (wrap64 (Int.tdiv (4611686018427387904 : Int) (mx a2 (wrap64 (-a2))))) then (some (0, 4)) else (some (wrap64 (a1 * a2), 0)))))) = some (r1, r2) := by rw [if_neg (show ¬ (false = true) by decide)] at H; exact H
                    clear H
                    have H := H1
                    clear H1
                    by_cases c24 : a1 = 0
                    · rw [if_pos c24] at H
                      obtain ⟨c24b0, c24b1⟩ := eqB_ c24
                      clear c24
                      simp only [Option.some.injEq, Prod.mk.injEq] at H
                      obtain ⟨rfl, rfl⟩ := H
                      go_wp2
                      go_ret2
                      exact ⟨by first | rfl | (simp [errW_none, errW_some] <;> rfl) | (simp [*, errW_none, errW_some] <;> rfl), by repeat (first | (with_reducible first | exact HB.out | apply below_alloc | apply pw_below_drewN | apply below_drew1) | exact HB.out)⟩
                    · rw [if_neg c24] at H
                      obtain ⟨c24b0, c24b1⟩ := neB_ c24
                      by_cases c25 : a2 = 0
                      · rw [if_pos c25] at H
                        obtain ⟨c25b0, c25b1⟩ := eqB_ c25
                        clear c25
                        simp only [Option.some.injEq, Prod.mk.injEq] at H
                        obtain ⟨rfl, rfl⟩ := H
                        go_wp2
                        go_ret2
                        exact ⟨by first | rfl | (simp [errW_none, errW_some] <;> rfl) | (simp [*, errW_none, errW_some] <;> rfl), by repeat (first | (with_reducible first | exact HB.out | apply below_alloc | apply pw_below_drewN | apply below_drew1) | exact HB.out)⟩
                      · rw [if_neg c25] at H
                        obtain ⟨c25b0, c25b1⟩ := neB_ c25
                        obtain ⟨ji26, hji26⟩ : ∃ j_ : Int, (mx a1 (wrap64 (-a1))) = j_ := ⟨_, rfl⟩
                        replace H : (if (mx a2 (wrap64 (-a2))) = 0 then (none) else (if (ji26) > (wrap64 (Int.tdiv (4611686018427387904 : Int) (mx a2 (wrap64 (-a2))))) then (some (0, 4)) else (some (wrap64 (a1 * a2), 0)))) = some (r1, r2) := by first | (rw [hji26] at H; exact H) | (simp only [hji26] at H ⊢; exact H)
                        have hji26_ : (if a1 < (wrap64 (-a1)) then (wrap64 (-a1)) else a1) = ji26 := hji26
                        obtain ⟨ji27, hji27⟩ : ∃ j_ : Int, (mx a2 (wrap64 (-a2))) = j_ := ⟨_, rfl⟩
                        replace H : (if (ji27) = 0 then (none) else (if (ji26) > (wrap64 (Int.tdiv (4611686018427387904 : Int) (ji27))) then (some (0, 4)) else (some (wrap64 (a1 * a2), 0)))) = some (r1, r2) := by first | (rw [hji27] at H; exact H) | (simp only [hji27] at H ⊢; exact H)
                        have hji27_ : (if a2 < (wrap64 (-a2)) then (wrap64 (-a2)) else a2) = ji27 := hji27
                        by_cases c28 : (ji27) = 0
                        · rw [if_pos c28] at H
                          exact absurd H (by simp)
                        · rw [if_neg c28] at H
                          obtain ⟨c28b0, c28b1⟩ := neB_ c28
                          by_cases c29 : (ji26) > (wrap64 (Int.tdiv (4611686018427387904 : Int) (ji27)))
                          · rw [if_pos c29] at H
                            have c29b0 : decide ((wrap64 (Int.tdiv (4611686018427387904 : Int) (ji27))) < (ji26)) = true := decide_eq_true c29
                            clear c29
                            simp only [Option.some.injEq, Prod.mk.injEq] at H
                            obtain ⟨rfl, rfl⟩ := H
                            go_wp2
                            go_ret2
                            exact ⟨by first | rfl | (simp [errW_none, errW_some] <;> rfl) | (simp only [← hji26, ← hji27]; first | rfl | (simp [errW_none, errW_some] <;> rfl)) | (simp [*, errW_none, errW_some] <;> rfl), by repeat (first | (with_reducible first | exact HB.out | apply below_alloc | apply pw_below_drewN | apply below_drew1) | exact HB.out)⟩
                          · rw [if_neg c29] at H
                            have c29b0 : decide ((wrap64 (Int.tdiv (4611686018427387904 : Int) (ji27))) < (ji26)) = false := decide_eq_false c29
                            clear c29
                            simp only [Option.some.injEq, Prod.mk.injEq] at H
                            obtain ⟨rfl, rfl⟩ := H
                            go_wp2
                            go_ret2
                            exact ⟨by first | rfl | (simp [errW_none, errW_some] <;> rfl) | (simp only [← hji26, ← hji27]; first | rfl | (simp [errW_none, errW_some] <;> rfl)) | (simp [*, errW_none, errW_some] <;> rfl), by repeat (first | (with_reducible first | exact HB.out | apply below_alloc | apply pw_below_drewN | apply below_drew1) | exact HB.out)⟩
end Go.Proofs.Ytconpnagoijacaa.P
end
section
namespace Go.Proofs.Ytconpnagoijacaa.P
open Go.RowKit Go.Proofs.YtconpnagoijacaaW.PrintWords Go.Proofs.YtconpnagoijacaaW.PrintLast Go.Proofs.YtconpnagoijacaaW.PrintMore
attribute [local go_sem] max2_int min2_int max_two min_two max_three min_three max_four min_four
set_option linter.unusedVariables false
set_option linter.unusedSimpArgs false
mutual
def constableref01_Eval.l0 : Nat → List (S52) → List (S62) → List (S40) → Int → Option (Int × Int × ByteArray × Int)
  | 0, _, _, _, _ => none
  | k + 1, x0, x1, x6, x7 => if x7 < (x0.length : Int) then (if 0 ≤ x7 then (if ((rd_T52 x0 x7).f0) = 1 then ((constableref01_Get.f k x1 ((rd_T52 x0 x7).f1)).bind fun bt357 => (if bt357.2.2.2 = true then (if x6.length < 4398046511104 then (constableref01_Eval.l0 k x0 x1 (x6 ++ [(⟨bt357.1, bt357.2.1, bt357.2.2.1⟩ : S40)]) (wrap64 (x7 + 1))) else (none)) else (some (0, 0, (⟨#[]⟩ : ByteArray), 5)))) else (if ((rd_T52 x0 x7).f0) = 2 then (if x6.length < 4398046511104 then (constableref01_Eval.l0 k x0 x1 (x6 ++ [(⟨(rd_T52 x0 x7).f2.f0, (rd_T52 x0 x7).f2.f1, (rd_T52 x0 x7).f2.f2⟩ : S40)]) (wrap64 (x7 + 1))) else (none)) else (if 0 ≤ (wrap64 ((x6.length : Int) - 2)) then (if (wrap64 ((x6.length : Int) - 2)) < (x6.length : Int) then (if 0 ≤ (wrap64 ((x6.length : Int) - 1)) then (if (wrap64 ((x6.length : Int) - 1)) < (x6.length : Int) then (if ((rd_T40 x6 (wrap64 ((x6.length : Int) - 2))).f0) = 1 then (constableref01_Eval.j1 k x0 x1 x6 x7 (((rd_T40 x6 (wrap64 ((x6.length : Int) - 1))).f0) != 1) ((rd_T40 x6 (wrap64 ((x6.length : Int) - 2))).f0) ((rd_T40 x6 (wrap64 ((x6.length : Int) - 2))).f1) ((rd_T40 x6 (wrap64 ((x6.length : Int) - 2))).f2) ((rd_T40 x6 (wrap64 ((x6.length : Int) - 1))).f0) ((rd_T40 x6 (wrap64 ((x6.length : Int) - 1))).f1) ((rd_T40 x6 (wrap64 ((x6.length : Int) - 1))).f2)) else (constableref01_Eval.j1 k x0 x1 x6 x7 true ((rd_T40 x6 (wrap64 ((x6.length : Int) - 2))).f0) ((rd_T40 x6 (wrap64 ((x6.length : Int) - 2))).f1) ((rd_T40 x6 (wrap64 ((x6.length : Int) - 2))).f2) ((rd_T40 x6 (wrap64 ((x6.length : Int) - 1))).f0) ((rd_T40 x6 (wrap64 ((x6.length : Int) - 1))).f1) ((rd_T40 x6 (wrap64 ((x6.length : Int) - 1))).f2))) else (none)) else (none)) else (none)) else (none)))) else (none)) else (if 0 < (x6.length : Int) then (some ((rd_T40 x6 0).f0, (rd_T40 x6 0).f1, (rd_T40 x6 0).f2, 0)) else (none))
def constableref01_Eval.j1 : Nat → List (S52) → List (S62) → List (S40) → Int → Bool → Int → Int → ByteArray → Int → Int → ByteArray → Option (Int × Int × ByteArray × Int)
  | 0, _, _, _, _, _, _, _, _, _, _, _ => none
  | k + 1, x0, x1, x6, x7, x44, x372000, x372001, x372002, x373000, x373001, x373002 => if x44 = true then (some (0, 0, (⟨#[]⟩ : ByteArray), 3)) else (if 0 ≤ x7 then (if x7 < (x0.length : Int) then ((constableref01_Do.f k ((rd_T52 x0 x7).f0) x372001 x373001).bind fun bt374 => (if bt374.2 = 0 then (if 0 ≤ (wrap64 ((x6.length : Int) - 2)) then (if (wrap64 ((x6.length : Int) - 2)) ≤ (x6.length : Int) then ((some (x6.take ((wrap64 ((x6.length : Int) - 2)) : Int).toNat : List (S40))).bind fun y376 => (if y376.length < 4398046511104 then (constableref01_Eval.l0 k x0 x1 (y376 ++ [(⟨1, bt374.1, (⟨#[]⟩ : ByteArray)⟩ : S40)]) (wrap64 (x7 + 1))) else (none))) else (none)) else (none)) else (some (0, 0, (⟨#[]⟩ : ByteArray), bt374.2)))) else (none)) else (none))
end
def constableref01_Eval.f (k : Nat) (l0 : List (S52)) (l1 : List (S62)) : Option (Int × Int × ByteArray × Int) := constableref01_Eval.l0 k l0 l1 ([] : List (S40)) 0
theorem constableref01_Eval.mono_l : ∀ k, (∀ y0 y1 y2 y3, LeO (constableref01_Eval.l0 k y0 y1 y2 y3) (constableref01_Eval.l0 (k + 1) y0 y1 y2 y3)) ∧ (∀ y0 y1 y2 y3 y4 y5 y6 y7 y8 y9 y10, LeO (constableref01_Eval.j1 k y0 y1 y2 y3 y4 y5 y6 y7 y8 y9 y10) (constableref01_Eval.j1 (k + 1) y0 y1 y2 y3 y4 y5 y6 y7 y8 y9 y10))
  | 0 => ⟨fun _ _ _ _ r h => by simp [constableref01_Eval.l0] at h, fun _ _ _ _ _ _ _ _ _ _ _ r h => by simp [constableref01_Eval.j1] at h⟩
  | k + 1 => by
    obtain ⟨ih0, ih1⟩ := constableref01_Eval.mono_l k
    refine ⟨?_, ?_⟩
    · intro y0 y1 y2 y3
      unfold constableref01_Eval.l0
      repeat' first
      | (with_reducible exact ih0 _ _ _ _)
      | (with_reducible exact ih1 _ _ _ _ _ _ _ _ _ _ _)
      | (with_reducible exact constableref01_Do.mono _ _ _ _)
      | (with_reducible exact constableref01_Get.mono _ _ _)
      | (with_reducible exact LeO.refl _)
      | (with_reducible exact LeO.none _)
      | (with_reducible refine LeO.ite ?_ ?_)
      | (with_reducible refine LeO.bind ?_ (fun _ => ?_))
      | exact ih0 _ _ _ _
      | exact ih1 _ _ _ _ _ _ _ _ _ _ _
      | exact constableref01_Do.mono _ _ _ _
      | exact constableref01_Get.mono _ _ _
      | exact LeO.none _
      | refine LeO.ite ?_ ?_
      | refine LeO.bind ?_ (fun _ => ?_)
    · intro y0 y1 y2 y3 y4 y5 y6 y7 y8 y9 y10
      unfold constableref01_Eval.j1
      repeat' first
      | (with_reducible exact ih0 _ _ _ _)
      | (with_reducible exact ih1 _ _ _ _ _ _ _ _ _ _ _)
      | (with_reducible exact constableref01_Do.mono _ _ _ _)
      | (with_reducible exact constableref01_Get.mono _ _ _)
      | (with_reducible exact LeO.refl _)
      | (with_reducible exact LeO.none _)
      | (with_reducible refine LeO.ite ?_ ?_)
      | (with_reducible refine LeO.bind ?_ (fun _ => ?_))
      | exact ih0 _ _ _ _
      | exact ih1 _ _ _ _ _ _ _ _ _ _ _
      | exact constableref01_Do.mono _ _ _ _
      | exact constableref01_Get.mono _ _ _
      | exact LeO.none _
      | refine LeO.ite ?_ ?_
      | refine LeO.bind ?_ (fun _ => ?_)
theorem constableref01_Eval.mono : ∀ a0 a1 k, LeO (constableref01_Eval.f k a0 a1) (constableref01_Eval.f (k + 1) a0 a1) := by
  intro a0 a1 k
  obtain ⟨ih0, ih1⟩ := constableref01_Eval.mono_l k
  unfold constableref01_Eval.f
  repeat' first
      | (with_reducible exact ih0 _ _ _ _)
      | (with_reducible exact ih1 _ _ _ _ _ _ _ _ _ _ _)
      | (with_reducible exact constableref01_Do.mono _ _ _ _)
      | (with_reducible exact constableref01_Get.mono _ _ _)
      | (with_reducible exact LeO.refl _)
      | (with_reducible exact LeO.none _)
      | (with_reducible refine LeO.ite ?_ ?_)
      | (with_reducible refine LeO.bind ?_ (fun _ => ?_))
      | exact ih0 _ _ _ _
      | exact ih1 _ _ _ _ _ _ _ _ _ _ _
      | exact constableref01_Do.mono _ _ _ _
      | exact constableref01_Get.mono _ _ _
      | exact LeO.none _
      | refine LeO.ite ?_ ?_
      | refine LeO.bind ?_ (fun _ => ?_)
def constableref01_Eval.T6 : Bool × List (List Nat × List Nat) := (true, [([], []), ([], []), ([1], [1]), ([2], [2]), ([0, 3], [0, 3]), ([4], [4]), ([], []), ([], []), ([7], [7]), ([8], [8]), ([6, 9], [6, 9]), ([10], [10]), ([], []), ([], []), ([12, 5, 0, 1, 2, 3, 4, 5, 12, 13], [5, 12]), ([13, 11, 14, 0, 1, 2, 3, 4, 5, 6, 7, 8, 9, 10, 11, 12, 13, 14], [11, 13])])
def constableref01_Eval.B6 : List Nat := [0, 0, 2, 6, 15, 31, 0, 0, 128, 384, 960, 1984, 0, 0, 12351, 32767]
theorem constableref01_Eval.tab6 : rtab .any (opsOf Try.f33 6) = constableref01_Eval.T6 := by kernel_rfl
theorem constableref01_Eval.bits6 : waitsOk constableref01_Eval.T6.2 constableref01_Eval.B6 = true := by kernel_rfl
def constableref01_Eval.T9 : Bool × List (List Nat × List Nat) := (true, [([], []), ([], []), ([0, 1], [0, 1]), ([2], [2]), ([3], [3]), ([], []), ([5], [5]), ([], []), ([7], [7]), ([4, 6, 8], [4, 6, 8]), ([9], [9]), ([10], [10]), ([10], [10]), ([11, 9, 0, 1, 2, 3, 4, 5, 6, 7, 8, 9, 10, 11], [11]), ([12, 13, 0, 1, 2, 3, 4, 5, 6, 7, 8, 9, 10, 11, 12, 13], [12])])
def constableref01_Eval.B9 : List Nat := [0, 0, 3, 7, 15, 0, 32, 0, 128, 511, 1023, 2047, 2047, 4095, 16383]
theorem constableref01_Eval.tab9 : rtab .any (opsOf Try.f33 9) = constableref01_Eval.T9 := by kernel_rfl
theorem constableref01_Eval.bits9 : waitsOk constableref01_Eval.T9.2 constableref01_Eval.B9 = true := by kernel_rfl
set_option maxHeartbeats 8000000 in
set_option maxRecDepth 100000 in
theorem constableref01_Eval.calls (k : Nat) (A0 : Option Addr) (c0 : Nat) (l0 : List (S52)) (A1 : Option Addr) (c1 : Nat) (l1 : List (S62)) (r1 : Int) (r2 : Int) (r3 : ByteArray) (r4 : Int) (w : World) (hr0 : Kd.C k52 w A0 l0.length l0) (hc0 : l0.length ≤ c0) (hr1 : Kd.C k62 w A1 l1.length l1) (hc1 : l1.length ≤ c1) (h : constableref01_Eval.f k l0 l1 = some (r1, r2, r3, r4)) :
    Calls Try.prog 33 #[.slice A0 l0.length c0, .slice A1 l1.length c1] w fun e w' => e = .returned (.tuple #[.agg #[.int .i64 r1, .int .i64 r2, .string r3], .int .i64 r4]) ∧ Below w.heap.size w w' := by
  have hu40 := Try.underlying40
  have HR0 := Aside0.mk hr0
  have HC0 := Aside0.mk hc0
  clear hr0 hc0
  have HR1 := Aside0.mk hr1
  have HC1 := Aside0.mk hc1
  clear hr1 hc1
  have HB := Aside0.mk (Below.refl w.heap.size w)
  have H : (constableref01_Eval.l0 k l0 l1 ([] : List (S40)) 0) = some (r1, r2, r3, r4) := h
  clear h
  have H' := Aside0.mk H
  clear H
  go_enter Try.func33, Try.ntmps33
  go_wp2_with (first | ((with_reducible refine gate_dst (N := 4) rfl ?_); refine box_event ?hg (N := 4) ?hd (cs := #[.int .i64 0, .int .i64 0, .string (⟨#[]⟩ : ByteArray)]) (t := 40) ?hr ?_; (case hd => rfl); (case hg => rfl); (case hr => first | (go_simp; done) | (go_simp; rfl)); intro gb353 hg w3 hbox hb; have n0_ := bs_ (be_ HB) hb; have n1_ := Aside0.mk (hbox); have n2_ := gs_ hg (be_ HB); have n3_ := gs_ hg (be_ HB); clear HB; have HB := n0_; have BK353 := n1_; have GW353 := n2_; have GE353 := n3_; clear n0_ n1_ n2_ n3_; clear hb hbox hg))
  go_loopg [6, 7] k (fun kq v6 v7 w' => ∃ (x6_1 : List (S40)) (x7_1 : Int) (x354000_1 : Int) (x354001_1 : Int) (x354002_1 : ByteArray), v7 = .int .i64 x7_1 ∧ Aside0 (constableref01_Eval.l0 kq l0 l1 x6_1 x7_1 = some (r1, r2, r3, r4)) ∧ Aside0 (kq ≤ k) ∧ Aside0 (Kd.R k40 40 w' w.heap.size (fun k_ => k_ ≠ gb353) v6 x6_1) ∧ Aside0 (w'.heap[gb353]? = some (.cells #[.int .i64 x354000_1, .int .i64 x354001_1, .string x354002_1] 40 (0, 0))) ∧ Aside0 (Below w.heap.size w w'))
  case atStart => exact ⟨(([] : List (S40))), (0), (0), (0), ((⟨#[]⟩ : ByteArray)), ra_, H', ⟨Nat.le_refl _⟩, ⟨by first | exact Kd.R_nil _ _ _ _ _ | exact Kd.N_nil _ _ _ _ _ | exact Kd.V_nil _ _ _ _ _ | exact Kd.Q_nil _ _ _ _ _ | exact Kd.S_nil _ _ _ _ _⟩, ⟨by (with_reducible repeat (first | refine blk_drewN ?_ _ | refine blk_drew ?_ | refine blk_alloc ?_ _)); exact BK353.out⟩, ⟨by repeat (first | (with_reducible first | exact HB.out | apply below_alloc | apply pw_below_drewN | apply below_drew1 | refine below_set ?_ GE353.out) | exact HB.out)⟩⟩
  case round =>
    clear H'
    try clear c1
    try clear p2
    try clear c3
    obtain ⟨x6_1, x7_1, x354000_1, x354001_1, x354002_1, rfl, HA, HK1, HO_6, BK353, HB⟩ := hrel
    cases gk with
    | zero => exact absurd HA.out (by simp [constableref01_Eval.l0])
    | succ k1 =>
      have H := HA.out
      clear HA
      simp only [constableref01_Eval.l0] at H
      by_cases c4 : x7_1 < (l0.length : Int)
      · rw [if_pos c4] at H
        have c4b0 : decide (x7_1 < (l0.length : Int)) = true := decide_eq_true c4
        clear c4
        by_cases c5 : 0 ≤ x7_1
        · rw [if_pos c5] at H
          have c5b0 : decide (0 ≤ x7_1) = true := decide_eq_true c5
          clear c5
          by_cases c6 : ((rd_T52 l0 x7_1).f0) = 1
          · rw [if_pos c6] at H
            obtain ⟨c6b0, c6b1⟩ := eqB_ c6
            clear c6
            replace H := Option.bind_eq_some_iff.mp H
            obtain ⟨⟨t357, t358, t359, t360⟩, A70, H⟩ := H
            replace H : (if t360 = true then (if x6_1.length < 4398046511104 then (constableref01_Eval.l0 k1 l0 l1 (x6_1 ++ [(⟨t357, t358, t359⟩ : S40)]) (wrap64 (x7_1 + 1))) else (none)) else (some (0, 0, (⟨#[]⟩ : ByteArray), 5))) = some (r1, r2, r3, r4) := H
            have A7 := Aside0.mk A70
            clear A70
            by_cases c8 : t360 = true
            · subst c8
              have H1 : (if x6_1.length < 4398046511104 then (constableref01_Eval.l0 k1 l0 l1 (x6_1 ++ [(⟨t357, t358, t359⟩ : S40)]) (wrap64 (x7_1 + 1))) else (none)) = some (r1, r2, r3, r4) := by rw [if_pos rfl] at H; exact H
              clear H
              have H := H1
              clear H1
              by_cases c9 : x6_1.length < 4398046511104
              · rw [if_pos c9] at H
                have LMc9 := Aside0.mk c9
                clear c9
                obtain ⟨y362, hy362⟩ : ∃ y_ : List (S40), y_ = (x6_1 ++ [(⟨t357, t358, t359⟩ : S40)]) := ⟨_, rfl⟩
                replace H : (constableref01_Eval.l0 k1 l0 l1 y362 (wrap64 (x7_1 + 1))) = some (r1, r2, r3, r4) := by first | (rw [hy362]; with_reducible exact H) | (have H2_ := (Option.bind_some _ _).symm.trans H; rw [hy362]; with_reducible exact H2_) | (have H2_ := (Option.bind_some _ _).symm.trans H; with_reducible exact H2_) | with_reducible exact H | (rw [hy362]; exact H) | exact H
                have Ny362 := Aside0.mk hy362
                clear hy362
                have H' := Aside0.mk H
                clear H
                have p355 : 0 ≤ (x7_1 : Int) := dt_
                have q355 : x7_1 < (l0.length : Int) := dt_
                obtain ⟨ad355, e355, hx355_0, hx355_1, hx355_2, hx355_3, hx355_4⟩ := at_T52 HR0.out x7_1 p355 q355
                cases e355
                replace hx355_0 := cm_ HB hx355_0
                replace hx355_1 := cm_ HB hx355_1
                replace hx355_2 := cm_ HB hx355_2
                replace hx355_3 := cm_ HB hx355_3
                replace hx355_4 := cm_ HB hx355_4
                replace p355 := eq_true p355
                replace q355 := eq_true q355
                have p356 : 0 ≤ (x7_1 : Int) := dt_
                have q356 : x7_1 < (l0.length : Int) := dt_
                obtain ⟨ad356, e356, hx356_0, hx356_1, hx356_2, hx356_3, hx356_4⟩ := at_T52 HR0.out x7_1 p356 q356
                obtain rfl : ad355 = ad356 := (by injection e356)
                replace hx356_0 := cm_ HB hx356_0
                replace hx356_1 := cm_ HB hx356_1
                replace hx356_2 := cm_ HB hx356_2
                replace hx356_3 := cm_ HB hx356_3
                replace hx356_4 := cm_ HB hx356_4
                replace p356 := eq_true p356
                replace q356 := eq_true q356
                go_wp2_with (first | ((with_reducible refine gate_callee (f := 34) rfl ?_); refine goesL_ (some 81) rfl rfl Try.func34 (by kernel_rfl) rfl #[.slice A1 l1.length c1, .string ((rd_T52 l0 x7_1).f1)] rfl ga_ ?_; (with_reducible refine (constableref01_Get.calls k1 _ _ l1 ((rd_T52 l0 x7_1).f1) t357 t358 t359 true _ ?side1 ?side2 A7.out).mono ?_); (case side1 => repeat (first | exact (Kd.C_below HR1.out HB.out) | (with_reducible refine Kd.C_alloc ?_ _) | (with_reducible refine Kd.C_drewN ?_ _) | (with_reducible refine Kd.C_drew ?_))); (case side2 => exact HC1.out); rintro e w10 ⟨rfl, hb⟩; refine ⟨_, rfl, ?_⟩; have n0_ := kb_ (ku_ HO_6.out) hb; have n1_ := bb_ (bu_ BK353) hb; have n2_ := bs_ (be_ HB) hb; clear HO_6; clear BK353; clear HB; have HO_6 := n0_; have BK353 := n1_; have HB := n2_; clear n0_ n1_ n2_; (try clear hb); (try clear hb2); (try clear hk); (try clear hi)) | ((with_reducible refine gate_dst (N := 8) rfl ?_); refine box_event ?hg (N := 8) ?hd (cs := #[.int .i64 0, .int .i64 0, .string (⟨#[]⟩ : ByteArray)]) (t := 40) ?hr ?_; (case hd => rfl); (case hg => rfl); (case hr => first | (go_simp; done) | (go_simp; rfl)); intro gb361 hg w11 hbox hb; have n0_ := Aside0.mk (Kd.R_below (Kd.R_elderB (ku_ HO_6.out) gb361 (Nat.le_of_eq hg.symm)) hb); have n1_ := bb_ (bu_ BK353) hb; have n2_ := bs_ (be_ HB) hb; have n3_ := Aside0.mk (hbox); have n4_ := gs_ hg (be_ HB); have n5_ := gs_ hg (be_ HB); have n6_ := nl_ hg (bu_ BK353); have n7_ := ng_ hg (bu_ BK353); clear HO_6; clear BK353; clear HB; have HO_6 := n0_; have BK353 := n1_; have HB := n2_; have BK361 := n3_; have GW361 := n4_; have GE361 := n5_; have NB353_361 := n6_; have NB361_353 := n7_; clear n0_ n1_ n2_ n3_ n4_ n5_ n6_ n7_; clear hb hbox hg; have hnb12 := NB361_353.out; have hnc12 := NB353_361.out; have hcz13_0 : w11.cell? ⟨gb361, 0, none⟩ = some (.int .i64 0) := (blk_cell BK361.out 0).trans rfl; have hcz13_1 : w11.cell? ⟨gb361, 1, none⟩ = some (.int .i64 0) := (blk_cell BK361.out 1).trans rfl; have hcz13_2 : w11.cell? ⟨gb361, 2, none⟩ = some (.string (⟨#[]⟩ : ByteArray)) := (blk_cell BK361.out 2).trans rfl; have hfz13_0 := blk_frozen BK361.out 0; have hfz13_1 := blk_frozen BK361.out 1; have hfz13_2 := blk_frozen BK361.out 2) | ((with_reducible refine gate_builtin (b := .append) (xs := #[.tmp 87, .tmp 89]) rfl ?_); at_builtin; refine Kd.R_append k40 (w0 := w) w.heap.size rfl (.tmp 87) (.tmp 89) 64 40 (.agg #[(.int .i64 0), (.int .i64 0), (.string ⟨#[]⟩)]) 32 rfl Try.underlying64 info40 rfl (by decide) (by omega) u6 x6_1 (⟨t357, t358, t359⟩ : S40) [.int .i64 t357, .int .i64 t358, .string t359] (fun k_ => k_ ≠ gb353 ∧ k_ ≠ gb361) (fun _ => False) rfl (by first | (go_simp; done) | (go_simp; rfl)) ?aP (fun _ hk => hk.elim) ?aF ?aO ?aB ?aS ?aL ?_; (case aP => exact k40_mkM _ _ _ (⟨t357, t358, t359⟩ : S40)); (case aB => exact (be_ HB)); (case aF => exact (fun k_ hk => ⟨Kd.freshB (bu_ BK353) k_ hk, Kd.freshB (o := .cells #[.int .i64 t357, .int .i64 t358, .string t359] 40 (0, 0)) (bp_ BK361) k_ hk⟩)); (case aO => exact (by (with_reducible repeat (first | apply Kd.R_alloc | apply Kd.R_drewN | apply Kd.R_drew)); exact Kd.R_mono (Kd.R_far (p := ⟨gb361, 2, none⟩) (Kd.R_far (p := ⟨gb361, 1, none⟩) (Kd.R_far (p := ⟨gb361, 0, none⟩) (Kd.R_mono HO_6.out (fun k_ hk => (⟨hk, hk.2⟩ : _ ∧ k_ ≠ gb361))) (fun _ hk => hk.2) (.int .i64 t357)) (fun _ hk => hk.2) (.int .i64 t358)) (fun _ hk => hk.2) (.string t359)) (fun _ hk => ⟨hk.1.1, hk.1.2⟩))); (case aS => exact (below_size (be_ HB))); (case aL => have := LMc9.out; omega); intro v363 w14 ho hb hg hat; rw [← Ny362.out] at ho; have n0_ := Aside0.mk (blk_grown (bu_ BK353) hg (Kd.R_away HO_6.out (fun _ hk => hk.1))); have n1_ := Aside0.mk (blk_grown (o := .cells #[.int .i64 t357, .int .i64 t358, .string t359] 40 (0, 0)) (bp_ BK361) hg (Kd.R_away HO_6.out (fun _ hk => hk.2))); have n2_ := Aside0.mk (hb); have n3_ := Aside0.mk (ho); clear BK353; clear BK361; clear HB; clear HO_6; have BK353 := n0_; have BK361 := n1_; have HB := n2_; have HO364 := n3_; clear n0_ n1_ n2_ n3_; clear ho hb hg hat))
                go_roundg k1
                case measure => have := HK1.out; omega
                case rel => exact ⟨(y362), (wrap64 (x7_1 + 1)), (x354000_1), (x354001_1), (x354002_1), ra_, H', ⟨by have := HK1.out; omega⟩, ⟨by (with_reducible repeat (first | apply Kd.R_alloc | apply Kd.R_drewN | apply Kd.R_drew)); exact Kd.R_mono HO364.out (fun _ hk => hk.1)⟩, ⟨by (with_reducible repeat (first | refine blk_drewN ?_ _ | refine blk_drew ?_ | refine blk_alloc ?_ _)); exact BK353.out⟩, ⟨by repeat (first | (with_reducible first | exact HB.out | apply below_alloc | apply pw_below_drewN | apply below_drew1 | refine below_set ?_ GE353.out | refine below_set ?_ GE361.out) | exact HB.out)⟩⟩
              · rw [if_neg c9] at H
                exact absurd H (by simp)
            · replace c8 := Bool.eq_false_iff.mpr c8
              subst c8
              have H1 : (some (0, 0, (⟨#[]⟩ : ByteArray), 5)) = some (r1, r2, r3, r4) := by rw [if_neg (show ¬ (false = true) by decide)] at H; exact H
              clear H
              have H := H1
              clear H1
              simp only [Option.some.injEq, Prod.mk.injEq] at H
              obtain ⟨rfl, rfl, rfl, rfl⟩ := H
              have p355 : 0 ≤ (x7_1 : Int) := dt_
              have q355 : x7_1 < (l0.length : Int) := dt_
              obtain ⟨ad355, e355, hx355_0, hx355_1, hx355_2, hx355_3, hx355_4⟩ := at_T52 HR0.out x7_1 p355 q355
              cases e355
              replace hx355_0 := cm_ HB hx355_0
              replace hx355_1 := cm_ HB hx355_1
              replace hx355_2 := cm_ HB hx355_2
              replace hx355_3 := cm_ HB hx355_3
              replace hx355_4 := cm_ HB hx355_4
              replace p355 := eq_true p355
              replace q355 := eq_true q355
              have p356 : 0 ≤ (x7_1 : Int) := dt_
              have q356 : x7_1 < (l0.length : Int) := dt_
              obtain ⟨ad356, e356, hx356_0, hx356_1, hx356_2, hx356_3, hx356_4⟩ := at_T52 HR0.out x7_1 p356 q356
              obtain rfl : ad355 = ad356 := (by injection e356)
              replace hx356_0 := cm_ HB hx356_0
              replace hx356_1 := cm_ HB hx356_1
              replace hx356_2 := cm_ HB hx356_2
              replace hx356_3 := cm_ HB hx356_3
              replace hx356_4 := cm_ HB hx356_4
              replace p356 := eq_true p356
              replace q356 := eq_true q356
              go_wp2_with (first | ((with_reducible refine gate_callee (f := 34) rfl ?_); refine goesL_ (some 81) rfl rfl Try.func34 (by kernel_rfl) rfl #[.slice A1 l1.length c1, .string ((rd_T52 l0 x7_1).f1)] rfl ga_ ?_; (with_reducible refine (constableref01_Get.calls k1 _ _ l1 ((rd_T52 l0 x7_1).f1) t357 t358 t359 false _ ?side1 ?side2 A7.out).mono ?_); (case side1 => repeat (first | exact (Kd.C_below HR1.out HB.out) | (with_reducible refine Kd.C_alloc ?_ _) | (with_reducible refine Kd.C_drewN ?_ _) | (with_reducible refine Kd.C_drew ?_))); (case side2 => exact HC1.out); rintro e w15 ⟨rfl, hb⟩; refine ⟨_, rfl, ?_⟩; have n0_ := kb_ (ku_ HO_6.out) hb; have n1_ := bb_ (bu_ BK353) hb; have n2_ := bs_ (be_ HB) hb; clear HO_6; clear BK353; clear HB; have HO_6 := n0_; have BK353 := n1_; have HB := n2_; clear n0_ n1_ n2_; (try clear hb); (try clear hb2); (try clear hk); (try clear hi)) | ((with_reducible refine gate_dst (N := 8) rfl ?_); refine box_event ?hg (N := 8) ?hd (cs := #[.int .i64 0, .int .i64 0, .string (⟨#[]⟩ : ByteArray)]) (t := 40) ?hr ?_; (case hd => rfl); (case hg => rfl); (case hr => first | (go_simp; done) | (go_simp; rfl)); intro gb361 hg w16 hbox hb; have n0_ := Aside0.mk (Kd.R_below (Kd.R_elderB (ku_ HO_6.out) gb361 (Nat.le_of_eq hg.symm)) hb); have n1_ := bb_ (bu_ BK353) hb; have n2_ := bs_ (be_ HB) hb; have n3_ := Aside0.mk (hbox); have n4_ := gs_ hg (be_ HB); have n5_ := gs_ hg (be_ HB); have n6_ := nl_ hg (bu_ BK353); have n7_ := ng_ hg (bu_ BK353); clear HO_6; clear BK353; clear HB; have HO_6 := n0_; have BK353 := n1_; have HB := n2_; have BK361 := n3_; have GW361 := n4_; have GE361 := n5_; have NB353_361 := n6_; have NB361_353 := n7_; clear n0_ n1_ n2_ n3_ n4_ n5_ n6_ n7_; clear hb hbox hg; have hnb17 := NB361_353.out; have hnc17 := NB353_361.out; have hcz18_0 : w16.cell? ⟨gb361, 0, none⟩ = some (.int .i64 0) := (blk_cell BK361.out 0).trans rfl; have hcz18_1 : w16.cell? ⟨gb361, 1, none⟩ = some (.int .i64 0) := (blk_cell BK361.out 1).trans rfl; have hcz18_2 : w16.cell? ⟨gb361, 2, none⟩ = some (.string (⟨#[]⟩ : ByteArray)) := (blk_cell BK361.out 2).trans rfl; have hfz18_0 := blk_frozen BK361.out 0; have hfz18_1 := blk_frozen BK361.out 1; have hfz18_2 := blk_frozen BK361.out 2; have hcz19_0 : w16.cell? ⟨gb353, 0, none⟩ = some (.int .i64 x354000_1) := (blk_cell BK353.out 0).trans rfl; have hcz19_1 : w16.cell? ⟨gb353, 1, none⟩ = some (.int .i64 x354001_1) := (blk_cell BK353.out 1).trans rfl; have hcz19_2 : w16.cell? ⟨gb353, 2, none⟩ = some (.string x354002_1) := (blk_cell BK353.out 2).trans rfl; have hfz19_0 := blk_frozen BK353.out 0; have hfz19_1 := blk_frozen BK353.out 1; have hfz19_2 := blk_frozen BK353.out 2))
              refine bodyPost_ret (results_ct rfl _ _ gb353 40 #[.int .i64 0, .int .i64 0, .string (⟨#[]⟩ : ByteArray)] (0, 0) _ rfl (bp_ BK353) Try.underlying40 rfl (by kernel_rfl)) rfl ?_
              exact ⟨by first | rfl | (simp [errW_none, errW_some] <;> rfl) | (simp [*, errW_none, errW_some] <;> rfl), by repeat (first | (with_reducible first | exact HB.out | apply below_alloc | apply pw_below_drewN | apply below_drew1 | refine below_set ?_ GE353.out | refine below_set ?_ GE361.out) | exact HB.out)⟩
          · rw [if_neg c6] at H
            obtain ⟨c6b0, c6b1⟩ := neB_ c6
            by_cases c20 : ((rd_T52 l0 x7_1).f0) = 2
            · rw [if_pos c20] at H
              obtain ⟨c20b0, c20b1⟩ := eqB_ c20
              clear c20
              by_cases c21 : x6_1.length < 4398046511104
              · rw [if_pos c21] at H
                have LMc21 := Aside0.mk c21
                clear c21
                obtain ⟨y366, hy366⟩ : ∃ y_ : List (S40), y_ = (x6_1 ++ [(⟨(rd_T52 l0 x7_1).f2.f0, (rd_T52 l0 x7_1).f2.f1, (rd_T52 l0 x7_1).f2.f2⟩ : S40)]) := ⟨_, rfl⟩
                replace H : (constableref01_Eval.l0 k1 l0 l1 y366 (wrap64 (x7_1 + 1))) = some (r1, r2, r3, r4) := by first | (rw [hy366]; with_reducible exact H) | (have H2_ := (Option.bind_some _ _).symm.trans H; rw [hy366]; with_reducible exact H2_) | (have H2_ := (Option.bind_some _ _).symm.trans H; with_reducible exact H2_) | with_reducible exact H | (rw [hy366]; exact H) | exact H
                have Ny366 := Aside0.mk hy366
                clear hy366
                have H' := Aside0.mk H
                clear H
                have p355 : 0 ≤ (x7_1 : Int) := dt_
                have q355 : x7_1 < (l0.length : Int) := dt_
                obtain ⟨ad355, e355, hx355_0, hx355_1, hx355_2, hx355_3, hx355_4⟩ := at_T52 HR0.out x7_1 p355 q355
                cases e355
                replace hx355_0 := cm_ HB hx355_0
                replace hx355_1 := cm_ HB hx355_1
                replace hx355_2 := cm_ HB hx355_2
                replace hx355_3 := cm_ HB hx355_3
                replace hx355_4 := cm_ HB hx355_4
                replace p355 := eq_true p355
                replace q355 := eq_true q355
                have p365 : 0 ≤ (x7_1 : Int) := dt_
                have q365 : x7_1 < (l0.length : Int) := dt_
                obtain ⟨ad365, e365, hx365_0, hx365_1, hx365_2, hx365_3, hx365_4⟩ := at_T52 HR0.out x7_1 p365 q365
                obtain rfl : ad355 = ad365 := (by injection e365)
                replace hx365_0 := cm_ HB hx365_0
                replace hx365_1 := cm_ HB hx365_1
                replace hx365_2 := cm_ HB hx365_2
                replace hx365_3 := cm_ HB hx365_3
                replace hx365_4 := cm_ HB hx365_4
                replace p365 := eq_true p365
                replace q365 := eq_true q365
                go_wp2_with (first | ((with_reducible refine gate_builtin (b := .append) (xs := #[.tmp 93, .tmp 99]) rfl ?_); at_builtin; refine Kd.R_append k40 (w0 := w) w.heap.size rfl (.tmp 93) (.tmp 99) 64 40 (.agg #[(.int .i64 0), (.int .i64 0), (.string ⟨#[]⟩)]) 32 rfl Try.underlying64 info40 rfl (by decide) (by omega) u6 x6_1 (⟨(rd_T52 l0 x7_1).f2.f0, (rd_T52 l0 x7_1).f2.f1, (rd_T52 l0 x7_1).f2.f2⟩ : S40) [.int .i64 ((rd_T52 l0 x7_1).f2.f0), .int .i64 ((rd_T52 l0 x7_1).f2.f1), .string ((rd_T52 l0 x7_1).f2.f2)] (fun k_ => k_ ≠ gb353) (fun _ => False) rfl rfl ?aP (fun _ hk => hk.elim) ?aF ?aO ?aB ?aS ?aL ?_; (case aP => exact k40_mkM _ _ _ (⟨(rd_T52 l0 x7_1).f2.f0, (rd_T52 l0 x7_1).f2.f1, (rd_T52 l0 x7_1).f2.f2⟩ : S40)); (case aB => exact (be_ HB)); (case aF => exact (fun k_ hk => Kd.freshB (bu_ BK353) k_ hk)); (case aO => exact (ku_ HO_6.out)); (case aS => exact (below_size (be_ HB))); (case aL => have := LMc21.out; omega); intro v367 w22 ho hb hg hat; rw [← Ny366.out] at ho; have n0_ := Aside0.mk (blk_grown (bu_ BK353) hg (Kd.R_away HO_6.out (fun _ hk => hk))); have n1_ := Aside0.mk (hb); have n2_ := Aside0.mk (ho); clear BK353; clear HB; clear HO_6; have BK353 := n0_; have HB := n1_; have HO368 := n2_; clear n0_ n1_ n2_; clear ho hb hg hat))
                go_roundg k1
                case measure => have := HK1.out; omega
                case rel => exact ⟨(y366), (wrap64 (x7_1 + 1)), (x354000_1), (x354001_1), (x354002_1), ra_, H', ⟨by have := HK1.out; omega⟩, ⟨by (with_reducible repeat (first | apply Kd.R_alloc | apply Kd.R_drewN | apply Kd.R_drew)); exact HO368.out⟩, ⟨by (with_reducible repeat (first | refine blk_drewN ?_ _ | refine blk_drew ?_ | refine blk_alloc ?_ _)); exact BK353.out⟩, ⟨by repeat (first | (with_reducible first | exact HB.out | apply below_alloc | apply pw_below_drewN | apply below_drew1 | refine below_set ?_ GE353.out) | exact HB.out)⟩⟩
              · rw [if_neg c21] at H
                exact absurd H (by simp)
            · rw [if_neg c20] at H
              obtain ⟨c20b0, c20b1⟩ := neB_ c20
              obtain ⟨ji23, hji23⟩ : ∃ j_ : Int, (wrap64 ((x6_1.length : Int) - 2)) = j_ := ⟨_, rfl⟩
              replace H : (if 0 ≤ (ji23) then (if (ji23) < (x6_1.length : Int) then (if 0 ≤ (wrap64 ((x6_1.length : Int) - 1)) then (if (wrap64 ((x6_1.length : Int) - 1)) < (x6_1.length : Int) then (if ((rd_T40 x6_1 (ji23)).f0) = 1 then (constableref01_Eval.j1 k1 l0 l1 x6_1 x7_1 (((rd_T40 x6_1 (wrap64 ((x6_1.length : Int) - 1))).f0) != 1) ((rd_T40 x6_1 (ji23)).f0) ((rd_T40 x6_1 (ji23)).f1) ((rd_T40 x6_1 (ji23)).f2) ((rd_T40 x6_1 (wrap64 ((x6_1.length : Int) - 1))).f0) ((rd_T40 x6_1 (wrap64 ((x6_1.length : Int) - 1))).f1) ((rd_T40 x6_1 (wrap64 ((x6_1.length : Int) - 1))).f2)) else (constableref01_Eval.j1 k1 l0 l1 x6_1 x7_1 true ((rd_T40 x6_1 (ji23)).f0) ((rd_T40 x6_1 (ji23)).f1) ((rd_T40 x6_1 (ji23)).f2) ((rd_T40 x6_1 (wrap64 ((x6_1.length : Int) - 1))).f0) ((rd_T40 x6_1 (wrap64 ((x6_1.length : Int) - 1))).f1) ((rd_T40 x6_1 (wrap64 ((x6_1.length : Int) - 1))).f2))) else (none)) else (none)) else (none)) else (none)) = some (r1, r2, r3, r4) := by first | (rw [hji23] at H; exact H) | (simp only [hji23] at H ⊢; exact H)
              have hji23w : (IntKind.i64.wrap ((x6_1.length : Int) - 2)) = ji23 := (i64_w _).trans hji23
              by_cases c24 : 0 ≤ (ji23)
              · rw [if_pos c24] at H
                have c24b0 : decide (0 ≤ (ji23)) = true := decide_eq_true c24
                clear c24
                by_cases c25 : (ji23) < (x6_1.length : Int)
                · rw [if_pos c25] at H
                  have c25b0 : decide ((ji23) < (x6_1.length : Int)) = true := decide_eq_true c25
                  clear c25
                  obtain ⟨ji26, hji26⟩ : ∃ j_ : Int, (wrap64 ((x6_1.length : Int) - 1)) = j_ := ⟨_, rfl⟩
                  replace H : (if 0 ≤ (ji26) then (if (ji26) < (x6_1.length : Int) then (if ((rd_T40 x6_1 (ji23)).f0) = 1 then (constableref01_Eval.j1 k1 l0 l1 x6_1 x7_1 (((rd_T40 x6_1 (ji26)).f0) != 1) ((rd_T40 x6_1 (ji23)).f0) ((rd_T40 x6_1 (ji23)).f1) ((rd_T40 x6_1 (ji23)).f2) ((rd_T40 x6_1 (ji26)).f0) ((rd_T40 x6_1 (ji26)).f1) ((rd_T40 x6_1 (ji26)).f2)) else (constableref01_Eval.j1 k1 l0 l1 x6_1 x7_1 true ((rd_T40 x6_1 (ji23)).f0) ((rd_T40 x6_1 (ji23)).f1) ((rd_T40 x6_1 (ji23)).f2) ((rd_T40 x6_1 (ji26)).f0) ((rd_T40 x6_1 (ji26)).f1) ((rd_T40 x6_1 (ji26)).f2))) else (none)) else (none)) = some (r1, r2, r3, r4) := by first | (rw [hji26] at H; exact H) | (simp only [hji26] at H ⊢; exact H)
                  have hji26w : (IntKind.i64.wrap ((x6_1.length : Int) - 1)) = ji26 := (i64_w _).trans hji26
                  by_cases c27 : 0 ≤ (ji26)
                  · rw [if_pos c27] at H
                    have c27b0 : decide (0 ≤ (ji26)) = true := decide_eq_true c27
                    clear c27
                    by_cases c28 : (ji26) < (x6_1.length : Int)
                    · rw [if_pos c28] at H
                      have c28b0 : decide ((ji26) < (x6_1.length : Int)) = true := decide_eq_true c28
                      clear c28
                      have HC29 := Aside0.mk H
                      clear H
                      have p355 : 0 ≤ (x7_1 : Int) := dt_
                      have q355 : x7_1 < (l0.length : Int) := dt_
                      obtain ⟨ad355, e355, hx355_0, hx355_1, hx355_2, hx355_3, hx355_4⟩ := at_T52 HR0.out x7_1 p355 q355
                      cases e355
                      replace hx355_0 := cm_ HB hx355_0
                      replace hx355_1 := cm_ HB hx355_1
                      replace hx355_2 := cm_ HB hx355_2
                      replace hx355_3 := cm_ HB hx355_3
                      replace hx355_4 := cm_ HB hx355_4
                      replace p355 := eq_true p355
                      replace q355 := eq_true q355
                      try go_wp2
                      have n0_ := Aside0.mk (Kd.R_drew HO_6.out)
                      have n1_ := Aside0.mk (blk_drew BK353.out)
                      have n2_ := Aside0.mk (below_drew1 HB.out)
                      clear HO_6
                      clear BK353
                      clear HB
                      have HO_6 := n0_
                      have BK353 := n1_
                      have HB := n2_
                      clear n0_ n1_ n2_
                      obtain ⟨Ao31, co31, eo31⟩ := Kd.R_slice HO_6.out
                      (first | subst eo31 | (injection eo31 with f1_ f2_ f3_; have f4_ := f1_.symm; have f5_ := f3_.symm; clear f1_ f2_ f3_; subst f4_; subst f5_))
                      have p369 : 0 ≤ ((ji23) : Int) := dt_
                      have q369 : (ji23) < (x6_1.length : Int) := dt_
                      obtain ⟨ad369, e369, hx369_0, hx369_1, hx369_2⟩ := at_T40 (Kd.R_reads' HO_6.out).2.2 (ji23) p369 q369
                      cases e369
                      replace p369 := eq_true p369
                      replace q369 := eq_true q369
                      have p370 : 0 ≤ ((ji26) : Int) := dt_
                      have q370 : (ji26) < (x6_1.length : Int) := dt_
                      obtain ⟨ad370, e370, hx370_0, hx370_1, hx370_2⟩ := at_T40 (Kd.R_reads' HO_6.out).2.2 (ji26) p370 q370
                      obtain rfl : ad369 = ad370 := (by injection e370)
                      replace p370 := eq_true p370
                      replace q370 := eq_true q370
                      refine start_ (n := 16) (S := fun w' => w'.cell? (ad369.add (((ji23)).toNat * 3)) = some (.int .i64 ((rd_T40 x6_1 (ji23)).f0)) ∧ w'.cell? ⟨(ad369.add (((ji23)).toNat * 3)).block, (ad369.add (((ji23)).toNat * 3)).off + 1, none⟩ = some (.int .i64 ((rd_T40 x6_1 (ji23)).f1)) ∧ w'.cell? ⟨(ad369.add (((ji23)).toNat * 3)).block, (ad369.add (((ji23)).toNat * 3)).off + 2, none⟩ = some (.string ((rd_T40 x6_1 (ji23)).f2)) ∧ w'.cell? (ad369.add (((ji26)).toNat * 3)) = some (.int .i64 ((rd_T40 x6_1 (ji26)).f0)) ∧ w'.cell? ⟨(ad369.add (((ji26)).toNat * 3)).block, (ad369.add (((ji26)).toNat * 3)).off + 1, none⟩ = some (.int .i64 ((rd_T40 x6_1 (ji26)).f1)) ∧ w'.cell? ⟨(ad369.add (((ji26)).toNat * 3)).block, (ad369.add (((ji26)).toNat * 3)).off + 2, none⟩ = some (.string ((rd_T40 x6_1 (ji26)).f2))) (ds := []) (mk_ 16 0) (by kernel_rfl) rfl rfl ⟨hx369_0, hx369_1, hx369_2, hx370_0, hx370_1, hx370_2⟩ (fun hHeld => ?_); refine with_tabW constableref01_Eval.tab6 constableref01_Eval.bits6 (fun HT_ HW_ => ?_)
                      generalize wr.drew = w30 at HO_6 BK353 HB hx369_0 hx369_1 hx369_2 hx370_0 hx370_1 hx370_2 hHeld ⊢
                      refine pu_ 0 25 1 HT_ ?_; refine pu_ 1 26 3 HT_ ?_; refine pu_ 2 27 7 HT_ ?_; refine pu_ 3 28 15 HT_ ?_; refine pu_ 4 29 31 HT_ ?_; refine pu_ 6 31 95 HT_ ?_; refine pu_ 7 32 223 HT_ ?_; refine pu_ 8 33 479 HT_ ?_; refine pu_ 9 34 991 HT_ ?_; refine pu_ 10 35 2015 HT_ ?_; refine tk_ 5 30 2047 HT_ HW_ hHeld ?_; refine tk_ 11 36 4095 HT_ HW_ hHeld ?_
                      refine join_ (σ := Nat × Nat) 2 #[true, true, true, true, true, true, true, true, true, true, true, true, true, true, false, false] (fun s_ => [(10, .pointer (some ⟨s_.1, 0, none⟩)), (11, .pointer (some ⟨s_.2, 0, none⟩))]) (fun s_ w' => (w'.cell? (ad369.add (((ji23)).toNat * 3)) = some (.int .i64 ((rd_T40 x6_1 (ji23)).f0)) ∧ w'.cell? ⟨(ad369.add (((ji23)).toNat * 3)).block, (ad369.add (((ji23)).toNat * 3)).off + 1, none⟩ = some (.int .i64 ((rd_T40 x6_1 (ji23)).f1)) ∧ w'.cell? ⟨(ad369.add (((ji23)).toNat * 3)).block, (ad369.add (((ji23)).toNat * 3)).off + 2, none⟩ = some (.string ((rd_T40 x6_1 (ji23)).f2)) ∧ w'.cell? (ad369.add (((ji26)).toNat * 3)) = some (.int .i64 ((rd_T40 x6_1 (ji26)).f0)) ∧ w'.cell? ⟨(ad369.add (((ji26)).toNat * 3)).block, (ad369.add (((ji26)).toNat * 3)).off + 1, none⟩ = some (.int .i64 ((rd_T40 x6_1 (ji26)).f1)) ∧ w'.cell? ⟨(ad369.add (((ji26)).toNat * 3)).block, (ad369.add (((ji26)).toNat * 3)).off + 2, none⟩ = some (.string ((rd_T40 x6_1 (ji26)).f2))) ∧ (Kd.R k40 40 w' w.heap.size (fun k_ => k_ ≠ gb353 ∧ k_ ≠ s_.1 ∧ k_ ≠ s_.2) (.slice (some ad369) x6_1.length co31) x6_1) ∧ (w'.heap[gb353]? = some (.cells #[.int .i64 x354000_1, .int .i64 x354001_1, .string x354002_1] 40 (0, 0))) ∧ (w'.heap[s_.1]? = some (.cells #[.int .i64 0, .int .i64 0, .string (⟨#[]⟩ : ByteArray)] 40 (0, 0))) ∧ (w'.heap[s_.2]? = some (.cells #[.int .i64 0, .int .i64 0, .string (⟨#[]⟩ : ByteArray)] 40 (0, 0))) ∧ (w.heap.size ≤ s_.1) ∧ (w.heap.size ≤ s_.1) ∧ (gb353 ≠ s_.1) ∧ (s_.1 ≠ gb353) ∧ (s_.2 ≠ s_.1) ∧ (s_.1 ≠ s_.2) ∧ (w.heap.size ≤ s_.2) ∧ (w.heap.size ≤ s_.2) ∧ (gb353 ≠ s_.2) ∧ (s_.2 ≠ gb353) ∧ (Below w.heap.size w w')) ?_ ?_
                      rotate_left
                      · intro hCont
                        refine two_ (i := 12) (j := 13) (Ni := some 10) (Nj := some 11) (mk_ 16 8191) (mk_ 16 12287) rfl rfl rfl rfl (two_of HT_.out (by kernel_rfl)) (by decide) (by decide) (fun K hK => ?_) (fun K hK => ?_)
                        · skip
                          refine box_step ?hg (N := 10) ?hd (cs := #[.int .i64 0, .int .i64 0, .string (⟨#[]⟩ : ByteArray)]) (t := 40) ?hr ?_; (case hd => rfl); (case hg => rfl); (case hr => first | (go_simp; done) | (go_simp; rfl))
                          intro gb371 hg w32 hbox hb
                          have HS0_ := (hb.cell (World.block_lt_of_cell? _ _ (hHeld.1))).trans (hHeld.1)
                          have HS1_ := (hb.cell (World.block_lt_of_cell? _ _ (hHeld.2.1))).trans (hHeld.2.1)
                          have HS2_ := (hb.cell (World.block_lt_of_cell? _ _ (hHeld.2.2.1))).trans (hHeld.2.2.1)
                          have HS3_ := (hb.cell (World.block_lt_of_cell? _ _ (hHeld.2.2.2.1))).trans (hHeld.2.2.2.1)
                          have HS4_ := (hb.cell (World.block_lt_of_cell? _ _ (hHeld.2.2.2.2.1))).trans (hHeld.2.2.2.2.1)
                          have HS5_ := (hb.cell (World.block_lt_of_cell? _ _ (hHeld.2.2.2.2.2))).trans (hHeld.2.2.2.2.2)
                          have n0_ := Aside0.mk (Kd.R_below (Kd.R_elderB (ku_ HO_6.out) gb371 (Nat.le_of_eq hg.symm)) hb)
                          have n1_ := bb_ (bu_ BK353) hb
                          have n2_ := bs_ (be_ HB) hb
                          have n3_ := Aside0.mk (hbox)
                          have n4_ := gs_ hg (be_ HB)
                          have n5_ := gs_ hg (be_ HB)
                          have n6_ := nl_ hg (bu_ BK353)
                          have n7_ := ng_ hg (bu_ BK353)
                          clear HO_6
                          clear BK353
                          clear HB
                          have HO_6 := n0_
                          have BK353 := n1_
                          have HB := n2_
                          have BK371 := n3_
                          have GW371 := n4_
                          have GE371 := n5_
                          have NB353_371 := n6_
                          have NB371_353 := n7_
                          clear n0_ n1_ n2_ n3_ n4_ n5_ n6_ n7_
                          clear hb hbox hg
                          refine hK.out _ _ ⟨HS0_, HS1_, HS2_, HS3_, HS4_, HS5_⟩ (fun hHeld => ?_)
                          clear hK K
                          refine nm_ 10 ?_
                          refine one_ (i := 13) (N := some 11) (mk_ 16 16383) rfl rfl (one_of HT_.out (by kernel_rfl)) (by decide) (fun K hK => ?_)
                          refine box_step ?hg (N := 11) ?hd (cs := #[.int .i64 0, .int .i64 0, .string (⟨#[]⟩ : ByteArray)]) (t := 40) ?hr ?_; (case hd => rfl); (case hg => rfl); (case hr => first | (go_simp; done) | (go_simp; rfl))
                          intro gb372 hg w33 hbox hb
                          have HS0_ := (hb.cell (World.block_lt_of_cell? _ _ (hHeld.1))).trans (hHeld.1)
                          have HS1_ := (hb.cell (World.block_lt_of_cell? _ _ (hHeld.2.1))).trans (hHeld.2.1)
                          have HS2_ := (hb.cell (World.block_lt_of_cell? _ _ (hHeld.2.2.1))).trans (hHeld.2.2.1)
                          have HS3_ := (hb.cell (World.block_lt_of_cell? _ _ (hHeld.2.2.2.1))).trans (hHeld.2.2.2.1)
                          have HS4_ := (hb.cell (World.block_lt_of_cell? _ _ (hHeld.2.2.2.2.1))).trans (hHeld.2.2.2.2.1)
                          have HS5_ := (hb.cell (World.block_lt_of_cell? _ _ (hHeld.2.2.2.2.2))).trans (hHeld.2.2.2.2.2)
                          have n0_ := Aside0.mk (Kd.R_below (Kd.R_elderB (ku_ HO_6.out) gb372 (Nat.le_of_eq hg.symm)) hb)
                          have n1_ := bb_ (bu_ BK353) hb
                          have n2_ := bb_ (bu_ BK371) hb
                          have n3_ := bs_ (be_ HB) hb
                          have n4_ := Aside0.mk (hbox)
                          have n5_ := gs_ hg (be_ HB)
                          have n6_ := gs_ hg (be_ HB)
                          have n7_ := nl_ hg (bu_ BK353)
                          have n8_ := ng_ hg (bu_ BK353)
                          have n9_ := nl_ hg (bu_ BK371)
                          have n10_ := ng_ hg (bu_ BK371)
                          clear HO_6
                          clear BK353
                          clear BK371
                          clear HB
                          have HO_6 := n0_
                          have BK353 := n1_
                          have BK371 := n2_
                          have HB := n3_
                          have BK372 := n4_
                          have GW372 := n5_
                          have GE372 := n6_
                          have NB353_372 := n7_
                          have NB372_353 := n8_
                          have NB371_372 := n9_
                          have NB372_371 := n10_
                          clear n0_ n1_ n2_ n3_ n4_ n5_ n6_ n7_ n8_ n9_ n10_
                          clear hb hbox hg
                          refine hK.out _ _ ⟨HS0_, HS1_, HS2_, HS3_, HS4_, HS5_⟩ (fun hHeld => ?_)
                          clear hK K
                          refine nm_ 11 ?_
                          exact norm_ (by simp only [putAll, Act.put, List.setIfInBounds_toArray, List.set_cons_zero, List.set_cons_succ]) (hCont (gb371, gb372) _ ⟨hHeld, (by (with_reducible repeat (first | apply Kd.R_alloc | apply Kd.R_drewN | apply Kd.R_drew)); exact Kd.R_mono HO_6.out (fun _ hk => ⟨hk.1.1, ⟨hk.1.2, hk.2⟩⟩)), (bu_ BK353), (bu_ BK371), (bu_ BK372), GW371.out, GE371.out, NB353_371.out, NB371_353.out, NB372_371.out, NB371_372.out, GW372.out, GE372.out, NB353_372.out, NB372_353.out, (be_ HB)⟩)
                        · skip
                          refine box_step ?hg (N := 11) ?hd (cs := #[.int .i64 0, .int .i64 0, .string (⟨#[]⟩ : ByteArray)]) (t := 40) ?hr ?_; (case hd => rfl); (case hg => rfl); (case hr => first | (go_simp; done) | (go_simp; rfl))
                          intro gb372 hg w32 hbox hb
                          have HS0_ := (hb.cell (World.block_lt_of_cell? _ _ (hHeld.1))).trans (hHeld.1)
                          have HS1_ := (hb.cell (World.block_lt_of_cell? _ _ (hHeld.2.1))).trans (hHeld.2.1)
                          have HS2_ := (hb.cell (World.block_lt_of_cell? _ _ (hHeld.2.2.1))).trans (hHeld.2.2.1)
                          have HS3_ := (hb.cell (World.block_lt_of_cell? _ _ (hHeld.2.2.2.1))).trans (hHeld.2.2.2.1)
                          have HS4_ := (hb.cell (World.block_lt_of_cell? _ _ (hHeld.2.2.2.2.1))).trans (hHeld.2.2.2.2.1)
                          have HS5_ := (hb.cell (World.block_lt_of_cell? _ _ (hHeld.2.2.2.2.2))).trans (hHeld.2.2.2.2.2)
                          have n0_ := Aside0.mk (Kd.R_below (Kd.R_elderB (ku_ HO_6.out) gb372 (Nat.le_of_eq hg.symm)) hb)
                          have n1_ := bb_ (bu_ BK353) hb
                          have n2_ := bs_ (be_ HB) hb
                          have n3_ := Aside0.mk (hbox)
                          have n4_ := gs_ hg (be_ HB)
                          have n5_ := gs_ hg (be_ HB)
                          have n6_ := nl_ hg (bu_ BK353)
                          have n7_ := ng_ hg (bu_ BK353)
                          clear HO_6
                          clear BK353
                          clear HB
                          have HO_6 := n0_
                          have BK353 := n1_
                          have HB := n2_
                          have BK372 := n3_
                          have GW372 := n4_
                          have GE372 := n5_
                          have NB353_372 := n6_
                          have NB372_353 := n7_
                          clear n0_ n1_ n2_ n3_ n4_ n5_ n6_ n7_
                          clear hb hbox hg
                          refine hK.out _ _ ⟨HS0_, HS1_, HS2_, HS3_, HS4_, HS5_⟩ (fun hHeld => ?_)
                          clear hK K
                          refine nm_ 11 ?_
                          refine one_ (i := 12) (N := some 10) (mk_ 16 16383) rfl rfl (one_of HT_.out (by kernel_rfl)) (by decide) (fun K hK => ?_)
                          refine box_step ?hg (N := 10) ?hd (cs := #[.int .i64 0, .int .i64 0, .string (⟨#[]⟩ : ByteArray)]) (t := 40) ?hr ?_; (case hd => rfl); (case hg => rfl); (case hr => first | (go_simp; done) | (go_simp; rfl))
                          intro gb371 hg w33 hbox hb
                          have HS0_ := (hb.cell (World.block_lt_of_cell? _ _ (hHeld.1))).trans (hHeld.1)
                          have HS1_ := (hb.cell (World.block_lt_of_cell? _ _ (hHeld.2.1))).trans (hHeld.2.1)
                          have HS2_ := (hb.cell (World.block_lt_of_cell? _ _ (hHeld.2.2.1))).trans (hHeld.2.2.1)
                          have HS3_ := (hb.cell (World.block_lt_of_cell? _ _ (hHeld.2.2.2.1))).trans (hHeld.2.2.2.1)
                          have HS4_ := (hb.cell (World.block_lt_of_cell? _ _ (hHeld.2.2.2.2.1))).trans (hHeld.2.2.2.2.1)
                          have HS5_ := (hb.cell (World.block_lt_of_cell? _ _ (hHeld.2.2.2.2.2))).trans (hHeld.2.2.2.2.2)
                          have n0_ := Aside0.mk (Kd.R_below (Kd.R_elderB (ku_ HO_6.out) gb371 (Nat.le_of_eq hg.symm)) hb)
                          have n1_ := bb_ (bu_ BK353) hb
                          have n2_ := bb_ (bu_ BK372) hb
                          have n3_ := bs_ (be_ HB) hb
                          have n4_ := Aside0.mk (hbox)
                          have n5_ := gs_ hg (be_ HB)
                          have n6_ := gs_ hg (be_ HB)
                          have n7_ := nl_ hg (bu_ BK353)
                          have n8_ := ng_ hg (bu_ BK353)
                          have n9_ := nl_ hg (bu_ BK372)
                          have n10_ := ng_ hg (bu_ BK372)
                          clear HO_6
                          clear BK353
                          clear BK372
                          clear HB
                          have HO_6 := n0_
                          have BK353 := n1_
                          have BK372 := n2_
                          have HB := n3_
                          have BK371 := n4_
                          have GW371 := n5_
                          have GE371 := n6_
                          have NB353_371 := n7_
                          have NB371_353 := n8_
                          have NB372_371 := n9_
                          have NB371_372 := n10_
                          clear n0_ n1_ n2_ n3_ n4_ n5_ n6_ n7_ n8_ n9_ n10_
                          clear hb hbox hg
                          refine hK.out _ _ ⟨HS0_, HS1_, HS2_, HS3_, HS4_, HS5_⟩ (fun hHeld => ?_)
                          clear hK K
                          refine nm_ 10 ?_
                          exact norm_ (by simp only [putAll, Act.put, List.setIfInBounds_toArray, List.set_cons_zero, List.set_cons_succ]) (hCont (gb371, gb372) _ ⟨hHeld, (by (with_reducible repeat (first | apply Kd.R_alloc | apply Kd.R_drewN | apply Kd.R_drew)); exact Kd.R_mono HO_6.out (fun _ hk => ⟨hk.1.1, ⟨hk.2, hk.1.2⟩⟩)), (bu_ BK353), (bu_ BK371), (bu_ BK372), GW371.out, GE371.out, NB353_371.out, NB371_353.out, NB372_371.out, NB371_372.out, GW372.out, GE372.out, NB353_372.out, NB372_353.out, (be_ HB)⟩)
                      rintro ⟨gb371, gb372⟩ w34 ⟨hS_, h0_, h1_, h2_, h3_, h4_, h5_, h6_, h7_, h8_, h9_, h10_, h11_, h12_, h13_, h14_⟩
                      have n0_ : Aside0 (Kd.R k40 40 w34 w.heap.size (fun k_ => k_ ≠ gb353 ∧ k_ ≠ gb371 ∧ k_ ≠ gb372) (.slice (some ad369) x6_1.length co31) x6_1) := ⟨h0_⟩
                      have n1_ : Aside0 (w34.heap[gb353]? = some (.cells #[.int .i64 x354000_1, .int .i64 x354001_1, .string x354002_1] 40 (0, 0))) := ⟨h1_⟩
                      have n2_ : Aside0 (w34.heap[gb371]? = some (.cells #[.int .i64 0, .int .i64 0, .string (⟨#[]⟩ : ByteArray)] 40 (0, 0))) := ⟨h2_⟩
                      have n3_ : Aside0 (w34.heap[gb372]? = some (.cells #[.int .i64 0, .int .i64 0, .string (⟨#[]⟩ : ByteArray)] 40 (0, 0))) := ⟨h3_⟩
                      have n4_ : Aside0 (w.heap.size ≤ gb371) := ⟨h4_⟩
                      have n5_ : Aside0 (w.heap.size ≤ gb371) := ⟨h5_⟩
                      have n6_ : Aside0 (gb353 ≠ gb371) := ⟨h6_⟩
                      have n7_ : Aside0 (gb371 ≠ gb353) := ⟨h7_⟩
                      have n8_ : Aside0 (gb372 ≠ gb371) := ⟨h8_⟩
                      have n9_ : Aside0 (gb371 ≠ gb372) := ⟨h9_⟩
                      have n10_ : Aside0 (w.heap.size ≤ gb372) := ⟨h10_⟩
                      have n11_ : Aside0 (w.heap.size ≤ gb372) := ⟨h11_⟩
                      have n12_ : Aside0 (gb353 ≠ gb372) := ⟨h12_⟩
                      have n13_ : Aside0 (gb372 ≠ gb353) := ⟨h13_⟩
                      have n14_ : Aside0 (Below w.heap.size w w34) := ⟨h14_⟩
                      clear HO_6
                      clear BK353
                      clear HB
                      clear h0_ h1_ h2_ h3_ h4_ h5_ h6_ h7_ h8_ h9_ h10_ h11_ h12_ h13_ h14_
                      have HO_6 := n0_
                      have BK353 := n1_
                      have BK371 := n2_
                      have BK372 := n3_
                      have GW371 := n4_
                      have GE371 := n5_
                      have NB353_371 := n6_
                      have NB371_353 := n7_
                      have NB372_371 := n8_
                      have NB371_372 := n9_
                      have GW372 := n10_
                      have GE372 := n11_
                      have NB353_372 := n12_
                      have NB372_353 := n13_
                      have HB := n14_
                      clear n0_ n1_ n2_ n3_ n4_ n5_ n6_ n7_ n8_ n9_ n10_ n11_ n12_ n13_ n14_
                      have hHeld : w34.cell? (ad369.add (((ji23)).toNat * 3)) = some (.int .i64 ((rd_T40 x6_1 (ji23)).f0)) ∧ w34.cell? ⟨(ad369.add (((ji23)).toNat * 3)).block, (ad369.add (((ji23)).toNat * 3)).off + 1, none⟩ = some (.int .i64 ((rd_T40 x6_1 (ji23)).f1)) ∧ w34.cell? ⟨(ad369.add (((ji23)).toNat * 3)).block, (ad369.add (((ji23)).toNat * 3)).off + 2, none⟩ = some (.string ((rd_T40 x6_1 (ji23)).f2)) ∧ w34.cell? (ad369.add (((ji26)).toNat * 3)) = some (.int .i64 ((rd_T40 x6_1 (ji26)).f0)) ∧ w34.cell? ⟨(ad369.add (((ji26)).toNat * 3)).block, (ad369.add (((ji26)).toNat * 3)).off + 1, none⟩ = some (.int .i64 ((rd_T40 x6_1 (ji26)).f1)) ∧ w34.cell? ⟨(ad369.add (((ji26)).toNat * 3)).block, (ad369.add (((ji26)).toNat * 3)).off + 2, none⟩ = some (.string ((rd_T40 x6_1 (ji26)).f2)) := hS_
                      refine norm_ (a' := ?_) ?_ ?_
                      rotate_left
                      · simp only [putAll, Act.put, List.setIfInBounds_toArray, List.set_cons_zero, List.set_cons_succ]
                        rfl
                      refine one_ (i := 14) (N := none) (mk_ 16 32767) rfl rfl (one_of HT_.out (by kernel_rfl)) (by decide) (fun K hK => ?_)
                      have hs35 : w34.cell? ⟨gb371, 0, none⟩ = some (.int .i64 0) := (blk_cell BK371.out 0).trans rfl
                      have hfs35 := blk_frozen BK371.out 0
                      have hns35_0 := NB353_371.out
                      have hns35_2 := NB372_371.out
                      have hms35_0 := NB371_353.out
                      have hms35_2 := NB371_372.out
                      have hs36 : w34.cell? ⟨gb371, 1, none⟩ = some (.int .i64 0) := (blk_cell BK371.out 1).trans rfl
                      have hfs36 := blk_frozen BK371.out 1
                      have hns36_0 := NB353_371.out
                      have hns36_2 := NB372_371.out
                      have hms36_0 := NB371_353.out
                      have hms36_2 := NB371_372.out
                      have hs37 : w34.cell? ⟨gb371, 2, none⟩ = some (.string (⟨#[]⟩ : ByteArray)) := (blk_cell BK371.out 2).trans rfl
                      have hfs37 := blk_frozen BK371.out 2
                      have hns37_0 := NB353_371.out
                      have hns37_2 := NB372_371.out
                      have hms37_0 := NB371_353.out
                      have hms37_2 := NB371_372.out
                      refine skip_ (w1 := ?_) (by rfl) rfl ?_ ?_
                      rotate_left
                      · go_simp
                        rfl
                      refine hK.out _ _ ⟨((cell_far (p := ⟨gb371, _, none⟩) (by first | exact Kd.own_blk (Kd.R_away HO_6.out (fun _ hk => hk.2.1)) | (rw [add_block]; exact Kd.own_blk (Kd.R_away HO_6.out (fun _ hk => hk.2.1))) | (show (Addr.add _ _).block ≠ _; rw [add_block]; exact Kd.own_blk (Kd.R_away HO_6.out (fun _ hk => hk.2.1))) | (dsimp only; exact Kd.own_blk (Kd.R_away HO_6.out (fun _ hk => hk.2.1)))) _).trans (((cell_far (p := ⟨gb371, _, none⟩) (by first | exact Kd.own_blk (Kd.R_away HO_6.out (fun _ hk => hk.2.1)) | (rw [add_block]; exact Kd.own_blk (Kd.R_away HO_6.out (fun _ hk => hk.2.1))) | (show (Addr.add _ _).block ≠ _; rw [add_block]; exact Kd.own_blk (Kd.R_away HO_6.out (fun _ hk => hk.2.1))) | (dsimp only; exact Kd.own_blk (Kd.R_away HO_6.out (fun _ hk => hk.2.1)))) _).trans (((cell_far (p := ⟨gb371, _, none⟩) (by first | exact Kd.own_blk (Kd.R_away HO_6.out (fun _ hk => hk.2.1)) | (rw [add_block]; exact Kd.own_blk (Kd.R_away HO_6.out (fun _ hk => hk.2.1))) | (show (Addr.add _ _).block ≠ _; rw [add_block]; exact Kd.own_blk (Kd.R_away HO_6.out (fun _ hk => hk.2.1))) | (dsimp only; exact Kd.own_blk (Kd.R_away HO_6.out (fun _ hk => hk.2.1)))) _).trans (hHeld.1)))))), ((cell_far (p := ⟨gb371, _, none⟩) (by first | exact Kd.own_blk (Kd.R_away HO_6.out (fun _ hk => hk.2.1)) | (rw [add_block]; exact Kd.own_blk (Kd.R_away HO_6.out (fun _ hk => hk.2.1))) | (show (Addr.add _ _).block ≠ _; rw [add_block]; exact Kd.own_blk (Kd.R_away HO_6.out (fun _ hk => hk.2.1))) | (dsimp only; exact Kd.own_blk (Kd.R_away HO_6.out (fun _ hk => hk.2.1)))) _).trans (((cell_far (p := ⟨gb371, _, none⟩) (by first | exact Kd.own_blk (Kd.R_away HO_6.out (fun _ hk => hk.2.1)) | (rw [add_block]; exact Kd.own_blk (Kd.R_away HO_6.out (fun _ hk => hk.2.1))) | (show (Addr.add _ _).block ≠ _; rw [add_block]; exact Kd.own_blk (Kd.R_away HO_6.out (fun _ hk => hk.2.1))) | (dsimp only; exact Kd.own_blk (Kd.R_away HO_6.out (fun _ hk => hk.2.1)))) _).trans (((cell_far (p := ⟨gb371, _, none⟩) (by first | exact Kd.own_blk (Kd.R_away HO_6.out (fun _ hk => hk.2.1)) | (rw [add_block]; exact Kd.own_blk (Kd.R_away HO_6.out (fun _ hk => hk.2.1))) | (show (Addr.add _ _).block ≠ _; rw [add_block]; exact Kd.own_blk (Kd.R_away HO_6.out (fun _ hk => hk.2.1))) | (dsimp only; exact Kd.own_blk (Kd.R_away HO_6.out (fun _ hk => hk.2.1)))) _).trans (hHeld.2.1)))))), ((cell_far (p := ⟨gb371, _, none⟩) (by first | exact Kd.own_blk (Kd.R_away HO_6.out (fun _ hk => hk.2.1)) | (rw [add_block]; exact Kd.own_blk (Kd.R_away HO_6.out (fun _ hk => hk.2.1))) | (show (Addr.add _ _).block ≠ _; rw [add_block]; exact Kd.own_blk (Kd.R_away HO_6.out (fun _ hk => hk.2.1))) | (dsimp only; exact Kd.own_blk (Kd.R_away HO_6.out (fun _ hk => hk.2.1)))) _).trans (((cell_far (p := ⟨gb371, _, none⟩) (by first | exact Kd.own_blk (Kd.R_away HO_6.out (fun _ hk => hk.2.1)) | (rw [add_block]; exact Kd.own_blk (Kd.R_away HO_6.out (fun _ hk => hk.2.1))) | (show (Addr.add _ _).block ≠ _; rw [add_block]; exact Kd.own_blk (Kd.R_away HO_6.out (fun _ hk => hk.2.1))) | (dsimp only; exact Kd.own_blk (Kd.R_away HO_6.out (fun _ hk => hk.2.1)))) _).trans (((cell_far (p := ⟨gb371, _, none⟩) (by first | exact Kd.own_blk (Kd.R_away HO_6.out (fun _ hk => hk.2.1)) | (rw [add_block]; exact Kd.own_blk (Kd.R_away HO_6.out (fun _ hk => hk.2.1))) | (show (Addr.add _ _).block ≠ _; rw [add_block]; exact Kd.own_blk (Kd.R_away HO_6.out (fun _ hk => hk.2.1))) | (dsimp only; exact Kd.own_blk (Kd.R_away HO_6.out (fun _ hk => hk.2.1)))) _).trans (hHeld.2.2.1)))))), ((cell_far (p := ⟨gb371, _, none⟩) (by first | exact Kd.own_blk (Kd.R_away HO_6.out (fun _ hk => hk.2.1)) | (rw [add_block]; exact Kd.own_blk (Kd.R_away HO_6.out (fun _ hk => hk.2.1))) | (show (Addr.add _ _).block ≠ _; rw [add_block]; exact Kd.own_blk (Kd.R_away HO_6.out (fun _ hk => hk.2.1))) | (dsimp only; exact Kd.own_blk (Kd.R_away HO_6.out (fun _ hk => hk.2.1)))) _).trans (((cell_far (p := ⟨gb371, _, none⟩) (by first | exact Kd.own_blk (Kd.R_away HO_6.out (fun _ hk => hk.2.1)) | (rw [add_block]; exact Kd.own_blk (Kd.R_away HO_6.out (fun _ hk => hk.2.1))) | (show (Addr.add _ _).block ≠ _; rw [add_block]; exact Kd.own_blk (Kd.R_away HO_6.out (fun _ hk => hk.2.1))) | (dsimp only; exact Kd.own_blk (Kd.R_away HO_6.out (fun _ hk => hk.2.1)))) _).trans (((cell_far (p := ⟨gb371, _, none⟩) (by first | exact Kd.own_blk (Kd.R_away HO_6.out (fun _ hk => hk.2.1)) | (rw [add_block]; exact Kd.own_blk (Kd.R_away HO_6.out (fun _ hk => hk.2.1))) | (show (Addr.add _ _).block ≠ _; rw [add_block]; exact Kd.own_blk (Kd.R_away HO_6.out (fun _ hk => hk.2.1))) | (dsimp only; exact Kd.own_blk (Kd.R_away HO_6.out (fun _ hk => hk.2.1)))) _).trans (hHeld.2.2.2.1)))))), ((cell_far (p := ⟨gb371, _, none⟩) (by first | exact Kd.own_blk (Kd.R_away HO_6.out (fun _ hk => hk.2.1)) | (rw [add_block]; exact Kd.own_blk (Kd.R_away HO_6.out (fun _ hk => hk.2.1))) | (show (Addr.add _ _).block ≠ _; rw [add_block]; exact Kd.own_blk (Kd.R_away HO_6.out (fun _ hk => hk.2.1))) | (dsimp only; exact Kd.own_blk (Kd.R_away HO_6.out (fun _ hk => hk.2.1)))) _).trans (((cell_far (p := ⟨gb371, _, none⟩) (by first | exact Kd.own_blk (Kd.R_away HO_6.out (fun _ hk => hk.2.1)) | (rw [add_block]; exact Kd.own_blk (Kd.R_away HO_6.out (fun _ hk => hk.2.1))) | (show (Addr.add _ _).block ≠ _; rw [add_block]; exact Kd.own_blk (Kd.R_away HO_6.out (fun _ hk => hk.2.1))) | (dsimp only; exact Kd.own_blk (Kd.R_away HO_6.out (fun _ hk => hk.2.1)))) _).trans (((cell_far (p := ⟨gb371, _, none⟩) (by first | exact Kd.own_blk (Kd.R_away HO_6.out (fun _ hk => hk.2.1)) | (rw [add_block]; exact Kd.own_blk (Kd.R_away HO_6.out (fun _ hk => hk.2.1))) | (show (Addr.add _ _).block ≠ _; rw [add_block]; exact Kd.own_blk (Kd.R_away HO_6.out (fun _ hk => hk.2.1))) | (dsimp only; exact Kd.own_blk (Kd.R_away HO_6.out (fun _ hk => hk.2.1)))) _).trans (hHeld.2.2.2.2.1)))))), ((cell_far (p := ⟨gb371, _, none⟩) (by first | exact Kd.own_blk (Kd.R_away HO_6.out (fun _ hk => hk.2.1)) | (rw [add_block]; exact Kd.own_blk (Kd.R_away HO_6.out (fun _ hk => hk.2.1))) | (show (Addr.add _ _).block ≠ _; rw [add_block]; exact Kd.own_blk (Kd.R_away HO_6.out (fun _ hk => hk.2.1))) | (dsimp only; exact Kd.own_blk (Kd.R_away HO_6.out (fun _ hk => hk.2.1)))) _).trans (((cell_far (p := ⟨gb371, _, none⟩) (by first | exact Kd.own_blk (Kd.R_away HO_6.out (fun _ hk => hk.2.1)) | (rw [add_block]; exact Kd.own_blk (Kd.R_away HO_6.out (fun _ hk => hk.2.1))) | (show (Addr.add _ _).block ≠ _; rw [add_block]; exact Kd.own_blk (Kd.R_away HO_6.out (fun _ hk => hk.2.1))) | (dsimp only; exact Kd.own_blk (Kd.R_away HO_6.out (fun _ hk => hk.2.1)))) _).trans (((cell_far (p := ⟨gb371, _, none⟩) (by first | exact Kd.own_blk (Kd.R_away HO_6.out (fun _ hk => hk.2.1)) | (rw [add_block]; exact Kd.own_blk (Kd.R_away HO_6.out (fun _ hk => hk.2.1))) | (show (Addr.add _ _).block ≠ _; rw [add_block]; exact Kd.own_blk (Kd.R_away HO_6.out (fun _ hk => hk.2.1))) | (dsimp only; exact Kd.own_blk (Kd.R_away HO_6.out (fun _ hk => hk.2.1)))) _).trans (hHeld.2.2.2.2.2))))))⟩ (fun hHeld => ?_)
                      clear hK K
                      refine one_ (i := 15) (N := none) (mk_ 16 65535) rfl rfl (one_of HT_.out (by kernel_rfl)) (by decide) (fun K hK => ?_)
                      have hs38 : w34.cell? ⟨gb372, 0, none⟩ = some (.int .i64 0) := (blk_cell BK372.out 0).trans rfl
                      have hfs38 := blk_frozen BK372.out 0
                      have hns38_0 := NB353_372.out
                      have hns38_1 := NB371_372.out
                      have hms38_0 := NB372_353.out
                      have hms38_1 := NB372_371.out
                      have hs39 : w34.cell? ⟨gb372, 1, none⟩ = some (.int .i64 0) := (blk_cell BK372.out 1).trans rfl
                      have hfs39 := blk_frozen BK372.out 1
                      have hns39_0 := NB353_372.out
                      have hns39_1 := NB371_372.out
                      have hms39_0 := NB372_353.out
                      have hms39_1 := NB372_371.out
                      have hs40 : w34.cell? ⟨gb372, 2, none⟩ = some (.string (⟨#[]⟩ : ByteArray)) := (blk_cell BK372.out 2).trans rfl
                      have hfs40 := blk_frozen BK372.out 2
                      have hns40_0 := NB353_372.out
                      have hns40_1 := NB371_372.out
                      have hms40_0 := NB372_353.out
                      have hms40_1 := NB372_371.out
                      refine skip_ (w1 := ?_) (by rfl) rfl ?_ ?_
                      rotate_left
                      · go_simp
                        rfl
                      refine hK.out _ _ ⟨((cell_far (p := ⟨gb372, _, none⟩) (by first | exact Kd.own_blk (Kd.R_away HO_6.out (fun _ hk => hk.2.2)) | (rw [add_block]; exact Kd.own_blk (Kd.R_away HO_6.out (fun _ hk => hk.2.2))) | (show (Addr.add _ _).block ≠ _; rw [add_block]; exact Kd.own_blk (Kd.R_away HO_6.out (fun _ hk => hk.2.2))) | (dsimp only; exact Kd.own_blk (Kd.R_away HO_6.out (fun _ hk => hk.2.2)))) _).trans (((cell_far (p := ⟨gb372, _, none⟩) (by first | exact Kd.own_blk (Kd.R_away HO_6.out (fun _ hk => hk.2.2)) | (rw [add_block]; exact Kd.own_blk (Kd.R_away HO_6.out (fun _ hk => hk.2.2))) | (show (Addr.add _ _).block ≠ _; rw [add_block]; exact Kd.own_blk (Kd.R_away HO_6.out (fun _ hk => hk.2.2))) | (dsimp only; exact Kd.own_blk (Kd.R_away HO_6.out (fun _ hk => hk.2.2)))) _).trans (((cell_far (p := ⟨gb372, _, none⟩) (by first | exact Kd.own_blk (Kd.R_away HO_6.out (fun _ hk => hk.2.2)) | (rw [add_block]; exact Kd.own_blk (Kd.R_away HO_6.out (fun _ hk => hk.2.2))) | (show (Addr.add _ _).block ≠ _; rw [add_block]; exact Kd.own_blk (Kd.R_away HO_6.out (fun _ hk => hk.2.2))) | (dsimp only; exact Kd.own_blk (Kd.R_away HO_6.out (fun _ hk => hk.2.2)))) _).trans (hHeld.1)))))), ((cell_far (p := ⟨gb372, _, none⟩) (by first | exact Kd.own_blk (Kd.R_away HO_6.out (fun _ hk => hk.2.2)) | (rw [add_block]; exact Kd.own_blk (Kd.R_away HO_6.out (fun _ hk => hk.2.2))) | (show (Addr.add _ _).block ≠ _; rw [add_block]; exact Kd.own_blk (Kd.R_away HO_6.out (fun _ hk => hk.2.2))) | (dsimp only; exact Kd.own_blk (Kd.R_away HO_6.out (fun _ hk => hk.2.2)))) _).trans (((cell_far (p := ⟨gb372, _, none⟩) (by first | exact Kd.own_blk (Kd.R_away HO_6.out (fun _ hk => hk.2.2)) | (rw [add_block]; exact Kd.own_blk (Kd.R_away HO_6.out (fun _ hk => hk.2.2))) | (show (Addr.add _ _).block ≠ _; rw [add_block]; exact Kd.own_blk (Kd.R_away HO_6.out (fun _ hk => hk.2.2))) | (dsimp only; exact Kd.own_blk (Kd.R_away HO_6.out (fun _ hk => hk.2.2)))) _).trans (((cell_far (p := ⟨gb372, _, none⟩) (by first | exact Kd.own_blk (Kd.R_away HO_6.out (fun _ hk => hk.2.2)) | (rw [add_block]; exact Kd.own_blk (Kd.R_away HO_6.out (fun _ hk => hk.2.2))) | (show (Addr.add _ _).block ≠ _; rw [add_block]; exact Kd.own_blk (Kd.R_away HO_6.out (fun _ hk => hk.2.2))) | (dsimp only; exact Kd.own_blk (Kd.R_away HO_6.out (fun _ hk => hk.2.2)))) _).trans (hHeld.2.1)))))), ((cell_far (p := ⟨gb372, _, none⟩) (by first | exact Kd.own_blk (Kd.R_away HO_6.out (fun _ hk => hk.2.2)) | (rw [add_block]; exact Kd.own_blk (Kd.R_away HO_6.out (fun _ hk => hk.2.2))) | (show (Addr.add _ _).block ≠ _; rw [add_block]; exact Kd.own_blk (Kd.R_away HO_6.out (fun _ hk => hk.2.2))) | (dsimp only; exact Kd.own_blk (Kd.R_away HO_6.out (fun _ hk => hk.2.2)))) _).trans (((cell_far (p := ⟨gb372, _, none⟩) (by first | exact Kd.own_blk (Kd.R_away HO_6.out (fun _ hk => hk.2.2)) | (rw [add_block]; exact Kd.own_blk (Kd.R_away HO_6.out (fun _ hk => hk.2.2))) | (show (Addr.add _ _).block ≠ _; rw [add_block]; exact Kd.own_blk (Kd.R_away HO_6.out (fun _ hk => hk.2.2))) | (dsimp only; exact Kd.own_blk (Kd.R_away HO_6.out (fun _ hk => hk.2.2)))) _).trans (((cell_far (p := ⟨gb372, _, none⟩) (by first | exact Kd.own_blk (Kd.R_away HO_6.out (fun _ hk => hk.2.2)) | (rw [add_block]; exact Kd.own_blk (Kd.R_away HO_6.out (fun _ hk => hk.2.2))) | (show (Addr.add _ _).block ≠ _; rw [add_block]; exact Kd.own_blk (Kd.R_away HO_6.out (fun _ hk => hk.2.2))) | (dsimp only; exact Kd.own_blk (Kd.R_away HO_6.out (fun _ hk => hk.2.2)))) _).trans (hHeld.2.2.1)))))), ((cell_far (p := ⟨gb372, _, none⟩) (by first | exact Kd.own_blk (Kd.R_away HO_6.out (fun _ hk => hk.2.2)) | (rw [add_block]; exact Kd.own_blk (Kd.R_away HO_6.out (fun _ hk => hk.2.2))) | (show (Addr.add _ _).block ≠ _; rw [add_block]; exact Kd.own_blk (Kd.R_away HO_6.out (fun _ hk => hk.2.2))) | (dsimp only; exact Kd.own_blk (Kd.R_away HO_6.out (fun _ hk => hk.2.2)))) _).trans (((cell_far (p := ⟨gb372, _, none⟩) (by first | exact Kd.own_blk (Kd.R_away HO_6.out (fun _ hk => hk.2.2)) | (rw [add_block]; exact Kd.own_blk (Kd.R_away HO_6.out (fun _ hk => hk.2.2))) | (show (Addr.add _ _).block ≠ _; rw [add_block]; exact Kd.own_blk (Kd.R_away HO_6.out (fun _ hk => hk.2.2))) | (dsimp only; exact Kd.own_blk (Kd.R_away HO_6.out (fun _ hk => hk.2.2)))) _).trans (((cell_far (p := ⟨gb372, _, none⟩) (by first | exact Kd.own_blk (Kd.R_away HO_6.out (fun _ hk => hk.2.2)) | (rw [add_block]; exact Kd.own_blk (Kd.R_away HO_6.out (fun _ hk => hk.2.2))) | (show (Addr.add _ _).block ≠ _; rw [add_block]; exact Kd.own_blk (Kd.R_away HO_6.out (fun _ hk => hk.2.2))) | (dsimp only; exact Kd.own_blk (Kd.R_away HO_6.out (fun _ hk => hk.2.2)))) _).trans (hHeld.2.2.2.1)))))), ((cell_far (p := ⟨gb372, _, none⟩) (by first | exact Kd.own_blk (Kd.R_away HO_6.out (fun _ hk => hk.2.2)) | (rw [add_block]; exact Kd.own_blk (Kd.R_away HO_6.out (fun _ hk => hk.2.2))) | (show (Addr.add _ _).block ≠ _; rw [add_block]; exact Kd.own_blk (Kd.R_away HO_6.out (fun _ hk => hk.2.2))) | (dsimp only; exact Kd.own_blk (Kd.R_away HO_6.out (fun _ hk => hk.2.2)))) _).trans (((cell_far (p := ⟨gb372, _, none⟩) (by first | exact Kd.own_blk (Kd.R_away HO_6.out (fun _ hk => hk.2.2)) | (rw [add_block]; exact Kd.own_blk (Kd.R_away HO_6.out (fun _ hk => hk.2.2))) | (show (Addr.add _ _).block ≠ _; rw [add_block]; exact Kd.own_blk (Kd.R_away HO_6.out (fun _ hk => hk.2.2))) | (dsimp only; exact Kd.own_blk (Kd.R_away HO_6.out (fun _ hk => hk.2.2)))) _).trans (((cell_far (p := ⟨gb372, _, none⟩) (by first | exact Kd.own_blk (Kd.R_away HO_6.out (fun _ hk => hk.2.2)) | (rw [add_block]; exact Kd.own_blk (Kd.R_away HO_6.out (fun _ hk => hk.2.2))) | (show (Addr.add _ _).block ≠ _; rw [add_block]; exact Kd.own_blk (Kd.R_away HO_6.out (fun _ hk => hk.2.2))) | (dsimp only; exact Kd.own_blk (Kd.R_away HO_6.out (fun _ hk => hk.2.2)))) _).trans (hHeld.2.2.2.2.1)))))), ((cell_far (p := ⟨gb372, _, none⟩) (by first | exact Kd.own_blk (Kd.R_away HO_6.out (fun _ hk => hk.2.2)) | (rw [add_block]; exact Kd.own_blk (Kd.R_away HO_6.out (fun _ hk => hk.2.2))) | (show (Addr.add _ _).block ≠ _; rw [add_block]; exact Kd.own_blk (Kd.R_away HO_6.out (fun _ hk => hk.2.2))) | (dsimp only; exact Kd.own_blk (Kd.R_away HO_6.out (fun _ hk => hk.2.2)))) _).trans (((cell_far (p := ⟨gb372, _, none⟩) (by first | exact Kd.own_blk (Kd.R_away HO_6.out (fun _ hk => hk.2.2)) | (rw [add_block]; exact Kd.own_blk (Kd.R_away HO_6.out (fun _ hk => hk.2.2))) | (show (Addr.add _ _).block ≠ _; rw [add_block]; exact Kd.own_blk (Kd.R_away HO_6.out (fun _ hk => hk.2.2))) | (dsimp only; exact Kd.own_blk (Kd.R_away HO_6.out (fun _ hk => hk.2.2)))) _).trans (((cell_far (p := ⟨gb372, _, none⟩) (by first | exact Kd.own_blk (Kd.R_away HO_6.out (fun _ hk => hk.2.2)) | (rw [add_block]; exact Kd.own_blk (Kd.R_away HO_6.out (fun _ hk => hk.2.2))) | (show (Addr.add _ _).block ≠ _; rw [add_block]; exact Kd.own_blk (Kd.R_away HO_6.out (fun _ hk => hk.2.2))) | (dsimp only; exact Kd.own_blk (Kd.R_away HO_6.out (fun _ hk => hk.2.2)))) _).trans (hHeld.2.2.2.2.2))))))⟩ (fun hHeld => ?_)
                      clear hK K
                      refine done_ (done_of HT_.out (by kernel_rfl)) ?_
                      go_upto_region 7 with (fail)
                      go_cut [44] (fun v44 wc => ∃ (kq : Nat) (x44_28 : Bool), v44 = .bool x44_28 ∧ Aside0 (constableref01_Eval.j1 kq l0 l1 x6_1 x7_1 x44_28 ((rd_T40 x6_1 (ji23)).f0) ((rd_T40 x6_1 (ji23)).f1) ((rd_T40 x6_1 (ji23)).f2) ((rd_T40 x6_1 (ji26)).f0) ((rd_T40 x6_1 (ji26)).f1) ((rd_T40 x6_1 (ji26)).f2) = some (r1, r2, r3, r4)) ∧ Aside0 (kq ≤ k1) ∧ Aside0 (Kd.R k40 40 wc w.heap.size (fun k_ => k_ ≠ gb353 ∧ k_ ≠ gb371 ∧ k_ ≠ gb372) (.slice (some ad369) x6_1.length co31) x6_1) ∧ Aside0 (wc.heap[gb353]? = some (.cells #[.int .i64 x354000_1, .int .i64 x354001_1, .string x354002_1] 40 (0, 0))) ∧ Aside0 (wc.heap[gb371]? = some (.cells #[.int .i64 ((rd_T40 x6_1 (ji23)).f0), .int .i64 ((rd_T40 x6_1 (ji23)).f1), .string ((rd_T40 x6_1 (ji23)).f2)] 40 (0, 0))) ∧ Aside0 (wc.heap[gb372]? = some (.cells #[.int .i64 ((rd_T40 x6_1 (ji26)).f0), .int .i64 ((rd_T40 x6_1 (ji26)).f1), .string ((rd_T40 x6_1 (ji26)).f2)] 40 (0, 0))) ∧ Aside0 (Below w.heap.size w wc))
                      case first =>
                        have H := HC29.out
                        clear HC29
                        by_cases c41 : ((rd_T40 x6_1 (ji23)).f0) = 1
                        · rw [if_pos c41] at H
                          obtain ⟨c41b0, c41b1⟩ := eqB_ c41
                          clear c41
                          (first | rw [c41b0] | (simp only [i64_w, i32_w]; rw [c41b0]) | skip)
                          have H' := Aside0.mk H
                          clear H
                          have hnb42 := NB371_353.out
                          have hnc42 := NB353_371.out
                          have hnb43 := NB371_372.out
                          have hnc43 := NB372_371.out
                          have hcz44_0 : w34.cell? ⟨gb371, 0, none⟩ = some (.int .i64 0) := (blk_cell BK371.out 0).trans rfl
                          have hcz44_1 : w34.cell? ⟨gb371, 1, none⟩ = some (.int .i64 0) := (blk_cell BK371.out 1).trans rfl
                          have hcz44_2 : w34.cell? ⟨gb371, 2, none⟩ = some (.string (⟨#[]⟩ : ByteArray)) := (blk_cell BK371.out 2).trans rfl
                          have hfz44_0 := blk_frozen BK371.out 0
                          have hfz44_1 := blk_frozen BK371.out 1
                          have hfz44_2 := blk_frozen BK371.out 2
                          have hnb45 := NB372_353.out
                          have hnc45 := NB353_372.out
                          have hcz46_0 : w34.cell? ⟨gb372, 0, none⟩ = some (.int .i64 0) := (blk_cell BK372.out 0).trans rfl
                          have hcz46_1 : w34.cell? ⟨gb372, 1, none⟩ = some (.int .i64 0) := (blk_cell BK372.out 1).trans rfl
                          have hcz46_2 : w34.cell? ⟨gb372, 2, none⟩ = some (.string (⟨#[]⟩ : ByteArray)) := (blk_cell BK372.out 2).trans rfl
                          have hfz46_0 := blk_frozen BK372.out 0
                          have hfz46_1 := blk_frozen BK372.out 1
                          have hfz46_2 := blk_frozen BK372.out 2
                          go_wp2
                          go_meet
                          case rel => exact ⟨_, ((((rd_T40 x6_1 (ji26)).f0) != 1)), (by first | rfl | (simp; done) | (simp only [← hji26] <;> (first | rfl | simp)) | (simp [*]; done)), H', ⟨by have := HK1.out; first | omega | exact Nat.le_refl _⟩, ⟨by (with_reducible repeat (first | apply Kd.R_alloc | apply Kd.R_drewN | apply Kd.R_drew)); exact Kd.R_mono (Kd.R_far (p := ⟨gb372, 2, none⟩) (Kd.R_far (p := ⟨gb372, 1, none⟩) (Kd.R_far (p := ⟨gb372, 0, none⟩) (Kd.R_far (p := ⟨gb371, 2, none⟩) (Kd.R_far (p := ⟨gb371, 1, none⟩) (Kd.R_far (p := ⟨gb371, 0, none⟩) (Kd.R_mono (Kd.R_mono HO_6.out (fun k_ hk => (⟨hk, hk.2.1⟩ : _ ∧ k_ ≠ gb371))) (fun k_ hk => (⟨hk, hk.1.2.2⟩ : _ ∧ k_ ≠ gb372))) (fun _ hk => hk.1.2) (.int .i64 ((rd_T40 x6_1 (ji23)).f0))) (fun _ hk => hk.1.2) (.int .i64 ((rd_T40 x6_1 (ji23)).f1))) (fun _ hk => hk.1.2) (.string ((rd_T40 x6_1 (ji23)).f2))) (fun _ hk => hk.2) (.int .i64 ((rd_T40 x6_1 (ji26)).f0))) (fun _ hk => hk.2) (.int .i64 ((rd_T40 x6_1 (ji26)).f1))) (fun _ hk => hk.2) (.string ((rd_T40 x6_1 (ji26)).f2))) (fun _ hk => ⟨hk.1.1.1, ⟨hk.1.1.2.1, hk.1.1.2.2⟩⟩)⟩, ⟨by (with_reducible repeat (first | refine blk_drewN ?_ _ | refine blk_drew ?_ | refine blk_alloc ?_ _)); refine blk_far ?_ NB353_372.out _; (with_reducible repeat (first | refine blk_drewN ?_ _ | refine blk_drew ?_ | refine blk_alloc ?_ _)); refine blk_far ?_ NB353_372.out _; (with_reducible repeat (first | refine blk_drewN ?_ _ | refine blk_drew ?_ | refine blk_alloc ?_ _)); refine blk_far ?_ NB353_372.out _; (with_reducible repeat (first | refine blk_drewN ?_ _ | refine blk_drew ?_ | refine blk_alloc ?_ _)); refine blk_far ?_ NB353_371.out _; (with_reducible repeat (first | refine blk_drewN ?_ _ | refine blk_drew ?_ | refine blk_alloc ?_ _)); refine blk_far ?_ NB353_371.out _; (with_reducible repeat (first | refine blk_drewN ?_ _ | refine blk_drew ?_ | refine blk_alloc ?_ _)); refine blk_far ?_ NB353_371.out _; (with_reducible repeat (first | refine blk_drewN ?_ _ | refine blk_drew ?_ | refine blk_alloc ?_ _)); exact BK353.out⟩, ⟨by (with_reducible repeat (first | refine blk_drewN ?_ _ | refine blk_drew ?_ | refine blk_alloc ?_ _)); refine blk_far ?_ NB371_372.out _; (with_reducible repeat (first | refine blk_drewN ?_ _ | refine blk_drew ?_ | refine blk_alloc ?_ _)); refine blk_far ?_ NB371_372.out _; (with_reducible repeat (first | refine blk_drewN ?_ _ | refine blk_drew ?_ | refine blk_alloc ?_ _)); refine blk_far ?_ NB371_372.out _; (with_reducible repeat (first | refine blk_drewN ?_ _ | refine blk_drew ?_ | refine blk_alloc ?_ _)); refine blk_put (cs := #[.int .i64 ((rd_T40 x6_1 (ji23)).f0), .int .i64 ((rd_T40 x6_1 (ji23)).f1), .string (⟨#[]⟩ : ByteArray)]) ?_ 2 _ rfl; (with_reducible repeat (first | refine blk_drewN ?_ _ | refine blk_drew ?_ | refine blk_alloc ?_ _)); refine blk_put (cs := #[.int .i64 ((rd_T40 x6_1 (ji23)).f0), .int .i64 0, .string (⟨#[]⟩ : ByteArray)]) ?_ 1 _ rfl; (with_reducible repeat (first | refine blk_drewN ?_ _ | refine blk_drew ?_ | refine blk_alloc ?_ _)); refine blk_put (cs := #[.int .i64 0, .int .i64 0, .string (⟨#[]⟩ : ByteArray)]) ?_ 0 _ rfl; (with_reducible repeat (first | refine blk_drewN ?_ _ | refine blk_drew ?_ | refine blk_alloc ?_ _)); exact BK371.out⟩, ⟨by (with_reducible repeat (first | refine blk_drewN ?_ _ | refine blk_drew ?_ | refine blk_alloc ?_ _)); refine blk_put (cs := #[.int .i64 ((rd_T40 x6_1 (ji26)).f0), .int .i64 ((rd_T40 x6_1 (ji26)).f1), .string (⟨#[]⟩ : ByteArray)]) ?_ 2 _ rfl; (with_reducible repeat (first | refine blk_drewN ?_ _ | refine blk_drew ?_ | refine blk_alloc ?_ _)); refine blk_put (cs := #[.int .i64 ((rd_T40 x6_1 (ji26)).f0), .int .i64 0, .string (⟨#[]⟩ : ByteArray)]) ?_ 1 _ rfl; (with_reducible repeat (first | refine blk_drewN ?_ _ | refine blk_drew ?_ | refine blk_alloc ?_ _)); refine blk_put (cs := #[.int .i64 0, .int .i64 0, .string (⟨#[]⟩ : ByteArray)]) ?_ 0 _ rfl; (with_reducible repeat (first | refine blk_drewN ?_ _ | refine blk_drew ?_ | refine blk_alloc ?_ _)); refine blk_far ?_ NB372_371.out _; (with_reducible repeat (first | refine blk_drewN ?_ _ | refine blk_drew ?_ | refine blk_alloc ?_ _)); refine blk_far ?_ NB372_371.out _; (with_reducible repeat (first | refine blk_drewN ?_ _ | refine blk_drew ?_ | refine blk_alloc ?_ _)); refine blk_far ?_ NB372_371.out _; (with_reducible repeat (first | refine blk_drewN ?_ _ | refine blk_drew ?_ | refine blk_alloc ?_ _)); exact BK372.out⟩, ⟨by repeat (first | (with_reducible first | exact HB.out | apply below_alloc | apply pw_below_drewN | apply below_drew1 | refine below_set ?_ GE353.out | refine below_set ?_ GE371.out | refine below_set ?_ GE372.out) | exact HB.out)⟩⟩
                        · rw [if_neg c41] at H
                          obtain ⟨c41b0, c41b1⟩ := neB_ c41
                          (first | rw [c41b0] | (simp only [i64_w, i32_w]; rw [c41b0]) | skip)
                          have H' := Aside0.mk H
                          clear H
                          have hnb47 := NB371_353.out
                          have hnc47 := NB353_371.out
                          have hnb48 := NB371_372.out
                          have hnc48 := NB372_371.out
                          have hcz49_0 : w34.cell? ⟨gb371, 0, none⟩ = some (.int .i64 0) := (blk_cell BK371.out 0).trans rfl
                          have hcz49_1 : w34.cell? ⟨gb371, 1, none⟩ = some (.int .i64 0) := (blk_cell BK371.out 1).trans rfl
                          have hcz49_2 : w34.cell? ⟨gb371, 2, none⟩ = some (.string (⟨#[]⟩ : ByteArray)) := (blk_cell BK371.out 2).trans rfl
                          have hfz49_0 := blk_frozen BK371.out 0
                          have hfz49_1 := blk_frozen BK371.out 1
                          have hfz49_2 := blk_frozen BK371.out 2
                          go_wp2
                          go_meet
                          case rel => exact ⟨_, (true), ra_, H', ⟨by have := HK1.out; first | omega | exact Nat.le_refl _⟩, ⟨by (with_reducible repeat (first | apply Kd.R_alloc | apply Kd.R_drewN | apply Kd.R_drew)); exact Kd.R_mono (Kd.R_far (p := ⟨gb372, 2, none⟩) (Kd.R_far (p := ⟨gb372, 1, none⟩) (Kd.R_far (p := ⟨gb372, 0, none⟩) (Kd.R_far (p := ⟨gb371, 2, none⟩) (Kd.R_far (p := ⟨gb371, 1, none⟩) (Kd.R_far (p := ⟨gb371, 0, none⟩) (Kd.R_mono (Kd.R_mono HO_6.out (fun k_ hk => (⟨hk, hk.2.1⟩ : _ ∧ k_ ≠ gb371))) (fun k_ hk => (⟨hk, hk.1.2.2⟩ : _ ∧ k_ ≠ gb372))) (fun _ hk => hk.1.2) (.int .i64 ((rd_T40 x6_1 (ji23)).f0))) (fun _ hk => hk.1.2) (.int .i64 ((rd_T40 x6_1 (ji23)).f1))) (fun _ hk => hk.1.2) (.string ((rd_T40 x6_1 (ji23)).f2))) (fun _ hk => hk.2) (.int .i64 ((rd_T40 x6_1 (ji26)).f0))) (fun _ hk => hk.2) (.int .i64 ((rd_T40 x6_1 (ji26)).f1))) (fun _ hk => hk.2) (.string ((rd_T40 x6_1 (ji26)).f2))) (fun _ hk => ⟨hk.1.1.1, ⟨hk.1.1.2.1, hk.1.1.2.2⟩⟩)⟩, ⟨by (with_reducible repeat (first | refine blk_drewN ?_ _ | refine blk_drew ?_ | refine blk_alloc ?_ _)); refine blk_far ?_ NB353_372.out _; (with_reducible repeat (first | refine blk_drewN ?_ _ | refine blk_drew ?_ | refine blk_alloc ?_ _)); refine blk_far ?_ NB353_372.out _; (with_reducible repeat (first | refine blk_drewN ?_ _ | refine blk_drew ?_ | refine blk_alloc ?_ _)); refine blk_far ?_ NB353_372.out _; (with_reducible repeat (first | refine blk_drewN ?_ _ | refine blk_drew ?_ | refine blk_alloc ?_ _)); refine blk_far ?_ NB353_371.out _; (with_reducible repeat (first | refine blk_drewN ?_ _ | refine blk_drew ?_ | refine blk_alloc ?_ _)); refine blk_far ?_ NB353_371.out _; (with_reducible repeat (first | refine blk_drewN ?_ _ | refine blk_drew ?_ | refine blk_alloc ?_ _)); refine blk_far ?_ NB353_371.out _; (with_reducible repeat (first | refine blk_drewN ?_ _ | refine blk_drew ?_ | refine blk_alloc ?_ _)); exact BK353.out⟩, ⟨by (with_reducible repeat (first | refine blk_drewN ?_ _ | refine blk_drew ?_ | refine blk_alloc ?_ _)); refine blk_far ?_ NB371_372.out _; (with_reducible repeat (first | refine blk_drewN ?_ _ | refine blk_drew ?_ | refine blk_alloc ?_ _)); refine blk_far ?_ NB371_372.out _; (with_reducible repeat (first | refine blk_drewN ?_ _ | refine blk_drew ?_ | refine blk_alloc ?_ _)); refine blk_far ?_ NB371_372.out _; (with_reducible repeat (first | refine blk_drewN ?_ _ | refine blk_drew ?_ | refine blk_alloc ?_ _)); refine blk_put (cs := #[.int .i64 ((rd_T40 x6_1 (ji23)).f0), .int .i64 ((rd_T40 x6_1 (ji23)).f1), .string (⟨#[]⟩ : ByteArray)]) ?_ 2 _ rfl; (with_reducible repeat (first | refine blk_drewN ?_ _ | refine blk_drew ?_ | refine blk_alloc ?_ _)); refine blk_put (cs := #[.int .i64 ((rd_T40 x6_1 (ji23)).f0), .int .i64 0, .string (⟨#[]⟩ : ByteArray)]) ?_ 1 _ rfl; (with_reducible repeat (first | refine blk_drewN ?_ _ | refine blk_drew ?_ | refine blk_alloc ?_ _)); refine blk_put (cs := #[.int .i64 0, .int .i64 0, .string (⟨#[]⟩ : ByteArray)]) ?_ 0 _ rfl; (with_reducible repeat (first | refine blk_drewN ?_ _ | refine blk_drew ?_ | refine blk_alloc ?_ _)); exact BK371.out⟩, ⟨by (with_reducible repeat (first | refine blk_drewN ?_ _ | refine blk_drew ?_ | refine blk_alloc ?_ _)); refine blk_put (cs := #[.int .i64 ((rd_T40 x6_1 (ji26)).f0), .int .i64 ((rd_T40 x6_1 (ji26)).f1), .string (⟨#[]⟩ : ByteArray)]) ?_ 2 _ rfl; (with_reducible repeat (first | refine blk_drewN ?_ _ | refine blk_drew ?_ | refine blk_alloc ?_ _)); refine blk_put (cs := #[.int .i64 ((rd_T40 x6_1 (ji26)).f0), .int .i64 0, .string (⟨#[]⟩ : ByteArray)]) ?_ 1 _ rfl; (with_reducible repeat (first | refine blk_drewN ?_ _ | refine blk_drew ?_ | refine blk_alloc ?_ _)); refine blk_put (cs := #[.int .i64 0, .int .i64 0, .string (⟨#[]⟩ : ByteArray)]) ?_ 0 _ rfl; (with_reducible repeat (first | refine blk_drewN ?_ _ | refine blk_drew ?_ | refine blk_alloc ?_ _)); refine blk_far ?_ NB372_371.out _; (with_reducible repeat (first | refine blk_drewN ?_ _ | refine blk_drew ?_ | refine blk_alloc ?_ _)); refine blk_far ?_ NB372_371.out _; (with_reducible repeat (first | refine blk_drewN ?_ _ | refine blk_drew ?_ | refine blk_alloc ?_ _)); refine blk_far ?_ NB372_371.out _; (with_reducible repeat (first | refine blk_drewN ?_ _ | refine blk_drew ?_ | refine blk_alloc ?_ _)); exact BK372.out⟩, ⟨by repeat (first | (with_reducible first | exact HB.out | apply below_alloc | apply pw_below_drewN | apply below_drew1 | refine below_set ?_ GE353.out | refine below_set ?_ GE371.out | refine below_set ?_ GE372.out) | exact HB.out)⟩⟩
                      case rest =>
                        clear HC29
                        try clear c1
                        try clear c2
                        try clear p2
                        try clear c3
                        try clear p3
                        try clear q3
                        try clear hx3
                        try clear c4
                        try clear c6
                        try clear c6b0
                        try clear c6b1
                        try clear p6
                        try clear c8
                        try clear c9
                        try clear c12
                        try clear c17
                        try clear c20
                        try clear c20b0
                        try clear c20b1
                        try clear c21
                        try clear c24
                        try clear c24b0
                        try clear c25
                        try clear c25b0
                        try clear c27
                        try clear c27b0
                        try clear c28
                        try clear c28b0
                        try clear c34
                        try clear p35
                        try clear q35
                        try clear hx35
                        try clear p36
                        try clear q36
                        try clear hx36
                        try clear p37
                        try clear q37
                        try clear hx37
                        try clear c41
                        try clear c41b0
                        try clear c41b1
                        try clear c42
                        try clear c43
                        try clear c45
                        try clear c47
                        try clear c48
                        try clear hcz13_0
                        try clear hcz13_1
                        try clear hcz13_2
                        try clear hcz18_0
                        try clear hcz18_1
                        try clear hcz18_2
                        try clear hcz19_0
                        try clear hcz19_1
                        try clear hcz19_2
                        try clear hcz44_0
                        try clear hcz44_1
                        try clear hcz44_2
                        try clear hcz46_0
                        try clear hcz46_1
                        try clear hcz46_2
                        try clear hcz49_0
                        try clear hcz49_1
                        try clear hcz49_2
                        try clear hfz13_0
                        try clear hfz13_1
                        try clear hfz13_2
                        try clear hfz18_0
                        try clear hfz18_1
                        try clear hfz18_2
                        try clear hfz19_0
                        try clear hfz19_1
                        try clear hfz19_2
                        try clear hfz44_0
                        try clear hfz44_1
                        try clear hfz44_2
                        try clear hfz46_0
                        try clear hfz46_1
                        try clear hfz46_2
                        try clear hfz49_0
                        try clear hfz49_1
                        try clear hfz49_2
                        try clear hx355_0
                        try clear hx355_1
                        try clear hx355_2
                        try clear hx355_3
                        try clear hx355_4
                        try clear hx356_0
                        try clear hx356_1
                        try clear hx356_2
                        try clear hx356_3
                        try clear hx356_4
                        try clear hx365_0
                        try clear hx365_1
                        try clear hx365_2
                        try clear hx365_3
                        try clear hx365_4
                        try clear hx369_0
                        try clear hx369_1
                        try clear hx369_2
                        try clear hx370_0
                        try clear hx370_1
                        try clear hx370_2
                        try clear p355
                        try clear p356
                        try clear p365
                        try clear p369
                        try clear p370
                        try clear q355
                        try clear q356
                        try clear q365
                        try clear q369
                        try clear q370
                        obtain ⟨kq, x44_28, rfl, HA, HJ28, HO_6, BK353, BK371, BK372, HB⟩ := hcut
                        cases kq with
                        | zero => exact absurd HA.out (by simp [constableref01_Eval.j1])
                        | succ kj28 =>
                          have H := HA.out
                          clear HA
                          simp only [constableref01_Eval.j1] at H
                          by_cases c50 : x44_28 = true
                          · subst c50
                            have H1 : (some (0, 0, (⟨#[]⟩ : ByteArray), 3)) = some (r1, r2, r3, r4) := by rw [if_pos rfl] at H; exact H
                            clear H
                            have H := H1
                            clear H1
                            simp only [Option.some.injEq, Prod.mk.injEq] at H
                            obtain ⟨rfl, rfl, rfl, rfl⟩ := H
                            have hnb51 := NB353_371.out
                            have hnc51 := NB371_353.out
                            have hnb52 := NB353_372.out
                            have hnc52 := NB372_353.out
                            have hcz53_0 : wc.cell? ⟨gb353, 0, none⟩ = some (.int .i64 x354000_1) := (blk_cell BK353.out 0).trans rfl
                            have hcz53_1 : wc.cell? ⟨gb353, 1, none⟩ = some (.int .i64 x354001_1) := (blk_cell BK353.out 1).trans rfl
                            have hcz53_2 : wc.cell? ⟨gb353, 2, none⟩ = some (.string x354002_1) := (blk_cell BK353.out 2).trans rfl
                            have hfz53_0 := blk_frozen BK353.out 0
                            have hfz53_1 := blk_frozen BK353.out 1
                            have hfz53_2 := blk_frozen BK353.out 2
                            go_wp2
                            refine bodyPost_ret (results_ct rfl _ _ gb353 40 #[.int .i64 0, .int .i64 0, .string (⟨#[]⟩ : ByteArray)] (0, 0) _ rfl (bp_ BK353) Try.underlying40 rfl (by kernel_rfl)) rfl ?_
                            exact ⟨by first | rfl | (simp [errW_none, errW_some] <;> rfl) | (simp only [← hji23, ← hji26]; first | rfl | (simp [errW_none, errW_some] <;> rfl)) | (simp [*, errW_none, errW_some] <;> rfl), by repeat (first | (with_reducible first | exact HB.out | apply below_alloc | apply pw_below_drewN | apply below_drew1 | refine below_set ?_ GE353.out | refine below_set ?_ GE371.out | refine below_set ?_ GE372.out) | exact HB.out)⟩
                          · replace c50 := Bool.eq_false_iff.mpr c50
                            subst c50
                            have H1 : (if 0 ≤ x7_1 then (if x7_1 < (l0.length : Int) then ((constableref01_Do.f kj28 ((rd_T52 l0 x7_1).f0) ((rd_T40 x6_1 (ji23)).f1) ((rd_T40 x6_1 (ji26)).f1)).bind fun bt374 => (if bt374.2 = 0 then (if 0 ≤ (wrap64 ((x6_1.length : Int) - 2)) then (if (wrap64 ((x6_1.length : Int) - 2)) ≤ (x6_1.length : Int) then ((some (x6_1.take ((wrap64 ((x6_1.length : Int) - 2)) : Int).toNat : List (S40))).bind fun y376 => (if y376.length < 4398046511104 then (constableref01_Eval.l0 kj28 l0 l1 (y376 ++ [(⟨1, bt374.1, (⟨#[]⟩ : ByteArray)⟩ : S40)]) (wrap64 (x7_1 + 1))) else (none))) else (none)) else (none)) else (some (0, 0, (⟨#[]⟩ : ByteArray), bt374.2)))) else (none)) else (none)) = some (r1, r2, r3, r4) := by rw [if_neg (show ¬ (false = true) by decide)] at H; exact H
                            clear H
                            have H := H1
                            clear H1
                            by_cases c54 : 0 ≤ x7_1
                            · rw [if_pos c54] at H
                              have c54b0 : decide (0 ≤ x7_1) = true := decide_eq_true c54
                              clear c54
                              by_cases c55 : x7_1 < (l0.length : Int)
                              · rw [if_pos c55] at H
                                have c55b0 : decide (x7_1 < (l0.length : Int)) = true := decide_eq_true c55
                                clear c55
                                replace H := Option.bind_eq_some_iff.mp H
                                obtain ⟨⟨t374, t375⟩, A560, H⟩ := H
                                replace H : (if t375 = 0 then (if 0 ≤ (wrap64 ((x6_1.length : Int) - 2)) then (if (wrap64 ((x6_1.length : Int) - 2)) ≤ (x6_1.length : Int) then ((some (x6_1.take ((wrap64 ((x6_1.length : Int) - 2)) : Int).toNat : List (S40))).bind fun y376 => (if y376.length < 4398046511104 then (constableref01_Eval.l0 kj28 l0 l1 (y376 ++ [(⟨1, t374, (⟨#[]⟩ : ByteArray)⟩ : S40)]) (wrap64 (x7_1 + 1))) else (none))) else (none)) else (none)) else (some (0, 0, (⟨#[]⟩ : ByteArray), t375))) = some (r1, r2, r3, r4) := H
                                have A56 := Aside0.mk A560
                                clear A560
                                by_cases c57 : t375 = 0
                                · rw [if_pos c57] at H
                                  obtain ⟨c57b0, c57b1⟩ := eqB_ c57
                                  clear c57
                                  replace H : (if 0 ≤ (ji23) then (if (ji23) ≤ (x6_1.length : Int) then ((some (x6_1.take ((ji23) : Int).toNat : List (S40))).bind fun y376 => (if y376.length < 4398046511104 then (constableref01_Eval.l0 kj28 l0 l1 (y376 ++ [(⟨1, t374, (⟨#[]⟩ : ByteArray)⟩ : S40)]) (wrap64 (x7_1 + 1))) else (none))) else (none)) else (none)) = some (r1, r2, r3, r4) := by first | (rw [hji23] at H; exact H) | (simp only [hji23] at H ⊢; exact H)
                                  (try rw [hji23] at A56)
                                  have hji23w : (IntKind.i64.wrap ((x6_1.length : Int) - 2)) = ji23 := (i64_w _).trans hji23
                                  by_cases c59 : 0 ≤ (ji23)
                                  · rw [if_pos c59] at H
                                    have c59b0 := eq_true c59
                                    have c59b1 : decide (0 ≤ (ji23)) = true := decide_eq_true c59
                                    clear c59
                                    by_cases c60 : (ji23) ≤ (x6_1.length : Int)
                                    · rw [if_pos c60] at H
                                      have c60b0 := eq_true c60
                                      have c60b1 : decide ((ji23) ≤ (x6_1.length : Int)) = true := decide_eq_true c60
                                      clear c60
                                      obtain ⟨y376, hy376⟩ : ∃ y_ : List (S40), y_ = (x6_1.take ((ji23) : Int).toNat) := ⟨_, rfl⟩
                                      replace H : (if y376.length < 4398046511104 then (constableref01_Eval.l0 kj28 l0 l1 (y376 ++ [(⟨1, t374, (⟨#[]⟩ : ByteArray)⟩ : S40)]) (wrap64 (x7_1 + 1))) else (none)) = some (r1, r2, r3, r4) := by first | (rw [hy376]; with_reducible exact H) | (have H2_ := (Option.bind_some _ _).symm.trans H; rw [hy376]; with_reducible exact H2_) | (have H2_ := (Option.bind_some _ _).symm.trans H; with_reducible exact H2_) | with_reducible exact H | (rw [hy376]; exact H) | exact H
                                      have Ny376 := Aside0.mk hy376
                                      clear hy376
                                      by_cases c61 : y376.length < 4398046511104
                                      · rw [if_pos c61] at H
                                        have LMc61 := Aside0.mk c61
                                        clear c61
                                        obtain ⟨y379, hy379⟩ : ∃ y_ : List (S40), y_ = (y376 ++ [(⟨1, t374, (⟨#[]⟩ : ByteArray)⟩ : S40)]) := ⟨_, rfl⟩
                                        replace H : (constableref01_Eval.l0 kj28 l0 l1 y379 (wrap64 (x7_1 + 1))) = some (r1, r2, r3, r4) := by first | (rw [hy379]; with_reducible exact H) | (have H2_ := (Option.bind_some _ _).symm.trans H; rw [hy379]; with_reducible exact H2_) | (have H2_ := (Option.bind_some _ _).symm.trans H; with_reducible exact H2_) | with_reducible exact H | (rw [hy379]; exact H) | exact H
                                        have Ny379 := Aside0.mk hy379
                                        clear hy379
                                        have H' := Aside0.mk H
                                        clear H
                                        try go_wp2
                                        have n0_ := Aside0.mk (Kd.R_drew HO_6.out)
                                        have n1_ := Aside0.mk (blk_drew BK353.out)
                                        have n2_ := Aside0.mk (blk_drew BK371.out)
                                        have n3_ := Aside0.mk (blk_drew BK372.out)
                                        have n4_ := Aside0.mk (below_drew1 HB.out)
                                        clear HO_6
                                        clear BK353
                                        clear BK371
                                        clear BK372
                                        clear HB
                                        have HO_6 := n0_
                                        have BK353 := n1_
                                        have BK371 := n2_
                                        have BK372 := n3_
                                        have HB := n4_
                                        clear n0_ n1_ n2_ n3_ n4_
                                        have p373 : 0 ≤ (x7_1 : Int) := dt_
                                        have q373 : x7_1 < (l0.length : Int) := dt_
                                        obtain ⟨ad373, e373, hx373_0, hx373_1, hx373_2, hx373_3, hx373_4⟩ := at_T52 HR0.out x7_1 p373 q373
                                        have hw373_4 := hx373_4
                                        have hw373_3 := hx373_3
                                        have hw373_2 := hx373_2
                                        have hw373_1 := hx373_1
                                        have hw373_0 := hx373_0
                                        obtain rfl : ad355 = ad373 := (by injection e373)
                                        replace hx373_0 := cm_ HB hx373_0
                                        replace hx373_1 := cm_ HB hx373_1
                                        replace hx373_2 := cm_ HB hx373_2
                                        replace hx373_3 := cm_ HB hx373_3
                                        replace hx373_4 := cm_ HB hx373_4
                                        replace p373 := eq_true p373
                                        replace q373 := eq_true q373
                                        refine start_ (n := 15) (S := fun w' => w'.cell? ⟨gb371, 0, none⟩ = some (.int .i64 ((rd_T40 x6_1 (ji23)).f0)) ∧ w'.cell? ⟨gb371, 1, none⟩ = some (.int .i64 ((rd_T40 x6_1 (ji23)).f1)) ∧ w'.cell? ⟨gb371, 2, none⟩ = some (.string ((rd_T40 x6_1 (ji23)).f2)) ∧ w'.cell? ⟨gb372, 0, none⟩ = some (.int .i64 ((rd_T40 x6_1 (ji26)).f0)) ∧ w'.cell? ⟨gb372, 1, none⟩ = some (.int .i64 ((rd_T40 x6_1 (ji26)).f1)) ∧ w'.cell? ⟨gb372, 2, none⟩ = some (.string ((rd_T40 x6_1 (ji26)).f2)) ∧ w'.cell? (ad355.add ((x7_1).toNat * 5)) = some (.int .i64 ((rd_T52 l0 x7_1).f0)) ∧ w'.cell? ⟨(ad355.add ((x7_1).toNat * 5)).block, (ad355.add ((x7_1).toNat * 5)).off + 1, none⟩ = some (.string ((rd_T52 l0 x7_1).f1)) ∧ w'.cell? ⟨(ad355.add ((x7_1).toNat * 5)).block, (ad355.add ((x7_1).toNat * 5)).off + 2, none⟩ = some (.int .i64 ((rd_T52 l0 x7_1).f2.f0)) ∧ w'.cell? ⟨(ad355.add ((x7_1).toNat * 5)).block, (ad355.add ((x7_1).toNat * 5)).off + 3, none⟩ = some (.int .i64 ((rd_T52 l0 x7_1).f2.f1)) ∧ w'.cell? ⟨(ad355.add ((x7_1).toNat * 5)).block, (ad355.add ((x7_1).toNat * 5)).off + 4, none⟩ = some (.string ((rd_T52 l0 x7_1).f2.f2))) (ds := []) (mk_ 15 0) (by kernel_rfl) rfl rfl ⟨(blk_cell BK371.out 0).trans rfl, (blk_cell BK371.out 1).trans rfl, (blk_cell BK371.out 2).trans rfl, (blk_cell BK372.out 0).trans rfl, (blk_cell BK372.out 1).trans rfl, (blk_cell BK372.out 2).trans rfl, (cl_ HB hw373_0), (cl_ HB hw373_1), (cl_ HB hw373_2), (cl_ HB hw373_3), (cl_ HB hw373_4)⟩ (fun hHeld => ?_); refine with_tabW constableref01_Eval.tab9 constableref01_Eval.bits9 (fun HT_ HW_ => ?_)
                                        generalize wc.drew = w62 at HO_6 BK353 BK371 BK372 HB hx373_0 hx373_1 hx373_2 hx373_3 hx373_4 hHeld ⊢
                                        refine pu_ 0 47 1 HT_ ?_; refine pu_ 1 48 3 HT_ ?_; refine pu_ 2 49 7 HT_ ?_; refine pu_ 3 50 15 HT_ ?_; refine pu_ 5 52 47 HT_ ?_; refine pu_ 7 54 175 HT_ ?_; refine tk_ 4 51 191 HT_ HW_ hHeld ?_; refine tk_ 6 53 255 HT_ HW_ hHeld ?_; refine tk_ 8 55 511 HT_ HW_ hHeld ?_
                                        refine one_ (i := 9) (N := some 56) (mk_ 15 1023) rfl rfl (one_of HT_.out (by kernel_rfl)) (by decide) (fun K hK => ?_)
                                        refine goes_ Try.func14 (by kernel_rfl) rfl #[.int .i64 ((rd_T52 l0 x7_1).f0), .int .i64 ((rd_T40 x6_1 (ji23)).f1), .int .i64 ((rd_T40 x6_1 (ji26)).f1)] (by rfl) rfl rfl (by (try simp only [List.map_toArray, List.map_cons, List.map_nil]); first | done | (simp only [hji23, hji26]; rfl) | rfl | (simp only [List.length_drop, List.length_take]; rfl)) ?_
                                        with_reducible refine (constableref01_Do.calls kj28 ((rd_T52 l0 x7_1).f0) ((rd_T40 x6_1 (ji23)).f1) ((rd_T40 x6_1 (ji26)).f1) t374 t375 _ A56.out).mono ?_
                                        rintro e w63 ⟨rfl, hb⟩
                                        refine ⟨_, rfl, ?_⟩
                                        have n0_ := kb_ (ku_ HO_6.out) hb
                                        have n1_ := bb_ (bu_ BK353) hb
                                        have n2_ := bb_ (bu_ BK371) hb
                                        have n3_ := bb_ (bu_ BK372) hb
                                        have n4_ := bs_ (be_ HB) hb
                                        clear HO_6
                                        clear BK353
                                        clear BK371
                                        clear BK372
                                        clear HB
                                        have HO_6 := n0_
                                        have BK353 := n1_
                                        have BK371 := n2_
                                        have BK372 := n3_
                                        have HB := n4_
                                        clear n0_ n1_ n2_ n3_ n4_
                                        (try clear hb)
                                        (try clear hb2)
                                        (try clear hk)
                                        (try clear hi)
                                        refine hK.out _ _ ⟨(blk_cell BK371.out 0).trans rfl, (blk_cell BK371.out 1).trans rfl, (blk_cell BK371.out 2).trans rfl, (blk_cell BK372.out 0).trans rfl, (blk_cell BK372.out 1).trans rfl, (blk_cell BK372.out 2).trans rfl, (cl_ HB hw373_0), (cl_ HB hw373_1), (cl_ HB hw373_2), (cl_ HB hw373_3), (cl_ HB hw373_4)⟩ (fun hHeld => ?_)
                                        clear hK K
                                        refine nm_ 56 ?_; refine pu_ 10 46 2047 HT_ ?_; refine pu_ 11 57 4095 HT_ ?_; refine pu_ 12 58 8191 HT_ ?_; refine pu_ 13 12 16383 HT_ ?_; refine pu_ 14 13 32767 HT_ ?_
                                        refine done_ (done_of HT_.out (by kernel_rfl)) ?_
                                        have q64 : ((ji23) : Int) ≤ ((x6_1.length : Int) : Int) := dt_
                                        obtain ⟨i064, hi064, _, hsz64, _⟩ := info_parts info40
                                        have hcut64 := cut_to (P := Try.prog) 64 40 .i64 Try.underlying64 hi064 (some ad369) x6_1.length co31 (ji23) dt_ q64 (Kd.R_reads' HO_6.out).2.1
                                        have hr64 := Kd.R_take (m := ((ji23) : Int).toNat) HO_6.out (by omega)
                                        have hy64 : y376.length = ((ji23) : Int).toNat := (by rw [Ny376.out, List.length_take]; omega)
                                        rw [← Ny376.out] at hr64
                                        rw [← hy64] at hr64 hcut64
                                        clear hy64 hi064 hsz64 HO_6
                                        have HO378 := Aside0.mk hr64
                                        clear hr64
                                        replace q64 := eq_true q64
                                        try go_wp2_with (first | ((with_reducible refine gate_builtin (b := .append) (xs := #[.tmp 67, .tmp 70]) rfl ?_); at_builtin; refine Kd.R_append k40 (w0 := w) w.heap.size rfl (.tmp 67) (.tmp 70) 64 40 (.agg #[(.int .i64 0), (.int .i64 0), (.string ⟨#[]⟩)]) 32 rfl Try.underlying64 info40 rfl (by decide) (by omega) (.slice (some ad369) y376.length co31) y376 (⟨1, t374, (⟨#[]⟩ : ByteArray)⟩ : S40) [.int .i64 1, .int .i64 t374, .string (⟨#[]⟩ : ByteArray)] (fun k_ => k_ ≠ gb353 ∧ k_ ≠ gb371 ∧ k_ ≠ gb372) (fun _ => False) rfl rfl ?aP (fun _ hk => hk.elim) ?aF ?aO ?aB ?aS ?aL ?_; (case aP => exact k40_mkM _ _ _ (⟨1, t374, (⟨#[]⟩ : ByteArray)⟩ : S40)); (case aB => exact (be_ HB)); (case aF => exact (fun k_ hk => ⟨Kd.freshB (bu_ BK353) k_ hk, Kd.freshB (bu_ BK371) k_ hk, Kd.freshB (bu_ BK372) k_ hk⟩)); (case aO => exact (ku_ HO378.out)); (case aS => exact (below_size (be_ HB))); (case aL => have := LMc61.out; omega); intro v380 w65 ho hb hg hat; rw [← Ny379.out] at ho; have n0_ := Aside0.mk (blk_grown (bu_ BK353) hg (Kd.R_away HO378.out (fun _ hk => hk.1))); have n1_ := Aside0.mk (blk_grown (bu_ BK371) hg (Kd.R_away HO378.out (fun _ hk => hk.2.1))); have n2_ := Aside0.mk (blk_grown (bu_ BK372) hg (Kd.R_away HO378.out (fun _ hk => hk.2.2))); have n3_ := Aside0.mk (hb); have n4_ := Aside0.mk (ho); clear BK353; clear BK371; clear BK372; clear HB; clear HO378; have BK353 := n0_; have BK371 := n1_; have BK372 := n2_; have HB := n3_; have HO381 := n4_; clear n0_ n1_ n2_ n3_ n4_; clear ho hb hg hat))
                                        go_roundg kj28
                                        case measure => have := HK1.out; have := HJ28.out; omega
                                        case rel => exact ⟨(y379), (wrap64 (x7_1 + 1)), (x354000_1), (x354001_1), (x354002_1), ra_, H', ⟨by have := HK1.out; have := HJ28.out; omega⟩, ⟨by (with_reducible repeat (first | apply Kd.R_alloc | apply Kd.R_drewN | apply Kd.R_drew)); exact Kd.R_mono HO381.out (fun _ hk => hk.1)⟩, ⟨by (with_reducible repeat (first | refine blk_drewN ?_ _ | refine blk_drew ?_ | refine blk_alloc ?_ _)); exact BK353.out⟩, ⟨by repeat (first | (with_reducible first | exact HB.out | apply below_alloc | apply pw_below_drewN | apply below_drew1 | refine below_set ?_ GE353.out | refine below_set ?_ GE371.out | refine below_set ?_ GE372.out) | exact HB.out)⟩⟩
                                      · rw [if_neg c61] at H
                                        exact absurd H (by simp)
                                    · rw [if_neg c60] at H
                                      exact absurd H (by simp)
                                  · rw [if_neg c59] at H
                                    exact absurd H (by simp)
                                · rw [if_neg c57] at H
                                  obtain ⟨c57b0, c57b1⟩ := neB_ c57
                                  simp only [Option.some.injEq, Prod.mk.injEq] at H
                                  obtain ⟨rfl, rfl, rfl, rfl⟩ := H
                                  try go_wp2
                                  have n0_ := Aside0.mk (Kd.R_drew HO_6.out)
                                  have n1_ := Aside0.mk (blk_drew BK353.out)
                                  have n2_ := Aside0.mk (blk_drew BK371.out)
                                  have n3_ := Aside0.mk (blk_drew BK372.out)
                                  have n4_ := Aside0.mk (below_drew1 HB.out)
                                  clear HO_6
                                  clear BK353
                                  clear BK371
                                  clear BK372
                                  clear HB
                                  have HO_6 := n0_
                                  have BK353 := n1_
                                  have BK371 := n2_
                                  have BK372 := n3_
                                  have HB := n4_
                                  clear n0_ n1_ n2_ n3_ n4_
                                  have p373 : 0 ≤ (x7_1 : Int) := dt_
                                  have q373 : x7_1 < (l0.length : Int) := dt_
                                  obtain ⟨ad373, e373, hx373_0, hx373_1, hx373_2, hx373_3, hx373_4⟩ := at_T52 HR0.out x7_1 p373 q373
                                  have hw373_4 := hx373_4
                                  have hw373_3 := hx373_3
                                  have hw373_2 := hx373_2
                                  have hw373_1 := hx373_1
                                  have hw373_0 := hx373_0
                                  obtain rfl : ad355 = ad373 := (by injection e373)
                                  replace hx373_0 := cm_ HB hx373_0
                                  replace hx373_1 := cm_ HB hx373_1
                                  replace hx373_2 := cm_ HB hx373_2
                                  replace hx373_3 := cm_ HB hx373_3
                                  replace hx373_4 := cm_ HB hx373_4
                                  replace p373 := eq_true p373
                                  replace q373 := eq_true q373
                                  refine start_ (n := 15) (S := fun w' => w'.cell? ⟨gb371, 0, none⟩ = some (.int .i64 ((rd_T40 x6_1 (ji23)).f0)) ∧ w'.cell? ⟨gb371, 1, none⟩ = some (.int .i64 ((rd_T40 x6_1 (ji23)).f1)) ∧ w'.cell? ⟨gb371, 2, none⟩ = some (.string ((rd_T40 x6_1 (ji23)).f2)) ∧ w'.cell? ⟨gb372, 0, none⟩ = some (.int .i64 ((rd_T40 x6_1 (ji26)).f0)) ∧ w'.cell? ⟨gb372, 1, none⟩ = some (.int .i64 ((rd_T40 x6_1 (ji26)).f1)) ∧ w'.cell? ⟨gb372, 2, none⟩ = some (.string ((rd_T40 x6_1 (ji26)).f2)) ∧ w'.cell? (ad355.add ((x7_1).toNat * 5)) = some (.int .i64 ((rd_T52 l0 x7_1).f0)) ∧ w'.cell? ⟨(ad355.add ((x7_1).toNat * 5)).block, (ad355.add ((x7_1).toNat * 5)).off + 1, none⟩ = some (.string ((rd_T52 l0 x7_1).f1)) ∧ w'.cell? ⟨(ad355.add ((x7_1).toNat * 5)).block, (ad355.add ((x7_1).toNat * 5)).off + 2, none⟩ = some (.int .i64 ((rd_T52 l0 x7_1).f2.f0)) ∧ w'.cell? ⟨(ad355.add ((x7_1).toNat * 5)).block, (ad355.add ((x7_1).toNat * 5)).off + 3, none⟩ = some (.int .i64 ((rd_T52 l0 x7_1).f2.f1)) ∧ w'.cell? ⟨(ad355.add ((x7_1).toNat * 5)).block, (ad355.add ((x7_1).toNat * 5)).off + 4, none⟩ = some (.string ((rd_T52 l0 x7_1).f2.f2))) (ds := []) (mk_ 15 0) (by kernel_rfl) rfl rfl ⟨(blk_cell BK371.out 0).trans rfl, (blk_cell BK371.out 1).trans rfl, (blk_cell BK371.out 2).trans rfl, (blk_cell BK372.out 0).trans rfl, (blk_cell BK372.out 1).trans rfl, (blk_cell BK372.out 2).trans rfl, (cl_ HB hw373_0), (cl_ HB hw373_1), (cl_ HB hw373_2), (cl_ HB hw373_3), (cl_ HB hw373_4)⟩ (fun hHeld => ?_); refine with_tabW constableref01_Eval.tab9 constableref01_Eval.bits9 (fun HT_ HW_ => ?_)
                                  generalize wc.drew = w66 at HO_6 BK353 BK371 BK372 HB hx373_0 hx373_1 hx373_2 hx373_3 hx373_4 hHeld ⊢
                                  refine pu_ 0 47 1 HT_ ?_; refine pu_ 1 48 3 HT_ ?_; refine pu_ 2 49 7 HT_ ?_; refine pu_ 3 50 15 HT_ ?_; refine pu_ 5 52 47 HT_ ?_; refine pu_ 7 54 175 HT_ ?_; refine tk_ 4 51 191 HT_ HW_ hHeld ?_; refine tk_ 6 53 255 HT_ HW_ hHeld ?_; refine tk_ 8 55 511 HT_ HW_ hHeld ?_
                                  refine one_ (i := 9) (N := some 56) (mk_ 15 1023) rfl rfl (one_of HT_.out (by kernel_rfl)) (by decide) (fun K hK => ?_)
                                  refine goes_ Try.func14 (by kernel_rfl) rfl #[.int .i64 ((rd_T52 l0 x7_1).f0), .int .i64 ((rd_T40 x6_1 (ji23)).f1), .int .i64 ((rd_T40 x6_1 (ji26)).f1)] (by rfl) rfl rfl (by (try simp only [List.map_toArray, List.map_cons, List.map_nil]); first | done | (simp only [hji23, hji26]; rfl) | rfl | (simp only [List.length_drop, List.length_take]; rfl)) ?_
                                  with_reducible refine (constableref01_Do.calls kj28 ((rd_T52 l0 x7_1).f0) ((rd_T40 x6_1 (ji23)).f1) ((rd_T40 x6_1 (ji26)).f1) t374 t375 _ A56.out).mono ?_
                                  rintro e w67 ⟨rfl, hb⟩
                                  refine ⟨_, rfl, ?_⟩
                                  have n0_ := kb_ (ku_ HO_6.out) hb
                                  have n1_ := bb_ (bu_ BK353) hb
                                  have n2_ := bb_ (bu_ BK371) hb
                                  have n3_ := bb_ (bu_ BK372) hb
                                  have n4_ := bs_ (be_ HB) hb
                                  clear HO_6
                                  clear BK353
                                  clear BK371
                                  clear BK372
                                  clear HB
                                  have HO_6 := n0_
                                  have BK353 := n1_
                                  have BK371 := n2_
                                  have BK372 := n3_
                                  have HB := n4_
                                  clear n0_ n1_ n2_ n3_ n4_
                                  (try clear hb)
                                  (try clear hb2)
                                  (try clear hk)
                                  (try clear hi)
                                  refine hK.out _ _ ⟨(blk_cell BK371.out 0).trans rfl, (blk_cell BK371.out 1).trans rfl, (blk_cell BK371.out 2).trans rfl, (blk_cell BK372.out 0).trans rfl, (blk_cell BK372.out 1).trans rfl, (blk_cell BK372.out 2).trans rfl, (cl_ HB hw373_0), (cl_ HB hw373_1), (cl_ HB hw373_2), (cl_ HB hw373_3), (cl_ HB hw373_4)⟩ (fun hHeld => ?_)
                                  clear hK K
                                  refine nm_ 56 ?_; refine pu_ 10 46 2047 HT_ ?_; refine pu_ 11 57 4095 HT_ ?_; refine pu_ 12 58 8191 HT_ ?_; refine pu_ 13 12 16383 HT_ ?_; refine pu_ 14 13 32767 HT_ ?_
                                  refine done_ (done_of HT_.out (by kernel_rfl)) ?_
                                  have hnb68 := NB353_371.out
                                  have hnc68 := NB371_353.out
                                  have hnb69 := NB353_372.out
                                  have hnc69 := NB372_353.out
                                  have hcz70_0 : w67.cell? ⟨gb353, 0, none⟩ = some (.int .i64 x354000_1) := (blk_cell BK353.out 0).trans rfl
                                  have hcz70_1 : w67.cell? ⟨gb353, 1, none⟩ = some (.int .i64 x354001_1) := (blk_cell BK353.out 1).trans rfl
                                  have hcz70_2 : w67.cell? ⟨gb353, 2, none⟩ = some (.string x354002_1) := (blk_cell BK353.out 2).trans rfl
                                  have hfz70_0 := blk_frozen BK353.out 0
                                  have hfz70_1 := blk_frozen BK353.out 1
                                  have hfz70_2 := blk_frozen BK353.out 2
                                  try go_wp2
                                  refine bodyPost_ret (results_ct rfl _ _ gb353 40 #[.int .i64 0, .int .i64 0, .string (⟨#[]⟩ : ByteArray)] (0, 0) _ rfl (bp_ BK353) Try.underlying40 rfl (by kernel_rfl)) rfl ?_
                                  exact ⟨by first | rfl | (simp [errW_none, errW_some] <;> rfl) | (simp only [← hji23, ← hji26]; first | rfl | (simp [errW_none, errW_some] <;> rfl)) | (simp [*, errW_none, errW_some] <;> rfl), by repeat (first | (with_reducible first | exact HB.out | apply below_alloc | apply pw_below_drewN | apply below_drew1 | refine below_set ?_ GE353.out | refine below_set ?_ GE371.out | refine below_set ?_ GE372.out) | exact HB.out)⟩
                              · rw [if_neg c55] at H
                                exact absurd H (by simp)
                            · rw [if_neg c54] at H
                              exact absurd H (by simp)
                    · rw [if_neg c28] at H
                      exact absurd H (by simp)
                  · rw [if_neg c27] at H
                    exact absurd H (by simp)
                · rw [if_neg c25] at H
                  exact absurd H (by simp)
              · rw [if_neg c24] at H
                exact absurd H (by simp)
        · rw [if_neg c5] at H
          exact absurd H (by simp)
      · rw [if_neg c4] at H
        have c4b0 : decide (x7_1 < (l0.length : Int)) = false := decide_eq_false c4
        clear c4
        by_cases c71 : 0 < (x6_1.length : Int)
        · rw [if_pos c71] at H
          have c71b0 : decide (0 < (x6_1.length : Int)) = true := decide_eq_true c71
          have c71b1 : decide (0 < x6_1.length) = true := decide_eq_true (by omega)
          clear c71
          simp only [Option.some.injEq, Prod.mk.injEq] at H
          obtain ⟨rfl, rfl, rfl, rfl⟩ := H
          obtain ⟨Ao72, co72, eo72⟩ := Kd.R_slice HO_6.out
          subst eo72
          have p354 : 0 ≤ (0 : Int) := (by omega)
          have q354 : 0 < (x6_1.length : Int) := dt_
          obtain ⟨ad354, e354, hx354_0, hx354_1, hx354_2⟩ := at_T40 (Kd.R_reads' HO_6.out).2.2 0 p354 q354
          cases e354
          have qi354 : (0 < x6_1.length) = True := eq_true (by omega)
          (try rw [show ((0 : Int)).toNat = 0 from rfl] at hx354_0)
          (try rw [show 0 * 3 = 0 from rfl] at hx354_0)
          (try rw [Addr.add_zero'] at hx354_0)
          (try rw [show ((0 : Int)).toNat = 0 from rfl] at hx354_1)
          (try rw [show 0 * 3 = 0 from rfl] at hx354_1)
          (try rw [Addr.add_zero'] at hx354_1)
          (try rw [show ((0 : Int)).toNat = 0 from rfl] at hx354_2)
          (try rw [show 0 * 3 = 0 from rfl] at hx354_2)
          (try rw [Addr.add_zero'] at hx354_2)
          replace p354 := eq_true p354
          replace q354 := eq_true q354
          have hcz73_0 : wr.cell? ⟨gb353, 0, none⟩ = some (.int .i64 x354000_1) := (blk_cell BK353.out 0).trans rfl
          have hcz73_1 : wr.cell? ⟨gb353, 1, none⟩ = some (.int .i64 x354001_1) := (blk_cell BK353.out 1).trans rfl
          have hcz73_2 : wr.cell? ⟨gb353, 2, none⟩ = some (.string x354002_1) := (blk_cell BK353.out 2).trans rfl
          have hfz73_0 := blk_frozen BK353.out 0
          have hfz73_1 := blk_frozen BK353.out 1
          have hfz73_2 := blk_frozen BK353.out 2
          go_wp2
          refine bodyPost_ret (results_ct rfl _ _ gb353 40 #[.int .i64 ((rd_T40 x6_1 0).f0), .int .i64 ((rd_T40 x6_1 0).f1), .string ((rd_T40 x6_1 0).f2)] (0, 0) _ rfl (bp_ BK353) Try.underlying40 rfl (by kernel_rfl)) rfl ?_
          exact ⟨by first | rfl | (simp [errW_none, errW_some] <;> rfl) | (simp [*, errW_none, errW_some] <;> rfl), by repeat (first | (with_reducible first | exact HB.out | apply below_alloc | apply pw_below_drewN | apply below_drew1 | refine below_set ?_ GE353.out) | exact HB.out)⟩
        · rw [if_neg c71] at H
          exact absurd H (by simp)
end Go.Proofs.Ytconpnagoijacaa.P
end
section
namespace Go.Proofs.Ytconpnagoijacaa.P
open Go.RowKit Go.Proofs.YtconpnagoijacaaW.PrintWords Go.Proofs.YtconpnagoijacaaW.PrintLast Go.Proofs.YtconpnagoijacaaW.PrintMore
attribute [local go_sem] max2_int min2_int max_two min_two max_three min_three max_four min_four
set_option linter.unusedVariables false
set_option linter.unusedSimpArgs false
def constableref01_With.l0 : Nat → List ByteArray → ByteArray → Int → Option (List ByteArray)
  | 0, _, _, _ => none
  | k + 1, x0, x1, x5 => if x5 < (x0.length : Int) then (if 0 ≤ x5 then (if (rdOf ByteArray.empty x0 x5).toList = x1.toList then (some x0) else (constableref01_With.l0 k x0 x1 (wrap64 (x5 + 1)))) else (none)) else (if x0.length < 8796093022208 then (some (x0 ++ [x1])) else (none))
def constableref01_With.f (k : Nat) (l0 : List ByteArray) (a1 : ByteArray) : Option (List ByteArray) := if (a1.size : Int) = 0 then (some l0) else (constableref01_With.l0 k l0 a1 0)
theorem constableref01_With.mono_l : ∀ k, (∀ y0 y1 y2, LeO (constableref01_With.l0 k y0 y1 y2) (constableref01_With.l0 (k + 1) y0 y1 y2))
  | 0 => fun _ _ _ r h => by simp [constableref01_With.l0] at h
  | k + 1 => by
    have ih0 := constableref01_With.mono_l k
    · intro y0 y1 y2
      unfold constableref01_With.l0
      repeat' first
      | (with_reducible exact ih0 _ _ _)
      | (with_reducible exact LeO.refl _)
      | (with_reducible exact LeO.none _)
      | (with_reducible refine LeO.ite ?_ ?_)
      | (with_reducible refine LeO.bind ?_ (fun _ => ?_))
      | exact ih0 _ _ _
      | exact LeO.none _
      | refine LeO.ite ?_ ?_
      | refine LeO.bind ?_ (fun _ => ?_)
theorem constableref01_With.mono : ∀ a0 a1 k, LeO (constableref01_With.f k a0 a1) (constableref01_With.f (k + 1) a0 a1) := by
  intro a0 a1 k
  have ih0 := constableref01_With.mono_l k
  unfold constableref01_With.f
  repeat' first
      | (with_reducible exact ih0 _ _ _)
      | (with_reducible exact LeO.refl _)
      | (with_reducible exact LeO.none _)
      | (with_reducible refine LeO.ite ?_ ?_)
      | (with_reducible refine LeO.bind ?_ (fun _ => ?_))
      | exact ih0 _ _ _
      | exact LeO.none _
      | refine LeO.ite ?_ ?_
      | refine LeO.bind ?_ (fun _ => ?_)
set_option maxHeartbeats 8000000 in
set_option maxRecDepth 100000 in
theorem constableref01_With.calls (k : Nat) (P0_ : Nat → Prop) (u9000_ : Value) (l0 : List ByteArray) (a1 : ByteArray) (r : List ByteArray) (w0 w : World) (hB : Below w0.heap.size w0 w) (ho0 : Kd.R Kd.string 9 w w0.heap.size P0_ u9000_ l0) (h : constableref01_With.f k l0 a1 = some r) :
    Calls Try.prog 44 #[u9000_, .string a1] w fun e w' => ∃ v0_ : Value, e = .returned (v0_) ∧ Kd.R Kd.string 9 w' w0.heap.size (fun k_ => (P0_ k_ ∨ w.heap.size ≤ k_)) v0_ r ∧ Below w0.heap.size w0 w' ∧ Kept w w' (fun k_ => P0_ k_) := by
  have HO0 := Aside0.mk (show Kd.R Kd.string 9 w w0.heap.size (fun k_ => (P0_ k_ ∨ w.heap.size ≤ k_)) u9000_ l0 from Kd.R_mono ho0 (fun k_ hk => (.inl hk)))
  have HK := Aside0.mk (Kept.refl w (fun k_ => P0_ k_))
  have HW0 := Aside0.mk hB.size
  have HB := Aside0.mk hB
  clear hB
  have H : (if (a1.size : Int) = 0 then (some l0) else (constableref01_With.l0 k l0 a1 0)) = some r := h
  clear h
  by_cases c3 : (a1.size : Int) = 0
  · rw [if_pos c3] at H
    obtain ⟨c3b0, c3b1⟩ := eqB_ c3
    clear c3
    obtain rfl := Option.some.inj H
    go_enter Try.func44, Try.ntmps44
    go_wp2
    go_ret
    exact ⟨_, by first | rfl | (simp [errW_none, errW_some] <;> rfl) | (simp [*, errW_none, errW_some] <;> rfl), by (with_reducible repeat (first | apply Kd.R_alloc | apply Kd.R_drewN | apply Kd.R_drew)); exact HO0.out, by repeat (first | (with_reducible first | exact HB.out | apply below_alloc | apply pw_below_drewN | apply below_drew1) | exact HB.out), by repeat (first | (with_reducible first | exact HK.out | apply Kept.alloc | apply Kept.drewN | apply Kept.drew) | exact HK.out)⟩
  · rw [if_neg c3] at H
    obtain ⟨c3b0, c3b1⟩ := neB_ c3
    have H' := Aside0.mk H
    clear H
    go_enter Try.func44, Try.ntmps44
    go_wp2
    go_loopg [5] k (fun kq v5 w' => ∃ (x5_1 : Int), v5 = .int .i64 x5_1 ∧ Aside0 (constableref01_With.l0 kq l0 a1 x5_1 = some r) ∧ Aside0 (kq ≤ k) ∧ Aside0 (Kd.R Kd.string 9 w' w0.heap.size (fun k_ => (P0_ k_ ∨ w.heap.size ≤ k_)) u9000_ l0) ∧ Aside0 (Kept w w' (fun k_ => P0_ k_)) ∧ Aside0 (Below w0.heap.size w0 w'))
    case atStart => exact ⟨(0), ra_, H', ⟨Nat.le_refl _⟩, ⟨by (with_reducible repeat (first | apply Kd.R_alloc | apply Kd.R_drewN | apply Kd.R_drew)); exact HO0.out⟩, ⟨by repeat (first | (with_reducible first | exact HK.out | apply Kept.alloc | apply Kept.drewN | apply Kept.drew) | exact HK.out)⟩, ⟨by repeat (first | (with_reducible first | exact HB.out | apply below_alloc | apply pw_below_drewN | apply below_drew1) | exact HB.out)⟩⟩
    case round =>
      clear H'
      try clear p2
      try clear c3
      try clear c3b0
      try clear c3b1
      obtain ⟨x5_1, rfl, HA, HK1, HO_0, HK, HB⟩ := hrel
      cases gk with
      | zero => exact absurd HA.out (by simp [constableref01_With.l0])
      | succ k1 =>
        have H := HA.out
        clear HA
        simp only [constableref01_With.l0] at H
        by_cases c4 : x5_1 < (l0.length : Int)
        · rw [if_pos c4] at H
          have c4b0 : decide (x5_1 < (l0.length : Int)) = true := decide_eq_true c4
          clear c4
          by_cases c5 : 0 ≤ x5_1
          · rw [if_pos c5] at H
            have c5b0 : decide (0 ≤ x5_1) = true := decide_eq_true c5
            clear c5
            by_cases c6 : (rdOf ByteArray.empty l0 x5_1).toList = a1.toList
            · rw [if_pos c6] at H
              obtain ⟨c6b0, c6b1⟩ := eqB_ c6
              clear c6
              obtain rfl := Option.some.inj H
              obtain ⟨Ao7, co7, eo7⟩ := Kd.R_slice HO_0.out
              subst eo7
              have p285 : 0 ≤ (x5_1 : Int) := dt_
              have q285 : x5_1 < (l0.length : Int) := dt_
              obtain ⟨ad285, e285, hx285_0⟩ := Kd.at_string (Kd.R_reads' HO_0.out).2.2 x5_1 p285 q285
              cases e285
              replace p285 := eq_true p285
              replace q285 := eq_true q285
              go_wp2
              go_ret
              exact ⟨_, by first | rfl | (simp [errW_none, errW_some] <;> rfl) | (simp [*, errW_none, errW_some] <;> rfl), by (with_reducible repeat (first | apply Kd.R_alloc | apply Kd.R_drewN | apply Kd.R_drew)); exact HO_0.out, by repeat (first | (with_reducible first | exact HB.out | apply below_alloc | apply pw_below_drewN | apply below_drew1) | exact HB.out), by repeat (first | (with_reducible first | exact HK.out | apply Kept.alloc | apply Kept.drewN | apply Kept.drew) | exact HK.out)⟩
            · rw [if_neg c6] at H
              obtain ⟨c6b0, c6b1⟩ := neB_ c6
              have H' := Aside0.mk H
              clear H
              obtain ⟨Ao8, co8, eo8⟩ := Kd.R_slice HO_0.out
              subst eo8
              have p285 : 0 ≤ (x5_1 : Int) := dt_
              have q285 : x5_1 < (l0.length : Int) := dt_
              obtain ⟨ad285, e285, hx285_0⟩ := Kd.at_string (Kd.R_reads' HO_0.out).2.2 x5_1 p285 q285
              cases e285
              replace p285 := eq_true p285
              replace q285 := eq_true q285
              go_wp2
              go_roundg k1
              case measure => have := HK1.out; omega
              case rel => exact ⟨(wrap64 (x5_1 + 1)), ra_, H', ⟨by have := HK1.out; omega⟩, ⟨by (with_reducible repeat (first | apply Kd.R_alloc | apply Kd.R_drewN | apply Kd.R_drew)); exact HO_0.out⟩, ⟨by repeat (first | (with_reducible first | exact HK.out | apply Kept.alloc | apply Kept.drewN | apply Kept.drew) | exact HK.out)⟩, ⟨by repeat (first | (with_reducible first | exact HB.out | apply below_alloc | apply pw_below_drewN | apply below_drew1) | exact HB.out)⟩⟩
          · rw [if_neg c5] at H
            exact absurd H (by simp)
        · rw [if_neg c4] at H
          have c4b0 : decide (x5_1 < (l0.length : Int)) = false := decide_eq_false c4
          clear c4
          by_cases c9 : l0.length < 8796093022208
          · rw [if_pos c9] at H
            have LMc9 := Aside0.mk c9
            clear c9
            obtain ⟨y286, hy286⟩ : ∃ y_ : List ByteArray, y_ = (l0 ++ [a1]) := ⟨_, rfl⟩
            replace H : (some y286) = some r := by first | (rw [hy286]; with_reducible exact H) | (have H2_ := (Option.bind_some _ _).symm.trans H; rw [hy286]; with_reducible exact H2_) | (have H2_ := (Option.bind_some _ _).symm.trans H; with_reducible exact H2_) | with_reducible exact H | (rw [hy286]; exact H) | exact H
            have Ny286 := Aside0.mk hy286
            clear hy286
            obtain rfl := Option.some.inj H
            obtain ⟨Ao10, co10, eo10⟩ := Kd.R_slice HO_0.out
            subst eo10
            go_wp2_with (first | ((with_reducible refine gate_builtin (b := .append) (xs := #[.tmp 23, .tmp 25]) rfl ?_); at_builtin; refine Kd.R_append Kd.string (w0 := w0) w0.heap.size rfl (.tmp 23) (.tmp 25) 44 9 (.string ⟨#[]⟩) 16 rfl Try.underlying44 info9 rfl (by decide) (by omega) (.slice Ao10 l0.length co10) l0 a1 [.string a1] (fun k_ => (P0_ k_ ∨ w.heap.size ≤ k_)) (fun _ => False) rfl rfl ?aP (fun _ hk => hk.elim) ?aF ?aO ?aB ?aS ?aL ?_; (case aP => exact rfl); (case aB => exact (be_ HB)); (case aF => exact (fun k_ hk => (.inr (Nat.le_trans (by first | exact HK.out.1 | exact (show Kept w _ (fun k_ => P0_ k_) from by repeat (first | (with_reducible first | exact HK.out | apply Kept.alloc | apply Kept.drewN | apply Kept.drew) | exact HK.out)).1) hk)))); (case aO => exact (ku_ HO_0.out)); (case aS => exact (below_size (be_ HB))); (case aL => have := LMc9.out; omega); intro v287 w11 ho hb hg hat; rw [← Ny286.out] at ho; have n0_ := Aside0.mk (hb); have n1_ := Aside0.mk (Kept.of_grown (S := (fun k_ => P0_ k_)) hg (by repeat (first | (with_reducible first | exact HK.out | apply Kept.alloc | apply Kept.drewN | apply Kept.drew) | exact HK.out)) (fun k_ e_ => (HO_0.out.1 k_ e_))); have n2_ := Aside0.mk (ho); clear HB; clear HK; clear HO_0; have HB := n0_; have HK := n1_; have HO288 := n2_; clear n0_ n1_ n2_; clear ho hb hg hat))
            go_ret
            exact ⟨_, by first | rfl | (simp [errW_none, errW_some] <;> rfl) | (simp [*, errW_none, errW_some] <;> rfl), by (with_reducible repeat (first | apply Kd.R_alloc | apply Kd.R_drewN | apply Kd.R_drew)); exact HO288.out, by repeat (first | (with_reducible first | exact HB.out | apply below_alloc | apply pw_below_drewN | apply below_drew1) | exact HB.out), by repeat (first | (with_reducible first | exact HK.out | apply Kept.alloc | apply Kept.drewN | apply Kept.drew) | exact HK.out)⟩
          · rw [if_neg c9] at H
            exact absurd H (by simp)
end Go.Proofs.Ytconpnagoijacaa.P
end
section
namespace Go.Proofs.Ytconpnagoijacaa.P
open Go.RowKit Go.Proofs.YtconpnagoijacaaW.PrintWords Go.Proofs.YtconpnagoijacaaW.PrintLast Go.Proofs.YtconpnagoijacaaW.PrintMore
attribute [local go_sem] max2_int min2_int max_two min_two max_three min_three max_four min_four
set_option linter.unusedVariables false
set_option linter.unusedSimpArgs false
def constableref01_ExprVars.l0 : Nat → List (S52) → List ByteArray → Int → Option (List ByteArray)
  | 0, _, _, _ => none
  | k + 1, x0, x3, x4 => if x4 < (x0.length : Int) then (if 0 ≤ x4 then ((constableref01_With.f k x3 ((rd_T52 x0 x4).f1)).bind fun t290 => (constableref01_ExprVars.l0 k x0 t290 (wrap64 (x4 + 1)))) else (none)) else (some x3)
def constableref01_ExprVars.f (k : Nat) (l0 : List (S52)) : Option (List ByteArray) := constableref01_ExprVars.l0 k l0 ([] : List ByteArray) 0
theorem constableref01_ExprVars.mono_l : ∀ k, (∀ y0 y1 y2, LeO (constableref01_ExprVars.l0 k y0 y1 y2) (constableref01_ExprVars.l0 (k + 1) y0 y1 y2))
  | 0 => fun _ _ _ r h => by simp [constableref01_ExprVars.l0] at h
  | k + 1 => by
    have ih0 := constableref01_ExprVars.mono_l k
    · intro y0 y1 y2
      unfold constableref01_ExprVars.l0
      repeat' first
      | (with_reducible exact ih0 _ _ _)
      | (with_reducible exact constableref01_With.mono _ _ _)
      | (with_reducible exact LeO.refl _)
      | (with_reducible exact LeO.none _)
      | (with_reducible refine LeO.ite ?_ ?_)
      | (with_reducible refine LeO.bind ?_ (fun _ => ?_))
      | exact ih0 _ _ _
      | exact constableref01_With.mono _ _ _
      | exact LeO.none _
      | refine LeO.ite ?_ ?_
      | refine LeO.bind ?_ (fun _ => ?_)
theorem constableref01_ExprVars.mono : ∀ a0 k, LeO (constableref01_ExprVars.f k a0) (constableref01_ExprVars.f (k + 1) a0) := by
  intro a0 k
  have ih0 := constableref01_ExprVars.mono_l k
  unfold constableref01_ExprVars.f
  repeat' first
      | (with_reducible exact ih0 _ _ _)
      | (with_reducible exact constableref01_With.mono _ _ _)
      | (with_reducible exact LeO.refl _)
      | (with_reducible exact LeO.none _)
      | (with_reducible refine LeO.ite ?_ ?_)
      | (with_reducible refine LeO.bind ?_ (fun _ => ?_))
      | exact ih0 _ _ _
      | exact constableref01_With.mono _ _ _
      | exact LeO.none _
      | refine LeO.ite ?_ ?_
      | refine LeO.bind ?_ (fun _ => ?_)
set_option maxHeartbeats 8000000 in
set_option maxRecDepth 100000 in
theorem constableref01_ExprVars.calls (k : Nat) (A0 : Option Addr) (c0 : Nat) (l0 : List (S52)) (r : List ByteArray) (w : World) (hr0 : Kd.C k52 w A0 l0.length l0) (hc0 : l0.length ≤ c0) (h : constableref01_ExprVars.f k l0 = some r) :
    Calls Try.prog 24 #[.slice A0 l0.length c0] w fun e w' => ∃ v0_ : Value, e = .returned (v0_) ∧ Kd.R Kd.string 9 w' w.heap.size (fun _ => True) v0_ r ∧ Below w.heap.size w w' := by
  have HR0 := Aside0.mk hr0
  have HC0 := Aside0.mk hc0
  clear hr0 hc0
  have HB := Aside0.mk (Below.refl w.heap.size w)
  have H : (constableref01_ExprVars.l0 k l0 ([] : List ByteArray) 0) = some r := h
  clear h
  have H' := Aside0.mk H
  clear H
  go_enter Try.func24, Try.ntmps24
  go_wp2
  go_loopg [3, 4] k (fun kq v3 v4 w' => ∃ (x3_1 : List ByteArray) (x4_1 : Int), v4 = .int .i64 x4_1 ∧ Aside0 (constableref01_ExprVars.l0 kq l0 x3_1 x4_1 = some r) ∧ Aside0 (kq ≤ k) ∧ Aside0 (Kd.R Kd.string 9 w' w.heap.size (fun _ => True) v3 x3_1) ∧ Aside0 (Below w.heap.size w w'))
  case atStart => exact ⟨(([] : List ByteArray)), (0), ra_, H', ⟨Nat.le_refl _⟩, ⟨by first | exact Kd.R_nil _ _ _ _ _ | exact Kd.N_nil _ _ _ _ _ | exact Kd.V_nil _ _ _ _ _ | exact Kd.Q_nil _ _ _ _ _ | exact Kd.S_nil _ _ _ _ _⟩, ⟨by repeat (first | (with_reducible first | exact HB.out | apply below_alloc | apply pw_below_drewN | apply below_drew1) | exact HB.out)⟩⟩
  case round =>
    clear H'
    obtain ⟨x3_1, x4_1, rfl, HA, HK1, HO_3, HB⟩ := hrel
    cases gk with
    | zero => exact absurd HA.out (by simp [constableref01_ExprVars.l0])
    | succ k1 =>
      have H := HA.out
      clear HA
      simp only [constableref01_ExprVars.l0] at H
      by_cases c2 : x4_1 < (l0.length : Int)
      · rw [if_pos c2] at H
        have c2b0 : decide (x4_1 < (l0.length : Int)) = true := decide_eq_true c2
        clear c2
        by_cases c3 : 0 ≤ x4_1
        · rw [if_pos c3] at H
          have c3b0 : decide (0 ≤ x4_1) = true := decide_eq_true c3
          clear c3
          replace H := Option.bind_eq_some_iff.mp H
          obtain ⟨t290, A40, H⟩ := H
          replace H : (constableref01_ExprVars.l0 k1 l0 t290 (wrap64 (x4_1 + 1))) = some r := H
          have A4 := Aside0.mk A40
          clear A40
          have H' := Aside0.mk H
          clear H
          have p289 : 0 ≤ (x4_1 : Int) := dt_
          have q289 : x4_1 < (l0.length : Int) := dt_
          obtain ⟨ad289, e289, hx289_0, hx289_1, hx289_2, hx289_3, hx289_4⟩ := at_T52 HR0.out x4_1 p289 q289
          cases e289
          replace hx289_0 := cm_ HB hx289_0
          replace hx289_1 := cm_ HB hx289_1
          replace hx289_2 := cm_ HB hx289_2
          replace hx289_3 := cm_ HB hx289_3
          replace hx289_4 := cm_ HB hx289_4
          replace p289 := eq_true p289
          replace q289 := eq_true q289
          obtain ⟨Ao5, co5, eo5⟩ := Kd.R_slice HO_3.out
          subst eo5
          go_wp2_with (first | ((with_reducible refine gate_callee (f := 44) rfl ?_); refine goesL_ (some 17) rfl rfl Try.func44 (by kernel_rfl) rfl #[.slice Ao5 x3_1.length co5, .string ((rd_T52 l0 x4_1).f1)] rfl ga_ ?_; (with_reducible refine (constableref01_With.calls k1 (fun k_ => some k_ = (.slice Ao5 x3_1.length co5 : Value).ownBlock) (.slice Ao5 x3_1.length co5) x3_1 ((rd_T52 l0 x4_1).f1) t290 w _ ?side1 ?side2 A4.out).mono ?_); (case side1 => repeat (first | (with_reducible first | exact HB.out | apply below_alloc | apply pw_below_drewN | apply below_drew1) | exact HB.out)); (case side2 => exact Kd.R_tight rfl HO_3.out); rintro e w6 ⟨v291, rfl, ho0, hb, hkp⟩; refine ⟨_, rfl, ?_⟩; have n0_ := Aside0.mk (Kd.R_mono (ok' := fun k_ => True) ho0 (fun k_ hk_ => trivial)); have n1_ := Aside0.mk (hb); clear HB; clear HO_3; have HO292 := n0_; have HB := n1_; clear n0_ n1_; (try clear hb); (try clear hkp); (try clear ho0)))
          go_roundg k1
          case measure => have := HK1.out; omega
          case rel => exact ⟨(t290), (wrap64 (x4_1 + 1)), ra_, H', ⟨by have := HK1.out; omega⟩, ⟨by (with_reducible repeat (first | apply Kd.R_alloc | apply Kd.R_drewN | apply Kd.R_drew)); exact HO292.out⟩, ⟨by repeat (first | (with_reducible first | exact HB.out | apply below_alloc | apply pw_below_drewN | apply below_drew1) | exact HB.out)⟩⟩
        · rw [if_neg c3] at H
          exact absurd H (by simp)
      · rw [if_neg c2] at H
        have c2b0 : decide (x4_1 < (l0.length : Int)) = false := decide_eq_false c2
        clear c2
        obtain rfl := Option.some.inj H
        go_wp2
        go_ret
        exact ⟨_, by first | rfl | (simp [errW_none, errW_some] <;> rfl) | (simp [*, errW_none, errW_some] <;> rfl), by (with_reducible repeat (first | apply Kd.R_alloc | apply Kd.R_drewN | apply Kd.R_drew)); exact HO_3.out, by repeat (first | (with_reducible first | exact HB.out | apply below_alloc | apply pw_below_drewN | apply below_drew1) | exact HB.out)⟩
end Go.Proofs.Ytconpnagoijacaa.P
end
section
namespace Go.Proofs.Ytconpnagoijacaa.P
open Go.RowKit Go.Proofs.YtconpnagoijacaaW.PrintWords Go.Proofs.YtconpnagoijacaaW.PrintLast Go.Proofs.YtconpnagoijacaaW.PrintMore
attribute [local go_sem] max2_int min2_int max_two min_two max_three min_three max_four min_four
set_option linter.unusedVariables false
set_option linter.unusedSimpArgs false
def constableref01_Part.l0 : Nat → List (S52) → Int → Int → Option (Int)
  | 0, _, _, _ => none
  | k + 1, x0, x5, x6 => if x6 ≥ 0 then (if 0 ≤ x6 then (if x6 < (x0.length : Int) then (if ((rd_T52 x0 x6).f0) ≥ 3 then (if (wrap64 (x5 + 1)) = 0 then (some x6) else (constableref01_Part.l0 k x0 (wrap64 (x5 + 1)) (wrap64 (x6 - 1)))) else (if (wrap64 (x5 - 1)) = 0 then (some x6) else (constableref01_Part.l0 k x0 (wrap64 (x5 - 1)) (wrap64 (x6 - 1))))) else (none)) else (none)) else (some (-1))
def constableref01_Part.f (k : Nat) (l0 : List (S52)) (a1 : Int) : Option (Int) := constableref01_Part.l0 k l0 1 a1
theorem constableref01_Part.mono_l : ∀ k, (∀ y0 y1 y2, LeO (constableref01_Part.l0 k y0 y1 y2) (constableref01_Part.l0 (k + 1) y0 y1 y2))
  | 0 => fun _ _ _ r h => by simp [constableref01_Part.l0] at h
  | k + 1 => by
    have ih0 := constableref01_Part.mono_l k
    · intro y0 y1 y2
      unfold constableref01_Part.l0
      repeat' first
      | (with_reducible exact ih0 _ _ _)
      | (with_reducible exact LeO.refl _)
      | (with_reducible exact LeO.none _)
      | (with_reducible refine LeO.ite ?_ ?_)
      | (with_reducible refine LeO.bind ?_ (fun _ => ?_))
      | exact ih0 _ _ _
      | exact LeO.none _
      | refine LeO.ite ?_ ?_
      | refine LeO.bind ?_ (fun _ => ?_)
theorem constableref01_Part.mono : ∀ a0 a1 k, LeO (constableref01_Part.f k a0 a1) (constableref01_Part.f (k + 1) a0 a1) := by
  intro a0 a1 k
  have ih0 := constableref01_Part.mono_l k
  unfold constableref01_Part.f
  repeat' first
      | (with_reducible exact ih0 _ _ _)
      | (with_reducible exact LeO.refl _)
      | (with_reducible exact LeO.none _)
      | (with_reducible refine LeO.ite ?_ ?_)
      | (with_reducible refine LeO.bind ?_ (fun _ => ?_))
      | exact ih0 _ _ _
      | exact LeO.none _
      | refine LeO.ite ?_ ?_
      | refine LeO.bind ?_ (fun _ => ?_)
set_option maxHeartbeats 8000000 in
set_option maxRecDepth 100000 in
theorem constableref01_Part.calls (k : Nat) (A0 : Option Addr) (c0 : Nat) (l0 : List (S52)) (a1 : Int) (r : Int) (w : World) (hr0 : Kd.C k52 w A0 l0.length l0) (hc0 : l0.length ≤ c0) (h : constableref01_Part.f k l0 a1 = some r) :
    Calls Try.prog 29 #[.slice A0 l0.length c0, .int .i64 a1] w fun e w' => e = .returned (.int .i64 r) ∧ Drawn0 w w' := by
  have HR0 := Aside0.mk hr0
  have HC0 := Aside0.mk hc0
  clear hr0 hc0
  have H : (constableref01_Part.l0 k l0 1 a1) = some r := h
  clear h
  have H' := Aside0.mk H
  clear H
  go_enter Try.func29, Try.ntmps29
  go_wp2
  go_loopg [5, 6] k (fun kq v5 v6 w' => ∃ (x5_1 : Int) (x6_1 : Int), v5 = .int .i64 x5_1 ∧ v6 = .int .i64 x6_1 ∧ Aside0 (constableref01_Part.l0 kq l0 x5_1 x6_1 = some r) ∧ Aside0 (kq ≤ k) ∧ Drawn0 w w')
  case atStart => exact ⟨(1), (a1), ra_, ra_, H', ⟨Nat.le_refl _⟩, dz_⟩
  case round =>
    clear H'
    try clear c2
    try clear p2
    obtain ⟨x5_1, x6_1, rfl, rfl, HA, HK1, ⟨m1, rfl⟩⟩ := hrel
    cases gk with
    | zero => exact absurd HA.out (by simp [constableref01_Part.l0])
    | succ k1 =>
      have H := HA.out
      clear HA
      simp only [constableref01_Part.l0] at H
      by_cases c3 : x6_1 ≥ 0
      · rw [if_pos c3] at H
        have c3b0 : decide (0 ≤ x6_1) = true := decide_eq_true c3
        clear c3
        by_cases c4 : 0 ≤ x6_1
        · rw [if_pos c4] at H
          have c4b0 : decide (0 ≤ x6_1) = true := decide_eq_true c4
          clear c4
          by_cases c5 : x6_1 < (l0.length : Int)
          · rw [if_pos c5] at H
            have c5b0 : decide (x6_1 < (l0.length : Int)) = true := decide_eq_true c5
            clear c5
            by_cases c6 : ((rd_T52 l0 x6_1).f0) ≥ 3
            · rw [if_pos c6] at H
              have c6b0 : decide (3 ≤ ((rd_T52 l0 x6_1).f0)) = true := decide_eq_true c6
              clear c6
              by_cases c7 : (wrap64 (x5_1 + 1)) = 0
              · rw [if_pos c7] at H
                obtain ⟨c7b0, c7b1⟩ := eqB_ c7
                clear c7
                obtain rfl := Option.some.inj H
                have p313 : 0 ≤ (x6_1 : Int) := dt_
                have q313 : x6_1 < (l0.length : Int) := dt_
                obtain ⟨ad313, e313, hx313_0, hx313_1, hx313_2, hx313_3, hx313_4⟩ := at_T52 HR0.out x6_1 p313 q313
                cases e313
                replace p313 := eq_true p313
                replace q313 := eq_true q313
                go_wp2
                go_ret
                exact rz_
              · rw [if_neg c7] at H
                obtain ⟨c7b0, c7b1⟩ := neB_ c7
                have H' := Aside0.mk H
                clear H
                have p313 : 0 ≤ (x6_1 : Int) := dt_
                have q313 : x6_1 < (l0.length : Int) := dt_
                obtain ⟨ad313, e313, hx313_0, hx313_1, hx313_2, hx313_3, hx313_4⟩ := at_T52 HR0.out x6_1 p313 q313
                cases e313
                replace p313 := eq_true p313
                replace q313 := eq_true q313
                go_wp2
                go_roundg k1
                case measure => have := HK1.out; omega
                case rel => exact ⟨(wrap64 (x5_1 + 1)), (wrap64 (x6_1 - 1)), ra_, ra_, H', ⟨by have := HK1.out; omega⟩, dz_⟩
            · rw [if_neg c6] at H
              have c6b0 : decide (3 ≤ ((rd_T52 l0 x6_1).f0)) = false := decide_eq_false c6
              clear c6
              by_cases c8 : (wrap64 (x5_1 - 1)) = 0
              · rw [if_pos c8] at H
                obtain ⟨c8b0, c8b1⟩ := eqB_ c8
                clear c8
                obtain rfl := Option.some.inj H
                have p313 : 0 ≤ (x6_1 : Int) := dt_
                have q313 : x6_1 < (l0.length : Int) := dt_
                obtain ⟨ad313, e313, hx313_0, hx313_1, hx313_2, hx313_3, hx313_4⟩ := at_T52 HR0.out x6_1 p313 q313
                cases e313
                replace p313 := eq_true p313
                replace q313 := eq_true q313
                go_wp2
                go_ret
                exact rz_
              · rw [if_neg c8] at H
                obtain ⟨c8b0, c8b1⟩ := neB_ c8
                have H' := Aside0.mk H
                clear H
                have p313 : 0 ≤ (x6_1 : Int) := dt_
                have q313 : x6_1 < (l0.length : Int) := dt_
                obtain ⟨ad313, e313, hx313_0, hx313_1, hx313_2, hx313_3, hx313_4⟩ := at_T52 HR0.out x6_1 p313 q313
                cases e313
                replace p313 := eq_true p313
                replace q313 := eq_true q313
                go_wp2
                go_roundg k1
                case measure => have := HK1.out; omega
                case rel => exact ⟨(wrap64 (x5_1 - 1)), (wrap64 (x6_1 - 1)), ra_, ra_, H', ⟨by have := HK1.out; omega⟩, dz_⟩
          · rw [if_neg c5] at H
            exact absurd H (by simp)
        · rw [if_neg c4] at H
          exact absurd H (by simp)
      · rw [if_neg c3] at H
        have c3b0 : decide (0 ≤ x6_1) = false := decide_eq_false c3
        clear c3
        obtain rfl := Option.some.inj H
        go_wp2
        go_ret
        exact rz_
end Go.Proofs.Ytconpnagoijacaa.P
end
section
namespace Go.Proofs.Ytconpnagoijacaa.P
open Go.RowKit Go.Proofs.YtconpnagoijacaaW.PrintWords Go.Proofs.YtconpnagoijacaaW.PrintLast Go.Proofs.YtconpnagoijacaaW.PrintMore
attribute [local go_sem] max2_int min2_int max_two min_two max_three min_three max_four min_four
set_option linter.unusedVariables false
set_option linter.unusedSimpArgs false
def constablekeep_TwinBinds.f (l0 : List (S62)) : Option ((List (S62))) := if ([] : List (S62)).length + l0.length < 2932031007402 then (some (([] : List (S62)) ++ l0)) else (none)
set_option maxHeartbeats 8000000 in
set_option maxRecDepth 100000 in
theorem constablekeep_TwinBinds.calls (A0 : Option Addr) (c0 : Nat) (l0 : List (S62)) (r : List (S62)) (w : World) (hr0 : Kd.C k62 w A0 l0.length l0) (hc0 : l0.length ≤ c0) (h : constablekeep_TwinBinds.f l0 = some r) :
    Calls Try.prog 20 #[.slice A0 l0.length c0] w fun e w' => ∃ v0_ : Value, e = .returned (v0_) ∧ Kd.R k62 62 w' w.heap.size (fun _ => True) v0_ r ∧ Below w.heap.size w w' := by
  have HR0 := Aside0.mk hr0
  have HC0 := Aside0.mk hc0
  clear hr0 hc0
  have HB := Aside0.mk (Below.refl w.heap.size w)
  have H : (if ([] : List (S62)).length + l0.length < 2932031007402 then (some (([] : List (S62)) ++ l0)) else (none)) = some r := h
  clear h
  by_cases c2 : ([] : List (S62)).length + l0.length < 2932031007402
  · rw [if_pos c2] at H
    have LMc2 := Aside0.mk c2
    clear c2
    obtain ⟨y207, hy207⟩ : ∃ y_ : List (S62), y_ = (([] : List (S62)) ++ l0) := ⟨_, rfl⟩
    replace H : (some y207) = some r := by first | (rw [hy207]; with_reducible exact H) | (have H2_ := (Option.bind_some _ _).symm.trans H; rw [hy207]; with_reducible exact H2_) | (have H2_ := (Option.bind_some _ _).symm.trans H; with_reducible exact H2_) | with_reducible exact H | (rw [hy207]; exact H) | exact H
    have Ny207 := Aside0.mk hy207
    clear hy207
    obtain rfl := Option.some.inj H
    go_enter Try.func20, Try.ntmps20
    go_wp2_with (first | ((with_reducible refine gate_builtin (b := .append) (xs := #[.tmp 4, .tmp 5]) rfl ?_); at_builtin; refine Kd.R_append_rows k62 (w0 := w) w.heap.size rfl (.tmp 4) (.tmp 5) 34 62 (.agg #[(.string ⟨#[]⟩), (.int .i64 0), (.int .i64 0), (.string ⟨#[]⟩)]) 48 rfl Try.underlying34 info62 rfl (by decide) (by omega) (.slice none 0 0) ([] : List (S62)) l0 _ _ _ (fun _ => True) (fun _ => False) rfl rfl ?aO ?aR (fun _ _ h => h) (fun _ h => h.elim) ?aF ?aB ?aS ?aL ?_; (case aR => repeat (first | exact HR0.out | (with_reducible refine Kd.C_alloc ?_ _) | (with_reducible refine Kd.C_drewN ?_ _) | (with_reducible refine Kd.C_drew ?_))); (case aB => exact (be_ HB)); (case aF => exact (fun _ _ => trivial)); (case aO => exact ((Kd.R_nil _ _ _ _ (fun _ => True)))); (case aS => exact (below_size (be_ HB))); (case aL => have := LMc2.out; omega); intro v208 w3 ho hb hg hat; rw [← Ny207.out] at ho; have n0_ := Aside0.mk (hb); have n1_ := Aside0.mk (ho); clear HB; have HB := n0_; have HO209 := n1_; clear n0_ n1_; clear ho hb hg hat))
    go_ret
    exact ⟨_, by first | rfl | (simp [errW_none, errW_some] <;> rfl) | (simp [*, errW_none, errW_some] <;> rfl), by (with_reducible repeat (first | apply Kd.R_alloc | apply Kd.R_drewN | apply Kd.R_drew)); exact HO209.out, by repeat (first | (with_reducible first | exact HB.out | apply below_alloc | apply pw_below_drewN | apply below_drew1) | exact HB.out)⟩
  · rw [if_neg c2] at H
    exact absurd H (by simp)
end Go.Proofs.Ytconpnagoijacaa.P
end
section
namespace Go.Proofs.Ytconpnagoijacaa.P
open Go.RowKit Go.Proofs.YtconpnagoijacaaW.PrintWords Go.Proofs.YtconpnagoijacaaW.PrintLast Go.Proofs.YtconpnagoijacaaW.PrintMore
attribute [local go_sem] max2_int min2_int max_two min_two max_three min_three max_four min_four
set_option linter.unusedVariables false
set_option linter.unusedSimpArgs false
def constablekeep_Texts.l0 : Nat → List ByteArray → List ByteArray → Int → Option (Bool)
  | 0, _, _, _ => none
  | k + 1, x0, x1, x5 => if x5 < (x0.length : Int) then (if 0 ≤ x5 then (if x5 < (x1.length : Int) then (if (rdOf ByteArray.empty x0 x5).toList = (rdOf ByteArray.empty x1 x5).toList then (constablekeep_Texts.l0 k x0 x1 (wrap64 (x5 + 1))) else (some false)) else (none)) else (none)) else (some true)
def constablekeep_Texts.f (k : Nat) (l0 : List ByteArray) (l1 : List ByteArray) : Option (Bool) := if (l0.length : Int) = (l1.length : Int) then (constablekeep_Texts.l0 k l0 l1 0) else (some false)
theorem constablekeep_Texts.mono_l : ∀ k, (∀ y0 y1 y2, LeO (constablekeep_Texts.l0 k y0 y1 y2) (constablekeep_Texts.l0 (k + 1) y0 y1 y2))
  | 0 => fun _ _ _ r h => by simp [constablekeep_Texts.l0] at h
  | k + 1 => by
    have ih0 := constablekeep_Texts.mono_l k
    · intro y0 y1 y2
      unfold constablekeep_Texts.l0
      repeat' first
      | (with_reducible exact ih0 _ _ _)
      | (with_reducible exact LeO.refl _)
      | (with_reducible exact LeO.none _)
      | (with_reducible refine LeO.ite ?_ ?_)
      | (with_reducible refine LeO.bind ?_ (fun _ => ?_))
      | exact ih0 _ _ _
      | exact LeO.none _
      | refine LeO.ite ?_ ?_
      | refine LeO.bind ?_ (fun _ => ?_)
theorem constablekeep_Texts.mono : ∀ a0 a1 k, LeO (constablekeep_Texts.f k a0 a1) (constablekeep_Texts.f (k + 1) a0 a1) := by
  intro a0 a1 k
  have ih0 := constablekeep_Texts.mono_l k
  unfold constablekeep_Texts.f
  repeat' first
      | (with_reducible exact ih0 _ _ _)
      | (with_reducible exact LeO.refl _)
      | (with_reducible exact LeO.none _)
      | (with_reducible refine LeO.ite ?_ ?_)
      | (with_reducible refine LeO.bind ?_ (fun _ => ?_))
      | exact ih0 _ _ _
      | exact LeO.none _
      | refine LeO.ite ?_ ?_
      | refine LeO.bind ?_ (fun _ => ?_)
set_option maxHeartbeats 8000000 in
set_option maxRecDepth 100000 in
theorem constablekeep_Texts.calls (k : Nat) (A0 : Option Addr) (c0 : Nat) (l0 : List ByteArray) (A1 : Option Addr) (c1 : Nat) (l1 : List ByteArray) (r : Bool) (w : World) (hr0 : Kd.C Kd.string w A0 l0.length l0) (hc0 : l0.length ≤ c0) (hr1 : Kd.C Kd.string w A1 l1.length l1) (hc1 : l1.length ≤ c1) (h : constablekeep_Texts.f k l0 l1 = some r) :
    Calls Try.prog 22 #[.slice A0 l0.length c0, .slice A1 l1.length c1] w fun e w' => e = .returned (.bool r) ∧ Drawn0 w w' := by
  have HR0 := Aside0.mk hr0
  have HC0 := Aside0.mk hc0
  clear hr0 hc0
  have HR1 := Aside0.mk hr1
  have HC1 := Aside0.mk hc1
  clear hr1 hc1
  have H : (if (l0.length : Int) = (l1.length : Int) then (constablekeep_Texts.l0 k l0 l1 0) else (some false)) = some r := h
  clear h
  by_cases c3 : (l0.length : Int) = (l1.length : Int)
  · rw [if_pos c3] at H
    obtain ⟨c3b0, c3b1⟩ := eqB_ c3
    have c3b2 : (l0.length == l1.length) = true := by first | simpa using c3 | (simp at c3 ⊢; omega)
    clear c3
    have H' := Aside0.mk H
    clear H
    go_enter Try.func22, Try.ntmps22
    go_wp2
    repeat (go_quiet (fail); try go_wp2)
    go_loopg [5] k (fun kq v5 w' => ∃ (x5_1 : Int), v5 = .int .i64 x5_1 ∧ Aside0 (constablekeep_Texts.l0 kq l0 l1 x5_1 = some r) ∧ Aside0 (kq ≤ k) ∧ Drawn0 w w')
    case atStart => exact ⟨(0), ra_, H', ⟨Nat.le_refl _⟩, dz_⟩
    case round =>
      clear H'
      try clear c1
      try clear c2
      try clear p2
      try clear c3
      try clear c3b0
      try clear c3b1
      try clear c3b2
      obtain ⟨x5_1, rfl, HA, HK1, ⟨m1, rfl⟩⟩ := hrel
      cases gk with
      | zero => exact absurd HA.out (by simp [constablekeep_Texts.l0])
      | succ k1 =>
        have H := HA.out
        clear HA
        simp only [constablekeep_Texts.l0] at H
        by_cases c4 : x5_1 < (l0.length : Int)
        · rw [if_pos c4] at H
          have c4b0 : decide (x5_1 < (l0.length : Int)) = true := decide_eq_true c4
          clear c4
          by_cases c5 : 0 ≤ x5_1
          · rw [if_pos c5] at H
            have c5b0 : decide (0 ≤ x5_1) = true := decide_eq_true c5
            clear c5
            by_cases c6 : x5_1 < (l1.length : Int)
            · rw [if_pos c6] at H
              have c6b0 : decide (x5_1 < (l1.length : Int)) = true := decide_eq_true c6
              clear c6
              by_cases c7 : (rdOf ByteArray.empty l0 x5_1).toList = (rdOf ByteArray.empty l1 x5_1).toList
              · rw [if_pos c7] at H
                obtain ⟨c7b0, c7b1⟩ := eqB_ c7
                clear c7
                have H' := Aside0.mk H
                clear H
                have p275 : 0 ≤ (x5_1 : Int) := dt_
                have q275 : x5_1 < (l0.length : Int) := dt_
                obtain ⟨ad275, e275, hx275_0⟩ := Kd.at_string HR0.out x5_1 p275 q275
                cases e275
                replace p275 := eq_true p275
                replace q275 := eq_true q275
                have p276 : 0 ≤ (x5_1 : Int) := dt_
                have q276 : x5_1 < (l1.length : Int) := dt_
                obtain ⟨ad276, e276, hx276_0⟩ := Kd.at_string HR1.out x5_1 p276 q276
                cases e276
                replace p276 := eq_true p276
                replace q276 := eq_true q276
                go_wp2
                repeat (go_quiet (fail); try go_wp2)
                go_roundg k1
                case measure => have := HK1.out; omega
                case rel => exact ⟨(wrap64 (x5_1 + 1)), ra_, H', ⟨by have := HK1.out; omega⟩, dz_⟩
              · rw [if_neg c7] at H
                obtain ⟨c7b0, c7b1⟩ := neB_ c7
                obtain rfl := Option.some.inj H
                have p275 : 0 ≤ (x5_1 : Int) := dt_
                have q275 : x5_1 < (l0.length : Int) := dt_
                obtain ⟨ad275, e275, hx275_0⟩ := Kd.at_string HR0.out x5_1 p275 q275
                cases e275
                replace p275 := eq_true p275
                replace q275 := eq_true q275
                have p276 : 0 ≤ (x5_1 : Int) := dt_
                have q276 : x5_1 < (l1.length : Int) := dt_
                obtain ⟨ad276, e276, hx276_0⟩ := Kd.at_string HR1.out x5_1 p276 q276
                cases e276
                replace p276 := eq_true p276
                replace q276 := eq_true q276
                go_wp2
                repeat (go_quiet (fail); try go_wp2)
                go_ret
                exact rz_
            · rw [if_neg c6] at H
              exact absurd H (by simp)
          · rw [if_neg c5] at H
            exact absurd H (by simp)
        · rw [if_neg c4] at H
          have c4b0 : decide (x5_1 < (l0.length : Int)) = false := decide_eq_false c4
          clear c4
          obtain rfl := Option.some.inj H
          go_wp2
          repeat (go_quiet (fail); try go_wp2)
          go_ret
          exact rz_
  · rw [if_neg c3] at H
    obtain ⟨c3b0, c3b1⟩ := neB_ c3
    have c3b2 : (l0.length == l1.length) = false := by first | simpa using c3 | (simp at c3 ⊢; omega)
    obtain rfl := Option.some.inj H
    go_enter Try.func22, Try.ntmps22
    go_wp2
    repeat (go_quiet (fail); try go_wp2)
    go_ret
    exact rz_
end Go.Proofs.Ytconpnagoijacaa.P
end
section
namespace Go.Proofs.Ytconpnagoijacaa.P
open Go.RowKit Go.Proofs.YtconpnagoijacaaW.PrintWords Go.Proofs.YtconpnagoijacaaW.PrintLast Go.Proofs.YtconpnagoijacaaW.PrintMore
attribute [local go_sem] max2_int min2_int max_two min_two max_three min_three max_four min_four
set_option linter.unusedVariables false
set_option linter.unusedSimpArgs false
theorem eqA52 (d : Nat) (w : World) (x0 y0 : Int) (x1 y1 : ByteArray) (x2 y2 : Int) (x3 y3 : Int) (x4 y4 : ByteArray) :
    (Op.equalIn (d + 3) 52 (.agg #[.int .i64 x0, .string x1, .int .i64 x2, .int .i64 x3, .string x4]) (.agg #[.int .i64 y0, .string y1, .int .i64 y2, .int .i64 y3, .string y4])).run Try.prog w = .ok (x0 == y0 && (x1.toList == y1.toList && ((x2 == y2 && (x3 == y3 && (x4.toList == y4.toList)))))) w := by
  refine eqA_of Try.underlying52 (by kernel_rfl) ?_
  refine eqf_cons (by rfl) (by go_simp; rfl) (by go_simp; rfl) (by go_simp) ?_
  refine eqf_cons (by rfl) (by go_simp; rfl) (by go_simp; rfl) (by go_simp) ?_
  exact eqf_last (by rfl) (by go_simp) (by go_simp) (eqA40 (d + 0) w _ _ _ _ _ _)
end Go.Proofs.Ytconpnagoijacaa.P
end
section
namespace Go.Proofs.Ytconpnagoijacaa.P
open Go.RowKit Go.Proofs.YtconpnagoijacaaW.PrintWords Go.Proofs.YtconpnagoijacaaW.PrintLast Go.Proofs.YtconpnagoijacaaW.PrintMore
attribute [local go_sem] max2_int min2_int max_two min_two max_three min_three max_four min_four
set_option linter.unusedVariables false
set_option linter.unusedSimpArgs false
attribute [local go_sem high] eqA52
def constablekeep_Ops.l0 : Nat → List (S52) → List (S52) → Int → Option (Bool)
  | 0, _, _, _ => none
  | k + 1, x0, x1, x5 => if x5 < (x0.length : Int) then (if 0 ≤ x5 then (if x5 < (x1.length : Int) then (if (!(((rd_T52 x0 x5).f0) == ((rd_T52 x1 x5).f0)) || (!((((rd_T52 x0 x5).f1).toList) == (((rd_T52 x1 x5).f1).toList)) || ((!(((rd_T52 x0 x5).f2.f0) == ((rd_T52 x1 x5).f2.f0)) || (!(((rd_T52 x0 x5).f2.f1) == ((rd_T52 x1 x5).f2.f1)) || (!((((rd_T52 x0 x5).f2.f2).toList) == (((rd_T52 x1 x5).f2.f2).toList)))))))) = true then (some false) else (constablekeep_Ops.l0 k x0 x1 (wrap64 (x5 + 1)))) else (none)) else (none)) else (some true)
def constablekeep_Ops.f (k : Nat) (l0 : List (S52)) (l1 : List (S52)) : Option (Bool) := if (l0.length : Int) = (l1.length : Int) then (constablekeep_Ops.l0 k l0 l1 0) else (some false)
theorem constablekeep_Ops.mono_l : ∀ k, (∀ y0 y1 y2, LeO (constablekeep_Ops.l0 k y0 y1 y2) (constablekeep_Ops.l0 (k + 1) y0 y1 y2))
  | 0 => fun _ _ _ r h => by simp [constablekeep_Ops.l0] at h
  | k + 1 => by
    have ih0 := constablekeep_Ops.mono_l k
    · intro y0 y1 y2
      unfold constablekeep_Ops.l0
      repeat' first
      | (with_reducible exact ih0 _ _ _)
      | (with_reducible exact LeO.refl _)
      | (with_reducible exact LeO.none _)
      | (with_reducible refine LeO.ite ?_ ?_)
      | (with_reducible refine LeO.bind ?_ (fun _ => ?_))
      | exact ih0 _ _ _
      | exact LeO.none _
      | refine LeO.ite ?_ ?_
      | refine LeO.bind ?_ (fun _ => ?_)
theorem constablekeep_Ops.mono : ∀ a0 a1 k, LeO (constablekeep_Ops.f k a0 a1) (constablekeep_Ops.f (k + 1) a0 a1) := by
  intro a0 a1 k
  have ih0 := constablekeep_Ops.mono_l k
  unfold constablekeep_Ops.f
  repeat' first
      | (with_reducible exact ih0 _ _ _)
      | (with_reducible exact LeO.refl _)
      | (with_reducible exact LeO.none _)
      | (with_reducible refine LeO.ite ?_ ?_)
      | (with_reducible refine LeO.bind ?_ (fun _ => ?_))
      | exact ih0 _ _ _
      | exact LeO.none _
      | refine LeO.ite ?_ ?_
      | refine LeO.bind ?_ (fun _ => ?_)
set_option maxHeartbeats 8000000 in
set_option maxRecDepth 100000 in
theorem constablekeep_Ops.calls (k : Nat) (A0 : Option Addr) (c0 : Nat) (l0 : List (S52)) (A1 : Option Addr) (c1 : Nat) (l1 : List (S52)) (r : Bool) (w : World) (hr0 : Kd.C k52 w A0 l0.length l0) (hc0 : l0.length ≤ c0) (hr1 : Kd.C k52 w A1 l1.length l1) (hc1 : l1.length ≤ c1) (h : constablekeep_Ops.f k l0 l1 = some r) :
    Calls Try.prog 25 #[.slice A0 l0.length c0, .slice A1 l1.length c1] w fun e w' => e = .returned (.bool r) ∧ Drawn0 w w' := by
  have hu52 := Try.underlying52
  have HR0 := Aside0.mk hr0
  have HC0 := Aside0.mk hc0
  clear hr0 hc0
  have HR1 := Aside0.mk hr1
  have HC1 := Aside0.mk hc1
  clear hr1 hc1
  have H : (if (l0.length : Int) = (l1.length : Int) then (constablekeep_Ops.l0 k l0 l1 0) else (some false)) = some r := h
  clear h
  by_cases c3 : (l0.length : Int) = (l1.length : Int)
  · rw [if_pos c3] at H
    obtain ⟨c3b0, c3b1⟩ := eqB_ c3
    have c3b2 : (l0.length == l1.length) = true := by first | simpa using c3 | (simp at c3 ⊢; omega)
    clear c3
    have H' := Aside0.mk H
    clear H
    go_enter Try.func25, Try.ntmps25
    go_wp2
    repeat (go_quiet (fail); try go_wp2)
    go_loopg [5] k (fun kq v5 w' => ∃ (x5_1 : Int), v5 = .int .i64 x5_1 ∧ Aside0 (constablekeep_Ops.l0 kq l0 l1 x5_1 = some r) ∧ Aside0 (kq ≤ k) ∧ Drawn0 w w')
    case atStart => exact ⟨(0), ra_, H', ⟨Nat.le_refl _⟩, dz_⟩
    case round =>
      clear H'
      try clear c1
      try clear c2
      try clear p2
      try clear c3
      try clear c3b0
      try clear c3b1
      try clear c3b2
      obtain ⟨x5_1, rfl, HA, HK1, ⟨m1, rfl⟩⟩ := hrel
      cases gk with
      | zero => exact absurd HA.out (by simp [constablekeep_Ops.l0])
      | succ k1 =>
        have H := HA.out
        clear HA
        simp only [constablekeep_Ops.l0] at H
        by_cases c4 : x5_1 < (l0.length : Int)
        · rw [if_pos c4] at H
          have c4b0 : decide (x5_1 < (l0.length : Int)) = true := decide_eq_true c4
          clear c4
          by_cases c5 : 0 ≤ x5_1
          · rw [if_pos c5] at H
            have c5b0 : decide (0 ≤ x5_1) = true := decide_eq_true c5
            clear c5
            by_cases c6 : x5_1 < (l1.length : Int)
            · rw [if_pos c6] at H
              have c6b0 : decide (x5_1 < (l1.length : Int)) = true := decide_eq_true c6
              clear c6
              by_cases c7 : (!(((rd_T52 l0 x5_1).f0) == ((rd_T52 l1 x5_1).f0)) || (!((((rd_T52 l0 x5_1).f1).toList) == (((rd_T52 l1 x5_1).f1).toList)) || ((!(((rd_T52 l0 x5_1).f2.f0) == ((rd_T52 l1 x5_1).f2.f0)) || (!(((rd_T52 l0 x5_1).f2.f1) == ((rd_T52 l1 x5_1).f2.f1)) || (!((((rd_T52 l0 x5_1).f2.f2).toList) == (((rd_T52 l1 x5_1).f2.f2).toList)))))))) = true
              · rw [if_pos c7] at H
                have c7b0 : (!(((rd_T52 l0 x5_1).f0) == ((rd_T52 l1 x5_1).f0)) || (!((((rd_T52 l0 x5_1).f1).toList) == (((rd_T52 l1 x5_1).f1).toList)) || ((!(((rd_T52 l0 x5_1).f2.f0) == ((rd_T52 l1 x5_1).f2.f0)) || (!(((rd_T52 l0 x5_1).f2.f1) == ((rd_T52 l1 x5_1).f2.f1)) || (!((((rd_T52 l0 x5_1).f2.f2).toList) == (((rd_T52 l1 x5_1).f2.f2).toList)))))))) = true := c7
                clear c7
                obtain rfl := Option.some.inj H
                have p293 : 0 ≤ (x5_1 : Int) := dt_
                have q293 : x5_1 < (l0.length : Int) := dt_
                obtain ⟨ad293, e293, hx293_0, hx293_1, hx293_2, hx293_3, hx293_4⟩ := at_T52 HR0.out x5_1 p293 q293
                cases e293
                replace p293 := eq_true p293
                replace q293 := eq_true q293
                have p294 : 0 ≤ (x5_1 : Int) := dt_
                have q294 : x5_1 < (l1.length : Int) := dt_
                obtain ⟨ad294, e294, hx294_0, hx294_1, hx294_2, hx294_3, hx294_4⟩ := at_T52 HR1.out x5_1 p294 q294
                cases e294
                replace p294 := eq_true p294
                replace q294 := eq_true q294
                go_wp2
                repeat (go_quiet (fail); try go_wp2)
                go_ret
                exact rz_
              · rw [if_neg c7] at H
                have c7b0 : (!(((rd_T52 l0 x5_1).f0) == ((rd_T52 l1 x5_1).f0)) || (!((((rd_T52 l0 x5_1).f1).toList) == (((rd_T52 l1 x5_1).f1).toList)) || ((!(((rd_T52 l0 x5_1).f2.f0) == ((rd_T52 l1 x5_1).f2.f0)) || (!(((rd_T52 l0 x5_1).f2.f1) == ((rd_T52 l1 x5_1).f2.f1)) || (!((((rd_T52 l0 x5_1).f2.f2).toList) == (((rd_T52 l1 x5_1).f2.f2).toList)))))))) = false := by simpa using c7
                clear c7
                have H' := Aside0.mk H
                clear H
                have p293 : 0 ≤ (x5_1 : Int) := dt_
                have q293 : x5_1 < (l0.length : Int) := dt_
                obtain ⟨ad293, e293, hx293_0, hx293_1, hx293_2, hx293_3, hx293_4⟩ := at_T52 HR0.out x5_1 p293 q293
                cases e293
                replace p293 := eq_true p293
                replace q293 := eq_true q293
                have p294 : 0 ≤ (x5_1 : Int) := dt_
                have q294 : x5_1 < (l1.length : Int) := dt_
                obtain ⟨ad294, e294, hx294_0, hx294_1, hx294_2, hx294_3, hx294_4⟩ := at_T52 HR1.out x5_1 p294 q294
                cases e294
                replace p294 := eq_true p294
                replace q294 := eq_true q294
                go_wp2
                repeat (go_quiet (fail); try go_wp2)
                go_roundg k1
                case measure => have := HK1.out; omega
                case rel => exact ⟨(wrap64 (x5_1 + 1)), ra_, H', ⟨by have := HK1.out; omega⟩, dz_⟩
            · rw [if_neg c6] at H
              exact absurd H (by simp)
          · rw [if_neg c5] at H
            exact absurd H (by simp)
        · rw [if_neg c4] at H
          have c4b0 : decide (x5_1 < (l0.length : Int)) = false := decide_eq_false c4
          clear c4
          obtain rfl := Option.some.inj H
          go_wp2
          repeat (go_quiet (fail); try go_wp2)
          go_ret
          exact rz_
  · rw [if_neg c3] at H
    obtain ⟨c3b0, c3b1⟩ := neB_ c3
    have c3b2 : (l0.length == l1.length) = false := by first | simpa using c3 | (simp at c3 ⊢; omega)
    obtain rfl := Option.some.inj H
    go_enter Try.func25, Try.ntmps25
    go_wp2
    repeat (go_quiet (fail); try go_wp2)
    go_ret
    exact rz_
end Go.Proofs.Ytconpnagoijacaa.P
end
section
namespace Go.Proofs.Ytconpnagoijacaa.P
open Go.RowKit Go.Proofs.YtconpnagoijacaaW.PrintWords Go.Proofs.YtconpnagoijacaaW.PrintLast Go.Proofs.YtconpnagoijacaaW.PrintMore
attribute [local go_sem] max2_int min2_int max_two min_two max_three min_three max_four min_four
set_option linter.unusedVariables false
set_option linter.unusedSimpArgs false
theorem eqA62 (d : Nat) (w : World) (x0 y0 : ByteArray) (x1 y1 : Int) (x2 y2 : Int) (x3 y3 : ByteArray) :
    (Op.equalIn (d + 3) 62 (.agg #[.string x0, .int .i64 x1, .int .i64 x2, .string x3]) (.agg #[.string y0, .int .i64 y1, .int .i64 y2, .string y3])).run Try.prog w = .ok (x0.toList == y0.toList && ((x1 == y1 && (x2 == y2 && (x3.toList == y3.toList))))) w := by
  refine eqA_of Try.underlying62 (by kernel_rfl) ?_
  refine eqf_cons (by rfl) (by go_simp; rfl) (by go_simp; rfl) (by go_simp) ?_
  exact eqf_last (by rfl) (by go_simp) (by go_simp) (eqA40 (d + 0) w _ _ _ _ _ _)
end Go.Proofs.Ytconpnagoijacaa.P
end
section
namespace Go.Proofs.Ytconpnagoijacaa.P
open Go.RowKit Go.Proofs.YtconpnagoijacaaW.PrintWords Go.Proofs.YtconpnagoijacaaW.PrintLast Go.Proofs.YtconpnagoijacaaW.PrintMore
attribute [local go_sem] max2_int min2_int max_two min_two max_three min_three max_four min_four
set_option linter.unusedVariables false
set_option linter.unusedSimpArgs false
attribute [local go_sem high] eqA62
def constablekeep_Binds.l0 : Nat → List (S62) → List (S62) → Int → Option (Bool)
  | 0, _, _, _ => none
  | k + 1, x0, x1, x5 => if x5 < (x0.length : Int) then (if 0 ≤ x5 then (if x5 < (x1.length : Int) then (if (!((((rd_T62 x0 x5).f0).toList) == (((rd_T62 x1 x5).f0).toList)) || ((!(((rd_T62 x0 x5).f1.f0) == ((rd_T62 x1 x5).f1.f0)) || (!(((rd_T62 x0 x5).f1.f1) == ((rd_T62 x1 x5).f1.f1)) || (!((((rd_T62 x0 x5).f1.f2).toList) == (((rd_T62 x1 x5).f1.f2).toList))))))) = true then (some false) else (constablekeep_Binds.l0 k x0 x1 (wrap64 (x5 + 1)))) else (none)) else (none)) else (some true)
def constablekeep_Binds.f (k : Nat) (l0 : List (S62)) (l1 : List (S62)) : Option (Bool) := if (l0.length : Int) = (l1.length : Int) then (constablekeep_Binds.l0 k l0 l1 0) else (some false)
theorem constablekeep_Binds.mono_l : ∀ k, (∀ y0 y1 y2, LeO (constablekeep_Binds.l0 k y0 y1 y2) (constablekeep_Binds.l0 (k + 1) y0 y1 y2))
  | 0 => fun _ _ _ r h => by simp [constablekeep_Binds.l0] at h
  | k + 1 => by
    have ih0 := constablekeep_Binds.mono_l k
    · intro y0 y1 y2
      unfold constablekeep_Binds.l0
      repeat' first
      | (with_reducible exact ih0 _ _ _)
      | (with_reducible exact LeO.refl _)
      | (with_reducible exact LeO.none _)
      | (with_reducible refine LeO.ite ?_ ?_)
      | (with_reducible refine LeO.bind ?_ (fun _ => ?_))
      | exact ih0 _ _ _
      | exact LeO.none _
      | refine LeO.ite ?_ ?_
      | refine LeO.bind ?_ (fun _ => ?_)
theorem constablekeep_Binds.mono : ∀ a0 a1 k, LeO (constablekeep_Binds.f k a0 a1) (constablekeep_Binds.f (k + 1) a0 a1) := by
  intro a0 a1 k
  have ih0 := constablekeep_Binds.mono_l k
  unfold constablekeep_Binds.f
  repeat' first
      | (with_reducible exact ih0 _ _ _)
      | (with_reducible exact LeO.refl _)
      | (with_reducible exact LeO.none _)
      | (with_reducible refine LeO.ite ?_ ?_)
      | (with_reducible refine LeO.bind ?_ (fun _ => ?_))
      | exact ih0 _ _ _
      | exact LeO.none _
      | refine LeO.ite ?_ ?_
      | refine LeO.bind ?_ (fun _ => ?_)
set_option maxHeartbeats 8000000 in
set_option maxRecDepth 100000 in
theorem constablekeep_Binds.calls (k : Nat) (A0 : Option Addr) (c0 : Nat) (l0 : List (S62)) (A1 : Option Addr) (c1 : Nat) (l1 : List (S62)) (r : Bool) (w : World) (hr0 : Kd.C k62 w A0 l0.length l0) (hc0 : l0.length ≤ c0) (hr1 : Kd.C k62 w A1 l1.length l1) (hc1 : l1.length ≤ c1) (h : constablekeep_Binds.f k l0 l1 = some r) :
    Calls Try.prog 26 #[.slice A0 l0.length c0, .slice A1 l1.length c1] w fun e w' => e = .returned (.bool r) ∧ Drawn0 w w' := by
  have hu62 := Try.underlying62
  have HR0 := Aside0.mk hr0
  have HC0 := Aside0.mk hc0
  clear hr0 hc0
  have HR1 := Aside0.mk hr1
  have HC1 := Aside0.mk hc1
  clear hr1 hc1
  have H : (if (l0.length : Int) = (l1.length : Int) then (constablekeep_Binds.l0 k l0 l1 0) else (some false)) = some r := h
  clear h
  by_cases c3 : (l0.length : Int) = (l1.length : Int)
  · rw [if_pos c3] at H
    obtain ⟨c3b0, c3b1⟩ := eqB_ c3
    have c3b2 : (l0.length == l1.length) = true := by first | simpa using c3 | (simp at c3 ⊢; omega)
    clear c3
    have H' := Aside0.mk H
    clear H
    go_enter Try.func26, Try.ntmps26
    go_wp2
    repeat (go_quiet (fail); try go_wp2)
    go_loopg [5] k (fun kq v5 w' => ∃ (x5_1 : Int), v5 = .int .i64 x5_1 ∧ Aside0 (constablekeep_Binds.l0 kq l0 l1 x5_1 = some r) ∧ Aside0 (kq ≤ k) ∧ Drawn0 w w')
    case atStart => exact ⟨(0), ra_, H', ⟨Nat.le_refl _⟩, dz_⟩
    case round =>
      clear H'
      try clear c1
      try clear c2
      try clear p2
      try clear c3
      try clear c3b0
      try clear c3b1
      try clear c3b2
      obtain ⟨x5_1, rfl, HA, HK1, ⟨m1, rfl⟩⟩ := hrel
      cases gk with
      | zero => exact absurd HA.out (by simp [constablekeep_Binds.l0])
      | succ k1 =>
        have H := HA.out
        clear HA
        simp only [constablekeep_Binds.l0] at H
        by_cases c4 : x5_1 < (l0.length : Int)
        · rw [if_pos c4] at H
          have c4b0 : decide (x5_1 < (l0.length : Int)) = true := decide_eq_true c4
          clear c4
          by_cases c5 : 0 ≤ x5_1
          · rw [if_pos c5] at H
            have c5b0 : decide (0 ≤ x5_1) = true := decide_eq_true c5
            clear c5
            by_cases c6 : x5_1 < (l1.length : Int)
            · rw [if_pos c6] at H
              have c6b0 : decide (x5_1 < (l1.length : Int)) = true := decide_eq_true c6
              clear c6
              by_cases c7 : (!((((rd_T62 l0 x5_1).f0).toList) == (((rd_T62 l1 x5_1).f0).toList)) || ((!(((rd_T62 l0 x5_1).f1.f0) == ((rd_T62 l1 x5_1).f1.f0)) || (!(((rd_T62 l0 x5_1).f1.f1) == ((rd_T62 l1 x5_1).f1.f1)) || (!((((rd_T62 l0 x5_1).f1.f2).toList) == (((rd_T62 l1 x5_1).f1.f2).toList))))))) = true
              · rw [if_pos c7] at H
                have c7b0 : (!((((rd_T62 l0 x5_1).f0).toList) == (((rd_T62 l1 x5_1).f0).toList)) || ((!(((rd_T62 l0 x5_1).f1.f0) == ((rd_T62 l1 x5_1).f1.f0)) || (!(((rd_T62 l0 x5_1).f1.f1) == ((rd_T62 l1 x5_1).f1.f1)) || (!((((rd_T62 l0 x5_1).f1.f2).toList) == (((rd_T62 l1 x5_1).f1.f2).toList))))))) = true := c7
                clear c7
                obtain rfl := Option.some.inj H
                have p295 : 0 ≤ (x5_1 : Int) := dt_
                have q295 : x5_1 < (l0.length : Int) := dt_
                obtain ⟨ad295, e295, hx295_0, hx295_1, hx295_2, hx295_3⟩ := at_T62 HR0.out x5_1 p295 q295
                cases e295
                replace p295 := eq_true p295
                replace q295 := eq_true q295
                have p296 : 0 ≤ (x5_1 : Int) := dt_
                have q296 : x5_1 < (l1.length : Int) := dt_
                obtain ⟨ad296, e296, hx296_0, hx296_1, hx296_2, hx296_3⟩ := at_T62 HR1.out x5_1 p296 q296
                cases e296
                replace p296 := eq_true p296
                replace q296 := eq_true q296
                go_wp2
                repeat (go_quiet (fail); try go_wp2)
                go_ret
                exact rz_
              · rw [if_neg c7] at H
                have c7b0 : (!((((rd_T62 l0 x5_1).f0).toList) == (((rd_T62 l1 x5_1).f0).toList)) || ((!(((rd_T62 l0 x5_1).f1.f0) == ((rd_T62 l1 x5_1).f1.f0)) || (!(((rd_T62 l0 x5_1).f1.f1) == ((rd_T62 l1 x5_1).f1.f1)) || (!((((rd_T62 l0 x5_1).f1.f2).toList) == (((rd_T62 l1 x5_1).f1.f2).toList))))))) = false := by simpa using c7
                clear c7
                have H' := Aside0.mk H
                clear H
                have p295 : 0 ≤ (x5_1 : Int) := dt_
                have q295 : x5_1 < (l0.length : Int) := dt_
                obtain ⟨ad295, e295, hx295_0, hx295_1, hx295_2, hx295_3⟩ := at_T62 HR0.out x5_1 p295 q295
                cases e295
                replace p295 := eq_true p295
                replace q295 := eq_true q295
                have p296 : 0 ≤ (x5_1 : Int) := dt_
                have q296 : x5_1 < (l1.length : Int) := dt_
                obtain ⟨ad296, e296, hx296_0, hx296_1, hx296_2, hx296_3⟩ := at_T62 HR1.out x5_1 p296 q296
                cases e296
                replace p296 := eq_true p296
                replace q296 := eq_true q296
                go_wp2
                repeat (go_quiet (fail); try go_wp2)
                go_roundg k1
                case measure => have := HK1.out; omega
                case rel => exact ⟨(wrap64 (x5_1 + 1)), ra_, H', ⟨by have := HK1.out; omega⟩, dz_⟩
            · rw [if_neg c6] at H
              exact absurd H (by simp)
          · rw [if_neg c5] at H
            exact absurd H (by simp)
        · rw [if_neg c4] at H
          have c4b0 : decide (x5_1 < (l0.length : Int)) = false := decide_eq_false c4
          clear c4
          obtain rfl := Option.some.inj H
          go_wp2
          repeat (go_quiet (fail); try go_wp2)
          go_ret
          exact rz_
  · rw [if_neg c3] at H
    obtain ⟨c3b0, c3b1⟩ := neB_ c3
    have c3b2 : (l0.length == l1.length) = false := by first | simpa using c3 | (simp at c3 ⊢; omega)
    obtain rfl := Option.some.inj H
    go_enter Try.func26, Try.ntmps26
    go_wp2
    repeat (go_quiet (fail); try go_wp2)
    go_ret
    exact rz_
end Go.Proofs.Ytconpnagoijacaa.P
end
section
namespace Go.Proofs.Ytconpnagoijacaa.P
open Go.RowKit Go.Proofs.YtconpnagoijacaaW.PrintWords Go.Proofs.YtconpnagoijacaaW.PrintLast Go.Proofs.YtconpnagoijacaaW.PrintMore
theorem evPos {α : Type} {c : Prop} [Decidable c] {f g : Nat → Option α} {r : α} (h : c) (k : Ev f r) : Ev (fun n => if c then f n else g n) r := Ev.congr (fun _ => if_pos h) k
theorem evNeg {α : Type} {c : Prop} [Decidable c] {f g : Nat → Option α} {r : α} (h : ¬ c) (k : Ev g r) : Ev (fun n => if c then f n else g n) r := Ev.congr (fun _ => if_neg h) k
theorem evSome {α : Type} {a r : α} (h : a = r) : Ev (fun _ => some a) r := ⟨0, fun _ _ => by rw [h]⟩
theorem evShift {α : Type} {g : Nat → Option α} {r : α} (k : Ev (fun n => g (n + 1)) r) : Ev g r := Ev.step (fun _ => rfl) k
theorem evBind0 {α β : Type} {g : Option α} {f : Nat → α → Option β} {a : α} {r : β} (h : g = some a) (k : Ev (fun n => f n a) r) : Ev (fun n => g.bind (f n)) r := by subst h; exact k
theorem evCond {α : Type} {b : Bool} {f g : Nat → Option α} {r : α} (h1 : b = true → Ev f r) (h2 : b = false → Ev g r) : Ev (fun n => if b = true then f n else g n) r := by
  cases b with
  | true => exact evPos rfl (h1 rfl)
  | false => exact evNeg (by decide) (h2 rfl)
theorem evIf {α : Type} {c : Prop} [Decidable c] {f g : Nat → Option α} {r : α} (h1 : c → Ev f r) (h2 : ¬ c → Ev g r) : Ev (fun n => if c then f n else g n) r := by
  by_cases h : c
  · exact evPos h (h1 h)
  · exact evNeg h (h2 h)
end Go.Proofs.Ytconpnagoijacaa.P
end
section
namespace Go.Proofs.Ytconpnagoijacaa.P
open Go.RowKit Go.Proofs.YtconpnagoijacaaW.PrintWords Go.Proofs.YtconpnagoijacaaW.PrintLast Go.Proofs.YtconpnagoijacaaW.PrintMore
theorem len_codes (s : ByteArray) : (bytesOf s).length = s.size := by simp [bytesOf]
theorem bt_codes (s : ByteArray) (i : Int) : bt s i = rd (bytesOf s) i := (rd_bytesOf s i).symm
theorem codes_inj {s t : ByteArray} (h : bytesOf s = bytesOf t) : s = t := by
  have h2 : s.data.toList = t.data.toList := by
    unfold bytesOf at h
    have inj : ∀ (a b : List UInt8), a.map (fun b => ((b.toNat : Nat) : Int)) = b.map (fun b => ((b.toNat : Nat) : Int)) → a = b := by
      intro a
      induction a with
      | nil => intro b hb; cases b with
        | nil => rfl
        | cons y b => simp at hb
      | cons x a ih => intro b hb; cases b with
        | nil => simp at hb
        | cons y b =>
          simp only [List.map_cons, List.cons.injEq] at hb
          have e : x = y := UInt8.toNat_inj.1 (by omega)
          rw [e, ih b hb.2]
    exact inj _ _ h
  cases s with | mk a => cases t with | mk b => cases a; cases b; simp at h2; rw [h2]
theorem tl_data (s : ByteArray) : s.toList = s.data.toList := Lib.toList_data s
theorem tl_inj {s t : ByteArray} : s.toList = t.toList ↔ s = t := by
  constructor
  · intro h
    rw [tl_data, tl_data] at h
    exact codes_inj (by unfold bytesOf; rw [h])
  · intro h; rw [h]
theorem tl_beq (s t : ByteArray) : (s.toList == t.toList) = decide (s = t) := by
  rw [Bool.eq_iff_iff, beq_iff_eq, decide_eq_true_eq, tl_inj]
theorem tl_nil {s : ByteArray} : s.toList = [] ↔ s = ⟨#[]⟩ := by
  rw [← tl_inj]
  have : (⟨#[]⟩ : ByteArray).toList = [] := by rw [tl_data]
  rw [this]
theorem tl_beq_nil (s : ByteArray) : (s.toList == ([] : List UInt8)) = decide (s = ⟨#[]⟩) := by
  rw [Bool.eq_iff_iff, beq_iff_eq, decide_eq_true_eq, tl_nil]
theorem size_zero {s : ByteArray} : s.size = 0 ↔ s = ⟨#[]⟩ := by
  constructor
  · intro h
    apply codes_inj
    have : (bytesOf s).length = 0 := by rw [len_codes]; exact h
    rw [List.eq_nil_of_length_eq_zero this]; rfl
  · intro h; rw [h]; rfl
theorem rd_mid {p : List Int} {x : Int} {l : List Int} : rd (p ++ x :: l) p.length = x := by simp [rd, List.getD_eq_getElem?_getD]
theorem codes_split (s : ByteArray) (i : Nat) (h : i < s.size) : ∃ x, (bytesOf s).drop i = x :: (bytesOf s).drop (i + 1) ∧ bt s i = x := by
  have hl : i < (bytesOf s).length := by rw [len_codes]; exact h
  refine ⟨(bytesOf s)[i], ?_, ?_⟩
  · exact List.drop_eq_getElem_cons hl
  · rw [bt_codes]
    simp [rd, List.getD_eq_getElem?_getD, hl]
theorem back_ind {ρ : Type} (n : Nat) (l : Nat → Int → Option ρ) (spec : Nat → ρ) (hend : Ev (fun k => l k n) (spec n))
    (hstep : ∀ i : Nat, i < n → Ev (fun k => l k ((i + 1 : Nat) : Int)) (spec (i + 1)) → Ev (fun k => l k i) (spec i)) : ∀ i : Nat, i ≤ n → Ev (fun k => l k i) (spec i) := by
  intro i hi
  obtain ⟨d, rfl⟩ : ∃ d, n = i + d := ⟨n - i, by omega⟩
  induction d generalizing i with
  | zero => exact hend
  | succ d ih =>
    refine hstep i (by omega) ?_
    have := ih (i + 1) (by rw [show i + 1 + d = i + (d + 1) by omega]; exact hend) (fun j hj => hstep j (by omega)) (by omega)
    exact this
theorem wrap_succ {i n : Nat} (h : i < n) (hn : n ≤ 9223372036854775807) : wrap64 ((i : Int) + 1) = ((i + 1 : Nat) : Int) := by unfold wrap64; omega
theorem rdOf_nth {α : Type} (d : α) (l : List α) (i : Nat) (h : i < l.length) : rdOf d l i = l[i] := by simp [rdOf, List.getD_eq_getElem?_getD, h]
end Go.Proofs.Ytconpnagoijacaa.P
end
section
namespace Go.Proofs.Ytconpnagoijacaa.P
open Go.RowKit Go.Proofs.YtconpnagoijacaaW.PrintWords Go.Proofs.YtconpnagoijacaaW.PrintLast Go.Proofs.YtconpnagoijacaaW.PrintMore
attribute [local go_sem] max2_int min2_int max_two min_two max_three min_three max_four min_four
set_option linter.unusedVariables false
set_option linter.unusedSimpArgs false
def num_Sum.l0 : Nat → Int → List Int → Int → Int → Option (Int × Int)
  | 0, _, _, _, _ => none
  | k + 1, x4, x8, x9, x10 => if x10 < x9 then (if 0 ≤ x10 then (if x10 < (x8.length : Int) then ((num_Do.f k 3 x4 (rd x8 x10)).bind fun bt116 => (if bt116.2 = 0 then (num_Sum.l0 k bt116.1 x8 x9 (wrap64 (x10 + 1))) else (some (0, bt116.2)))) else (none)) else (none)) else (some (x4, 0))
def num_Sum.f (k : Nat) (l0 : List Int) : Option (Int × Int) := num_Sum.l0 k 0 l0 (l0.length : Int) 0
theorem num_Sum.mono_l : ∀ k, (∀ y0 y1 y2 y3, LeO (num_Sum.l0 k y0 y1 y2 y3) (num_Sum.l0 (k + 1) y0 y1 y2 y3))
  | 0 => fun _ _ _ _ r h => by simp [num_Sum.l0] at h
  | k + 1 => by
    have ih0 := num_Sum.mono_l k
    · intro y0 y1 y2 y3
      unfold num_Sum.l0
      repeat' first
      | (with_reducible exact ih0 _ _ _ _)
      | (with_reducible exact num_Do.mono _ _ _ _)
      | (with_reducible exact LeO.refl _)
      | (with_reducible exact LeO.none _)
      | (with_reducible refine LeO.ite ?_ ?_)
      | (with_reducible refine LeO.bind ?_ (fun _ => ?_))
      | exact ih0 _ _ _ _
      | exact num_Do.mono _ _ _ _
      | exact LeO.none _
      | refine LeO.ite ?_ ?_
      | refine LeO.bind ?_ (fun _ => ?_)
theorem num_Sum.mono : ∀ a0 k, LeO (num_Sum.f k a0) (num_Sum.f (k + 1) a0) := by
  intro a0 k
  have ih0 := num_Sum.mono_l k
  unfold num_Sum.f
  repeat' first
      | (with_reducible exact ih0 _ _ _ _)
      | (with_reducible exact num_Do.mono _ _ _ _)
      | (with_reducible exact LeO.refl _)
      | (with_reducible exact LeO.none _)
      | (with_reducible refine LeO.ite ?_ ?_)
      | (with_reducible refine LeO.bind ?_ (fun _ => ?_))
      | exact ih0 _ _ _ _
      | exact num_Do.mono _ _ _ _
      | exact LeO.none _
      | refine LeO.ite ?_ ?_
      | refine LeO.bind ?_ (fun _ => ?_)
set_option maxHeartbeats 8000000 in
set_option maxRecDepth 100000 in
theorem num_Sum.calls (k : Nat) (A0 : Option Addr) (c0 : Nat) (l0 : List Int) (r1 : Int) (r2 : Int) (w : World) (hr0 : Kd.C (Kd.int .i64) w A0 l0.length l0) (hc0 : l0.length ≤ c0) (h : num_Sum.f k l0 = some (r1, r2)) :
    Calls Try.prog 15 #[.slice A0 l0.length c0] w fun e w' => e = .returned (.tuple #[.int .i64 r1, .int .i64 r2]) ∧ Drawn0 w w' := by
  have HR0 := Aside0.mk hr0
  have HC0 := Aside0.mk hc0
  clear hr0 hc0
  have H : (num_Sum.l0 k 0 l0 (l0.length : Int) 0) = some (r1, r2) := h
  clear h
  have H' := Aside0.mk H
  clear H
  go_enter Try.func15, Try.ntmps15
  go_wp2
  go_loopg [4, 10] k (fun kq v4 v10 w' => ∃ (x4_1 : Int) (x10_1 : Int), v4 = .int .i64 x4_1 ∧ v10 = .int .i64 x10_1 ∧ Aside0 (num_Sum.l0 kq x4_1 l0 (l0.length : Int) x10_1 = some (r1, r2)) ∧ Aside0 (kq ≤ k) ∧ Drawn0 w w')
  case atStart => exact ⟨(0), (0), ra_, ra_, H', ⟨Nat.le_refl _⟩, dz_⟩
  case round =>
    clear H'
    try clear c1
    obtain ⟨x4_1, x10_1, rfl, rfl, HA, HK1, ⟨m1, rfl⟩⟩ := hrel
    cases gk with
    | zero => exact absurd HA.out (by simp [num_Sum.l0])
    | succ k1 =>
      have H := HA.out
      clear HA
      simp only [num_Sum.l0] at H
      by_cases c2 : x10_1 < (l0.length : Int)
      · rw [if_pos c2] at H
        have c2b0 : decide (x10_1 < (l0.length : Int)) = true := decide_eq_true c2
        clear c2
        by_cases c3 : 0 ≤ x10_1
        · rw [if_pos c3] at H
          have c3b0 : decide (0 ≤ x10_1) = true := decide_eq_true c3
          clear c3
          by_cases c4 : x10_1 < (l0.length : Int)
          · rw [if_pos c4] at H
            have c4b0 : decide (x10_1 < (l0.length : Int)) = true := decide_eq_true c4
            clear c4
            replace H := Option.bind_eq_some_iff.mp H
            obtain ⟨⟨t116, t117⟩, A50, H⟩ := H
            replace H : (if t117 = 0 then (num_Sum.l0 k1 t116 l0 (l0.length : Int) (wrap64 (x10_1 + 1))) else (some (0, t117))) = some (r1, r2) := H
            have A5 := Aside0.mk A50
            clear A50
            by_cases c6 : t117 = 0
            · rw [if_pos c6] at H
              obtain ⟨c6b0, c6b1⟩ := eqB_ c6
              clear c6
              have H' := Aside0.mk H
              clear H
              have p115 : 0 ≤ (x10_1 : Int) := dt_
              have q115 : x10_1 < (l0.length : Int) := dt_
              obtain ⟨ad115, e115, hx115_0⟩ := Kd.at_int HR0.out x10_1 p115 q115
              cases e115
              replace p115 := eq_true p115
              replace q115 := eq_true q115
              go_wp2_with (first | ((with_reducible refine gate_callee (f := 13) rfl ?_); refine goesL_ (some 17) rfl rfl Try.func13 (by kernel_rfl) rfl #[.int .i64 3, .int .i64 x4_1, .int .i64 (rd l0 x10_1)] rfl ga_ ?_; (with_reducible refine (num_Do.calls k1 3 x4_1 (rd l0 x10_1) t116 t117 _ A5.out).mono ?_); rintro e w' ⟨rfl, ⟨nd, rfl⟩⟩; refine ⟨_, rfl, ?_⟩))
              go_roundg k1
              case measure => have := HK1.out; omega
              case rel => exact ⟨(t116), (wrap64 (x10_1 + 1)), ra_, ra_, H', ⟨by have := HK1.out; omega⟩, dz_⟩
            · rw [if_neg c6] at H
              obtain ⟨c6b0, c6b1⟩ := neB_ c6
              simp only [Option.some.injEq, Prod.mk.injEq] at H
              obtain ⟨rfl, rfl⟩ := H
              have p115 : 0 ≤ (x10_1 : Int) := dt_
              have q115 : x10_1 < (l0.length : Int) := dt_
              obtain ⟨ad115, e115, hx115_0⟩ := Kd.at_int HR0.out x10_1 p115 q115
              cases e115
              replace p115 := eq_true p115
              replace q115 := eq_true q115
              go_wp2_with (first | ((with_reducible refine gate_callee (f := 13) rfl ?_); refine goesL_ (some 17) rfl rfl Try.func13 (by kernel_rfl) rfl #[.int .i64 3, .int .i64 x4_1, .int .i64 (rd l0 x10_1)] rfl ga_ ?_; (with_reducible refine (num_Do.calls k1 3 x4_1 (rd l0 x10_1) t116 t117 _ A5.out).mono ?_); rintro e w' ⟨rfl, ⟨nd, rfl⟩⟩; refine ⟨_, rfl, ?_⟩))
              go_ret2
              exact rz_
          · rw [if_neg c4] at H
            exact absurd H (by simp)
        · rw [if_neg c3] at H
          exact absurd H (by simp)
      · rw [if_neg c2] at H
        have c2b0 : decide (x10_1 < (l0.length : Int)) = false := decide_eq_false c2
        clear c2
        simp only [Option.some.injEq, Prod.mk.injEq] at H
        obtain ⟨rfl, rfl⟩ := H
        go_wp2
        go_ret2
        exact rz_
end Go.Proofs.Ytconpnagoijacaa.P
end
section
namespace Go.Proofs.Ytconpnagoijacaa.P
open Go.RowKit Go.Proofs.YtconpnagoijacaaW.PrintWords Go.Proofs.YtconpnagoijacaaW.PrintLast Go.Proofs.YtconpnagoijacaaW.PrintMore
def InB (a : Int) : Prop := -4611686018427387904 ≤ a ∧ a ≤ 4611686018427387904
instance (a : Int) : Decidable (InB a) := inferInstanceAs (Decidable (_ ∧ _))
def doS (kind a b : Int) : Int × Int :=
  if kind = 3 ∨ kind = 4 ∨ kind = 5 then
    if InB a ∧ InB b then
      if InB (if kind = 3 then a + b else if kind = 4 then a - b else a * b) then (if kind = 3 then a + b else if kind = 4 then a - b else a * b, 0) else (0, 4)
    else (0, 4)
  else (0, 3)
theorem InB_iff (a : Int) : InB a ↔ -4611686018427387904 ≤ a ∧ a ≤ 4611686018427387904 := Iff.rfl
theorem num_in_eq (a : Int) : num_in.f a = some (decide (InB a)) := by
  unfold num_in.f
  split
  · congr 1; rw [decide_eq_decide, InB_iff]; omega
  · congr 1; symm; rw [decide_eq_false_iff_not, InB_iff]; omega
theorem num_add_eq {a b : Int} (ha : InB a) (hb : InB b) : num_add.f a b = some (if InB (a + b) then (a + b, true) else (0, false)) := by
  rw [InB_iff] at ha hb
  unfold num_add.f wrap64
  split
  · split
    · rw [if_neg (by rw [InB_iff]; omega)]
    · rw [if_neg (by omega), if_pos (by rw [InB_iff]; omega)]; congr 2; omega
  · split
    · split
      · rw [if_neg (by rw [InB_iff]; omega)]
      · rw [if_pos (by rw [InB_iff]; omega)]; congr 2; omega
    · rw [if_pos (by rw [InB_iff]; omega)]; congr 2; omega
theorem num_size_eq {a : Int} (ha : InB a) : num_size.f a = some (if a < 0 then -a else a) := by
  rw [InB_iff] at ha
  unfold num_size.f wrap64
  split <;> (congr 1; rw [IntKind.wrap_u64]; omega)
theorem and_low {a : Int} (h0 : 0 ≤ a) (h1 : a < 18446744073709551616) : Go.bits .and .u64 a 4294967295 = a % 4294967296 :=
  bits_mask .u64 64 (by decide) (fun n h0 h1 => by rw [IntKind.wrap_u64]; omega) 32 (by decide) a h0 h1
theorem mul_parts (a b : Int) : a * b = (a / 4294967296) * (b / 4294967296) * 18446744073709551616 + ((a / 4294967296) * (b % 4294967296) + (a % 4294967296) * (b / 4294967296)) * 4294967296 + (a % 4294967296) * (b % 4294967296) := by
  have ha : a = 4294967296 * (a / 4294967296) + a % 4294967296 := by omega
  have hb : b = 4294967296 * (b / 4294967296) + b % 4294967296 := by omega
  generalize a / 4294967296 = x at *
  generalize a % 4294967296 = y at *
  generalize b / 4294967296 = z at *
  generalize b % 4294967296 = t at *
  subst ha hb
  grind
theorem mul_le2 {a b m n : Int} (h0 : 0 ≤ a) (h1 : a ≤ m) (h2 : 0 ≤ b) (h3 : b ≤ n) : 0 ≤ a * b ∧ a * b ≤ m * n :=
  ⟨Int.mul_nonneg h0 h2, Int.mul_le_mul h1 h3 h2 (by omega)⟩
theorem bits_Mul64_eq {a b : Int} (ha : 0 ≤ a) (ha' : a ≤ 4611686018427387904) (hb : 0 ≤ b) (hb' : b ≤ 4611686018427387904) :
    bits_Mul64.f a b = some (a * b / 18446744073709551616, a * b % 18446744073709551616) := by
  unfold bits_Mul64.f
  simp only [and_low ha (by omega), and_low hb (by omega)]
  obtain ⟨p0, p1⟩ := mul_le2 (a := a / 4294967296) (m := 1073741824) (b := b / 4294967296) (n := 1073741824) (by omega) (by omega) (by omega) (by omega)
  obtain ⟨q0, q1⟩ := mul_le2 (a := a / 4294967296) (m := 1073741824) (b := b % 4294967296) (n := 4294967295) (by omega) (by omega) (by omega) (by omega)
  obtain ⟨r0, r1⟩ := mul_le2 (a := a % 4294967296) (m := 4294967295) (b := b / 4294967296) (n := 1073741824) (by omega) (by omega) (by omega) (by omega)
  obtain ⟨s0, s1⟩ := mul_le2 (a := a % 4294967296) (m := 4294967295) (b := b % 4294967296) (n := 4294967295) (by omega) (by omega) (by omega) (by omega)
  have hab := mul_parts a b
  generalize (a / 4294967296) * (b / 4294967296) = p at *
  generalize (a / 4294967296) * (b % 4294967296) = q at *
  generalize (a % 4294967296) * (b / 4294967296) = r at *
  generalize (a % 4294967296) * (b % 4294967296) = s at *
  generalize a * b = x at *
  subst hab
  have w : ∀ n : Int, 0 ≤ n → n < 18446744073709551616 → IntKind.u64.wrap n = n := fun n h0 h1 => by rw [IntKind.wrap_u64]; omega
  rw [w p (by omega) (by omega), w q (by omega) (by omega), w s (by omega) (by omega), w r (by omega) (by omega)]
  rw [w (q + s / 4294967296) (by omega) (by omega)]
  rw [and_low (by omega) (by omega)]
  rw [w ((q + s / 4294967296) % 4294967296 + r) (by omega) (by omega)]
  rw [w (p + (q + s / 4294967296) / 4294967296) (by omega) (by omega)]
  rw [w (p + (q + s / 4294967296) / 4294967296 + _) (by omega) (by omega)]
  rw [IntKind.wrap_u64]
  congr 2
  omega
theorem abs_mul (a b : Int) : (if a < 0 then -a else a) * (if b < 0 then -b else b) = if (decide (a < 0) != decide (b < 0)) = true then -(a * b) else a * b := by
  by_cases h1 : a < 0 <;> by_cases h2 : b < 0 <;> simp [h1, h2, Int.neg_mul, Int.mul_neg]
theorem num_mul_eq {a b : Int} (ha : InB a) (hb : InB b) (k : Nat) : num_mul.f (k + 1) a b = some (if InB (a * b) then (a * b, true) else (0, false)) := by
  rw [InB_iff] at ha hb
  unfold num_mul.f
  rw [num_size_eq ha, num_size_eq hb]
  simp only [Option.bind_some]
  rw [bits_Mul64_eq (by split <;> omega) (by split <;> omega) (by split <;> omega) (by split <;> omega)]
  simp only [Option.bind_some, num_mul.j0]
  have hm := abs_mul a b
  have h0 : 0 ≤ (if a < 0 then -a else a) * (if b < 0 then -b else b) := Int.mul_nonneg (by split <;> omega) (by split <;> omega)
  have h1 := (mul_le2 (a := if a < 0 then -a else a) (b := if b < 0 then -b else b) (m := 4611686018427387904) (n := 4611686018427387904) (by split <;> omega) (by split <;> omega) (by split <;> omega) (by split <;> omega)).2
  generalize (if a < 0 then -a else a) * (if b < 0 then -b else b) = x at *
  generalize a * b = y at *
  by_cases hs : (decide (a < 0) != decide (b < 0)) = true
  · rw [if_pos hs] at hm
    simp only [hs, if_true, wrap64]
    split
    · rw [if_neg (by rw [InB_iff]; omega)]
    · by_cases hx : x % 18446744073709551616 > 4611686018427387904
      · rw [decide_eq_true hx, if_pos rfl, if_neg (by rw [InB_iff]; omega)]
      · rw [decide_eq_false hx, if_neg (by decide), if_pos (by rw [InB_iff]; omega)]; congr 2; omega
  · rw [if_neg hs] at hm
    replace hs := Bool.eq_false_iff.mpr hs
    simp only [hs, Bool.false_eq_true, if_false, if_true, wrap64]
    split
    · rw [if_neg (by rw [InB_iff]; omega)]
    · by_cases hx : x % 18446744073709551616 > 4611686018427387904
      · rw [decide_eq_true hx, if_pos rfl, if_neg (by rw [InB_iff]; omega)]
      · rw [decide_eq_false hx, if_neg (by decide), if_pos (by rw [InB_iff]; omega)]; congr 2; omega
theorem num_Do_eq (kind a b : Int) (k : Nat) : num_Do.f (k + 3) kind a b = some (doS kind a b) := by
  unfold num_Do.f doS
  simp only [num_Do.j0, num_Do.j1, num_in_eq, Option.bind_some]
  by_cases ha : InB a
  · by_cases hb : InB b
    · simp only [ha, hb, decide_true, if_true, Bool.not_true, Bool.false_eq_true, if_false, and_self]
      have hn : wrap64 (-b) = -b := by rw [InB_iff] at hb; unfold wrap64; omega
      rw [hn, num_add_eq ha hb, num_add_eq ha (b := -b) (by rw [InB_iff] at *; omega), num_mul_eq ha hb]
      simp only [Option.bind_some, ← Int.sub_eq_add_neg]
      by_cases h3 : kind = 3
      · simp only [h3, if_true, true_or]
        split <;> simp
      · by_cases h4 : kind = 4
        · simp only [h4, if_true, true_or, or_true]
          simp
          split <;> simp
        · by_cases h5 : kind = 5
          · simp only [h5]
            simp
            split <;> simp
          · simp [h3, h4, h5]
    · simp only [ha, hb, decide_true, decide_false, if_true, Bool.not_false, and_false, if_false]
      by_cases h3 : kind = 3
      · simp [h3]
      · by_cases h4 : kind = 4
        · simp [h4]
        · by_cases h5 : kind = 5 <;> simp [h3, h4, h5]
  · simp only [ha, decide_false, Bool.false_eq_true, if_false, if_true, false_and]
    by_cases h3 : kind = 3
    · simp [h3]
    · by_cases h4 : kind = 4
      · simp [h4]
      · by_cases h5 : kind = 5 <;> simp [h3, h4, h5]
theorem num_Do_ev (kind a b : Int) : Ev (fun k => num_Do.f k kind a b) (doS kind a b) := Ev.of (num_Do.mono _ _ _) (num_Do_eq kind a b 0)
def sumS (acc : Int) : List Int → Int × Int
  | [] => (acc, 0)
  | x :: l => if (doS 3 acc x).2 = 0 then sumS (doS 3 acc x).1 l else (0, (doS 3 acc x).2)
theorem rd_at (p : List Int) (x : Int) (l : List Int) : rd (p ++ x :: l) p.length = x := by
  simp [rd, List.getD_eq_getElem?_getD]
theorem wrap_len (p : List Int) (h : p.length ≤ 140737488351232) : wrap64 ((p.length : Int) + 1) = (p.length : Int) + 1 := by unfold wrap64; omega
theorem num_Sum_l0 (l : List Int) : ∀ (p : List Int) (acc : Int), (p ++ l).length ≤ 140737488351232 → Ev (fun k => num_Sum.l0 k acc (p ++ l) ((p ++ l).length : Int) p.length) (sumS acc l) := by
  induction l with
  | nil =>
    intro p acc hl
    refine evShift ?_
    simp only [num_Sum.l0]
    exact evNeg (by simp) (evSome rfl)
  | cons x l ih =>
    intro p acc hl
    refine evShift ?_
    simp only [num_Sum.l0]
    refine evPos (by simp; omega) (evPos (by omega) (evPos (by simp; omega) ?_))
    rw [rd_at]
    refine Ev.bind (num_Do_ev _ _ _) ?_
    simp only [sumS]
    split
    · have := ih (p ++ [x]) (doS 3 acc x).1 (by simpa using hl)
      rw [wrap_len p (by simp at hl; omega)]
      simpa using this
    · exact evSome rfl
theorem num_Sum_ev (l : List Int) (h : l.length ≤ 140737488351232) : Ev (fun k => num_Sum.f k l) (sumS 0 l) := num_Sum_l0 l [] 0 h
end Go.Proofs.Ytconpnagoijacaa.P
end
section
namespace Go.Proofs.Ytconpnagoijacaa.P
open Go.RowKit Go.Proofs.YtconpnagoijacaaW.PrintWords Go.Proofs.YtconpnagoijacaaW.PrintLast Go.Proofs.YtconpnagoijacaaW.PrintMore
def smallI (c : Int) : Bool := decide (97 ≤ c ∧ c ≤ 122)
def largeI (c : Int) : Bool := decide (65 ≤ c ∧ c ≤ 90)
def digitI (c : Int) : Bool := decide (48 ≤ c ∧ c ≤ 57)
def innerI (c : Int) : Bool := smallI c || largeI c || digitI c || c == 95
def plainI (c : Int) : Bool := decide (32 ≤ c ∧ c ≤ 126)
def wordS (large : Bool) (s : ByteArray) : Bool :=
  decide (1 ≤ s.size ∧ s.size ≤ 24) && (if large then largeI (bt s 0) else smallI (bt s 0)) && (bytesOf s).all innerI
def valS (kind n : Int) (s : ByteArray) : Bool :=
  if kind = 1 then decide (InB n) && decide (s = ⟨#[]⟩)
  else if kind = 2 then decide (n = 0) && wordS false s
  else if kind = 3 then decide (n = 0) && (bytesOf s).all plainI && decide (s.size ≤ 60)
  else false
theorem val_small_eq (c : Int) : val_small.f c = some (smallI c) := by
  unfold val_small.f smallI
  split
  · congr 1; rw [decide_eq_decide]; omega
  · congr 1; symm; rw [decide_eq_false_iff_not]; omega
theorem val_large_eq (c : Int) : val_large.f c = some (largeI c) := by
  unfold val_large.f largeI
  split
  · congr 1; rw [decide_eq_decide]; omega
  · congr 1; symm; rw [decide_eq_false_iff_not]; omega
theorem val_digit_eq (c : Int) : val_digit.f c = some (digitI c) := by
  unfold val_digit.f digitI
  split
  · congr 1; rw [decide_eq_decide]; omega
  · congr 1; symm; rw [decide_eq_false_iff_not]; omega
theorem subst_letter_eq (c : Int) : subst_letter.f c = some (innerI c) := by
  unfold subst_letter.f innerI smallI largeI digitI
  by_cases h1 : 97 ≤ c <;> by_cases h2 : c ≤ 122 <;> by_cases h3 : 65 ≤ c <;> by_cases h4 : c ≤ 90 <;> by_cases h5 : 48 ≤ c <;> by_cases h6 : c ≤ 57 <;> simp [h1, h2, h3, h4, h5, h6]
theorem all_drop {P : Int → Bool} {s : ByteArray} {i : Nat} (h : i < s.size) : ((bytesOf s).drop i).all P = (P (bt s i) && ((bytesOf s).drop (i + 1)).all P) := by
  obtain ⟨x, h1, h2⟩ := codes_split s i h
  rw [h1, h2]; rfl
theorem drop_end (s : ByteArray) : (bytesOf s).drop s.size = [] := by rw [← len_codes s]; exact List.drop_length
theorem val_symbol_l0 (s : ByteArray) (hs : s.size ≤ maxLen) : ∀ i : Nat, i ≤ s.size → Ev (fun k => val_symbol.l0 k s s.size i) (((bytesOf s).drop i).all innerI) := by
  unfold maxLen at hs
  refine back_ind s.size (fun k i => val_symbol.l0 k s s.size i) _ ?_ ?_
  · refine evShift ?_
    simp only [val_symbol.l0]
    refine evNeg (by omega) (evSome (by rw [drop_end]; rfl))
  · intro i hi ih
    refine evShift ?_
    simp only [val_symbol.l0, val_small_eq, val_large_eq, val_digit_eq, Option.bind_some]
    refine evPos (by omega) (evPos (by omega) (evPos (by omega) ?_))
    rw [all_drop hi, wrap_succ hi (by omega)]
    have e : innerI (bt s i) = (smallI (bt s i) || largeI (bt s i) || digitI (bt s i) || bt s i == 95) := rfl
    by_cases h1 : smallI (bt s i) = true
    · rw [e, h1]; simpa using ih
    · by_cases h2 : largeI (bt s i) = true
      · rw [e, h2]; simpa [h1] using ih
      · by_cases h3 : digitI (bt s i) = true
        · rw [e, h3]; simpa [h1, h2] using ih
        · by_cases h4 : bt s i = 95
          · rw [e]; simpa [h1, h2, h3, h4] using ih
          · rw [e]; simp [h1, h2, h3, h4]; exact evSome (by simp [h4])
theorem val_symbol_ev (s : ByteArray) (hs : s.size ≤ maxLen) : Ev (fun k => val_symbol.f k s) (wordS false s) := by
  have hl := val_symbol_l0 s hs 0 (by omega)
  simp only [List.drop_zero, Int.natCast_zero] at hl
  have hj : Ev (fun k => val_symbol.j0 k s true) false := by
    refine evShift ?_
    simp only [val_symbol.j0, if_true]
    exact evSome rfl
  unfold val_symbol.f wordS
  by_cases h1 : (s.size : Int) < 1
  · refine evPos h1 ?_
    have hd : decide (1 ≤ s.size ∧ s.size ≤ 24) = false := decide_eq_false (by omega)
    rw [hd]; exact hj
  · refine evNeg h1 ?_
    by_cases h2 : (s.size : Int) > 24
    · refine evPos h2 ?_
      have hd : decide (1 ≤ s.size ∧ s.size ≤ 24) = false := decide_eq_false (by omega)
      rw [hd]; exact hj
    · refine evNeg h2 (evPos (by omega) ?_)
      have hd : decide (1 ≤ s.size ∧ s.size ≤ 24) = true := decide_eq_true (by omega)
      rw [hd]
      simp only [val_small_eq, Option.bind_some, Bool.true_and]
      by_cases h3 : smallI (bt s 0) = true
      · simp only [h3, Bool.not_true]
        refine evShift ?_
        simp only [val_symbol.j0, Bool.false_eq_true, if_false]
        exact hl
      · replace h3 := Bool.eq_false_iff.mpr h3
        simp only [h3, Bool.not_false]
        exact hj
theorem subst_Var_l0 (s : ByteArray) (hs : s.size ≤ maxLen) : ∀ i : Nat, i ≤ s.size → Ev (fun k => subst_Var.l0 k s s.size i) (((bytesOf s).drop i).all innerI) := by
  unfold maxLen at hs
  refine back_ind s.size (fun k i => subst_Var.l0 k s s.size i) _ ?_ ?_
  · refine evShift ?_
    simp only [subst_Var.l0]
    refine evNeg (by omega) (evSome (by rw [drop_end]; rfl))
  · intro i hi ih
    refine evShift ?_
    simp only [subst_Var.l0, subst_letter_eq, Option.bind_some]
    refine evPos (by omega) (evPos (by omega) (evPos (by omega) ?_))
    rw [all_drop hi, wrap_succ hi (by omega)]
    by_cases h1 : innerI (bt s i) = true
    · rw [h1]; simpa using ih
    · simp [h1]; exact evSome rfl
theorem subst_Var_ev (s : ByteArray) (hs : s.size ≤ maxLen) : Ev (fun k => subst_Var.f k s) (wordS true s) := by
  have hl := subst_Var_l0 s hs 0 (by omega)
  simp only [List.drop_zero, Int.natCast_zero] at hl
  have hj : Ev (fun k => subst_Var.j0 k s true) false := by
    refine evShift ?_
    simp only [subst_Var.j0, if_true]
    exact evSome rfl
  unfold subst_Var.f wordS
  by_cases h1 : (s.size : Int) < 1
  · refine evPos h1 ?_
    have hd : decide (1 ≤ s.size ∧ s.size ≤ 24) = false := decide_eq_false (by omega)
    rw [hd]; exact hj
  · refine evNeg h1 ?_
    by_cases h2 : (s.size : Int) > 24
    · refine evPos h2 ?_
      have hd : decide (1 ≤ s.size ∧ s.size ≤ 24) = false := decide_eq_false (by omega)
      rw [hd]; exact hj
    · refine evNeg h2 (evPos (by omega) ?_)
      have hd : decide (1 ≤ s.size ∧ s.size ≤ 24) = true := decide_eq_true (by omega)
      rw [hd]
      simp only [if_true]
      by_cases h3 : bt s 0 < 65
      · refine evPos h3 ?_
        have : largeI (bt s 0) = false := decide_eq_false (by omega)
        rw [this]; exact hj
      · refine evNeg h3 ?_
        by_cases h4 : bt s 0 > 90
        · have : largeI (bt s 0) = false := decide_eq_false (by omega)
          rw [this, decide_eq_true h4]; exact hj
        · have : largeI (bt s 0) = true := decide_eq_true (by omega)
          rw [this, decide_eq_false h4]
          refine evShift ?_
          simp only [subst_Var.j0, Bool.false_eq_true, if_false, Bool.true_and]
          exact hl
theorem val_plain_ev (s : ByteArray) (hs : s.size ≤ maxLen) : Ev (fun k => val_plain.f k s) ((bytesOf s).all plainI && decide (s.size ≤ 60)) := by
  have h : ∀ i : Nat, i ≤ s.size → Ev (fun k => val_plain.l0 k s s.size i) (((bytesOf s).drop i).all plainI && decide (s.size ≤ 60)) := by
    unfold maxLen at hs
    refine back_ind s.size (fun k i => val_plain.l0 k s s.size i) _ ?_ ?_
    · refine evShift ?_
      simp only [val_plain.l0]
      refine evNeg (by omega) (evSome (by rw [drop_end]; simp; omega))
    · intro i hi ih
      refine evShift ?_
      simp only [val_plain.l0]
      refine evPos (by omega) (evPos (by omega) (evPos (by omega) ?_))
      rw [all_drop hi, wrap_succ hi (by omega)]
      by_cases h1 : bt s i < 32
      · refine evPos h1 (evSome ?_)
        have : plainI (bt s i) = false := decide_eq_false (by omega)
        rw [this]; rfl
      · refine evNeg h1 ?_
        by_cases h2 : bt s i > 126
        · refine evPos h2 (evSome ?_)
          have : plainI (bt s i) = false := decide_eq_false (by omega)
          rw [this]; rfl
        · refine evNeg h2 ?_
          have : plainI (bt s i) = true := decide_eq_true (by omega)
          rw [this]; exact ih
  have := h 0 (by omega)
  simpa [val_plain.f] using this
theorem val_Check_ev (kind n : Int) (s : ByteArray) (hs : s.size ≤ maxLen) : Ev (fun k => val_Check.f k kind n s) (if valS kind n s then 0 else 1) := by
  unfold val_Check.f valS
  by_cases h1 : kind = 1
  · refine evPos h1 ?_
    rw [if_pos h1]
    by_cases h2 : n ≥ -4611686018427387904
    · refine evPos h2 ?_
      by_cases h3 : n ≤ 4611686018427387904
      · refine evPos h3 ?_
        rw [decide_eq_true ((InB_iff n).2 ⟨h2, h3⟩)]
        by_cases h4 : s = ⟨#[]⟩
        · exact evPos (tl_nil.2 h4) (evSome (by simp [h4]))
        · exact evNeg (fun e => h4 (tl_nil.1 e)) (evSome (by simp [h4]))
      · exact evNeg h3 (evSome (by rw [decide_eq_false (fun h => h3 ((InB_iff n).1 h).2)]; rfl))
    · exact evNeg h2 (evSome (by rw [decide_eq_false (fun h => h2 ((InB_iff n).1 h).1)]; rfl))
  · refine evNeg h1 ?_
    rw [if_neg h1]
    by_cases h2 : kind = 2
    · refine evPos h2 ?_
      rw [if_pos h2]
      by_cases h3 : n = 0
      · refine evPos h3 (Ev.bind (val_symbol_ev s hs) ?_)
        rw [decide_eq_true h3]
        cases wordS false s <;> exact evSome rfl
      · refine evNeg h3 (evSome ?_)
        rw [decide_eq_false h3]; rfl
    · refine evNeg h2 ?_
      rw [if_neg h2]
      by_cases h3 : kind = 3
      · refine evPos h3 ?_
        rw [if_pos h3]
        by_cases h4 : n = 0
        · refine evPos h4 (Ev.bind (val_plain_ev s hs) ?_)
          rw [decide_eq_true h4, Bool.true_and]
          cases ((bytesOf s).all plainI && decide (s.size ≤ 60)) <;> exact evSome rfl
        · refine evNeg h4 (evSome ?_)
          rw [decide_eq_false h4]; rfl
      · refine evNeg h3 (evSome ?_)
        rw [if_neg h3]; rfl
end Go.Proofs.Ytconpnagoijacaa.P
end
section
namespace Go.Proofs.Ytconpnagoijacaa.P
open Go.RowKit Go.Proofs.YtconpnagoijacaaW.PrintWords Go.Proofs.YtconpnagoijacaaW.PrintLast Go.Proofs.YtconpnagoijacaaW.PrintMore
theorem drop_at {α : Type} (l : List α) (i : Nat) (h : i < l.length) : l.drop i = l[i] :: l.drop (i + 1) := List.drop_eq_getElem_cons h
theorem rdV_nth (l : List S40) (i : Nat) (h : i < l.length) : rd_T40 l i = l[i] := by simp [rd_T40, List.getD_eq_getElem?_getD, h]
theorem rdO_nth (l : List S52) (i : Nat) (h : i < l.length) : rd_T52 l i = l[i] := by simp [rd_T52, List.getD_eq_getElem?_getD, h]
theorem rdB_nth (l : List S62) (i : Nat) (h : i < l.length) : rd_T62 l i = l[i] := by simp [rd_T62, List.getD_eq_getElem?_getD, h]
def pushS (o : S52) : Bool := decide (o.f0 = 1 ∨ o.f0 = 2)
def zeroS (v : S40) : Bool := decide (v.f0 = 0) && (decide (v.f1 = 0) && decide (v.f2 = ⟨#[]⟩))
def opS (o : S52) : Bool :=
  if o.f0 = 1 then wordS true o.f1 && zeroS o.f2
  else if o.f0 = 2 then decide (o.f1 = ⟨#[]⟩) && valS o.f2.f0 o.f2.f1 o.f2.f2
  else decide (o.f0 = 3 ∨ o.f0 = 4 ∨ o.f0 = 5) && (decide (o.f1 = ⟨#[]⟩) && zeroS o.f2)
def deepS : Int → List S52 → Option Int
  | d, [] => some d
  | d, o :: l => if opS o && (pushS o || decide (2 ≤ d)) then deepS (if pushS o then d + 1 else d - 1) l else none
def exprS (l : List S52) : Bool := decide (1 ≤ l.length ∧ l.length ≤ 15) && decide (deepS 0 l = some 1)
def bindS (x : S62) : Bool := wordS true x.f0 && valS x.f1.f0 x.f1.f1 x.f1.f2
def risingS : List S62 → Bool
  | [] => true
  | [x] => bindS x
  | x :: y :: l => bindS x && (Op.bytesLess x.f0.toList y.f0.toList && risingS (y :: l))
def bindsS (l : List S62) : Bool := decide (l.length ≤ 100) && risingS l
def getS (l : List S62) (s : ByteArray) : Option S40 := (l.find? fun x => decide (x.f0 = s)).map (·.f1)
def zV : S40 := ⟨0, 0, ⟨#[]⟩⟩
def tupV (v : S40) (e : Int) : Int × Int × ByteArray × Int := (v.f0, v.f1, v.f2, e)
def pushV (b : List S62) (o : S52) : S40 × Int := if o.f0 = 2 then (o.f2, 0) else match getS b o.f1 with | some v => (v, 0) | none => (zV, 5)
def reckV (kind : Int) (x y : S40) : S40 × Int :=
  if x.f0 = 1 ∧ y.f0 = 1 then (if (doS kind x.f1 y.f1).2 = 0 then (⟨1, (doS kind x.f1 y.f1).1, ⟨#[]⟩⟩, 0) else (zV, (doS kind x.f1 y.f1).2)) else (zV, 3)
def evalS (b : List S62) : List S40 → List S52 → S40 × Int
  | st, [] => (st.getLastD zV, 0)
  | st, o :: l =>
    if pushS o then (if (pushV b o).2 = 0 then evalS b ((pushV b o).1 :: st) l else (zV, (pushV b o).2))
    else match st with
      | y :: x :: st => if (reckV o.f0 x y).2 = 0 then evalS b ((reckV o.f0 x y).1 :: st) l else (zV, (reckV o.f0 x y).2)
      | _ => (zV, 0)
def evalE (l : List S52) (b : List S62) : S40 × Int := if exprS l && bindsS b then evalS b [] l else (zV, 1)
def varsS (out : List ByteArray) : List S52 → List ByteArray
  | [] => out
  | o :: l => if (decide (o.f1 = ⟨#[]⟩) || out.any fun x => decide (x = o.f1)) then varsS out l else varsS (out ++ [o.f1]) l
def partS : Int → List S52 → Int
  | _, [] => -1
  | need, o :: r => if (if pushS o then need - 1 else need + 1) = 0 then (r.length : Int) else partS (if pushS o then need - 1 else need + 1) r
def partE (l : List S52) (e : Int) : Int := if exprS l = true ∧ 0 ≤ e ∧ e < l.length then partS 1 (l.take (e.toNat + 1)).reverse else -1
theorem expr_pushes_eq (o : S52) : expr_pushes.f o.f0 = some (pushS o) := by
  unfold expr_pushes.f pushS
  split
  · rw [decide_eq_true (by omega)]
  · congr 1; rw [Bool.eq_iff_iff]; simp; omega
theorem zero_beq (v : S40) : (v.f0 == 0 && (v.f1 == 0 && (v.f2.toList == ([] : List UInt8)))) = zeroS v := by
  unfold zeroS; rw [tl_beq_nil]; rfl
theorem expr_right_ev (o : S52) (h1 : o.f1.size ≤ maxLen) (h2 : o.f2.f2.size ≤ maxLen) : Ev (fun k => expr_right.f k o.f0 o.f1 o.f2.f0 o.f2.f1 o.f2.f2) (opS o) := by
  unfold expr_right.f opS
  by_cases k1 : o.f0 = 1
  · refine evPos k1 (Ev.bind (subst_Var_ev _ h1) ?_)
    rw [if_pos k1, zero_beq]
    cases wordS true o.f1 <;> exact evSome (by simp)
  · refine evNeg k1 ?_
    rw [if_neg k1]
    by_cases k2 : o.f0 = 2
    · refine evPos k2 ?_
      rw [if_pos k2]
      by_cases k3 : o.f1 = ⟨#[]⟩
      · refine evPos (tl_nil.2 k3) (Ev.bind (val_Check_ev _ _ _ h2) (evSome ?_))
        rw [decide_eq_true k3]
        cases valS o.f2.f0 o.f2.f1 o.f2.f2 <;> simp
      · refine evNeg (fun e => k3 (tl_nil.1 e)) (evSome ?_)
        rw [decide_eq_false k3]; rfl
    · refine evNeg k2 ?_
      rw [if_neg k2]
      have fin : Ev (fun _ => if o.f1.toList = ([] : List UInt8) then some (o.f2.f0 == 0 && (o.f2.f1 == 0 && (o.f2.f2.toList == ([] : List UInt8)))) else some false) (decide (o.f1 = ⟨#[]⟩) && zeroS o.f2) := by
        by_cases k3 : o.f1 = ⟨#[]⟩
        · refine evPos (tl_nil.2 k3) (evSome ?_)
          rw [decide_eq_true k3, zero_beq]; simp
        · refine evNeg (fun e => k3 (tl_nil.1 e)) (evSome ?_)
          rw [decide_eq_false k3]; rfl
      by_cases k3 : o.f0 = 3
      · rw [decide_eq_true (by omega), Bool.true_and]; exact evPos k3 fin
      · refine evNeg k3 ?_
        by_cases k4 : o.f0 = 4
        · rw [decide_eq_true (by omega), Bool.true_and]; exact evPos k4 fin
        · refine evNeg k4 ?_
          by_cases k5 : o.f0 = 5
          · rw [decide_eq_true (by omega), Bool.true_and]; exact evPos k5 fin
          · refine evNeg k5 (evSome ?_)
            rw [decide_eq_false (by omega)]; rfl
def OpsOk (l : List S52) : Prop := ∀ o ∈ l, o.f1.size ≤ maxLen ∧ o.f2.f2.size ≤ maxLen
def BindsOk (l : List S62) : Prop := ∀ x ∈ l, x.f0.size ≤ maxLen ∧ x.f1.f2.size ≤ maxLen
theorem expr_Check_l0 (l : List S52) (ho : OpsOk l) (hl : l.length ≤ 1000000) : ∀ (d : Nat) (i : Nat) (n : Int), i + d = l.length → 0 ≤ n → n ≤ i →
    Ev (fun k => expr_Check.l0 k n l l.length i) (if deepS n (l.drop i) = some 1 then 0 else 1) := by
  intro d
  induction d with
  | zero =>
    intro i n hi h0 h1
    refine evShift ?_
    simp only [expr_Check.l0]
    refine evNeg (by omega) ?_
    rw [List.drop_of_length_le (by omega)]
    simp only [deepS, Option.some.injEq]
    by_cases h : n = 1
    · exact evPos h (evSome (by rw [if_pos h]))
    · exact evNeg h (evSome (by rw [if_neg h]))
  | succ d ih =>
    intro i n hi h0 h1
    have hlt : i < l.length := by omega
    obtain ⟨b1, b2⟩ := ho l[i] (List.getElem_mem hlt)
    refine evShift ?_
    simp only [expr_Check.l0]
    refine evPos (by omega) (evPos (by omega) (evPos (by omega) ?_))
    simp only [rdO_nth l i hlt]
    rw [drop_at l i hlt]
    simp only [deepS]
    refine Ev.bind (expr_right_ev _ b1 b2) ?_
    have j2 : ∀ (x : Bool) (m : Int), m = (if pushS l[i] then n + 1 else n - 1) → (x = false → 0 ≤ m) → Ev (fun k => expr_Check.j2 k n l l.length i x l[i].f0 l[i].f1 l[i].f2.f0 l[i].f2.f1 l[i].f2.f2) (if x = false ∧ deepS m (l.drop (i + 1)) = some 1 then 0 else 1) := by
      intro x m hm hx
      refine evShift ?_
      simp only [expr_Check.j2]
      cases x with
      | true => exact evPos rfl (evSome (by simp))
      | false =>
        refine evNeg (by decide) ?_
        rw [expr_pushes_eq]
        simp only [Option.bind_some]
        have hx := hx rfl
        rw [wrap_succ hlt (by omega)]
        cases hp : pushS l[i] with
        | true =>
          rw [hp] at hm
          simp only [if_true] at hm
          refine evPos rfl ?_
          have e : wrap64 (n + 1) = m := by unfold wrap64; omega
          rw [e]
          simpa using ih (i + 1) m (by omega) hx (by omega)
        | false =>
          rw [hp] at hm
          simp only [Bool.false_eq_true, if_false] at hm
          refine evNeg (by decide) ?_
          have e : wrap64 (n - 1) = m := by unfold wrap64; omega
          rw [e]
          simpa using ih (i + 1) m (by omega) hx (by omega)
    refine evCond (fun hr => ?_) (fun hr => ?_)
    · rw [expr_pushes_eq]
      simp only [Option.bind_some, hr, Bool.true_and]
      refine evCond (fun hp => ?_) (fun hp => ?_)
      · have := j2 false (n + 1) (by rw [hp]; rfl) (fun _ => by omega)
        simpa [hp] using this
      · by_cases h2 : n < 2
        · have := j2 true _ rfl (by simp)
          rw [decide_eq_true h2]
          have h3 : ¬ (2 ≤ n) := by omega
          simpa [h3, hp] using this
        · have := j2 false (n - 1) (by rw [hp]; rfl) (fun _ => by omega)
          rw [decide_eq_false h2]
          have h3 : 2 ≤ n := by omega
          simpa [h3, hp] using this
    · have := j2 true _ rfl (by simp)
      simpa [hr] using this
theorem expr_Check_ev (l : List S52) (ho : OpsOk l) (hl : l.length ≤ maxLen) : Ev (fun k => expr_Check.f k l) (if exprS l then 0 else 1) := by
  unfold maxLen at hl
  have hj : Ev (fun k => expr_Check.j0 k l true) 1 := by
    refine evShift ?_
    simp only [expr_Check.j0, if_true]
    exact evSome rfl
  unfold expr_Check.f exprS
  by_cases h1 : (l.length : Int) < 1
  · refine evPos h1 ?_
    have hd : decide (1 ≤ l.length ∧ l.length ≤ 15) = false := decide_eq_false (by omega)
    rw [hd]; exact hj
  · refine evNeg h1 ?_
    by_cases h2 : (l.length : Int) > 15
    · have hd : decide (1 ≤ l.length ∧ l.length ≤ 15) = false := decide_eq_false (by omega)
      rw [hd, decide_eq_true h2]; exact hj
    · have hd : decide (1 ≤ l.length ∧ l.length ≤ 15) = true := decide_eq_true (by omega)
      rw [hd, decide_eq_false h2]
      refine evShift ?_
      simp only [expr_Check.j0, Bool.false_eq_true, if_false]
      have := expr_Check_l0 l ho (by omega) l.length 0 0 (by omega) (by omega) (by omega)
      simpa using this
theorem subst_right_ev (x : S62) (h1 : x.f0.size ≤ maxLen) (h2 : x.f1.f2.size ≤ maxLen) : Ev (fun k => subst_right.f k x.f0 x.f1.f0 x.f1.f1 x.f1.f2) (bindS x) := by
  unfold subst_right.f bindS
  refine Ev.bind (subst_Var_ev _ h1) ?_
  cases wordS true x.f0 with
  | false => exact evNeg (by decide) (evSome rfl)
  | true =>
    refine evPos rfl (Ev.bind (val_Check_ev _ _ _ h2) (evSome ?_))
    cases valS x.f1.f0 x.f1.f1 x.f1.f2 <;> simp
def restS : Option ByteArray → List S62 → Bool
  | _, [] => true
  | none, x :: l => bindS x && restS (some x.f0) l
  | some s, x :: l => bindS x && (Op.bytesLess s.toList x.f0.toList && restS (some x.f0) l)
theorem rest_rising : ∀ (l : List S62), (restS none l = risingS l) ∧ ∀ x, (bindS x && restS (some x.f0) l) = risingS (x :: l)
  | [] => ⟨rfl, fun x => by simp [restS, risingS]⟩
  | y :: l => by
    obtain ⟨_, h2⟩ := rest_rising l
    refine ⟨by simp only [restS]; exact h2 y, fun x => ?_⟩
    simp only [restS, risingS]
    rw [← h2 y]
    cases bindS x <;> cases bindS y <;> simp
theorem subst_Check_l0 (l : List S62) (ho : BindsOk l) (hl : l.length ≤ 1000000) : ∀ (d : Nat) (i : Nat), i + d = l.length →
    Ev (fun k => subst_Check.l0 k l l l.length i) (if restS (if h : 0 < i ∧ i - 1 < l.length then some (l[i - 1]'h.2).f0 else none) (l.drop i) then 0 else 1) := by
  intro d
  induction d with
  | zero =>
    intro i hi
    refine evShift ?_
    simp only [subst_Check.l0]
    refine evNeg (by omega) (evSome ?_)
    rw [List.drop_of_length_le (by omega)]
    simp [restS]
  | succ d ih =>
    intro i hi
    have hlt : i < l.length := by omega
    obtain ⟨b1, b2⟩ := ho l[i] (List.getElem_mem hlt)
    refine evShift ?_
    simp only [subst_Check.l0]
    refine evPos (by omega) (evPos (by omega) (evPos (by omega) ?_))
    simp only [rdB_nth l i hlt]
    rw [drop_at l i hlt]
    refine Ev.bind (subst_right_ev _ b1 b2) ?_
    have hn := ih (i + 1) (by omega)
    rw [dif_pos (by omega)] at hn
    simp only [Nat.add_sub_cancel] at hn
    rw [wrap_succ hlt (by omega)]
    by_cases h0 : 0 < i
    · rw [dif_pos ⟨h0, by omega⟩]
      simp only [restS]
      refine evCond (fun hb => ?_) (fun hb => evSome (by simp [hb]))
      refine evPos (by omega) ?_
      have e : wrap64 ((i : Int) - 1) = ((i - 1 : Nat) : Int) := by unfold wrap64; omega
      rw [e]
      refine evPos (by omega) (evPos (by omega) ?_)
      rw [rdB_nth l (i - 1) (by omega)]
      refine evCond (fun hc => ?_) (fun hc => evSome (by simp [hc]))
      simpa [hb, hc] using hn
    · rw [dif_neg (by omega)]
      simp only [restS]
      refine evCond (fun hb => ?_) (fun hb => evSome (by simp [hb]))
      refine evNeg (by omega) ?_
      simpa [hb] using hn
theorem subst_Check_ev (l : List S62) (ho : BindsOk l) : Ev (fun k => subst_Check.f k l) (if bindsS l then 0 else 1) := by
  unfold subst_Check.f bindsS
  by_cases h : (l.length : Int) > 100
  · refine evPos h (evSome ?_)
    rw [decide_eq_false (by omega)]; rfl
  · refine evNeg h ?_
    rw [decide_eq_true (by omega)]
    have := subst_Check_l0 l ho (by omega) l.length 0 (by omega)
    rw [dif_neg (by omega)] at this
    simpa [(rest_rising l).1] using this
theorem getS_cons (x : S62) (l : List S62) (s : ByteArray) : getS (x :: l) s = if x.f0 = s then some x.f1 else getS l s := by
  unfold getS
  rw [List.find?_cons]
  by_cases e : x.f0 = s
  · rw [if_pos e, decide_eq_true e]; rfl
  · rw [if_neg e, decide_eq_false e]
theorem subst_Get_ev (l : List S62) (s : ByteArray) (hl : l.length ≤ maxLen) : Ev (fun k => subst_Get.f k l s) (match getS l s with | some v => (v.f0, v.f1, v.f2, true) | none => (0, 0, ⟨#[]⟩, false)) := by
  unfold maxLen at hl
  have h : ∀ i : Nat, i ≤ l.length → Ev (fun k => subst_Get.l0 k s l l.length i) (match getS (l.drop i) s with | some v => (v.f0, v.f1, v.f2, true) | none => (0, 0, ⟨#[]⟩, false)) := by
    refine back_ind l.length (fun k i => subst_Get.l0 k s l l.length i) _ ?_ ?_
    · refine evShift ?_
      simp only [subst_Get.l0]
      refine evNeg (by omega) (evSome ?_)
      rw [List.drop_length]; rfl
    · intro i hi ih
      refine evShift ?_
      simp only [subst_Get.l0]
      refine evPos (by omega) (evPos (by omega) (evPos (by omega) ?_))
      rw [rdB_nth l i hi, drop_at l i hi, wrap_succ hi (by omega)]
      by_cases e : l[i].f0 = s
      · refine evPos (by rw [e]) (evSome ?_)
        rw [getS_cons, if_pos e]
      · refine evNeg (fun h => e (tl_inj.1 h)) ?_
        rw [getS_cons, if_neg e]; exact ih
  have := h 0 (by omega)
  simpa [subst_Get.f] using this
theorem expr_push_ev (o : S52) (b : List S62) (hl : b.length ≤ maxLen) : Ev (fun k => expr_push.f k o.f0 o.f1 o.f2.f0 o.f2.f1 o.f2.f2 b) (tupV (pushV b o).1 (pushV b o).2) := by
  unfold expr_push.f pushV
  by_cases h : o.f0 = 2
  · refine evPos h (evSome ?_)
    rw [if_pos h]; rfl
  · refine evNeg h (Ev.bind (subst_Get_ev b o.f1 hl) ?_)
    rw [if_neg h]
    cases getS b o.f1 with
    | some v => exact evPos rfl (evSome rfl)
    | none => exact evNeg (by decide) (evSome rfl)
theorem expr_reckon_ev (kind : Int) (x y : S40) : Ev (fun k => expr_reckon.f k kind x.f0 x.f1 x.f2 y.f0 y.f1 y.f2) (tupV (reckV kind x y).1 (reckV kind x y).2) := by
  unfold expr_reckon.f reckV
  have hj : Ev (fun k => expr_reckon.j0 k kind true x.f0 x.f1 x.f2 y.f0 y.f1 y.f2) (tupV zV 3) := by
    refine evShift ?_
    simp only [expr_reckon.j0, if_true]
    exact evSome rfl
  by_cases h1 : x.f0 = 1
  · refine evPos h1 ?_
    by_cases h2 : y.f0 = 1
    · rw [if_pos ⟨h1, h2⟩]
      refine evShift ?_
      simp only [expr_reckon.j0, h2, bne_self_eq_false, Bool.false_eq_true, if_false]
      refine Ev.bind (num_Do_ev _ _ _) ?_
      by_cases h3 : (doS kind x.f1 y.f1).2 = 0
      · exact evPos h3 (evSome (by rw [if_pos h3]; rfl))
      · exact evNeg h3 (evSome (by rw [if_neg h3]; rfl))
    · rw [if_neg (fun h => h2 h.2)]
      have : (y.f0 != 1) = true := by simpa using h2
      rw [this]; exact hj
  · rw [if_neg (fun h => h1 h.1)]
    exact evNeg h1 hj
end Go.Proofs.Ytconpnagoijacaa.P
end
section
namespace Go.Proofs.Ytconpnagoijacaa.P
open Go.RowKit Go.Proofs.YtconpnagoijacaaW.PrintWords Go.Proofs.YtconpnagoijacaaW.PrintLast Go.Proofs.YtconpnagoijacaaW.PrintMore
theorem rdV_mid (p : List S40) (x : S40) (r : List S40) (i : Int) (h : i = p.length) : rd_T40 (p ++ x :: r) i = x := by
  subst h; simp [rd_T40, List.getD_eq_getElem?_getD]
theorem deep_push {n : Int} {o : S52} {l : List S52} {m : Int} (h : deepS n (o :: l) = some m) (hp : pushS o = true) : opS o = true ∧ deepS (n + 1) l = some m := by
  simp only [deepS, hp, Bool.true_or, Bool.and_true, if_true] at h
  by_cases ho : opS o = true
  · rw [if_pos ho] at h; exact ⟨ho, h⟩
  · rw [if_neg ho] at h; cases h
theorem deep_reck {n : Int} {o : S52} {l : List S52} {m : Int} (h : deepS n (o :: l) = some m) (hp : pushS o = false) : opS o = true ∧ 2 ≤ n ∧ deepS (n - 1) l = some m := by
  simp only [deepS, hp, Bool.false_or, Bool.false_eq_true, if_false] at h
  by_cases ho : (opS o && decide (2 ≤ n)) = true
  · rw [if_pos ho] at h
    simp only [Bool.and_eq_true, decide_eq_true_eq] at ho
    exact ⟨ho.1, ho.2, h⟩
  · rw [if_neg ho] at h; cases h
theorem expr_Eval_l0 (l : List S52) (b : List S62) (hl : l.length ≤ 1000000) (hb : b.length ≤ maxLen) : ∀ (d i : Nat) (st : List S40), i + d = l.length → st.length ≤ i → deepS st.length (l.drop i) = some 1 →
    Ev (fun k => expr_Eval.l0 k b st.reverse l l.length i) (tupV (evalS b st (l.drop i)).1 (evalS b st (l.drop i)).2) := by
  intro d
  induction d with
  | zero =>
    intro i st hi h1 hd
    rw [List.drop_of_length_le (by omega)] at hd ⊢
    simp only [deepS, Option.some.injEq] at hd
    match st, hd with
    | [v], _ =>
      refine evShift ?_
      simp only [expr_Eval.l0]
      exact evNeg (by omega) (evPos (by simp) (evSome rfl))
    | [], hd => simp at hd
    | _ :: _ :: _, hd => simp at hd; omega
  | succ d ih =>
    intro i st hi h1 hd
    have hlt : i < l.length := by omega
    rw [drop_at l i hlt] at hd ⊢
    refine evShift ?_
    simp only [expr_Eval.l0]
    refine evPos (by omega) (evPos (by omega) (evPos (by omega) ?_))
    simp only [rdO_nth l i hlt]
    rw [expr_pushes_eq, wrap_succ hlt (by omega)]
    simp only [Option.bind_some]
    refine evCond (fun hp => ?_) (fun hp => ?_)
    · obtain ⟨_, hd2⟩ := deep_push hd hp
      refine Ev.bind (expr_push_ev l[i] b hb) ?_
      simp only [evalS, hp, if_true]
      refine evIf (fun he => ?_) (fun he => ?_)
      · have he' : (pushV b l[i]).2 = 0 := he
        rw [if_pos he']
        refine evPos (by simp; omega) ?_
        have := ih (i + 1) ((pushV b l[i]).1 :: st) (by omega) (by simp; omega) (by simpa using hd2)
        rw [List.reverse_cons] at this
        exact this
      · have he' : ¬ (pushV b l[i]).2 = 0 := he
        rw [if_neg he']
        exact evSome rfl
    · obtain ⟨_, h2, hd2⟩ := deep_reck hd hp
      match st, h1, h2, hd2 with
      | [], _, h2, _ => simp at h2
      | [_], _, h2, _ => simp at h2
      | y :: x :: st, h1, h2, hd2 =>
        have e : (y :: x :: st).reverse = st.reverse ++ x :: y :: [] := by simp
        have e' : (y :: x :: st).reverse = (st.reverse ++ [x]) ++ y :: [] := by simp
        have w1 : wrap64 (((y :: x :: st).reverse.length : Int) - 2) = (st.reverse.length : Int) := by simp at h1 ⊢; unfold wrap64; omega
        have w2 : wrap64 ((st.reverse.length : Int) + 1) = ((st.reverse ++ [x]).length : Int) := by simp at h1 ⊢; unfold wrap64; omega
        rw [w1, w2]
        refine evPos (by omega) (evPos (by simp; omega) (evPos (by omega) (evPos (by simp) ?_)))
        rw [show rd_T40 (y :: x :: st).reverse (st.reverse.length : Int) = x from by rw [e]; exact rdV_mid _ _ _ _ rfl]
        rw [show rd_T40 (y :: x :: st).reverse ((st.reverse ++ [x]).length : Int) = y from by rw [e']; exact rdV_mid _ _ _ _ rfl]
        refine Ev.bind (expr_reckon_ev _ _ _) (evPos (by simp; omega) ?_)
        have ht : (y :: x :: st).reverse.take ((st.reverse.length : Int)).toNat = st.reverse := by rw [e, Int.toNat_natCast, List.take_left]
        rw [ht]
        refine evBind0 rfl ?_
        simp only [evalS, hp, Bool.false_eq_true, if_false]
        refine evIf (fun he => ?_) (fun he => ?_)
        · have he' : (reckV l[i].f0 x y).2 = 0 := he
          rw [if_pos he']
          simp only [List.length_cons] at h1 hd2
          refine evPos (by simp; omega) ?_
          have := ih (i + 1) ((reckV l[i].f0 x y).1 :: st) (by omega) (by simp; omega) (by
            rw [← hd2]; congr 1; simp only [List.length_cons]; omega)
          rw [List.reverse_cons] at this
          exact this
        · have he' : ¬ (reckV l[i].f0 x y).2 = 0 := he
          rw [if_neg he']
          exact evSome rfl
theorem expr_Eval_ev (l : List S52) (b : List S62) (ho : OpsOk l) (hl : l.length ≤ maxLen) (hbo : BindsOk b) (hb : b.length ≤ maxLen) :
    Ev (fun k => expr_Eval.f k l b) (tupV (evalE l b).1 (evalE l b).2) := by
  unfold expr_Eval.f evalE
  refine Ev.bind (expr_Check_ev l ho hl) ?_
  have hj : Ev (fun k => expr_Eval.j0 k l b 1) (tupV zV 1) := by
    refine evShift ?_
    simp only [expr_Eval.j0]
    exact evNeg (by decide) (evSome rfl)
  cases he : exprS l with
  | false => exact evNeg (by decide) hj
  | true =>
    refine evPos rfl (Ev.bind (subst_Check_ev b hbo) ?_)
    cases hb2 : bindsS b with
    | false => exact hj
    | true =>
      refine evShift ?_
      simp only [expr_Eval.j0, if_true, Bool.and_self]
      simp only [exprS, Bool.and_eq_true, decide_eq_true_eq] at he
      have := expr_Eval_l0 l b (by omega) hb l.length 0 [] (by omega) (by simp) (by simpa using he.2)
      simpa using this
def idxS (s : ByteArray) : Nat → List ByteArray → Int
  | _, [] => -1
  | i, x :: l => if x = s then (i : Int) else idxS s (i + 1) l
theorem idx_any (s : ByteArray) : ∀ (l : List ByteArray) (i : Nat), decide (idxS s i l ≥ 0) = l.any fun x => decide (x = s)
  | [], i => by simp [idxS]
  | x :: l, i => by
    by_cases e : x = s
    · simp [idxS, e]
    · simp only [idxS, if_neg e, List.any_cons, decide_eq_false e, Bool.false_or]
      exact idx_any s l (i + 1)
theorem rdS_nth (l : List ByteArray) (i : Nat) (h : i < l.length) : rdOf ByteArray.empty l i = l[i] := rdOf_nth _ l i h
theorem slices_Contains_ev (l : List ByteArray) (s : ByteArray) (hl : l.length ≤ maxLen) : Ev (fun k => slices_Contains_string_string.f k l s) (l.any fun x => decide (x = s)) := by
  unfold maxLen at hl
  have h : ∀ i : Nat, i ≤ l.length → Ev (fun k => slices_Index_string_string.l0 k l s l.length i) (idxS s i (l.drop i)) := by
    refine back_ind l.length (fun k i => slices_Index_string_string.l0 k l s l.length i) _ ?_ ?_
    · refine evShift ?_
      simp only [slices_Index_string_string.l0]
      refine evNeg (by omega) (evSome ?_)
      rw [List.drop_length]; rfl
    · intro i hi ih
      refine evShift ?_
      simp only [slices_Index_string_string.l0]
      refine evPos (by omega) (evPos (by omega) (evPos (by omega) ?_))
      rw [rdS_nth l i hi, drop_at l i hi, wrap_succ hi (by omega)]
      simp only [idxS]
      refine evIf (fun e => ?_) (fun e => ?_)
      · rw [if_pos (tl_inj.1 e).symm]; exact evSome rfl
      · rw [if_neg (fun h => e (tl_inj.2 h.symm))]; exact ih
  have h0 := h 0 (by omega)
  unfold slices_Contains_string_string.f slices_Index_string_string.f
  refine Ev.bind h0 (evSome ?_)
  rw [idx_any, List.drop_zero]
theorem expr_Vars_l0 (l : List S52) (hl : l.length ≤ 1000000) : ∀ (d i : Nat) (out : List ByteArray), i + d = l.length → out.length ≤ i →
    Ev (fun k => expr_Vars.l0 k out l l.length i) (varsS out (l.drop i)) := by
  intro d
  induction d with
  | zero =>
    intro i out hi h1
    refine evShift ?_
    simp only [expr_Vars.l0]
    refine evNeg (by omega) (evSome ?_)
    rw [List.drop_of_length_le (by omega)]; rfl
  | succ d ih =>
    intro i out hi h1
    have hlt : i < l.length := by omega
    refine evShift ?_
    simp only [expr_Vars.l0]
    refine evPos (by omega) (evPos (by omega) (evPos (by omega) ?_))
    simp only [rdO_nth l i hlt]
    rw [drop_at l i hlt, wrap_succ hlt (by omega)]
    simp only [varsS]
    refine evIf (fun e => ?_) (fun e => ?_)
    · rw [decide_eq_true (tl_nil.1 e), Bool.true_or, if_pos rfl]
      exact ih (i + 1) out (by omega) (by omega)
    · rw [decide_eq_false (fun h => e (tl_nil.2 h)), Bool.false_or]
      refine Ev.bind (slices_Contains_ev out _ (by unfold maxLen; omega)) ?_
      refine evCond (fun h => ?_) (fun h => ?_)
      · rw [if_pos h]; exact ih (i + 1) out (by omega) (by omega)
      · rw [if_neg (by rw [h]; decide)]
        exact evPos (by omega) (ih (i + 1) (out ++ [l[i].f1]) (by omega) (by simp; omega))
theorem expr_Vars_ev (l : List S52) (hl : l.length ≤ 1000000) : Ev (fun k => expr_Vars.f k l) (varsS [] l) := by
  have := expr_Vars_l0 l hl l.length 0 [] (by omega) (by simp)
  simpa [expr_Vars.f] using this
theorem deep_append : ∀ (P R : List S52) (n : Int), deepS n (P ++ R) = (deepS n P).bind fun m => deepS m R
  | [], R, n => rfl
  | o :: P, R, n => by
    simp only [List.cons_append, deepS]
    split
    · exact deep_append P R _
    · rfl
theorem snoc_of {α : Type} (l : List α) (h : l ≠ []) : ∃ p x, l = p ++ [x] := ⟨l.dropLast, l.getLast h, (List.dropLast_concat_getLast h).symm⟩
theorem part_ok : ∀ (n : Nat) (P : List S52) (d need : Int), P.length = n → deepS 0 P = some d → 1 ≤ need → need ≤ d →
    ∃ Q R, P = Q ++ R ∧ R ≠ [] ∧ partS need P.reverse = Q.length ∧ deepS 0 Q = some (d - need) ∧ deepS 0 R = some need := by
  intro n
  induction n with
  | zero =>
    intro P d need hP hd h1 h2
    obtain rfl := List.eq_nil_of_length_eq_zero hP
    simp only [deepS, Option.some.injEq] at hd
    omega
  | succ n ih =>
    intro P d need hP hd h1 h2
    obtain ⟨P0, o, rfl⟩ := snoc_of P (by intro h; rw [h] at hP; simp at hP)
    have hP0 : P0.length = n := by simpa using hP
    rw [deep_append, Option.bind_eq_some_iff] at hd
    obtain ⟨m, hm, hd⟩ := hd
    rw [List.reverse_append]
    simp only [List.reverse_cons, List.reverse_nil, List.nil_append, List.cons_append, partS]
    cases hp : pushS o with
    | true =>
      obtain ⟨ho, hd⟩ := deep_push hd hp
      simp only [deepS, Option.some.injEq] at hd
      have one : deepS 0 [o] = some 1 := by simp [deepS, ho, hp]
      by_cases h0 : need - 1 = 0
      · refine ⟨P0, [o], rfl, by simp, ?_, ?_, ?_⟩
        · simp [h0]
        · rw [hm]; congr 1; omega
        · rw [one]; congr 1; omega
      · obtain ⟨Q, R, rfl, hR, hq, hQ, hRd⟩ := ih P0 m (need - 1) hP0 hm (by omega) (by omega)
        refine ⟨Q, R ++ [o], by simp, by simp, ?_, ?_, ?_⟩
        · simp only [if_true, h0, if_false]; exact hq
        · rw [hQ]; congr 1; omega
        · rw [deep_append, hRd]; simp [deepS, ho, hp]
    | false =>
      obtain ⟨ho, h3, hd⟩ := deep_reck hd hp
      simp only [deepS, Option.some.injEq] at hd
      obtain ⟨Q, R, rfl, hR, hq, hQ, hRd⟩ := ih P0 m (need + 1) hP0 hm (by omega) (by omega)
      refine ⟨Q, R ++ [o], by simp, by simp, ?_, ?_, ?_⟩
      · have h0 : ¬ need + 1 = 0 := by omega
        simp only [Bool.false_eq_true, if_false, h0]; exact hq
      · rw [hQ]; congr 1; omega
      · rw [deep_append, hRd]
        simp only [Option.bind_some, deepS, ho, hp, Bool.false_or, Bool.true_and, Bool.false_eq_true, if_false]
        rw [if_pos (by simp; omega)]; congr 1; omega
theorem deep_prefix : ∀ (P R : List S52) (n m : Int), deepS n (P ++ R) = some m → ∃ d, deepS n P = some d ∧ deepS d R = some m := by
  intro P R n m h
  rw [deep_append, Option.bind_eq_some_iff] at h
  exact h
theorem deep_pos : ∀ (P : List S52) (n d : Int), 0 ≤ n → deepS n P = some d → (P ≠ [] ∨ 1 ≤ n) → 1 ≤ d
  | [], n, d, _, h, hp => by
    simp only [deepS, Option.some.injEq] at h
    rcases hp with hp | hp
    · exact absurd rfl hp
    · omega
  | o :: P, n, d, h0, h, _ => by
    cases hp : pushS o with
    | true =>
      obtain ⟨_, h⟩ := deep_push h hp
      exact deep_pos P (n + 1) d (by omega) h (.inr (by omega))
    | false =>
      obtain ⟨_, h2, h⟩ := deep_reck h hp
      exact deep_pos P (n - 1) d (by omega) h (.inr (by omega))
theorem take_snoc (l : List S52) (i : Nat) (h : i < l.length) : (l.take (i + 1)).reverse = l[i] :: (l.take i).reverse := by
  rw [List.take_succ_eq_append_getElem h, List.reverse_append]; rfl
theorem expr_Part_l0 (l : List S52) (hl : l.length ≤ 1000000) : ∀ (i : Nat) (need : Int), i < l.length → 1 ≤ need → need + i ≤ 2000000 → 0 ≤ partS need (l.take (i + 1)).reverse →
    Ev (fun k => expr_Part.l0 k l need i) (partS need (l.take (i + 1)).reverse) := by
  intro i
  induction i with
  | zero =>
    intro need hi h1 h2 h3
    rw [take_snoc l 0 hi] at h3 ⊢
    simp only [partS, List.take_zero, List.reverse_nil] at h3 ⊢
    refine evShift ?_
    simp only [expr_Part.l0]
    refine evPos (by omega) (evPos (by omega) ?_)
    have e0 : rd_T52 l ((0 : Nat) : Int) = l[0] := rdO_nth l 0 hi
    rw [e0, expr_pushes_eq]
    simp only [Option.bind_some]
    have w1 : wrap64 (need - 1) = need - 1 := by unfold wrap64; omega
    have w2 : wrap64 (need + 1) = need + 1 := by unfold wrap64; omega
    rw [w1, w2]
    refine evCond (fun hp => ?_) (fun hp => ?_)
    · rw [hp] at h3 ⊢
      simp only [if_true] at h3 ⊢
      by_cases h0 : need - 1 = 0
      · rw [if_pos h0]; exact evPos h0 (evSome rfl)
      · rw [if_neg h0] at h3; omega
    · rw [hp] at h3 ⊢
      simp only [Bool.false_eq_true, if_false] at h3 ⊢
      by_cases h0 : need + 1 = 0
      · omega
      · rw [if_neg h0] at h3; omega
  | succ i ih =>
    intro need hi h1 h2 h3
    rw [take_snoc l (i + 1) hi] at h3 ⊢
    simp only [partS] at h3 ⊢
    refine evShift ?_
    simp only [expr_Part.l0]
    refine evPos (by omega) (evPos (by omega) ?_)
    rw [rdO_nth l (i + 1) hi, expr_pushes_eq]
    simp only [Option.bind_some]
    have w1 : wrap64 (need - 1) = need - 1 := by unfold wrap64; omega
    have w2 : wrap64 (need + 1) = need + 1 := by unfold wrap64; omega
    have w3 : wrap64 (((i + 1 : Nat) : Int) - 1) = (i : Int) := by unfold wrap64; omega
    rw [w1, w2, w3]
    refine evCond (fun hp => ?_) (fun hp => ?_)
    · rw [hp] at h3 ⊢
      simp only [if_true] at h3 ⊢
      refine evIf (fun h0 => ?_) (fun h0 => ?_)
      · rw [if_pos h0]; exact evSome (by simp; omega)
      · rw [if_neg h0] at h3 ⊢
        exact ih (need - 1) (by omega) (by omega) (by omega) h3
    · rw [hp] at h3 ⊢
      simp only [Bool.false_eq_true, if_false] at h3 ⊢
      refine evIf (fun h0 => ?_) (fun h0 => ?_)
      · omega
      · rw [if_neg h0] at h3 ⊢
        exact ih (need + 1) (by omega) (by omega) (by omega) h3
theorem part_in (l : List S52) (h : exprS l = true) (i : Nat) (hi : i < l.length) : ∃ Q R, l.take (i + 1) = Q ++ R ∧ R ≠ [] ∧ partS 1 (l.take (i + 1)).reverse = Q.length ∧ deepS 0 R = some 1 ∧ ∃ d, deepS 0 Q = some d ∧ deepS 0 (l.take (i + 1)) = some (d + 1) := by
  simp only [exprS, Bool.and_eq_true, decide_eq_true_eq] at h
  have hs : deepS 0 (l.take (i + 1) ++ l.drop (i + 1)) = some 1 := by rw [List.take_append_drop]; exact h.2
  obtain ⟨d, h1, _⟩ := deep_prefix _ _ _ _ hs
  have hd := deep_pos _ _ _ (by omega) h1 (.inl (by
    intro e
    have h9 : (l.take (i + 1)).length = 0 := by rw [e]; rfl
    rw [List.length_take] at h9
    omega))
  obtain ⟨Q, R, e, hR, hq, hQ, hRd⟩ := part_ok _ _ d 1 rfl h1 (by omega) hd
  exact ⟨Q, R, e, hR, hq, hRd, d - 1, hQ, by rw [h1]; congr 1; omega⟩
theorem expr_Part_ev (l : List S52) (e : Int) (ho : OpsOk l) (hl : l.length ≤ maxLen) : Ev (fun k => expr_Part.f k l e) (partE l e) := by
  unfold expr_Part.f partE
  refine Ev.bind (expr_Check_ev l ho hl) ?_
  have hj : Ev (fun k => expr_Part.j0 k l e true) (-1) := by
    refine evShift ?_
    simp only [expr_Part.j0, if_true]
    exact evSome rfl
  cases he : exprS l with
  | false =>
    refine evNeg (by decide) ?_
    rw [if_neg (fun h => by cases h.1)]; exact hj
  | true =>
    refine evPos rfl ?_
    by_cases h1 : e < 0
    · rw [if_neg (fun h => by omega)]; exact evPos h1 hj
    · refine evNeg h1 ?_
      by_cases h2 : e ≥ l.length
      · rw [if_neg (fun h => by omega), decide_eq_true h2]; exact hj
      · rw [if_pos ⟨rfl, by omega, by omega⟩, decide_eq_false h2]
        refine evShift ?_
        simp only [expr_Part.j0, Bool.false_eq_true, if_false]
        obtain ⟨i, rfl⟩ := Int.eq_ofNat_of_zero_le (show 0 ≤ e by omega)
        have hi : i < l.length := by omega
        have hlen : l.length ≤ 15 := by
          have he2 := he
          simp only [exprS, Bool.and_eq_true, decide_eq_true_eq] at he2
          exact he2.1.2
        rw [Int.toNat_natCast]
        refine expr_Part_l0 l (by omega) i 1 hi (by omega) (by omega) ?_
        obtain ⟨Q, R, _, _, hq, _⟩ := part_in l he i hi
        rw [hq]; omega
end Go.Proofs.Ytconpnagoijacaa.P
end
section
namespace Go.Proofs.Ytconpnagoijacaa.P
open Go.RowKit Go.Proofs.YtconpnagoijacaaW.PrintWords Go.Proofs.YtconpnagoijacaaW.PrintLast Go.Proofs.YtconpnagoijacaaW.PrintMore
theorem ref_In_eq (a b c : Int) : constableref01_In.f a b c = some (decide (b ≤ a ∧ a ≤ c)) := by
  unfold constableref01_In.f
  split
  · congr 1; rw [decide_eq_decide]; omega
  · congr 1; symm; rw [decide_eq_false_iff_not]; omega
theorem abs_mul_abs (a b : Int) : (if a < -a then -a else a) * (if b < -b then -b else b) = if a * b < 0 then -(a * b) else a * b := by
  by_cases ha : a < -a <;> by_cases hb : b < -b <;> simp only [ha, hb, if_true, if_false]
  · have : 0 < a * b := Int.mul_pos_of_neg_of_neg (by omega) (by omega)
    rw [if_neg (by omega)]; exact Int.neg_mul_neg a b
  · have : a * b ≤ 0 := Int.mul_nonpos_of_nonpos_of_nonneg (by omega) (by omega)
    rw [Int.neg_mul]; split <;> omega
  · have : a * b ≤ 0 := Int.mul_nonpos_of_nonneg_of_nonpos (by omega) (by omega)
    rw [Int.mul_neg]; split <;> omega
  · have : 0 ≤ a * b := Int.mul_nonneg (by omega) (by omega)
    rw [if_neg (by omega)]
theorem ref_over {a b : Int} (ha : InB a) (hb : InB b) (hb0 : b ≠ 0) :
    (mx a (wrap64 (-a)) > wrap64 (Int.tdiv 4611686018427387904 (mx b (wrap64 (-b))))) ↔ ¬ InB (a * b) := by
  rw [InB_iff] at ha hb
  have e1 : wrap64 (-a) = -a := by unfold wrap64; omega
  have e2 : wrap64 (-b) = -b := by unfold wrap64; omega
  rw [e1, e2]
  have m1 : mx a (-a) = if a < -a then -a else a := rfl
  have m2 : mx b (-b) = if b < -b then -b else b := rfl
  have hm := abs_mul_abs a b
  rw [← m1, ← m2] at hm
  have p1 : 0 ≤ mx a (-a) := by rw [m1]; split <;> omega
  have p2 : 0 < mx b (-b) := by rw [m2]; split <;> omega
  generalize mx a (-a) = x at *
  generalize mx b (-b) = y at *
  rw [Int.tdiv_eq_ediv_of_nonneg (by decide)]
  have h1 : 4611686018427387904 / y ≤ 4611686018427387904 := Int.ediv_le_self _ (by decide)
  have h2 : 0 ≤ 4611686018427387904 / y := Int.ediv_nonneg (by decide) (by omega)
  have e3 : wrap64 (4611686018427387904 / y) = 4611686018427387904 / y := by unfold wrap64; omega
  rw [e3, InB_iff]
  have h3 : 4611686018427387904 / y < x ↔ 4611686018427387904 < x * y := Int.ediv_lt_iff_lt_mul p2
  rw [gt_iff_lt, h3, hm]
  split <;> omega
theorem ref_Do_eq (kind a b : Int) (k : Nat) : constableref01_Do.f (k + 5) kind a b = some (doS kind a b) := by
  unfold constableref01_Do.f doS
  simp only [constableref01_Do.j0, constableref01_Do.j1, constableref01_Do.j2, constableref01_Do.j3, constableref01_Do.j4, ref_In_eq, Option.bind_some]
  have i1 : decide (-4611686018427387904 ≤ a ∧ a ≤ 4611686018427387904) = decide (InB a) := rfl
  have i2 : decide (-4611686018427387904 ≤ b ∧ b ≤ 4611686018427387904) = decide (InB b) := rfl
  rw [i1, i2]
  by_cases ha : InB a
  · by_cases hb : InB b
    · simp only [ha, hb, decide_true, if_true, Bool.not_true, Bool.false_eq_true, if_false, and_self]
      have add : ∀ c : Int, InB c → (if c > 0 then (if a > (wrap64 (4611686018427387904 - c)) then (if true = true then some (0, 4) else some (wrap64 (a + c), 0)) else (if c < 0 then (if decide (a < (wrap64 ((-4611686018427387904) - c))) = true then some (0, 4) else some (wrap64 (a + c), 0)) else (some (wrap64 (a + c), 0)))) else (if c < 0 then (if decide (a < (wrap64 ((-4611686018427387904) - c))) = true then some (0, 4) else some (wrap64 (a + c), 0)) else (some (wrap64 (a + c), 0)))) = some (if InB (a + c) then (a + c, (0 : Int)) else (0, 4)) := by
        intro c hc
        have ha' := (InB_iff a).1 ha
        rw [InB_iff] at hc
        unfold wrap64
        by_cases p : c > 0
        · rw [if_pos p]
          split
          · rw [if_pos rfl, if_neg (by rw [InB_iff]; omega)]
          · rw [if_neg (by omega), if_pos (by rw [InB_iff]; omega)]; congr 2; omega
        · rw [if_neg p]
          split
          · simp only [decide_eq_true_eq]
            split
            · rw [if_neg (by rw [InB_iff]; omega)]
            · rw [if_pos (by rw [InB_iff]; omega)]; congr 2; omega
          · rw [if_pos (by rw [InB_iff]; omega)]; congr 2; omega
      have hn : wrap64 (-b) = -b := by rw [InB_iff] at hb; unfold wrap64; omega
      have a1 := add b hb
      have a2 := add (-b) (by rw [InB_iff] at *; omega)
      rw [hn]
      simp only [if_true] at a1 a2
      by_cases h3 : kind = 3
      · subst h3
        simp only [if_true, true_or]
        simp only [show ((3 : Int) = 4) = False by simp, if_false, beq_self_eq_true, if_true]
        exact a1
      · by_cases h4 : kind = 4
        · subst h4
          simp only [show ((4 : Int) = 3) = False by simp, if_false, true_or, or_true, if_true, beq_self_eq_true, Int.sub_eq_add_neg]
          exact a2
        · by_cases h5 : kind = 5
          · subst h5
            simp only [show ((5 : Int) = 3) = False by simp, show ((5 : Int) = 4) = False by simp, if_false, or_true, if_true]
            simp only [show ((5 : Int) == 3) = false by rfl, show ((5 : Int) != 5) = false by rfl, Bool.false_eq_true, if_false]
            by_cases a0 : a = 0
            · subst a0; simp [wrap64, InB_iff]
            · by_cases b0 : b = 0
              · subst b0; simp [wrap64, InB_iff]
              · have ro := ref_over ha hb b0
                rw [hn] at ro
                rw [if_neg a0, if_neg b0, if_neg]
                · by_cases ho : InB (a * b)
                  · rw [if_neg (by rw [ro]; exact not_not_intro ho), if_pos ho]
                    rw [InB_iff] at ho
                    congr 2
                    unfold wrap64; omega
                  · rw [if_pos (by rw [ro]; exact ho), if_neg ho]
                · have : mx b (-b) = if b < -b then -b else b := rfl
                  rw [this]; split <;> omega
          · simp [h3, h4, h5]
    · simp only [ha, hb, decide_true, decide_false, if_true, Bool.not_false, and_false, if_false]
      by_cases h3 : kind = 3
      · simp [h3]
      · by_cases h4 : kind = 4
        · simp [h4]
        · by_cases h5 : kind = 5 <;> simp [h3, h4, h5]
  · simp only [ha, decide_false, Bool.false_eq_true, if_false, if_true, false_and]
    by_cases h3 : kind = 3
    · simp [h3]
    · by_cases h4 : kind = 4
      · simp [h4]
      · by_cases h5 : kind = 5 <;> simp [h3, h4, h5]
theorem ref_Do_ev (kind a b : Int) : Ev (fun k => constableref01_Do.f k kind a b) (doS kind a b) := Ev.of (constableref01_Do.mono _ _ _) (ref_Do_eq kind a b 0)
end Go.Proofs.Ytconpnagoijacaa.P
end
