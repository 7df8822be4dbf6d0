/- Part 2 of the proof of ExprPut: words, contracts of functions of the program (what a call answers), and what the answers say. -/
import Derived.Test.YtconpnagoijacaaVWords
import Derived.Test.YtconpnagoijacaaVLast
import Derived.Test.YtconpnagoijacaaVApart
import Derived.Test.YtconpnagoijacaaVArr
import Derived.Test.YtconpnagoijacaaVFoot
import Derived.Test.YtconpnagoijacaaVKept
import Derived.Test.YtconpnagoijacaaVShare
import Derived.Test.YtconpnagoijacaaVZeros
import Derived.Test.YtconpnagoijacaaVN
import Derived.Test.YtconpnagoijacaaVFootNe
import Derived.Test.YtconpnagoijacaaVAt
import Derived.Test.YtconpnagoijacaaVEqStruct
import Derived.Test.YtconpnagoijacaaVTab
import Derived.Test.YtconpnagoijacaaVFour
import Derived.Test.YtconpnagoijacaaVGuard
import Derived.Test.YtconpnagoijacaaVInv
import Derived.Test.YtconpnagoijacaaVInvWords
import Derived.Test.YtconpnagoijacaaVQPut
import Derived.Test.YtconpnagoijacaaVNEv
import Derived.Test.YtconpnagoijacaaVMore
import Derived.Test.YtconpnagoijacaaVRepsOne
import Derived.Test.YtconpnagoijacaaVSized
import Derived.Test.YtconpnagoijacaaCExprPut0
section
namespace Go.Proofs.Ytconpnagoijacaa.P
open Go.RowKit Go.Proofs.YtconpnagoijacaaW.PrintWords Go.Proofs.YtconpnagoijacaaW.PrintLast Go.Proofs.YtconpnagoijacaaW.PrintMore
attribute [local go_sem] max2_int min2_int max_two min_two max_three min_three max_four min_four
set_option linter.unusedVariables false
set_option linter.unusedSimpArgs false
mutual
def num_Do.j0 : Nat → Int → Int → Int → Bool → Option (Int × Int)
  | 0, _, _, _, _ => none
  | k + 1, x0, x1, x2, x19 => if x19 = true then (some (0, 3)) else ((num_in.f x1).bind fun t105 => (if t105 = true then ((num_in.f x2).bind fun t106 => (num_Do.j1 k x0 x1 x2 (!t106))) else (num_Do.j1 k x0 x1 x2 true)))
def num_Do.j1 : Nat → Int → Int → Int → Bool → Option (Int × Int)
  | 0, _, _, _, _ => none
  | k + 1, x0, x1, x2, x27 => if x27 = true then (some (0, 4)) else (if x0 = 3 then ((num_add.f x1 x2).bind fun bt107 => (if bt107.2 = true then (some (bt107.1, 0)) else (some (0, 4)))) else (if x0 = 4 then ((num_add.f x1 (wrap64 (-x2))).bind fun bt109 => (if bt109.2 = true then (some (bt109.1, 0)) else (some (0, 4)))) else ((num_mul.f k x1 x2).bind fun bt111 => (if bt111.2 = true then (some (bt111.1, 0)) else (some (0, 4))))))
end
def num_Do.f (k : Nat) (a0 : Int) (a1 : Int) (a2 : Int) : Option (Int × Int) := if a0 = 3 then (num_Do.j0 k a0 a1 a2 false) else (if a0 = 4 then (num_Do.j0 k a0 a1 a2 false) else (num_Do.j0 k a0 a1 a2 (a0 != 5)))
theorem num_Do.mono_l : ∀ k, (∀ y0 y1 y2 y3, LeO (num_Do.j0 k y0 y1 y2 y3) (num_Do.j0 (k + 1) y0 y1 y2 y3)) ∧ (∀ y0 y1 y2 y3, LeO (num_Do.j1 k y0 y1 y2 y3) (num_Do.j1 (k + 1) y0 y1 y2 y3))
  | 0 => ⟨fun _ _ _ _ r h => by simp [num_Do.j0] at h, fun _ _ _ _ r h => by simp [num_Do.j1] at h⟩
  | k + 1 => by
    obtain ⟨ih0, ih1⟩ := num_Do.mono_l k
    refine ⟨?_, ?_⟩
    · intro y0 y1 y2 y3
      unfold num_Do.j0
      repeat' first
      | (with_reducible exact ih0 _ _ _ _)
      | (with_reducible exact ih1 _ _ _ _)
      | (with_reducible exact num_mul.mono _ _ _)
      | (with_reducible exact LeO.refl _)
      | (with_reducible exact LeO.none _)
      | (with_reducible refine LeO.ite ?_ ?_)
      | (with_reducible refine LeO.bind ?_ (fun _ => ?_))
      | exact ih0 _ _ _ _
      | exact ih1 _ _ _ _
      | exact num_mul.mono _ _ _
      | exact LeO.none _
      | refine LeO.ite ?_ ?_
      | refine LeO.bind ?_ (fun _ => ?_)
    · intro y0 y1 y2 y3
      unfold num_Do.j1
      repeat' first
      | (with_reducible exact ih0 _ _ _ _)
      | (with_reducible exact ih1 _ _ _ _)
      | (with_reducible exact num_mul.mono _ _ _)
      | (with_reducible exact LeO.refl _)
      | (with_reducible exact LeO.none _)
      | (with_reducible refine LeO.ite ?_ ?_)
      | (with_reducible refine LeO.bind ?_ (fun _ => ?_))
      | exact ih0 _ _ _ _
      | exact ih1 _ _ _ _
      | exact num_mul.mono _ _ _
      | exact LeO.none _
      | refine LeO.ite ?_ ?_
      | refine LeO.bind ?_ (fun _ => ?_)
theorem num_Do.mono : ∀ a0 a1 a2 k, LeO (num_Do.f k a0 a1 a2) (num_Do.f (k + 1) a0 a1 a2) := by
  intro a0 a1 a2 k
  obtain ⟨ih0, ih1⟩ := num_Do.mono_l k
  unfold num_Do.f
  repeat' first
      | (with_reducible exact ih0 _ _ _ _)
      | (with_reducible exact ih1 _ _ _ _)
      | (with_reducible exact num_mul.mono _ _ _)
      | (with_reducible exact LeO.refl _)
      | (with_reducible exact LeO.none _)
      | (with_reducible refine LeO.ite ?_ ?_)
      | (with_reducible refine LeO.bind ?_ (fun _ => ?_))
      | exact ih0 _ _ _ _
      | exact ih1 _ _ _ _
      | exact num_mul.mono _ _ _
      | exact LeO.none _
      | refine LeO.ite ?_ ?_
      | refine LeO.bind ?_ (fun _ => ?_)
set_option maxHeartbeats 8000000 in
set_option maxRecDepth 100000 in
theorem num_Do.calls (k : Nat) (a0 : Int) (a1 : Int) (a2 : Int) (r1 : Int) (r2 : Int) (w : World) (h : num_Do.f k a0 a1 a2 = some (r1, r2)) :
    Calls Try.prog 13 #[.int .i64 a0, .int .i64 a1, .int .i64 a2] w fun e w' => e = .returned (.tuple #[.int .i64 r1, .int .i64 r2]) ∧ Drawn0 w w' := by
  have H : (if a0 = 3 then (num_Do.j0 k a0 a1 a2 false) else (if a0 = 4 then (num_Do.j0 k a0 a1 a2 false) else (num_Do.j0 k a0 a1 a2 (a0 != 5)))) = some (r1, r2) := h
  clear h
  have HC4 := Aside0.mk H
  clear H
  go_enter Try.func13, Try.ntmps13
  go_upto_region 1 with (fail)
  go_cut [19] (fun v19 wc => ∃ (kq : Nat) (x19_3 : Bool), v19 = .bool x19_3 ∧ Aside0 (num_Do.j0 kq a0 a1 a2 x19_3 = some (r1, r2)) ∧ Aside0 (kq ≤ k) ∧ Drawn0 w wc)
  case first =>
    have H := HC4.out
    clear HC4
    by_cases c5 : a0 = 3
    · rw [if_pos c5] at H
      obtain ⟨c5b0, c5b1⟩ := eqB_ c5
      clear c5
      (first | rw [c5b0] | (simp only [i64_w, i32_w]; rw [c5b0]) | skip)
      have H' := Aside0.mk H
      clear H
      go_wp2
      go_meet
      case rel => exact ⟨_, (false), ra_, H', ⟨by first | omega | exact Nat.le_refl _⟩, dz_⟩
    · rw [if_neg c5] at H
      obtain ⟨c5b0, c5b1⟩ := neB_ c5
      (first | rw [c5b0] | (simp only [i64_w, i32_w]; rw [c5b0]) | skip)
      by_cases c6 : a0 = 4
      · rw [if_pos c6] at H
        obtain ⟨c6b0, c6b1⟩ := eqB_ c6
        clear c6
        have H' := Aside0.mk H
        clear H
        go_wp2
        go_meet
        case rel => exact ⟨_, (false), ra_, H', ⟨by first | omega | exact Nat.le_refl _⟩, dz_⟩
      · rw [if_neg c6] at H
        obtain ⟨c6b0, c6b1⟩ := neB_ c6
        have H' := Aside0.mk H
        clear H
        go_wp2
        go_meet
        case rel => exact ⟨_, ((a0 != 5)), ra_, H', ⟨by first | omega | exact Nat.le_refl _⟩, dz_⟩
  case rest =>
    clear HC4
    try clear c1
    try clear p2
    try clear c5
    try clear c5b0
    try clear c5b1
    try clear c6
    try clear c6b0
    try clear c6b1
    obtain ⟨kq, x19_3, rfl, HA, HJ3, ⟨mc3, rfl⟩⟩ := hcut
    cases kq with
    | zero => exact absurd HA.out (by simp [num_Do.j0])
    | succ kj3 =>
      have H := HA.out
      clear HA
      simp only [num_Do.j0] at H
      by_cases c7 : x19_3 = true
      · subst c7
        have H1 : (some (0, 3)) = some (r1, r2) := by rw [if_pos rfl] at H; exact H
        clear H
        have H := H1
        clear H1
        simp only [Option.some.injEq, Prod.mk.injEq] at H
        obtain ⟨rfl, rfl⟩ := H
        go_wp2
        go_ret2
        exact rz_
      · replace c7 := Bool.eq_false_iff.mpr c7
        subst c7
        have H1 : ((num_in.f a1).bind fun t105 => (if t105 = true then ((num_in.f a2).bind fun t106 => (num_Do.j1 kj3 a0 a1 a2 (!t106))) else (num_Do.j1 kj3 a0 a1 a2 true))) = some (r1, r2) := by rw [if_neg (show ¬ (false = true) by decide)] at H; exact H
        clear H
        have H := H1
        clear H1
        have HC8 := Aside0.mk H
        clear H
        go_upto_region 3 with (fail)
        go_cut [27] (fun v27 wc => ∃ (kq : Nat) (x27_7 : Bool), v27 = .bool x27_7 ∧ Aside0 (num_Do.j1 kq a0 a1 a2 x27_7 = some (r1, r2)) ∧ Aside0 (kq ≤ kj3) ∧ Drawn0 w wc)
        case first =>
          have H := HC8.out
          clear HC8
          replace H := Option.bind_eq_some_iff.mp H
          obtain ⟨t105, A90, H⟩ := H
          replace H : (if t105 = true then ((num_in.f a2).bind fun t106 => (num_Do.j1 kj3 a0 a1 a2 (!t106))) else (num_Do.j1 kj3 a0 a1 a2 true)) = some (r1, r2) := H
          have A9 := Aside0.mk A90
          clear A90
          by_cases c10 : t105 = true
          · subst c10
            have H1 : ((num_in.f a2).bind fun t106 => (num_Do.j1 kj3 a0 a1 a2 (!t106))) = some (r1, r2) := by rw [if_pos rfl] at H; exact H
            clear H
            have H := H1
            clear H1
            replace H := Option.bind_eq_some_iff.mp H
            obtain ⟨t106, A110, H⟩ := H
            replace H : (num_Do.j1 kj3 a0 a1 a2 (!t106)) = some (r1, r2) := H
            have A11 := Aside0.mk A110
            clear A110
            have H' := Aside0.mk H
            clear H
            go_wp2_with (first | ((with_reducible refine gate_callee (f := 35) rfl ?_); refine goesL_ (some 21) rfl rfl Try.func35 (by kernel_rfl) rfl #[.int .i64 a1] rfl ga_ ?_; (with_reducible refine (num_in.calls a1 true _ A9.out).mono ?_); rintro e w' ⟨rfl, ⟨nd, rfl⟩⟩; refine ⟨_, rfl, ?_⟩) | (go_at_call 35; (with_reducible refine (num_in.calls a2 t106 _ A11.out).mono ?_); rintro e w' ⟨rfl, ⟨nd, rfl⟩⟩))
            go_meet
            case rel => exact ⟨_, (!t106), ra_, H', ⟨by have := HJ3.out; first | omega | exact Nat.le_refl _⟩, dz_⟩
          · replace c10 := Bool.eq_false_iff.mpr c10
            subst c10
            have H1 : (num_Do.j1 kj3 a0 a1 a2 true) = some (r1, r2) := by rw [if_neg (show ¬ (false = true) by decide)] at H; exact H
            clear H
            have H := H1
            clear H1
            have H' := Aside0.mk H
            clear H
            go_wp2_with (first | ((with_reducible refine gate_callee (f := 35) rfl ?_); refine goesL_ (some 21) rfl rfl Try.func35 (by kernel_rfl) rfl #[.int .i64 a1] rfl ga_ ?_; (with_reducible refine (num_in.calls a1 false _ A9.out).mono ?_); rintro e w' ⟨rfl, ⟨nd, rfl⟩⟩; refine ⟨_, rfl, ?_⟩))
            go_meet
            case rel => exact ⟨_, (true), ra_, H', ⟨by have := HJ3.out; first | omega | exact Nat.le_refl _⟩, dz_⟩
        case rest =>
          clear HC8
          try clear c1
          try clear p2
          try clear c3
          try clear c5
          try clear c5b0
          try clear c5b1
          try clear c6
          try clear c6b0
          try clear c6b1
          try clear c7
          try clear c10
          try clear p2
          obtain ⟨kq, x27_7, rfl, HA, HJ7, ⟨mc7, rfl⟩⟩ := hcut
          cases kq with
          | zero => exact absurd HA.out (by simp [num_Do.j1])
          | succ kj7 =>
            have H := HA.out
            clear HA
            simp only [num_Do.j1] at H
            by_cases c12 : x27_7 = true
            · subst c12
              have H1 : (some (0, 4)) = some (r1, r2) := by rw [if_pos rfl] at H; exact H
              clear H
              have H := H1
              clear H1
              simp only [Option.some.injEq, Prod.mk.injEq] at H
              obtain ⟨rfl, rfl⟩ := H
              go_wp2
              go_ret2
              exact rz_
            · replace c12 := Bool.eq_false_iff.mpr c12
              subst c12
              have H1 : (if a0 = 3 then ((num_add.f a1 a2).bind fun bt107 => (if bt107.2 = true then (some (bt107.1, 0)) else (some (0, 4)))) else (if a0 = 4 then ((num_add.f a1 (wrap64 (-a2))).bind fun bt109 => (if bt109.2 = true then (some (bt109.1, 0)) else (some (0, 4)))) else ((num_mul.f kj7 a1 a2).bind fun bt111 => (if bt111.2 = true then (some (bt111.1, 0)) else (some (0, 4)))))) = some (r1, r2) := by rw [if_neg (show ¬ (false = true) by decide)] at H; exact H
              clear H
              have H := H1
              clear H1
              by_cases c13 : a0 = 3
              · rw [if_pos c13] at H
                obtain ⟨c13b0, c13b1⟩ := eqB_ c13
                clear c13
                replace H := Option.bind_eq_some_iff.mp H
                obtain ⟨⟨t107, t108⟩, A140, H⟩ := H
                replace H : (if t108 = true then (some (t107, 0)) else (some (0, 4))) = some (r1, r2) := H
                have A14 := Aside0.mk A140
                clear A140
                by_cases c15 : t108 = true
                · subst c15
                  have H1 : (some (t107, 0)) = some (r1, r2) := by rw [if_pos rfl] at H; exact H
                  clear H
                  have H := H1
                  clear H1
                  simp only [Option.some.injEq, Prod.mk.injEq] at H
                  obtain ⟨rfl, rfl⟩ := H
                  go_wp2_with (first | ((with_reducible refine gate_callee (f := 36) rfl ?_); refine goesL_ (some 40) rfl rfl Try.func36 (by kernel_rfl) rfl #[.int .i64 a1, .int .i64 a2] rfl ga_ ?_; (with_reducible refine (num_add.calls a1 a2 t107 true _ A14.out).mono ?_); rintro e w' ⟨rfl, ⟨nd, rfl⟩⟩; refine ⟨_, rfl, ?_⟩))
                  go_ret2
                  exact rz_
                · replace c15 := Bool.eq_false_iff.mpr c15
                  subst c15
                  have H1 : (some (0, 4)) = some (r1, r2) := by rw [if_neg (show ¬ (false = true) by decide)] at H; exact H
                  clear H
                  have H := H1
                  clear H1
                  simp only [Option.some.injEq, Prod.mk.injEq] at H
                  obtain ⟨rfl, rfl⟩ := H
                  go_wp2_with (first | ((with_reducible refine gate_callee (f := 36) rfl ?_); refine goesL_ (some 40) rfl rfl Try.func36 (by kernel_rfl) rfl #[.int .i64 a1, .int .i64 a2] rfl ga_ ?_; (with_reducible refine (num_add.calls a1 a2 t107 false _ A14.out).mono ?_); rintro e w' ⟨rfl, ⟨nd, rfl⟩⟩; refine ⟨_, rfl, ?_⟩))
                  go_ret2
                  exact rz_
              · rw [if_neg c13] at H
                obtain ⟨c13b0, c13b1⟩ := neB_ c13
                by_cases c16 : a0 = 4
                · rw [if_pos c16] at H
                  obtain ⟨c16b0, c16b1⟩ := eqB_ c16
                  clear c16
                  replace H := Option.bind_eq_some_iff.mp H
                  obtain ⟨⟨t109, t110⟩, A170, H⟩ := H
                  replace H : (if t110 = true then (some (t109, 0)) else (some (0, 4))) = some (r1, r2) := H
                  have A17 := Aside0.mk A170
                  clear A170
                  by_cases c18 : t110 = true
                  · subst c18
                    have H1 : (some (t109, 0)) = some (r1, r2) := by rw [if_pos rfl] at H; exact H
                    clear H
                    have H := H1
                    clear H1
                    simp only [Option.some.injEq, Prod.mk.injEq] at H
                    obtain ⟨rfl, rfl⟩ := H
                    go_wp2_with (first | ((with_reducible refine gate_callee (f := 36) rfl ?_); refine goesL_ (some 49) rfl rfl Try.func36 (by kernel_rfl) rfl #[.int .i64 a1, .int .i64 (wrap64 (-a2))] rfl ga_ ?_; (with_reducible refine (num_add.calls a1 (wrap64 (-a2)) t109 true _ A17.out).mono ?_); rintro e w' ⟨rfl, ⟨nd, rfl⟩⟩; refine ⟨_, rfl, ?_⟩))
                    go_ret2
                    exact rz_
                  · replace c18 := Bool.eq_false_iff.mpr c18
                    subst c18
                    have H1 : (some (0, 4)) = some (r1, r2) := by rw [if_neg (show ¬ (false = true) by decide)] at H; exact H
                    clear H
                    have H := H1
                    clear H1
                    simp only [Option.some.injEq, Prod.mk.injEq] at H
                    obtain ⟨rfl, rfl⟩ := H
                    go_wp2_with (first | ((with_reducible refine gate_callee (f := 36) rfl ?_); refine goesL_ (some 49) rfl rfl Try.func36 (by kernel_rfl) rfl #[.int .i64 a1, .int .i64 (wrap64 (-a2))] rfl ga_ ?_; (with_reducible refine (num_add.calls a1 (wrap64 (-a2)) t109 false _ A17.out).mono ?_); rintro e w' ⟨rfl, ⟨nd, rfl⟩⟩; refine ⟨_, rfl, ?_⟩))
                    go_ret2
                    exact rz_
                · rw [if_neg c16] at H
                  obtain ⟨c16b0, c16b1⟩ := neB_ c16
                  replace H := Option.bind_eq_some_iff.mp H
                  obtain ⟨⟨t111, t112⟩, A190, H⟩ := H
                  replace H : (if t112 = true then (some (t111, 0)) else (some (0, 4))) = some (r1, r2) := H
                  have A19 := Aside0.mk A190
                  clear A190
                  by_cases c20 : t112 = true
                  · subst c20
                    have H1 : (some (t111, 0)) = some (r1, r2) := by rw [if_pos rfl] at H; exact H
                    clear H
                    have H := H1
                    clear H1
                    simp only [Option.some.injEq, Prod.mk.injEq] at H
                    obtain ⟨rfl, rfl⟩ := H
                    go_wp2_with (first | ((with_reducible refine gate_callee (f := 37) rfl ?_); refine goesL_ (some 32) rfl rfl Try.func37 (by kernel_rfl) rfl #[.int .i64 a1, .int .i64 a2] rfl ga_ ?_; (with_reducible refine (num_mul.calls kj7 a1 a2 t111 true _ A19.out).mono ?_); rintro e w' ⟨rfl, ⟨nd, rfl⟩⟩; refine ⟨_, rfl, ?_⟩))
                    go_ret2
                    exact rz_
                  · replace c20 := Bool.eq_false_iff.mpr c20
                    subst c20
                    have H1 : (some (0, 4)) = some (r1, r2) := by rw [if_neg (show ¬ (false = true) by decide)] at H; exact H
                    clear H
                    have H := H1
                    clear H1
                    simp only [Option.some.injEq, Prod.mk.injEq] at H
                    obtain ⟨rfl, rfl⟩ := H
                    go_wp2_with (first | ((with_reducible refine gate_callee (f := 37) rfl ?_); refine goesL_ (some 32) rfl rfl Try.func37 (by kernel_rfl) rfl #[.int .i64 a1, .int .i64 a2] rfl ga_ ?_; (with_reducible refine (num_mul.calls kj7 a1 a2 t111 false _ A19.out).mono ?_); rintro e w' ⟨rfl, ⟨nd, rfl⟩⟩; refine ⟨_, rfl, ?_⟩))
                    go_ret2
                    exact rz_
end Go.Proofs.Ytconpnagoijacaa.P
end
section
namespace Go.Proofs.Ytconpnagoijacaa.P
open Go.RowKit Go.Proofs.YtconpnagoijacaaW.PrintWords Go.Proofs.YtconpnagoijacaaW.PrintLast Go.Proofs.YtconpnagoijacaaW.PrintMore
attribute [local go_sem] max2_int min2_int max_two min_two max_three min_three max_four min_four
set_option linter.unusedVariables false
set_option linter.unusedSimpArgs false
def expr_reckon.j0 : Nat → Int → Bool → Int → Int → ByteArray → Int → Int → ByteArray → Option (Int × Int × ByteArray × Int)
  | 0, _, _, _, _, _, _, _, _ => none
  | k + 1, x0, x17, x244000, x244001, x244002, x245000, x245001, x245002 => if x17 = true then (some (0, 0, (⟨#[]⟩ : ByteArray), 3)) else ((num_Do.f k x0 x244001 x245001).bind fun bt246 => (if bt246.2 = 0 then (some (1, bt246.1, (⟨#[]⟩ : ByteArray), 0)) else (some (0, 0, (⟨#[]⟩ : ByteArray), bt246.2))))
def expr_reckon.f (k : Nat) (a0 : Int) (a1_0 : Int) (a1_1 : Int) (a1_2 : ByteArray) (a2_0 : Int) (a2_1 : Int) (a2_2 : ByteArray) : Option (Int × Int × ByteArray × Int) := if a1_0 = 1 then (expr_reckon.j0 k a0 (a2_0 != 1) a1_0 a1_1 a1_2 a2_0 a2_1 a2_2) else (expr_reckon.j0 k a0 true a1_0 a1_1 a1_2 a2_0 a2_1 a2_2)
theorem expr_reckon.mono_l : ∀ k, (∀ y0 y1 y2 y3 y4 y5 y6 y7, LeO (expr_reckon.j0 k y0 y1 y2 y3 y4 y5 y6 y7) (expr_reckon.j0 (k + 1) y0 y1 y2 y3 y4 y5 y6 y7))
  | 0 => fun _ _ _ _ _ _ _ _ r h => by simp [expr_reckon.j0] at h
  | k + 1 => by
    have ih0 := expr_reckon.mono_l k
    · intro y0 y1 y2 y3 y4 y5 y6 y7
      unfold expr_reckon.j0
      repeat' first
      | (with_reducible exact ih0 _ _ _ _ _ _ _ _)
      | (with_reducible exact num_Do.mono _ _ _ _)
      | (with_reducible exact LeO.refl _)
      | (with_reducible exact LeO.none _)
      | (with_reducible refine LeO.ite ?_ ?_)
      | (with_reducible refine LeO.bind ?_ (fun _ => ?_))
      | exact ih0 _ _ _ _ _ _ _ _
      | exact num_Do.mono _ _ _ _
      | exact LeO.none _
      | refine LeO.ite ?_ ?_
      | refine LeO.bind ?_ (fun _ => ?_)
theorem expr_reckon.mono : ∀ a0 a1 a2 a3 a4 a5 a6 k, LeO (expr_reckon.f k a0 a1 a2 a3 a4 a5 a6) (expr_reckon.f (k + 1) a0 a1 a2 a3 a4 a5 a6) := by
  intro a0 a1 a2 a3 a4 a5 a6 k
  have ih0 := expr_reckon.mono_l k
  unfold expr_reckon.f
  repeat' first
      | (with_reducible exact ih0 _ _ _ _ _ _ _ _)
      | (with_reducible exact num_Do.mono _ _ _ _)
      | (with_reducible exact LeO.refl _)
      | (with_reducible exact LeO.none _)
      | (with_reducible refine LeO.ite ?_ ?_)
      | (with_reducible refine LeO.bind ?_ (fun _ => ?_))
      | exact ih0 _ _ _ _ _ _ _ _
      | exact num_Do.mono _ _ _ _
      | exact LeO.none _
      | refine LeO.ite ?_ ?_
      | refine LeO.bind ?_ (fun _ => ?_)
set_option maxHeartbeats 8000000 in
set_option maxRecDepth 100000 in
theorem expr_reckon.calls (k : Nat) (a0 : Int) (a1_0 : Int) (a1_1 : Int) (a1_2 : ByteArray) (a2_0 : Int) (a2_1 : Int) (a2_2 : ByteArray) (r1 : Int) (r2 : Int) (r3 : ByteArray) (r4 : Int) (w : World) (h : expr_reckon.f k a0 a1_0 a1_1 a1_2 a2_0 a2_1 a2_2 = some (r1, r2, r3, r4)) :
    Calls Try.prog 42 #[.int .i64 a0, .agg #[.int .i64 a1_0, .int .i64 a1_1, .string a1_2], .agg #[.int .i64 a2_0, .int .i64 a2_1, .string a2_2]] w fun e w' => e = .returned (.tuple #[.agg #[.int .i64 r1, .int .i64 r2, .string r3], .int .i64 r4]) ∧ Below w.heap.size w w' := by
  have hu40 := Try.underlying40
  have HB := Aside0.mk (Below.refl w.heap.size w)
  have H : (if a1_0 = 1 then (expr_reckon.j0 k a0 (a2_0 != 1) a1_0 a1_1 a1_2 a2_0 a2_1 a2_2) else (expr_reckon.j0 k a0 true a1_0 a1_1 a1_2 a2_0 a2_1 a2_2)) = some (r1, r2, r3, r4) := h
  clear h
  have HC4 := Aside0.mk H
  clear H
  go_enter Try.func42, Try.ntmps42
  go_upto_region 1 with (first | ((with_reducible refine gate_dst (N := 4) rfl ?_); refine box_event ?hg (N := 4) ?hd (cs := #[.int .i64 a1_0, .int .i64 a1_1, .string a1_2]) (t := 40) ?hr ?_; (case hd => rfl); (case hg => rfl); (case hr => first | (go_simp; done) | (go_simp; rfl)); intro gb243 hg w5 hbox hb; have n0_ := bs_ (be_ HB) hb; have n1_ := Aside0.mk (hbox); have n2_ := gs_ hg (be_ HB); have n3_ := gs_ hg (be_ HB); clear HB; have HB := n0_; have BK243 := n1_; have GW243 := n2_; have GE243 := n3_; clear n0_ n1_ n2_ n3_; clear hb hbox hg) | ((with_reducible refine gate_dst (N := 5) rfl ?_); refine box_event ?hg (N := 5) ?hd (cs := #[.int .i64 a2_0, .int .i64 a2_1, .string a2_2]) (t := 40) ?hr ?_; (case hd => rfl); (case hg => rfl); (case hr => first | (go_simp; done) | (go_simp; rfl)); intro gb244 hg w6 hbox hb; have n0_ := bb_ (bu_ BK243) hb; have n1_ := bs_ (be_ HB) hb; have n2_ := Aside0.mk (hbox); have n3_ := gs_ hg (be_ HB); have n4_ := gs_ hg (be_ HB); have n5_ := nl_ hg (bu_ BK243); have n6_ := ng_ hg (bu_ BK243); clear BK243; clear HB; have BK243 := n0_; have HB := n1_; have BK244 := n2_; have GW244 := n3_; have GE244 := n4_; have NB243_244 := n5_; have NB244_243 := n6_; clear n0_ n1_ n2_ n3_ n4_ n5_ n6_; clear hb hbox hg) | ((with_reducible refine gate_dst (N := 6) rfl ?_); refine box_event ?hg (N := 6) ?hd (cs := #[.int .i64 0, .int .i64 0, .string (⟨#[]⟩ : ByteArray)]) (t := 40) ?hr ?_; (case hd => rfl); (case hg => rfl); (case hr => first | (go_simp; done) | (go_simp; rfl)); intro gb245 hg w7 hbox hb; have n0_ := bb_ (bu_ BK243) hb; have n1_ := bb_ (bu_ BK244) hb; have n2_ := bs_ (be_ HB) hb; have n3_ := Aside0.mk (hbox); have n4_ := gs_ hg (be_ HB); have n5_ := gs_ hg (be_ HB); have n6_ := nl_ hg (bu_ BK243); have n7_ := ng_ hg (bu_ BK243); have n8_ := nl_ hg (bu_ BK244); have n9_ := ng_ hg (bu_ BK244); clear BK243; clear BK244; clear HB; have BK243 := n0_; have BK244 := n1_; have HB := n2_; have BK245 := n3_; have GW245 := n4_; have GE245 := n5_; have NB243_245 := n6_; have NB245_243 := n7_; have NB244_245 := n8_; have NB245_244 := n9_; clear n0_ n1_ n2_ n3_ n4_ n5_ n6_ n7_ n8_ n9_; clear hb hbox hg))
  (try simp only [Act.put, List.setIfInBounds_toArray, List.set_cons_zero, List.set_cons_succ])
  go_cut [17] (fun v17 wc => ∃ (kq : Nat) (x17_3 : Bool), v17 = .bool x17_3 ∧ Aside0 (expr_reckon.j0 kq a0 x17_3 a1_0 a1_1 a1_2 a2_0 a2_1 a2_2 = some (r1, r2, r3, r4)) ∧ Aside0 (kq ≤ k) ∧ Aside0 (wc.heap[gb243]? = some (.cells #[.int .i64 a1_0, .int .i64 a1_1, .string a1_2] 40 (0, 0))) ∧ Aside0 (wc.heap[gb244]? = some (.cells #[.int .i64 a2_0, .int .i64 a2_1, .string a2_2] 40 (0, 0))) ∧ Aside0 (wc.heap[gb245]? = some (.cells #[.int .i64 0, .int .i64 0, .string (⟨#[]⟩ : ByteArray)] 40 (0, 0))) ∧ Aside0 (Below w.heap.size w wc))
  case first =>
    have H := HC4.out
    clear HC4
    by_cases c8 : a1_0 = 1
    · rw [if_pos c8] at H
      obtain ⟨c8b0, c8b1⟩ := eqB_ c8
      clear c8
      (first | rw [c8b0] | (simp only [i64_w, i32_w]; rw [c8b0]) | skip)
      have H' := Aside0.mk H
      clear H
      have hnb9 := NB243_244.out
      have hnc9 := NB244_243.out
      have hnb10 := NB243_245.out
      have hnc10 := NB245_243.out
      have hcz11_0 : w7.cell? ⟨gb243, 0, none⟩ = some (.int .i64 a1_0) := (blk_cell BK243.out 0).trans rfl
      have hcz11_1 : w7.cell? ⟨gb243, 1, none⟩ = some (.int .i64 a1_1) := (blk_cell BK243.out 1).trans rfl
      have hcz11_2 : w7.cell? ⟨gb243, 2, none⟩ = some (.string a1_2) := (blk_cell BK243.out 2).trans rfl
      have hfz11_0 := blk_frozen BK243.out 0
      have hfz11_1 := blk_frozen BK243.out 1
      have hfz11_2 := blk_frozen BK243.out 2
      have hnb12 := NB244_245.out
      have hnc12 := NB245_244.out
      have hcz13_0 : w7.cell? ⟨gb244, 0, none⟩ = some (.int .i64 a2_0) := (blk_cell BK244.out 0).trans rfl
      have hcz13_1 : w7.cell? ⟨gb244, 1, none⟩ = some (.int .i64 a2_1) := (blk_cell BK244.out 1).trans rfl
      have hcz13_2 : w7.cell? ⟨gb244, 2, none⟩ = some (.string a2_2) := (blk_cell BK244.out 2).trans rfl
      have hfz13_0 := blk_frozen BK244.out 0
      have hfz13_1 := blk_frozen BK244.out 1
      have hfz13_2 := blk_frozen BK244.out 2
      go_wp2
      go_meet
      case rel => exact ⟨_, ((a2_0 != 1)), ra_, H', ⟨by first | omega | exact Nat.le_refl _⟩, ⟨by (with_reducible repeat (first | refine blk_drewN ?_ _ | refine blk_drew ?_ | refine blk_alloc ?_ _)); exact BK243.out⟩, ⟨by (with_reducible repeat (first | refine blk_drewN ?_ _ | refine blk_drew ?_ | refine blk_alloc ?_ _)); exact BK244.out⟩, ⟨by (with_reducible repeat (first | refine blk_drewN ?_ _ | refine blk_drew ?_ | refine blk_alloc ?_ _)); exact BK245.out⟩, ⟨by repeat (first | (with_reducible first | exact HB.out | apply below_alloc | apply pw_below_drewN | apply below_drew1 | refine below_set ?_ GE243.out | refine below_set ?_ GE244.out | refine below_set ?_ GE245.out) | exact HB.out)⟩⟩
    · rw [if_neg c8] at H
      obtain ⟨c8b0, c8b1⟩ := neB_ c8
      (first | rw [c8b0] | (simp only [i64_w, i32_w]; rw [c8b0]) | skip)
      have H' := Aside0.mk H
      clear H
      have hnb14 := NB243_244.out
      have hnc14 := NB244_243.out
      have hnb15 := NB243_245.out
      have hnc15 := NB245_243.out
      have hcz16_0 : w7.cell? ⟨gb243, 0, none⟩ = some (.int .i64 a1_0) := (blk_cell BK243.out 0).trans rfl
      have hcz16_1 : w7.cell? ⟨gb243, 1, none⟩ = some (.int .i64 a1_1) := (blk_cell BK243.out 1).trans rfl
      have hcz16_2 : w7.cell? ⟨gb243, 2, none⟩ = some (.string a1_2) := (blk_cell BK243.out 2).trans rfl
      have hfz16_0 := blk_frozen BK243.out 0
      have hfz16_1 := blk_frozen BK243.out 1
      have hfz16_2 := blk_frozen BK243.out 2
      go_wp2
      go_meet
      case rel => exact ⟨_, (true), ra_, H', ⟨by first | omega | exact Nat.le_refl _⟩, ⟨by (with_reducible repeat (first | refine blk_drewN ?_ _ | refine blk_drew ?_ | refine blk_alloc ?_ _)); exact BK243.out⟩, ⟨by (with_reducible repeat (first | refine blk_drewN ?_ _ | refine blk_drew ?_ | refine blk_alloc ?_ _)); exact BK244.out⟩, ⟨by (with_reducible repeat (first | refine blk_drewN ?_ _ | refine blk_drew ?_ | refine blk_alloc ?_ _)); exact BK245.out⟩, ⟨by repeat (first | (with_reducible first | exact HB.out | apply below_alloc | apply pw_below_drewN | apply below_drew1 | refine below_set ?_ GE243.out | refine below_set ?_ GE244.out | refine below_set ?_ GE245.out) | exact HB.out)⟩⟩
  case rest =>
    clear HC4
    try clear c1
    try clear p2
    try clear c4
    try clear c8
    try clear c8b0
    try clear c8b1
    try clear c9
    try clear c10
    try clear c12
    try clear c14
    try clear c15
    try clear hcz11_0
    try clear hcz11_1
    try clear hcz11_2
    try clear hcz13_0
    try clear hcz13_1
    try clear hcz13_2
    try clear hcz16_0
    try clear hcz16_1
    try clear hcz16_2
    try clear hfz11_0
    try clear hfz11_1
    try clear hfz11_2
    try clear hfz13_0
    try clear hfz13_1
    try clear hfz13_2
    try clear hfz16_0
    try clear hfz16_1
    try clear hfz16_2
    obtain ⟨kq, x17_3, rfl, HA, HJ3, BK243, BK244, BK245, HB⟩ := hcut
    cases kq with
    | zero => exact absurd HA.out (by simp [expr_reckon.j0])
    | succ kj3 =>
      have H := HA.out
      clear HA
      simp only [expr_reckon.j0] at H
      by_cases c17 : x17_3 = true
      · subst c17
        have H1 : (some (0, 0, (⟨#[]⟩ : ByteArray), 3)) = some (r1, r2, r3, r4) := by rw [if_pos rfl] at H; exact H
        clear H
        have H := H1
        clear H1
        simp only [Option.some.injEq, Prod.mk.injEq] at H
        obtain ⟨rfl, rfl, rfl, rfl⟩ := H
        have hnb18 := NB245_243.out
        have hnc18 := NB243_245.out
        have hnb19 := NB245_244.out
        have hnc19 := NB244_245.out
        have hcz20_0 : wc.cell? ⟨gb245, 0, none⟩ = some (.int .i64 0) := (blk_cell BK245.out 0).trans rfl
        have hcz20_1 : wc.cell? ⟨gb245, 1, none⟩ = some (.int .i64 0) := (blk_cell BK245.out 1).trans rfl
        have hcz20_2 : wc.cell? ⟨gb245, 2, none⟩ = some (.string (⟨#[]⟩ : ByteArray)) := (blk_cell BK245.out 2).trans rfl
        have hfz20_0 := blk_frozen BK245.out 0
        have hfz20_1 := blk_frozen BK245.out 1
        have hfz20_2 := blk_frozen BK245.out 2
        go_wp2
        refine bodyPost_ret (results_ct rfl _ _ gb245 40 #[.int .i64 0, .int .i64 0, .string (⟨#[]⟩ : ByteArray)] (0, 0) _ rfl (bp_ BK245) Try.underlying40 rfl (by kernel_rfl)) rfl ?_
        exact ⟨by first | rfl | (simp [errW_none, errW_some] <;> rfl) | (simp [*, errW_none, errW_some] <;> rfl), by repeat (first | (with_reducible first | exact HB.out | apply below_alloc | apply pw_below_drewN | apply below_drew1 | refine below_set ?_ GE243.out | refine below_set ?_ GE244.out | refine below_set ?_ GE245.out) | exact HB.out)⟩
      · replace c17 := Bool.eq_false_iff.mpr c17
        subst c17
        have H1 : ((num_Do.f kj3 a0 a1_1 a2_1).bind fun bt246 => (if bt246.2 = 0 then (some (1, bt246.1, (⟨#[]⟩ : ByteArray), 0)) else (some (0, 0, (⟨#[]⟩ : ByteArray), bt246.2)))) = some (r1, r2, r3, r4) := by rw [if_neg (show ¬ (false = true) by decide)] at H; exact H
        clear H
        have H := H1
        clear H1
        replace H := Option.bind_eq_some_iff.mp H
        obtain ⟨⟨t246, t247⟩, A210, H⟩ := H
        replace H : (if t247 = 0 then (some (1, t246, (⟨#[]⟩ : ByteArray), 0)) else (some (0, 0, (⟨#[]⟩ : ByteArray), t247))) = some (r1, r2, r3, r4) := H
        have A21 := Aside0.mk A210
        clear A210
        by_cases c22 : t247 = 0
        · rw [if_pos c22] at H
          obtain ⟨c22b0, c22b1⟩ := eqB_ c22
          clear c22
          simp only [Option.some.injEq, Prod.mk.injEq] at H
          obtain ⟨rfl, rfl, rfl, rfl⟩ := H
          have hnb23 := NB243_244.out
          have hnc23 := NB244_243.out
          have hnb24 := NB243_245.out
          have hnc24 := NB245_243.out
          have hcz25_0 : wc.cell? ⟨gb243, 0, none⟩ = some (.int .i64 a1_0) := (blk_cell BK243.out 0).trans rfl
          have hcz25_1 : wc.cell? ⟨gb243, 1, none⟩ = some (.int .i64 a1_1) := (blk_cell BK243.out 1).trans rfl
          have hcz25_2 : wc.cell? ⟨gb243, 2, none⟩ = some (.string a1_2) := (blk_cell BK243.out 2).trans rfl
          have hfz25_0 := blk_frozen BK243.out 0
          have hfz25_1 := blk_frozen BK243.out 1
          have hfz25_2 := blk_frozen BK243.out 2
          have hnb26 := NB244_245.out
          have hnc26 := NB245_244.out
          have hcz27_0 : wc.cell? ⟨gb244, 0, none⟩ = some (.int .i64 a2_0) := (blk_cell BK244.out 0).trans rfl
          have hcz27_1 : wc.cell? ⟨gb244, 1, none⟩ = some (.int .i64 a2_1) := (blk_cell BK244.out 1).trans rfl
          have hcz27_2 : wc.cell? ⟨gb244, 2, none⟩ = some (.string a2_2) := (blk_cell BK244.out 2).trans rfl
          have hfz27_0 := blk_frozen BK244.out 0
          have hfz27_1 := blk_frozen BK244.out 1
          have hfz27_2 := blk_frozen BK244.out 2
          go_wp2_with (first | ((with_reducible refine gate_callee (f := 13) rfl ?_); refine goesL_ (some 25) rfl rfl Try.func13 (by kernel_rfl) rfl #[.int .i64 a0, .int .i64 a1_1, .int .i64 a2_1] rfl ga_ ?_; (with_reducible refine (num_Do.calls kj3 a0 a1_1 a2_1 t246 t247 _ A21.out).mono ?_); rintro e w' ⟨rfl, ⟨nd, rfl⟩⟩; refine ⟨_, rfl, ?_⟩; (try (rw [drewN_self wc]; generalize hq_ : World.drewN wc _ = wc; have n0_ : Aside0 (wc.heap[gb243]? = some (.cells #[.int .i64 a1_0, .int .i64 a1_1, .string a1_2] 40 (0, 0))) := ⟨by rw [← hq_]; exact (bu_ BK243)⟩; have n1_ : Aside0 (wc.heap[gb244]? = some (.cells #[.int .i64 a2_0, .int .i64 a2_1, .string a2_2] 40 (0, 0))) := ⟨by rw [← hq_]; exact (bu_ BK244)⟩; have n2_ : Aside0 (wc.heap[gb245]? = some (.cells #[.int .i64 0, .int .i64 0, .string (⟨#[]⟩ : ByteArray)] 40 (0, 0))) := ⟨by rw [← hq_]; exact (bu_ BK245)⟩; have n3_ : Aside0 (Below w.heap.size w wc) := ⟨by rw [← hq_]; exact (be_ HB)⟩; clear BK243 BK244 BK245 HB hq_; have BK243 := n0_; have BK244 := n1_; have BK245 := n2_; have HB := n3_; clear n0_ n1_ n2_ n3_)); have hcz28_0 : wc.cell? ⟨gb245, 0, none⟩ = some (.int .i64 0) := (blk_cell BK245.out 0).trans rfl; have hcz28_1 : wc.cell? ⟨gb245, 1, none⟩ = some (.int .i64 0) := (blk_cell BK245.out 1).trans rfl; have hcz28_2 : wc.cell? ⟨gb245, 2, none⟩ = some (.string (⟨#[]⟩ : ByteArray)) := (blk_cell BK245.out 2).trans rfl; have hfz28_0 := blk_frozen BK245.out 0; have hfz28_1 := blk_frozen BK245.out 1; have hfz28_2 := blk_frozen BK245.out 2))
          refine bodyPost_ret (results_ct rfl _ _ gb245 40 #[.int .i64 1, .int .i64 t246, .string (⟨#[]⟩ : ByteArray)] (0, 0) _ rfl (bp_ BK245) Try.underlying40 rfl (by kernel_rfl)) rfl ?_
          exact ⟨by first | rfl | (simp [errW_none, errW_some] <;> rfl) | (simp [*, errW_none, errW_some] <;> rfl), by repeat (first | (with_reducible first | exact HB.out | apply below_alloc | apply pw_below_drewN | apply below_drew1 | refine below_set ?_ GE243.out | refine below_set ?_ GE244.out | refine below_set ?_ GE245.out) | exact HB.out)⟩
        · rw [if_neg c22] at H
          obtain ⟨c22b0, c22b1⟩ := neB_ c22
          simp only [Option.some.injEq, Prod.mk.injEq] at H
          obtain ⟨rfl, rfl, rfl, rfl⟩ := H
          have hnb29 := NB243_244.out
          have hnc29 := NB244_243.out
          have hnb30 := NB243_245.out
          have hnc30 := NB245_243.out
          have hcz31_0 : wc.cell? ⟨gb243, 0, none⟩ = some (.int .i64 a1_0) := (blk_cell BK243.out 0).trans rfl
          have hcz31_1 : wc.cell? ⟨gb243, 1, none⟩ = some (.int .i64 a1_1) := (blk_cell BK243.out 1).trans rfl
          have hcz31_2 : wc.cell? ⟨gb243, 2, none⟩ = some (.string a1_2) := (blk_cell BK243.out 2).trans rfl
          have hfz31_0 := blk_frozen BK243.out 0
          have hfz31_1 := blk_frozen BK243.out 1
          have hfz31_2 := blk_frozen BK243.out 2
          have hnb32 := NB244_245.out
          have hnc32 := NB245_244.out
          have hcz33_0 : wc.cell? ⟨gb244, 0, none⟩ = some (.int .i64 a2_0) := (blk_cell BK244.out 0).trans rfl
          have hcz33_1 : wc.cell? ⟨gb244, 1, none⟩ = some (.int .i64 a2_1) := (blk_cell BK244.out 1).trans rfl
          have hcz33_2 : wc.cell? ⟨gb244, 2, none⟩ = some (.string a2_2) := (blk_cell BK244.out 2).trans rfl
          have hfz33_0 := blk_frozen BK244.out 0
          have hfz33_1 := blk_frozen BK244.out 1
          have hfz33_2 := blk_frozen BK244.out 2
          go_wp2_with (first | ((with_reducible refine gate_callee (f := 13) rfl ?_); refine goesL_ (some 25) rfl rfl Try.func13 (by kernel_rfl) rfl #[.int .i64 a0, .int .i64 a1_1, .int .i64 a2_1] rfl ga_ ?_; (with_reducible refine (num_Do.calls kj3 a0 a1_1 a2_1 t246 t247 _ A21.out).mono ?_); rintro e w' ⟨rfl, ⟨nd, rfl⟩⟩; refine ⟨_, rfl, ?_⟩; (try (rw [drewN_self wc]; generalize hq_ : World.drewN wc _ = wc; have n0_ : Aside0 (wc.heap[gb243]? = some (.cells #[.int .i64 a1_0, .int .i64 a1_1, .string a1_2] 40 (0, 0))) := ⟨by rw [← hq_]; exact (bu_ BK243)⟩; have n1_ : Aside0 (wc.heap[gb244]? = some (.cells #[.int .i64 a2_0, .int .i64 a2_1, .string a2_2] 40 (0, 0))) := ⟨by rw [← hq_]; exact (bu_ BK244)⟩; have n2_ : Aside0 (wc.heap[gb245]? = some (.cells #[.int .i64 0, .int .i64 0, .string (⟨#[]⟩ : ByteArray)] 40 (0, 0))) := ⟨by rw [← hq_]; exact (bu_ BK245)⟩; have n3_ : Aside0 (Below w.heap.size w wc) := ⟨by rw [← hq_]; exact (be_ HB)⟩; clear BK243 BK244 BK245 HB hq_; have BK243 := n0_; have BK244 := n1_; have BK245 := n2_; have HB := n3_; clear n0_ n1_ n2_ n3_)); have hcz34_0 : wc.cell? ⟨gb245, 0, none⟩ = some (.int .i64 0) := (blk_cell BK245.out 0).trans rfl; have hcz34_1 : wc.cell? ⟨gb245, 1, none⟩ = some (.int .i64 0) := (blk_cell BK245.out 1).trans rfl; have hcz34_2 : wc.cell? ⟨gb245, 2, none⟩ = some (.string (⟨#[]⟩ : ByteArray)) := (blk_cell BK245.out 2).trans rfl; have hfz34_0 := blk_frozen BK245.out 0; have hfz34_1 := blk_frozen BK245.out 1; have hfz34_2 := blk_frozen BK245.out 2))
          refine bodyPost_ret (results_ct rfl _ _ gb245 40 #[.int .i64 0, .int .i64 0, .string (⟨#[]⟩ : ByteArray)] (0, 0) _ rfl (bp_ BK245) Try.underlying40 rfl (by kernel_rfl)) rfl ?_
          exact ⟨by first | rfl | (simp [errW_none, errW_some] <;> rfl) | (simp [*, errW_none, errW_some] <;> rfl), by repeat (first | (with_reducible first | exact HB.out | apply below_alloc | apply pw_below_drewN | apply below_drew1 | refine below_set ?_ GE243.out | refine below_set ?_ GE244.out | refine below_set ?_ GE245.out) | exact HB.out)⟩
end Go.Proofs.Ytconpnagoijacaa.P
end
section
namespace Go.Proofs.Ytconpnagoijacaa.P
open Go.RowKit Go.Proofs.YtconpnagoijacaaW.PrintWords Go.Proofs.YtconpnagoijacaaW.PrintLast Go.Proofs.YtconpnagoijacaaW.PrintMore
attribute [local go_sem] max2_int min2_int max_two min_two max_three min_three max_four min_four
set_option linter.unusedVariables false
set_option linter.unusedSimpArgs false
mutual
def expr_Eval.j0 : Nat → List (S52) → List (S62) → Int → Option (Int × Int × ByteArray × Int)
  | 0, _, _, _ => none
  | k + 1, x0, x1, x6 => if x6 = 0 then (expr_Eval.l0 k x1 ([] : List (S40)) x0 (x0.length : Int) 0) else (some (0, 0, (⟨#[]⟩ : ByteArray), x6))
def expr_Eval.l0 : Nat → List (S62) → List (S40) → List (S52) → Int → Int → Option (Int × Int × ByteArray × Int)
  | 0, _, _, _, _, _ => none
  | k + 1, x1, x7, x22, x23, x24 => if x24 < x23 then (if 0 ≤ x24 then (if x24 < (x22.length : Int) then ((expr_pushes.f ((rd_T52 x22 x24).f0)).bind fun t255 => (if t255 = true then ((expr_push.f k ((rd_T52 x22 x24).f0) ((rd_T52 x22 x24).f1) ((rd_T52 x22 x24).f2.f0) ((rd_T52 x22 x24).f2.f1) ((rd_T52 x22 x24).f2.f2) x1).bind fun bt256 => (if bt256.2.2.2 = 0 then (if x7.length < 4398046511104 then (expr_Eval.l0 k x1 (x7 ++ [(⟨bt256.1, bt256.2.1, bt256.2.2.1⟩ : S40)]) x22 x23 (wrap64 (x24 + 1))) else (none)) else (some (0, 0, (⟨#[]⟩ : ByteArray), bt256.2.2.2)))) else (if 0 ≤ (wrap64 ((x7.length : Int) - 2)) then (if (wrap64 ((x7.length : Int) - 2)) < (x7.length : Int) then (if 0 ≤ (wrap64 ((wrap64 ((x7.length : Int) - 2)) + 1)) then (if (wrap64 ((wrap64 ((x7.length : Int) - 2)) + 1)) < (x7.length : Int) then ((expr_reckon.f k ((rd_T52 x22 x24).f0) ((rd_T40 x7 (wrap64 ((x7.length : Int) - 2))).f0) ((rd_T40 x7 (wrap64 ((x7.length : Int) - 2))).f1) ((rd_T40 x7 (wrap64 ((x7.length : Int) - 2))).f2) ((rd_T40 x7 (wrap64 ((wrap64 ((x7.length : Int) - 2)) + 1))).f0) ((rd_T40 x7 (wrap64 ((wrap64 ((x7.length : Int) - 2)) + 1))).f1) ((rd_T40 x7 (wrap64 ((wrap64 ((x7.length : Int) - 2)) + 1))).f2)).bind fun bt265 => (if (wrap64 ((x7.length : Int) - 2)) ≤ (x7.length : Int) then ((some (x7.take ((wrap64 ((x7.length : Int) - 2)) : Int).toNat : List (S40))).bind fun y269 => (if bt265.2.2.2 = 0 then (if y269.length < 4398046511104 then (expr_Eval.l0 k x1 (y269 ++ [(⟨bt265.1, bt265.2.1, bt265.2.2.1⟩ : S40)]) x22 x23 (wrap64 (x24 + 1))) else (none)) else (some (0, 0, (⟨#[]⟩ : ByteArray), bt265.2.2.2)))) else (none))) else (none)) else (none)) else (none)) else (none)))) else (none)) else (none)) else (if 0 < (x7.length : Int) then (some ((rd_T40 x7 0).f0, (rd_T40 x7 0).f1, (rd_T40 x7 0).f2, 0)) else (none))
end
def expr_Eval.f (k : Nat) (l0 : List (S52)) (l1 : List (S62)) : Option (Int × Int × ByteArray × Int) := (expr_Check.f k l0).bind fun t249 => (if t249 = 0 then ((subst_Check.f k l1).bind fun t250 => (expr_Eval.j0 k l0 l1 t250)) else (expr_Eval.j0 k l0 l1 t249))
theorem expr_Eval.mono_l : ∀ k, (∀ y0 y1 y2, LeO (expr_Eval.j0 k y0 y1 y2) (expr_Eval.j0 (k + 1) y0 y1 y2)) ∧ (∀ y0 y1 y2 y3 y4, LeO (expr_Eval.l0 k y0 y1 y2 y3 y4) (expr_Eval.l0 (k + 1) y0 y1 y2 y3 y4))
  | 0 => ⟨fun _ _ _ r h => by simp [expr_Eval.j0] at h, fun _ _ _ _ _ r h => by simp [expr_Eval.l0] at h⟩
  | k + 1 => by
    obtain ⟨ih0, ih1⟩ := expr_Eval.mono_l k
    refine ⟨?_, ?_⟩
    · intro y0 y1 y2
      unfold expr_Eval.j0
      repeat' first
      | (with_reducible exact ih0 _ _ _)
      | (with_reducible exact ih1 _ _ _ _ _)
      | (with_reducible exact expr_Check.mono _ _)
      | (with_reducible exact expr_push.mono _ _ _ _ _ _ _)
      | (with_reducible exact expr_reckon.mono _ _ _ _ _ _ _ _)
      | (with_reducible exact subst_Check.mono _ _)
      | (with_reducible exact LeO.refl _)
      | (with_reducible exact LeO.none _)
      | (with_reducible refine LeO.ite ?_ ?_)
      | (with_reducible refine LeO.bind ?_ (fun _ => ?_))
      | exact ih0 _ _ _
      | exact ih1 _ _ _ _ _
      | exact expr_Check.mono _ _
      | exact expr_push.mono _ _ _ _ _ _ _
      | exact expr_reckon.mono _ _ _ _ _ _ _ _
      | exact subst_Check.mono _ _
      | exact LeO.none _
      | refine LeO.ite ?_ ?_
      | refine LeO.bind ?_ (fun _ => ?_)
    · intro y0 y1 y2 y3 y4
      unfold expr_Eval.l0
      repeat' first
      | (with_reducible exact ih0 _ _ _)
      | (with_reducible exact ih1 _ _ _ _ _)
      | (with_reducible exact expr_Check.mono _ _)
      | (with_reducible exact expr_push.mono _ _ _ _ _ _ _)
      | (with_reducible exact expr_reckon.mono _ _ _ _ _ _ _ _)
      | (with_reducible exact subst_Check.mono _ _)
      | (with_reducible exact LeO.refl _)
      | (with_reducible exact LeO.none _)
      | (with_reducible refine LeO.ite ?_ ?_)
      | (with_reducible refine LeO.bind ?_ (fun _ => ?_))
      | exact ih0 _ _ _
      | exact ih1 _ _ _ _ _
      | exact expr_Check.mono _ _
      | exact expr_push.mono _ _ _ _ _ _ _
      | exact expr_reckon.mono _ _ _ _ _ _ _ _
      | exact subst_Check.mono _ _
      | exact LeO.none _
      | refine LeO.ite ?_ ?_
      | refine LeO.bind ?_ (fun _ => ?_)
theorem expr_Eval.mono : ∀ a0 a1 k, LeO (expr_Eval.f k a0 a1) (expr_Eval.f (k + 1) a0 a1) := by
  intro a0 a1 k
  obtain ⟨ih0, ih1⟩ := expr_Eval.mono_l k
  unfold expr_Eval.f
  repeat' first
      | (with_reducible exact ih0 _ _ _)
      | (with_reducible exact ih1 _ _ _ _ _)
      | (with_reducible exact expr_Check.mono _ _)
      | (with_reducible exact expr_push.mono _ _ _ _ _ _ _)
      | (with_reducible exact expr_reckon.mono _ _ _ _ _ _ _ _)
      | (with_reducible exact subst_Check.mono _ _)
      | (with_reducible exact LeO.refl _)
      | (with_reducible exact LeO.none _)
      | (with_reducible refine LeO.ite ?_ ?_)
      | (with_reducible refine LeO.bind ?_ (fun _ => ?_))
      | exact ih0 _ _ _
      | exact ih1 _ _ _ _ _
      | exact expr_Check.mono _ _
      | exact expr_push.mono _ _ _ _ _ _ _
      | exact expr_reckon.mono _ _ _ _ _ _ _ _
      | exact subst_Check.mono _ _
      | exact LeO.none _
      | refine LeO.ite ?_ ?_
      | refine LeO.bind ?_ (fun _ => ?_)
def expr_Eval.T14 : Bool × List (List Nat × List Nat) := (true, [([], []), ([0], [0]), ([], []), ([], []), ([2, 3], [2, 3]), ([4], [4]), ([], []), ([], []), ([7], [7]), ([6, 8], [6, 8]), ([9], [9]), ([1, 5, 10], [1, 5, 10]), ([11], [11]), ([12], [12]), ([12], [12]), ([13, 11, 0, 1, 2, 3, 4, 5, 6, 7, 8, 9, 10, 11, 12, 13], [13]), ([14, 15, 0, 1, 2, 3, 4, 5, 6, 7, 8, 9, 10, 11, 12, 13, 14, 15], [14])])
def expr_Eval.B14 : List Nat := [0, 1, 0, 0, 12, 28, 0, 0, 128, 448, 960, 2047, 4095, 8191, 8191, 16383, 65535]
theorem expr_Eval.tab14 : rtab .any (opsOf Try.f21 14) = expr_Eval.T14 := by kernel_rfl
theorem expr_Eval.bits14 : waitsOk expr_Eval.T14.2 expr_Eval.B14 = true := by kernel_rfl
set_option maxHeartbeats 8000000 in
set_option maxRecDepth 100000 in
theorem expr_Eval.calls (k : Nat) (A0 : Option Addr) (c0 : Nat) (l0 : List (S52)) (A1 : Option Addr) (c1 : Nat) (l1 : List (S62)) (r1 : Int) (r2 : Int) (r3 : ByteArray) (r4 : Int) (w : World) (hr0 : Kd.C k52 w A0 l0.length l0) (hc0 : l0.length ≤ c0) (hr1 : Kd.C k62 w A1 l1.length l1) (hc1 : l1.length ≤ c1) (h : expr_Eval.f k l0 l1 = some (r1, r2, r3, r4)) :
    Calls Try.prog 21 #[.slice A0 l0.length c0, .slice A1 l1.length c1] w fun e w' => e = .returned (.tuple #[.agg #[.int .i64 r1, .int .i64 r2, .string r3], .int .i64 r4]) ∧ Below w.heap.size w w' := by
  have hu40 := Try.underlying40
  have hu52 := Try.underlying52
  have HR0 := Aside0.mk hr0
  have HC0 := Aside0.mk hc0
  clear hr0 hc0
  have HR1 := Aside0.mk hr1
  have HC1 := Aside0.mk hc1
  clear hr1 hc1
  have HB := Aside0.mk (Below.refl w.heap.size w)
  have H : ((expr_Check.f k l0).bind fun t249 => (if t249 = 0 then ((subst_Check.f k l1).bind fun t250 => (expr_Eval.j0 k l0 l1 t250)) else (expr_Eval.j0 k l0 l1 t249))) = some (r1, r2, r3, r4) := h
  clear h
  replace H := Option.bind_eq_some_iff.mp H
  obtain ⟨t249, A30, H⟩ := H
  replace H : (if t249 = 0 then ((subst_Check.f k l1).bind fun t250 => (expr_Eval.j0 k l0 l1 t250)) else (expr_Eval.j0 k l0 l1 t249)) = some (r1, r2, r3, r4) := H
  have A3 := Aside0.mk A30
  clear A30
  have HC4 := Aside0.mk H
  clear H
  go_enter Try.func21, Try.ntmps21
  go_upto_if 15 with (first | ((with_reducible refine gate_dst (N := 4) rfl ?_); refine box_event ?hg (N := 4) ?hd (cs := #[.int .i64 0, .int .i64 0, .string (⟨#[]⟩ : ByteArray)]) (t := 40) ?hr ?_; (case hd => rfl); (case hg => rfl); (case hr => first | (go_simp; done) | (go_simp; rfl)); intro gb248 hg w5 hbox hb; have n0_ := bs_ (be_ HB) hb; have n1_ := Aside0.mk (hbox); have n2_ := gs_ hg (be_ HB); have n3_ := gs_ hg (be_ HB); clear HB; have HB := n0_; have BK248 := n1_; have GW248 := n2_; have GE248 := n3_; clear n0_ n1_ n2_ n3_; clear hb hbox hg) | ((with_reducible refine gate_callee (f := 28) rfl ?_); refine goesL_ (some 13) rfl rfl Try.func28 (by kernel_rfl) rfl #[.slice A0 l0.length c0] rfl ga_ ?_; (with_reducible refine (expr_Check.calls k _ _ l0 t249 _ ?side1 ?side2 A3.out).mono ?_); (case side1 => repeat (first | exact (Kd.C_below HR0.out HB.out) | (with_reducible refine Kd.C_alloc ?_ _) | (with_reducible refine Kd.C_drewN ?_ _) | (with_reducible refine Kd.C_drew ?_))); (case side2 => exact HC0.out); rintro e w6 ⟨rfl, hb⟩; refine ⟨_, rfl, ?_⟩; have n0_ := bb_ (bu_ BK248) hb; have n1_ := bs_ (be_ HB) hb; clear BK248; clear HB; have BK248 := n0_; have HB := n1_; clear n0_ n1_; (try clear hb); (try clear hb2); (try clear hk); (try clear hi)))
  (try simp only [Act.put, List.setIfInBounds_toArray, List.set_cons_zero, List.set_cons_succ])
  go_cut [6] (fun v6 wc => ∃ (kq : Nat) (x6_3 : Int), v6 = .int .i64 x6_3 ∧ Aside0 (expr_Eval.j0 kq l0 l1 x6_3 = some (r1, r2, r3, r4)) ∧ Aside0 (kq ≤ k) ∧ Aside0 (wc.heap[gb248]? = some (.cells #[.int .i64 0, .int .i64 0, .string (⟨#[]⟩ : ByteArray)] 40 (0, 0))) ∧ Aside0 (Below w.heap.size w wc))
  case first =>
    have H := HC4.out
    clear HC4
    by_cases c7 : t249 = 0
    · rw [if_pos c7] at H
      obtain ⟨c7b0, c7b1⟩ := eqB_ c7
      clear c7
      (first | rw [c7b0] | (simp only [i64_w, i32_w]; rw [c7b0]) | skip)
      replace H := Option.bind_eq_some_iff.mp H
      obtain ⟨t250, A80, H⟩ := H
      replace H : (expr_Eval.j0 k l0 l1 t250) = some (r1, r2, r3, r4) := H
      have A8 := Aside0.mk A80
      clear A80
      have H' := Aside0.mk H
      clear H
      go_wp2_with (first | ((with_reducible refine gate_callee (f := 39) rfl ?_); refine goesL_ (some 17) rfl rfl Try.func39 (by kernel_rfl) rfl #[.slice A1 l1.length c1] rfl ga_ ?_; (with_reducible refine (subst_Check.calls k _ _ l1 t250 _ ?side1 ?side2 A8.out).mono ?_); (case side1 => repeat (first | exact (Kd.C_below HR1.out HB.out) | (with_reducible refine Kd.C_alloc ?_ _) | (with_reducible refine Kd.C_drewN ?_ _) | (with_reducible refine Kd.C_drew ?_))); (case side2 => exact HC1.out); rintro e w9 ⟨rfl, hb⟩; refine ⟨_, rfl, ?_⟩; have n0_ := bb_ (bu_ BK248) hb; have n1_ := bs_ (be_ HB) hb; clear BK248; clear HB; have BK248 := n0_; have HB := n1_; clear n0_ n1_; (try clear hb); (try clear hb2); (try clear hk); (try clear hi)))
      go_meet
      case rel => exact ⟨_, (t250), ra_, H', ⟨by first | omega | exact Nat.le_refl _⟩, ⟨by (with_reducible repeat (first | refine blk_drewN ?_ _ | refine blk_drew ?_ | refine blk_alloc ?_ _)); exact BK248.out⟩, ⟨by repeat (first | (with_reducible first | exact HB.out | apply below_alloc | apply pw_below_drewN | apply below_drew1 | refine below_set ?_ GE248.out) | exact HB.out)⟩⟩
    · rw [if_neg c7] at H
      obtain ⟨c7b0, c7b1⟩ := neB_ c7
      (first | rw [c7b0] | (simp only [i64_w, i32_w]; rw [c7b0]) | skip)
      have H' := Aside0.mk H
      clear H
      go_wp2
      go_meet
      case rel => exact ⟨_, (t249), ra_, H', ⟨by first | omega | exact Nat.le_refl _⟩, ⟨by (with_reducible repeat (first | refine blk_drewN ?_ _ | refine blk_drew ?_ | refine blk_alloc ?_ _)); exact BK248.out⟩, ⟨by repeat (first | (with_reducible first | exact HB.out | apply below_alloc | apply pw_below_drewN | apply below_drew1 | refine below_set ?_ GE248.out) | exact HB.out)⟩⟩
  case rest =>
    clear HC4
    try clear c1
    try clear c2
    try clear p2
    try clear c3
    try clear c7
    try clear c7b0
    try clear c7b1
    obtain ⟨kq, x6_3, rfl, HA, HJ3, BK248, HB⟩ := hcut
    cases kq with
    | zero => exact absurd HA.out (by simp [expr_Eval.j0])
    | succ kj3 =>
      have H := HA.out
      clear HA
      simp only [expr_Eval.j0] at H
      by_cases c10 : x6_3 = 0
      · rw [if_pos c10] at H
        obtain ⟨c10b0, c10b1⟩ := eqB_ c10
        clear c10
        have H' := Aside0.mk H
        clear H
        go_wp2
        go_loopg [7, 24] kj3 (fun kq v7 v24 w' => ∃ (x7_2 : List (S40)) (x24_2 : Int) (x249000_2 : Int) (x249001_2 : Int) (x249002_2 : ByteArray), v24 = .int .i64 x24_2 ∧ Aside0 (expr_Eval.l0 kq l1 x7_2 l0 (l0.length : Int) x24_2 = some (r1, r2, r3, r4)) ∧ Aside0 (kq ≤ kj3) ∧ Aside0 (Kd.R k40 40 w' w.heap.size (fun k_ => k_ ≠ gb248) v7 x7_2) ∧ Aside0 (w'.heap[gb248]? = some (.cells #[.int .i64 x249000_2, .int .i64 x249001_2, .string x249002_2] 40 (0, 0))) ∧ Aside0 (Below w.heap.size w w'))
        case atStart => exact ⟨(([] : List (S40))), (0), (0), (0), ((⟨#[]⟩ : ByteArray)), ra_, H', ⟨Nat.le_refl _⟩, ⟨by first | exact Kd.R_nil _ _ _ _ _ | exact Kd.N_nil _ _ _ _ _ | exact Kd.V_nil _ _ _ _ _ | exact Kd.Q_nil _ _ _ _ _ | exact Kd.S_nil _ _ _ _ _⟩, ⟨by (with_reducible repeat (first | refine blk_drewN ?_ _ | refine blk_drew ?_ | refine blk_alloc ?_ _)); exact BK248.out⟩, ⟨by repeat (first | (with_reducible first | exact HB.out | apply below_alloc | apply pw_below_drewN | apply below_drew1 | refine below_set ?_ GE248.out) | exact HB.out)⟩⟩
        case round =>
          clear H'
          try clear c1
          try clear c2
          try clear p2
          try clear c3
          try clear c7
          try clear c7b0
          try clear c7b1
          try clear c10
          try clear c10b0
          try clear c10b1
          try clear p2
          obtain ⟨x7_2, x24_2, x249000_2, x249001_2, x249002_2, rfl, HA, HK2, HO_7, BK248, HB⟩ := hrel
          cases gk with
          | zero => exact absurd HA.out (by simp [expr_Eval.l0])
          | succ k2 =>
            have H := HA.out
            clear HA
            simp only [expr_Eval.l0] at H
            by_cases c11 : x24_2 < (l0.length : Int)
            · rw [if_pos c11] at H
              have c11b0 : decide (x24_2 < (l0.length : Int)) = true := decide_eq_true c11
              clear c11
              by_cases c12 : 0 ≤ x24_2
              · rw [if_pos c12] at H
                have c12b0 : decide (0 ≤ x24_2) = true := decide_eq_true c12
                clear c12
                by_cases c13 : x24_2 < (l0.length : Int)
                · rw [if_pos c13] at H
                  have c13b0 : decide (x24_2 < (l0.length : Int)) = true := decide_eq_true c13
                  clear c13
                  replace H := Option.bind_eq_some_iff.mp H
                  obtain ⟨t255, A140, H⟩ := H
                  replace H : (if t255 = true then ((expr_push.f k2 ((rd_T52 l0 x24_2).f0) ((rd_T52 l0 x24_2).f1) ((rd_T52 l0 x24_2).f2.f0) ((rd_T52 l0 x24_2).f2.f1) ((rd_T52 l0 x24_2).f2.f2) l1).bind fun bt256 => (if bt256.2.2.2 = 0 then (if x7_2.length < 4398046511104 then (expr_Eval.l0 k2 l1 (x7_2 ++ [(⟨bt256.1, bt256.2.1, bt256.2.2.1⟩ : S40)]) l0 (l0.length : Int) (wrap64 (x24_2 + 1))) else (none)) else (some (0, 0, (⟨#[]⟩ : ByteArray), bt256.2.2.2)))) else (if 0 ≤ (wrap64 ((x7_2.length : Int) - 2)) then (if (wrap64 ((x7_2.length : Int) - 2)) < (x7_2.length : Int) then (if 0 ≤ (wrap64 ((wrap64 ((x7_2.length : Int) - 2)) + 1)) then (if (wrap64 ((wrap64 ((x7_2.length : Int) - 2)) + 1)) < (x7_2.length : Int) then ((expr_reckon.f k2 ((rd_T52 l0 x24_2).f0) ((rd_T40 x7_2 (wrap64 ((x7_2.length : Int) - 2))).f0) ((rd_T40 x7_2 (wrap64 ((x7_2.length : Int) - 2))).f1) ((rd_T40 x7_2 (wrap64 ((x7_2.length : Int) - 2))).f2) ((rd_T40 x7_2 (wrap64 ((wrap64 ((x7_2.length : Int) - 2)) + 1))).f0) ((rd_T40 x7_2 (wrap64 ((wrap64 ((x7_2.length : Int) - 2)) + 1))).f1) ((rd_T40 x7_2 (wrap64 ((wrap64 ((x7_2.length : Int) - 2)) + 1))).f2)).bind fun bt265 => (if (wrap64 ((x7_2.length : Int) - 2)) ≤ (x7_2.length : Int) then ((some (x7_2.take ((wrap64 ((x7_2.length : Int) - 2)) : Int).toNat : List (S40))).bind fun y269 => (if bt265.2.2.2 = 0 then (if y269.length < 4398046511104 then (expr_Eval.l0 k2 l1 (y269 ++ [(⟨bt265.1, bt265.2.1, bt265.2.2.1⟩ : S40)]) l0 (l0.length : Int) (wrap64 (x24_2 + 1))) else (none)) else (some (0, 0, (⟨#[]⟩ : ByteArray), bt265.2.2.2)))) else (none))) else (none)) else (none)) else (none)) else (none))) = some (r1, r2, r3, r4) := H
                  have A14 := Aside0.mk A140
                  clear A140
                  by_cases c15 : t255 = true
                  · subst c15
                    have H1 : ((expr_push.f k2 ((rd_T52 l0 x24_2).f0) ((rd_T52 l0 x24_2).f1) ((rd_T52 l0 x24_2).f2.f0) ((rd_T52 l0 x24_2).f2.f1) ((rd_T52 l0 x24_2).f2.f2) l1).bind fun bt256 => (if bt256.2.2.2 = 0 then (if x7_2.length < 4398046511104 then (expr_Eval.l0 k2 l1 (x7_2 ++ [(⟨bt256.1, bt256.2.1, bt256.2.2.1⟩ : S40)]) l0 (l0.length : Int) (wrap64 (x24_2 + 1))) else (none)) else (some (0, 0, (⟨#[]⟩ : ByteArray), bt256.2.2.2)))) = some (r1, r2, r3, r4) := by rw [if_pos rfl] at H; exact H
                    clear H
                    have H := H1
                    clear H1
                    replace H := Option.bind_eq_some_iff.mp H
                    obtain ⟨⟨t256, t257, t258, t259⟩, A160, H⟩ := H
                    replace H : (if t259 = 0 then (if x7_2.length < 4398046511104 then (expr_Eval.l0 k2 l1 (x7_2 ++ [(⟨t256, t257, t258⟩ : S40)]) l0 (l0.length : Int) (wrap64 (x24_2 + 1))) else (none)) else (some (0, 0, (⟨#[]⟩ : ByteArray), t259))) = some (r1, r2, r3, r4) := H
                    have A16 := Aside0.mk A160
                    clear A160
                    by_cases c17 : t259 = 0
                    · rw [if_pos c17] at H
                      obtain ⟨c17b0, c17b1⟩ := eqB_ c17
                      clear c17
                      by_cases c18 : x7_2.length < 4398046511104
                      · rw [if_pos c18] at H
                        have LMc18 := Aside0.mk c18
                        clear c18
                        obtain ⟨y260, hy260⟩ : ∃ y_ : List (S40), y_ = (x7_2 ++ [(⟨t256, t257, t258⟩ : S40)]) := ⟨_, rfl⟩
                        replace H : (expr_Eval.l0 k2 l1 y260 l0 (l0.length : Int) (wrap64 (x24_2 + 1))) = some (r1, r2, r3, r4) := by first | (rw [hy260]; with_reducible exact H) | (have H2_ := (Option.bind_some _ _).symm.trans H; rw [hy260]; with_reducible exact H2_) | (have H2_ := (Option.bind_some _ _).symm.trans H; with_reducible exact H2_) | with_reducible exact H | (rw [hy260]; exact H) | exact H
                        have Ny260 := Aside0.mk hy260
                        clear hy260
                        have H' := Aside0.mk H
                        clear H
                        have p252 : 0 ≤ (x24_2 : Int) := dt_
                        have q252 : x24_2 < (l0.length : Int) := dt_
                        obtain ⟨ad252, e252, hx252_0, hx252_1, hx252_2, hx252_3, hx252_4⟩ := at_T52 HR0.out x24_2 p252 q252
                        cases e252
                        replace hx252_0 := cm_ HB hx252_0
                        replace hx252_1 := cm_ HB hx252_1
                        replace hx252_2 := cm_ HB hx252_2
                        replace hx252_3 := cm_ HB hx252_3
                        replace hx252_4 := cm_ HB hx252_4
                        replace p252 := eq_true p252
                        replace q252 := eq_true q252
                        go_wp2_with (first | ((with_reducible refine gate_dst (N := 9) rfl ?_); refine box_event ?hg (N := 9) ?hd (cs := #[.int .i64 0, .string (⟨#[]⟩ : ByteArray), .int .i64 0, .int .i64 0, .string (⟨#[]⟩ : ByteArray)]) (t := 52) ?hr ?_; (case hd => rfl); (case hg => rfl); (case hr => first | (go_simp; done) | (go_simp; rfl)); intro gb253 hg w19 hbox hb; have n0_ := kb_ (ku_ HO_7.out) hb; have n1_ := bb_ (bu_ BK248) hb; have n2_ := bs_ (be_ HB) hb; have n3_ := Aside0.mk (hbox); have n4_ := gs_ hg (be_ HB); have n5_ := gs_ hg (be_ HB); have n6_ := nl_ hg (bu_ BK248); have n7_ := ng_ hg (bu_ BK248); clear HO_7; clear BK248; clear HB; have HO_7 := n0_; have BK248 := n1_; have HB := n2_; have BK253 := n3_; have GW253 := n4_; have GE253 := n5_; have NB248_253 := n6_; have NB253_248 := n7_; clear n0_ n1_ n2_ n3_ n4_ n5_ n6_ n7_; clear hb hbox hg; have hnb20 := NB253_248.out; have hnc20 := NB248_253.out; have hcz21_0 : w19.cell? ⟨gb253, 0, none⟩ = some (.int .i64 0) := (blk_cell BK253.out 0).trans rfl; have hcz21_1 : w19.cell? ⟨gb253, 1, none⟩ = some (.string (⟨#[]⟩ : ByteArray)) := (blk_cell BK253.out 1).trans rfl; have hcz21_2 : w19.cell? ⟨gb253, 2, none⟩ = some (.int .i64 0) := (blk_cell BK253.out 2).trans rfl; have hcz21_3 : w19.cell? ⟨gb253, 3, none⟩ = some (.int .i64 0) := (blk_cell BK253.out 3).trans rfl; have hcz21_4 : w19.cell? ⟨gb253, 4, none⟩ = some (.string (⟨#[]⟩ : ByteArray)) := (blk_cell BK253.out 4).trans rfl; have hfz21_0 := blk_frozen BK253.out 0; have hfz21_1 := blk_frozen BK253.out 1; have hfz21_2 := blk_frozen BK253.out 2; have hfz21_3 := blk_frozen BK253.out 3; have hfz21_4 := blk_frozen BK253.out 4) | ((with_reducible refine gate_dst (N := 10) rfl ?_); refine box_event ?hg (N := 10) ?hd (cs := #[.int .i64 0, .int .i64 0, .string (⟨#[]⟩ : ByteArray)]) (t := 40) ?hr ?_; (case hd => rfl); (case hg => rfl); (case hr => first | (go_simp; done) | (go_simp; rfl)); intro gb254 hg w22 hbox hb; have n0_ := Aside0.mk (Kd.R_below (Kd.R_elderB (ku_ (Kd.R_mono (Kd.R_far (p := ⟨gb253, 4, none⟩) (Kd.R_far (p := ⟨gb253, 3, none⟩) (Kd.R_far (p := ⟨gb253, 2, none⟩) (Kd.R_far (p := ⟨gb253, 1, none⟩) (Kd.R_far (p := ⟨gb253, 0, none⟩) (Kd.R_types HO_7.out BK253.out (by decide)) (fun _ hk => hk.2) (.int .i64 ((rd_T52 l0 x24_2).f0))) (fun _ hk => hk.2) (.string ((rd_T52 l0 x24_2).f1))) (fun _ hk => hk.2) (.int .i64 ((rd_T52 l0 x24_2).f2.f0))) (fun _ hk => hk.2) (.int .i64 ((rd_T52 l0 x24_2).f2.f1))) (fun _ hk => hk.2) (.string ((rd_T52 l0 x24_2).f2.f2))) (fun _ h_ => h_.1))) gb254 (Nat.le_of_eq hg.symm)) hb); have n1_ := bb_ (bu_ BK248) hb; have n2_ := Aside0.mk (blk_below (o := .cells #[.int .i64 ((rd_T52 l0 x24_2).f0), .string ((rd_T52 l0 x24_2).f1), .int .i64 ((rd_T52 l0 x24_2).f2.f0), .int .i64 ((rd_T52 l0 x24_2).f2.f1), .string ((rd_T52 l0 x24_2).f2.f2)] 52 (0, 0)) (bp_ BK253) hb); have n3_ := bs_ (be_ HB) hb; have n4_ := Aside0.mk (hbox); have n5_ := gs_ hg (be_ HB); have n6_ := gs_ hg (be_ HB); have n7_ := nl_ hg (bu_ BK248); have n8_ := ng_ hg (bu_ BK248); have n9_ := Aside0.mk ((by rw [hg]; exact Nat.ne_of_lt (blk_lt (o := .cells #[.int .i64 ((rd_T52 l0 x24_2).f0), .string ((rd_T52 l0 x24_2).f1), .int .i64 ((rd_T52 l0 x24_2).f2.f0), .int .i64 ((rd_T52 l0 x24_2).f2.f1), .string ((rd_T52 l0 x24_2).f2.f2)] 52 (0, 0)) (bp_ BK253)) : gb253 ≠ gb254)); have n10_ := Aside0.mk ((by rw [hg]; exact Nat.ne_of_gt (blk_lt (o := .cells #[.int .i64 ((rd_T52 l0 x24_2).f0), .string ((rd_T52 l0 x24_2).f1), .int .i64 ((rd_T52 l0 x24_2).f2.f0), .int .i64 ((rd_T52 l0 x24_2).f2.f1), .string ((rd_T52 l0 x24_2).f2.f2)] 52 (0, 0)) (bp_ BK253)) : gb254 ≠ gb253)); clear HO_7; clear BK248; clear BK253; clear HB; have HO_7 := n0_; have BK248 := n1_; have BK253 := n2_; have HB := n3_; have BK254 := n4_; have GW254 := n5_; have GE254 := n6_; have NB248_254 := n7_; have NB254_248 := n8_; have NB253_254 := n9_; have NB254_253 := n10_; clear n0_ n1_ n2_ n3_ n4_ n5_ n6_ n7_ n8_ n9_ n10_; clear hb hbox hg; have hnb23 := NB253_254.out; have hnc23 := NB254_253.out; have hcz24_0 : w22.cell? ⟨gb253, 0, none⟩ = some (.int .i64 ((rd_T52 l0 x24_2).f0)) := (blk_cell BK253.out 0).trans rfl; have hcz24_1 : w22.cell? ⟨gb253, 1, none⟩ = some (.string ((rd_T52 l0 x24_2).f1)) := (blk_cell BK253.out 1).trans rfl; have hcz24_2 : w22.cell? ⟨gb253, 2, none⟩ = some (.int .i64 ((rd_T52 l0 x24_2).f2.f0)) := (blk_cell BK253.out 2).trans rfl; have hcz24_3 : w22.cell? ⟨gb253, 3, none⟩ = some (.int .i64 ((rd_T52 l0 x24_2).f2.f1)) := (blk_cell BK253.out 3).trans rfl; have hcz24_4 : w22.cell? ⟨gb253, 4, none⟩ = some (.string ((rd_T52 l0 x24_2).f2.f2)) := (blk_cell BK253.out 4).trans rfl; have hfz24_0 := blk_frozen BK253.out 0; have hfz24_1 := blk_frozen BK253.out 1; have hfz24_2 := blk_frozen BK253.out 2; have hfz24_3 := blk_frozen BK253.out 3; have hfz24_4 := blk_frozen BK253.out 4) | ((with_reducible refine gate_callee (f := 40) rfl ?_); refine goesL_ (some 30) rfl rfl Try.func40 (by kernel_rfl) rfl #[.int .i64 ((rd_T52 l0 x24_2).f0)] rfl ga_ ?_; (with_reducible refine (expr_pushes.calls ((rd_T52 l0 x24_2).f0) true _ A14.out).mono ?_); rintro e w' ⟨rfl, ⟨nd, rfl⟩⟩; refine ⟨_, rfl, ?_⟩; (try (rw [drewN_self w22]; generalize hq_ : World.drewN w22 _ = w22; have n0_ : Aside0 (Kd.R k40 40 w22 w.heap.size (fun k_ => k_ ≠ gb248 ∧ k_ ≠ gb254) u7 x7_2) := ⟨by rw [← hq_]; exact (ku_ HO_7.out)⟩; have n1_ : Aside0 (w22.heap[gb248]? = some (.cells #[.int .i64 x249000_2, .int .i64 x249001_2, .string x249002_2] 40 (0, 0))) := ⟨by rw [← hq_]; exact (bu_ BK248)⟩; have n2_ : Aside0 (w22.heap[gb253]? = some (.cells #[.int .i64 ((rd_T52 l0 x24_2).f0), .string ((rd_T52 l0 x24_2).f1), .int .i64 ((rd_T52 l0 x24_2).f2.f0), .int .i64 ((rd_T52 l0 x24_2).f2.f1), .string ((rd_T52 l0 x24_2).f2.f2)] 52 (0, 0))) := ⟨by rw [← hq_]; exact (bu_ BK253)⟩; have n3_ : Aside0 (w22.heap[gb254]? = some (.cells #[.int .i64 0, .int .i64 0, .string (⟨#[]⟩ : ByteArray)] 40 (0, 0))) := ⟨by rw [← hq_]; exact (bu_ BK254)⟩; have n4_ : Aside0 (Below w.heap.size w w22) := ⟨by rw [← hq_]; exact (be_ HB)⟩; clear HO_7 BK248 BK253 BK254 HB hq_; have HO_7 := n0_; have BK248 := n1_; have BK253 := n2_; have BK254 := n3_; have HB := n4_; clear n0_ n1_ n2_ n3_ n4_)); have hcz25_0 : w22.cell? ⟨gb253, 0, none⟩ = some (.int .i64 ((rd_T52 l0 x24_2).f0)) := (blk_cell BK253.out 0).trans rfl; have hcz25_1 : w22.cell? ⟨gb253, 1, none⟩ = some (.string ((rd_T52 l0 x24_2).f1)) := (blk_cell BK253.out 1).trans rfl; have hcz25_2 : w22.cell? ⟨gb253, 2, none⟩ = some (.int .i64 ((rd_T52 l0 x24_2).f2.f0)) := (blk_cell BK253.out 2).trans rfl; have hcz25_3 : w22.cell? ⟨gb253, 3, none⟩ = some (.int .i64 ((rd_T52 l0 x24_2).f2.f1)) := (blk_cell BK253.out 3).trans rfl; have hcz25_4 : w22.cell? ⟨gb253, 4, none⟩ = some (.string ((rd_T52 l0 x24_2).f2.f2)) := (blk_cell BK253.out 4).trans rfl; have hfz25_0 := blk_frozen BK253.out 0; have hfz25_1 := blk_frozen BK253.out 1; have hfz25_2 := blk_frozen BK253.out 2; have hfz25_3 := blk_frozen BK253.out 3; have hfz25_4 := blk_frozen BK253.out 4) | ((with_reducible refine gate_callee (f := 41) rfl ?_); refine goesL_ (some 34) rfl rfl Try.func41 (by kernel_rfl) rfl #[.agg #[.int .i64 ((rd_T52 l0 x24_2).f0), .string ((rd_T52 l0 x24_2).f1), .int .i64 ((rd_T52 l0 x24_2).f2.f0), .int .i64 ((rd_T52 l0 x24_2).f2.f1), .string ((rd_T52 l0 x24_2).f2.f2)], .slice A1 l1.length c1] rfl ga_ ?_; (with_reducible refine (expr_push.calls k2 ((rd_T52 l0 x24_2).f0) ((rd_T52 l0 x24_2).f1) ((rd_T52 l0 x24_2).f2.f0) ((rd_T52 l0 x24_2).f2.f1) ((rd_T52 l0 x24_2).f2.f2) _ _ l1 t256 t257 t258 t259 _ ?side1 ?side2 A16.out).mono ?_); (case side1 => repeat (first | exact (Kd.C_below HR1.out HB.out) | (with_reducible refine Kd.C_alloc ?_ _) | (with_reducible refine Kd.C_drewN ?_ _) | (with_reducible refine Kd.C_drew ?_))); (case side2 => exact HC1.out); rintro e w26 ⟨rfl, hb⟩; refine ⟨_, rfl, ?_⟩; have n0_ := kb_ (ku_ HO_7.out) hb; have n1_ := bb_ (bu_ BK248) hb; have n2_ := bb_ (bu_ BK253) hb; have n3_ := bb_ (bu_ BK254) hb; have n4_ := bs_ (be_ HB) hb; clear HO_7; clear BK248; clear BK253; clear BK254; clear HB; have HO_7 := n0_; have BK248 := n1_; have BK253 := n2_; have BK254 := n3_; have HB := n4_; clear n0_ n1_ n2_ n3_ n4_; (try clear hb); (try clear hb2); (try clear hk); (try clear hi); have hnb27 := NB254_248.out; have hnc27 := NB248_254.out; have hcz28_0 : w26.cell? ⟨gb254, 0, none⟩ = some (.int .i64 0) := (blk_cell BK254.out 0).trans rfl; have hcz28_1 : w26.cell? ⟨gb254, 1, none⟩ = some (.int .i64 0) := (blk_cell BK254.out 1).trans rfl; have hcz28_2 : w26.cell? ⟨gb254, 2, none⟩ = some (.string (⟨#[]⟩ : ByteArray)) := (blk_cell BK254.out 2).trans rfl; have hfz28_0 := blk_frozen BK254.out 0; have hfz28_1 := blk_frozen BK254.out 1; have hfz28_2 := blk_frozen BK254.out 2) | ((with_reducible refine gate_builtin (b := .append) (xs := #[.tmp 62, .tmp 64]) rfl ?_); at_builtin; refine Kd.R_append k40 (w0 := w) w.heap.size rfl (.tmp 62) (.tmp 64) 64 40 (.agg #[(.int .i64 0), (.int .i64 0), (.string ⟨#[]⟩)]) 32 rfl Try.underlying64 info40 rfl (by decide) (by omega) u7 x7_2 (⟨t256, t257, t258⟩ : S40) [.int .i64 t256, .int .i64 t257, .string t258] (fun k_ => k_ ≠ gb248 ∧ k_ ≠ gb254) (fun _ => False) rfl (by first | (go_simp; done) | (go_simp; rfl)) ?aP (fun _ hk => hk.elim) ?aF ?aO ?aB ?aS ?aL ?_; (case aP => exact k40_mkM _ _ _ (⟨t256, t257, t258⟩ : S40)); (case aB => exact (be_ HB)); (case aF => exact (fun k_ hk => ⟨Kd.freshB (bu_ BK248) k_ hk, Kd.freshB (o := .cells #[.int .i64 t256, .int .i64 t257, .string t258] 40 (0, 0)) (bp_ BK254) k_ hk⟩)); (case aO => exact (by (with_reducible repeat (first | apply Kd.R_alloc | apply Kd.R_drewN | apply Kd.R_drew)); exact Kd.R_mono (Kd.R_far (p := ⟨gb254, 2, none⟩) (Kd.R_far (p := ⟨gb254, 1, none⟩) (Kd.R_far (p := ⟨gb254, 0, none⟩) (Kd.R_mono HO_7.out (fun k_ hk => (⟨hk, hk.2⟩ : _ ∧ k_ ≠ gb254))) (fun _ hk => hk.2) (.int .i64 t256)) (fun _ hk => hk.2) (.int .i64 t257)) (fun _ hk => hk.2) (.string t258)) (fun _ hk => ⟨hk.1.1, hk.1.2⟩))); (case aS => exact (below_size (be_ HB))); (case aL => have := LMc18.out; omega); intro v261 w29 ho hb hg hat; rw [← Ny260.out] at ho; have n0_ := Aside0.mk (blk_grown (bu_ BK248) hg (Kd.R_away HO_7.out (fun _ hk => hk.1))); have n1_ := Aside0.mk (blk_grown (bu_ BK253) hg (Kd.R_ne HO_7.out BK253.out (by decide))); have n2_ := Aside0.mk (blk_grown (o := .cells #[.int .i64 t256, .int .i64 t257, .string t258] 40 (0, 0)) (bp_ BK254) hg (Kd.R_away HO_7.out (fun _ hk => hk.2))); have n3_ := Aside0.mk (hb); have n4_ := Aside0.mk (ho); clear BK248; clear BK253; clear BK254; clear HB; clear HO_7; have BK248 := n0_; have BK253 := n1_; have BK254 := n2_; have HB := n3_; have HO262 := n4_; clear n0_ n1_ n2_ n3_ n4_; clear ho hb hg hat))
                        go_roundg k2
                        case measure => have := HJ3.out; have := HK2.out; omega
                        case rel => exact ⟨(y260), (wrap64 (x24_2 + 1)), (x249000_2), (x249001_2), (x249002_2), ra_, H', ⟨by have := HJ3.out; have := HK2.out; omega⟩, ⟨by (with_reducible repeat (first | apply Kd.R_alloc | apply Kd.R_drewN | apply Kd.R_drew)); exact Kd.R_mono HO262.out (fun _ hk => hk.1)⟩, ⟨by (with_reducible repeat (first | refine blk_drewN ?_ _ | refine blk_drew ?_ | refine blk_alloc ?_ _)); exact BK248.out⟩, ⟨by repeat (first | (with_reducible first | exact HB.out | apply below_alloc | apply pw_below_drewN | apply below_drew1 | refine below_set ?_ GE248.out | refine below_set ?_ GE253.out | refine below_set ?_ GE254.out) | exact HB.out)⟩⟩
                      · rw [if_neg c18] at H
                        exact absurd H (by simp)
                    · rw [if_neg c17] at H
                      obtain ⟨c17b0, c17b1⟩ := neB_ c17
                      simp only [Option.some.injEq, Prod.mk.injEq] at H
                      obtain ⟨rfl, rfl, rfl, rfl⟩ := H
                      have p252 : 0 ≤ (x24_2 : Int) := dt_
                      have q252 : x24_2 < (l0.length : Int) := dt_
                      obtain ⟨ad252, e252, hx252_0, hx252_1, hx252_2, hx252_3, hx252_4⟩ := at_T52 HR0.out x24_2 p252 q252
                      cases e252
                      replace hx252_0 := cm_ HB hx252_0
                      replace hx252_1 := cm_ HB hx252_1
                      replace hx252_2 := cm_ HB hx252_2
                      replace hx252_3 := cm_ HB hx252_3
                      replace hx252_4 := cm_ HB hx252_4
                      replace p252 := eq_true p252
                      replace q252 := eq_true q252
                      go_wp2_with (first | ((with_reducible refine gate_dst (N := 9) rfl ?_); refine box_event ?hg (N := 9) ?hd (cs := #[.int .i64 0, .string (⟨#[]⟩ : ByteArray), .int .i64 0, .int .i64 0, .string (⟨#[]⟩ : ByteArray)]) (t := 52) ?hr ?_; (case hd => rfl); (case hg => rfl); (case hr => first | (go_simp; done) | (go_simp; rfl)); intro gb253 hg w30 hbox hb; have n0_ := kb_ (ku_ HO_7.out) hb; have n1_ := bb_ (bu_ BK248) hb; have n2_ := bs_ (be_ HB) hb; have n3_ := Aside0.mk (hbox); have n4_ := gs_ hg (be_ HB); have n5_ := gs_ hg (be_ HB); have n6_ := nl_ hg (bu_ BK248); have n7_ := ng_ hg (bu_ BK248); clear HO_7; clear BK248; clear HB; have HO_7 := n0_; have BK248 := n1_; have HB := n2_; have BK253 := n3_; have GW253 := n4_; have GE253 := n5_; have NB248_253 := n6_; have NB253_248 := n7_; clear n0_ n1_ n2_ n3_ n4_ n5_ n6_ n7_; clear hb hbox hg; have hnb31 := NB253_248.out; have hnc31 := NB248_253.out; have hcz32_0 : w30.cell? ⟨gb253, 0, none⟩ = some (.int .i64 0) := (blk_cell BK253.out 0).trans rfl; have hcz32_1 : w30.cell? ⟨gb253, 1, none⟩ = some (.string (⟨#[]⟩ : ByteArray)) := (blk_cell BK253.out 1).trans rfl; have hcz32_2 : w30.cell? ⟨gb253, 2, none⟩ = some (.int .i64 0) := (blk_cell BK253.out 2).trans rfl; have hcz32_3 : w30.cell? ⟨gb253, 3, none⟩ = some (.int .i64 0) := (blk_cell BK253.out 3).trans rfl; have hcz32_4 : w30.cell? ⟨gb253, 4, none⟩ = some (.string (⟨#[]⟩ : ByteArray)) := (blk_cell BK253.out 4).trans rfl; have hfz32_0 := blk_frozen BK253.out 0; have hfz32_1 := blk_frozen BK253.out 1; have hfz32_2 := blk_frozen BK253.out 2; have hfz32_3 := blk_frozen BK253.out 3; have hfz32_4 := blk_frozen BK253.out 4) | ((with_reducible refine gate_dst (N := 10) rfl ?_); refine box_event ?hg (N := 10) ?hd (cs := #[.int .i64 0, .int .i64 0, .string (⟨#[]⟩ : ByteArray)]) (t := 40) ?hr ?_; (case hd => rfl); (case hg => rfl); (case hr => first | (go_simp; done) | (go_simp; rfl)); intro gb254 hg w33 hbox hb; have n0_ := Aside0.mk (Kd.R_below (Kd.R_elderB (ku_ (Kd.R_mono (Kd.R_far (p := ⟨gb253, 4, none⟩) (Kd.R_far (p := ⟨gb253, 3, none⟩) (Kd.R_far (p := ⟨gb253, 2, none⟩) (Kd.R_far (p := ⟨gb253, 1, none⟩) (Kd.R_far (p := ⟨gb253, 0, none⟩) (Kd.R_types HO_7.out BK253.out (by decide)) (fun _ hk => hk.2) (.int .i64 ((rd_T52 l0 x24_2).f0))) (fun _ hk => hk.2) (.string ((rd_T52 l0 x24_2).f1))) (fun _ hk => hk.2) (.int .i64 ((rd_T52 l0 x24_2).f2.f0))) (fun _ hk => hk.2) (.int .i64 ((rd_T52 l0 x24_2).f2.f1))) (fun _ hk => hk.2) (.string ((rd_T52 l0 x24_2).f2.f2))) (fun _ h_ => h_.1))) gb254 (Nat.le_of_eq hg.symm)) hb); have n1_ := bb_ (bu_ BK248) hb; have n2_ := Aside0.mk (blk_below (o := .cells #[.int .i64 ((rd_T52 l0 x24_2).f0), .string ((rd_T52 l0 x24_2).f1), .int .i64 ((rd_T52 l0 x24_2).f2.f0), .int .i64 ((rd_T52 l0 x24_2).f2.f1), .string ((rd_T52 l0 x24_2).f2.f2)] 52 (0, 0)) (bp_ BK253) hb); have n3_ := bs_ (be_ HB) hb; have n4_ := Aside0.mk (hbox); have n5_ := gs_ hg (be_ HB); have n6_ := gs_ hg (be_ HB); have n7_ := nl_ hg (bu_ BK248); have n8_ := ng_ hg (bu_ BK248); have n9_ := Aside0.mk ((by rw [hg]; exact Nat.ne_of_lt (blk_lt (o := .cells #[.int .i64 ((rd_T52 l0 x24_2).f0), .string ((rd_T52 l0 x24_2).f1), .int .i64 ((rd_T52 l0 x24_2).f2.f0), .int .i64 ((rd_T52 l0 x24_2).f2.f1), .string ((rd_T52 l0 x24_2).f2.f2)] 52 (0, 0)) (bp_ BK253)) : gb253 ≠ gb254)); have n10_ := Aside0.mk ((by rw [hg]; exact Nat.ne_of_gt (blk_lt (o := .cells #[.int .i64 ((rd_T52 l0 x24_2).f0), .string ((rd_T52 l0 x24_2).f1), .int .i64 ((rd_T52 l0 x24_2).f2.f0), .int .i64 ((rd_T52 l0 x24_2).f2.f1), .string ((rd_T52 l0 x24_2).f2.f2)] 52 (0, 0)) (bp_ BK253)) : gb254 ≠ gb253)); clear HO_7; clear BK248; clear BK253; clear HB; have HO_7 := n0_; have BK248 := n1_; have BK253 := n2_; have HB := n3_; have BK254 := n4_; have GW254 := n5_; have GE254 := n6_; have NB248_254 := n7_; have NB254_248 := n8_; have NB253_254 := n9_; have NB254_253 := n10_; clear n0_ n1_ n2_ n3_ n4_ n5_ n6_ n7_ n8_ n9_ n10_; clear hb hbox hg; have hnb34 := NB253_254.out; have hnc34 := NB254_253.out; have hcz35_0 : w33.cell? ⟨gb253, 0, none⟩ = some (.int .i64 ((rd_T52 l0 x24_2).f0)) := (blk_cell BK253.out 0).trans rfl; have hcz35_1 : w33.cell? ⟨gb253, 1, none⟩ = some (.string ((rd_T52 l0 x24_2).f1)) := (blk_cell BK253.out 1).trans rfl; have hcz35_2 : w33.cell? ⟨gb253, 2, none⟩ = some (.int .i64 ((rd_T52 l0 x24_2).f2.f0)) := (blk_cell BK253.out 2).trans rfl; have hcz35_3 : w33.cell? ⟨gb253, 3, none⟩ = some (.int .i64 ((rd_T52 l0 x24_2).f2.f1)) := (blk_cell BK253.out 3).trans rfl; have hcz35_4 : w33.cell? ⟨gb253, 4, none⟩ = some (.string ((rd_T52 l0 x24_2).f2.f2)) := (blk_cell BK253.out 4).trans rfl; have hfz35_0 := blk_frozen BK253.out 0; have hfz35_1 := blk_frozen BK253.out 1; have hfz35_2 := blk_frozen BK253.out 2; have hfz35_3 := blk_frozen BK253.out 3; have hfz35_4 := blk_frozen BK253.out 4) | ((with_reducible refine gate_callee (f := 40) rfl ?_); refine goesL_ (some 30) rfl rfl Try.func40 (by kernel_rfl) rfl #[.int .i64 ((rd_T52 l0 x24_2).f0)] rfl ga_ ?_; (with_reducible refine (expr_pushes.calls ((rd_T52 l0 x24_2).f0) true _ A14.out).mono ?_); rintro e w' ⟨rfl, ⟨nd, rfl⟩⟩; refine ⟨_, rfl, ?_⟩; (try (rw [drewN_self w33]; generalize hq_ : World.drewN w33 _ = w33; have n0_ : Aside0 (Kd.R k40 40 w33 w.heap.size (fun k_ => k_ ≠ gb248 ∧ k_ ≠ gb254) u7 x7_2) := ⟨by rw [← hq_]; exact (ku_ HO_7.out)⟩; have n1_ : Aside0 (w33.heap[gb248]? = some (.cells #[.int .i64 x249000_2, .int .i64 x249001_2, .string x249002_2] 40 (0, 0))) := ⟨by rw [← hq_]; exact (bu_ BK248)⟩; have n2_ : Aside0 (w33.heap[gb253]? = some (.cells #[.int .i64 ((rd_T52 l0 x24_2).f0), .string ((rd_T52 l0 x24_2).f1), .int .i64 ((rd_T52 l0 x24_2).f2.f0), .int .i64 ((rd_T52 l0 x24_2).f2.f1), .string ((rd_T52 l0 x24_2).f2.f2)] 52 (0, 0))) := ⟨by rw [← hq_]; exact (bu_ BK253)⟩; have n3_ : Aside0 (w33.heap[gb254]? = some (.cells #[.int .i64 0, .int .i64 0, .string (⟨#[]⟩ : ByteArray)] 40 (0, 0))) := ⟨by rw [← hq_]; exact (bu_ BK254)⟩; have n4_ : Aside0 (Below w.heap.size w w33) := ⟨by rw [← hq_]; exact (be_ HB)⟩; clear HO_7 BK248 BK253 BK254 HB hq_; have HO_7 := n0_; have BK248 := n1_; have BK253 := n2_; have BK254 := n3_; have HB := n4_; clear n0_ n1_ n2_ n3_ n4_)); have hcz36_0 : w33.cell? ⟨gb253, 0, none⟩ = some (.int .i64 ((rd_T52 l0 x24_2).f0)) := (blk_cell BK253.out 0).trans rfl; have hcz36_1 : w33.cell? ⟨gb253, 1, none⟩ = some (.string ((rd_T52 l0 x24_2).f1)) := (blk_cell BK253.out 1).trans rfl; have hcz36_2 : w33.cell? ⟨gb253, 2, none⟩ = some (.int .i64 ((rd_T52 l0 x24_2).f2.f0)) := (blk_cell BK253.out 2).trans rfl; have hcz36_3 : w33.cell? ⟨gb253, 3, none⟩ = some (.int .i64 ((rd_T52 l0 x24_2).f2.f1)) := (blk_cell BK253.out 3).trans rfl; have hcz36_4 : w33.cell? ⟨gb253, 4, none⟩ = some (.string ((rd_T52 l0 x24_2).f2.f2)) := (blk_cell BK253.out 4).trans rfl; have hfz36_0 := blk_frozen BK253.out 0; have hfz36_1 := blk_frozen BK253.out 1; have hfz36_2 := blk_frozen BK253.out 2; have hfz36_3 := blk_frozen BK253.out 3; have hfz36_4 := blk_frozen BK253.out 4) | ((with_reducible refine gate_callee (f := 41) rfl ?_); refine goesL_ (some 34) rfl rfl Try.func41 (by kernel_rfl) rfl #[.agg #[.int .i64 ((rd_T52 l0 x24_2).f0), .string ((rd_T52 l0 x24_2).f1), .int .i64 ((rd_T52 l0 x24_2).f2.f0), .int .i64 ((rd_T52 l0 x24_2).f2.f1), .string ((rd_T52 l0 x24_2).f2.f2)], .slice A1 l1.length c1] rfl ga_ ?_; (with_reducible refine (expr_push.calls k2 ((rd_T52 l0 x24_2).f0) ((rd_T52 l0 x24_2).f1) ((rd_T52 l0 x24_2).f2.f0) ((rd_T52 l0 x24_2).f2.f1) ((rd_T52 l0 x24_2).f2.f2) _ _ l1 t256 t257 t258 t259 _ ?side1 ?side2 A16.out).mono ?_); (case side1 => repeat (first | exact (Kd.C_below HR1.out HB.out) | (with_reducible refine Kd.C_alloc ?_ _) | (with_reducible refine Kd.C_drewN ?_ _) | (with_reducible refine Kd.C_drew ?_))); (case side2 => exact HC1.out); rintro e w37 ⟨rfl, hb⟩; refine ⟨_, rfl, ?_⟩; have n0_ := kb_ (ku_ HO_7.out) hb; have n1_ := bb_ (bu_ BK248) hb; have n2_ := bb_ (bu_ BK253) hb; have n3_ := bb_ (bu_ BK254) hb; have n4_ := bs_ (be_ HB) hb; clear HO_7; clear BK248; clear BK253; clear BK254; clear HB; have HO_7 := n0_; have BK248 := n1_; have BK253 := n2_; have BK254 := n3_; have HB := n4_; clear n0_ n1_ n2_ n3_ n4_; (try clear hb); (try clear hb2); (try clear hk); (try clear hi); have hnb38 := NB254_248.out; have hnc38 := NB248_254.out; have hcz39_0 : w37.cell? ⟨gb254, 0, none⟩ = some (.int .i64 0) := (blk_cell BK254.out 0).trans rfl; have hcz39_1 : w37.cell? ⟨gb254, 1, none⟩ = some (.int .i64 0) := (blk_cell BK254.out 1).trans rfl; have hcz39_2 : w37.cell? ⟨gb254, 2, none⟩ = some (.string (⟨#[]⟩ : ByteArray)) := (blk_cell BK254.out 2).trans rfl; have hfz39_0 := blk_frozen BK254.out 0; have hfz39_1 := blk_frozen BK254.out 1; have hfz39_2 := blk_frozen BK254.out 2; have hcz40_0 : w37.cell? ⟨gb248, 0, none⟩ = some (.int .i64 x249000_2) := (blk_cell BK248.out 0).trans rfl; have hcz40_1 : w37.cell? ⟨gb248, 1, none⟩ = some (.int .i64 x249001_2) := (blk_cell BK248.out 1).trans rfl; have hcz40_2 : w37.cell? ⟨gb248, 2, none⟩ = some (.string x249002_2) := (blk_cell BK248.out 2).trans rfl; have hfz40_0 := blk_frozen BK248.out 0; have hfz40_1 := blk_frozen BK248.out 1; have hfz40_2 := blk_frozen BK248.out 2))
                      refine bodyPost_ret (results_ct rfl _ _ gb248 40 #[.int .i64 0, .int .i64 0, .string (⟨#[]⟩ : ByteArray)] (0, 0) _ rfl (bp_ BK248) Try.underlying40 rfl (by kernel_rfl)) rfl ?_
                      exact ⟨by first | rfl | (simp [errW_none, errW_some] <;> rfl) | (simp [*, errW_none, errW_some] <;> rfl), by repeat (first | (with_reducible first | exact HB.out | apply below_alloc | apply pw_below_drewN | apply below_drew1 | refine below_set ?_ GE248.out | refine below_set ?_ GE253.out | refine below_set ?_ GE254.out) | exact HB.out)⟩
                  · replace c15 := Bool.eq_false_iff.mpr c15
                    subst c15
                    have H1 : (if 0 ≤ (wrap64 ((x7_2.length : Int) - 2)) then (if (wrap64 ((x7_2.length : Int) - 2)) < (x7_2.length : Int) then (if 0 ≤ (wrap64 ((wrap64 ((x7_2.length : Int) - 2)) + 1)) then (if (wrap64 ((wrap64 ((x7_2.length : Int) - 2)) + 1)) < (x7_2.length : Int) then ((expr_reckon.f k2 ((rd_T52 l0 x24_2).f0) ((rd_T40 x7_2 (wrap64 ((x7_2.length : Int) - 2))).f0) ((rd_T40 x7_2 (wrap64 ((x7_2.length : Int) - 2))).f1) ((rd_T40 x7_2 (wrap64 ((x7_2.length : Int) - 2))).f2) ((rd_T40 x7_2 (wrap64 ((wrap64 ((x7_2.length : Int) - 2)) + 1))).f0) ((rd_T40 x7_2 (wrap64 ((wrap64 ((x7_2.length : Int) - 2)) + 1))).f1) ((rd_T40 x7_2 (wrap64 ((wrap64 ((x7_2.length : Int) - 2)) + 1))).f2)).bind fun bt265 => (if (wrap64 ((x7_2.length : Int) - 2)) ≤ (x7_2.length : Int) then ((some (x7_2.take ((wrap64 ((x7_2.length : Int) - 2)) : Int).toNat : List (S40))).bind fun y269 => (if bt265.2.2.2 = 0 then (if y269.length < 4398046511104 then (expr_Eval.l0 k2 l1 (y269 ++ [(⟨bt265.1, bt265.2.1, bt265.2.2.1⟩ : S40)]) l0 (l0.length : Int) (wrap64 (x24_2 + 1))) else (none)) else (some (0, 0, (⟨#[]⟩ : ByteArray), bt265.2.2.2)))) else (none))) else (none)) else (none)) else (none)) else (none)) = some (r1, r2, r3, r4) := by rw [if_neg (show ¬ (false = true) by decide)] at H; exact H
                    clear H
                    have H := H1
                    clear H1
                    obtain ⟨ji41, hji41⟩ : ∃ j_ : Int, (wrap64 ((x7_2.length : Int) - 2)) = j_ := ⟨_, rfl⟩
                    replace H : (if 0 ≤ (ji41) then (if (ji41) < (x7_2.length : Int) then (if 0 ≤ (wrap64 ((ji41) + 1)) then (if (wrap64 ((ji41) + 1)) < (x7_2.length : Int) then ((expr_reckon.f k2 ((rd_T52 l0 x24_2).f0) ((rd_T40 x7_2 (ji41)).f0) ((rd_T40 x7_2 (ji41)).f1) ((rd_T40 x7_2 (ji41)).f2) ((rd_T40 x7_2 (wrap64 ((ji41) + 1))).f0) ((rd_T40 x7_2 (wrap64 ((ji41) + 1))).f1) ((rd_T40 x7_2 (wrap64 ((ji41) + 1))).f2)).bind fun bt265 => (if (ji41) ≤ (x7_2.length : Int) then ((some (x7_2.take ((ji41) : Int).toNat : List (S40))).bind fun y269 => (if bt265.2.2.2 = 0 then (if y269.length < 4398046511104 then (expr_Eval.l0 k2 l1 (y269 ++ [(⟨bt265.1, bt265.2.1, bt265.2.2.1⟩ : S40)]) l0 (l0.length : Int) (wrap64 (x24_2 + 1))) else (none)) else (some (0, 0, (⟨#[]⟩ : ByteArray), bt265.2.2.2)))) else (none))) else (none)) else (none)) else (none)) else (none)) = some (r1, r2, r3, r4) := by first | (rw [hji41] at H; exact H) | (simp only [hji41] at H ⊢; exact H)
                    (try rw [hji41] at A14)
                    have hji41w : (IntKind.i64.wrap ((x7_2.length : Int) - 2)) = ji41 := (i64_w _).trans hji41
                    by_cases c42 : 0 ≤ (ji41)
                    · rw [if_pos c42] at H
                      have c42b0 : decide (0 ≤ (ji41)) = true := decide_eq_true c42
                      clear c42
                      by_cases c43 : (ji41) < (x7_2.length : Int)
                      · rw [if_pos c43] at H
                        have c43b0 : decide ((ji41) < (x7_2.length : Int)) = true := decide_eq_true c43
                        clear c43
                        obtain ⟨ji44, hji44⟩ : ∃ j_ : Int, (wrap64 ((ji41) + 1)) = j_ := ⟨_, rfl⟩
                        replace H : (if 0 ≤ (ji44) then (if (ji44) < (x7_2.length : Int) then ((expr_reckon.f k2 ((rd_T52 l0 x24_2).f0) ((rd_T40 x7_2 (ji41)).f0) ((rd_T40 x7_2 (ji41)).f1) ((rd_T40 x7_2 (ji41)).f2) ((rd_T40 x7_2 (ji44)).f0) ((rd_T40 x7_2 (ji44)).f1) ((rd_T40 x7_2 (ji44)).f2)).bind fun bt265 => (if (ji41) ≤ (x7_2.length : Int) then ((some (x7_2.take ((ji41) : Int).toNat : List (S40))).bind fun y269 => (if bt265.2.2.2 = 0 then (if y269.length < 4398046511104 then (expr_Eval.l0 k2 l1 (y269 ++ [(⟨bt265.1, bt265.2.1, bt265.2.2.1⟩ : S40)]) l0 (l0.length : Int) (wrap64 (x24_2 + 1))) else (none)) else (some (0, 0, (⟨#[]⟩ : ByteArray), bt265.2.2.2)))) else (none))) else (none)) else (none)) = some (r1, r2, r3, r4) := by first | (rw [hji44] at H; exact H) | (simp only [hji44] at H ⊢; exact H)
                        (try rw [hji44] at A14)
                        have hji44w : (IntKind.i64.wrap ((ji41) + 1)) = ji44 := (i64_w _).trans hji44
                        by_cases c45 : 0 ≤ (ji44)
                        · rw [if_pos c45] at H
                          have c45b0 : decide (0 ≤ (ji44)) = true := decide_eq_true c45
                          clear c45
                          by_cases c46 : (ji44) < (x7_2.length : Int)
                          · rw [if_pos c46] at H
                            have c46b0 : decide ((ji44) < (x7_2.length : Int)) = true := decide_eq_true c46
                            clear c46
                            replace H := Option.bind_eq_some_iff.mp H
                            obtain ⟨⟨t265, t266, t267, t268⟩, A470, H⟩ := H
                            replace H : (if (ji41) ≤ (x7_2.length : Int) then ((some (x7_2.take ((ji41) : Int).toNat : List (S40))).bind fun y269 => (if t268 = 0 then (if y269.length < 4398046511104 then (expr_Eval.l0 k2 l1 (y269 ++ [(⟨t265, t266, t267⟩ : S40)]) l0 (l0.length : Int) (wrap64 (x24_2 + 1))) else (none)) else (some (0, 0, (⟨#[]⟩ : ByteArray), t268)))) else (none)) = some (r1, r2, r3, r4) := H
                            have A47 := Aside0.mk A470
                            clear A470
                            by_cases c48 : (ji41) ≤ (x7_2.length : Int)
                            · rw [if_pos c48] at H
                              have c48b0 := eq_true c48
                              have c48b1 : decide ((ji41) ≤ (x7_2.length : Int)) = true := decide_eq_true c48
                              clear c48
                              obtain ⟨y269, hy269⟩ : ∃ y_ : List (S40), y_ = (x7_2.take ((ji41) : Int).toNat) := ⟨_, rfl⟩
                              replace H : (if t268 = 0 then (if y269.length < 4398046511104 then (expr_Eval.l0 k2 l1 (y269 ++ [(⟨t265, t266, t267⟩ : S40)]) l0 (l0.length : Int) (wrap64 (x24_2 + 1))) else (none)) else (some (0, 0, (⟨#[]⟩ : ByteArray), t268))) = some (r1, r2, r3, r4) := by first | (rw [hy269]; with_reducible exact H) | (have H2_ := (Option.bind_some _ _).symm.trans H; rw [hy269]; with_reducible exact H2_) | (have H2_ := (Option.bind_some _ _).symm.trans H; with_reducible exact H2_) | with_reducible exact H | (rw [hy269]; exact H) | exact H
                              have Ny269 := Aside0.mk hy269
                              clear hy269
                              by_cases c49 : t268 = 0
                              · rw [if_pos c49] at H
                                obtain ⟨c49b0, c49b1⟩ := eqB_ c49
                                clear c49
                                by_cases c50 : y269.length < 4398046511104
                                · rw [if_pos c50] at H
                                  have LMc50 := Aside0.mk c50
                                  clear c50
                                  obtain ⟨y272, hy272⟩ : ∃ y_ : List (S40), y_ = (y269 ++ [(⟨t265, t266, t267⟩ : S40)]) := ⟨_, rfl⟩
                                  replace H : (expr_Eval.l0 k2 l1 y272 l0 (l0.length : Int) (wrap64 (x24_2 + 1))) = some (r1, r2, r3, r4) := by first | (rw [hy272]; with_reducible exact H) | (have H2_ := (Option.bind_some _ _).symm.trans H; rw [hy272]; with_reducible exact H2_) | (have H2_ := (Option.bind_some _ _).symm.trans H; with_reducible exact H2_) | with_reducible exact H | (rw [hy272]; exact H) | exact H
                                  have Ny272 := Aside0.mk hy272
                                  clear hy272
                                  have H' := Aside0.mk H
                                  clear H
                                  have p252 : 0 ≤ (x24_2 : Int) := dt_
                                  have q252 : x24_2 < (l0.length : Int) := dt_
                                  obtain ⟨ad252, e252, hx252_0, hx252_1, hx252_2, hx252_3, hx252_4⟩ := at_T52 HR0.out x24_2 p252 q252
                                  cases e252
                                  replace hx252_0 := cm_ HB hx252_0
                                  replace hx252_1 := cm_ HB hx252_1
                                  replace hx252_2 := cm_ HB hx252_2
                                  replace hx252_3 := cm_ HB hx252_3
                                  replace hx252_4 := cm_ HB hx252_4
                                  replace p252 := eq_true p252
                                  replace q252 := eq_true q252
                                  try go_wp2_with (first | ((with_reducible refine gate_dst (N := 9) rfl ?_); refine box_event ?hg (N := 9) ?hd (cs := #[.int .i64 0, .string (⟨#[]⟩ : ByteArray), .int .i64 0, .int .i64 0, .string (⟨#[]⟩ : ByteArray)]) (t := 52) ?hr ?_; (case hd => rfl); (case hg => rfl); (case hr => first | (go_simp; done) | (go_simp; rfl)); intro gb253 hg w51 hbox hb; have n0_ := kb_ (ku_ HO_7.out) hb; have n1_ := bb_ (bu_ BK248) hb; have n2_ := bs_ (be_ HB) hb; have n3_ := Aside0.mk (hbox); have n4_ := gs_ hg (be_ HB); have n5_ := gs_ hg (be_ HB); have n6_ := nl_ hg (bu_ BK248); have n7_ := ng_ hg (bu_ BK248); clear HO_7; clear BK248; clear HB; have HO_7 := n0_; have BK248 := n1_; have HB := n2_; have BK253 := n3_; have GW253 := n4_; have GE253 := n5_; have NB248_253 := n6_; have NB253_248 := n7_; clear n0_ n1_ n2_ n3_ n4_ n5_ n6_ n7_; clear hb hbox hg; have hnb52 := NB253_248.out; have hnc52 := NB248_253.out; have hcz53_0 : w51.cell? ⟨gb253, 0, none⟩ = some (.int .i64 0) := (blk_cell BK253.out 0).trans rfl; have hcz53_1 : w51.cell? ⟨gb253, 1, none⟩ = some (.string (⟨#[]⟩ : ByteArray)) := (blk_cell BK253.out 1).trans rfl; have hcz53_2 : w51.cell? ⟨gb253, 2, none⟩ = some (.int .i64 0) := (blk_cell BK253.out 2).trans rfl; have hcz53_3 : w51.cell? ⟨gb253, 3, none⟩ = some (.int .i64 0) := (blk_cell BK253.out 3).trans rfl; have hcz53_4 : w51.cell? ⟨gb253, 4, none⟩ = some (.string (⟨#[]⟩ : ByteArray)) := (blk_cell BK253.out 4).trans rfl; have hfz53_0 := blk_frozen BK253.out 0; have hfz53_1 := blk_frozen BK253.out 1; have hfz53_2 := blk_frozen BK253.out 2; have hfz53_3 := blk_frozen BK253.out 3; have hfz53_4 := blk_frozen BK253.out 4) | ((with_reducible refine gate_dst (N := 10) rfl ?_); refine box_event ?hg (N := 10) ?hd (cs := #[.int .i64 0, .int .i64 0, .string (⟨#[]⟩ : ByteArray)]) (t := 40) ?hr ?_; (case hd => rfl); (case hg => rfl); (case hr => first | (go_simp; done) | (go_simp; rfl)); intro gb254 hg w54 hbox hb; have n0_ := Aside0.mk (Kd.R_below (Kd.R_elderB (ku_ (Kd.R_mono (Kd.R_far (p := ⟨gb253, 4, none⟩) (Kd.R_far (p := ⟨gb253, 3, none⟩) (Kd.R_far (p := ⟨gb253, 2, none⟩) (Kd.R_far (p := ⟨gb253, 1, none⟩) (Kd.R_far (p := ⟨gb253, 0, none⟩) (Kd.R_types HO_7.out BK253.out (by decide)) (fun _ hk => hk.2) (.int .i64 ((rd_T52 l0 x24_2).f0))) (fun _ hk => hk.2) (.string ((rd_T52 l0 x24_2).f1))) (fun _ hk => hk.2) (.int .i64 ((rd_T52 l0 x24_2).f2.f0))) (fun _ hk => hk.2) (.int .i64 ((rd_T52 l0 x24_2).f2.f1))) (fun _ hk => hk.2) (.string ((rd_T52 l0 x24_2).f2.f2))) (fun _ h_ => h_.1))) gb254 (Nat.le_of_eq hg.symm)) hb); have n1_ := bb_ (bu_ BK248) hb; have n2_ := Aside0.mk (blk_below (o := .cells #[.int .i64 ((rd_T52 l0 x24_2).f0), .string ((rd_T52 l0 x24_2).f1), .int .i64 ((rd_T52 l0 x24_2).f2.f0), .int .i64 ((rd_T52 l0 x24_2).f2.f1), .string ((rd_T52 l0 x24_2).f2.f2)] 52 (0, 0)) (bp_ BK253) hb); have n3_ := bs_ (be_ HB) hb; have n4_ := Aside0.mk (hbox); have n5_ := gs_ hg (be_ HB); have n6_ := gs_ hg (be_ HB); have n7_ := nl_ hg (bu_ BK248); have n8_ := ng_ hg (bu_ BK248); have n9_ := Aside0.mk ((by rw [hg]; exact Nat.ne_of_lt (blk_lt (o := .cells #[.int .i64 ((rd_T52 l0 x24_2).f0), .string ((rd_T52 l0 x24_2).f1), .int .i64 ((rd_T52 l0 x24_2).f2.f0), .int .i64 ((rd_T52 l0 x24_2).f2.f1), .string ((rd_T52 l0 x24_2).f2.f2)] 52 (0, 0)) (bp_ BK253)) : gb253 ≠ gb254)); have n10_ := Aside0.mk ((by rw [hg]; exact Nat.ne_of_gt (blk_lt (o := .cells #[.int .i64 ((rd_T52 l0 x24_2).f0), .string ((rd_T52 l0 x24_2).f1), .int .i64 ((rd_T52 l0 x24_2).f2.f0), .int .i64 ((rd_T52 l0 x24_2).f2.f1), .string ((rd_T52 l0 x24_2).f2.f2)] 52 (0, 0)) (bp_ BK253)) : gb254 ≠ gb253)); clear HO_7; clear BK248; clear BK253; clear HB; have HO_7 := n0_; have BK248 := n1_; have BK253 := n2_; have HB := n3_; have BK254 := n4_; have GW254 := n5_; have GE254 := n6_; have NB248_254 := n7_; have NB254_248 := n8_; have NB253_254 := n9_; have NB254_253 := n10_; clear n0_ n1_ n2_ n3_ n4_ n5_ n6_ n7_ n8_ n9_ n10_; clear hb hbox hg; have hnb55 := NB253_254.out; have hnc55 := NB254_253.out; have hcz56_0 : w54.cell? ⟨gb253, 0, none⟩ = some (.int .i64 ((rd_T52 l0 x24_2).f0)) := (blk_cell BK253.out 0).trans rfl; have hcz56_1 : w54.cell? ⟨gb253, 1, none⟩ = some (.string ((rd_T52 l0 x24_2).f1)) := (blk_cell BK253.out 1).trans rfl; have hcz56_2 : w54.cell? ⟨gb253, 2, none⟩ = some (.int .i64 ((rd_T52 l0 x24_2).f2.f0)) := (blk_cell BK253.out 2).trans rfl; have hcz56_3 : w54.cell? ⟨gb253, 3, none⟩ = some (.int .i64 ((rd_T52 l0 x24_2).f2.f1)) := (blk_cell BK253.out 3).trans rfl; have hcz56_4 : w54.cell? ⟨gb253, 4, none⟩ = some (.string ((rd_T52 l0 x24_2).f2.f2)) := (blk_cell BK253.out 4).trans rfl; have hfz56_0 := blk_frozen BK253.out 0; have hfz56_1 := blk_frozen BK253.out 1; have hfz56_2 := blk_frozen BK253.out 2; have hfz56_3 := blk_frozen BK253.out 3; have hfz56_4 := blk_frozen BK253.out 4) | ((with_reducible refine gate_callee (f := 40) rfl ?_); refine goesL_ (some 30) rfl rfl Try.func40 (by kernel_rfl) rfl #[.int .i64 ((rd_T52 l0 x24_2).f0)] rfl ga_ ?_; (with_reducible refine (expr_pushes.calls ((rd_T52 l0 x24_2).f0) false _ A14.out).mono ?_); rintro e w' ⟨rfl, ⟨nd, rfl⟩⟩; refine ⟨_, rfl, ?_⟩; (try (rw [drewN_self w54]; generalize hq_ : World.drewN w54 _ = w54; have n0_ : Aside0 (Kd.R k40 40 w54 w.heap.size (fun k_ => k_ ≠ gb248 ∧ k_ ≠ gb254) u7 x7_2) := ⟨by rw [← hq_]; exact (ku_ HO_7.out)⟩; have n1_ : Aside0 (w54.heap[gb248]? = some (.cells #[.int .i64 x249000_2, .int .i64 x249001_2, .string x249002_2] 40 (0, 0))) := ⟨by rw [← hq_]; exact (bu_ BK248)⟩; have n2_ : Aside0 (w54.heap[gb253]? = some (.cells #[.int .i64 ((rd_T52 l0 x24_2).f0), .string ((rd_T52 l0 x24_2).f1), .int .i64 ((rd_T52 l0 x24_2).f2.f0), .int .i64 ((rd_T52 l0 x24_2).f2.f1), .string ((rd_T52 l0 x24_2).f2.f2)] 52 (0, 0))) := ⟨by rw [← hq_]; exact (bu_ BK253)⟩; have n3_ : Aside0 (w54.heap[gb254]? = some (.cells #[.int .i64 0, .int .i64 0, .string (⟨#[]⟩ : ByteArray)] 40 (0, 0))) := ⟨by rw [← hq_]; exact (bu_ BK254)⟩; have n4_ : Aside0 (Below w.heap.size w w54) := ⟨by rw [← hq_]; exact (be_ HB)⟩; clear HO_7 BK248 BK253 BK254 HB hq_; have HO_7 := n0_; have BK248 := n1_; have BK253 := n2_; have BK254 := n3_; have HB := n4_; clear n0_ n1_ n2_ n3_ n4_)); obtain ⟨Ao57, co57, eo57⟩ := Kd.R_slice HO_7.out; subst eo57))
                                  have n0_ := Aside0.mk (Kd.R_drew HO_7.out)
                                  have n1_ := Aside0.mk (blk_drew BK248.out)
                                  have n2_ := Aside0.mk (blk_drew BK253.out)
                                  have n3_ := Aside0.mk (blk_drew BK254.out)
                                  have n4_ := Aside0.mk (below_drew1 HB.out)
                                  clear HO_7
                                  clear BK248
                                  clear BK253
                                  clear BK254
                                  clear HB
                                  have HO_7 := n0_
                                  have BK248 := n1_
                                  have BK253 := n2_
                                  have BK254 := n3_
                                  have HB := n4_
                                  clear n0_ n1_ n2_ n3_ n4_
                                  have p263 : 0 ≤ ((ji41) : Int) := dt_
                                  have q263 : (ji41) < (x7_2.length : Int) := dt_
                                  obtain ⟨ad263, e263, hx263_0, hx263_1, hx263_2⟩ := at_T40 (Kd.R_reads' HO_7.out).2.2 (ji41) p263 q263
                                  cases e263
                                  replace p263 := eq_true p263
                                  replace q263 := eq_true q263
                                  have p264 : 0 ≤ ((ji44) : Int) := dt_
                                  have q264 : (ji44) < (x7_2.length : Int) := dt_
                                  obtain ⟨ad264, e264, hx264_0, hx264_1, hx264_2⟩ := at_T40 (Kd.R_reads' HO_7.out).2.2 (ji44) p264 q264
                                  obtain rfl : ad263 = ad264 := (by injection e264)
                                  replace p264 := eq_true p264
                                  replace q264 := eq_true q264
                                  refine start_ (n := 17) (S := fun w' => w'.cell? ⟨gb253, 0, none⟩ = some (.int .i64 ((rd_T52 l0 x24_2).f0)) ∧ w'.cell? ⟨gb253, 1, none⟩ = some (.string ((rd_T52 l0 x24_2).f1)) ∧ w'.cell? ⟨gb253, 2, none⟩ = some (.int .i64 ((rd_T52 l0 x24_2).f2.f0)) ∧ w'.cell? ⟨gb253, 3, none⟩ = some (.int .i64 ((rd_T52 l0 x24_2).f2.f1)) ∧ w'.cell? ⟨gb253, 4, none⟩ = some (.string ((rd_T52 l0 x24_2).f2.f2)) ∧ w'.cell? (ad263.add (((ji41)).toNat * 3)) = some (.int .i64 ((rd_T40 x7_2 (ji41)).f0)) ∧ w'.cell? ⟨(ad263.add (((ji41)).toNat * 3)).block, (ad263.add (((ji41)).toNat * 3)).off + 1, none⟩ = some (.int .i64 ((rd_T40 x7_2 (ji41)).f1)) ∧ w'.cell? ⟨(ad263.add (((ji41)).toNat * 3)).block, (ad263.add (((ji41)).toNat * 3)).off + 2, none⟩ = some (.string ((rd_T40 x7_2 (ji41)).f2)) ∧ w'.cell? (ad263.add (((ji44)).toNat * 3)) = some (.int .i64 ((rd_T40 x7_2 (ji44)).f0)) ∧ w'.cell? ⟨(ad263.add (((ji44)).toNat * 3)).block, (ad263.add (((ji44)).toNat * 3)).off + 1, none⟩ = some (.int .i64 ((rd_T40 x7_2 (ji44)).f1)) ∧ w'.cell? ⟨(ad263.add (((ji44)).toNat * 3)).block, (ad263.add (((ji44)).toNat * 3)).off + 2, none⟩ = some (.string ((rd_T40 x7_2 (ji44)).f2))) (ds := []) (mk_ 17 0) (by kernel_rfl) rfl rfl ⟨(blk_cell BK253.out 0).trans rfl, (blk_cell BK253.out 1).trans rfl, (blk_cell BK253.out 2).trans rfl, (blk_cell BK253.out 3).trans rfl, (blk_cell BK253.out 4).trans rfl, hx263_0, hx263_1, hx263_2, hx264_0, hx264_1, hx264_2⟩ (fun hHeld => ?_); refine with_tabW expr_Eval.tab14 expr_Eval.bits14 (fun HT_ HW_ => ?_)
                                  generalize w54.drew = w58 at HO_7 BK248 BK253 BK254 HB hx263_0 hx263_1 hx263_2 hx264_0 hx264_1 hx264_2 hHeld ⊢
                                  refine pu_ 0 41 1 HT_ ?_; refine pu_ 2 43 5 HT_ ?_; refine pu_ 3 44 13 HT_ ?_; refine pu_ 4 45 29 HT_ ?_; refine pu_ 6 47 93 HT_ ?_; refine pu_ 7 48 221 HT_ ?_; refine pu_ 8 49 477 HT_ ?_; refine pu_ 9 50 989 HT_ ?_; refine tk_ 1 42 991 HT_ HW_ hHeld ?_; refine tk_ 5 46 1023 HT_ HW_ hHeld ?_; refine tk_ 10 51 2047 HT_ HW_ hHeld ?_
                                  refine one_ (i := 11) (N := some 52) (mk_ 17 4095) rfl rfl (one_of HT_.out (by kernel_rfl)) (by decide) (fun K hK => ?_)
                                  refine goes_ Try.func42 (by kernel_rfl) rfl #[.int .i64 ((rd_T52 l0 x24_2).f0), .agg #[.int .i64 ((rd_T40 x7_2 (ji41)).f0), .int .i64 ((rd_T40 x7_2 (ji41)).f1), .string ((rd_T40 x7_2 (ji41)).f2)], .agg #[.int .i64 ((rd_T40 x7_2 (ji44)).f0), .int .i64 ((rd_T40 x7_2 (ji44)).f1), .string ((rd_T40 x7_2 (ji44)).f2)]] (by rfl) rfl rfl (by (try simp only [List.map_toArray, List.map_cons, List.map_nil]); first | done | (simp only [hji41, hji44]; rfl) | rfl | (simp only [List.length_drop, List.length_take]; rfl)) ?_
                                  with_reducible refine (expr_reckon.calls k2 ((rd_T52 l0 x24_2).f0) ((rd_T40 x7_2 (ji41)).f0) ((rd_T40 x7_2 (ji41)).f1) ((rd_T40 x7_2 (ji41)).f2) ((rd_T40 x7_2 (ji44)).f0) ((rd_T40 x7_2 (ji44)).f1) ((rd_T40 x7_2 (ji44)).f2) t265 t266 t267 t268 _ A47.out).mono ?_
                                  rintro e w59 ⟨rfl, hb⟩
                                  have HS5_ := (hb.cell (World.block_lt_of_cell? _ _ (hHeld.2.2.2.2.2.1))).trans (hHeld.2.2.2.2.2.1)
                                  have HS6_ := (hb.cell (World.block_lt_of_cell? _ _ (hHeld.2.2.2.2.2.2.1))).trans (hHeld.2.2.2.2.2.2.1)
                                  have HS7_ := (hb.cell (World.block_lt_of_cell? _ _ (hHeld.2.2.2.2.2.2.2.1))).trans (hHeld.2.2.2.2.2.2.2.1)
                                  have HS8_ := (hb.cell (World.block_lt_of_cell? _ _ (hHeld.2.2.2.2.2.2.2.2.1))).trans (hHeld.2.2.2.2.2.2.2.2.1)
                                  have HS9_ := (hb.cell (World.block_lt_of_cell? _ _ (hHeld.2.2.2.2.2.2.2.2.2.1))).trans (hHeld.2.2.2.2.2.2.2.2.2.1)
                                  have HS10_ := (hb.cell (World.block_lt_of_cell? _ _ (hHeld.2.2.2.2.2.2.2.2.2.2))).trans (hHeld.2.2.2.2.2.2.2.2.2.2)
                                  refine ⟨_, rfl, ?_⟩
                                  have n0_ := kb_ (ku_ HO_7.out) hb
                                  have n1_ := bb_ (bu_ BK248) hb
                                  have n2_ := bb_ (bu_ BK253) hb
                                  have n3_ := bb_ (bu_ BK254) hb
                                  have n4_ := bs_ (be_ HB) hb
                                  clear HO_7
                                  clear BK248
                                  clear BK253
                                  clear BK254
                                  clear HB
                                  have HO_7 := n0_
                                  have BK248 := n1_
                                  have BK253 := n2_
                                  have BK254 := n3_
                                  have HB := n4_
                                  clear n0_ n1_ n2_ n3_ n4_
                                  (try clear hb)
                                  (try clear hb2)
                                  (try clear hk)
                                  (try clear hi)
                                  refine hK.out _ _ ⟨(blk_cell BK253.out 0).trans rfl, (blk_cell BK253.out 1).trans rfl, (blk_cell BK253.out 2).trans rfl, (blk_cell BK253.out 3).trans rfl, (blk_cell BK253.out 4).trans rfl, HS5_, HS6_, HS7_, HS8_, HS9_, HS10_⟩ (fun hHeld => ?_)
                                  clear hK K
                                  refine nm_ 52 ?_; refine pu_ 12 40 8191 HT_ ?_; refine pu_ 13 53 16383 HT_ ?_; refine pu_ 14 54 32767 HT_ ?_
                                  refine one_ (i := 15) (N := none) (mk_ 17 65535) rfl rfl (one_of HT_.out (by kernel_rfl)) (by decide) (fun K hK => ?_)
                                  have hs60 : w59.cell? ⟨gb254, 0, none⟩ = some (.int .i64 0) := (blk_cell BK254.out 0).trans rfl
                                  have hfs60 := blk_frozen BK254.out 0
                                  have hns60_0 := NB248_254.out
                                  have hns60_1 := NB253_254.out
                                  have hms60_0 := NB254_248.out
                                  have hms60_1 := NB254_253.out
                                  have hs61 : w59.cell? ⟨gb254, 1, none⟩ = some (.int .i64 0) := (blk_cell BK254.out 1).trans rfl
                                  have hfs61 := blk_frozen BK254.out 1
                                  have hns61_0 := NB248_254.out
                                  have hns61_1 := NB253_254.out
                                  have hms61_0 := NB254_248.out
                                  have hms61_1 := NB254_253.out
                                  have hs62 : w59.cell? ⟨gb254, 2, none⟩ = some (.string (⟨#[]⟩ : ByteArray)) := (blk_cell BK254.out 2).trans rfl
                                  have hfs62 := blk_frozen BK254.out 2
                                  have hns62_0 := NB248_254.out
                                  have hns62_1 := NB253_254.out
                                  have hms62_0 := NB254_248.out
                                  have hms62_1 := NB254_253.out
                                  refine skip_ (w1 := ?_) (by rfl) rfl ?_ ?_
                                  rotate_left
                                  · go_simp
                                    rfl
                                  refine hK.out _ _ ⟨((cell_far (p := ⟨gb254, _, none⟩) NB253_254.out _).trans (((cell_far (p := ⟨gb254, _, none⟩) NB253_254.out _).trans (((cell_far (p := ⟨gb254, _, none⟩) NB253_254.out _).trans (hHeld.1)))))), ((cell_far (p := ⟨gb254, _, none⟩) NB253_254.out _).trans (((cell_far (p := ⟨gb254, _, none⟩) NB253_254.out _).trans (((cell_far (p := ⟨gb254, _, none⟩) NB253_254.out _).trans (hHeld.2.1)))))), ((cell_far (p := ⟨gb254, _, none⟩) NB253_254.out _).trans (((cell_far (p := ⟨gb254, _, none⟩) NB253_254.out _).trans (((cell_far (p := ⟨gb254, _, none⟩) NB253_254.out _).trans (hHeld.2.2.1)))))), ((cell_far (p := ⟨gb254, _, none⟩) NB253_254.out _).trans (((cell_far (p := ⟨gb254, _, none⟩) NB253_254.out _).trans (((cell_far (p := ⟨gb254, _, none⟩) NB253_254.out _).trans (hHeld.2.2.2.1)))))), ((cell_far (p := ⟨gb254, _, none⟩) NB253_254.out _).trans (((cell_far (p := ⟨gb254, _, none⟩) NB253_254.out _).trans (((cell_far (p := ⟨gb254, _, none⟩) NB253_254.out _).trans (hHeld.2.2.2.2.1)))))), ((cell_far (p := ⟨gb254, _, none⟩) (by first | exact Kd.own_blk (Kd.R_away HO_7.out (fun _ hk => hk.2)) | (rw [add_block]; exact Kd.own_blk (Kd.R_away HO_7.out (fun _ hk => hk.2))) | (show (Addr.add _ _).block ≠ _; rw [add_block]; exact Kd.own_blk (Kd.R_away HO_7.out (fun _ hk => hk.2))) | (dsimp only; exact Kd.own_blk (Kd.R_away HO_7.out (fun _ hk => hk.2)))) _).trans (((cell_far (p := ⟨gb254, _, none⟩) (by first | exact Kd.own_blk (Kd.R_away HO_7.out (fun _ hk => hk.2)) | (rw [add_block]; exact Kd.own_blk (Kd.R_away HO_7.out (fun _ hk => hk.2))) | (show (Addr.add _ _).block ≠ _; rw [add_block]; exact Kd.own_blk (Kd.R_away HO_7.out (fun _ hk => hk.2))) | (dsimp only; exact Kd.own_blk (Kd.R_away HO_7.out (fun _ hk => hk.2)))) _).trans (((cell_far (p := ⟨gb254, _, none⟩) (by first | exact Kd.own_blk (Kd.R_away HO_7.out (fun _ hk => hk.2)) | (rw [add_block]; exact Kd.own_blk (Kd.R_away HO_7.out (fun _ hk => hk.2))) | (show (Addr.add _ _).block ≠ _; rw [add_block]; exact Kd.own_blk (Kd.R_away HO_7.out (fun _ hk => hk.2))) | (dsimp only; exact Kd.own_blk (Kd.R_away HO_7.out (fun _ hk => hk.2)))) _).trans (hHeld.2.2.2.2.2.1)))))), ((cell_far (p := ⟨gb254, _, none⟩) (by first | exact Kd.own_blk (Kd.R_away HO_7.out (fun _ hk => hk.2)) | (rw [add_block]; exact Kd.own_blk (Kd.R_away HO_7.out (fun _ hk => hk.2))) | (show (Addr.add _ _).block ≠ _; rw [add_block]; exact Kd.own_blk (Kd.R_away HO_7.out (fun _ hk => hk.2))) | (dsimp only; exact Kd.own_blk (Kd.R_away HO_7.out (fun _ hk => hk.2)))) _).trans (((cell_far (p := ⟨gb254, _, none⟩) (by first | exact Kd.own_blk (Kd.R_away HO_7.out (fun _ hk => hk.2)) | (rw [add_block]; exact Kd.own_blk (Kd.R_away HO_7.out (fun _ hk => hk.2))) | (show (Addr.add _ _).block ≠ _; rw [add_block]; exact Kd.own_blk (Kd.R_away HO_7.out (fun _ hk => hk.2))) | (dsimp only; exact Kd.own_blk (Kd.R_away HO_7.out (fun _ hk => hk.2)))) _).trans (((cell_far (p := ⟨gb254, _, none⟩) (by first | exact Kd.own_blk (Kd.R_away HO_7.out (fun _ hk => hk.2)) | (rw [add_block]; exact Kd.own_blk (Kd.R_away HO_7.out (fun _ hk => hk.2))) | (show (Addr.add _ _).block ≠ _; rw [add_block]; exact Kd.own_blk (Kd.R_away HO_7.out (fun _ hk => hk.2))) | (dsimp only; exact Kd.own_blk (Kd.R_away HO_7.out (fun _ hk => hk.2)))) _).trans (hHeld.2.2.2.2.2.2.1)))))), ((cell_far (p := ⟨gb254, _, none⟩) (by first | exact Kd.own_blk (Kd.R_away HO_7.out (fun _ hk => hk.2)) | (rw [add_block]; exact Kd.own_blk (Kd.R_away HO_7.out (fun _ hk => hk.2))) | (show (Addr.add _ _).block ≠ _; rw [add_block]; exact Kd.own_blk (Kd.R_away HO_7.out (fun _ hk => hk.2))) | (dsimp only; exact Kd.own_blk (Kd.R_away HO_7.out (fun _ hk => hk.2)))) _).trans (((cell_far (p := ⟨gb254, _, none⟩) (by first | exact Kd.own_blk (Kd.R_away HO_7.out (fun _ hk => hk.2)) | (rw [add_block]; exact Kd.own_blk (Kd.R_away HO_7.out (fun _ hk => hk.2))) | (show (Addr.add _ _).block ≠ _; rw [add_block]; exact Kd.own_blk (Kd.R_away HO_7.out (fun _ hk => hk.2))) | (dsimp only; exact Kd.own_blk (Kd.R_away HO_7.out (fun _ hk => hk.2)))) _).trans (((cell_far (p := ⟨gb254, _, none⟩) (by first | exact Kd.own_blk (Kd.R_away HO_7.out (fun _ hk => hk.2)) | (rw [add_block]; exact Kd.own_blk (Kd.R_away HO_7.out (fun _ hk => hk.2))) | (show (Addr.add _ _).block ≠ _; rw [add_block]; exact Kd.own_blk (Kd.R_away HO_7.out (fun _ hk => hk.2))) | (dsimp only; exact Kd.own_blk (Kd.R_away HO_7.out (fun _ hk => hk.2)))) _).trans (hHeld.2.2.2.2.2.2.2.1)))))), ((cell_far (p := ⟨gb254, _, none⟩) (by first | exact Kd.own_blk (Kd.R_away HO_7.out (fun _ hk => hk.2)) | (rw [add_block]; exact Kd.own_blk (Kd.R_away HO_7.out (fun _ hk => hk.2))) | (show (Addr.add _ _).block ≠ _; rw [add_block]; exact Kd.own_blk (Kd.R_away HO_7.out (fun _ hk => hk.2))) | (dsimp only; exact Kd.own_blk (Kd.R_away HO_7.out (fun _ hk => hk.2)))) _).trans (((cell_far (p := ⟨gb254, _, none⟩) (by first | exact Kd.own_blk (Kd.R_away HO_7.out (fun _ hk => hk.2)) | (rw [add_block]; exact Kd.own_blk (Kd.R_away HO_7.out (fun _ hk => hk.2))) | (show (Addr.add _ _).block ≠ _; rw [add_block]; exact Kd.own_blk (Kd.R_away HO_7.out (fun _ hk => hk.2))) | (dsimp only; exact Kd.own_blk (Kd.R_away HO_7.out (fun _ hk => hk.2)))) _).trans (((cell_far (p := ⟨gb254, _, none⟩) (by first | exact Kd.own_blk (Kd.R_away HO_7.out (fun _ hk => hk.2)) | (rw [add_block]; exact Kd.own_blk (Kd.R_away HO_7.out (fun _ hk => hk.2))) | (show (Addr.add _ _).block ≠ _; rw [add_block]; exact Kd.own_blk (Kd.R_away HO_7.out (fun _ hk => hk.2))) | (dsimp only; exact Kd.own_blk (Kd.R_away HO_7.out (fun _ hk => hk.2)))) _).trans (hHeld.2.2.2.2.2.2.2.2.1)))))), ((cell_far (p := ⟨gb254, _, none⟩) (by first | exact Kd.own_blk (Kd.R_away HO_7.out (fun _ hk => hk.2)) | (rw [add_block]; exact Kd.own_blk (Kd.R_away HO_7.out (fun _ hk => hk.2))) | (show (Addr.add _ _).block ≠ _; rw [add_block]; exact Kd.own_blk (Kd.R_away HO_7.out (fun _ hk => hk.2))) | (dsimp only; exact Kd.own_blk (Kd.R_away HO_7.out (fun _ hk => hk.2)))) _).trans (((cell_far (p := ⟨gb254, _, none⟩) (by first | exact Kd.own_blk (Kd.R_away HO_7.out (fun _ hk => hk.2)) | (rw [add_block]; exact Kd.own_blk (Kd.R_away HO_7.out (fun _ hk => hk.2))) | (show (Addr.add _ _).block ≠ _; rw [add_block]; exact Kd.own_blk (Kd.R_away HO_7.out (fun _ hk => hk.2))) | (dsimp only; exact Kd.own_blk (Kd.R_away HO_7.out (fun _ hk => hk.2)))) _).trans (((cell_far (p := ⟨gb254, _, none⟩) (by first | exact Kd.own_blk (Kd.R_away HO_7.out (fun _ hk => hk.2)) | (rw [add_block]; exact Kd.own_blk (Kd.R_away HO_7.out (fun _ hk => hk.2))) | (show (Addr.add _ _).block ≠ _; rw [add_block]; exact Kd.own_blk (Kd.R_away HO_7.out (fun _ hk => hk.2))) | (dsimp only; exact Kd.own_blk (Kd.R_away HO_7.out (fun _ hk => hk.2)))) _).trans (hHeld.2.2.2.2.2.2.2.2.2.1)))))), ((cell_far (p := ⟨gb254, _, none⟩) (by first | exact Kd.own_blk (Kd.R_away HO_7.out (fun _ hk => hk.2)) | (rw [add_block]; exact Kd.own_blk (Kd.R_away HO_7.out (fun _ hk => hk.2))) | (show (Addr.add _ _).block ≠ _; rw [add_block]; exact Kd.own_blk (Kd.R_away HO_7.out (fun _ hk => hk.2))) | (dsimp only; exact Kd.own_blk (Kd.R_away HO_7.out (fun _ hk => hk.2)))) _).trans (((cell_far (p := ⟨gb254, _, none⟩) (by first | exact Kd.own_blk (Kd.R_away HO_7.out (fun _ hk => hk.2)) | (rw [add_block]; exact Kd.own_blk (Kd.R_away HO_7.out (fun _ hk => hk.2))) | (show (Addr.add _ _).block ≠ _; rw [add_block]; exact Kd.own_blk (Kd.R_away HO_7.out (fun _ hk => hk.2))) | (dsimp only; exact Kd.own_blk (Kd.R_away HO_7.out (fun _ hk => hk.2)))) _).trans (((cell_far (p := ⟨gb254, _, none⟩) (by first | exact Kd.own_blk (Kd.R_away HO_7.out (fun _ hk => hk.2)) | (rw [add_block]; exact Kd.own_blk (Kd.R_away HO_7.out (fun _ hk => hk.2))) | (show (Addr.add _ _).block ≠ _; rw [add_block]; exact Kd.own_blk (Kd.R_away HO_7.out (fun _ hk => hk.2))) | (dsimp only; exact Kd.own_blk (Kd.R_away HO_7.out (fun _ hk => hk.2)))) _).trans (hHeld.2.2.2.2.2.2.2.2.2.2))))))⟩ (fun hHeld => ?_)
                                  clear hK K
                                  refine pu_ 16 6 131071 HT_ ?_
                                  refine done_ (done_of HT_.out (by kernel_rfl)) ?_
                                  have n0_ : Aside0 (Kd.R k40 40 (((w59.setCell ⟨gb254, 0, none⟩ (.int .i64 t265)).setCell ⟨gb254, 1, none⟩ (.int .i64 t266)).setCell ⟨gb254, 2, none⟩ (.string t267)) w.heap.size (fun k_ => k_ ≠ gb248 ∧ k_ ≠ gb254) (.slice (some ad263) x7_2.length co57) x7_2) := ⟨by (with_reducible repeat (first | apply Kd.R_alloc | apply Kd.R_drewN | apply Kd.R_drew)); exact Kd.R_mono (Kd.R_far (p := ⟨gb254, 2, none⟩) (Kd.R_far (p := ⟨gb254, 1, none⟩) (Kd.R_far (p := ⟨gb254, 0, none⟩) (Kd.R_mono HO_7.out (fun k_ hk => (⟨hk, hk.2⟩ : _ ∧ k_ ≠ gb254))) (fun _ hk => hk.2) (.int .i64 t265)) (fun _ hk => hk.2) (.int .i64 t266)) (fun _ hk => hk.2) (.string t267)) (fun _ hk => ⟨hk.1.1, hk.1.2⟩)⟩
                                  have n1_ : Aside0 ((((w59.setCell ⟨gb254, 0, none⟩ (.int .i64 t265)).setCell ⟨gb254, 1, none⟩ (.int .i64 t266)).setCell ⟨gb254, 2, none⟩ (.string t267)).heap[gb248]? = some (.cells #[.int .i64 x249000_2, .int .i64 x249001_2, .string x249002_2] 40 (0, 0))) := ⟨by (with_reducible repeat (first | refine blk_drewN ?_ _ | refine blk_drew ?_ | refine blk_alloc ?_ _)); refine blk_far ?_ NB248_254.out _; (with_reducible repeat (first | refine blk_drewN ?_ _ | refine blk_drew ?_ | refine blk_alloc ?_ _)); refine blk_far ?_ NB248_254.out _; (with_reducible repeat (first | refine blk_drewN ?_ _ | refine blk_drew ?_ | refine blk_alloc ?_ _)); refine blk_far ?_ NB248_254.out _; (with_reducible repeat (first | refine blk_drewN ?_ _ | refine blk_drew ?_ | refine blk_alloc ?_ _)); exact BK248.out⟩
                                  have n2_ : Aside0 ((((w59.setCell ⟨gb254, 0, none⟩ (.int .i64 t265)).setCell ⟨gb254, 1, none⟩ (.int .i64 t266)).setCell ⟨gb254, 2, none⟩ (.string t267)).heap[gb253]? = some (.cells #[.int .i64 ((rd_T52 l0 x24_2).f0), .string ((rd_T52 l0 x24_2).f1), .int .i64 ((rd_T52 l0 x24_2).f2.f0), .int .i64 ((rd_T52 l0 x24_2).f2.f1), .string ((rd_T52 l0 x24_2).f2.f2)] 52 (0, 0))) := ⟨by (with_reducible repeat (first | refine blk_drewN ?_ _ | refine blk_drew ?_ | refine blk_alloc ?_ _)); refine blk_far ?_ NB253_254.out _; (with_reducible repeat (first | refine blk_drewN ?_ _ | refine blk_drew ?_ | refine blk_alloc ?_ _)); refine blk_far ?_ NB253_254.out _; (with_reducible repeat (first | refine blk_drewN ?_ _ | refine blk_drew ?_ | refine blk_alloc ?_ _)); refine blk_far ?_ NB253_254.out _; (with_reducible repeat (first | refine blk_drewN ?_ _ | refine blk_drew ?_ | refine blk_alloc ?_ _)); exact BK253.out⟩
                                  have n3_ : Aside0 ((((w59.setCell ⟨gb254, 0, none⟩ (.int .i64 t265)).setCell ⟨gb254, 1, none⟩ (.int .i64 t266)).setCell ⟨gb254, 2, none⟩ (.string t267)).heap[gb254]? = some (.cells #[.int .i64 t265, .int .i64 t266, .string t267] 40 (0, 0))) := ⟨by (with_reducible repeat (first | refine blk_drewN ?_ _ | refine blk_drew ?_ | refine blk_alloc ?_ _)); refine blk_put (cs := #[.int .i64 t265, .int .i64 t266, .string (⟨#[]⟩ : ByteArray)]) ?_ 2 _ rfl; (with_reducible repeat (first | refine blk_drewN ?_ _ | refine blk_drew ?_ | refine blk_alloc ?_ _)); refine blk_put (cs := #[.int .i64 t265, .int .i64 0, .string (⟨#[]⟩ : ByteArray)]) ?_ 1 _ rfl; (with_reducible repeat (first | refine blk_drewN ?_ _ | refine blk_drew ?_ | refine blk_alloc ?_ _)); refine blk_put (cs := #[.int .i64 0, .int .i64 0, .string (⟨#[]⟩ : ByteArray)]) ?_ 0 _ rfl; (with_reducible repeat (first | refine blk_drewN ?_ _ | refine blk_drew ?_ | refine blk_alloc ?_ _)); exact BK254.out⟩
                                  have n4_ : Aside0 (Below w.heap.size w (((w59.setCell ⟨gb254, 0, none⟩ (.int .i64 t265)).setCell ⟨gb254, 1, none⟩ (.int .i64 t266)).setCell ⟨gb254, 2, none⟩ (.string t267))) := ⟨by repeat (first | (with_reducible first | exact HB.out | apply below_alloc | apply pw_below_drewN | apply below_drew1 | refine below_set ?_ GE248.out | refine below_set ?_ GE253.out | refine below_set ?_ GE254.out) | exact HB.out)⟩
                                  (try clear HO_7)
                                  (try clear BK248)
                                  (try clear BK253)
                                  (try clear BK254)
                                  (try clear HB)
                                  generalize (((w59.setCell ⟨gb254, 0, none⟩ (.int .i64 t265)).setCell ⟨gb254, 1, none⟩ (.int .i64 t266)).setCell ⟨gb254, 2, none⟩ (.string t267)) = w63 at n0_ n1_ n2_ n3_ n4_ ⊢
                                  have HO_7 := n0_
                                  have BK248 := n1_
                                  have BK253 := n2_
                                  have BK254 := n3_
                                  have HB := n4_
                                  clear n0_ n1_ n2_ n3_ n4_
                                  have q64 : ((ji41) : Int) ≤ ((x7_2.length : Int) : Int) := dt_
                                  obtain ⟨i064, hi064, _, hsz64, _⟩ := info_parts info40
                                  have hcut64 := cut_to (P := Try.prog) 64 40 .i64 Try.underlying64 hi064 (some ad263) x7_2.length co57 (ji41) dt_ q64 (Kd.R_reads' HO_7.out).2.1
                                  have hr64 := Kd.R_take (m := ((ji41) : Int).toNat) HO_7.out (by omega)
                                  have hy64 : y269.length = ((ji41) : Int).toNat := (by rw [Ny269.out, List.length_take]; omega)
                                  rw [← Ny269.out] at hr64
                                  rw [← hy64] at hr64 hcut64
                                  clear hy64 hi064 hsz64 HO_7
                                  have HO271 := Aside0.mk hr64
                                  clear hr64
                                  replace q64 := eq_true q64
                                  have hnb65 := NB254_248.out
                                  have hnc65 := NB248_254.out
                                  have hcz66_0 : w63.cell? ⟨gb254, 0, none⟩ = some (.int .i64 t265) := (blk_cell BK254.out 0).trans rfl
                                  have hcz66_1 : w63.cell? ⟨gb254, 1, none⟩ = some (.int .i64 t266) := (blk_cell BK254.out 1).trans rfl
                                  have hcz66_2 : w63.cell? ⟨gb254, 2, none⟩ = some (.string t267) := (blk_cell BK254.out 2).trans rfl
                                  have hfz66_0 := blk_frozen BK254.out 0
                                  have hfz66_1 := blk_frozen BK254.out 1
                                  have hfz66_2 := blk_frozen BK254.out 2
                                  try go_wp2_with (first | ((with_reducible refine gate_builtin (b := .append) (xs := #[.tmp 62, .tmp 64]) rfl ?_); at_builtin; refine Kd.R_append k40 (w0 := w) w.heap.size rfl (.tmp 62) (.tmp 64) 64 40 (.agg #[(.int .i64 0), (.int .i64 0), (.string ⟨#[]⟩)]) 32 rfl Try.underlying64 info40 rfl (by decide) (by omega) (.slice (some ad263) y269.length co57) y269 (⟨t265, t266, t267⟩ : S40) [.int .i64 t265, .int .i64 t266, .string t267] (fun k_ => k_ ≠ gb248 ∧ k_ ≠ gb254) (fun _ => False) rfl rfl ?aP (fun _ hk => hk.elim) ?aF ?aO ?aB ?aS ?aL ?_; (case aP => exact k40_mkM _ _ _ (⟨t265, t266, t267⟩ : S40)); (case aB => exact (be_ HB)); (case aF => exact (fun k_ hk => ⟨Kd.freshB (bu_ BK248) k_ hk, Kd.freshB (bu_ BK254) k_ hk⟩)); (case aO => exact (ku_ HO271.out)); (case aS => exact (below_size (be_ HB))); (case aL => have := LMc50.out; omega); intro v273 w67 ho hb hg hat; rw [← Ny272.out] at ho; have n0_ := Aside0.mk (blk_grown (bu_ BK248) hg (Kd.R_away HO271.out (fun _ hk => hk.1))); have n1_ := Aside0.mk (blk_grown (bu_ BK253) hg (Kd.R_ne HO271.out BK253.out (by decide))); have n2_ := Aside0.mk (blk_grown (bu_ BK254) hg (Kd.R_away HO271.out (fun _ hk => hk.2))); have n3_ := Aside0.mk (hb); have n4_ := Aside0.mk (ho); clear BK248; clear BK253; clear BK254; clear HB; clear HO271; have BK248 := n0_; have BK253 := n1_; have BK254 := n2_; have HB := n3_; have HO274 := n4_; clear n0_ n1_ n2_ n3_ n4_; clear ho hb hg hat))
                                  go_roundg k2
                                  case measure => have := HJ3.out; have := HK2.out; omega
                                  case rel => exact ⟨(y272), (wrap64 (x24_2 + 1)), (x249000_2), (x249001_2), (x249002_2), ra_, H', ⟨by have := HJ3.out; have := HK2.out; omega⟩, ⟨by (with_reducible repeat (first | apply Kd.R_alloc | apply Kd.R_drewN | apply Kd.R_drew)); exact Kd.R_mono HO274.out (fun _ hk => hk.1)⟩, ⟨by (with_reducible repeat (first | refine blk_drewN ?_ _ | refine blk_drew ?_ | refine blk_alloc ?_ _)); exact BK248.out⟩, ⟨by repeat (first | (with_reducible first | exact HB.out | apply below_alloc | apply pw_below_drewN | apply below_drew1 | refine below_set ?_ GE248.out | refine below_set ?_ GE253.out | refine below_set ?_ GE254.out) | exact HB.out)⟩⟩
                                · rw [if_neg c50] at H
                                  exact absurd H (by simp)
                              · rw [if_neg c49] at H
                                obtain ⟨c49b0, c49b1⟩ := neB_ c49
                                simp only [Option.some.injEq, Prod.mk.injEq] at H
                                obtain ⟨rfl, rfl, rfl, rfl⟩ := H
                                have p252 : 0 ≤ (x24_2 : Int) := dt_
                                have q252 : x24_2 < (l0.length : Int) := dt_
                                obtain ⟨ad252, e252, hx252_0, hx252_1, hx252_2, hx252_3, hx252_4⟩ := at_T52 HR0.out x24_2 p252 q252
                                cases e252
                                replace hx252_0 := cm_ HB hx252_0
                                replace hx252_1 := cm_ HB hx252_1
                                replace hx252_2 := cm_ HB hx252_2
                                replace hx252_3 := cm_ HB hx252_3
                                replace hx252_4 := cm_ HB hx252_4
                                replace p252 := eq_true p252
                                replace q252 := eq_true q252
                                try go_wp2_with (first | ((with_reducible refine gate_dst (N := 9) rfl ?_); refine box_event ?hg (N := 9) ?hd (cs := #[.int .i64 0, .string (⟨#[]⟩ : ByteArray), .int .i64 0, .int .i64 0, .string (⟨#[]⟩ : ByteArray)]) (t := 52) ?hr ?_; (case hd => rfl); (case hg => rfl); (case hr => first | (go_simp; done) | (go_simp; rfl)); intro gb253 hg w68 hbox hb; have n0_ := kb_ (ku_ HO_7.out) hb; have n1_ := bb_ (bu_ BK248) hb; have n2_ := bs_ (be_ HB) hb; have n3_ := Aside0.mk (hbox); have n4_ := gs_ hg (be_ HB); have n5_ := gs_ hg (be_ HB); have n6_ := nl_ hg (bu_ BK248); have n7_ := ng_ hg (bu_ BK248); clear HO_7; clear BK248; clear HB; have HO_7 := n0_; have BK248 := n1_; have HB := n2_; have BK253 := n3_; have GW253 := n4_; have GE253 := n5_; have NB248_253 := n6_; have NB253_248 := n7_; clear n0_ n1_ n2_ n3_ n4_ n5_ n6_ n7_; clear hb hbox hg; have hnb69 := NB253_248.out; have hnc69 := NB248_253.out; have hcz70_0 : w68.cell? ⟨gb253, 0, none⟩ = some (.int .i64 0) := (blk_cell BK253.out 0).trans rfl; have hcz70_1 : w68.cell? ⟨gb253, 1, none⟩ = some (.string (⟨#[]⟩ : ByteArray)) := (blk_cell BK253.out 1).trans rfl; have hcz70_2 : w68.cell? ⟨gb253, 2, none⟩ = some (.int .i64 0) := (blk_cell BK253.out 2).trans rfl; have hcz70_3 : w68.cell? ⟨gb253, 3, none⟩ = some (.int .i64 0) := (blk_cell BK253.out 3).trans rfl; have hcz70_4 : w68.cell? ⟨gb253, 4, none⟩ = some (.string (⟨#[]⟩ : ByteArray)) := (blk_cell BK253.out 4).trans rfl; have hfz70_0 := blk_frozen BK253.out 0; have hfz70_1 := blk_frozen BK253.out 1; have hfz70_2 := blk_frozen BK253.out 2; have hfz70_3 := blk_frozen BK253.out 3; have hfz70_4 := blk_frozen BK253.out 4) | ((with_reducible refine gate_dst (N := 10) rfl ?_); refine box_event ?hg (N := 10) ?hd (cs := #[.int .i64 0, .int .i64 0, .string (⟨#[]⟩ : ByteArray)]) (t := 40) ?hr ?_; (case hd => rfl); (case hg => rfl); (case hr => first | (go_simp; done) | (go_simp; rfl)); intro gb254 hg w71 hbox hb; have n0_ := Aside0.mk (Kd.R_below (Kd.R_elderB (ku_ (Kd.R_mono (Kd.R_far (p := ⟨gb253, 4, none⟩) (Kd.R_far (p := ⟨gb253, 3, none⟩) (Kd.R_far (p := ⟨gb253, 2, none⟩) (Kd.R_far (p := ⟨gb253, 1, none⟩) (Kd.R_far (p := ⟨gb253, 0, none⟩) (Kd.R_types HO_7.out BK253.out (by decide)) (fun _ hk => hk.2) (.int .i64 ((rd_T52 l0 x24_2).f0))) (fun _ hk => hk.2) (.string ((rd_T52 l0 x24_2).f1))) (fun _ hk => hk.2) (.int .i64 ((rd_T52 l0 x24_2).f2.f0))) (fun _ hk => hk.2) (.int .i64 ((rd_T52 l0 x24_2).f2.f1))) (fun _ hk => hk.2) (.string ((rd_T52 l0 x24_2).f2.f2))) (fun _ h_ => h_.1))) gb254 (Nat.le_of_eq hg.symm)) hb); have n1_ := bb_ (bu_ BK248) hb; have n2_ := Aside0.mk (blk_below (o := .cells #[.int .i64 ((rd_T52 l0 x24_2).f0), .string ((rd_T52 l0 x24_2).f1), .int .i64 ((rd_T52 l0 x24_2).f2.f0), .int .i64 ((rd_T52 l0 x24_2).f2.f1), .string ((rd_T52 l0 x24_2).f2.f2)] 52 (0, 0)) (bp_ BK253) hb); have n3_ := bs_ (be_ HB) hb; have n4_ := Aside0.mk (hbox); have n5_ := gs_ hg (be_ HB); have n6_ := gs_ hg (be_ HB); have n7_ := nl_ hg (bu_ BK248); have n8_ := ng_ hg (bu_ BK248); have n9_ := Aside0.mk ((by rw [hg]; exact Nat.ne_of_lt (blk_lt (o := .cells #[.int .i64 ((rd_T52 l0 x24_2).f0), .string ((rd_T52 l0 x24_2).f1), .int .i64 ((rd_T52 l0 x24_2).f2.f0), .int .i64 ((rd_T52 l0 x24_2).f2.f1), .string ((rd_T52 l0 x24_2).f2.f2)] 52 (0, 0)) (bp_ BK253)) : gb253 ≠ gb254)); have n10_ := Aside0.mk ((by rw [hg]; exact Nat.ne_of_gt (blk_lt (o := .cells #[.int .i64 ((rd_T52 l0 x24_2).f0), .string ((rd_T52 l0 x24_2).f1), .int .i64 ((rd_T52 l0 x24_2).f2.f0), .int .i64 ((rd_T52 l0 x24_2).f2.f1), .string ((rd_T52 l0 x24_2).f2.f2)] 52 (0, 0)) (bp_ BK253)) : gb254 ≠ gb253)); clear HO_7; clear BK248; clear BK253; clear HB; have HO_7 := n0_; have BK248 := n1_; have BK253 := n2_; have HB := n3_; have BK254 := n4_; have GW254 := n5_; have GE254 := n6_; have NB248_254 := n7_; have NB254_248 := n8_; have NB253_254 := n9_; have NB254_253 := n10_; clear n0_ n1_ n2_ n3_ n4_ n5_ n6_ n7_ n8_ n9_ n10_; clear hb hbox hg; have hnb72 := NB253_254.out; have hnc72 := NB254_253.out; have hcz73_0 : w71.cell? ⟨gb253, 0, none⟩ = some (.int .i64 ((rd_T52 l0 x24_2).f0)) := (blk_cell BK253.out 0).trans rfl; have hcz73_1 : w71.cell? ⟨gb253, 1, none⟩ = some (.string ((rd_T52 l0 x24_2).f1)) := (blk_cell BK253.out 1).trans rfl; have hcz73_2 : w71.cell? ⟨gb253, 2, none⟩ = some (.int .i64 ((rd_T52 l0 x24_2).f2.f0)) := (blk_cell BK253.out 2).trans rfl; have hcz73_3 : w71.cell? ⟨gb253, 3, none⟩ = some (.int .i64 ((rd_T52 l0 x24_2).f2.f1)) := (blk_cell BK253.out 3).trans rfl; have hcz73_4 : w71.cell? ⟨gb253, 4, none⟩ = some (.string ((rd_T52 l0 x24_2).f2.f2)) := (blk_cell BK253.out 4).trans rfl; have hfz73_0 := blk_frozen BK253.out 0; have hfz73_1 := blk_frozen BK253.out 1; have hfz73_2 := blk_frozen BK253.out 2; have hfz73_3 := blk_frozen BK253.out 3; have hfz73_4 := blk_frozen BK253.out 4) | ((with_reducible refine gate_callee (f := 40) rfl ?_); refine goesL_ (some 30) rfl rfl Try.func40 (by kernel_rfl) rfl #[.int .i64 ((rd_T52 l0 x24_2).f0)] rfl ga_ ?_; (with_reducible refine (expr_pushes.calls ((rd_T52 l0 x24_2).f0) false _ A14.out).mono ?_); rintro e w' ⟨rfl, ⟨nd, rfl⟩⟩; refine ⟨_, rfl, ?_⟩; (try (rw [drewN_self w71]; generalize hq_ : World.drewN w71 _ = w71; have n0_ : Aside0 (Kd.R k40 40 w71 w.heap.size (fun k_ => k_ ≠ gb248 ∧ k_ ≠ gb254) u7 x7_2) := ⟨by rw [← hq_]; exact (ku_ HO_7.out)⟩; have n1_ : Aside0 (w71.heap[gb248]? = some (.cells #[.int .i64 x249000_2, .int .i64 x249001_2, .string x249002_2] 40 (0, 0))) := ⟨by rw [← hq_]; exact (bu_ BK248)⟩; have n2_ : Aside0 (w71.heap[gb253]? = some (.cells #[.int .i64 ((rd_T52 l0 x24_2).f0), .string ((rd_T52 l0 x24_2).f1), .int .i64 ((rd_T52 l0 x24_2).f2.f0), .int .i64 ((rd_T52 l0 x24_2).f2.f1), .string ((rd_T52 l0 x24_2).f2.f2)] 52 (0, 0))) := ⟨by rw [← hq_]; exact (bu_ BK253)⟩; have n3_ : Aside0 (w71.heap[gb254]? = some (.cells #[.int .i64 0, .int .i64 0, .string (⟨#[]⟩ : ByteArray)] 40 (0, 0))) := ⟨by rw [← hq_]; exact (bu_ BK254)⟩; have n4_ : Aside0 (Below w.heap.size w w71) := ⟨by rw [← hq_]; exact (be_ HB)⟩; clear HO_7 BK248 BK253 BK254 HB hq_; have HO_7 := n0_; have BK248 := n1_; have BK253 := n2_; have BK254 := n3_; have HB := n4_; clear n0_ n1_ n2_ n3_ n4_)); obtain ⟨Ao74, co74, eo74⟩ := Kd.R_slice HO_7.out; subst eo74))
                                have n0_ := Aside0.mk (Kd.R_drew HO_7.out)
                                have n1_ := Aside0.mk (blk_drew BK248.out)
                                have n2_ := Aside0.mk (blk_drew BK253.out)
                                have n3_ := Aside0.mk (blk_drew BK254.out)
                                have n4_ := Aside0.mk (below_drew1 HB.out)
                                clear HO_7
                                clear BK248
                                clear BK253
                                clear BK254
                                clear HB
                                have HO_7 := n0_
                                have BK248 := n1_
                                have BK253 := n2_
                                have BK254 := n3_
                                have HB := n4_
                                clear n0_ n1_ n2_ n3_ n4_
                                have p263 : 0 ≤ ((ji41) : Int) := dt_
                                have q263 : (ji41) < (x7_2.length : Int) := dt_
                                obtain ⟨ad263, e263, hx263_0, hx263_1, hx263_2⟩ := at_T40 (Kd.R_reads' HO_7.out).2.2 (ji41) p263 q263
                                cases e263
                                replace p263 := eq_true p263
                                replace q263 := eq_true q263
                                have p264 : 0 ≤ ((ji44) : Int) := dt_
                                have q264 : (ji44) < (x7_2.length : Int) := dt_
                                obtain ⟨ad264, e264, hx264_0, hx264_1, hx264_2⟩ := at_T40 (Kd.R_reads' HO_7.out).2.2 (ji44) p264 q264
                                obtain rfl : ad263 = ad264 := (by injection e264)
                                replace p264 := eq_true p264
                                replace q264 := eq_true q264
                                refine start_ (n := 17) (S := fun w' => w'.cell? ⟨gb253, 0, none⟩ = some (.int .i64 ((rd_T52 l0 x24_2).f0)) ∧ w'.cell? ⟨gb253, 1, none⟩ = some (.string ((rd_T52 l0 x24_2).f1)) ∧ w'.cell? ⟨gb253, 2, none⟩ = some (.int .i64 ((rd_T52 l0 x24_2).f2.f0)) ∧ w'.cell? ⟨gb253, 3, none⟩ = some (.int .i64 ((rd_T52 l0 x24_2).f2.f1)) ∧ w'.cell? ⟨gb253, 4, none⟩ = some (.string ((rd_T52 l0 x24_2).f2.f2)) ∧ w'.cell? (ad263.add (((ji41)).toNat * 3)) = some (.int .i64 ((rd_T40 x7_2 (ji41)).f0)) ∧ w'.cell? ⟨(ad263.add (((ji41)).toNat * 3)).block, (ad263.add (((ji41)).toNat * 3)).off + 1, none⟩ = some (.int .i64 ((rd_T40 x7_2 (ji41)).f1)) ∧ w'.cell? ⟨(ad263.add (((ji41)).toNat * 3)).block, (ad263.add (((ji41)).toNat * 3)).off + 2, none⟩ = some (.string ((rd_T40 x7_2 (ji41)).f2)) ∧ w'.cell? (ad263.add (((ji44)).toNat * 3)) = some (.int .i64 ((rd_T40 x7_2 (ji44)).f0)) ∧ w'.cell? ⟨(ad263.add (((ji44)).toNat * 3)).block, (ad263.add (((ji44)).toNat * 3)).off + 1, none⟩ = some (.int .i64 ((rd_T40 x7_2 (ji44)).f1)) ∧ w'.cell? ⟨(ad263.add (((ji44)).toNat * 3)).block, (ad263.add (((ji44)).toNat * 3)).off + 2, none⟩ = some (.string ((rd_T40 x7_2 (ji44)).f2))) (ds := []) (mk_ 17 0) (by kernel_rfl) rfl rfl ⟨(blk_cell BK253.out 0).trans rfl, (blk_cell BK253.out 1).trans rfl, (blk_cell BK253.out 2).trans rfl, (blk_cell BK253.out 3).trans rfl, (blk_cell BK253.out 4).trans rfl, hx263_0, hx263_1, hx263_2, hx264_0, hx264_1, hx264_2⟩ (fun hHeld => ?_); refine with_tabW expr_Eval.tab14 expr_Eval.bits14 (fun HT_ HW_ => ?_)
                                generalize w71.drew = w75 at HO_7 BK248 BK253 BK254 HB hx263_0 hx263_1 hx263_2 hx264_0 hx264_1 hx264_2 hHeld ⊢
                                refine pu_ 0 41 1 HT_ ?_; refine pu_ 2 43 5 HT_ ?_; refine pu_ 3 44 13 HT_ ?_; refine pu_ 4 45 29 HT_ ?_; refine pu_ 6 47 93 HT_ ?_; refine pu_ 7 48 221 HT_ ?_; refine pu_ 8 49 477 HT_ ?_; refine pu_ 9 50 989 HT_ ?_; refine tk_ 1 42 991 HT_ HW_ hHeld ?_; refine tk_ 5 46 1023 HT_ HW_ hHeld ?_; refine tk_ 10 51 2047 HT_ HW_ hHeld ?_
                                refine one_ (i := 11) (N := some 52) (mk_ 17 4095) rfl rfl (one_of HT_.out (by kernel_rfl)) (by decide) (fun K hK => ?_)
                                refine goes_ Try.func42 (by kernel_rfl) rfl #[.int .i64 ((rd_T52 l0 x24_2).f0), .agg #[.int .i64 ((rd_T40 x7_2 (ji41)).f0), .int .i64 ((rd_T40 x7_2 (ji41)).f1), .string ((rd_T40 x7_2 (ji41)).f2)], .agg #[.int .i64 ((rd_T40 x7_2 (ji44)).f0), .int .i64 ((rd_T40 x7_2 (ji44)).f1), .string ((rd_T40 x7_2 (ji44)).f2)]] (by rfl) rfl rfl (by (try simp only [List.map_toArray, List.map_cons, List.map_nil]); first | done | (simp only [hji41, hji44]; rfl) | rfl | (simp only [List.length_drop, List.length_take]; rfl)) ?_
                                with_reducible refine (expr_reckon.calls k2 ((rd_T52 l0 x24_2).f0) ((rd_T40 x7_2 (ji41)).f0) ((rd_T40 x7_2 (ji41)).f1) ((rd_T40 x7_2 (ji41)).f2) ((rd_T40 x7_2 (ji44)).f0) ((rd_T40 x7_2 (ji44)).f1) ((rd_T40 x7_2 (ji44)).f2) t265 t266 t267 t268 _ A47.out).mono ?_
                                rintro e w76 ⟨rfl, hb⟩
                                have HS5_ := (hb.cell (World.block_lt_of_cell? _ _ (hHeld.2.2.2.2.2.1))).trans (hHeld.2.2.2.2.2.1)
                                have HS6_ := (hb.cell (World.block_lt_of_cell? _ _ (hHeld.2.2.2.2.2.2.1))).trans (hHeld.2.2.2.2.2.2.1)
                                have HS7_ := (hb.cell (World.block_lt_of_cell? _ _ (hHeld.2.2.2.2.2.2.2.1))).trans (hHeld.2.2.2.2.2.2.2.1)
                                have HS8_ := (hb.cell (World.block_lt_of_cell? _ _ (hHeld.2.2.2.2.2.2.2.2.1))).trans (hHeld.2.2.2.2.2.2.2.2.1)
                                have HS9_ := (hb.cell (World.block_lt_of_cell? _ _ (hHeld.2.2.2.2.2.2.2.2.2.1))).trans (hHeld.2.2.2.2.2.2.2.2.2.1)
                                have HS10_ := (hb.cell (World.block_lt_of_cell? _ _ (hHeld.2.2.2.2.2.2.2.2.2.2))).trans (hHeld.2.2.2.2.2.2.2.2.2.2)
                                refine ⟨_, rfl, ?_⟩
                                have n0_ := kb_ (ku_ HO_7.out) hb
                                have n1_ := bb_ (bu_ BK248) hb
                                have n2_ := bb_ (bu_ BK253) hb
                                have n3_ := bb_ (bu_ BK254) hb
                                have n4_ := bs_ (be_ HB) hb
                                clear HO_7
                                clear BK248
                                clear BK253
                                clear BK254
                                clear HB
                                have HO_7 := n0_
                                have BK248 := n1_
                                have BK253 := n2_
                                have BK254 := n3_
                                have HB := n4_
                                clear n0_ n1_ n2_ n3_ n4_
                                (try clear hb)
                                (try clear hb2)
                                (try clear hk)
                                (try clear hi)
                                refine hK.out _ _ ⟨(blk_cell BK253.out 0).trans rfl, (blk_cell BK253.out 1).trans rfl, (blk_cell BK253.out 2).trans rfl, (blk_cell BK253.out 3).trans rfl, (blk_cell BK253.out 4).trans rfl, HS5_, HS6_, HS7_, HS8_, HS9_, HS10_⟩ (fun hHeld => ?_)
                                clear hK K
                                refine nm_ 52 ?_; refine pu_ 12 40 8191 HT_ ?_; refine pu_ 13 53 16383 HT_ ?_; refine pu_ 14 54 32767 HT_ ?_
                                refine one_ (i := 15) (N := none) (mk_ 17 65535) rfl rfl (one_of HT_.out (by kernel_rfl)) (by decide) (fun K hK => ?_)
                                have hs77 : w76.cell? ⟨gb254, 0, none⟩ = some (.int .i64 0) := (blk_cell BK254.out 0).trans rfl
                                have hfs77 := blk_frozen BK254.out 0
                                have hns77_0 := NB248_254.out
                                have hns77_1 := NB253_254.out
                                have hms77_0 := NB254_248.out
                                have hms77_1 := NB254_253.out
                                have hs78 : w76.cell? ⟨gb254, 1, none⟩ = some (.int .i64 0) := (blk_cell BK254.out 1).trans rfl
                                have hfs78 := blk_frozen BK254.out 1
                                have hns78_0 := NB248_254.out
                                have hns78_1 := NB253_254.out
                                have hms78_0 := NB254_248.out
                                have hms78_1 := NB254_253.out
                                have hs79 : w76.cell? ⟨gb254, 2, none⟩ = some (.string (⟨#[]⟩ : ByteArray)) := (blk_cell BK254.out 2).trans rfl
                                have hfs79 := blk_frozen BK254.out 2
                                have hns79_0 := NB248_254.out
                                have hns79_1 := NB253_254.out
                                have hms79_0 := NB254_248.out
                                have hms79_1 := NB254_253.out
                                refine skip_ (w1 := ?_) (by rfl) rfl ?_ ?_
                                rotate_left
                                · go_simp
                                  rfl
                                refine hK.out _ _ ⟨((cell_far (p := ⟨gb254, _, none⟩) NB253_254.out _).trans (((cell_far (p := ⟨gb254, _, none⟩) NB253_254.out _).trans (((cell_far (p := ⟨gb254, _, none⟩) NB253_254.out _).trans (hHeld.1)))))), ((cell_far (p := ⟨gb254, _, none⟩) NB253_254.out _).trans (((cell_far (p := ⟨gb254, _, none⟩) NB253_254.out _).trans (((cell_far (p := ⟨gb254, _, none⟩) NB253_254.out _).trans (hHeld.2.1)))))), ((cell_far (p := ⟨gb254, _, none⟩) NB253_254.out _).trans (((cell_far (p := ⟨gb254, _, none⟩) NB253_254.out _).trans (((cell_far (p := ⟨gb254, _, none⟩) NB253_254.out _).trans (hHeld.2.2.1)))))), ((cell_far (p := ⟨gb254, _, none⟩) NB253_254.out _).trans (((cell_far (p := ⟨gb254, _, none⟩) NB253_254.out _).trans (((cell_far (p := ⟨gb254, _, none⟩) NB253_254.out _).trans (hHeld.2.2.2.1)))))), ((cell_far (p := ⟨gb254, _, none⟩) NB253_254.out _).trans (((cell_far (p := ⟨gb254, _, none⟩) NB253_254.out _).trans (((cell_far (p := ⟨gb254, _, none⟩) NB253_254.out _).trans (hHeld.2.2.2.2.1)))))), ((cell_far (p := ⟨gb254, _, none⟩) (by first | exact Kd.own_blk (Kd.R_away HO_7.out (fun _ hk => hk.2)) | (rw [add_block]; exact Kd.own_blk (Kd.R_away HO_7.out (fun _ hk => hk.2))) | (show (Addr.add _ _).block ≠ _; rw [add_block]; exact Kd.own_blk (Kd.R_away HO_7.out (fun _ hk => hk.2))) | (dsimp only; exact Kd.own_blk (Kd.R_away HO_7.out (fun _ hk => hk.2)))) _).trans (((cell_far (p := ⟨gb254, _, none⟩) (by first | exact Kd.own_blk (Kd.R_away HO_7.out (fun _ hk => hk.2)) | (rw [add_block]; exact Kd.own_blk (Kd.R_away HO_7.out (fun _ hk => hk.2))) | (show (Addr.add _ _).block ≠ _; rw [add_block]; exact Kd.own_blk (Kd.R_away HO_7.out (fun _ hk => hk.2))) | (dsimp only; exact Kd.own_blk (Kd.R_away HO_7.out (fun _ hk => hk.2)))) _).trans (((cell_far (p := ⟨gb254, _, none⟩) (by first | exact Kd.own_blk (Kd.R_away HO_7.out (fun _ hk => hk.2)) | (rw [add_block]; exact Kd.own_blk (Kd.R_away HO_7.out (fun _ hk => hk.2))) | (show (Addr.add _ _).block ≠ _; rw [add_block]; exact Kd.own_blk (Kd.R_away HO_7.out (fun _ hk => hk.2))) | (dsimp only; exact Kd.own_blk (Kd.R_away HO_7.out (fun _ hk => hk.2)))) _).trans (hHeld.2.2.2.2.2.1)))))), ((cell_far (p := ⟨gb254, _, none⟩) (by first | exact Kd.own_blk (Kd.R_away HO_7.out (fun _ hk => hk.2)) | (rw [add_block]; exact Kd.own_blk (Kd.R_away HO_7.out (fun _ hk => hk.2))) | (show (Addr.add _ _).block ≠ _; rw [add_block]; exact Kd.own_blk (Kd.R_away HO_7.out (fun _ hk => hk.2))) | (dsimp only; exact Kd.own_blk (Kd.R_away HO_7.out (fun _ hk => hk.2)))) _).trans (((cell_far (p := ⟨gb254, _, none⟩) (by first | exact Kd.own_blk (Kd.R_away HO_7.out (fun _ hk => hk.2)) | (rw [add_block]; exact Kd.own_blk (Kd.R_away HO_7.out (fun _ hk => hk.2))) | (show (Addr.add _ _).block ≠ _; rw [add_block]; exact Kd.own_blk (Kd.R_away HO_7.out (fun _ hk => hk.2))) | (dsimp only; exact Kd.own_blk (Kd.R_away HO_7.out (fun _ hk => hk.2)))) _).trans (((cell_far (p := ⟨gb254, _, none⟩) (by first | exact Kd.own_blk (Kd.R_away HO_7.out (fun _ hk => hk.2)) | (rw [add_block]; exact Kd.own_blk (Kd.R_away HO_7.out (fun _ hk => hk.2))) | (show (Addr.add _ _).block ≠ _; rw [add_block]; exact Kd.own_blk (Kd.R_away HO_7.out (fun _ hk => hk.2))) | (dsimp only; exact Kd.own_blk (Kd.R_away HO_7.out (fun _ hk => hk.2)))) _).trans (hHeld.2.2.2.2.2.2.1)))))), ((cell_far (p := ⟨gb254, _, none⟩) (by first | exact Kd.own_blk (Kd.R_away HO_7.out (fun _ hk => hk.2)) | (rw [add_block]; exact Kd.own_blk (Kd.R_away HO_7.out (fun _ hk => hk.2))) | (show (Addr.add _ _).block ≠ _; rw [add_block]; exact Kd.own_blk (Kd.R_away HO_7.out (fun _ hk => hk.2))) | (dsimp only; exact Kd.own_blk (Kd.R_away HO_7.out (fun _ hk => hk.2)))) _).trans (((cell_far (p := ⟨gb254, _, none⟩) (by first | exact Kd.own_blk (Kd.R_away HO_7.out (fun _ hk => hk.2)) | (rw [add_block]; exact Kd.own_blk (Kd.R_away HO_7.out (fun _ hk => hk.2))) | (show (Addr.add _ _).block ≠ _; rw [add_block]; exact Kd.own_blk (Kd.R_away HO_7.out (fun _ hk => hk.2))) | (dsimp only; exact Kd.own_blk (Kd.R_away HO_7.out (fun _ hk => hk.2)))) _).trans (((cell_far (p := ⟨gb254, _, none⟩) (by first | exact Kd.own_blk (Kd.R_away HO_7.out (fun _ hk => hk.2)) | (rw [add_block]; exact Kd.own_blk (Kd.R_away HO_7.out (fun _ hk => hk.2))) | (show (Addr.add _ _).block ≠ _; rw [add_block]; exact Kd.own_blk (Kd.R_away HO_7.out (fun _ hk => hk.2))) | (dsimp only; exact Kd.own_blk (Kd.R_away HO_7.out (fun _ hk => hk.2)))) _).trans (hHeld.2.2.2.2.2.2.2.1)))))), ((cell_far (p := ⟨gb254, _, none⟩) (by first | exact Kd.own_blk (Kd.R_away HO_7.out (fun _ hk => hk.2)) | (rw [add_block]; exact Kd.own_blk (Kd.R_away HO_7.out (fun _ hk => hk.2))) | (show (Addr.add _ _).block ≠ _; rw [add_block]; exact Kd.own_blk (Kd.R_away HO_7.out (fun _ hk => hk.2))) | (dsimp only; exact Kd.own_blk (Kd.R_away HO_7.out (fun _ hk => hk.2)))) _).trans (((cell_far (p := ⟨gb254, _, none⟩) (by first | exact Kd.own_blk (Kd.R_away HO_7.out (fun _ hk => hk.2)) | (rw [add_block]; exact Kd.own_blk (Kd.R_away HO_7.out (fun _ hk => hk.2))) | (show (Addr.add _ _).block ≠ _; rw [add_block]; exact Kd.own_blk (Kd.R_away HO_7.out (fun _ hk => hk.2))) | (dsimp only; exact Kd.own_blk (Kd.R_away HO_7.out (fun _ hk => hk.2)))) _).trans (((cell_far (p := ⟨gb254, _, none⟩) (by first | exact Kd.own_blk (Kd.R_away HO_7.out (fun _ hk => hk.2)) | (rw [add_block]; exact Kd.own_blk (Kd.R_away HO_7.out (fun _ hk => hk.2))) | (show (Addr.add _ _).block ≠ _; rw [add_block]; exact Kd.own_blk (Kd.R_away HO_7.out (fun _ hk => hk.2))) | (dsimp only; exact Kd.own_blk (Kd.R_away HO_7.out (fun _ hk => hk.2)))) _).trans (hHeld.2.2.2.2.2.2.2.2.1)))))), ((cell_far (p := ⟨gb254, _, none⟩) (by first | exact Kd.own_blk (Kd.R_away HO_7.out (fun _ hk => hk.2)) | (rw [add_block]; exact Kd.own_blk (Kd.R_away HO_7.out (fun _ hk => hk.2))) | (show (Addr.add _ _).block ≠ _; rw [add_block]; exact Kd.own_blk (Kd.R_away HO_7.out (fun _ hk => hk.2))) | (dsimp only; exact Kd.own_blk (Kd.R_away HO_7.out (fun _ hk => hk.2)))) _).trans (((cell_far (p := ⟨gb254, _, none⟩) (by first | exact Kd.own_blk (Kd.R_away HO_7.out (fun _ hk => hk.2)) | (rw [add_block]; exact Kd.own_blk (Kd.R_away HO_7.out (fun _ hk => hk.2))) | (show (Addr.add _ _).block ≠ _; rw [add_block]; exact Kd.own_blk (Kd.R_away HO_7.out (fun _ hk => hk.2))) | (dsimp only; exact Kd.own_blk (Kd.R_away HO_7.out (fun _ hk => hk.2)))) _).trans (((cell_far (p := ⟨gb254, _, none⟩) (by first | exact Kd.own_blk (Kd.R_away HO_7.out (fun _ hk => hk.2)) | (rw [add_block]; exact Kd.own_blk (Kd.R_away HO_7.out (fun _ hk => hk.2))) | (show (Addr.add _ _).block ≠ _; rw [add_block]; exact Kd.own_blk (Kd.R_away HO_7.out (fun _ hk => hk.2))) | (dsimp only; exact Kd.own_blk (Kd.R_away HO_7.out (fun _ hk => hk.2)))) _).trans (hHeld.2.2.2.2.2.2.2.2.2.1)))))), ((cell_far (p := ⟨gb254, _, none⟩) (by first | exact Kd.own_blk (Kd.R_away HO_7.out (fun _ hk => hk.2)) | (rw [add_block]; exact Kd.own_blk (Kd.R_away HO_7.out (fun _ hk => hk.2))) | (show (Addr.add _ _).block ≠ _; rw [add_block]; exact Kd.own_blk (Kd.R_away HO_7.out (fun _ hk => hk.2))) | (dsimp only; exact Kd.own_blk (Kd.R_away HO_7.out (fun _ hk => hk.2)))) _).trans (((cell_far (p := ⟨gb254, _, none⟩) (by first | exact Kd.own_blk (Kd.R_away HO_7.out (fun _ hk => hk.2)) | (rw [add_block]; exact Kd.own_blk (Kd.R_away HO_7.out (fun _ hk => hk.2))) | (show (Addr.add _ _).block ≠ _; rw [add_block]; exact Kd.own_blk (Kd.R_away HO_7.out (fun _ hk => hk.2))) | (dsimp only; exact Kd.own_blk (Kd.R_away HO_7.out (fun _ hk => hk.2)))) _).trans (((cell_far (p := ⟨gb254, _, none⟩) (by first | exact Kd.own_blk (Kd.R_away HO_7.out (fun _ hk => hk.2)) | (rw [add_block]; exact Kd.own_blk (Kd.R_away HO_7.out (fun _ hk => hk.2))) | (show (Addr.add _ _).block ≠ _; rw [add_block]; exact Kd.own_blk (Kd.R_away HO_7.out (fun _ hk => hk.2))) | (dsimp only; exact Kd.own_blk (Kd.R_away HO_7.out (fun _ hk => hk.2)))) _).trans (hHeld.2.2.2.2.2.2.2.2.2.2))))))⟩ (fun hHeld => ?_)
                                clear hK K
                                refine pu_ 16 6 131071 HT_ ?_
                                refine done_ (done_of HT_.out (by kernel_rfl)) ?_
                                have n0_ : Aside0 (Kd.R k40 40 (((w76.setCell ⟨gb254, 0, none⟩ (.int .i64 t265)).setCell ⟨gb254, 1, none⟩ (.int .i64 t266)).setCell ⟨gb254, 2, none⟩ (.string t267)) w.heap.size (fun k_ => k_ ≠ gb248 ∧ k_ ≠ gb254) (.slice (some ad263) x7_2.length co74) x7_2) := ⟨by (with_reducible repeat (first | apply Kd.R_alloc | apply Kd.R_drewN | apply Kd.R_drew)); exact Kd.R_mono (Kd.R_far (p := ⟨gb254, 2, none⟩) (Kd.R_far (p := ⟨gb254, 1, none⟩) (Kd.R_far (p := ⟨gb254, 0, none⟩) (Kd.R_mono HO_7.out (fun k_ hk => (⟨hk, hk.2⟩ : _ ∧ k_ ≠ gb254))) (fun _ hk => hk.2) (.int .i64 t265)) (fun _ hk => hk.2) (.int .i64 t266)) (fun _ hk => hk.2) (.string t267)) (fun _ hk => ⟨hk.1.1, hk.1.2⟩)⟩
                                have n1_ : Aside0 ((((w76.setCell ⟨gb254, 0, none⟩ (.int .i64 t265)).setCell ⟨gb254, 1, none⟩ (.int .i64 t266)).setCell ⟨gb254, 2, none⟩ (.string t267)).heap[gb248]? = some (.cells #[.int .i64 x249000_2, .int .i64 x249001_2, .string x249002_2] 40 (0, 0))) := ⟨by (with_reducible repeat (first | refine blk_drewN ?_ _ | refine blk_drew ?_ | refine blk_alloc ?_ _)); refine blk_far ?_ NB248_254.out _; (with_reducible repeat (first | refine blk_drewN ?_ _ | refine blk_drew ?_ | refine blk_alloc ?_ _)); refine blk_far ?_ NB248_254.out _; (with_reducible repeat (first | refine blk_drewN ?_ _ | refine blk_drew ?_ | refine blk_alloc ?_ _)); refine blk_far ?_ NB248_254.out _; (with_reducible repeat (first | refine blk_drewN ?_ _ | refine blk_drew ?_ | refine blk_alloc ?_ _)); exact BK248.out⟩
                                have n2_ : Aside0 ((((w76.setCell ⟨gb254, 0, none⟩ (.int .i64 t265)).setCell ⟨gb254, 1, none⟩ (.int .i64 t266)).setCell ⟨gb254, 2, none⟩ (.string t267)).heap[gb253]? = some (.cells #[.int .i64 ((rd_T52 l0 x24_2).f0), .string ((rd_T52 l0 x24_2).f1), .int .i64 ((rd_T52 l0 x24_2).f2.f0), .int .i64 ((rd_T52 l0 x24_2).f2.f1), .string ((rd_T52 l0 x24_2).f2.f2)] 52 (0, 0))) := ⟨by (with_reducible repeat (first | refine blk_drewN ?_ _ | refine blk_drew ?_ | refine blk_alloc ?_ _)); refine blk_far ?_ NB253_254.out _; (with_reducible repeat (first | refine blk_drewN ?_ _ | refine blk_drew ?_ | refine blk_alloc ?_ _)); refine blk_far ?_ NB253_254.out _; (with_reducible repeat (first | refine blk_drewN ?_ _ | refine blk_drew ?_ | refine blk_alloc ?_ _)); refine blk_far ?_ NB253_254.out _; (with_reducible repeat (first | refine blk_drewN ?_ _ | refine blk_drew ?_ | refine blk_alloc ?_ _)); exact BK253.out⟩
                                have n3_ : Aside0 ((((w76.setCell ⟨gb254, 0, none⟩ (.int .i64 t265)).setCell ⟨gb254, 1, none⟩ (.int .i64 t266)).setCell ⟨gb254, 2, none⟩ (.string t267)).heap[gb254]? = some (.cells #[.int .i64 t265, .int .i64 t266, .string t267] 40 (0, 0))) := ⟨by (with_reducible repeat (first | refine blk_drewN ?_ _ | refine blk_drew ?_ | refine blk_alloc ?_ _)); refine blk_put (cs := #[.int .i64 t265, .int .i64 t266, .string (⟨#[]⟩ : ByteArray)]) ?_ 2 _ rfl; (with_reducible repeat (first | refine blk_drewN ?_ _ | refine blk_drew ?_ | refine blk_alloc ?_ _)); refine blk_put (cs := #[.int .i64 t265, .int .i64 0, .string (⟨#[]⟩ : ByteArray)]) ?_ 1 _ rfl; (with_reducible repeat (first | refine blk_drewN ?_ _ | refine blk_drew ?_ | refine blk_alloc ?_ _)); refine blk_put (cs := #[.int .i64 0, .int .i64 0, .string (⟨#[]⟩ : ByteArray)]) ?_ 0 _ rfl; (with_reducible repeat (first | refine blk_drewN ?_ _ | refine blk_drew ?_ | refine blk_alloc ?_ _)); exact BK254.out⟩
                                have n4_ : Aside0 (Below w.heap.size w (((w76.setCell ⟨gb254, 0, none⟩ (.int .i64 t265)).setCell ⟨gb254, 1, none⟩ (.int .i64 t266)).setCell ⟨gb254, 2, none⟩ (.string t267))) := ⟨by repeat (first | (with_reducible first | exact HB.out | apply below_alloc | apply pw_below_drewN | apply below_drew1 | refine below_set ?_ GE248.out | refine below_set ?_ GE253.out | refine below_set ?_ GE254.out) | exact HB.out)⟩
                                (try clear HO_7)
                                (try clear BK248)
                                (try clear BK253)
                                (try clear BK254)
                                (try clear HB)
                                generalize (((w76.setCell ⟨gb254, 0, none⟩ (.int .i64 t265)).setCell ⟨gb254, 1, none⟩ (.int .i64 t266)).setCell ⟨gb254, 2, none⟩ (.string t267)) = w80 at n0_ n1_ n2_ n3_ n4_ ⊢
                                have HO_7 := n0_
                                have BK248 := n1_
                                have BK253 := n2_
                                have BK254 := n3_
                                have HB := n4_
                                clear n0_ n1_ n2_ n3_ n4_
                                have q81 : ((ji41) : Int) ≤ ((x7_2.length : Int) : Int) := dt_
                                obtain ⟨i081, hi081, _, hsz81, _⟩ := info_parts info40
                                have hcut81 := cut_to (P := Try.prog) 64 40 .i64 Try.underlying64 hi081 (some ad263) x7_2.length co74 (ji41) dt_ q81 (Kd.R_reads' HO_7.out).2.1
                                have hr81 := Kd.R_take (m := ((ji41) : Int).toNat) HO_7.out (by omega)
                                have hy81 : y269.length = ((ji41) : Int).toNat := (by rw [Ny269.out, List.length_take]; omega)
                                rw [← Ny269.out] at hr81
                                rw [← hy81] at hr81 hcut81
                                clear hy81 hi081 hsz81 HO_7
                                have HO271 := Aside0.mk hr81
                                clear hr81
                                replace q81 := eq_true q81
                                have hnb82 := NB248_254.out
                                have hnc82 := NB254_248.out
                                have hcz83_0 : w80.cell? ⟨gb248, 0, none⟩ = some (.int .i64 x249000_2) := (blk_cell BK248.out 0).trans rfl
                                have hcz83_1 : w80.cell? ⟨gb248, 1, none⟩ = some (.int .i64 x249001_2) := (blk_cell BK248.out 1).trans rfl
                                have hcz83_2 : w80.cell? ⟨gb248, 2, none⟩ = some (.string x249002_2) := (blk_cell BK248.out 2).trans rfl
                                have hfz83_0 := blk_frozen BK248.out 0
                                have hfz83_1 := blk_frozen BK248.out 1
                                have hfz83_2 := blk_frozen BK248.out 2
                                try go_wp2
                                refine bodyPost_ret (results_ct rfl _ _ gb248 40 #[.int .i64 0, .int .i64 0, .string (⟨#[]⟩ : ByteArray)] (0, 0) _ rfl (bp_ BK248) Try.underlying40 rfl (by kernel_rfl)) rfl ?_
                                exact ⟨by first | rfl | (simp [errW_none, errW_some] <;> rfl) | (simp only [← hji41, ← hji44]; first | rfl | (simp [errW_none, errW_some] <;> rfl)) | (simp [*, errW_none, errW_some] <;> rfl), by repeat (first | (with_reducible first | exact HB.out | apply below_alloc | apply pw_below_drewN | apply below_drew1 | refine below_set ?_ GE248.out | refine below_set ?_ GE253.out | refine below_set ?_ GE254.out) | exact HB.out)⟩
                            · rw [if_neg c48] at H
                              exact absurd H (by simp)
                          · rw [if_neg c46] at H
                            exact absurd H (by simp)
                        · rw [if_neg c45] at H
                          exact absurd H (by simp)
                      · rw [if_neg c43] at H
                        exact absurd H (by simp)
                    · rw [if_neg c42] at H
                      exact absurd H (by simp)
                · rw [if_neg c13] at H
                  exact absurd H (by simp)
              · rw [if_neg c12] at H
                exact absurd H (by simp)
            · rw [if_neg c11] at H
              have c11b0 : decide (x24_2 < (l0.length : Int)) = false := decide_eq_false c11
              clear c11
              by_cases c84 : 0 < (x7_2.length : Int)
              · rw [if_pos c84] at H
                have c84b0 : decide (0 < (x7_2.length : Int)) = true := decide_eq_true c84
                have c84b1 : decide (0 < x7_2.length) = true := decide_eq_true (by omega)
                clear c84
                simp only [Option.some.injEq, Prod.mk.injEq] at H
                obtain ⟨rfl, rfl, rfl, rfl⟩ := H
                obtain ⟨Ao85, co85, eo85⟩ := Kd.R_slice HO_7.out
                subst eo85
                have p251 : 0 ≤ (0 : Int) := (by omega)
                have q251 : 0 < (x7_2.length : Int) := dt_
                obtain ⟨ad251, e251, hx251_0, hx251_1, hx251_2⟩ := at_T40 (Kd.R_reads' HO_7.out).2.2 0 p251 q251
                cases e251
                have qi251 : (0 < x7_2.length) = True := eq_true (by omega)
                (try rw [show ((0 : Int)).toNat = 0 from rfl] at hx251_0)
                (try rw [show 0 * 3 = 0 from rfl] at hx251_0)
                (try rw [Addr.add_zero'] at hx251_0)
                (try rw [show ((0 : Int)).toNat = 0 from rfl] at hx251_1)
                (try rw [show 0 * 3 = 0 from rfl] at hx251_1)
                (try rw [Addr.add_zero'] at hx251_1)
                (try rw [show ((0 : Int)).toNat = 0 from rfl] at hx251_2)
                (try rw [show 0 * 3 = 0 from rfl] at hx251_2)
                (try rw [Addr.add_zero'] at hx251_2)
                replace p251 := eq_true p251
                replace q251 := eq_true q251
                have hcz86_0 : wr.cell? ⟨gb248, 0, none⟩ = some (.int .i64 x249000_2) := (blk_cell BK248.out 0).trans rfl
                have hcz86_1 : wr.cell? ⟨gb248, 1, none⟩ = some (.int .i64 x249001_2) := (blk_cell BK248.out 1).trans rfl
                have hcz86_2 : wr.cell? ⟨gb248, 2, none⟩ = some (.string x249002_2) := (blk_cell BK248.out 2).trans rfl
                have hfz86_0 := blk_frozen BK248.out 0
                have hfz86_1 := blk_frozen BK248.out 1
                have hfz86_2 := blk_frozen BK248.out 2
                go_wp2
                refine bodyPost_ret (results_ct rfl _ _ gb248 40 #[.int .i64 ((rd_T40 x7_2 0).f0), .int .i64 ((rd_T40 x7_2 0).f1), .string ((rd_T40 x7_2 0).f2)] (0, 0) _ rfl (bp_ BK248) Try.underlying40 rfl (by kernel_rfl)) rfl ?_
                exact ⟨by first | rfl | (simp [errW_none, errW_some] <;> rfl) | (simp [*, errW_none, errW_some] <;> rfl), by repeat (first | (with_reducible first | exact HB.out | apply below_alloc | apply pw_below_drewN | apply below_drew1 | refine below_set ?_ GE248.out) | exact HB.out)⟩
              · rw [if_neg c84] at H
                exact absurd H (by simp)
      · rw [if_neg c10] at H
        obtain ⟨c10b0, c10b1⟩ := neB_ c10
        simp only [Option.some.injEq, Prod.mk.injEq] at H
        obtain ⟨rfl, rfl, rfl, rfl⟩ := H
        have hcz87_0 : wc.cell? ⟨gb248, 0, none⟩ = some (.int .i64 0) := (blk_cell BK248.out 0).trans rfl
        have hcz87_1 : wc.cell? ⟨gb248, 1, none⟩ = some (.int .i64 0) := (blk_cell BK248.out 1).trans rfl
        have hcz87_2 : wc.cell? ⟨gb248, 2, none⟩ = some (.string (⟨#[]⟩ : ByteArray)) := (blk_cell BK248.out 2).trans rfl
        have hfz87_0 := blk_frozen BK248.out 0
        have hfz87_1 := blk_frozen BK248.out 1
        have hfz87_2 := blk_frozen BK248.out 2
        go_wp2
        refine bodyPost_ret (results_ct rfl _ _ gb248 40 #[.int .i64 0, .int .i64 0, .string (⟨#[]⟩ : ByteArray)] (0, 0) _ rfl (bp_ BK248) Try.underlying40 rfl (by kernel_rfl)) rfl ?_
        exact ⟨by first | rfl | (simp [errW_none, errW_some] <;> rfl) | (simp [*, errW_none, errW_some] <;> rfl), by repeat (first | (with_reducible first | exact HB.out | apply below_alloc | apply pw_below_drewN | apply below_drew1 | refine below_set ?_ GE248.out) | exact HB.out)⟩
end Go.Proofs.Ytconpnagoijacaa.P
end
section
namespace Go.Proofs.Ytconpnagoijacaa.P
open Go.RowKit Go.Proofs.YtconpnagoijacaaW.PrintWords Go.Proofs.YtconpnagoijacaaW.PrintLast Go.Proofs.YtconpnagoijacaaW.PrintMore
attribute [local go_sem] max2_int min2_int max_two min_two max_three min_three max_four min_four
set_option linter.unusedVariables false
set_option linter.unusedSimpArgs false
def slices_Index_string_string.l0 : Nat → List ByteArray → ByteArray → Int → Int → Option (Int)
  | 0, _, _, _, _ => none
  | k + 1, x0, x1, x7, x8 => if x8 < x7 then (if 0 ≤ x8 then (if x8 < (x0.length : Int) then (if x1.toList = (rdOf ByteArray.empty x0 x8).toList then (some x8) else (slices_Index_string_string.l0 k x0 x1 x7 (wrap64 (x8 + 1)))) else (none)) else (none)) else (some (-1))
def slices_Index_string_string.f (k : Nat) (l0 : List ByteArray) (a1 : ByteArray) : Option (Int) := slices_Index_string_string.l0 k l0 a1 (l0.length : Int) 0
theorem slices_Index_string_string.mono_l : ∀ k, (∀ y0 y1 y2 y3, LeO (slices_Index_string_string.l0 k y0 y1 y2 y3) (slices_Index_string_string.l0 (k + 1) y0 y1 y2 y3))
  | 0 => fun _ _ _ _ r h => by simp [slices_Index_string_string.l0] at h
  | k + 1 => by
    have ih0 := slices_Index_string_string.mono_l k
    · intro y0 y1 y2 y3
      unfold slices_Index_string_string.l0
      repeat' first
      | (with_reducible exact ih0 _ _ _ _)
      | (with_reducible exact LeO.refl _)
      | (with_reducible exact LeO.none _)
      | (with_reducible refine LeO.ite ?_ ?_)
      | (with_reducible refine LeO.bind ?_ (fun _ => ?_))
      | exact ih0 _ _ _ _
      | exact LeO.none _
      | refine LeO.ite ?_ ?_
      | refine LeO.bind ?_ (fun _ => ?_)
theorem slices_Index_string_string.mono : ∀ a0 a1 k, LeO (slices_Index_string_string.f k a0 a1) (slices_Index_string_string.f (k + 1) a0 a1) := by
  intro a0 a1 k
  have ih0 := slices_Index_string_string.mono_l k
  unfold slices_Index_string_string.f
  repeat' first
      | (with_reducible exact ih0 _ _ _ _)
      | (with_reducible exact LeO.refl _)
      | (with_reducible exact LeO.none _)
      | (with_reducible refine LeO.ite ?_ ?_)
      | (with_reducible refine LeO.bind ?_ (fun _ => ?_))
      | exact ih0 _ _ _ _
      | exact LeO.none _
      | refine LeO.ite ?_ ?_
      | refine LeO.bind ?_ (fun _ => ?_)
set_option maxHeartbeats 8000000 in
set_option maxRecDepth 100000 in
theorem slices_Index_string_string.calls (k : Nat) (A0 : Option Addr) (c0 : Nat) (l0 : List ByteArray) (a1 : ByteArray) (r : Int) (w : World) (hr0 : Kd.C Kd.string w A0 l0.length l0) (hc0 : l0.length ≤ c0) (h : slices_Index_string_string.f k l0 a1 = some r) :
    Calls Try.prog 53 #[.slice A0 l0.length c0, .string a1] w fun e w' => e = .returned (.int .i64 r) ∧ Drawn0 w w' := by
  have HR0 := Aside0.mk hr0
  have HC0 := Aside0.mk hc0
  clear hr0 hc0
  have H : (slices_Index_string_string.l0 k l0 a1 (l0.length : Int) 0) = some r := h
  clear h
  have H' := Aside0.mk H
  clear H
  go_enter Try.func53, Try.ntmps53
  go_wp2
  go_loopg [8] k (fun kq v8 w' => ∃ (x8_1 : Int), v8 = .int .i64 x8_1 ∧ Aside0 (slices_Index_string_string.l0 kq l0 a1 (l0.length : Int) x8_1 = some r) ∧ Aside0 (kq ≤ k) ∧ Drawn0 w w')
  case atStart => exact ⟨(0), ra_, H', ⟨Nat.le_refl _⟩, dz_⟩
  case round =>
    clear H'
    try clear p2
    obtain ⟨x8_1, rfl, HA, HK1, ⟨m1, rfl⟩⟩ := hrel
    cases gk with
    | zero => exact absurd HA.out (by simp [slices_Index_string_string.l0])
    | succ k1 =>
      have H := HA.out
      clear HA
      simp only [slices_Index_string_string.l0] at H
      by_cases c3 : x8_1 < (l0.length : Int)
      · rw [if_pos c3] at H
        have c3b0 : decide (x8_1 < (l0.length : Int)) = true := decide_eq_true c3
        clear c3
        by_cases c4 : 0 ≤ x8_1
        · rw [if_pos c4] at H
          have c4b0 : decide (0 ≤ x8_1) = true := decide_eq_true c4
          clear c4
          by_cases c5 : x8_1 < (l0.length : Int)
          · rw [if_pos c5] at H
            have c5b0 : decide (x8_1 < (l0.length : Int)) = true := decide_eq_true c5
            clear c5
            by_cases c6 : a1.toList = (rdOf ByteArray.empty l0 x8_1).toList
            · rw [if_pos c6] at H
              obtain ⟨c6b0, c6b1⟩ := eqB_ c6
              clear c6
              obtain rfl := Option.some.inj H
              have p277 : 0 ≤ (x8_1 : Int) := dt_
              have q277 : x8_1 < (l0.length : Int) := dt_
              obtain ⟨ad277, e277, hx277_0⟩ := Kd.at_string HR0.out x8_1 p277 q277
              cases e277
              replace p277 := eq_true p277
              replace q277 := eq_true q277
              go_wp2
              go_ret
              exact rz_
            · rw [if_neg c6] at H
              obtain ⟨c6b0, c6b1⟩ := neB_ c6
              have H' := Aside0.mk H
              clear H
              have p277 : 0 ≤ (x8_1 : Int) := dt_
              have q277 : x8_1 < (l0.length : Int) := dt_
              obtain ⟨ad277, e277, hx277_0⟩ := Kd.at_string HR0.out x8_1 p277 q277
              cases e277
              replace p277 := eq_true p277
              replace q277 := eq_true q277
              go_wp2
              go_roundg k1
              case measure => have := HK1.out; omega
              case rel => exact ⟨(wrap64 (x8_1 + 1)), ra_, H', ⟨by have := HK1.out; omega⟩, dz_⟩
          · rw [if_neg c5] at H
            exact absurd H (by simp)
        · rw [if_neg c4] at H
          exact absurd H (by simp)
      · rw [if_neg c3] at H
        have c3b0 : decide (x8_1 < (l0.length : Int)) = false := decide_eq_false c3
        clear c3
        obtain rfl := Option.some.inj H
        go_wp2
        go_ret
        exact rz_
end Go.Proofs.Ytconpnagoijacaa.P
end
section
namespace Go.Proofs.Ytconpnagoijacaa.P
open Go.RowKit Go.Proofs.YtconpnagoijacaaW.PrintWords Go.Proofs.YtconpnagoijacaaW.PrintLast Go.Proofs.YtconpnagoijacaaW.PrintMore
attribute [local go_sem] max2_int min2_int max_two min_two max_three min_three max_four min_four
set_option linter.unusedVariables false
set_option linter.unusedSimpArgs false
def slices_Contains_string_string.f (k : Nat) (l0 : List ByteArray) (a1 : ByteArray) : Option (Bool) := (slices_Index_string_string.f k l0 a1).bind fun t278 => (some (decide (t278 ≥ 0)))
theorem slices_Contains_string_string.mono : ∀ a0 a1 k, LeO (slices_Contains_string_string.f k a0 a1) (slices_Contains_string_string.f (k + 1) a0 a1) := by
  intro a0 a1 k
  unfold slices_Contains_string_string.f
  repeat' first
      | (with_reducible exact slices_Index_string_string.mono _ _ _)
      | (with_reducible exact LeO.refl _)
      | (with_reducible exact LeO.none _)
      | (with_reducible refine LeO.ite ?_ ?_)
      | (with_reducible refine LeO.bind ?_ (fun _ => ?_))
      | exact slices_Index_string_string.mono _ _ _
      | exact LeO.none _
      | refine LeO.ite ?_ ?_
      | refine LeO.bind ?_ (fun _ => ?_)
set_option maxHeartbeats 8000000 in
set_option maxRecDepth 100000 in
theorem slices_Contains_string_string.calls (k : Nat) (A0 : Option Addr) (c0 : Nat) (l0 : List ByteArray) (a1 : ByteArray) (r : Bool) (w : World) (hr0 : Kd.C Kd.string w A0 l0.length l0) (hc0 : l0.length ≤ c0) (h : slices_Contains_string_string.f k l0 a1 = some r) :
    Calls Try.prog 43 #[.slice A0 l0.length c0, .string a1] w fun e w' => e = .returned (.bool r) ∧ Drawn0 w w' := by
  have HR0 := Aside0.mk hr0
  have HC0 := Aside0.mk hc0
  clear hr0 hc0
  have H : ((slices_Index_string_string.f k l0 a1).bind fun t278 => (some (decide (t278 ≥ 0)))) = some r := h
  clear h
  replace H := Option.bind_eq_some_iff.mp H
  obtain ⟨t278, A30, H⟩ := H
  replace H : (some (decide (t278 ≥ 0))) = some r := H
  have A3 := Aside0.mk A30
  clear A30
  obtain rfl := Option.some.inj H
  go_enter Try.func43, Try.ntmps43
  go_wp2_with (first | ((with_reducible refine gate_callee (f := 53) rfl ?_); refine goesL_ (some 7) rfl rfl Try.func53 (by kernel_rfl) rfl #[.slice A0 l0.length c0, .string a1] rfl ga_ ?_; (with_reducible refine (slices_Index_string_string.calls k _ _ l0 a1 t278 _ ?side1 ?side2 A3.out).mono ?_); (case side1 => repeat (first | exact HR0.out | (with_reducible refine Kd.C_alloc ?_ _) | (with_reducible refine Kd.C_drewN ?_ _) | (with_reducible refine Kd.C_drew ?_))); (case side2 => exact HC0.out); rintro e w' ⟨rfl, ⟨nd, rfl⟩⟩; refine ⟨_, rfl, ?_⟩))
  go_ret
  exact rz_
end Go.Proofs.Ytconpnagoijacaa.P
end
section
namespace Go.Proofs.Ytconpnagoijacaa.P
open Go.RowKit Go.Proofs.YtconpnagoijacaaW.PrintWords Go.Proofs.YtconpnagoijacaaW.PrintLast Go.Proofs.YtconpnagoijacaaW.PrintMore
attribute [local go_sem] max2_int min2_int max_two min_two max_three min_three max_four min_four
set_option linter.unusedVariables false
set_option linter.unusedSimpArgs false
def expr_Vars.l0 : Nat → List ByteArray → List (S52) → Int → Int → Option (List ByteArray)
  | 0, _, _, _, _ => none
  | k + 1, x3, x6, x7, x8 => if x8 < x7 then (if 0 ≤ x8 then (if x8 < (x6.length : Int) then (if ((rd_T52 x6 x8).f1).toList = ([] : List UInt8) then (expr_Vars.l0 k x3 x6 x7 (wrap64 (x8 + 1))) else ((slices_Contains_string_string.f k x3 ((rd_T52 x6 x8).f1)).bind fun t281 => (if t281 = true then (expr_Vars.l0 k x3 x6 x7 (wrap64 (x8 + 1))) else (if x3.length < 8796093022208 then (expr_Vars.l0 k (x3 ++ [(rd_T52 x6 x8).f1]) x6 x7 (wrap64 (x8 + 1))) else (none))))) else (none)) else (none)) else (some x3)
def expr_Vars.f (k : Nat) (l0 : List (S52)) : Option (List ByteArray) := expr_Vars.l0 k ([] : List ByteArray) l0 (l0.length : Int) 0
theorem expr_Vars.mono_l : ∀ k, (∀ y0 y1 y2 y3, LeO (expr_Vars.l0 k y0 y1 y2 y3) (expr_Vars.l0 (k + 1) y0 y1 y2 y3))
  | 0 => fun _ _ _ _ r h => by simp [expr_Vars.l0] at h
  | k + 1 => by
    have ih0 := expr_Vars.mono_l k
    · intro y0 y1 y2 y3
      unfold expr_Vars.l0
      repeat' first
      | (with_reducible exact ih0 _ _ _ _)
      | (with_reducible exact slices_Contains_string_string.mono _ _ _)
      | (with_reducible exact LeO.refl _)
      | (with_reducible exact LeO.none _)
      | (with_reducible refine LeO.ite ?_ ?_)
      | (with_reducible refine LeO.bind ?_ (fun _ => ?_))
      | exact ih0 _ _ _ _
      | exact slices_Contains_string_string.mono _ _ _
      | exact LeO.none _
      | refine LeO.ite ?_ ?_
      | refine LeO.bind ?_ (fun _ => ?_)
theorem expr_Vars.mono : ∀ a0 k, LeO (expr_Vars.f k a0) (expr_Vars.f (k + 1) a0) := by
  intro a0 k
  have ih0 := expr_Vars.mono_l k
  unfold expr_Vars.f
  repeat' first
      | (with_reducible exact ih0 _ _ _ _)
      | (with_reducible exact slices_Contains_string_string.mono _ _ _)
      | (with_reducible exact LeO.refl _)
      | (with_reducible exact LeO.none _)
      | (with_reducible refine LeO.ite ?_ ?_)
      | (with_reducible refine LeO.bind ?_ (fun _ => ?_))
      | exact ih0 _ _ _ _
      | exact slices_Contains_string_string.mono _ _ _
      | exact LeO.none _
      | refine LeO.ite ?_ ?_
      | refine LeO.bind ?_ (fun _ => ?_)
set_option maxHeartbeats 8000000 in
set_option maxRecDepth 100000 in
theorem expr_Vars.calls (k : Nat) (A0 : Option Addr) (c0 : Nat) (l0 : List (S52)) (r : List ByteArray) (w : World) (hr0 : Kd.C k52 w A0 l0.length l0) (hc0 : l0.length ≤ c0) (h : expr_Vars.f k l0 = some r) :
    Calls Try.prog 23 #[.slice A0 l0.length c0] w fun e w' => ∃ v0_ : Value, e = .returned (v0_) ∧ Kd.R Kd.string 9 w' w.heap.size (fun _ => True) v0_ r ∧ Below w.heap.size w w' := by
  have hu52 := Try.underlying52
  have HR0 := Aside0.mk hr0
  have HC0 := Aside0.mk hc0
  clear hr0 hc0
  have HB := Aside0.mk (Below.refl w.heap.size w)
  have H : (expr_Vars.l0 k ([] : List ByteArray) l0 (l0.length : Int) 0) = some r := h
  clear h
  have H' := Aside0.mk H
  clear H
  go_enter Try.func23, Try.ntmps23
  go_wp2
  go_loopg [3, 8] k (fun kq v3 v8 w' => ∃ (x3_1 : List ByteArray) (x8_1 : Int), v8 = .int .i64 x8_1 ∧ Aside0 (expr_Vars.l0 kq x3_1 l0 (l0.length : Int) x8_1 = some r) ∧ Aside0 (kq ≤ k) ∧ Aside0 (Kd.R Kd.string 9 w' w.heap.size (fun _ => True) v3 x3_1) ∧ Aside0 (Below w.heap.size w w'))
  case atStart => exact ⟨(([] : List ByteArray)), (0), ra_, H', ⟨Nat.le_refl _⟩, ⟨by first | exact Kd.R_nil _ _ _ _ _ | exact Kd.N_nil _ _ _ _ _ | exact Kd.V_nil _ _ _ _ _ | exact Kd.Q_nil _ _ _ _ _ | exact Kd.S_nil _ _ _ _ _⟩, ⟨by repeat (first | (with_reducible first | exact HB.out | apply below_alloc | apply pw_below_drewN | apply below_drew1) | exact HB.out)⟩⟩
  case round =>
    clear H'
    obtain ⟨x3_1, x8_1, rfl, HA, HK1, HO_3, HB⟩ := hrel
    cases gk with
    | zero => exact absurd HA.out (by simp [expr_Vars.l0])
    | succ k1 =>
      have H := HA.out
      clear HA
      simp only [expr_Vars.l0] at H
      by_cases c2 : x8_1 < (l0.length : Int)
      · rw [if_pos c2] at H
        have c2b0 : decide (x8_1 < (l0.length : Int)) = true := decide_eq_true c2
        clear c2
        by_cases c3 : 0 ≤ x8_1
        · rw [if_pos c3] at H
          have c3b0 : decide (0 ≤ x8_1) = true := decide_eq_true c3
          clear c3
          by_cases c4 : x8_1 < (l0.length : Int)
          · rw [if_pos c4] at H
            have c4b0 : decide (x8_1 < (l0.length : Int)) = true := decide_eq_true c4
            clear c4
            by_cases c5 : ((rd_T52 l0 x8_1).f1).toList = ([] : List UInt8)
            · rw [if_pos c5] at H
              obtain ⟨c5b0, c5b1⟩ := eqB_ c5
              clear c5
              have H' := Aside0.mk H
              clear H
              have p279 : 0 ≤ (x8_1 : Int) := dt_
              have q279 : x8_1 < (l0.length : Int) := dt_
              obtain ⟨ad279, e279, hx279_0, hx279_1, hx279_2, hx279_3, hx279_4⟩ := at_T52 HR0.out x8_1 p279 q279
              cases e279
              replace hx279_0 := cm_ HB hx279_0
              replace hx279_1 := cm_ HB hx279_1
              replace hx279_2 := cm_ HB hx279_2
              replace hx279_3 := cm_ HB hx279_3
              replace hx279_4 := cm_ HB hx279_4
              replace p279 := eq_true p279
              replace q279 := eq_true q279
              go_wp2_with (first | ((with_reducible refine gate_dst (N := 5) rfl ?_); refine box_event ?hg (N := 5) ?hd (cs := #[.int .i64 0, .string (⟨#[]⟩ : ByteArray), .int .i64 0, .int .i64 0, .string (⟨#[]⟩ : ByteArray)]) (t := 52) ?hr ?_; (case hd => rfl); (case hg => rfl); (case hr => first | (go_simp; done) | (go_simp; rfl)); intro gb280 hg w6 hbox hb; have n0_ := kb_ (ku_ HO_3.out) hb; have n1_ := bs_ (be_ HB) hb; have n2_ := Aside0.mk (hbox); have n3_ := gs_ hg (be_ HB); have n4_ := gs_ hg (be_ HB); clear HO_3; clear HB; have HO_3 := n0_; have HB := n1_; have BK280 := n2_; have GW280 := n3_; have GE280 := n4_; clear n0_ n1_ n2_ n3_ n4_; clear hb hbox hg; have hcz7_0 : w6.cell? ⟨gb280, 0, none⟩ = some (.int .i64 0) := (blk_cell BK280.out 0).trans rfl; have hcz7_1 : w6.cell? ⟨gb280, 1, none⟩ = some (.string (⟨#[]⟩ : ByteArray)) := (blk_cell BK280.out 1).trans rfl; have hcz7_2 : w6.cell? ⟨gb280, 2, none⟩ = some (.int .i64 0) := (blk_cell BK280.out 2).trans rfl; have hcz7_3 : w6.cell? ⟨gb280, 3, none⟩ = some (.int .i64 0) := (blk_cell BK280.out 3).trans rfl; have hcz7_4 : w6.cell? ⟨gb280, 4, none⟩ = some (.string (⟨#[]⟩ : ByteArray)) := (blk_cell BK280.out 4).trans rfl; have hfz7_0 := blk_frozen BK280.out 0; have hfz7_1 := blk_frozen BK280.out 1; have hfz7_2 := blk_frozen BK280.out 2; have hfz7_3 := blk_frozen BK280.out 3; have hfz7_4 := blk_frozen BK280.out 4))
              go_roundg k1
              case measure => have := HK1.out; omega
              case rel => exact ⟨(x3_1), (wrap64 (x8_1 + 1)), ra_, H', ⟨by have := HK1.out; omega⟩, ⟨by (with_reducible repeat (first | apply Kd.R_alloc | apply Kd.R_drewN | apply Kd.R_drew)); exact Kd.R_mono (Kd.R_far (p := ⟨gb280, 4, none⟩) (Kd.R_far (p := ⟨gb280, 3, none⟩) (Kd.R_far (p := ⟨gb280, 2, none⟩) (Kd.R_far (p := ⟨gb280, 1, none⟩) (Kd.R_far (p := ⟨gb280, 0, none⟩) (Kd.R_types HO_3.out BK280.out (by decide)) (fun _ hk => hk.2) (.int .i64 ((rd_T52 l0 x8_1).f0))) (fun _ hk => hk.2) (.string ((rd_T52 l0 x8_1).f1))) (fun _ hk => hk.2) (.int .i64 ((rd_T52 l0 x8_1).f2.f0))) (fun _ hk => hk.2) (.int .i64 ((rd_T52 l0 x8_1).f2.f1))) (fun _ hk => hk.2) (.string ((rd_T52 l0 x8_1).f2.f2))) (fun _ hk => trivial)⟩, ⟨by repeat (first | (with_reducible first | exact HB.out | apply below_alloc | apply pw_below_drewN | apply below_drew1 | refine below_set ?_ GE280.out) | exact HB.out)⟩⟩
            · rw [if_neg c5] at H
              obtain ⟨c5b0, c5b1⟩ := neB_ c5
              replace H := Option.bind_eq_some_iff.mp H
              obtain ⟨t281, A80, H⟩ := H
              replace H : (if t281 = true then (expr_Vars.l0 k1 x3_1 l0 (l0.length : Int) (wrap64 (x8_1 + 1))) else (if x3_1.length < 8796093022208 then (expr_Vars.l0 k1 (x3_1 ++ [(rd_T52 l0 x8_1).f1]) l0 (l0.length : Int) (wrap64 (x8_1 + 1))) else (none))) = some r := H
              have A8 := Aside0.mk A80
              clear A80
              by_cases c9 : t281 = true
              · subst c9
                have H1 : (expr_Vars.l0 k1 x3_1 l0 (l0.length : Int) (wrap64 (x8_1 + 1))) = some r := by rw [if_pos rfl] at H; exact H
                clear H
                have H := H1
                clear H1
                have H' := Aside0.mk H
                clear H
                have p279 : 0 ≤ (x8_1 : Int) := dt_
                have q279 : x8_1 < (l0.length : Int) := dt_
                obtain ⟨ad279, e279, hx279_0, hx279_1, hx279_2, hx279_3, hx279_4⟩ := at_T52 HR0.out x8_1 p279 q279
                cases e279
                replace hx279_0 := cm_ HB hx279_0
                replace hx279_1 := cm_ HB hx279_1
                replace hx279_2 := cm_ HB hx279_2
                replace hx279_3 := cm_ HB hx279_3
                replace hx279_4 := cm_ HB hx279_4
                replace p279 := eq_true p279
                replace q279 := eq_true q279
                go_wp2_with (first | ((with_reducible refine gate_dst (N := 5) rfl ?_); refine box_event ?hg (N := 5) ?hd (cs := #[.int .i64 0, .string (⟨#[]⟩ : ByteArray), .int .i64 0, .int .i64 0, .string (⟨#[]⟩ : ByteArray)]) (t := 52) ?hr ?_; (case hd => rfl); (case hg => rfl); (case hr => first | (go_simp; done) | (go_simp; rfl)); intro gb280 hg w10 hbox hb; have n0_ := kb_ (ku_ HO_3.out) hb; have n1_ := bs_ (be_ HB) hb; have n2_ := Aside0.mk (hbox); have n3_ := gs_ hg (be_ HB); have n4_ := gs_ hg (be_ HB); clear HO_3; clear HB; have HO_3 := n0_; have HB := n1_; have BK280 := n2_; have GW280 := n3_; have GE280 := n4_; clear n0_ n1_ n2_ n3_ n4_; clear hb hbox hg; have hcz11_0 : w10.cell? ⟨gb280, 0, none⟩ = some (.int .i64 0) := (blk_cell BK280.out 0).trans rfl; have hcz11_1 : w10.cell? ⟨gb280, 1, none⟩ = some (.string (⟨#[]⟩ : ByteArray)) := (blk_cell BK280.out 1).trans rfl; have hcz11_2 : w10.cell? ⟨gb280, 2, none⟩ = some (.int .i64 0) := (blk_cell BK280.out 2).trans rfl; have hcz11_3 : w10.cell? ⟨gb280, 3, none⟩ = some (.int .i64 0) := (blk_cell BK280.out 3).trans rfl; have hcz11_4 : w10.cell? ⟨gb280, 4, none⟩ = some (.string (⟨#[]⟩ : ByteArray)) := (blk_cell BK280.out 4).trans rfl; have hfz11_0 := blk_frozen BK280.out 0; have hfz11_1 := blk_frozen BK280.out 1; have hfz11_2 := blk_frozen BK280.out 2; have hfz11_3 := blk_frozen BK280.out 3; have hfz11_4 := blk_frozen BK280.out 4; obtain ⟨Ao12, co12, eo12⟩ := Kd.R_slice HO_3.out; subst eo12) | (go_at_call 43; (with_reducible refine (slices_Contains_string_string.calls k1 _ _ x3_1 ((rd_T52 l0 x8_1).f1) true _ ?side1 ?side2 A8.out).mono ?_); (case side1 => refine (Kd.R_reads' (e := 9) (base := w.heap.size) (ok := fun k_ => True) (n := x3_1.length) (c := co12) ?_).2.2; exact (ku_ (Kd.R_mono (Kd.R_far (p := ⟨gb280, 4, none⟩) (Kd.R_far (p := ⟨gb280, 3, none⟩) (Kd.R_far (p := ⟨gb280, 2, none⟩) (Kd.R_far (p := ⟨gb280, 1, none⟩) (Kd.R_far (p := ⟨gb280, 0, none⟩) (Kd.R_types HO_3.out BK280.out (by decide)) (fun _ hk => hk.2) (.int .i64 ((rd_T52 l0 x8_1).f0))) (fun _ hk => hk.2) (.string ((rd_T52 l0 x8_1).f1))) (fun _ hk => hk.2) (.int .i64 ((rd_T52 l0 x8_1).f2.f0))) (fun _ hk => hk.2) (.int .i64 ((rd_T52 l0 x8_1).f2.f1))) (fun _ hk => hk.2) (.string ((rd_T52 l0 x8_1).f2.f2))) (fun _ h_ => h_.1)))); (case side2 => exact (Kd.R_reads' HO_3.out).2.1); rintro e w' ⟨rfl, ⟨nd, rfl⟩⟩))
                go_roundg k1
                case measure => have := HK1.out; omega
                case rel => exact ⟨(x3_1), (wrap64 (x8_1 + 1)), ra_, H', ⟨by have := HK1.out; omega⟩, ⟨by (with_reducible repeat (first | apply Kd.R_alloc | apply Kd.R_drewN | apply Kd.R_drew)); exact Kd.R_mono (Kd.R_far (p := ⟨gb280, 4, none⟩) (Kd.R_far (p := ⟨gb280, 3, none⟩) (Kd.R_far (p := ⟨gb280, 2, none⟩) (Kd.R_far (p := ⟨gb280, 1, none⟩) (Kd.R_far (p := ⟨gb280, 0, none⟩) (Kd.R_types HO_3.out BK280.out (by decide)) (fun _ hk => hk.2) (.int .i64 ((rd_T52 l0 x8_1).f0))) (fun _ hk => hk.2) (.string ((rd_T52 l0 x8_1).f1))) (fun _ hk => hk.2) (.int .i64 ((rd_T52 l0 x8_1).f2.f0))) (fun _ hk => hk.2) (.int .i64 ((rd_T52 l0 x8_1).f2.f1))) (fun _ hk => hk.2) (.string ((rd_T52 l0 x8_1).f2.f2))) (fun _ hk => trivial)⟩, ⟨by repeat (first | (with_reducible first | exact HB.out | apply below_alloc | apply pw_below_drewN | apply below_drew1 | refine below_set ?_ GE280.out) | exact HB.out)⟩⟩
              · replace c9 := Bool.eq_false_iff.mpr c9
                subst c9
                have H1 : (if x3_1.length < 8796093022208 then (expr_Vars.l0 k1 (x3_1 ++ [(rd_T52 l0 x8_1).f1]) l0 (l0.length : Int) (wrap64 (x8_1 + 1))) else (none)) = some r := by rw [if_neg (show ¬ (false = true) by decide)] at H; exact H
                clear H
                have H := H1
                clear H1
                by_cases c13 : x3_1.length < 8796093022208
                · rw [if_pos c13] at H
                  have LMc13 := Aside0.mk c13
                  clear c13
                  obtain ⟨y282, hy282⟩ : ∃ y_ : List ByteArray, y_ = (x3_1 ++ [(rd_T52 l0 x8_1).f1]) := ⟨_, rfl⟩
                  replace H : (expr_Vars.l0 k1 y282 l0 (l0.length : Int) (wrap64 (x8_1 + 1))) = some r := by first | (rw [hy282]; with_reducible exact H) | (have H2_ := (Option.bind_some _ _).symm.trans H; rw [hy282]; with_reducible exact H2_) | (have H2_ := (Option.bind_some _ _).symm.trans H; with_reducible exact H2_) | with_reducible exact H | (rw [hy282]; exact H) | exact H
                  have Ny282 := Aside0.mk hy282
                  clear hy282
                  have H' := Aside0.mk H
                  clear H
                  have p279 : 0 ≤ (x8_1 : Int) := dt_
                  have q279 : x8_1 < (l0.length : Int) := dt_
                  obtain ⟨ad279, e279, hx279_0, hx279_1, hx279_2, hx279_3, hx279_4⟩ := at_T52 HR0.out x8_1 p279 q279
                  cases e279
                  replace hx279_0 := cm_ HB hx279_0
                  replace hx279_1 := cm_ HB hx279_1
                  replace hx279_2 := cm_ HB hx279_2
                  replace hx279_3 := cm_ HB hx279_3
                  replace hx279_4 := cm_ HB hx279_4
                  replace p279 := eq_true p279
                  replace q279 := eq_true q279
                  go_wp2_with (first | ((with_reducible refine gate_dst (N := 5) rfl ?_); refine box_event ?hg (N := 5) ?hd (cs := #[.int .i64 0, .string (⟨#[]⟩ : ByteArray), .int .i64 0, .int .i64 0, .string (⟨#[]⟩ : ByteArray)]) (t := 52) ?hr ?_; (case hd => rfl); (case hg => rfl); (case hr => first | (go_simp; done) | (go_simp; rfl)); intro gb280 hg w14 hbox hb; have n0_ := kb_ (ku_ HO_3.out) hb; have n1_ := bs_ (be_ HB) hb; have n2_ := Aside0.mk (hbox); have n3_ := gs_ hg (be_ HB); have n4_ := gs_ hg (be_ HB); clear HO_3; clear HB; have HO_3 := n0_; have HB := n1_; have BK280 := n2_; have GW280 := n3_; have GE280 := n4_; clear n0_ n1_ n2_ n3_ n4_; clear hb hbox hg; have hcz15_0 : w14.cell? ⟨gb280, 0, none⟩ = some (.int .i64 0) := (blk_cell BK280.out 0).trans rfl; have hcz15_1 : w14.cell? ⟨gb280, 1, none⟩ = some (.string (⟨#[]⟩ : ByteArray)) := (blk_cell BK280.out 1).trans rfl; have hcz15_2 : w14.cell? ⟨gb280, 2, none⟩ = some (.int .i64 0) := (blk_cell BK280.out 2).trans rfl; have hcz15_3 : w14.cell? ⟨gb280, 3, none⟩ = some (.int .i64 0) := (blk_cell BK280.out 3).trans rfl; have hcz15_4 : w14.cell? ⟨gb280, 4, none⟩ = some (.string (⟨#[]⟩ : ByteArray)) := (blk_cell BK280.out 4).trans rfl; have hfz15_0 := blk_frozen BK280.out 0; have hfz15_1 := blk_frozen BK280.out 1; have hfz15_2 := blk_frozen BK280.out 2; have hfz15_3 := blk_frozen BK280.out 3; have hfz15_4 := blk_frozen BK280.out 4; obtain ⟨Ao16, co16, eo16⟩ := Kd.R_slice HO_3.out; subst eo16) | (go_at_call 43; (with_reducible refine (slices_Contains_string_string.calls k1 _ _ x3_1 ((rd_T52 l0 x8_1).f1) false _ ?side1 ?side2 A8.out).mono ?_); (case side1 => refine (Kd.R_reads' (e := 9) (base := w.heap.size) (ok := fun k_ => True) (n := x3_1.length) (c := co16) ?_).2.2; exact (ku_ (Kd.R_mono (Kd.R_far (p := ⟨gb280, 4, none⟩) (Kd.R_far (p := ⟨gb280, 3, none⟩) (Kd.R_far (p := ⟨gb280, 2, none⟩) (Kd.R_far (p := ⟨gb280, 1, none⟩) (Kd.R_far (p := ⟨gb280, 0, none⟩) (Kd.R_types HO_3.out BK280.out (by decide)) (fun _ hk => hk.2) (.int .i64 ((rd_T52 l0 x8_1).f0))) (fun _ hk => hk.2) (.string ((rd_T52 l0 x8_1).f1))) (fun _ hk => hk.2) (.int .i64 ((rd_T52 l0 x8_1).f2.f0))) (fun _ hk => hk.2) (.int .i64 ((rd_T52 l0 x8_1).f2.f1))) (fun _ hk => hk.2) (.string ((rd_T52 l0 x8_1).f2.f2))) (fun _ h_ => h_.1)))); (case side2 => exact (Kd.R_reads' HO_3.out).2.1); rintro e w' ⟨rfl, ⟨nd, rfl⟩⟩) | ((with_reducible refine gate_builtin (b := .append) (xs := #[.tmp 22, .tmp 25]) rfl ?_); at_builtin; refine Kd.R_append Kd.string (w0 := w) w.heap.size rfl (.tmp 22) (.tmp 25) 44 9 (.string ⟨#[]⟩) 16 rfl Try.underlying44 info9 rfl (by decide) (by omega) (.slice Ao16 x3_1.length co16) x3_1 ((rd_T52 l0 x8_1).f1) [.string ((rd_T52 l0 x8_1).f1)] (fun _ => True) (fun _ => False) rfl (by first | (go_simp; done) | (go_simp; rfl)) ?aP (fun _ hk => hk.elim) ?aF ?aO ?aB ?aS ?aL ?_; (case aP => exact rfl); (case aB => exact (be_ HB)); (case aF => exact (fun _ _ => trivial)); (case aO => exact (by (with_reducible repeat (first | apply Kd.R_alloc | apply Kd.R_drewN | apply Kd.R_drew)); exact Kd.R_mono (Kd.R_far (p := ⟨gb280, 4, none⟩) (Kd.R_far (p := ⟨gb280, 3, none⟩) (Kd.R_far (p := ⟨gb280, 2, none⟩) (Kd.R_far (p := ⟨gb280, 1, none⟩) (Kd.R_far (p := ⟨gb280, 0, none⟩) (Kd.R_types HO_3.out BK280.out (by decide)) (fun _ hk => hk.2) (.int .i64 ((rd_T52 l0 x8_1).f0))) (fun _ hk => hk.2) (.string ((rd_T52 l0 x8_1).f1))) (fun _ hk => hk.2) (.int .i64 ((rd_T52 l0 x8_1).f2.f0))) (fun _ hk => hk.2) (.int .i64 ((rd_T52 l0 x8_1).f2.f1))) (fun _ hk => hk.2) (.string ((rd_T52 l0 x8_1).f2.f2))) (fun _ hk => trivial))); (case aS => exact (below_size (be_ HB))); (case aL => have := LMc13.out; omega); intro v283 w17 ho hb hg hat; rw [← Ny282.out] at ho; have n0_ := Aside0.mk (blk_grown (o := .cells #[.int .i64 ((rd_T52 l0 x8_1).f0), .string ((rd_T52 l0 x8_1).f1), .int .i64 ((rd_T52 l0 x8_1).f2.f0), .int .i64 ((rd_T52 l0 x8_1).f2.f1), .string ((rd_T52 l0 x8_1).f2.f2)] 52 (0, 0)) (bp_ BK280) hg (Kd.R_ne HO_3.out BK280.out (by decide))); have n1_ := Aside0.mk (hb); have n2_ := Aside0.mk (ho); clear BK280; clear HB; clear HO_3; have BK280 := n0_; have HB := n1_; have HO284 := n2_; clear n0_ n1_ n2_; clear ho hb hg hat))
                  go_roundg k1
                  case measure => have := HK1.out; omega
                  case rel => exact ⟨(y282), (wrap64 (x8_1 + 1)), ra_, H', ⟨by have := HK1.out; omega⟩, ⟨by (with_reducible repeat (first | apply Kd.R_alloc | apply Kd.R_drewN | apply Kd.R_drew)); exact HO284.out⟩, ⟨by repeat (first | (with_reducible first | exact HB.out | apply below_alloc | apply pw_below_drewN | apply below_drew1 | refine below_set ?_ GE280.out) | exact HB.out)⟩⟩
                · rw [if_neg c13] at H
                  exact absurd H (by simp)
          · rw [if_neg c4] at H
            exact absurd H (by simp)
        · rw [if_neg c3] at H
          exact absurd H (by simp)
      · rw [if_neg c2] at H
        have c2b0 : decide (x8_1 < (l0.length : Int)) = false := decide_eq_false c2
        clear c2
        obtain rfl := Option.some.inj H
        go_wp2
        go_ret
        exact ⟨_, by first | rfl | (simp [errW_none, errW_some] <;> rfl) | (simp [*, errW_none, errW_some] <;> rfl), by (with_reducible repeat (first | apply Kd.R_alloc | apply Kd.R_drewN | apply Kd.R_drew)); exact HO_3.out, by repeat (first | (with_reducible first | exact HB.out | apply below_alloc | apply pw_below_drewN | apply below_drew1) | exact HB.out)⟩
end Go.Proofs.Ytconpnagoijacaa.P
end
section
namespace Go.Proofs.Ytconpnagoijacaa.P
open Go.RowKit Go.Proofs.YtconpnagoijacaaW.PrintWords Go.Proofs.YtconpnagoijacaaW.PrintLast Go.Proofs.YtconpnagoijacaaW.PrintMore
attribute [local go_sem] max2_int min2_int max_two min_two max_three min_three max_four min_four
set_option linter.unusedVariables false
set_option linter.unusedSimpArgs false
def constableref01_In.f (a0 : Int) (a1 : Int) (a2 : Int) : Option (Bool) := if a0 ≥ a1 then (some (decide (a0 ≤ a2))) else (some false)
set_option maxHeartbeats 8000000 in
set_option maxRecDepth 100000 in
theorem constableref01_In.calls (a0 : Int) (a1 : Int) (a2 : Int) (r : Bool) (w : World) (h : constableref01_In.f a0 a1 a2 = some r) :
    Calls Try.prog 38 #[.int .i64 a0, .int .i64 a1, .int .i64 a2] w fun e w' => e = .returned (.bool r) ∧ Drawn0 w w' := by
  have H : (if a0 ≥ a1 then (some (decide (a0 ≤ a2))) else (some false)) = some r := h
  clear h
  by_cases c4 : a0 ≥ a1
  · rw [if_pos c4] at H
    have c4b0 : decide (a1 ≤ a0) = true := decide_eq_true c4
    clear c4
    obtain rfl := Option.some.inj H
    go_enter Try.func38, Try.ntmps38
    go_wp2
    go_ret
    exact rz_
  · rw [if_neg c4] at H
    have c4b0 : decide (a1 ≤ a0) = false := decide_eq_false c4
    clear c4
    obtain rfl := Option.some.inj H
    go_enter Try.func38, Try.ntmps38
    go_wp2
    go_ret
    exact rz_
end Go.Proofs.Ytconpnagoijacaa.P
end
section
namespace Go.Proofs.Ytconpnagoijacaa.P
open Go.RowKit Go.Proofs.YtconpnagoijacaaW.PrintWords Go.Proofs.YtconpnagoijacaaW.PrintLast Go.Proofs.YtconpnagoijacaaW.PrintMore
attribute [local go_sem] max2_int min2_int max_two min_two max_three min_three max_four min_four
set_option linter.unusedVariables false
set_option linter.unusedSimpArgs false
def constableref01_Upper.f (a0 : Int) : Option (Bool) := if a0 ≥ 65 then (some (decide (a0 ≤ 90))) else (some false)
set_option maxHeartbeats 8000000 in
set_option maxRecDepth 100000 in
theorem constableref01_Upper.calls (a0 : Int) (r : Bool) (w : World) (h : constableref01_Upper.f a0 = some r) :
    Calls Try.prog 54 #[.int .u8 a0] w fun e w' => e = .returned (.bool r) ∧ Drawn0 w w' := by
  have H : (if a0 ≥ 65 then (some (decide (a0 ≤ 90))) else (some false)) = some r := h
  clear h
  by_cases c2 : a0 ≥ 65
  · rw [if_pos c2] at H
    have c2b0 : decide (65 ≤ a0) = true := decide_eq_true c2
    clear c2
    obtain rfl := Option.some.inj H
    go_enter Try.func54, Try.ntmps54
    go_wp2
    go_ret
    exact rz_
  · rw [if_neg c2] at H
    have c2b0 : decide (65 ≤ a0) = false := decide_eq_false c2
    clear c2
    obtain rfl := Option.some.inj H
    go_enter Try.func54, Try.ntmps54
    go_wp2
    go_ret
    exact rz_
end Go.Proofs.Ytconpnagoijacaa.P
end
section
namespace Go.Proofs.Ytconpnagoijacaa.P
open Go.RowKit Go.Proofs.YtconpnagoijacaaW.PrintWords Go.Proofs.YtconpnagoijacaaW.PrintLast Go.Proofs.YtconpnagoijacaaW.PrintMore
attribute [local go_sem] max2_int min2_int max_two min_two max_three min_three max_four min_four
set_option linter.unusedVariables false
set_option linter.unusedSimpArgs false
def constableref01_Lower.f (a0 : Int) : Option (Bool) := if a0 ≥ 97 then (some (decide (a0 ≤ 122))) else (some false)
set_option maxHeartbeats 8000000 in
set_option maxRecDepth 100000 in
theorem constableref01_Lower.calls (a0 : Int) (r : Bool) (w : World) (h : constableref01_Lower.f a0 = some r) :
    Calls Try.prog 55 #[.int .u8 a0] w fun e w' => e = .returned (.bool r) ∧ Drawn0 w w' := by
  have H : (if a0 ≥ 97 then (some (decide (a0 ≤ 122))) else (some false)) = some r := h
  clear h
  by_cases c2 : a0 ≥ 97
  · rw [if_pos c2] at H
    have c2b0 : decide (97 ≤ a0) = true := decide_eq_true c2
    clear c2
    obtain rfl := Option.some.inj H
    go_enter Try.func55, Try.ntmps55
    go_wp2
    go_ret
    exact rz_
  · rw [if_neg c2] at H
    have c2b0 : decide (97 ≤ a0) = false := decide_eq_false c2
    clear c2
    obtain rfl := Option.some.inj H
    go_enter Try.func55, Try.ntmps55
    go_wp2
    go_ret
    exact rz_
end Go.Proofs.Ytconpnagoijacaa.P
end
section
namespace Go.Proofs.Ytconpnagoijacaa.P
open Go.RowKit Go.Proofs.YtconpnagoijacaaW.PrintWords Go.Proofs.YtconpnagoijacaaW.PrintLast Go.Proofs.YtconpnagoijacaaW.PrintMore
attribute [local go_sem] max2_int min2_int max_two min_two max_three min_three max_four min_four
set_option linter.unusedVariables false
set_option linter.unusedSimpArgs false
def constableref01_Digit.f (a0 : Int) : Option (Bool) := if a0 ≥ 48 then (some (decide (a0 ≤ 57))) else (some false)
set_option maxHeartbeats 8000000 in
set_option maxRecDepth 100000 in
theorem constableref01_Digit.calls (a0 : Int) (r : Bool) (w : World) (h : constableref01_Digit.f a0 = some r) :
    Calls Try.prog 60 #[.int .u8 a0] w fun e w' => e = .returned (.bool r) ∧ Drawn0 w w' := by
  have H : (if a0 ≥ 48 then (some (decide (a0 ≤ 57))) else (some false)) = some r := h
  clear h
  by_cases c2 : a0 ≥ 48
  · rw [if_pos c2] at H
    have c2b0 : decide (48 ≤ a0) = true := decide_eq_true c2
    clear c2
    obtain rfl := Option.some.inj H
    go_enter Try.func60, Try.ntmps60
    go_wp2
    go_ret
    exact rz_
  · rw [if_neg c2] at H
    have c2b0 : decide (48 ≤ a0) = false := decide_eq_false c2
    clear c2
    obtain rfl := Option.some.inj H
    go_enter Try.func60, Try.ntmps60
    go_wp2
    go_ret
    exact rz_
end Go.Proofs.Ytconpnagoijacaa.P
end
section
namespace Go.Proofs.Ytconpnagoijacaa.P
open Go.RowKit Go.Proofs.YtconpnagoijacaaW.PrintWords Go.Proofs.YtconpnagoijacaaW.PrintLast Go.Proofs.YtconpnagoijacaaW.PrintMore
attribute [local go_sem] max2_int min2_int max_two min_two max_three min_three max_four min_four
set_option linter.unusedVariables false
set_option linter.unusedSimpArgs false
def constableref01_inner.f (a0 : Int) : Option (Bool) := (constableref01_Lower.f a0).bind fun t297 => (if t297 = true then (some true) else ((constableref01_Upper.f a0).bind fun t298 => (if t298 = true then (some true) else ((constableref01_Digit.f a0).bind fun t299 => (if t299 = true then (some true) else (some (a0 == 95)))))))
set_option maxHeartbeats 8000000 in
set_option maxRecDepth 100000 in
theorem constableref01_inner.calls (a0 : Int) (r : Bool) (w : World) (h : constableref01_inner.f a0 = some r) :
    Calls Try.prog 56 #[.int .u8 a0] w fun e w' => e = .returned (.bool r) ∧ Drawn0 w w' := by
  have H : ((constableref01_Lower.f a0).bind fun t297 => (if t297 = true then (some true) else ((constableref01_Upper.f a0).bind fun t298 => (if t298 = true then (some true) else ((constableref01_Digit.f a0).bind fun t299 => (if t299 = true then (some true) else (some (a0 == 95)))))))) = some r := h
  clear h
  replace H := Option.bind_eq_some_iff.mp H
  obtain ⟨t297, A20, H⟩ := H
  replace H : (if t297 = true then (some true) else ((constableref01_Upper.f a0).bind fun t298 => (if t298 = true then (some true) else ((constableref01_Digit.f a0).bind fun t299 => (if t299 = true then (some true) else (some (a0 == 95))))))) = some r := H
  have A2 := Aside0.mk A20
  clear A20
  by_cases c3 : t297 = true
  · subst c3
    have H1 : (some true) = some r := by rw [if_pos rfl] at H; exact H
    clear H
    have H := H1
    clear H1
    obtain rfl := Option.some.inj H
    go_enter Try.func56, Try.ntmps56
    go_wp2_with (first | ((with_reducible refine gate_callee (f := 55) rfl ?_); refine goesL_ (some 4) rfl rfl Try.func55 (by kernel_rfl) rfl #[.int .u8 a0] rfl ga_ ?_; (with_reducible refine (constableref01_Lower.calls a0 true _ A2.out).mono ?_); rintro e w' ⟨rfl, ⟨nd, rfl⟩⟩; refine ⟨_, rfl, ?_⟩))
    go_ret
    exact rz_
  · replace c3 := Bool.eq_false_iff.mpr c3
    subst c3
    have H1 : ((constableref01_Upper.f a0).bind fun t298 => (if t298 = true then (some true) else ((constableref01_Digit.f a0).bind fun t299 => (if t299 = true then (some true) else (some (a0 == 95)))))) = some r := by rw [if_neg (show ¬ (false = true) by decide)] at H; exact H
    clear H
    have H := H1
    clear H1
    replace H := Option.bind_eq_some_iff.mp H
    obtain ⟨t298, A40, H⟩ := H
    replace H : (if t298 = true then (some true) else ((constableref01_Digit.f a0).bind fun t299 => (if t299 = true then (some true) else (some (a0 == 95))))) = some r := H
    have A4 := Aside0.mk A40
    clear A40
    by_cases c5 : t298 = true
    · subst c5
      have H1 : (some true) = some r := by rw [if_pos rfl] at H; exact H
      clear H
      have H := H1
      clear H1
      obtain rfl := Option.some.inj H
      go_enter Try.func56, Try.ntmps56
      go_wp2_with (first | ((with_reducible refine gate_callee (f := 55) rfl ?_); refine goesL_ (some 4) rfl rfl Try.func55 (by kernel_rfl) rfl #[.int .u8 a0] rfl ga_ ?_; (with_reducible refine (constableref01_Lower.calls a0 false _ A2.out).mono ?_); rintro e w' ⟨rfl, ⟨nd, rfl⟩⟩; refine ⟨_, rfl, ?_⟩) | (go_at_call 54; (with_reducible refine (constableref01_Upper.calls a0 true _ A4.out).mono ?_); rintro e w' ⟨rfl, ⟨nd, rfl⟩⟩))
      go_ret
      exact rz_
    · replace c5 := Bool.eq_false_iff.mpr c5
      subst c5
      have H1 : ((constableref01_Digit.f a0).bind fun t299 => (if t299 = true then (some true) else (some (a0 == 95)))) = some r := by rw [if_neg (show ¬ (false = true) by decide)] at H; exact H
      clear H
      have H := H1
      clear H1
      replace H := Option.bind_eq_some_iff.mp H
      obtain ⟨t299, A60, H⟩ := H
      replace H : (if t299 = true then (some true) else (some (a0 == 95))) = some r := H
      have A6 := Aside0.mk A60
      clear A60
      by_cases c7 : t299 = true
      · subst c7
        have H1 : (some true) = some r := by rw [if_pos rfl] at H; exact H
        clear H
        have H := H1
        clear H1
        obtain rfl := Option.some.inj H
        go_enter Try.func56, Try.ntmps56
        go_wp2_with (first | ((with_reducible refine gate_callee (f := 55) rfl ?_); refine goesL_ (some 4) rfl rfl Try.func55 (by kernel_rfl) rfl #[.int .u8 a0] rfl ga_ ?_; (with_reducible refine (constableref01_Lower.calls a0 false _ A2.out).mono ?_); rintro e w' ⟨rfl, ⟨nd, rfl⟩⟩; refine ⟨_, rfl, ?_⟩) | (go_at_call 54; (with_reducible refine (constableref01_Upper.calls a0 false _ A4.out).mono ?_); rintro e w' ⟨rfl, ⟨nd, rfl⟩⟩) | (go_at_call 60; (with_reducible refine (constableref01_Digit.calls a0 true _ A6.out).mono ?_); rintro e w' ⟨rfl, ⟨nd, rfl⟩⟩))
        go_ret
        exact rz_
      · replace c7 := Bool.eq_false_iff.mpr c7
        subst c7
        have H1 : (some (a0 == 95)) = some r := by rw [if_neg (show ¬ (false = true) by decide)] at H; exact H
        clear H
        have H := H1
        clear H1
        obtain rfl := Option.some.inj H
        go_enter Try.func56, Try.ntmps56
        go_wp2_with (first | ((with_reducible refine gate_callee (f := 55) rfl ?_); refine goesL_ (some 4) rfl rfl Try.func55 (by kernel_rfl) rfl #[.int .u8 a0] rfl ga_ ?_; (with_reducible refine (constableref01_Lower.calls a0 false _ A2.out).mono ?_); rintro e w' ⟨rfl, ⟨nd, rfl⟩⟩; refine ⟨_, rfl, ?_⟩) | (go_at_call 54; (with_reducible refine (constableref01_Upper.calls a0 false _ A4.out).mono ?_); rintro e w' ⟨rfl, ⟨nd, rfl⟩⟩) | (go_at_call 60; (with_reducible refine (constableref01_Digit.calls a0 false _ A6.out).mono ?_); rintro e w' ⟨rfl, ⟨nd, rfl⟩⟩))
        go_ret
        exact rz_
end Go.Proofs.Ytconpnagoijacaa.P
end
section
namespace Go.Proofs.Ytconpnagoijacaa.P
open Go.RowKit Go.Proofs.YtconpnagoijacaaW.PrintWords Go.Proofs.YtconpnagoijacaaW.PrintLast Go.Proofs.YtconpnagoijacaaW.PrintMore
attribute [local go_sem] max2_int min2_int max_two min_two max_three min_three max_four min_four
set_option linter.unusedVariables false
set_option linter.unusedSimpArgs false
mutual
def constableref01_Word.j0 : Nat → ByteArray → Bool → Option (Bool)
  | 0, _, _ => none
  | k + 1, x0, x26 => if x26 = true then (some false) else (constableref01_Word.l0 k x0 0)
def constableref01_Word.l0 : Nat → ByteArray → Int → Option (Bool)
  | 0, _, _ => none
  | k + 1, x0, x5 => if x5 < (x0.size : Int) then (if 0 ≤ x5 then ((constableref01_inner.f (bt x0 x5)).bind fun t303 => (if t303 = true then (constableref01_Word.l0 k x0 (wrap64 (x5 + 1))) else (some false))) else (none)) else (some true)
end
def constableref01_Word.f (k : Nat) (a0 : ByteArray) (a1 : Bool) : Option (Bool) := (constableref01_In.f (a0.size : Int) 1 24).bind fun t300 => (if t300 = true then (if 0 < (a0.size : Int) then ((constableref01_Upper.f (bt a0 0)).bind fun t301 => (if (a1 != t301) = true then (constableref01_Word.j0 k a0 true) else (if a1 = true then (constableref01_Word.j0 k a0 false) else ((constableref01_Lower.f (bt a0 0)).bind fun t302 => (constableref01_Word.j0 k a0 (!t302)))))) else (none)) else (constableref01_Word.j0 k a0 true))
theorem constableref01_Word.mono_l : ∀ k, (∀ y0 y1, LeO (constableref01_Word.j0 k y0 y1) (constableref01_Word.j0 (k + 1) y0 y1)) ∧ (∀ y0 y1, LeO (constableref01_Word.l0 k y0 y1) (constableref01_Word.l0 (k + 1) y0 y1))
  | 0 => ⟨fun _ _ r h => by simp [constableref01_Word.j0] at h, fun _ _ r h => by simp [constableref01_Word.l0] at h⟩
  | k + 1 => by
    obtain ⟨ih0, ih1⟩ := constableref01_Word.mono_l k
    refine ⟨?_, ?_⟩
    · intro y0 y1
      unfold constableref01_Word.j0
      repeat' first
      | (with_reducible exact ih0 _ _)
      | (with_reducible exact ih1 _ _)
      | (with_reducible exact LeO.refl _)
      | (with_reducible exact LeO.none _)
      | (with_reducible refine LeO.ite ?_ ?_)
      | (with_reducible refine LeO.bind ?_ (fun _ => ?_))
      | exact ih0 _ _
      | exact ih1 _ _
      | exact LeO.none _
      | refine LeO.ite ?_ ?_
      | refine LeO.bind ?_ (fun _ => ?_)
    · intro y0 y1
      unfold constableref01_Word.l0
      repeat' first
      | (with_reducible exact ih0 _ _)
      | (with_reducible exact ih1 _ _)
      | (with_reducible exact LeO.refl _)
      | (with_reducible exact LeO.none _)
      | (with_reducible refine LeO.ite ?_ ?_)
      | (with_reducible refine LeO.bind ?_ (fun _ => ?_))
      | exact ih0 _ _
      | exact ih1 _ _
      | exact LeO.none _
      | refine LeO.ite ?_ ?_
      | refine LeO.bind ?_ (fun _ => ?_)
theorem constableref01_Word.mono : ∀ a0 a1 k, LeO (constableref01_Word.f k a0 a1) (constableref01_Word.f (k + 1) a0 a1) := by
  intro a0 a1 k
  obtain ⟨ih0, ih1⟩ := constableref01_Word.mono_l k
  unfold constableref01_Word.f
  repeat' first
      | (with_reducible exact ih0 _ _)
      | (with_reducible exact ih1 _ _)
      | (with_reducible exact LeO.refl _)
      | (with_reducible exact LeO.none _)
      | (with_reducible refine LeO.ite ?_ ?_)
      | (with_reducible refine LeO.bind ?_ (fun _ => ?_))
      | exact ih0 _ _
      | exact ih1 _ _
      | exact LeO.none _
      | refine LeO.ite ?_ ?_
      | refine LeO.bind ?_ (fun _ => ?_)
set_option maxHeartbeats 8000000 in
set_option maxRecDepth 100000 in
theorem constableref01_Word.calls (k : Nat) (a0 : ByteArray) (a1 : Bool) (r : Bool) (w : World) (h : constableref01_Word.f k a0 a1 = some r) :
    Calls Try.prog 45 #[.string a0, .bool a1] w fun e w' => e = .returned (.bool r) ∧ Drawn0 w w' := by
  have H : ((constableref01_In.f (a0.size : Int) 1 24).bind fun t300 => (if t300 = true then (if 0 < (a0.size : Int) then ((constableref01_Upper.f (bt a0 0)).bind fun t301 => (if (a1 != t301) = true then (constableref01_Word.j0 k a0 true) else (if a1 = true then (constableref01_Word.j0 k a0 false) else ((constableref01_Lower.f (bt a0 0)).bind fun t302 => (constableref01_Word.j0 k a0 (!t302)))))) else (none)) else (constableref01_Word.j0 k a0 true))) = some r := h
  clear h
  have HC3 := Aside0.mk H
  clear H
  go_enter Try.func45, Try.ntmps45
  go_upto_region 1 with (fail)
  go_cut [26] (fun v26 wc => ∃ (kq : Nat) (x26_2 : Bool), v26 = .bool x26_2 ∧ Aside0 (constableref01_Word.j0 kq a0 x26_2 = some r) ∧ Aside0 (kq ≤ k) ∧ Drawn0 w wc)
  case first =>
    have H := HC3.out
    clear HC3
    replace H := Option.bind_eq_some_iff.mp H
    obtain ⟨t300, A40, H⟩ := H
    replace H : (if t300 = true then (if 0 < (a0.size : Int) then ((constableref01_Upper.f (bt a0 0)).bind fun t301 => (if (a1 != t301) = true then (constableref01_Word.j0 k a0 true) else (if a1 = true then (constableref01_Word.j0 k a0 false) else ((constableref01_Lower.f (bt a0 0)).bind fun t302 => (constableref01_Word.j0 k a0 (!t302)))))) else (none)) else (constableref01_Word.j0 k a0 true)) = some r := H
    have A4 := Aside0.mk A40
    clear A40
    by_cases c5 : t300 = true
    · subst c5
      have H1 : (if 0 < (a0.size : Int) then ((constableref01_Upper.f (bt a0 0)).bind fun t301 => (if (a1 != t301) = true then (constableref01_Word.j0 k a0 true) else (if a1 = true then (constableref01_Word.j0 k a0 false) else ((constableref01_Lower.f (bt a0 0)).bind fun t302 => (constableref01_Word.j0 k a0 (!t302)))))) else (none)) = some r := by rw [if_pos rfl] at H; exact H
      clear H
      have H := H1
      clear H1
      by_cases c6 : 0 < (a0.size : Int)
      · rw [if_pos c6] at H
        have c6b0 : decide (0 < (a0.size : Int)) = true := decide_eq_true c6
        have c6b1 : decide (0 < a0.size) = true := decide_eq_true (by omega)
        clear c6
        (first | rw [c6b0] | (simp only [i64_w, i32_w]; rw [c6b0]) | skip)
        replace H := Option.bind_eq_some_iff.mp H
        obtain ⟨t301, A80, H⟩ := H
        replace H : (if (a1 != t301) = true then (constableref01_Word.j0 k a0 true) else (if a1 = true then (constableref01_Word.j0 k a0 false) else ((constableref01_Lower.f (bt a0 0)).bind fun t302 => (constableref01_Word.j0 k a0 (!t302))))) = some r := H
        have A8 := Aside0.mk A80
        clear A80
        by_cases c9 : (a1 != t301) = true
        · rw [if_pos c9] at H
          have c9b0 : (a1 != t301) = true := c9
          (try (have c9b1 : decide (a1 = t301) = false := by simpa using c9))
          (try (have c9b2 : (a1 == t301) = false := by simpa using c9))
          (try (have c9b3 : ¬ (a1 = t301) := by simpa using c9))
          clear c9
          have H' := Aside0.mk H
          clear H
          go_wp2_with (first | ((with_reducible refine gate_callee (f := 38) rfl ?_); refine goesL_ (some 8) rfl rfl Try.func38 (by kernel_rfl) rfl #[.int .i64 (a0.size : Int), .int .i64 1, .int .i64 24] rfl ga_ ?_; (with_reducible refine (constableref01_In.calls (a0.size : Int) 1 24 true _ A4.out).mono ?_); rintro e w' ⟨rfl, ⟨nd, rfl⟩⟩; refine ⟨_, rfl, ?_⟩; have p7 : 0 ≤ (0 : Int) := (by omega); have q7 : 0 < a0.size := (by have : (0 : Int) < (a0.size : Int) := dt_; omega); have hx7 : ∀ h : 0 < a0.size, ((a0[0]'h).toNat : Int) = bt a0 0 := bt_at a0 0; clear p7; have qi7 : (0 < (a0.size : Int)) = True := eq_true dt_; replace q7 := eq_true q7) | (go_at_call 54; (with_reducible refine (constableref01_Upper.calls (bt a0 0) t301 _ A8.out).mono ?_); rintro e w' ⟨rfl, ⟨nd, rfl⟩⟩))
          go_meet
          case rel => exact ⟨_, (true), ra_, H', ⟨by first | omega | exact Nat.le_refl _⟩, dz_⟩
        · rw [if_neg c9] at H
          have c9b0 : (a1 != t301) = false := by simpa using c9
          (try (have c9b1 : decide (a1 = t301) = true := by simpa using c9))
          (try (have c9b2 : (a1 == t301) = true := by simpa using c9))
          clear c9
          by_cases c10 : a1 = true
          · subst c10
            have H1 : (constableref01_Word.j0 k a0 false) = some r := by rw [if_pos rfl] at H; exact H
            clear H
            have H := H1
            clear H1
            have H' := Aside0.mk H
            clear H
            go_wp2_with (first | ((with_reducible refine gate_callee (f := 38) rfl ?_); refine goesL_ (some 8) rfl rfl Try.func38 (by kernel_rfl) rfl #[.int .i64 (a0.size : Int), .int .i64 1, .int .i64 24] rfl ga_ ?_; (with_reducible refine (constableref01_In.calls (a0.size : Int) 1 24 true _ A4.out).mono ?_); rintro e w' ⟨rfl, ⟨nd, rfl⟩⟩; refine ⟨_, rfl, ?_⟩; have p7 : 0 ≤ (0 : Int) := (by omega); have q7 : 0 < a0.size := (by have : (0 : Int) < (a0.size : Int) := dt_; omega); have hx7 : ∀ h : 0 < a0.size, ((a0[0]'h).toNat : Int) = bt a0 0 := bt_at a0 0; clear p7; have qi7 : (0 < (a0.size : Int)) = True := eq_true dt_; replace q7 := eq_true q7) | (go_at_call 54; (with_reducible refine (constableref01_Upper.calls (bt a0 0) t301 _ A8.out).mono ?_); rintro e w' ⟨rfl, ⟨nd, rfl⟩⟩))
            go_meet
            case rel => exact ⟨_, (false), ra_, H', ⟨by first | omega | exact Nat.le_refl _⟩, dz_⟩
          · replace c10 := Bool.eq_false_iff.mpr c10
            subst c10
            have H1 : ((constableref01_Lower.f (bt a0 0)).bind fun t302 => (constableref01_Word.j0 k a0 (!t302))) = some r := by rw [if_neg (show ¬ (false = true) by decide)] at H; exact H
            clear H
            have H := H1
            clear H1
            replace H := Option.bind_eq_some_iff.mp H
            obtain ⟨t302, A120, H⟩ := H
            replace H : (constableref01_Word.j0 k a0 (!t302)) = some r := H
            have A12 := Aside0.mk A120
            clear A120
            have H' := Aside0.mk H
            clear H
            go_wp2_with (first | ((with_reducible refine gate_callee (f := 38) rfl ?_); refine goesL_ (some 8) rfl rfl Try.func38 (by kernel_rfl) rfl #[.int .i64 (a0.size : Int), .int .i64 1, .int .i64 24] rfl ga_ ?_; (with_reducible refine (constableref01_In.calls (a0.size : Int) 1 24 true _ A4.out).mono ?_); rintro e w' ⟨rfl, ⟨nd, rfl⟩⟩; refine ⟨_, rfl, ?_⟩; have p7 : 0 ≤ (0 : Int) := (by omega); have q7 : 0 < a0.size := (by have : (0 : Int) < (a0.size : Int) := dt_; omega); have hx7 : ∀ h : 0 < a0.size, ((a0[0]'h).toNat : Int) = bt a0 0 := bt_at a0 0; clear p7; have qi7 : (0 < (a0.size : Int)) = True := eq_true dt_; replace q7 := eq_true q7) | (go_at_call 54; (with_reducible refine (constableref01_Upper.calls (bt a0 0) t301 _ A8.out).mono ?_); rintro e w' ⟨rfl, ⟨nd, rfl⟩⟩; have p11 : 0 ≤ (0 : Int) := (by omega); have q11 : 0 < a0.size := (by have : (0 : Int) < (a0.size : Int) := dt_; omega); have hx11 : ∀ h : 0 < a0.size, ((a0[0]'h).toNat : Int) = bt a0 0 := bt_at a0 0; clear p11; have qi11 : (0 < (a0.size : Int)) = True := eq_true dt_; replace q11 := eq_true q11) | (go_at_call 55; (with_reducible refine (constableref01_Lower.calls (bt a0 0) t302 _ A12.out).mono ?_); rintro e w' ⟨rfl, ⟨nd, rfl⟩⟩))
            go_meet
            case rel => exact ⟨_, (!t302), ra_, H', ⟨by first | omega | exact Nat.le_refl _⟩, dz_⟩
      · rw [if_neg c6] at H
        exact absurd H (by simp)
    · replace c5 := Bool.eq_false_iff.mpr c5
      subst c5
      have H1 : (constableref01_Word.j0 k a0 true) = some r := by rw [if_neg (show ¬ (false = true) by decide)] at H; exact H
      clear H
      have H := H1
      clear H1
      have H' := Aside0.mk H
      clear H
      go_wp2_with (first | ((with_reducible refine gate_callee (f := 38) rfl ?_); refine goesL_ (some 8) rfl rfl Try.func38 (by kernel_rfl) rfl #[.int .i64 (a0.size : Int), .int .i64 1, .int .i64 24] rfl ga_ ?_; (with_reducible refine (constableref01_In.calls (a0.size : Int) 1 24 false _ A4.out).mono ?_); rintro e w' ⟨rfl, ⟨nd, rfl⟩⟩; refine ⟨_, rfl, ?_⟩))
      go_meet
      case rel => exact ⟨_, (true), ra_, H', ⟨by first | omega | exact Nat.le_refl _⟩, dz_⟩
  case rest =>
    clear HC3
    try clear c1
    try clear p1
    try clear q1
    try clear hx1
    try clear qi1
    try clear p2
    try clear c3
    try clear c4
    try clear c5
    try clear c6
    try clear c6b0
    try clear c6b1
    try clear p7
    try clear q7
    try clear hx7
    try clear qi7
    try clear c9
    try clear c9b0
    try clear c9b1
    try clear c9b2
    try clear c10
    try clear p11
    try clear q11
    try clear hx11
    try clear qi11
    try clear p11
    try clear p7
    try clear q11
    try clear q7
    obtain ⟨kq, x26_2, rfl, HA, HJ2, ⟨mc2, rfl⟩⟩ := hcut
    cases kq with
    | zero => exact absurd HA.out (by simp [constableref01_Word.j0])
    | succ kj2 =>
      have H := HA.out
      clear HA
      simp only [constableref01_Word.j0] at H
      by_cases c13 : x26_2 = true
      · subst c13
        have H1 : (some false) = some r := by rw [if_pos rfl] at H; exact H
        clear H
        have H := H1
        clear H1
        obtain rfl := Option.some.inj H
        go_wp2
        go_ret
        exact rz_
      · replace c13 := Bool.eq_false_iff.mpr c13
        subst c13
        have H1 : (constableref01_Word.l0 kj2 a0 0) = some r := by rw [if_neg (show ¬ (false = true) by decide)] at H; exact H
        clear H
        have H := H1
        clear H1
        have H' := Aside0.mk H
        clear H
        go_wp2
        go_loopg [5] kj2 (fun kq v5 w' => ∃ (x5_2 : Int), v5 = .int .i64 x5_2 ∧ Aside0 (constableref01_Word.l0 kq a0 x5_2 = some r) ∧ Aside0 (kq ≤ kj2) ∧ Drawn0 w w')
        case atStart => exact ⟨(0), ra_, H', ⟨Nat.le_refl _⟩, dz_⟩
        case round =>
          clear H'
          try clear c1
          try clear p1
          try clear q1
          try clear hx1
          try clear qi1
          try clear c2
          try clear p2
          try clear c3
          try clear c4
          try clear c5
          try clear c6
          try clear c6b0
          try clear c6b1
          try clear p7
          try clear q7
          try clear hx7
          try clear qi7
          try clear c9
          try clear c9b0
          try clear c9b1
          try clear c9b2
          try clear c10
          try clear p11
          try clear q11
          try clear hx11
          try clear qi11
          try clear c13
          try clear p1
          try clear p11
          try clear p2
          try clear p7
          try clear q1
          try clear q11
          try clear q7
          obtain ⟨x5_2, rfl, HA, HK2, ⟨m2, rfl⟩⟩ := hrel
          cases gk with
          | zero => exact absurd HA.out (by simp [constableref01_Word.l0])
          | succ k2 =>
            have H := HA.out
            clear HA
            simp only [constableref01_Word.l0] at H
            by_cases c14 : x5_2 < (a0.size : Int)
            · rw [if_pos c14] at H
              have c14b0 : decide (x5_2 < (a0.size : Int)) = true := decide_eq_true c14
              clear c14
              by_cases c15 : 0 ≤ x5_2
              · rw [if_pos c15] at H
                have c15b0 : decide (0 ≤ x5_2) = true := decide_eq_true c15
                clear c15
                replace H := Option.bind_eq_some_iff.mp H
                obtain ⟨t303, A170, H⟩ := H
                replace H : (if t303 = true then (constableref01_Word.l0 k2 a0 (wrap64 (x5_2 + 1))) else (some false)) = some r := H
                have A17 := Aside0.mk A170
                clear A170
                by_cases c18 : t303 = true
                · subst c18
                  have H1 : (constableref01_Word.l0 k2 a0 (wrap64 (x5_2 + 1))) = some r := by rw [if_pos rfl] at H; exact H
                  clear H
                  have H := H1
                  clear H1
                  have H' := Aside0.mk H
                  clear H
                  have p16 : 0 ≤ (x5_2 : Int) := dt_
                  have q16 : x5_2 < (a0.size : Int) := dt_
                  have hx16 := bt_at a0 x5_2
                  replace p16 := eq_true p16
                  replace q16 := eq_true q16
                  go_wp2_with (first | ((with_reducible refine gate_callee (f := 56) rfl ?_); refine goesL_ (some 36) rfl rfl Try.func56 (by kernel_rfl) rfl #[.int .u8 (bt a0 x5_2)] rfl ga_ ?_; (with_reducible refine (constableref01_inner.calls (bt a0 x5_2) true _ A17.out).mono ?_); rintro e w' ⟨rfl, ⟨nd, rfl⟩⟩; refine ⟨_, rfl, ?_⟩))
                  go_roundg k2
                  case measure => have := HJ2.out; have := HK2.out; omega
                  case rel => exact ⟨(wrap64 (x5_2 + 1)), ra_, H', ⟨by have := HJ2.out; have := HK2.out; omega⟩, dz_⟩
                · replace c18 := Bool.eq_false_iff.mpr c18
                  subst c18
                  have H1 : (some false) = some r := by rw [if_neg (show ¬ (false = true) by decide)] at H; exact H
                  clear H
                  have H := H1
                  clear H1
                  obtain rfl := Option.some.inj H
                  have p16 : 0 ≤ (x5_2 : Int) := dt_
                  have q16 : x5_2 < (a0.size : Int) := dt_
                  have hx16 := bt_at a0 x5_2
                  replace p16 := eq_true p16
                  replace q16 := eq_true q16
                  go_wp2_with (first | ((with_reducible refine gate_callee (f := 56) rfl ?_); refine goesL_ (some 36) rfl rfl Try.func56 (by kernel_rfl) rfl #[.int .u8 (bt a0 x5_2)] rfl ga_ ?_; (with_reducible refine (constableref01_inner.calls (bt a0 x5_2) false _ A17.out).mono ?_); rintro e w' ⟨rfl, ⟨nd, rfl⟩⟩; refine ⟨_, rfl, ?_⟩))
                  go_ret
                  exact rz_
              · rw [if_neg c15] at H
                exact absurd H (by simp)
            · rw [if_neg c14] at H
              have c14b0 : decide (x5_2 < (a0.size : Int)) = false := decide_eq_false c14
              clear c14
              obtain rfl := Option.some.inj H
              go_wp2
              go_ret
              exact rz_
end Go.Proofs.Ytconpnagoijacaa.P
end
section
namespace Go.Proofs.Ytconpnagoijacaa.P
open Go.RowKit Go.Proofs.YtconpnagoijacaaW.PrintWords Go.Proofs.YtconpnagoijacaaW.PrintLast Go.Proofs.YtconpnagoijacaaW.PrintMore
attribute [local go_sem] max2_int min2_int max_two min_two max_three min_three max_four min_four
set_option linter.unusedVariables false
set_option linter.unusedSimpArgs false
mutual
def constableref01_Value.j0 : Nat → Bool → Int → Int → ByteArray → Option (Bool)
  | 0, _, _, _, _ => none
  | k + 1, x37, x305000, x305001, x305002 => if x37 = true then (some false) else (constableref01_Value.l0 k 0 x305000 x305001 x305002)
def constableref01_Value.l0 : Nat → Int → Int → Int → ByteArray → Option (Bool)
  | 0, _, _, _, _ => none
  | k + 1, x3, x305000, x305001, x305002 => if x3 < (x305002.size : Int) then (if 0 ≤ x3 then ((constableref01_In.f (wrap64 (bt x305002 x3)) 32 126).bind fun t307 => (if t307 = true then (constableref01_Value.l0 k (wrap64 (x3 + 1)) x305000 x305001 x305002) else (some false))) else (none)) else (some true)
end
def constableref01_Value.f (k : Nat) (a0_0 : Int) (a0_1 : Int) (a0_2 : ByteArray) : Option (Bool) := if a0_0 = 1 then ((constableref01_In.f a0_1 (-4611686018427387904) 4611686018427387904).bind fun t305 => (if t305 = true then (some ((a0_2.size : Int) == 0)) else (some false))) else (if a0_0 = 2 then (if a0_1 = 0 then ((constableref01_Word.f k a0_2 false).bind fun t306 => (some t306)) else (some false)) else (if a0_0 = 3 then (if a0_1 = 0 then (constableref01_Value.j0 k (decide ((a0_2.size : Int) > 60)) a0_0 a0_1 a0_2) else (constableref01_Value.j0 k true a0_0 a0_1 a0_2)) else (some false)))
theorem constableref01_Value.mono_l : ∀ k, (∀ y0 y1 y2 y3, LeO (constableref01_Value.j0 k y0 y1 y2 y3) (constableref01_Value.j0 (k + 1) y0 y1 y2 y3)) ∧ (∀ y0 y1 y2 y3, LeO (constableref01_Value.l0 k y0 y1 y2 y3) (constableref01_Value.l0 (k + 1) y0 y1 y2 y3))
  | 0 => ⟨fun _ _ _ _ r h => by simp [constableref01_Value.j0] at h, fun _ _ _ _ r h => by simp [constableref01_Value.l0] at h⟩
  | k + 1 => by
    obtain ⟨ih0, ih1⟩ := constableref01_Value.mono_l k
    refine ⟨?_, ?_⟩
    · intro y0 y1 y2 y3
      unfold constableref01_Value.j0
      repeat' first
      | (with_reducible exact ih0 _ _ _ _)
      | (with_reducible exact ih1 _ _ _ _)
      | (with_reducible exact constableref01_Word.mono _ _ _)
      | (with_reducible exact LeO.refl _)
      | (with_reducible exact LeO.none _)
      | (with_reducible refine LeO.ite ?_ ?_)
      | (with_reducible refine LeO.bind ?_ (fun _ => ?_))
      | exact ih0 _ _ _ _
      | exact ih1 _ _ _ _
      | exact constableref01_Word.mono _ _ _
      | exact LeO.none _
      | refine LeO.ite ?_ ?_
      | refine LeO.bind ?_ (fun _ => ?_)
    · intro y0 y1 y2 y3
      unfold constableref01_Value.l0
      repeat' first
      | (with_reducible exact ih0 _ _ _ _)
      | (with_reducible exact ih1 _ _ _ _)
      | (with_reducible exact constableref01_Word.mono _ _ _)
      | (with_reducible exact LeO.refl _)
      | (with_reducible exact LeO.none _)
      | (with_reducible refine LeO.ite ?_ ?_)
      | (with_reducible refine LeO.bind ?_ (fun _ => ?_))
      | exact ih0 _ _ _ _
      | exact ih1 _ _ _ _
      | exact constableref01_Word.mono _ _ _
      | exact LeO.none _
      | refine LeO.ite ?_ ?_
      | refine LeO.bind ?_ (fun _ => ?_)
theorem constableref01_Value.mono : ∀ a0 a1 a2 k, LeO (constableref01_Value.f k a0 a1 a2) (constableref01_Value.f (k + 1) a0 a1 a2) := by
  intro a0 a1 a2 k
  obtain ⟨ih0, ih1⟩ := constableref01_Value.mono_l k
  unfold constableref01_Value.f
  repeat' first
      | (with_reducible exact ih0 _ _ _ _)
      | (with_reducible exact ih1 _ _ _ _)
      | (with_reducible exact constableref01_Word.mono _ _ _)
      | (with_reducible exact LeO.refl _)
      | (with_reducible exact LeO.none _)
      | (with_reducible refine LeO.ite ?_ ?_)
      | (with_reducible refine LeO.bind ?_ (fun _ => ?_))
      | exact ih0 _ _ _ _
      | exact ih1 _ _ _ _
      | exact constableref01_Word.mono _ _ _
      | exact LeO.none _
      | refine LeO.ite ?_ ?_
      | refine LeO.bind ?_ (fun _ => ?_)
set_option maxHeartbeats 8000000 in
set_option maxRecDepth 100000 in
theorem constableref01_Value.calls (k : Nat) (a0_0 : Int) (a0_1 : Int) (a0_2 : ByteArray) (r : Bool) (w : World) (h : constableref01_Value.f k a0_0 a0_1 a0_2 = some r) :
    Calls Try.prog 46 #[.agg #[.int .i64 a0_0, .int .i64 a0_1, .string a0_2]] w fun e w' => e = .returned (.bool r) ∧ Below w.heap.size w w' := by
  have hu40 := Try.underlying40
  have HB := Aside0.mk (Below.refl w.heap.size w)
  have H : (if a0_0 = 1 then ((constableref01_In.f a0_1 (-4611686018427387904) 4611686018427387904).bind fun t305 => (if t305 = true then (some ((a0_2.size : Int) == 0)) else (some false))) else (if a0_0 = 2 then (if a0_1 = 0 then ((constableref01_Word.f k a0_2 false).bind fun t306 => (some t306)) else (some false)) else (if a0_0 = 3 then (if a0_1 = 0 then (constableref01_Value.j0 k (decide ((a0_2.size : Int) > 60)) a0_0 a0_1 a0_2) else (constableref01_Value.j0 k true a0_0 a0_1 a0_2)) else (some false)))) = some r := h
  clear h
  by_cases c2 : a0_0 = 1
  · rw [if_pos c2] at H
    obtain ⟨c2b0, c2b1⟩ := eqB_ c2
    clear c2
    replace H := Option.bind_eq_some_iff.mp H
    obtain ⟨t305, A30, H⟩ := H
    replace H : (if t305 = true then (some ((a0_2.size : Int) == 0)) else (some false)) = some r := H
    have A3 := Aside0.mk A30
    clear A30
    by_cases c4 : t305 = true
    · subst c4
      have H1 : (some ((a0_2.size : Int) == 0)) = some r := by rw [if_pos rfl] at H; exact H
      clear H
      have H := H1
      clear H1
      obtain rfl := Option.some.inj H
      go_enter Try.func46, Try.ntmps46
      go_wp2_with (first | ((with_reducible refine gate_dst (N := 1) rfl ?_); (try (refine gate_guard (by rfl) ?_; dsimp only)); refine box_event ?hg (N := 1) ?hd (cs := #[.int .i64 a0_0, .int .i64 a0_1, .string a0_2]) (t := 40) ?hr ?_; (case hd => rfl); (case hg => rfl); (case hr => first | (go_simp; done) | (go_simp; rfl)); intro gb304 hg w5 hbox hb; have n0_ := bs_ (be_ HB) hb; have n1_ := Aside0.mk (hbox); have n2_ := gs_ hg (be_ HB); have n3_ := gs_ hg (be_ HB); clear HB; have HB := n0_; have BK304 := n1_; have GW304 := n2_; have GE304 := n3_; clear n0_ n1_ n2_ n3_; clear hb hbox hg; have hcz6_0 : w5.cell? ⟨gb304, 0, none⟩ = some (.int .i64 a0_0) := (blk_cell BK304.out 0).trans rfl; have hcz6_1 : w5.cell? ⟨gb304, 1, none⟩ = some (.int .i64 a0_1) := (blk_cell BK304.out 1).trans rfl; have hcz6_2 : w5.cell? ⟨gb304, 2, none⟩ = some (.string a0_2) := (blk_cell BK304.out 2).trans rfl; have hfz6_0 := blk_frozen BK304.out 0; have hfz6_1 := blk_frozen BK304.out 1; have hfz6_2 := blk_frozen BK304.out 2) | ((with_reducible refine gate_callee (f := 38) rfl ?_); refine goesL_ (some 10) rfl rfl Try.func38 (by kernel_rfl) rfl #[.int .i64 a0_1, .int .i64 (-4611686018427387904), .int .i64 4611686018427387904] rfl ga_ ?_; (with_reducible refine (constableref01_In.calls a0_1 (-4611686018427387904) 4611686018427387904 true _ A3.out).mono ?_); rintro e w' ⟨rfl, ⟨nd, rfl⟩⟩; refine ⟨_, rfl, ?_⟩))
      go_ret
      exact ⟨by first | rfl | (simp [errW_none, errW_some] <;> rfl) | (simp [*, errW_none, errW_some] <;> rfl), by repeat (first | (with_reducible first | exact HB.out | apply below_alloc | apply pw_below_drewN | apply below_drew1 | refine below_set ?_ GE304.out) | exact HB.out)⟩
    · replace c4 := Bool.eq_false_iff.mpr c4
      subst c4
      have H1 : (some false) = some r := by rw [if_neg (show ¬ (false = true) by decide)] at H; exact H
      clear H
      have H := H1
      clear H1
      obtain rfl := Option.some.inj H
      go_enter Try.func46, Try.ntmps46
      go_wp2_with (first | ((with_reducible refine gate_dst (N := 1) rfl ?_); (try (refine gate_guard (by rfl) ?_; dsimp only)); refine box_event ?hg (N := 1) ?hd (cs := #[.int .i64 a0_0, .int .i64 a0_1, .string a0_2]) (t := 40) ?hr ?_; (case hd => rfl); (case hg => rfl); (case hr => first | (go_simp; done) | (go_simp; rfl)); intro gb304 hg w7 hbox hb; have n0_ := bs_ (be_ HB) hb; have n1_ := Aside0.mk (hbox); have n2_ := gs_ hg (be_ HB); have n3_ := gs_ hg (be_ HB); clear HB; have HB := n0_; have BK304 := n1_; have GW304 := n2_; have GE304 := n3_; clear n0_ n1_ n2_ n3_; clear hb hbox hg; have hcz8_0 : w7.cell? ⟨gb304, 0, none⟩ = some (.int .i64 a0_0) := (blk_cell BK304.out 0).trans rfl; have hcz8_1 : w7.cell? ⟨gb304, 1, none⟩ = some (.int .i64 a0_1) := (blk_cell BK304.out 1).trans rfl; have hcz8_2 : w7.cell? ⟨gb304, 2, none⟩ = some (.string a0_2) := (blk_cell BK304.out 2).trans rfl; have hfz8_0 := blk_frozen BK304.out 0; have hfz8_1 := blk_frozen BK304.out 1; have hfz8_2 := blk_frozen BK304.out 2) | ((with_reducible refine gate_callee (f := 38) rfl ?_); refine goesL_ (some 10) rfl rfl Try.func38 (by kernel_rfl) rfl #[.int .i64 a0_1, .int .i64 (-4611686018427387904), .int .i64 4611686018427387904] rfl ga_ ?_; (with_reducible refine (constableref01_In.calls a0_1 (-4611686018427387904) 4611686018427387904 false _ A3.out).mono ?_); rintro e w' ⟨rfl, ⟨nd, rfl⟩⟩; refine ⟨_, rfl, ?_⟩))
      go_ret
      exact ⟨by first | rfl | (simp [errW_none, errW_some] <;> rfl) | (simp [*, errW_none, errW_some] <;> rfl), by repeat (first | (with_reducible first | exact HB.out | apply below_alloc | apply pw_below_drewN | apply below_drew1 | refine below_set ?_ GE304.out) | exact HB.out)⟩
  · rw [if_neg c2] at H
    obtain ⟨c2b0, c2b1⟩ := neB_ c2
    by_cases c9 : a0_0 = 2
    · rw [if_pos c9] at H
      obtain ⟨c9b0, c9b1⟩ := eqB_ c9
      clear c9
      by_cases c10 : a0_1 = 0
      · rw [if_pos c10] at H
        obtain ⟨c10b0, c10b1⟩ := eqB_ c10
        clear c10
        replace H := Option.bind_eq_some_iff.mp H
        obtain ⟨t306, A110, H⟩ := H
        replace H : (some t306) = some r := H
        have A11 := Aside0.mk A110
        clear A110
        obtain rfl := Option.some.inj H
        go_enter Try.func46, Try.ntmps46
        go_wp2_with (first | ((with_reducible refine gate_dst (N := 1) rfl ?_); (try (refine gate_guard (by rfl) ?_; dsimp only)); refine box_event ?hg (N := 1) ?hd (cs := #[.int .i64 a0_0, .int .i64 a0_1, .string a0_2]) (t := 40) ?hr ?_; (case hd => rfl); (case hg => rfl); (case hr => first | (go_simp; done) | (go_simp; rfl)); intro gb304 hg w12 hbox hb; have n0_ := bs_ (be_ HB) hb; have n1_ := Aside0.mk (hbox); have n2_ := gs_ hg (be_ HB); have n3_ := gs_ hg (be_ HB); clear HB; have HB := n0_; have BK304 := n1_; have GW304 := n2_; have GE304 := n3_; clear n0_ n1_ n2_ n3_; clear hb hbox hg; have hcz13_0 : w12.cell? ⟨gb304, 0, none⟩ = some (.int .i64 a0_0) := (blk_cell BK304.out 0).trans rfl; have hcz13_1 : w12.cell? ⟨gb304, 1, none⟩ = some (.int .i64 a0_1) := (blk_cell BK304.out 1).trans rfl; have hcz13_2 : w12.cell? ⟨gb304, 2, none⟩ = some (.string a0_2) := (blk_cell BK304.out 2).trans rfl; have hfz13_0 := blk_frozen BK304.out 0; have hfz13_1 := blk_frozen BK304.out 1; have hfz13_2 := blk_frozen BK304.out 2) | (go_at_call 45; (with_reducible refine (constableref01_Word.calls k a0_2 false t306 _ A11.out).mono ?_); rintro e w' ⟨rfl, ⟨nd, rfl⟩⟩))
        go_ret
        exact ⟨by first | rfl | (simp [errW_none, errW_some] <;> rfl) | (simp [*, errW_none, errW_some] <;> rfl), by repeat (first | (with_reducible first | exact HB.out | apply below_alloc | apply pw_below_drewN | apply below_drew1 | refine below_set ?_ GE304.out) | exact HB.out)⟩
      · rw [if_neg c10] at H
        obtain ⟨c10b0, c10b1⟩ := neB_ c10
        obtain rfl := Option.some.inj H
        go_enter Try.func46, Try.ntmps46
        go_wp2_with (first | ((with_reducible refine gate_dst (N := 1) rfl ?_); (try (refine gate_guard (by rfl) ?_; dsimp only)); refine box_event ?hg (N := 1) ?hd (cs := #[.int .i64 a0_0, .int .i64 a0_1, .string a0_2]) (t := 40) ?hr ?_; (case hd => rfl); (case hg => rfl); (case hr => first | (go_simp; done) | (go_simp; rfl)); intro gb304 hg w14 hbox hb; have n0_ := bs_ (be_ HB) hb; have n1_ := Aside0.mk (hbox); have n2_ := gs_ hg (be_ HB); have n3_ := gs_ hg (be_ HB); clear HB; have HB := n0_; have BK304 := n1_; have GW304 := n2_; have GE304 := n3_; clear n0_ n1_ n2_ n3_; clear hb hbox hg; have hcz15_0 : w14.cell? ⟨gb304, 0, none⟩ = some (.int .i64 a0_0) := (blk_cell BK304.out 0).trans rfl; have hcz15_1 : w14.cell? ⟨gb304, 1, none⟩ = some (.int .i64 a0_1) := (blk_cell BK304.out 1).trans rfl; have hcz15_2 : w14.cell? ⟨gb304, 2, none⟩ = some (.string a0_2) := (blk_cell BK304.out 2).trans rfl; have hfz15_0 := blk_frozen BK304.out 0; have hfz15_1 := blk_frozen BK304.out 1; have hfz15_2 := blk_frozen BK304.out 2))
        go_ret
        exact ⟨by first | rfl | (simp [errW_none, errW_some] <;> rfl) | (simp [*, errW_none, errW_some] <;> rfl), by repeat (first | (with_reducible first | exact HB.out | apply below_alloc | apply pw_below_drewN | apply below_drew1 | refine below_set ?_ GE304.out) | exact HB.out)⟩
    · rw [if_neg c9] at H
      obtain ⟨c9b0, c9b1⟩ := neB_ c9
      by_cases c16 : a0_0 = 3
      · rw [if_pos c16] at H
        obtain ⟨c16b0, c16b1⟩ := eqB_ c16
        clear c16
        have HC17 := Aside0.mk H
        clear H
        go_enter Try.func46, Try.ntmps46
        go_upto_region 7 with (first | ((with_reducible refine gate_dst (N := 1) rfl ?_); (try (refine gate_guard (by rfl) ?_; dsimp only)); refine box_event ?hg (N := 1) ?hd (cs := #[.int .i64 a0_0, .int .i64 a0_1, .string a0_2]) (t := 40) ?hr ?_; (case hd => rfl); (case hg => rfl); (case hr => first | (go_simp; done) | (go_simp; rfl)); intro gb304 hg w18 hbox hb; have n0_ := bs_ (be_ HB) hb; have n1_ := Aside0.mk (hbox); have n2_ := gs_ hg (be_ HB); have n3_ := gs_ hg (be_ HB); clear HB; have HB := n0_; have BK304 := n1_; have GW304 := n2_; have GE304 := n3_; clear n0_ n1_ n2_ n3_; clear hb hbox hg; have hcz19_0 : w18.cell? ⟨gb304, 0, none⟩ = some (.int .i64 a0_0) := (blk_cell BK304.out 0).trans rfl; have hcz19_1 : w18.cell? ⟨gb304, 1, none⟩ = some (.int .i64 a0_1) := (blk_cell BK304.out 1).trans rfl; have hcz19_2 : w18.cell? ⟨gb304, 2, none⟩ = some (.string a0_2) := (blk_cell BK304.out 2).trans rfl; have hfz19_0 := blk_frozen BK304.out 0; have hfz19_1 := blk_frozen BK304.out 1; have hfz19_2 := blk_frozen BK304.out 2))
        (try simp only [Act.put, List.setIfInBounds_toArray, List.set_cons_zero, List.set_cons_succ])
        go_cut [37] (fun v37 wc => ∃ (kq : Nat) (x37_16 : Bool), v37 = .bool x37_16 ∧ Aside0 (constableref01_Value.j0 kq x37_16 a0_0 a0_1 a0_2 = some r) ∧ Aside0 (kq ≤ k) ∧ Aside0 (wc.heap[gb304]? = some (.cells #[.int .i64 a0_0, .int .i64 a0_1, .string a0_2] 40 (0, 0))) ∧ Aside0 (Below w.heap.size w wc))
        case first =>
          have H := HC17.out
          clear HC17
          by_cases c20 : a0_1 = 0
          · rw [if_pos c20] at H
            obtain ⟨c20b0, c20b1⟩ := eqB_ c20
            clear c20
            (first | rw [c20b0] | (simp only [i64_w, i32_w]; rw [c20b0]) | skip)
            have H' := Aside0.mk H
            clear H
            have hcz21_0 : w18.cell? ⟨gb304, 0, none⟩ = some (.int .i64 a0_0) := (blk_cell BK304.out 0).trans rfl
            have hcz21_1 : w18.cell? ⟨gb304, 1, none⟩ = some (.int .i64 a0_1) := (blk_cell BK304.out 1).trans rfl
            have hcz21_2 : w18.cell? ⟨gb304, 2, none⟩ = some (.string a0_2) := (blk_cell BK304.out 2).trans rfl
            have hfz21_0 := blk_frozen BK304.out 0
            have hfz21_1 := blk_frozen BK304.out 1
            have hfz21_2 := blk_frozen BK304.out 2
            go_wp2
            go_meet
            case rel => exact ⟨_, (decide ((a0_2.size : Int) > 60)), ra_, H', ⟨by first | omega | exact Nat.le_refl _⟩, ⟨by (with_reducible repeat (first | refine blk_drewN ?_ _ | refine blk_drew ?_ | refine blk_alloc ?_ _)); exact BK304.out⟩, ⟨by repeat (first | (with_reducible first | exact HB.out | apply below_alloc | apply pw_below_drewN | apply below_drew1 | refine below_set ?_ GE304.out) | exact HB.out)⟩⟩
          · rw [if_neg c20] at H
            obtain ⟨c20b0, c20b1⟩ := neB_ c20
            (first | rw [c20b0] | (simp only [i64_w, i32_w]; rw [c20b0]) | skip)
            have H' := Aside0.mk H
            clear H
            have hcz22_0 : w18.cell? ⟨gb304, 0, none⟩ = some (.int .i64 a0_0) := (blk_cell BK304.out 0).trans rfl
            have hcz22_1 : w18.cell? ⟨gb304, 1, none⟩ = some (.int .i64 a0_1) := (blk_cell BK304.out 1).trans rfl
            have hcz22_2 : w18.cell? ⟨gb304, 2, none⟩ = some (.string a0_2) := (blk_cell BK304.out 2).trans rfl
            have hfz22_0 := blk_frozen BK304.out 0
            have hfz22_1 := blk_frozen BK304.out 1
            have hfz22_2 := blk_frozen BK304.out 2
            go_wp2
            go_meet
            case rel => exact ⟨_, (true), ra_, H', ⟨by first | omega | exact Nat.le_refl _⟩, ⟨by (with_reducible repeat (first | refine blk_drewN ?_ _ | refine blk_drew ?_ | refine blk_alloc ?_ _)); exact BK304.out⟩, ⟨by repeat (first | (with_reducible first | exact HB.out | apply below_alloc | apply pw_below_drewN | apply below_drew1 | refine below_set ?_ GE304.out) | exact HB.out)⟩⟩
        case rest =>
          clear HC17
          try clear c1
          try clear c2
          try clear c2b0
          try clear c2b1
          try clear p2
          try clear c3
          try clear c4
          try clear c9
          try clear c9b0
          try clear c9b1
          try clear c10
          try clear c10b0
          try clear c10b1
          try clear c16
          try clear c16b0
          try clear c16b1
          try clear c20
          try clear c20b0
          try clear c20b1
          try clear hcz13_0
          try clear hcz13_1
          try clear hcz13_2
          try clear hcz15_0
          try clear hcz15_1
          try clear hcz15_2
          try clear hcz19_0
          try clear hcz19_1
          try clear hcz19_2
          try clear hcz21_0
          try clear hcz21_1
          try clear hcz21_2
          try clear hcz22_0
          try clear hcz22_1
          try clear hcz22_2
          try clear hcz6_0
          try clear hcz6_1
          try clear hcz6_2
          try clear hcz8_0
          try clear hcz8_1
          try clear hcz8_2
          try clear hfz13_0
          try clear hfz13_1
          try clear hfz13_2
          try clear hfz15_0
          try clear hfz15_1
          try clear hfz15_2
          try clear hfz19_0
          try clear hfz19_1
          try clear hfz19_2
          try clear hfz21_0
          try clear hfz21_1
          try clear hfz21_2
          try clear hfz22_0
          try clear hfz22_1
          try clear hfz22_2
          try clear hfz6_0
          try clear hfz6_1
          try clear hfz6_2
          try clear hfz8_0
          try clear hfz8_1
          try clear hfz8_2
          obtain ⟨kq, x37_16, rfl, HA, HJ16, BK304, HB⟩ := hcut
          cases kq with
          | zero => exact absurd HA.out (by simp [constableref01_Value.j0])
          | succ kj16 =>
            have H := HA.out
            clear HA
            simp only [constableref01_Value.j0] at H
            by_cases c23 : x37_16 = true
            · subst c23
              have H1 : (some false) = some r := by rw [if_pos rfl] at H; exact H
              clear H
              have H := H1
              clear H1
              obtain rfl := Option.some.inj H
              go_wp2
              go_ret
              exact ⟨by first | rfl | (simp [errW_none, errW_some] <;> rfl) | (simp [*, errW_none, errW_some] <;> rfl), by repeat (first | (with_reducible first | exact HB.out | apply below_alloc | apply pw_below_drewN | apply below_drew1 | refine below_set ?_ GE304.out) | exact HB.out)⟩
            · replace c23 := Bool.eq_false_iff.mpr c23
              subst c23
              have H1 : (constableref01_Value.l0 kj16 0 a0_0 a0_1 a0_2) = some r := by rw [if_neg (show ¬ (false = true) by decide)] at H; exact H
              clear H
              have H := H1
              clear H1
              have H' := Aside0.mk H
              clear H
              go_wp2
              go_loopg [3] kj16 (fun kq v3 w' => ∃ (x3_2 : Int), v3 = .int .i64 x3_2 ∧ Aside0 (constableref01_Value.l0 kq x3_2 a0_0 a0_1 a0_2 = some r) ∧ Aside0 (kq ≤ kj16) ∧ Aside0 (w'.heap[gb304]? = some (.cells #[.int .i64 a0_0, .int .i64 a0_1, .string a0_2] 40 (0, 0))) ∧ Aside0 (Below w.heap.size w w'))
              case atStart => exact ⟨(0), ra_, H', ⟨Nat.le_refl _⟩, ⟨by (with_reducible repeat (first | refine blk_drewN ?_ _ | refine blk_drew ?_ | refine blk_alloc ?_ _)); exact BK304.out⟩, ⟨by repeat (first | (with_reducible first | exact HB.out | apply below_alloc | apply pw_below_drewN | apply below_drew1 | refine below_set ?_ GE304.out) | exact HB.out)⟩⟩
              case round =>
                clear H'
                try clear c1
                try clear c2
                try clear c2b0
                try clear c2b1
                try clear p2
                try clear c3
                try clear c4
                try clear c9
                try clear c9b0
                try clear c9b1
                try clear c10
                try clear c10b0
                try clear c10b1
                try clear c16
                try clear c16b0
                try clear c16b1
                try clear c20
                try clear c20b0
                try clear c20b1
                try clear c23
                try clear hcz13_0
                try clear hcz13_1
                try clear hcz13_2
                try clear hcz15_0
                try clear hcz15_1
                try clear hcz15_2
                try clear hcz19_0
                try clear hcz19_1
                try clear hcz19_2
                try clear hcz21_0
                try clear hcz21_1
                try clear hcz21_2
                try clear hcz22_0
                try clear hcz22_1
                try clear hcz22_2
                try clear hcz6_0
                try clear hcz6_1
                try clear hcz6_2
                try clear hcz8_0
                try clear hcz8_1
                try clear hcz8_2
                try clear hfz13_0
                try clear hfz13_1
                try clear hfz13_2
                try clear hfz15_0
                try clear hfz15_1
                try clear hfz15_2
                try clear hfz19_0
                try clear hfz19_1
                try clear hfz19_2
                try clear hfz21_0
                try clear hfz21_1
                try clear hfz21_2
                try clear hfz22_0
                try clear hfz22_1
                try clear hfz22_2
                try clear hfz6_0
                try clear hfz6_1
                try clear hfz6_2
                try clear hfz8_0
                try clear hfz8_1
                try clear hfz8_2
                try clear p2
                obtain ⟨x3_2, rfl, HA, HK2, BK304, HB⟩ := hrel
                cases gk with
                | zero => exact absurd HA.out (by simp [constableref01_Value.l0])
                | succ k2 =>
                  have H := HA.out
                  clear HA
                  simp only [constableref01_Value.l0] at H
                  by_cases c24 : x3_2 < (a0_2.size : Int)
                  · rw [if_pos c24] at H
                    have c24b0 : decide (x3_2 < (a0_2.size : Int)) = true := decide_eq_true c24
                    clear c24
                    by_cases c25 : 0 ≤ x3_2
                    · rw [if_pos c25] at H
                      have c25b0 : decide (0 ≤ x3_2) = true := decide_eq_true c25
                      clear c25
                      replace H := Option.bind_eq_some_iff.mp H
                      obtain ⟨t307, A270, H⟩ := H
                      replace H : (if t307 = true then (constableref01_Value.l0 k2 (wrap64 (x3_2 + 1)) a0_0 a0_1 a0_2) else (some false)) = some r := H
                      have A27 := Aside0.mk A270
                      clear A270
                      by_cases c28 : t307 = true
                      · subst c28
                        have H1 : (constableref01_Value.l0 k2 (wrap64 (x3_2 + 1)) a0_0 a0_1 a0_2) = some r := by rw [if_pos rfl] at H; exact H
                        clear H
                        have H := H1
                        clear H1
                        have H' := Aside0.mk H
                        clear H
                        have hcz29_0 : wr.cell? ⟨gb304, 0, none⟩ = some (.int .i64 a0_0) := (blk_cell BK304.out 0).trans rfl
                        have hcz29_1 : wr.cell? ⟨gb304, 1, none⟩ = some (.int .i64 a0_1) := (blk_cell BK304.out 1).trans rfl
                        have hcz29_2 : wr.cell? ⟨gb304, 2, none⟩ = some (.string a0_2) := (blk_cell BK304.out 2).trans rfl
                        have hfz29_0 := blk_frozen BK304.out 0
                        have hfz29_1 := blk_frozen BK304.out 1
                        have hfz29_2 := blk_frozen BK304.out 2
                        have p26 : 0 ≤ (x3_2 : Int) := dt_
                        have q26 : x3_2 < (a0_2.size : Int) := dt_
                        have hx26 := bt_at a0_2 x3_2
                        replace p26 := eq_true p26
                        replace q26 := eq_true q26
                        go_wp2_with (first | ((with_reducible refine gate_callee (f := 38) rfl ?_); refine goesL_ (some 50) rfl rfl Try.func38 (by kernel_rfl) rfl #[.int .i64 (wrap64 (bt a0_2 x3_2)), .int .i64 32, .int .i64 126] rfl ga_ ?_; (with_reducible refine (constableref01_In.calls (wrap64 (bt a0_2 x3_2)) 32 126 true _ A27.out).mono ?_); rintro e w' ⟨rfl, ⟨nd, rfl⟩⟩; refine ⟨_, rfl, ?_⟩))
                        go_roundg k2
                        case measure => have := HJ16.out; have := HK2.out; omega
                        case rel => exact ⟨(wrap64 (x3_2 + 1)), ra_, H', ⟨by have := HJ16.out; have := HK2.out; omega⟩, ⟨by (with_reducible repeat (first | refine blk_drewN ?_ _ | refine blk_drew ?_ | refine blk_alloc ?_ _)); exact BK304.out⟩, ⟨by repeat (first | (with_reducible first | exact HB.out | apply below_alloc | apply pw_below_drewN | apply below_drew1 | refine below_set ?_ GE304.out) | exact HB.out)⟩⟩
                      · replace c28 := Bool.eq_false_iff.mpr c28
                        subst c28
                        have H1 : (some false) = some r := by rw [if_neg (show ¬ (false = true) by decide)] at H; exact H
                        clear H
                        have H := H1
                        clear H1
                        obtain rfl := Option.some.inj H
                        have hcz30_0 : wr.cell? ⟨gb304, 0, none⟩ = some (.int .i64 a0_0) := (blk_cell BK304.out 0).trans rfl
                        have hcz30_1 : wr.cell? ⟨gb304, 1, none⟩ = some (.int .i64 a0_1) := (blk_cell BK304.out 1).trans rfl
                        have hcz30_2 : wr.cell? ⟨gb304, 2, none⟩ = some (.string a0_2) := (blk_cell BK304.out 2).trans rfl
                        have hfz30_0 := blk_frozen BK304.out 0
                        have hfz30_1 := blk_frozen BK304.out 1
                        have hfz30_2 := blk_frozen BK304.out 2
                        have p26 : 0 ≤ (x3_2 : Int) := dt_
                        have q26 : x3_2 < (a0_2.size : Int) := dt_
                        have hx26 := bt_at a0_2 x3_2
                        replace p26 := eq_true p26
                        replace q26 := eq_true q26
                        go_wp2_with (first | ((with_reducible refine gate_callee (f := 38) rfl ?_); refine goesL_ (some 50) rfl rfl Try.func38 (by kernel_rfl) rfl #[.int .i64 (wrap64 (bt a0_2 x3_2)), .int .i64 32, .int .i64 126] rfl ga_ ?_; (with_reducible refine (constableref01_In.calls (wrap64 (bt a0_2 x3_2)) 32 126 false _ A27.out).mono ?_); rintro e w' ⟨rfl, ⟨nd, rfl⟩⟩; refine ⟨_, rfl, ?_⟩))
                        go_ret
                        exact ⟨by first | rfl | (simp [errW_none, errW_some] <;> rfl) | (simp [*, errW_none, errW_some] <;> rfl), by repeat (first | (with_reducible first | exact HB.out | apply below_alloc | apply pw_below_drewN | apply below_drew1 | refine below_set ?_ GE304.out) | exact HB.out)⟩
                    · rw [if_neg c25] at H
                      exact absurd H (by simp)
                  · rw [if_neg c24] at H
                    have c24b0 : decide (x3_2 < (a0_2.size : Int)) = false := decide_eq_false c24
                    clear c24
                    obtain rfl := Option.some.inj H
                    have hcz31_0 : wr.cell? ⟨gb304, 0, none⟩ = some (.int .i64 a0_0) := (blk_cell BK304.out 0).trans rfl
                    have hcz31_1 : wr.cell? ⟨gb304, 1, none⟩ = some (.int .i64 a0_1) := (blk_cell BK304.out 1).trans rfl
                    have hcz31_2 : wr.cell? ⟨gb304, 2, none⟩ = some (.string a0_2) := (blk_cell BK304.out 2).trans rfl
                    have hfz31_0 := blk_frozen BK304.out 0
                    have hfz31_1 := blk_frozen BK304.out 1
                    have hfz31_2 := blk_frozen BK304.out 2
                    go_wp2
                    go_ret
                    exact ⟨by first | rfl | (simp [errW_none, errW_some] <;> rfl) | (simp [*, errW_none, errW_some] <;> rfl), by repeat (first | (with_reducible first | exact HB.out | apply below_alloc | apply pw_below_drewN | apply below_drew1 | refine below_set ?_ GE304.out) | exact HB.out)⟩
      · rw [if_neg c16] at H
        obtain ⟨c16b0, c16b1⟩ := neB_ c16
        obtain rfl := Option.some.inj H
        go_enter Try.func46, Try.ntmps46
        go_wp2_with (first | ((with_reducible refine gate_dst (N := 1) rfl ?_); (try (refine gate_guard (by rfl) ?_; dsimp only)); refine box_event ?hg (N := 1) ?hd (cs := #[.int .i64 a0_0, .int .i64 a0_1, .string a0_2]) (t := 40) ?hr ?_; (case hd => rfl); (case hg => rfl); (case hr => first | (go_simp; done) | (go_simp; rfl)); intro gb304 hg w32 hbox hb; have n0_ := bs_ (be_ HB) hb; have n1_ := Aside0.mk (hbox); have n2_ := gs_ hg (be_ HB); have n3_ := gs_ hg (be_ HB); clear HB; have HB := n0_; have BK304 := n1_; have GW304 := n2_; have GE304 := n3_; clear n0_ n1_ n2_ n3_; clear hb hbox hg; have hcz33_0 : w32.cell? ⟨gb304, 0, none⟩ = some (.int .i64 a0_0) := (blk_cell BK304.out 0).trans rfl; have hcz33_1 : w32.cell? ⟨gb304, 1, none⟩ = some (.int .i64 a0_1) := (blk_cell BK304.out 1).trans rfl; have hcz33_2 : w32.cell? ⟨gb304, 2, none⟩ = some (.string a0_2) := (blk_cell BK304.out 2).trans rfl; have hfz33_0 := blk_frozen BK304.out 0; have hfz33_1 := blk_frozen BK304.out 1; have hfz33_2 := blk_frozen BK304.out 2))
        go_ret
        exact ⟨by first | rfl | (simp [errW_none, errW_some] <;> rfl) | (simp [*, errW_none, errW_some] <;> rfl), by repeat (first | (with_reducible first | exact HB.out | apply below_alloc | apply pw_below_drewN | apply below_drew1 | refine below_set ?_ GE304.out) | exact HB.out)⟩
end Go.Proofs.Ytconpnagoijacaa.P
end
