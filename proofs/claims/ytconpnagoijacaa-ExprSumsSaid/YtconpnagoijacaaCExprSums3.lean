/- Part 4 of the proof of ExprSums: words, contracts of functions of the program (what a call answers), and what the answers say. -/
import Derived.Test.YtconpnagoijacaaVWords
import Derived.Test.YtconpnagoijacaaVLast
import Derived.Test.YtconpnagoijacaaVApart
import Derived.Test.YtconpnagoijacaaVArr
import Derived.Test.YtconpnagoijacaaVFoot
import Derived.Test.YtconpnagoijacaaVKept
import Derived.Test.YtconpnagoijacaaVShare
import Derived.Test.YtconpnagoijacaaVZeros
import Derived.Test.YtconpnagoijacaaVN
import Derived.Test.YtconpnagoijacaaVFootNe
import Derived.Test.YtconpnagoijacaaVAt
import Derived.Test.YtconpnagoijacaaVEqStruct
import Derived.Test.YtconpnagoijacaaVTab
import Derived.Test.YtconpnagoijacaaVFour
import Derived.Test.YtconpnagoijacaaVGuard
import Derived.Test.YtconpnagoijacaaVInv
import Derived.Test.YtconpnagoijacaaVInvWords
import Derived.Test.YtconpnagoijacaaVQPut
import Derived.Test.YtconpnagoijacaaVNEv
import Derived.Test.YtconpnagoijacaaVMore
import Derived.Test.YtconpnagoijacaaVRepsOne
import Derived.Test.YtconpnagoijacaaVSized
import Derived.Test.YtconpnagoijacaaCExprSums0
import Derived.Test.YtconpnagoijacaaCExprSums1
import Derived.Test.YtconpnagoijacaaCExprSums2
section
namespace Go.Proofs.Ytconpnagoijacaa.P
open Go.RowKit Go.Proofs.YtconpnagoijacaaW.PrintWords Go.Proofs.YtconpnagoijacaaW.PrintLast Go.Proofs.YtconpnagoijacaaW.PrintMore
attribute [local go_sem] max2_int min2_int max_two min_two max_three min_three max_four min_four
set_option linter.unusedVariables false
set_option linter.unusedSimpArgs false
def constableref01_Binds.l0 : Nat → List (S62) → Int → Option (Bool)
  | 0, _, _ => none
  | k + 1, x0, x3 => if x3 < (x0.length : Int) then (if 0 ≤ x3 then ((constableref01_Word.f k ((rd_T62 x0 x3).f0) true).bind fun t320 => (if t320 = true then ((constableref01_Value.f k ((rd_T62 x0 x3).f1.f0) ((rd_T62 x0 x3).f1.f1) ((rd_T62 x0 x3).f1.f2)).bind fun t322 => (if t322 = true then (if x3 > 0 then (if 0 ≤ (wrap64 (x3 - 1)) then (if (wrap64 (x3 - 1)) < (x0.length : Int) then ((constableref01_Strings.f k ((rd_T62 x0 (wrap64 (x3 - 1))).f0) ((rd_T62 x0 x3).f0)).bind fun t325 => (if t325 ≥ 0 then (some false) else (constableref01_Binds.l0 k x0 (wrap64 (x3 + 1))))) else (none)) else (none)) else (constableref01_Binds.l0 k x0 (wrap64 (x3 + 1)))) else (some false))) else (some false))) else (none)) else (some true)
def constableref01_Binds.f (k : Nat) (l0 : List (S62)) : Option (Bool) := if (l0.length : Int) > 100 then (some false) else (constableref01_Binds.l0 k l0 0)
theorem constableref01_Binds.mono_l : ∀ k, (∀ y0 y1, LeO (constableref01_Binds.l0 k y0 y1) (constableref01_Binds.l0 (k + 1) y0 y1))
  | 0 => fun _ _ r h => by simp [constableref01_Binds.l0] at h
  | k + 1 => by
    have ih0 := constableref01_Binds.mono_l k
    · intro y0 y1
      unfold constableref01_Binds.l0
      repeat' first
      | (with_reducible exact ih0 _ _)
      | (with_reducible exact constableref01_Strings.mono _ _ _)
      | (with_reducible exact constableref01_Value.mono _ _ _ _)
      | (with_reducible exact constableref01_Word.mono _ _ _)
      | (with_reducible exact LeO.refl _)
      | (with_reducible exact LeO.none _)
      | (with_reducible refine LeO.ite ?_ ?_)
      | (with_reducible refine LeO.bind ?_ (fun _ => ?_))
      | exact ih0 _ _
      | exact constableref01_Strings.mono _ _ _
      | exact constableref01_Value.mono _ _ _ _
      | exact constableref01_Word.mono _ _ _
      | exact LeO.none _
      | refine LeO.ite ?_ ?_
      | refine LeO.bind ?_ (fun _ => ?_)
theorem constableref01_Binds.mono : ∀ a0 k, LeO (constableref01_Binds.f k a0) (constableref01_Binds.f (k + 1) a0) := by
  intro a0 k
  have ih0 := constableref01_Binds.mono_l k
  unfold constableref01_Binds.f
  repeat' first
      | (with_reducible exact ih0 _ _)
      | (with_reducible exact constableref01_Strings.mono _ _ _)
      | (with_reducible exact constableref01_Value.mono _ _ _ _)
      | (with_reducible exact constableref01_Word.mono _ _ _)
      | (with_reducible exact LeO.refl _)
      | (with_reducible exact LeO.none _)
      | (with_reducible refine LeO.ite ?_ ?_)
      | (with_reducible refine LeO.bind ?_ (fun _ => ?_))
      | exact ih0 _ _
      | exact constableref01_Strings.mono _ _ _
      | exact constableref01_Value.mono _ _ _ _
      | exact constableref01_Word.mono _ _ _
      | exact LeO.none _
      | refine LeO.ite ?_ ?_
      | refine LeO.bind ?_ (fun _ => ?_)
def constableref01_Binds.T6 : Bool × List (List Nat × List Nat) := (true, [([], []), ([], []), ([0, 1], [0, 1]), ([2], [2]), ([3], [3]), ([4], [4]), ([5], [5]), ([6, 5], [6]), ([7], [7]), ([7], [7]), ([8, 9, 7], [7, 8, 9]), ([10, 7], [7, 10]), ([11, 7], [7, 11]), ([12, 7, 7], [7, 12]), ([13, 7], [7, 13]), ([7, 14], [7, 14]), ([15, 13], [15]), ([16], [16]), ([17, 16], [16, 17]), ([18, 16, 16], [16, 18]), ([19], [19]), ([19], [19]), ([21, 19], [19, 21]), ([20, 22, 19], [19, 20, 22]), ([23, 19], [19, 23]), ([24, 19], [19, 24]), ([19], [19]), ([19], [19]), ([26, 27, 19], [19, 26, 27]), ([28, 19], [19, 28]), ([29, 19], [19, 29]), ([25, 30, 19, 19], [19, 25, 30]), ([31, 19], [19, 31]), ([19, 32, 16], [16, 19, 32]), ([16, 33], [16, 33])])
def constableref01_Binds.B6 : List Nat := [0, 0, 3, 7, 15, 31, 63, 127, 255, 255, 1023, 2047, 4095, 8191, 16383, 32767, 65535, 131071, 262143, 524287, 1048575, 1048575, 3145727, 8388607, 16777215, 33554431, 1048575, 1048575, 202375167, 470810623, 1007681535, 2147483647, 4294967295, 8589934591, 17179869183]
theorem constableref01_Binds.tab6 : rtab .any (opsOf Try.f31 6) = constableref01_Binds.T6 := by kernel_rfl
theorem constableref01_Binds.bits6 : waitsOk constableref01_Binds.T6.2 constableref01_Binds.B6 = true := by kernel_rfl
set_option maxHeartbeats 8000000 in
set_option maxRecDepth 100000 in
theorem constableref01_Binds.calls (k : Nat) (A0 : Option Addr) (c0 : Nat) (l0 : List (S62)) (r : Bool) (w : World) (hr0 : Kd.C k62 w A0 l0.length l0) (hc0 : l0.length ≤ c0) (h : constableref01_Binds.f k l0 = some r) :
    Calls Try.prog 31 #[.slice A0 l0.length c0] w fun e w' => e = .returned (.bool r) ∧ Below w.heap.size w w' := by
  have hu40 := Try.underlying40
  have HR0 := Aside0.mk hr0
  have HC0 := Aside0.mk hc0
  clear hr0 hc0
  have HB := Aside0.mk (Below.refl w.heap.size w)
  have H : (if (l0.length : Int) > 100 then (some false) else (constableref01_Binds.l0 k l0 0)) = some r := h
  clear h
  by_cases c2 : (l0.length : Int) > 100
  · rw [if_pos c2] at H
    have c2b0 : decide (100 < (l0.length : Int)) = true := decide_eq_true c2
    have c2b1 : decide (100 < l0.length) = true := decide_eq_true (by omega)
    clear c2
    obtain rfl := Option.some.inj H
    go_enter Try.func31, Try.ntmps31
    go_wp2
    go_ret
    exact ⟨by first | rfl | (simp [errW_none, errW_some] <;> rfl) | (simp [*, errW_none, errW_some] <;> rfl), by repeat (first | (with_reducible first | exact HB.out | apply below_alloc | apply pw_below_drewN | apply below_drew1) | exact HB.out)⟩
  · rw [if_neg c2] at H
    have c2b0 : decide (100 < (l0.length : Int)) = false := decide_eq_false c2
    have c2b1 : decide (100 < l0.length) = false := decide_eq_false (by omega)
    clear c2
    have H' := Aside0.mk H
    clear H
    go_enter Try.func31, Try.ntmps31
    go_wp2
    go_loopg [3] k (fun kq v3 w' => ∃ (x3_1 : Int), v3 = .int .i64 x3_1 ∧ Aside0 (constableref01_Binds.l0 kq l0 x3_1 = some r) ∧ Aside0 (kq ≤ k) ∧ Aside0 (Below w.heap.size w w'))
    case atStart => exact ⟨(0), ra_, H', ⟨Nat.le_refl _⟩, ⟨by repeat (first | (with_reducible first | exact HB.out | apply below_alloc | apply pw_below_drewN | apply below_drew1) | exact HB.out)⟩⟩
    case round =>
      clear H'
      try clear c2
      try clear c2b0
      try clear c2b1
      try clear p2
      obtain ⟨x3_1, rfl, HA, HK1, HB⟩ := hrel
      cases gk with
      | zero => exact absurd HA.out (by simp [constableref01_Binds.l0])
      | succ k1 =>
        have H := HA.out
        clear HA
        simp only [constableref01_Binds.l0] at H
        by_cases c3 : x3_1 < (l0.length : Int)
        · rw [if_pos c3] at H
          have c3b0 : decide (x3_1 < (l0.length : Int)) = true := decide_eq_true c3
          clear c3
          by_cases c4 : 0 ≤ x3_1
          · rw [if_pos c4] at H
            have c4b0 : decide (0 ≤ x3_1) = true := decide_eq_true c4
            clear c4
            replace H := Option.bind_eq_some_iff.mp H
            obtain ⟨t320, A50, H⟩ := H
            replace H : (if t320 = true then ((constableref01_Value.f k1 ((rd_T62 l0 x3_1).f1.f0) ((rd_T62 l0 x3_1).f1.f1) ((rd_T62 l0 x3_1).f1.f2)).bind fun t322 => (if t322 = true then (if x3_1 > 0 then (if 0 ≤ (wrap64 (x3_1 - 1)) then (if (wrap64 (x3_1 - 1)) < (l0.length : Int) then ((constableref01_Strings.f k1 ((rd_T62 l0 (wrap64 (x3_1 - 1))).f0) ((rd_T62 l0 x3_1).f0)).bind fun t325 => (if t325 ≥ 0 then (some false) else (constableref01_Binds.l0 k1 l0 (wrap64 (x3_1 + 1))))) else (none)) else (none)) else (constableref01_Binds.l0 k1 l0 (wrap64 (x3_1 + 1)))) else (some false))) else (some false)) = some r := H
            have A5 := Aside0.mk A50
            clear A50
            by_cases c6 : t320 = true
            · subst c6
              have H1 : ((constableref01_Value.f k1 ((rd_T62 l0 x3_1).f1.f0) ((rd_T62 l0 x3_1).f1.f1) ((rd_T62 l0 x3_1).f1.f2)).bind fun t322 => (if t322 = true then (if x3_1 > 0 then (if 0 ≤ (wrap64 (x3_1 - 1)) then (if (wrap64 (x3_1 - 1)) < (l0.length : Int) then ((constableref01_Strings.f k1 ((rd_T62 l0 (wrap64 (x3_1 - 1))).f0) ((rd_T62 l0 x3_1).f0)).bind fun t325 => (if t325 ≥ 0 then (some false) else (constableref01_Binds.l0 k1 l0 (wrap64 (x3_1 + 1))))) else (none)) else (none)) else (constableref01_Binds.l0 k1 l0 (wrap64 (x3_1 + 1)))) else (some false))) = some r := by rw [if_pos rfl] at H; exact H
              clear H
              have H := H1
              clear H1
              replace H := Option.bind_eq_some_iff.mp H
              obtain ⟨t322, A70, H⟩ := H
              replace H : (if t322 = true then (if x3_1 > 0 then (if 0 ≤ (wrap64 (x3_1 - 1)) then (if (wrap64 (x3_1 - 1)) < (l0.length : Int) then ((constableref01_Strings.f k1 ((rd_T62 l0 (wrap64 (x3_1 - 1))).f0) ((rd_T62 l0 x3_1).f0)).bind fun t325 => (if t325 ≥ 0 then (some false) else (constableref01_Binds.l0 k1 l0 (wrap64 (x3_1 + 1))))) else (none)) else (none)) else (constableref01_Binds.l0 k1 l0 (wrap64 (x3_1 + 1)))) else (some false)) = some r := H
              have A7 := Aside0.mk A70
              clear A70
              by_cases c8 : t322 = true
              · subst c8
                have H1 : (if x3_1 > 0 then (if 0 ≤ (wrap64 (x3_1 - 1)) then (if (wrap64 (x3_1 - 1)) < (l0.length : Int) then ((constableref01_Strings.f k1 ((rd_T62 l0 (wrap64 (x3_1 - 1))).f0) ((rd_T62 l0 x3_1).f0)).bind fun t325 => (if t325 ≥ 0 then (some false) else (constableref01_Binds.l0 k1 l0 (wrap64 (x3_1 + 1))))) else (none)) else (none)) else (constableref01_Binds.l0 k1 l0 (wrap64 (x3_1 + 1)))) = some r := by rw [if_pos rfl] at H; exact H
                clear H
                have H := H1
                clear H1
                by_cases c9 : x3_1 > 0
                · rw [if_pos c9] at H
                  have c9b0 : decide (0 < x3_1) = true := decide_eq_true c9
                  clear c9
                  obtain ⟨ji10, hji10⟩ : ∃ j_ : Int, (wrap64 (x3_1 - 1)) = j_ := ⟨_, rfl⟩
                  replace H : (if 0 ≤ (ji10) then (if (ji10) < (l0.length : Int) then ((constableref01_Strings.f k1 ((rd_T62 l0 (ji10)).f0) ((rd_T62 l0 x3_1).f0)).bind fun t325 => (if t325 ≥ 0 then (some false) else (constableref01_Binds.l0 k1 l0 (wrap64 (x3_1 + 1))))) else (none)) else (none)) = some r := by first | (rw [hji10] at H; exact H) | (simp only [hji10] at H ⊢; exact H)
                  (try rw [hji10] at A5)
                  (try rw [hji10] at A7)
                  have hji10w : (IntKind.i64.wrap (x3_1 - 1)) = ji10 := (i64_w _).trans hji10
                  by_cases c11 : 0 ≤ (ji10)
                  · rw [if_pos c11] at H
                    have c11b0 : decide (0 ≤ (ji10)) = true := decide_eq_true c11
                    clear c11
                    by_cases c12 : (ji10) < (l0.length : Int)
                    · rw [if_pos c12] at H
                      have c12b0 : decide ((ji10) < (l0.length : Int)) = true := decide_eq_true c12
                      clear c12
                      replace H := Option.bind_eq_some_iff.mp H
                      obtain ⟨t325, A130, H⟩ := H
                      replace H : (if t325 ≥ 0 then (some false) else (constableref01_Binds.l0 k1 l0 (wrap64 (x3_1 + 1)))) = some r := H
                      have A13 := Aside0.mk A130
                      clear A130
                      by_cases c14 : t325 ≥ 0
                      · rw [if_pos c14] at H
                        have c14b0 : decide (0 ≤ t325) = true := decide_eq_true c14
                        clear c14
                        obtain rfl := Option.some.inj H
                        try go_wp2
                        have n0_ := Aside0.mk (below_drew1 HB.out)
                        clear HB
                        have HB := n0_
                        clear n0_
                        have p319 : 0 ≤ (x3_1 : Int) := dt_
                        have q319 : x3_1 < (l0.length : Int) := dt_
                        obtain ⟨ad319, e319, hx319_0, hx319_1, hx319_2, hx319_3⟩ := at_T62 HR0.out x3_1 p319 q319
                        have hw319_3 := hx319_3
                        have hw319_2 := hx319_2
                        have hw319_1 := hx319_1
                        have hw319_0 := hx319_0
                        cases e319
                        replace hx319_0 := cm_ HB hx319_0
                        replace hx319_1 := cm_ HB hx319_1
                        replace hx319_2 := cm_ HB hx319_2
                        replace hx319_3 := cm_ HB hx319_3
                        replace p319 := eq_true p319
                        replace q319 := eq_true q319
                        have p321 : 0 ≤ (x3_1 : Int) := dt_
                        have q321 : x3_1 < (l0.length : Int) := dt_
                        obtain ⟨ad321, e321, hx321_0, hx321_1, hx321_2, hx321_3⟩ := at_T62 HR0.out x3_1 p321 q321
                        have hw321_3 := hx321_3
                        have hw321_2 := hx321_2
                        have hw321_1 := hx321_1
                        have hw321_0 := hx321_0
                        obtain rfl : ad319 = ad321 := (by injection e321)
                        replace hx321_0 := cm_ HB hx321_0
                        replace hx321_1 := cm_ HB hx321_1
                        replace hx321_2 := cm_ HB hx321_2
                        replace hx321_3 := cm_ HB hx321_3
                        replace p321 := eq_true p321
                        replace q321 := eq_true q321
                        have p323 : 0 ≤ ((ji10) : Int) := dt_
                        have q323 : (ji10) < (l0.length : Int) := dt_
                        obtain ⟨ad323, e323, hx323_0, hx323_1, hx323_2, hx323_3⟩ := at_T62 HR0.out (ji10) p323 q323
                        have hw323_3 := hx323_3
                        have hw323_2 := hx323_2
                        have hw323_1 := hx323_1
                        have hw323_0 := hx323_0
                        obtain rfl : ad319 = ad323 := (by injection e323)
                        replace hx323_0 := cm_ HB hx323_0
                        replace hx323_1 := cm_ HB hx323_1
                        replace hx323_2 := cm_ HB hx323_2
                        replace hx323_3 := cm_ HB hx323_3
                        replace p323 := eq_true p323
                        replace q323 := eq_true q323
                        have p324 : 0 ≤ (x3_1 : Int) := dt_
                        have q324 : x3_1 < (l0.length : Int) := dt_
                        obtain ⟨ad324, e324, hx324_0, hx324_1, hx324_2, hx324_3⟩ := at_T62 HR0.out x3_1 p324 q324
                        have hw324_3 := hx324_3
                        have hw324_2 := hx324_2
                        have hw324_1 := hx324_1
                        have hw324_0 := hx324_0
                        obtain rfl : ad319 = ad324 := (by injection e324)
                        replace hx324_0 := cm_ HB hx324_0
                        replace hx324_1 := cm_ HB hx324_1
                        replace hx324_2 := cm_ HB hx324_2
                        replace hx324_3 := cm_ HB hx324_3
                        replace p324 := eq_true p324
                        replace q324 := eq_true q324
                        refine start_ (n := 35) (S := fun w' => w'.cell? (ad319.add ((x3_1).toNat * 4)) = some (.string ((rd_T62 l0 x3_1).f0)) ∧ w'.cell? ⟨(ad319.add ((x3_1).toNat * 4)).block, (ad319.add ((x3_1).toNat * 4)).off + 1, none⟩ = some (.int .i64 ((rd_T62 l0 x3_1).f1.f0)) ∧ w'.cell? ⟨(ad319.add ((x3_1).toNat * 4)).block, (ad319.add ((x3_1).toNat * 4)).off + 2, none⟩ = some (.int .i64 ((rd_T62 l0 x3_1).f1.f1)) ∧ w'.cell? ⟨(ad319.add ((x3_1).toNat * 4)).block, (ad319.add ((x3_1).toNat * 4)).off + 3, none⟩ = some (.string ((rd_T62 l0 x3_1).f1.f2)) ∧ w'.cell? (ad319.add ((x3_1).toNat * 4)) = some (.string ((rd_T62 l0 x3_1).f0)) ∧ w'.cell? ⟨(ad319.add ((x3_1).toNat * 4)).block, (ad319.add ((x3_1).toNat * 4)).off + 1, none⟩ = some (.int .i64 ((rd_T62 l0 x3_1).f1.f0)) ∧ w'.cell? ⟨(ad319.add ((x3_1).toNat * 4)).block, (ad319.add ((x3_1).toNat * 4)).off + 2, none⟩ = some (.int .i64 ((rd_T62 l0 x3_1).f1.f1)) ∧ w'.cell? ⟨(ad319.add ((x3_1).toNat * 4)).block, (ad319.add ((x3_1).toNat * 4)).off + 3, none⟩ = some (.string ((rd_T62 l0 x3_1).f1.f2)) ∧ w'.cell? (ad319.add (((ji10)).toNat * 4)) = some (.string ((rd_T62 l0 (ji10)).f0)) ∧ w'.cell? ⟨(ad319.add (((ji10)).toNat * 4)).block, (ad319.add (((ji10)).toNat * 4)).off + 1, none⟩ = some (.int .i64 ((rd_T62 l0 (ji10)).f1.f0)) ∧ w'.cell? ⟨(ad319.add (((ji10)).toNat * 4)).block, (ad319.add (((ji10)).toNat * 4)).off + 2, none⟩ = some (.int .i64 ((rd_T62 l0 (ji10)).f1.f1)) ∧ w'.cell? ⟨(ad319.add (((ji10)).toNat * 4)).block, (ad319.add (((ji10)).toNat * 4)).off + 3, none⟩ = some (.string ((rd_T62 l0 (ji10)).f1.f2)) ∧ w'.cell? (ad319.add ((x3_1).toNat * 4)) = some (.string ((rd_T62 l0 x3_1).f0)) ∧ w'.cell? ⟨(ad319.add ((x3_1).toNat * 4)).block, (ad319.add ((x3_1).toNat * 4)).off + 1, none⟩ = some (.int .i64 ((rd_T62 l0 x3_1).f1.f0)) ∧ w'.cell? ⟨(ad319.add ((x3_1).toNat * 4)).block, (ad319.add ((x3_1).toNat * 4)).off + 2, none⟩ = some (.int .i64 ((rd_T62 l0 x3_1).f1.f1)) ∧ w'.cell? ⟨(ad319.add ((x3_1).toNat * 4)).block, (ad319.add ((x3_1).toNat * 4)).off + 3, none⟩ = some (.string ((rd_T62 l0 x3_1).f1.f2))) (ds := []) (mk_ 35 0) (by kernel_rfl) rfl rfl ⟨(cl_ HB hw319_0), (cl_ HB hw319_1), (cl_ HB hw319_2), (cl_ HB hw319_3), (cl_ HB hw321_0), (cl_ HB hw321_1), (cl_ HB hw321_2), (cl_ HB hw321_3), (cl_ HB hw323_0), (cl_ HB hw323_1), (cl_ HB hw323_2), (cl_ HB hw323_3), (cl_ HB hw324_0), (cl_ HB hw324_1), (cl_ HB hw324_2), (cl_ HB hw324_3)⟩ (fun hHeld => ?_); refine with_tabW constableref01_Binds.tab6 constableref01_Binds.bits6 (fun HT_ HW_ => ?_)
                        generalize wr.drew = w15 at HB hx319_0 hx319_1 hx319_2 hx319_3 hx321_0 hx321_1 hx321_2 hx321_3 hx323_0 hx323_1 hx323_2 hx323_3 hx324_0 hx324_1 hx324_2 hx324_3 hHeld ⊢
                        refine pu_ 0 13 1 HT_ ?_; refine pu_ 1 14 3 HT_ ?_; refine pu_ 2 15 7 HT_ ?_; refine pu_ 3 16 15 HT_ ?_; refine tk_ 4 17 31 HT_ HW_ hHeld ?_
                        refine one_ (i := 5) (N := some 18) (mk_ 35 63) rfl rfl (one_of HT_.out (by kernel_rfl)) (by decide) (fun K hK => ?_)
                        refine goes_ Try.func45 (by kernel_rfl) rfl #[.string ((rd_T62 l0 x3_1).f0), .bool true] (by rfl) rfl rfl ga_ ?_
                        with_reducible refine (constableref01_Word.calls k1 ((rd_T62 l0 x3_1).f0) true true _ A5.out).mono ?_
                        rintro e w' ⟨rfl, ⟨nd, rfl⟩⟩
                        refine ⟨_, rfl, ?_⟩
                        refine hK.out _ _ ⟨(cl_ HB hw319_0), (cl_ HB hw319_1), (cl_ HB hw319_2), (cl_ HB hw319_3), (cl_ HB hw321_0), (cl_ HB hw321_1), (cl_ HB hw321_2), (cl_ HB hw321_3), (cl_ HB hw323_0), (cl_ HB hw323_1), (cl_ HB hw323_2), (cl_ HB hw323_3), (cl_ HB hw324_0), (cl_ HB hw324_1), (cl_ HB hw324_2), (cl_ HB hw324_3)⟩ (fun hHeld => ?_)
                        clear hK K
                        refine nm_ 18 ?_; refine pu_ 6 19 127 HT_ ?_; refine pu_ 7 20 255 HT_ ?_; refine pu_ 8 21 511 HT_ ?_; refine pu_ 9 22 1023 HT_ ?_; refine pu_ 10 23 2047 HT_ ?_; refine pu_ 11 24 4095 HT_ ?_; refine tk_ 12 25 8191 HT_ HW_ hHeld ?_
                        refine one_ (i := 13) (N := some 26) (mk_ 35 16383) rfl rfl (one_of HT_.out (by kernel_rfl)) (by decide) (fun K hK => ?_)
                        refine goes_ Try.func46 (by kernel_rfl) rfl #[.agg #[.int .i64 ((rd_T62 l0 x3_1).f1.f0), .int .i64 ((rd_T62 l0 x3_1).f1.f1), .string ((rd_T62 l0 x3_1).f1.f2)]] (by rfl) rfl rfl ga_ ?_
                        with_reducible refine (constableref01_Value.calls k1 ((rd_T62 l0 x3_1).f1.f0) ((rd_T62 l0 x3_1).f1.f1) ((rd_T62 l0 x3_1).f1.f2) true _ A7.out).mono ?_
                        rintro e w16 ⟨rfl, hb⟩
                        refine ⟨_, rfl, ?_⟩
                        have n0_ := bs_ (be_ HB) hb
                        clear HB
                        have HB := n0_
                        clear n0_
                        (try clear hb)
                        (try clear hb2)
                        (try clear hk)
                        (try clear hi)
                        refine hK.out _ _ ⟨(cl_ HB hw319_0), (cl_ HB hw319_1), (cl_ HB hw319_2), (cl_ HB hw319_3), (cl_ HB hw321_0), (cl_ HB hw321_1), (cl_ HB hw321_2), (cl_ HB hw321_3), (cl_ HB hw323_0), (cl_ HB hw323_1), (cl_ HB hw323_2), (cl_ HB hw323_3), (cl_ HB hw324_0), (cl_ HB hw324_1), (cl_ HB hw324_2), (cl_ HB hw324_3)⟩ (fun hHeld => ?_)
                        clear hK K
                        refine nm_ 26 ?_; refine pu_ 14 27 32767 HT_ ?_; refine pu_ 15 28 65535 HT_ ?_; refine pu_ 16 29 131071 HT_ ?_; refine pu_ 17 30 262143 HT_ ?_; refine pu_ 18 31 524287 HT_ ?_; refine pu_ 19 32 1048575 HT_ ?_; refine pu_ 20 33 2097151 HT_ ?_; refine pu_ 21 34 4194303 HT_ ?_; refine pu_ 22 35 8388607 HT_ ?_; refine pu_ 23 36 16777215 HT_ ?_; refine pu_ 24 37 33554431 HT_ ?_; refine pu_ 26 39 100663295 HT_ ?_; refine pu_ 27 40 234881023 HT_ ?_; refine pu_ 28 41 503316479 HT_ ?_; refine pu_ 29 42 1040187391 HT_ ?_; refine tk_ 25 38 1073741823 HT_ HW_ hHeld ?_; refine tk_ 30 43 2147483647 HT_ HW_ hHeld ?_
                        refine one_ (i := 31) (N := some 44) (mk_ 35 4294967295) rfl rfl (one_of HT_.out (by kernel_rfl)) (by decide) (fun K hK => ?_)
                        refine goes_ Try.func48 (by kernel_rfl) rfl #[.string ((rd_T62 l0 (ji10)).f0), .string ((rd_T62 l0 x3_1).f0)] (by rfl) rfl rfl (by (try simp only [List.map_toArray, List.map_cons, List.map_nil]); first | done | (simp only [hji10]; rfl) | rfl | (simp only [List.length_drop, List.length_take]; rfl)) ?_
                        with_reducible refine (constableref01_Strings.calls k1 ((rd_T62 l0 (ji10)).f0) ((rd_T62 l0 x3_1).f0) t325 _ A13.out).mono ?_
                        rintro e w' ⟨rfl, ⟨nd, rfl⟩⟩
                        refine ⟨_, rfl, ?_⟩
                        refine hK.out _ _ ⟨(cl_ HB hw319_0), (cl_ HB hw319_1), (cl_ HB hw319_2), (cl_ HB hw319_3), (cl_ HB hw321_0), (cl_ HB hw321_1), (cl_ HB hw321_2), (cl_ HB hw321_3), (cl_ HB hw323_0), (cl_ HB hw323_1), (cl_ HB hw323_2), (cl_ HB hw323_3), (cl_ HB hw324_0), (cl_ HB hw324_1), (cl_ HB hw324_2), (cl_ HB hw324_3)⟩ (fun hHeld => ?_)
                        clear hK K
                        refine nm_ 44 ?_; refine pu_ 32 45 8589934591 HT_ ?_; refine pu_ 33 46 17179869183 HT_ ?_; refine pu_ 34 47 34359738367 HT_ ?_
                        refine done_ (done_of HT_.out (by kernel_rfl)) ?_
                        try go_wp2
                        go_ret
                        exact ⟨by first | rfl | (simp [errW_none, errW_some] <;> rfl) | (simp only [← hji10]; first | rfl | (simp [errW_none, errW_some] <;> rfl)) | (simp [*, errW_none, errW_some] <;> rfl), by repeat (first | (with_reducible first | exact HB.out | apply below_alloc | apply pw_below_drewN | apply below_drew1) | exact HB.out)⟩
                      · rw [if_neg c14] at H
                        have c14b0 : decide (0 ≤ t325) = false := decide_eq_false c14
                        clear c14
                        have H' := Aside0.mk H
                        clear H
                        try go_wp2
                        have n0_ := Aside0.mk (below_drew1 HB.out)
                        clear HB
                        have HB := n0_
                        clear n0_
                        have p319 : 0 ≤ (x3_1 : Int) := dt_
                        have q319 : x3_1 < (l0.length : Int) := dt_
                        obtain ⟨ad319, e319, hx319_0, hx319_1, hx319_2, hx319_3⟩ := at_T62 HR0.out x3_1 p319 q319
                        have hw319_3 := hx319_3
                        have hw319_2 := hx319_2
                        have hw319_1 := hx319_1
                        have hw319_0 := hx319_0
                        cases e319
                        replace hx319_0 := cm_ HB hx319_0
                        replace hx319_1 := cm_ HB hx319_1
                        replace hx319_2 := cm_ HB hx319_2
                        replace hx319_3 := cm_ HB hx319_3
                        replace p319 := eq_true p319
                        replace q319 := eq_true q319
                        have p321 : 0 ≤ (x3_1 : Int) := dt_
                        have q321 : x3_1 < (l0.length : Int) := dt_
                        obtain ⟨ad321, e321, hx321_0, hx321_1, hx321_2, hx321_3⟩ := at_T62 HR0.out x3_1 p321 q321
                        have hw321_3 := hx321_3
                        have hw321_2 := hx321_2
                        have hw321_1 := hx321_1
                        have hw321_0 := hx321_0
                        obtain rfl : ad319 = ad321 := (by injection e321)
                        replace hx321_0 := cm_ HB hx321_0
                        replace hx321_1 := cm_ HB hx321_1
                        replace hx321_2 := cm_ HB hx321_2
                        replace hx321_3 := cm_ HB hx321_3
                        replace p321 := eq_true p321
                        replace q321 := eq_true q321
                        have p323 : 0 ≤ ((ji10) : Int) := dt_
                        have q323 : (ji10) < (l0.length : Int) := dt_
                        obtain ⟨ad323, e323, hx323_0, hx323_1, hx323_2, hx323_3⟩ := at_T62 HR0.out (ji10) p323 q323
                        have hw323_3 := hx323_3
                        have hw323_2 := hx323_2
                        have hw323_1 := hx323_1
                        have hw323_0 := hx323_0
                        obtain rfl : ad319 = ad323 := (by injection e323)
                        replace hx323_0 := cm_ HB hx323_0
                        replace hx323_1 := cm_ HB hx323_1
                        replace hx323_2 := cm_ HB hx323_2
                        replace hx323_3 := cm_ HB hx323_3
                        replace p323 := eq_true p323
                        replace q323 := eq_true q323
                        have p324 : 0 ≤ (x3_1 : Int) := dt_
                        have q324 : x3_1 < (l0.length : Int) := dt_
                        obtain ⟨ad324, e324, hx324_0, hx324_1, hx324_2, hx324_3⟩ := at_T62 HR0.out x3_1 p324 q324
                        have hw324_3 := hx324_3
                        have hw324_2 := hx324_2
                        have hw324_1 := hx324_1
                        have hw324_0 := hx324_0
                        obtain rfl : ad319 = ad324 := (by injection e324)
                        replace hx324_0 := cm_ HB hx324_0
                        replace hx324_1 := cm_ HB hx324_1
                        replace hx324_2 := cm_ HB hx324_2
                        replace hx324_3 := cm_ HB hx324_3
                        replace p324 := eq_true p324
                        replace q324 := eq_true q324
                        refine start_ (n := 35) (S := fun w' => w'.cell? (ad319.add ((x3_1).toNat * 4)) = some (.string ((rd_T62 l0 x3_1).f0)) ∧ w'.cell? ⟨(ad319.add ((x3_1).toNat * 4)).block, (ad319.add ((x3_1).toNat * 4)).off + 1, none⟩ = some (.int .i64 ((rd_T62 l0 x3_1).f1.f0)) ∧ w'.cell? ⟨(ad319.add ((x3_1).toNat * 4)).block, (ad319.add ((x3_1).toNat * 4)).off + 2, none⟩ = some (.int .i64 ((rd_T62 l0 x3_1).f1.f1)) ∧ w'.cell? ⟨(ad319.add ((x3_1).toNat * 4)).block, (ad319.add ((x3_1).toNat * 4)).off + 3, none⟩ = some (.string ((rd_T62 l0 x3_1).f1.f2)) ∧ w'.cell? (ad319.add ((x3_1).toNat * 4)) = some (.string ((rd_T62 l0 x3_1).f0)) ∧ w'.cell? ⟨(ad319.add ((x3_1).toNat * 4)).block, (ad319.add ((x3_1).toNat * 4)).off + 1, none⟩ = some (.int .i64 ((rd_T62 l0 x3_1).f1.f0)) ∧ w'.cell? ⟨(ad319.add ((x3_1).toNat * 4)).block, (ad319.add ((x3_1).toNat * 4)).off + 2, none⟩ = some (.int .i64 ((rd_T62 l0 x3_1).f1.f1)) ∧ w'.cell? ⟨(ad319.add ((x3_1).toNat * 4)).block, (ad319.add ((x3_1).toNat * 4)).off + 3, none⟩ = some (.string ((rd_T62 l0 x3_1).f1.f2)) ∧ w'.cell? (ad319.add (((ji10)).toNat * 4)) = some (.string ((rd_T62 l0 (ji10)).f0)) ∧ w'.cell? ⟨(ad319.add (((ji10)).toNat * 4)).block, (ad319.add (((ji10)).toNat * 4)).off + 1, none⟩ = some (.int .i64 ((rd_T62 l0 (ji10)).f1.f0)) ∧ w'.cell? ⟨(ad319.add (((ji10)).toNat * 4)).block, (ad319.add (((ji10)).toNat * 4)).off + 2, none⟩ = some (.int .i64 ((rd_T62 l0 (ji10)).f1.f1)) ∧ w'.cell? ⟨(ad319.add (((ji10)).toNat * 4)).block, (ad319.add (((ji10)).toNat * 4)).off + 3, none⟩ = some (.string ((rd_T62 l0 (ji10)).f1.f2)) ∧ w'.cell? (ad319.add ((x3_1).toNat * 4)) = some (.string ((rd_T62 l0 x3_1).f0)) ∧ w'.cell? ⟨(ad319.add ((x3_1).toNat * 4)).block, (ad319.add ((x3_1).toNat * 4)).off + 1, none⟩ = some (.int .i64 ((rd_T62 l0 x3_1).f1.f0)) ∧ w'.cell? ⟨(ad319.add ((x3_1).toNat * 4)).block, (ad319.add ((x3_1).toNat * 4)).off + 2, none⟩ = some (.int .i64 ((rd_T62 l0 x3_1).f1.f1)) ∧ w'.cell? ⟨(ad319.add ((x3_1).toNat * 4)).block, (ad319.add ((x3_1).toNat * 4)).off + 3, none⟩ = some (.string ((rd_T62 l0 x3_1).f1.f2))) (ds := []) (mk_ 35 0) (by kernel_rfl) rfl rfl ⟨(cl_ HB hw319_0), (cl_ HB hw319_1), (cl_ HB hw319_2), (cl_ HB hw319_3), (cl_ HB hw321_0), (cl_ HB hw321_1), (cl_ HB hw321_2), (cl_ HB hw321_3), (cl_ HB hw323_0), (cl_ HB hw323_1), (cl_ HB hw323_2), (cl_ HB hw323_3), (cl_ HB hw324_0), (cl_ HB hw324_1), (cl_ HB hw324_2), (cl_ HB hw324_3)⟩ (fun hHeld => ?_); refine with_tabW constableref01_Binds.tab6 constableref01_Binds.bits6 (fun HT_ HW_ => ?_)
                        generalize wr.drew = w17 at HB hx319_0 hx319_1 hx319_2 hx319_3 hx321_0 hx321_1 hx321_2 hx321_3 hx323_0 hx323_1 hx323_2 hx323_3 hx324_0 hx324_1 hx324_2 hx324_3 hHeld ⊢
                        refine pu_ 0 13 1 HT_ ?_; refine pu_ 1 14 3 HT_ ?_; refine pu_ 2 15 7 HT_ ?_; refine pu_ 3 16 15 HT_ ?_; refine tk_ 4 17 31 HT_ HW_ hHeld ?_
                        refine one_ (i := 5) (N := some 18) (mk_ 35 63) rfl rfl (one_of HT_.out (by kernel_rfl)) (by decide) (fun K hK => ?_)
                        refine goes_ Try.func45 (by kernel_rfl) rfl #[.string ((rd_T62 l0 x3_1).f0), .bool true] (by rfl) rfl rfl ga_ ?_
                        with_reducible refine (constableref01_Word.calls k1 ((rd_T62 l0 x3_1).f0) true true _ A5.out).mono ?_
                        rintro e w' ⟨rfl, ⟨nd, rfl⟩⟩
                        refine ⟨_, rfl, ?_⟩
                        refine hK.out _ _ ⟨(cl_ HB hw319_0), (cl_ HB hw319_1), (cl_ HB hw319_2), (cl_ HB hw319_3), (cl_ HB hw321_0), (cl_ HB hw321_1), (cl_ HB hw321_2), (cl_ HB hw321_3), (cl_ HB hw323_0), (cl_ HB hw323_1), (cl_ HB hw323_2), (cl_ HB hw323_3), (cl_ HB hw324_0), (cl_ HB hw324_1), (cl_ HB hw324_2), (cl_ HB hw324_3)⟩ (fun hHeld => ?_)
                        clear hK K
                        refine nm_ 18 ?_; refine pu_ 6 19 127 HT_ ?_; refine pu_ 7 20 255 HT_ ?_; refine pu_ 8 21 511 HT_ ?_; refine pu_ 9 22 1023 HT_ ?_; refine pu_ 10 23 2047 HT_ ?_; refine pu_ 11 24 4095 HT_ ?_; refine tk_ 12 25 8191 HT_ HW_ hHeld ?_
                        refine one_ (i := 13) (N := some 26) (mk_ 35 16383) rfl rfl (one_of HT_.out (by kernel_rfl)) (by decide) (fun K hK => ?_)
                        refine goes_ Try.func46 (by kernel_rfl) rfl #[.agg #[.int .i64 ((rd_T62 l0 x3_1).f1.f0), .int .i64 ((rd_T62 l0 x3_1).f1.f1), .string ((rd_T62 l0 x3_1).f1.f2)]] (by rfl) rfl rfl ga_ ?_
                        with_reducible refine (constableref01_Value.calls k1 ((rd_T62 l0 x3_1).f1.f0) ((rd_T62 l0 x3_1).f1.f1) ((rd_T62 l0 x3_1).f1.f2) true _ A7.out).mono ?_
                        rintro e w18 ⟨rfl, hb⟩
                        refine ⟨_, rfl, ?_⟩
                        have n0_ := bs_ (be_ HB) hb
                        clear HB
                        have HB := n0_
                        clear n0_
                        (try clear hb)
                        (try clear hb2)
                        (try clear hk)
                        (try clear hi)
                        refine hK.out _ _ ⟨(cl_ HB hw319_0), (cl_ HB hw319_1), (cl_ HB hw319_2), (cl_ HB hw319_3), (cl_ HB hw321_0), (cl_ HB hw321_1), (cl_ HB hw321_2), (cl_ HB hw321_3), (cl_ HB hw323_0), (cl_ HB hw323_1), (cl_ HB hw323_2), (cl_ HB hw323_3), (cl_ HB hw324_0), (cl_ HB hw324_1), (cl_ HB hw324_2), (cl_ HB hw324_3)⟩ (fun hHeld => ?_)
                        clear hK K
                        refine nm_ 26 ?_; refine pu_ 14 27 32767 HT_ ?_; refine pu_ 15 28 65535 HT_ ?_; refine pu_ 16 29 131071 HT_ ?_; refine pu_ 17 30 262143 HT_ ?_; refine pu_ 18 31 524287 HT_ ?_; refine pu_ 19 32 1048575 HT_ ?_; refine pu_ 20 33 2097151 HT_ ?_; refine pu_ 21 34 4194303 HT_ ?_; refine pu_ 22 35 8388607 HT_ ?_; refine pu_ 23 36 16777215 HT_ ?_; refine pu_ 24 37 33554431 HT_ ?_; refine pu_ 26 39 100663295 HT_ ?_; refine pu_ 27 40 234881023 HT_ ?_; refine pu_ 28 41 503316479 HT_ ?_; refine pu_ 29 42 1040187391 HT_ ?_; refine tk_ 25 38 1073741823 HT_ HW_ hHeld ?_; refine tk_ 30 43 2147483647 HT_ HW_ hHeld ?_
                        refine one_ (i := 31) (N := some 44) (mk_ 35 4294967295) rfl rfl (one_of HT_.out (by kernel_rfl)) (by decide) (fun K hK => ?_)
                        refine goes_ Try.func48 (by kernel_rfl) rfl #[.string ((rd_T62 l0 (ji10)).f0), .string ((rd_T62 l0 x3_1).f0)] (by rfl) rfl rfl (by (try simp only [List.map_toArray, List.map_cons, List.map_nil]); first | done | (simp only [hji10]; rfl) | rfl | (simp only [List.length_drop, List.length_take]; rfl)) ?_
                        with_reducible refine (constableref01_Strings.calls k1 ((rd_T62 l0 (ji10)).f0) ((rd_T62 l0 x3_1).f0) t325 _ A13.out).mono ?_
                        rintro e w' ⟨rfl, ⟨nd, rfl⟩⟩
                        refine ⟨_, rfl, ?_⟩
                        refine hK.out _ _ ⟨(cl_ HB hw319_0), (cl_ HB hw319_1), (cl_ HB hw319_2), (cl_ HB hw319_3), (cl_ HB hw321_0), (cl_ HB hw321_1), (cl_ HB hw321_2), (cl_ HB hw321_3), (cl_ HB hw323_0), (cl_ HB hw323_1), (cl_ HB hw323_2), (cl_ HB hw323_3), (cl_ HB hw324_0), (cl_ HB hw324_1), (cl_ HB hw324_2), (cl_ HB hw324_3)⟩ (fun hHeld => ?_)
                        clear hK K
                        refine nm_ 44 ?_; refine pu_ 32 45 8589934591 HT_ ?_; refine pu_ 33 46 17179869183 HT_ ?_; refine pu_ 34 47 34359738367 HT_ ?_
                        refine done_ (done_of HT_.out (by kernel_rfl)) ?_
                        try go_wp2
                        go_roundg k1
                        case measure => have := HK1.out; omega
                        case rel => exact ⟨(wrap64 (x3_1 + 1)), ra_, H', ⟨by have := HK1.out; omega⟩, ⟨by repeat (first | (with_reducible first | exact HB.out | apply below_alloc | apply pw_below_drewN | apply below_drew1) | exact HB.out)⟩⟩
                    · rw [if_neg c12] at H
                      exact absurd H (by simp)
                  · rw [if_neg c11] at H
                    exact absurd H (by simp)
                · rw [if_neg c9] at H
                  have c9b0 : decide (0 < x3_1) = false := decide_eq_false c9
                  clear c9
                  have H' := Aside0.mk H
                  clear H
                  try go_wp2
                  have n0_ := Aside0.mk (below_drew1 HB.out)
                  clear HB
                  have HB := n0_
                  clear n0_
                  have p319 : 0 ≤ (x3_1 : Int) := dt_
                  have q319 : x3_1 < (l0.length : Int) := dt_
                  obtain ⟨ad319, e319, hx319_0, hx319_1, hx319_2, hx319_3⟩ := at_T62 HR0.out x3_1 p319 q319
                  have hw319_3 := hx319_3
                  have hw319_2 := hx319_2
                  have hw319_1 := hx319_1
                  have hw319_0 := hx319_0
                  cases e319
                  replace hx319_0 := cm_ HB hx319_0
                  replace hx319_1 := cm_ HB hx319_1
                  replace hx319_2 := cm_ HB hx319_2
                  replace hx319_3 := cm_ HB hx319_3
                  replace p319 := eq_true p319
                  replace q319 := eq_true q319
                  have p321 : 0 ≤ (x3_1 : Int) := dt_
                  have q321 : x3_1 < (l0.length : Int) := dt_
                  obtain ⟨ad321, e321, hx321_0, hx321_1, hx321_2, hx321_3⟩ := at_T62 HR0.out x3_1 p321 q321
                  have hw321_3 := hx321_3
                  have hw321_2 := hx321_2
                  have hw321_1 := hx321_1
                  have hw321_0 := hx321_0
                  obtain rfl : ad319 = ad321 := (by injection e321)
                  replace hx321_0 := cm_ HB hx321_0
                  replace hx321_1 := cm_ HB hx321_1
                  replace hx321_2 := cm_ HB hx321_2
                  replace hx321_3 := cm_ HB hx321_3
                  replace p321 := eq_true p321
                  replace q321 := eq_true q321
                  refine start_ (n := 35) (S := fun w' => w'.cell? (ad319.add ((x3_1).toNat * 4)) = some (.string ((rd_T62 l0 x3_1).f0)) ∧ w'.cell? ⟨(ad319.add ((x3_1).toNat * 4)).block, (ad319.add ((x3_1).toNat * 4)).off + 1, none⟩ = some (.int .i64 ((rd_T62 l0 x3_1).f1.f0)) ∧ w'.cell? ⟨(ad319.add ((x3_1).toNat * 4)).block, (ad319.add ((x3_1).toNat * 4)).off + 2, none⟩ = some (.int .i64 ((rd_T62 l0 x3_1).f1.f1)) ∧ w'.cell? ⟨(ad319.add ((x3_1).toNat * 4)).block, (ad319.add ((x3_1).toNat * 4)).off + 3, none⟩ = some (.string ((rd_T62 l0 x3_1).f1.f2)) ∧ w'.cell? (ad319.add ((x3_1).toNat * 4)) = some (.string ((rd_T62 l0 x3_1).f0)) ∧ w'.cell? ⟨(ad319.add ((x3_1).toNat * 4)).block, (ad319.add ((x3_1).toNat * 4)).off + 1, none⟩ = some (.int .i64 ((rd_T62 l0 x3_1).f1.f0)) ∧ w'.cell? ⟨(ad319.add ((x3_1).toNat * 4)).block, (ad319.add ((x3_1).toNat * 4)).off + 2, none⟩ = some (.int .i64 ((rd_T62 l0 x3_1).f1.f1)) ∧ w'.cell? ⟨(ad319.add ((x3_1).toNat * 4)).block, (ad319.add ((x3_1).toNat * 4)).off + 3, none⟩ = some (.string ((rd_T62 l0 x3_1).f1.f2))) (ds := []) (mk_ 35 0) (by kernel_rfl) rfl rfl ⟨(cl_ HB hw319_0), (cl_ HB hw319_1), (cl_ HB hw319_2), (cl_ HB hw319_3), (cl_ HB hw321_0), (cl_ HB hw321_1), (cl_ HB hw321_2), (cl_ HB hw321_3)⟩ (fun hHeld => ?_); refine with_tabW constableref01_Binds.tab6 constableref01_Binds.bits6 (fun HT_ HW_ => ?_)
                  generalize wr.drew = w19 at HB hx319_0 hx319_1 hx319_2 hx319_3 hx321_0 hx321_1 hx321_2 hx321_3 hHeld ⊢
                  refine pu_ 0 13 1 HT_ ?_; refine pu_ 1 14 3 HT_ ?_; refine pu_ 2 15 7 HT_ ?_; refine pu_ 3 16 15 HT_ ?_; refine tk_ 4 17 31 HT_ HW_ hHeld ?_
                  refine one_ (i := 5) (N := some 18) (mk_ 35 63) rfl rfl (one_of HT_.out (by kernel_rfl)) (by decide) (fun K hK => ?_)
                  refine goes_ Try.func45 (by kernel_rfl) rfl #[.string ((rd_T62 l0 x3_1).f0), .bool true] (by rfl) rfl rfl ga_ ?_
                  with_reducible refine (constableref01_Word.calls k1 ((rd_T62 l0 x3_1).f0) true true _ A5.out).mono ?_
                  rintro e w' ⟨rfl, ⟨nd, rfl⟩⟩
                  refine ⟨_, rfl, ?_⟩
                  refine hK.out _ _ ⟨(cl_ HB hw319_0), (cl_ HB hw319_1), (cl_ HB hw319_2), (cl_ HB hw319_3), (cl_ HB hw321_0), (cl_ HB hw321_1), (cl_ HB hw321_2), (cl_ HB hw321_3)⟩ (fun hHeld => ?_)
                  clear hK K
                  refine nm_ 18 ?_; refine pu_ 6 19 127 HT_ ?_; refine pu_ 7 20 255 HT_ ?_; refine pu_ 8 21 511 HT_ ?_; refine pu_ 9 22 1023 HT_ ?_; refine pu_ 10 23 2047 HT_ ?_; refine pu_ 11 24 4095 HT_ ?_; refine tk_ 12 25 8191 HT_ HW_ hHeld ?_
                  refine one_ (i := 13) (N := some 26) (mk_ 35 16383) rfl rfl (one_of HT_.out (by kernel_rfl)) (by decide) (fun K hK => ?_)
                  refine goes_ Try.func46 (by kernel_rfl) rfl #[.agg #[.int .i64 ((rd_T62 l0 x3_1).f1.f0), .int .i64 ((rd_T62 l0 x3_1).f1.f1), .string ((rd_T62 l0 x3_1).f1.f2)]] (by rfl) rfl rfl ga_ ?_
                  with_reducible refine (constableref01_Value.calls k1 ((rd_T62 l0 x3_1).f1.f0) ((rd_T62 l0 x3_1).f1.f1) ((rd_T62 l0 x3_1).f1.f2) true _ A7.out).mono ?_
                  rintro e w20 ⟨rfl, hb⟩
                  refine ⟨_, rfl, ?_⟩
                  have n0_ := bs_ (be_ HB) hb
                  clear HB
                  have HB := n0_
                  clear n0_
                  (try clear hb)
                  (try clear hb2)
                  (try clear hk)
                  (try clear hi)
                  refine hK.out _ _ ⟨(cl_ HB hw319_0), (cl_ HB hw319_1), (cl_ HB hw319_2), (cl_ HB hw319_3), (cl_ HB hw321_0), (cl_ HB hw321_1), (cl_ HB hw321_2), (cl_ HB hw321_3)⟩ (fun hHeld => ?_)
                  clear hK K
                  refine nm_ 26 ?_; refine pu_ 14 27 32767 HT_ ?_; refine pu_ 15 28 65535 HT_ ?_; refine pu_ 16 29 131071 HT_ ?_; refine pu_ 17 30 262143 HT_ ?_; refine pu_ 18 31 524287 HT_ ?_; refine pu_ 19 32 1048575 HT_ ?_; refine pn_ 20 33 2097151 HT_ ?_; refine pn_ 21 34 4194303 HT_ ?_; refine pn_ 22 35 8388607 HT_ ?_; refine pn_ 23 36 16777215 HT_ ?_; refine pn_ 24 37 33554431 HT_ ?_; refine pn_ 25 38 67108863 HT_ ?_; refine pn_ 26 39 134217727 HT_ ?_; refine pn_ 27 40 268435455 HT_ ?_; refine pn_ 28 41 536870911 HT_ ?_; refine pn_ 29 42 1073741823 HT_ ?_; refine pn_ 30 43 2147483647 HT_ ?_; refine pn_ 31 44 4294967295 HT_ ?_; refine pn_ 32 45 8589934591 HT_ ?_; refine pu_ 33 46 17179869183 HT_ ?_; refine pu_ 34 47 34359738367 HT_ ?_
                  refine done_ (done_of HT_.out (by kernel_rfl)) ?_
                  try go_wp2
                  go_roundg k1
                  case measure => have := HK1.out; omega
                  case rel => exact ⟨(wrap64 (x3_1 + 1)), ra_, H', ⟨by have := HK1.out; omega⟩, ⟨by repeat (first | (with_reducible first | exact HB.out | apply below_alloc | apply pw_below_drewN | apply below_drew1) | exact HB.out)⟩⟩
              · replace c8 := Bool.eq_false_iff.mpr c8
                subst c8
                have H1 : (some false) = some r := by rw [if_neg (show ¬ (false = true) by decide)] at H; exact H
                clear H
                have H := H1
                clear H1
                obtain rfl := Option.some.inj H
                try go_wp2
                have n0_ := Aside0.mk (below_drew1 HB.out)
                clear HB
                have HB := n0_
                clear n0_
                have p319 : 0 ≤ (x3_1 : Int) := dt_
                have q319 : x3_1 < (l0.length : Int) := dt_
                obtain ⟨ad319, e319, hx319_0, hx319_1, hx319_2, hx319_3⟩ := at_T62 HR0.out x3_1 p319 q319
                have hw319_3 := hx319_3
                have hw319_2 := hx319_2
                have hw319_1 := hx319_1
                have hw319_0 := hx319_0
                cases e319
                replace hx319_0 := cm_ HB hx319_0
                replace hx319_1 := cm_ HB hx319_1
                replace hx319_2 := cm_ HB hx319_2
                replace hx319_3 := cm_ HB hx319_3
                replace p319 := eq_true p319
                replace q319 := eq_true q319
                have p321 : 0 ≤ (x3_1 : Int) := dt_
                have q321 : x3_1 < (l0.length : Int) := dt_
                obtain ⟨ad321, e321, hx321_0, hx321_1, hx321_2, hx321_3⟩ := at_T62 HR0.out x3_1 p321 q321
                have hw321_3 := hx321_3
                have hw321_2 := hx321_2
                have hw321_1 := hx321_1
                have hw321_0 := hx321_0
                obtain rfl : ad319 = ad321 := (by injection e321)
                replace hx321_0 := cm_ HB hx321_0
                replace hx321_1 := cm_ HB hx321_1
                replace hx321_2 := cm_ HB hx321_2
                replace hx321_3 := cm_ HB hx321_3
                replace p321 := eq_true p321
                replace q321 := eq_true q321
                refine start_ (n := 35) (S := fun w' => w'.cell? (ad319.add ((x3_1).toNat * 4)) = some (.string ((rd_T62 l0 x3_1).f0)) ∧ w'.cell? ⟨(ad319.add ((x3_1).toNat * 4)).block, (ad319.add ((x3_1).toNat * 4)).off + 1, none⟩ = some (.int .i64 ((rd_T62 l0 x3_1).f1.f0)) ∧ w'.cell? ⟨(ad319.add ((x3_1).toNat * 4)).block, (ad319.add ((x3_1).toNat * 4)).off + 2, none⟩ = some (.int .i64 ((rd_T62 l0 x3_1).f1.f1)) ∧ w'.cell? ⟨(ad319.add ((x3_1).toNat * 4)).block, (ad319.add ((x3_1).toNat * 4)).off + 3, none⟩ = some (.string ((rd_T62 l0 x3_1).f1.f2)) ∧ w'.cell? (ad319.add ((x3_1).toNat * 4)) = some (.string ((rd_T62 l0 x3_1).f0)) ∧ w'.cell? ⟨(ad319.add ((x3_1).toNat * 4)).block, (ad319.add ((x3_1).toNat * 4)).off + 1, none⟩ = some (.int .i64 ((rd_T62 l0 x3_1).f1.f0)) ∧ w'.cell? ⟨(ad319.add ((x3_1).toNat * 4)).block, (ad319.add ((x3_1).toNat * 4)).off + 2, none⟩ = some (.int .i64 ((rd_T62 l0 x3_1).f1.f1)) ∧ w'.cell? ⟨(ad319.add ((x3_1).toNat * 4)).block, (ad319.add ((x3_1).toNat * 4)).off + 3, none⟩ = some (.string ((rd_T62 l0 x3_1).f1.f2))) (ds := []) (mk_ 35 0) (by kernel_rfl) rfl rfl ⟨(cl_ HB hw319_0), (cl_ HB hw319_1), (cl_ HB hw319_2), (cl_ HB hw319_3), (cl_ HB hw321_0), (cl_ HB hw321_1), (cl_ HB hw321_2), (cl_ HB hw321_3)⟩ (fun hHeld => ?_); refine with_tabW constableref01_Binds.tab6 constableref01_Binds.bits6 (fun HT_ HW_ => ?_)
                generalize wr.drew = w21 at HB hx319_0 hx319_1 hx319_2 hx319_3 hx321_0 hx321_1 hx321_2 hx321_3 hHeld ⊢
                refine pu_ 0 13 1 HT_ ?_; refine pu_ 1 14 3 HT_ ?_; refine pu_ 2 15 7 HT_ ?_; refine pu_ 3 16 15 HT_ ?_; refine tk_ 4 17 31 HT_ HW_ hHeld ?_
                refine one_ (i := 5) (N := some 18) (mk_ 35 63) rfl rfl (one_of HT_.out (by kernel_rfl)) (by decide) (fun K hK => ?_)
                refine goes_ Try.func45 (by kernel_rfl) rfl #[.string ((rd_T62 l0 x3_1).f0), .bool true] (by rfl) rfl rfl ga_ ?_
                with_reducible refine (constableref01_Word.calls k1 ((rd_T62 l0 x3_1).f0) true true _ A5.out).mono ?_
                rintro e w' ⟨rfl, ⟨nd, rfl⟩⟩
                refine ⟨_, rfl, ?_⟩
                refine hK.out _ _ ⟨(cl_ HB hw319_0), (cl_ HB hw319_1), (cl_ HB hw319_2), (cl_ HB hw319_3), (cl_ HB hw321_0), (cl_ HB hw321_1), (cl_ HB hw321_2), (cl_ HB hw321_3)⟩ (fun hHeld => ?_)
                clear hK K
                refine nm_ 18 ?_; refine pu_ 6 19 127 HT_ ?_; refine pu_ 7 20 255 HT_ ?_; refine pu_ 8 21 511 HT_ ?_; refine pu_ 9 22 1023 HT_ ?_; refine pu_ 10 23 2047 HT_ ?_; refine pu_ 11 24 4095 HT_ ?_; refine tk_ 12 25 8191 HT_ HW_ hHeld ?_
                refine one_ (i := 13) (N := some 26) (mk_ 35 16383) rfl rfl (one_of HT_.out (by kernel_rfl)) (by decide) (fun K hK => ?_)
                refine goes_ Try.func46 (by kernel_rfl) rfl #[.agg #[.int .i64 ((rd_T62 l0 x3_1).f1.f0), .int .i64 ((rd_T62 l0 x3_1).f1.f1), .string ((rd_T62 l0 x3_1).f1.f2)]] (by rfl) rfl rfl ga_ ?_
                with_reducible refine (constableref01_Value.calls k1 ((rd_T62 l0 x3_1).f1.f0) ((rd_T62 l0 x3_1).f1.f1) ((rd_T62 l0 x3_1).f1.f2) false _ A7.out).mono ?_
                rintro e w22 ⟨rfl, hb⟩
                refine ⟨_, rfl, ?_⟩
                have n0_ := bs_ (be_ HB) hb
                clear HB
                have HB := n0_
                clear n0_
                (try clear hb)
                (try clear hb2)
                (try clear hk)
                (try clear hi)
                refine hK.out _ _ ⟨(cl_ HB hw319_0), (cl_ HB hw319_1), (cl_ HB hw319_2), (cl_ HB hw319_3), (cl_ HB hw321_0), (cl_ HB hw321_1), (cl_ HB hw321_2), (cl_ HB hw321_3)⟩ (fun hHeld => ?_)
                clear hK K
                refine nm_ 26 ?_; refine pu_ 14 27 32767 HT_ ?_; refine pu_ 15 28 65535 HT_ ?_; refine pu_ 16 29 131071 HT_ ?_; refine pn_ 17 30 262143 HT_ ?_; refine pn_ 18 31 524287 HT_ ?_; refine pn_ 19 32 1048575 HT_ ?_; refine pn_ 20 33 2097151 HT_ ?_; refine pn_ 21 34 4194303 HT_ ?_; refine pn_ 22 35 8388607 HT_ ?_; refine pn_ 23 36 16777215 HT_ ?_; refine pn_ 24 37 33554431 HT_ ?_; refine pn_ 25 38 67108863 HT_ ?_; refine pn_ 26 39 134217727 HT_ ?_; refine pn_ 27 40 268435455 HT_ ?_; refine pn_ 28 41 536870911 HT_ ?_; refine pn_ 29 42 1073741823 HT_ ?_; refine pn_ 30 43 2147483647 HT_ ?_; refine pn_ 31 44 4294967295 HT_ ?_; refine pn_ 32 45 8589934591 HT_ ?_; refine pn_ 33 46 17179869183 HT_ ?_; refine pu_ 34 47 34359738367 HT_ ?_
                refine done_ (done_of HT_.out (by kernel_rfl)) ?_
                try go_wp2
                go_ret
                exact ⟨by first | rfl | (simp [errW_none, errW_some] <;> rfl) | (simp [*, errW_none, errW_some] <;> rfl), by repeat (first | (with_reducible first | exact HB.out | apply below_alloc | apply pw_below_drewN | apply below_drew1) | exact HB.out)⟩
            · replace c6 := Bool.eq_false_iff.mpr c6
              subst c6
              have H1 : (some false) = some r := by rw [if_neg (show ¬ (false = true) by decide)] at H; exact H
              clear H
              have H := H1
              clear H1
              obtain rfl := Option.some.inj H
              try go_wp2
              have n0_ := Aside0.mk (below_drew1 HB.out)
              clear HB
              have HB := n0_
              clear n0_
              have p319 : 0 ≤ (x3_1 : Int) := dt_
              have q319 : x3_1 < (l0.length : Int) := dt_
              obtain ⟨ad319, e319, hx319_0, hx319_1, hx319_2, hx319_3⟩ := at_T62 HR0.out x3_1 p319 q319
              have hw319_3 := hx319_3
              have hw319_2 := hx319_2
              have hw319_1 := hx319_1
              have hw319_0 := hx319_0
              cases e319
              replace hx319_0 := cm_ HB hx319_0
              replace hx319_1 := cm_ HB hx319_1
              replace hx319_2 := cm_ HB hx319_2
              replace hx319_3 := cm_ HB hx319_3
              replace p319 := eq_true p319
              replace q319 := eq_true q319
              refine start_ (n := 35) (S := fun w' => w'.cell? (ad319.add ((x3_1).toNat * 4)) = some (.string ((rd_T62 l0 x3_1).f0)) ∧ w'.cell? ⟨(ad319.add ((x3_1).toNat * 4)).block, (ad319.add ((x3_1).toNat * 4)).off + 1, none⟩ = some (.int .i64 ((rd_T62 l0 x3_1).f1.f0)) ∧ w'.cell? ⟨(ad319.add ((x3_1).toNat * 4)).block, (ad319.add ((x3_1).toNat * 4)).off + 2, none⟩ = some (.int .i64 ((rd_T62 l0 x3_1).f1.f1)) ∧ w'.cell? ⟨(ad319.add ((x3_1).toNat * 4)).block, (ad319.add ((x3_1).toNat * 4)).off + 3, none⟩ = some (.string ((rd_T62 l0 x3_1).f1.f2))) (ds := []) (mk_ 35 0) (by kernel_rfl) rfl rfl ⟨(cl_ HB hw319_0), (cl_ HB hw319_1), (cl_ HB hw319_2), (cl_ HB hw319_3)⟩ (fun hHeld => ?_); refine with_tabW constableref01_Binds.tab6 constableref01_Binds.bits6 (fun HT_ HW_ => ?_)
              generalize wr.drew = w23 at HB hx319_0 hx319_1 hx319_2 hx319_3 hHeld ⊢
              refine pu_ 0 13 1 HT_ ?_; refine pu_ 1 14 3 HT_ ?_; refine pu_ 2 15 7 HT_ ?_; refine pu_ 3 16 15 HT_ ?_; refine tk_ 4 17 31 HT_ HW_ hHeld ?_
              refine one_ (i := 5) (N := some 18) (mk_ 35 63) rfl rfl (one_of HT_.out (by kernel_rfl)) (by decide) (fun K hK => ?_)
              refine goes_ Try.func45 (by kernel_rfl) rfl #[.string ((rd_T62 l0 x3_1).f0), .bool true] (by rfl) rfl rfl ga_ ?_
              with_reducible refine (constableref01_Word.calls k1 ((rd_T62 l0 x3_1).f0) true false _ A5.out).mono ?_
              rintro e w' ⟨rfl, ⟨nd, rfl⟩⟩
              refine ⟨_, rfl, ?_⟩
              refine hK.out _ _ ⟨(cl_ HB hw319_0), (cl_ HB hw319_1), (cl_ HB hw319_2), (cl_ HB hw319_3)⟩ (fun hHeld => ?_)
              clear hK K
              refine nm_ 18 ?_; refine pu_ 6 19 127 HT_ ?_; refine pu_ 7 20 255 HT_ ?_; refine pn_ 8 21 511 HT_ ?_; refine pn_ 9 22 1023 HT_ ?_; refine pn_ 10 23 2047 HT_ ?_; refine pn_ 11 24 4095 HT_ ?_; refine pn_ 12 25 8191 HT_ ?_; refine pn_ 13 26 16383 HT_ ?_; refine pn_ 14 27 32767 HT_ ?_; refine pu_ 15 28 65535 HT_ ?_; refine pu_ 16 29 131071 HT_ ?_; refine pn_ 17 30 262143 HT_ ?_; refine pn_ 18 31 524287 HT_ ?_; refine pn_ 19 32 1048575 HT_ ?_; refine pn_ 20 33 2097151 HT_ ?_; refine pn_ 21 34 4194303 HT_ ?_; refine pn_ 22 35 8388607 HT_ ?_; refine pn_ 23 36 16777215 HT_ ?_; refine pn_ 24 37 33554431 HT_ ?_; refine pn_ 25 38 67108863 HT_ ?_; refine pn_ 26 39 134217727 HT_ ?_; refine pn_ 27 40 268435455 HT_ ?_; refine pn_ 28 41 536870911 HT_ ?_; refine pn_ 29 42 1073741823 HT_ ?_; refine pn_ 30 43 2147483647 HT_ ?_; refine pn_ 31 44 4294967295 HT_ ?_; refine pn_ 32 45 8589934591 HT_ ?_; refine pn_ 33 46 17179869183 HT_ ?_; refine pu_ 34 47 34359738367 HT_ ?_
              refine done_ (done_of HT_.out (by kernel_rfl)) ?_
              try go_wp2
              go_ret
              exact ⟨by first | rfl | (simp [errW_none, errW_some] <;> rfl) | (simp [*, errW_none, errW_some] <;> rfl), by repeat (first | (with_reducible first | exact HB.out | apply below_alloc | apply pw_below_drewN | apply below_drew1) | exact HB.out)⟩
          · rw [if_neg c4] at H
            exact absurd H (by simp)
        · rw [if_neg c3] at H
          have c3b0 : decide (x3_1 < (l0.length : Int)) = false := decide_eq_false c3
          clear c3
          obtain rfl := Option.some.inj H
          go_wp2
          go_ret
          exact ⟨by first | rfl | (simp [errW_none, errW_some] <;> rfl) | (simp [*, errW_none, errW_some] <;> rfl), by repeat (first | (with_reducible first | exact HB.out | apply below_alloc | apply pw_below_drewN | apply below_drew1) | exact HB.out)⟩
end Go.Proofs.Ytconpnagoijacaa.P
end
section
namespace Go.Proofs.Ytconpnagoijacaa.P
open Go.RowKit Go.Proofs.YtconpnagoijacaaW.PrintWords Go.Proofs.YtconpnagoijacaaW.PrintLast Go.Proofs.YtconpnagoijacaaW.PrintMore
attribute [local go_sem] max2_int min2_int max_two min_two max_three min_three max_four min_four
set_option linter.unusedVariables false
set_option linter.unusedSimpArgs false
def constableref01_Get.l0 : Nat → List (S62) → ByteArray → Int → Option (Int × Int × ByteArray × Bool)
  | 0, _, _, _ => none
  | k + 1, x0, x1, x6 => if x6 < (x0.length : Int) then (if 0 ≤ x6 then (if ((rd_T62 x0 x6).f0).toList = x1.toList then (some ((rd_T62 x0 x6).f1.f0, (rd_T62 x0 x6).f1.f1, (rd_T62 x0 x6).f1.f2, true)) else (constableref01_Get.l0 k x0 x1 (wrap64 (x6 + 1)))) else (none)) else (some (0, 0, (⟨#[]⟩ : ByteArray), false))
def constableref01_Get.f (k : Nat) (l0 : List (S62)) (a1 : ByteArray) : Option (Int × Int × ByteArray × Bool) := constableref01_Get.l0 k l0 a1 0
theorem constableref01_Get.mono_l : ∀ k, (∀ y0 y1 y2, LeO (constableref01_Get.l0 k y0 y1 y2) (constableref01_Get.l0 (k + 1) y0 y1 y2))
  | 0 => fun _ _ _ r h => by simp [constableref01_Get.l0] at h
  | k + 1 => by
    have ih0 := constableref01_Get.mono_l k
    · intro y0 y1 y2
      unfold constableref01_Get.l0
      repeat' first
      | (with_reducible exact ih0 _ _ _)
      | (with_reducible exact LeO.refl _)
      | (with_reducible exact LeO.none _)
      | (with_reducible refine LeO.ite ?_ ?_)
      | (with_reducible refine LeO.bind ?_ (fun _ => ?_))
      | exact ih0 _ _ _
      | exact LeO.none _
      | refine LeO.ite ?_ ?_
      | refine LeO.bind ?_ (fun _ => ?_)
theorem constableref01_Get.mono : ∀ a0 a1 k, LeO (constableref01_Get.f k a0 a1) (constableref01_Get.f (k + 1) a0 a1) := by
  intro a0 a1 k
  have ih0 := constableref01_Get.mono_l k
  unfold constableref01_Get.f
  repeat' first
      | (with_reducible exact ih0 _ _ _)
      | (with_reducible exact LeO.refl _)
      | (with_reducible exact LeO.none _)
      | (with_reducible refine LeO.ite ?_ ?_)
      | (with_reducible refine LeO.bind ?_ (fun _ => ?_))
      | exact ih0 _ _ _
      | exact LeO.none _
      | refine LeO.ite ?_ ?_
      | refine LeO.bind ?_ (fun _ => ?_)
set_option maxHeartbeats 8000000 in
set_option maxRecDepth 100000 in
theorem constableref01_Get.calls (k : Nat) (A0 : Option Addr) (c0 : Nat) (l0 : List (S62)) (a1 : ByteArray) (r1 : Int) (r2 : Int) (r3 : ByteArray) (r4 : Bool) (w : World) (hr0 : Kd.C k62 w A0 l0.length l0) (hc0 : l0.length ≤ c0) (h : constableref01_Get.f k l0 a1 = some (r1, r2, r3, r4)) :
    Calls Try.prog 34 #[.slice A0 l0.length c0, .string a1] w fun e w' => e = .returned (.tuple #[.agg #[.int .i64 r1, .int .i64 r2, .string r3], .bool r4]) ∧ Below w.heap.size w w' := by
  have hu40 := Try.underlying40
  have HR0 := Aside0.mk hr0
  have HC0 := Aside0.mk hc0
  clear hr0 hc0
  have HB := Aside0.mk (Below.refl w.heap.size w)
  have H : (constableref01_Get.l0 k l0 a1 0) = some (r1, r2, r3, r4) := h
  clear h
  have H' := Aside0.mk H
  clear H
  go_enter Try.func34, Try.ntmps34
  go_wp2_with (first | ((with_reducible refine gate_dst (N := 4) rfl ?_); refine box_event ?hg (N := 4) ?hd (cs := #[.int .i64 0, .int .i64 0, .string (⟨#[]⟩ : ByteArray)]) (t := 40) ?hr ?_; (case hd => rfl); (case hg => rfl); (case hr => first | (go_simp; done) | (go_simp; rfl)); intro gb350 hg w3 hbox hb; have n0_ := bs_ (be_ HB) hb; have n1_ := Aside0.mk (hbox); have n2_ := gs_ hg (be_ HB); have n3_ := gs_ hg (be_ HB); clear HB; have HB := n0_; have BK350 := n1_; have GW350 := n2_; have GE350 := n3_; clear n0_ n1_ n2_ n3_; clear hb hbox hg))
  go_loopg [6] k (fun kq v6 w' => ∃ (x6_1 : Int) (x351000_1 : Int) (x351001_1 : Int) (x351002_1 : ByteArray), v6 = .int .i64 x6_1 ∧ Aside0 (constableref01_Get.l0 kq l0 a1 x6_1 = some (r1, r2, r3, r4)) ∧ Aside0 (kq ≤ k) ∧ Aside0 (w'.heap[gb350]? = some (.cells #[.int .i64 x351000_1, .int .i64 x351001_1, .string x351002_1] 40 (0, 0))) ∧ Aside0 (Below w.heap.size w w'))
  case atStart => exact ⟨(0), (0), (0), ((⟨#[]⟩ : ByteArray)), ra_, H', ⟨Nat.le_refl _⟩, ⟨by (with_reducible repeat (first | refine blk_drewN ?_ _ | refine blk_drew ?_ | refine blk_alloc ?_ _)); exact BK350.out⟩, ⟨by repeat (first | (with_reducible first | exact HB.out | apply below_alloc | apply pw_below_drewN | apply below_drew1 | refine below_set ?_ GE350.out) | exact HB.out)⟩⟩
  case round =>
    clear H'
    try clear p2
    try clear c3
    obtain ⟨x6_1, x351000_1, x351001_1, x351002_1, rfl, HA, HK1, BK350, HB⟩ := hrel
    cases gk with
    | zero => exact absurd HA.out (by simp [constableref01_Get.l0])
    | succ k1 =>
      have H := HA.out
      clear HA
      simp only [constableref01_Get.l0] at H
      by_cases c4 : x6_1 < (l0.length : Int)
      · rw [if_pos c4] at H
        have c4b0 : decide (x6_1 < (l0.length : Int)) = true := decide_eq_true c4
        clear c4
        by_cases c5 : 0 ≤ x6_1
        · rw [if_pos c5] at H
          have c5b0 : decide (0 ≤ x6_1) = true := decide_eq_true c5
          clear c5
          by_cases c6 : ((rd_T62 l0 x6_1).f0).toList = a1.toList
          · rw [if_pos c6] at H
            obtain ⟨c6b0, c6b1⟩ := eqB_ c6
            clear c6
            simp only [Option.some.injEq, Prod.mk.injEq] at H
            obtain ⟨rfl, rfl, rfl, rfl⟩ := H
            have p351 : 0 ≤ (x6_1 : Int) := dt_
            have q351 : x6_1 < (l0.length : Int) := dt_
            obtain ⟨ad351, e351, hx351_0, hx351_1, hx351_2, hx351_3⟩ := at_T62 HR0.out x6_1 p351 q351
            cases e351
            replace hx351_0 := cm_ HB hx351_0
            replace hx351_1 := cm_ HB hx351_1
            replace hx351_2 := cm_ HB hx351_2
            replace hx351_3 := cm_ HB hx351_3
            replace p351 := eq_true p351
            replace q351 := eq_true q351
            have p352 : 0 ≤ (x6_1 : Int) := dt_
            have q352 : x6_1 < (l0.length : Int) := dt_
            obtain ⟨ad352, e352, hx352_0, hx352_1, hx352_2, hx352_3⟩ := at_T62 HR0.out x6_1 p352 q352
            obtain rfl : ad351 = ad352 := (by injection e352)
            replace hx352_0 := cm_ HB hx352_0
            replace hx352_1 := cm_ HB hx352_1
            replace hx352_2 := cm_ HB hx352_2
            replace hx352_3 := cm_ HB hx352_3
            replace p352 := eq_true p352
            replace q352 := eq_true q352
            have hcz7_0 : wr.cell? ⟨gb350, 0, none⟩ = some (.int .i64 x351000_1) := (blk_cell BK350.out 0).trans rfl
            have hcz7_1 : wr.cell? ⟨gb350, 1, none⟩ = some (.int .i64 x351001_1) := (blk_cell BK350.out 1).trans rfl
            have hcz7_2 : wr.cell? ⟨gb350, 2, none⟩ = some (.string x351002_1) := (blk_cell BK350.out 2).trans rfl
            have hfz7_0 := blk_frozen BK350.out 0
            have hfz7_1 := blk_frozen BK350.out 1
            have hfz7_2 := blk_frozen BK350.out 2
            go_wp2
            refine bodyPost_ret (results_ct rfl _ _ gb350 40 #[.int .i64 ((rd_T62 l0 x6_1).f1.f0), .int .i64 ((rd_T62 l0 x6_1).f1.f1), .string ((rd_T62 l0 x6_1).f1.f2)] (0, 0) _ rfl (bp_ BK350) Try.underlying40 rfl (by kernel_rfl)) rfl ?_
            exact ⟨by first | rfl | (simp [errW_none, errW_some] <;> rfl) | (simp [*, errW_none, errW_some] <;> rfl), by repeat (first | (with_reducible first | exact HB.out | apply below_alloc | apply pw_below_drewN | apply below_drew1 | refine below_set ?_ GE350.out) | exact HB.out)⟩
          · rw [if_neg c6] at H
            obtain ⟨c6b0, c6b1⟩ := neB_ c6
            have H' := Aside0.mk H
            clear H
            have p351 : 0 ≤ (x6_1 : Int) := dt_
            have q351 : x6_1 < (l0.length : Int) := dt_
            obtain ⟨ad351, e351, hx351_0, hx351_1, hx351_2, hx351_3⟩ := at_T62 HR0.out x6_1 p351 q351
            cases e351
            replace hx351_0 := cm_ HB hx351_0
            replace hx351_1 := cm_ HB hx351_1
            replace hx351_2 := cm_ HB hx351_2
            replace hx351_3 := cm_ HB hx351_3
            replace p351 := eq_true p351
            replace q351 := eq_true q351
            go_wp2
            go_roundg k1
            case measure => have := HK1.out; omega
            case rel => exact ⟨(wrap64 (x6_1 + 1)), (x351000_1), (x351001_1), (x351002_1), ra_, H', ⟨by have := HK1.out; omega⟩, ⟨by (with_reducible repeat (first | refine blk_drewN ?_ _ | refine blk_drew ?_ | refine blk_alloc ?_ _)); exact BK350.out⟩, ⟨by repeat (first | (with_reducible first | exact HB.out | apply below_alloc | apply pw_below_drewN | apply below_drew1 | refine below_set ?_ GE350.out) | exact HB.out)⟩⟩
        · rw [if_neg c5] at H
          exact absurd H (by simp)
      · rw [if_neg c4] at H
        have c4b0 : decide (x6_1 < (l0.length : Int)) = false := decide_eq_false c4
        clear c4
        simp only [Option.some.injEq, Prod.mk.injEq] at H
        obtain ⟨rfl, rfl, rfl, rfl⟩ := H
        have hcz8_0 : wr.cell? ⟨gb350, 0, none⟩ = some (.int .i64 x351000_1) := (blk_cell BK350.out 0).trans rfl
        have hcz8_1 : wr.cell? ⟨gb350, 1, none⟩ = some (.int .i64 x351001_1) := (blk_cell BK350.out 1).trans rfl
        have hcz8_2 : wr.cell? ⟨gb350, 2, none⟩ = some (.string x351002_1) := (blk_cell BK350.out 2).trans rfl
        have hfz8_0 := blk_frozen BK350.out 0
        have hfz8_1 := blk_frozen BK350.out 1
        have hfz8_2 := blk_frozen BK350.out 2
        go_wp2
        refine bodyPost_ret (results_ct rfl _ _ gb350 40 #[.int .i64 0, .int .i64 0, .string (⟨#[]⟩ : ByteArray)] (0, 0) _ rfl (bp_ BK350) Try.underlying40 rfl (by kernel_rfl)) rfl ?_
        exact ⟨by first | rfl | (simp [errW_none, errW_some] <;> rfl) | (simp [*, errW_none, errW_some] <;> rfl), by repeat (first | (with_reducible first | exact HB.out | apply below_alloc | apply pw_below_drewN | apply below_drew1 | refine below_set ?_ GE350.out) | exact HB.out)⟩
end Go.Proofs.Ytconpnagoijacaa.P
end
section
namespace Go.Proofs.Ytconpnagoijacaa.P
open Go.RowKit Go.Proofs.YtconpnagoijacaaW.PrintWords Go.Proofs.YtconpnagoijacaaW.PrintLast Go.Proofs.YtconpnagoijacaaW.PrintMore
attribute [local go_sem] max2_int min2_int max_two min_two max_three min_three max_four min_four
set_option linter.unusedVariables false
set_option linter.unusedSimpArgs false
mutual
def constableref01_Do.j0 : Nat → Int → Int → Int → Bool → Option (Int × Int)
  | 0, _, _, _, _ => none
  | k + 1, x0, x1, x2, x17 => if x17 = true then (some (0, 3)) else ((constableref01_In.f x1 (-4611686018427387904) 4611686018427387904).bind fun t113 => (if t113 = true then ((constableref01_In.f x2 (-4611686018427387904) 4611686018427387904).bind fun t114 => (constableref01_Do.j1 k x0 x1 x2 (!t114))) else (constableref01_Do.j1 k x0 x1 x2 true)))
def constableref01_Do.j1 : Nat → Int → Int → Int → Bool → Option (Int × Int)
  | 0, _, _, _, _ => none
  | k + 1, x0, x1, x2, x25 => if x25 = true then (some (0, 4)) else (if x0 = 4 then (constableref01_Do.j2 k x0 x1 x2 (x0 == 4)) else (constableref01_Do.j2 k x0 x1 x2 (x0 == 3)))
def constableref01_Do.j2 : Nat → Int → Int → Int → Bool → Option (Int × Int)
  | 0, _, _, _, _ => none
  | k + 1, x0, x1, x2, x27 => if x27 = true then (if x0 = 4 then (constableref01_Do.j3 k x1 (wrap64 (-x2))) else (constableref01_Do.j3 k x1 x2)) else (if x1 = 0 then (some (wrap64 (x1 * x2), 0)) else (if x2 = 0 then (some (wrap64 (x1 * x2), 0)) else (if (mx x2 (wrap64 (-x2))) = 0 then (none) else (if (mx x1 (wrap64 (-x1))) > (wrap64 (Int.tdiv (4611686018427387904 : Int) (mx x2 (wrap64 (-x2))))) then (some (0, 4)) else (some (wrap64 (x1 * x2), 0))))))
def constableref01_Do.j3 : Nat → Int → Int → Option (Int × Int)
  | 0, _, _ => none
  | k + 1, x1, x2 => if x2 > 0 then (if x1 > (wrap64 (4611686018427387904 - x2)) then (constableref01_Do.j4 k x1 x2 true) else (if x2 < 0 then (constableref01_Do.j4 k x1 x2 (decide (x1 < (wrap64 ((-4611686018427387904) - x2))))) else (constableref01_Do.j4 k x1 x2 false))) else (if x2 < 0 then (constableref01_Do.j4 k x1 x2 (decide (x1 < (wrap64 ((-4611686018427387904) - x2))))) else (constableref01_Do.j4 k x1 x2 false))
def constableref01_Do.j4 : Nat → Int → Int → Bool → Option (Int × Int)
  | 0, _, _, _ => none
  | k + 1, x1, x2, x51 => if x51 = true then (some (0, 4)) else (some (wrap64 (x1 + x2), 0))
end
def constableref01_Do.f (k : Nat) (a0 : Int) (a1 : Int) (a2 : Int) : Option (Int × Int) := if a0 = 3 then (constableref01_Do.j0 k a0 a1 a2 false) else (if a0 = 4 then (constableref01_Do.j0 k a0 a1 a2 false) else (constableref01_Do.j0 k a0 a1 a2 (a0 != 5)))
theorem constableref01_Do.mono_l : ∀ k, (∀ y0 y1 y2 y3, LeO (constableref01_Do.j0 k y0 y1 y2 y3) (constableref01_Do.j0 (k + 1) y0 y1 y2 y3)) ∧ (∀ y0 y1 y2 y3, LeO (constableref01_Do.j1 k y0 y1 y2 y3) (constableref01_Do.j1 (k + 1) y0 y1 y2 y3)) ∧ (∀ y0 y1 y2 y3, LeO (constableref01_Do.j2 k y0 y1 y2 y3) (constableref01_Do.j2 (k + 1) y0 y1 y2 y3)) ∧ (∀ y0 y1, LeO (constableref01_Do.j3 k y0 y1) (constableref01_Do.j3 (k + 1) y0 y1)) ∧ (∀ y0 y1 y2, LeO (constableref01_Do.j4 k y0 y1 y2) (constableref01_Do.j4 (k + 1) y0 y1 y2))
  | 0 => ⟨fun _ _ _ _ r h => by simp [constableref01_Do.j0] at h, fun _ _ _ _ r h => by simp [constableref01_Do.j1] at h, fun _ _ _ _ r h => by simp [constableref01_Do.j2] at h, fun _ _ r h => by simp [constableref01_Do.j3] at h, fun _ _ _ r h => by simp [constableref01_Do.j4] at h⟩
  | k + 1 => by
    obtain ⟨ih0, ih1, ih2, ih3, ih4⟩ := constableref01_Do.mono_l k
    refine ⟨?_, ?_, ?_, ?_, ?_⟩
    · intro y0 y1 y2 y3
      unfold constableref01_Do.j0
      repeat' first
      | (with_reducible exact ih0 _ _ _ _)
      | (with_reducible exact ih1 _ _ _ _)
      | (with_reducible exact ih2 _ _ _ _)
      | (with_reducible exact ih3 _ _)
      | (with_reducible exact ih4 _ _ _)
      | (with_reducible exact LeO.refl _)
      | (with_reducible exact LeO.none _)
      | (with_reducible refine LeO.ite ?_ ?_)
      | (with_reducible refine LeO.bind ?_ (fun _ => ?_))
      | exact ih0 _ _ _ _
      | exact ih1 _ _ _ _
      | exact ih2 _ _ _ _
      | exact ih3 _ _
      | exact ih4 _ _ _
      | exact LeO.none _
      | refine LeO.ite ?_ ?_
      | refine LeO.bind ?_ (fun _ => ?_)
    · intro y0 y1 y2 y3
      unfold constableref01_Do.j1
      repeat' first
      | (with_reducible exact ih0 _ _ _ _)
      | (with_reducible exact ih1 _ _ _ _)
      | (with_reducible exact ih2 _ _ _ _)
      | (with_reducible exact ih3 _ _)
      | (with_reducible exact ih4 _ _ _)
      | (with_reducible exact LeO.refl _)
      | (with_reducible exact LeO.none _)
      | (with_reducible refine LeO.ite ?_ ?_)
      | (with_reducible refine LeO.bind ?_ (fun _ => ?_))
      | exact ih0 _ _ _ _
      | exact ih1 _ _ _ _
      | exact ih2 _ _ _ _
      | exact ih3 _ _
      | exact ih4 _ _ _
      | exact LeO.none _
      | refine LeO.ite ?_ ?_
      | refine LeO.bind ?_ (fun _ => ?_)
    · intro y0 y1 y2 y3
      unfold constableref01_Do.j2
      repeat' first
      | (with_reducible exact ih0 _ _ _ _)
      | (with_reducible exact ih1 _ _ _ _)
      | (with_reducible exact ih2 _ _ _ _)
      | (with_reducible exact ih3 _ _)
      | (with_reducible exact ih4 _ _ _)
      | (with_reducible exact LeO.refl _)
      | (with_reducible exact LeO.none _)
      | (with_reducible refine LeO.ite ?_ ?_)
      | (with_reducible refine LeO.bind ?_ (fun _ => ?_))
      | exact ih0 _ _ _ _
      | exact ih1 _ _ _ _
      | exact ih2 _ _ _ _
      | exact ih3 _ _
      | exact ih4 _ _ _
      | exact LeO.none _
      | refine LeO.ite ?_ ?_
      | refine LeO.bind ?_ (fun _ => ?_)
    · intro y0 y1
      unfold constableref01_Do.j3
      repeat' first
      | (with_reducible exact ih0 _ _ _ _)
      | (with_reducible exact ih1 _ _ _ _)
      | (with_reducible exact ih2 _ _ _ _)
      | (with_reducible exact ih3 _ _)
      | (with_reducible exact ih4 _ _ _)
      | (with_reducible exact LeO.refl _)
      | (with_reducible exact LeO.none _)
      | (with_reducible refine LeO.ite ?_ ?_)
      | (with_reducible refine LeO.bind ?_ (fun _ => ?_))
      | exact ih0 _ _ _ _
      | exact ih1 _ _ _ _
      | exact ih2 _ _ _ _
      | exact ih3 _ _
      | exact ih4 _ _ _
      | exact LeO.none _
      | refine LeO.ite ?_ ?_
      | refine LeO.bind ?_ (fun _ => ?_)
    · intro y0 y1 y2
      unfold constableref01_Do.j4
      repeat' first
      | (with_reducible exact ih0 _ _ _ _)
      | (with_reducible exact ih1 _ _ _ _)
      | (with_reducible exact ih2 _ _ _ _)
      | (with_reducible exact ih3 _ _)
      | (with_reducible exact ih4 _ _ _)
      | (with_reducible exact LeO.refl _)
      | (with_reducible exact LeO.none _)
      | (with_reducible refine LeO.ite ?_ ?_)
      | (with_reducible refine LeO.bind ?_ (fun _ => ?_))
      | exact ih0 _ _ _ _
      | exact ih1 _ _ _ _
      | exact ih2 _ _ _ _
      | exact ih3 _ _
      | exact ih4 _ _ _
      | exact LeO.none _
      | refine LeO.ite ?_ ?_
      | refine LeO.bind ?_ (fun _ => ?_)
theorem constableref01_Do.mono : ∀ a0 a1 a2 k, LeO (constableref01_Do.f k a0 a1 a2) (constableref01_Do.f (k + 1) a0 a1 a2) := by
  intro a0 a1 a2 k
  obtain ⟨ih0, ih1, ih2, ih3, ih4⟩ := constableref01_Do.mono_l k
  unfold constableref01_Do.f
  repeat' first
      | (with_reducible exact ih0 _ _ _ _)
      | (with_reducible exact ih1 _ _ _ _)
      | (with_reducible exact ih2 _ _ _ _)
      | (with_reducible exact ih3 _ _)
      | (with_reducible exact ih4 _ _ _)
      | (with_reducible exact LeO.refl _)
      | (with_reducible exact LeO.none _)
      | (with_reducible refine LeO.ite ?_ ?_)
      | (with_reducible refine LeO.bind ?_ (fun _ => ?_))
      | exact ih0 _ _ _ _
      | exact ih1 _ _ _ _
      | exact ih2 _ _ _ _
      | exact ih3 _ _
      | exact ih4 _ _ _
      | exact LeO.none _
      | refine LeO.ite ?_ ?_
      | refine LeO.bind ?_ (fun _ => ?_)
set_option maxHeartbeats 8000000 in
set_option maxRecDepth 100000 in
theorem constableref01_Do.calls (k : Nat) (a0 : Int) (a1 : Int) (a2 : Int) (r1 : Int) (r2 : Int) (w : World) (h : constableref01_Do.f k a0 a1 a2 = some (r1, r2)) :
    Calls Try.prog 14 #[.int .i64 a0, .int .i64 a1, .int .i64 a2] w fun e w' => e = .returned (.tuple #[.int .i64 r1, .int .i64 r2]) ∧ Below w.heap.size w w' := by
  have HB := Aside0.mk (Below.refl w.heap.size w)
  have H : (if a0 = 3 then (constableref01_Do.j0 k a0 a1 a2 false) else (if a0 = 4 then (constableref01_Do.j0 k a0 a1 a2 false) else (constableref01_Do.j0 k a0 a1 a2 (a0 != 5)))) = some (r1, r2) := h
  clear h
  have HC4 := Aside0.mk H
  clear H
  go_enter Try.func14, Try.ntmps14
  go_upto_region 1 with (fail)
  go_cut [17] (fun v17 wc => ∃ (kq : Nat) (x17_3 : Bool), v17 = .bool x17_3 ∧ Aside0 (constableref01_Do.j0 kq a0 a1 a2 x17_3 = some (r1, r2)) ∧ Aside0 (kq ≤ k) ∧ Aside0 (Below w.heap.size w wc))
  case first =>
    have H := HC4.out
    clear HC4
    by_cases c5 : a0 = 3
    · rw [if_pos c5] at H
      obtain ⟨c5b0, c5b1⟩ := eqB_ c5
      clear c5
      (first | rw [c5b0] | (simp only [i64_w, i32_w]; rw [c5b0]) | skip)
      have H' := Aside0.mk H
      clear H
      go_wp2
      go_meet
      case rel => exact ⟨_, (false), ra_, H', ⟨by first | omega | exact Nat.le_refl _⟩, ⟨by repeat (first | (with_reducible first | exact HB.out | apply below_alloc | apply pw_below_drewN | apply below_drew1) | exact HB.out)⟩⟩
    · rw [if_neg c5] at H
      obtain ⟨c5b0, c5b1⟩ := neB_ c5
      (first | rw [c5b0] | (simp only [i64_w, i32_w]; rw [c5b0]) | skip)
      by_cases c6 : a0 = 4
      · rw [if_pos c6] at H
        obtain ⟨c6b0, c6b1⟩ := eqB_ c6
        clear c6
        have H' := Aside0.mk H
        clear H
        go_wp2
        go_meet
        case rel => exact ⟨_, (false), ra_, H', ⟨by first | omega | exact Nat.le_refl _⟩, ⟨by repeat (first | (with_reducible first | exact HB.out | apply below_alloc | apply pw_below_drewN | apply below_drew1) | exact HB.out)⟩⟩
      · rw [if_neg c6] at H
        obtain ⟨c6b0, c6b1⟩ := neB_ c6
        have H' := Aside0.mk H
        clear H
        go_wp2
        go_meet
        case rel => exact ⟨_, ((a0 != 5)), ra_, H', ⟨by first | omega | exact Nat.le_refl _⟩, ⟨by repeat (first | (with_reducible first | exact HB.out | apply below_alloc | apply pw_below_drewN | apply below_drew1) | exact HB.out)⟩⟩
  case rest =>
    clear HC4
    try clear c1
    try clear p2
    try clear c5
    try clear c5b0
    try clear c5b1
    try clear c6
    try clear c6b0
    try clear c6b1
    obtain ⟨kq, x17_3, rfl, HA, HJ3, HB⟩ := hcut
    cases kq with
    | zero => exact absurd HA.out (by simp [constableref01_Do.j0])
    | succ kj3 =>
      have H := HA.out
      clear HA
      simp only [constableref01_Do.j0] at H
      by_cases c7 : x17_3 = true
      · subst c7
        have H1 : (some (0, 3)) = some (r1, r2) := by rw [if_pos rfl] at H; exact H
        clear H
        have H := H1
        clear H1
        simp only [Option.some.injEq, Prod.mk.injEq] at H
        obtain ⟨rfl, rfl⟩ := H
        go_wp2
        go_ret2
        exact ⟨by first | rfl | (simp [errW_none, errW_some] <;> rfl) | (simp [*, errW_none, errW_some] <;> rfl), by repeat (first | (with_reducible first | exact HB.out | apply below_alloc | apply pw_below_drewN | apply below_drew1) | exact HB.out)⟩
      · replace c7 := Bool.eq_false_iff.mpr c7
        subst c7
        have H1 : ((constableref01_In.f a1 (-4611686018427387904) 4611686018427387904).bind fun t113 => (if t113 = true then ((constableref01_In.f a2 (-4611686018427387904) 4611686018427387904).bind fun t114 => (constableref01_Do.j1 kj3 a0 a1 a2 (!t114))) else (constableref01_Do.j1 kj3 a0 a1 a2 true))) = some (r1, r2) := by rw [if_neg (show ¬ (false = true) by decide)] at H; exact H
        clear H
        have H := H1
        clear H1
        have HC8 := Aside0.mk H
        clear H
        go_upto_region 3 with (fail)
        go_cut [25] (fun v25 wc => ∃ (kq : Nat) (x25_7 : Bool), v25 = .bool x25_7 ∧ Aside0 (constableref01_Do.j1 kq a0 a1 a2 x25_7 = some (r1, r2)) ∧ Aside0 (kq ≤ kj3) ∧ Aside0 (Below w.heap.size w wc))
        case first =>
          have H := HC8.out
          clear HC8
          replace H := Option.bind_eq_some_iff.mp H
          obtain ⟨t113, A90, H⟩ := H
          replace H : (if t113 = true then ((constableref01_In.f a2 (-4611686018427387904) 4611686018427387904).bind fun t114 => (constableref01_Do.j1 kj3 a0 a1 a2 (!t114))) else (constableref01_Do.j1 kj3 a0 a1 a2 true)) = some (r1, r2) := H
          have A9 := Aside0.mk A90
          clear A90
          by_cases c10 : t113 = true
          · subst c10
            have H1 : ((constableref01_In.f a2 (-4611686018427387904) 4611686018427387904).bind fun t114 => (constableref01_Do.j1 kj3 a0 a1 a2 (!t114))) = some (r1, r2) := by rw [if_pos rfl] at H; exact H
            clear H
            have H := H1
            clear H1
            replace H := Option.bind_eq_some_iff.mp H
            obtain ⟨t114, A110, H⟩ := H
            replace H : (constableref01_Do.j1 kj3 a0 a1 a2 (!t114)) = some (r1, r2) := H
            have A11 := Aside0.mk A110
            clear A110
            have H' := Aside0.mk H
            clear H
            go_wp2_with (first | ((with_reducible refine gate_callee (f := 38) rfl ?_); refine goesL_ (some 19) rfl rfl Try.func38 (by kernel_rfl) rfl #[.int .i64 a1, .int .i64 (-4611686018427387904), .int .i64 4611686018427387904] rfl ga_ ?_; (with_reducible refine (constableref01_In.calls a1 (-4611686018427387904) 4611686018427387904 true _ A9.out).mono ?_); rintro e w' ⟨rfl, ⟨nd, rfl⟩⟩; refine ⟨_, rfl, ?_⟩) | (go_at_call 38; (with_reducible refine (constableref01_In.calls a2 (-4611686018427387904) 4611686018427387904 t114 _ A11.out).mono ?_); rintro e w' ⟨rfl, ⟨nd, rfl⟩⟩))
            go_meet
            case rel => exact ⟨_, (!t114), ra_, H', ⟨by have := HJ3.out; first | omega | exact Nat.le_refl _⟩, ⟨by repeat (first | (with_reducible first | exact HB.out | apply below_alloc | apply pw_below_drewN | apply below_drew1) | exact HB.out)⟩⟩
          · replace c10 := Bool.eq_false_iff.mpr c10
            subst c10
            have H1 : (constableref01_Do.j1 kj3 a0 a1 a2 true) = some (r1, r2) := by rw [if_neg (show ¬ (false = true) by decide)] at H; exact H
            clear H
            have H := H1
            clear H1
            have H' := Aside0.mk H
            clear H
            go_wp2_with (first | ((with_reducible refine gate_callee (f := 38) rfl ?_); refine goesL_ (some 19) rfl rfl Try.func38 (by kernel_rfl) rfl #[.int .i64 a1, .int .i64 (-4611686018427387904), .int .i64 4611686018427387904] rfl ga_ ?_; (with_reducible refine (constableref01_In.calls a1 (-4611686018427387904) 4611686018427387904 false _ A9.out).mono ?_); rintro e w' ⟨rfl, ⟨nd, rfl⟩⟩; refine ⟨_, rfl, ?_⟩))
            go_meet
            case rel => exact ⟨_, (true), ra_, H', ⟨by have := HJ3.out; first | omega | exact Nat.le_refl _⟩, ⟨by repeat (first | (with_reducible first | exact HB.out | apply below_alloc | apply pw_below_drewN | apply below_drew1) | exact HB.out)⟩⟩
        case rest =>
          clear HC8
          try clear c1
          try clear p2
          try clear c3
          try clear c5
          try clear c5b0
          try clear c5b1
          try clear c6
          try clear c6b0
          try clear c6b1
          try clear c7
          try clear c10
          try clear p2
          obtain ⟨kq, x25_7, rfl, HA, HJ7, HB⟩ := hcut
          cases kq with
          | zero => exact absurd HA.out (by simp [constableref01_Do.j1])
          | succ kj7 =>
            have H := HA.out
            clear HA
            simp only [constableref01_Do.j1] at H
            by_cases c12 : x25_7 = true
            · subst c12
              have H1 : (some (0, 4)) = some (r1, r2) := by rw [if_pos rfl] at H; exact H
              clear H
              have H := H1
              clear H1
              simp only [Option.some.injEq, Prod.mk.injEq] at H
              obtain ⟨rfl, rfl⟩ := H
              go_wp2
              go_ret2
              exact ⟨by first | rfl | (simp [errW_none, errW_some] <;> rfl) | (simp [*, errW_none, errW_some] <;> rfl), by repeat (first | (with_reducible first | exact HB.out | apply below_alloc | apply pw_below_drewN | apply below_drew1) | exact HB.out)⟩
            · replace c12 := Bool.eq_false_iff.mpr c12
              subst c12
              have H1 : (if a0 = 4 then (constableref01_Do.j2 kj7 a0 a1 a2 (a0 == 4)) else (constableref01_Do.j2 kj7 a0 a1 a2 (a0 == 3))) = some (r1, r2) := by rw [if_neg (show ¬ (false = true) by decide)] at H; exact H
              clear H
              have H := H1
              clear H1
              have HC13 := Aside0.mk H
              clear H
              go_upto_if 27 with (fail)
              go_cut [27] (fun v27 wc => ∃ (kq : Nat) (x27_12 : Bool), v27 = .bool x27_12 ∧ Aside0 (constableref01_Do.j2 kq a0 a1 a2 x27_12 = some (r1, r2)) ∧ Aside0 (kq ≤ kj7) ∧ Aside0 (Below w.heap.size w wc))
              case first =>
                have H := HC13.out
                clear HC13
                by_cases c14 : a0 = 4
                · rw [if_pos c14] at H
                  obtain ⟨c14b0, c14b1⟩ := eqB_ c14
                  clear c14
                  (first | rw [c14b0] | (simp only [i64_w, i32_w]; rw [c14b0]) | skip)
                  have H' := Aside0.mk H
                  clear H
                  go_wp2
                  go_meet
                  case rel => exact ⟨_, ((a0 == 4)), ra_, H', ⟨by have := HJ3.out; have := HJ7.out; first | omega | exact Nat.le_refl _⟩, ⟨by repeat (first | (with_reducible first | exact HB.out | apply below_alloc | apply pw_below_drewN | apply below_drew1) | exact HB.out)⟩⟩
                · rw [if_neg c14] at H
                  obtain ⟨c14b0, c14b1⟩ := neB_ c14
                  (first | rw [c14b0] | (simp only [i64_w, i32_w]; rw [c14b0]) | skip)
                  have H' := Aside0.mk H
                  clear H
                  go_wp2
                  go_meet
                  case rel => exact ⟨_, ((a0 == 3)), ra_, H', ⟨by have := HJ3.out; have := HJ7.out; first | omega | exact Nat.le_refl _⟩, ⟨by repeat (first | (with_reducible first | exact HB.out | apply below_alloc | apply pw_below_drewN | apply below_drew1) | exact HB.out)⟩⟩
              case rest =>
                clear HC13
                try clear c1
                try clear p2
                try clear c3
                try clear c5
                try clear c5b0
                try clear c5b1
                try clear c6
                try clear c6b0
                try clear c6b1
                try clear c7
                try clear c10
                try clear c12
                try clear c14
                try clear c14b0
                try clear c14b1
                try clear p2
                obtain ⟨kq, x27_12, rfl, HA, HJ12, HB⟩ := hcut
                cases kq with
                | zero => exact absurd HA.out (by simp [constableref01_Do.j2])
                | succ kj12 =>
                  have H := HA.out
                  clear HA
                  simp only [constableref01_Do.j2] at H
                  by_cases c15 : x27_12 = true
                  · subst c15
                    have H1 : (if a0 = 4 then (constableref01_Do.j3 kj12 a1 (wrap64 (-a2))) else (constableref01_Do.j3 kj12 a1 a2)) = some (r1, r2) := by rw [if_pos rfl] at H; exact H
                    clear H
                    have H := H1
                    clear H1
                    have HC16 := Aside0.mk H
                    clear H
                    go_upto_if 31 with (fail)
                    go_cut [2] (fun v2 wc => ∃ (kq : Nat) (x2_15 : Int), v2 = .int .i64 x2_15 ∧ Aside0 (constableref01_Do.j3 kq a1 x2_15 = some (r1, r2)) ∧ Aside0 (kq ≤ kj12) ∧ Aside0 (Below w.heap.size w wc))
                    case first =>
                      have H := HC16.out
                      clear HC16
                      by_cases c17 : a0 = 4
                      · rw [if_pos c17] at H
                        obtain ⟨c17b0, c17b1⟩ := eqB_ c17
                        clear c17
                        (first | rw [c17b0] | (simp only [i64_w, i32_w]; rw [c17b0]) | skip)
                        have H' := Aside0.mk H
                        clear H
                        go_wp2
                        go_meet
                        case rel => exact ⟨_, (wrap64 (-a2)), ra_, H', ⟨by have := HJ3.out; have := HJ7.out; have := HJ12.out; first | omega | exact Nat.le_refl _⟩, ⟨by repeat (first | (with_reducible first | exact HB.out | apply below_alloc | apply pw_below_drewN | apply below_drew1) | exact HB.out)⟩⟩
                      · rw [if_neg c17] at H
                        obtain ⟨c17b0, c17b1⟩ := neB_ c17
                        (first | rw [c17b0] | (simp only [i64_w, i32_w]; rw [c17b0]) | skip)
                        have H' := Aside0.mk H
                        clear H
                        go_wp2
                        go_meet
                        case rel => exact ⟨_, (a2), ra_, H', ⟨by have := HJ3.out; have := HJ7.out; have := HJ12.out; first | omega | exact Nat.le_refl _⟩, ⟨by repeat (first | (with_reducible first | exact HB.out | apply below_alloc | apply pw_below_drewN | apply below_drew1) | exact HB.out)⟩⟩
                    case rest =>
                      clear HC16
                      try clear c1
                      try clear p2
                      try clear c3
                      try clear c5
                      try clear c5b0
                      try clear c5b1
                      try clear c6
                      try clear c6b0
                      try clear c6b1
                      try clear p6
                      try clear c7
                      try clear c10
                      try clear c12
                      try clear c14
                      try clear c14b0
                      try clear c14b1
                      try clear c15
                      try clear c17
                      try clear c17b0
                      try clear c17b1
                      try clear p2
                      obtain ⟨kq, x2_15, rfl, HA, HJ15, HB⟩ := hcut
                      cases kq with
                      | zero => exact absurd HA.out (by simp [constableref01_Do.j3])
                      | succ kj15 =>
                        have H := HA.out
                        clear HA
                        simp only [constableref01_Do.j3] at H
                        have HC18 := Aside0.mk H
                        clear H
                        go_upto_region 10 with (fail)
                        go_cut [51] (fun v51 wc => ∃ (kq : Nat) (x51_17 : Bool), v51 = .bool x51_17 ∧ Aside0 (constableref01_Do.j4 kq a1 x2_15 x51_17 = some (r1, r2)) ∧ Aside0 (kq ≤ kj15) ∧ Aside0 (Below w.heap.size w wc))
                        case first =>
                          have H := HC18.out
                          clear HC18
                          by_cases c19 : x2_15 > 0
                          · rw [if_pos c19] at H
                            have c19b0 : decide (0 < x2_15) = true := decide_eq_true c19
                            clear c19
                            (first | rw [c19b0] | (simp only [i64_w, i32_w]; rw [c19b0]) | skip)
                            by_cases c20 : a1 > (wrap64 (4611686018427387904 - x2_15))
                            · rw [if_pos c20] at H
                              have c20b0 : decide ((wrap64 (4611686018427387904 - x2_15)) < a1) = true := decide_eq_true c20
                              clear c20
                              have H' := Aside0.mk H
                              clear H
                              go_wp2
                              go_meet
                              case rel => exact ⟨_, (true), ra_, H', ⟨by have := HJ3.out; have := HJ7.out; have := HJ12.out; have := HJ15.out; first | omega | exact Nat.le_refl _⟩, ⟨by repeat (first | (with_reducible first | exact HB.out | apply below_alloc | apply pw_below_drewN | apply below_drew1) | exact HB.out)⟩⟩
                            · rw [if_neg c20] at H
                              have c20b0 : decide ((wrap64 (4611686018427387904 - x2_15)) < a1) = false := decide_eq_false c20
                              clear c20
                              by_cases c21 : x2_15 < 0
                              · rw [if_pos c21] at H
                                have c21b0 : decide (x2_15 < 0) = true := decide_eq_true c21
                                clear c21
                                have H' := Aside0.mk H
                                clear H
                                go_wp2
                                go_meet
                                case rel => exact ⟨_, (decide (a1 < (wrap64 ((-4611686018427387904) - x2_15)))), ra_, H', ⟨by have := HJ3.out; have := HJ7.out; have := HJ12.out; have := HJ15.out; first | omega | exact Nat.le_refl _⟩, ⟨by repeat (first | (with_reducible first | exact HB.out | apply below_alloc | apply pw_below_drewN | apply below_drew1) | exact HB.out)⟩⟩
                              · rw [if_neg c21] at H
                                have c21b0 : decide (x2_15 < 0) = false := decide_eq_false c21
                                clear c21
                                have H' := Aside0.mk H
                                clear H
                                go_wp2
                                go_meet
                                case rel => exact ⟨_, (false), ra_, H', ⟨by have := HJ3.out; have := HJ7.out; have := HJ12.out; have := HJ15.out; first | omega | exact Nat.le_refl _⟩, ⟨by repeat (first | (with_reducible first | exact HB.out | apply below_alloc | apply pw_below_drewN | apply below_drew1) | exact HB.out)⟩⟩
                          · rw [if_neg c19] at H
                            have c19b0 : decide (0 < x2_15) = false := decide_eq_false c19
                            clear c19
                            (first | rw [c19b0] | (simp only [i64_w, i32_w]; rw [c19b0]) | skip)
                            by_cases c22 : x2_15 < 0
                            · rw [if_pos c22] at H
                              have c22b0 : decide (x2_15 < 0) = true := decide_eq_true c22
                              clear c22
                              have H' := Aside0.mk H
                              clear H
                              go_wp2
                              go_meet
                              case rel => exact ⟨_, (decide (a1 < (wrap64 ((-4611686018427387904) - x2_15)))), ra_, H', ⟨by have := HJ3.out; have := HJ7.out; have := HJ12.out; have := HJ15.out; first | omega | exact Nat.le_refl _⟩, ⟨by repeat (first | (with_reducible first | exact HB.out | apply below_alloc | apply pw_below_drewN | apply below_drew1) | exact HB.out)⟩⟩
                            · rw [if_neg c22] at H
                              have c22b0 : decide (x2_15 < 0) = false := decide_eq_false c22
                              clear c22
                              have H' := Aside0.mk H
                              clear H
                              go_wp2
                              go_meet
                              case rel => exact ⟨_, (false), ra_, H', ⟨by have := HJ3.out; have := HJ7.out; have := HJ12.out; have := HJ15.out; first | omega | exact Nat.le_refl _⟩, ⟨by repeat (first | (with_reducible first | exact HB.out | apply below_alloc | apply pw_below_drewN | apply below_drew1) | exact HB.out)⟩⟩
                        case rest =>
                          clear HC18
                          try clear c1
                          try clear c2
                          try clear p2
                          try clear c3
                          try clear c5
                          try clear c5b0
                          try clear c5b1
                          try clear c6
                          try clear c6b0
                          try clear c6b1
                          try clear p6
                          try clear c7
                          try clear c10
                          try clear c12
                          try clear c14
                          try clear c14b0
                          try clear c14b1
                          try clear c15
                          try clear c17
                          try clear c17b0
                          try clear c17b1
                          try clear c19
                          try clear c19b0
                          try clear c20
                          try clear c20b0
                          try clear c21
                          try clear c21b0
                          try clear c22
                          try clear c22b0
                          try clear p2
                          try clear p6
                          obtain ⟨kq, x51_17, rfl, HA, HJ17, HB⟩ := hcut
                          cases kq with
                          | zero => exact absurd HA.out (by simp [constableref01_Do.j4])
                          | succ kj17 =>
                            have H := HA.out
                            clear HA
                            simp only [constableref01_Do.j4] at H
                            by_cases c23 : x51_17 = true
                            · subst c23
                              have H1 : (some (0, 4)) = some (r1, r2) := by rw [if_pos rfl] at H; exact H
                              clear H
                              have H := H1
                              clear H1
                              simp only [Option.some.injEq, Prod.mk.injEq] at H
                              obtain ⟨rfl, rfl⟩ := H
                              go_wp2
                              go_ret2
                              exact ⟨by first | rfl | (simp [errW_none, errW_some] <;> rfl) | (simp [*, errW_none, errW_some] <;> rfl), by repeat (first | (with_reducible first | exact HB.out | apply below_alloc | apply pw_below_drewN | apply below_drew1) | exact HB.out)⟩
                            · replace c23 := Bool.eq_false_iff.mpr c23
                              subst c23
                              have H1 : (some (wrap64 (a1 + x2_15), 0)) = some (r1, r2) := by rw [if_neg (show ¬ (false = true) by decide)] at H; exact H
                              clear H
                              have H := H1
                              clear H1
                              simp only [Option.some.injEq, Prod.mk.injEq] at H
                              obtain ⟨rfl, rfl⟩ := H
                              go_wp2
                              go_ret2
                              exact ⟨by first | rfl | (simp [errW_none, errW_some] <;> rfl) | (simp [*, errW_none, errW_some] <;> rfl), by repeat (first | (with_reducible first | exact HB.out | apply below_alloc | apply pw_below_drewN | apply below_drew1) | exact HB.out)⟩
                  · replace c15 := Bool.eq_false_iff.mpr c15
                    subst c15
                    have H1 : (if a1 = 0 then (some (wrap64 (a1 * a2), 0)) else (if a2 = 0 then (some (wrap64 (a1 * a2), 0)) else (if (mx a2 (wrap64 (-a2))) = 0 then (none) else (if (mx a1 (wrap64 (-a1))) > (wrap64 (Int.tdiv (4611686018427387904 : Int) (mx a2 (wrap64 (-a2))))) then (some (0, 4)) else (some (wrap64 (a1 * a2), 0)))))) = some (r1, r2) := by rw [if_neg (show ¬ (false = true) by decide)] at H; exact H
                    clear H
                    have H := H1
                    clear H1
                    by_cases c24 : a1 = 0
                    · rw [if_pos c24] at H
                      obtain ⟨c24b0, c24b1⟩ := eqB_ c24
                      clear c24
                      simp only [Option.some.injEq, Prod.mk.injEq] at H
                      obtain ⟨rfl, rfl⟩ := H
                      go_wp2
                      go_ret2
                      exact ⟨by first | rfl | (simp [errW_none, errW_some] <;> rfl) | (simp [*, errW_none, errW_some] <;> rfl), by repeat (first | (with_reducible first | exact HB.out | apply below_alloc | apply pw_below_drewN | apply below_drew1) | exact HB.out)⟩
                    · rw [if_neg c24] at H
                      obtain ⟨c24b0, c24b1⟩ := neB_ c24
                      by_cases c25 : a2 = 0
                      · rw [if_pos c25] at H
                        obtain ⟨c25b0, c25b1⟩ := eqB_ c25
                        clear c25
                        simp only [Option.some.injEq, Prod.mk.injEq] at H
                        obtain ⟨rfl, rfl⟩ := H
                        go_wp2
                        go_ret2
                        exact ⟨by first | rfl | (simp [errW_none, errW_some] <;> rfl) | (simp [*, errW_none, errW_some] <;> rfl), by repeat (first | (with_reducible first | exact HB.out | apply below_alloc | apply pw_below_drewN | apply below_drew1) | exact HB.out)⟩
                      · rw [if_neg c25] at H
                        obtain ⟨c25b0, c25b1⟩ := neB_ c25
                        obtain ⟨ji26, hji26⟩ : ∃ j_ : Int, (mx a1 (wrap64 (-a1))) = j_ := ⟨_, rfl⟩
                        replace H : (if (mx a2 (wrap64 (-a2))) = 0 then (none) else (if (ji26) > (wrap64 (Int.tdiv (4611686018427387904 : Int) (mx a2 (wrap64 (-a2))))) then (some (0, 4)) else (some (wrap64 (a1 * a2), 0)))) = some (r1, r2) := by first | (rw [hji26] at H; exact H) | (simp only [hji26] at H ⊢; exact H)
                        have hji26_ : (if a1 < (wrap64 (-a1)) then (wrap64 (-a1)) else a1) = ji26 := hji26
                        obtain ⟨ji27, hji27⟩ : ∃ j_ : Int, (mx a2 (wrap64 (-a2))) = j_ := ⟨_, rfl⟩
                        replace H : (if (ji27) = 0 then (none) else (if (ji26) > (wrap64 (Int.tdiv (4611686018427387904 : Int) (ji27))) then (some (0, 4)) else (some (wrap64 (a1 * a2), 0)))) = some (r1, r2) := by first | (rw [hji27] at H; exact H) | (simp only [hji27] at H ⊢; exact H)
                        have hji27_ : (if a2 < (wrap64 (-a2)) then (wrap64 (-a2)) else a2) = ji27 := hji27
                        by_cases c28 : (ji27) = 0
                        · rw [if_pos c28] at H
                          exact absurd H (by simp)
                        · rw [if_neg c28] at H
                          obtain ⟨c28b0, c28b1⟩ := neB_ c28
                          by_cases c29 : (ji26) > (wrap64 (Int.tdiv (4611686018427387904 : Int) (ji27)))
                          · rw [if_pos c29] at H
                            have c29b0 : decide ((wrap64 (Int.tdiv (4611686018427387904 : Int) (ji27))) < (ji26)) = true := decide_eq_true c29
                            clear c29
                            simp only [Option.some.injEq, Prod.mk.injEq] at H
                            obtain ⟨rfl, rfl⟩ := H
                            go_wp2
                            go_ret2
                            exact ⟨by first | rfl | (simp [errW_none, errW_some] <;> rfl) | (simp only [← hji26, ← hji27]; first | rfl | (simp [errW_none, errW_some] <;> rfl)) | (simp [*, errW_none, errW_some] <;> rfl), by repeat (first | (with_reducible first | exact HB.out | apply below_alloc | apply pw_below_drewN | apply below_drew1) | exact HB.out)⟩
                          · rw [if_neg c29] at H
                            have c29b0 : decide ((wrap64 (Int.tdiv (4611686018427387904 : Int) (ji27))) < (ji26)) = false := decide_eq_false c29
                            clear c29
                            simp only [Option.some.injEq, Prod.mk.injEq] at H
                            obtain ⟨rfl, rfl⟩ := H
                            go_wp2
                            go_ret2
                            exact ⟨by first | rfl | (simp [errW_none, errW_some] <;> rfl) | (simp only [← hji26, ← hji27]; first | rfl | (simp [errW_none, errW_some] <;> rfl)) | (simp [*, errW_none, errW_some] <;> rfl), by repeat (first | (with_reducible first | exact HB.out | apply below_alloc | apply pw_below_drewN | apply below_drew1) | exact HB.out)⟩
end Go.Proofs.Ytconpnagoijacaa.P
end
section
namespace Go.Proofs.Ytconpnagoijacaa.P
open Go.RowKit Go.Proofs.YtconpnagoijacaaW.PrintWords Go.Proofs.YtconpnagoijacaaW.PrintLast Go.Proofs.YtconpnagoijacaaW.PrintMore
attribute [local go_sem] max2_int min2_int max_two min_two max_three min_three max_four min_four
set_option linter.unusedVariables false
set_option linter.unusedSimpArgs false
mutual
def constableref01_Eval.l0 : Nat → List (S52) → List (S62) → List (S40) → Int → Option (Int × Int × ByteArray × Int)
  | 0, _, _, _, _ => none
  | k + 1, x0, x1, x6, x7 => if x7 < (x0.length : Int) then (if 0 ≤ x7 then (if ((rd_T52 x0 x7).f0) = 1 then ((constableref01_Get.f k x1 ((rd_T52 x0 x7).f1)).bind fun bt357 => (if bt357.2.2.2 = true then (if x6.length < 4398046511104 then (constableref01_Eval.l0 k x0 x1 (x6 ++ [(⟨bt357.1, bt357.2.1, bt357.2.2.1⟩ : S40)]) (wrap64 (x7 + 1))) else (none)) else (some (0, 0, (⟨#[]⟩ : ByteArray), 5)))) else (if ((rd_T52 x0 x7).f0) = 2 then (if x6.length < 4398046511104 then (constableref01_Eval.l0 k x0 x1 (x6 ++ [(⟨(rd_T52 x0 x7).f2.f0, (rd_T52 x0 x7).f2.f1, (rd_T52 x0 x7).f2.f2⟩ : S40)]) (wrap64 (x7 + 1))) else (none)) else (if 0 ≤ (wrap64 ((x6.length : Int) - 2)) then (if (wrap64 ((x6.length : Int) - 2)) < (x6.length : Int) then (if 0 ≤ (wrap64 ((x6.length : Int) - 1)) then (if (wrap64 ((x6.length : Int) - 1)) < (x6.length : Int) then (if ((rd_T40 x6 (wrap64 ((x6.length : Int) - 2))).f0) = 1 then (constableref01_Eval.j1 k x0 x1 x6 x7 (((rd_T40 x6 (wrap64 ((x6.length : Int) - 1))).f0) != 1) ((rd_T40 x6 (wrap64 ((x6.length : Int) - 2))).f0) ((rd_T40 x6 (wrap64 ((x6.length : Int) - 2))).f1) ((rd_T40 x6 (wrap64 ((x6.length : Int) - 2))).f2) ((rd_T40 x6 (wrap64 ((x6.length : Int) - 1))).f0) ((rd_T40 x6 (wrap64 ((x6.length : Int) - 1))).f1) ((rd_T40 x6 (wrap64 ((x6.length : Int) - 1))).f2)) else (constableref01_Eval.j1 k x0 x1 x6 x7 true ((rd_T40 x6 (wrap64 ((x6.length : Int) - 2))).f0) ((rd_T40 x6 (wrap64 ((x6.length : Int) - 2))).f1) ((rd_T40 x6 (wrap64 ((x6.length : Int) - 2))).f2) ((rd_T40 x6 (wrap64 ((x6.length : Int) - 1))).f0) ((rd_T40 x6 (wrap64 ((x6.length : Int) - 1))).f1) ((rd_T40 x6 (wrap64 ((x6.length : Int) - 1))).f2))) else (none)) else (none)) else (none)) else (none)))) else (none)) else (if 0 < (x6.length : Int) then (some ((rd_T40 x6 0).f0, (rd_T40 x6 0).f1, (rd_T40 x6 0).f2, 0)) else (none))
def constableref01_Eval.j1 : Nat → List (S52) → List (S62) → List (S40) → Int → Bool → Int → Int → ByteArray → Int → Int → ByteArray → Option (Int × Int × ByteArray × Int)
  | 0, _, _, _, _, _, _, _, _, _, _, _ => none
  | k + 1, x0, x1, x6, x7, x44, x372000, x372001, x372002, x373000, x373001, x373002 => if x44 = true then (some (0, 0, (⟨#[]⟩ : ByteArray), 3)) else (if 0 ≤ x7 then (if x7 < (x0.length : Int) then ((constableref01_Do.f k ((rd_T52 x0 x7).f0) x372001 x373001).bind fun bt374 => (if bt374.2 = 0 then (if 0 ≤ (wrap64 ((x6.length : Int) - 2)) then (if (wrap64 ((x6.length : Int) - 2)) ≤ (x6.length : Int) then ((some (x6.take ((wrap64 ((x6.length : Int) - 2)) : Int).toNat : List (S40))).bind fun y376 => (if y376.length < 4398046511104 then (constableref01_Eval.l0 k x0 x1 (y376 ++ [(⟨1, bt374.1, (⟨#[]⟩ : ByteArray)⟩ : S40)]) (wrap64 (x7 + 1))) else (none))) else (none)) else (none)) else (some (0, 0, (⟨#[]⟩ : ByteArray), bt374.2)))) else (none)) else (none))
end
def constableref01_Eval.f (k : Nat) (l0 : List (S52)) (l1 : List (S62)) : Option (Int × Int × ByteArray × Int) := constableref01_Eval.l0 k l0 l1 ([] : List (S40)) 0
theorem constableref01_Eval.mono_l : ∀ k, (∀ y0 y1 y2 y3, LeO (constableref01_Eval.l0 k y0 y1 y2 y3) (constableref01_Eval.l0 (k + 1) y0 y1 y2 y3)) ∧ (∀ y0 y1 y2 y3 y4 y5 y6 y7 y8 y9 y10, LeO (constableref01_Eval.j1 k y0 y1 y2 y3 y4 y5 y6 y7 y8 y9 y10) (constableref01_Eval.j1 (k + 1) y0 y1 y2 y3 y4 y5 y6 y7 y8 y9 y10))
  | 0 => ⟨fun _ _ _ _ r h => by simp [constableref01_Eval.l0] at h, fun _ _ _ _ _ _ _ _ _ _ _ r h => by simp [constableref01_Eval.j1] at h⟩
  | k + 1 => by
    obtain ⟨ih0, ih1⟩ := constableref01_Eval.mono_l k
    refine ⟨?_, ?_⟩
    · intro y0 y1 y2 y3
      unfold constableref01_Eval.l0
      repeat' first
      | (with_reducible exact ih0 _ _ _ _)
      | (with_reducible exact ih1 _ _ _ _ _ _ _ _ _ _ _)
      | (with_reducible exact constableref01_Do.mono _ _ _ _)
      | (with_reducible exact constableref01_Get.mono _ _ _)
      | (with_reducible exact LeO.refl _)
      | (with_reducible exact LeO.none _)
      | (with_reducible refine LeO.ite ?_ ?_)
      | (with_reducible refine LeO.bind ?_ (fun _ => ?_))
      | exact ih0 _ _ _ _
      | exact ih1 _ _ _ _ _ _ _ _ _ _ _
      | exact constableref01_Do.mono _ _ _ _
      | exact constableref01_Get.mono _ _ _
      | exact LeO.none _
      | refine LeO.ite ?_ ?_
      | refine LeO.bind ?_ (fun _ => ?_)
    · intro y0 y1 y2 y3 y4 y5 y6 y7 y8 y9 y10
      unfold constableref01_Eval.j1
      repeat' first
      | (with_reducible exact ih0 _ _ _ _)
      | (with_reducible exact ih1 _ _ _ _ _ _ _ _ _ _ _)
      | (with_reducible exact constableref01_Do.mono _ _ _ _)
      | (with_reducible exact constableref01_Get.mono _ _ _)
      | (with_reducible exact LeO.refl _)
      | (with_reducible exact LeO.none _)
      | (with_reducible refine LeO.ite ?_ ?_)
      | (with_reducible refine LeO.bind ?_ (fun _ => ?_))
      | exact ih0 _ _ _ _
      | exact ih1 _ _ _ _ _ _ _ _ _ _ _
      | exact constableref01_Do.mono _ _ _ _
      | exact constableref01_Get.mono _ _ _
      | exact LeO.none _
      | refine LeO.ite ?_ ?_
      | refine LeO.bind ?_ (fun _ => ?_)
theorem constableref01_Eval.mono : ∀ a0 a1 k, LeO (constableref01_Eval.f k a0 a1) (constableref01_Eval.f (k + 1) a0 a1) := by
  intro a0 a1 k
  obtain ⟨ih0, ih1⟩ := constableref01_Eval.mono_l k
  unfold constableref01_Eval.f
  repeat' first
      | (with_reducible exact ih0 _ _ _ _)
      | (with_reducible exact ih1 _ _ _ _ _ _ _ _ _ _ _)
      | (with_reducible exact constableref01_Do.mono _ _ _ _)
      | (with_reducible exact constableref01_Get.mono _ _ _)
      | (with_reducible exact LeO.refl _)
      | (with_reducible exact LeO.none _)
      | (with_reducible refine LeO.ite ?_ ?_)
      | (with_reducible refine LeO.bind ?_ (fun _ => ?_))
      | exact ih0 _ _ _ _
      | exact ih1 _ _ _ _ _ _ _ _ _ _ _
      | exact constableref01_Do.mono _ _ _ _
      | exact constableref01_Get.mono _ _ _
      | exact LeO.none _
      | refine LeO.ite ?_ ?_
      | refine LeO.bind ?_ (fun _ => ?_)
def constableref01_Eval.T6 : Bool × List (List Nat × List Nat) := (true, [([], []), ([], []), ([1], [1]), ([2], [2]), ([0, 3], [0, 3]), ([4], [4]), ([], []), ([], []), ([7], [7]), ([8], [8]), ([6, 9], [6, 9]), ([10], [10]), ([], []), ([], []), ([12, 5, 0, 1, 2, 3, 4, 5, 12, 13], [5, 12]), ([13, 11, 14, 0, 1, 2, 3, 4, 5, 6, 7, 8, 9, 10, 11, 12, 13, 14], [11, 13])])
def constableref01_Eval.B6 : List Nat := [0, 0, 2, 6, 15, 31, 0, 0, 128, 384, 960, 1984, 0, 0, 12351, 32767]
theorem constableref01_Eval.tab6 : rtab .any (opsOf Try.f33 6) = constableref01_Eval.T6 := by kernel_rfl
theorem constableref01_Eval.bits6 : waitsOk constableref01_Eval.T6.2 constableref01_Eval.B6 = true := by kernel_rfl
def constableref01_Eval.T9 : Bool × List (List Nat × List Nat) := (true, [([], []), ([], []), ([0, 1], [0, 1]), ([2], [2]), ([3], [3]), ([], []), ([5], [5]), ([], []), ([7], [7]), ([4, 6, 8], [4, 6, 8]), ([9], [9]), ([10], [10]), ([10], [10]), ([11, 9, 0, 1, 2, 3, 4, 5, 6, 7, 8, 9, 10, 11], [11]), ([12, 13, 0, 1, 2, 3, 4, 5, 6, 7, 8, 9, 10, 11, 12, 13], [12])])
def constableref01_Eval.B9 : List Nat := [0, 0, 3, 7, 15, 0, 32, 0, 128, 511, 1023, 2047, 2047, 4095, 16383]
theorem constableref01_Eval.tab9 : rtab .any (opsOf Try.f33 9) = constableref01_Eval.T9 := by kernel_rfl
theorem constableref01_Eval.bits9 : waitsOk constableref01_Eval.T9.2 constableref01_Eval.B9 = true := by kernel_rfl
set_option maxHeartbeats 8000000 in
set_option maxRecDepth 100000 in
theorem constableref01_Eval.calls (k : Nat) (A0 : Option Addr) (c0 : Nat) (l0 : List (S52)) (A1 : Option Addr) (c1 : Nat) (l1 : List (S62)) (r1 : Int) (r2 : Int) (r3 : ByteArray) (r4 : Int) (w : World) (hr0 : Kd.C k52 w A0 l0.length l0) (hc0 : l0.length ≤ c0) (hr1 : Kd.C k62 w A1 l1.length l1) (hc1 : l1.length ≤ c1) (h : constableref01_Eval.f k l0 l1 = some (r1, r2, r3, r4)) :
    Calls Try.prog 33 #[.slice A0 l0.length c0, .slice A1 l1.length c1] w fun e w' => e = .returned (.tuple #[.agg #[.int .i64 r1, .int .i64 r2, .string r3], .int .i64 r4]) ∧ Below w.heap.size w w' := by
  have hu40 := Try.underlying40
  have HR0 := Aside0.mk hr0
  have HC0 := Aside0.mk hc0
  clear hr0 hc0
  have HR1 := Aside0.mk hr1
  have HC1 := Aside0.mk hc1
  clear hr1 hc1
  have HB := Aside0.mk (Below.refl w.heap.size w)
  have H : (constableref01_Eval.l0 k l0 l1 ([] : List (S40)) 0) = some (r1, r2, r3, r4) := h
  clear h
  have H' := Aside0.mk H
  clear H
  go_enter Try.func33, Try.ntmps33
  go_wp2_with (first | ((with_reducible refine gate_dst (N := 4) rfl ?_); refine box_event ?hg (N := 4) ?hd (cs := #[.int .i64 0, .int .i64 0, .string (⟨#[]⟩ : ByteArray)]) (t := 40) ?hr ?_; (case hd => rfl); (case hg => rfl); (case hr => first | (go_simp; done) | (go_simp; rfl)); intro gb353 hg w3 hbox hb; have n0_ := bs_ (be_ HB) hb; have n1_ := Aside0.mk (hbox); have n2_ := gs_ hg (be_ HB); have n3_ := gs_ hg (be_ HB); clear HB; have HB := n0_; have BK353 := n1_; have GW353 := n2_; have GE353 := n3_; clear n0_ n1_ n2_ n3_; clear hb hbox hg))
  go_loopg [6, 7] k (fun kq v6 v7 w' => ∃ (x6_1 : List (S40)) (x7_1 : Int) (x354000_1 : Int) (x354001_1 : Int) (x354002_1 : ByteArray), v7 = .int .i64 x7_1 ∧ Aside0 (constableref01_Eval.l0 kq l0 l1 x6_1 x7_1 = some (r1, r2, r3, r4)) ∧ Aside0 (kq ≤ k) ∧ Aside0 (Kd.R k40 40 w' w.heap.size (fun k_ => k_ ≠ gb353) v6 x6_1) ∧ Aside0 (w'.heap[gb353]? = some (.cells #[.int .i64 x354000_1, .int .i64 x354001_1, .string x354002_1] 40 (0, 0))) ∧ Aside0 (Below w.heap.size w w'))
  case atStart => exact ⟨(([] : List (S40))), (0), (0), (0), ((⟨#[]⟩ : ByteArray)), ra_, H', ⟨Nat.le_refl _⟩, ⟨by first | exact Kd.R_nil _ _ _ _ _ | exact Kd.N_nil _ _ _ _ _ | exact Kd.V_nil _ _ _ _ _ | exact Kd.Q_nil _ _ _ _ _ | exact Kd.S_nil _ _ _ _ _⟩, ⟨by (with_reducible repeat (first | refine blk_drewN ?_ _ | refine blk_drew ?_ | refine blk_alloc ?_ _)); exact BK353.out⟩, ⟨by repeat (first | (with_reducible first | exact HB.out | apply below_alloc | apply pw_below_drewN | apply below_drew1 | refine below_set ?_ GE353.out) | exact HB.out)⟩⟩
  case round =>
    clear H'
    try clear c1
    try clear p2
    try clear c3
    obtain ⟨x6_1, x7_1, x354000_1, x354001_1, x354002_1, rfl, HA, HK1, HO_6, BK353, HB⟩ := hrel
    cases gk with
    | zero => exact absurd HA.out (by simp [constableref01_Eval.l0])
    | succ k1 =>
      have H := HA.out
      clear HA
      simp only [constableref01_Eval.l0] at H
      by_cases c4 : x7_1 < (l0.length : Int)
      · rw [if_pos c4] at H
        have c4b0 : decide (x7_1 < (l0.length : Int)) = true := decide_eq_true c4
        clear c4
        by_cases c5 : 0 ≤ x7_1
        · rw [if_pos c5] at H
          have c5b0 : decide (0 ≤ x7_1) = true := decide_eq_true c5
          clear c5
          by_cases c6 : ((rd_T52 l0 x7_1).f0) = 1
          · rw [if_pos c6] at H
            obtain ⟨c6b0, c6b1⟩ := eqB_ c6
            clear c6
            replace H := Option.bind_eq_some_iff.mp H
            obtain ⟨⟨t357, t358, t359, t360⟩, A70, H⟩ := H
            replace H : (if t360 = true then (if x6_1.length < 4398046511104 then (constableref01_Eval.l0 k1 l0 l1 (x6_1 ++ [(⟨t357, t358, t359⟩ : S40)]) (wrap64 (x7_1 + 1))) else (none)) else (some (0, 0, (⟨#[]⟩ : ByteArray), 5))) = some (r1, r2, r3, r4) := H
            have A7 := Aside0.mk A70
            clear A70
            by_cases c8 : t360 = true
            · subst c8
              have H1 : (if x6_1.length < 4398046511104 then (constableref01_Eval.l0 k1 l0 l1 (x6_1 ++ [(⟨t357, t358, t359⟩ : S40)]) (wrap64 (x7_1 + 1))) else (none)) = some (r1, r2, r3, r4) := by rw [if_pos rfl] at H; exact H
              clear H
              have H := H1
              clear H1
              by_cases c9 : x6_1.length < 4398046511104
              · rw [if_pos c9] at H
                have LMc9 := Aside0.mk c9
                clear c9
                obtain ⟨y362, hy362⟩ : ∃ y_ : List (S40), y_ = (x6_1 ++ [(⟨t357, t358, t359⟩ : S40)]) := ⟨_, rfl⟩
                replace H : (constableref01_Eval.l0 k1 l0 l1 y362 (wrap64 (x7_1 + 1))) = some (r1, r2, r3, r4) := by first | (rw [hy362]; with_reducible exact H) | (have H2_ := (Option.bind_some _ _).symm.trans H; rw [hy362]; with_reducible exact H2_) | (have H2_ := (Option.bind_some _ _).symm.trans H; with_reducible exact H2_) | with_reducible exact H | (rw [hy362]; exact H) | exact H
                have Ny362 := Aside0.mk hy362
                clear hy362
                have H' := Aside0.mk H
                clear H
                have p355 : 0 ≤ (x7_1 : Int) := dt_
                have q355 : x7_1 < (l0.length : Int) := dt_
                obtain ⟨ad355, e355, hx355_0, hx355_1, hx355_2, hx355_3, hx355_4⟩ := at_T52 HR0.out x7_1 p355 q355
                cases e355
                replace hx355_0 := cm_ HB hx355_0
                replace hx355_1 := cm_ HB hx355_1
                replace hx355_2 := cm_ HB hx355_2
                replace hx355_3 := cm_ HB hx355_3
                replace hx355_4 := cm_ HB hx355_4
                replace p355 := eq_true p355
                replace q355 := eq_true q355
                have p356 : 0 ≤ (x7_1 : Int) := dt_
                have q356 : x7_1 < (l0.length : Int) := dt_
                obtain ⟨ad356, e356, hx356_0, hx356_1, hx356_2, hx356_3, hx356_4⟩ := at_T52 HR0.out x7_1 p356 q356
                obtain rfl : ad355 = ad356 := (by injection e356)
                replace hx356_0 := cm_ HB hx356_0
                replace hx356_1 := cm_ HB hx356_1
                replace hx356_2 := cm_ HB hx356_2
                replace hx356_3 := cm_ HB hx356_3
                replace hx356_4 := cm_ HB hx356_4
                replace p356 := eq_true p356
                replace q356 := eq_true q356
                go_wp2_with (first | ((with_reducible refine gate_callee (f := 34) rfl ?_); refine goesL_ (some 81) rfl rfl Try.func34 (by kernel_rfl) rfl #[.slice A1 l1.length c1, .string ((rd_T52 l0 x7_1).f1)] rfl ga_ ?_; (with_reducible refine (constableref01_Get.calls k1 _ _ l1 ((rd_T52 l0 x7_1).f1) t357 t358 t359 true _ ?side1 ?side2 A7.out).mono ?_); (case side1 => repeat (first | exact (Kd.C_below HR1.out HB.out) | (with_reducible refine Kd.C_alloc ?_ _) | (with_reducible refine Kd.C_drewN ?_ _) | (with_reducible refine Kd.C_drew ?_))); (case side2 => exact HC1.out); rintro e w10 ⟨rfl, hb⟩; refine ⟨_, rfl, ?_⟩; have n0_ := kb_ (ku_ HO_6.out) hb; have n1_ := bb_ (bu_ BK353) hb; have n2_ := bs_ (be_ HB) hb; clear HO_6; clear BK353; clear HB; have HO_6 := n0_; have BK353 := n1_; have HB := n2_; clear n0_ n1_ n2_; (try clear hb); (try clear hb2); (try clear hk); (try clear hi)) | ((with_reducible refine gate_dst (N := 8) rfl ?_); refine box_event ?hg (N := 8) ?hd (cs := #[.int .i64 0, .int .i64 0, .string (⟨#[]⟩ : ByteArray)]) (t := 40) ?hr ?_; (case hd => rfl); (case hg => rfl); (case hr => first | (go_simp; done) | (go_simp; rfl)); intro gb361 hg w11 hbox hb; have n0_ := Aside0.mk (Kd.R_below (Kd.R_elderB (ku_ HO_6.out) gb361 (Nat.le_of_eq hg.symm)) hb); have n1_ := bb_ (bu_ BK353) hb; have n2_ := bs_ (be_ HB) hb; have n3_ := Aside0.mk (hbox); have n4_ := gs_ hg (be_ HB); have n5_ := gs_ hg (be_ HB); have n6_ := nl_ hg (bu_ BK353); have n7_ := ng_ hg (bu_ BK353); clear HO_6; clear BK353; clear HB; have HO_6 := n0_; have BK353 := n1_; have HB := n2_; have BK361 := n3_; have GW361 := n4_; have GE361 := n5_; have NB353_361 := n6_; have NB361_353 := n7_; clear n0_ n1_ n2_ n3_ n4_ n5_ n6_ n7_; clear hb hbox hg; have hnb12 := NB361_353.out; have hnc12 := NB353_361.out; have hcz13_0 : w11.cell? ⟨gb361, 0, none⟩ = some (.int .i64 0) := (blk_cell BK361.out 0).trans rfl; have hcz13_1 : w11.cell? ⟨gb361, 1, none⟩ = some (.int .i64 0) := (blk_cell BK361.out 1).trans rfl; have hcz13_2 : w11.cell? ⟨gb361, 2, none⟩ = some (.string (⟨#[]⟩ : ByteArray)) := (blk_cell BK361.out 2).trans rfl; have hfz13_0 := blk_frozen BK361.out 0; have hfz13_1 := blk_frozen BK361.out 1; have hfz13_2 := blk_frozen BK361.out 2) | ((with_reducible refine gate_builtin (b := .append) (xs := #[.tmp 87, .tmp 89]) rfl ?_); at_builtin; refine Kd.R_append k40 (w0 := w) w.heap.size rfl (.tmp 87) (.tmp 89) 64 40 (.agg #[(.int .i64 0), (.int .i64 0), (.string ⟨#[]⟩)]) 32 rfl Try.underlying64 info40 rfl (by decide) (by omega) u6 x6_1 (⟨t357, t358, t359⟩ : S40) [.int .i64 t357, .int .i64 t358, .string t359] (fun k_ => k_ ≠ gb353 ∧ k_ ≠ gb361) (fun _ => False) rfl (by first | (go_simp; done) | (go_simp; rfl)) ?aP (fun _ hk => hk.elim) ?aF ?aO ?aB ?aS ?aL ?_; (case aP => exact k40_mkM _ _ _ (⟨t357, t358, t359⟩ : S40)); (case aB => exact (be_ HB)); (case aF => exact (fun k_ hk => ⟨Kd.freshB (bu_ BK353) k_ hk, Kd.freshB (o := .cells #[.int .i64 t357, .int .i64 t358, .string t359] 40 (0, 0)) (bp_ BK361) k_ hk⟩)); (case aO => exact (by (with_reducible repeat (first | apply Kd.R_alloc | apply Kd.R_drewN | apply Kd.R_drew)); exact Kd.R_mono (Kd.R_far (p := ⟨gb361, 2, none⟩) (Kd.R_far (p := ⟨gb361, 1, none⟩) (Kd.R_far (p := ⟨gb361, 0, none⟩) (Kd.R_mono HO_6.out (fun k_ hk => (⟨hk, hk.2⟩ : _ ∧ k_ ≠ gb361))) (fun _ hk => hk.2) (.int .i64 t357)) (fun _ hk => hk.2) (.int .i64 t358)) (fun _ hk => hk.2) (.string t359)) (fun _ hk => ⟨hk.1.1, hk.1.2⟩))); (case aS => exact (below_size (be_ HB))); (case aL => have := LMc9.out; omega); intro v363 w14 ho hb hg hat; rw [← Ny362.out] at ho; have n0_ := Aside0.mk (blk_grown (bu_ BK353) hg (Kd.R_away HO_6.out (fun _ hk => hk.1))); have n1_ := Aside0.mk (blk_grown (o := .cells #[.int .i64 t357, .int .i64 t358, .string t359] 40 (0, 0)) (bp_ BK361) hg (Kd.R_away HO_6.out (fun _ hk => hk.2))); have n2_ := Aside0.mk (hb); have n3_ := Aside0.mk (ho); clear BK353; clear BK361; clear HB; clear HO_6; have BK353 := n0_; have BK361 := n1_; have HB := n2_; have HO364 := n3_; clear n0_ n1_ n2_ n3_; clear ho hb hg hat))
                go_roundg k1
                case measure => have := HK1.out; omega
                case rel => exact ⟨(y362), (wrap64 (x7_1 + 1)), (x354000_1), (x354001_1), (x354002_1), ra_, H', ⟨by have := HK1.out; omega⟩, ⟨by (with_reducible repeat (first | apply Kd.R_alloc | apply Kd.R_drewN | apply Kd.R_drew)); exact Kd.R_mono HO364.out (fun _ hk => hk.1)⟩, ⟨by (with_reducible repeat (first | refine blk_drewN ?_ _ | refine blk_drew ?_ | refine blk_alloc ?_ _)); exact BK353.out⟩, ⟨by repeat (first | (with_reducible first | exact HB.out | apply below_alloc | apply pw_below_drewN | apply below_drew1 | refine below_set ?_ GE353.out | refine below_set ?_ GE361.out) | exact HB.out)⟩⟩
              · rw [if_neg c9] at H
                exact absurd H (by simp)
            · replace c8 := Bool.eq_false_iff.mpr c8
              subst c8
              have H1 : (some (0, 0, (⟨#[]⟩ : ByteArray), 5)) = some (r1, r2, r3, r4) := by rw [if_neg (show ¬ (false = true) by decide)] at H; exact H
              clear H
              have H := H1
              clear H1
              simp only [Option.some.injEq, Prod.mk.injEq] at H
              obtain ⟨rfl, rfl, rfl, rfl⟩ := H
              have p355 : 0 ≤ (x7_1 : Int) := dt_
              have q355 : x7_1 < (l0.length : Int) := dt_
              obtain ⟨ad355, e355, hx355_0, hx355_1, hx355_2, hx355_3, hx355_4⟩ := at_T52 HR0.out x7_1 p355 q355
              cases e355
              replace hx355_0 := cm_ HB hx355_0
              replace hx355_1 := cm_ HB hx355_1
              replace hx355_2 := cm_ HB hx355_2
              replace hx355_3 := cm_ HB hx355_3
              replace hx355_4 := cm_ HB hx355_4
              replace p355 := eq_true p355
              replace q355 := eq_true q355
              have p356 : 0 ≤ (x7_1 : Int) := dt_
              have q356 : x7_1 < (l0.length : Int) := dt_
              obtain ⟨ad356, e356, hx356_0, hx356_1, hx356_2, hx356_3, hx356_4⟩ := at_T52 HR0.out x7_1 p356 q356
              obtain rfl : ad355 = ad356 := (by injection e356)
              replace hx356_0 := cm_ HB hx356_0
              replace hx356_1 := cm_ HB hx356_1
              replace hx356_2 := cm_ HB hx356_2
              replace hx356_3 := cm_ HB hx356_3
              replace hx356_4 := cm_ HB hx356_4
              replace p356 := eq_true p356
              replace q356 := eq_true q356
              go_wp2_with (first | ((with_reducible refine gate_callee (f := 34) rfl ?_); refine goesL_ (some 81) rfl rfl Try.func34 (by kernel_rfl) rfl #[.slice A1 l1.length c1, .string ((rd_T52 l0 x7_1).f1)] rfl ga_ ?_; (with_reducible refine (constableref01_Get.calls k1 _ _ l1 ((rd_T52 l0 x7_1).f1) t357 t358 t359 false _ ?side1 ?side2 A7.out).mono ?_); (case side1 => repeat (first | exact (Kd.C_below HR1.out HB.out) | (with_reducible refine Kd.C_alloc ?_ _) | (with_reducible refine Kd.C_drewN ?_ _) | (with_reducible refine Kd.C_drew ?_))); (case side2 => exact HC1.out); rintro e w15 ⟨rfl, hb⟩; refine ⟨_, rfl, ?_⟩; have n0_ := kb_ (ku_ HO_6.out) hb; have n1_ := bb_ (bu_ BK353) hb; have n2_ := bs_ (be_ HB) hb; clear HO_6; clear BK353; clear HB; have HO_6 := n0_; have BK353 := n1_; have HB := n2_; clear n0_ n1_ n2_; (try clear hb); (try clear hb2); (try clear hk); (try clear hi)) | ((with_reducible refine gate_dst (N := 8) rfl ?_); refine box_event ?hg (N := 8) ?hd (cs := #[.int .i64 0, .int .i64 0, .string (⟨#[]⟩ : ByteArray)]) (t := 40) ?hr ?_; (case hd => rfl); (case hg => rfl); (case hr => first | (go_simp; done) | (go_simp; rfl)); intro gb361 hg w16 hbox hb; have n0_ := Aside0.mk (Kd.R_below (Kd.R_elderB (ku_ HO_6.out) gb361 (Nat.le_of_eq hg.symm)) hb); have n1_ := bb_ (bu_ BK353) hb; have n2_ := bs_ (be_ HB) hb; have n3_ := Aside0.mk (hbox); have n4_ := gs_ hg (be_ HB); have n5_ := gs_ hg (be_ HB); have n6_ := nl_ hg (bu_ BK353); have n7_ := ng_ hg (bu_ BK353); clear HO_6; clear BK353; clear HB; have HO_6 := n0_; have BK353 := n1_; have HB := n2_; have BK361 := n3_; have GW361 := n4_; have GE361 := n5_; have NB353_361 := n6_; have NB361_353 := n7_; clear n0_ n1_ n2_ n3_ n4_ n5_ n6_ n7_; clear hb hbox hg; have hnb17 := NB361_353.out; have hnc17 := NB353_361.out; have hcz18_0 : w16.cell? ⟨gb361, 0, none⟩ = some (.int .i64 0) := (blk_cell BK361.out 0).trans rfl; have hcz18_1 : w16.cell? ⟨gb361, 1, none⟩ = some (.int .i64 0) := (blk_cell BK361.out 1).trans rfl; have hcz18_2 : w16.cell? ⟨gb361, 2, none⟩ = some (.string (⟨#[]⟩ : ByteArray)) := (blk_cell BK361.out 2).trans rfl; have hfz18_0 := blk_frozen BK361.out 0; have hfz18_1 := blk_frozen BK361.out 1; have hfz18_2 := blk_frozen BK361.out 2; have hcz19_0 : w16.cell? ⟨gb353, 0, none⟩ = some (.int .i64 x354000_1) := (blk_cell BK353.out 0).trans rfl; have hcz19_1 : w16.cell? ⟨gb353, 1, none⟩ = some (.int .i64 x354001_1) := (blk_cell BK353.out 1).trans rfl; have hcz19_2 : w16.cell? ⟨gb353, 2, none⟩ = some (.string x354002_1) := (blk_cell BK353.out 2).trans rfl; have hfz19_0 := blk_frozen BK353.out 0; have hfz19_1 := blk_frozen BK353.out 1; have hfz19_2 := blk_frozen BK353.out 2))
              refine bodyPost_ret (results_ct rfl _ _ gb353 40 #[.int .i64 0, .int .i64 0, .string (⟨#[]⟩ : ByteArray)] (0, 0) _ rfl (bp_ BK353) Try.underlying40 rfl (by kernel_rfl)) rfl ?_
              exact ⟨by first | rfl | (simp [errW_none, errW_some] <;> rfl) | (simp [*, errW_none, errW_some] <;> rfl), by repeat (first | (with_reducible first | exact HB.out | apply below_alloc | apply pw_below_drewN | apply below_drew1 | refine below_set ?_ GE353.out | refine below_set ?_ GE361.out) | exact HB.out)⟩
          · rw [if_neg c6] at H
            obtain ⟨c6b0, c6b1⟩ := neB_ c6
            by_cases c20 : ((rd_T52 l0 x7_1).f0) = 2
            · rw [if_pos c20] at H
              obtain ⟨c20b0, c20b1⟩ := eqB_ c20
              clear c20
              by_cases c21 : x6_1.length < 4398046511104
              · rw [if_pos c21] at H
                have LMc21 := Aside0.mk c21
                clear c21
                obtain ⟨y366, hy366⟩ : ∃ y_ : List (S40), y_ = (x6_1 ++ [(⟨(rd_T52 l0 x7_1).f2.f0, (rd_T52 l0 x7_1).f2.f1, (rd_T52 l0 x7_1).f2.f2⟩ : S40)]) := ⟨_, rfl⟩
                replace H : (constableref01_Eval.l0 k1 l0 l1 y366 (wrap64 (x7_1 + 1))) = some (r1, r2, r3, r4) := by first | (rw [hy366]; with_reducible exact H) | (have H2_ := (Option.bind_some _ _).symm.trans H; rw [hy366]; with_reducible exact H2_) | (have H2_ := (Option.bind_some _ _).symm.trans H; with_reducible exact H2_) | with_reducible exact H | (rw [hy366]; exact H) | exact H
                have Ny366 := Aside0.mk hy366
                clear hy366
                have H' := Aside0.mk H
                clear H
                have p355 : 0 ≤ (x7_1 : Int) := dt_
                have q355 : x7_1 < (l0.length : Int) := dt_
                obtain ⟨ad355, e355, hx355_0, hx355_1, hx355_2, hx355_3, hx355_4⟩ := at_T52 HR0.out x7_1 p355 q355
                cases e355
                replace hx355_0 := cm_ HB hx355_0
                replace hx355_1 := cm_ HB hx355_1
                replace hx355_2 := cm_ HB hx355_2
                replace hx355_3 := cm_ HB hx355_3
                replace hx355_4 := cm_ HB hx355_4
                replace p355 := eq_true p355
                replace q355 := eq_true q355
                have p365 : 0 ≤ (x7_1 : Int) := dt_
                have q365 : x7_1 < (l0.length : Int) := dt_
                obtain ⟨ad365, e365, hx365_0, hx365_1, hx365_2, hx365_3, hx365_4⟩ := at_T52 HR0.out x7_1 p365 q365
                obtain rfl : ad355 = ad365 := (by injection e365)
                replace hx365_0 := cm_ HB hx365_0
                replace hx365_1 := cm_ HB hx365_1
                replace hx365_2 := cm_ HB hx365_2
                replace hx365_3 := cm_ HB hx365_3
                replace hx365_4 := cm_ HB hx365_4
                replace p365 := eq_true p365
                replace q365 := eq_true q365
                go_wp2_with (first | ((with_reducible refine gate_builtin (b := .append) (xs := #[.tmp 93, .tmp 99]) rfl ?_); at_builtin; refine Kd.R_append k40 (w0 := w) w.heap.size rfl (.tmp 93) (.tmp 99) 64 40 (.agg #[(.int .i64 0), (.int .i64 0), (.string ⟨#[]⟩)]) 32 rfl Try.underlying64 info40 rfl (by decide) (by omega) u6 x6_1 (⟨(rd_T52 l0 x7_1).f2.f0, (rd_T52 l0 x7_1).f2.f1, (rd_T52 l0 x7_1).f2.f2⟩ : S40) [.int .i64 ((rd_T52 l0 x7_1).f2.f0), .int .i64 ((rd_T52 l0 x7_1).f2.f1), .string ((rd_T52 l0 x7_1).f2.f2)] (fun k_ => k_ ≠ gb353) (fun _ => False) rfl rfl ?aP (fun _ hk => hk.elim) ?aF ?aO ?aB ?aS ?aL ?_; (case aP => exact k40_mkM _ _ _ (⟨(rd_T52 l0 x7_1).f2.f0, (rd_T52 l0 x7_1).f2.f1, (rd_T52 l0 x7_1).f2.f2⟩ : S40)); (case aB => exact (be_ HB)); (case aF => exact (fun k_ hk => Kd.freshB (bu_ BK353) k_ hk)); (case aO => exact (ku_ HO_6.out)); (case aS => exact (below_size (be_ HB))); (case aL => have := LMc21.out; omega); intro v367 w22 ho hb hg hat; rw [← Ny366.out] at ho; have n0_ := Aside0.mk (blk_grown (bu_ BK353) hg (Kd.R_away HO_6.out (fun _ hk => hk))); have n1_ := Aside0.mk (hb); have n2_ := Aside0.mk (ho); clear BK353; clear HB; clear HO_6; have BK353 := n0_; have HB := n1_; have HO368 := n2_; clear n0_ n1_ n2_; clear ho hb hg hat))
                go_roundg k1
                case measure => have := HK1.out; omega
                case rel => exact ⟨(y366), (wrap64 (x7_1 + 1)), (x354000_1), (x354001_1), (x354002_1), ra_, H', ⟨by have := HK1.out; omega⟩, ⟨by (with_reducible repeat (first | apply Kd.R_alloc | apply Kd.R_drewN | apply Kd.R_drew)); exact HO368.out⟩, ⟨by (with_reducible repeat (first | refine blk_drewN ?_ _ | refine blk_drew ?_ | refine blk_alloc ?_ _)); exact BK353.out⟩, ⟨by repeat (first | (with_reducible first | exact HB.out | apply below_alloc | apply pw_below_drewN | apply below_drew1 | refine below_set ?_ GE353.out) | exact HB.out)⟩⟩
              · rw [if_neg c21] at H
                exact absurd H (by simp)
            · rw [if_neg c20] at H
              obtain ⟨c20b0, c20b1⟩ := neB_ c20
              obtain ⟨ji23, hji23⟩ : ∃ j_ : Int, (wrap64 ((x6_1.length : Int) - 2)) = j_ := ⟨_, rfl⟩
              replace H : (if 0 ≤ (ji23) then (if (ji23) < (x6_1.length : Int) then (if 0 ≤ (wrap64 ((x6_1.length : Int) - 1)) then (if (wrap64 ((x6_1.length : Int) - 1)) < (x6_1.length : Int) then (if ((rd_T40 x6_1 (ji23)).f0) = 1 then (constableref01_Eval.j1 k1 l0 l1 x6_1 x7_1 (((rd_T40 x6_1 (wrap64 ((x6_1.length : Int) - 1))).f0) != 1) ((rd_T40 x6_1 (ji23)).f0) ((rd_T40 x6_1 (ji23)).f1) ((rd_T40 x6_1 (ji23)).f2) ((rd_T40 x6_1 (wrap64 ((x6_1.length : Int) - 1))).f0) ((rd_T40 x6_1 (wrap64 ((x6_1.length : Int) - 1))).f1) ((rd_T40 x6_1 (wrap64 ((x6_1.length : Int) - 1))).f2)) else (constableref01_Eval.j1 k1 l0 l1 x6_1 x7_1 true ((rd_T40 x6_1 (ji23)).f0) ((rd_T40 x6_1 (ji23)).f1) ((rd_T40 x6_1 (ji23)).f2) ((rd_T40 x6_1 (wrap64 ((x6_1.length : Int) - 1))).f0) ((rd_T40 x6_1 (wrap64 ((x6_1.length : Int) - 1))).f1) ((rd_T40 x6_1 (wrap64 ((x6_1.length : Int) - 1))).f2))) else (none)) else (none)) else (none)) else (none)) = some (r1, r2, r3, r4) := by first | (rw [hji23] at H; exact H) | (simp only [hji23] at H ⊢; exact H)
              have hji23w : (IntKind.i64.wrap ((x6_1.length : Int) - 2)) = ji23 := (i64_w _).trans hji23
              by_cases c24 : 0 ≤ (ji23)
              · rw [if_pos c24] at H
                have c24b0 : decide (0 ≤ (ji23)) = true := decide_eq_true c24
                clear c24
                by_cases c25 : (ji23) < (x6_1.length : Int)
                · rw [if_pos c25] at H
                  have c25b0 : decide ((ji23) < (x6_1.length : Int)) = true := decide_eq_true c25
                  clear c25
                  obtain ⟨ji26, hji26⟩ : ∃ j_ : Int, (wrap64 ((x6_1.length : Int) - 1)) = j_ := ⟨_, rfl⟩
                  replace H : (if 0 ≤ (ji26) then (if (ji26) < (x6_1.length : Int) then (if ((rd_T40 x6_1 (ji23)).f0) = 1 then (constableref01_Eval.j1 k1 l0 l1 x6_1 x7_1 (((rd_T40 x6_1 (ji26)).f0) != 1) ((rd_T40 x6_1 (ji23)).f0) ((rd_T40 x6_1 (ji23)).f1) ((rd_T40 x6_1 (ji23)).f2) ((rd_T40 x6_1 (ji26)).f0) ((rd_T40 x6_1 (ji26)).f1) ((rd_T40 x6_1 (ji26)).f2)) else (constableref01_Eval.j1 k1 l0 l1 x6_1 x7_1 true ((rd_T40 x6_1 (ji23)).f0) ((rd_T40 x6_1 (ji23)).f1) ((rd_T40 x6_1 (ji23)).f2) ((rd_T40 x6_1 (ji26)).f0) ((rd_T40 x6_1 (ji26)).f1) ((rd_T40 x6_1 (ji26)).f2))) else (none)) else (none)) = some (r1, r2, r3, r4) := by first | (rw [hji26] at H; exact H) | (simp only [hji26] at H ⊢; exact H)
                  have hji26w : (IntKind.i64.wrap ((x6_1.length : Int) - 1)) = ji26 := (i64_w _).trans hji26
                  by_cases c27 : 0 ≤ (ji26)
                  · rw [if_pos c27] at H
                    have c27b0 : decide (0 ≤ (ji26)) = true := decide_eq_true c27
                    clear c27
                    by_cases c28 : (ji26) < (x6_1.length : Int)
                    · rw [if_pos c28] at H
                      have c28b0 : decide ((ji26) < (x6_1.length : Int)) = true := decide_eq_true c28
                      clear c28
                      have HC29 := Aside0.mk H
                      clear H
                      have p355 : 0 ≤ (x7_1 : Int) := dt_
                      have q355 : x7_1 < (l0.length : Int) := dt_
                      obtain ⟨ad355, e355, hx355_0, hx355_1, hx355_2, hx355_3, hx355_4⟩ := at_T52 HR0.out x7_1 p355 q355
                      cases e355
                      replace hx355_0 := cm_ HB hx355_0
                      replace hx355_1 := cm_ HB hx355_1
                      replace hx355_2 := cm_ HB hx355_2
                      replace hx355_3 := cm_ HB hx355_3
                      replace hx355_4 := cm_ HB hx355_4
                      replace p355 := eq_true p355
                      replace q355 := eq_true q355
                      try go_wp2
                      have n0_ := Aside0.mk (Kd.R_drew HO_6.out)
                      have n1_ := Aside0.mk (blk_drew BK353.out)
                      have n2_ := Aside0.mk (below_drew1 HB.out)
                      clear HO_6
                      clear BK353
                      clear HB
                      have HO_6 := n0_
                      have BK353 := n1_
                      have HB := n2_
                      clear n0_ n1_ n2_
                      obtain ⟨Ao31, co31, eo31⟩ := Kd.R_slice HO_6.out
                      (first | subst eo31 | (injection eo31 with f1_ f2_ f3_; have f4_ := f1_.symm; have f5_ := f3_.symm; clear f1_ f2_ f3_; subst f4_; subst f5_))
                      have p369 : 0 ≤ ((ji23) : Int) := dt_
                      have q369 : (ji23) < (x6_1.length : Int) := dt_
                      obtain ⟨ad369, e369, hx369_0, hx369_1, hx369_2⟩ := at_T40 (Kd.R_reads' HO_6.out).2.2 (ji23) p369 q369
                      cases e369
                      replace p369 := eq_true p369
                      replace q369 := eq_true q369
                      have p370 : 0 ≤ ((ji26) : Int) := dt_
                      have q370 : (ji26) < (x6_1.length : Int) := dt_
                      obtain ⟨ad370, e370, hx370_0, hx370_1, hx370_2⟩ := at_T40 (Kd.R_reads' HO_6.out).2.2 (ji26) p370 q370
                      obtain rfl : ad369 = ad370 := (by injection e370)
                      replace p370 := eq_true p370
                      replace q370 := eq_true q370
                      refine start_ (n := 16) (S := fun w' => w'.cell? (ad369.add (((ji23)).toNat * 3)) = some (.int .i64 ((rd_T40 x6_1 (ji23)).f0)) ∧ w'.cell? ⟨(ad369.add (((ji23)).toNat * 3)).block, (ad369.add (((ji23)).toNat * 3)).off + 1, none⟩ = some (.int .i64 ((rd_T40 x6_1 (ji23)).f1)) ∧ w'.cell? ⟨(ad369.add (((ji23)).toNat * 3)).block, (ad369.add (((ji23)).toNat * 3)).off + 2, none⟩ = some (.string ((rd_T40 x6_1 (ji23)).f2)) ∧ w'.cell? (ad369.add (((ji26)).toNat * 3)) = some (.int .i64 ((rd_T40 x6_1 (ji26)).f0)) ∧ w'.cell? ⟨(ad369.add (((ji26)).toNat * 3)).block, (ad369.add (((ji26)).toNat * 3)).off + 1, none⟩ = some (.int .i64 ((rd_T40 x6_1 (ji26)).f1)) ∧ w'.cell? ⟨(ad369.add (((ji26)).toNat * 3)).block, (ad369.add (((ji26)).toNat * 3)).off + 2, none⟩ = some (.string ((rd_T40 x6_1 (ji26)).f2))) (ds := []) (mk_ 16 0) (by kernel_rfl) rfl rfl ⟨hx369_0, hx369_1, hx369_2, hx370_0, hx370_1, hx370_2⟩ (fun hHeld => ?_); refine with_tabW constableref01_Eval.tab6 constableref01_Eval.bits6 (fun HT_ HW_ => ?_)
                      generalize wr.drew = w30 at HO_6 BK353 HB hx369_0 hx369_1 hx369_2 hx370_0 hx370_1 hx370_2 hHeld ⊢
                      refine pu_ 0 25 1 HT_ ?_; refine pu_ 1 26 3 HT_ ?_; refine pu_ 2 27 7 HT_ ?_; refine pu_ 3 28 15 HT_ ?_; refine pu_ 4 29 31 HT_ ?_; refine pu_ 6 31 95 HT_ ?_; refine pu_ 7 32 223 HT_ ?_; refine pu_ 8 33 479 HT_ ?_; refine pu_ 9 34 991 HT_ ?_; refine pu_ 10 35 2015 HT_ ?_; refine tk_ 5 30 2047 HT_ HW_ hHeld ?_; refine tk_ 11 36 4095 HT_ HW_ hHeld ?_
                      refine join_ (σ := Nat × Nat) 2 #[true, true, true, true, true, true, true, true, true, true, true, true, true, true, false, false] (fun s_ => [(10, .pointer (some ⟨s_.1, 0, none⟩)), (11, .pointer (some ⟨s_.2, 0, none⟩))]) (fun s_ w' => (w'.cell? (ad369.add (((ji23)).toNat * 3)) = some (.int .i64 ((rd_T40 x6_1 (ji23)).f0)) ∧ w'.cell? ⟨(ad369.add (((ji23)).toNat * 3)).block, (ad369.add (((ji23)).toNat * 3)).off + 1, none⟩ = some (.int .i64 ((rd_T40 x6_1 (ji23)).f1)) ∧ w'.cell? ⟨(ad369.add (((ji23)).toNat * 3)).block, (ad369.add (((ji23)).toNat * 3)).off + 2, none⟩ = some (.string ((rd_T40 x6_1 (ji23)).f2)) ∧ w'.cell? (ad369.add (((ji26)).toNat * 3)) = some (.int .i64 ((rd_T40 x6_1 (ji26)).f0)) ∧ w'.cell? ⟨(ad369.add (((ji26)).toNat * 3)).block, (ad369.add (((ji26)).toNat * 3)).off + 1, none⟩ = some (.int .i64 ((rd_T40 x6_1 (ji26)).f1)) ∧ w'.cell? ⟨(ad369.add (((ji26)).toNat * 3)).block, (ad369.add (((ji26)).toNat * 3)).off + 2, none⟩ = some (.string ((rd_T40 x6_1 (ji26)).f2))) ∧ (Kd.R k40 40 w' w.heap.size (fun k_ => k_ ≠ gb353 ∧ k_ ≠ s_.1 ∧ k_ ≠ s_.2) (.slice (some ad369) x6_1.length co31) x6_1) ∧ (w'.heap[gb353]? = some (.cells #[.int .i64 x354000_1, .int .i64 x354001_1, .string x354002_1] 40 (0, 0))) ∧ (w'.heap[s_.1]? = some (.cells #[.int .i64 0, .int .i64 0, .string (⟨#[]⟩ : ByteArray)] 40 (0, 0))) ∧ (w'.heap[s_.2]? = some (.cells #[.int .i64 0, .int .i64 0, .string (⟨#[]⟩ : ByteArray)] 40 (0, 0))) ∧ (w.heap.size ≤ s_.1) ∧ (w.heap.size ≤ s_.1) ∧ (gb353 ≠ s_.1) ∧ (s_.1 ≠ gb353) ∧ (s_.2 ≠ s_.1) ∧ (s_.1 ≠ s_.2) ∧ (w.heap.size ≤ s_.2) ∧ (w.heap.size ≤ s_.2) ∧ (gb353 ≠ s_.2) ∧ (s_.2 ≠ gb353) ∧ (Below w.heap.size w w')) ?_ ?_
                      rotate_left
                      · intro hCont
                        refine two_ (i := 12) (j := 13) (Ni := some 10) (Nj := some 11) (mk_ 16 8191) (mk_ 16 12287) rfl rfl rfl rfl (two_of HT_.out (by kernel_rfl)) (by decide) (by decide) (fun K hK => ?_) (fun K hK => ?_)
                        · skip
                          refine box_step ?hg (N := 10) ?hd (cs := #[.int .i64 0, .int .i64 0, .string (⟨#[]⟩ : ByteArray)]) (t := 40) ?hr ?_; (case hd => rfl); (case hg => rfl); (case hr => first | (go_simp; done) | (go_simp; rfl))
                          intro gb371 hg w32 hbox hb
                          have HS0_ := (hb.cell (World.block_lt_of_cell? _ _ (hHeld.1))).trans (hHeld.1)
                          have HS1_ := (hb.cell (World.block_lt_of_cell? _ _ (hHeld.2.1))).trans (hHeld.2.1)
                          have HS2_ := (hb.cell (World.block_lt_of_cell? _ _ (hHeld.2.2.1))).trans (hHeld.2.2.1)
                          have HS3_ := (hb.cell (World.block_lt_of_cell? _ _ (hHeld.2.2.2.1))).trans (hHeld.2.2.2.1)
                          have HS4_ := (hb.cell (World.block_lt_of_cell? _ _ (hHeld.2.2.2.2.1))).trans (hHeld.2.2.2.2.1)
                          have HS5_ := (hb.cell (World.block_lt_of_cell? _ _ (hHeld.2.2.2.2.2))).trans (hHeld.2.2.2.2.2)
                          have n0_ := Aside0.mk (Kd.R_below (Kd.R_elderB (ku_ HO_6.out) gb371 (Nat.le_of_eq hg.symm)) hb)
                          have n1_ := bb_ (bu_ BK353) hb
                          have n2_ := bs_ (be_ HB) hb
                          have n3_ := Aside0.mk (hbox)
                          have n4_ := gs_ hg (be_ HB)
                          have n5_ := gs_ hg (be_ HB)
                          have n6_ := nl_ hg (bu_ BK353)
                          have n7_ := ng_ hg (bu_ BK353)
                          clear HO_6
                          clear BK353
                          clear HB
                          have HO_6 := n0_
                          have BK353 := n1_
                          have HB := n2_
                          have BK371 := n3_
                          have GW371 := n4_
                          have GE371 := n5_
                          have NB353_371 := n6_
                          have NB371_353 := n7_
                          clear n0_ n1_ n2_ n3_ n4_ n5_ n6_ n7_
                          clear hb hbox hg
                          refine hK.out _ _ ⟨HS0_, HS1_, HS2_, HS3_, HS4_, HS5_⟩ (fun hHeld => ?_)
                          clear hK K
                          refine nm_ 10 ?_
                          refine one_ (i := 13) (N := some 11) (mk_ 16 16383) rfl rfl (one_of HT_.out (by kernel_rfl)) (by decide) (fun K hK => ?_)
                          refine box_step ?hg (N := 11) ?hd (cs := #[.int .i64 0, .int .i64 0, .string (⟨#[]⟩ : ByteArray)]) (t := 40) ?hr ?_; (case hd => rfl); (case hg => rfl); (case hr => first | (go_simp; done) | (go_simp; rfl))
                          intro gb372 hg w33 hbox hb
                          have HS0_ := (hb.cell (World.block_lt_of_cell? _ _ (hHeld.1))).trans (hHeld.1)
                          have HS1_ := (hb.cell (World.block_lt_of_cell? _ _ (hHeld.2.1))).trans (hHeld.2.1)
                          have HS2_ := (hb.cell (World.block_lt_of_cell? _ _ (hHeld.2.2.1))).trans (hHeld.2.2.1)
                          have HS3_ := (hb.cell (World.block_lt_of_cell? _ _ (hHeld.2.2.2.1))).trans (hHeld.2.2.2.1)
                          have HS4_ := (hb.cell (World.block_lt_of_cell? _ _ (hHeld.2.2.2.2.1))).trans (hHeld.2.2.2.2.1)
                          have HS5_ := (hb.cell (World.block_lt_of_cell? _ _ (hHeld.2.2.2.2.2))).trans (hHeld.2.2.2.2.2)
                          have n0_ := Aside0.mk (Kd.R_below (Kd.R_elderB (ku_ HO_6.out) gb372 (Nat.le_of_eq hg.symm)) hb)
                          have n1_ := bb_ (bu_ BK353) hb
                          have n2_ := bb_ (bu_ BK371) hb
                          have n3_ := bs_ (be_ HB) hb
                          have n4_ := Aside0.mk (hbox)
                          have n5_ := gs_ hg (be_ HB)
                          have n6_ := gs_ hg (be_ HB)
                          have n7_ := nl_ hg (bu_ BK353)
                          have n8_ := ng_ hg (bu_ BK353)
                          have n9_ := nl_ hg (bu_ BK371)
                          have n10_ := ng_ hg (bu_ BK371)
                          clear HO_6
                          clear BK353
                          clear BK371
                          clear HB
                          have HO_6 := n0_
                          have BK353 := n1_
                          have BK371 := n2_
                          have HB := n3_
                          have BK372 := n4_
                          have GW372 := n5_
                          have GE372 := n6_
                          have NB353_372 := n7_
                          have NB372_353 := n8_
                          have NB371_372 := n9_
                          have NB372_371 := n10_
                          clear n0_ n1_ n2_ n3_ n4_ n5_ n6_ n7_ n8_ n9_ n10_
                          clear hb hbox hg
                          refine hK.out _ _ ⟨HS0_, HS1_, HS2_, HS3_, HS4_, HS5_⟩ (fun hHeld => ?_)
                          clear hK K
                          refine nm_ 11 ?_
                          exact norm_ (by simp only [putAll, Act.put, List.setIfInBounds_toArray, List.set_cons_zero, List.set_cons_succ]) (hCont (gb371, gb372) _ ⟨hHeld, (by (with_reducible repeat (first | apply Kd.R_alloc | apply Kd.R_drewN | apply Kd.R_drew)); exact Kd.R_mono HO_6.out (fun _ hk => ⟨hk.1.1, ⟨hk.1.2, hk.2⟩⟩)), (bu_ BK353), (bu_ BK371), (bu_ BK372), GW371.out, GE371.out, NB353_371.out, NB371_353.out, NB372_371.out, NB371_372.out, GW372.out, GE372.out, NB353_372.out, NB372_353.out, (be_ HB)⟩)
                        · skip
                          refine box_step ?hg (N := 11) ?hd (cs := #[.int .i64 0, .int .i64 0, .string (⟨#[]⟩ : ByteArray)]) (t := 40) ?hr ?_; (case hd => rfl); (case hg => rfl); (case hr => first | (go_simp; done) | (go_simp; rfl))
                          intro gb372 hg w32 hbox hb
                          have HS0_ := (hb.cell (World.block_lt_of_cell? _ _ (hHeld.1))).trans (hHeld.1)
                          have HS1_ := (hb.cell (World.block_lt_of_cell? _ _ (hHeld.2.1))).trans (hHeld.2.1)
                          have HS2_ := (hb.cell (World.block_lt_of_cell? _ _ (hHeld.2.2.1))).trans (hHeld.2.2.1)
                          have HS3_ := (hb.cell (World.block_lt_of_cell? _ _ (hHeld.2.2.2.1))).trans (hHeld.2.2.2.1)
                          have HS4_ := (hb.cell (World.block_lt_of_cell? _ _ (hHeld.2.2.2.2.1))).trans (hHeld.2.2.2.2.1)
                          have HS5_ := (hb.cell (World.block_lt_of_cell? _ _ (hHeld.2.2.2.2.2))).trans (hHeld.2.2.2.2.2)
                          have n0_ := Aside0.mk (Kd.R_below (Kd.R_elderB (ku_ HO_6.out) gb372 (Nat.le_of_eq hg.symm)) hb)
                          have n1_ := bb_ (bu_ BK353) hb
                          have n2_ := bs_ (be_ HB) hb
                          have n3_ := Aside0.mk (hbox)
                          have n4_ := gs_ hg (be_ HB)
                          have n5_ := gs_ hg (be_ HB)
                          have n6_ := nl_ hg (bu_ BK353)
                          have n7_ := ng_ hg (bu_ BK353)
                          clear HO_6
                          clear BK353
                          clear HB
                          have HO_6 := n0_
                          have BK353 := n1_
                          have HB := n2_
                          have BK372 := n3_
                          have GW372 := n4_
                          have GE372 := n5_
                          have NB353_372 := n6_
                          have NB372_353 := n7_
                          clear n0_ n1_ n2_ n3_ n4_ n5_ n6_ n7_
                          clear hb hbox hg
                          refine hK.out _ _ ⟨HS0_, HS1_, HS2_, HS3_, HS4_, HS5_⟩ (fun hHeld => ?_)
                          clear hK K
                          refine nm_ 11 ?_
                          refine one_ (i := 12) (N := some 10) (mk_ 16 16383) rfl rfl (one_of HT_.out (by kernel_rfl)) (by decide) (fun K hK => ?_)
                          refine box_step ?hg (N := 10) ?hd (cs := #[.int .i64 0, .int .i64 0, .string (⟨#[]⟩ : ByteArray)]) (t := 40) ?hr ?_; (case hd => rfl); (case hg => rfl); (case hr => first | (go_simp; done) | (go_simp; rfl))
                          intro gb371 hg w33 hbox hb
                          have HS0_ := (hb.cell (World.block_lt_of_cell? _ _ (hHeld.1))).trans (hHeld.1)
                          have HS1_ := (hb.cell (World.block_lt_of_cell? _ _ (hHeld.2.1))).trans (hHeld.2.1)
                          have HS2_ := (hb.cell (World.block_lt_of_cell? _ _ (hHeld.2.2.1))).trans (hHeld.2.2.1)
                          have HS3_ := (hb.cell (World.block_lt_of_cell? _ _ (hHeld.2.2.2.1))).trans (hHeld.2.2.2.1)
                          have HS4_ := (hb.cell (World.block_lt_of_cell? _ _ (hHeld.2.2.2.2.1))).trans (hHeld.2.2.2.2.1)
                          have HS5_ := (hb.cell (World.block_lt_of_cell? _ _ (hHeld.2.2.2.2.2))).trans (hHeld.2.2.2.2.2)
                          have n0_ := Aside0.mk (Kd.R_below (Kd.R_elderB (ku_ HO_6.out) gb371 (Nat.le_of_eq hg.symm)) hb)
                          have n1_ := bb_ (bu_ BK353) hb
                          have n2_ := bb_ (bu_ BK372) hb
                          have n3_ := bs_ (be_ HB) hb
                          have n4_ := Aside0.mk (hbox)
                          have n5_ := gs_ hg (be_ HB)
                          have n6_ := gs_ hg (be_ HB)
                          have n7_ := nl_ hg (bu_ BK353)
                          have n8_ := ng_ hg (bu_ BK353)
                          have n9_ := nl_ hg (bu_ BK372)
                          have n10_ := ng_ hg (bu_ BK372)
                          clear HO_6
                          clear BK353
                          clear BK372
                          clear HB
                          have HO_6 := n0_
                          have BK353 := n1_
                          have BK372 := n2_
                          have HB := n3_
                          have BK371 := n4_
                          have GW371 := n5_
                          have GE371 := n6_
                          have NB353_371 := n7_
                          have NB371_353 := n8_
                          have NB372_371 := n9_
                          have NB371_372 := n10_
                          clear n0_ n1_ n2_ n3_ n4_ n5_ n6_ n7_ n8_ n9_ n10_
                          clear hb hbox hg
                          refine hK.out _ _ ⟨HS0_, HS1_, HS2_, HS3_, HS4_, HS5_⟩ (fun hHeld => ?_)
                          clear hK K
                          refine nm_ 10 ?_
                          exact norm_ (by simp only [putAll, Act.put, List.setIfInBounds_toArray, List.set_cons_zero, List.set_cons_succ]) (hCont (gb371, gb372) _ ⟨hHeld, (by (with_reducible repeat (first | apply Kd.R_alloc | apply Kd.R_drewN | apply Kd.R_drew)); exact Kd.R_mono HO_6.out (fun _ hk => ⟨hk.1.1, ⟨hk.2, hk.1.2⟩⟩)), (bu_ BK353), (bu_ BK371), (bu_ BK372), GW371.out, GE371.out, NB353_371.out, NB371_353.out, NB372_371.out, NB371_372.out, GW372.out, GE372.out, NB353_372.out, NB372_353.out, (be_ HB)⟩)
                      rintro ⟨gb371, gb372⟩ w34 ⟨hS_, h0_, h1_, h2_, h3_, h4_, h5_, h6_, h7_, h8_, h9_, h10_, h11_, h12_, h13_, h14_⟩
                      have n0_ : Aside0 (Kd.R k40 40 w34 w.heap.size (fun k_ => k_ ≠ gb353 ∧ k_ ≠ gb371 ∧ k_ ≠ gb372) (.slice (some ad369) x6_1.length co31) x6_1) := ⟨h0_⟩
                      have n1_ : Aside0 (w34.heap[gb353]? = some (.cells #[.int .i64 x354000_1, .int .i64 x354001_1, .string x354002_1] 40 (0, 0))) := ⟨h1_⟩
                      have n2_ : Aside0 (w34.heap[gb371]? = some (.cells #[.int .i64 0, .int .i64 0, .string (⟨#[]⟩ : ByteArray)] 40 (0, 0))) := ⟨h2_⟩
                      have n3_ : Aside0 (w34.heap[gb372]? = some (.cells #[.int .i64 0, .int .i64 0, .string (⟨#[]⟩ : ByteArray)] 40 (0, 0))) := ⟨h3_⟩
                      have n4_ : Aside0 (w.heap.size ≤ gb371) := ⟨h4_⟩
                      have n5_ : Aside0 (w.heap.size ≤ gb371) := ⟨h5_⟩
                      have n6_ : Aside0 (gb353 ≠ gb371) := ⟨h6_⟩
                      have n7_ : Aside0 (gb371 ≠ gb353) := ⟨h7_⟩
                      have n8_ : Aside0 (gb372 ≠ gb371) := ⟨h8_⟩
                      have n9_ : Aside0 (gb371 ≠ gb372) := ⟨h9_⟩
                      have n10_ : Aside0 (w.heap.size ≤ gb372) := ⟨h10_⟩
                      have n11_ : Aside0 (w.heap.size ≤ gb372) := ⟨h11_⟩
                      have n12_ : Aside0 (gb353 ≠ gb372) := ⟨h12_⟩
                      have n13_ : Aside0 (gb372 ≠ gb353) := ⟨h13_⟩
                      have n14_ : Aside0 (Below w.heap.size w w34) := ⟨h14_⟩
                      clear HO_6
                      clear BK353
                      clear HB
                      clear h0_ h1_ h2_ h3_ h4_ h5_ h6_ h7_ h8_ h9_ h10_ h11_ h12_ h13_ h14_
                      have HO_6 := n0_
                      have BK353 := n1_
                      have BK371 := n2_
                      have BK372 := n3_
                      have GW371 := n4_
                      have GE371 := n5_
                      have NB353_371 := n6_
                      have NB371_353 := n7_
                      have NB372_371 := n8_
                      have NB371_372 := n9_
                      have GW372 := n10_
                      have GE372 := n11_
                      have NB353_372 := n12_
                      have NB372_353 := n13_
                      have HB := n14_
                      clear n0_ n1_ n2_ n3_ n4_ n5_ n6_ n7_ n8_ n9_ n10_ n11_ n12_ n13_ n14_
                      have hHeld : w34.cell? (ad369.add (((ji23)).toNat * 3)) = some (.int .i64 ((rd_T40 x6_1 (ji23)).f0)) ∧ w34.cell? ⟨(ad369.add (((ji23)).toNat * 3)).block, (ad369.add (((ji23)).toNat * 3)).off + 1, none⟩ = some (.int .i64 ((rd_T40 x6_1 (ji23)).f1)) ∧ w34.cell? ⟨(ad369.add (((ji23)).toNat * 3)).block, (ad369.add (((ji23)).toNat * 3)).off + 2, none⟩ = some (.string ((rd_T40 x6_1 (ji23)).f2)) ∧ w34.cell? (ad369.add (((ji26)).toNat * 3)) = some (.int .i64 ((rd_T40 x6_1 (ji26)).f0)) ∧ w34.cell? ⟨(ad369.add (((ji26)).toNat * 3)).block, (ad369.add (((ji26)).toNat * 3)).off + 1, none⟩ = some (.int .i64 ((rd_T40 x6_1 (ji26)).f1)) ∧ w34.cell? ⟨(ad369.add (((ji26)).toNat * 3)).block, (ad369.add (((ji26)).toNat * 3)).off + 2, none⟩ = some (.string ((rd_T40 x6_1 (ji26)).f2)) := hS_
                      refine norm_ (a' := ?_) ?_ ?_
                      rotate_left
                      · simp only [putAll, Act.put, List.setIfInBounds_toArray, List.set_cons_zero, List.set_cons_succ]
                        rfl
                      refine one_ (i := 14) (N := none) (mk_ 16 32767) rfl rfl (one_of HT_.out (by kernel_rfl)) (by decide) (fun K hK => ?_)
                      have hs35 : w34.cell? ⟨gb371, 0, none⟩ = some (.int .i64 0) := (blk_cell BK371.out 0).trans rfl
                      have hfs35 := blk_frozen BK371.out 0
                      have hns35_0 := NB353_371.out
                      have hns35_2 := NB372_371.out
                      have hms35_0 := NB371_353.out
                      have hms35_2 := NB371_372.out
                      have hs36 : w34.cell? ⟨gb371, 1, none⟩ = some (.int .i64 0) := (blk_cell BK371.out 1).trans rfl
                      have hfs36 := blk_frozen BK371.out 1
                      have hns36_0 := NB353_371.out
                      have hns36_2 := NB372_371.out
                      have hms36_0 := NB371_353.out
                      have hms36_2 := NB371_372.out
                      have hs37 : w34.cell? ⟨gb371, 2, none⟩ = some (.string (⟨#[]⟩ : ByteArray)) := (blk_cell BK371.out 2).trans rfl
                      have hfs37 := blk_frozen BK371.out 2
                      have hns37_0 := NB353_371.out
                      have hns37_2 := NB372_371.out
                      have hms37_0 := NB371_353.out
                      have hms37_2 := NB371_372.out
                      refine skip_ (w1 := ?_) (by rfl) rfl ?_ ?_
                      rotate_left
                      · go_simp
                        rfl
                      refine hK.out _ _ ⟨((cell_far (p := ⟨gb371, _, none⟩) (by first | exact Kd.own_blk (Kd.R_away HO_6.out (fun _ hk => hk.2.1)) | (rw [add_block]; exact Kd.own_blk (Kd.R_away HO_6.out (fun _ hk => hk.2.1))) | (show (Addr.add _ _).block ≠ _; rw [add_block]; exact Kd.own_blk (Kd.R_away HO_6.out (fun _ hk => hk.2.1))) | (dsimp only; exact Kd.own_blk (Kd.R_away HO_6.out (fun _ hk => hk.2.1)))) _).trans (((cell_far (p := ⟨gb371, _, none⟩) (by first | exact Kd.own_blk (Kd.R_away HO_6.out (fun _ hk => hk.2.1)) | (rw [add_block]; exact Kd.own_blk (Kd.R_away HO_6.out (fun _ hk => hk.2.1))) | (show (Addr.add _ _).block ≠ _; rw [add_block]; exact Kd.own_blk (Kd.R_away HO_6.out (fun _ hk => hk.2.1))) | (dsimp only; exact Kd.own_blk (Kd.R_away HO_6.out (fun _ hk => hk.2.1)))) _).trans (((cell_far (p := ⟨gb371, _, none⟩) (by first | exact Kd.own_blk (Kd.R_away HO_6.out (fun _ hk => hk.2.1)) | (rw [add_block]; exact Kd.own_blk (Kd.R_away HO_6.out (fun _ hk => hk.2.1))) | (show (Addr.add _ _).block ≠ _; rw [add_block]; exact Kd.own_blk (Kd.R_away HO_6.out (fun _ hk => hk.2.1))) | (dsimp only; exact Kd.own_blk (Kd.R_away HO_6.out (fun _ hk => hk.2.1)))) _).trans (hHeld.1)))))), ((cell_far (p := ⟨gb371, _, none⟩) (by first | exact Kd.own_blk (Kd.R_away HO_6.out (fun _ hk => hk.2.1)) | (rw [add_block]; exact Kd.own_blk (Kd.R_away HO_6.out (fun _ hk => hk.2.1))) | (show (Addr.add _ _).block ≠ _; rw [add_block]; exact Kd.own_blk (Kd.R_away HO_6.out (fun _ hk => hk.2.1))) | (dsimp only; exact Kd.own_blk (Kd.R_away HO_6.out (fun _ hk => hk.2.1)))) _).trans (((cell_far (p := ⟨gb371, _, none⟩) (by first | exact Kd.own_blk (Kd.R_away HO_6.out (fun _ hk => hk.2.1)) | (rw [add_block]; exact Kd.own_blk (Kd.R_away HO_6.out (fun _ hk => hk.2.1))) | (show (Addr.add _ _).block ≠ _; rw [add_block]; exact Kd.own_blk (Kd.R_away HO_6.out (fun _ hk => hk.2.1))) | (dsimp only; exact Kd.own_blk (Kd.R_away HO_6.out (fun _ hk => hk.2.1)))) _).trans (((cell_far (p := ⟨gb371, _, none⟩) (by first | exact Kd.own_blk (Kd.R_away HO_6.out (fun _ hk => hk.2.1)) | (rw [add_block]; exact Kd.own_blk (Kd.R_away HO_6.out (fun _ hk => hk.2.1))) | (show (Addr.add _ _).block ≠ _; rw [add_block]; exact Kd.own_blk (Kd.R_away HO_6.out (fun _ hk => hk.2.1))) | (dsimp only; exact Kd.own_blk (Kd.R_away HO_6.out (fun _ hk => hk.2.1)))) _).trans (hHeld.2.1)))))), ((cell_far (p := ⟨gb371, _, none⟩) (by first | exact Kd.own_blk (Kd.R_away HO_6.out (fun _ hk => hk.2.1)) | (rw [add_block]; exact Kd.own_blk (Kd.R_away HO_6.out (fun _ hk => hk.2.1))) | (show (Addr.add _ _).block ≠ _; rw [add_block]; exact Kd.own_blk (Kd.R_away HO_6.out (fun _ hk => hk.2.1))) | (dsimp only; exact Kd.own_blk (Kd.R_away HO_6.out (fun _ hk => hk.2.1)))) _).trans (((cell_far (p := ⟨gb371, _, none⟩) (by first | exact Kd.own_blk (Kd.R_away HO_6.out (fun _ hk => hk.2.1)) | (rw [add_block]; exact Kd.own_blk (Kd.R_away HO_6.out (fun _ hk => hk.2.1))) | (show (Addr.add _ _).block ≠ _; rw [add_block]; exact Kd.own_blk (Kd.R_away HO_6.out (fun _ hk => hk.2.1))) | (dsimp only; exact Kd.own_blk (Kd.R_away HO_6.out (fun _ hk => hk.2.1)))) _).trans (((cell_far (p := ⟨gb371, _, none⟩) (by first | exact Kd.own_blk (Kd.R_away HO_6.out (fun _ hk => hk.2.1)) | (rw [add_block]; exact Kd.own_blk (Kd.R_away HO_6.out (fun _ hk => hk.2.1))) | (show (Addr.add _ _).block ≠ _; rw [add_block]; exact Kd.own_blk (Kd.R_away HO_6.out (fun _ hk => hk.2.1))) | (dsimp only; exact Kd.own_blk (Kd.R_away HO_6.out (fun _ hk => hk.2.1)))) _).trans (hHeld.2.2.1)))))), ((cell_far (p := ⟨gb371, _, none⟩) (by first | exact Kd.own_blk (Kd.R_away HO_6.out (fun _ hk => hk.2.1)) | (rw [add_block]; exact Kd.own_blk (Kd.R_away HO_6.out (fun _ hk => hk.2.1))) | (show (Addr.add _ _).block ≠ _; rw [add_block]; exact Kd.own_blk (Kd.R_away HO_6.out (fun _ hk => hk.2.1))) | (dsimp only; exact Kd.own_blk (Kd.R_away HO_6.out (fun _ hk => hk.2.1)))) _).trans (((cell_far (p := ⟨gb371, _, none⟩) (by first | exact Kd.own_blk (Kd.R_away HO_6.out (fun _ hk => hk.2.1)) | (rw [add_block]; exact Kd.own_blk (Kd.R_away HO_6.out (fun _ hk => hk.2.1))) | (show (Addr.add _ _).block ≠ _; rw [add_block]; exact Kd.own_blk (Kd.R_away HO_6.out (fun _ hk => hk.2.1))) | (dsimp only; exact Kd.own_blk (Kd.R_away HO_6.out (fun _ hk => hk.2.1)))) _).trans (((cell_far (p := ⟨gb371, _, none⟩) (by first | exact Kd.own_blk (Kd.R_away HO_6.out (fun _ hk => hk.2.1)) | (rw [add_block]; exact Kd.own_blk (Kd.R_away HO_6.out (fun _ hk => hk.2.1))) | (show (Addr.add _ _).block ≠ _; rw [add_block]; exact Kd.own_blk (Kd.R_away HO_6.out (fun _ hk => hk.2.1))) | (dsimp only; exact Kd.own_blk (Kd.R_away HO_6.out (fun _ hk => hk.2.1)))) _).trans (hHeld.2.2.2.1)))))), ((cell_far (p := ⟨gb371, _, none⟩) (by first | exact Kd.own_blk (Kd.R_away HO_6.out (fun _ hk => hk.2.1)) | (rw [add_block]; exact Kd.own_blk (Kd.R_away HO_6.out (fun _ hk => hk.2.1))) | (show (Addr.add _ _).block ≠ _; rw [add_block]; exact Kd.own_blk (Kd.R_away HO_6.out (fun _ hk => hk.2.1))) | (dsimp only; exact Kd.own_blk (Kd.R_away HO_6.out (fun _ hk => hk.2.1)))) _).trans (((cell_far (p := ⟨gb371, _, none⟩) (by first | exact Kd.own_blk (Kd.R_away HO_6.out (fun _ hk => hk.2.1)) | (rw [add_block]; exact Kd.own_blk (Kd.R_away HO_6.out (fun _ hk => hk.2.1))) | (show (Addr.add _ _).block ≠ _; rw [add_block]; exact Kd.own_blk (Kd.R_away HO_6.out (fun _ hk => hk.2.1))) | (dsimp only; exact Kd.own_blk (Kd.R_away HO_6.out (fun _ hk => hk.2.1)))) _).trans (((cell_far (p := ⟨gb371, _, none⟩) (by first | exact Kd.own_blk (Kd.R_away HO_6.out (fun _ hk => hk.2.1)) | (rw [add_block]; exact Kd.own_blk (Kd.R_away HO_6.out (fun _ hk => hk.2.1))) | (show (Addr.add _ _).block ≠ _; rw [add_block]; exact Kd.own_blk (Kd.R_away HO_6.out (fun _ hk => hk.2.1))) | (dsimp only; exact Kd.own_blk (Kd.R_away HO_6.out (fun _ hk => hk.2.1)))) _).trans (hHeld.2.2.2.2.1)))))), ((cell_far (p := ⟨gb371, _, none⟩) (by first | exact Kd.own_blk (Kd.R_away HO_6.out (fun _ hk => hk.2.1)) | (rw [add_block]; exact Kd.own_blk (Kd.R_away HO_6.out (fun _ hk => hk.2.1))) | (show (Addr.add _ _).block ≠ _; rw [add_block]; exact Kd.own_blk (Kd.R_away HO_6.out (fun _ hk => hk.2.1))) | (dsimp only; exact Kd.own_blk (Kd.R_away HO_6.out (fun _ hk => hk.2.1)))) _).trans (((cell_far (p := ⟨gb371, _, none⟩) (by first | exact Kd.own_blk (Kd.R_away HO_6.out (fun _ hk => hk.2.1)) | (rw [add_block]; exact Kd.own_blk (Kd.R_away HO_6.out (fun _ hk => hk.2.1))) | (show (Addr.add _ _).block ≠ _; rw [add_block]; exact Kd.own_blk (Kd.R_away HO_6.out (fun _ hk => hk.2.1))) | (dsimp only; exact Kd.own_blk (Kd.R_away HO_6.out (fun _ hk => hk.2.1)))) _).trans (((cell_far (p := ⟨gb371, _, none⟩) (by first | exact Kd.own_blk (Kd.R_away HO_6.out (fun _ hk => hk.2.1)) | (rw [add_block]; exact Kd.own_blk (Kd.R_away HO_6.out (fun _ hk => hk.2.1))) | (show (Addr.add _ _).block ≠ _; rw [add_block]; exact Kd.own_blk (Kd.R_away HO_6.out (fun _ hk => hk.2.1))) | (dsimp only; exact Kd.own_blk (Kd.R_away HO_6.out (fun _ hk => hk.2.1)))) _).trans (hHeld.2.2.2.2.2))))))⟩ (fun hHeld => ?_)
                      clear hK K
                      refine one_ (i := 15) (N := none) (mk_ 16 65535) rfl rfl (one_of HT_.out (by kernel_rfl)) (by decide) (fun K hK => ?_)
                      have hs38 : w34.cell? ⟨gb372, 0, none⟩ = some (.int .i64 0) := (blk_cell BK372.out 0).trans rfl
                      have hfs38 := blk_frozen BK372.out 0
                      have hns38_0 := NB353_372.out
                      have hns38_1 := NB371_372.out
                      have hms38_0 := NB372_353.out
                      have hms38_1 := NB372_371.out
                      have hs39 : w34.cell? ⟨gb372, 1, none⟩ = some (.int .i64 0) := (blk_cell BK372.out 1).trans rfl
                      have hfs39 := blk_frozen BK372.out 1
                      have hns39_0 := NB353_372.out
                      have hns39_1 := NB371_372.out
                      have hms39_0 := NB372_353.out
                      have hms39_1 := NB372_371.out
                      have hs40 : w34.cell? ⟨gb372, 2, none⟩ = some (.string (⟨#[]⟩ : ByteArray)) := (blk_cell BK372.out 2).trans rfl
                      have hfs40 := blk_frozen BK372.out 2
                      have hns40_0 := NB353_372.out
                      have hns40_1 := NB371_372.out
                      have hms40_0 := NB372_353.out
                      have hms40_1 := NB372_371.out
                      refine skip_ (w1 := ?_) (by rfl) rfl ?_ ?_
                      rotate_left
                      · go_simp
                        rfl
                      refine hK.out _ _ ⟨((cell_far (p := ⟨gb372, _, none⟩) (by first | exact Kd.own_blk (Kd.R_away HO_6.out (fun _ hk => hk.2.2)) | (rw [add_block]; exact Kd.own_blk (Kd.R_away HO_6.out (fun _ hk => hk.2.2))) | (show (Addr.add _ _).block ≠ _; rw [add_block]; exact Kd.own_blk (Kd.R_away HO_6.out (fun _ hk => hk.2.2))) | (dsimp only; exact Kd.own_blk (Kd.R_away HO_6.out (fun _ hk => hk.2.2)))) _).trans (((cell_far (p := ⟨gb372, _, none⟩) (by first | exact Kd.own_blk (Kd.R_away HO_6.out (fun _ hk => hk.2.2)) | (rw [add_block]; exact Kd.own_blk (Kd.R_away HO_6.out (fun _ hk => hk.2.2))) | (show (Addr.add _ _).block ≠ _; rw [add_block]; exact Kd.own_blk (Kd.R_away HO_6.out (fun _ hk => hk.2.2))) | (dsimp only; exact Kd.own_blk (Kd.R_away HO_6.out (fun _ hk => hk.2.2)))) _).trans (((cell_far (p := ⟨gb372, _, none⟩) (by first | exact Kd.own_blk (Kd.R_away HO_6.out (fun _ hk => hk.2.2)) | (rw [add_block]; exact Kd.own_blk (Kd.R_away HO_6.out (fun _ hk => hk.2.2))) | (show (Addr.add _ _).block ≠ _; rw [add_block]; exact Kd.own_blk (Kd.R_away HO_6.out (fun _ hk => hk.2.2))) | (dsimp only; exact Kd.own_blk (Kd.R_away HO_6.out (fun _ hk => hk.2.2)))) _).trans (hHeld.1)))))), ((cell_far (p := ⟨gb372, _, none⟩) (by first | exact Kd.own_blk (Kd.R_away HO_6.out (fun _ hk => hk.2.2)) | (rw [add_block]; exact Kd.own_blk (Kd.R_away HO_6.out (fun _ hk => hk.2.2))) | (show (Addr.add _ _).block ≠ _; rw [add_block]; exact Kd.own_blk (Kd.R_away HO_6.out (fun _ hk => hk.2.2))) | (dsimp only; exact Kd.own_blk (Kd.R_away HO_6.out (fun _ hk => hk.2.2)))) _).trans (((cell_far (p := ⟨gb372, _, none⟩) (by first | exact Kd.own_blk (Kd.R_away HO_6.out (fun _ hk => hk.2.2)) | (rw [add_block]; exact Kd.own_blk (Kd.R_away HO_6.out (fun _ hk => hk.2.2))) | (show (Addr.add _ _).block ≠ _; rw [add_block]; exact Kd.own_blk (Kd.R_away HO_6.out (fun _ hk => hk.2.2))) | (dsimp only; exact Kd.own_blk (Kd.R_away HO_6.out (fun _ hk => hk.2.2)))) _).trans (((cell_far (p := ⟨gb372, _, none⟩) (by first | exact Kd.own_blk (Kd.R_away HO_6.out (fun _ hk => hk.2.2)) | (rw [add_block]; exact Kd.own_blk (Kd.R_away HO_6.out (fun _ hk => hk.2.2))) | (show (Addr.add _ _).block ≠ _; rw [add_block]; exact Kd.own_blk (Kd.R_away HO_6.out (fun _ hk => hk.2.2))) | (dsimp only; exact Kd.own_blk (Kd.R_away HO_6.out (fun _ hk => hk.2.2)))) _).trans (hHeld.2.1)))))), ((cell_far (p := ⟨gb372, _, none⟩) (by first | exact Kd.own_blk (Kd.R_away HO_6.out (fun _ hk => hk.2.2)) | (rw [add_block]; exact Kd.own_blk (Kd.R_away HO_6.out (fun _ hk => hk.2.2))) | (show (Addr.add _ _).block ≠ _; rw [add_block]; exact Kd.own_blk (Kd.R_away HO_6.out (fun _ hk => hk.2.2))) | (dsimp only; exact Kd.own_blk (Kd.R_away HO_6.out (fun _ hk => hk.2.2)))) _).trans (((cell_far (p := ⟨gb372, _, none⟩) (by first | exact Kd.own_blk (Kd.R_away HO_6.out (fun _ hk => hk.2.2)) | (rw [add_block]; exact Kd.own_blk (Kd.R_away HO_6.out (fun _ hk => hk.2.2))) | (show (Addr.add _ _).block ≠ _; rw [add_block]; exact Kd.own_blk (Kd.R_away HO_6.out (fun _ hk => hk.2.2))) | (dsimp only; exact Kd.own_blk (Kd.R_away HO_6.out (fun _ hk => hk.2.2)))) _).trans (((cell_far (p := ⟨gb372, _, none⟩) (by first | exact Kd.own_blk (Kd.R_away HO_6.out (fun _ hk => hk.2.2)) | (rw [add_block]; exact Kd.own_blk (Kd.R_away HO_6.out (fun _ hk => hk.2.2))) | (show (Addr.add _ _).block ≠ _; rw [add_block]; exact Kd.own_blk (Kd.R_away HO_6.out (fun _ hk => hk.2.2))) | (dsimp only; exact Kd.own_blk (Kd.R_away HO_6.out (fun _ hk => hk.2.2)))) _).trans (hHeld.2.2.1)))))), ((cell_far (p := ⟨gb372, _, none⟩) (by first | exact Kd.own_blk (Kd.R_away HO_6.out (fun _ hk => hk.2.2)) | (rw [add_block]; exact Kd.own_blk (Kd.R_away HO_6.out (fun _ hk => hk.2.2))) | (show (Addr.add _ _).block ≠ _; rw [add_block]; exact Kd.own_blk (Kd.R_away HO_6.out (fun _ hk => hk.2.2))) | (dsimp only; exact Kd.own_blk (Kd.R_away HO_6.out (fun _ hk => hk.2.2)))) _).trans (((cell_far (p := ⟨gb372, _, none⟩) (by first | exact Kd.own_blk (Kd.R_away HO_6.out (fun _ hk => hk.2.2)) | (rw [add_block]; exact Kd.own_blk (Kd.R_away HO_6.out (fun _ hk => hk.2.2))) | (show (Addr.add _ _).block ≠ _; rw [add_block]; exact Kd.own_blk (Kd.R_away HO_6.out (fun _ hk => hk.2.2))) | (dsimp only; exact Kd.own_blk (Kd.R_away HO_6.out (fun _ hk => hk.2.2)))) _).trans (((cell_far (p := ⟨gb372, _, none⟩) (by first | exact Kd.own_blk (Kd.R_away HO_6.out (fun _ hk => hk.2.2)) | (rw [add_block]; exact Kd.own_blk (Kd.R_away HO_6.out (fun _ hk => hk.2.2))) | (show (Addr.add _ _).block ≠ _; rw [add_block]; exact Kd.own_blk (Kd.R_away HO_6.out (fun _ hk => hk.2.2))) | (dsimp only; exact Kd.own_blk (Kd.R_away HO_6.out (fun _ hk => hk.2.2)))) _).trans (hHeld.2.2.2.1)))))), ((cell_far (p := ⟨gb372, _, none⟩) (by first | exact Kd.own_blk (Kd.R_away HO_6.out (fun _ hk => hk.2.2)) | (rw [add_block]; exact Kd.own_blk (Kd.R_away HO_6.out (fun _ hk => hk.2.2))) | (show (Addr.add _ _).block ≠ _; rw [add_block]; exact Kd.own_blk (Kd.R_away HO_6.out (fun _ hk => hk.2.2))) | (dsimp only; exact Kd.own_blk (Kd.R_away HO_6.out (fun _ hk => hk.2.2)))) _).trans (((cell_far (p := ⟨gb372, _, none⟩) (by first | exact Kd.own_blk (Kd.R_away HO_6.out (fun _ hk => hk.2.2)) | (rw [add_block]; exact Kd.own_blk (Kd.R_away HO_6.out (fun _ hk => hk.2.2))) | (show (Addr.add _ _).block ≠ _; rw [add_block]; exact Kd.own_blk (Kd.R_away HO_6.out (fun _ hk => hk.2.2))) | (dsimp only; exact Kd.own_blk (Kd.R_away HO_6.out (fun _ hk => hk.2.2)))) _).trans (((cell_far (p := ⟨gb372, _, none⟩) (by first | exact Kd.own_blk (Kd.R_away HO_6.out (fun _ hk => hk.2.2)) | (rw [add_block]; exact Kd.own_blk (Kd.R_away HO_6.out (fun _ hk => hk.2.2))) | (show (Addr.add _ _).block ≠ _; rw [add_block]; exact Kd.own_blk (Kd.R_away HO_6.out (fun _ hk => hk.2.2))) | (dsimp only; exact Kd.own_blk (Kd.R_away HO_6.out (fun _ hk => hk.2.2)))) _).trans (hHeld.2.2.2.2.1)))))), ((cell_far (p := ⟨gb372, _, none⟩) (by first | exact Kd.own_blk (Kd.R_away HO_6.out (fun _ hk => hk.2.2)) | (rw [add_block]; exact Kd.own_blk (Kd.R_away HO_6.out (fun _ hk => hk.2.2))) | (show (Addr.add _ _).block ≠ _; rw [add_block]; exact Kd.own_blk (Kd.R_away HO_6.out (fun _ hk => hk.2.2))) | (dsimp only; exact Kd.own_blk (Kd.R_away HO_6.out (fun _ hk => hk.2.2)))) _).trans (((cell_far (p := ⟨gb372, _, none⟩) (by first | exact Kd.own_blk (Kd.R_away HO_6.out (fun _ hk => hk.2.2)) | (rw [add_block]; exact Kd.own_blk (Kd.R_away HO_6.out (fun _ hk => hk.2.2))) | (show (Addr.add _ _).block ≠ _; rw [add_block]; exact Kd.own_blk (Kd.R_away HO_6.out (fun _ hk => hk.2.2))) | (dsimp only; exact Kd.own_blk (Kd.R_away HO_6.out (fun _ hk => hk.2.2)))) _).trans (((cell_far (p := ⟨gb372, _, none⟩) (by first | exact Kd.own_blk (Kd.R_away HO_6.out (fun _ hk => hk.2.2)) | (rw [add_block]; exact Kd.own_blk (Kd.R_away HO_6.out (fun _ hk => hk.2.2))) | (show (Addr.add _ _).block ≠ _; rw [add_block]; exact Kd.own_blk (Kd.R_away HO_6.out (fun _ hk => hk.2.2))) | (dsimp only; exact Kd.own_blk (Kd.R_away HO_6.out (fun _ hk => hk.2.2)))) _).trans (hHeld.2.2.2.2.2))))))⟩ (fun hHeld => ?_)
                      clear hK K
                      refine done_ (done_of HT_.out (by kernel_rfl)) ?_
                      go_upto_region 7 with (fail)
                      go_cut [44] (fun v44 wc => ∃ (kq : Nat) (x44_28 : Bool), v44 = .bool x44_28 ∧ Aside0 (constableref01_Eval.j1 kq l0 l1 x6_1 x7_1 x44_28 ((rd_T40 x6_1 (ji23)).f0) ((rd_T40 x6_1 (ji23)).f1) ((rd_T40 x6_1 (ji23)).f2) ((rd_T40 x6_1 (ji26)).f0) ((rd_T40 x6_1 (ji26)).f1) ((rd_T40 x6_1 (ji26)).f2) = some (r1, r2, r3, r4)) ∧ Aside0 (kq ≤ k1) ∧ Aside0 (Kd.R k40 40 wc w.heap.size (fun k_ => k_ ≠ gb353 ∧ k_ ≠ gb371 ∧ k_ ≠ gb372) (.slice (some ad369) x6_1.length co31) x6_1) ∧ Aside0 (wc.heap[gb353]? = some (.cells #[.int .i64 x354000_1, .int .i64 x354001_1, .string x354002_1] 40 (0, 0))) ∧ Aside0 (wc.heap[gb371]? = some (.cells #[.int .i64 ((rd_T40 x6_1 (ji23)).f0), .int .i64 ((rd_T40 x6_1 (ji23)).f1), .string ((rd_T40 x6_1 (ji23)).f2)] 40 (0, 0))) ∧ Aside0 (wc.heap[gb372]? = some (.cells #[.int .i64 ((rd_T40 x6_1 (ji26)).f0), .int .i64 ((rd_T40 x6_1 (ji26)).f1), .string ((rd_T40 x6_1 (ji26)).f2)] 40 (0, 0))) ∧ Aside0 (Below w.heap.size w wc))
                      case first =>
                        have H := HC29.out
                        clear HC29
                        by_cases c41 : ((rd_T40 x6_1 (ji23)).f0) = 1
                        · rw [if_pos c41] at H
                          obtain ⟨c41b0, c41b1⟩ := eqB_ c41
                          clear c41
                          (first | rw [c41b0] | (simp only [i64_w, i32_w]; rw [c41b0]) | skip)
                          have H' := Aside0.mk H
                          clear H
                          have hnb42 := NB371_353.out
                          have hnc42 := NB353_371.out
                          have hnb43 := NB371_372.out
                          have hnc43 := NB372_371.out
                          have hcz44_0 : w34.cell? ⟨gb371, 0, none⟩ = some (.int .i64 0) := (blk_cell BK371.out 0).trans rfl
                          have hcz44_1 : w34.cell? ⟨gb371, 1, none⟩ = some (.int .i64 0) := (blk_cell BK371.out 1).trans rfl
                          have hcz44_2 : w34.cell? ⟨gb371, 2, none⟩ = some (.string (⟨#[]⟩ : ByteArray)) := (blk_cell BK371.out 2).trans rfl
                          have hfz44_0 := blk_frozen BK371.out 0
                          have hfz44_1 := blk_frozen BK371.out 1
                          have hfz44_2 := blk_frozen BK371.out 2
                          have hnb45 := NB372_353.out
                          have hnc45 := NB353_372.out
                          have hcz46_0 : w34.cell? ⟨gb372, 0, none⟩ = some (.int .i64 0) := (blk_cell BK372.out 0).trans rfl
                          have hcz46_1 : w34.cell? ⟨gb372, 1, none⟩ = some (.int .i64 0) := (blk_cell BK372.out 1).trans rfl
                          have hcz46_2 : w34.cell? ⟨gb372, 2, none⟩ = some (.string (⟨#[]⟩ : ByteArray)) := (blk_cell BK372.out 2).trans rfl
                          have hfz46_0 := blk_frozen BK372.out 0
                          have hfz46_1 := blk_frozen BK372.out 1
                          have hfz46_2 := blk_frozen BK372.out 2
                          go_wp2
                          go_meet
                          case rel => exact ⟨_, ((((rd_T40 x6_1 (ji26)).f0) != 1)), (by first | rfl | (simp; done) | (simp only [← hji26] <;> (first | rfl | simp)) | (simp [*]; done)), H', ⟨by have := HK1.out; first | omega | exact Nat.le_refl _⟩, ⟨by (with_reducible repeat (first | apply Kd.R_alloc | apply Kd.R_drewN | apply Kd.R_drew)); exact Kd.R_mono (Kd.R_far (p := ⟨gb372, 2, none⟩) (Kd.R_far (p := ⟨gb372, 1, none⟩) (Kd.R_far (p := ⟨gb372, 0, none⟩) (Kd.R_far (p := ⟨gb371, 2, none⟩) (Kd.R_far (p := ⟨gb371, 1, none⟩) (Kd.R_far (p := ⟨gb371, 0, none⟩) (Kd.R_mono (Kd.R_mono HO_6.out (fun k_ hk => (⟨hk, hk.2.1⟩ : _ ∧ k_ ≠ gb371))) (fun k_ hk => (⟨hk, hk.1.2.2⟩ : _ ∧ k_ ≠ gb372))) (fun _ hk => hk.1.2) (.int .i64 ((rd_T40 x6_1 (ji23)).f0))) (fun _ hk => hk.1.2) (.int .i64 ((rd_T40 x6_1 (ji23)).f1))) (fun _ hk => hk.1.2) (.string ((rd_T40 x6_1 (ji23)).f2))) (fun _ hk => hk.2) (.int .i64 ((rd_T40 x6_1 (ji26)).f0))) (fun _ hk => hk.2) (.int .i64 ((rd_T40 x6_1 (ji26)).f1))) (fun _ hk => hk.2) (.string ((rd_T40 x6_1 (ji26)).f2))) (fun _ hk => ⟨hk.1.1.1, ⟨hk.1.1.2.1, hk.1.1.2.2⟩⟩)⟩, ⟨by (with_reducible repeat (first | refine blk_drewN ?_ _ | refine blk_drew ?_ | refine blk_alloc ?_ _)); refine blk_far ?_ NB353_372.out _; (with_reducible repeat (first | refine blk_drewN ?_ _ | refine blk_drew ?_ | refine blk_alloc ?_ _)); refine blk_far ?_ NB353_372.out _; (with_reducible repeat (first | refine blk_drewN ?_ _ | refine blk_drew ?_ | refine blk_alloc ?_ _)); refine blk_far ?_ NB353_372.out _; (with_reducible repeat (first | refine blk_drewN ?_ _ | refine blk_drew ?_ | refine blk_alloc ?_ _)); refine blk_far ?_ NB353_371.out _; (with_reducible repeat (first | refine blk_drewN ?_ _ | refine blk_drew ?_ | refine blk_alloc ?_ _)); refine blk_far ?_ NB353_371.out _; (with_reducible repeat (first | refine blk_drewN ?_ _ | refine blk_drew ?_ | refine blk_alloc ?_ _)); refine blk_far ?_ NB353_371.out _; (with_reducible repeat (first | refine blk_drewN ?_ _ | refine blk_drew ?_ | refine blk_alloc ?_ _)); exact BK353.out⟩, ⟨by (with_reducible repeat (first | refine blk_drewN ?_ _ | refine blk_drew ?_ | refine blk_alloc ?_ _)); refine blk_far ?_ NB371_372.out _; (with_reducible repeat (first | refine blk_drewN ?_ _ | refine blk_drew ?_ | refine blk_alloc ?_ _)); refine blk_far ?_ NB371_372.out _; (with_reducible repeat (first | refine blk_drewN ?_ _ | refine blk_drew ?_ | refine blk_alloc ?_ _)); refine blk_far ?_ NB371_372.out _; (with_reducible repeat (first | refine blk_drewN ?_ _ | refine blk_drew ?_ | refine blk_alloc ?_ _)); refine blk_put (cs := #[.int .i64 ((rd_T40 x6_1 (ji23)).f0), .int .i64 ((rd_T40 x6_1 (ji23)).f1), .string (⟨#[]⟩ : ByteArray)]) ?_ 2 _ rfl; (with_reducible repeat (first | refine blk_drewN ?_ _ | refine blk_drew ?_ | refine blk_alloc ?_ _)); refine blk_put (cs := #[.int .i64 ((rd_T40 x6_1 (ji23)).f0), .int .i64 0, .string (⟨#[]⟩ : ByteArray)]) ?_ 1 _ rfl; (with_reducible repeat (first | refine blk_drewN ?_ _ | refine blk_drew ?_ | refine blk_alloc ?_ _)); refine blk_put (cs := #[.int .i64 0, .int .i64 0, .string (⟨#[]⟩ : ByteArray)]) ?_ 0 _ rfl; (with_reducible repeat (first | refine blk_drewN ?_ _ | refine blk_drew ?_ | refine blk_alloc ?_ _)); exact BK371.out⟩, ⟨by (with_reducible repeat (first | refine blk_drewN ?_ _ | refine blk_drew ?_ | refine blk_alloc ?_ _)); refine blk_put (cs := #[.int .i64 ((rd_T40 x6_1 (ji26)).f0), .int .i64 ((rd_T40 x6_1 (ji26)).f1), .string (⟨#[]⟩ : ByteArray)]) ?_ 2 _ rfl; (with_reducible repeat (first | refine blk_drewN ?_ _ | refine blk_drew ?_ | refine blk_alloc ?_ _)); refine blk_put (cs := #[.int .i64 ((rd_T40 x6_1 (ji26)).f0), .int .i64 0, .string (⟨#[]⟩ : ByteArray)]) ?_ 1 _ rfl; (with_reducible repeat (first | refine blk_drewN ?_ _ | refine blk_drew ?_ | refine blk_alloc ?_ _)); refine blk_put (cs := #[.int .i64 0, .int .i64 0, .string (⟨#[]⟩ : ByteArray)]) ?_ 0 _ rfl; (with_reducible repeat (first | refine blk_drewN ?_ _ | refine blk_drew ?_ | refine blk_alloc ?_ _)); refine blk_far ?_ NB372_371.out _; (with_reducible repeat (first | refine blk_drewN ?_ _ | refine blk_drew ?_ | refine blk_alloc ?_ _)); refine blk_far ?_ NB372_371.out _; (with_reducible repeat (first | refine blk_drewN ?_ _ | refine blk_drew ?_ | refine blk_alloc ?_ _)); refine blk_far ?_ NB372_371.out _; (with_reducible repeat (first | refine blk_drewN ?_ _ | refine blk_drew ?_ | refine blk_alloc ?_ _)); exact BK372.out⟩, ⟨by repeat (first | (with_reducible first | exact HB.out | apply below_alloc | apply pw_below_drewN | apply below_drew1 | refine below_set ?_ GE353.out | refine below_set ?_ GE371.out | refine below_set ?_ GE372.out) | exact HB.out)⟩⟩
                        · rw [if_neg c41] at H
                          obtain ⟨c41b0, c41b1⟩ := neB_ c41
                          (first | rw [c41b0] | (simp only [i64_w, i32_w]; rw [c41b0]) | skip)
                          have H' := Aside0.mk H
                          clear H
                          have hnb47 := NB371_353.out
                          have hnc47 := NB353_371.out
                          have hnb48 := NB371_372.out
                          have hnc48 := NB372_371.out
                          have hcz49_0 : w34.cell? ⟨gb371, 0, none⟩ = some (.int .i64 0) := (blk_cell BK371.out 0).trans rfl
                          have hcz49_1 : w34.cell? ⟨gb371, 1, none⟩ = some (.int .i64 0) := (blk_cell BK371.out 1).trans rfl
                          have hcz49_2 : w34.cell? ⟨gb371, 2, none⟩ = some (.string (⟨#[]⟩ : ByteArray)) := (blk_cell BK371.out 2).trans rfl
                          have hfz49_0 := blk_frozen BK371.out 0
                          have hfz49_1 := blk_frozen BK371.out 1
                          have hfz49_2 := blk_frozen BK371.out 2
                          go_wp2
                          go_meet
                          case rel => exact ⟨_, (true), ra_, H', ⟨by have := HK1.out; first | omega | exact Nat.le_refl _⟩, ⟨by (with_reducible repeat (first | apply Kd.R_alloc | apply Kd.R_drewN | apply Kd.R_drew)); exact Kd.R_mono (Kd.R_far (p := ⟨gb372, 2, none⟩) (Kd.R_far (p := ⟨gb372, 1, none⟩) (Kd.R_far (p := ⟨gb372, 0, none⟩) (Kd.R_far (p := ⟨gb371, 2, none⟩) (Kd.R_far (p := ⟨gb371, 1, none⟩) (Kd.R_far (p := ⟨gb371, 0, none⟩) (Kd.R_mono (Kd.R_mono HO_6.out (fun k_ hk => (⟨hk, hk.2.1⟩ : _ ∧ k_ ≠ gb371))) (fun k_ hk => (⟨hk, hk.1.2.2⟩ : _ ∧ k_ ≠ gb372))) (fun _ hk => hk.1.2) (.int .i64 ((rd_T40 x6_1 (ji23)).f0))) (fun _ hk => hk.1.2) (.int .i64 ((rd_T40 x6_1 (ji23)).f1))) (fun _ hk => hk.1.2) (.string ((rd_T40 x6_1 (ji23)).f2))) (fun _ hk => hk.2) (.int .i64 ((rd_T40 x6_1 (ji26)).f0))) (fun _ hk => hk.2) (.int .i64 ((rd_T40 x6_1 (ji26)).f1))) (fun _ hk => hk.2) (.string ((rd_T40 x6_1 (ji26)).f2))) (fun _ hk => ⟨hk.1.1.1, ⟨hk.1.1.2.1, hk.1.1.2.2⟩⟩)⟩, ⟨by (with_reducible repeat (first | refine blk_drewN ?_ _ | refine blk_drew ?_ | refine blk_alloc ?_ _)); refine blk_far ?_ NB353_372.out _; (with_reducible repeat (first | refine blk_drewN ?_ _ | refine blk_drew ?_ | refine blk_alloc ?_ _)); refine blk_far ?_ NB353_372.out _; (with_reducible repeat (first | refine blk_drewN ?_ _ | refine blk_drew ?_ | refine blk_alloc ?_ _)); refine blk_far ?_ NB353_372.out _; (with_reducible repeat (first | refine blk_drewN ?_ _ | refine blk_drew ?_ | refine blk_alloc ?_ _)); refine blk_far ?_ NB353_371.out _; (with_reducible repeat (first | refine blk_drewN ?_ _ | refine blk_drew ?_ | refine blk_alloc ?_ _)); refine blk_far ?_ NB353_371.out _; (with_reducible repeat (first | refine blk_drewN ?_ _ | refine blk_drew ?_ | refine blk_alloc ?_ _)); refine blk_far ?_ NB353_371.out _; (with_reducible repeat (first | refine blk_drewN ?_ _ | refine blk_drew ?_ | refine blk_alloc ?_ _)); exact BK353.out⟩, ⟨by (with_reducible repeat (first | refine blk_drewN ?_ _ | refine blk_drew ?_ | refine blk_alloc ?_ _)); refine blk_far ?_ NB371_372.out _; (with_reducible repeat (first | refine blk_drewN ?_ _ | refine blk_drew ?_ | refine blk_alloc ?_ _)); refine blk_far ?_ NB371_372.out _; (with_reducible repeat (first | refine blk_drewN ?_ _ | refine blk_drew ?_ | refine blk_alloc ?_ _)); refine blk_far ?_ NB371_372.out _; (with_reducible repeat (first | refine blk_drewN ?_ _ | refine blk_drew ?_ | refine blk_alloc ?_ _)); refine blk_put (cs := #[.int .i64 ((rd_T40 x6_1 (ji23)).f0), .int .i64 ((rd_T40 x6_1 (ji23)).f1), .string (⟨#[]⟩ : ByteArray)]) ?_ 2 _ rfl; (with_reducible repeat (first | refine blk_drewN ?_ _ | refine blk_drew ?_ | refine blk_alloc ?_ _)); refine blk_put (cs := #[.int .i64 ((rd_T40 x6_1 (ji23)).f0), .int .i64 0, .string (⟨#[]⟩ : ByteArray)]) ?_ 1 _ rfl; (with_reducible repeat (first | refine blk_drewN ?_ _ | refine blk_drew ?_ | refine blk_alloc ?_ _)); refine blk_put (cs := #[.int .i64 0, .int .i64 0, .string (⟨#[]⟩ : ByteArray)]) ?_ 0 _ rfl; (with_reducible repeat (first | refine blk_drewN ?_ _ | refine blk_drew ?_ | refine blk_alloc ?_ _)); exact BK371.out⟩, ⟨by (with_reducible repeat (first | refine blk_drewN ?_ _ | refine blk_drew ?_ | refine blk_alloc ?_ _)); refine blk_put (cs := #[.int .i64 ((rd_T40 x6_1 (ji26)).f0), .int .i64 ((rd_T40 x6_1 (ji26)).f1), .string (⟨#[]⟩ : ByteArray)]) ?_ 2 _ rfl; (with_reducible repeat (first | refine blk_drewN ?_ _ | refine blk_drew ?_ | refine blk_alloc ?_ _)); refine blk_put (cs := #[.int .i64 ((rd_T40 x6_1 (ji26)).f0), .int .i64 0, .string (⟨#[]⟩ : ByteArray)]) ?_ 1 _ rfl; (with_reducible repeat (first | refine blk_drewN ?_ _ | refine blk_drew ?_ | refine blk_alloc ?_ _)); refine blk_put (cs := #[.int .i64 0, .int .i64 0, .string (⟨#[]⟩ : ByteArray)]) ?_ 0 _ rfl; (with_reducible repeat (first | refine blk_drewN ?_ _ | refine blk_drew ?_ | refine blk_alloc ?_ _)); refine blk_far ?_ NB372_371.out _; (with_reducible repeat (first | refine blk_drewN ?_ _ | refine blk_drew ?_ | refine blk_alloc ?_ _)); refine blk_far ?_ NB372_371.out _; (with_reducible repeat (first | refine blk_drewN ?_ _ | refine blk_drew ?_ | refine blk_alloc ?_ _)); refine blk_far ?_ NB372_371.out _; (with_reducible repeat (first | refine blk_drewN ?_ _ | refine blk_drew ?_ | refine blk_alloc ?_ _)); exact BK372.out⟩, ⟨by repeat (first | (with_reducible first | exact HB.out | apply below_alloc | apply pw_below_drewN | apply below_drew1 | refine below_set ?_ GE353.out | refine below_set ?_ GE371.out | refine below_set ?_ GE372.out) | exact HB.out)⟩⟩
                      case rest =>
                        clear HC29
                        try clear c1
                        try clear c2
                        try clear p2
                        try clear c3
                        try clear p3
                        try clear q3
                        try clear hx3
                        try clear c4
                        try clear c6
                        try clear c6b0
                        try clear c6b1
                        try clear p6
                        try clear c8
                        try clear c9
                        try clear c12
                        try clear c17
                        try clear c20
                        try clear c20b0
                        try clear c20b1
                        try clear c21
                        try clear c24
                        try clear c24b0
                        try clear c25
                        try clear c25b0
                        try clear c27
                        try clear c27b0
                        try clear c28
                        try clear c28b0
                        try clear c34
                        try clear p35
                        try clear q35
                        try clear hx35
                        try clear p36
                        try clear q36
                        try clear hx36
                        try clear p37
                        try clear q37
                        try clear hx37
                        try clear c41
                        try clear c41b0
                        try clear c41b1
                        try clear c42
                        try clear c43
                        try clear c45
                        try clear c47
                        try clear c48
                        try clear hcz13_0
                        try clear hcz13_1
                        try clear hcz13_2
                        try clear hcz18_0
                        try clear hcz18_1
                        try clear hcz18_2
                        try clear hcz19_0
                        try clear hcz19_1
                        try clear hcz19_2
                        try clear hcz44_0
                        try clear hcz44_1
                        try clear hcz44_2
                        try clear hcz46_0
                        try clear hcz46_1
                        try clear hcz46_2
                        try clear hcz49_0
                        try clear hcz49_1
                        try clear hcz49_2
                        try clear hfz13_0
                        try clear hfz13_1
                        try clear hfz13_2
                        try clear hfz18_0
                        try clear hfz18_1
                        try clear hfz18_2
                        try clear hfz19_0
                        try clear hfz19_1
                        try clear hfz19_2
                        try clear hfz44_0
                        try clear hfz44_1
                        try clear hfz44_2
                        try clear hfz46_0
                        try clear hfz46_1
                        try clear hfz46_2
                        try clear hfz49_0
                        try clear hfz49_1
                        try clear hfz49_2
                        try clear hx355_0
                        try clear hx355_1
                        try clear hx355_2
                        try clear hx355_3
                        try clear hx355_4
                        try clear hx356_0
                        try clear hx356_1
                        try clear hx356_2
                        try clear hx356_3
                        try clear hx356_4
                        try clear hx365_0
                        try clear hx365_1
                        try clear hx365_2
                        try clear hx365_3
                        try clear hx365_4
                        try clear hx369_0
                        try clear hx369_1
                        try clear hx369_2
                        try clear hx370_0
                        try clear hx370_1
                        try clear hx370_2
                        try clear p355
                        try clear p356
                        try clear p365
                        try clear p369
                        try clear p370
                        try clear q355
                        try clear q356
                        try clear q365
                        try clear q369
                        try clear q370
                        obtain ⟨kq, x44_28, rfl, HA, HJ28, HO_6, BK353, BK371, BK372, HB⟩ := hcut
                        cases kq with
                        | zero => exact absurd HA.out (by simp [constableref01_Eval.j1])
                        | succ kj28 =>
                          have H := HA.out
                          clear HA
                          simp only [constableref01_Eval.j1] at H
                          by_cases c50 : x44_28 = true
                          · subst c50
                            have H1 : (some (0, 0, (⟨#[]⟩ : ByteArray), 3)) = some (r1, r2, r3, r4) := by rw [if_pos rfl] at H; exact H
                            clear H
                            have H := H1
                            clear H1
                            simp only [Option.some.injEq, Prod.mk.injEq] at H
                            obtain ⟨rfl, rfl, rfl, rfl⟩ := H
                            have hnb51 := NB353_371.out
                            have hnc51 := NB371_353.out
                            have hnb52 := NB353_372.out
                            have hnc52 := NB372_353.out
                            have hcz53_0 : wc.cell? ⟨gb353, 0, none⟩ = some (.int .i64 x354000_1) := (blk_cell BK353.out 0).trans rfl
                            have hcz53_1 : wc.cell? ⟨gb353, 1, none⟩ = some (.int .i64 x354001_1) := (blk_cell BK353.out 1).trans rfl
                            have hcz53_2 : wc.cell? ⟨gb353, 2, none⟩ = some (.string x354002_1) := (blk_cell BK353.out 2).trans rfl
                            have hfz53_0 := blk_frozen BK353.out 0
                            have hfz53_1 := blk_frozen BK353.out 1
                            have hfz53_2 := blk_frozen BK353.out 2
                            go_wp2
                            refine bodyPost_ret (results_ct rfl _ _ gb353 40 #[.int .i64 0, .int .i64 0, .string (⟨#[]⟩ : ByteArray)] (0, 0) _ rfl (bp_ BK353) Try.underlying40 rfl (by kernel_rfl)) rfl ?_
                            exact ⟨by first | rfl | (simp [errW_none, errW_some] <;> rfl) | (simp only [← hji23, ← hji26]; first | rfl | (simp [errW_none, errW_some] <;> rfl)) | (simp [*, errW_none, errW_some] <;> rfl), by repeat (first | (with_reducible first | exact HB.out | apply below_alloc | apply pw_below_drewN | apply below_drew1 | refine below_set ?_ GE353.out | refine below_set ?_ GE371.out | refine below_set ?_ GE372.out) | exact HB.out)⟩
                          · replace c50 := Bool.eq_false_iff.mpr c50
                            subst c50
                            have H1 : (if 0 ≤ x7_1 then (if x7_1 < (l0.length : Int) then ((constableref01_Do.f kj28 ((rd_T52 l0 x7_1).f0) ((rd_T40 x6_1 (ji23)).f1) ((rd_T40 x6_1 (ji26)).f1)).bind fun bt374 => (if bt374.2 = 0 then (if 0 ≤ (wrap64 ((x6_1.length : Int) - 2)) then (if (wrap64 ((x6_1.length : Int) - 2)) ≤ (x6_1.length : Int) then ((some (x6_1.take ((wrap64 ((x6_1.length : Int) - 2)) : Int).toNat : List (S40))).bind fun y376 => (if y376.length < 4398046511104 then (constableref01_Eval.l0 kj28 l0 l1 (y376 ++ [(⟨1, bt374.1, (⟨#[]⟩ : ByteArray)⟩ : S40)]) (wrap64 (x7_1 + 1))) else (none))) else (none)) else (none)) else (some (0, 0, (⟨#[]⟩ : ByteArray), bt374.2)))) else (none)) else (none)) = some (r1, r2, r3, r4) := by rw [if_neg (show ¬ (false = true) by decide)] at H; exact H
                            clear H
                            have H := H1
                            clear H1
                            by_cases c54 : 0 ≤ x7_1
                            · rw [if_pos c54] at H
                              have c54b0 : decide (0 ≤ x7_1) = true := decide_eq_true c54
                              clear c54
                              by_cases c55 : x7_1 < (l0.length : Int)
                              · rw [if_pos c55] at H
                                have c55b0 : decide (x7_1 < (l0.length : Int)) = true := decide_eq_true c55
                                clear c55
                                replace H := Option.bind_eq_some_iff.mp H
                                obtain ⟨⟨t374, t375⟩, A560, H⟩ := H
                                replace H : (if t375 = 0 then (if 0 ≤ (wrap64 ((x6_1.length : Int) - 2)) then (if (wrap64 ((x6_1.length : Int) - 2)) ≤ (x6_1.length : Int) then ((some (x6_1.take ((wrap64 ((x6_1.length : Int) - 2)) : Int).toNat : List (S40))).bind fun y376 => (if y376.length < 4398046511104 then (constableref01_Eval.l0 kj28 l0 l1 (y376 ++ [(⟨1, t374, (⟨#[]⟩ : ByteArray)⟩ : S40)]) (wrap64 (x7_1 + 1))) else (none))) else (none)) else (none)) else (some (0, 0, (⟨#[]⟩ : ByteArray), t375))) = some (r1, r2, r3, r4) := H
                                have A56 := Aside0.mk A560
                                clear A560
                                by_cases c57 : t375 = 0
                                · rw [if_pos c57] at H
                                  obtain ⟨c57b0, c57b1⟩ := eqB_ c57
                                  clear c57
                                  replace H : (if 0 ≤ (ji23) then (if (ji23) ≤ (x6_1.length : Int) then ((some (x6_1.take ((ji23) : Int).toNat : List (S40))).bind fun y376 => (if y376.length < 4398046511104 then (constableref01_Eval.l0 kj28 l0 l1 (y376 ++ [(⟨1, t374, (⟨#[]⟩ : ByteArray)⟩ : S40)]) (wrap64 (x7_1 + 1))) else (none))) else (none)) else (none)) = some (r1, r2, r3, r4) := by first | (rw [hji23] at H; exact H) | (simp only [hji23] at H ⊢; exact H)
                                  (try rw [hji23] at A56)
                                  have hji23w : (IntKind.i64.wrap ((x6_1.length : Int) - 2)) = ji23 := (i64_w _).trans hji23
                                  by_cases c59 : 0 ≤ (ji23)
                                  · rw [if_pos c59] at H
                                    have c59b0 := eq_true c59
                                    have c59b1 : decide (0 ≤ (ji23)) = true := decide_eq_true c59
                                    clear c59
                                    by_cases c60 : (ji23) ≤ (x6_1.length : Int)
                                    · rw [if_pos c60] at H
                                      have c60b0 := eq_true c60
                                      have c60b1 : decide ((ji23) ≤ (x6_1.length : Int)) = true := decide_eq_true c60
                                      clear c60
                                      obtain ⟨y376, hy376⟩ : ∃ y_ : List (S40), y_ = (x6_1.take ((ji23) : Int).toNat) := ⟨_, rfl⟩
                                      replace H : (if y376.length < 4398046511104 then (constableref01_Eval.l0 kj28 l0 l1 (y376 ++ [(⟨1, t374, (⟨#[]⟩ : ByteArray)⟩ : S40)]) (wrap64 (x7_1 + 1))) else (none)) = some (r1, r2, r3, r4) := by first | (rw [hy376]; with_reducible exact H) | (have H2_ := (Option.bind_some _ _).symm.trans H; rw [hy376]; with_reducible exact H2_) | (have H2_ := (Option.bind_some _ _).symm.trans H; with_reducible exact H2_) | with_reducible exact H | (rw [hy376]; exact H) | exact H
                                      have Ny376 := Aside0.mk hy376
                                      clear hy376
                                      by_cases c61 : y376.length < 4398046511104
                                      · rw [if_pos c61] at H
                                        have LMc61 := Aside0.mk c61
                                        clear c61
                                        obtain ⟨y379, hy379⟩ : ∃ y_ : List (S40), y_ = (y376 ++ [(⟨1, t374, (⟨#[]⟩ : ByteArray)⟩ : S40)]) := ⟨_, rfl⟩
                                        replace H : (constableref01_Eval.l0 kj28 l0 l1 y379 (wrap64 (x7_1 + 1))) = some (r1, r2, r3, r4) := by first | (rw [hy379]; with_reducible exact H) | (have H2_ := (Option.bind_some _ _).symm.trans H; rw [hy379]; with_reducible exact H2_) | (have H2_ := (Option.bind_some _ _).symm.trans H; with_reducible exact H2_) | with_reducible exact H | (rw [hy379]; exact H) | exact H
                                        have Ny379 := Aside0.mk hy379
                                        clear hy379
                                        have H' := Aside0.mk H
                                        clear H
                                        try go_wp2
                                        have n0_ := Aside0.mk (Kd.R_drew HO_6.out)
                                        have n1_ := Aside0.mk (blk_drew BK353.out)
                                        have n2_ := Aside0.mk (blk_drew BK371.out)
                                        have n3_ := Aside0.mk (blk_drew BK372.out)
                                        have n4_ := Aside0.mk (below_drew1 HB.out)
                                        clear HO_6
                                        clear BK353
                                        clear BK371
                                        clear BK372
                                        clear HB
                                        have HO_6 := n0_
                                        have BK353 := n1_
                                        have BK371 := n2_
                                        have BK372 := n3_
                                        have HB := n4_
                                        clear n0_ n1_ n2_ n3_ n4_
                                        have p373 : 0 ≤ (x7_1 : Int) := dt_
                                        have q373 : x7_1 < (l0.length : Int) := dt_
                                        obtain ⟨ad373, e373, hx373_0, hx373_1, hx373_2, hx373_3, hx373_4⟩ := at_T52 HR0.out x7_1 p373 q373
                                        have hw373_4 := hx373_4
                                        have hw373_3 := hx373_3
                                        have hw373_2 := hx373_2
                                        have hw373_1 := hx373_1
                                        have hw373_0 := hx373_0
                                        obtain rfl : ad355 = ad373 := (by injection e373)
                                        replace hx373_0 := cm_ HB hx373_0
                                        replace hx373_1 := cm_ HB hx373_1
                                        replace hx373_2 := cm_ HB hx373_2
                                        replace hx373_3 := cm_ HB hx373_3
                                        replace hx373_4 := cm_ HB hx373_4
                                        replace p373 := eq_true p373
                                        replace q373 := eq_true q373
                                        refine start_ (n := 15) (S := fun w' => w'.cell? ⟨gb371, 0, none⟩ = some (.int .i64 ((rd_T40 x6_1 (ji23)).f0)) ∧ w'.cell? ⟨gb371, 1, none⟩ = some (.int .i64 ((rd_T40 x6_1 (ji23)).f1)) ∧ w'.cell? ⟨gb371, 2, none⟩ = some (.string ((rd_T40 x6_1 (ji23)).f2)) ∧ w'.cell? ⟨gb372, 0, none⟩ = some (.int .i64 ((rd_T40 x6_1 (ji26)).f0)) ∧ w'.cell? ⟨gb372, 1, none⟩ = some (.int .i64 ((rd_T40 x6_1 (ji26)).f1)) ∧ w'.cell? ⟨gb372, 2, none⟩ = some (.string ((rd_T40 x6_1 (ji26)).f2)) ∧ w'.cell? (ad355.add ((x7_1).toNat * 5)) = some (.int .i64 ((rd_T52 l0 x7_1).f0)) ∧ w'.cell? ⟨(ad355.add ((x7_1).toNat * 5)).block, (ad355.add ((x7_1).toNat * 5)).off + 1, none⟩ = some (.string ((rd_T52 l0 x7_1).f1)) ∧ w'.cell? ⟨(ad355.add ((x7_1).toNat * 5)).block, (ad355.add ((x7_1).toNat * 5)).off + 2, none⟩ = some (.int .i64 ((rd_T52 l0 x7_1).f2.f0)) ∧ w'.cell? ⟨(ad355.add ((x7_1).toNat * 5)).block, (ad355.add ((x7_1).toNat * 5)).off + 3, none⟩ = some (.int .i64 ((rd_T52 l0 x7_1).f2.f1)) ∧ w'.cell? ⟨(ad355.add ((x7_1).toNat * 5)).block, (ad355.add ((x7_1).toNat * 5)).off + 4, none⟩ = some (.string ((rd_T52 l0 x7_1).f2.f2))) (ds := []) (mk_ 15 0) (by kernel_rfl) rfl rfl ⟨(blk_cell BK371.out 0).trans rfl, (blk_cell BK371.out 1).trans rfl, (blk_cell BK371.out 2).trans rfl, (blk_cell BK372.out 0).trans rfl, (blk_cell BK372.out 1).trans rfl, (blk_cell BK372.out 2).trans rfl, (cl_ HB hw373_0), (cl_ HB hw373_1), (cl_ HB hw373_2), (cl_ HB hw373_3), (cl_ HB hw373_4)⟩ (fun hHeld => ?_); refine with_tabW constableref01_Eval.tab9 constableref01_Eval.bits9 (fun HT_ HW_ => ?_)
                                        generalize wc.drew = w62 at HO_6 BK353 BK371 BK372 HB hx373_0 hx373_1 hx373_2 hx373_3 hx373_4 hHeld ⊢
                                        refine pu_ 0 47 1 HT_ ?_; refine pu_ 1 48 3 HT_ ?_; refine pu_ 2 49 7 HT_ ?_; refine pu_ 3 50 15 HT_ ?_; refine pu_ 5 52 47 HT_ ?_; refine pu_ 7 54 175 HT_ ?_; refine tk_ 4 51 191 HT_ HW_ hHeld ?_; refine tk_ 6 53 255 HT_ HW_ hHeld ?_; refine tk_ 8 55 511 HT_ HW_ hHeld ?_
                                        refine one_ (i := 9) (N := some 56) (mk_ 15 1023) rfl rfl (one_of HT_.out (by kernel_rfl)) (by decide) (fun K hK => ?_)
                                        refine goes_ Try.func14 (by kernel_rfl) rfl #[.int .i64 ((rd_T52 l0 x7_1).f0), .int .i64 ((rd_T40 x6_1 (ji23)).f1), .int .i64 ((rd_T40 x6_1 (ji26)).f1)] (by rfl) rfl rfl (by (try simp only [List.map_toArray, List.map_cons, List.map_nil]); first | done | (simp only [hji23, hji26]; rfl) | rfl | (simp only [List.length_drop, List.length_take]; rfl)) ?_
                                        with_reducible refine (constableref01_Do.calls kj28 ((rd_T52 l0 x7_1).f0) ((rd_T40 x6_1 (ji23)).f1) ((rd_T40 x6_1 (ji26)).f1) t374 t375 _ A56.out).mono ?_
                                        rintro e w63 ⟨rfl, hb⟩
                                        refine ⟨_, rfl, ?_⟩
                                        have n0_ := kb_ (ku_ HO_6.out) hb
                                        have n1_ := bb_ (bu_ BK353) hb
                                        have n2_ := bb_ (bu_ BK371) hb
                                        have n3_ := bb_ (bu_ BK372) hb
                                        have n4_ := bs_ (be_ HB) hb
                                        clear HO_6
                                        clear BK353
                                        clear BK371
                                        clear BK372
                                        clear HB
                                        have HO_6 := n0_
                                        have BK353 := n1_
                                        have BK371 := n2_
                                        have BK372 := n3_
                                        have HB := n4_
                                        clear n0_ n1_ n2_ n3_ n4_
                                        (try clear hb)
                                        (try clear hb2)
                                        (try clear hk)
                                        (try clear hi)
                                        refine hK.out _ _ ⟨(blk_cell BK371.out 0).trans rfl, (blk_cell BK371.out 1).trans rfl, (blk_cell BK371.out 2).trans rfl, (blk_cell BK372.out 0).trans rfl, (blk_cell BK372.out 1).trans rfl, (blk_cell BK372.out 2).trans rfl, (cl_ HB hw373_0), (cl_ HB hw373_1), (cl_ HB hw373_2), (cl_ HB hw373_3), (cl_ HB hw373_4)⟩ (fun hHeld => ?_)
                                        clear hK K
                                        refine nm_ 56 ?_; refine pu_ 10 46 2047 HT_ ?_; refine pu_ 11 57 4095 HT_ ?_; refine pu_ 12 58 8191 HT_ ?_; refine pu_ 13 12 16383 HT_ ?_; refine pu_ 14 13 32767 HT_ ?_
                                        refine done_ (done_of HT_.out (by kernel_rfl)) ?_
                                        have q64 : ((ji23) : Int) ≤ ((x6_1.length : Int) : Int) := dt_
                                        obtain ⟨i064, hi064, _, hsz64, _⟩ := info_parts info40
                                        have hcut64 := cut_to (P := Try.prog) 64 40 .i64 Try.underlying64 hi064 (some ad369) x6_1.length co31 (ji23) dt_ q64 (Kd.R_reads' HO_6.out).2.1
                                        have hr64 := Kd.R_take (m := ((ji23) : Int).toNat) HO_6.out (by omega)
                                        have hy64 : y376.length = ((ji23) : Int).toNat := (by rw [Ny376.out, List.length_take]; omega)
                                        rw [← Ny376.out] at hr64
                                        rw [← hy64] at hr64 hcut64
                                        clear hy64 hi064 hsz64 HO_6
                                        have HO378 := Aside0.mk hr64
                                        clear hr64
                                        replace q64 := eq_true q64
                                        try go_wp2_with (first | ((with_reducible refine gate_builtin (b := .append) (xs := #[.tmp 67, .tmp 70]) rfl ?_); at_builtin; refine Kd.R_append k40 (w0 := w) w.heap.size rfl (.tmp 67) (.tmp 70) 64 40 (.agg #[(.int .i64 0), (.int .i64 0), (.string ⟨#[]⟩)]) 32 rfl Try.underlying64 info40 rfl (by decide) (by omega) (.slice (some ad369) y376.length co31) y376 (⟨1, t374, (⟨#[]⟩ : ByteArray)⟩ : S40) [.int .i64 1, .int .i64 t374, .string (⟨#[]⟩ : ByteArray)] (fun k_ => k_ ≠ gb353 ∧ k_ ≠ gb371 ∧ k_ ≠ gb372) (fun _ => False) rfl rfl ?aP (fun _ hk => hk.elim) ?aF ?aO ?aB ?aS ?aL ?_; (case aP => exact k40_mkM _ _ _ (⟨1, t374, (⟨#[]⟩ : ByteArray)⟩ : S40)); (case aB => exact (be_ HB)); (case aF => exact (fun k_ hk => ⟨Kd.freshB (bu_ BK353) k_ hk, Kd.freshB (bu_ BK371) k_ hk, Kd.freshB (bu_ BK372) k_ hk⟩)); (case aO => exact (ku_ HO378.out)); (case aS => exact (below_size (be_ HB))); (case aL => have := LMc61.out; omega); intro v380 w65 ho hb hg hat; rw [← Ny379.out] at ho; have n0_ := Aside0.mk (blk_grown (bu_ BK353) hg (Kd.R_away HO378.out (fun _ hk => hk.1))); have n1_ := Aside0.mk (blk_grown (bu_ BK371) hg (Kd.R_away HO378.out (fun _ hk => hk.2.1))); have n2_ := Aside0.mk (blk_grown (bu_ BK372) hg (Kd.R_away HO378.out (fun _ hk => hk.2.2))); have n3_ := Aside0.mk (hb); have n4_ := Aside0.mk (ho); clear BK353; clear BK371; clear BK372; clear HB; clear HO378; have BK353 := n0_; have BK371 := n1_; have BK372 := n2_; have HB := n3_; have HO381 := n4_; clear n0_ n1_ n2_ n3_ n4_; clear ho hb hg hat))
                                        go_roundg kj28
                                        case measure => have := HK1.out; have := HJ28.out; omega
                                        case rel => exact ⟨(y379), (wrap64 (x7_1 + 1)), (x354000_1), (x354001_1), (x354002_1), ra_, H', ⟨by have := HK1.out; have := HJ28.out; omega⟩, ⟨by (with_reducible repeat (first | apply Kd.R_alloc | apply Kd.R_drewN | apply Kd.R_drew)); exact Kd.R_mono HO381.out (fun _ hk => hk.1)⟩, ⟨by (with_reducible repeat (first | refine blk_drewN ?_ _ | refine blk_drew ?_ | refine blk_alloc ?_ _)); exact BK353.out⟩, ⟨by repeat (first | (with_reducible first | exact HB.out | apply below_alloc | apply pw_below_drewN | apply below_drew1 | refine below_set ?_ GE353.out | refine below_set ?_ GE371.out | refine below_set ?_ GE372.out) | exact HB.out)⟩⟩
                                      · rw [if_neg c61] at H
                                        exact absurd H (by simp)
                                    · rw [if_neg c60] at H
                                      exact absurd H (by simp)
                                  · rw [if_neg c59] at H
                                    exact absurd H (by simp)
                                · rw [if_neg c57] at H
                                  obtain ⟨c57b0, c57b1⟩ := neB_ c57
                                  simp only [Option.some.injEq, Prod.mk.injEq] at H
                                  obtain ⟨rfl, rfl, rfl, rfl⟩ := H
                                  try go_wp2
                                  have n0_ := Aside0.mk (Kd.R_drew HO_6.out)
                                  have n1_ := Aside0.mk (blk_drew BK353.out)
                                  have n2_ := Aside0.mk (blk_drew BK371.out)
                                  have n3_ := Aside0.mk (blk_drew BK372.out)
                                  have n4_ := Aside0.mk (below_drew1 HB.out)
                                  clear HO_6
                                  clear BK353
                                  clear BK371
                                  clear BK372
                                  clear HB
                                  have HO_6 := n0_
                                  have BK353 := n1_
                                  have BK371 := n2_
                                  have BK372 := n3_
                                  have HB := n4_
                                  clear n0_ n1_ n2_ n3_ n4_
                                  have p373 : 0 ≤ (x7_1 : Int) := dt_
                                  have q373 : x7_1 < (l0.length : Int) := dt_
                                  obtain ⟨ad373, e373, hx373_0, hx373_1, hx373_2, hx373_3, hx373_4⟩ := at_T52 HR0.out x7_1 p373 q373
                                  have hw373_4 := hx373_4
                                  have hw373_3 := hx373_3
                                  have hw373_2 := hx373_2
                                  have hw373_1 := hx373_1
                                  have hw373_0 := hx373_0
                                  obtain rfl : ad355 = ad373 := (by injection e373)
                                  replace hx373_0 := cm_ HB hx373_0
                                  replace hx373_1 := cm_ HB hx373_1
                                  replace hx373_2 := cm_ HB hx373_2
                                  replace hx373_3 := cm_ HB hx373_3
                                  replace hx373_4 := cm_ HB hx373_4
                                  replace p373 := eq_true p373
                                  replace q373 := eq_true q373
                                  refine start_ (n := 15) (S := fun w' => w'.cell? ⟨gb371, 0, none⟩ = some (.int .i64 ((rd_T40 x6_1 (ji23)).f0)) ∧ w'.cell? ⟨gb371, 1, none⟩ = some (.int .i64 ((rd_T40 x6_1 (ji23)).f1)) ∧ w'.cell? ⟨gb371, 2, none⟩ = some (.string ((rd_T40 x6_1 (ji23)).f2)) ∧ w'.cell? ⟨gb372, 0, none⟩ = some (.int .i64 ((rd_T40 x6_1 (ji26)).f0)) ∧ w'.cell? ⟨gb372, 1, none⟩ = some (.int .i64 ((rd_T40 x6_1 (ji26)).f1)) ∧ w'.cell? ⟨gb372, 2, none⟩ = some (.string ((rd_T40 x6_1 (ji26)).f2)) ∧ w'.cell? (ad355.add ((x7_1).toNat * 5)) = some (.int .i64 ((rd_T52 l0 x7_1).f0)) ∧ w'.cell? ⟨(ad355.add ((x7_1).toNat * 5)).block, (ad355.add ((x7_1).toNat * 5)).off + 1, none⟩ = some (.string ((rd_T52 l0 x7_1).f1)) ∧ w'.cell? ⟨(ad355.add ((x7_1).toNat * 5)).block, (ad355.add ((x7_1).toNat * 5)).off + 2, none⟩ = some (.int .i64 ((rd_T52 l0 x7_1).f2.f0)) ∧ w'.cell? ⟨(ad355.add ((x7_1).toNat * 5)).block, (ad355.add ((x7_1).toNat * 5)).off + 3, none⟩ = some (.int .i64 ((rd_T52 l0 x7_1).f2.f1)) ∧ w'.cell? ⟨(ad355.add ((x7_1).toNat * 5)).block, (ad355.add ((x7_1).toNat * 5)).off + 4, none⟩ = some (.string ((rd_T52 l0 x7_1).f2.f2))) (ds := []) (mk_ 15 0) (by kernel_rfl) rfl rfl ⟨(blk_cell BK371.out 0).trans rfl, (blk_cell BK371.out 1).trans rfl, (blk_cell BK371.out 2).trans rfl, (blk_cell BK372.out 0).trans rfl, (blk_cell BK372.out 1).trans rfl, (blk_cell BK372.out 2).trans rfl, (cl_ HB hw373_0), (cl_ HB hw373_1), (cl_ HB hw373_2), (cl_ HB hw373_3), (cl_ HB hw373_4)⟩ (fun hHeld => ?_); refine with_tabW constableref01_Eval.tab9 constableref01_Eval.bits9 (fun HT_ HW_ => ?_)
                                  generalize wc.drew = w66 at HO_6 BK353 BK371 BK372 HB hx373_0 hx373_1 hx373_2 hx373_3 hx373_4 hHeld ⊢
                                  refine pu_ 0 47 1 HT_ ?_; refine pu_ 1 48 3 HT_ ?_; refine pu_ 2 49 7 HT_ ?_; refine pu_ 3 50 15 HT_ ?_; refine pu_ 5 52 47 HT_ ?_; refine pu_ 7 54 175 HT_ ?_; refine tk_ 4 51 191 HT_ HW_ hHeld ?_; refine tk_ 6 53 255 HT_ HW_ hHeld ?_; refine tk_ 8 55 511 HT_ HW_ hHeld ?_
                                  refine one_ (i := 9) (N := some 56) (mk_ 15 1023) rfl rfl (one_of HT_.out (by kernel_rfl)) (by decide) (fun K hK => ?_)
                                  refine goes_ Try.func14 (by kernel_rfl) rfl #[.int .i64 ((rd_T52 l0 x7_1).f0), .int .i64 ((rd_T40 x6_1 (ji23)).f1), .int .i64 ((rd_T40 x6_1 (ji26)).f1)] (by rfl) rfl rfl (by (try simp only [List.map_toArray, List.map_cons, List.map_nil]); first | done | (simp only [hji23, hji26]; rfl) | rfl | (simp only [List.length_drop, List.length_take]; rfl)) ?_
                                  with_reducible refine (constableref01_Do.calls kj28 ((rd_T52 l0 x7_1).f0) ((rd_T40 x6_1 (ji23)).f1) ((rd_T40 x6_1 (ji26)).f1) t374 t375 _ A56.out).mono ?_
                                  rintro e w67 ⟨rfl, hb⟩
                                  refine ⟨_, rfl, ?_⟩
                                  have n0_ := kb_ (ku_ HO_6.out) hb
                                  have n1_ := bb_ (bu_ BK353) hb
                                  have n2_ := bb_ (bu_ BK371) hb
                                  have n3_ := bb_ (bu_ BK372) hb
                                  have n4_ := bs_ (be_ HB) hb
                                  clear HO_6
                                  clear BK353
                                  clear BK371
                                  clear BK372
                                  clear HB
                                  have HO_6 := n0_
                                  have BK353 := n1_
                                  have BK371 := n2_
                                  have BK372 := n3_
                                  have HB := n4_
                                  clear n0_ n1_ n2_ n3_ n4_
                                  (try clear hb)
                                  (try clear hb2)
                                  (try clear hk)
                                  (try clear hi)
                                  refine hK.out _ _ ⟨(blk_cell BK371.out 0).trans rfl, (blk_cell BK371.out 1).trans rfl, (blk_cell BK371.out 2).trans rfl, (blk_cell BK372.out 0).trans rfl, (blk_cell BK372.out 1).trans rfl, (blk_cell BK372.out 2).trans rfl, (cl_ HB hw373_0), (cl_ HB hw373_1), (cl_ HB hw373_2), (cl_ HB hw373_3), (cl_ HB hw373_4)⟩ (fun hHeld => ?_)
                                  clear hK K
                                  refine nm_ 56 ?_; refine pu_ 10 46 2047 HT_ ?_; refine pu_ 11 57 4095 HT_ ?_; refine pu_ 12 58 8191 HT_ ?_; refine pu_ 13 12 16383 HT_ ?_; refine pu_ 14 13 32767 HT_ ?_
                                  refine done_ (done_of HT_.out (by kernel_rfl)) ?_
                                  have hnb68 := NB353_371.out
                                  have hnc68 := NB371_353.out
                                  have hnb69 := NB353_372.out
                                  have hnc69 := NB372_353.out
                                  have hcz70_0 : w67.cell? ⟨gb353, 0, none⟩ = some (.int .i64 x354000_1) := (blk_cell BK353.out 0).trans rfl
                                  have hcz70_1 : w67.cell? ⟨gb353, 1, none⟩ = some (.int .i64 x354001_1) := (blk_cell BK353.out 1).trans rfl
                                  have hcz70_2 : w67.cell? ⟨gb353, 2, none⟩ = some (.string x354002_1) := (blk_cell BK353.out 2).trans rfl
                                  have hfz70_0 := blk_frozen BK353.out 0
                                  have hfz70_1 := blk_frozen BK353.out 1
                                  have hfz70_2 := blk_frozen BK353.out 2
                                  try go_wp2
                                  refine bodyPost_ret (results_ct rfl _ _ gb353 40 #[.int .i64 0, .int .i64 0, .string (⟨#[]⟩ : ByteArray)] (0, 0) _ rfl (bp_ BK353) Try.underlying40 rfl (by kernel_rfl)) rfl ?_
                                  exact ⟨by first | rfl | (simp [errW_none, errW_some] <;> rfl) | (simp only [← hji23, ← hji26]; first | rfl | (simp [errW_none, errW_some] <;> rfl)) | (simp [*, errW_none, errW_some] <;> rfl), by repeat (first | (with_reducible first | exact HB.out | apply below_alloc | apply pw_below_drewN | apply below_drew1 | refine below_set ?_ GE353.out | refine below_set ?_ GE371.out | refine below_set ?_ GE372.out) | exact HB.out)⟩
                              · rw [if_neg c55] at H
                                exact absurd H (by simp)
                            · rw [if_neg c54] at H
                              exact absurd H (by simp)
                    · rw [if_neg c28] at H
                      exact absurd H (by simp)
                  · rw [if_neg c27] at H
                    exact absurd H (by simp)
                · rw [if_neg c25] at H
                  exact absurd H (by simp)
              · rw [if_neg c24] at H
                exact absurd H (by simp)
        · rw [if_neg c5] at H
          exact absurd H (by simp)
      · rw [if_neg c4] at H
        have c4b0 : decide (x7_1 < (l0.length : Int)) = false := decide_eq_false c4
        clear c4
        by_cases c71 : 0 < (x6_1.length : Int)
        · rw [if_pos c71] at H
          have c71b0 : decide (0 < (x6_1.length : Int)) = true := decide_eq_true c71
          have c71b1 : decide (0 < x6_1.length) = true := decide_eq_true (by omega)
          clear c71
          simp only [Option.some.injEq, Prod.mk.injEq] at H
          obtain ⟨rfl, rfl, rfl, rfl⟩ := H
          obtain ⟨Ao72, co72, eo72⟩ := Kd.R_slice HO_6.out
          subst eo72
          have p354 : 0 ≤ (0 : Int) := (by omega)
          have q354 : 0 < (x6_1.length : Int) := dt_
          obtain ⟨ad354, e354, hx354_0, hx354_1, hx354_2⟩ := at_T40 (Kd.R_reads' HO_6.out).2.2 0 p354 q354
          cases e354
          have qi354 : (0 < x6_1.length) = True := eq_true (by omega)
          (try rw [show ((0 : Int)).toNat = 0 from rfl] at hx354_0)
          (try rw [show 0 * 3 = 0 from rfl] at hx354_0)
          (try rw [Addr.add_zero'] at hx354_0)
          (try rw [show ((0 : Int)).toNat = 0 from rfl] at hx354_1)
          (try rw [show 0 * 3 = 0 from rfl] at hx354_1)
          (try rw [Addr.add_zero'] at hx354_1)
          (try rw [show ((0 : Int)).toNat = 0 from rfl] at hx354_2)
          (try rw [show 0 * 3 = 0 from rfl] at hx354_2)
          (try rw [Addr.add_zero'] at hx354_2)
          replace p354 := eq_true p354
          replace q354 := eq_true q354
          have hcz73_0 : wr.cell? ⟨gb353, 0, none⟩ = some (.int .i64 x354000_1) := (blk_cell BK353.out 0).trans rfl
          have hcz73_1 : wr.cell? ⟨gb353, 1, none⟩ = some (.int .i64 x354001_1) := (blk_cell BK353.out 1).trans rfl
          have hcz73_2 : wr.cell? ⟨gb353, 2, none⟩ = some (.string x354002_1) := (blk_cell BK353.out 2).trans rfl
          have hfz73_0 := blk_frozen BK353.out 0
          have hfz73_1 := blk_frozen BK353.out 1
          have hfz73_2 := blk_frozen BK353.out 2
          go_wp2
          refine bodyPost_ret (results_ct rfl _ _ gb353 40 #[.int .i64 ((rd_T40 x6_1 0).f0), .int .i64 ((rd_T40 x6_1 0).f1), .string ((rd_T40 x6_1 0).f2)] (0, 0) _ rfl (bp_ BK353) Try.underlying40 rfl (by kernel_rfl)) rfl ?_
          exact ⟨by first | rfl | (simp [errW_none, errW_some] <;> rfl) | (simp [*, errW_none, errW_some] <;> rfl), by repeat (first | (with_reducible first | exact HB.out | apply below_alloc | apply pw_below_drewN | apply below_drew1 | refine below_set ?_ GE353.out) | exact HB.out)⟩
        · rw [if_neg c71] at H
          exact absurd H (by simp)
end Go.Proofs.Ytconpnagoijacaa.P
end
section
namespace Go.Proofs.Ytconpnagoijacaa.P
open Go.RowKit Go.Proofs.YtconpnagoijacaaW.PrintWords Go.Proofs.YtconpnagoijacaaW.PrintLast Go.Proofs.YtconpnagoijacaaW.PrintMore
attribute [local go_sem] max2_int min2_int max_two min_two max_three min_three max_four min_four
set_option linter.unusedVariables false
set_option linter.unusedSimpArgs false
def constableref01_With.l0 : Nat → List ByteArray → ByteArray → Int → Option (List ByteArray)
  | 0, _, _, _ => none
  | k + 1, x0, x1, x5 => if x5 < (x0.length : Int) then (if 0 ≤ x5 then (if (rdOf ByteArray.empty x0 x5).toList = x1.toList then (some x0) else (constableref01_With.l0 k x0 x1 (wrap64 (x5 + 1)))) else (none)) else (if x0.length < 8796093022208 then (some (x0 ++ [x1])) else (none))
def constableref01_With.f (k : Nat) (l0 : List ByteArray) (a1 : ByteArray) : Option (List ByteArray) := if (a1.size : Int) = 0 then (some l0) else (constableref01_With.l0 k l0 a1 0)
theorem constableref01_With.mono_l : ∀ k, (∀ y0 y1 y2, LeO (constableref01_With.l0 k y0 y1 y2) (constableref01_With.l0 (k + 1) y0 y1 y2))
  | 0 => fun _ _ _ r h => by simp [constableref01_With.l0] at h
  | k + 1 => by
    have ih0 := constableref01_With.mono_l k
    · intro y0 y1 y2
      unfold constableref01_With.l0
      repeat' first
      | (with_reducible exact ih0 _ _ _)
      | (with_reducible exact LeO.refl _)
      | (with_reducible exact LeO.none _)
      | (with_reducible refine LeO.ite ?_ ?_)
      | (with_reducible refine LeO.bind ?_ (fun _ => ?_))
      | exact ih0 _ _ _
      | exact LeO.none _
      | refine LeO.ite ?_ ?_
      | refine LeO.bind ?_ (fun _ => ?_)
theorem constableref01_With.mono : ∀ a0 a1 k, LeO (constableref01_With.f k a0 a1) (constableref01_With.f (k + 1) a0 a1) := by
  intro a0 a1 k
  have ih0 := constableref01_With.mono_l k
  unfold constableref01_With.f
  repeat' first
      | (with_reducible exact ih0 _ _ _)
      | (with_reducible exact LeO.refl _)
      | (with_reducible exact LeO.none _)
      | (with_reducible refine LeO.ite ?_ ?_)
      | (with_reducible refine LeO.bind ?_ (fun _ => ?_))
      | exact ih0 _ _ _
      | exact LeO.none _
      | refine LeO.ite ?_ ?_
      | refine LeO.bind ?_ (fun _ => ?_)
set_option maxHeartbeats 8000000 in
set_option maxRecDepth 100000 in
theorem constableref01_With.calls (k : Nat) (P0_ : Nat → Prop) (u9000_ : Value) (l0 : List ByteArray) (a1 : ByteArray) (r : List ByteArray) (w0 w : World) (hB : Below w0.heap.size w0 w) (ho0 : Kd.R Kd.string 9 w w0.heap.size P0_ u9000_ l0) (h : constableref01_With.f k l0 a1 = some r) :
    Calls Try.prog 44 #[u9000_, .string a1] w fun e w' => ∃ v0_ : Value, e = .returned (v0_) ∧ Kd.R Kd.string 9 w' w0.heap.size (fun k_ => (P0_ k_ ∨ w.heap.size ≤ k_)) v0_ r ∧ Below w0.heap.size w0 w' ∧ Kept w w' (fun k_ => P0_ k_) := by
  have HO0 := Aside0.mk (show Kd.R Kd.string 9 w w0.heap.size (fun k_ => (P0_ k_ ∨ w.heap.size ≤ k_)) u9000_ l0 from Kd.R_mono ho0 (fun k_ hk => (.inl hk)))
  have HK := Aside0.mk (Kept.refl w (fun k_ => P0_ k_))
  have HW0 := Aside0.mk hB.size
  have HB := Aside0.mk hB
  clear hB
  have H : (if (a1.size : Int) = 0 then (some l0) else (constableref01_With.l0 k l0 a1 0)) = some r := h
  clear h
  by_cases c3 : (a1.size : Int) = 0
  · rw [if_pos c3] at H
    obtain ⟨c3b0, c3b1⟩ := eqB_ c3
    clear c3
    obtain rfl := Option.some.inj H
    go_enter Try.func44, Try.ntmps44
    go_wp2
    go_ret
    exact ⟨_, by first | rfl | (simp [errW_none, errW_some] <;> rfl) | (simp [*, errW_none, errW_some] <;> rfl), by (with_reducible repeat (first | apply Kd.R_alloc | apply Kd.R_drewN | apply Kd.R_drew)); exact HO0.out, by repeat (first | (with_reducible first | exact HB.out | apply below_alloc | apply pw_below_drewN | apply below_drew1) | exact HB.out), by repeat (first | (with_reducible first | exact HK.out | apply Kept.alloc | apply Kept.drewN | apply Kept.drew) | exact HK.out)⟩
  · rw [if_neg c3] at H
    obtain ⟨c3b0, c3b1⟩ := neB_ c3
    have H' := Aside0.mk H
    clear H
    go_enter Try.func44, Try.ntmps44
    go_wp2
    go_loopg [5] k (fun kq v5 w' => ∃ (x5_1 : Int), v5 = .int .i64 x5_1 ∧ Aside0 (constableref01_With.l0 kq l0 a1 x5_1 = some r) ∧ Aside0 (kq ≤ k) ∧ Aside0 (Kd.R Kd.string 9 w' w0.heap.size (fun k_ => (P0_ k_ ∨ w.heap.size ≤ k_)) u9000_ l0) ∧ Aside0 (Kept w w' (fun k_ => P0_ k_)) ∧ Aside0 (Below w0.heap.size w0 w'))
    case atStart => exact ⟨(0), ra_, H', ⟨Nat.le_refl _⟩, ⟨by (with_reducible repeat (first | apply Kd.R_alloc | apply Kd.R_drewN | apply Kd.R_drew)); exact HO0.out⟩, ⟨by repeat (first | (with_reducible first | exact HK.out | apply Kept.alloc | apply Kept.drewN | apply Kept.drew) | exact HK.out)⟩, ⟨by repeat (first | (with_reducible first | exact HB.out | apply below_alloc | apply pw_below_drewN | apply below_drew1) | exact HB.out)⟩⟩
    case round =>
      clear H'
      try clear p2
      try clear c3
      try clear c3b0
      try clear c3b1
      obtain ⟨x5_1, rfl, HA, HK1, HO_0, HK, HB⟩ := hrel
      cases gk with
      | zero => exact absurd HA.out (by simp [constableref01_With.l0])
      | succ k1 =>
        have H := HA.out
        clear HA
        simp only [constableref01_With.l0] at H
        by_cases c4 : x5_1 < (l0.length : Int)
        · rw [if_pos c4] at H
          have c4b0 : decide (x5_1 < (l0.length : Int)) = true := decide_eq_true c4
          clear c4
          by_cases c5 : 0 ≤ x5_1
          · rw [if_pos c5] at H
            have c5b0 : decide (0 ≤ x5_1) = true := decide_eq_true c5
            clear c5
            by_cases c6 : (rdOf ByteArray.empty l0 x5_1).toList = a1.toList
            · rw [if_pos c6] at H
              obtain ⟨c6b0, c6b1⟩ := eqB_ c6
              clear c6
              obtain rfl := Option.some.inj H
              obtain ⟨Ao7, co7, eo7⟩ := Kd.R_slice HO_0.out
              subst eo7
              have p285 : 0 ≤ (x5_1 : Int) := dt_
              have q285 : x5_1 < (l0.length : Int) := dt_
              obtain ⟨ad285, e285, hx285_0⟩ := Kd.at_string (Kd.R_reads' HO_0.out).2.2 x5_1 p285 q285
              cases e285
              replace p285 := eq_true p285
              replace q285 := eq_true q285
              go_wp2
              go_ret
              exact ⟨_, by first | rfl | (simp [errW_none, errW_some] <;> rfl) | (simp [*, errW_none, errW_some] <;> rfl), by (with_reducible repeat (first | apply Kd.R_alloc | apply Kd.R_drewN | apply Kd.R_drew)); exact HO_0.out, by repeat (first | (with_reducible first | exact HB.out | apply below_alloc | apply pw_below_drewN | apply below_drew1) | exact HB.out), by repeat (first | (with_reducible first | exact HK.out | apply Kept.alloc | apply Kept.drewN | apply Kept.drew) | exact HK.out)⟩
            · rw [if_neg c6] at H
              obtain ⟨c6b0, c6b1⟩ := neB_ c6
              have H' := Aside0.mk H
              clear H
              obtain ⟨Ao8, co8, eo8⟩ := Kd.R_slice HO_0.out
              subst eo8
              have p285 : 0 ≤ (x5_1 : Int) := dt_
              have q285 : x5_1 < (l0.length : Int) := dt_
              obtain ⟨ad285, e285, hx285_0⟩ := Kd.at_string (Kd.R_reads' HO_0.out).2.2 x5_1 p285 q285
              cases e285
              replace p285 := eq_true p285
              replace q285 := eq_true q285
              go_wp2
              go_roundg k1
              case measure => have := HK1.out; omega
              case rel => exact ⟨(wrap64 (x5_1 + 1)), ra_, H', ⟨by have := HK1.out; omega⟩, ⟨by (with_reducible repeat (first | apply Kd.R_alloc | apply Kd.R_drewN | apply Kd.R_drew)); exact HO_0.out⟩, ⟨by repeat (first | (with_reducible first | exact HK.out | apply Kept.alloc | apply Kept.drewN | apply Kept.drew) | exact HK.out)⟩, ⟨by repeat (first | (with_reducible first | exact HB.out | apply below_alloc | apply pw_below_drewN | apply below_drew1) | exact HB.out)⟩⟩
          · rw [if_neg c5] at H
            exact absurd H (by simp)
        · rw [if_neg c4] at H
          have c4b0 : decide (x5_1 < (l0.length : Int)) = false := decide_eq_false c4
          clear c4
          by_cases c9 : l0.length < 8796093022208
          · rw [if_pos c9] at H
            have LMc9 := Aside0.mk c9
            clear c9
            obtain ⟨y286, hy286⟩ : ∃ y_ : List ByteArray, y_ = (l0 ++ [a1]) := ⟨_, rfl⟩
            replace H : (some y286) = some r := by first | (rw [hy286]; with_reducible exact H) | (have H2_ := (Option.bind_some _ _).symm.trans H; rw [hy286]; with_reducible exact H2_) | (have H2_ := (Option.bind_some _ _).symm.trans H; with_reducible exact H2_) | with_reducible exact H | (rw [hy286]; exact H) | exact H
            have Ny286 := Aside0.mk hy286
            clear hy286
            obtain rfl := Option.some.inj H
            obtain ⟨Ao10, co10, eo10⟩ := Kd.R_slice HO_0.out
            subst eo10
            go_wp2_with (first | ((with_reducible refine gate_builtin (b := .append) (xs := #[.tmp 23, .tmp 25]) rfl ?_); at_builtin; refine Kd.R_append Kd.string (w0 := w0) w0.heap.size rfl (.tmp 23) (.tmp 25) 44 9 (.string ⟨#[]⟩) 16 rfl Try.underlying44 info9 rfl (by decide) (by omega) (.slice Ao10 l0.length co10) l0 a1 [.string a1] (fun k_ => (P0_ k_ ∨ w.heap.size ≤ k_)) (fun _ => False) rfl rfl ?aP (fun _ hk => hk.elim) ?aF ?aO ?aB ?aS ?aL ?_; (case aP => exact rfl); (case aB => exact (be_ HB)); (case aF => exact (fun k_ hk => (.inr (Nat.le_trans (by first | exact HK.out.1 | exact (show Kept w _ (fun k_ => P0_ k_) from by repeat (first | (with_reducible first | exact HK.out | apply Kept.alloc | apply Kept.drewN | apply Kept.drew) | exact HK.out)).1) hk)))); (case aO => exact (ku_ HO_0.out)); (case aS => exact (below_size (be_ HB))); (case aL => have := LMc9.out; omega); intro v287 w11 ho hb hg hat; rw [← Ny286.out] at ho; have n0_ := Aside0.mk (hb); have n1_ := Aside0.mk (Kept.of_grown (S := (fun k_ => P0_ k_)) hg (by repeat (first | (with_reducible first | exact HK.out | apply Kept.alloc | apply Kept.drewN | apply Kept.drew) | exact HK.out)) (fun k_ e_ => (HO_0.out.1 k_ e_))); have n2_ := Aside0.mk (ho); clear HB; clear HK; clear HO_0; have HB := n0_; have HK := n1_; have HO288 := n2_; clear n0_ n1_ n2_; clear ho hb hg hat))
            go_ret
            exact ⟨_, by first | rfl | (simp [errW_none, errW_some] <;> rfl) | (simp [*, errW_none, errW_some] <;> rfl), by (with_reducible repeat (first | apply Kd.R_alloc | apply Kd.R_drewN | apply Kd.R_drew)); exact HO288.out, by repeat (first | (with_reducible first | exact HB.out | apply below_alloc | apply pw_below_drewN | apply below_drew1) | exact HB.out), by repeat (first | (with_reducible first | exact HK.out | apply Kept.alloc | apply Kept.drewN | apply Kept.drew) | exact HK.out)⟩
          · rw [if_neg c9] at H
            exact absurd H (by simp)
end Go.Proofs.Ytconpnagoijacaa.P
end
section
namespace Go.Proofs.Ytconpnagoijacaa.P
open Go.RowKit Go.Proofs.YtconpnagoijacaaW.PrintWords Go.Proofs.YtconpnagoijacaaW.PrintLast Go.Proofs.YtconpnagoijacaaW.PrintMore
attribute [local go_sem] max2_int min2_int max_two min_two max_three min_three max_four min_four
set_option linter.unusedVariables false
set_option linter.unusedSimpArgs false
def constableref01_ExprVars.l0 : Nat → List (S52) → List ByteArray → Int → Option (List ByteArray)
  | 0, _, _, _ => none
  | k + 1, x0, x3, x4 => if x4 < (x0.length : Int) then (if 0 ≤ x4 then ((constableref01_With.f k x3 ((rd_T52 x0 x4).f1)).bind fun t290 => (constableref01_ExprVars.l0 k x0 t290 (wrap64 (x4 + 1)))) else (none)) else (some x3)
def constableref01_ExprVars.f (k : Nat) (l0 : List (S52)) : Option (List ByteArray) := constableref01_ExprVars.l0 k l0 ([] : List ByteArray) 0
theorem constableref01_ExprVars.mono_l : ∀ k, (∀ y0 y1 y2, LeO (constableref01_ExprVars.l0 k y0 y1 y2) (constableref01_ExprVars.l0 (k + 1) y0 y1 y2))
  | 0 => fun _ _ _ r h => by simp [constableref01_ExprVars.l0] at h
  | k + 1 => by
    have ih0 := constableref01_ExprVars.mono_l k
    · intro y0 y1 y2
      unfold constableref01_ExprVars.l0
      repeat' first
      | (with_reducible exact ih0 _ _ _)
      | (with_reducible exact constableref01_With.mono _ _ _)
      | (with_reducible exact LeO.refl _)
      | (with_reducible exact LeO.none _)
      | (with_reducible refine LeO.ite ?_ ?_)
      | (with_reducible refine LeO.bind ?_ (fun _ => ?_))
      | exact ih0 _ _ _
      | exact constableref01_With.mono _ _ _
      | exact LeO.none _
      | refine LeO.ite ?_ ?_
      | refine LeO.bind ?_ (fun _ => ?_)
theorem constableref01_ExprVars.mono : ∀ a0 k, LeO (constableref01_ExprVars.f k a0) (constableref01_ExprVars.f (k + 1) a0) := by
  intro a0 k
  have ih0 := constableref01_ExprVars.mono_l k
  unfold constableref01_ExprVars.f
  repeat' first
      | (with_reducible exact ih0 _ _ _)
      | (with_reducible exact constableref01_With.mono _ _ _)
      | (with_reducible exact LeO.refl _)
      | (with_reducible exact LeO.none _)
      | (with_reducible refine LeO.ite ?_ ?_)
      | (with_reducible refine LeO.bind ?_ (fun _ => ?_))
      | exact ih0 _ _ _
      | exact constableref01_With.mono _ _ _
      | exact LeO.none _
      | refine LeO.ite ?_ ?_
      | refine LeO.bind ?_ (fun _ => ?_)
set_option maxHeartbeats 8000000 in
set_option maxRecDepth 100000 in
theorem constableref01_ExprVars.calls (k : Nat) (A0 : Option Addr) (c0 : Nat) (l0 : List (S52)) (r : List ByteArray) (w : World) (hr0 : Kd.C k52 w A0 l0.length l0) (hc0 : l0.length ≤ c0) (h : constableref01_ExprVars.f k l0 = some r) :
    Calls Try.prog 24 #[.slice A0 l0.length c0] w fun e w' => ∃ v0_ : Value, e = .returned (v0_) ∧ Kd.R Kd.string 9 w' w.heap.size (fun _ => True) v0_ r ∧ Below w.heap.size w w' := by
  have HR0 := Aside0.mk hr0
  have HC0 := Aside0.mk hc0
  clear hr0 hc0
  have HB := Aside0.mk (Below.refl w.heap.size w)
  have H : (constableref01_ExprVars.l0 k l0 ([] : List ByteArray) 0) = some r := h
  clear h
  have H' := Aside0.mk H
  clear H
  go_enter Try.func24, Try.ntmps24
  go_wp2
  go_loopg [3, 4] k (fun kq v3 v4 w' => ∃ (x3_1 : List ByteArray) (x4_1 : Int), v4 = .int .i64 x4_1 ∧ Aside0 (constableref01_ExprVars.l0 kq l0 x3_1 x4_1 = some r) ∧ Aside0 (kq ≤ k) ∧ Aside0 (Kd.R Kd.string 9 w' w.heap.size (fun _ => True) v3 x3_1) ∧ Aside0 (Below w.heap.size w w'))
  case atStart => exact ⟨(([] : List ByteArray)), (0), ra_, H', ⟨Nat.le_refl _⟩, ⟨by first | exact Kd.R_nil _ _ _ _ _ | exact Kd.N_nil _ _ _ _ _ | exact Kd.V_nil _ _ _ _ _ | exact Kd.Q_nil _ _ _ _ _ | exact Kd.S_nil _ _ _ _ _⟩, ⟨by repeat (first | (with_reducible first | exact HB.out | apply below_alloc | apply pw_below_drewN | apply below_drew1) | exact HB.out)⟩⟩
  case round =>
    clear H'
    obtain ⟨x3_1, x4_1, rfl, HA, HK1, HO_3, HB⟩ := hrel
    cases gk with
    | zero => exact absurd HA.out (by simp [constableref01_ExprVars.l0])
    | succ k1 =>
      have H := HA.out
      clear HA
      simp only [constableref01_ExprVars.l0] at H
      by_cases c2 : x4_1 < (l0.length : Int)
      · rw [if_pos c2] at H
        have c2b0 : decide (x4_1 < (l0.length : Int)) = true := decide_eq_true c2
        clear c2
        by_cases c3 : 0 ≤ x4_1
        · rw [if_pos c3] at H
          have c3b0 : decide (0 ≤ x4_1) = true := decide_eq_true c3
          clear c3
          replace H := Option.bind_eq_some_iff.mp H
          obtain ⟨t290, A40, H⟩ := H
          replace H : (constableref01_ExprVars.l0 k1 l0 t290 (wrap64 (x4_1 + 1))) = some r := H
          have A4 := Aside0.mk A40
          clear A40
          have H' := Aside0.mk H
          clear H
          have p289 : 0 ≤ (x4_1 : Int) := dt_
          have q289 : x4_1 < (l0.length : Int) := dt_
          obtain ⟨ad289, e289, hx289_0, hx289_1, hx289_2, hx289_3, hx289_4⟩ := at_T52 HR0.out x4_1 p289 q289
          cases e289
          replace hx289_0 := cm_ HB hx289_0
          replace hx289_1 := cm_ HB hx289_1
          replace hx289_2 := cm_ HB hx289_2
          replace hx289_3 := cm_ HB hx289_3
          replace hx289_4 := cm_ HB hx289_4
          replace p289 := eq_true p289
          replace q289 := eq_true q289
          obtain ⟨Ao5, co5, eo5⟩ := Kd.R_slice HO_3.out
          subst eo5
          go_wp2_with (first | ((with_reducible refine gate_callee (f := 44) rfl ?_); refine goesL_ (some 17) rfl rfl Try.func44 (by kernel_rfl) rfl #[.slice Ao5 x3_1.length co5, .string ((rd_T52 l0 x4_1).f1)] rfl ga_ ?_; (with_reducible refine (constableref01_With.calls k1 (fun k_ => some k_ = (.slice Ao5 x3_1.length co5 : Value).ownBlock) (.slice Ao5 x3_1.length co5) x3_1 ((rd_T52 l0 x4_1).f1) t290 w _ ?side1 ?side2 A4.out).mono ?_); (case side1 => repeat (first | (with_reducible first | exact HB.out | apply below_alloc | apply pw_below_drewN | apply below_drew1) | exact HB.out)); (case side2 => exact Kd.R_tight rfl HO_3.out); rintro e w6 ⟨v291, rfl, ho0, hb, hkp⟩; refine ⟨_, rfl, ?_⟩; have n0_ := Aside0.mk (Kd.R_mono (ok' := fun k_ => True) ho0 (fun k_ hk_ => trivial)); have n1_ := Aside0.mk (hb); clear HB; clear HO_3; have HO292 := n0_; have HB := n1_; clear n0_ n1_; (try clear hb); (try clear hkp); (try clear ho0)))
          go_roundg k1
          case measure => have := HK1.out; omega
          case rel => exact ⟨(t290), (wrap64 (x4_1 + 1)), ra_, H', ⟨by have := HK1.out; omega⟩, ⟨by (with_reducible repeat (first | apply Kd.R_alloc | apply Kd.R_drewN | apply Kd.R_drew)); exact HO292.out⟩, ⟨by repeat (first | (with_reducible first | exact HB.out | apply below_alloc | apply pw_below_drewN | apply below_drew1) | exact HB.out)⟩⟩
        · rw [if_neg c3] at H
          exact absurd H (by simp)
      · rw [if_neg c2] at H
        have c2b0 : decide (x4_1 < (l0.length : Int)) = false := decide_eq_false c2
        clear c2
        obtain rfl := Option.some.inj H
        go_wp2
        go_ret
        exact ⟨_, by first | rfl | (simp [errW_none, errW_some] <;> rfl) | (simp [*, errW_none, errW_some] <;> rfl), by (with_reducible repeat (first | apply Kd.R_alloc | apply Kd.R_drewN | apply Kd.R_drew)); exact HO_3.out, by repeat (first | (with_reducible first | exact HB.out | apply below_alloc | apply pw_below_drewN | apply below_drew1) | exact HB.out)⟩
end Go.Proofs.Ytconpnagoijacaa.P
end
section
namespace Go.Proofs.Ytconpnagoijacaa.P
open Go.RowKit Go.Proofs.YtconpnagoijacaaW.PrintWords Go.Proofs.YtconpnagoijacaaW.PrintLast Go.Proofs.YtconpnagoijacaaW.PrintMore
attribute [local go_sem] max2_int min2_int max_two min_two max_three min_three max_four min_four
set_option linter.unusedVariables false
set_option linter.unusedSimpArgs false
def constableref01_Part.l0 : Nat → List (S52) → Int → Int → Option (Int)
  | 0, _, _, _ => none
  | k + 1, x0, x5, x6 => if x6 ≥ 0 then (if 0 ≤ x6 then (if x6 < (x0.length : Int) then (if ((rd_T52 x0 x6).f0) ≥ 3 then (if (wrap64 (x5 + 1)) = 0 then (some x6) else (constableref01_Part.l0 k x0 (wrap64 (x5 + 1)) (wrap64 (x6 - 1)))) else (if (wrap64 (x5 - 1)) = 0 then (some x6) else (constableref01_Part.l0 k x0 (wrap64 (x5 - 1)) (wrap64 (x6 - 1))))) else (none)) else (none)) else (some (-1))
def constableref01_Part.f (k : Nat) (l0 : List (S52)) (a1 : Int) : Option (Int) := constableref01_Part.l0 k l0 1 a1
theorem constableref01_Part.mono_l : ∀ k, (∀ y0 y1 y2, LeO (constableref01_Part.l0 k y0 y1 y2) (constableref01_Part.l0 (k + 1) y0 y1 y2))
  | 0 => fun _ _ _ r h => by simp [constableref01_Part.l0] at h
  | k + 1 => by
    have ih0 := constableref01_Part.mono_l k
    · intro y0 y1 y2
      unfold constableref01_Part.l0
      repeat' first
      | (with_reducible exact ih0 _ _ _)
      | (with_reducible exact LeO.refl _)
      | (with_reducible exact LeO.none _)
      | (with_reducible refine LeO.ite ?_ ?_)
      | (with_reducible refine LeO.bind ?_ (fun _ => ?_))
      | exact ih0 _ _ _
      | exact LeO.none _
      | refine LeO.ite ?_ ?_
      | refine LeO.bind ?_ (fun _ => ?_)
theorem constableref01_Part.mono : ∀ a0 a1 k, LeO (constableref01_Part.f k a0 a1) (constableref01_Part.f (k + 1) a0 a1) := by
  intro a0 a1 k
  have ih0 := constableref01_Part.mono_l k
  unfold constableref01_Part.f
  repeat' first
      | (with_reducible exact ih0 _ _ _)
      | (with_reducible exact LeO.refl _)
      | (with_reducible exact LeO.none _)
      | (with_reducible refine LeO.ite ?_ ?_)
      | (with_reducible refine LeO.bind ?_ (fun _ => ?_))
      | exact ih0 _ _ _
      | exact LeO.none _
      | refine LeO.ite ?_ ?_
      | refine LeO.bind ?_ (fun _ => ?_)
set_option maxHeartbeats 8000000 in
set_option maxRecDepth 100000 in
theorem constableref01_Part.calls (k : Nat) (A0 : Option Addr) (c0 : Nat) (l0 : List (S52)) (a1 : Int) (r : Int) (w : World) (hr0 : Kd.C k52 w A0 l0.length l0) (hc0 : l0.length ≤ c0) (h : constableref01_Part.f k l0 a1 = some r) :
    Calls Try.prog 29 #[.slice A0 l0.length c0, .int .i64 a1] w fun e w' => e = .returned (.int .i64 r) ∧ Drawn0 w w' := by
  have HR0 := Aside0.mk hr0
  have HC0 := Aside0.mk hc0
  clear hr0 hc0
  have H : (constableref01_Part.l0 k l0 1 a1) = some r := h
  clear h
  have H' := Aside0.mk H
  clear H
  go_enter Try.func29, Try.ntmps29
  go_wp2
  go_loopg [5, 6] k (fun kq v5 v6 w' => ∃ (x5_1 : Int) (x6_1 : Int), v5 = .int .i64 x5_1 ∧ v6 = .int .i64 x6_1 ∧ Aside0 (constableref01_Part.l0 kq l0 x5_1 x6_1 = some r) ∧ Aside0 (kq ≤ k) ∧ Drawn0 w w')
  case atStart => exact ⟨(1), (a1), ra_, ra_, H', ⟨Nat.le_refl _⟩, dz_⟩
  case round =>
    clear H'
    try clear c2
    try clear p2
    obtain ⟨x5_1, x6_1, rfl, rfl, HA, HK1, ⟨m1, rfl⟩⟩ := hrel
    cases gk with
    | zero => exact absurd HA.out (by simp [constableref01_Part.l0])
    | succ k1 =>
      have H := HA.out
      clear HA
      simp only [constableref01_Part.l0] at H
      by_cases c3 : x6_1 ≥ 0
      · rw [if_pos c3] at H
        have c3b0 : decide (0 ≤ x6_1) = true := decide_eq_true c3
        clear c3
        by_cases c4 : 0 ≤ x6_1
        · rw [if_pos c4] at H
          have c4b0 : decide (0 ≤ x6_1) = true := decide_eq_true c4
          clear c4
          by_cases c5 : x6_1 < (l0.length : Int)
          · rw [if_pos c5] at H
            have c5b0 : decide (x6_1 < (l0.length : Int)) = true := decide_eq_true c5
            clear c5
            by_cases c6 : ((rd_T52 l0 x6_1).f0) ≥ 3
            · rw [if_pos c6] at H
              have c6b0 : decide (3 ≤ ((rd_T52 l0 x6_1).f0)) = true := decide_eq_true c6
              clear c6
              by_cases c7 : (wrap64 (x5_1 + 1)) = 0
              · rw [if_pos c7] at H
                obtain ⟨c7b0, c7b1⟩ := eqB_ c7
                clear c7
                obtain rfl := Option.some.inj H
                have p313 : 0 ≤ (x6_1 : Int) := dt_
                have q313 : x6_1 < (l0.length : Int) := dt_
                obtain ⟨ad313, e313, hx313_0, hx313_1, hx313_2, hx313_3, hx313_4⟩ := at_T52 HR0.out x6_1 p313 q313
                cases e313
                replace p313 := eq_true p313
                replace q313 := eq_true q313
                go_wp2
                go_ret
                exact rz_
              · rw [if_neg c7] at H
                obtain ⟨c7b0, c7b1⟩ := neB_ c7
                have H' := Aside0.mk H
                clear H
                have p313 : 0 ≤ (x6_1 : Int) := dt_
                have q313 : x6_1 < (l0.length : Int) := dt_
                obtain ⟨ad313, e313, hx313_0, hx313_1, hx313_2, hx313_3, hx313_4⟩ := at_T52 HR0.out x6_1 p313 q313
                cases e313
                replace p313 := eq_true p313
                replace q313 := eq_true q313
                go_wp2
                go_roundg k1
                case measure => have := HK1.out; omega
                case rel => exact ⟨(wrap64 (x5_1 + 1)), (wrap64 (x6_1 - 1)), ra_, ra_, H', ⟨by have := HK1.out; omega⟩, dz_⟩
            · rw [if_neg c6] at H
              have c6b0 : decide (3 ≤ ((rd_T52 l0 x6_1).f0)) = false := decide_eq_false c6
              clear c6
              by_cases c8 : (wrap64 (x5_1 - 1)) = 0
              · rw [if_pos c8] at H
                obtain ⟨c8b0, c8b1⟩ := eqB_ c8
                clear c8
                obtain rfl := Option.some.inj H
                have p313 : 0 ≤ (x6_1 : Int) := dt_
                have q313 : x6_1 < (l0.length : Int) := dt_
                obtain ⟨ad313, e313, hx313_0, hx313_1, hx313_2, hx313_3, hx313_4⟩ := at_T52 HR0.out x6_1 p313 q313
                cases e313
                replace p313 := eq_true p313
                replace q313 := eq_true q313
                go_wp2
                go_ret
                exact rz_
              · rw [if_neg c8] at H
                obtain ⟨c8b0, c8b1⟩ := neB_ c8
                have H' := Aside0.mk H
                clear H
                have p313 : 0 ≤ (x6_1 : Int) := dt_
                have q313 : x6_1 < (l0.length : Int) := dt_
                obtain ⟨ad313, e313, hx313_0, hx313_1, hx313_2, hx313_3, hx313_4⟩ := at_T52 HR0.out x6_1 p313 q313
                cases e313
                replace p313 := eq_true p313
                replace q313 := eq_true q313
                go_wp2
                go_roundg k1
                case measure => have := HK1.out; omega
                case rel => exact ⟨(wrap64 (x5_1 - 1)), (wrap64 (x6_1 - 1)), ra_, ra_, H', ⟨by have := HK1.out; omega⟩, dz_⟩
          · rw [if_neg c5] at H
            exact absurd H (by simp)
        · rw [if_neg c4] at H
          exact absurd H (by simp)
      · rw [if_neg c3] at H
        have c3b0 : decide (0 ≤ x6_1) = false := decide_eq_false c3
        clear c3
        obtain rfl := Option.some.inj H
        go_wp2
        go_ret
        exact rz_
end Go.Proofs.Ytconpnagoijacaa.P
end
section
namespace Go.Proofs.Ytconpnagoijacaa.P
open Go.RowKit Go.Proofs.YtconpnagoijacaaW.PrintWords Go.Proofs.YtconpnagoijacaaW.PrintLast Go.Proofs.YtconpnagoijacaaW.PrintMore
attribute [local go_sem] max2_int min2_int max_two min_two max_three min_three max_four min_four
set_option linter.unusedVariables false
set_option linter.unusedSimpArgs false
def constablekeep_TwinOps.f (l0 : List (S52)) : Option ((List (S52))) := if ([] : List (S52)).length + l0.length < 2513169434916 then (some (([] : List (S52)) ++ l0)) else (none)
set_option maxHeartbeats 8000000 in
set_option maxRecDepth 100000 in
theorem constablekeep_TwinOps.calls (A0 : Option Addr) (c0 : Nat) (l0 : List (S52)) (r : List (S52)) (w : World) (hr0 : Kd.C k52 w A0 l0.length l0) (hc0 : l0.length ≤ c0) (h : constablekeep_TwinOps.f l0 = some r) :
    Calls Try.prog 19 #[.slice A0 l0.length c0] w fun e w' => ∃ v0_ : Value, e = .returned (v0_) ∧ Kd.R k52 52 w' w.heap.size (fun _ => True) v0_ r ∧ Below w.heap.size w w' := by
  have HR0 := Aside0.mk hr0
  have HC0 := Aside0.mk hc0
  clear hr0 hc0
  have HB := Aside0.mk (Below.refl w.heap.size w)
  have H : (if ([] : List (S52)).length + l0.length < 2513169434916 then (some (([] : List (S52)) ++ l0)) else (none)) = some r := h
  clear h
  by_cases c2 : ([] : List (S52)).length + l0.length < 2513169434916
  · rw [if_pos c2] at H
    have LMc2 := Aside0.mk c2
    clear c2
    obtain ⟨y204, hy204⟩ : ∃ y_ : List (S52), y_ = (([] : List (S52)) ++ l0) := ⟨_, rfl⟩
    replace H : (some y204) = some r := by first | (rw [hy204]; with_reducible exact H) | (have H2_ := (Option.bind_some _ _).symm.trans H; rw [hy204]; with_reducible exact H2_) | (have H2_ := (Option.bind_some _ _).symm.trans H; with_reducible exact H2_) | with_reducible exact H | (rw [hy204]; exact H) | exact H
    have Ny204 := Aside0.mk hy204
    clear hy204
    obtain rfl := Option.some.inj H
    go_enter Try.func19, Try.ntmps19
    go_wp2_with (first | ((with_reducible refine gate_builtin (b := .append) (xs := #[.tmp 4, .tmp 5]) rfl ?_); at_builtin; refine Kd.R_append_rows k52 (w0 := w) w.heap.size rfl (.tmp 4) (.tmp 5) 33 52 (.agg #[(.int .i64 0), (.string ⟨#[]⟩), (.int .i64 0), (.int .i64 0), (.string ⟨#[]⟩)]) 56 rfl Try.underlying33 info52 rfl (by decide) (by omega) (.slice none 0 0) ([] : List (S52)) l0 _ _ _ (fun _ => True) (fun _ => False) rfl rfl ?aO ?aR (fun _ _ h => h) (fun _ h => h.elim) ?aF ?aB ?aS ?aL ?_; (case aR => repeat (first | exact HR0.out | (with_reducible refine Kd.C_alloc ?_ _) | (with_reducible refine Kd.C_drewN ?_ _) | (with_reducible refine Kd.C_drew ?_))); (case aB => exact (be_ HB)); (case aF => exact (fun _ _ => trivial)); (case aO => exact ((Kd.R_nil _ _ _ _ (fun _ => True)))); (case aS => exact (below_size (be_ HB))); (case aL => have := LMc2.out; omega); intro v205 w3 ho hb hg hat; rw [← Ny204.out] at ho; have n0_ := Aside0.mk (hb); have n1_ := Aside0.mk (ho); clear HB; have HB := n0_; have HO206 := n1_; clear n0_ n1_; clear ho hb hg hat))
    go_ret
    exact ⟨_, by first | rfl | (simp [errW_none, errW_some] <;> rfl) | (simp [*, errW_none, errW_some] <;> rfl), by (with_reducible repeat (first | apply Kd.R_alloc | apply Kd.R_drewN | apply Kd.R_drew)); exact HO206.out, by repeat (first | (with_reducible first | exact HB.out | apply below_alloc | apply pw_below_drewN | apply below_drew1) | exact HB.out)⟩
  · rw [if_neg c2] at H
    exact absurd H (by simp)
end Go.Proofs.Ytconpnagoijacaa.P
end
section
namespace Go.Proofs.Ytconpnagoijacaa.P
open Go.RowKit Go.Proofs.YtconpnagoijacaaW.PrintWords Go.Proofs.YtconpnagoijacaaW.PrintLast Go.Proofs.YtconpnagoijacaaW.PrintMore
attribute [local go_sem] max2_int min2_int max_two min_two max_three min_three max_four min_four
set_option linter.unusedVariables false
set_option linter.unusedSimpArgs false
def constablekeep_TwinBinds.f (l0 : List (S62)) : Option ((List (S62))) := if ([] : List (S62)).length + l0.length < 2932031007402 then (some (([] : List (S62)) ++ l0)) else (none)
set_option maxHeartbeats 8000000 in
set_option maxRecDepth 100000 in
theorem constablekeep_TwinBinds.calls (A0 : Option Addr) (c0 : Nat) (l0 : List (S62)) (r : List (S62)) (w : World) (hr0 : Kd.C k62 w A0 l0.length l0) (hc0 : l0.length ≤ c0) (h : constablekeep_TwinBinds.f l0 = some r) :
    Calls Try.prog 20 #[.slice A0 l0.length c0] w fun e w' => ∃ v0_ : Value, e = .returned (v0_) ∧ Kd.R k62 62 w' w.heap.size (fun _ => True) v0_ r ∧ Below w.heap.size w w' := by
  have HR0 := Aside0.mk hr0
  have HC0 := Aside0.mk hc0
  clear hr0 hc0
  have HB := Aside0.mk (Below.refl w.heap.size w)
  have H : (if ([] : List (S62)).length + l0.length < 2932031007402 then (some (([] : List (S62)) ++ l0)) else (none)) = some r := h
  clear h
  by_cases c2 : ([] : List (S62)).length + l0.length < 2932031007402
  · rw [if_pos c2] at H
    have LMc2 := Aside0.mk c2
    clear c2
    obtain ⟨y207, hy207⟩ : ∃ y_ : List (S62), y_ = (([] : List (S62)) ++ l0) := ⟨_, rfl⟩
    replace H : (some y207) = some r := by first | (rw [hy207]; with_reducible exact H) | (have H2_ := (Option.bind_some _ _).symm.trans H; rw [hy207]; with_reducible exact H2_) | (have H2_ := (Option.bind_some _ _).symm.trans H; with_reducible exact H2_) | with_reducible exact H | (rw [hy207]; exact H) | exact H
    have Ny207 := Aside0.mk hy207
    clear hy207
    obtain rfl := Option.some.inj H
    go_enter Try.func20, Try.ntmps20
    go_wp2_with (first | ((with_reducible refine gate_builtin (b := .append) (xs := #[.tmp 4, .tmp 5]) rfl ?_); at_builtin; refine Kd.R_append_rows k62 (w0 := w) w.heap.size rfl (.tmp 4) (.tmp 5) 34 62 (.agg #[(.string ⟨#[]⟩), (.int .i64 0), (.int .i64 0), (.string ⟨#[]⟩)]) 48 rfl Try.underlying34 info62 rfl (by decide) (by omega) (.slice none 0 0) ([] : List (S62)) l0 _ _ _ (fun _ => True) (fun _ => False) rfl rfl ?aO ?aR (fun _ _ h => h) (fun _ h => h.elim) ?aF ?aB ?aS ?aL ?_; (case aR => repeat (first | exact HR0.out | (with_reducible refine Kd.C_alloc ?_ _) | (with_reducible refine Kd.C_drewN ?_ _) | (with_reducible refine Kd.C_drew ?_))); (case aB => exact (be_ HB)); (case aF => exact (fun _ _ => trivial)); (case aO => exact ((Kd.R_nil _ _ _ _ (fun _ => True)))); (case aS => exact (below_size (be_ HB))); (case aL => have := LMc2.out; omega); intro v208 w3 ho hb hg hat; rw [← Ny207.out] at ho; have n0_ := Aside0.mk (hb); have n1_ := Aside0.mk (ho); clear HB; have HB := n0_; have HO209 := n1_; clear n0_ n1_; clear ho hb hg hat))
    go_ret
    exact ⟨_, by first | rfl | (simp [errW_none, errW_some] <;> rfl) | (simp [*, errW_none, errW_some] <;> rfl), by (with_reducible repeat (first | apply Kd.R_alloc | apply Kd.R_drewN | apply Kd.R_drew)); exact HO209.out, by repeat (first | (with_reducible first | exact HB.out | apply below_alloc | apply pw_below_drewN | apply below_drew1) | exact HB.out)⟩
  · rw [if_neg c2] at H
    exact absurd H (by simp)
end Go.Proofs.Ytconpnagoijacaa.P
end
section
namespace Go.Proofs.Ytconpnagoijacaa.P
open Go.RowKit Go.Proofs.YtconpnagoijacaaW.PrintWords Go.Proofs.YtconpnagoijacaaW.PrintLast Go.Proofs.YtconpnagoijacaaW.PrintMore
attribute [local go_sem] max2_int min2_int max_two min_two max_three min_three max_four min_four
set_option linter.unusedVariables false
set_option linter.unusedSimpArgs false
def constablekeep_Texts.l0 : Nat → List ByteArray → List ByteArray → Int → Option (Bool)
  | 0, _, _, _ => none
  | k + 1, x0, x1, x5 => if x5 < (x0.length : Int) then (if 0 ≤ x5 then (if x5 < (x1.length : Int) then (if (rdOf ByteArray.empty x0 x5).toList = (rdOf ByteArray.empty x1 x5).toList then (constablekeep_Texts.l0 k x0 x1 (wrap64 (x5 + 1))) else (some false)) else (none)) else (none)) else (some true)
def constablekeep_Texts.f (k : Nat) (l0 : List ByteArray) (l1 : List ByteArray) : Option (Bool) := if (l0.length : Int) = (l1.length : Int) then (constablekeep_Texts.l0 k l0 l1 0) else (some false)
theorem constablekeep_Texts.mono_l : ∀ k, (∀ y0 y1 y2, LeO (constablekeep_Texts.l0 k y0 y1 y2) (constablekeep_Texts.l0 (k + 1) y0 y1 y2))
  | 0 => fun _ _ _ r h => by simp [constablekeep_Texts.l0] at h
  | k + 1 => by
    have ih0 := constablekeep_Texts.mono_l k
    · intro y0 y1 y2
      unfold constablekeep_Texts.l0
      repeat' first
      | (with_reducible exact ih0 _ _ _)
      | (with_reducible exact LeO.refl _)
      | (with_reducible exact LeO.none _)
      | (with_reducible refine LeO.ite ?_ ?_)
      | (with_reducible refine LeO.bind ?_ (fun _ => ?_))
      | exact ih0 _ _ _
      | exact LeO.none _
      | refine LeO.ite ?_ ?_
      | refine LeO.bind ?_ (fun _ => ?_)
theorem constablekeep_Texts.mono : ∀ a0 a1 k, LeO (constablekeep_Texts.f k a0 a1) (constablekeep_Texts.f (k + 1) a0 a1) := by
  intro a0 a1 k
  have ih0 := constablekeep_Texts.mono_l k
  unfold constablekeep_Texts.f
  repeat' first
      | (with_reducible exact ih0 _ _ _)
      | (with_reducible exact LeO.refl _)
      | (with_reducible exact LeO.none _)
      | (with_reducible refine LeO.ite ?_ ?_)
      | (with_reducible refine LeO.bind ?_ (fun _ => ?_))
      | exact ih0 _ _ _
      | exact LeO.none _
      | refine LeO.ite ?_ ?_
      | refine LeO.bind ?_ (fun _ => ?_)
set_option maxHeartbeats 8000000 in
set_option maxRecDepth 100000 in
theorem constablekeep_Texts.calls (k : Nat) (A0 : Option Addr) (c0 : Nat) (l0 : List ByteArray) (A1 : Option Addr) (c1 : Nat) (l1 : List ByteArray) (r : Bool) (w : World) (hr0 : Kd.C Kd.string w A0 l0.length l0) (hc0 : l0.length ≤ c0) (hr1 : Kd.C Kd.string w A1 l1.length l1) (hc1 : l1.length ≤ c1) (h : constablekeep_Texts.f k l0 l1 = some r) :
    Calls Try.prog 22 #[.slice A0 l0.length c0, .slice A1 l1.length c1] w fun e w' => e = .returned (.bool r) ∧ Drawn0 w w' := by
  have HR0 := Aside0.mk hr0
  have HC0 := Aside0.mk hc0
  clear hr0 hc0
  have HR1 := Aside0.mk hr1
  have HC1 := Aside0.mk hc1
  clear hr1 hc1
  have H : (if (l0.length : Int) = (l1.length : Int) then (constablekeep_Texts.l0 k l0 l1 0) else (some false)) = some r := h
  clear h
  by_cases c3 : (l0.length : Int) = (l1.length : Int)
  · rw [if_pos c3] at H
    obtain ⟨c3b0, c3b1⟩ := eqB_ c3
    have c3b2 : (l0.length == l1.length) = true := by first | simpa using c3 | (simp at c3 ⊢; omega)
    clear c3
    have H' := Aside0.mk H
    clear H
    go_enter Try.func22, Try.ntmps22
    go_wp2
    repeat (go_quiet (fail); try go_wp2)
    go_loopg [5] k (fun kq v5 w' => ∃ (x5_1 : Int), v5 = .int .i64 x5_1 ∧ Aside0 (constablekeep_Texts.l0 kq l0 l1 x5_1 = some r) ∧ Aside0 (kq ≤ k) ∧ Drawn0 w w')
    case atStart => exact ⟨(0), ra_, H', ⟨Nat.le_refl _⟩, dz_⟩
    case round =>
      clear H'
      try clear c1
      try clear c2
      try clear p2
      try clear c3
      try clear c3b0
      try clear c3b1
      try clear c3b2
      obtain ⟨x5_1, rfl, HA, HK1, ⟨m1, rfl⟩⟩ := hrel
      cases gk with
      | zero => exact absurd HA.out (by simp [constablekeep_Texts.l0])
      | succ k1 =>
        have H := HA.out
        clear HA
        simp only [constablekeep_Texts.l0] at H
        by_cases c4 : x5_1 < (l0.length : Int)
        · rw [if_pos c4] at H
          have c4b0 : decide (x5_1 < (l0.length : Int)) = true := decide_eq_true c4
          clear c4
          by_cases c5 : 0 ≤ x5_1
          · rw [if_pos c5] at H
            have c5b0 : decide (0 ≤ x5_1) = true := decide_eq_true c5
            clear c5
            by_cases c6 : x5_1 < (l1.length : Int)
            · rw [if_pos c6] at H
              have c6b0 : decide (x5_1 < (l1.length : Int)) = true := decide_eq_true c6
              clear c6
              by_cases c7 : (rdOf ByteArray.empty l0 x5_1).toList = (rdOf ByteArray.empty l1 x5_1).toList
              · rw [if_pos c7] at H
                obtain ⟨c7b0, c7b1⟩ := eqB_ c7
                clear c7
                have H' := Aside0.mk H
                clear H
                have p275 : 0 ≤ (x5_1 : Int) := dt_
                have q275 : x5_1 < (l0.length : Int) := dt_
                obtain ⟨ad275, e275, hx275_0⟩ := Kd.at_string HR0.out x5_1 p275 q275
                cases e275
                replace p275 := eq_true p275
                replace q275 := eq_true q275
                have p276 : 0 ≤ (x5_1 : Int) := dt_
                have q276 : x5_1 < (l1.length : Int) := dt_
                obtain ⟨ad276, e276, hx276_0⟩ := Kd.at_string HR1.out x5_1 p276 q276
                cases e276
                replace p276 := eq_true p276
                replace q276 := eq_true q276
                go_wp2
                repeat (go_quiet (fail); try go_wp2)
                go_roundg k1
                case measure => have := HK1.out; omega
                case rel => exact ⟨(wrap64 (x5_1 + 1)), ra_, H', ⟨by have := HK1.out; omega⟩, dz_⟩
              · rw [if_neg c7] at H
                obtain ⟨c7b0, c7b1⟩ := neB_ c7
                obtain rfl := Option.some.inj H
                have p275 : 0 ≤ (x5_1 : Int) := dt_
                have q275 : x5_1 < (l0.length : Int) := dt_
                obtain ⟨ad275, e275, hx275_0⟩ := Kd.at_string HR0.out x5_1 p275 q275
                cases e275
                replace p275 := eq_true p275
                replace q275 := eq_true q275
                have p276 : 0 ≤ (x5_1 : Int) := dt_
                have q276 : x5_1 < (l1.length : Int) := dt_
                obtain ⟨ad276, e276, hx276_0⟩ := Kd.at_string HR1.out x5_1 p276 q276
                cases e276
                replace p276 := eq_true p276
                replace q276 := eq_true q276
                go_wp2
                repeat (go_quiet (fail); try go_wp2)
                go_ret
                exact rz_
            · rw [if_neg c6] at H
              exact absurd H (by simp)
          · rw [if_neg c5] at H
            exact absurd H (by simp)
        · rw [if_neg c4] at H
          have c4b0 : decide (x5_1 < (l0.length : Int)) = false := decide_eq_false c4
          clear c4
          obtain rfl := Option.some.inj H
          go_wp2
          repeat (go_quiet (fail); try go_wp2)
          go_ret
          exact rz_
  · rw [if_neg c3] at H
    obtain ⟨c3b0, c3b1⟩ := neB_ c3
    have c3b2 : (l0.length == l1.length) = false := by first | simpa using c3 | (simp at c3 ⊢; omega)
    obtain rfl := Option.some.inj H
    go_enter Try.func22, Try.ntmps22
    go_wp2
    repeat (go_quiet (fail); try go_wp2)
    go_ret
    exact rz_
end Go.Proofs.Ytconpnagoijacaa.P
end
section
namespace Go.Proofs.Ytconpnagoijacaa.P
open Go.RowKit Go.Proofs.YtconpnagoijacaaW.PrintWords Go.Proofs.YtconpnagoijacaaW.PrintLast Go.Proofs.YtconpnagoijacaaW.PrintMore
attribute [local go_sem] max2_int min2_int max_two min_two max_three min_three max_four min_four
set_option linter.unusedVariables false
set_option linter.unusedSimpArgs false
theorem eqA52 (d : Nat) (w : World) (x0 y0 : Int) (x1 y1 : ByteArray) (x2 y2 : Int) (x3 y3 : Int) (x4 y4 : ByteArray) :
    (Op.equalIn (d + 3) 52 (.agg #[.int .i64 x0, .string x1, .int .i64 x2, .int .i64 x3, .string x4]) (.agg #[.int .i64 y0, .string y1, .int .i64 y2, .int .i64 y3, .string y4])).run Try.prog w = .ok (x0 == y0 && (x1.toList == y1.toList && ((x2 == y2 && (x3 == y3 && (x4.toList == y4.toList)))))) w := by
  refine eqA_of Try.underlying52 (by kernel_rfl) ?_
  refine eqf_cons (by rfl) (by go_simp; rfl) (by go_simp; rfl) (by go_simp) ?_
  refine eqf_cons (by rfl) (by go_simp; rfl) (by go_simp; rfl) (by go_simp) ?_
  exact eqf_last (by rfl) (by go_simp) (by go_simp) (eqA40 (d + 0) w _ _ _ _ _ _)
end Go.Proofs.Ytconpnagoijacaa.P
end
section
namespace Go.Proofs.Ytconpnagoijacaa.P
open Go.RowKit Go.Proofs.YtconpnagoijacaaW.PrintWords Go.Proofs.YtconpnagoijacaaW.PrintLast Go.Proofs.YtconpnagoijacaaW.PrintMore
attribute [local go_sem] max2_int min2_int max_two min_two max_three min_three max_four min_four
set_option linter.unusedVariables false
set_option linter.unusedSimpArgs false
attribute [local go_sem high] eqA52
def constablekeep_Ops.l0 : Nat → List (S52) → List (S52) → Int → Option (Bool)
  | 0, _, _, _ => none
  | k + 1, x0, x1, x5 => if x5 < (x0.length : Int) then (if 0 ≤ x5 then (if x5 < (x1.length : Int) then (if (!(((rd_T52 x0 x5).f0) == ((rd_T52 x1 x5).f0)) || (!((((rd_T52 x0 x5).f1).toList) == (((rd_T52 x1 x5).f1).toList)) || ((!(((rd_T52 x0 x5).f2.f0) == ((rd_T52 x1 x5).f2.f0)) || (!(((rd_T52 x0 x5).f2.f1) == ((rd_T52 x1 x5).f2.f1)) || (!((((rd_T52 x0 x5).f2.f2).toList) == (((rd_T52 x1 x5).f2.f2).toList)))))))) = true then (some false) else (constablekeep_Ops.l0 k x0 x1 (wrap64 (x5 + 1)))) else (none)) else (none)) else (some true)
def constablekeep_Ops.f (k : Nat) (l0 : List (S52)) (l1 : List (S52)) : Option (Bool) := if (l0.length : Int) = (l1.length : Int) then (constablekeep_Ops.l0 k l0 l1 0) else (some false)
theorem constablekeep_Ops.mono_l : ∀ k, (∀ y0 y1 y2, LeO (constablekeep_Ops.l0 k y0 y1 y2) (constablekeep_Ops.l0 (k + 1) y0 y1 y2))
  | 0 => fun _ _ _ r h => by simp [constablekeep_Ops.l0] at h
  | k + 1 => by
    have ih0 := constablekeep_Ops.mono_l k
    · intro y0 y1 y2
      unfold constablekeep_Ops.l0
      repeat' first
      | (with_reducible exact ih0 _ _ _)
      | (with_reducible exact LeO.refl _)
      | (with_reducible exact LeO.none _)
      | (with_reducible refine LeO.ite ?_ ?_)
      | (with_reducible refine LeO.bind ?_ (fun _ => ?_))
      | exact ih0 _ _ _
      | exact LeO.none _
      | refine LeO.ite ?_ ?_
      | refine LeO.bind ?_ (fun _ => ?_)
theorem constablekeep_Ops.mono : ∀ a0 a1 k, LeO (constablekeep_Ops.f k a0 a1) (constablekeep_Ops.f (k + 1) a0 a1) := by
  intro a0 a1 k
  have ih0 := constablekeep_Ops.mono_l k
  unfold constablekeep_Ops.f
  repeat' first
      | (with_reducible exact ih0 _ _ _)
      | (with_reducible exact LeO.refl _)
      | (with_reducible exact LeO.none _)
      | (with_reducible refine LeO.ite ?_ ?_)
      | (with_reducible refine LeO.bind ?_ (fun _ => ?_))
      | exact ih0 _ _ _
      | exact LeO.none _
      | refine LeO.ite ?_ ?_
      | refine LeO.bind ?_ (fun _ => ?_)
set_option maxHeartbeats 8000000 in
set_option maxRecDepth 100000 in
theorem constablekeep_Ops.calls (k : Nat) (A0 : Option Addr) (c0 : Nat) (l0 : List (S52)) (A1 : Option Addr) (c1 : Nat) (l1 : List (S52)) (r : Bool) (w : World) (hr0 : Kd.C k52 w A0 l0.length l0) (hc0 : l0.length ≤ c0) (hr1 : Kd.C k52 w A1 l1.length l1) (hc1 : l1.length ≤ c1) (h : constablekeep_Ops.f k l0 l1 = some r) :
    Calls Try.prog 25 #[.slice A0 l0.length c0, .slice A1 l1.length c1] w fun e w' => e = .returned (.bool r) ∧ Drawn0 w w' := by
  have hu52 := Try.underlying52
  have HR0 := Aside0.mk hr0
  have HC0 := Aside0.mk hc0
  clear hr0 hc0
  have HR1 := Aside0.mk hr1
  have HC1 := Aside0.mk hc1
  clear hr1 hc1
  have H : (if (l0.length : Int) = (l1.length : Int) then (constablekeep_Ops.l0 k l0 l1 0) else (some false)) = some r := h
  clear h
  by_cases c3 : (l0.length : Int) = (l1.length : Int)
  · rw [if_pos c3] at H
    obtain ⟨c3b0, c3b1⟩ := eqB_ c3
    have c3b2 : (l0.length == l1.length) = true := by first | simpa using c3 | (simp at c3 ⊢; omega)
    clear c3
    have H' := Aside0.mk H
    clear H
    go_enter Try.func25, Try.ntmps25
    go_wp2
    repeat (go_quiet (fail); try go_wp2)
    go_loopg [5] k (fun kq v5 w' => ∃ (x5_1 : Int), v5 = .int .i64 x5_1 ∧ Aside0 (constablekeep_Ops.l0 kq l0 l1 x5_1 = some r) ∧ Aside0 (kq ≤ k) ∧ Drawn0 w w')
    case atStart => exact ⟨(0), ra_, H', ⟨Nat.le_refl _⟩, dz_⟩
    case round =>
      clear H'
      try clear c1
      try clear c2
      try clear p2
      try clear c3
      try clear c3b0
      try clear c3b1
      try clear c3b2
      obtain ⟨x5_1, rfl, HA, HK1, ⟨m1, rfl⟩⟩ := hrel
      cases gk with
      | zero => exact absurd HA.out (by simp [constablekeep_Ops.l0])
      | succ k1 =>
        have H := HA.out
        clear HA
        simp only [constablekeep_Ops.l0] at H
        by_cases c4 : x5_1 < (l0.length : Int)
        · rw [if_pos c4] at H
          have c4b0 : decide (x5_1 < (l0.length : Int)) = true := decide_eq_true c4
          clear c4
          by_cases c5 : 0 ≤ x5_1
          · rw [if_pos c5] at H
            have c5b0 : decide (0 ≤ x5_1) = true := decide_eq_true c5
            clear c5
            by_cases c6 : x5_1 < (l1.length : Int)
            · rw [if_pos c6] at H
              have c6b0 : decide (x5_1 < (l1.length : Int)) = true := decide_eq_true c6
              clear c6
              by_cases c7 : (!(((rd_T52 l0 x5_1).f0) == ((rd_T52 l1 x5_1).f0)) || (!((((rd_T52 l0 x5_1).f1).toList) == (((rd_T52 l1 x5_1).f1).toList)) || ((!(((rd_T52 l0 x5_1).f2.f0) == ((rd_T52 l1 x5_1).f2.f0)) || (!(((rd_T52 l0 x5_1).f2.f1) == ((rd_T52 l1 x5_1).f2.f1)) || (!((((rd_T52 l0 x5_1).f2.f2).toList) == (((rd_T52 l1 x5_1).f2.f2).toList)))))))) = true
              · rw [if_pos c7] at H
                have c7b0 : (!(((rd_T52 l0 x5_1).f0) == ((rd_T52 l1 x5_1).f0)) || (!((((rd_T52 l0 x5_1).f1).toList) == (((rd_T52 l1 x5_1).f1).toList)) || ((!(((rd_T52 l0 x5_1).f2.f0) == ((rd_T52 l1 x5_1).f2.f0)) || (!(((rd_T52 l0 x5_1).f2.f1) == ((rd_T52 l1 x5_1).f2.f1)) || (!((((rd_T52 l0 x5_1).f2.f2).toList) == (((rd_T52 l1 x5_1).f2.f2).toList)))))))) = true := c7
                clear c7
                obtain rfl := Option.some.inj H
                have p293 : 0 ≤ (x5_1 : Int) := dt_
                have q293 : x5_1 < (l0.length : Int) := dt_
                obtain ⟨ad293, e293, hx293_0, hx293_1, hx293_2, hx293_3, hx293_4⟩ := at_T52 HR0.out x5_1 p293 q293
                cases e293
                replace p293 := eq_true p293
                replace q293 := eq_true q293
                have p294 : 0 ≤ (x5_1 : Int) := dt_
                have q294 : x5_1 < (l1.length : Int) := dt_
                obtain ⟨ad294, e294, hx294_0, hx294_1, hx294_2, hx294_3, hx294_4⟩ := at_T52 HR1.out x5_1 p294 q294
                cases e294
                replace p294 := eq_true p294
                replace q294 := eq_true q294
                go_wp2
                repeat (go_quiet (fail); try go_wp2)
                go_ret
                exact rz_
              · rw [if_neg c7] at H
                have c7b0 : (!(((rd_T52 l0 x5_1).f0) == ((rd_T52 l1 x5_1).f0)) || (!((((rd_T52 l0 x5_1).f1).toList) == (((rd_T52 l1 x5_1).f1).toList)) || ((!(((rd_T52 l0 x5_1).f2.f0) == ((rd_T52 l1 x5_1).f2.f0)) || (!(((rd_T52 l0 x5_1).f2.f1) == ((rd_T52 l1 x5_1).f2.f1)) || (!((((rd_T52 l0 x5_1).f2.f2).toList) == (((rd_T52 l1 x5_1).f2.f2).toList)))))))) = false := by simpa using c7
                clear c7
                have H' := Aside0.mk H
                clear H
                have p293 : 0 ≤ (x5_1 : Int) := dt_
                have q293 : x5_1 < (l0.length : Int) := dt_
                obtain ⟨ad293, e293, hx293_0, hx293_1, hx293_2, hx293_3, hx293_4⟩ := at_T52 HR0.out x5_1 p293 q293
                cases e293
                replace p293 := eq_true p293
                replace q293 := eq_true q293
                have p294 : 0 ≤ (x5_1 : Int) := dt_
                have q294 : x5_1 < (l1.length : Int) := dt_
                obtain ⟨ad294, e294, hx294_0, hx294_1, hx294_2, hx294_3, hx294_4⟩ := at_T52 HR1.out x5_1 p294 q294
                cases e294
                replace p294 := eq_true p294
                replace q294 := eq_true q294
                go_wp2
                repeat (go_quiet (fail); try go_wp2)
                go_roundg k1
                case measure => have := HK1.out; omega
                case rel => exact ⟨(wrap64 (x5_1 + 1)), ra_, H', ⟨by have := HK1.out; omega⟩, dz_⟩
            · rw [if_neg c6] at H
              exact absurd H (by simp)
          · rw [if_neg c5] at H
            exact absurd H (by simp)
        · rw [if_neg c4] at H
          have c4b0 : decide (x5_1 < (l0.length : Int)) = false := decide_eq_false c4
          clear c4
          obtain rfl := Option.some.inj H
          go_wp2
          repeat (go_quiet (fail); try go_wp2)
          go_ret
          exact rz_
  · rw [if_neg c3] at H
    obtain ⟨c3b0, c3b1⟩ := neB_ c3
    have c3b2 : (l0.length == l1.length) = false := by first | simpa using c3 | (simp at c3 ⊢; omega)
    obtain rfl := Option.some.inj H
    go_enter Try.func25, Try.ntmps25
    go_wp2
    repeat (go_quiet (fail); try go_wp2)
    go_ret
    exact rz_
end Go.Proofs.Ytconpnagoijacaa.P
end
section
namespace Go.Proofs.Ytconpnagoijacaa.P
open Go.RowKit Go.Proofs.YtconpnagoijacaaW.PrintWords Go.Proofs.YtconpnagoijacaaW.PrintLast Go.Proofs.YtconpnagoijacaaW.PrintMore
attribute [local go_sem] max2_int min2_int max_two min_two max_three min_three max_four min_four
set_option linter.unusedVariables false
set_option linter.unusedSimpArgs false
theorem eqA62 (d : Nat) (w : World) (x0 y0 : ByteArray) (x1 y1 : Int) (x2 y2 : Int) (x3 y3 : ByteArray) :
    (Op.equalIn (d + 3) 62 (.agg #[.string x0, .int .i64 x1, .int .i64 x2, .string x3]) (.agg #[.string y0, .int .i64 y1, .int .i64 y2, .string y3])).run Try.prog w = .ok (x0.toList == y0.toList && ((x1 == y1 && (x2 == y2 && (x3.toList == y3.toList))))) w := by
  refine eqA_of Try.underlying62 (by kernel_rfl) ?_
  refine eqf_cons (by rfl) (by go_simp; rfl) (by go_simp; rfl) (by go_simp) ?_
  exact eqf_last (by rfl) (by go_simp) (by go_simp) (eqA40 (d + 0) w _ _ _ _ _ _)
end Go.Proofs.Ytconpnagoijacaa.P
end
section
namespace Go.Proofs.Ytconpnagoijacaa.P
open Go.RowKit Go.Proofs.YtconpnagoijacaaW.PrintWords Go.Proofs.YtconpnagoijacaaW.PrintLast Go.Proofs.YtconpnagoijacaaW.PrintMore
attribute [local go_sem] max2_int min2_int max_two min_two max_three min_three max_four min_four
set_option linter.unusedVariables false
set_option linter.unusedSimpArgs false
attribute [local go_sem high] eqA62
def constablekeep_Binds.l0 : Nat → List (S62) → List (S62) → Int → Option (Bool)
  | 0, _, _, _ => none
  | k + 1, x0, x1, x5 => if x5 < (x0.length : Int) then (if 0 ≤ x5 then (if x5 < (x1.length : Int) then (if (!((((rd_T62 x0 x5).f0).toList) == (((rd_T62 x1 x5).f0).toList)) || ((!(((rd_T62 x0 x5).f1.f0) == ((rd_T62 x1 x5).f1.f0)) || (!(((rd_T62 x0 x5).f1.f1) == ((rd_T62 x1 x5).f1.f1)) || (!((((rd_T62 x0 x5).f1.f2).toList) == (((rd_T62 x1 x5).f1.f2).toList))))))) = true then (some false) else (constablekeep_Binds.l0 k x0 x1 (wrap64 (x5 + 1)))) else (none)) else (none)) else (some true)
def constablekeep_Binds.f (k : Nat) (l0 : List (S62)) (l1 : List (S62)) : Option (Bool) := if (l0.length : Int) = (l1.length : Int) then (constablekeep_Binds.l0 k l0 l1 0) else (some false)
theorem constablekeep_Binds.mono_l : ∀ k, (∀ y0 y1 y2, LeO (constablekeep_Binds.l0 k y0 y1 y2) (constablekeep_Binds.l0 (k + 1) y0 y1 y2))
  | 0 => fun _ _ _ r h => by simp [constablekeep_Binds.l0] at h
  | k + 1 => by
    have ih0 := constablekeep_Binds.mono_l k
    · intro y0 y1 y2
      unfold constablekeep_Binds.l0
      repeat' first
      | (with_reducible exact ih0 _ _ _)
      | (with_reducible exact LeO.refl _)
      | (with_reducible exact LeO.none _)
      | (with_reducible refine LeO.ite ?_ ?_)
      | (with_reducible refine LeO.bind ?_ (fun _ => ?_))
      | exact ih0 _ _ _
      | exact LeO.none _
      | refine LeO.ite ?_ ?_
      | refine LeO.bind ?_ (fun _ => ?_)
theorem constablekeep_Binds.mono : ∀ a0 a1 k, LeO (constablekeep_Binds.f k a0 a1) (constablekeep_Binds.f (k + 1) a0 a1) := by
  intro a0 a1 k
  have ih0 := constablekeep_Binds.mono_l k
  unfold constablekeep_Binds.f
  repeat' first
      | (with_reducible exact ih0 _ _ _)
      | (with_reducible exact LeO.refl _)
      | (with_reducible exact LeO.none _)
      | (with_reducible refine LeO.ite ?_ ?_)
      | (with_reducible refine LeO.bind ?_ (fun _ => ?_))
      | exact ih0 _ _ _
      | exact LeO.none _
      | refine LeO.ite ?_ ?_
      | refine LeO.bind ?_ (fun _ => ?_)
set_option maxHeartbeats 8000000 in
set_option maxRecDepth 100000 in
theorem constablekeep_Binds.calls (k : Nat) (A0 : Option Addr) (c0 : Nat) (l0 : List (S62)) (A1 : Option Addr) (c1 : Nat) (l1 : List (S62)) (r : Bool) (w : World) (hr0 : Kd.C k62 w A0 l0.length l0) (hc0 : l0.length ≤ c0) (hr1 : Kd.C k62 w A1 l1.length l1) (hc1 : l1.length ≤ c1) (h : constablekeep_Binds.f k l0 l1 = some r) :
    Calls Try.prog 26 #[.slice A0 l0.length c0, .slice A1 l1.length c1] w fun e w' => e = .returned (.bool r) ∧ Drawn0 w w' := by
  have hu62 := Try.underlying62
  have HR0 := Aside0.mk hr0
  have HC0 := Aside0.mk hc0
  clear hr0 hc0
  have HR1 := Aside0.mk hr1
  have HC1 := Aside0.mk hc1
  clear hr1 hc1
  have H : (if (l0.length : Int) = (l1.length : Int) then (constablekeep_Binds.l0 k l0 l1 0) else (some false)) = some r := h
  clear h
  by_cases c3 : (l0.length : Int) = (l1.length : Int)
  · rw [if_pos c3] at H
    obtain ⟨c3b0, c3b1⟩ := eqB_ c3
    have c3b2 : (l0.length == l1.length) = true := by first | simpa using c3 | (simp at c3 ⊢; omega)
    clear c3
    have H' := Aside0.mk H
    clear H
    go_enter Try.func26, Try.ntmps26
    go_wp2
    repeat (go_quiet (fail); try go_wp2)
    go_loopg [5] k (fun kq v5 w' => ∃ (x5_1 : Int), v5 = .int .i64 x5_1 ∧ Aside0 (constablekeep_Binds.l0 kq l0 l1 x5_1 = some r) ∧ Aside0 (kq ≤ k) ∧ Drawn0 w w')
    case atStart => exact ⟨(0), ra_, H', ⟨Nat.le_refl _⟩, dz_⟩
    case round =>
      clear H'
      try clear c1
      try clear c2
      try clear p2
      try clear c3
      try clear c3b0
      try clear c3b1
      try clear c3b2
      obtain ⟨x5_1, rfl, HA, HK1, ⟨m1, rfl⟩⟩ := hrel
      cases gk with
      | zero => exact absurd HA.out (by simp [constablekeep_Binds.l0])
      | succ k1 =>
        have H := HA.out
        clear HA
        simp only [constablekeep_Binds.l0] at H
        by_cases c4 : x5_1 < (l0.length : Int)
        · rw [if_pos c4] at H
          have c4b0 : decide (x5_1 < (l0.length : Int)) = true := decide_eq_true c4
          clear c4
          by_cases c5 : 0 ≤ x5_1
          · rw [if_pos c5] at H
            have c5b0 : decide (0 ≤ x5_1) = true := decide_eq_true c5
            clear c5
            by_cases c6 : x5_1 < (l1.length : Int)
            · rw [if_pos c6] at H
              have c6b0 : decide (x5_1 < (l1.length : Int)) = true := decide_eq_true c6
              clear c6
              by_cases c7 : (!((((rd_T62 l0 x5_1).f0).toList) == (((rd_T62 l1 x5_1).f0).toList)) || ((!(((rd_T62 l0 x5_1).f1.f0) == ((rd_T62 l1 x5_1).f1.f0)) || (!(((rd_T62 l0 x5_1).f1.f1) == ((rd_T62 l1 x5_1).f1.f1)) || (!((((rd_T62 l0 x5_1).f1.f2).toList) == (((rd_T62 l1 x5_1).f1.f2).toList))))))) = true
              · rw [if_pos c7] at H
                have c7b0 : (!((((rd_T62 l0 x5_1).f0).toList) == (((rd_T62 l1 x5_1).f0).toList)) || ((!(((rd_T62 l0 x5_1).f1.f0) == ((rd_T62 l1 x5_1).f1.f0)) || (!(((rd_T62 l0 x5_1).f1.f1) == ((rd_T62 l1 x5_1).f1.f1)) || (!((((rd_T62 l0 x5_1).f1.f2).toList) == (((rd_T62 l1 x5_1).f1.f2).toList))))))) = true := c7
                clear c7
                obtain rfl := Option.some.inj H
                have p295 : 0 ≤ (x5_1 : Int) := dt_
                have q295 : x5_1 < (l0.length : Int) := dt_
                obtain ⟨ad295, e295, hx295_0, hx295_1, hx295_2, hx295_3⟩ := at_T62 HR0.out x5_1 p295 q295
                cases e295
                replace p295 := eq_true p295
                replace q295 := eq_true q295
                have p296 : 0 ≤ (x5_1 : Int) := dt_
                have q296 : x5_1 < (l1.length : Int) := dt_
                obtain ⟨ad296, e296, hx296_0, hx296_1, hx296_2, hx296_3⟩ := at_T62 HR1.out x5_1 p296 q296
                cases e296
                replace p296 := eq_true p296
                replace q296 := eq_true q296
                go_wp2
                repeat (go_quiet (fail); try go_wp2)
                go_ret
                exact rz_
              · rw [if_neg c7] at H
                have c7b0 : (!((((rd_T62 l0 x5_1).f0).toList) == (((rd_T62 l1 x5_1).f0).toList)) || ((!(((rd_T62 l0 x5_1).f1.f0) == ((rd_T62 l1 x5_1).f1.f0)) || (!(((rd_T62 l0 x5_1).f1.f1) == ((rd_T62 l1 x5_1).f1.f1)) || (!((((rd_T62 l0 x5_1).f1.f2).toList) == (((rd_T62 l1 x5_1).f1.f2).toList))))))) = false := by simpa using c7
                clear c7
                have H' := Aside0.mk H
                clear H
                have p295 : 0 ≤ (x5_1 : Int) := dt_
                have q295 : x5_1 < (l0.length : Int) := dt_
                obtain ⟨ad295, e295, hx295_0, hx295_1, hx295_2, hx295_3⟩ := at_T62 HR0.out x5_1 p295 q295
                cases e295
                replace p295 := eq_true p295
                replace q295 := eq_true q295
                have p296 : 0 ≤ (x5_1 : Int) := dt_
                have q296 : x5_1 < (l1.length : Int) := dt_
                obtain ⟨ad296, e296, hx296_0, hx296_1, hx296_2, hx296_3⟩ := at_T62 HR1.out x5_1 p296 q296
                cases e296
                replace p296 := eq_true p296
                replace q296 := eq_true q296
                go_wp2
                repeat (go_quiet (fail); try go_wp2)
                go_roundg k1
                case measure => have := HK1.out; omega
                case rel => exact ⟨(wrap64 (x5_1 + 1)), ra_, H', ⟨by have := HK1.out; omega⟩, dz_⟩
            · rw [if_neg c6] at H
              exact absurd H (by simp)
          · rw [if_neg c5] at H
            exact absurd H (by simp)
        · rw [if_neg c4] at H
          have c4b0 : decide (x5_1 < (l0.length : Int)) = false := decide_eq_false c4
          clear c4
          obtain rfl := Option.some.inj H
          go_wp2
          repeat (go_quiet (fail); try go_wp2)
          go_ret
          exact rz_
  · rw [if_neg c3] at H
    obtain ⟨c3b0, c3b1⟩ := neB_ c3
    have c3b2 : (l0.length == l1.length) = false := by first | simpa using c3 | (simp at c3 ⊢; omega)
    obtain rfl := Option.some.inj H
    go_enter Try.func26, Try.ntmps26
    go_wp2
    repeat (go_quiet (fail); try go_wp2)
    go_ret
    exact rz_
end Go.Proofs.Ytconpnagoijacaa.P
end
section
namespace Go.Proofs.Ytconpnagoijacaa.P
open Go.RowKit Go.Proofs.YtconpnagoijacaaW.PrintWords Go.Proofs.YtconpnagoijacaaW.PrintLast Go.Proofs.YtconpnagoijacaaW.PrintMore
attribute [local go_sem] max2_int min2_int max_two min_two max_three min_three max_four min_four
set_option linter.unusedVariables false
set_option linter.unusedSimpArgs false
def constablelaw07_Heavy.l0 : Nat → List (S52) → Int → Option (Bool)
  | 0, _, _ => none
  | k + 1, x0, x3 => if x3 < (x0.length : Int) then (if 0 ≤ x3 then (if (((rd_T52 x0 x3).f1).size : Int) > 200 then (some true) else (if (((rd_T52 x0 x3).f2.f2).size : Int) > 200 then (some true) else (constablelaw07_Heavy.l0 k x0 (wrap64 (x3 + 1))))) else (none)) else (some false)
def constablelaw07_Heavy.f (k : Nat) (l0 : List (S52)) : Option (Bool) := if (l0.length : Int) > 40 then (some true) else (constablelaw07_Heavy.l0 k l0 0)
theorem constablelaw07_Heavy.mono_l : ∀ k, (∀ y0 y1, LeO (constablelaw07_Heavy.l0 k y0 y1) (constablelaw07_Heavy.l0 (k + 1) y0 y1))
  | 0 => fun _ _ r h => by simp [constablelaw07_Heavy.l0] at h
  | k + 1 => by
    have ih0 := constablelaw07_Heavy.mono_l k
    · intro y0 y1
      unfold constablelaw07_Heavy.l0
      repeat' first
      | (with_reducible exact ih0 _ _)
      | (with_reducible exact LeO.refl _)
      | (with_reducible exact LeO.none _)
      | (with_reducible refine LeO.ite ?_ ?_)
      | (with_reducible refine LeO.bind ?_ (fun _ => ?_))
      | exact ih0 _ _
      | exact LeO.none _
      | refine LeO.ite ?_ ?_
      | refine LeO.bind ?_ (fun _ => ?_)
theorem constablelaw07_Heavy.mono : ∀ a0 k, LeO (constablelaw07_Heavy.f k a0) (constablelaw07_Heavy.f (k + 1) a0) := by
  intro a0 k
  have ih0 := constablelaw07_Heavy.mono_l k
  unfold constablelaw07_Heavy.f
  repeat' first
      | (with_reducible exact ih0 _ _)
      | (with_reducible exact LeO.refl _)
      | (with_reducible exact LeO.none _)
      | (with_reducible refine LeO.ite ?_ ?_)
      | (with_reducible refine LeO.bind ?_ (fun _ => ?_))
      | exact ih0 _ _
      | exact LeO.none _
      | refine LeO.ite ?_ ?_
      | refine LeO.bind ?_ (fun _ => ?_)
set_option maxHeartbeats 8000000 in
set_option maxRecDepth 100000 in
theorem constablelaw07_Heavy.calls (k : Nat) (A0 : Option Addr) (c0 : Nat) (l0 : List (S52)) (r : Bool) (w : World) (hr0 : Kd.C k52 w A0 l0.length l0) (hc0 : l0.length ≤ c0) (h : constablelaw07_Heavy.f k l0 = some r) :
    Calls Try.prog 17 #[.slice A0 l0.length c0] w fun e w' => e = .returned (.bool r) ∧ Drawn0 w w' := by
  have HR0 := Aside0.mk hr0
  have HC0 := Aside0.mk hc0
  clear hr0 hc0
  have H : (if (l0.length : Int) > 40 then (some true) else (constablelaw07_Heavy.l0 k l0 0)) = some r := h
  clear h
  by_cases c2 : (l0.length : Int) > 40
  · rw [if_pos c2] at H
    have c2b0 : decide (40 < (l0.length : Int)) = true := decide_eq_true c2
    have c2b1 : decide (40 < l0.length) = true := decide_eq_true (by omega)
    clear c2
    obtain rfl := Option.some.inj H
    go_enter Try.func17, Try.ntmps17
    go_wp2
    go_ret
    exact rz_
  · rw [if_neg c2] at H
    have c2b0 : decide (40 < (l0.length : Int)) = false := decide_eq_false c2
    have c2b1 : decide (40 < l0.length) = false := decide_eq_false (by omega)
    clear c2
    have H' := Aside0.mk H
    clear H
    go_enter Try.func17, Try.ntmps17
    go_wp2
    go_loopg [3] k (fun kq v3 w' => ∃ (x3_1 : Int), v3 = .int .i64 x3_1 ∧ Aside0 (constablelaw07_Heavy.l0 kq l0 x3_1 = some r) ∧ Aside0 (kq ≤ k) ∧ Drawn0 w w')
    case atStart => exact ⟨(0), ra_, H', ⟨Nat.le_refl _⟩, dz_⟩
    case round =>
      clear H'
      try clear c1
      try clear c2
      try clear c2b0
      try clear c2b1
      try clear p2
      obtain ⟨x3_1, rfl, HA, HK1, ⟨m1, rfl⟩⟩ := hrel
      cases gk with
      | zero => exact absurd HA.out (by simp [constablelaw07_Heavy.l0])
      | succ k1 =>
        have H := HA.out
        clear HA
        simp only [constablelaw07_Heavy.l0] at H
        by_cases c3 : x3_1 < (l0.length : Int)
        · rw [if_pos c3] at H
          have c3b0 : decide (x3_1 < (l0.length : Int)) = true := decide_eq_true c3
          clear c3
          by_cases c4 : 0 ≤ x3_1
          · rw [if_pos c4] at H
            have c4b0 : decide (0 ≤ x3_1) = true := decide_eq_true c4
            clear c4
            by_cases c5 : (((rd_T52 l0 x3_1).f1).size : Int) > 200
            · rw [if_pos c5] at H
              have c5b0 : decide (200 < (((rd_T52 l0 x3_1).f1).size : Int)) = true := decide_eq_true c5
              have c5b1 : decide (200 < ((rd_T52 l0 x3_1).f1).size) = true := decide_eq_true (by omega)
              clear c5
              obtain rfl := Option.some.inj H
              have p200 : 0 ≤ (x3_1 : Int) := dt_
              have q200 : x3_1 < (l0.length : Int) := dt_
              obtain ⟨ad200, e200, hx200_0, hx200_1, hx200_2, hx200_3, hx200_4⟩ := at_T52 HR0.out x3_1 p200 q200
              cases e200
              replace p200 := eq_true p200
              replace q200 := eq_true q200
              go_wp2
              go_ret
              exact rz_
            · rw [if_neg c5] at H
              have c5b0 : decide (200 < (((rd_T52 l0 x3_1).f1).size : Int)) = false := decide_eq_false c5
              have c5b1 : decide (200 < ((rd_T52 l0 x3_1).f1).size) = false := decide_eq_false (by omega)
              clear c5
              by_cases c6 : (((rd_T52 l0 x3_1).f2.f2).size : Int) > 200
              · rw [if_pos c6] at H
                have c6b0 : decide (200 < (((rd_T52 l0 x3_1).f2.f2).size : Int)) = true := decide_eq_true c6
                have c6b1 : decide (200 < ((rd_T52 l0 x3_1).f2.f2).size) = true := decide_eq_true (by omega)
                clear c6
                obtain rfl := Option.some.inj H
                have p200 : 0 ≤ (x3_1 : Int) := dt_
                have q200 : x3_1 < (l0.length : Int) := dt_
                obtain ⟨ad200, e200, hx200_0, hx200_1, hx200_2, hx200_3, hx200_4⟩ := at_T52 HR0.out x3_1 p200 q200
                cases e200
                replace p200 := eq_true p200
                replace q200 := eq_true q200
                have p201 : 0 ≤ (x3_1 : Int) := dt_
                have q201 : x3_1 < (l0.length : Int) := dt_
                obtain ⟨ad201, e201, hx201_0, hx201_1, hx201_2, hx201_3, hx201_4⟩ := at_T52 HR0.out x3_1 p201 q201
                obtain rfl : ad200 = ad201 := (by injection e201)
                replace p201 := eq_true p201
                replace q201 := eq_true q201
                go_wp2
                go_ret
                exact rz_
              · rw [if_neg c6] at H
                have c6b0 : decide (200 < (((rd_T52 l0 x3_1).f2.f2).size : Int)) = false := decide_eq_false c6
                have c6b1 : decide (200 < ((rd_T52 l0 x3_1).f2.f2).size) = false := decide_eq_false (by omega)
                clear c6
                have H' := Aside0.mk H
                clear H
                have p200 : 0 ≤ (x3_1 : Int) := dt_
                have q200 : x3_1 < (l0.length : Int) := dt_
                obtain ⟨ad200, e200, hx200_0, hx200_1, hx200_2, hx200_3, hx200_4⟩ := at_T52 HR0.out x3_1 p200 q200
                cases e200
                replace p200 := eq_true p200
                replace q200 := eq_true q200
                have p201 : 0 ≤ (x3_1 : Int) := dt_
                have q201 : x3_1 < (l0.length : Int) := dt_
                obtain ⟨ad201, e201, hx201_0, hx201_1, hx201_2, hx201_3, hx201_4⟩ := at_T52 HR0.out x3_1 p201 q201
                obtain rfl : ad200 = ad201 := (by injection e201)
                replace p201 := eq_true p201
                replace q201 := eq_true q201
                go_wp2
                go_roundg k1
                case measure => have := HK1.out; omega
                case rel => exact ⟨(wrap64 (x3_1 + 1)), ra_, H', ⟨by have := HK1.out; omega⟩, dz_⟩
          · rw [if_neg c4] at H
            exact absurd H (by simp)
        · rw [if_neg c3] at H
          have c3b0 : decide (x3_1 < (l0.length : Int)) = false := decide_eq_false c3
          clear c3
          obtain rfl := Option.some.inj H
          go_wp2
          go_ret
          exact rz_
end Go.Proofs.Ytconpnagoijacaa.P
end
