/- Part 4 of the proof of GuardExact: words, contracts of functions of the program (what a call answers), and what the answers say. -/
import Derived.Test.YtaopajmpifenoaaVWords
import Derived.Test.YtaopajmpifenoaaVLast
import Derived.Test.YtaopajmpifenoaaVApart
import Derived.Test.YtaopajmpifenoaaVArr
import Derived.Test.YtaopajmpifenoaaVFoot
import Derived.Test.YtaopajmpifenoaaVKept
import Derived.Test.YtaopajmpifenoaaVShare
import Derived.Test.YtaopajmpifenoaaVZeros
import Derived.Test.YtaopajmpifenoaaVN
import Derived.Test.YtaopajmpifenoaaVFootNe
import Derived.Test.YtaopajmpifenoaaVAt
import Derived.Test.YtaopajmpifenoaaVEqStruct
import Derived.Test.YtaopajmpifenoaaVTab
import Derived.Test.YtaopajmpifenoaaVFour
import Derived.Test.YtaopajmpifenoaaVGuard
import Derived.Test.YtaopajmpifenoaaVInv
import Derived.Test.YtaopajmpifenoaaVInvWords
import Derived.Test.YtaopajmpifenoaaVQPut
import Derived.Test.YtaopajmpifenoaaVNEv
import Derived.Test.YtaopajmpifenoaaVMore
import Derived.Test.YtaopajmpifenoaaVRepsOne
import Derived.Test.YtaopajmpifenoaaVSized
import Derived.Test.YtaopajmpifenoaaCGuardExact0
import Derived.Test.YtaopajmpifenoaaCGuardExact1
import Derived.Test.YtaopajmpifenoaaCGuardExact2
section
namespace Go.Proofs.Ytaopajmpifenoaa.P
open Go.RowKit Go.Proofs.YtaopajmpifenoaaW.PrintWords Go.Proofs.YtaopajmpifenoaaW.PrintLast Go.Proofs.YtaopajmpifenoaaW.PrintMore
attribute [local go_sem] max2_int min2_int max_two min_two max_three min_three max_four min_four
set_option linter.unusedVariables false
set_option linter.unusedSimpArgs false
def constableref01_Binds.l0 : Nat → List (S54) → Int → Option (Bool)
 | 0, _, _ => none
 | k + 1, x0, x3 => if x3 < (x0.length : Int) then (if 0 ≤ x3 then ((constableref01_Word.f k ((rd_T54 x0 x3).f0) true).bind fun t294 => (if t294 = true then ((constableref01_Value.f k ((rd_T54 x0 x3).f1.f0) ((rd_T54 x0 x3).f1.f1) ((rd_T54 x0 x3).f1.f2)).bind fun t296 => (if t296 = true then (if x3 > 0 then (if 0 ≤ (wrap64 (x3 - 1)) then (if (wrap64 (x3 - 1)) < (x0.length : Int) then ((constableref01_Strings.f k ((rd_T54 x0 (wrap64 (x3 - 1))).f0) ((rd_T54 x0 x3).f0)).bind fun t299 => (if t299 ≥ 0 then (some false) else (constableref01_Binds.l0 k x0 (wrap64 (x3 + 1))))) else (none)) else (none)) else (constableref01_Binds.l0 k x0 (wrap64 (x3 + 1)))) else (some false))) else (some false))) else (none)) else (some true)
def constableref01_Binds.f (k : Nat) (l0 : List (S54)) : Option (Bool) := if (l0.length : Int) > 100 then (some false) else (constableref01_Binds.l0 k l0 0)
theorem constableref01_Binds.mono_l : ∀ k, (∀ y0 y1, LeO (constableref01_Binds.l0 k y0 y1) (constableref01_Binds.l0 (k + 1) y0 y1))
 | 0 => fun _ _ r h => by simp [constableref01_Binds.l0] at h
 | k + 1 => by
  have ih0 := constableref01_Binds.mono_l k
  ·intro y0 y1
   unfold constableref01_Binds.l0
   repeat' first
   | (with_reducible exact ih0 _ _)
   | (with_reducible exact constableref01_Strings.mono ..)
   | (with_reducible exact constableref01_Value.mono ..)
   | (with_reducible exact constableref01_Word.mono ..)
   | (with_reducible exact LeO.refl _)
   | (with_reducible exact LeO.none _)
   | (with_reducible refine LeO.ite ?_ ?_)
   | (with_reducible refine LeO.bind ?_ (fun _ => ?_))
   | exact ih0 _ _
   | exact constableref01_Strings.mono ..
   | exact constableref01_Value.mono ..
   | exact constableref01_Word.mono ..
   | exact LeO.none _
   | refine LeO.ite ?_ ?_
   | refine LeO.bind ?_ (fun _ => ?_)
theorem constableref01_Binds.mono : ∀ a0 k, LeO (constableref01_Binds.f k a0) (constableref01_Binds.f (k + 1) a0) := by
 intro a0 k
 have ih0 := constableref01_Binds.mono_l k
 unfold constableref01_Binds.f
 repeat' first
   | (with_reducible exact ih0 _ _)
   | (with_reducible exact constableref01_Strings.mono ..)
   | (with_reducible exact constableref01_Value.mono ..)
   | (with_reducible exact constableref01_Word.mono ..)
   | (with_reducible exact LeO.refl _)
   | (with_reducible exact LeO.none _)
   | (with_reducible refine LeO.ite ?_ ?_)
   | (with_reducible refine LeO.bind ?_ (fun _ => ?_))
   | exact ih0 _ _
   | exact constableref01_Strings.mono ..
   | exact constableref01_Value.mono ..
   | exact constableref01_Word.mono ..
   | exact LeO.none _
   | refine LeO.ite ?_ ?_
   | refine LeO.bind ?_ (fun _ => ?_)
def constableref01_Binds.T6 : Bool × List (List Nat × List Nat) := (true, [([], []), ([], []), ([0, 1], [0, 1]), ([2], [2]), ([3], [3]), ([4], [4]), ([5], [5]), ([6, 5], [6]), ([7], [7]), ([7], [7]), ([8, 9, 7], [7, 8, 9]), ([10, 7], [7, 10]), ([11, 7], [7, 11]), ([12, 7, 7], [7, 12]), ([13, 7], [7, 13]), ([7, 14], [7, 14]), ([15, 13], [15]), ([16], [16]), ([17, 16], [16, 17]), ([18, 16, 16], [16, 18]), ([19], [19]), ([19], [19]), ([21, 19], [19, 21]), ([20, 22, 19], [19, 20, 22]), ([23, 19], [19, 23]), ([24, 19], [19, 24]), ([19], [19]), ([19], [19]), ([26, 27, 19], [19, 26, 27]), ([28, 19], [19, 28]), ([29, 19], [19, 29]), ([25, 30, 19, 19], [19, 25, 30]), ([31, 19], [19, 31]), ([19, 32, 16], [16, 19, 32]), ([16, 33], [16, 33])])
def constableref01_Binds.B6 : List Nat := [0, 0, 3, 7, 15, 31, 63, 127, 255, 255, 1023, 2047, 4095, 8191, 16383, 32767, 65535, 131071, 262143, 524287, 1048575, 1048575, 3145727, 8388607, 16777215, 33554431, 1048575, 1048575, 202375167, 470810623, 1007681535, 2147483647, 4294967295, 8589934591, 17179869183]
theorem constableref01_Binds.tab6 : rtab .any (opsOf Try.f16 6) = constableref01_Binds.T6 := by kernel_rfl
theorem constableref01_Binds.bits6 : waitsOk constableref01_Binds.T6.2 constableref01_Binds.B6 = true := by kernel_rfl
set_option maxHeartbeats 8000000 in
set_option maxRecDepth 100000 in
theorem constableref01_Binds.calls (k : Nat) (A0 : Option Addr) (c0 : Nat) (l0 : List (S54)) (r : Bool) (w : World) (hr0 : Kd.C k54 w A0 l0.length l0) (hc0 : l0.length ≤ c0) (h : constableref01_Binds.f k l0 = some r) :
  Calls Try.prog 16 #[.slice A0 l0.length c0] w fun e w' => e = .returned (.bool r) ∧ Below w.heap.size w w' := by
 have hu23 := Try.underlying23
 have HR0 := Aside0.mk hr0
 have HC0 := Aside0.mk hc0
 clear hr0 hc0
 have HB := Aside0.mk (Below.refl w.heap.size w)
 have H : (if (l0.length : Int) > 100 then (some false) else (constableref01_Binds.l0 k l0 0)) = some r := h
 clear h
 by_cases c2 : (l0.length : Int) > 100
 ·rw [if_pos c2] at H
  have c2b0 : decide (100 < (l0.length : Int)) = true := decide_eq_true c2
  have c2b1 : decide (100 < l0.length) = true := decide_eq_true (by omega)
  clear c2
  obtain rfl := Option.some.inj H
  go_enter Try.func16, Try.ntmps16
  go_wp2
  go_ret
  exact ⟨re_, be_ HB⟩
 ·rw [if_neg c2] at H
  have c2b0 : decide (100 < (l0.length : Int)) = false := decide_eq_false c2
  have c2b1 : decide (100 < l0.length) = false := decide_eq_false (by omega)
  clear c2
  have H' := Aside0.mk H
  clear H
  go_enter Try.func16, Try.ntmps16
  go_wp2
  go_loopg [3] k (fun kq v3 w' => ∃ (x3_1 : Int), v3 = .int .i64 x3_1 ∧ Aside0 (constableref01_Binds.l0 kq l0 x3_1 = some r) ∧ Aside0 (kq ≤ k) ∧ Aside0 (Below w.heap.size w w'))
  case atStart => exact ⟨(0), ra_, H', ⟨Nat.le_refl _⟩, be2_ HB⟩
  case round =>
   clear H'
   try clear c1; try clear c2; try clear c2b0; try clear c2b1; try clear p2
   obtain ⟨x3_1, rfl, HA, HK1, HB⟩ := hrel
   cases gk with
   | zero => exact absurd HA.out (by simp [constableref01_Binds.l0])
   | succ k1 =>
    have H := HA.out
    clear HA
    simp only [constableref01_Binds.l0] at H
    by_cases c3 : x3_1 < (l0.length : Int)
    ·rw [if_pos c3] at H
     have c3b0 : decide (x3_1 < (l0.length : Int)) = true := decide_eq_true c3
     clear c3
     by_cases c4 : 0 ≤ x3_1
     ·rw [if_pos c4] at H
      have c4b0 : decide (0 ≤ x3_1) = true := decide_eq_true c4
      clear c4
      replace H := Option.bind_eq_some_iff.mp H
      obtain ⟨t294, A50, H⟩ := H
      try dsimp only at H
      have A5 := Aside0.mk A50
      clear A50
      by_cases c6 : t294 = true
      ·subst c6
       rw [if_pos rfl] at H
       replace H := Option.bind_eq_some_iff.mp H
       obtain ⟨t296, A70, H⟩ := H
       try dsimp only at H
       have A7 := Aside0.mk A70
       clear A70
       by_cases c8 : t296 = true
       ·subst c8
        rw [if_pos rfl] at H
        by_cases c9 : x3_1 > 0
        ·rw [if_pos c9] at H
         have c9b0 : decide (0 < x3_1) = true := decide_eq_true c9
         clear c9
         obtain ⟨ji10, hji10⟩ : ∃ j_ : Int, (wrap64 (x3_1 - 1)) = j_ := ⟨_, rfl⟩
         replace H : (if 0 ≤ (ji10) then (if (ji10) < (l0.length : Int) then ((constableref01_Strings.f k1 ((rd_T54 l0 (ji10)).f0) ((rd_T54 l0 x3_1).f0)).bind fun t299 => (if t299 ≥ 0 then (some false) else (constableref01_Binds.l0 k1 l0 (wrap64 (x3_1 + 1))))) else (none)) else (none)) = some r := by first | (rw [hji10] at H; exact H) | (simp only [hji10] at H ⊢; exact H)
         (try rw [hji10] at A5)
         (try rw [hji10] at A7)
         have hji10w : (IntKind.i64.wrap (x3_1 - 1)) = ji10 := (i64_w _).trans hji10
         by_cases c11 : 0 ≤ (ji10)
         ·rw [if_pos c11] at H
          have c11b0 : decide (0 ≤ (ji10)) = true := decide_eq_true c11
          clear c11
          by_cases c12 : (ji10) < (l0.length : Int)
          ·rw [if_pos c12] at H
           have c12b0 : decide ((ji10) < (l0.length : Int)) = true := decide_eq_true c12
           clear c12
           replace H := Option.bind_eq_some_iff.mp H
           obtain ⟨t299, A130, H⟩ := H
           try dsimp only at H
           have A13 := Aside0.mk A130
           clear A130
           by_cases c14 : t299 ≥ 0
           ·rw [if_pos c14] at H
            have c14b0 : decide (0 ≤ t299) = true := decide_eq_true c14
            clear c14
            obtain rfl := Option.some.inj H
            try go_wp2
            have n0_ := Aside0.mk (below_drew1 HB.out)
            clear HB
            have HB := n0_
            clear n0_
            have p293 : 0 ≤ (x3_1 : Int) := dt_
            have q293 : x3_1 < (l0.length : Int) := dt_
            obtain ⟨ad293, e293, hx293_0, hx293_1, hx293_2, hx293_3⟩ := at_T54 HR0.out x3_1 p293 q293
            have hw293_3 := hx293_3
            have hw293_2 := hx293_2
            have hw293_1 := hx293_1
            have hw293_0 := hx293_0
            cases e293
            replace hx293_0 := cm_ HB hx293_0
            replace hx293_1 := cm_ HB hx293_1
            replace hx293_2 := cm_ HB hx293_2
            replace hx293_3 := cm_ HB hx293_3
            replace p293 := eq_true p293
            replace q293 := eq_true q293
            have p295 : 0 ≤ (x3_1 : Int) := dt_
            have q295 : x3_1 < (l0.length : Int) := dt_
            obtain ⟨ad295, e295, hx295_0, hx295_1, hx295_2, hx295_3⟩ := at_T54 HR0.out x3_1 p295 q295
            have hw295_3 := hx295_3
            have hw295_2 := hx295_2
            have hw295_1 := hx295_1
            have hw295_0 := hx295_0
            obtain rfl : ad293 = ad295 := (by injection e295)
            replace hx295_0 := cm_ HB hx295_0
            replace hx295_1 := cm_ HB hx295_1
            replace hx295_2 := cm_ HB hx295_2
            replace hx295_3 := cm_ HB hx295_3
            replace p295 := eq_true p295
            replace q295 := eq_true q295
            have p297 : 0 ≤ ((ji10) : Int) := dt_
            have q297 : (ji10) < (l0.length : Int) := dt_
            obtain ⟨ad297, e297, hx297_0, hx297_1, hx297_2, hx297_3⟩ := at_T54 HR0.out (ji10) p297 q297
            have hw297_3 := hx297_3
            have hw297_2 := hx297_2
            have hw297_1 := hx297_1
            have hw297_0 := hx297_0
            obtain rfl : ad293 = ad297 := (by injection e297)
            replace hx297_0 := cm_ HB hx297_0
            replace hx297_1 := cm_ HB hx297_1
            replace hx297_2 := cm_ HB hx297_2
            replace hx297_3 := cm_ HB hx297_3
            replace p297 := eq_true p297
            replace q297 := eq_true q297
            have p298 : 0 ≤ (x3_1 : Int) := dt_
            have q298 : x3_1 < (l0.length : Int) := dt_
            obtain ⟨ad298, e298, hx298_0, hx298_1, hx298_2, hx298_3⟩ := at_T54 HR0.out x3_1 p298 q298
            have hw298_3 := hx298_3
            have hw298_2 := hx298_2
            have hw298_1 := hx298_1
            have hw298_0 := hx298_0
            obtain rfl : ad293 = ad298 := (by injection e298)
            replace hx298_0 := cm_ HB hx298_0
            replace hx298_1 := cm_ HB hx298_1
            replace hx298_2 := cm_ HB hx298_2
            replace hx298_3 := cm_ HB hx298_3
            replace p298 := eq_true p298
            replace q298 := eq_true q298
            refine start_ (n := 35) (S := fun w' => w'.cell? (ad293.add ((x3_1).toNat * 4)) = some (.string ((rd_T54 l0 x3_1).f0)) ∧ w'.cell? ⟨(ad293.add ((x3_1).toNat * 4)).block, (ad293.add ((x3_1).toNat * 4)).off + 1, none⟩ = some (.int .i64 ((rd_T54 l0 x3_1).f1.f0)) ∧ w'.cell? ⟨(ad293.add ((x3_1).toNat * 4)).block, (ad293.add ((x3_1).toNat * 4)).off + 2, none⟩ = some (.int .i64 ((rd_T54 l0 x3_1).f1.f1)) ∧ w'.cell? ⟨(ad293.add ((x3_1).toNat * 4)).block, (ad293.add ((x3_1).toNat * 4)).off + 3, none⟩ = some (.string ((rd_T54 l0 x3_1).f1.f2)) ∧ w'.cell? (ad293.add ((x3_1).toNat * 4)) = some (.string ((rd_T54 l0 x3_1).f0)) ∧ w'.cell? ⟨(ad293.add ((x3_1).toNat * 4)).block, (ad293.add ((x3_1).toNat * 4)).off + 1, none⟩ = some (.int .i64 ((rd_T54 l0 x3_1).f1.f0)) ∧ w'.cell? ⟨(ad293.add ((x3_1).toNat * 4)).block, (ad293.add ((x3_1).toNat * 4)).off + 2, none⟩ = some (.int .i64 ((rd_T54 l0 x3_1).f1.f1)) ∧ w'.cell? ⟨(ad293.add ((x3_1).toNat * 4)).block, (ad293.add ((x3_1).toNat * 4)).off + 3, none⟩ = some (.string ((rd_T54 l0 x3_1).f1.f2)) ∧ w'.cell? (ad293.add (((ji10)).toNat * 4)) = some (.string ((rd_T54 l0 (ji10)).f0)) ∧ w'.cell? ⟨(ad293.add (((ji10)).toNat * 4)).block, (ad293.add (((ji10)).toNat * 4)).off + 1, none⟩ = some (.int .i64 ((rd_T54 l0 (ji10)).f1.f0)) ∧ w'.cell? ⟨(ad293.add (((ji10)).toNat * 4)).block, (ad293.add (((ji10)).toNat * 4)).off + 2, none⟩ = some (.int .i64 ((rd_T54 l0 (ji10)).f1.f1)) ∧ w'.cell? ⟨(ad293.add (((ji10)).toNat * 4)).block, (ad293.add (((ji10)).toNat * 4)).off + 3, none⟩ = some (.string ((rd_T54 l0 (ji10)).f1.f2)) ∧ w'.cell? (ad293.add ((x3_1).toNat * 4)) = some (.string ((rd_T54 l0 x3_1).f0)) ∧ w'.cell? ⟨(ad293.add ((x3_1).toNat * 4)).block, (ad293.add ((x3_1).toNat * 4)).off + 1, none⟩ = some (.int .i64 ((rd_T54 l0 x3_1).f1.f0)) ∧ w'.cell? ⟨(ad293.add ((x3_1).toNat * 4)).block, (ad293.add ((x3_1).toNat * 4)).off + 2, none⟩ = some (.int .i64 ((rd_T54 l0 x3_1).f1.f1)) ∧ w'.cell? ⟨(ad293.add ((x3_1).toNat * 4)).block, (ad293.add ((x3_1).toNat * 4)).off + 3, none⟩ = some (.string ((rd_T54 l0 x3_1).f1.f2))) (ds := []) (mk_ 35 0) (by kernel_rfl) rfl rfl ⟨(cl_ HB hw293_0), (cl_ HB hw293_1), (cl_ HB hw293_2), (cl_ HB hw293_3), (cl_ HB hw295_0), (cl_ HB hw295_1), (cl_ HB hw295_2), (cl_ HB hw295_3), (cl_ HB hw297_0), (cl_ HB hw297_1), (cl_ HB hw297_2), (cl_ HB hw297_3), (cl_ HB hw298_0), (cl_ HB hw298_1), (cl_ HB hw298_2), (cl_ HB hw298_3)⟩ (fun hHeld => ?_); refine with_tabW constableref01_Binds.tab6 constableref01_Binds.bits6 (fun HT_ HW_ => ?_)
            generalize wr.drew = w15 at HB hx293_0 hx293_1 hx293_2 hx293_3 hx295_0 hx295_1 hx295_2 hx295_3 hx297_0 hx297_1 hx297_2 hx297_3 hx298_0 hx298_1 hx298_2 hx298_3 hHeld ⊢
            refine pu_ 0 13 1 HT_ ?_; refine pu_ 1 14 3 HT_ ?_; refine pu_ 2 15 7 HT_ ?_; refine pu_ 3 16 15 HT_ ?_; refine tk_ 4 17 31 HT_ HW_ hHeld ?_
            refine one_ (i := 5) (N := some 18) (mk_ 35 63) rfl rfl (one_of HT_.out (by kernel_rfl)) (by decide) (fun K hK => ?_)
            refine goes_ Try.func34 (by kernel_rfl) rfl #[.string ((rd_T54 l0 x3_1).f0), .bool true] (by rfl) rfl rfl ga_ ?_
            with_reducible refine (constableref01_Word.calls k1 ((rd_T54 l0 x3_1).f0) true true _ A5.out).mono ?_
            rintro e w' ⟨rfl, ⟨nd, rfl⟩⟩
            refine ⟨_, rfl, ?_⟩
            refine hK.out _ _ ⟨(cl_ HB hw293_0), (cl_ HB hw293_1), (cl_ HB hw293_2), (cl_ HB hw293_3), (cl_ HB hw295_0), (cl_ HB hw295_1), (cl_ HB hw295_2), (cl_ HB hw295_3), (cl_ HB hw297_0), (cl_ HB hw297_1), (cl_ HB hw297_2), (cl_ HB hw297_3), (cl_ HB hw298_0), (cl_ HB hw298_1), (cl_ HB hw298_2), (cl_ HB hw298_3)⟩ (fun hHeld => ?_)
            clear hK K
            refine nm_ 18 ?_; refine pu_ 6 19 127 HT_ ?_; refine pu_ 7 20 255 HT_ ?_; refine pu_ 8 21 511 HT_ ?_; refine pu_ 9 22 1023 HT_ ?_; refine pu_ 10 23 2047 HT_ ?_; refine pu_ 11 24 4095 HT_ ?_; refine tk_ 12 25 8191 HT_ HW_ hHeld ?_
            refine one_ (i := 13) (N := some 26) (mk_ 35 16383) rfl rfl (one_of HT_.out (by kernel_rfl)) (by decide) (fun K hK => ?_)
            refine goes_ Try.func19 (by kernel_rfl) rfl #[.agg #[.int .i64 ((rd_T54 l0 x3_1).f1.f0), .int .i64 ((rd_T54 l0 x3_1).f1.f1), .string ((rd_T54 l0 x3_1).f1.f2)]] (by rfl) rfl rfl ga_ ?_
            with_reducible refine (constableref01_Value.calls k1 ((rd_T54 l0 x3_1).f1.f0) ((rd_T54 l0 x3_1).f1.f1) ((rd_T54 l0 x3_1).f1.f2) true _ A7.out).mono ?_
            rintro e w16 ⟨rfl, hb⟩
            refine ⟨_, rfl, ?_⟩
            have n0_ := bs_ (be_ HB) hb
            clear HB
            have HB := n0_
            clear n0_
            (try clear hb)
            (try clear hb2)
            (try clear hk)
            (try clear hi)
            refine hK.out _ _ ⟨(cl_ HB hw293_0), (cl_ HB hw293_1), (cl_ HB hw293_2), (cl_ HB hw293_3), (cl_ HB hw295_0), (cl_ HB hw295_1), (cl_ HB hw295_2), (cl_ HB hw295_3), (cl_ HB hw297_0), (cl_ HB hw297_1), (cl_ HB hw297_2), (cl_ HB hw297_3), (cl_ HB hw298_0), (cl_ HB hw298_1), (cl_ HB hw298_2), (cl_ HB hw298_3)⟩ (fun hHeld => ?_)
            clear hK K
            refine nm_ 26 ?_; refine pu_ 14 27 32767 HT_ ?_; refine pu_ 15 28 65535 HT_ ?_; refine pu_ 16 29 131071 HT_ ?_; refine pu_ 17 30 262143 HT_ ?_; refine pu_ 18 31 524287 HT_ ?_; refine pu_ 19 32 1048575 HT_ ?_; refine pu_ 20 33 2097151 HT_ ?_; refine pu_ 21 34 4194303 HT_ ?_; refine pu_ 22 35 8388607 HT_ ?_; refine pu_ 23 36 16777215 HT_ ?_; refine pu_ 24 37 33554431 HT_ ?_; refine pu_ 26 39 100663295 HT_ ?_; refine pu_ 27 40 234881023 HT_ ?_; refine pu_ 28 41 503316479 HT_ ?_; refine pu_ 29 42 1040187391 HT_ ?_; refine tk_ 25 38 1073741823 HT_ HW_ hHeld ?_; refine tk_ 30 43 2147483647 HT_ HW_ hHeld ?_
            refine one_ (i := 31) (N := some 44) (mk_ 35 4294967295) rfl rfl (one_of HT_.out (by kernel_rfl)) (by decide) (fun K hK => ?_)
            refine goes_ Try.func35 (by kernel_rfl) rfl #[.string ((rd_T54 l0 (ji10)).f0), .string ((rd_T54 l0 x3_1).f0)] (by rfl) rfl rfl (by (try simp only [List.map_toArray, List.map_cons, List.map_nil]); first | done | (simp only [hji10]; rfl) | rfl | (simp only [List.length_drop, List.length_take]; rfl)) ?_
            with_reducible refine (constableref01_Strings.calls k1 ((rd_T54 l0 (ji10)).f0) ((rd_T54 l0 x3_1).f0) t299 _ A13.out).mono ?_
            rintro e w' ⟨rfl, ⟨nd, rfl⟩⟩
            refine ⟨_, rfl, ?_⟩
            refine hK.out _ _ ⟨(cl_ HB hw293_0), (cl_ HB hw293_1), (cl_ HB hw293_2), (cl_ HB hw293_3), (cl_ HB hw295_0), (cl_ HB hw295_1), (cl_ HB hw295_2), (cl_ HB hw295_3), (cl_ HB hw297_0), (cl_ HB hw297_1), (cl_ HB hw297_2), (cl_ HB hw297_3), (cl_ HB hw298_0), (cl_ HB hw298_1), (cl_ HB hw298_2), (cl_ HB hw298_3)⟩ (fun hHeld => ?_)
            clear hK K
            refine nm_ 44 ?_; refine pu_ 32 45 8589934591 HT_ ?_; refine pu_ 33 46 17179869183 HT_ ?_; refine pu_ 34 47 34359738367 HT_ ?_
            refine done_ (done_of HT_.out (by kernel_rfl)) ?_
            try go_wp2
            go_ret
            exact ⟨by first | rfl | (simp [errW_none, errW_some] <;> rfl) | (simp only [← hji10]; first | rfl | (simp [errW_none, errW_some] <;> rfl)) | (simp [*, errW_none, errW_some] <;> rfl), by repeat (first | (with_reducible first | exact HB.out | apply below_alloc | apply pw_below_drewN | apply below_drew1) | exact HB.out)⟩
           ·rw [if_neg c14] at H
            have c14b0 : decide (0 ≤ t299) = false := decide_eq_false c14
            clear c14
            have H' := Aside0.mk H
            clear H
            try go_wp2
            have n0_ := Aside0.mk (below_drew1 HB.out)
            clear HB
            have HB := n0_
            clear n0_
            have p293 : 0 ≤ (x3_1 : Int) := dt_
            have q293 : x3_1 < (l0.length : Int) := dt_
            obtain ⟨ad293, e293, hx293_0, hx293_1, hx293_2, hx293_3⟩ := at_T54 HR0.out x3_1 p293 q293
            have hw293_3 := hx293_3
            have hw293_2 := hx293_2
            have hw293_1 := hx293_1
            have hw293_0 := hx293_0
            cases e293
            replace hx293_0 := cm_ HB hx293_0
            replace hx293_1 := cm_ HB hx293_1
            replace hx293_2 := cm_ HB hx293_2
            replace hx293_3 := cm_ HB hx293_3
            replace p293 := eq_true p293
            replace q293 := eq_true q293
            have p295 : 0 ≤ (x3_1 : Int) := dt_
            have q295 : x3_1 < (l0.length : Int) := dt_
            obtain ⟨ad295, e295, hx295_0, hx295_1, hx295_2, hx295_3⟩ := at_T54 HR0.out x3_1 p295 q295
            have hw295_3 := hx295_3
            have hw295_2 := hx295_2
            have hw295_1 := hx295_1
            have hw295_0 := hx295_0
            obtain rfl : ad293 = ad295 := (by injection e295)
            replace hx295_0 := cm_ HB hx295_0
            replace hx295_1 := cm_ HB hx295_1
            replace hx295_2 := cm_ HB hx295_2
            replace hx295_3 := cm_ HB hx295_3
            replace p295 := eq_true p295
            replace q295 := eq_true q295
            have p297 : 0 ≤ ((ji10) : Int) := dt_
            have q297 : (ji10) < (l0.length : Int) := dt_
            obtain ⟨ad297, e297, hx297_0, hx297_1, hx297_2, hx297_3⟩ := at_T54 HR0.out (ji10) p297 q297
            have hw297_3 := hx297_3
            have hw297_2 := hx297_2
            have hw297_1 := hx297_1
            have hw297_0 := hx297_0
            obtain rfl : ad293 = ad297 := (by injection e297)
            replace hx297_0 := cm_ HB hx297_0
            replace hx297_1 := cm_ HB hx297_1
            replace hx297_2 := cm_ HB hx297_2
            replace hx297_3 := cm_ HB hx297_3
            replace p297 := eq_true p297
            replace q297 := eq_true q297
            have p298 : 0 ≤ (x3_1 : Int) := dt_
            have q298 : x3_1 < (l0.length : Int) := dt_
            obtain ⟨ad298, e298, hx298_0, hx298_1, hx298_2, hx298_3⟩ := at_T54 HR0.out x3_1 p298 q298
            have hw298_3 := hx298_3
            have hw298_2 := hx298_2
            have hw298_1 := hx298_1
            have hw298_0 := hx298_0
            obtain rfl : ad293 = ad298 := (by injection e298)
            replace hx298_0 := cm_ HB hx298_0
            replace hx298_1 := cm_ HB hx298_1
            replace hx298_2 := cm_ HB hx298_2
            replace hx298_3 := cm_ HB hx298_3
            replace p298 := eq_true p298
            replace q298 := eq_true q298
            refine start_ (n := 35) (S := fun w' => w'.cell? (ad293.add ((x3_1).toNat * 4)) = some (.string ((rd_T54 l0 x3_1).f0)) ∧ w'.cell? ⟨(ad293.add ((x3_1).toNat * 4)).block, (ad293.add ((x3_1).toNat * 4)).off + 1, none⟩ = some (.int .i64 ((rd_T54 l0 x3_1).f1.f0)) ∧ w'.cell? ⟨(ad293.add ((x3_1).toNat * 4)).block, (ad293.add ((x3_1).toNat * 4)).off + 2, none⟩ = some (.int .i64 ((rd_T54 l0 x3_1).f1.f1)) ∧ w'.cell? ⟨(ad293.add ((x3_1).toNat * 4)).block, (ad293.add ((x3_1).toNat * 4)).off + 3, none⟩ = some (.string ((rd_T54 l0 x3_1).f1.f2)) ∧ w'.cell? (ad293.add ((x3_1).toNat * 4)) = some (.string ((rd_T54 l0 x3_1).f0)) ∧ w'.cell? ⟨(ad293.add ((x3_1).toNat * 4)).block, (ad293.add ((x3_1).toNat * 4)).off + 1, none⟩ = some (.int .i64 ((rd_T54 l0 x3_1).f1.f0)) ∧ w'.cell? ⟨(ad293.add ((x3_1).toNat * 4)).block, (ad293.add ((x3_1).toNat * 4)).off + 2, none⟩ = some (.int .i64 ((rd_T54 l0 x3_1).f1.f1)) ∧ w'.cell? ⟨(ad293.add ((x3_1).toNat * 4)).block, (ad293.add ((x3_1).toNat * 4)).off + 3, none⟩ = some (.string ((rd_T54 l0 x3_1).f1.f2)) ∧ w'.cell? (ad293.add (((ji10)).toNat * 4)) = some (.string ((rd_T54 l0 (ji10)).f0)) ∧ w'.cell? ⟨(ad293.add (((ji10)).toNat * 4)).block, (ad293.add (((ji10)).toNat * 4)).off + 1, none⟩ = some (.int .i64 ((rd_T54 l0 (ji10)).f1.f0)) ∧ w'.cell? ⟨(ad293.add (((ji10)).toNat * 4)).block, (ad293.add (((ji10)).toNat * 4)).off + 2, none⟩ = some (.int .i64 ((rd_T54 l0 (ji10)).f1.f1)) ∧ w'.cell? ⟨(ad293.add (((ji10)).toNat * 4)).block, (ad293.add (((ji10)).toNat * 4)).off + 3, none⟩ = some (.string ((rd_T54 l0 (ji10)).f1.f2)) ∧ w'.cell? (ad293.add ((x3_1).toNat * 4)) = some (.string ((rd_T54 l0 x3_1).f0)) ∧ w'.cell? ⟨(ad293.add ((x3_1).toNat * 4)).block, (ad293.add ((x3_1).toNat * 4)).off + 1, none⟩ = some (.int .i64 ((rd_T54 l0 x3_1).f1.f0)) ∧ w'.cell? ⟨(ad293.add ((x3_1).toNat * 4)).block, (ad293.add ((x3_1).toNat * 4)).off + 2, none⟩ = some (.int .i64 ((rd_T54 l0 x3_1).f1.f1)) ∧ w'.cell? ⟨(ad293.add ((x3_1).toNat * 4)).block, (ad293.add ((x3_1).toNat * 4)).off + 3, none⟩ = some (.string ((rd_T54 l0 x3_1).f1.f2))) (ds := []) (mk_ 35 0) (by kernel_rfl) rfl rfl ⟨(cl_ HB hw293_0), (cl_ HB hw293_1), (cl_ HB hw293_2), (cl_ HB hw293_3), (cl_ HB hw295_0), (cl_ HB hw295_1), (cl_ HB hw295_2), (cl_ HB hw295_3), (cl_ HB hw297_0), (cl_ HB hw297_1), (cl_ HB hw297_2), (cl_ HB hw297_3), (cl_ HB hw298_0), (cl_ HB hw298_1), (cl_ HB hw298_2), (cl_ HB hw298_3)⟩ (fun hHeld => ?_); refine with_tabW constableref01_Binds.tab6 constableref01_Binds.bits6 (fun HT_ HW_ => ?_)
            generalize wr.drew = w17 at HB hx293_0 hx293_1 hx293_2 hx293_3 hx295_0 hx295_1 hx295_2 hx295_3 hx297_0 hx297_1 hx297_2 hx297_3 hx298_0 hx298_1 hx298_2 hx298_3 hHeld ⊢
            refine pu_ 0 13 1 HT_ ?_; refine pu_ 1 14 3 HT_ ?_; refine pu_ 2 15 7 HT_ ?_; refine pu_ 3 16 15 HT_ ?_; refine tk_ 4 17 31 HT_ HW_ hHeld ?_
            refine one_ (i := 5) (N := some 18) (mk_ 35 63) rfl rfl (one_of HT_.out (by kernel_rfl)) (by decide) (fun K hK => ?_)
            refine goes_ Try.func34 (by kernel_rfl) rfl #[.string ((rd_T54 l0 x3_1).f0), .bool true] (by rfl) rfl rfl ga_ ?_
            with_reducible refine (constableref01_Word.calls k1 ((rd_T54 l0 x3_1).f0) true true _ A5.out).mono ?_
            rintro e w' ⟨rfl, ⟨nd, rfl⟩⟩
            refine ⟨_, rfl, ?_⟩
            refine hK.out _ _ ⟨(cl_ HB hw293_0), (cl_ HB hw293_1), (cl_ HB hw293_2), (cl_ HB hw293_3), (cl_ HB hw295_0), (cl_ HB hw295_1), (cl_ HB hw295_2), (cl_ HB hw295_3), (cl_ HB hw297_0), (cl_ HB hw297_1), (cl_ HB hw297_2), (cl_ HB hw297_3), (cl_ HB hw298_0), (cl_ HB hw298_1), (cl_ HB hw298_2), (cl_ HB hw298_3)⟩ (fun hHeld => ?_)
            clear hK K
            refine nm_ 18 ?_; refine pu_ 6 19 127 HT_ ?_; refine pu_ 7 20 255 HT_ ?_; refine pu_ 8 21 511 HT_ ?_; refine pu_ 9 22 1023 HT_ ?_; refine pu_ 10 23 2047 HT_ ?_; refine pu_ 11 24 4095 HT_ ?_; refine tk_ 12 25 8191 HT_ HW_ hHeld ?_
            refine one_ (i := 13) (N := some 26) (mk_ 35 16383) rfl rfl (one_of HT_.out (by kernel_rfl)) (by decide) (fun K hK => ?_)
            refine goes_ Try.func19 (by kernel_rfl) rfl #[.agg #[.int .i64 ((rd_T54 l0 x3_1).f1.f0), .int .i64 ((rd_T54 l0 x3_1).f1.f1), .string ((rd_T54 l0 x3_1).f1.f2)]] (by rfl) rfl rfl ga_ ?_
            with_reducible refine (constableref01_Value.calls k1 ((rd_T54 l0 x3_1).f1.f0) ((rd_T54 l0 x3_1).f1.f1) ((rd_T54 l0 x3_1).f1.f2) true _ A7.out).mono ?_
            rintro e w18 ⟨rfl, hb⟩
            refine ⟨_, rfl, ?_⟩
            have n0_ := bs_ (be_ HB) hb
            clear HB
            have HB := n0_
            clear n0_
            (try clear hb)
            (try clear hb2)
            (try clear hk)
            (try clear hi)
            refine hK.out _ _ ⟨(cl_ HB hw293_0), (cl_ HB hw293_1), (cl_ HB hw293_2), (cl_ HB hw293_3), (cl_ HB hw295_0), (cl_ HB hw295_1), (cl_ HB hw295_2), (cl_ HB hw295_3), (cl_ HB hw297_0), (cl_ HB hw297_1), (cl_ HB hw297_2), (cl_ HB hw297_3), (cl_ HB hw298_0), (cl_ HB hw298_1), (cl_ HB hw298_2), (cl_ HB hw298_3)⟩ (fun hHeld => ?_)
            clear hK K
            refine nm_ 26 ?_; refine pu_ 14 27 32767 HT_ ?_; refine pu_ 15 28 65535 HT_ ?_; refine pu_ 16 29 131071 HT_ ?_; refine pu_ 17 30 262143 HT_ ?_; refine pu_ 18 31 524287 HT_ ?_; refine pu_ 19 32 1048575 HT_ ?_; refine pu_ 20 33 2097151 HT_ ?_; refine pu_ 21 34 4194303 HT_ ?_; refine pu_ 22 35 8388607 HT_ ?_; refine pu_ 23 36 16777215 HT_ ?_; refine pu_ 24 37 33554431 HT_ ?_; refine pu_ 26 39 100663295 HT_ ?_; refine pu_ 27 40 234881023 HT_ ?_; refine pu_ 28 41 503316479 HT_ ?_; refine pu_ 29 42 1040187391 HT_ ?_; refine tk_ 25 38 1073741823 HT_ HW_ hHeld ?_; refine tk_ 30 43 2147483647 HT_ HW_ hHeld ?_
            refine one_ (i := 31) (N := some 44) (mk_ 35 4294967295) rfl rfl (one_of HT_.out (by kernel_rfl)) (by decide) (fun K hK => ?_)
            refine goes_ Try.func35 (by kernel_rfl) rfl #[.string ((rd_T54 l0 (ji10)).f0), .string ((rd_T54 l0 x3_1).f0)] (by rfl) rfl rfl (by (try simp only [List.map_toArray, List.map_cons, List.map_nil]); first | done | (simp only [hji10]; rfl) | rfl | (simp only [List.length_drop, List.length_take]; rfl)) ?_
            with_reducible refine (constableref01_Strings.calls k1 ((rd_T54 l0 (ji10)).f0) ((rd_T54 l0 x3_1).f0) t299 _ A13.out).mono ?_
            rintro e w' ⟨rfl, ⟨nd, rfl⟩⟩
            refine ⟨_, rfl, ?_⟩
            refine hK.out _ _ ⟨(cl_ HB hw293_0), (cl_ HB hw293_1), (cl_ HB hw293_2), (cl_ HB hw293_3), (cl_ HB hw295_0), (cl_ HB hw295_1), (cl_ HB hw295_2), (cl_ HB hw295_3), (cl_ HB hw297_0), (cl_ HB hw297_1), (cl_ HB hw297_2), (cl_ HB hw297_3), (cl_ HB hw298_0), (cl_ HB hw298_1), (cl_ HB hw298_2), (cl_ HB hw298_3)⟩ (fun hHeld => ?_)
            clear hK K
            refine nm_ 44 ?_; refine pu_ 32 45 8589934591 HT_ ?_; refine pu_ 33 46 17179869183 HT_ ?_; refine pu_ 34 47 34359738367 HT_ ?_
            refine done_ (done_of HT_.out (by kernel_rfl)) ?_
            try go_wp2
            go_roundg k1
            case measure => have := HK1.out; omega
            case rel => exact ⟨(wrap64 (x3_1 + 1)), ra_, H', ⟨by have := HK1.out; omega⟩, be2_ HB⟩
          ·rw [if_neg c12] at H
           exact absurd H (by simp)
         ·rw [if_neg c11] at H
          exact absurd H (by simp)
        ·rw [if_neg c9] at H
         have c9b0 : decide (0 < x3_1) = false := decide_eq_false c9
         clear c9
         have H' := Aside0.mk H
         clear H
         try go_wp2
         have n0_ := Aside0.mk (below_drew1 HB.out)
         clear HB
         have HB := n0_
         clear n0_
         have p293 : 0 ≤ (x3_1 : Int) := dt_
         have q293 : x3_1 < (l0.length : Int) := dt_
         obtain ⟨ad293, e293, hx293_0, hx293_1, hx293_2, hx293_3⟩ := at_T54 HR0.out x3_1 p293 q293
         have hw293_3 := hx293_3
         have hw293_2 := hx293_2
         have hw293_1 := hx293_1
         have hw293_0 := hx293_0
         cases e293
         replace hx293_0 := cm_ HB hx293_0
         replace hx293_1 := cm_ HB hx293_1
         replace hx293_2 := cm_ HB hx293_2
         replace hx293_3 := cm_ HB hx293_3
         replace p293 := eq_true p293
         replace q293 := eq_true q293
         have p295 : 0 ≤ (x3_1 : Int) := dt_
         have q295 : x3_1 < (l0.length : Int) := dt_
         obtain ⟨ad295, e295, hx295_0, hx295_1, hx295_2, hx295_3⟩ := at_T54 HR0.out x3_1 p295 q295
         have hw295_3 := hx295_3
         have hw295_2 := hx295_2
         have hw295_1 := hx295_1
         have hw295_0 := hx295_0
         obtain rfl : ad293 = ad295 := (by injection e295)
         replace hx295_0 := cm_ HB hx295_0
         replace hx295_1 := cm_ HB hx295_1
         replace hx295_2 := cm_ HB hx295_2
         replace hx295_3 := cm_ HB hx295_3
         replace p295 := eq_true p295
         replace q295 := eq_true q295
         refine start_ (n := 35) (S := fun w' => w'.cell? (ad293.add ((x3_1).toNat * 4)) = some (.string ((rd_T54 l0 x3_1).f0)) ∧ w'.cell? ⟨(ad293.add ((x3_1).toNat * 4)).block, (ad293.add ((x3_1).toNat * 4)).off + 1, none⟩ = some (.int .i64 ((rd_T54 l0 x3_1).f1.f0)) ∧ w'.cell? ⟨(ad293.add ((x3_1).toNat * 4)).block, (ad293.add ((x3_1).toNat * 4)).off + 2, none⟩ = some (.int .i64 ((rd_T54 l0 x3_1).f1.f1)) ∧ w'.cell? ⟨(ad293.add ((x3_1).toNat * 4)).block, (ad293.add ((x3_1).toNat * 4)).off + 3, none⟩ = some (.string ((rd_T54 l0 x3_1).f1.f2)) ∧ w'.cell? (ad293.add ((x3_1).toNat * 4)) = some (.string ((rd_T54 l0 x3_1).f0)) ∧ w'.cell? ⟨(ad293.add ((x3_1).toNat * 4)).block, (ad293.add ((x3_1).toNat * 4)).off + 1, none⟩ = some (.int .i64 ((rd_T54 l0 x3_1).f1.f0)) ∧ w'.cell? ⟨(ad293.add ((x3_1).toNat * 4)).block, (ad293.add ((x3_1).toNat * 4)).off + 2, none⟩ = some (.int .i64 ((rd_T54 l0 x3_1).f1.f1)) ∧ w'.cell? ⟨(ad293.add ((x3_1).toNat * 4)).block, (ad293.add ((x3_1).toNat * 4)).off + 3, none⟩ = some (.string ((rd_T54 l0 x3_1).f1.f2))) (ds := []) (mk_ 35 0) (by kernel_rfl) rfl rfl ⟨(cl_ HB hw293_0), (cl_ HB hw293_1), (cl_ HB hw293_2), (cl_ HB hw293_3), (cl_ HB hw295_0), (cl_ HB hw295_1), (cl_ HB hw295_2), (cl_ HB hw295_3)⟩ (fun hHeld => ?_); refine with_tabW constableref01_Binds.tab6 constableref01_Binds.bits6 (fun HT_ HW_ => ?_)
         generalize wr.drew = w19 at HB hx293_0 hx293_1 hx293_2 hx293_3 hx295_0 hx295_1 hx295_2 hx295_3 hHeld ⊢
         refine pu_ 0 13 1 HT_ ?_; refine pu_ 1 14 3 HT_ ?_; refine pu_ 2 15 7 HT_ ?_; refine pu_ 3 16 15 HT_ ?_; refine tk_ 4 17 31 HT_ HW_ hHeld ?_
         refine one_ (i := 5) (N := some 18) (mk_ 35 63) rfl rfl (one_of HT_.out (by kernel_rfl)) (by decide) (fun K hK => ?_)
         refine goes_ Try.func34 (by kernel_rfl) rfl #[.string ((rd_T54 l0 x3_1).f0), .bool true] (by rfl) rfl rfl ga_ ?_
         with_reducible refine (constableref01_Word.calls k1 ((rd_T54 l0 x3_1).f0) true true _ A5.out).mono ?_
         rintro e w' ⟨rfl, ⟨nd, rfl⟩⟩
         refine ⟨_, rfl, ?_⟩
         refine hK.out _ _ ⟨(cl_ HB hw293_0), (cl_ HB hw293_1), (cl_ HB hw293_2), (cl_ HB hw293_3), (cl_ HB hw295_0), (cl_ HB hw295_1), (cl_ HB hw295_2), (cl_ HB hw295_3)⟩ (fun hHeld => ?_)
         clear hK K
         refine nm_ 18 ?_; refine pu_ 6 19 127 HT_ ?_; refine pu_ 7 20 255 HT_ ?_; refine pu_ 8 21 511 HT_ ?_; refine pu_ 9 22 1023 HT_ ?_; refine pu_ 10 23 2047 HT_ ?_; refine pu_ 11 24 4095 HT_ ?_; refine tk_ 12 25 8191 HT_ HW_ hHeld ?_
         refine one_ (i := 13) (N := some 26) (mk_ 35 16383) rfl rfl (one_of HT_.out (by kernel_rfl)) (by decide) (fun K hK => ?_)
         refine goes_ Try.func19 (by kernel_rfl) rfl #[.agg #[.int .i64 ((rd_T54 l0 x3_1).f1.f0), .int .i64 ((rd_T54 l0 x3_1).f1.f1), .string ((rd_T54 l0 x3_1).f1.f2)]] (by rfl) rfl rfl ga_ ?_
         with_reducible refine (constableref01_Value.calls k1 ((rd_T54 l0 x3_1).f1.f0) ((rd_T54 l0 x3_1).f1.f1) ((rd_T54 l0 x3_1).f1.f2) true _ A7.out).mono ?_
         rintro e w20 ⟨rfl, hb⟩
         refine ⟨_, rfl, ?_⟩
         have n0_ := bs_ (be_ HB) hb
         clear HB
         have HB := n0_
         clear n0_
         (try clear hb)
         (try clear hb2)
         (try clear hk)
         (try clear hi)
         refine hK.out _ _ ⟨(cl_ HB hw293_0), (cl_ HB hw293_1), (cl_ HB hw293_2), (cl_ HB hw293_3), (cl_ HB hw295_0), (cl_ HB hw295_1), (cl_ HB hw295_2), (cl_ HB hw295_3)⟩ (fun hHeld => ?_)
         clear hK K
         refine nm_ 26 ?_; refine pu_ 14 27 32767 HT_ ?_; refine pu_ 15 28 65535 HT_ ?_; refine pu_ 16 29 131071 HT_ ?_; refine pu_ 17 30 262143 HT_ ?_; refine pu_ 18 31 524287 HT_ ?_; refine pu_ 19 32 1048575 HT_ ?_; refine pn_ 20 33 2097151 HT_ ?_; refine pn_ 21 34 4194303 HT_ ?_; refine pn_ 22 35 8388607 HT_ ?_; refine pn_ 23 36 16777215 HT_ ?_; refine pn_ 24 37 33554431 HT_ ?_; refine pn_ 25 38 67108863 HT_ ?_; refine pn_ 26 39 134217727 HT_ ?_; refine pn_ 27 40 268435455 HT_ ?_; refine pn_ 28 41 536870911 HT_ ?_; refine pn_ 29 42 1073741823 HT_ ?_; refine pn_ 30 43 2147483647 HT_ ?_; refine pn_ 31 44 4294967295 HT_ ?_; refine pn_ 32 45 8589934591 HT_ ?_; refine pu_ 33 46 17179869183 HT_ ?_; refine pu_ 34 47 34359738367 HT_ ?_
         refine done_ (done_of HT_.out (by kernel_rfl)) ?_
         try go_wp2
         go_roundg k1
         case measure => have := HK1.out; omega
         case rel => exact ⟨(wrap64 (x3_1 + 1)), ra_, H', ⟨by have := HK1.out; omega⟩, be2_ HB⟩
       ·replace c8 := Bool.eq_false_iff.mpr c8
        subst c8
        rw [if_neg (show ¬ (false = true) by decide)] at H
        obtain rfl := Option.some.inj H
        try go_wp2
        have n0_ := Aside0.mk (below_drew1 HB.out)
        clear HB
        have HB := n0_
        clear n0_
        have p293 : 0 ≤ (x3_1 : Int) := dt_
        have q293 : x3_1 < (l0.length : Int) := dt_
        obtain ⟨ad293, e293, hx293_0, hx293_1, hx293_2, hx293_3⟩ := at_T54 HR0.out x3_1 p293 q293
        have hw293_3 := hx293_3
        have hw293_2 := hx293_2
        have hw293_1 := hx293_1
        have hw293_0 := hx293_0
        cases e293
        replace hx293_0 := cm_ HB hx293_0
        replace hx293_1 := cm_ HB hx293_1
        replace hx293_2 := cm_ HB hx293_2
        replace hx293_3 := cm_ HB hx293_3
        replace p293 := eq_true p293
        replace q293 := eq_true q293
        have p295 : 0 ≤ (x3_1 : Int) := dt_
        have q295 : x3_1 < (l0.length : Int) := dt_
        obtain ⟨ad295, e295, hx295_0, hx295_1, hx295_2, hx295_3⟩ := at_T54 HR0.out x3_1 p295 q295
        have hw295_3 := hx295_3
        have hw295_2 := hx295_2
        have hw295_1 := hx295_1
        have hw295_0 := hx295_0
        obtain rfl : ad293 = ad295 := (by injection e295)
        replace hx295_0 := cm_ HB hx295_0
        replace hx295_1 := cm_ HB hx295_1
        replace hx295_2 := cm_ HB hx295_2
        replace hx295_3 := cm_ HB hx295_3
        replace p295 := eq_true p295
        replace q295 := eq_true q295
        refine start_ (n := 35) (S := fun w' => w'.cell? (ad293.add ((x3_1).toNat * 4)) = some (.string ((rd_T54 l0 x3_1).f0)) ∧ w'.cell? ⟨(ad293.add ((x3_1).toNat * 4)).block, (ad293.add ((x3_1).toNat * 4)).off + 1, none⟩ = some (.int .i64 ((rd_T54 l0 x3_1).f1.f0)) ∧ w'.cell? ⟨(ad293.add ((x3_1).toNat * 4)).block, (ad293.add ((x3_1).toNat * 4)).off + 2, none⟩ = some (.int .i64 ((rd_T54 l0 x3_1).f1.f1)) ∧ w'.cell? ⟨(ad293.add ((x3_1).toNat * 4)).block, (ad293.add ((x3_1).toNat * 4)).off + 3, none⟩ = some (.string ((rd_T54 l0 x3_1).f1.f2)) ∧ w'.cell? (ad293.add ((x3_1).toNat * 4)) = some (.string ((rd_T54 l0 x3_1).f0)) ∧ w'.cell? ⟨(ad293.add ((x3_1).toNat * 4)).block, (ad293.add ((x3_1).toNat * 4)).off + 1, none⟩ = some (.int .i64 ((rd_T54 l0 x3_1).f1.f0)) ∧ w'.cell? ⟨(ad293.add ((x3_1).toNat * 4)).block, (ad293.add ((x3_1).toNat * 4)).off + 2, none⟩ = some (.int .i64 ((rd_T54 l0 x3_1).f1.f1)) ∧ w'.cell? ⟨(ad293.add ((x3_1).toNat * 4)).block, (ad293.add ((x3_1).toNat * 4)).off + 3, none⟩ = some (.string ((rd_T54 l0 x3_1).f1.f2))) (ds := []) (mk_ 35 0) (by kernel_rfl) rfl rfl ⟨(cl_ HB hw293_0), (cl_ HB hw293_1), (cl_ HB hw293_2), (cl_ HB hw293_3), (cl_ HB hw295_0), (cl_ HB hw295_1), (cl_ HB hw295_2), (cl_ HB hw295_3)⟩ (fun hHeld => ?_); refine with_tabW constableref01_Binds.tab6 constableref01_Binds.bits6 (fun HT_ HW_ => ?_)
        generalize wr.drew = w21 at HB hx293_0 hx293_1 hx293_2 hx293_3 hx295_0 hx295_1 hx295_2 hx295_3 hHeld ⊢
        refine pu_ 0 13 1 HT_ ?_; refine pu_ 1 14 3 HT_ ?_; refine pu_ 2 15 7 HT_ ?_; refine pu_ 3 16 15 HT_ ?_; refine tk_ 4 17 31 HT_ HW_ hHeld ?_
        refine one_ (i := 5) (N := some 18) (mk_ 35 63) rfl rfl (one_of HT_.out (by kernel_rfl)) (by decide) (fun K hK => ?_)
        refine goes_ Try.func34 (by kernel_rfl) rfl #[.string ((rd_T54 l0 x3_1).f0), .bool true] (by rfl) rfl rfl ga_ ?_
        with_reducible refine (constableref01_Word.calls k1 ((rd_T54 l0 x3_1).f0) true true _ A5.out).mono ?_
        rintro e w' ⟨rfl, ⟨nd, rfl⟩⟩
        refine ⟨_, rfl, ?_⟩
        refine hK.out _ _ ⟨(cl_ HB hw293_0), (cl_ HB hw293_1), (cl_ HB hw293_2), (cl_ HB hw293_3), (cl_ HB hw295_0), (cl_ HB hw295_1), (cl_ HB hw295_2), (cl_ HB hw295_3)⟩ (fun hHeld => ?_)
        clear hK K
        refine nm_ 18 ?_; refine pu_ 6 19 127 HT_ ?_; refine pu_ 7 20 255 HT_ ?_; refine pu_ 8 21 511 HT_ ?_; refine pu_ 9 22 1023 HT_ ?_; refine pu_ 10 23 2047 HT_ ?_; refine pu_ 11 24 4095 HT_ ?_; refine tk_ 12 25 8191 HT_ HW_ hHeld ?_
        refine one_ (i := 13) (N := some 26) (mk_ 35 16383) rfl rfl (one_of HT_.out (by kernel_rfl)) (by decide) (fun K hK => ?_)
        refine goes_ Try.func19 (by kernel_rfl) rfl #[.agg #[.int .i64 ((rd_T54 l0 x3_1).f1.f0), .int .i64 ((rd_T54 l0 x3_1).f1.f1), .string ((rd_T54 l0 x3_1).f1.f2)]] (by rfl) rfl rfl ga_ ?_
        with_reducible refine (constableref01_Value.calls k1 ((rd_T54 l0 x3_1).f1.f0) ((rd_T54 l0 x3_1).f1.f1) ((rd_T54 l0 x3_1).f1.f2) false _ A7.out).mono ?_
        rintro e w22 ⟨rfl, hb⟩
        refine ⟨_, rfl, ?_⟩
        have n0_ := bs_ (be_ HB) hb
        clear HB
        have HB := n0_
        clear n0_
        (try clear hb)
        (try clear hb2)
        (try clear hk)
        (try clear hi)
        refine hK.out _ _ ⟨(cl_ HB hw293_0), (cl_ HB hw293_1), (cl_ HB hw293_2), (cl_ HB hw293_3), (cl_ HB hw295_0), (cl_ HB hw295_1), (cl_ HB hw295_2), (cl_ HB hw295_3)⟩ (fun hHeld => ?_)
        clear hK K
        refine nm_ 26 ?_; refine pu_ 14 27 32767 HT_ ?_; refine pu_ 15 28 65535 HT_ ?_; refine pu_ 16 29 131071 HT_ ?_; refine pn_ 17 30 262143 HT_ ?_; refine pn_ 18 31 524287 HT_ ?_; refine pn_ 19 32 1048575 HT_ ?_; refine pn_ 20 33 2097151 HT_ ?_; refine pn_ 21 34 4194303 HT_ ?_; refine pn_ 22 35 8388607 HT_ ?_; refine pn_ 23 36 16777215 HT_ ?_; refine pn_ 24 37 33554431 HT_ ?_; refine pn_ 25 38 67108863 HT_ ?_; refine pn_ 26 39 134217727 HT_ ?_; refine pn_ 27 40 268435455 HT_ ?_; refine pn_ 28 41 536870911 HT_ ?_; refine pn_ 29 42 1073741823 HT_ ?_; refine pn_ 30 43 2147483647 HT_ ?_; refine pn_ 31 44 4294967295 HT_ ?_; refine pn_ 32 45 8589934591 HT_ ?_; refine pn_ 33 46 17179869183 HT_ ?_; refine pu_ 34 47 34359738367 HT_ ?_
        refine done_ (done_of HT_.out (by kernel_rfl)) ?_
        try go_wp2
        go_ret
        exact ⟨re_, be_ HB⟩
      ·replace c6 := Bool.eq_false_iff.mpr c6
       subst c6
       rw [if_neg (show ¬ (false = true) by decide)] at H
       obtain rfl := Option.some.inj H
       try go_wp2
       have n0_ := Aside0.mk (below_drew1 HB.out)
       clear HB
       have HB := n0_
       clear n0_
       have p293 : 0 ≤ (x3_1 : Int) := dt_
       have q293 : x3_1 < (l0.length : Int) := dt_
       obtain ⟨ad293, e293, hx293_0, hx293_1, hx293_2, hx293_3⟩ := at_T54 HR0.out x3_1 p293 q293
       have hw293_3 := hx293_3
       have hw293_2 := hx293_2
       have hw293_1 := hx293_1
       have hw293_0 := hx293_0
       cases e293
       replace hx293_0 := cm_ HB hx293_0
       replace hx293_1 := cm_ HB hx293_1
       replace hx293_2 := cm_ HB hx293_2
       replace hx293_3 := cm_ HB hx293_3
       replace p293 := eq_true p293
       replace q293 := eq_true q293
       refine start_ (n := 35) (S := fun w' => w'.cell? (ad293.add ((x3_1).toNat * 4)) = some (.string ((rd_T54 l0 x3_1).f0)) ∧ w'.cell? ⟨(ad293.add ((x3_1).toNat * 4)).block, (ad293.add ((x3_1).toNat * 4)).off + 1, none⟩ = some (.int .i64 ((rd_T54 l0 x3_1).f1.f0)) ∧ w'.cell? ⟨(ad293.add ((x3_1).toNat * 4)).block, (ad293.add ((x3_1).toNat * 4)).off + 2, none⟩ = some (.int .i64 ((rd_T54 l0 x3_1).f1.f1)) ∧ w'.cell? ⟨(ad293.add ((x3_1).toNat * 4)).block, (ad293.add ((x3_1).toNat * 4)).off + 3, none⟩ = some (.string ((rd_T54 l0 x3_1).f1.f2))) (ds := []) (mk_ 35 0) (by kernel_rfl) rfl rfl ⟨(cl_ HB hw293_0), (cl_ HB hw293_1), (cl_ HB hw293_2), (cl_ HB hw293_3)⟩ (fun hHeld => ?_); refine with_tabW constableref01_Binds.tab6 constableref01_Binds.bits6 (fun HT_ HW_ => ?_)
       generalize wr.drew = w23 at HB hx293_0 hx293_1 hx293_2 hx293_3 hHeld ⊢
       refine pu_ 0 13 1 HT_ ?_; refine pu_ 1 14 3 HT_ ?_; refine pu_ 2 15 7 HT_ ?_; refine pu_ 3 16 15 HT_ ?_; refine tk_ 4 17 31 HT_ HW_ hHeld ?_
       refine one_ (i := 5) (N := some 18) (mk_ 35 63) rfl rfl (one_of HT_.out (by kernel_rfl)) (by decide) (fun K hK => ?_)
       refine goes_ Try.func34 (by kernel_rfl) rfl #[.string ((rd_T54 l0 x3_1).f0), .bool true] (by rfl) rfl rfl ga_ ?_
       with_reducible refine (constableref01_Word.calls k1 ((rd_T54 l0 x3_1).f0) true false _ A5.out).mono ?_
       rintro e w' ⟨rfl, ⟨nd, rfl⟩⟩
       refine ⟨_, rfl, ?_⟩
       refine hK.out _ _ ⟨(cl_ HB hw293_0), (cl_ HB hw293_1), (cl_ HB hw293_2), (cl_ HB hw293_3)⟩ (fun hHeld => ?_)
       clear hK K
       refine nm_ 18 ?_; refine pu_ 6 19 127 HT_ ?_; refine pu_ 7 20 255 HT_ ?_; refine pn_ 8 21 511 HT_ ?_; refine pn_ 9 22 1023 HT_ ?_; refine pn_ 10 23 2047 HT_ ?_; refine pn_ 11 24 4095 HT_ ?_; refine pn_ 12 25 8191 HT_ ?_; refine pn_ 13 26 16383 HT_ ?_; refine pn_ 14 27 32767 HT_ ?_; refine pu_ 15 28 65535 HT_ ?_; refine pu_ 16 29 131071 HT_ ?_; refine pn_ 17 30 262143 HT_ ?_; refine pn_ 18 31 524287 HT_ ?_; refine pn_ 19 32 1048575 HT_ ?_; refine pn_ 20 33 2097151 HT_ ?_; refine pn_ 21 34 4194303 HT_ ?_; refine pn_ 22 35 8388607 HT_ ?_; refine pn_ 23 36 16777215 HT_ ?_; refine pn_ 24 37 33554431 HT_ ?_; refine pn_ 25 38 67108863 HT_ ?_; refine pn_ 26 39 134217727 HT_ ?_; refine pn_ 27 40 268435455 HT_ ?_; refine pn_ 28 41 536870911 HT_ ?_; refine pn_ 29 42 1073741823 HT_ ?_; refine pn_ 30 43 2147483647 HT_ ?_; refine pn_ 31 44 4294967295 HT_ ?_; refine pn_ 32 45 8589934591 HT_ ?_; refine pn_ 33 46 17179869183 HT_ ?_; refine pu_ 34 47 34359738367 HT_ ?_
       refine done_ (done_of HT_.out (by kernel_rfl)) ?_
       try go_wp2
       go_ret
       exact ⟨re_, be_ HB⟩
     ·rw [if_neg c4] at H
      exact absurd H (by simp)
    ·rw [if_neg c3] at H
     have c3b0 : decide (x3_1 < (l0.length : Int)) = false := decide_eq_false c3
     clear c3
     obtain rfl := Option.some.inj H
     go_wp2
     go_ret
     exact ⟨re_, be_ HB⟩
end Go.Proofs.Ytaopajmpifenoaa.P
end
section
namespace Go.Proofs.Ytaopajmpifenoaa.P
open Go.RowKit Go.Proofs.YtaopajmpifenoaaW.PrintWords Go.Proofs.YtaopajmpifenoaaW.PrintLast Go.Proofs.YtaopajmpifenoaaW.PrintMore
attribute [local go_sem] max2_int min2_int max_two min_two max_three min_three max_four min_four
set_option linter.unusedVariables false
set_option linter.unusedSimpArgs false
def constablelaw08_wakes.f (k : Nat)  : Option (Bool) := (some (([(⟨1, (⟨#[88]⟩ : ByteArray), (⟨0, 0, (⟨#[]⟩ : ByteArray)⟩ : S23)⟩ : S67)] : List (S67)) : List (S67))).bind fun y302 => ((some (([(⟨2, (⟨#[]⟩ : ByteArray), (⟨1, 3, (⟨#[]⟩ : ByteArray)⟩ : S23)⟩ : S67)] : List (S67)) : List (S67))).bind fun y305 => ((guard_Eval.f k 3 (⟨#[]⟩ : ByteArray) ([] : List (S72)) 3 y302 y305 (([(⟨(⟨#[88]⟩ : ByteArray), (⟨1, 2, (⟨#[]⟩ : ByteArray)⟩ : S23)⟩ : S54)] : List (S54)))).bind fun bt312 => ((guard_Holds.f k 2 1 2 (⟨#[]⟩ : ByteArray) 1 3 (⟨#[]⟩ : ByteArray)).bind fun bt314 => ((guard_Holds.f k 4 1 2 (⟨#[]⟩ : ByteArray) 2 0 (⟨#[97]⟩ : ByteArray)).bind fun bt316 => (if bt312.2 = 0 then (if bt312.1 = true then (if bt314.2 = 0 then (if bt314.1 = true then (if bt316.2 = 3 then ((guard_Check.f k 3 (⟨#[]⟩ : ByteArray) ([] : List (S72)) 3 y302 y305).bind fun t318 => (if t318 = 0 then ((guard_Check.f k 0 (⟨#[]⟩ : ByteArray) ([] : List (S72)) 0 ([] : List (S67)) ([] : List (S67))).bind fun t319 => (some (t319 == 1))) else (some false))) else (some false)) else (some false)) else (some false)) else (some false)) else (some false))))))
theorem constablelaw08_wakes.mono : ∀ k, LeO (constablelaw08_wakes.f k ) (constablelaw08_wakes.f (k + 1) ) := by
 intro  k
 unfold constablelaw08_wakes.f
 repeat' first
   | (with_reducible exact guard_Check.mono ..)
   | (with_reducible exact guard_Eval.mono ..)
   | (with_reducible exact guard_Holds.mono ..)
   | (with_reducible exact LeO.refl _)
   | (with_reducible exact LeO.none _)
   | (with_reducible refine LeO.ite ?_ ?_)
   | (with_reducible refine LeO.bind ?_ (fun _ => ?_))
   | exact guard_Check.mono ..
   | exact guard_Eval.mono ..
   | exact guard_Holds.mono ..
   | exact LeO.none _
   | refine LeO.ite ?_ ?_
   | refine LeO.bind ?_ (fun _ => ?_)
set_option maxHeartbeats 8000000 in
set_option maxRecDepth 100000 in
theorem constablelaw08_wakes.calls (k : Nat)  (r : Bool) (w : World) (h : constablelaw08_wakes.f k  = some r) (hr_ : r = true) :
  Calls Try.prog 17 #[] w fun e w' => e = .returned (.bool r) ∧ Below w.heap.size w w' := by
 have hu23 := Try.underlying23
 have hu67 := Try.underlying67
 have hu29 := Try.underlying29
 have hu54 := Try.underlying54
 have HB := Aside0.mk (Below.refl w.heap.size w)
 have H : ((some (([(⟨1, (⟨#[88]⟩ : ByteArray), (⟨0, 0, (⟨#[]⟩ : ByteArray)⟩ : S23)⟩ : S67)] : List (S67)) : List (S67))).bind fun y302 => ((some (([(⟨2, (⟨#[]⟩ : ByteArray), (⟨1, 3, (⟨#[]⟩ : ByteArray)⟩ : S23)⟩ : S67)] : List (S67)) : List (S67))).bind fun y305 => ((guard_Eval.f k 3 (⟨#[]⟩ : ByteArray) ([] : List (S72)) 3 y302 y305 (([(⟨(⟨#[88]⟩ : ByteArray), (⟨1, 2, (⟨#[]⟩ : ByteArray)⟩ : S23)⟩ : S54)] : List (S54)))).bind fun bt312 => ((guard_Holds.f k 2 1 2 (⟨#[]⟩ : ByteArray) 1 3 (⟨#[]⟩ : ByteArray)).bind fun bt314 => ((guard_Holds.f k 4 1 2 (⟨#[]⟩ : ByteArray) 2 0 (⟨#[97]⟩ : ByteArray)).bind fun bt316 => (if bt312.2 = 0 then (if bt312.1 = true then (if bt314.2 = 0 then (if bt314.1 = true then (if bt316.2 = 3 then ((guard_Check.f k 3 (⟨#[]⟩ : ByteArray) ([] : List (S72)) 3 y302 y305).bind fun t318 => (if t318 = 0 then ((guard_Check.f k 0 (⟨#[]⟩ : ByteArray) ([] : List (S72)) 0 ([] : List (S67)) ([] : List (S67))).bind fun t319 => (some (t319 == 1))) else (some false))) else (some false)) else (some false)) else (some false)) else (some false)) else (some false))))))) = some r := h
 clear h
 have HR_ := Aside0.mk hr_
 clear hr_
 obtain ⟨y302, hy302⟩ : ∃ y_ : List (S67), y_ = (([(⟨1, (⟨#[88]⟩ : ByteArray), (⟨0, 0, (⟨#[]⟩ : ByteArray)⟩ : S23)⟩ : S67)] : List (S67))) := ⟨_, rfl⟩
 replace H : ((some (([(⟨2, (⟨#[]⟩ : ByteArray), (⟨1, 3, (⟨#[]⟩ : ByteArray)⟩ : S23)⟩ : S67)] : List (S67)) : List (S67))).bind fun y305 => ((guard_Eval.f k 3 (⟨#[]⟩ : ByteArray) ([] : List (S72)) 3 y302 y305 (([(⟨(⟨#[88]⟩ : ByteArray), (⟨1, 2, (⟨#[]⟩ : ByteArray)⟩ : S23)⟩ : S54)] : List (S54)))).bind fun bt312 => ((guard_Holds.f k 2 1 2 (⟨#[]⟩ : ByteArray) 1 3 (⟨#[]⟩ : ByteArray)).bind fun bt314 => ((guard_Holds.f k 4 1 2 (⟨#[]⟩ : ByteArray) 2 0 (⟨#[97]⟩ : ByteArray)).bind fun bt316 => (if bt312.2 = 0 then (if bt312.1 = true then (if bt314.2 = 0 then (if bt314.1 = true then (if bt316.2 = 3 then ((guard_Check.f k 3 (⟨#[]⟩ : ByteArray) ([] : List (S72)) 3 y302 y305).bind fun t318 => (if t318 = 0 then ((guard_Check.f k 0 (⟨#[]⟩ : ByteArray) ([] : List (S72)) 0 ([] : List (S67)) ([] : List (S67))).bind fun t319 => (some (t319 == 1))) else (some false))) else (some false)) else (some false)) else (some false)) else (some false)) else (some false)))))) = some r := by first | (rw [hy302]; with_reducible exact H) | (have H2_ := (Option.bind_some _ _).symm.trans H; rw [hy302]; with_reducible exact H2_) | (have H2_ := (Option.bind_some _ _).symm.trans H; with_reducible exact H2_) | with_reducible exact H | (rw [hy302]; exact H) | exact H
 have Ny302 := Aside0.mk hy302
 clear hy302
 obtain ⟨y305, hy305⟩ : ∃ y_ : List (S67), y_ = (([(⟨2, (⟨#[]⟩ : ByteArray), (⟨1, 3, (⟨#[]⟩ : ByteArray)⟩ : S23)⟩ : S67)] : List (S67))) := ⟨_, rfl⟩
 replace H : ((guard_Eval.f k 3 (⟨#[]⟩ : ByteArray) ([] : List (S72)) 3 y302 y305 (([(⟨(⟨#[88]⟩ : ByteArray), (⟨1, 2, (⟨#[]⟩ : ByteArray)⟩ : S23)⟩ : S54)] : List (S54)))).bind fun bt312 => ((guard_Holds.f k 2 1 2 (⟨#[]⟩ : ByteArray) 1 3 (⟨#[]⟩ : ByteArray)).bind fun bt314 => ((guard_Holds.f k 4 1 2 (⟨#[]⟩ : ByteArray) 2 0 (⟨#[97]⟩ : ByteArray)).bind fun bt316 => (if bt312.2 = 0 then (if bt312.1 = true then (if bt314.2 = 0 then (if bt314.1 = true then (if bt316.2 = 3 then ((guard_Check.f k 3 (⟨#[]⟩ : ByteArray) ([] : List (S72)) 3 y302 y305).bind fun t318 => (if t318 = 0 then ((guard_Check.f k 0 (⟨#[]⟩ : ByteArray) ([] : List (S72)) 0 ([] : List (S67)) ([] : List (S67))).bind fun t319 => (some (t319 == 1))) else (some false))) else (some false)) else (some false)) else (some false)) else (some false)) else (some false))))) = some r := by first | (rw [hy305]; with_reducible exact H) | (have H2_ := (Option.bind_some _ _).symm.trans H; rw [hy305]; with_reducible exact H2_) | (have H2_ := (Option.bind_some _ _).symm.trans H; with_reducible exact H2_) | with_reducible exact H | (rw [hy305]; exact H) | exact H
 have Ny305 := Aside0.mk hy305
 clear hy305
 obtain ⟨y309, hy309⟩ : ∃ y_ : List (S54), y_ = (([(⟨(⟨#[88]⟩ : ByteArray), (⟨1, 2, (⟨#[]⟩ : ByteArray)⟩ : S23)⟩ : S54)] : List (S54))) := ⟨_, rfl⟩
 replace H : ((guard_Eval.f k 3 (⟨#[]⟩ : ByteArray) ([] : List (S72)) 3 y302 y305 y309).bind fun bt312 => ((guard_Holds.f k 2 1 2 (⟨#[]⟩ : ByteArray) 1 3 (⟨#[]⟩ : ByteArray)).bind fun bt314 => ((guard_Holds.f k 4 1 2 (⟨#[]⟩ : ByteArray) 2 0 (⟨#[97]⟩ : ByteArray)).bind fun bt316 => (if bt312.2 = 0 then (if bt312.1 = true then (if bt314.2 = 0 then (if bt314.1 = true then (if bt316.2 = 3 then ((guard_Check.f k 3 (⟨#[]⟩ : ByteArray) ([] : List (S72)) 3 y302 y305).bind fun t318 => (if t318 = 0 then ((guard_Check.f k 0 (⟨#[]⟩ : ByteArray) ([] : List (S72)) 0 ([] : List (S67)) ([] : List (S67))).bind fun t319 => (some (t319 == 1))) else (some false))) else (some false)) else (some false)) else (some false)) else (some false)) else (some false))))) = some r := by first | (rw [hy309]; with_reducible exact H) | (have H2_ := (Option.bind_some _ _).symm.trans H; rw [hy309]; with_reducible exact H2_) | (have H2_ := (Option.bind_some _ _).symm.trans H; with_reducible exact H2_) | with_reducible exact H | (rw [hy309]; exact H) | exact H
 have Ny309 := Aside0.mk hy309
 clear hy309
 replace H := Option.bind_eq_some_iff.mp H
 obtain ⟨⟨t312, t313⟩, A10, H⟩ := H
 try dsimp only at H
 have A1 := Aside0.mk A10
 clear A10
 replace H := Option.bind_eq_some_iff.mp H
 obtain ⟨⟨t314, t315⟩, A20, H⟩ := H
 try dsimp only at H
 have A2 := Aside0.mk A20
 clear A20
 replace H := Option.bind_eq_some_iff.mp H
 obtain ⟨⟨t316, t317⟩, A30, H⟩ := H
 try dsimp only at H
 have A3 := Aside0.mk A30
 clear A30
 by_cases c4 : t313 = 0
 ·rw [if_pos c4] at H
  obtain ⟨c4b0, c4b1⟩ := eqB_ c4
  clear c4
  by_cases c5 : t312 = true
  ·subst c5
   rw [if_pos rfl] at H
   by_cases c6 : t315 = 0
   ·rw [if_pos c6] at H
    obtain ⟨c6b0, c6b1⟩ := eqB_ c6
    clear c6
    by_cases c7 : t314 = true
    ·subst c7
     rw [if_pos rfl] at H
     by_cases c8 : t317 = 3
     ·rw [if_pos c8] at H
      obtain ⟨c8b0, c8b1⟩ := eqB_ c8
      clear c8
      replace H := Option.bind_eq_some_iff.mp H
      obtain ⟨t318, A90, H⟩ := H
      try dsimp only at H
      have A9 := Aside0.mk A90
      clear A90
      by_cases c10 : t318 = 0
      ·rw [if_pos c10] at H
       obtain ⟨c10b0, c10b1⟩ := eqB_ c10
       clear c10
       replace H := Option.bind_eq_some_iff.mp H
       obtain ⟨t319, A110, H⟩ := H
       try dsimp only at H
       have A11 := Aside0.mk A110
       clear A110
       obtain rfl := Option.some.inj H
       go_enter Try.func17, Try.ntmps17
       go_wp2_with (first | ((with_reducible refine gate_dst (N := 1) rfl ?_); refine box_event ?hg (N := 1) ?hd (cs := #[.int .i64 0, .int .i64 0, .string (⟨#[]⟩ : ByteArray)]) (t := 23) ?hr ?_; (case hd => rfl); (case hg => rfl); (case hr => first | (go_simp; done) | (go_simp; rfl)); intro gb300 hg w12 hbox hb; have BK300 := Aside0.mk (hbox); have GW300 := gs_ hg (be_ HB); have GE300 := gs_ hg (be_ HB); replace HB := bs_ (be_ HB) hb; clear hb hbox hg) | ((with_reducible refine gate_dst (N := 2) rfl ?_); refine box_event ?hg (N := 2) ?hd (cs := #[.int .i64 0, .int .i64 0, .string (⟨#[]⟩ : ByteArray)]) (t := 23) ?hr ?_; (case hd => rfl); (case hg => rfl); (case hr => first | (go_simp; done) | (go_simp; rfl)); intro gb301 hg w13 hbox hb; have BK301 := Aside0.mk (hbox); have GW301 := gs_ hg (be_ HB); have GE301 := gs_ hg (be_ HB); replace HB := bs_ (be_ HB) hb; have NB300_301 := nl_ hg (bu_ BK300); have NB301_300 := ng_ hg (bu_ BK300); replace BK300 := bb_ (bu_ BK300) hb; clear hb hbox hg; have hnb14 := NB300_301.out; have hnc14 := NB301_300.out; have hcz15_0 : w13.cell? ⟨gb300, 0, none⟩ = some (.int .i64 0) := (blk_cell BK300.out 0).trans rfl; have hcz15_1 : w13.cell? ⟨gb300, 1, none⟩ = some (.int .i64 0) := (blk_cell BK300.out 1).trans rfl; have hcz15_2 : w13.cell? ⟨gb300, 2, none⟩ = some (.string (⟨#[]⟩ : ByteArray)) := (blk_cell BK300.out 2).trans rfl; have hfz15_0 := blk_frozen BK300.out 0; have hfz15_1 := blk_frozen BK300.out 1; have hfz15_2 := blk_frozen BK300.out 2; have hcz16_0 : w13.cell? ⟨gb301, 0, none⟩ = some (.int .i64 0) := (blk_cell BK301.out 0).trans rfl; have hcz16_1 : w13.cell? ⟨gb301, 1, none⟩ = some (.int .i64 0) := (blk_cell BK301.out 1).trans rfl; have hcz16_2 : w13.cell? ⟨gb301, 2, none⟩ = some (.string (⟨#[]⟩ : ByteArray)) := (blk_cell BK301.out 2).trans rfl; have hfz16_0 := blk_frozen BK301.out 0; have hfz16_1 := blk_frozen BK301.out 1; have hfz16_2 := blk_frozen BK301.out 2) | ((with_reducible refine gate_dst (N := 13) rfl ?_); refine Kd.R_lit k67 _ 67 ?hg (N := 13) ?hd (xs := ([(⟨1, (⟨#[88]⟩ : ByteArray), (⟨0, 0, (⟨#[]⟩ : ByteArray)⟩ : S23)⟩ : S67)] : List (S67))) (inner := [.int .i64 1, .string (⟨#[88]⟩ : ByteArray), .int .i64 0, .int .i64 0, .string (⟨#[]⟩ : ByteArray)]) (ok := fun _ => True) (okp := fun _ => True) ?hr ?hp (fun _ hk => hk) trivial (Below.refl _ _) (Nat.le_refl _) (by simp) ?_; (case hd => rfl); (case hg => rfl); (case hr => first | (go_simp; done) | (go_simp; rfl)); (case hp => exact (Reps.c5 (show Kd.M k67 _ _ _ (⟨1, (⟨#[88]⟩ : ByteArray), (⟨0, 0, (⟨#[]⟩ : ByteArray)⟩ : S23)⟩ : S67) [.int .i64 1, .string (⟨#[88]⟩ : ByteArray), .int .i64 0, .int .i64 0, .string (⟨#[]⟩ : ByteArray)] from (k67_mkM _ _ _ (⟨1, (⟨#[88]⟩ : ByteArray), (⟨0, 0, (⟨#[]⟩ : ByteArray)⟩ : S23)⟩ : S67) )) (Reps.none _ _))); intro v303 w17 ho18 hb hg_ hnew_; clear hg_ hnew_; (first | rw [← Ny302.out] at ho18 | (simp only [Int.reduceToNat] at ho18; rw [← Ny302.out] at ho18)); have HO304 := Aside0.mk (Kd.R_lower ho18 (below_size (be_ HB))); replace BK300 := Aside0.mk (blk_below (o := .cells #[.int .i64 1, .int .i64 2, .string (⟨#[]⟩ : ByteArray)] 23 (0, 0)) (bp_ BK300) hb); replace BK301 := Aside0.mk (blk_below (o := .cells #[.int .i64 1, .int .i64 3, .string (⟨#[]⟩ : ByteArray)] 23 (0, 0)) (bp_ BK301) hb); replace HB := bs_ (be_ HB) hb; clear hb ho18; have hcz19_0 : w17.cell? ⟨gb301, 0, none⟩ = some (.int .i64 1) := (blk_cell BK301.out 0).trans rfl; have hcz19_1 : w17.cell? ⟨gb301, 1, none⟩ = some (.int .i64 3) := (blk_cell BK301.out 1).trans rfl; have hcz19_2 : w17.cell? ⟨gb301, 2, none⟩ = some (.string (⟨#[]⟩ : ByteArray)) := (blk_cell BK301.out 2).trans rfl; have hfz19_0 := blk_frozen BK301.out 0; have hfz19_1 := blk_frozen BK301.out 1; have hfz19_2 := blk_frozen BK301.out 2) | ((with_reducible refine gate_dst (N := 16) rfl ?_); refine Kd.R_lit k67 _ 67 ?hg (N := 16) ?hd (xs := ([(⟨2, (⟨#[]⟩ : ByteArray), (⟨1, 3, (⟨#[]⟩ : ByteArray)⟩ : S23)⟩ : S67)] : List (S67))) (inner := [.int .i64 2, .string (⟨#[]⟩ : ByteArray), .int .i64 1, .int .i64 3, .string (⟨#[]⟩ : ByteArray)]) (ok := fun _ => True) (okp := fun _ => True) ?hr ?hp (fun _ hk => hk) trivial (Below.refl _ _) (Nat.le_refl _) (by simp) ?_; (case hd => rfl); (case hg => rfl); (case hr => first | (go_simp; done) | (go_simp; rfl)); (case hp => exact (Reps.c5 (show Kd.M k67 _ _ _ (⟨2, (⟨#[]⟩ : ByteArray), (⟨1, 3, (⟨#[]⟩ : ByteArray)⟩ : S23)⟩ : S67) [.int .i64 2, .string (⟨#[]⟩ : ByteArray), .int .i64 1, .int .i64 3, .string (⟨#[]⟩ : ByteArray)] from (k67_mkM _ _ _ (⟨2, (⟨#[]⟩ : ByteArray), (⟨1, 3, (⟨#[]⟩ : ByteArray)⟩ : S23)⟩ : S67) )) (Reps.none _ _))); intro v306 w20 ho21 hb hg_ hnew_; clear hg_ hnew_; (first | rw [← Ny305.out] at ho21 | (simp only [Int.reduceToNat] at ho21; rw [← Ny305.out] at ho21)); have HO307 := Aside0.mk (Kd.R_lower (Kd.R_new' ho21 (Kd.R_lt (ku_ HO304.out))) (below_size (be_ HB))); replace HO304 := Aside0.mk (Kd.R_elder' (ku_ HO304.out) (Kd.R_base ho21) hb); replace BK300 := bb_ (bu_ BK300) hb; replace BK301 := bb_ (bu_ BK301) hb; replace HB := bs_ (be_ HB) hb; clear hb ho21; obtain ⟨Ao22, co22, eo22⟩ := Kd.R_slice HO307.out; subst eo22; obtain ⟨Ao23, co23, eo23⟩ := Kd.R_slice HO304.out; subst eo23) | ((with_reducible refine gate_dst (N := 3) rfl ?_); refine box_event ?hg (N := 3) ?hd (cs := #[.int .i64 0, .string (⟨#[]⟩ : ByteArray), .slice none 0 0, .int .i64 0, .slice none 0 0, .slice none 0 0]) (t := 29) ?hr ?_; (case hd => rfl); (case hg => rfl); (case hr => first | (go_simp; done) | (go_simp; rfl)); intro gb308 hg w24 hbox hb; replace HO304 := kb_ (ku_ HO304.out) hb; replace HO307 := kb_ (ku_ HO307.out) hb; have BK308 := Aside0.mk (hbox); have GW308 := gs_ hg (be_ HB); have GE308 := gs_ hg (be_ HB); replace HB := bs_ (be_ HB) hb; have NB300_308 := nl_ hg (bu_ BK300); have NB308_300 := ng_ hg (bu_ BK300); replace BK300 := bb_ (bu_ BK300) hb; have NB301_308 := nl_ hg (bu_ BK301); have NB308_301 := ng_ hg (bu_ BK301); replace BK301 := bb_ (bu_ BK301) hb; clear hb hbox hg; have hnb25 := NB308_300.out; have hnc25 := NB300_308.out; have hnb26 := NB308_301.out; have hnc26 := NB301_308.out; have hcz27_0 : w24.cell? ⟨gb308, 0, none⟩ = some (.int .i64 0) := (blk_cell BK308.out 0).trans rfl; have hcz27_1 : w24.cell? ⟨gb308, 1, none⟩ = some (.string (⟨#[]⟩ : ByteArray)) := (blk_cell BK308.out 1).trans rfl; have hcz27_2 : w24.cell? ⟨gb308, 2, none⟩ = some (.slice none 0 0) := (blk_cell BK308.out 2).trans rfl; have hcz27_3 : w24.cell? ⟨gb308, 3, none⟩ = some (.int .i64 0) := (blk_cell BK308.out 3).trans rfl; have hcz27_4 : w24.cell? ⟨gb308, 4, none⟩ = some (.slice none 0 0) := (blk_cell BK308.out 4).trans rfl; have hcz27_5 : w24.cell? ⟨gb308, 5, none⟩ = some (.slice none 0 0) := (blk_cell BK308.out 5).trans rfl; have hfz27_0 := blk_frozen BK308.out 0; have hfz27_1 := blk_frozen BK308.out 1; have hfz27_2 := blk_frozen BK308.out 2; have hfz27_3 := blk_frozen BK308.out 3; have hfz27_4 := blk_frozen BK308.out 4; have hfz27_5 := blk_frozen BK308.out 5; have hcz28_0 : w24.cell? ⟨gb300, 0, none⟩ = some (.int .i64 1) := (blk_cell BK300.out 0).trans rfl; have hcz28_1 : w24.cell? ⟨gb300, 1, none⟩ = some (.int .i64 2) := (blk_cell BK300.out 1).trans rfl; have hcz28_2 : w24.cell? ⟨gb300, 2, none⟩ = some (.string (⟨#[]⟩ : ByteArray)) := (blk_cell BK300.out 2).trans rfl; have hfz28_0 := blk_frozen BK300.out 0; have hfz28_1 := blk_frozen BK300.out 1; have hfz28_2 := blk_frozen BK300.out 2) | ((with_reducible refine gate_dst (N := 22) rfl ?_); refine Kd.R_lit k54 _ 54 ?hg (N := 22) ?hd (xs := ([(⟨(⟨#[88]⟩ : ByteArray), (⟨1, 2, (⟨#[]⟩ : ByteArray)⟩ : S23)⟩ : S54)] : List (S54))) (inner := [.string (⟨#[88]⟩ : ByteArray), .int .i64 1, .int .i64 2, .string (⟨#[]⟩ : ByteArray)]) (ok := fun _ => True) (okp := fun _ => True) ?hr ?hp (fun _ hk => hk) trivial (Below.refl _ _) (Nat.le_refl _) (by simp) ?_; (case hd => rfl); (case hg => rfl); (case hr => first | (go_simp; done) | (go_simp; rfl)); (case hp => exact (Reps.c4 (show Kd.M k54 _ _ _ (⟨(⟨#[88]⟩ : ByteArray), (⟨1, 2, (⟨#[]⟩ : ByteArray)⟩ : S23)⟩ : S54) [.string (⟨#[88]⟩ : ByteArray), .int .i64 1, .int .i64 2, .string (⟨#[]⟩ : ByteArray)] from (k54_mkM _ _ _ (⟨(⟨#[88]⟩ : ByteArray), (⟨1, 2, (⟨#[]⟩ : ByteArray)⟩ : S23)⟩ : S54) )) (Reps.none _ _))); intro v310 w29 ho30 hb hg_ hnew_; clear hg_ hnew_; (first | rw [← Ny309.out] at ho30 | (simp only [Int.reduceToNat] at ho30; rw [← Ny309.out] at ho30)); replace HO304 := Aside0.mk (Kd.R_below (ku_ (Kd.R_mono (Kd.R_far (p := ⟨gb308, 5, none⟩) (Kd.R_far (p := ⟨gb308, 4, none⟩) (Kd.R_far (p := ⟨gb308, 3, none⟩) (Kd.R_far (p := ⟨gb308, 2, none⟩) (Kd.R_far (p := ⟨gb308, 1, none⟩) (Kd.R_far (p := ⟨gb308, 0, none⟩) (Kd.R_types HO304.out BK308.out (by decide)) (fun _ hk => hk.2) (.int .i64 3)) (fun _ hk => hk.2) (.string (⟨#[]⟩ : ByteArray))) (fun _ hk => hk.2) (.slice none 0 0)) (fun _ hk => hk.2) (.int .i64 3)) (fun _ hk => hk.2) (.slice Ao23 y302.length co23)) (fun _ hk => hk.2) (.slice Ao22 y305.length co22)) (fun _ h_ => h_.1))) hb); replace HO307 := Aside0.mk (Kd.R_below (ku_ (Kd.R_mono (Kd.R_far (p := ⟨gb308, 5, none⟩) (Kd.R_far (p := ⟨gb308, 4, none⟩) (Kd.R_far (p := ⟨gb308, 3, none⟩) (Kd.R_far (p := ⟨gb308, 2, none⟩) (Kd.R_far (p := ⟨gb308, 1, none⟩) (Kd.R_far (p := ⟨gb308, 0, none⟩) (Kd.R_types HO307.out BK308.out (by decide)) (fun _ hk => hk.2) (.int .i64 3)) (fun _ hk => hk.2) (.string (⟨#[]⟩ : ByteArray))) (fun _ hk => hk.2) (.slice none 0 0)) (fun _ hk => hk.2) (.int .i64 3)) (fun _ hk => hk.2) (.slice Ao23 y302.length co23)) (fun _ hk => hk.2) (.slice Ao22 y305.length co22)) (fun _ h_ => h_.1))) hb); have HO311 := Aside0.mk (Kd.R_lower ho30 (below_size (be_ HB))); replace BK300 := bb_ (bu_ BK300) hb; replace BK301 := bb_ (bu_ BK301) hb; replace BK308 := Aside0.mk (blk_below (o := .cells #[.int .i64 3, .string (⟨#[]⟩ : ByteArray), .slice none 0 0, .int .i64 3, .slice Ao23 y302.length co23, .slice Ao22 y305.length co22] 29 (0, 0)) (bp_ BK308) hb); replace HB := bs_ (be_ HB) hb; clear hb ho30; obtain ⟨Ao31, co31, eo31⟩ := Kd.R_slice HO311.out; subst eo31) | ((with_reducible refine gate_callee (f := 12) rfl ?_); refine goesL_ (some 23) rfl rfl Try.func12 (by kernel_rfl) rfl #[.agg #[.int .i64 3, .string (⟨#[]⟩ : ByteArray), .slice none 0 0, .int .i64 3, .slice Ao23 y302.length co23, .slice Ao22 y305.length co22], .slice Ao31 y309.length co31] rfl ga_ ?_; (refine (guard_Eval.calls k 3 (⟨#[]⟩ : ByteArray) none 0 ([] : List (S72)) 3 _ _ y302 _ _ y305 _ _ y309 true t313 _ ?side1 ?side2 ?side3 ?side4 ?side5 ?side6 ?side7 ?side8 A1.out).mono ?_); (case side1 => exact Kd.C_nil _ _); (case side2 => exact Nat.le_refl _); (case side3 => exact kd_ ((Kd.R_reads' HO304.out).2.2)); (case side4 => exact (Kd.R_reads' HO304.out).2.1); (case side5 => exact kd_ ((Kd.R_reads' HO307.out).2.2)); (case side6 => exact (Kd.R_reads' HO307.out).2.1); (case side7 => exact kd_ ((Kd.R_reads' HO311.out).2.2)); (case side8 => exact (Kd.R_reads' HO311.out).2.1); rintro e w32 ⟨rfl, hb⟩; refine ⟨_, rfl, ?_⟩; replace HO304 := kb_ (ku_ HO304.out) hb; replace HO307 := kb_ (ku_ HO307.out) hb; replace HO311 := kb_ (ku_ HO311.out) hb; replace BK300 := bb_ (bu_ BK300) hb; replace BK301 := bb_ (bu_ BK301) hb; replace BK308 := bb_ (bu_ BK308) hb; replace HB := bs_ (be_ HB) hb; (try clear hb); (try clear hb2); (try clear hk); (try clear hi); have hcz33_0 : w32.cell? ⟨gb300, 0, none⟩ = some (.int .i64 1) := (blk_cell BK300.out 0).trans rfl; have hcz33_1 : w32.cell? ⟨gb300, 1, none⟩ = some (.int .i64 2) := (blk_cell BK300.out 1).trans rfl; have hcz33_2 : w32.cell? ⟨gb300, 2, none⟩ = some (.string (⟨#[]⟩ : ByteArray)) := (blk_cell BK300.out 2).trans rfl; have hfz33_0 := blk_frozen BK300.out 0; have hfz33_1 := blk_frozen BK300.out 1; have hfz33_2 := blk_frozen BK300.out 2; have hcz34_0 : w32.cell? ⟨gb301, 0, none⟩ = some (.int .i64 1) := (blk_cell BK301.out 0).trans rfl; have hcz34_1 : w32.cell? ⟨gb301, 1, none⟩ = some (.int .i64 3) := (blk_cell BK301.out 1).trans rfl; have hcz34_2 : w32.cell? ⟨gb301, 2, none⟩ = some (.string (⟨#[]⟩ : ByteArray)) := (blk_cell BK301.out 2).trans rfl; have hfz34_0 := blk_frozen BK301.out 0; have hfz34_1 := blk_frozen BK301.out 1; have hfz34_2 := blk_frozen BK301.out 2; (try clear A1)) | ((with_reducible refine gate_callee (f := 10) rfl ?_); refine goesL_ (some 29) rfl rfl Try.func10 (by kernel_rfl) rfl #[.int .i64 2, .agg #[.int .i64 1, .int .i64 2, .string (⟨#[]⟩ : ByteArray)], .agg #[.int .i64 1, .int .i64 3, .string (⟨#[]⟩ : ByteArray)]] rfl ga_ ?_; (with_reducible refine (guard_Holds.calls k 2 1 2 (⟨#[]⟩ : ByteArray) 1 3 (⟨#[]⟩ : ByteArray) true t315 _ A2.out).mono ?_); rintro e w35 ⟨rfl, hb⟩; refine ⟨_, rfl, ?_⟩; replace HO304 := kb_ (ku_ HO304.out) hb; replace HO307 := kb_ (ku_ HO307.out) hb; replace HO311 := kb_ (ku_ HO311.out) hb; replace BK300 := bb_ (bu_ BK300) hb; replace BK301 := bb_ (bu_ BK301) hb; replace BK308 := bb_ (bu_ BK308) hb; replace HB := bs_ (be_ HB) hb; (try clear hb); (try clear hb2); (try clear hk); (try clear hi); have hcz36_0 : w35.cell? ⟨gb300, 0, none⟩ = some (.int .i64 1) := (blk_cell BK300.out 0).trans rfl; have hcz36_1 : w35.cell? ⟨gb300, 1, none⟩ = some (.int .i64 2) := (blk_cell BK300.out 1).trans rfl; have hcz36_2 : w35.cell? ⟨gb300, 2, none⟩ = some (.string (⟨#[]⟩ : ByteArray)) := (blk_cell BK300.out 2).trans rfl; have hfz36_0 := blk_frozen BK300.out 0; have hfz36_1 := blk_frozen BK300.out 1; have hfz36_2 := blk_frozen BK300.out 2) | ((with_reducible refine gate_callee (f := 10) rfl ?_); refine goesL_ (some 35) rfl rfl Try.func10 (by kernel_rfl) rfl #[.int .i64 4, .agg #[.int .i64 1, .int .i64 2, .string (⟨#[]⟩ : ByteArray)], .agg #[.int .i64 2, .int .i64 0, .string (⟨#[97]⟩ : ByteArray)]] rfl ga_ ?_; (with_reducible refine (guard_Holds.calls k 4 1 2 (⟨#[]⟩ : ByteArray) 2 0 (⟨#[97]⟩ : ByteArray) t316 t317 _ A3.out).mono ?_); rintro e w37 ⟨rfl, hb⟩; refine ⟨_, rfl, ?_⟩; replace HO304 := kb_ (ku_ HO304.out) hb; replace HO307 := kb_ (ku_ HO307.out) hb; replace HO311 := kb_ (ku_ HO311.out) hb; replace BK300 := bb_ (bu_ BK300) hb; replace BK301 := bb_ (bu_ BK301) hb; replace BK308 := bb_ (bu_ BK308) hb; replace HB := bs_ (be_ HB) hb; (try clear hb); (try clear hb2); (try clear hk); (try clear hi); have hcz38_0 : w37.cell? ⟨gb308, 0, none⟩ = some (.int .i64 3) := (blk_cell BK308.out 0).trans rfl; have hcz38_1 : w37.cell? ⟨gb308, 1, none⟩ = some (.string (⟨#[]⟩ : ByteArray)) := (blk_cell BK308.out 1).trans rfl; have hcz38_2 : w37.cell? ⟨gb308, 2, none⟩ = some (.slice none 0 0) := (blk_cell BK308.out 2).trans rfl; have hcz38_3 : w37.cell? ⟨gb308, 3, none⟩ = some (.int .i64 3) := (blk_cell BK308.out 3).trans rfl; have hcz38_4 : w37.cell? ⟨gb308, 4, none⟩ = some (.slice Ao23 y302.length co23) := (blk_cell BK308.out 4).trans rfl; have hcz38_5 : w37.cell? ⟨gb308, 5, none⟩ = some (.slice Ao22 y305.length co22) := (blk_cell BK308.out 5).trans rfl; have hfz38_0 := blk_frozen BK308.out 0; have hfz38_1 := blk_frozen BK308.out 1; have hfz38_2 := blk_frozen BK308.out 2; have hfz38_3 := blk_frozen BK308.out 3; have hfz38_4 := blk_frozen BK308.out 4; have hfz38_5 := blk_frozen BK308.out 5) | (go_at_call 15; (refine (guard_Check.calls k 3 (⟨#[]⟩ : ByteArray) none 0 ([] : List (S72)) 3 _ _ y302 _ _ y305 t318 _ ?side1 ?side2 ?side3 ?side4 ?side5 ?side6 A9.out).mono ?_); (case side1 => exact Kd.C_nil _ _); (case side2 => exact Nat.le_refl _); (case side3 => exact kd_ ((Kd.R_reads' HO304.out).2.2)); (case side4 => exact (Kd.R_reads' HO304.out).2.1); (case side5 => exact kd_ ((Kd.R_reads' HO307.out).2.2)); (case side6 => exact (Kd.R_reads' HO307.out).2.1); rintro e w39 ⟨rfl, hb⟩; replace HO304 := kb_ (ku_ HO304.out) hb; replace HO307 := kb_ (ku_ HO307.out) hb; replace HO311 := kb_ (ku_ HO311.out) hb; replace BK300 := bb_ (bu_ BK300) hb; replace BK301 := bb_ (bu_ BK301) hb; replace BK308 := bb_ (bu_ BK308) hb; replace HB := bs_ (be_ HB) hb; (try clear hb); (try clear hb2); (try clear hk); (try clear hi); (try clear A9)) | (go_at_call 15; (refine (guard_Check.calls k 0 (⟨#[]⟩ : ByteArray) none 0 ([] : List (S72)) 0 none 0 ([] : List (S67)) none 0 ([] : List (S67)) t319 _ ?side1 ?side2 ?side3 ?side4 ?side5 ?side6 A11.out).mono ?_); (case side1 => exact Kd.C_nil _ _); (case side2 => exact Nat.le_refl _); (case side3 => exact Kd.C_nil _ _); (case side4 => exact Nat.le_refl _); (case side5 => exact Kd.C_nil _ _); (case side6 => exact Nat.le_refl _); rintro e w40 ⟨rfl, hb⟩; replace HO304 := kb_ (ku_ HO304.out) hb; replace HO307 := kb_ (ku_ HO307.out) hb; replace HO311 := kb_ (ku_ HO311.out) hb; replace BK300 := bb_ (bu_ BK300) hb; replace BK301 := bb_ (bu_ BK301) hb; replace BK308 := bb_ (bu_ BK308) hb; replace HB := bs_ (be_ HB) hb; (try clear hb); (try clear hb2); (try clear hk); (try clear hi); (try clear A11)))
       go_ret
       exact ⟨re_, be_ HB⟩
      ·rw [if_neg c10] at H
       obtain ⟨c10b0, c10b1⟩ := neB_ c10
       exact absurd ((Option.some.inj H).trans HR_.out) (by decide)
     ·rw [if_neg c8] at H
      obtain ⟨c8b0, c8b1⟩ := neB_ c8
      exact absurd ((Option.some.inj H).trans HR_.out) (by decide)
    ·replace c7 := Bool.eq_false_iff.mpr c7
     subst c7
     rw [if_neg (show ¬ (false = true) by decide)] at H
     exact absurd ((Option.some.inj H).trans HR_.out) (by decide)
   ·rw [if_neg c6] at H
    obtain ⟨c6b0, c6b1⟩ := neB_ c6
    exact absurd ((Option.some.inj H).trans HR_.out) (by decide)
  ·replace c5 := Bool.eq_false_iff.mpr c5
   subst c5
   rw [if_neg (show ¬ (false = true) by decide)] at H
   exact absurd ((Option.some.inj H).trans HR_.out) (by decide)
 ·rw [if_neg c4] at H
  obtain ⟨c4b0, c4b1⟩ := neB_ c4
  exact absurd ((Option.some.inj H).trans HR_.out) (by decide)
end Go.Proofs.Ytaopajmpifenoaa.P
end
section
namespace Go.Proofs.Ytaopajmpifenoaa.P
open Go.RowKit Go.Proofs.YtaopajmpifenoaaW.PrintWords Go.Proofs.YtaopajmpifenoaaW.PrintLast Go.Proofs.YtaopajmpifenoaaW.PrintMore
attribute [local go_sem] max2_int min2_int max_two min_two max_three min_three max_four min_four
set_option linter.unusedVariables false
set_option linter.unusedSimpArgs false
def constableref01_Get.l0 : Nat → List (S54) → ByteArray → Int → Option (Int × Int × ByteArray × Bool)
 | 0, _, _, _ => none
 | k + 1, x0, x1, x6 => if x6 < (x0.length : Int) then (if 0 ≤ x6 then (if ((rd_T54 x0 x6).f0).toList = x1.toList then (some ((rd_T54 x0 x6).f1.f0, (rd_T54 x0 x6).f1.f1, (rd_T54 x0 x6).f1.f2, true)) else (constableref01_Get.l0 k x0 x1 (wrap64 (x6 + 1)))) else (none)) else (some (0, 0, (⟨#[]⟩ : ByteArray), false))
def constableref01_Get.f (k : Nat) (l0 : List (S54)) (a1 : ByteArray) : Option (Int × Int × ByteArray × Bool) := constableref01_Get.l0 k l0 a1 0
theorem constableref01_Get.mono_l : ∀ k, (∀ y0 y1 y2, LeO (constableref01_Get.l0 k y0 y1 y2) (constableref01_Get.l0 (k + 1) y0 y1 y2))
 | 0 => fun _ _ _ r h => by simp [constableref01_Get.l0] at h
 | k + 1 => by
  have ih0 := constableref01_Get.mono_l k
  ·intro y0 y1 y2
   unfold constableref01_Get.l0
   repeat' first
   | (with_reducible exact ih0 _ _ _)
   | (with_reducible exact LeO.refl _)
   | (with_reducible exact LeO.none _)
   | (with_reducible refine LeO.ite ?_ ?_)
   | (with_reducible refine LeO.bind ?_ (fun _ => ?_))
   | exact ih0 _ _ _
   | exact LeO.none _
   | refine LeO.ite ?_ ?_
   | refine LeO.bind ?_ (fun _ => ?_)
theorem constableref01_Get.mono : ∀ a0 a1 k, LeO (constableref01_Get.f k a0 a1) (constableref01_Get.f (k + 1) a0 a1) := by
 intro a0 a1 k
 have ih0 := constableref01_Get.mono_l k
 unfold constableref01_Get.f
 repeat' first
   | (with_reducible exact ih0 _ _ _)
   | (with_reducible exact LeO.refl _)
   | (with_reducible exact LeO.none _)
   | (with_reducible refine LeO.ite ?_ ?_)
   | (with_reducible refine LeO.bind ?_ (fun _ => ?_))
   | exact ih0 _ _ _
   | exact LeO.none _
   | refine LeO.ite ?_ ?_
   | refine LeO.bind ?_ (fun _ => ?_)
set_option maxHeartbeats 8000000 in
set_option maxRecDepth 100000 in
theorem constableref01_Get.calls (k : Nat) (A0 : Option Addr) (c0 : Nat) (l0 : List (S54)) (a1 : ByteArray) (r1 : Int) (r2 : Int) (r3 : ByteArray) (r4 : Bool) (w : World) (hr0 : Kd.C k54 w A0 l0.length l0) (hc0 : l0.length ≤ c0) (h : constableref01_Get.f k l0 a1 = some (r1, r2, r3, r4)) :
  Calls Try.prog 51 #[.slice A0 l0.length c0, .string a1] w fun e w' => e = .returned (.tuple #[.agg #[.int .i64 r1, .int .i64 r2, .string r3], .bool r4]) ∧ Below w.heap.size w w' := by
 have hu23 := Try.underlying23
 have HR0 := Aside0.mk hr0
 have HC0 := Aside0.mk hc0
 clear hr0 hc0
 have HB := Aside0.mk (Below.refl w.heap.size w)
 have H : (constableref01_Get.l0 k l0 a1 0) = some (r1, r2, r3, r4) := h
 clear h
 have H' := Aside0.mk H
 clear H
 go_enter Try.func51, Try.ntmps51
 go_wp2_with (first | ((with_reducible refine gate_dst (N := 4) rfl ?_); refine box_event ?hg (N := 4) ?hd (cs := #[.int .i64 0, .int .i64 0, .string (⟨#[]⟩ : ByteArray)]) (t := 23) ?hr ?_; (case hd => rfl); (case hg => rfl); (case hr => first | (go_simp; done) | (go_simp; rfl)); intro gb320 hg w3 hbox hb; have BK320 := Aside0.mk (hbox); have GW320 := gs_ hg (be_ HB); have GE320 := gs_ hg (be_ HB); replace HB := bs_ (be_ HB) hb; clear hb hbox hg))
 go_loopg [6] k (fun kq v6 w' => ∃ (x6_1 : Int) (x321000_1 : Int) (x321001_1 : Int) (x321002_1 : ByteArray), v6 = .int .i64 x6_1 ∧ Aside0 (constableref01_Get.l0 kq l0 a1 x6_1 = some (r1, r2, r3, r4)) ∧ Aside0 (kq ≤ k) ∧ Aside0 (w'.heap[gb320]? = some (.cells #[.int .i64 x321000_1, .int .i64 x321001_1, .string x321002_1] 23 (0, 0))) ∧ Aside0 (Below w.heap.size w w'))
 case atStart => exact ⟨(0), (0), (0), ((⟨#[]⟩ : ByteArray)), ra_, H', ⟨Nat.le_refl _⟩, bu2_ BK320, be2_ HB⟩
 case round =>
  clear H'
  try clear p2
  obtain ⟨x6_1, x321000_1, x321001_1, x321002_1, rfl, HA, HK1, BK320, HB⟩ := hrel
  cases gk with
  | zero => exact absurd HA.out (by simp [constableref01_Get.l0])
  | succ k1 =>
   have H := HA.out
   clear HA
   simp only [constableref01_Get.l0] at H
   by_cases c4 : x6_1 < (l0.length : Int)
   ·rw [if_pos c4] at H
    have c4b0 : decide (x6_1 < (l0.length : Int)) = true := decide_eq_true c4
    clear c4
    by_cases c5 : 0 ≤ x6_1
    ·rw [if_pos c5] at H
     have c5b0 : decide (0 ≤ x6_1) = true := decide_eq_true c5
     clear c5
     by_cases c6 : ((rd_T54 l0 x6_1).f0).toList = a1.toList
     ·rw [if_pos c6] at H
      obtain ⟨c6b0, c6b1⟩ := eqB_ c6
      clear c6
      simp only [Option.some.injEq, Prod.mk.injEq] at H
      obtain ⟨rfl, rfl, rfl, rfl⟩ := H
      have p321 : 0 ≤ (x6_1 : Int) := dt_
      have q321 : x6_1 < (l0.length : Int) := dt_
      obtain ⟨ad321, e321, hx321_0, hx321_1, hx321_2, hx321_3⟩ := at_T54 HR0.out x6_1 p321 q321
      cases e321
      replace hx321_0 := cm_ HB hx321_0
      replace hx321_1 := cm_ HB hx321_1
      replace hx321_2 := cm_ HB hx321_2
      replace hx321_3 := cm_ HB hx321_3
      replace p321 := eq_true p321
      replace q321 := eq_true q321
      have p322 : 0 ≤ (x6_1 : Int) := dt_
      have q322 : x6_1 < (l0.length : Int) := dt_
      obtain ⟨ad322, e322, hx322_0, hx322_1, hx322_2, hx322_3⟩ := at_T54 HR0.out x6_1 p322 q322
      obtain rfl : ad321 = ad322 := (by injection e322)
      replace hx322_0 := cm_ HB hx322_0
      replace hx322_1 := cm_ HB hx322_1
      replace hx322_2 := cm_ HB hx322_2
      replace hx322_3 := cm_ HB hx322_3
      replace p322 := eq_true p322
      replace q322 := eq_true q322
      have hcz7_0 : wr.cell? ⟨gb320, 0, none⟩ = some (.int .i64 x321000_1) := (blk_cell BK320.out 0).trans rfl
      have hcz7_1 : wr.cell? ⟨gb320, 1, none⟩ = some (.int .i64 x321001_1) := (blk_cell BK320.out 1).trans rfl
      have hcz7_2 : wr.cell? ⟨gb320, 2, none⟩ = some (.string x321002_1) := (blk_cell BK320.out 2).trans rfl
      have hfz7_0 := blk_frozen BK320.out 0
      have hfz7_1 := blk_frozen BK320.out 1
      have hfz7_2 := blk_frozen BK320.out 2
      go_wp2
      refine bodyPost_ret (results_ct rfl _ _ gb320 23 #[.int .i64 ((rd_T54 l0 x6_1).f1.f0), .int .i64 ((rd_T54 l0 x6_1).f1.f1), .string ((rd_T54 l0 x6_1).f1.f2)] (0, 0) _ rfl (bp_ BK320) Try.underlying23 rfl (by kernel_rfl)) rfl ?_
      exact ⟨re_, be_ HB⟩
     ·rw [if_neg c6] at H
      obtain ⟨c6b0, c6b1⟩ := neB_ c6
      have H' := Aside0.mk H
      clear H
      have p321 : 0 ≤ (x6_1 : Int) := dt_
      have q321 : x6_1 < (l0.length : Int) := dt_
      obtain ⟨ad321, e321, hx321_0, hx321_1, hx321_2, hx321_3⟩ := at_T54 HR0.out x6_1 p321 q321
      cases e321
      replace hx321_0 := cm_ HB hx321_0
      replace hx321_1 := cm_ HB hx321_1
      replace hx321_2 := cm_ HB hx321_2
      replace hx321_3 := cm_ HB hx321_3
      replace p321 := eq_true p321
      replace q321 := eq_true q321
      go_wp2
      go_roundg k1
      case measure => have := HK1.out; omega
      case rel => exact ⟨(wrap64 (x6_1 + 1)), (x321000_1), (x321001_1), (x321002_1), ra_, H', ⟨by have := HK1.out; omega⟩, bu2_ BK320, be2_ HB⟩
    ·rw [if_neg c5] at H
     exact absurd H (by simp)
   ·rw [if_neg c4] at H
    have c4b0 : decide (x6_1 < (l0.length : Int)) = false := decide_eq_false c4
    clear c4
    simp only [Option.some.injEq, Prod.mk.injEq] at H
    obtain ⟨rfl, rfl, rfl, rfl⟩ := H
    have hcz8_0 : wr.cell? ⟨gb320, 0, none⟩ = some (.int .i64 x321000_1) := (blk_cell BK320.out 0).trans rfl
    have hcz8_1 : wr.cell? ⟨gb320, 1, none⟩ = some (.int .i64 x321001_1) := (blk_cell BK320.out 1).trans rfl
    have hcz8_2 : wr.cell? ⟨gb320, 2, none⟩ = some (.string x321002_1) := (blk_cell BK320.out 2).trans rfl
    have hfz8_0 := blk_frozen BK320.out 0
    have hfz8_1 := blk_frozen BK320.out 1
    have hfz8_2 := blk_frozen BK320.out 2
    go_wp2
    refine bodyPost_ret (results_ct rfl _ _ gb320 23 #[.int .i64 0, .int .i64 0, .string (⟨#[]⟩ : ByteArray)] (0, 0) _ rfl (bp_ BK320) Try.underlying23 rfl (by kernel_rfl)) rfl ?_
    exact ⟨re_, be_ HB⟩
end Go.Proofs.Ytaopajmpifenoaa.P
end
section
namespace Go.Proofs.Ytaopajmpifenoaa.P
open Go.RowKit Go.Proofs.YtaopajmpifenoaaW.PrintWords Go.Proofs.YtaopajmpifenoaaW.PrintLast Go.Proofs.YtaopajmpifenoaaW.PrintMore
attribute [local go_sem] max2_int min2_int max_two min_two max_three min_three max_four min_four
set_option linter.unusedVariables false
set_option linter.unusedSimpArgs false
mutual
def constableref01_Do.j0 : Nat → Int → Int → Int → Bool → Option (Int × Int)
 | 0, _, _, _, _ => none
 | k + 1, x0, x1, x2, x17 => if x17 = true then (some (0, 3)) else ((constableref01_In.f x1 (-4611686018427387904) 4611686018427387904).bind fun t323 => (if t323 = true then ((constableref01_In.f x2 (-4611686018427387904) 4611686018427387904).bind fun t324 => (constableref01_Do.j1 k x0 x1 x2 (!t324))) else (constableref01_Do.j1 k x0 x1 x2 true)))
def constableref01_Do.j1 : Nat → Int → Int → Int → Bool → Option (Int × Int)
 | 0, _, _, _, _ => none
 | k + 1, x0, x1, x2, x25 => if x25 = true then (some (0, 4)) else (if x0 = 4 then (constableref01_Do.j2 k x0 x1 x2 (x0 == 4)) else (constableref01_Do.j2 k x0 x1 x2 (x0 == 3)))
def constableref01_Do.j2 : Nat → Int → Int → Int → Bool → Option (Int × Int)
 | 0, _, _, _, _ => none
 | k + 1, x0, x1, x2, x27 => if x27 = true then (if x0 = 4 then (constableref01_Do.j3 k x1 (wrap64 (-x2))) else (constableref01_Do.j3 k x1 x2)) else (if x1 = 0 then (some (wrap64 (x1 * x2), 0)) else (if x2 = 0 then (some (wrap64 (x1 * x2), 0)) else (if (mx x2 (wrap64 (-x2))) = 0 then (none) else (if (mx x1 (wrap64 (-x1))) > (wrap64 (Int.tdiv (4611686018427387904 : Int) (mx x2 (wrap64 (-x2))))) then (some (0, 4)) else (some (wrap64 (x1 * x2), 0))))))
def constableref01_Do.j3 : Nat → Int → Int → Option (Int × Int)
 | 0, _, _ => none
 | k + 1, x1, x2 => if x2 > 0 then (if x1 > (wrap64 (4611686018427387904 - x2)) then (constableref01_Do.j4 k x1 x2 true) else (if x2 < 0 then (constableref01_Do.j4 k x1 x2 (decide (x1 < (wrap64 ((-4611686018427387904) - x2))))) else (constableref01_Do.j4 k x1 x2 false))) else (if x2 < 0 then (constableref01_Do.j4 k x1 x2 (decide (x1 < (wrap64 ((-4611686018427387904) - x2))))) else (constableref01_Do.j4 k x1 x2 false))
def constableref01_Do.j4 : Nat → Int → Int → Bool → Option (Int × Int)
 | 0, _, _, _ => none
 | k + 1, x1, x2, x51 => if x51 = true then (some (0, 4)) else (some (wrap64 (x1 + x2), 0))
end
def constableref01_Do.f (k : Nat) (a0 : Int) (a1 : Int) (a2 : Int) : Option (Int × Int) := if a0 = 3 then (constableref01_Do.j0 k a0 a1 a2 false) else (if a0 = 4 then (constableref01_Do.j0 k a0 a1 a2 false) else (constableref01_Do.j0 k a0 a1 a2 (a0 != 5)))
theorem constableref01_Do.mono_l : ∀ k, (∀ y0 y1 y2 y3, LeO (constableref01_Do.j0 k y0 y1 y2 y3) (constableref01_Do.j0 (k + 1) y0 y1 y2 y3)) ∧ (∀ y0 y1 y2 y3, LeO (constableref01_Do.j1 k y0 y1 y2 y3) (constableref01_Do.j1 (k + 1) y0 y1 y2 y3)) ∧ (∀ y0 y1 y2 y3, LeO (constableref01_Do.j2 k y0 y1 y2 y3) (constableref01_Do.j2 (k + 1) y0 y1 y2 y3)) ∧ (∀ y0 y1, LeO (constableref01_Do.j3 k y0 y1) (constableref01_Do.j3 (k + 1) y0 y1)) ∧ (∀ y0 y1 y2, LeO (constableref01_Do.j4 k y0 y1 y2) (constableref01_Do.j4 (k + 1) y0 y1 y2))
 | 0 => ⟨fun _ _ _ _ r h => by simp [constableref01_Do.j0] at h, fun _ _ _ _ r h => by simp [constableref01_Do.j1] at h, fun _ _ _ _ r h => by simp [constableref01_Do.j2] at h, fun _ _ r h => by simp [constableref01_Do.j3] at h, fun _ _ _ r h => by simp [constableref01_Do.j4] at h⟩
 | k + 1 => by
  obtain ⟨ih0, ih1, ih2, ih3, ih4⟩ := constableref01_Do.mono_l k
  refine ⟨?_, ?_, ?_, ?_, ?_⟩
  ·intro y0 y1 y2 y3
   unfold constableref01_Do.j0
   repeat' first
   | (with_reducible exact ih0 _ _ _ _)
   | (with_reducible exact ih1 _ _ _ _)
   | (with_reducible exact ih2 _ _ _ _)
   | (with_reducible exact ih3 _ _)
   | (with_reducible exact ih4 _ _ _)
   | (with_reducible exact LeO.refl _)
   | (with_reducible exact LeO.none _)
   | (with_reducible refine LeO.ite ?_ ?_)
   | (with_reducible refine LeO.bind ?_ (fun _ => ?_))
   | exact ih0 _ _ _ _
   | exact ih1 _ _ _ _
   | exact ih2 _ _ _ _
   | exact ih3 _ _
   | exact ih4 _ _ _
   | exact LeO.none _
   | refine LeO.ite ?_ ?_
   | refine LeO.bind ?_ (fun _ => ?_)
  ·intro y0 y1 y2 y3
   unfold constableref01_Do.j1
   repeat' first
   | (with_reducible exact ih0 _ _ _ _)
   | (with_reducible exact ih1 _ _ _ _)
   | (with_reducible exact ih2 _ _ _ _)
   | (with_reducible exact ih3 _ _)
   | (with_reducible exact ih4 _ _ _)
   | (with_reducible exact LeO.refl _)
   | (with_reducible exact LeO.none _)
   | (with_reducible refine LeO.ite ?_ ?_)
   | (with_reducible refine LeO.bind ?_ (fun _ => ?_))
   | exact ih0 _ _ _ _
   | exact ih1 _ _ _ _
   | exact ih2 _ _ _ _
   | exact ih3 _ _
   | exact ih4 _ _ _
   | exact LeO.none _
   | refine LeO.ite ?_ ?_
   | refine LeO.bind ?_ (fun _ => ?_)
  ·intro y0 y1 y2 y3
   unfold constableref01_Do.j2
   repeat' first
   | (with_reducible exact ih0 _ _ _ _)
   | (with_reducible exact ih1 _ _ _ _)
   | (with_reducible exact ih2 _ _ _ _)
   | (with_reducible exact ih3 _ _)
   | (with_reducible exact ih4 _ _ _)
   | (with_reducible exact LeO.refl _)
   | (with_reducible exact LeO.none _)
   | (with_reducible refine LeO.ite ?_ ?_)
   | (with_reducible refine LeO.bind ?_ (fun _ => ?_))
   | exact ih0 _ _ _ _
   | exact ih1 _ _ _ _
   | exact ih2 _ _ _ _
   | exact ih3 _ _
   | exact ih4 _ _ _
   | exact LeO.none _
   | refine LeO.ite ?_ ?_
   | refine LeO.bind ?_ (fun _ => ?_)
  ·intro y0 y1
   unfold constableref01_Do.j3
   repeat' first
   | (with_reducible exact ih0 _ _ _ _)
   | (with_reducible exact ih1 _ _ _ _)
   | (with_reducible exact ih2 _ _ _ _)
   | (with_reducible exact ih3 _ _)
   | (with_reducible exact ih4 _ _ _)
   | (with_reducible exact LeO.refl _)
   | (with_reducible exact LeO.none _)
   | (with_reducible refine LeO.ite ?_ ?_)
   | (with_reducible refine LeO.bind ?_ (fun _ => ?_))
   | exact ih0 _ _ _ _
   | exact ih1 _ _ _ _
   | exact ih2 _ _ _ _
   | exact ih3 _ _
   | exact ih4 _ _ _
   | exact LeO.none _
   | refine LeO.ite ?_ ?_
   | refine LeO.bind ?_ (fun _ => ?_)
  ·intro y0 y1 y2
   unfold constableref01_Do.j4
   repeat' first
   | (with_reducible exact ih0 _ _ _ _)
   | (with_reducible exact ih1 _ _ _ _)
   | (with_reducible exact ih2 _ _ _ _)
   | (with_reducible exact ih3 _ _)
   | (with_reducible exact ih4 _ _ _)
   | (with_reducible exact LeO.refl _)
   | (with_reducible exact LeO.none _)
   | (with_reducible refine LeO.ite ?_ ?_)
   | (with_reducible refine LeO.bind ?_ (fun _ => ?_))
   | exact ih0 _ _ _ _
   | exact ih1 _ _ _ _
   | exact ih2 _ _ _ _
   | exact ih3 _ _
   | exact ih4 _ _ _
   | exact LeO.none _
   | refine LeO.ite ?_ ?_
   | refine LeO.bind ?_ (fun _ => ?_)
theorem constableref01_Do.mono : ∀ a0 a1 a2 k, LeO (constableref01_Do.f k a0 a1 a2) (constableref01_Do.f (k + 1) a0 a1 a2) := by
 intro a0 a1 a2 k
 obtain ⟨ih0, ih1, ih2, ih3, ih4⟩ := constableref01_Do.mono_l k
 unfold constableref01_Do.f
 repeat' first
   | (with_reducible exact ih0 _ _ _ _)
   | (with_reducible exact ih1 _ _ _ _)
   | (with_reducible exact ih2 _ _ _ _)
   | (with_reducible exact ih3 _ _)
   | (with_reducible exact ih4 _ _ _)
   | (with_reducible exact LeO.refl _)
   | (with_reducible exact LeO.none _)
   | (with_reducible refine LeO.ite ?_ ?_)
   | (with_reducible refine LeO.bind ?_ (fun _ => ?_))
   | exact ih0 _ _ _ _
   | exact ih1 _ _ _ _
   | exact ih2 _ _ _ _
   | exact ih3 _ _
   | exact ih4 _ _ _
   | exact LeO.none _
   | refine LeO.ite ?_ ?_
   | refine LeO.bind ?_ (fun _ => ?_)
set_option maxHeartbeats 8000000 in
set_option maxRecDepth 100000 in
theorem constableref01_Do.calls (k : Nat) (a0 : Int) (a1 : Int) (a2 : Int) (r1 : Int) (r2 : Int) (w : World) (h : constableref01_Do.f k a0 a1 a2 = some (r1, r2)) :
  Calls Try.prog 52 #[.int .i64 a0, .int .i64 a1, .int .i64 a2] w fun e w' => e = .returned (.tuple #[.int .i64 r1, .int .i64 r2]) ∧ Below w.heap.size w w' := by
 have HB := Aside0.mk (Below.refl w.heap.size w)
 have H : (if a0 = 3 then (constableref01_Do.j0 k a0 a1 a2 false) else (if a0 = 4 then (constableref01_Do.j0 k a0 a1 a2 false) else (constableref01_Do.j0 k a0 a1 a2 (a0 != 5)))) = some (r1, r2) := h
 clear h
 have HC4 := Aside0.mk H
 clear H
 go_enter Try.func52, Try.ntmps52
 go_upto_region 1 with (fail)
 go_cut [17] (fun v17 wc => ∃ (kq : Nat) (x17_3 : Bool), v17 = .bool x17_3 ∧ Aside0 (constableref01_Do.j0 kq a0 a1 a2 x17_3 = some (r1, r2)) ∧ Aside0 (kq ≤ k) ∧ Aside0 (Below w.heap.size w wc))
 case first =>
  have H := HC4.out
  clear HC4
  by_cases c5 : a0 = 3
  ·rw [if_pos c5] at H
   obtain ⟨c5b0, c5b1⟩ := eqB_ c5
   clear c5
   (first | rw [c5b0] | (simp only [i64_w, i32_w]; rw [c5b0]) | skip)
   have H' := Aside0.mk H
   clear H
   go_wp2
   go_meet
   case rel => exact ⟨_, (false), ra_, H', le_, be2_ HB⟩
  ·rw [if_neg c5] at H
   obtain ⟨c5b0, c5b1⟩ := neB_ c5
   (first | rw [c5b0] | (simp only [i64_w, i32_w]; rw [c5b0]) | skip)
   by_cases c6 : a0 = 4
   ·rw [if_pos c6] at H
    obtain ⟨c6b0, c6b1⟩ := eqB_ c6
    clear c6
    have H' := Aside0.mk H
    clear H
    go_wp2
    go_meet
    case rel => exact ⟨_, (false), ra_, H', le_, be2_ HB⟩
   ·rw [if_neg c6] at H
    obtain ⟨c6b0, c6b1⟩ := neB_ c6
    have H' := Aside0.mk H
    clear H
    go_wp2
    go_meet
    case rel => exact ⟨_, ((a0 != 5)), ra_, H', le_, be2_ HB⟩
 case rest =>
  clear HC4
  try clear p2; try clear c5; try clear c5b0; try clear c5b1; try clear c6; try clear c6b0; try clear c6b1
  obtain ⟨kq, x17_3, rfl, HA, HJ3, HB⟩ := hcut
  cases kq with
  | zero => exact absurd HA.out (by simp [constableref01_Do.j0])
  | succ kj3 =>
   have H := HA.out
   clear HA
   simp only [constableref01_Do.j0] at H
   by_cases c7 : x17_3 = true
   ·subst c7
    rw [if_pos rfl] at H
    simp only [Option.some.injEq, Prod.mk.injEq] at H
    obtain ⟨rfl, rfl⟩ := H
    go_wp2
    go_ret2
    exact ⟨re_, be_ HB⟩
   ·replace c7 := Bool.eq_false_iff.mpr c7
    subst c7
    rw [if_neg (show ¬ (false = true) by decide)] at H
    have HC8 := Aside0.mk H
    clear H
    go_upto_region 3 with (fail)
    go_cut [25] (fun v25 wc => ∃ (kq : Nat) (x25_7 : Bool), v25 = .bool x25_7 ∧ Aside0 (constableref01_Do.j1 kq a0 a1 a2 x25_7 = some (r1, r2)) ∧ Aside0 (kq ≤ kj3) ∧ Aside0 (Below w.heap.size w wc))
    case first =>
     have H := HC8.out
     clear HC8
     replace H := Option.bind_eq_some_iff.mp H
     obtain ⟨t323, A90, H⟩ := H
     try dsimp only at H
     have A9 := Aside0.mk A90
     clear A90
     by_cases c10 : t323 = true
     ·subst c10
      rw [if_pos rfl] at H
      replace H := Option.bind_eq_some_iff.mp H
      obtain ⟨t324, A110, H⟩ := H
      try dsimp only at H
      have A11 := Aside0.mk A110
      clear A110
      have H' := Aside0.mk H
      clear H
      go_wp2_with (first | ((with_reducible refine gate_callee (f := 29) rfl ?_); refine goesL_ (some 19) rfl rfl Try.func29 (by kernel_rfl) rfl #[.int .i64 a1, .int .i64 (-4611686018427387904), .int .i64 4611686018427387904] rfl ga_ ?_; (with_reducible refine (constableref01_In.calls a1 (-4611686018427387904) 4611686018427387904 true _ A9.out).mono ?_); rintro e w' ⟨rfl, ⟨nd, rfl⟩⟩; refine ⟨_, rfl, ?_⟩) | (go_at_call 29; (with_reducible refine (constableref01_In.calls a2 (-4611686018427387904) 4611686018427387904 t324 _ A11.out).mono ?_); rintro e w' ⟨rfl, ⟨nd, rfl⟩⟩))
      go_meet
      case rel => exact ⟨_, (!t324), ra_, H', ⟨by have := HJ3.out; first | omega | exact Nat.le_refl _⟩, be2_ HB⟩
     ·replace c10 := Bool.eq_false_iff.mpr c10
      subst c10
      rw [if_neg (show ¬ (false = true) by decide)] at H
      have H' := Aside0.mk H
      clear H
      go_wp2_with (first | ((with_reducible refine gate_callee (f := 29) rfl ?_); refine goesL_ (some 19) rfl rfl Try.func29 (by kernel_rfl) rfl #[.int .i64 a1, .int .i64 (-4611686018427387904), .int .i64 4611686018427387904] rfl ga_ ?_; (with_reducible refine (constableref01_In.calls a1 (-4611686018427387904) 4611686018427387904 false _ A9.out).mono ?_); rintro e w' ⟨rfl, ⟨nd, rfl⟩⟩; refine ⟨_, rfl, ?_⟩))
      go_meet
      case rel => exact ⟨_, (true), ra_, H', ⟨by have := HJ3.out; first | omega | exact Nat.le_refl _⟩, be2_ HB⟩
    case rest =>
     clear HC8
     try clear c1; try clear c2; try clear p2; try clear c5; try clear c5b0; try clear c5b1; try clear c6; try clear c6b0; try clear c6b1; try clear c7; try clear c10; try clear p2
     obtain ⟨kq, x25_7, rfl, HA, HJ7, HB⟩ := hcut
     cases kq with
     | zero => exact absurd HA.out (by simp [constableref01_Do.j1])
     | succ kj7 =>
      have H := HA.out
      clear HA
      simp only [constableref01_Do.j1] at H
      by_cases c12 : x25_7 = true
      ·subst c12
       rw [if_pos rfl] at H
       simp only [Option.some.injEq, Prod.mk.injEq] at H
       obtain ⟨rfl, rfl⟩ := H
       go_wp2
       go_ret2
       exact ⟨re_, be_ HB⟩
      ·replace c12 := Bool.eq_false_iff.mpr c12
       subst c12
       rw [if_neg (show ¬ (false = true) by decide)] at H
       have HC13 := Aside0.mk H
       clear H
       go_upto_if 27 with (fail)
       go_cut [27] (fun v27 wc => ∃ (kq : Nat) (x27_12 : Bool), v27 = .bool x27_12 ∧ Aside0 (constableref01_Do.j2 kq a0 a1 a2 x27_12 = some (r1, r2)) ∧ Aside0 (kq ≤ kj7) ∧ Aside0 (Below w.heap.size w wc))
       case first =>
        have H := HC13.out
        clear HC13
        by_cases c14 : a0 = 4
        ·rw [if_pos c14] at H
         obtain ⟨c14b0, c14b1⟩ := eqB_ c14
         clear c14
         (first | rw [c14b0] | (simp only [i64_w, i32_w]; rw [c14b0]) | skip)
         have H' := Aside0.mk H
         clear H
         go_wp2
         go_meet
         case rel => exact ⟨_, ((a0 == 4)), ra_, H', ⟨by have := HJ3.out; have := HJ7.out; first | omega | exact Nat.le_refl _⟩, be2_ HB⟩
        ·rw [if_neg c14] at H
         obtain ⟨c14b0, c14b1⟩ := neB_ c14
         (first | rw [c14b0] | (simp only [i64_w, i32_w]; rw [c14b0]) | skip)
         have H' := Aside0.mk H
         clear H
         go_wp2
         go_meet
         case rel => exact ⟨_, ((a0 == 3)), ra_, H', ⟨by have := HJ3.out; have := HJ7.out; first | omega | exact Nat.le_refl _⟩, be2_ HB⟩
       case rest =>
        clear HC13
        try clear c1; try clear c2; try clear p2; try clear c5; try clear c5b0; try clear c5b1; try clear c6; try clear c6b0; try clear c6b1; try clear c7; try clear c10; try clear c12; try clear c14; try clear c14b0; try clear c14b1; try clear p2
        obtain ⟨kq, x27_12, rfl, HA, HJ12, HB⟩ := hcut
        cases kq with
        | zero => exact absurd HA.out (by simp [constableref01_Do.j2])
        | succ kj12 =>
         have H := HA.out
         clear HA
         simp only [constableref01_Do.j2] at H
         by_cases c15 : x27_12 = true
         ·subst c15
          rw [if_pos rfl] at H
          have HC16 := Aside0.mk H
          clear H
          go_upto_if 31 with (fail)
          go_cut [2] (fun v2 wc => ∃ (kq : Nat) (x2_15 : Int), v2 = .int .i64 x2_15 ∧ Aside0 (constableref01_Do.j3 kq a1 x2_15 = some (r1, r2)) ∧ Aside0 (kq ≤ kj12) ∧ Aside0 (Below w.heap.size w wc))
          case first =>
           have H := HC16.out
           clear HC16
           by_cases c17 : a0 = 4
           ·rw [if_pos c17] at H
            obtain ⟨c17b0, c17b1⟩ := eqB_ c17
            clear c17
            (first | rw [c17b0] | (simp only [i64_w, i32_w]; rw [c17b0]) | skip)
            have H' := Aside0.mk H
            clear H
            go_wp2
            go_meet
            case rel => exact ⟨_, (wrap64 (-a2)), ra_, H', ⟨by have := HJ3.out; have := HJ7.out; have := HJ12.out; first | omega | exact Nat.le_refl _⟩, be2_ HB⟩
           ·rw [if_neg c17] at H
            obtain ⟨c17b0, c17b1⟩ := neB_ c17
            (first | rw [c17b0] | (simp only [i64_w, i32_w]; rw [c17b0]) | skip)
            have H' := Aside0.mk H
            clear H
            go_wp2
            go_meet
            case rel => exact ⟨_, (a2), ra_, H', ⟨by have := HJ3.out; have := HJ7.out; have := HJ12.out; first | omega | exact Nat.le_refl _⟩, be2_ HB⟩
          case rest =>
           clear HC16
           try clear c1; try clear c2; try clear p2; try clear c5; try clear c5b0; try clear c5b1; try clear c6; try clear c6b0; try clear c6b1; try clear p6; try clear c7; try clear c10; try clear c12; try clear c14; try clear c14b0; try clear c14b1; try clear c15; try clear c17; try clear c17b0; try clear c17b1; try clear p2
           obtain ⟨kq, x2_15, rfl, HA, HJ15, HB⟩ := hcut
           cases kq with
           | zero => exact absurd HA.out (by simp [constableref01_Do.j3])
           | succ kj15 =>
            have H := HA.out
            clear HA
            simp only [constableref01_Do.j3] at H
            have HC18 := Aside0.mk H
            clear H
            go_upto_region 10 with (fail)
            go_cut [51] (fun v51 wc => ∃ (kq : Nat) (x51_17 : Bool), v51 = .bool x51_17 ∧ Aside0 (constableref01_Do.j4 kq a1 x2_15 x51_17 = some (r1, r2)) ∧ Aside0 (kq ≤ kj15) ∧ Aside0 (Below w.heap.size w wc))
            case first =>
             have H := HC18.out
             clear HC18
             by_cases c19 : x2_15 > 0
             ·rw [if_pos c19] at H
              have c19b0 : decide (0 < x2_15) = true := decide_eq_true c19
              clear c19
              (first | rw [c19b0] | (simp only [i64_w, i32_w]; rw [c19b0]) | skip)
              by_cases c20 : a1 > (wrap64 (4611686018427387904 - x2_15))
              ·rw [if_pos c20] at H
               have c20b0 : decide ((wrap64 (4611686018427387904 - x2_15)) < a1) = true := decide_eq_true c20
               clear c20
               have H' := Aside0.mk H
               clear H
               go_wp2
               go_meet
               case rel => exact ⟨_, (true), ra_, H', ⟨by have := HJ3.out; have := HJ7.out; have := HJ12.out; have := HJ15.out; first | omega | exact Nat.le_refl _⟩, be2_ HB⟩
              ·rw [if_neg c20] at H
               have c20b0 : decide ((wrap64 (4611686018427387904 - x2_15)) < a1) = false := decide_eq_false c20
               clear c20
               by_cases c21 : x2_15 < 0
               ·rw [if_pos c21] at H
                have c21b0 : decide (x2_15 < 0) = true := decide_eq_true c21
                clear c21
                have H' := Aside0.mk H
                clear H
                go_wp2
                go_meet
                case rel => exact ⟨_, (decide (a1 < (wrap64 ((-4611686018427387904) - x2_15)))), ra_, H', ⟨by have := HJ3.out; have := HJ7.out; have := HJ12.out; have := HJ15.out; first | omega | exact Nat.le_refl _⟩, be2_ HB⟩
               ·rw [if_neg c21] at H
                have c21b0 : decide (x2_15 < 0) = false := decide_eq_false c21
                clear c21
                have H' := Aside0.mk H
                clear H
                go_wp2
                go_meet
                case rel => exact ⟨_, (false), ra_, H', ⟨by have := HJ3.out; have := HJ7.out; have := HJ12.out; have := HJ15.out; first | omega | exact Nat.le_refl _⟩, be2_ HB⟩
             ·rw [if_neg c19] at H
              have c19b0 : decide (0 < x2_15) = false := decide_eq_false c19
              clear c19
              (first | rw [c19b0] | (simp only [i64_w, i32_w]; rw [c19b0]) | skip)
              by_cases c22 : x2_15 < 0
              ·rw [if_pos c22] at H
               have c22b0 : decide (x2_15 < 0) = true := decide_eq_true c22
               clear c22
               have H' := Aside0.mk H
               clear H
               go_wp2
               go_meet
               case rel => exact ⟨_, (decide (a1 < (wrap64 ((-4611686018427387904) - x2_15)))), ra_, H', ⟨by have := HJ3.out; have := HJ7.out; have := HJ12.out; have := HJ15.out; first | omega | exact Nat.le_refl _⟩, be2_ HB⟩
              ·rw [if_neg c22] at H
               have c22b0 : decide (x2_15 < 0) = false := decide_eq_false c22
               clear c22
               have H' := Aside0.mk H
               clear H
               go_wp2
               go_meet
               case rel => exact ⟨_, (false), ra_, H', ⟨by have := HJ3.out; have := HJ7.out; have := HJ12.out; have := HJ15.out; first | omega | exact Nat.le_refl _⟩, be2_ HB⟩
            case rest =>
             clear HC18
             try clear c1; try clear c2; try clear p2; try clear c5; try clear c5b0; try clear c5b1; try clear c6; try clear c6b0; try clear c6b1; try clear p6; try clear c7; try clear c10; try clear c12; try clear c14; try clear c14b0; try clear c14b1; try clear c15; try clear c17; try clear c17b0; try clear c17b1; try clear c19; try clear c19b0; try clear c20; try clear c20b0; try clear c21; try clear c21b0; try clear c22; try clear c22b0; try clear p2; try clear p6
             obtain ⟨kq, x51_17, rfl, HA, HJ17, HB⟩ := hcut
             cases kq with
             | zero => exact absurd HA.out (by simp [constableref01_Do.j4])
             | succ kj17 =>
              have H := HA.out
              clear HA
              simp only [constableref01_Do.j4] at H
              by_cases c23 : x51_17 = true
              ·subst c23
               rw [if_pos rfl] at H
               simp only [Option.some.injEq, Prod.mk.injEq] at H
               obtain ⟨rfl, rfl⟩ := H
               go_wp2
               go_ret2
               exact ⟨re_, be_ HB⟩
              ·replace c23 := Bool.eq_false_iff.mpr c23
               subst c23
               rw [if_neg (show ¬ (false = true) by decide)] at H
               simp only [Option.some.injEq, Prod.mk.injEq] at H
               obtain ⟨rfl, rfl⟩ := H
               go_wp2
               go_ret2
               exact ⟨re_, be_ HB⟩
         ·replace c15 := Bool.eq_false_iff.mpr c15
          subst c15
          rw [if_neg (show ¬ (false = true) by decide)] at H
          by_cases c24 : a1 = 0
          ·rw [if_pos c24] at H
           obtain ⟨c24b0, c24b1⟩ := eqB_ c24
           clear c24
           simp only [Option.some.injEq, Prod.mk.injEq] at H
           obtain ⟨rfl, rfl⟩ := H
           go_wp2
           go_ret2
           exact ⟨re_, be_ HB⟩
          ·rw [if_neg c24] at H
           obtain ⟨c24b0, c24b1⟩ := neB_ c24
           by_cases c25 : a2 = 0
           ·rw [if_pos c25] at H
            obtain ⟨c25b0, c25b1⟩ := eqB_ c25
            clear c25
            simp only [Option.some.injEq, Prod.mk.injEq] at H
            obtain ⟨rfl, rfl⟩ := H
            go_wp2
            go_ret2
            exact ⟨re_, be_ HB⟩
           ·rw [if_neg c25] at H
            obtain ⟨c25b0, c25b1⟩ := neB_ c25
            obtain ⟨ji26, hji26⟩ : ∃ j_ : Int, (mx a1 (wrap64 (-a1))) = j_ := ⟨_, rfl⟩
            replace H : (if (mx a2 (wrap64 (-a2))) = 0 then (none) else (if (ji26) > (wrap64 (Int.tdiv (4611686018427387904 : Int) (mx a2 (wrap64 (-a2))))) then (some (0, 4)) else (some (wrap64 (a1 * a2), 0)))) = some (r1, r2) := by first | (rw [hji26] at H; exact H) | (simp only [hji26] at H ⊢; exact H)
            have hji26_ : (if a1 < (wrap64 (-a1)) then (wrap64 (-a1)) else a1) = ji26 := hji26
            obtain ⟨ji27, hji27⟩ : ∃ j_ : Int, (mx a2 (wrap64 (-a2))) = j_ := ⟨_, rfl⟩
            replace H : (if (ji27) = 0 then (none) else (if (ji26) > (wrap64 (Int.tdiv (4611686018427387904 : Int) (ji27))) then (some (0, 4)) else (some (wrap64 (a1 * a2), 0)))) = some (r1, r2) := by first | (rw [hji27] at H; exact H) | (simp only [hji27] at H ⊢; exact H)
            have hji27_ : (if a2 < (wrap64 (-a2)) then (wrap64 (-a2)) else a2) = ji27 := hji27
            by_cases c28 : (ji27) = 0
            ·rw [if_pos c28] at H
             exact absurd H (by simp)
            ·rw [if_neg c28] at H
             obtain ⟨c28b0, c28b1⟩ := neB_ c28
             by_cases c29 : (ji26) > (wrap64 (Int.tdiv (4611686018427387904 : Int) (ji27)))
             ·rw [if_pos c29] at H
              have c29b0 : decide ((wrap64 (Int.tdiv (4611686018427387904 : Int) (ji27))) < (ji26)) = true := decide_eq_true c29
              clear c29
              simp only [Option.some.injEq, Prod.mk.injEq] at H
              obtain ⟨rfl, rfl⟩ := H
              go_wp2
              go_ret2
              exact ⟨by first | rfl | (simp [errW_none, errW_some] <;> rfl) | (simp only [← hji26, ← hji27]; first | rfl | (simp [errW_none, errW_some] <;> rfl)) | (simp [*, errW_none, errW_some] <;> rfl), by repeat (first | (with_reducible first | exact HB.out | apply below_alloc | apply pw_below_drewN | apply below_drew1) | exact HB.out)⟩
             ·rw [if_neg c29] at H
              have c29b0 : decide ((wrap64 (Int.tdiv (4611686018427387904 : Int) (ji27))) < (ji26)) = false := decide_eq_false c29
              clear c29
              simp only [Option.some.injEq, Prod.mk.injEq] at H
              obtain ⟨rfl, rfl⟩ := H
              go_wp2
              go_ret2
              exact ⟨by first | rfl | (simp [errW_none, errW_some] <;> rfl) | (simp only [← hji26, ← hji27]; first | rfl | (simp [errW_none, errW_some] <;> rfl)) | (simp [*, errW_none, errW_some] <;> rfl), by repeat (first | (with_reducible first | exact HB.out | apply below_alloc | apply pw_below_drewN | apply below_drew1) | exact HB.out)⟩
end Go.Proofs.Ytaopajmpifenoaa.P
end
section
namespace Go.Proofs.Ytaopajmpifenoaa.P
open Go.RowKit Go.Proofs.YtaopajmpifenoaaW.PrintWords Go.Proofs.YtaopajmpifenoaaW.PrintLast Go.Proofs.YtaopajmpifenoaaW.PrintMore
attribute [local go_sem] max2_int min2_int max_two min_two max_three min_three max_four min_four
set_option linter.unusedVariables false
set_option linter.unusedSimpArgs false
mutual
def constableref01_Eval.l0 : Nat → List (S67) → List (S54) → List (S23) → Int → Option (Int × Int × ByteArray × Int)
 | 0, _, _, _, _ => none
 | k + 1, x0, x1, x6, x7 => if x7 < (x0.length : Int) then (if 0 ≤ x7 then (if ((rd_T67 x0 x7).f0) = 1 then ((constableref01_Get.f k x1 ((rd_T67 x0 x7).f1)).bind fun bt329 => (if bt329.2.2.2 = true then (if x6.length < 4398046511104 then (constableref01_Eval.l0 k x0 x1 (x6 ++ [(⟨bt329.1, bt329.2.1, bt329.2.2.1⟩ : S23)]) (wrap64 (x7 + 1))) else (none)) else (some (0, 0, (⟨#[]⟩ : ByteArray), 5)))) else (if ((rd_T67 x0 x7).f0) = 2 then (if x6.length < 4398046511104 then (constableref01_Eval.l0 k x0 x1 (x6 ++ [(⟨(rd_T67 x0 x7).f2.f0, (rd_T67 x0 x7).f2.f1, (rd_T67 x0 x7).f2.f2⟩ : S23)]) (wrap64 (x7 + 1))) else (none)) else (if 0 ≤ (wrap64 ((x6.length : Int) - 2)) then (if (wrap64 ((x6.length : Int) - 2)) < (x6.length : Int) then (if 0 ≤ (wrap64 ((x6.length : Int) - 1)) then (if (wrap64 ((x6.length : Int) - 1)) < (x6.length : Int) then (if ((rd_T23 x6 (wrap64 ((x6.length : Int) - 2))).f0) = 1 then (constableref01_Eval.j1 k x0 x1 x6 x7 (((rd_T23 x6 (wrap64 ((x6.length : Int) - 1))).f0) != 1) ((rd_T23 x6 (wrap64 ((x6.length : Int) - 2))).f0) ((rd_T23 x6 (wrap64 ((x6.length : Int) - 2))).f1) ((rd_T23 x6 (wrap64 ((x6.length : Int) - 2))).f2) ((rd_T23 x6 (wrap64 ((x6.length : Int) - 1))).f0) ((rd_T23 x6 (wrap64 ((x6.length : Int) - 1))).f1) ((rd_T23 x6 (wrap64 ((x6.length : Int) - 1))).f2)) else (constableref01_Eval.j1 k x0 x1 x6 x7 true ((rd_T23 x6 (wrap64 ((x6.length : Int) - 2))).f0) ((rd_T23 x6 (wrap64 ((x6.length : Int) - 2))).f1) ((rd_T23 x6 (wrap64 ((x6.length : Int) - 2))).f2) ((rd_T23 x6 (wrap64 ((x6.length : Int) - 1))).f0) ((rd_T23 x6 (wrap64 ((x6.length : Int) - 1))).f1) ((rd_T23 x6 (wrap64 ((x6.length : Int) - 1))).f2))) else (none)) else (none)) else (none)) else (none)))) else (none)) else (if 0 < (x6.length : Int) then (some ((rd_T23 x6 0).f0, (rd_T23 x6 0).f1, (rd_T23 x6 0).f2, 0)) else (none))
def constableref01_Eval.j1 : Nat → List (S67) → List (S54) → List (S23) → Int → Bool → Int → Int → ByteArray → Int → Int → ByteArray → Option (Int × Int × ByteArray × Int)
 | 0, _, _, _, _, _, _, _, _, _, _, _ => none
 | k + 1, x0, x1, x6, x7, x44, x344000, x344001, x344002, x345000, x345001, x345002 => if x44 = true then (some (0, 0, (⟨#[]⟩ : ByteArray), 3)) else (if 0 ≤ x7 then (if x7 < (x0.length : Int) then ((constableref01_Do.f k ((rd_T67 x0 x7).f0) x344001 x345001).bind fun bt346 => (if bt346.2 = 0 then (if 0 ≤ (wrap64 ((x6.length : Int) - 2)) then (if (wrap64 ((x6.length : Int) - 2)) ≤ (x6.length : Int) then ((some (x6.take ((wrap64 ((x6.length : Int) - 2)) : Int).toNat : List (S23))).bind fun y348 => (if y348.length < 4398046511104 then (constableref01_Eval.l0 k x0 x1 (y348 ++ [(⟨1, bt346.1, (⟨#[]⟩ : ByteArray)⟩ : S23)]) (wrap64 (x7 + 1))) else (none))) else (none)) else (none)) else (some (0, 0, (⟨#[]⟩ : ByteArray), bt346.2)))) else (none)) else (none))
end
def constableref01_Eval.f (k : Nat) (l0 : List (S67)) (l1 : List (S54)) : Option (Int × Int × ByteArray × Int) := constableref01_Eval.l0 k l0 l1 ([] : List (S23)) 0
theorem constableref01_Eval.mono_l : ∀ k, (∀ y0 y1 y2 y3, LeO (constableref01_Eval.l0 k y0 y1 y2 y3) (constableref01_Eval.l0 (k + 1) y0 y1 y2 y3)) ∧ (∀ y0 y1 y2 y3 y4 y5 y6 y7 y8 y9 y10, LeO (constableref01_Eval.j1 k y0 y1 y2 y3 y4 y5 y6 y7 y8 y9 y10) (constableref01_Eval.j1 (k + 1) y0 y1 y2 y3 y4 y5 y6 y7 y8 y9 y10))
 | 0 => ⟨fun _ _ _ _ r h => by simp [constableref01_Eval.l0] at h, fun _ _ _ _ _ _ _ _ _ _ _ r h => by simp [constableref01_Eval.j1] at h⟩
 | k + 1 => by
  obtain ⟨ih0, ih1⟩ := constableref01_Eval.mono_l k
  refine ⟨?_, ?_⟩
  ·intro y0 y1 y2 y3
   unfold constableref01_Eval.l0
   repeat' first
   | (with_reducible exact ih0 _ _ _ _)
   | (with_reducible exact ih1 _ _ _ _ _ _ _ _ _ _ _)
   | (with_reducible exact constableref01_Do.mono ..)
   | (with_reducible exact constableref01_Get.mono ..)
   | (with_reducible exact LeO.refl _)
   | (with_reducible exact LeO.none _)
   | (with_reducible refine LeO.ite ?_ ?_)
   | (with_reducible refine LeO.bind ?_ (fun _ => ?_))
   | exact ih0 _ _ _ _
   | exact ih1 _ _ _ _ _ _ _ _ _ _ _
   | exact constableref01_Do.mono ..
   | exact constableref01_Get.mono ..
   | exact LeO.none _
   | refine LeO.ite ?_ ?_
   | refine LeO.bind ?_ (fun _ => ?_)
  ·intro y0 y1 y2 y3 y4 y5 y6 y7 y8 y9 y10
   unfold constableref01_Eval.j1
   repeat' first
   | (with_reducible exact ih0 _ _ _ _)
   | (with_reducible exact ih1 _ _ _ _ _ _ _ _ _ _ _)
   | (with_reducible exact constableref01_Do.mono ..)
   | (with_reducible exact constableref01_Get.mono ..)
   | (with_reducible exact LeO.refl _)
   | (with_reducible exact LeO.none _)
   | (with_reducible refine LeO.ite ?_ ?_)
   | (with_reducible refine LeO.bind ?_ (fun _ => ?_))
   | exact ih0 _ _ _ _
   | exact ih1 _ _ _ _ _ _ _ _ _ _ _
   | exact constableref01_Do.mono ..
   | exact constableref01_Get.mono ..
   | exact LeO.none _
   | refine LeO.ite ?_ ?_
   | refine LeO.bind ?_ (fun _ => ?_)
theorem constableref01_Eval.mono : ∀ a0 a1 k, LeO (constableref01_Eval.f k a0 a1) (constableref01_Eval.f (k + 1) a0 a1) := by
 intro a0 a1 k
 obtain ⟨ih0, ih1⟩ := constableref01_Eval.mono_l k
 unfold constableref01_Eval.f
 repeat' first
   | (with_reducible exact ih0 _ _ _ _)
   | (with_reducible exact ih1 _ _ _ _ _ _ _ _ _ _ _)
   | (with_reducible exact constableref01_Do.mono ..)
   | (with_reducible exact constableref01_Get.mono ..)
   | (with_reducible exact LeO.refl _)
   | (with_reducible exact LeO.none _)
   | (with_reducible refine LeO.ite ?_ ?_)
   | (with_reducible refine LeO.bind ?_ (fun _ => ?_))
   | exact ih0 _ _ _ _
   | exact ih1 _ _ _ _ _ _ _ _ _ _ _
   | exact constableref01_Do.mono ..
   | exact constableref01_Get.mono ..
   | exact LeO.none _
   | refine LeO.ite ?_ ?_
   | refine LeO.bind ?_ (fun _ => ?_)
def constableref01_Eval.T6 : Bool × List (List Nat × List Nat) := (true, [([], []), ([], []), ([1], [1]), ([2], [2]), ([0, 3], [0, 3]), ([4], [4]), ([], []), ([], []), ([7], [7]), ([8], [8]), ([6, 9], [6, 9]), ([10], [10]), ([], []), ([], []), ([12, 5, 0, 1, 2, 3, 4, 5, 12, 13], [5, 12]), ([13, 11, 14, 0, 1, 2, 3, 4, 5, 6, 7, 8, 9, 10, 11, 12, 13, 14], [11, 13])])
def constableref01_Eval.B6 : List Nat := [0, 0, 2, 6, 15, 31, 0, 0, 128, 384, 960, 1984, 0, 0, 12351, 32767]
theorem constableref01_Eval.tab6 : rtab .any (opsOf Try.f36 6) = constableref01_Eval.T6 := by kernel_rfl
theorem constableref01_Eval.bits6 : waitsOk constableref01_Eval.T6.2 constableref01_Eval.B6 = true := by kernel_rfl
def constableref01_Eval.T9 : Bool × List (List Nat × List Nat) := (true, [([], []), ([], []), ([0, 1], [0, 1]), ([2], [2]), ([3], [3]), ([], []), ([5], [5]), ([], []), ([7], [7]), ([4, 6, 8], [4, 6, 8]), ([9], [9]), ([10], [10]), ([10], [10]), ([11, 9, 0, 1, 2, 3, 4, 5, 6, 7, 8, 9, 10, 11], [11]), ([12, 13, 0, 1, 2, 3, 4, 5, 6, 7, 8, 9, 10, 11, 12, 13], [12])])
def constableref01_Eval.B9 : List Nat := [0, 0, 3, 7, 15, 0, 32, 0, 128, 511, 1023, 2047, 2047, 4095, 16383]
theorem constableref01_Eval.tab9 : rtab .any (opsOf Try.f36 9) = constableref01_Eval.T9 := by kernel_rfl
theorem constableref01_Eval.bits9 : waitsOk constableref01_Eval.T9.2 constableref01_Eval.B9 = true := by kernel_rfl
set_option maxHeartbeats 8000000 in
set_option maxRecDepth 100000 in
theorem constableref01_Eval.calls (k : Nat) (A0 : Option Addr) (c0 : Nat) (l0 : List (S67)) (A1 : Option Addr) (c1 : Nat) (l1 : List (S54)) (r1 : Int) (r2 : Int) (r3 : ByteArray) (r4 : Int) (w : World) (hr0 : Kd.C k67 w A0 l0.length l0) (hc0 : l0.length ≤ c0) (hr1 : Kd.C k54 w A1 l1.length l1) (hc1 : l1.length ≤ c1) (h : constableref01_Eval.f k l0 l1 = some (r1, r2, r3, r4)) :
  Calls Try.prog 36 #[.slice A0 l0.length c0, .slice A1 l1.length c1] w fun e w' => e = .returned (.tuple #[.agg #[.int .i64 r1, .int .i64 r2, .string r3], .int .i64 r4]) ∧ Below w.heap.size w w' := by
 have hu23 := Try.underlying23
 have HR0 := Aside0.mk hr0
 have HC0 := Aside0.mk hc0
 clear hr0 hc0
 have HR1 := Aside0.mk hr1
 have HC1 := Aside0.mk hc1
 clear hr1 hc1
 have HB := Aside0.mk (Below.refl w.heap.size w)
 have H : (constableref01_Eval.l0 k l0 l1 ([] : List (S23)) 0) = some (r1, r2, r3, r4) := h
 clear h
 have H' := Aside0.mk H
 clear H
 go_enter Try.func36, Try.ntmps36
 go_wp2_with (first | ((with_reducible refine gate_dst (N := 4) rfl ?_); refine box_event ?hg (N := 4) ?hd (cs := #[.int .i64 0, .int .i64 0, .string (⟨#[]⟩ : ByteArray)]) (t := 23) ?hr ?_; (case hd => rfl); (case hg => rfl); (case hr => first | (go_simp; done) | (go_simp; rfl)); intro gb325 hg w3 hbox hb; have BK325 := Aside0.mk (hbox); have GW325 := gs_ hg (be_ HB); have GE325 := gs_ hg (be_ HB); replace HB := bs_ (be_ HB) hb; clear hb hbox hg))
 go_loopg [6, 7] k (fun kq v6 v7 w' => ∃ (x6_1 : List (S23)) (x7_1 : Int) (x326000_1 : Int) (x326001_1 : Int) (x326002_1 : ByteArray), v7 = .int .i64 x7_1 ∧ Aside0 (constableref01_Eval.l0 kq l0 l1 x6_1 x7_1 = some (r1, r2, r3, r4)) ∧ Aside0 (kq ≤ k) ∧ Aside0 (Kd.R k23 23 w' w.heap.size (fun k_ => k_ ≠ gb325) v6 x6_1) ∧ Aside0 (w'.heap[gb325]? = some (.cells #[.int .i64 x326000_1, .int .i64 x326001_1, .string x326002_1] 23 (0, 0))) ∧ Aside0 (Below w.heap.size w w'))
 case atStart => exact ⟨(([] : List (S23))), (0), (0), (0), ((⟨#[]⟩ : ByteArray)), ra_, H', ⟨Nat.le_refl _⟩, ⟨by first | exact Kd.R_nil _ _ _ _ _ | exact Kd.N_nil _ _ _ _ _ | exact Kd.V_nil _ _ _ _ _ | exact Kd.Q_nil _ _ _ _ _ | exact Kd.S_nil _ _ _ _ _⟩, bu2_ BK325, be2_ HB⟩
 case round =>
  clear H'
  try clear c1; try clear p2; try clear c3
  obtain ⟨x6_1, x7_1, x326000_1, x326001_1, x326002_1, rfl, HA, HK1, HO_6, BK325, HB⟩ := hrel
  cases gk with
  | zero => exact absurd HA.out (by simp [constableref01_Eval.l0])
  | succ k1 =>
   have H := HA.out
   clear HA
   simp only [constableref01_Eval.l0] at H
   by_cases c4 : x7_1 < (l0.length : Int)
   ·rw [if_pos c4] at H
    have c4b0 : decide (x7_1 < (l0.length : Int)) = true := decide_eq_true c4
    clear c4
    by_cases c5 : 0 ≤ x7_1
    ·rw [if_pos c5] at H
     have c5b0 : decide (0 ≤ x7_1) = true := decide_eq_true c5
     clear c5
     by_cases c6 : ((rd_T67 l0 x7_1).f0) = 1
     ·rw [if_pos c6] at H
      obtain ⟨c6b0, c6b1⟩ := eqB_ c6
      clear c6
      replace H := Option.bind_eq_some_iff.mp H
      obtain ⟨⟨t329, t330, t331, t332⟩, A70, H⟩ := H
      try dsimp only at H
      have A7 := Aside0.mk A70
      clear A70
      by_cases c8 : t332 = true
      ·subst c8
       rw [if_pos rfl] at H
       by_cases c9 : x6_1.length < 4398046511104
       ·rw [if_pos c9] at H
        have LMc9 := Aside0.mk c9
        clear c9
        obtain ⟨y334, hy334⟩ : ∃ y_ : List (S23), y_ = (x6_1 ++ [(⟨t329, t330, t331⟩ : S23)]) := ⟨_, rfl⟩
        replace H : (constableref01_Eval.l0 k1 l0 l1 y334 (wrap64 (x7_1 + 1))) = some (r1, r2, r3, r4) := by first | (rw [hy334]; with_reducible exact H) | (have H2_ := (Option.bind_some _ _).symm.trans H; rw [hy334]; with_reducible exact H2_) | (have H2_ := (Option.bind_some _ _).symm.trans H; with_reducible exact H2_) | with_reducible exact H | (rw [hy334]; exact H) | exact H
        have Ny334 := Aside0.mk hy334
        clear hy334
        have H' := Aside0.mk H
        clear H
        have p327 : 0 ≤ (x7_1 : Int) := dt_
        have q327 : x7_1 < (l0.length : Int) := dt_
        obtain ⟨ad327, e327, hx327_0, hx327_1, hx327_2, hx327_3, hx327_4⟩ := at_T67 HR0.out x7_1 p327 q327
        cases e327
        replace hx327_0 := cm_ HB hx327_0
        replace hx327_1 := cm_ HB hx327_1
        replace hx327_2 := cm_ HB hx327_2
        replace hx327_3 := cm_ HB hx327_3
        replace hx327_4 := cm_ HB hx327_4
        replace p327 := eq_true p327
        replace q327 := eq_true q327
        have p328 : 0 ≤ (x7_1 : Int) := dt_
        have q328 : x7_1 < (l0.length : Int) := dt_
        obtain ⟨ad328, e328, hx328_0, hx328_1, hx328_2, hx328_3, hx328_4⟩ := at_T67 HR0.out x7_1 p328 q328
        obtain rfl : ad327 = ad328 := (by injection e328)
        replace hx328_0 := cm_ HB hx328_0
        replace hx328_1 := cm_ HB hx328_1
        replace hx328_2 := cm_ HB hx328_2
        replace hx328_3 := cm_ HB hx328_3
        replace hx328_4 := cm_ HB hx328_4
        replace p328 := eq_true p328
        replace q328 := eq_true q328
        go_wp2_with (first | ((with_reducible refine gate_callee (f := 51) rfl ?_); refine goesL_ (some 81) rfl rfl Try.func51 (by kernel_rfl) rfl #[.slice A1 l1.length c1, .string ((rd_T67 l0 x7_1).f1)] rfl ga_ ?_; (with_reducible refine (constableref01_Get.calls k1 _ _ l1 ((rd_T67 l0 x7_1).f1) t329 t330 t331 true _ ?side1 ?side2 A7.out).mono ?_); (case side1 => exact kd_ ((Kd.C_below HR1.out HB.out))); (case side2 => exact HC1.out); rintro e w10 ⟨rfl, hb⟩; refine ⟨_, rfl, ?_⟩; replace HO_6 := kb_ (ku_ HO_6.out) hb; replace BK325 := bb_ (bu_ BK325) hb; replace HB := bs_ (be_ HB) hb; (try clear hb); (try clear hb2); (try clear hk); (try clear hi)) | ((with_reducible refine gate_dst (N := 8) rfl ?_); refine box_event ?hg (N := 8) ?hd (cs := #[.int .i64 0, .int .i64 0, .string (⟨#[]⟩ : ByteArray)]) (t := 23) ?hr ?_; (case hd => rfl); (case hg => rfl); (case hr => first | (go_simp; done) | (go_simp; rfl)); intro gb333 hg w11 hbox hb; replace HO_6 := Aside0.mk (Kd.R_below (Kd.R_elderB (ku_ HO_6.out) gb333 (Nat.le_of_eq hg.symm)) hb); have BK333 := Aside0.mk (hbox); have GW333 := gs_ hg (be_ HB); have GE333 := gs_ hg (be_ HB); replace HB := bs_ (be_ HB) hb; have NB325_333 := nl_ hg (bu_ BK325); have NB333_325 := ng_ hg (bu_ BK325); replace BK325 := bb_ (bu_ BK325) hb; clear hb hbox hg; have hnb12 := NB333_325.out; have hnc12 := NB325_333.out; have hcz13_0 : w11.cell? ⟨gb333, 0, none⟩ = some (.int .i64 0) := (blk_cell BK333.out 0).trans rfl; have hcz13_1 : w11.cell? ⟨gb333, 1, none⟩ = some (.int .i64 0) := (blk_cell BK333.out 1).trans rfl; have hcz13_2 : w11.cell? ⟨gb333, 2, none⟩ = some (.string (⟨#[]⟩ : ByteArray)) := (blk_cell BK333.out 2).trans rfl; have hfz13_0 := blk_frozen BK333.out 0; have hfz13_1 := blk_frozen BK333.out 1; have hfz13_2 := blk_frozen BK333.out 2) | ((with_reducible refine gate_builtin (b := .append) (xs := #[.tmp 87, .tmp 89]) rfl ?_); at_builtin; refine Kd.R_append k23 (w0 := w) w.heap.size rfl (.tmp 87) (.tmp 89) 69 23 (.agg #[(.int .i64 0), (.int .i64 0), (.string ⟨#[]⟩)]) 32 rfl Try.underlying69 info23 rfl (by decide) (by omega) u6 x6_1 (⟨t329, t330, t331⟩ : S23) [.int .i64 t329, .int .i64 t330, .string t331] (fun k_ => k_ ≠ gb325 ∧ k_ ≠ gb333) (fun _ => False) rfl (by first | (go_simp; done) | (go_simp; rfl)) ?aP (fun _ hk => hk.elim) ?aF ?aO ?aB ?aS ?aL ?_; (case aP => exact k23_mkM _ _ _ (⟨t329, t330, t331⟩ : S23)); (case aB => exact (be_ HB)); (case aF => exact (fun k_ hk => ⟨Kd.freshB (bu_ BK325) k_ hk, Kd.freshB (o := .cells #[.int .i64 t329, .int .i64 t330, .string t331] 23 (0, 0)) (bp_ BK333) k_ hk⟩)); (case aO => exact (by (with_reducible repeat (first | apply Kd.R_alloc | apply Kd.R_drewN | apply Kd.R_drew)); exact Kd.R_mono (Kd.R_far (p := ⟨gb333, 2, none⟩) (Kd.R_far (p := ⟨gb333, 1, none⟩) (Kd.R_far (p := ⟨gb333, 0, none⟩) (Kd.R_mono HO_6.out (fun k_ hk => (⟨hk, hk.2⟩ : _ ∧ k_ ≠ gb333))) (fun _ hk => hk.2) (.int .i64 t329)) (fun _ hk => hk.2) (.int .i64 t330)) (fun _ hk => hk.2) (.string t331)) (fun _ hk => ⟨hk.1.1, hk.1.2⟩))); (case aS => exact (below_size (be_ HB))); (case aL => have := LMc9.out; omega); intro v335 w14 ho hb hg hat; rw [← Ny334.out] at ho; have n0_ := Aside0.mk (blk_grown (bu_ BK325) hg (Kd.R_away HO_6.out (fun _ hk => hk.1))); have n1_ := Aside0.mk (blk_grown (o := .cells #[.int .i64 t329, .int .i64 t330, .string t331] 23 (0, 0)) (bp_ BK333) hg (Kd.R_away HO_6.out (fun _ hk => hk.2))); have n2_ := Aside0.mk (hb); have n3_ := Aside0.mk (ho); clear BK325; clear BK333; clear HB; clear HO_6; have BK325 := n0_; have BK333 := n1_; have HB := n2_; have HO336 := n3_; clear n0_ n1_ n2_ n3_; (try clear hcz13_0 hcz13_1 hcz13_2 hfz13_0 hfz13_1 hfz13_2); clear ho hb hg hat))
        go_roundg k1
        case measure => have := HK1.out; omega
        case rel => exact ⟨(y334), (wrap64 (x7_1 + 1)), (x326000_1), (x326001_1), (x326002_1), ra_, H', ⟨by have := HK1.out; omega⟩, mR_ (Kd.R_mono HO336.out (fun _ hk => hk.1)), bu2_ BK325, be2_ HB⟩
       ·rw [if_neg c9] at H
        exact absurd H (by simp)
      ·replace c8 := Bool.eq_false_iff.mpr c8
       subst c8
       rw [if_neg (show ¬ (false = true) by decide)] at H
       simp only [Option.some.injEq, Prod.mk.injEq] at H
       obtain ⟨rfl, rfl, rfl, rfl⟩ := H
       have p327 : 0 ≤ (x7_1 : Int) := dt_
       have q327 : x7_1 < (l0.length : Int) := dt_
       obtain ⟨ad327, e327, hx327_0, hx327_1, hx327_2, hx327_3, hx327_4⟩ := at_T67 HR0.out x7_1 p327 q327
       cases e327
       replace hx327_0 := cm_ HB hx327_0
       replace hx327_1 := cm_ HB hx327_1
       replace hx327_2 := cm_ HB hx327_2
       replace hx327_3 := cm_ HB hx327_3
       replace hx327_4 := cm_ HB hx327_4
       replace p327 := eq_true p327
       replace q327 := eq_true q327
       have p328 : 0 ≤ (x7_1 : Int) := dt_
       have q328 : x7_1 < (l0.length : Int) := dt_
       obtain ⟨ad328, e328, hx328_0, hx328_1, hx328_2, hx328_3, hx328_4⟩ := at_T67 HR0.out x7_1 p328 q328
       obtain rfl : ad327 = ad328 := (by injection e328)
       replace hx328_0 := cm_ HB hx328_0
       replace hx328_1 := cm_ HB hx328_1
       replace hx328_2 := cm_ HB hx328_2
       replace hx328_3 := cm_ HB hx328_3
       replace hx328_4 := cm_ HB hx328_4
       replace p328 := eq_true p328
       replace q328 := eq_true q328
       go_wp2_with (first | ((with_reducible refine gate_callee (f := 51) rfl ?_); refine goesL_ (some 81) rfl rfl Try.func51 (by kernel_rfl) rfl #[.slice A1 l1.length c1, .string ((rd_T67 l0 x7_1).f1)] rfl ga_ ?_; (with_reducible refine (constableref01_Get.calls k1 _ _ l1 ((rd_T67 l0 x7_1).f1) t329 t330 t331 false _ ?side1 ?side2 A7.out).mono ?_); (case side1 => exact kd_ ((Kd.C_below HR1.out HB.out))); (case side2 => exact HC1.out); rintro e w15 ⟨rfl, hb⟩; refine ⟨_, rfl, ?_⟩; replace HO_6 := kb_ (ku_ HO_6.out) hb; replace BK325 := bb_ (bu_ BK325) hb; replace HB := bs_ (be_ HB) hb; (try clear hb); (try clear hb2); (try clear hk); (try clear hi)) | ((with_reducible refine gate_dst (N := 8) rfl ?_); refine box_event ?hg (N := 8) ?hd (cs := #[.int .i64 0, .int .i64 0, .string (⟨#[]⟩ : ByteArray)]) (t := 23) ?hr ?_; (case hd => rfl); (case hg => rfl); (case hr => first | (go_simp; done) | (go_simp; rfl)); intro gb333 hg w16 hbox hb; replace HO_6 := Aside0.mk (Kd.R_below (Kd.R_elderB (ku_ HO_6.out) gb333 (Nat.le_of_eq hg.symm)) hb); have BK333 := Aside0.mk (hbox); have GW333 := gs_ hg (be_ HB); have GE333 := gs_ hg (be_ HB); replace HB := bs_ (be_ HB) hb; have NB325_333 := nl_ hg (bu_ BK325); have NB333_325 := ng_ hg (bu_ BK325); replace BK325 := bb_ (bu_ BK325) hb; clear hb hbox hg; have hnb17 := NB333_325.out; have hnc17 := NB325_333.out; have hcz18_0 : w16.cell? ⟨gb333, 0, none⟩ = some (.int .i64 0) := (blk_cell BK333.out 0).trans rfl; have hcz18_1 : w16.cell? ⟨gb333, 1, none⟩ = some (.int .i64 0) := (blk_cell BK333.out 1).trans rfl; have hcz18_2 : w16.cell? ⟨gb333, 2, none⟩ = some (.string (⟨#[]⟩ : ByteArray)) := (blk_cell BK333.out 2).trans rfl; have hfz18_0 := blk_frozen BK333.out 0; have hfz18_1 := blk_frozen BK333.out 1; have hfz18_2 := blk_frozen BK333.out 2; have hcz19_0 : w16.cell? ⟨gb325, 0, none⟩ = some (.int .i64 x326000_1) := (blk_cell BK325.out 0).trans rfl; have hcz19_1 : w16.cell? ⟨gb325, 1, none⟩ = some (.int .i64 x326001_1) := (blk_cell BK325.out 1).trans rfl; have hcz19_2 : w16.cell? ⟨gb325, 2, none⟩ = some (.string x326002_1) := (blk_cell BK325.out 2).trans rfl; have hfz19_0 := blk_frozen BK325.out 0; have hfz19_1 := blk_frozen BK325.out 1; have hfz19_2 := blk_frozen BK325.out 2))
       refine bodyPost_ret (results_ct rfl _ _ gb325 23 #[.int .i64 0, .int .i64 0, .string (⟨#[]⟩ : ByteArray)] (0, 0) _ rfl (bp_ BK325) Try.underlying23 rfl (by kernel_rfl)) rfl ?_
       exact ⟨re_, be_ HB⟩
     ·rw [if_neg c6] at H
      obtain ⟨c6b0, c6b1⟩ := neB_ c6
      by_cases c20 : ((rd_T67 l0 x7_1).f0) = 2
      ·rw [if_pos c20] at H
       obtain ⟨c20b0, c20b1⟩ := eqB_ c20
       clear c20
       by_cases c21 : x6_1.length < 4398046511104
       ·rw [if_pos c21] at H
        have LMc21 := Aside0.mk c21
        clear c21
        obtain ⟨y338, hy338⟩ : ∃ y_ : List (S23), y_ = (x6_1 ++ [(⟨(rd_T67 l0 x7_1).f2.f0, (rd_T67 l0 x7_1).f2.f1, (rd_T67 l0 x7_1).f2.f2⟩ : S23)]) := ⟨_, rfl⟩
        replace H : (constableref01_Eval.l0 k1 l0 l1 y338 (wrap64 (x7_1 + 1))) = some (r1, r2, r3, r4) := by first | (rw [hy338]; with_reducible exact H) | (have H2_ := (Option.bind_some _ _).symm.trans H; rw [hy338]; with_reducible exact H2_) | (have H2_ := (Option.bind_some _ _).symm.trans H; with_reducible exact H2_) | with_reducible exact H | (rw [hy338]; exact H) | exact H
        have Ny338 := Aside0.mk hy338
        clear hy338
        have H' := Aside0.mk H
        clear H
        have p327 : 0 ≤ (x7_1 : Int) := dt_
        have q327 : x7_1 < (l0.length : Int) := dt_
        obtain ⟨ad327, e327, hx327_0, hx327_1, hx327_2, hx327_3, hx327_4⟩ := at_T67 HR0.out x7_1 p327 q327
        cases e327
        replace hx327_0 := cm_ HB hx327_0
        replace hx327_1 := cm_ HB hx327_1
        replace hx327_2 := cm_ HB hx327_2
        replace hx327_3 := cm_ HB hx327_3
        replace hx327_4 := cm_ HB hx327_4
        replace p327 := eq_true p327
        replace q327 := eq_true q327
        have p337 : 0 ≤ (x7_1 : Int) := dt_
        have q337 : x7_1 < (l0.length : Int) := dt_
        obtain ⟨ad337, e337, hx337_0, hx337_1, hx337_2, hx337_3, hx337_4⟩ := at_T67 HR0.out x7_1 p337 q337
        obtain rfl : ad327 = ad337 := (by injection e337)
        replace hx337_0 := cm_ HB hx337_0
        replace hx337_1 := cm_ HB hx337_1
        replace hx337_2 := cm_ HB hx337_2
        replace hx337_3 := cm_ HB hx337_3
        replace hx337_4 := cm_ HB hx337_4
        replace p337 := eq_true p337
        replace q337 := eq_true q337
        go_wp2_with (first | ((with_reducible refine gate_builtin (b := .append) (xs := #[.tmp 93, .tmp 99]) rfl ?_); at_builtin; refine Kd.R_append k23 (w0 := w) w.heap.size rfl (.tmp 93) (.tmp 99) 69 23 (.agg #[(.int .i64 0), (.int .i64 0), (.string ⟨#[]⟩)]) 32 rfl Try.underlying69 info23 rfl (by decide) (by omega) u6 x6_1 (⟨(rd_T67 l0 x7_1).f2.f0, (rd_T67 l0 x7_1).f2.f1, (rd_T67 l0 x7_1).f2.f2⟩ : S23) [.int .i64 ((rd_T67 l0 x7_1).f2.f0), .int .i64 ((rd_T67 l0 x7_1).f2.f1), .string ((rd_T67 l0 x7_1).f2.f2)] (fun k_ => k_ ≠ gb325) (fun _ => False) rfl rfl ?aP (fun _ hk => hk.elim) ?aF ?aO ?aB ?aS ?aL ?_; (case aP => exact k23_mkM _ _ _ (⟨(rd_T67 l0 x7_1).f2.f0, (rd_T67 l0 x7_1).f2.f1, (rd_T67 l0 x7_1).f2.f2⟩ : S23)); (case aB => exact (be_ HB)); (case aF => exact (fun k_ hk => Kd.freshB (bu_ BK325) k_ hk)); (case aO => exact (ku_ HO_6.out)); (case aS => exact (below_size (be_ HB))); (case aL => have := LMc21.out; omega); intro v339 w22 ho hb hg hat; rw [← Ny338.out] at ho; have n0_ := Aside0.mk (blk_grown (bu_ BK325) hg (Kd.R_away HO_6.out (fun _ hk => hk))); have n1_ := Aside0.mk (hb); have n2_ := Aside0.mk (ho); clear BK325; clear HB; clear HO_6; have BK325 := n0_; have HB := n1_; have HO340 := n2_; clear n0_ n1_ n2_; clear ho hb hg hat))
        go_roundg k1
        case measure => have := HK1.out; omega
        case rel => exact ⟨(y338), (wrap64 (x7_1 + 1)), (x326000_1), (x326001_1), (x326002_1), ra_, H', ⟨by have := HK1.out; omega⟩, mR_ (HO340.out), bu2_ BK325, be2_ HB⟩
       ·rw [if_neg c21] at H
        exact absurd H (by simp)
      ·rw [if_neg c20] at H
       obtain ⟨c20b0, c20b1⟩ := neB_ c20
       obtain ⟨ji23, hji23⟩ : ∃ j_ : Int, (wrap64 ((x6_1.length : Int) - 2)) = j_ := ⟨_, rfl⟩
       replace H : (if 0 ≤ (ji23) then (if (ji23) < (x6_1.length : Int) then (if 0 ≤ (wrap64 ((x6_1.length : Int) - 1)) then (if (wrap64 ((x6_1.length : Int) - 1)) < (x6_1.length : Int) then (if ((rd_T23 x6_1 (ji23)).f0) = 1 then (constableref01_Eval.j1 k1 l0 l1 x6_1 x7_1 (((rd_T23 x6_1 (wrap64 ((x6_1.length : Int) - 1))).f0) != 1) ((rd_T23 x6_1 (ji23)).f0) ((rd_T23 x6_1 (ji23)).f1) ((rd_T23 x6_1 (ji23)).f2) ((rd_T23 x6_1 (wrap64 ((x6_1.length : Int) - 1))).f0) ((rd_T23 x6_1 (wrap64 ((x6_1.length : Int) - 1))).f1) ((rd_T23 x6_1 (wrap64 ((x6_1.length : Int) - 1))).f2)) else (constableref01_Eval.j1 k1 l0 l1 x6_1 x7_1 true ((rd_T23 x6_1 (ji23)).f0) ((rd_T23 x6_1 (ji23)).f1) ((rd_T23 x6_1 (ji23)).f2) ((rd_T23 x6_1 (wrap64 ((x6_1.length : Int) - 1))).f0) ((rd_T23 x6_1 (wrap64 ((x6_1.length : Int) - 1))).f1) ((rd_T23 x6_1 (wrap64 ((x6_1.length : Int) - 1))).f2))) else (none)) else (none)) else (none)) else (none)) = some (r1, r2, r3, r4) := by first | (rw [hji23] at H; exact H) | (simp only [hji23] at H ⊢; exact H)
       have hji23w : (IntKind.i64.wrap ((x6_1.length : Int) - 2)) = ji23 := (i64_w _).trans hji23
       by_cases c24 : 0 ≤ (ji23)
       ·rw [if_pos c24] at H
        have c24b0 : decide (0 ≤ (ji23)) = true := decide_eq_true c24
        clear c24
        by_cases c25 : (ji23) < (x6_1.length : Int)
        ·rw [if_pos c25] at H
         have c25b0 : decide ((ji23) < (x6_1.length : Int)) = true := decide_eq_true c25
         clear c25
         obtain ⟨ji26, hji26⟩ : ∃ j_ : Int, (wrap64 ((x6_1.length : Int) - 1)) = j_ := ⟨_, rfl⟩
         replace H : (if 0 ≤ (ji26) then (if (ji26) < (x6_1.length : Int) then (if ((rd_T23 x6_1 (ji23)).f0) = 1 then (constableref01_Eval.j1 k1 l0 l1 x6_1 x7_1 (((rd_T23 x6_1 (ji26)).f0) != 1) ((rd_T23 x6_1 (ji23)).f0) ((rd_T23 x6_1 (ji23)).f1) ((rd_T23 x6_1 (ji23)).f2) ((rd_T23 x6_1 (ji26)).f0) ((rd_T23 x6_1 (ji26)).f1) ((rd_T23 x6_1 (ji26)).f2)) else (constableref01_Eval.j1 k1 l0 l1 x6_1 x7_1 true ((rd_T23 x6_1 (ji23)).f0) ((rd_T23 x6_1 (ji23)).f1) ((rd_T23 x6_1 (ji23)).f2) ((rd_T23 x6_1 (ji26)).f0) ((rd_T23 x6_1 (ji26)).f1) ((rd_T23 x6_1 (ji26)).f2))) else (none)) else (none)) = some (r1, r2, r3, r4) := by first | (rw [hji26] at H; exact H) | (simp only [hji26] at H ⊢; exact H)
         have hji26w : (IntKind.i64.wrap ((x6_1.length : Int) - 1)) = ji26 := (i64_w _).trans hji26
         by_cases c27 : 0 ≤ (ji26)
         ·rw [if_pos c27] at H
          have c27b0 : decide (0 ≤ (ji26)) = true := decide_eq_true c27
          clear c27
          by_cases c28 : (ji26) < (x6_1.length : Int)
          ·rw [if_pos c28] at H
           have c28b0 : decide ((ji26) < (x6_1.length : Int)) = true := decide_eq_true c28
           clear c28
           have HC29 := Aside0.mk H
           clear H
           have p327 : 0 ≤ (x7_1 : Int) := dt_
           have q327 : x7_1 < (l0.length : Int) := dt_
           obtain ⟨ad327, e327, hx327_0, hx327_1, hx327_2, hx327_3, hx327_4⟩ := at_T67 HR0.out x7_1 p327 q327
           cases e327
           replace hx327_0 := cm_ HB hx327_0
           replace hx327_1 := cm_ HB hx327_1
           replace hx327_2 := cm_ HB hx327_2
           replace hx327_3 := cm_ HB hx327_3
           replace hx327_4 := cm_ HB hx327_4
           replace p327 := eq_true p327
           replace q327 := eq_true q327
           try go_wp2
           have n0_ := Aside0.mk (Kd.R_drew HO_6.out)
           have n1_ := Aside0.mk (blk_drew BK325.out)
           have n2_ := Aside0.mk (below_drew1 HB.out)
           clear HO_6
           clear BK325
           clear HB
           have HO_6 := n0_
           have BK325 := n1_
           have HB := n2_
           clear n0_ n1_ n2_
           obtain ⟨Ao31, co31, eo31⟩ := Kd.R_slice HO_6.out
           (first | subst eo31 | (injection eo31 with f1_ f2_ f3_; have f4_ := f1_.symm; have f5_ := f3_.symm; clear f1_ f2_ f3_; subst f4_; subst f5_))
           have p341 : 0 ≤ ((ji23) : Int) := dt_
           have q341 : (ji23) < (x6_1.length : Int) := dt_
           obtain ⟨ad341, e341, hx341_0, hx341_1, hx341_2⟩ := at_T23 (Kd.R_reads' HO_6.out).2.2 (ji23) p341 q341
           cases e341
           replace p341 := eq_true p341
           replace q341 := eq_true q341
           have p342 : 0 ≤ ((ji26) : Int) := dt_
           have q342 : (ji26) < (x6_1.length : Int) := dt_
           obtain ⟨ad342, e342, hx342_0, hx342_1, hx342_2⟩ := at_T23 (Kd.R_reads' HO_6.out).2.2 (ji26) p342 q342
           obtain rfl : ad341 = ad342 := (by injection e342)
           replace p342 := eq_true p342
           replace q342 := eq_true q342
           refine start_ (n := 16) (S := fun w' => w'.cell? (ad341.add (((ji23)).toNat * 3)) = some (.int .i64 ((rd_T23 x6_1 (ji23)).f0)) ∧ w'.cell? ⟨(ad341.add (((ji23)).toNat * 3)).block, (ad341.add (((ji23)).toNat * 3)).off + 1, none⟩ = some (.int .i64 ((rd_T23 x6_1 (ji23)).f1)) ∧ w'.cell? ⟨(ad341.add (((ji23)).toNat * 3)).block, (ad341.add (((ji23)).toNat * 3)).off + 2, none⟩ = some (.string ((rd_T23 x6_1 (ji23)).f2)) ∧ w'.cell? (ad341.add (((ji26)).toNat * 3)) = some (.int .i64 ((rd_T23 x6_1 (ji26)).f0)) ∧ w'.cell? ⟨(ad341.add (((ji26)).toNat * 3)).block, (ad341.add (((ji26)).toNat * 3)).off + 1, none⟩ = some (.int .i64 ((rd_T23 x6_1 (ji26)).f1)) ∧ w'.cell? ⟨(ad341.add (((ji26)).toNat * 3)).block, (ad341.add (((ji26)).toNat * 3)).off + 2, none⟩ = some (.string ((rd_T23 x6_1 (ji26)).f2))) (ds := []) (mk_ 16 0) (by kernel_rfl) rfl rfl ⟨hx341_0, hx341_1, hx341_2, hx342_0, hx342_1, hx342_2⟩ (fun hHeld => ?_); refine with_tabW constableref01_Eval.tab6 constableref01_Eval.bits6 (fun HT_ HW_ => ?_)
           generalize wr.drew = w30 at HO_6 BK325 HB hx341_0 hx341_1 hx341_2 hx342_0 hx342_1 hx342_2 hHeld ⊢
           refine pu_ 0 25 1 HT_ ?_; refine pu_ 1 26 3 HT_ ?_; refine pu_ 2 27 7 HT_ ?_; refine pu_ 3 28 15 HT_ ?_; refine pu_ 4 29 31 HT_ ?_; refine pu_ 6 31 95 HT_ ?_; refine pu_ 7 32 223 HT_ ?_; refine pu_ 8 33 479 HT_ ?_; refine pu_ 9 34 991 HT_ ?_; refine pu_ 10 35 2015 HT_ ?_; refine tk_ 5 30 2047 HT_ HW_ hHeld ?_; refine tk_ 11 36 4095 HT_ HW_ hHeld ?_
           refine join_ (σ := Nat × Nat) 2 #[true, true, true, true, true, true, true, true, true, true, true, true, true, true, false, false] (fun s_ => [(10, .pointer (some ⟨s_.1, 0, none⟩)), (11, .pointer (some ⟨s_.2, 0, none⟩))]) (fun s_ w' => (w'.cell? (ad341.add (((ji23)).toNat * 3)) = some (.int .i64 ((rd_T23 x6_1 (ji23)).f0)) ∧ w'.cell? ⟨(ad341.add (((ji23)).toNat * 3)).block, (ad341.add (((ji23)).toNat * 3)).off + 1, none⟩ = some (.int .i64 ((rd_T23 x6_1 (ji23)).f1)) ∧ w'.cell? ⟨(ad341.add (((ji23)).toNat * 3)).block, (ad341.add (((ji23)).toNat * 3)).off + 2, none⟩ = some (.string ((rd_T23 x6_1 (ji23)).f2)) ∧ w'.cell? (ad341.add (((ji26)).toNat * 3)) = some (.int .i64 ((rd_T23 x6_1 (ji26)).f0)) ∧ w'.cell? ⟨(ad341.add (((ji26)).toNat * 3)).block, (ad341.add (((ji26)).toNat * 3)).off + 1, none⟩ = some (.int .i64 ((rd_T23 x6_1 (ji26)).f1)) ∧ w'.cell? ⟨(ad341.add (((ji26)).toNat * 3)).block, (ad341.add (((ji26)).toNat * 3)).off + 2, none⟩ = some (.string ((rd_T23 x6_1 (ji26)).f2))) ∧ (Kd.R k23 23 w' w.heap.size (fun k_ => k_ ≠ gb325 ∧ k_ ≠ s_.1 ∧ k_ ≠ s_.2) (.slice (some ad341) x6_1.length co31) x6_1) ∧ (w'.heap[gb325]? = some (.cells #[.int .i64 x326000_1, .int .i64 x326001_1, .string x326002_1] 23 (0, 0))) ∧ (w'.heap[s_.1]? = some (.cells #[.int .i64 0, .int .i64 0, .string (⟨#[]⟩ : ByteArray)] 23 (0, 0))) ∧ (w'.heap[s_.2]? = some (.cells #[.int .i64 0, .int .i64 0, .string (⟨#[]⟩ : ByteArray)] 23 (0, 0))) ∧ (w.heap.size ≤ s_.1) ∧ (w.heap.size ≤ s_.1) ∧ (gb325 ≠ s_.1) ∧ (s_.1 ≠ gb325) ∧ (s_.2 ≠ s_.1) ∧ (s_.1 ≠ s_.2) ∧ (w.heap.size ≤ s_.2) ∧ (w.heap.size ≤ s_.2) ∧ (gb325 ≠ s_.2) ∧ (s_.2 ≠ gb325) ∧ (Below w.heap.size w w')) ?_ ?_
           rotate_left
           ·intro hCont
            refine two_ (i := 12) (j := 13) (Ni := some 10) (Nj := some 11) (mk_ 16 8191) (mk_ 16 12287) rfl rfl rfl rfl (two_of HT_.out (by kernel_rfl)) (by decide) (by decide) (fun K hK => ?_) (fun K hK => ?_)
            ·skip
             refine box_step ?hg (N := 10) ?hd (cs := #[.int .i64 0, .int .i64 0, .string (⟨#[]⟩ : ByteArray)]) (t := 23) ?hr ?_; (case hd => rfl); (case hg => rfl); (case hr => first | (go_simp; done) | (go_simp; rfl))
             intro gb343 hg w32 hbox hb
             have HS0_ := (hb.cell (World.block_lt_of_cell? _ _ (hHeld.1))).trans (hHeld.1)
             have HS1_ := (hb.cell (World.block_lt_of_cell? _ _ (hHeld.2.1))).trans (hHeld.2.1)
             have HS2_ := (hb.cell (World.block_lt_of_cell? _ _ (hHeld.2.2.1))).trans (hHeld.2.2.1)
             have HS3_ := (hb.cell (World.block_lt_of_cell? _ _ (hHeld.2.2.2.1))).trans (hHeld.2.2.2.1)
             have HS4_ := (hb.cell (World.block_lt_of_cell? _ _ (hHeld.2.2.2.2.1))).trans (hHeld.2.2.2.2.1)
             have HS5_ := (hb.cell (World.block_lt_of_cell? _ _ (hHeld.2.2.2.2.2))).trans (hHeld.2.2.2.2.2)
             have n0_ := Aside0.mk (Kd.R_below (Kd.R_elderB (ku_ HO_6.out) gb343 (Nat.le_of_eq hg.symm)) hb)
             have n1_ := bb_ (bu_ BK325) hb
             have n2_ := bs_ (be_ HB) hb
             have n3_ := Aside0.mk (hbox)
             have n4_ := gs_ hg (be_ HB)
             have n5_ := gs_ hg (be_ HB)
             have n6_ := nl_ hg (bu_ BK325)
             have n7_ := ng_ hg (bu_ BK325)
             clear HO_6
             clear BK325
             clear HB
             have HO_6 := n0_
             have BK325 := n1_
             have HB := n2_
             have BK343 := n3_
             have GW343 := n4_
             have GE343 := n5_
             have NB325_343 := n6_
             have NB343_325 := n7_
             clear n0_ n1_ n2_ n3_ n4_ n5_ n6_ n7_
             clear hb hbox hg
             refine hK.out _ _ ⟨HS0_, HS1_, HS2_, HS3_, HS4_, HS5_⟩ (fun hHeld => ?_)
             clear hK K
             refine nm_ 10 ?_
             refine one_ (i := 13) (N := some 11) (mk_ 16 16383) rfl rfl (one_of HT_.out (by kernel_rfl)) (by decide) (fun K hK => ?_)
             refine box_step ?hg (N := 11) ?hd (cs := #[.int .i64 0, .int .i64 0, .string (⟨#[]⟩ : ByteArray)]) (t := 23) ?hr ?_; (case hd => rfl); (case hg => rfl); (case hr => first | (go_simp; done) | (go_simp; rfl))
             intro gb344 hg w33 hbox hb
             have HS0_ := (hb.cell (World.block_lt_of_cell? _ _ (hHeld.1))).trans (hHeld.1)
             have HS1_ := (hb.cell (World.block_lt_of_cell? _ _ (hHeld.2.1))).trans (hHeld.2.1)
             have HS2_ := (hb.cell (World.block_lt_of_cell? _ _ (hHeld.2.2.1))).trans (hHeld.2.2.1)
             have HS3_ := (hb.cell (World.block_lt_of_cell? _ _ (hHeld.2.2.2.1))).trans (hHeld.2.2.2.1)
             have HS4_ := (hb.cell (World.block_lt_of_cell? _ _ (hHeld.2.2.2.2.1))).trans (hHeld.2.2.2.2.1)
             have HS5_ := (hb.cell (World.block_lt_of_cell? _ _ (hHeld.2.2.2.2.2))).trans (hHeld.2.2.2.2.2)
             have n0_ := Aside0.mk (Kd.R_below (Kd.R_elderB (ku_ HO_6.out) gb344 (Nat.le_of_eq hg.symm)) hb)
             have n1_ := bb_ (bu_ BK325) hb
             have n2_ := bb_ (bu_ BK343) hb
             have n3_ := bs_ (be_ HB) hb
             have n4_ := Aside0.mk (hbox)
             have n5_ := gs_ hg (be_ HB)
             have n6_ := gs_ hg (be_ HB)
             have n7_ := nl_ hg (bu_ BK325)
             have n8_ := ng_ hg (bu_ BK325)
             have n9_ := nl_ hg (bu_ BK343)
             have n10_ := ng_ hg (bu_ BK343)
             clear HO_6
             clear BK325
             clear BK343
             clear HB
             have HO_6 := n0_
             have BK325 := n1_
             have BK343 := n2_
             have HB := n3_
             have BK344 := n4_
             have GW344 := n5_
             have GE344 := n6_
             have NB325_344 := n7_
             have NB344_325 := n8_
             have NB343_344 := n9_
             have NB344_343 := n10_
             clear n0_ n1_ n2_ n3_ n4_ n5_ n6_ n7_ n8_ n9_ n10_
             clear hb hbox hg
             refine hK.out _ _ ⟨HS0_, HS1_, HS2_, HS3_, HS4_, HS5_⟩ (fun hHeld => ?_)
             clear hK K
             refine nm_ 11 ?_
             exact norm_ (by simp only [putAll, Act.put, List.setIfInBounds_toArray, List.set_cons_zero, List.set_cons_succ]) (hCont (gb343, gb344) _ ⟨hHeld, (by (with_reducible repeat (first | apply Kd.R_alloc | apply Kd.R_drewN | apply Kd.R_drew)); exact Kd.R_mono HO_6.out (fun _ hk => ⟨hk.1.1, ⟨hk.1.2, hk.2⟩⟩)), (bu_ BK325), (bu_ BK343), (bu_ BK344), GW343.out, GE343.out, NB325_343.out, NB343_325.out, NB344_343.out, NB343_344.out, GW344.out, GE344.out, NB325_344.out, NB344_325.out, (be_ HB)⟩)
            ·skip
             refine box_step ?hg (N := 11) ?hd (cs := #[.int .i64 0, .int .i64 0, .string (⟨#[]⟩ : ByteArray)]) (t := 23) ?hr ?_; (case hd => rfl); (case hg => rfl); (case hr => first | (go_simp; done) | (go_simp; rfl))
             intro gb344 hg w32 hbox hb
             have HS0_ := (hb.cell (World.block_lt_of_cell? _ _ (hHeld.1))).trans (hHeld.1)
             have HS1_ := (hb.cell (World.block_lt_of_cell? _ _ (hHeld.2.1))).trans (hHeld.2.1)
             have HS2_ := (hb.cell (World.block_lt_of_cell? _ _ (hHeld.2.2.1))).trans (hHeld.2.2.1)
             have HS3_ := (hb.cell (World.block_lt_of_cell? _ _ (hHeld.2.2.2.1))).trans (hHeld.2.2.2.1)
             have HS4_ := (hb.cell (World.block_lt_of_cell? _ _ (hHeld.2.2.2.2.1))).trans (hHeld.2.2.2.2.1)
             have HS5_ := (hb.cell (World.block_lt_of_cell? _ _ (hHeld.2.2.2.2.2))).trans (hHeld.2.2.2.2.2)
             have n0_ := Aside0.mk (Kd.R_below (Kd.R_elderB (ku_ HO_6.out) gb344 (Nat.le_of_eq hg.symm)) hb)
             have n1_ := bb_ (bu_ BK325) hb
             have n2_ := bs_ (be_ HB) hb
             have n3_ := Aside0.mk (hbox)
             have n4_ := gs_ hg (be_ HB)
             have n5_ := gs_ hg (be_ HB)
             have n6_ := nl_ hg (bu_ BK325)
             have n7_ := ng_ hg (bu_ BK325)
             clear HO_6
             clear BK325
             clear HB
             have HO_6 := n0_
             have BK325 := n1_
             have HB := n2_
             have BK344 := n3_
             have GW344 := n4_
             have GE344 := n5_
             have NB325_344 := n6_
             have NB344_325 := n7_
             clear n0_ n1_ n2_ n3_ n4_ n5_ n6_ n7_
             clear hb hbox hg
             refine hK.out _ _ ⟨HS0_, HS1_, HS2_, HS3_, HS4_, HS5_⟩ (fun hHeld => ?_)
             clear hK K
             refine nm_ 11 ?_
             refine one_ (i := 12) (N := some 10) (mk_ 16 16383) rfl rfl (one_of HT_.out (by kernel_rfl)) (by decide) (fun K hK => ?_)
             refine box_step ?hg (N := 10) ?hd (cs := #[.int .i64 0, .int .i64 0, .string (⟨#[]⟩ : ByteArray)]) (t := 23) ?hr ?_; (case hd => rfl); (case hg => rfl); (case hr => first | (go_simp; done) | (go_simp; rfl))
             intro gb343 hg w33 hbox hb
             have HS0_ := (hb.cell (World.block_lt_of_cell? _ _ (hHeld.1))).trans (hHeld.1)
             have HS1_ := (hb.cell (World.block_lt_of_cell? _ _ (hHeld.2.1))).trans (hHeld.2.1)
             have HS2_ := (hb.cell (World.block_lt_of_cell? _ _ (hHeld.2.2.1))).trans (hHeld.2.2.1)
             have HS3_ := (hb.cell (World.block_lt_of_cell? _ _ (hHeld.2.2.2.1))).trans (hHeld.2.2.2.1)
             have HS4_ := (hb.cell (World.block_lt_of_cell? _ _ (hHeld.2.2.2.2.1))).trans (hHeld.2.2.2.2.1)
             have HS5_ := (hb.cell (World.block_lt_of_cell? _ _ (hHeld.2.2.2.2.2))).trans (hHeld.2.2.2.2.2)
             have n0_ := Aside0.mk (Kd.R_below (Kd.R_elderB (ku_ HO_6.out) gb343 (Nat.le_of_eq hg.symm)) hb)
             have n1_ := bb_ (bu_ BK325) hb
             have n2_ := bb_ (bu_ BK344) hb
             have n3_ := bs_ (be_ HB) hb
             have n4_ := Aside0.mk (hbox)
             have n5_ := gs_ hg (be_ HB)
             have n6_ := gs_ hg (be_ HB)
             have n7_ := nl_ hg (bu_ BK325)
             have n8_ := ng_ hg (bu_ BK325)
             have n9_ := nl_ hg (bu_ BK344)
             have n10_ := ng_ hg (bu_ BK344)
             clear HO_6
             clear BK325
             clear BK344
             clear HB
             have HO_6 := n0_
             have BK325 := n1_
             have BK344 := n2_
             have HB := n3_
             have BK343 := n4_
             have GW343 := n5_
             have GE343 := n6_
             have NB325_343 := n7_
             have NB343_325 := n8_
             have NB344_343 := n9_
             have NB343_344 := n10_
             clear n0_ n1_ n2_ n3_ n4_ n5_ n6_ n7_ n8_ n9_ n10_
             clear hb hbox hg
             refine hK.out _ _ ⟨HS0_, HS1_, HS2_, HS3_, HS4_, HS5_⟩ (fun hHeld => ?_)
             clear hK K
             refine nm_ 10 ?_
             exact norm_ (by simp only [putAll, Act.put, List.setIfInBounds_toArray, List.set_cons_zero, List.set_cons_succ]) (hCont (gb343, gb344) _ ⟨hHeld, (by (with_reducible repeat (first | apply Kd.R_alloc | apply Kd.R_drewN | apply Kd.R_drew)); exact Kd.R_mono HO_6.out (fun _ hk => ⟨hk.1.1, ⟨hk.2, hk.1.2⟩⟩)), (bu_ BK325), (bu_ BK343), (bu_ BK344), GW343.out, GE343.out, NB325_343.out, NB343_325.out, NB344_343.out, NB343_344.out, GW344.out, GE344.out, NB325_344.out, NB344_325.out, (be_ HB)⟩)
           rintro ⟨gb343, gb344⟩ w34 ⟨hS_, h0_, h1_, h2_, h3_, h4_, h5_, h6_, h7_, h8_, h9_, h10_, h11_, h12_, h13_, h14_⟩
           have n0_ : Aside0 (Kd.R k23 23 w34 w.heap.size (fun k_ => k_ ≠ gb325 ∧ k_ ≠ gb343 ∧ k_ ≠ gb344) (.slice (some ad341) x6_1.length co31) x6_1) := ⟨h0_⟩
           have n1_ : Aside0 (w34.heap[gb325]? = some (.cells #[.int .i64 x326000_1, .int .i64 x326001_1, .string x326002_1] 23 (0, 0))) := ⟨h1_⟩
           have n2_ : Aside0 (w34.heap[gb343]? = some (.cells #[.int .i64 0, .int .i64 0, .string (⟨#[]⟩ : ByteArray)] 23 (0, 0))) := ⟨h2_⟩
           have n3_ : Aside0 (w34.heap[gb344]? = some (.cells #[.int .i64 0, .int .i64 0, .string (⟨#[]⟩ : ByteArray)] 23 (0, 0))) := ⟨h3_⟩
           have n4_ : Aside0 (w.heap.size ≤ gb343) := ⟨h4_⟩
           have n5_ : Aside0 (w.heap.size ≤ gb343) := ⟨h5_⟩
           have n6_ : Aside0 (gb325 ≠ gb343) := ⟨h6_⟩
           have n7_ : Aside0 (gb343 ≠ gb325) := ⟨h7_⟩
           have n8_ : Aside0 (gb344 ≠ gb343) := ⟨h8_⟩
           have n9_ : Aside0 (gb343 ≠ gb344) := ⟨h9_⟩
           have n10_ : Aside0 (w.heap.size ≤ gb344) := ⟨h10_⟩
           have n11_ : Aside0 (w.heap.size ≤ gb344) := ⟨h11_⟩
           have n12_ : Aside0 (gb325 ≠ gb344) := ⟨h12_⟩
           have n13_ : Aside0 (gb344 ≠ gb325) := ⟨h13_⟩
           have n14_ : Aside0 (Below w.heap.size w w34) := ⟨h14_⟩
           clear HO_6
           clear BK325
           clear HB
           clear h0_ h1_ h2_ h3_ h4_ h5_ h6_ h7_ h8_ h9_ h10_ h11_ h12_ h13_ h14_
           have HO_6 := n0_
           have BK325 := n1_
           have BK343 := n2_
           have BK344 := n3_
           have GW343 := n4_
           have GE343 := n5_
           have NB325_343 := n6_
           have NB343_325 := n7_
           have NB344_343 := n8_
           have NB343_344 := n9_
           have GW344 := n10_
           have GE344 := n11_
           have NB325_344 := n12_
           have NB344_325 := n13_
           have HB := n14_
           clear n0_ n1_ n2_ n3_ n4_ n5_ n6_ n7_ n8_ n9_ n10_ n11_ n12_ n13_ n14_
           have hHeld : w34.cell? (ad341.add (((ji23)).toNat * 3)) = some (.int .i64 ((rd_T23 x6_1 (ji23)).f0)) ∧ w34.cell? ⟨(ad341.add (((ji23)).toNat * 3)).block, (ad341.add (((ji23)).toNat * 3)).off + 1, none⟩ = some (.int .i64 ((rd_T23 x6_1 (ji23)).f1)) ∧ w34.cell? ⟨(ad341.add (((ji23)).toNat * 3)).block, (ad341.add (((ji23)).toNat * 3)).off + 2, none⟩ = some (.string ((rd_T23 x6_1 (ji23)).f2)) ∧ w34.cell? (ad341.add (((ji26)).toNat * 3)) = some (.int .i64 ((rd_T23 x6_1 (ji26)).f0)) ∧ w34.cell? ⟨(ad341.add (((ji26)).toNat * 3)).block, (ad341.add (((ji26)).toNat * 3)).off + 1, none⟩ = some (.int .i64 ((rd_T23 x6_1 (ji26)).f1)) ∧ w34.cell? ⟨(ad341.add (((ji26)).toNat * 3)).block, (ad341.add (((ji26)).toNat * 3)).off + 2, none⟩ = some (.string ((rd_T23 x6_1 (ji26)).f2)) := hS_
           refine norm_ (a' := ?_) ?_ ?_
           rotate_left
           ·simp only [putAll, Act.put, List.setIfInBounds_toArray, List.set_cons_zero, List.set_cons_succ]
            rfl
           refine one_ (i := 14) (N := none) (mk_ 16 32767) rfl rfl (one_of HT_.out (by kernel_rfl)) (by decide) (fun K hK => ?_)
           have hs35 : w34.cell? ⟨gb343, 0, none⟩ = some (.int .i64 0) := (blk_cell BK343.out 0).trans rfl
           have hfs35 := blk_frozen BK343.out 0
           have hns35_0 := NB325_343.out
           have hns35_2 := NB344_343.out
           have hms35_0 := NB343_325.out
           have hms35_2 := NB343_344.out
           have hs36 : w34.cell? ⟨gb343, 1, none⟩ = some (.int .i64 0) := (blk_cell BK343.out 1).trans rfl
           have hfs36 := blk_frozen BK343.out 1
           have hns36_0 := NB325_343.out
           have hns36_2 := NB344_343.out
           have hms36_0 := NB343_325.out
           have hms36_2 := NB343_344.out
           have hs37 : w34.cell? ⟨gb343, 2, none⟩ = some (.string (⟨#[]⟩ : ByteArray)) := (blk_cell BK343.out 2).trans rfl
           have hfs37 := blk_frozen BK343.out 2
           have hns37_0 := NB325_343.out
           have hns37_2 := NB344_343.out
           have hms37_0 := NB343_325.out
           have hms37_2 := NB343_344.out
           refine skip_ (w1 := ?_) (by rfl) rfl ?_ ?_
           rotate_left
           ·go_simp
            rfl
           refine hK.out _ _ ⟨((cell_far (p := ⟨gb343, _, none⟩) (by first | exact Kd.own_blk (Kd.R_away HO_6.out (fun _ hk => hk.2.1)) | (rw [add_block]; exact Kd.own_blk (Kd.R_away HO_6.out (fun _ hk => hk.2.1))) | (show (Addr.add _ _).block ≠ _; rw [add_block]; exact Kd.own_blk (Kd.R_away HO_6.out (fun _ hk => hk.2.1))) | (dsimp only; exact Kd.own_blk (Kd.R_away HO_6.out (fun _ hk => hk.2.1)))) _).trans (((cell_far (p := ⟨gb343, _, none⟩) (by first | exact Kd.own_blk (Kd.R_away HO_6.out (fun _ hk => hk.2.1)) | (rw [add_block]; exact Kd.own_blk (Kd.R_away HO_6.out (fun _ hk => hk.2.1))) | (show (Addr.add _ _).block ≠ _; rw [add_block]; exact Kd.own_blk (Kd.R_away HO_6.out (fun _ hk => hk.2.1))) | (dsimp only; exact Kd.own_blk (Kd.R_away HO_6.out (fun _ hk => hk.2.1)))) _).trans (((cell_far (p := ⟨gb343, _, none⟩) (by first | exact Kd.own_blk (Kd.R_away HO_6.out (fun _ hk => hk.2.1)) | (rw [add_block]; exact Kd.own_blk (Kd.R_away HO_6.out (fun _ hk => hk.2.1))) | (show (Addr.add _ _).block ≠ _; rw [add_block]; exact Kd.own_blk (Kd.R_away HO_6.out (fun _ hk => hk.2.1))) | (dsimp only; exact Kd.own_blk (Kd.R_away HO_6.out (fun _ hk => hk.2.1)))) _).trans (hHeld.1)))))), ((cell_far (p := ⟨gb343, _, none⟩) (by first | exact Kd.own_blk (Kd.R_away HO_6.out (fun _ hk => hk.2.1)) | (rw [add_block]; exact Kd.own_blk (Kd.R_away HO_6.out (fun _ hk => hk.2.1))) | (show (Addr.add _ _).block ≠ _; rw [add_block]; exact Kd.own_blk (Kd.R_away HO_6.out (fun _ hk => hk.2.1))) | (dsimp only; exact Kd.own_blk (Kd.R_away HO_6.out (fun _ hk => hk.2.1)))) _).trans (((cell_far (p := ⟨gb343, _, none⟩) (by first | exact Kd.own_blk (Kd.R_away HO_6.out (fun _ hk => hk.2.1)) | (rw [add_block]; exact Kd.own_blk (Kd.R_away HO_6.out (fun _ hk => hk.2.1))) | (show (Addr.add _ _).block ≠ _; rw [add_block]; exact Kd.own_blk (Kd.R_away HO_6.out (fun _ hk => hk.2.1))) | (dsimp only; exact Kd.own_blk (Kd.R_away HO_6.out (fun _ hk => hk.2.1)))) _).trans (((cell_far (p := ⟨gb343, _, none⟩) (by first | exact Kd.own_blk (Kd.R_away HO_6.out (fun _ hk => hk.2.1)) | (rw [add_block]; exact Kd.own_blk (Kd.R_away HO_6.out (fun _ hk => hk.2.1))) | (show (Addr.add _ _).block ≠ _; rw [add_block]; exact Kd.own_blk (Kd.R_away HO_6.out (fun _ hk => hk.2.1))) | (dsimp only; exact Kd.own_blk (Kd.R_away HO_6.out (fun _ hk => hk.2.1)))) _).trans (hHeld.2.1)))))), ((cell_far (p := ⟨gb343, _, none⟩) (by first | exact Kd.own_blk (Kd.R_away HO_6.out (fun _ hk => hk.2.1)) | (rw [add_block]; exact Kd.own_blk (Kd.R_away HO_6.out (fun _ hk => hk.2.1))) | (show (Addr.add _ _).block ≠ _; rw [add_block]; exact Kd.own_blk (Kd.R_away HO_6.out (fun _ hk => hk.2.1))) | (dsimp only; exact Kd.own_blk (Kd.R_away HO_6.out (fun _ hk => hk.2.1)))) _).trans (((cell_far (p := ⟨gb343, _, none⟩) (by first | exact Kd.own_blk (Kd.R_away HO_6.out (fun _ hk => hk.2.1)) | (rw [add_block]; exact Kd.own_blk (Kd.R_away HO_6.out (fun _ hk => hk.2.1))) | (show (Addr.add _ _).block ≠ _; rw [add_block]; exact Kd.own_blk (Kd.R_away HO_6.out (fun _ hk => hk.2.1))) | (dsimp only; exact Kd.own_blk (Kd.R_away HO_6.out (fun _ hk => hk.2.1)))) _).trans (((cell_far (p := ⟨gb343, _, none⟩) (by first | exact Kd.own_blk (Kd.R_away HO_6.out (fun _ hk => hk.2.1)) | (rw [add_block]; exact Kd.own_blk (Kd.R_away HO_6.out (fun _ hk => hk.2.1))) | (show (Addr.add _ _).block ≠ _; rw [add_block]; exact Kd.own_blk (Kd.R_away HO_6.out (fun _ hk => hk.2.1))) | (dsimp only; exact Kd.own_blk (Kd.R_away HO_6.out (fun _ hk => hk.2.1)))) _).trans (hHeld.2.2.1)))))), ((cell_far (p := ⟨gb343, _, none⟩) (by first | exact Kd.own_blk (Kd.R_away HO_6.out (fun _ hk => hk.2.1)) | (rw [add_block]; exact Kd.own_blk (Kd.R_away HO_6.out (fun _ hk => hk.2.1))) | (show (Addr.add _ _).block ≠ _; rw [add_block]; exact Kd.own_blk (Kd.R_away HO_6.out (fun _ hk => hk.2.1))) | (dsimp only; exact Kd.own_blk (Kd.R_away HO_6.out (fun _ hk => hk.2.1)))) _).trans (((cell_far (p := ⟨gb343, _, none⟩) (by first | exact Kd.own_blk (Kd.R_away HO_6.out (fun _ hk => hk.2.1)) | (rw [add_block]; exact Kd.own_blk (Kd.R_away HO_6.out (fun _ hk => hk.2.1))) | (show (Addr.add _ _).block ≠ _; rw [add_block]; exact Kd.own_blk (Kd.R_away HO_6.out (fun _ hk => hk.2.1))) | (dsimp only; exact Kd.own_blk (Kd.R_away HO_6.out (fun _ hk => hk.2.1)))) _).trans (((cell_far (p := ⟨gb343, _, none⟩) (by first | exact Kd.own_blk (Kd.R_away HO_6.out (fun _ hk => hk.2.1)) | (rw [add_block]; exact Kd.own_blk (Kd.R_away HO_6.out (fun _ hk => hk.2.1))) | (show (Addr.add _ _).block ≠ _; rw [add_block]; exact Kd.own_blk (Kd.R_away HO_6.out (fun _ hk => hk.2.1))) | (dsimp only; exact Kd.own_blk (Kd.R_away HO_6.out (fun _ hk => hk.2.1)))) _).trans (hHeld.2.2.2.1)))))), ((cell_far (p := ⟨gb343, _, none⟩) (by first | exact Kd.own_blk (Kd.R_away HO_6.out (fun _ hk => hk.2.1)) | (rw [add_block]; exact Kd.own_blk (Kd.R_away HO_6.out (fun _ hk => hk.2.1))) | (show (Addr.add _ _).block ≠ _; rw [add_block]; exact Kd.own_blk (Kd.R_away HO_6.out (fun _ hk => hk.2.1))) | (dsimp only; exact Kd.own_blk (Kd.R_away HO_6.out (fun _ hk => hk.2.1)))) _).trans (((cell_far (p := ⟨gb343, _, none⟩) (by first | exact Kd.own_blk (Kd.R_away HO_6.out (fun _ hk => hk.2.1)) | (rw [add_block]; exact Kd.own_blk (Kd.R_away HO_6.out (fun _ hk => hk.2.1))) | (show (Addr.add _ _).block ≠ _; rw [add_block]; exact Kd.own_blk (Kd.R_away HO_6.out (fun _ hk => hk.2.1))) | (dsimp only; exact Kd.own_blk (Kd.R_away HO_6.out (fun _ hk => hk.2.1)))) _).trans (((cell_far (p := ⟨gb343, _, none⟩) (by first | exact Kd.own_blk (Kd.R_away HO_6.out (fun _ hk => hk.2.1)) | (rw [add_block]; exact Kd.own_blk (Kd.R_away HO_6.out (fun _ hk => hk.2.1))) | (show (Addr.add _ _).block ≠ _; rw [add_block]; exact Kd.own_blk (Kd.R_away HO_6.out (fun _ hk => hk.2.1))) | (dsimp only; exact Kd.own_blk (Kd.R_away HO_6.out (fun _ hk => hk.2.1)))) _).trans (hHeld.2.2.2.2.1)))))), ((cell_far (p := ⟨gb343, _, none⟩) (by first | exact Kd.own_blk (Kd.R_away HO_6.out (fun _ hk => hk.2.1)) | (rw [add_block]; exact Kd.own_blk (Kd.R_away HO_6.out (fun _ hk => hk.2.1))) | (show (Addr.add _ _).block ≠ _; rw [add_block]; exact Kd.own_blk (Kd.R_away HO_6.out (fun _ hk => hk.2.1))) | (dsimp only; exact Kd.own_blk (Kd.R_away HO_6.out (fun _ hk => hk.2.1)))) _).trans (((cell_far (p := ⟨gb343, _, none⟩) (by first | exact Kd.own_blk (Kd.R_away HO_6.out (fun _ hk => hk.2.1)) | (rw [add_block]; exact Kd.own_blk (Kd.R_away HO_6.out (fun _ hk => hk.2.1))) | (show (Addr.add _ _).block ≠ _; rw [add_block]; exact Kd.own_blk (Kd.R_away HO_6.out (fun _ hk => hk.2.1))) | (dsimp only; exact Kd.own_blk (Kd.R_away HO_6.out (fun _ hk => hk.2.1)))) _).trans (((cell_far (p := ⟨gb343, _, none⟩) (by first | exact Kd.own_blk (Kd.R_away HO_6.out (fun _ hk => hk.2.1)) | (rw [add_block]; exact Kd.own_blk (Kd.R_away HO_6.out (fun _ hk => hk.2.1))) | (show (Addr.add _ _).block ≠ _; rw [add_block]; exact Kd.own_blk (Kd.R_away HO_6.out (fun _ hk => hk.2.1))) | (dsimp only; exact Kd.own_blk (Kd.R_away HO_6.out (fun _ hk => hk.2.1)))) _).trans (hHeld.2.2.2.2.2))))))⟩ (fun hHeld => ?_)
           clear hK K
           refine one_ (i := 15) (N := none) (mk_ 16 65535) rfl rfl (one_of HT_.out (by kernel_rfl)) (by decide) (fun K hK => ?_)
           have hs38 : w34.cell? ⟨gb344, 0, none⟩ = some (.int .i64 0) := (blk_cell BK344.out 0).trans rfl
           have hfs38 := blk_frozen BK344.out 0
           have hns38_0 := NB325_344.out
           have hns38_1 := NB343_344.out
           have hms38_0 := NB344_325.out
           have hms38_1 := NB344_343.out
           have hs39 : w34.cell? ⟨gb344, 1, none⟩ = some (.int .i64 0) := (blk_cell BK344.out 1).trans rfl
           have hfs39 := blk_frozen BK344.out 1
           have hns39_0 := NB325_344.out
           have hns39_1 := NB343_344.out
           have hms39_0 := NB344_325.out
           have hms39_1 := NB344_343.out
           have hs40 : w34.cell? ⟨gb344, 2, none⟩ = some (.string (⟨#[]⟩ : ByteArray)) := (blk_cell BK344.out 2).trans rfl
           have hfs40 := blk_frozen BK344.out 2
           have hns40_0 := NB325_344.out
           have hns40_1 := NB343_344.out
           have hms40_0 := NB344_325.out
           have hms40_1 := NB344_343.out
           refine skip_ (w1 := ?_) (by rfl) rfl ?_ ?_
           rotate_left
           ·go_simp
            rfl
           refine hK.out _ _ ⟨((cell_far (p := ⟨gb344, _, none⟩) (by first | exact Kd.own_blk (Kd.R_away HO_6.out (fun _ hk => hk.2.2)) | (rw [add_block]; exact Kd.own_blk (Kd.R_away HO_6.out (fun _ hk => hk.2.2))) | (show (Addr.add _ _).block ≠ _; rw [add_block]; exact Kd.own_blk (Kd.R_away HO_6.out (fun _ hk => hk.2.2))) | (dsimp only; exact Kd.own_blk (Kd.R_away HO_6.out (fun _ hk => hk.2.2)))) _).trans (((cell_far (p := ⟨gb344, _, none⟩) (by first | exact Kd.own_blk (Kd.R_away HO_6.out (fun _ hk => hk.2.2)) | (rw [add_block]; exact Kd.own_blk (Kd.R_away HO_6.out (fun _ hk => hk.2.2))) | (show (Addr.add _ _).block ≠ _; rw [add_block]; exact Kd.own_blk (Kd.R_away HO_6.out (fun _ hk => hk.2.2))) | (dsimp only; exact Kd.own_blk (Kd.R_away HO_6.out (fun _ hk => hk.2.2)))) _).trans (((cell_far (p := ⟨gb344, _, none⟩) (by first | exact Kd.own_blk (Kd.R_away HO_6.out (fun _ hk => hk.2.2)) | (rw [add_block]; exact Kd.own_blk (Kd.R_away HO_6.out (fun _ hk => hk.2.2))) | (show (Addr.add _ _).block ≠ _; rw [add_block]; exact Kd.own_blk (Kd.R_away HO_6.out (fun _ hk => hk.2.2))) | (dsimp only; exact Kd.own_blk (Kd.R_away HO_6.out (fun _ hk => hk.2.2)))) _).trans (hHeld.1)))))), ((cell_far (p := ⟨gb344, _, none⟩) (by first | exact Kd.own_blk (Kd.R_away HO_6.out (fun _ hk => hk.2.2)) | (rw [add_block]; exact Kd.own_blk (Kd.R_away HO_6.out (fun _ hk => hk.2.2))) | (show (Addr.add _ _).block ≠ _; rw [add_block]; exact Kd.own_blk (Kd.R_away HO_6.out (fun _ hk => hk.2.2))) | (dsimp only; exact Kd.own_blk (Kd.R_away HO_6.out (fun _ hk => hk.2.2)))) _).trans (((cell_far (p := ⟨gb344, _, none⟩) (by first | exact Kd.own_blk (Kd.R_away HO_6.out (fun _ hk => hk.2.2)) | (rw [add_block]; exact Kd.own_blk (Kd.R_away HO_6.out (fun _ hk => hk.2.2))) | (show (Addr.add _ _).block ≠ _; rw [add_block]; exact Kd.own_blk (Kd.R_away HO_6.out (fun _ hk => hk.2.2))) | (dsimp only; exact Kd.own_blk (Kd.R_away HO_6.out (fun _ hk => hk.2.2)))) _).trans (((cell_far (p := ⟨gb344, _, none⟩) (by first | exact Kd.own_blk (Kd.R_away HO_6.out (fun _ hk => hk.2.2)) | (rw [add_block]; exact Kd.own_blk (Kd.R_away HO_6.out (fun _ hk => hk.2.2))) | (show (Addr.add _ _).block ≠ _; rw [add_block]; exact Kd.own_blk (Kd.R_away HO_6.out (fun _ hk => hk.2.2))) | (dsimp only; exact Kd.own_blk (Kd.R_away HO_6.out (fun _ hk => hk.2.2)))) _).trans (hHeld.2.1)))))), ((cell_far (p := ⟨gb344, _, none⟩) (by first | exact Kd.own_blk (Kd.R_away HO_6.out (fun _ hk => hk.2.2)) | (rw [add_block]; exact Kd.own_blk (Kd.R_away HO_6.out (fun _ hk => hk.2.2))) | (show (Addr.add _ _).block ≠ _; rw [add_block]; exact Kd.own_blk (Kd.R_away HO_6.out (fun _ hk => hk.2.2))) | (dsimp only; exact Kd.own_blk (Kd.R_away HO_6.out (fun _ hk => hk.2.2)))) _).trans (((cell_far (p := ⟨gb344, _, none⟩) (by first | exact Kd.own_blk (Kd.R_away HO_6.out (fun _ hk => hk.2.2)) | (rw [add_block]; exact Kd.own_blk (Kd.R_away HO_6.out (fun _ hk => hk.2.2))) | (show (Addr.add _ _).block ≠ _; rw [add_block]; exact Kd.own_blk (Kd.R_away HO_6.out (fun _ hk => hk.2.2))) | (dsimp only; exact Kd.own_blk (Kd.R_away HO_6.out (fun _ hk => hk.2.2)))) _).trans (((cell_far (p := ⟨gb344, _, none⟩) (by first | exact Kd.own_blk (Kd.R_away HO_6.out (fun _ hk => hk.2.2)) | (rw [add_block]; exact Kd.own_blk (Kd.R_away HO_6.out (fun _ hk => hk.2.2))) | (show (Addr.add _ _).block ≠ _; rw [add_block]; exact Kd.own_blk (Kd.R_away HO_6.out (fun _ hk => hk.2.2))) | (dsimp only; exact Kd.own_blk (Kd.R_away HO_6.out (fun _ hk => hk.2.2)))) _).trans (hHeld.2.2.1)))))), ((cell_far (p := ⟨gb344, _, none⟩) (by first | exact Kd.own_blk (Kd.R_away HO_6.out (fun _ hk => hk.2.2)) | (rw [add_block]; exact Kd.own_blk (Kd.R_away HO_6.out (fun _ hk => hk.2.2))) | (show (Addr.add _ _).block ≠ _; rw [add_block]; exact Kd.own_blk (Kd.R_away HO_6.out (fun _ hk => hk.2.2))) | (dsimp only; exact Kd.own_blk (Kd.R_away HO_6.out (fun _ hk => hk.2.2)))) _).trans (((cell_far (p := ⟨gb344, _, none⟩) (by first | exact Kd.own_blk (Kd.R_away HO_6.out (fun _ hk => hk.2.2)) | (rw [add_block]; exact Kd.own_blk (Kd.R_away HO_6.out (fun _ hk => hk.2.2))) | (show (Addr.add _ _).block ≠ _; rw [add_block]; exact Kd.own_blk (Kd.R_away HO_6.out (fun _ hk => hk.2.2))) | (dsimp only; exact Kd.own_blk (Kd.R_away HO_6.out (fun _ hk => hk.2.2)))) _).trans (((cell_far (p := ⟨gb344, _, none⟩) (by first | exact Kd.own_blk (Kd.R_away HO_6.out (fun _ hk => hk.2.2)) | (rw [add_block]; exact Kd.own_blk (Kd.R_away HO_6.out (fun _ hk => hk.2.2))) | (show (Addr.add _ _).block ≠ _; rw [add_block]; exact Kd.own_blk (Kd.R_away HO_6.out (fun _ hk => hk.2.2))) | (dsimp only; exact Kd.own_blk (Kd.R_away HO_6.out (fun _ hk => hk.2.2)))) _).trans (hHeld.2.2.2.1)))))), ((cell_far (p := ⟨gb344, _, none⟩) (by first | exact Kd.own_blk (Kd.R_away HO_6.out (fun _ hk => hk.2.2)) | (rw [add_block]; exact Kd.own_blk (Kd.R_away HO_6.out (fun _ hk => hk.2.2))) | (show (Addr.add _ _).block ≠ _; rw [add_block]; exact Kd.own_blk (Kd.R_away HO_6.out (fun _ hk => hk.2.2))) | (dsimp only; exact Kd.own_blk (Kd.R_away HO_6.out (fun _ hk => hk.2.2)))) _).trans (((cell_far (p := ⟨gb344, _, none⟩) (by first | exact Kd.own_blk (Kd.R_away HO_6.out (fun _ hk => hk.2.2)) | (rw [add_block]; exact Kd.own_blk (Kd.R_away HO_6.out (fun _ hk => hk.2.2))) | (show (Addr.add _ _).block ≠ _; rw [add_block]; exact Kd.own_blk (Kd.R_away HO_6.out (fun _ hk => hk.2.2))) | (dsimp only; exact Kd.own_blk (Kd.R_away HO_6.out (fun _ hk => hk.2.2)))) _).trans (((cell_far (p := ⟨gb344, _, none⟩) (by first | exact Kd.own_blk (Kd.R_away HO_6.out (fun _ hk => hk.2.2)) | (rw [add_block]; exact Kd.own_blk (Kd.R_away HO_6.out (fun _ hk => hk.2.2))) | (show (Addr.add _ _).block ≠ _; rw [add_block]; exact Kd.own_blk (Kd.R_away HO_6.out (fun _ hk => hk.2.2))) | (dsimp only; exact Kd.own_blk (Kd.R_away HO_6.out (fun _ hk => hk.2.2)))) _).trans (hHeld.2.2.2.2.1)))))), ((cell_far (p := ⟨gb344, _, none⟩) (by first | exact Kd.own_blk (Kd.R_away HO_6.out (fun _ hk => hk.2.2)) | (rw [add_block]; exact Kd.own_blk (Kd.R_away HO_6.out (fun _ hk => hk.2.2))) | (show (Addr.add _ _).block ≠ _; rw [add_block]; exact Kd.own_blk (Kd.R_away HO_6.out (fun _ hk => hk.2.2))) | (dsimp only; exact Kd.own_blk (Kd.R_away HO_6.out (fun _ hk => hk.2.2)))) _).trans (((cell_far (p := ⟨gb344, _, none⟩) (by first | exact Kd.own_blk (Kd.R_away HO_6.out (fun _ hk => hk.2.2)) | (rw [add_block]; exact Kd.own_blk (Kd.R_away HO_6.out (fun _ hk => hk.2.2))) | (show (Addr.add _ _).block ≠ _; rw [add_block]; exact Kd.own_blk (Kd.R_away HO_6.out (fun _ hk => hk.2.2))) | (dsimp only; exact Kd.own_blk (Kd.R_away HO_6.out (fun _ hk => hk.2.2)))) _).trans (((cell_far (p := ⟨gb344, _, none⟩) (by first | exact Kd.own_blk (Kd.R_away HO_6.out (fun _ hk => hk.2.2)) | (rw [add_block]; exact Kd.own_blk (Kd.R_away HO_6.out (fun _ hk => hk.2.2))) | (show (Addr.add _ _).block ≠ _; rw [add_block]; exact Kd.own_blk (Kd.R_away HO_6.out (fun _ hk => hk.2.2))) | (dsimp only; exact Kd.own_blk (Kd.R_away HO_6.out (fun _ hk => hk.2.2)))) _).trans (hHeld.2.2.2.2.2))))))⟩ (fun hHeld => ?_)
           clear hK K
           refine done_ (done_of HT_.out (by kernel_rfl)) ?_
           go_upto_region 7 with (fail)
           go_cut [44] (fun v44 wc => ∃ (kq : Nat) (x44_28 : Bool), v44 = .bool x44_28 ∧ Aside0 (constableref01_Eval.j1 kq l0 l1 x6_1 x7_1 x44_28 ((rd_T23 x6_1 (ji23)).f0) ((rd_T23 x6_1 (ji23)).f1) ((rd_T23 x6_1 (ji23)).f2) ((rd_T23 x6_1 (ji26)).f0) ((rd_T23 x6_1 (ji26)).f1) ((rd_T23 x6_1 (ji26)).f2) = some (r1, r2, r3, r4)) ∧ Aside0 (kq ≤ k1) ∧ Aside0 (Kd.R k23 23 wc w.heap.size (fun k_ => k_ ≠ gb325 ∧ k_ ≠ gb343 ∧ k_ ≠ gb344) (.slice (some ad341) x6_1.length co31) x6_1) ∧ Aside0 (wc.heap[gb325]? = some (.cells #[.int .i64 x326000_1, .int .i64 x326001_1, .string x326002_1] 23 (0, 0))) ∧ Aside0 (wc.heap[gb343]? = some (.cells #[.int .i64 ((rd_T23 x6_1 (ji23)).f0), .int .i64 ((rd_T23 x6_1 (ji23)).f1), .string ((rd_T23 x6_1 (ji23)).f2)] 23 (0, 0))) ∧ Aside0 (wc.heap[gb344]? = some (.cells #[.int .i64 ((rd_T23 x6_1 (ji26)).f0), .int .i64 ((rd_T23 x6_1 (ji26)).f1), .string ((rd_T23 x6_1 (ji26)).f2)] 23 (0, 0))) ∧ Aside0 (Below w.heap.size w wc))
           case first =>
            have H := HC29.out
            clear HC29
            by_cases c41 : ((rd_T23 x6_1 (ji23)).f0) = 1
            ·rw [if_pos c41] at H
             obtain ⟨c41b0, c41b1⟩ := eqB_ c41
             clear c41
             (first | rw [c41b0] | (simp only [i64_w, i32_w]; rw [c41b0]) | skip)
             have H' := Aside0.mk H
             clear H
             have hnb42 := NB343_325.out
             have hnc42 := NB325_343.out
             have hnb43 := NB343_344.out
             have hnc43 := NB344_343.out
             have hcz44_0 : w34.cell? ⟨gb343, 0, none⟩ = some (.int .i64 0) := (blk_cell BK343.out 0).trans rfl
             have hcz44_1 : w34.cell? ⟨gb343, 1, none⟩ = some (.int .i64 0) := (blk_cell BK343.out 1).trans rfl
             have hcz44_2 : w34.cell? ⟨gb343, 2, none⟩ = some (.string (⟨#[]⟩ : ByteArray)) := (blk_cell BK343.out 2).trans rfl
             have hfz44_0 := blk_frozen BK343.out 0
             have hfz44_1 := blk_frozen BK343.out 1
             have hfz44_2 := blk_frozen BK343.out 2
             have hnb45 := NB344_325.out
             have hnc45 := NB325_344.out
             have hcz46_0 : w34.cell? ⟨gb344, 0, none⟩ = some (.int .i64 0) := (blk_cell BK344.out 0).trans rfl
             have hcz46_1 : w34.cell? ⟨gb344, 1, none⟩ = some (.int .i64 0) := (blk_cell BK344.out 1).trans rfl
             have hcz46_2 : w34.cell? ⟨gb344, 2, none⟩ = some (.string (⟨#[]⟩ : ByteArray)) := (blk_cell BK344.out 2).trans rfl
             have hfz46_0 := blk_frozen BK344.out 0
             have hfz46_1 := blk_frozen BK344.out 1
             have hfz46_2 := blk_frozen BK344.out 2
             go_wp2
             go_meet
             case rel => exact ⟨_, ((((rd_T23 x6_1 (ji26)).f0) != 1)), (by first | rfl | (simp; done) | (simp only [← hji26] <;> (first | rfl | simp)) | (simp [*]; done)), H', ⟨by have := HK1.out; first | omega | exact Nat.le_refl _⟩, mR_ (Kd.R_mono (Kd.R_far (p := ⟨gb344, 2, none⟩) (Kd.R_far (p := ⟨gb344, 1, none⟩) (Kd.R_far (p := ⟨gb344, 0, none⟩) (Kd.R_far (p := ⟨gb343, 2, none⟩) (Kd.R_far (p := ⟨gb343, 1, none⟩) (Kd.R_far (p := ⟨gb343, 0, none⟩) (Kd.R_mono (Kd.R_mono HO_6.out (fun k_ hk => (⟨hk, hk.2.1⟩ : _ ∧ k_ ≠ gb343))) (fun k_ hk => (⟨hk, hk.1.2.2⟩ : _ ∧ k_ ≠ gb344))) (fun _ hk => hk.1.2) (.int .i64 ((rd_T23 x6_1 (ji23)).f0))) (fun _ hk => hk.1.2) (.int .i64 ((rd_T23 x6_1 (ji23)).f1))) (fun _ hk => hk.1.2) (.string ((rd_T23 x6_1 (ji23)).f2))) (fun _ hk => hk.2) (.int .i64 ((rd_T23 x6_1 (ji26)).f0))) (fun _ hk => hk.2) (.int .i64 ((rd_T23 x6_1 (ji26)).f1))) (fun _ hk => hk.2) (.string ((rd_T23 x6_1 (ji26)).f2))) (fun _ hk => ⟨hk.1.1.1, ⟨hk.1.1.2.1, hk.1.1.2.2⟩⟩)), ⟨by (with_reducible repeat (first | refine blk_drewN ?_ _ | refine blk_drew ?_ | refine blk_alloc ?_ _)); refine blk_far ?_ NB325_344.out _; (with_reducible repeat (first | refine blk_drewN ?_ _ | refine blk_drew ?_ | refine blk_alloc ?_ _)); refine blk_far ?_ NB325_344.out _; (with_reducible repeat (first | refine blk_drewN ?_ _ | refine blk_drew ?_ | refine blk_alloc ?_ _)); refine blk_far ?_ NB325_344.out _; (with_reducible repeat (first | refine blk_drewN ?_ _ | refine blk_drew ?_ | refine blk_alloc ?_ _)); refine blk_far ?_ NB325_343.out _; (with_reducible repeat (first | refine blk_drewN ?_ _ | refine blk_drew ?_ | refine blk_alloc ?_ _)); refine blk_far ?_ NB325_343.out _; (with_reducible repeat (first | refine blk_drewN ?_ _ | refine blk_drew ?_ | refine blk_alloc ?_ _)); refine blk_far ?_ NB325_343.out _; (with_reducible repeat (first | refine blk_drewN ?_ _ | refine blk_drew ?_ | refine blk_alloc ?_ _)); exact BK325.out⟩, ⟨by (with_reducible repeat (first | refine blk_drewN ?_ _ | refine blk_drew ?_ | refine blk_alloc ?_ _)); refine blk_far ?_ NB343_344.out _; (with_reducible repeat (first | refine blk_drewN ?_ _ | refine blk_drew ?_ | refine blk_alloc ?_ _)); refine blk_far ?_ NB343_344.out _; (with_reducible repeat (first | refine blk_drewN ?_ _ | refine blk_drew ?_ | refine blk_alloc ?_ _)); refine blk_far ?_ NB343_344.out _; (with_reducible repeat (first | refine blk_drewN ?_ _ | refine blk_drew ?_ | refine blk_alloc ?_ _)); refine blk_put (cs := #[.int .i64 ((rd_T23 x6_1 (ji23)).f0), .int .i64 ((rd_T23 x6_1 (ji23)).f1), .string (⟨#[]⟩ : ByteArray)]) ?_ 2 _ rfl; (with_reducible repeat (first | refine blk_drewN ?_ _ | refine blk_drew ?_ | refine blk_alloc ?_ _)); refine blk_put (cs := #[.int .i64 ((rd_T23 x6_1 (ji23)).f0), .int .i64 0, .string (⟨#[]⟩ : ByteArray)]) ?_ 1 _ rfl; (with_reducible repeat (first | refine blk_drewN ?_ _ | refine blk_drew ?_ | refine blk_alloc ?_ _)); refine blk_put (cs := #[.int .i64 0, .int .i64 0, .string (⟨#[]⟩ : ByteArray)]) ?_ 0 _ rfl; (with_reducible repeat (first | refine blk_drewN ?_ _ | refine blk_drew ?_ | refine blk_alloc ?_ _)); exact BK343.out⟩, ⟨by (with_reducible repeat (first | refine blk_drewN ?_ _ | refine blk_drew ?_ | refine blk_alloc ?_ _)); refine blk_put (cs := #[.int .i64 ((rd_T23 x6_1 (ji26)).f0), .int .i64 ((rd_T23 x6_1 (ji26)).f1), .string (⟨#[]⟩ : ByteArray)]) ?_ 2 _ rfl; (with_reducible repeat (first | refine blk_drewN ?_ _ | refine blk_drew ?_ | refine blk_alloc ?_ _)); refine blk_put (cs := #[.int .i64 ((rd_T23 x6_1 (ji26)).f0), .int .i64 0, .string (⟨#[]⟩ : ByteArray)]) ?_ 1 _ rfl; (with_reducible repeat (first | refine blk_drewN ?_ _ | refine blk_drew ?_ | refine blk_alloc ?_ _)); refine blk_put (cs := #[.int .i64 0, .int .i64 0, .string (⟨#[]⟩ : ByteArray)]) ?_ 0 _ rfl; (with_reducible repeat (first | refine blk_drewN ?_ _ | refine blk_drew ?_ | refine blk_alloc ?_ _)); refine blk_far ?_ NB344_343.out _; (with_reducible repeat (first | refine blk_drewN ?_ _ | refine blk_drew ?_ | refine blk_alloc ?_ _)); refine blk_far ?_ NB344_343.out _; (with_reducible repeat (first | refine blk_drewN ?_ _ | refine blk_drew ?_ | refine blk_alloc ?_ _)); refine blk_far ?_ NB344_343.out _; (with_reducible repeat (first | refine blk_drewN ?_ _ | refine blk_drew ?_ | refine blk_alloc ?_ _)); exact BK344.out⟩, be2_ HB⟩
            ·rw [if_neg c41] at H
             obtain ⟨c41b0, c41b1⟩ := neB_ c41
             (first | rw [c41b0] | (simp only [i64_w, i32_w]; rw [c41b0]) | skip)
             have H' := Aside0.mk H
             clear H
             have hnb47 := NB343_325.out
             have hnc47 := NB325_343.out
             have hnb48 := NB343_344.out
             have hnc48 := NB344_343.out
             have hcz49_0 : w34.cell? ⟨gb343, 0, none⟩ = some (.int .i64 0) := (blk_cell BK343.out 0).trans rfl
             have hcz49_1 : w34.cell? ⟨gb343, 1, none⟩ = some (.int .i64 0) := (blk_cell BK343.out 1).trans rfl
             have hcz49_2 : w34.cell? ⟨gb343, 2, none⟩ = some (.string (⟨#[]⟩ : ByteArray)) := (blk_cell BK343.out 2).trans rfl
             have hfz49_0 := blk_frozen BK343.out 0
             have hfz49_1 := blk_frozen BK343.out 1
             have hfz49_2 := blk_frozen BK343.out 2
             go_wp2
             go_meet
             case rel => exact ⟨_, (true), ra_, H', ⟨by have := HK1.out; first | omega | exact Nat.le_refl _⟩, mR_ (Kd.R_mono (Kd.R_far (p := ⟨gb344, 2, none⟩) (Kd.R_far (p := ⟨gb344, 1, none⟩) (Kd.R_far (p := ⟨gb344, 0, none⟩) (Kd.R_far (p := ⟨gb343, 2, none⟩) (Kd.R_far (p := ⟨gb343, 1, none⟩) (Kd.R_far (p := ⟨gb343, 0, none⟩) (Kd.R_mono (Kd.R_mono HO_6.out (fun k_ hk => (⟨hk, hk.2.1⟩ : _ ∧ k_ ≠ gb343))) (fun k_ hk => (⟨hk, hk.1.2.2⟩ : _ ∧ k_ ≠ gb344))) (fun _ hk => hk.1.2) (.int .i64 ((rd_T23 x6_1 (ji23)).f0))) (fun _ hk => hk.1.2) (.int .i64 ((rd_T23 x6_1 (ji23)).f1))) (fun _ hk => hk.1.2) (.string ((rd_T23 x6_1 (ji23)).f2))) (fun _ hk => hk.2) (.int .i64 ((rd_T23 x6_1 (ji26)).f0))) (fun _ hk => hk.2) (.int .i64 ((rd_T23 x6_1 (ji26)).f1))) (fun _ hk => hk.2) (.string ((rd_T23 x6_1 (ji26)).f2))) (fun _ hk => ⟨hk.1.1.1, ⟨hk.1.1.2.1, hk.1.1.2.2⟩⟩)), ⟨by (with_reducible repeat (first | refine blk_drewN ?_ _ | refine blk_drew ?_ | refine blk_alloc ?_ _)); refine blk_far ?_ NB325_344.out _; (with_reducible repeat (first | refine blk_drewN ?_ _ | refine blk_drew ?_ | refine blk_alloc ?_ _)); refine blk_far ?_ NB325_344.out _; (with_reducible repeat (first | refine blk_drewN ?_ _ | refine blk_drew ?_ | refine blk_alloc ?_ _)); refine blk_far ?_ NB325_344.out _; (with_reducible repeat (first | refine blk_drewN ?_ _ | refine blk_drew ?_ | refine blk_alloc ?_ _)); refine blk_far ?_ NB325_343.out _; (with_reducible repeat (first | refine blk_drewN ?_ _ | refine blk_drew ?_ | refine blk_alloc ?_ _)); refine blk_far ?_ NB325_343.out _; (with_reducible repeat (first | refine blk_drewN ?_ _ | refine blk_drew ?_ | refine blk_alloc ?_ _)); refine blk_far ?_ NB325_343.out _; (with_reducible repeat (first | refine blk_drewN ?_ _ | refine blk_drew ?_ | refine blk_alloc ?_ _)); exact BK325.out⟩, ⟨by (with_reducible repeat (first | refine blk_drewN ?_ _ | refine blk_drew ?_ | refine blk_alloc ?_ _)); refine blk_far ?_ NB343_344.out _; (with_reducible repeat (first | refine blk_drewN ?_ _ | refine blk_drew ?_ | refine blk_alloc ?_ _)); refine blk_far ?_ NB343_344.out _; (with_reducible repeat (first | refine blk_drewN ?_ _ | refine blk_drew ?_ | refine blk_alloc ?_ _)); refine blk_far ?_ NB343_344.out _; (with_reducible repeat (first | refine blk_drewN ?_ _ | refine blk_drew ?_ | refine blk_alloc ?_ _)); refine blk_put (cs := #[.int .i64 ((rd_T23 x6_1 (ji23)).f0), .int .i64 ((rd_T23 x6_1 (ji23)).f1), .string (⟨#[]⟩ : ByteArray)]) ?_ 2 _ rfl; (with_reducible repeat (first | refine blk_drewN ?_ _ | refine blk_drew ?_ | refine blk_alloc ?_ _)); refine blk_put (cs := #[.int .i64 ((rd_T23 x6_1 (ji23)).f0), .int .i64 0, .string (⟨#[]⟩ : ByteArray)]) ?_ 1 _ rfl; (with_reducible repeat (first | refine blk_drewN ?_ _ | refine blk_drew ?_ | refine blk_alloc ?_ _)); refine blk_put (cs := #[.int .i64 0, .int .i64 0, .string (⟨#[]⟩ : ByteArray)]) ?_ 0 _ rfl; (with_reducible repeat (first | refine blk_drewN ?_ _ | refine blk_drew ?_ | refine blk_alloc ?_ _)); exact BK343.out⟩, ⟨by (with_reducible repeat (first | refine blk_drewN ?_ _ | refine blk_drew ?_ | refine blk_alloc ?_ _)); refine blk_put (cs := #[.int .i64 ((rd_T23 x6_1 (ji26)).f0), .int .i64 ((rd_T23 x6_1 (ji26)).f1), .string (⟨#[]⟩ : ByteArray)]) ?_ 2 _ rfl; (with_reducible repeat (first | refine blk_drewN ?_ _ | refine blk_drew ?_ | refine blk_alloc ?_ _)); refine blk_put (cs := #[.int .i64 ((rd_T23 x6_1 (ji26)).f0), .int .i64 0, .string (⟨#[]⟩ : ByteArray)]) ?_ 1 _ rfl; (with_reducible repeat (first | refine blk_drewN ?_ _ | refine blk_drew ?_ | refine blk_alloc ?_ _)); refine blk_put (cs := #[.int .i64 0, .int .i64 0, .string (⟨#[]⟩ : ByteArray)]) ?_ 0 _ rfl; (with_reducible repeat (first | refine blk_drewN ?_ _ | refine blk_drew ?_ | refine blk_alloc ?_ _)); refine blk_far ?_ NB344_343.out _; (with_reducible repeat (first | refine blk_drewN ?_ _ | refine blk_drew ?_ | refine blk_alloc ?_ _)); refine blk_far ?_ NB344_343.out _; (with_reducible repeat (first | refine blk_drewN ?_ _ | refine blk_drew ?_ | refine blk_alloc ?_ _)); refine blk_far ?_ NB344_343.out _; (with_reducible repeat (first | refine blk_drewN ?_ _ | refine blk_drew ?_ | refine blk_alloc ?_ _)); exact BK344.out⟩, be2_ HB⟩
           case rest =>
            clear HC29
            try clear c1; try clear c2; try clear p2; try clear p3; try clear q3; try clear hx3; try clear c4; try clear c5; try clear c6; try clear c6b0; try clear c6b1; try clear p6; try clear c8; try clear c9; try clear c12; try clear c17; try clear c20; try clear c20b0; try clear c20b1; try clear c21; try clear c24; try clear c24b0; try clear c25; try clear c25b0; try clear c27; try clear c27b0; try clear c28; try clear c28b0; try clear p32; try clear q32; try clear hx32; try clear p33; try clear q33; try clear hx33; try clear p34; try clear q34; try clear hx34; try clear c41; try clear c41b0; try clear c41b1; try clear c42; try clear c43; try clear c45; try clear c47; try clear c48; try clear hcz13_0; try clear hcz13_1; try clear hcz13_2; try clear hcz18_0; try clear hcz18_1; try clear hcz18_2; try clear hcz19_0; try clear hcz19_1; try clear hcz19_2; try clear hcz44_0; try clear hcz44_1; try clear hcz44_2; try clear hcz46_0; try clear hcz46_1; try clear hcz46_2; try clear hcz49_0; try clear hcz49_1; try clear hcz49_2; try clear hfz13_0; try clear hfz13_1; try clear hfz13_2; try clear hfz18_0; try clear hfz18_1; try clear hfz18_2; try clear hfz19_0; try clear hfz19_1; try clear hfz19_2; try clear hfz44_0; try clear hfz44_1; try clear hfz44_2; try clear hfz46_0; try clear hfz46_1; try clear hfz46_2; try clear hfz49_0; try clear hfz49_1; try clear hfz49_2; try clear hx327_0; try clear hx327_1; try clear hx327_2; try clear hx327_3; try clear hx327_4; try clear hx328_0; try clear hx328_1; try clear hx328_2; try clear hx328_3; try clear hx328_4; try clear hx337_0; try clear hx337_1; try clear hx337_2; try clear hx337_3; try clear hx337_4; try clear hx341_0; try clear hx341_1; try clear hx341_2; try clear hx342_0; try clear hx342_1; try clear hx342_2; try clear p327; try clear p328; try clear p337; try clear p341; try clear p342; try clear q327; try clear q328; try clear q337; try clear q341; try clear q342
            obtain ⟨kq, x44_28, rfl, HA, HJ28, HO_6, BK325, BK343, BK344, HB⟩ := hcut
            cases kq with
            | zero => exact absurd HA.out (by simp [constableref01_Eval.j1])
            | succ kj28 =>
             have H := HA.out
             clear HA
             simp only [constableref01_Eval.j1] at H
             by_cases c50 : x44_28 = true
             ·subst c50
              rw [if_pos rfl] at H
              simp only [Option.some.injEq, Prod.mk.injEq] at H
              obtain ⟨rfl, rfl, rfl, rfl⟩ := H
              have hnb51 := NB325_343.out
              have hnc51 := NB343_325.out
              have hnb52 := NB325_344.out
              have hnc52 := NB344_325.out
              have hcz53_0 : wc.cell? ⟨gb325, 0, none⟩ = some (.int .i64 x326000_1) := (blk_cell BK325.out 0).trans rfl
              have hcz53_1 : wc.cell? ⟨gb325, 1, none⟩ = some (.int .i64 x326001_1) := (blk_cell BK325.out 1).trans rfl
              have hcz53_2 : wc.cell? ⟨gb325, 2, none⟩ = some (.string x326002_1) := (blk_cell BK325.out 2).trans rfl
              have hfz53_0 := blk_frozen BK325.out 0
              have hfz53_1 := blk_frozen BK325.out 1
              have hfz53_2 := blk_frozen BK325.out 2
              go_wp2
              refine bodyPost_ret (results_ct rfl _ _ gb325 23 #[.int .i64 0, .int .i64 0, .string (⟨#[]⟩ : ByteArray)] (0, 0) _ rfl (bp_ BK325) Try.underlying23 rfl (by kernel_rfl)) rfl ?_
              exact ⟨by first | rfl | (simp [errW_none, errW_some] <;> rfl) | (simp only [← hji23, ← hji26]; first | rfl | (simp [errW_none, errW_some] <;> rfl)) | (simp [*, errW_none, errW_some] <;> rfl), by repeat (first | (with_reducible first | exact HB.out | apply below_alloc | apply pw_below_drewN | apply below_drew1 | refine below_set ?_ GE325.out | refine below_set ?_ GE343.out | refine below_set ?_ GE344.out) | exact HB.out)⟩
             ·replace c50 := Bool.eq_false_iff.mpr c50
              subst c50
              rw [if_neg (show ¬ (false = true) by decide)] at H
              by_cases c54 : 0 ≤ x7_1
              ·rw [if_pos c54] at H
               have c54b0 : decide (0 ≤ x7_1) = true := decide_eq_true c54
               clear c54
               by_cases c55 : x7_1 < (l0.length : Int)
               ·rw [if_pos c55] at H
                have c55b0 : decide (x7_1 < (l0.length : Int)) = true := decide_eq_true c55
                clear c55
                replace H := Option.bind_eq_some_iff.mp H
                obtain ⟨⟨t346, t347⟩, A560, H⟩ := H
                try dsimp only at H
                have A56 := Aside0.mk A560
                clear A560
                by_cases c57 : t347 = 0
                ·rw [if_pos c57] at H
                 obtain ⟨c57b0, c57b1⟩ := eqB_ c57
                 clear c57
                 replace H : (if 0 ≤ (ji23) then (if (ji23) ≤ (x6_1.length : Int) then ((some (x6_1.take ((ji23) : Int).toNat : List (S23))).bind fun y348 => (if y348.length < 4398046511104 then (constableref01_Eval.l0 kj28 l0 l1 (y348 ++ [(⟨1, t346, (⟨#[]⟩ : ByteArray)⟩ : S23)]) (wrap64 (x7_1 + 1))) else (none))) else (none)) else (none)) = some (r1, r2, r3, r4) := by first | (rw [hji23] at H; exact H) | (simp only [hji23] at H ⊢; exact H)
                 (try rw [hji23] at A56)
                 have hji23w : (IntKind.i64.wrap ((x6_1.length : Int) - 2)) = ji23 := (i64_w _).trans hji23
                 by_cases c59 : 0 ≤ (ji23)
                 ·rw [if_pos c59] at H
                  have c59b0 := eq_true c59
                  have c59b1 : decide (0 ≤ (ji23)) = true := decide_eq_true c59
                  clear c59
                  by_cases c60 : (ji23) ≤ (x6_1.length : Int)
                  ·rw [if_pos c60] at H
                   have c60b0 := eq_true c60
                   have c60b1 : decide ((ji23) ≤ (x6_1.length : Int)) = true := decide_eq_true c60
                   clear c60
                   obtain ⟨y348, hy348⟩ : ∃ y_ : List (S23), y_ = (x6_1.take ((ji23) : Int).toNat) := ⟨_, rfl⟩
                   replace H : (if y348.length < 4398046511104 then (constableref01_Eval.l0 kj28 l0 l1 (y348 ++ [(⟨1, t346, (⟨#[]⟩ : ByteArray)⟩ : S23)]) (wrap64 (x7_1 + 1))) else (none)) = some (r1, r2, r3, r4) := by first | (rw [hy348]; with_reducible exact H) | (have H2_ := (Option.bind_some _ _).symm.trans H; rw [hy348]; with_reducible exact H2_) | (have H2_ := (Option.bind_some _ _).symm.trans H; with_reducible exact H2_) | with_reducible exact H | (rw [hy348]; exact H) | exact H
                   have Ny348 := Aside0.mk hy348
                   clear hy348
                   by_cases c61 : y348.length < 4398046511104
                   ·rw [if_pos c61] at H
                    have LMc61 := Aside0.mk c61
                    clear c61
                    obtain ⟨y351, hy351⟩ : ∃ y_ : List (S23), y_ = (y348 ++ [(⟨1, t346, (⟨#[]⟩ : ByteArray)⟩ : S23)]) := ⟨_, rfl⟩
                    replace H : (constableref01_Eval.l0 kj28 l0 l1 y351 (wrap64 (x7_1 + 1))) = some (r1, r2, r3, r4) := by first | (rw [hy351]; with_reducible exact H) | (have H2_ := (Option.bind_some _ _).symm.trans H; rw [hy351]; with_reducible exact H2_) | (have H2_ := (Option.bind_some _ _).symm.trans H; with_reducible exact H2_) | with_reducible exact H | (rw [hy351]; exact H) | exact H
                    have Ny351 := Aside0.mk hy351
                    clear hy351
                    have H' := Aside0.mk H
                    clear H
                    try go_wp2
                    have n0_ := Aside0.mk (Kd.R_drew HO_6.out)
                    have n1_ := Aside0.mk (blk_drew BK325.out)
                    have n2_ := Aside0.mk (blk_drew BK343.out)
                    have n3_ := Aside0.mk (blk_drew BK344.out)
                    have n4_ := Aside0.mk (below_drew1 HB.out)
                    clear HO_6
                    clear BK325
                    clear BK343
                    clear BK344
                    clear HB
                    have HO_6 := n0_
                    have BK325 := n1_
                    have BK343 := n2_
                    have BK344 := n3_
                    have HB := n4_
                    clear n0_ n1_ n2_ n3_ n4_
                    have p345 : 0 ≤ (x7_1 : Int) := dt_
                    have q345 : x7_1 < (l0.length : Int) := dt_
                    obtain ⟨ad345, e345, hx345_0, hx345_1, hx345_2, hx345_3, hx345_4⟩ := at_T67 HR0.out x7_1 p345 q345
                    have hw345_4 := hx345_4
                    have hw345_3 := hx345_3
                    have hw345_2 := hx345_2
                    have hw345_1 := hx345_1
                    have hw345_0 := hx345_0
                    obtain rfl : ad327 = ad345 := (by injection e345)
                    replace hx345_0 := cm_ HB hx345_0
                    replace hx345_1 := cm_ HB hx345_1
                    replace hx345_2 := cm_ HB hx345_2
                    replace hx345_3 := cm_ HB hx345_3
                    replace hx345_4 := cm_ HB hx345_4
                    replace p345 := eq_true p345
                    replace q345 := eq_true q345
                    refine start_ (n := 15) (S := fun w' => w'.cell? ⟨gb343, 0, none⟩ = some (.int .i64 ((rd_T23 x6_1 (ji23)).f0)) ∧ w'.cell? ⟨gb343, 1, none⟩ = some (.int .i64 ((rd_T23 x6_1 (ji23)).f1)) ∧ w'.cell? ⟨gb343, 2, none⟩ = some (.string ((rd_T23 x6_1 (ji23)).f2)) ∧ w'.cell? ⟨gb344, 0, none⟩ = some (.int .i64 ((rd_T23 x6_1 (ji26)).f0)) ∧ w'.cell? ⟨gb344, 1, none⟩ = some (.int .i64 ((rd_T23 x6_1 (ji26)).f1)) ∧ w'.cell? ⟨gb344, 2, none⟩ = some (.string ((rd_T23 x6_1 (ji26)).f2)) ∧ w'.cell? (ad327.add ((x7_1).toNat * 5)) = some (.int .i64 ((rd_T67 l0 x7_1).f0)) ∧ w'.cell? ⟨(ad327.add ((x7_1).toNat * 5)).block, (ad327.add ((x7_1).toNat * 5)).off + 1, none⟩ = some (.string ((rd_T67 l0 x7_1).f1)) ∧ w'.cell? ⟨(ad327.add ((x7_1).toNat * 5)).block, (ad327.add ((x7_1).toNat * 5)).off + 2, none⟩ = some (.int .i64 ((rd_T67 l0 x7_1).f2.f0)) ∧ w'.cell? ⟨(ad327.add ((x7_1).toNat * 5)).block, (ad327.add ((x7_1).toNat * 5)).off + 3, none⟩ = some (.int .i64 ((rd_T67 l0 x7_1).f2.f1)) ∧ w'.cell? ⟨(ad327.add ((x7_1).toNat * 5)).block, (ad327.add ((x7_1).toNat * 5)).off + 4, none⟩ = some (.string ((rd_T67 l0 x7_1).f2.f2))) (ds := []) (mk_ 15 0) (by kernel_rfl) rfl rfl ⟨(blk_cell BK343.out 0).trans rfl, (blk_cell BK343.out 1).trans rfl, (blk_cell BK343.out 2).trans rfl, (blk_cell BK344.out 0).trans rfl, (blk_cell BK344.out 1).trans rfl, (blk_cell BK344.out 2).trans rfl, (cl_ HB hw345_0), (cl_ HB hw345_1), (cl_ HB hw345_2), (cl_ HB hw345_3), (cl_ HB hw345_4)⟩ (fun hHeld => ?_); refine with_tabW constableref01_Eval.tab9 constableref01_Eval.bits9 (fun HT_ HW_ => ?_)
                    generalize wc.drew = w62 at HO_6 BK325 BK343 BK344 HB hx345_0 hx345_1 hx345_2 hx345_3 hx345_4 hHeld ⊢
                    refine pu_ 0 47 1 HT_ ?_; refine pu_ 1 48 3 HT_ ?_; refine pu_ 2 49 7 HT_ ?_; refine pu_ 3 50 15 HT_ ?_; refine pu_ 5 52 47 HT_ ?_; refine pu_ 7 54 175 HT_ ?_; refine tk_ 4 51 191 HT_ HW_ hHeld ?_; refine tk_ 6 53 255 HT_ HW_ hHeld ?_; refine tk_ 8 55 511 HT_ HW_ hHeld ?_
                    refine one_ (i := 9) (N := some 56) (mk_ 15 1023) rfl rfl (one_of HT_.out (by kernel_rfl)) (by decide) (fun K hK => ?_)
                    refine goes_ Try.func52 (by kernel_rfl) rfl #[.int .i64 ((rd_T67 l0 x7_1).f0), .int .i64 ((rd_T23 x6_1 (ji23)).f1), .int .i64 ((rd_T23 x6_1 (ji26)).f1)] (by rfl) rfl rfl (by (try simp only [List.map_toArray, List.map_cons, List.map_nil]); first | done | (simp only [hji23, hji26]; rfl) | rfl | (simp only [List.length_drop, List.length_take]; rfl)) ?_
                    with_reducible refine (constableref01_Do.calls kj28 ((rd_T67 l0 x7_1).f0) ((rd_T23 x6_1 (ji23)).f1) ((rd_T23 x6_1 (ji26)).f1) t346 t347 _ A56.out).mono ?_
                    rintro e w63 ⟨rfl, hb⟩
                    refine ⟨_, rfl, ?_⟩
                    have n0_ := kb_ (ku_ HO_6.out) hb
                    have n1_ := bb_ (bu_ BK325) hb
                    have n2_ := bb_ (bu_ BK343) hb
                    have n3_ := bb_ (bu_ BK344) hb
                    have n4_ := bs_ (be_ HB) hb
                    clear HO_6
                    clear BK325
                    clear BK343
                    clear BK344
                    clear HB
                    have HO_6 := n0_
                    have BK325 := n1_
                    have BK343 := n2_
                    have BK344 := n3_
                    have HB := n4_
                    clear n0_ n1_ n2_ n3_ n4_
                    (try clear hb)
                    (try clear hb2)
                    (try clear hk)
                    (try clear hi)
                    refine hK.out _ _ ⟨(blk_cell BK343.out 0).trans rfl, (blk_cell BK343.out 1).trans rfl, (blk_cell BK343.out 2).trans rfl, (blk_cell BK344.out 0).trans rfl, (blk_cell BK344.out 1).trans rfl, (blk_cell BK344.out 2).trans rfl, (cl_ HB hw345_0), (cl_ HB hw345_1), (cl_ HB hw345_2), (cl_ HB hw345_3), (cl_ HB hw345_4)⟩ (fun hHeld => ?_)
                    clear hK K
                    refine nm_ 56 ?_; refine pu_ 10 46 2047 HT_ ?_; refine pu_ 11 57 4095 HT_ ?_; refine pu_ 12 58 8191 HT_ ?_; refine pu_ 13 12 16383 HT_ ?_; refine pu_ 14 13 32767 HT_ ?_
                    refine done_ (done_of HT_.out (by kernel_rfl)) ?_
                    have q64 : ((ji23) : Int) ≤ ((x6_1.length : Int) : Int) := dt_
                    obtain ⟨i064, hi064, _, hsz64, _⟩ := info_parts info23
                    have hcut64 := cut_to (P := Try.prog) 69 23 .i64 Try.underlying69 hi064 (some ad341) x6_1.length co31 (ji23) dt_ q64 (Kd.R_reads' HO_6.out).2.1
                    have hr64 := Kd.R_take (m := ((ji23) : Int).toNat) HO_6.out (by omega)
                    have hy64 : y348.length = ((ji23) : Int).toNat := (by rw [Ny348.out, List.length_take]; omega)
                    rw [← Ny348.out] at hr64
                    rw [← hy64] at hr64 hcut64
                    clear hy64 hi064 hsz64 HO_6
                    have HO350 := Aside0.mk hr64
                    clear hr64
                    replace q64 := eq_true q64
                    try go_wp2_with (first | ((with_reducible refine gate_builtin (b := .append) (xs := #[.tmp 67, .tmp 70]) rfl ?_); at_builtin; refine Kd.R_append k23 (w0 := w) w.heap.size rfl (.tmp 67) (.tmp 70) 69 23 (.agg #[(.int .i64 0), (.int .i64 0), (.string ⟨#[]⟩)]) 32 rfl Try.underlying69 info23 rfl (by decide) (by omega) (.slice (some ad341) y348.length co31) y348 (⟨1, t346, (⟨#[]⟩ : ByteArray)⟩ : S23) [.int .i64 1, .int .i64 t346, .string (⟨#[]⟩ : ByteArray)] (fun k_ => k_ ≠ gb325 ∧ k_ ≠ gb343 ∧ k_ ≠ gb344) (fun _ => False) rfl rfl ?aP (fun _ hk => hk.elim) ?aF ?aO ?aB ?aS ?aL ?_; (case aP => exact k23_mkM _ _ _ (⟨1, t346, (⟨#[]⟩ : ByteArray)⟩ : S23)); (case aB => exact (be_ HB)); (case aF => exact (fun k_ hk => ⟨Kd.freshB (bu_ BK325) k_ hk, Kd.freshB (bu_ BK343) k_ hk, Kd.freshB (bu_ BK344) k_ hk⟩)); (case aO => exact (ku_ HO350.out)); (case aS => exact (below_size (be_ HB))); (case aL => have := LMc61.out; omega); intro v352 w65 ho hb hg hat; rw [← Ny351.out] at ho; have n0_ := Aside0.mk (blk_grown (bu_ BK325) hg (Kd.R_away HO350.out (fun _ hk => hk.1))); have n1_ := Aside0.mk (blk_grown (bu_ BK343) hg (Kd.R_away HO350.out (fun _ hk => hk.2.1))); have n2_ := Aside0.mk (blk_grown (bu_ BK344) hg (Kd.R_away HO350.out (fun _ hk => hk.2.2))); have n3_ := Aside0.mk (hb); have n4_ := Aside0.mk (ho); clear BK325; clear BK343; clear BK344; clear HB; clear HO350; have BK325 := n0_; have BK343 := n1_; have BK344 := n2_; have HB := n3_; have HO353 := n4_; clear n0_ n1_ n2_ n3_ n4_; clear ho hb hg hat))
                    go_roundg kj28
                    case measure => have := HK1.out; have := HJ28.out; omega
                    case rel => exact ⟨(y351), (wrap64 (x7_1 + 1)), (x326000_1), (x326001_1), (x326002_1), ra_, H', ⟨by have := HK1.out; have := HJ28.out; omega⟩, mR_ (Kd.R_mono HO353.out (fun _ hk => hk.1)), bu2_ BK325, be2_ HB⟩
                   ·rw [if_neg c61] at H
                    exact absurd H (by simp)
                  ·rw [if_neg c60] at H
                   exact absurd H (by simp)
                 ·rw [if_neg c59] at H
                  exact absurd H (by simp)
                ·rw [if_neg c57] at H
                 obtain ⟨c57b0, c57b1⟩ := neB_ c57
                 simp only [Option.some.injEq, Prod.mk.injEq] at H
                 obtain ⟨rfl, rfl, rfl, rfl⟩ := H
                 try go_wp2
                 have n0_ := Aside0.mk (Kd.R_drew HO_6.out)
                 have n1_ := Aside0.mk (blk_drew BK325.out)
                 have n2_ := Aside0.mk (blk_drew BK343.out)
                 have n3_ := Aside0.mk (blk_drew BK344.out)
                 have n4_ := Aside0.mk (below_drew1 HB.out)
                 clear HO_6
                 clear BK325
                 clear BK343
                 clear BK344
                 clear HB
                 have HO_6 := n0_
                 have BK325 := n1_
                 have BK343 := n2_
                 have BK344 := n3_
                 have HB := n4_
                 clear n0_ n1_ n2_ n3_ n4_
                 have p345 : 0 ≤ (x7_1 : Int) := dt_
                 have q345 : x7_1 < (l0.length : Int) := dt_
                 obtain ⟨ad345, e345, hx345_0, hx345_1, hx345_2, hx345_3, hx345_4⟩ := at_T67 HR0.out x7_1 p345 q345
                 have hw345_4 := hx345_4
                 have hw345_3 := hx345_3
                 have hw345_2 := hx345_2
                 have hw345_1 := hx345_1
                 have hw345_0 := hx345_0
                 obtain rfl : ad327 = ad345 := (by injection e345)
                 replace hx345_0 := cm_ HB hx345_0
                 replace hx345_1 := cm_ HB hx345_1
                 replace hx345_2 := cm_ HB hx345_2
                 replace hx345_3 := cm_ HB hx345_3
                 replace hx345_4 := cm_ HB hx345_4
                 replace p345 := eq_true p345
                 replace q345 := eq_true q345
                 refine start_ (n := 15) (S := fun w' => w'.cell? ⟨gb343, 0, none⟩ = some (.int .i64 ((rd_T23 x6_1 (ji23)).f0)) ∧ w'.cell? ⟨gb343, 1, none⟩ = some (.int .i64 ((rd_T23 x6_1 (ji23)).f1)) ∧ w'.cell? ⟨gb343, 2, none⟩ = some (.string ((rd_T23 x6_1 (ji23)).f2)) ∧ w'.cell? ⟨gb344, 0, none⟩ = some (.int .i64 ((rd_T23 x6_1 (ji26)).f0)) ∧ w'.cell? ⟨gb344, 1, none⟩ = some (.int .i64 ((rd_T23 x6_1 (ji26)).f1)) ∧ w'.cell? ⟨gb344, 2, none⟩ = some (.string ((rd_T23 x6_1 (ji26)).f2)) ∧ w'.cell? (ad327.add ((x7_1).toNat * 5)) = some (.int .i64 ((rd_T67 l0 x7_1).f0)) ∧ w'.cell? ⟨(ad327.add ((x7_1).toNat * 5)).block, (ad327.add ((x7_1).toNat * 5)).off + 1, none⟩ = some (.string ((rd_T67 l0 x7_1).f1)) ∧ w'.cell? ⟨(ad327.add ((x7_1).toNat * 5)).block, (ad327.add ((x7_1).toNat * 5)).off + 2, none⟩ = some (.int .i64 ((rd_T67 l0 x7_1).f2.f0)) ∧ w'.cell? ⟨(ad327.add ((x7_1).toNat * 5)).block, (ad327.add ((x7_1).toNat * 5)).off + 3, none⟩ = some (.int .i64 ((rd_T67 l0 x7_1).f2.f1)) ∧ w'.cell? ⟨(ad327.add ((x7_1).toNat * 5)).block, (ad327.add ((x7_1).toNat * 5)).off + 4, none⟩ = some (.string ((rd_T67 l0 x7_1).f2.f2))) (ds := []) (mk_ 15 0) (by kernel_rfl) rfl rfl ⟨(blk_cell BK343.out 0).trans rfl, (blk_cell BK343.out 1).trans rfl, (blk_cell BK343.out 2).trans rfl, (blk_cell BK344.out 0).trans rfl, (blk_cell BK344.out 1).trans rfl, (blk_cell BK344.out 2).trans rfl, (cl_ HB hw345_0), (cl_ HB hw345_1), (cl_ HB hw345_2), (cl_ HB hw345_3), (cl_ HB hw345_4)⟩ (fun hHeld => ?_); refine with_tabW constableref01_Eval.tab9 constableref01_Eval.bits9 (fun HT_ HW_ => ?_)
                 generalize wc.drew = w66 at HO_6 BK325 BK343 BK344 HB hx345_0 hx345_1 hx345_2 hx345_3 hx345_4 hHeld ⊢
                 refine pu_ 0 47 1 HT_ ?_; refine pu_ 1 48 3 HT_ ?_; refine pu_ 2 49 7 HT_ ?_; refine pu_ 3 50 15 HT_ ?_; refine pu_ 5 52 47 HT_ ?_; refine pu_ 7 54 175 HT_ ?_; refine tk_ 4 51 191 HT_ HW_ hHeld ?_; refine tk_ 6 53 255 HT_ HW_ hHeld ?_; refine tk_ 8 55 511 HT_ HW_ hHeld ?_
                 refine one_ (i := 9) (N := some 56) (mk_ 15 1023) rfl rfl (one_of HT_.out (by kernel_rfl)) (by decide) (fun K hK => ?_)
                 refine goes_ Try.func52 (by kernel_rfl) rfl #[.int .i64 ((rd_T67 l0 x7_1).f0), .int .i64 ((rd_T23 x6_1 (ji23)).f1), .int .i64 ((rd_T23 x6_1 (ji26)).f1)] (by rfl) rfl rfl (by (try simp only [List.map_toArray, List.map_cons, List.map_nil]); first | done | (simp only [hji23, hji26]; rfl) | rfl | (simp only [List.length_drop, List.length_take]; rfl)) ?_
                 with_reducible refine (constableref01_Do.calls kj28 ((rd_T67 l0 x7_1).f0) ((rd_T23 x6_1 (ji23)).f1) ((rd_T23 x6_1 (ji26)).f1) t346 t347 _ A56.out).mono ?_
                 rintro e w67 ⟨rfl, hb⟩
                 refine ⟨_, rfl, ?_⟩
                 have n0_ := kb_ (ku_ HO_6.out) hb
                 have n1_ := bb_ (bu_ BK325) hb
                 have n2_ := bb_ (bu_ BK343) hb
                 have n3_ := bb_ (bu_ BK344) hb
                 have n4_ := bs_ (be_ HB) hb
                 clear HO_6
                 clear BK325
                 clear BK343
                 clear BK344
                 clear HB
                 have HO_6 := n0_
                 have BK325 := n1_
                 have BK343 := n2_
                 have BK344 := n3_
                 have HB := n4_
                 clear n0_ n1_ n2_ n3_ n4_
                 (try clear hb)
                 (try clear hb2)
                 (try clear hk)
                 (try clear hi)
                 refine hK.out _ _ ⟨(blk_cell BK343.out 0).trans rfl, (blk_cell BK343.out 1).trans rfl, (blk_cell BK343.out 2).trans rfl, (blk_cell BK344.out 0).trans rfl, (blk_cell BK344.out 1).trans rfl, (blk_cell BK344.out 2).trans rfl, (cl_ HB hw345_0), (cl_ HB hw345_1), (cl_ HB hw345_2), (cl_ HB hw345_3), (cl_ HB hw345_4)⟩ (fun hHeld => ?_)
                 clear hK K
                 refine nm_ 56 ?_; refine pu_ 10 46 2047 HT_ ?_; refine pu_ 11 57 4095 HT_ ?_; refine pu_ 12 58 8191 HT_ ?_; refine pu_ 13 12 16383 HT_ ?_; refine pu_ 14 13 32767 HT_ ?_
                 refine done_ (done_of HT_.out (by kernel_rfl)) ?_
                 have hnb68 := NB325_343.out
                 have hnc68 := NB343_325.out
                 have hnb69 := NB325_344.out
                 have hnc69 := NB344_325.out
                 have hcz70_0 : w67.cell? ⟨gb325, 0, none⟩ = some (.int .i64 x326000_1) := (blk_cell BK325.out 0).trans rfl
                 have hcz70_1 : w67.cell? ⟨gb325, 1, none⟩ = some (.int .i64 x326001_1) := (blk_cell BK325.out 1).trans rfl
                 have hcz70_2 : w67.cell? ⟨gb325, 2, none⟩ = some (.string x326002_1) := (blk_cell BK325.out 2).trans rfl
                 have hfz70_0 := blk_frozen BK325.out 0
                 have hfz70_1 := blk_frozen BK325.out 1
                 have hfz70_2 := blk_frozen BK325.out 2
                 try go_wp2
                 refine bodyPost_ret (results_ct rfl _ _ gb325 23 #[.int .i64 0, .int .i64 0, .string (⟨#[]⟩ : ByteArray)] (0, 0) _ rfl (bp_ BK325) Try.underlying23 rfl (by kernel_rfl)) rfl ?_
                 exact ⟨by first | rfl | (simp [errW_none, errW_some] <;> rfl) | (simp only [← hji23, ← hji26]; first | rfl | (simp [errW_none, errW_some] <;> rfl)) | (simp [*, errW_none, errW_some] <;> rfl), by repeat (first | (with_reducible first | exact HB.out | apply below_alloc | apply pw_below_drewN | apply below_drew1 | refine below_set ?_ GE325.out | refine below_set ?_ GE343.out | refine below_set ?_ GE344.out) | exact HB.out)⟩
               ·rw [if_neg c55] at H
                exact absurd H (by simp)
              ·rw [if_neg c54] at H
               exact absurd H (by simp)
          ·rw [if_neg c28] at H
           exact absurd H (by simp)
         ·rw [if_neg c27] at H
          exact absurd H (by simp)
        ·rw [if_neg c25] at H
         exact absurd H (by simp)
       ·rw [if_neg c24] at H
        exact absurd H (by simp)
    ·rw [if_neg c5] at H
     exact absurd H (by simp)
   ·rw [if_neg c4] at H
    have c4b0 : decide (x7_1 < (l0.length : Int)) = false := decide_eq_false c4
    clear c4
    by_cases c71 : 0 < (x6_1.length : Int)
    ·rw [if_pos c71] at H
     have c71b0 : decide (0 < (x6_1.length : Int)) = true := decide_eq_true c71
     have c71b1 : decide (0 < x6_1.length) = true := decide_eq_true (by omega)
     clear c71
     simp only [Option.some.injEq, Prod.mk.injEq] at H
     obtain ⟨rfl, rfl, rfl, rfl⟩ := H
     obtain ⟨Ao72, co72, eo72⟩ := Kd.R_slice HO_6.out
     subst eo72
     have p326 : 0 ≤ (0 : Int) := (by omega)
     have q326 : 0 < (x6_1.length : Int) := dt_
     obtain ⟨ad326, e326, hx326_0, hx326_1, hx326_2⟩ := at_T23 (Kd.R_reads' HO_6.out).2.2 0 p326 q326
     cases e326
     have qi326 : (0 < x6_1.length) = True := eq_true (by omega)
     (try rw [show ((0 : Int)).toNat = 0 from rfl] at hx326_0)
     (try rw [show 0 * 3 = 0 from rfl] at hx326_0)
     (try rw [Addr.add_zero'] at hx326_0)
     (try rw [show ((0 : Int)).toNat = 0 from rfl] at hx326_1)
     (try rw [show 0 * 3 = 0 from rfl] at hx326_1)
     (try rw [Addr.add_zero'] at hx326_1)
     (try rw [show ((0 : Int)).toNat = 0 from rfl] at hx326_2)
     (try rw [show 0 * 3 = 0 from rfl] at hx326_2)
     (try rw [Addr.add_zero'] at hx326_2)
     replace p326 := eq_true p326
     replace q326 := eq_true q326
     have hcz73_0 : wr.cell? ⟨gb325, 0, none⟩ = some (.int .i64 x326000_1) := (blk_cell BK325.out 0).trans rfl
     have hcz73_1 : wr.cell? ⟨gb325, 1, none⟩ = some (.int .i64 x326001_1) := (blk_cell BK325.out 1).trans rfl
     have hcz73_2 : wr.cell? ⟨gb325, 2, none⟩ = some (.string x326002_1) := (blk_cell BK325.out 2).trans rfl
     have hfz73_0 := blk_frozen BK325.out 0
     have hfz73_1 := blk_frozen BK325.out 1
     have hfz73_2 := blk_frozen BK325.out 2
     go_wp2
     refine bodyPost_ret (results_ct rfl _ _ gb325 23 #[.int .i64 ((rd_T23 x6_1 0).f0), .int .i64 ((rd_T23 x6_1 0).f1), .string ((rd_T23 x6_1 0).f2)] (0, 0) _ rfl (bp_ BK325) Try.underlying23 rfl (by kernel_rfl)) rfl ?_
     exact ⟨re_, be_ HB⟩
    ·rw [if_neg c71] at H
     exact absurd H (by simp)
end Go.Proofs.Ytaopajmpifenoaa.P
end
section
namespace Go.Proofs.Ytaopajmpifenoaa.P
open Go.RowKit Go.Proofs.YtaopajmpifenoaaW.PrintWords Go.Proofs.YtaopajmpifenoaaW.PrintLast Go.Proofs.YtaopajmpifenoaaW.PrintMore
attribute [local go_sem] max2_int min2_int max_two min_two max_three min_three max_four min_four
set_option linter.unusedVariables false
set_option linter.unusedSimpArgs false
def constableref01_Test.f (k : Nat) (a0_0 : Int) (a0_1 : ByteArray) (l0_2 : List (S72)) (a0_3 : Int) (l0_4 : List (S67)) (l0_5 : List (S67)) (l1 : List (S54)) : Option (Bool × Int) := (constableref01_Eval.f k l0_4 l1).bind fun bt355 => (if bt355.2.2.2 = 0 then ((constableref01_Eval.f k l0_5 l1).bind fun bt360 => (if bt360.2.2.2 = 0 then ((constableref01_Holds.f k a0_3 bt355.1 bt355.2.1 bt355.2.2.1 bt360.1 bt360.2.1 bt360.2.2.1).bind fun bt365 => (some (bt365.1, bt365.2))) else (some (false, bt360.2.2.2)))) else (some (false, bt355.2.2.2)))
theorem constableref01_Test.mono : ∀ a0 a1 a2 a3 a4 a5 a6 k, LeO (constableref01_Test.f k a0 a1 a2 a3 a4 a5 a6) (constableref01_Test.f (k + 1) a0 a1 a2 a3 a4 a5 a6) := by
 intro a0 a1 a2 a3 a4 a5 a6 k
 unfold constableref01_Test.f
 repeat' first
   | (with_reducible exact constableref01_Eval.mono ..)
   | (with_reducible exact constableref01_Holds.mono ..)
   | (with_reducible exact LeO.refl _)
   | (with_reducible exact LeO.none _)
   | (with_reducible refine LeO.ite ?_ ?_)
   | (with_reducible refine LeO.bind ?_ (fun _ => ?_))
   | exact constableref01_Eval.mono ..
   | exact constableref01_Holds.mono ..
   | exact LeO.none _
   | refine LeO.ite ?_ ?_
   | refine LeO.bind ?_ (fun _ => ?_)
set_option maxHeartbeats 8000000 in
set_option maxRecDepth 100000 in
theorem constableref01_Test.calls (k : Nat) (a0_0 : Int) (a0_1 : ByteArray) (A0_2 : Option Addr) (c0_2 : Nat) (l0_2 : List (S72)) (a0_3 : Int) (A0_4 : Option Addr) (c0_4 : Nat) (l0_4 : List (S67)) (A0_5 : Option Addr) (c0_5 : Nat) (l0_5 : List (S67)) (A1 : Option Addr) (c1 : Nat) (l1 : List (S54)) (r1 : Bool) (r2 : Int) (w : World) (hr0_2 : Kd.C k72 w A0_2 l0_2.length l0_2) (hc0_2 : l0_2.length ≤ c0_2) (hr0_4 : Kd.C k67 w A0_4 l0_4.length l0_4) (hc0_4 : l0_4.length ≤ c0_4) (hr0_5 : Kd.C k67 w A0_5 l0_5.length l0_5) (hc0_5 : l0_5.length ≤ c0_5) (hr1 : Kd.C k54 w A1 l1.length l1) (hc1 : l1.length ≤ c1) (h : constableref01_Test.f k a0_0 a0_1 l0_2 a0_3 l0_4 l0_5 l1 = some (r1, r2)) :
  Calls Try.prog 18 #[.agg #[.int .i64 a0_0, .string a0_1, .slice A0_2 l0_2.length c0_2, .int .i64 a0_3, .slice A0_4 l0_4.length c0_4, .slice A0_5 l0_5.length c0_5], .slice A1 l1.length c1] w fun e w' => e = .returned (.tuple #[.bool r1, .int .i64 r2]) ∧ Below w.heap.size w w' := by
 have hu29 := Try.underlying29
 have hu23 := Try.underlying23
 have HR0_2 := Aside0.mk hr0_2
 have HC0_2 := Aside0.mk hc0_2
 clear hr0_2 hc0_2
 have HR0_4 := Aside0.mk hr0_4
 have HC0_4 := Aside0.mk hc0_4
 clear hr0_4 hc0_4
 have HR0_5 := Aside0.mk hr0_5
 have HC0_5 := Aside0.mk hc0_5
 clear hr0_5 hc0_5
 have HR1 := Aside0.mk hr1
 have HC1 := Aside0.mk hc1
 clear hr1 hc1
 have HB := Aside0.mk (Below.refl w.heap.size w)
 have H : ((constableref01_Eval.f k l0_4 l1).bind fun bt355 => (if bt355.2.2.2 = 0 then ((constableref01_Eval.f k l0_5 l1).bind fun bt360 => (if bt360.2.2.2 = 0 then ((constableref01_Holds.f k a0_3 bt355.1 bt355.2.1 bt355.2.2.1 bt360.1 bt360.2.1 bt360.2.2.1).bind fun bt365 => (some (bt365.1, bt365.2))) else (some (false, bt360.2.2.2)))) else (some (false, bt355.2.2.2)))) = some (r1, r2) := h
 clear h
 replace H := Option.bind_eq_some_iff.mp H
 obtain ⟨⟨t355, t356, t357, t358⟩, A30, H⟩ := H
 try dsimp only at H
 have A3 := Aside0.mk A30
 clear A30
 by_cases c4 : t358 = 0
 ·rw [if_pos c4] at H
  obtain ⟨c4b0, c4b1⟩ := eqB_ c4
  clear c4
  replace H := Option.bind_eq_some_iff.mp H
  obtain ⟨⟨t360, t361, t362, t363⟩, A50, H⟩ := H
  try dsimp only at H
  have A5 := Aside0.mk A50
  clear A50
  by_cases c6 : t363 = 0
  ·rw [if_pos c6] at H
   obtain ⟨c6b0, c6b1⟩ := eqB_ c6
   clear c6
   replace H := Option.bind_eq_some_iff.mp H
   obtain ⟨⟨t365, t366⟩, A70, H⟩ := H
   try dsimp only at H
   have A7 := Aside0.mk A70
   clear A70
   simp only [Option.some.injEq, Prod.mk.injEq] at H
   obtain ⟨rfl, rfl⟩ := H
   go_enter Try.func18, Try.ntmps18
   go_wp2_with (first | ((with_reducible refine gate_dst (N := 2) rfl ?_); refine box_event ?hg (N := 2) ?hd (cs := #[.int .i64 a0_0, .string a0_1, .slice A0_2 l0_2.length c0_2, .int .i64 a0_3, .slice A0_4 l0_4.length c0_4, .slice A0_5 l0_5.length c0_5]) (t := 29) ?hr ?_; (case hd => rfl); (case hg => rfl); (case hr => first | (go_simp; done) | (go_simp; rfl)); intro gb354 hg w8 hbox hb; have BK354 := Aside0.mk (hbox); have GW354 := gs_ hg (be_ HB); have GE354 := gs_ hg (be_ HB); replace HB := bs_ (be_ HB) hb; clear hb hbox hg; have hcz9_0 : w8.cell? ⟨gb354, 0, none⟩ = some (.int .i64 a0_0) := (blk_cell BK354.out 0).trans rfl; have hcz9_1 : w8.cell? ⟨gb354, 1, none⟩ = some (.string a0_1) := (blk_cell BK354.out 1).trans rfl; have hcz9_2 : w8.cell? ⟨gb354, 2, none⟩ = some (.slice A0_2 l0_2.length c0_2) := (blk_cell BK354.out 2).trans rfl; have hcz9_3 : w8.cell? ⟨gb354, 3, none⟩ = some (.int .i64 a0_3) := (blk_cell BK354.out 3).trans rfl; have hcz9_4 : w8.cell? ⟨gb354, 4, none⟩ = some (.slice A0_4 l0_4.length c0_4) := (blk_cell BK354.out 4).trans rfl; have hcz9_5 : w8.cell? ⟨gb354, 5, none⟩ = some (.slice A0_5 l0_5.length c0_5) := (blk_cell BK354.out 5).trans rfl; have hfz9_0 := blk_frozen BK354.out 0; have hfz9_1 := blk_frozen BK354.out 1; have hfz9_2 := blk_frozen BK354.out 2; have hfz9_3 := blk_frozen BK354.out 3; have hfz9_4 := blk_frozen BK354.out 4; have hfz9_5 := blk_frozen BK354.out 5) | ((with_reducible refine gate_callee (f := 36) rfl ?_); refine goesL_ (some 13) rfl rfl Try.func36 (by kernel_rfl) rfl #[.slice A0_4 l0_4.length c0_4, .slice A1 l1.length c1] rfl ga_ ?_; (with_reducible refine (constableref01_Eval.calls k _ _ l0_4 _ _ l1 t355 t356 t357 t358 _ ?side1 ?side2 ?side3 ?side4 A3.out).mono ?_); (case side1 => exact kd_ ((Kd.C_below HR0_4.out HB.out))); (case side2 => exact HC0_4.out); (case side3 => exact kd_ ((Kd.C_below HR1.out HB.out))); (case side4 => exact HC1.out); rintro e w10 ⟨rfl, hb⟩; refine ⟨_, rfl, ?_⟩; replace BK354 := bb_ (bu_ BK354) hb; replace HB := bs_ (be_ HB) hb; (try clear hb); (try clear hb2); (try clear hk); (try clear hi)) | ((with_reducible refine gate_dst (N := 6) rfl ?_); refine box_event ?hg (N := 6) ?hd (cs := #[.int .i64 0, .int .i64 0, .string (⟨#[]⟩ : ByteArray)]) (t := 23) ?hr ?_; (case hd => rfl); (case hg => rfl); (case hr => first | (go_simp; done) | (go_simp; rfl)); intro gb359 hg w11 hbox hb; have BK359 := Aside0.mk (hbox); have GW359 := gs_ hg (be_ HB); have GE359 := gs_ hg (be_ HB); replace HB := bs_ (be_ HB) hb; have NB354_359 := nl_ hg (bu_ BK354); have NB359_354 := ng_ hg (bu_ BK354); replace BK354 := bb_ (bu_ BK354) hb; clear hb hbox hg; have hnb12 := NB359_354.out; have hnc12 := NB354_359.out; have hcz13_0 : w11.cell? ⟨gb359, 0, none⟩ = some (.int .i64 0) := (blk_cell BK359.out 0).trans rfl; have hcz13_1 : w11.cell? ⟨gb359, 1, none⟩ = some (.int .i64 0) := (blk_cell BK359.out 1).trans rfl; have hcz13_2 : w11.cell? ⟨gb359, 2, none⟩ = some (.string (⟨#[]⟩ : ByteArray)) := (blk_cell BK359.out 2).trans rfl; have hfz13_0 := blk_frozen BK359.out 0; have hfz13_1 := blk_frozen BK359.out 1; have hfz13_2 := blk_frozen BK359.out 2; have hcz14_0 : w11.cell? ⟨gb354, 0, none⟩ = some (.int .i64 a0_0) := (blk_cell BK354.out 0).trans rfl; have hcz14_1 : w11.cell? ⟨gb354, 1, none⟩ = some (.string a0_1) := (blk_cell BK354.out 1).trans rfl; have hcz14_2 : w11.cell? ⟨gb354, 2, none⟩ = some (.slice A0_2 l0_2.length c0_2) := (blk_cell BK354.out 2).trans rfl; have hcz14_3 : w11.cell? ⟨gb354, 3, none⟩ = some (.int .i64 a0_3) := (blk_cell BK354.out 3).trans rfl; have hcz14_4 : w11.cell? ⟨gb354, 4, none⟩ = some (.slice A0_4 l0_4.length c0_4) := (blk_cell BK354.out 4).trans rfl; have hcz14_5 : w11.cell? ⟨gb354, 5, none⟩ = some (.slice A0_5 l0_5.length c0_5) := (blk_cell BK354.out 5).trans rfl; have hfz14_0 := blk_frozen BK354.out 0; have hfz14_1 := blk_frozen BK354.out 1; have hfz14_2 := blk_frozen BK354.out 2; have hfz14_3 := blk_frozen BK354.out 3; have hfz14_4 := blk_frozen BK354.out 4; have hfz14_5 := blk_frozen BK354.out 5) | ((with_reducible refine gate_callee (f := 36) rfl ?_); refine goesL_ (some 23) rfl rfl Try.func36 (by kernel_rfl) rfl #[.slice A0_5 l0_5.length c0_5, .slice A1 l1.length c1] rfl ga_ ?_; (with_reducible refine (constableref01_Eval.calls k _ _ l0_5 _ _ l1 t360 t361 t362 t363 _ ?side1 ?side2 ?side3 ?side4 A5.out).mono ?_); (case side1 => exact Kd.C_below HR0_5.out (be_ HB)); (case side2 => exact HC0_5.out); (case side3 => exact Kd.C_below HR1.out (be_ HB)); (case side4 => exact HC1.out); rintro e w15 ⟨rfl, hb⟩; refine ⟨_, rfl, ?_⟩; replace BK354 := bb_ (bu_ BK354) hb; replace BK359 := Aside0.mk (blk_below (o := .cells #[.int .i64 t355, .int .i64 t356, .string t357] 23 (0, 0)) (bp_ BK359) hb); replace HB := bs_ (be_ HB) hb; (try clear hb); (try clear hb2); (try clear hk); (try clear hi)) | ((with_reducible refine gate_dst (N := 8) rfl ?_); refine box_event ?hg (N := 8) ?hd (cs := #[.int .i64 0, .int .i64 0, .string (⟨#[]⟩ : ByteArray)]) (t := 23) ?hr ?_; (case hd => rfl); (case hg => rfl); (case hr => first | (go_simp; done) | (go_simp; rfl)); intro gb364 hg w16 hbox hb; have BK364 := Aside0.mk (hbox); have GW364 := gs_ hg (be_ HB); have GE364 := gs_ hg (be_ HB); replace HB := bs_ (be_ HB) hb; have NB354_364 := nl_ hg (bu_ BK354); have NB364_354 := ng_ hg (bu_ BK354); replace BK354 := bb_ (bu_ BK354) hb; have NB359_364 := nl_ hg (bu_ BK359); have NB364_359 := ng_ hg (bu_ BK359); replace BK359 := bb_ (bu_ BK359) hb; clear hb hbox hg; have hnb17 := NB364_354.out; have hnc17 := NB354_364.out; have hnb18 := NB364_359.out; have hnc18 := NB359_364.out; have hcz19_0 : w16.cell? ⟨gb364, 0, none⟩ = some (.int .i64 0) := (blk_cell BK364.out 0).trans rfl; have hcz19_1 : w16.cell? ⟨gb364, 1, none⟩ = some (.int .i64 0) := (blk_cell BK364.out 1).trans rfl; have hcz19_2 : w16.cell? ⟨gb364, 2, none⟩ = some (.string (⟨#[]⟩ : ByteArray)) := (blk_cell BK364.out 2).trans rfl; have hfz19_0 := blk_frozen BK364.out 0; have hfz19_1 := blk_frozen BK364.out 1; have hfz19_2 := blk_frozen BK364.out 2; have hcz20_0 : w16.cell? ⟨gb354, 0, none⟩ = some (.int .i64 a0_0) := (blk_cell BK354.out 0).trans rfl; have hcz20_1 : w16.cell? ⟨gb354, 1, none⟩ = some (.string a0_1) := (blk_cell BK354.out 1).trans rfl; have hcz20_2 : w16.cell? ⟨gb354, 2, none⟩ = some (.slice A0_2 l0_2.length c0_2) := (blk_cell BK354.out 2).trans rfl; have hcz20_3 : w16.cell? ⟨gb354, 3, none⟩ = some (.int .i64 a0_3) := (blk_cell BK354.out 3).trans rfl; have hcz20_4 : w16.cell? ⟨gb354, 4, none⟩ = some (.slice A0_4 l0_4.length c0_4) := (blk_cell BK354.out 4).trans rfl; have hcz20_5 : w16.cell? ⟨gb354, 5, none⟩ = some (.slice A0_5 l0_5.length c0_5) := (blk_cell BK354.out 5).trans rfl; have hfz20_0 := blk_frozen BK354.out 0; have hfz20_1 := blk_frozen BK354.out 1; have hfz20_2 := blk_frozen BK354.out 2; have hfz20_3 := blk_frozen BK354.out 3; have hfz20_4 := blk_frozen BK354.out 4; have hfz20_5 := blk_frozen BK354.out 5; have hcz21_0 : w16.cell? ⟨gb359, 0, none⟩ = some (.int .i64 t355) := (blk_cell BK359.out 0).trans rfl; have hcz21_1 : w16.cell? ⟨gb359, 1, none⟩ = some (.int .i64 t356) := (blk_cell BK359.out 1).trans rfl; have hcz21_2 : w16.cell? ⟨gb359, 2, none⟩ = some (.string t357) := (blk_cell BK359.out 2).trans rfl; have hfz21_0 := blk_frozen BK359.out 0; have hfz21_1 := blk_frozen BK359.out 1; have hfz21_2 := blk_frozen BK359.out 2) | ((with_reducible refine gate_callee (f := 11) rfl ?_); refine goesL_ (some 33) rfl rfl Try.func11 (by kernel_rfl) rfl #[.int .i64 a0_3, .agg #[.int .i64 t355, .int .i64 t356, .string t357], .agg #[.int .i64 t360, .int .i64 t361, .string t362]] rfl ga_ ?_; (with_reducible refine (constableref01_Holds.calls k a0_3 t355 t356 t357 t360 t361 t362 t365 t366 _ A7.out).mono ?_); rintro e w22 ⟨rfl, hb⟩; refine ⟨_, rfl, ?_⟩; replace BK354 := bb_ (bu_ BK354) hb; replace BK359 := bb_ (bu_ BK359) hb; replace BK364 := Aside0.mk (blk_below (o := .cells #[.int .i64 t360, .int .i64 t361, .string t362] 23 (0, 0)) (bp_ BK364) hb); replace HB := bs_ (be_ HB) hb; (try clear hb); (try clear hb2); (try clear hk); (try clear hi)))
   go_ret2
   exact ⟨re_, be_ HB⟩
  ·rw [if_neg c6] at H
   obtain ⟨c6b0, c6b1⟩ := neB_ c6
   simp only [Option.some.injEq, Prod.mk.injEq] at H
   obtain ⟨rfl, rfl⟩ := H
   go_enter Try.func18, Try.ntmps18
   go_wp2_with (first | ((with_reducible refine gate_dst (N := 2) rfl ?_); refine box_event ?hg (N := 2) ?hd (cs := #[.int .i64 a0_0, .string a0_1, .slice A0_2 l0_2.length c0_2, .int .i64 a0_3, .slice A0_4 l0_4.length c0_4, .slice A0_5 l0_5.length c0_5]) (t := 29) ?hr ?_; (case hd => rfl); (case hg => rfl); (case hr => first | (go_simp; done) | (go_simp; rfl)); intro gb354 hg w23 hbox hb; have BK354 := Aside0.mk (hbox); have GW354 := gs_ hg (be_ HB); have GE354 := gs_ hg (be_ HB); replace HB := bs_ (be_ HB) hb; clear hb hbox hg; have hcz24_0 : w23.cell? ⟨gb354, 0, none⟩ = some (.int .i64 a0_0) := (blk_cell BK354.out 0).trans rfl; have hcz24_1 : w23.cell? ⟨gb354, 1, none⟩ = some (.string a0_1) := (blk_cell BK354.out 1).trans rfl; have hcz24_2 : w23.cell? ⟨gb354, 2, none⟩ = some (.slice A0_2 l0_2.length c0_2) := (blk_cell BK354.out 2).trans rfl; have hcz24_3 : w23.cell? ⟨gb354, 3, none⟩ = some (.int .i64 a0_3) := (blk_cell BK354.out 3).trans rfl; have hcz24_4 : w23.cell? ⟨gb354, 4, none⟩ = some (.slice A0_4 l0_4.length c0_4) := (blk_cell BK354.out 4).trans rfl; have hcz24_5 : w23.cell? ⟨gb354, 5, none⟩ = some (.slice A0_5 l0_5.length c0_5) := (blk_cell BK354.out 5).trans rfl; have hfz24_0 := blk_frozen BK354.out 0; have hfz24_1 := blk_frozen BK354.out 1; have hfz24_2 := blk_frozen BK354.out 2; have hfz24_3 := blk_frozen BK354.out 3; have hfz24_4 := blk_frozen BK354.out 4; have hfz24_5 := blk_frozen BK354.out 5) | ((with_reducible refine gate_callee (f := 36) rfl ?_); refine goesL_ (some 13) rfl rfl Try.func36 (by kernel_rfl) rfl #[.slice A0_4 l0_4.length c0_4, .slice A1 l1.length c1] rfl ga_ ?_; (with_reducible refine (constableref01_Eval.calls k _ _ l0_4 _ _ l1 t355 t356 t357 t358 _ ?side1 ?side2 ?side3 ?side4 A3.out).mono ?_); (case side1 => exact kd_ ((Kd.C_below HR0_4.out HB.out))); (case side2 => exact HC0_4.out); (case side3 => exact kd_ ((Kd.C_below HR1.out HB.out))); (case side4 => exact HC1.out); rintro e w25 ⟨rfl, hb⟩; refine ⟨_, rfl, ?_⟩; replace BK354 := bb_ (bu_ BK354) hb; replace HB := bs_ (be_ HB) hb; (try clear hb); (try clear hb2); (try clear hk); (try clear hi)) | ((with_reducible refine gate_dst (N := 6) rfl ?_); refine box_event ?hg (N := 6) ?hd (cs := #[.int .i64 0, .int .i64 0, .string (⟨#[]⟩ : ByteArray)]) (t := 23) ?hr ?_; (case hd => rfl); (case hg => rfl); (case hr => first | (go_simp; done) | (go_simp; rfl)); intro gb359 hg w26 hbox hb; have BK359 := Aside0.mk (hbox); have GW359 := gs_ hg (be_ HB); have GE359 := gs_ hg (be_ HB); replace HB := bs_ (be_ HB) hb; have NB354_359 := nl_ hg (bu_ BK354); have NB359_354 := ng_ hg (bu_ BK354); replace BK354 := bb_ (bu_ BK354) hb; clear hb hbox hg; have hnb27 := NB359_354.out; have hnc27 := NB354_359.out; have hcz28_0 : w26.cell? ⟨gb359, 0, none⟩ = some (.int .i64 0) := (blk_cell BK359.out 0).trans rfl; have hcz28_1 : w26.cell? ⟨gb359, 1, none⟩ = some (.int .i64 0) := (blk_cell BK359.out 1).trans rfl; have hcz28_2 : w26.cell? ⟨gb359, 2, none⟩ = some (.string (⟨#[]⟩ : ByteArray)) := (blk_cell BK359.out 2).trans rfl; have hfz28_0 := blk_frozen BK359.out 0; have hfz28_1 := blk_frozen BK359.out 1; have hfz28_2 := blk_frozen BK359.out 2; have hcz29_0 : w26.cell? ⟨gb354, 0, none⟩ = some (.int .i64 a0_0) := (blk_cell BK354.out 0).trans rfl; have hcz29_1 : w26.cell? ⟨gb354, 1, none⟩ = some (.string a0_1) := (blk_cell BK354.out 1).trans rfl; have hcz29_2 : w26.cell? ⟨gb354, 2, none⟩ = some (.slice A0_2 l0_2.length c0_2) := (blk_cell BK354.out 2).trans rfl; have hcz29_3 : w26.cell? ⟨gb354, 3, none⟩ = some (.int .i64 a0_3) := (blk_cell BK354.out 3).trans rfl; have hcz29_4 : w26.cell? ⟨gb354, 4, none⟩ = some (.slice A0_4 l0_4.length c0_4) := (blk_cell BK354.out 4).trans rfl; have hcz29_5 : w26.cell? ⟨gb354, 5, none⟩ = some (.slice A0_5 l0_5.length c0_5) := (blk_cell BK354.out 5).trans rfl; have hfz29_0 := blk_frozen BK354.out 0; have hfz29_1 := blk_frozen BK354.out 1; have hfz29_2 := blk_frozen BK354.out 2; have hfz29_3 := blk_frozen BK354.out 3; have hfz29_4 := blk_frozen BK354.out 4; have hfz29_5 := blk_frozen BK354.out 5) | ((with_reducible refine gate_callee (f := 36) rfl ?_); refine goesL_ (some 23) rfl rfl Try.func36 (by kernel_rfl) rfl #[.slice A0_5 l0_5.length c0_5, .slice A1 l1.length c1] rfl ga_ ?_; (with_reducible refine (constableref01_Eval.calls k _ _ l0_5 _ _ l1 t360 t361 t362 t363 _ ?side1 ?side2 ?side3 ?side4 A5.out).mono ?_); (case side1 => exact Kd.C_below HR0_5.out (be_ HB)); (case side2 => exact HC0_5.out); (case side3 => exact Kd.C_below HR1.out (be_ HB)); (case side4 => exact HC1.out); rintro e w30 ⟨rfl, hb⟩; refine ⟨_, rfl, ?_⟩; replace BK354 := bb_ (bu_ BK354) hb; replace BK359 := Aside0.mk (blk_below (o := .cells #[.int .i64 t355, .int .i64 t356, .string t357] 23 (0, 0)) (bp_ BK359) hb); replace HB := bs_ (be_ HB) hb; (try clear hb); (try clear hb2); (try clear hk); (try clear hi)) | ((with_reducible refine gate_dst (N := 8) rfl ?_); refine box_event ?hg (N := 8) ?hd (cs := #[.int .i64 0, .int .i64 0, .string (⟨#[]⟩ : ByteArray)]) (t := 23) ?hr ?_; (case hd => rfl); (case hg => rfl); (case hr => first | (go_simp; done) | (go_simp; rfl)); intro gb364 hg w31 hbox hb; have BK364 := Aside0.mk (hbox); have GW364 := gs_ hg (be_ HB); have GE364 := gs_ hg (be_ HB); replace HB := bs_ (be_ HB) hb; have NB354_364 := nl_ hg (bu_ BK354); have NB364_354 := ng_ hg (bu_ BK354); replace BK354 := bb_ (bu_ BK354) hb; have NB359_364 := nl_ hg (bu_ BK359); have NB364_359 := ng_ hg (bu_ BK359); replace BK359 := bb_ (bu_ BK359) hb; clear hb hbox hg; have hnb32 := NB364_354.out; have hnc32 := NB354_364.out; have hnb33 := NB364_359.out; have hnc33 := NB359_364.out; have hcz34_0 : w31.cell? ⟨gb364, 0, none⟩ = some (.int .i64 0) := (blk_cell BK364.out 0).trans rfl; have hcz34_1 : w31.cell? ⟨gb364, 1, none⟩ = some (.int .i64 0) := (blk_cell BK364.out 1).trans rfl; have hcz34_2 : w31.cell? ⟨gb364, 2, none⟩ = some (.string (⟨#[]⟩ : ByteArray)) := (blk_cell BK364.out 2).trans rfl; have hfz34_0 := blk_frozen BK364.out 0; have hfz34_1 := blk_frozen BK364.out 1; have hfz34_2 := blk_frozen BK364.out 2))
   go_ret2
   exact ⟨re_, be_ HB⟩
 ·rw [if_neg c4] at H
  obtain ⟨c4b0, c4b1⟩ := neB_ c4
  simp only [Option.some.injEq, Prod.mk.injEq] at H
  obtain ⟨rfl, rfl⟩ := H
  go_enter Try.func18, Try.ntmps18
  go_wp2_with (first | ((with_reducible refine gate_dst (N := 2) rfl ?_); refine box_event ?hg (N := 2) ?hd (cs := #[.int .i64 a0_0, .string a0_1, .slice A0_2 l0_2.length c0_2, .int .i64 a0_3, .slice A0_4 l0_4.length c0_4, .slice A0_5 l0_5.length c0_5]) (t := 29) ?hr ?_; (case hd => rfl); (case hg => rfl); (case hr => first | (go_simp; done) | (go_simp; rfl)); intro gb354 hg w35 hbox hb; have BK354 := Aside0.mk (hbox); have GW354 := gs_ hg (be_ HB); have GE354 := gs_ hg (be_ HB); replace HB := bs_ (be_ HB) hb; clear hb hbox hg; have hcz36_0 : w35.cell? ⟨gb354, 0, none⟩ = some (.int .i64 a0_0) := (blk_cell BK354.out 0).trans rfl; have hcz36_1 : w35.cell? ⟨gb354, 1, none⟩ = some (.string a0_1) := (blk_cell BK354.out 1).trans rfl; have hcz36_2 : w35.cell? ⟨gb354, 2, none⟩ = some (.slice A0_2 l0_2.length c0_2) := (blk_cell BK354.out 2).trans rfl; have hcz36_3 : w35.cell? ⟨gb354, 3, none⟩ = some (.int .i64 a0_3) := (blk_cell BK354.out 3).trans rfl; have hcz36_4 : w35.cell? ⟨gb354, 4, none⟩ = some (.slice A0_4 l0_4.length c0_4) := (blk_cell BK354.out 4).trans rfl; have hcz36_5 : w35.cell? ⟨gb354, 5, none⟩ = some (.slice A0_5 l0_5.length c0_5) := (blk_cell BK354.out 5).trans rfl; have hfz36_0 := blk_frozen BK354.out 0; have hfz36_1 := blk_frozen BK354.out 1; have hfz36_2 := blk_frozen BK354.out 2; have hfz36_3 := blk_frozen BK354.out 3; have hfz36_4 := blk_frozen BK354.out 4; have hfz36_5 := blk_frozen BK354.out 5) | ((with_reducible refine gate_callee (f := 36) rfl ?_); refine goesL_ (some 13) rfl rfl Try.func36 (by kernel_rfl) rfl #[.slice A0_4 l0_4.length c0_4, .slice A1 l1.length c1] rfl ga_ ?_; (with_reducible refine (constableref01_Eval.calls k _ _ l0_4 _ _ l1 t355 t356 t357 t358 _ ?side1 ?side2 ?side3 ?side4 A3.out).mono ?_); (case side1 => exact kd_ ((Kd.C_below HR0_4.out HB.out))); (case side2 => exact HC0_4.out); (case side3 => exact kd_ ((Kd.C_below HR1.out HB.out))); (case side4 => exact HC1.out); rintro e w37 ⟨rfl, hb⟩; refine ⟨_, rfl, ?_⟩; replace BK354 := bb_ (bu_ BK354) hb; replace HB := bs_ (be_ HB) hb; (try clear hb); (try clear hb2); (try clear hk); (try clear hi)) | ((with_reducible refine gate_dst (N := 6) rfl ?_); refine box_event ?hg (N := 6) ?hd (cs := #[.int .i64 0, .int .i64 0, .string (⟨#[]⟩ : ByteArray)]) (t := 23) ?hr ?_; (case hd => rfl); (case hg => rfl); (case hr => first | (go_simp; done) | (go_simp; rfl)); intro gb359 hg w38 hbox hb; have BK359 := Aside0.mk (hbox); have GW359 := gs_ hg (be_ HB); have GE359 := gs_ hg (be_ HB); replace HB := bs_ (be_ HB) hb; have NB354_359 := nl_ hg (bu_ BK354); have NB359_354 := ng_ hg (bu_ BK354); replace BK354 := bb_ (bu_ BK354) hb; clear hb hbox hg; have hnb39 := NB359_354.out; have hnc39 := NB354_359.out; have hcz40_0 : w38.cell? ⟨gb359, 0, none⟩ = some (.int .i64 0) := (blk_cell BK359.out 0).trans rfl; have hcz40_1 : w38.cell? ⟨gb359, 1, none⟩ = some (.int .i64 0) := (blk_cell BK359.out 1).trans rfl; have hcz40_2 : w38.cell? ⟨gb359, 2, none⟩ = some (.string (⟨#[]⟩ : ByteArray)) := (blk_cell BK359.out 2).trans rfl; have hfz40_0 := blk_frozen BK359.out 0; have hfz40_1 := blk_frozen BK359.out 1; have hfz40_2 := blk_frozen BK359.out 2))
  go_ret2
  exact ⟨re_, be_ HB⟩
end Go.Proofs.Ytaopajmpifenoaa.P
end
