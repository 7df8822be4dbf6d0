/- Part 5 of the proof of GuardParts: words, contracts of functions of the program (what a call answers), and what the answers say. -/
import Derived.ChangeArms
import Derived.DataElems
import Derived.DataReads
import Derived.SizedLaws
import Derived.ChangeSlices
import Derived.RowKit
import Derived.WideShapes
import Derived.ChangeShapes
import Derived.KernelRfl
import Derived.Test.YtaopajmpifenoaaVWords
import Derived.Test.YtaopajmpifenoaaVLast
import Derived.Test.YtaopajmpifenoaaVApart
import Derived.Test.YtaopajmpifenoaaVArr
import Derived.Test.YtaopajmpifenoaaVFoot
import Derived.Test.YtaopajmpifenoaaVKept
import Derived.Test.YtaopajmpifenoaaVShare
import Derived.Test.YtaopajmpifenoaaVZeros
import Derived.Test.YtaopajmpifenoaaVN
import Derived.Test.YtaopajmpifenoaaVFootNe
import Derived.Test.YtaopajmpifenoaaVAt
import Derived.Test.YtaopajmpifenoaaVEqStruct
import Derived.Test.YtaopajmpifenoaaVTab
import Derived.Test.YtaopajmpifenoaaVFour
import Derived.Test.YtaopajmpifenoaaVGuard
import Derived.Test.YtaopajmpifenoaaVInv
import Derived.Test.YtaopajmpifenoaaVInvWords
import Derived.Test.YtaopajmpifenoaaVQPut
import Derived.Test.YtaopajmpifenoaaVNEv
import Derived.Test.YtaopajmpifenoaaVMore
import Derived.Test.YtaopajmpifenoaaVRepsOne
import Derived.Test.YtaopajmpifenoaaVSized
import Derived.Test.YtaopajmpifenoaaCGuardParts0
import Derived.Test.YtaopajmpifenoaaCGuardParts1
import Derived.Test.YtaopajmpifenoaaCGuardParts2
import Derived.Test.YtaopajmpifenoaaCGuardParts3
section
namespace Go.Proofs.Ytaopajmpifenoaa.P
open Go.RowKit Go.Proofs.YtaopajmpifenoaaW.PrintWords Go.Proofs.YtaopajmpifenoaaW.PrintLast Go.Proofs.YtaopajmpifenoaaW.PrintMore
attribute [local go_sem] max2_int min2_int max_two min_two max_three min_three max_four min_four
set_option linter.unusedVariables false
set_option linter.unusedSimpArgs false
mutual
def constableref01_Eval.l0 : Nat → List (S67) → List (S54) → List (S23) → Int → Option (Int × Int × ByteArray × Int)
  | 0, _, _, _, _ => none
  | k + 1, x0, x1, x6, x7 => if x7 < (x0.length : Int) then (if 0 ≤ x7 then (if ((rd_T67 x0 x7).f0) = 1 then ((constableref01_Get.f k x1 ((rd_T67 x0 x7).f1)).bind fun bt329 => (if bt329.2.2.2 = true then (if x6.length < 4398046511104 then (constableref01_Eval.l0 k x0 x1 (x6 ++ [(⟨bt329.1, bt329.2.1, bt329.2.2.1⟩ : S23)]) (wrap64 (x7 + 1))) else (none)) else (some (0, 0, (⟨#[]⟩ : ByteArray), 5)))) else (if ((rd_T67 x0 x7).f0) = 2 then (if x6.length < 4398046511104 then (constableref01_Eval.l0 k x0 x1 (x6 ++ [(⟨(rd_T67 x0 x7).f2.f0, (rd_T67 x0 x7).f2.f1, (rd_T67 x0 x7).f2.f2⟩ : S23)]) (wrap64 (x7 + 1))) else (none)) else (if 0 ≤ (wrap64 ((x6.length : Int) - 2)) then (if (wrap64 ((x6.length : Int) - 2)) < (x6.length : Int) then (if 0 ≤ (wrap64 ((x6.length : Int) - 1)) then (if (wrap64 ((x6.length : Int) - 1)) < (x6.length : Int) then (if ((rd_T23 x6 (wrap64 ((x6.length : Int) - 2))).f0) = 1 then (constableref01_Eval.j1 k x0 x1 x6 x7 (((rd_T23 x6 (wrap64 ((x6.length : Int) - 1))).f0) != 1) ((rd_T23 x6 (wrap64 ((x6.length : Int) - 2))).f0) ((rd_T23 x6 (wrap64 ((x6.length : Int) - 2))).f1) ((rd_T23 x6 (wrap64 ((x6.length : Int) - 2))).f2) ((rd_T23 x6 (wrap64 ((x6.length : Int) - 1))).f0) ((rd_T23 x6 (wrap64 ((x6.length : Int) - 1))).f1) ((rd_T23 x6 (wrap64 ((x6.length : Int) - 1))).f2)) else (constableref01_Eval.j1 k x0 x1 x6 x7 true ((rd_T23 x6 (wrap64 ((x6.length : Int) - 2))).f0) ((rd_T23 x6 (wrap64 ((x6.length : Int) - 2))).f1) ((rd_T23 x6 (wrap64 ((x6.length : Int) - 2))).f2) ((rd_T23 x6 (wrap64 ((x6.length : Int) - 1))).f0) ((rd_T23 x6 (wrap64 ((x6.length : Int) - 1))).f1) ((rd_T23 x6 (wrap64 ((x6.length : Int) - 1))).f2))) else (none)) else (none)) else (none)) else (none)))) else (none)) else (if 0 < (x6.length : Int) then (some ((rd_T23 x6 0).f0, (rd_T23 x6 0).f1, (rd_T23 x6 0).f2, 0)) else (none))
def constableref01_Eval.j1 : Nat → List (S67) → List (S54) → List (S23) → Int → Bool → Int → Int → ByteArray → Int → Int → ByteArray → Option (Int × Int × ByteArray × Int)
  | 0, _, _, _, _, _, _, _, _, _, _, _ => none
  | k + 1, x0, x1, x6, x7, x44, x344000, x344001, x344002, x345000, x345001, x345002 => if x44 = true then (some (0, 0, (⟨#[]⟩ : ByteArray), 3)) else (if 0 ≤ x7 then (if x7 < (x0.length : Int) then ((constableref01_Do.f k ((rd_T67 x0 x7).f0) x344001 x345001).bind fun bt346 => (if bt346.2 = 0 then (if 0 ≤ (wrap64 ((x6.length : Int) - 2)) then (if (wrap64 ((x6.length : Int) - 2)) ≤ (x6.length : Int) then ((some (x6.take ((wrap64 ((x6.length : Int) - 2)) : Int).toNat : List (S23))).bind fun y348 => (if y348.length < 4398046511104 then (constableref01_Eval.l0 k x0 x1 (y348 ++ [(⟨1, bt346.1, (⟨#[]⟩ : ByteArray)⟩ : S23)]) (wrap64 (x7 + 1))) else (none))) else (none)) else (none)) else (some (0, 0, (⟨#[]⟩ : ByteArray), bt346.2)))) else (none)) else (none))
end
def constableref01_Eval.f (k : Nat) (l0 : List (S67)) (l1 : List (S54)) : Option (Int × Int × ByteArray × Int) := constableref01_Eval.l0 k l0 l1 ([] : List (S23)) 0
theorem constableref01_Eval.mono_l : ∀ k, (∀ y0 y1 y2 y3, LeO (constableref01_Eval.l0 k y0 y1 y2 y3) (constableref01_Eval.l0 (k + 1) y0 y1 y2 y3)) ∧ (∀ y0 y1 y2 y3 y4 y5 y6 y7 y8 y9 y10, LeO (constableref01_Eval.j1 k y0 y1 y2 y3 y4 y5 y6 y7 y8 y9 y10) (constableref01_Eval.j1 (k + 1) y0 y1 y2 y3 y4 y5 y6 y7 y8 y9 y10))
  | 0 => ⟨fun _ _ _ _ r h => by simp [constableref01_Eval.l0] at h, fun _ _ _ _ _ _ _ _ _ _ _ r h => by simp [constableref01_Eval.j1] at h⟩
  | k + 1 => by
    obtain ⟨ih0, ih1⟩ := constableref01_Eval.mono_l k
    refine ⟨?_, ?_⟩
    · intro y0 y1 y2 y3
      unfold constableref01_Eval.l0
      repeat' first
      | (with_reducible exact ih0 _ _ _ _)
      | (with_reducible exact ih1 _ _ _ _ _ _ _ _ _ _ _)
      | (with_reducible exact constableref01_Do.mono _ _ _ _)
      | (with_reducible exact constableref01_Get.mono _ _ _)
      | (with_reducible exact LeO.refl _)
      | (with_reducible exact LeO.none _)
      | (with_reducible refine LeO.ite ?_ ?_)
      | (with_reducible refine LeO.bind ?_ (fun _ => ?_))
      | exact ih0 _ _ _ _
      | exact ih1 _ _ _ _ _ _ _ _ _ _ _
      | exact constableref01_Do.mono _ _ _ _
      | exact constableref01_Get.mono _ _ _
      | exact LeO.none _
      | refine LeO.ite ?_ ?_
      | refine LeO.bind ?_ (fun _ => ?_)
    · intro y0 y1 y2 y3 y4 y5 y6 y7 y8 y9 y10
      unfold constableref01_Eval.j1
      repeat' first
      | (with_reducible exact ih0 _ _ _ _)
      | (with_reducible exact ih1 _ _ _ _ _ _ _ _ _ _ _)
      | (with_reducible exact constableref01_Do.mono _ _ _ _)
      | (with_reducible exact constableref01_Get.mono _ _ _)
      | (with_reducible exact LeO.refl _)
      | (with_reducible exact LeO.none _)
      | (with_reducible refine LeO.ite ?_ ?_)
      | (with_reducible refine LeO.bind ?_ (fun _ => ?_))
      | exact ih0 _ _ _ _
      | exact ih1 _ _ _ _ _ _ _ _ _ _ _
      | exact constableref01_Do.mono _ _ _ _
      | exact constableref01_Get.mono _ _ _
      | exact LeO.none _
      | refine LeO.ite ?_ ?_
      | refine LeO.bind ?_ (fun _ => ?_)
theorem constableref01_Eval.mono : ∀ a0 a1 k, LeO (constableref01_Eval.f k a0 a1) (constableref01_Eval.f (k + 1) a0 a1) := by
  intro a0 a1 k
  obtain ⟨ih0, ih1⟩ := constableref01_Eval.mono_l k
  unfold constableref01_Eval.f
  repeat' first
      | (with_reducible exact ih0 _ _ _ _)
      | (with_reducible exact ih1 _ _ _ _ _ _ _ _ _ _ _)
      | (with_reducible exact constableref01_Do.mono _ _ _ _)
      | (with_reducible exact constableref01_Get.mono _ _ _)
      | (with_reducible exact LeO.refl _)
      | (with_reducible exact LeO.none _)
      | (with_reducible refine LeO.ite ?_ ?_)
      | (with_reducible refine LeO.bind ?_ (fun _ => ?_))
      | exact ih0 _ _ _ _
      | exact ih1 _ _ _ _ _ _ _ _ _ _ _
      | exact constableref01_Do.mono _ _ _ _
      | exact constableref01_Get.mono _ _ _
      | exact LeO.none _
      | refine LeO.ite ?_ ?_
      | refine LeO.bind ?_ (fun _ => ?_)
def constableref01_Eval.T6 : Bool × List (List Nat × List Nat) := (true, [([], []), ([], []), ([1], [1]), ([2], [2]), ([0, 3], [0, 3]), ([4], [4]), ([], []), ([], []), ([7], [7]), ([8], [8]), ([6, 9], [6, 9]), ([10], [10]), ([], []), ([], []), ([12, 5, 0, 1, 2, 3, 4, 5, 12, 13], [5, 12]), ([13, 11, 14, 0, 1, 2, 3, 4, 5, 6, 7, 8, 9, 10, 11, 12, 13, 14], [11, 13])])
def constableref01_Eval.B6 : List Nat := [0, 0, 2, 6, 15, 31, 0, 0, 128, 384, 960, 1984, 0, 0, 12351, 32767]
theorem constableref01_Eval.tab6 : rtab .any (opsOf Try.f36 6) = constableref01_Eval.T6 := by kernel_rfl
theorem constableref01_Eval.bits6 : waitsOk constableref01_Eval.T6.2 constableref01_Eval.B6 = true := by kernel_rfl
def constableref01_Eval.T9 : Bool × List (List Nat × List Nat) := (true, [([], []), ([], []), ([0, 1], [0, 1]), ([2], [2]), ([3], [3]), ([], []), ([5], [5]), ([], []), ([7], [7]), ([4, 6, 8], [4, 6, 8]), ([9], [9]), ([10], [10]), ([10], [10]), ([11, 9, 0, 1, 2, 3, 4, 5, 6, 7, 8, 9, 10, 11], [11]), ([12, 13, 0, 1, 2, 3, 4, 5, 6, 7, 8, 9, 10, 11, 12, 13], [12])])
def constableref01_Eval.B9 : List Nat := [0, 0, 3, 7, 15, 0, 32, 0, 128, 511, 1023, 2047, 2047, 4095, 16383]
theorem constableref01_Eval.tab9 : rtab .any (opsOf Try.f36 9) = constableref01_Eval.T9 := by kernel_rfl
theorem constableref01_Eval.bits9 : waitsOk constableref01_Eval.T9.2 constableref01_Eval.B9 = true := by kernel_rfl
set_option maxHeartbeats 8000000 in
set_option maxRecDepth 100000 in
theorem constableref01_Eval.calls (k : Nat) (A0 : Option Addr) (c0 : Nat) (l0 : List (S67)) (A1 : Option Addr) (c1 : Nat) (l1 : List (S54)) (r1 : Int) (r2 : Int) (r3 : ByteArray) (r4 : Int) (w : World) (hr0 : Kd.C k67 w A0 l0.length l0) (hc0 : l0.length ≤ c0) (hr1 : Kd.C k54 w A1 l1.length l1) (hc1 : l1.length ≤ c1) (h : constableref01_Eval.f k l0 l1 = some (r1, r2, r3, r4)) :
    Calls Try.prog 36 #[.slice A0 l0.length c0, .slice A1 l1.length c1] w fun e w' => e = .returned (.tuple #[.agg #[.int .i64 r1, .int .i64 r2, .string r3], .int .i64 r4]) ∧ Below w.heap.size w w' := by
  have hu23 := Try.underlying23
  have HR0 := Aside0.mk hr0
  have HC0 := Aside0.mk hc0
  clear hr0 hc0
  have HR1 := Aside0.mk hr1
  have HC1 := Aside0.mk hc1
  clear hr1 hc1
  have HB := Aside0.mk (Below.refl w.heap.size w)
  have H : (constableref01_Eval.l0 k l0 l1 ([] : List (S23)) 0) = some (r1, r2, r3, r4) := h
  clear h
  have H' := Aside0.mk H
  clear H
  go_enter Try.func36, Try.ntmps36
  go_wp2_with (first | ((with_reducible refine gate_dst (N := 4) rfl ?_); refine box_event ?hg (N := 4) ?hd (cs := #[.int .i64 0, .int .i64 0, .string (⟨#[]⟩ : ByteArray)]) (t := 23) ?hr ?_; (case hd => rfl); (case hg => rfl); (case hr => first | (go_simp; done) | (go_simp; rfl)); intro gb325 hg w3 hbox hb; have n0_ := bs_ (be_ HB) hb; have n1_ := Aside0.mk (hbox); have n2_ := gs_ hg (be_ HB); have n3_ := gs_ hg (be_ HB); clear HB; have HB := n0_; have BK325 := n1_; have GW325 := n2_; have GE325 := n3_; clear n0_ n1_ n2_ n3_; clear hb hbox hg))
  go_loopg [6, 7] k (fun kq v6 v7 w' => ∃ (x6_1 : List (S23)) (x7_1 : Int) (x326000_1 : Int) (x326001_1 : Int) (x326002_1 : ByteArray), v7 = .int .i64 x7_1 ∧ Aside0 (constableref01_Eval.l0 kq l0 l1 x6_1 x7_1 = some (r1, r2, r3, r4)) ∧ Aside0 (kq ≤ k) ∧ Aside0 (Kd.R k23 23 w' w.heap.size (fun k_ => k_ ≠ gb325) v6 x6_1) ∧ Aside0 (w'.heap[gb325]? = some (.cells #[.int .i64 x326000_1, .int .i64 x326001_1, .string x326002_1] 23 (0, 0))) ∧ Aside0 (Below w.heap.size w w'))
  case atStart => exact ⟨(([] : List (S23))), (0), (0), (0), ((⟨#[]⟩ : ByteArray)), ra_, H', ⟨Nat.le_refl _⟩, ⟨by first | exact Kd.R_nil _ _ _ _ _ | exact Kd.N_nil _ _ _ _ _ | exact Kd.V_nil _ _ _ _ _ | exact Kd.Q_nil _ _ _ _ _ | exact Kd.S_nil _ _ _ _ _⟩, ⟨by (with_reducible repeat (first | refine blk_drewN ?_ _ | refine blk_drew ?_ | refine blk_alloc ?_ _)); exact BK325.out⟩, ⟨by repeat (first | (with_reducible first | exact HB.out | apply below_alloc | apply pw_below_drewN | apply below_drew1 | refine below_set ?_ GE325.out) | exact HB.out)⟩⟩
  case round =>
    clear H'
    try clear c1
    try clear p2
    try clear c3
    obtain ⟨x6_1, x7_1, x326000_1, x326001_1, x326002_1, rfl, HA, HK1, HO_6, BK325, HB⟩ := hrel
    cases gk with
    | zero => exact absurd HA.out (by simp [constableref01_Eval.l0])
    | succ k1 =>
      have H := HA.out
      clear HA
      simp only [constableref01_Eval.l0] at H
      by_cases c4 : x7_1 < (l0.length : Int)
      · rw [if_pos c4] at H
        have c4b0 : decide (x7_1 < (l0.length : Int)) = true := decide_eq_true c4
        clear c4
        by_cases c5 : 0 ≤ x7_1
        · rw [if_pos c5] at H
          have c5b0 : decide (0 ≤ x7_1) = true := decide_eq_true c5
          clear c5
          by_cases c6 : ((rd_T67 l0 x7_1).f0) = 1
          · rw [if_pos c6] at H
            obtain ⟨c6b0, c6b1⟩ := eqB_ c6
            clear c6
            replace H := Option.bind_eq_some_iff.mp H
            obtain ⟨⟨t329, t330, t331, t332⟩, A70, H⟩ := H
            replace H : (if t332 = true then (if x6_1.length < 4398046511104 then (constableref01_Eval.l0 k1 l0 l1 (x6_1 ++ [(⟨t329, t330, t331⟩ : S23)]) (wrap64 (x7_1 + 1))) else (none)) else (some (0, 0, (⟨#[]⟩ : ByteArray), 5))) = some (r1, r2, r3, r4) := H
            have A7 := Aside0.mk A70
            clear A70
            by_cases c8 : t332 = true
            · subst c8
              have H1 : (if x6_1.length < 4398046511104 then (constableref01_Eval.l0 k1 l0 l1 (x6_1 ++ [(⟨t329, t330, t331⟩ : S23)]) (wrap64 (x7_1 + 1))) else (none)) = some (r1, r2, r3, r4) := by rw [if_pos rfl] at H; exact H
              clear H
              have H := H1
              clear H1
              by_cases c9 : x6_1.length < 4398046511104
              · rw [if_pos c9] at H
                have LMc9 := Aside0.mk c9
                clear c9
                obtain ⟨y334, hy334⟩ : ∃ y_ : List (S23), y_ = (x6_1 ++ [(⟨t329, t330, t331⟩ : S23)]) := ⟨_, rfl⟩
                replace H : (constableref01_Eval.l0 k1 l0 l1 y334 (wrap64 (x7_1 + 1))) = some (r1, r2, r3, r4) := by first | (rw [hy334]; with_reducible exact H) | (have H2_ := (Option.bind_some _ _).symm.trans H; rw [hy334]; with_reducible exact H2_) | (have H2_ := (Option.bind_some _ _).symm.trans H; with_reducible exact H2_) | with_reducible exact H | (rw [hy334]; exact H) | exact H
                have Ny334 := Aside0.mk hy334
                clear hy334
                have H' := Aside0.mk H
                clear H
                have p327 : 0 ≤ (x7_1 : Int) := dt_
                have q327 : x7_1 < (l0.length : Int) := dt_
                obtain ⟨ad327, e327, hx327_0, hx327_1, hx327_2, hx327_3, hx327_4⟩ := at_T67 HR0.out x7_1 p327 q327
                cases e327
                replace hx327_0 := cm_ HB hx327_0
                replace hx327_1 := cm_ HB hx327_1
                replace hx327_2 := cm_ HB hx327_2
                replace hx327_3 := cm_ HB hx327_3
                replace hx327_4 := cm_ HB hx327_4
                replace p327 := eq_true p327
                replace q327 := eq_true q327
                have p328 : 0 ≤ (x7_1 : Int) := dt_
                have q328 : x7_1 < (l0.length : Int) := dt_
                obtain ⟨ad328, e328, hx328_0, hx328_1, hx328_2, hx328_3, hx328_4⟩ := at_T67 HR0.out x7_1 p328 q328
                obtain rfl : ad327 = ad328 := (by injection e328)
                replace hx328_0 := cm_ HB hx328_0
                replace hx328_1 := cm_ HB hx328_1
                replace hx328_2 := cm_ HB hx328_2
                replace hx328_3 := cm_ HB hx328_3
                replace hx328_4 := cm_ HB hx328_4
                replace p328 := eq_true p328
                replace q328 := eq_true q328
                go_wp2_with (first | ((with_reducible refine gate_callee (f := 51) rfl ?_); refine goesL_ (some 81) rfl rfl Try.func51 (by kernel_rfl) rfl #[.slice A1 l1.length c1, .string ((rd_T67 l0 x7_1).f1)] rfl ga_ ?_; (with_reducible refine (constableref01_Get.calls k1 _ _ l1 ((rd_T67 l0 x7_1).f1) t329 t330 t331 true _ ?side1 ?side2 A7.out).mono ?_); (case side1 => repeat (first | exact (Kd.C_below HR1.out HB.out) | (with_reducible refine Kd.C_alloc ?_ _) | (with_reducible refine Kd.C_drewN ?_ _) | (with_reducible refine Kd.C_drew ?_))); (case side2 => exact HC1.out); rintro e w10 ⟨rfl, hb⟩; refine ⟨_, rfl, ?_⟩; have n0_ := kb_ (ku_ HO_6.out) hb; have n1_ := bb_ (bu_ BK325) hb; have n2_ := bs_ (be_ HB) hb; clear HO_6; clear BK325; clear HB; have HO_6 := n0_; have BK325 := n1_; have HB := n2_; clear n0_ n1_ n2_; (try clear hb); (try clear hb2); (try clear hk); (try clear hi)) | ((with_reducible refine gate_dst (N := 8) rfl ?_); refine box_event ?hg (N := 8) ?hd (cs := #[.int .i64 0, .int .i64 0, .string (⟨#[]⟩ : ByteArray)]) (t := 23) ?hr ?_; (case hd => rfl); (case hg => rfl); (case hr => first | (go_simp; done) | (go_simp; rfl)); intro gb333 hg w11 hbox hb; have n0_ := Aside0.mk (Kd.R_below (Kd.R_elderB (ku_ HO_6.out) gb333 (Nat.le_of_eq hg.symm)) hb); have n1_ := bb_ (bu_ BK325) hb; have n2_ := bs_ (be_ HB) hb; have n3_ := Aside0.mk (hbox); have n4_ := gs_ hg (be_ HB); have n5_ := gs_ hg (be_ HB); have n6_ := nl_ hg (bu_ BK325); have n7_ := ng_ hg (bu_ BK325); clear HO_6; clear BK325; clear HB; have HO_6 := n0_; have BK325 := n1_; have HB := n2_; have BK333 := n3_; have GW333 := n4_; have GE333 := n5_; have NB325_333 := n6_; have NB333_325 := n7_; clear n0_ n1_ n2_ n3_ n4_ n5_ n6_ n7_; clear hb hbox hg; have hnb12 := NB333_325.out; have hnc12 := NB325_333.out; have hcz13_0 : w11.cell? ⟨gb333, 0, none⟩ = some (.int .i64 0) := (blk_cell BK333.out 0).trans rfl; have hcz13_1 : w11.cell? ⟨gb333, 1, none⟩ = some (.int .i64 0) := (blk_cell BK333.out 1).trans rfl; have hcz13_2 : w11.cell? ⟨gb333, 2, none⟩ = some (.string (⟨#[]⟩ : ByteArray)) := (blk_cell BK333.out 2).trans rfl; have hfz13_0 := blk_frozen BK333.out 0; have hfz13_1 := blk_frozen BK333.out 1; have hfz13_2 := blk_frozen BK333.out 2) | ((with_reducible refine gate_builtin (b := .append) (xs := #[.tmp 87, .tmp 89]) rfl ?_); at_builtin; refine Kd.R_append k23 (w0 := w) w.heap.size rfl (.tmp 87) (.tmp 89) 69 23 (.agg #[(.int .i64 0), (.int .i64 0), (.string ⟨#[]⟩)]) 32 rfl Try.underlying69 info23 rfl (by decide) (by omega) u6 x6_1 (⟨t329, t330, t331⟩ : S23) [.int .i64 t329, .int .i64 t330, .string t331] (fun k_ => k_ ≠ gb325 ∧ k_ ≠ gb333) (fun _ => False) rfl (by first | (go_simp; done) | (go_simp; rfl)) ?aP (fun _ hk => hk.elim) ?aF ?aO ?aB ?aS ?aL ?_; (case aP => exact k23_mkM _ _ _ (⟨t329, t330, t331⟩ : S23)); (case aB => exact (be_ HB)); (case aF => exact (fun k_ hk => ⟨Kd.freshB (bu_ BK325) k_ hk, Kd.freshB (o := .cells #[.int .i64 t329, .int .i64 t330, .string t331] 23 (0, 0)) (bp_ BK333) k_ hk⟩)); (case aO => exact (by (with_reducible repeat (first | apply Kd.R_alloc | apply Kd.R_drewN | apply Kd.R_drew)); exact Kd.R_mono (Kd.R_far (p := ⟨gb333, 2, none⟩) (Kd.R_far (p := ⟨gb333, 1, none⟩) (Kd.R_far (p := ⟨gb333, 0, none⟩) (Kd.R_mono HO_6.out (fun k_ hk => (⟨hk, hk.2⟩ : _ ∧ k_ ≠ gb333))) (fun _ hk => hk.2) (.int .i64 t329)) (fun _ hk => hk.2) (.int .i64 t330)) (fun _ hk => hk.2) (.string t331)) (fun _ hk => ⟨hk.1.1, hk.1.2⟩))); (case aS => exact (below_size (be_ HB))); (case aL => have := LMc9.out; omega); intro v335 w14 ho hb hg hat; rw [← Ny334.out] at ho; have n0_ := Aside0.mk (blk_grown (bu_ BK325) hg (Kd.R_away HO_6.out (fun _ hk => hk.1))); have n1_ := Aside0.mk (blk_grown (o := .cells #[.int .i64 t329, .int .i64 t330, .string t331] 23 (0, 0)) (bp_ BK333) hg (Kd.R_away HO_6.out (fun _ hk => hk.2))); have n2_ := Aside0.mk (hb); have n3_ := Aside0.mk (ho); clear BK325; clear BK333; clear HB; clear HO_6; have BK325 := n0_; have BK333 := n1_; have HB := n2_; have HO336 := n3_; clear n0_ n1_ n2_ n3_; (try clear hcz13_0 hcz13_1 hcz13_2 hfz13_0 hfz13_1 hfz13_2); clear ho hb hg hat))
                go_roundg k1
                case measure => have := HK1.out; omega
                case rel => exact ⟨(y334), (wrap64 (x7_1 + 1)), (x326000_1), (x326001_1), (x326002_1), ra_, H', ⟨by have := HK1.out; omega⟩, ⟨by (with_reducible repeat (first | apply Kd.R_alloc | apply Kd.R_drewN | apply Kd.R_drew)); exact Kd.R_mono HO336.out (fun _ hk => hk.1)⟩, ⟨by (with_reducible repeat (first | refine blk_drewN ?_ _ | refine blk_drew ?_ | refine blk_alloc ?_ _)); exact BK325.out⟩, ⟨by repeat (first | (with_reducible first | exact HB.out | apply below_alloc | apply pw_below_drewN | apply below_drew1 | refine below_set ?_ GE325.out | refine below_set ?_ GE333.out) | exact HB.out)⟩⟩
              · rw [if_neg c9] at H
                exact absurd H (by simp)
            · replace c8 := Bool.eq_false_iff.mpr c8
              subst c8
              have H1 : (some (0, 0, (⟨#[]⟩ : ByteArray), 5)) = some (r1, r2, r3, r4) := by rw [if_neg (show ¬ (false = true) by decide)] at H; exact H
              clear H
              have H := H1
              clear H1
              simp only [Option.some.injEq, Prod.mk.injEq] at H
              obtain ⟨rfl, rfl, rfl, rfl⟩ := H
              have p327 : 0 ≤ (x7_1 : Int) := dt_
              have q327 : x7_1 < (l0.length : Int) := dt_
              obtain ⟨ad327, e327, hx327_0, hx327_1, hx327_2, hx327_3, hx327_4⟩ := at_T67 HR0.out x7_1 p327 q327
              cases e327
              replace hx327_0 := cm_ HB hx327_0
              replace hx327_1 := cm_ HB hx327_1
              replace hx327_2 := cm_ HB hx327_2
              replace hx327_3 := cm_ HB hx327_3
              replace hx327_4 := cm_ HB hx327_4
              replace p327 := eq_true p327
              replace q327 := eq_true q327
              have p328 : 0 ≤ (x7_1 : Int) := dt_
              have q328 : x7_1 < (l0.length : Int) := dt_
              obtain ⟨ad328, e328, hx328_0, hx328_1, hx328_2, hx328_3, hx328_4⟩ := at_T67 HR0.out x7_1 p328 q328
              obtain rfl : ad327 = ad328 := (by injection e328)
              replace hx328_0 := cm_ HB hx328_0
              replace hx328_1 := cm_ HB hx328_1
              replace hx328_2 := cm_ HB hx328_2
              replace hx328_3 := cm_ HB hx328_3
              replace hx328_4 := cm_ HB hx328_4
              replace p328 := eq_true p328
              replace q328 := eq_true q328
              go_wp2_with (first | ((with_reducible refine gate_callee (f := 51) rfl ?_); refine goesL_ (some 81) rfl rfl Try.func51 (by kernel_rfl) rfl #[.slice A1 l1.length c1, .string ((rd_T67 l0 x7_1).f1)] rfl ga_ ?_; (with_reducible refine (constableref01_Get.calls k1 _ _ l1 ((rd_T67 l0 x7_1).f1) t329 t330 t331 false _ ?side1 ?side2 A7.out).mono ?_); (case side1 => repeat (first | exact (Kd.C_below HR1.out HB.out) | (with_reducible refine Kd.C_alloc ?_ _) | (with_reducible refine Kd.C_drewN ?_ _) | (with_reducible refine Kd.C_drew ?_))); (case side2 => exact HC1.out); rintro e w15 ⟨rfl, hb⟩; refine ⟨_, rfl, ?_⟩; have n0_ := kb_ (ku_ HO_6.out) hb; have n1_ := bb_ (bu_ BK325) hb; have n2_ := bs_ (be_ HB) hb; clear HO_6; clear BK325; clear HB; have HO_6 := n0_; have BK325 := n1_; have HB := n2_; clear n0_ n1_ n2_; (try clear hb); (try clear hb2); (try clear hk); (try clear hi)) | ((with_reducible refine gate_dst (N := 8) rfl ?_); refine box_event ?hg (N := 8) ?hd (cs := #[.int .i64 0, .int .i64 0, .string (⟨#[]⟩ : ByteArray)]) (t := 23) ?hr ?_; (case hd => rfl); (case hg => rfl); (case hr => first | (go_simp; done) | (go_simp; rfl)); intro gb333 hg w16 hbox hb; have n0_ := Aside0.mk (Kd.R_below (Kd.R_elderB (ku_ HO_6.out) gb333 (Nat.le_of_eq hg.symm)) hb); have n1_ := bb_ (bu_ BK325) hb; have n2_ := bs_ (be_ HB) hb; have n3_ := Aside0.mk (hbox); have n4_ := gs_ hg (be_ HB); have n5_ := gs_ hg (be_ HB); have n6_ := nl_ hg (bu_ BK325); have n7_ := ng_ hg (bu_ BK325); clear HO_6; clear BK325; clear HB; have HO_6 := n0_; have BK325 := n1_; have HB := n2_; have BK333 := n3_; have GW333 := n4_; have GE333 := n5_; have NB325_333 := n6_; have NB333_325 := n7_; clear n0_ n1_ n2_ n3_ n4_ n5_ n6_ n7_; clear hb hbox hg; have hnb17 := NB333_325.out; have hnc17 := NB325_333.out; have hcz18_0 : w16.cell? ⟨gb333, 0, none⟩ = some (.int .i64 0) := (blk_cell BK333.out 0).trans rfl; have hcz18_1 : w16.cell? ⟨gb333, 1, none⟩ = some (.int .i64 0) := (blk_cell BK333.out 1).trans rfl; have hcz18_2 : w16.cell? ⟨gb333, 2, none⟩ = some (.string (⟨#[]⟩ : ByteArray)) := (blk_cell BK333.out 2).trans rfl; have hfz18_0 := blk_frozen BK333.out 0; have hfz18_1 := blk_frozen BK333.out 1; have hfz18_2 := blk_frozen BK333.out 2; have hcz19_0 : w16.cell? ⟨gb325, 0, none⟩ = some (.int .i64 x326000_1) := (blk_cell BK325.out 0).trans rfl; have hcz19_1 : w16.cell? ⟨gb325, 1, none⟩ = some (.int .i64 x326001_1) := (blk_cell BK325.out 1).trans rfl; have hcz19_2 : w16.cell? ⟨gb325, 2, none⟩ = some (.string x326002_1) := (blk_cell BK325.out 2).trans rfl; have hfz19_0 := blk_frozen BK325.out 0; have hfz19_1 := blk_frozen BK325.out 1; have hfz19_2 := blk_frozen BK325.out 2))
              refine bodyPost_ret (results_ct rfl _ _ gb325 23 #[.int .i64 0, .int .i64 0, .string (⟨#[]⟩ : ByteArray)] (0, 0) _ rfl (bp_ BK325) Try.underlying23 rfl (by kernel_rfl)) rfl ?_
              exact ⟨by first | rfl | (simp [errW_none, errW_some] <;> rfl) | (simp [*, errW_none, errW_some] <;> rfl), by repeat (first | (with_reducible first | exact HB.out | apply below_alloc | apply pw_below_drewN | apply below_drew1 | refine below_set ?_ GE325.out | refine below_set ?_ GE333.out) | exact HB.out)⟩
          · rw [if_neg c6] at H
            obtain ⟨c6b0, c6b1⟩ := neB_ c6
            by_cases c20 : ((rd_T67 l0 x7_1).f0) = 2
            · rw [if_pos c20] at H
              obtain ⟨c20b0, c20b1⟩ := eqB_ c20
              clear c20
              by_cases c21 : x6_1.length < 4398046511104
              · rw [if_pos c21] at H
                have LMc21 := Aside0.mk c21
                clear c21
                obtain ⟨y338, hy338⟩ : ∃ y_ : List (S23), y_ = (x6_1 ++ [(⟨(rd_T67 l0 x7_1).f2.f0, (rd_T67 l0 x7_1).f2.f1, (rd_T67 l0 x7_1).f2.f2⟩ : S23)]) := ⟨_, rfl⟩
                replace H : (constableref01_Eval.l0 k1 l0 l1 y338 (wrap64 (x7_1 + 1))) = some (r1, r2, r3, r4) := by first | (rw [hy338]; with_reducible exact H) | (have H2_ := (Option.bind_some _ _).symm.trans H; rw [hy338]; with_reducible exact H2_) | (have H2_ := (Option.bind_some _ _).symm.trans H; with_reducible exact H2_) | with_reducible exact H | (rw [hy338]; exact H) | exact H
                have Ny338 := Aside0.mk hy338
                clear hy338
                have H' := Aside0.mk H
                clear H
                have p327 : 0 ≤ (x7_1 : Int) := dt_
                have q327 : x7_1 < (l0.length : Int) := dt_
                obtain ⟨ad327, e327, hx327_0, hx327_1, hx327_2, hx327_3, hx327_4⟩ := at_T67 HR0.out x7_1 p327 q327
                cases e327
                replace hx327_0 := cm_ HB hx327_0
                replace hx327_1 := cm_ HB hx327_1
                replace hx327_2 := cm_ HB hx327_2
                replace hx327_3 := cm_ HB hx327_3
                replace hx327_4 := cm_ HB hx327_4
                replace p327 := eq_true p327
                replace q327 := eq_true q327
                have p337 : 0 ≤ (x7_1 : Int) := dt_
                have q337 : x7_1 < (l0.length : Int) := dt_
                obtain ⟨ad337, e337, hx337_0, hx337_1, hx337_2, hx337_3, hx337_4⟩ := at_T67 HR0.out x7_1 p337 q337
                obtain rfl : ad327 = ad337 := (by injection e337)
                replace hx337_0 := cm_ HB hx337_0
                replace hx337_1 := cm_ HB hx337_1
                replace hx337_2 := cm_ HB hx337_2
                replace hx337_3 := cm_ HB hx337_3
                replace hx337_4 := cm_ HB hx337_4
                replace p337 := eq_true p337
                replace q337 := eq_true q337
                go_wp2_with (first | ((with_reducible refine gate_builtin (b := .append) (xs := #[.tmp 93, .tmp 99]) rfl ?_); at_builtin; refine Kd.R_append k23 (w0 := w) w.heap.size rfl (.tmp 93) (.tmp 99) 69 23 (.agg #[(.int .i64 0), (.int .i64 0), (.string ⟨#[]⟩)]) 32 rfl Try.underlying69 info23 rfl (by decide) (by omega) u6 x6_1 (⟨(rd_T67 l0 x7_1).f2.f0, (rd_T67 l0 x7_1).f2.f1, (rd_T67 l0 x7_1).f2.f2⟩ : S23) [.int .i64 ((rd_T67 l0 x7_1).f2.f0), .int .i64 ((rd_T67 l0 x7_1).f2.f1), .string ((rd_T67 l0 x7_1).f2.f2)] (fun k_ => k_ ≠ gb325) (fun _ => False) rfl rfl ?aP (fun _ hk => hk.elim) ?aF ?aO ?aB ?aS ?aL ?_; (case aP => exact k23_mkM _ _ _ (⟨(rd_T67 l0 x7_1).f2.f0, (rd_T67 l0 x7_1).f2.f1, (rd_T67 l0 x7_1).f2.f2⟩ : S23)); (case aB => exact (be_ HB)); (case aF => exact (fun k_ hk => Kd.freshB (bu_ BK325) k_ hk)); (case aO => exact (ku_ HO_6.out)); (case aS => exact (below_size (be_ HB))); (case aL => have := LMc21.out; omega); intro v339 w22 ho hb hg hat; rw [← Ny338.out] at ho; have n0_ := Aside0.mk (blk_grown (bu_ BK325) hg (Kd.R_away HO_6.out (fun _ hk => hk))); have n1_ := Aside0.mk (hb); have n2_ := Aside0.mk (ho); clear BK325; clear HB; clear HO_6; have BK325 := n0_; have HB := n1_; have HO340 := n2_; clear n0_ n1_ n2_; clear ho hb hg hat))
                go_roundg k1
                case measure => have := HK1.out; omega
                case rel => exact ⟨(y338), (wrap64 (x7_1 + 1)), (x326000_1), (x326001_1), (x326002_1), ra_, H', ⟨by have := HK1.out; omega⟩, ⟨by (with_reducible repeat (first | apply Kd.R_alloc | apply Kd.R_drewN | apply Kd.R_drew)); exact HO340.out⟩, ⟨by (with_reducible repeat (first | refine blk_drewN ?_ _ | refine blk_drew ?_ | refine blk_alloc ?_ _)); exact BK325.out⟩, ⟨by repeat (first | (with_reducible first | exact HB.out | apply below_alloc | apply pw_below_drewN | apply below_drew1 | refine below_set ?_ GE325.out) | exact HB.out)⟩⟩
              · rw [if_neg c21] at H
                exact absurd H (by simp)
            · rw [if_neg c20] at H
              obtain ⟨c20b0, c20b1⟩ := neB_ c20
              obtain ⟨ji23, hji23⟩ : ∃ j_ : Int, (wrap64 ((x6_1.length : Int) - 2)) = j_ := ⟨_, rfl⟩
              replace H : (if 0 ≤ (ji23) then (if (ji23) < (x6_1.length : Int) then (if 0 ≤ (wrap64 ((x6_1.length : Int) - 1)) then (if (wrap64 ((x6_1.length : Int) - 1)) < (x6_1.length : Int) then (if ((rd_T23 x6_1 (ji23)).f0) = 1 then (constableref01_Eval.j1 k1 l0 l1 x6_1 x7_1 (((rd_T23 x6_1 (wrap64 ((x6_1.length : Int) - 1))).f0) != 1) ((rd_T23 x6_1 (ji23)).f0) ((rd_T23 x6_1 (ji23)).f1) ((rd_T23 x6_1 (ji23)).f2) ((rd_T23 x6_1 (wrap64 ((x6_1.length : Int) - 1))).f0) ((rd_T23 x6_1 (wrap64 ((x6_1.length : Int) - 1))).f1) ((rd_T23 x6_1 (wrap64 ((x6_1.length : Int) - 1))).f2)) else (constableref01_Eval.j1 k1 l0 l1 x6_1 x7_1 true ((rd_T23 x6_1 (ji23)).f0) ((rd_T23 x6_1 (ji23)).f1) ((rd_T23 x6_1 (ji23)).f2) ((rd_T23 x6_1 (wrap64 ((x6_1.length : Int) - 1))).f0) ((rd_T23 x6_1 (wrap64 ((x6_1.length : Int) - 1))).f1) ((rd_T23 x6_1 (wrap64 ((x6_1.length : Int) - 1))).f2))) else (none)) else (none)) else (none)) else (none)) = some (r1, r2, r3, r4) := by first | (rw [hji23] at H; exact H) | (simp only [hji23] at H ⊢; exact H)
              have hji23w : (IntKind.i64.wrap ((x6_1.length : Int) - 2)) = ji23 := (i64_w _).trans hji23
              by_cases c24 : 0 ≤ (ji23)
              · rw [if_pos c24] at H
                have c24b0 : decide (0 ≤ (ji23)) = true := decide_eq_true c24
                clear c24
                by_cases c25 : (ji23) < (x6_1.length : Int)
                · rw [if_pos c25] at H
                  have c25b0 : decide ((ji23) < (x6_1.length : Int)) = true := decide_eq_true c25
                  clear c25
                  obtain ⟨ji26, hji26⟩ : ∃ j_ : Int, (wrap64 ((x6_1.length : Int) - 1)) = j_ := ⟨_, rfl⟩
                  replace H : (if 0 ≤ (ji26) then (if (ji26) < (x6_1.length : Int) then (if ((rd_T23 x6_1 (ji23)).f0) = 1 then (constableref01_Eval.j1 k1 l0 l1 x6_1 x7_1 (((rd_T23 x6_1 (ji26)).f0) != 1) ((rd_T23 x6_1 (ji23)).f0) ((rd_T23 x6_1 (ji23)).f1) ((rd_T23 x6_1 (ji23)).f2) ((rd_T23 x6_1 (ji26)).f0) ((rd_T23 x6_1 (ji26)).f1) ((rd_T23 x6_1 (ji26)).f2)) else (constableref01_Eval.j1 k1 l0 l1 x6_1 x7_1 true ((rd_T23 x6_1 (ji23)).f0) ((rd_T23 x6_1 (ji23)).f1) ((rd_T23 x6_1 (ji23)).f2) ((rd_T23 x6_1 (ji26)).f0) ((rd_T23 x6_1 (ji26)).f1) ((rd_T23 x6_1 (ji26)).f2))) else (none)) else (none)) = some (r1, r2, r3, r4) := by first | (rw [hji26] at H; exact H) | (simp only [hji26] at H ⊢; exact H)
                  have hji26w : (IntKind.i64.wrap ((x6_1.length : Int) - 1)) = ji26 := (i64_w _).trans hji26
                  by_cases c27 : 0 ≤ (ji26)
                  · rw [if_pos c27] at H
                    have c27b0 : decide (0 ≤ (ji26)) = true := decide_eq_true c27
                    clear c27
                    by_cases c28 : (ji26) < (x6_1.length : Int)
                    · rw [if_pos c28] at H
                      have c28b0 : decide ((ji26) < (x6_1.length : Int)) = true := decide_eq_true c28
                      clear c28
                      have HC29 := Aside0.mk H
                      clear H
                      have p327 : 0 ≤ (x7_1 : Int) := dt_
                      have q327 : x7_1 < (l0.length : Int) := dt_
                      obtain ⟨ad327, e327, hx327_0, hx327_1, hx327_2, hx327_3, hx327_4⟩ := at_T67 HR0.out x7_1 p327 q327
                      cases e327
                      replace hx327_0 := cm_ HB hx327_0
                      replace hx327_1 := cm_ HB hx327_1
                      replace hx327_2 := cm_ HB hx327_2
                      replace hx327_3 := cm_ HB hx327_3
                      replace hx327_4 := cm_ HB hx327_4
                      replace p327 := eq_true p327
                      replace q327 := eq_true q327
                      try go_wp2
                      have n0_ := Aside0.mk (Kd.R_drew HO_6.out)
                      have n1_ := Aside0.mk (blk_drew BK325.out)
                      have n2_ := Aside0.mk (below_drew1 HB.out)
                      clear HO_6
                      clear BK325
                      clear HB
                      have HO_6 := n0_
                      have BK325 := n1_
                      have HB := n2_
                      clear n0_ n1_ n2_
                      obtain ⟨Ao31, co31, eo31⟩ := Kd.R_slice HO_6.out
                      (first | subst eo31 | (injection eo31 with f1_ f2_ f3_; have f4_ := f1_.symm; have f5_ := f3_.symm; clear f1_ f2_ f3_; subst f4_; subst f5_))
                      have p341 : 0 ≤ ((ji23) : Int) := dt_
                      have q341 : (ji23) < (x6_1.length : Int) := dt_
                      obtain ⟨ad341, e341, hx341_0, hx341_1, hx341_2⟩ := at_T23 (Kd.R_reads' HO_6.out).2.2 (ji23) p341 q341
                      cases e341
                      replace p341 := eq_true p341
                      replace q341 := eq_true q341
                      have p342 : 0 ≤ ((ji26) : Int) := dt_
                      have q342 : (ji26) < (x6_1.length : Int) := dt_
                      obtain ⟨ad342, e342, hx342_0, hx342_1, hx342_2⟩ := at_T23 (Kd.R_reads' HO_6.out).2.2 (ji26) p342 q342
                      obtain rfl : ad341 = ad342 := (by injection e342)
                      replace p342 := eq_true p342
                      replace q342 := eq_true q342
                      refine start_ (n := 16) (S := fun w' => w'.cell? (ad341.add (((ji23)).toNat * 3)) = some (.int .i64 ((rd_T23 x6_1 (ji23)).f0)) ∧ w'.cell? ⟨(ad341.add (((ji23)).toNat * 3)).block, (ad341.add (((ji23)).toNat * 3)).off + 1, none⟩ = some (.int .i64 ((rd_T23 x6_1 (ji23)).f1)) ∧ w'.cell? ⟨(ad341.add (((ji23)).toNat * 3)).block, (ad341.add (((ji23)).toNat * 3)).off + 2, none⟩ = some (.string ((rd_T23 x6_1 (ji23)).f2)) ∧ w'.cell? (ad341.add (((ji26)).toNat * 3)) = some (.int .i64 ((rd_T23 x6_1 (ji26)).f0)) ∧ w'.cell? ⟨(ad341.add (((ji26)).toNat * 3)).block, (ad341.add (((ji26)).toNat * 3)).off + 1, none⟩ = some (.int .i64 ((rd_T23 x6_1 (ji26)).f1)) ∧ w'.cell? ⟨(ad341.add (((ji26)).toNat * 3)).block, (ad341.add (((ji26)).toNat * 3)).off + 2, none⟩ = some (.string ((rd_T23 x6_1 (ji26)).f2))) (ds := []) (mk_ 16 0) (by kernel_rfl) rfl rfl ⟨hx341_0, hx341_1, hx341_2, hx342_0, hx342_1, hx342_2⟩ (fun hHeld => ?_); refine with_tabW constableref01_Eval.tab6 constableref01_Eval.bits6 (fun HT_ HW_ => ?_)
                      generalize wr.drew = w30 at HO_6 BK325 HB hx341_0 hx341_1 hx341_2 hx342_0 hx342_1 hx342_2 hHeld ⊢
                      refine pu_ 0 25 1 HT_ ?_; refine pu_ 1 26 3 HT_ ?_; refine pu_ 2 27 7 HT_ ?_; refine pu_ 3 28 15 HT_ ?_; refine pu_ 4 29 31 HT_ ?_; refine pu_ 6 31 95 HT_ ?_; refine pu_ 7 32 223 HT_ ?_; refine pu_ 8 33 479 HT_ ?_; refine pu_ 9 34 991 HT_ ?_; refine pu_ 10 35 2015 HT_ ?_; refine tk_ 5 30 2047 HT_ HW_ hHeld ?_; refine tk_ 11 36 4095 HT_ HW_ hHeld ?_
                      refine join_ (σ := Nat × Nat) 2 #[true, true, true, true, true, true, true, true, true, true, true, true, true, true, false, false] (fun s_ => [(10, .pointer (some ⟨s_.1, 0, none⟩)), (11, .pointer (some ⟨s_.2, 0, none⟩))]) (fun s_ w' => (w'.cell? (ad341.add (((ji23)).toNat * 3)) = some (.int .i64 ((rd_T23 x6_1 (ji23)).f0)) ∧ w'.cell? ⟨(ad341.add (((ji23)).toNat * 3)).block, (ad341.add (((ji23)).toNat * 3)).off + 1, none⟩ = some (.int .i64 ((rd_T23 x6_1 (ji23)).f1)) ∧ w'.cell? ⟨(ad341.add (((ji23)).toNat * 3)).block, (ad341.add (((ji23)).toNat * 3)).off + 2, none⟩ = some (.string ((rd_T23 x6_1 (ji23)).f2)) ∧ w'.cell? (ad341.add (((ji26)).toNat * 3)) = some (.int .i64 ((rd_T23 x6_1 (ji26)).f0)) ∧ w'.cell? ⟨(ad341.add (((ji26)).toNat * 3)).block, (ad341.add (((ji26)).toNat * 3)).off + 1, none⟩ = some (.int .i64 ((rd_T23 x6_1 (ji26)).f1)) ∧ w'.cell? ⟨(ad341.add (((ji26)).toNat * 3)).block, (ad341.add (((ji26)).toNat * 3)).off + 2, none⟩ = some (.string ((rd_T23 x6_1 (ji26)).f2))) ∧ (Kd.R k23 23 w' w.heap.size (fun k_ => k_ ≠ gb325 ∧ k_ ≠ s_.1 ∧ k_ ≠ s_.2) (.slice (some ad341) x6_1.length co31) x6_1) ∧ (w'.heap[gb325]? = some (.cells #[.int .i64 x326000_1, .int .i64 x326001_1, .string x326002_1] 23 (0, 0))) ∧ (w'.heap[s_.1]? = some (.cells #[.int .i64 0, .int .i64 0, .string (⟨#[]⟩ : ByteArray)] 23 (0, 0))) ∧ (w'.heap[s_.2]? = some (.cells #[.int .i64 0, .int .i64 0, .string (⟨#[]⟩ : ByteArray)] 23 (0, 0))) ∧ (w.heap.size ≤ s_.1) ∧ (w.heap.size ≤ s_.1) ∧ (gb325 ≠ s_.1) ∧ (s_.1 ≠ gb325) ∧ (s_.2 ≠ s_.1) ∧ (s_.1 ≠ s_.2) ∧ (w.heap.size ≤ s_.2) ∧ (w.heap.size ≤ s_.2) ∧ (gb325 ≠ s_.2) ∧ (s_.2 ≠ gb325) ∧ (Below w.heap.size w w')) ?_ ?_
                      rotate_left
                      · intro hCont
                        refine two_ (i := 12) (j := 13) (Ni := some 10) (Nj := some 11) (mk_ 16 8191) (mk_ 16 12287) rfl rfl rfl rfl (two_of HT_.out (by kernel_rfl)) (by decide) (by decide) (fun K hK => ?_) (fun K hK => ?_)
                        · skip
                          refine box_step ?hg (N := 10) ?hd (cs := #[.int .i64 0, .int .i64 0, .string (⟨#[]⟩ : ByteArray)]) (t := 23) ?hr ?_; (case hd => rfl); (case hg => rfl); (case hr => first | (go_simp; done) | (go_simp; rfl))
                          intro gb343 hg w32 hbox hb
                          have HS0_ := (hb.cell (World.block_lt_of_cell? _ _ (hHeld.1))).trans (hHeld.1)
                          have HS1_ := (hb.cell (World.block_lt_of_cell? _ _ (hHeld.2.1))).trans (hHeld.2.1)
                          have HS2_ := (hb.cell (World.block_lt_of_cell? _ _ (hHeld.2.2.1))).trans (hHeld.2.2.1)
                          have HS3_ := (hb.cell (World.block_lt_of_cell? _ _ (hHeld.2.2.2.1))).trans (hHeld.2.2.2.1)
                          have HS4_ := (hb.cell (World.block_lt_of_cell? _ _ (hHeld.2.2.2.2.1))).trans (hHeld.2.2.2.2.1)
                          have HS5_ := (hb.cell (World.block_lt_of_cell? _ _ (hHeld.2.2.2.2.2))).trans (hHeld.2.2.2.2.2)
                          have n0_ := Aside0.mk (Kd.R_below (Kd.R_elderB (ku_ HO_6.out) gb343 (Nat.le_of_eq hg.symm)) hb)
                          have n1_ := bb_ (bu_ BK325) hb
                          have n2_ := bs_ (be_ HB) hb
                          have n3_ := Aside0.mk (hbox)
                          have n4_ := gs_ hg (be_ HB)
                          have n5_ := gs_ hg (be_ HB)
                          have n6_ := nl_ hg (bu_ BK325)
                          have n7_ := ng_ hg (bu_ BK325)
                          clear HO_6
                          clear BK325
                          clear HB
                          have HO_6 := n0_
                          have BK325 := n1_
                          have HB := n2_
                          have BK343 := n3_
                          have GW343 := n4_
                          have GE343 := n5_
                          have NB325_343 := n6_
                          have NB343_325 := n7_
                          clear n0_ n1_ n2_ n3_ n4_ n5_ n6_ n7_
                          clear hb hbox hg
                          refine hK.out _ _ ⟨HS0_, HS1_, HS2_, HS3_, HS4_, HS5_⟩ (fun hHeld => ?_)
                          clear hK K
                          refine nm_ 10 ?_
                          refine one_ (i := 13) (N := some 11) (mk_ 16 16383) rfl rfl (one_of HT_.out (by kernel_rfl)) (by decide) (fun K hK => ?_)
                          refine box_step ?hg (N := 11) ?hd (cs := #[.int .i64 0, .int .i64 0, .string (⟨#[]⟩ : ByteArray)]) (t := 23) ?hr ?_; (case hd => rfl); (case hg => rfl); (case hr => first | (go_simp; done) | (go_simp; rfl))
                          intro gb344 hg w33 hbox hb
                          have HS0_ := (hb.cell (World.block_lt_of_cell? _ _ (hHeld.1))).trans (hHeld.1)
                          have HS1_ := (hb.cell (World.block_lt_of_cell? _ _ (hHeld.2.1))).trans (hHeld.2.1)
                          have HS2_ := (hb.cell (World.block_lt_of_cell? _ _ (hHeld.2.2.1))).trans (hHeld.2.2.1)
                          have HS3_ := (hb.cell (World.block_lt_of_cell? _ _ (hHeld.2.2.2.1))).trans (hHeld.2.2.2.1)
                          have HS4_ := (hb.cell (World.block_lt_of_cell? _ _ (hHeld.2.2.2.2.1))).trans (hHeld.2.2.2.2.1)
                          have HS5_ := (hb.cell (World.block_lt_of_cell? _ _ (hHeld.2.2.2.2.2))).trans (hHeld.2.2.2.2.2)
                          have n0_ := Aside0.mk (Kd.R_below (Kd.R_elderB (ku_ HO_6.out) gb344 (Nat.le_of_eq hg.symm)) hb)
                          have n1_ := bb_ (bu_ BK325) hb
                          have n2_ := bb_ (bu_ BK343) hb
                          have n3_ := bs_ (be_ HB) hb
                          have n4_ := Aside0.mk (hbox)
                          have n5_ := gs_ hg (be_ HB)
                          have n6_ := gs_ hg (be_ HB)
                          have n7_ := nl_ hg (bu_ BK325)
                          have n8_ := ng_ hg (bu_ BK325)
                          have n9_ := nl_ hg (bu_ BK343)
                          have n10_ := ng_ hg (bu_ BK343)
                          clear HO_6
                          clear BK325
                          clear BK343
                          clear HB
                          have HO_6 := n0_
                          have BK325 := n1_
                          have BK343 := n2_
                          have HB := n3_
                          have BK344 := n4_
                          have GW344 := n5_
                          have GE344 := n6_
                          have NB325_344 := n7_
                          have NB344_325 := n8_
                          have NB343_344 := n9_
                          have NB344_343 := n10_
                          clear n0_ n1_ n2_ n3_ n4_ n5_ n6_ n7_ n8_ n9_ n10_
                          clear hb hbox hg
                          refine hK.out _ _ ⟨HS0_, HS1_, HS2_, HS3_, HS4_, HS5_⟩ (fun hHeld => ?_)
                          clear hK K
                          refine nm_ 11 ?_
                          exact norm_ (by simp only [putAll, Act.put, List.setIfInBounds_toArray, List.set_cons_zero, List.set_cons_succ]) (hCont (gb343, gb344) _ ⟨hHeld, (by (with_reducible repeat (first | apply Kd.R_alloc | apply Kd.R_drewN | apply Kd.R_drew)); exact Kd.R_mono HO_6.out (fun _ hk => ⟨hk.1.1, ⟨hk.1.2, hk.2⟩⟩)), (bu_ BK325), (bu_ BK343), (bu_ BK344), GW343.out, GE343.out, NB325_343.out, NB343_325.out, NB344_343.out, NB343_344.out, GW344.out, GE344.out, NB325_344.out, NB344_325.out, (be_ HB)⟩)
                        · skip
                          refine box_step ?hg (N := 11) ?hd (cs := #[.int .i64 0, .int .i64 0, .string (⟨#[]⟩ : ByteArray)]) (t := 23) ?hr ?_; (case hd => rfl); (case hg => rfl); (case hr => first | (go_simp; done) | (go_simp; rfl))
                          intro gb344 hg w32 hbox hb
                          have HS0_ := (hb.cell (World.block_lt_of_cell? _ _ (hHeld.1))).trans (hHeld.1)
                          have HS1_ := (hb.cell (World.block_lt_of_cell? _ _ (hHeld.2.1))).trans (hHeld.2.1)
                          have HS2_ := (hb.cell (World.block_lt_of_cell? _ _ (hHeld.2.2.1))).trans (hHeld.2.2.1)
                          have HS3_ := (hb.cell (World.block_lt_of_cell? _ _ (hHeld.2.2.2.1))).trans (hHeld.2.2.2.1)
                          have HS4_ := (hb.cell (World.block_lt_of_cell? _ _ (hHeld.2.2.2.2.1))).trans (hHeld.2.2.2.2.1)
                          have HS5_ := (hb.cell (World.block_lt_of_cell? _ _ (hHeld.2.2.2.2.2))).trans (hHeld.2.2.2.2.2)
                          have n0_ := Aside0.mk (Kd.R_below (Kd.R_elderB (ku_ HO_6.out) gb344 (Nat.le_of_eq hg.symm)) hb)
                          have n1_ := bb_ (bu_ BK325) hb
                          have n2_ := bs_ (be_ HB) hb
                          have n3_ := Aside0.mk (hbox)
                          have n4_ := gs_ hg (be_ HB)
                          have n5_ := gs_ hg (be_ HB)
                          have n6_ := nl_ hg (bu_ BK325)
                          have n7_ := ng_ hg (bu_ BK325)
                          clear HO_6
                          clear BK325
                          clear HB
                          have HO_6 := n0_
                          have BK325 := n1_
                          have HB := n2_
                          have BK344 := n3_
                          have GW344 := n4_
                          have GE344 := n5_
                          have NB325_344 := n6_
                          have NB344_325 := n7_
                          clear n0_ n1_ n2_ n3_ n4_ n5_ n6_ n7_
                          clear hb hbox hg
                          refine hK.out _ _ ⟨HS0_, HS1_, HS2_, HS3_, HS4_, HS5_⟩ (fun hHeld => ?_)
                          clear hK K
                          refine nm_ 11 ?_
                          refine one_ (i := 12) (N := some 10) (mk_ 16 16383) rfl rfl (one_of HT_.out (by kernel_rfl)) (by decide) (fun K hK => ?_)
                          refine box_step ?hg (N := 10) ?hd (cs := #[.int .i64 0, .int .i64 0, .string (⟨#[]⟩ : ByteArray)]) (t := 23) ?hr ?_; (case hd => rfl); (case hg => rfl); (case hr => first | (go_simp; done) | (go_simp; rfl))
                          intro gb343 hg w33 hbox hb
                          have HS0_ := (hb.cell (World.block_lt_of_cell? _ _ (hHeld.1))).trans (hHeld.1)
                          have HS1_ := (hb.cell (World.block_lt_of_cell? _ _ (hHeld.2.1))).trans (hHeld.2.1)
                          have HS2_ := (hb.cell (World.block_lt_of_cell? _ _ (hHeld.2.2.1))).trans (hHeld.2.2.1)
                          have HS3_ := (hb.cell (World.block_lt_of_cell? _ _ (hHeld.2.2.2.1))).trans (hHeld.2.2.2.1)
                          have HS4_ := (hb.cell (World.block_lt_of_cell? _ _ (hHeld.2.2.2.2.1))).trans (hHeld.2.2.2.2.1)
                          have HS5_ := (hb.cell (World.block_lt_of_cell? _ _ (hHeld.2.2.2.2.2))).trans (hHeld.2.2.2.2.2)
                          have n0_ := Aside0.mk (Kd.R_below (Kd.R_elderB (ku_ HO_6.out) gb343 (Nat.le_of_eq hg.symm)) hb)
                          have n1_ := bb_ (bu_ BK325) hb
                          have n2_ := bb_ (bu_ BK344) hb
                          have n3_ := bs_ (be_ HB) hb
                          have n4_ := Aside0.mk (hbox)
                          have n5_ := gs_ hg (be_ HB)
                          have n6_ := gs_ hg (be_ HB)
                          have n7_ := nl_ hg (bu_ BK325)
                          have n8_ := ng_ hg (bu_ BK325)
                          have n9_ := nl_ hg (bu_ BK344)
                          have n10_ := ng_ hg (bu_ BK344)
                          clear HO_6
                          clear BK325
                          clear BK344
                          clear HB
                          have HO_6 := n0_
                          have BK325 := n1_
                          have BK344 := n2_
                          have HB := n3_
                          have BK343 := n4_
                          have GW343 := n5_
                          have GE343 := n6_
                          have NB325_343 := n7_
                          have NB343_325 := n8_
                          have NB344_343 := n9_
                          have NB343_344 := n10_
                          clear n0_ n1_ n2_ n3_ n4_ n5_ n6_ n7_ n8_ n9_ n10_
                          clear hb hbox hg
                          refine hK.out _ _ ⟨HS0_, HS1_, HS2_, HS3_, HS4_, HS5_⟩ (fun hHeld => ?_)
                          clear hK K
                          refine nm_ 10 ?_
                          exact norm_ (by simp only [putAll, Act.put, List.setIfInBounds_toArray, List.set_cons_zero, List.set_cons_succ]) (hCont (gb343, gb344) _ ⟨hHeld, (by (with_reducible repeat (first | apply Kd.R_alloc | apply Kd.R_drewN | apply Kd.R_drew)); exact Kd.R_mono HO_6.out (fun _ hk => ⟨hk.1.1, ⟨hk.2, hk.1.2⟩⟩)), (bu_ BK325), (bu_ BK343), (bu_ BK344), GW343.out, GE343.out, NB325_343.out, NB343_325.out, NB344_343.out, NB343_344.out, GW344.out, GE344.out, NB325_344.out, NB344_325.out, (be_ HB)⟩)
                      rintro ⟨gb343, gb344⟩ w34 ⟨hS_, h0_, h1_, h2_, h3_, h4_, h5_, h6_, h7_, h8_, h9_, h10_, h11_, h12_, h13_, h14_⟩
                      have n0_ : Aside0 (Kd.R k23 23 w34 w.heap.size (fun k_ => k_ ≠ gb325 ∧ k_ ≠ gb343 ∧ k_ ≠ gb344) (.slice (some ad341) x6_1.length co31) x6_1) := ⟨h0_⟩
                      have n1_ : Aside0 (w34.heap[gb325]? = some (.cells #[.int .i64 x326000_1, .int .i64 x326001_1, .string x326002_1] 23 (0, 0))) := ⟨h1_⟩
                      have n2_ : Aside0 (w34.heap[gb343]? = some (.cells #[.int .i64 0, .int .i64 0, .string (⟨#[]⟩ : ByteArray)] 23 (0, 0))) := ⟨h2_⟩
                      have n3_ : Aside0 (w34.heap[gb344]? = some (.cells #[.int .i64 0, .int .i64 0, .string (⟨#[]⟩ : ByteArray)] 23 (0, 0))) := ⟨h3_⟩
                      have n4_ : Aside0 (w.heap.size ≤ gb343) := ⟨h4_⟩
                      have n5_ : Aside0 (w.heap.size ≤ gb343) := ⟨h5_⟩
                      have n6_ : Aside0 (gb325 ≠ gb343) := ⟨h6_⟩
                      have n7_ : Aside0 (gb343 ≠ gb325) := ⟨h7_⟩
                      have n8_ : Aside0 (gb344 ≠ gb343) := ⟨h8_⟩
                      have n9_ : Aside0 (gb343 ≠ gb344) := ⟨h9_⟩
                      have n10_ : Aside0 (w.heap.size ≤ gb344) := ⟨h10_⟩
                      have n11_ : Aside0 (w.heap.size ≤ gb344) := ⟨h11_⟩
                      have n12_ : Aside0 (gb325 ≠ gb344) := ⟨h12_⟩
                      have n13_ : Aside0 (gb344 ≠ gb325) := ⟨h13_⟩
                      have n14_ : Aside0 (Below w.heap.size w w34) := ⟨h14_⟩
                      clear HO_6
                      clear BK325
                      clear HB
                      clear h0_ h1_ h2_ h3_ h4_ h5_ h6_ h7_ h8_ h9_ h10_ h11_ h12_ h13_ h14_
                      have HO_6 := n0_
                      have BK325 := n1_
                      have BK343 := n2_
                      have BK344 := n3_
                      have GW343 := n4_
                      have GE343 := n5_
                      have NB325_343 := n6_
                      have NB343_325 := n7_
                      have NB344_343 := n8_
                      have NB343_344 := n9_
                      have GW344 := n10_
                      have GE344 := n11_
                      have NB325_344 := n12_
                      have NB344_325 := n13_
                      have HB := n14_
                      clear n0_ n1_ n2_ n3_ n4_ n5_ n6_ n7_ n8_ n9_ n10_ n11_ n12_ n13_ n14_
                      have hHeld : w34.cell? (ad341.add (((ji23)).toNat * 3)) = some (.int .i64 ((rd_T23 x6_1 (ji23)).f0)) ∧ w34.cell? ⟨(ad341.add (((ji23)).toNat * 3)).block, (ad341.add (((ji23)).toNat * 3)).off + 1, none⟩ = some (.int .i64 ((rd_T23 x6_1 (ji23)).f1)) ∧ w34.cell? ⟨(ad341.add (((ji23)).toNat * 3)).block, (ad341.add (((ji23)).toNat * 3)).off + 2, none⟩ = some (.string ((rd_T23 x6_1 (ji23)).f2)) ∧ w34.cell? (ad341.add (((ji26)).toNat * 3)) = some (.int .i64 ((rd_T23 x6_1 (ji26)).f0)) ∧ w34.cell? ⟨(ad341.add (((ji26)).toNat * 3)).block, (ad341.add (((ji26)).toNat * 3)).off + 1, none⟩ = some (.int .i64 ((rd_T23 x6_1 (ji26)).f1)) ∧ w34.cell? ⟨(ad341.add (((ji26)).toNat * 3)).block, (ad341.add (((ji26)).toNat * 3)).off + 2, none⟩ = some (.string ((rd_T23 x6_1 (ji26)).f2)) := hS_
                      refine norm_ (a' := ?_) ?_ ?_
                      rotate_left
                      · simp only [putAll, Act.put, List.setIfInBounds_toArray, List.set_cons_zero, List.set_cons_succ]
                        rfl
                      refine one_ (i := 14) (N := none) (mk_ 16 32767) rfl rfl (one_of HT_.out (by kernel_rfl)) (by decide) (fun K hK => ?_)
                      have hs35 : w34.cell? ⟨gb343, 0, none⟩ = some (.int .i64 0) := (blk_cell BK343.out 0).trans rfl
                      have hfs35 := blk_frozen BK343.out 0
                      have hns35_0 := NB325_343.out
                      have hns35_2 := NB344_343.out
                      have hms35_0 := NB343_325.out
                      have hms35_2 := NB343_344.out
                      have hs36 : w34.cell? ⟨gb343, 1, none⟩ = some (.int .i64 0) := (blk_cell BK343.out 1).trans rfl
                      have hfs36 := blk_frozen BK343.out 1
                      have hns36_0 := NB325_343.out
                      have hns36_2 := NB344_343.out
                      have hms36_0 := NB343_325.out
                      have hms36_2 := NB343_344.out
                      have hs37 : w34.cell? ⟨gb343, 2, none⟩ = some (.string (⟨#[]⟩ : ByteArray)) := (blk_cell BK343.out 2).trans rfl
                      have hfs37 := blk_frozen BK343.out 2
                      have hns37_0 := NB325_343.out
                      have hns37_2 := NB344_343.out
                      have hms37_0 := NB343_325.out
                      have hms37_2 := NB343_344.out
                      refine skip_ (w1 := ?_) (by rfl) rfl ?_ ?_
                      rotate_left
                      · go_simp
                        rfl
                      refine hK.out _ _ ⟨((cell_far (p := ⟨gb343, _, none⟩) (by first | exact Kd.own_blk (Kd.R_away HO_6.out (fun _ hk => hk.2.1)) | (rw [add_block]; exact Kd.own_blk (Kd.R_away HO_6.out (fun _ hk => hk.2.1))) | (show (Addr.add _ _).block ≠ _; rw [add_block]; exact Kd.own_blk (Kd.R_away HO_6.out (fun _ hk => hk.2.1))) | (dsimp only; exact Kd.own_blk (Kd.R_away HO_6.out (fun _ hk => hk.2.1)))) _).trans (((cell_far (p := ⟨gb343, _, none⟩) (by first | exact Kd.own_blk (Kd.R_away HO_6.out (fun _ hk => hk.2.1)) | (rw [add_block]; exact Kd.own_blk (Kd.R_away HO_6.out (fun _ hk => hk.2.1))) | (show (Addr.add _ _).block ≠ _; rw [add_block]; exact Kd.own_blk (Kd.R_away HO_6.out (fun _ hk => hk.2.1))) | (dsimp only; exact Kd.own_blk (Kd.R_away HO_6.out (fun _ hk => hk.2.1)))) _).trans (((cell_far (p := ⟨gb343, _, none⟩) (by first | exact Kd.own_blk (Kd.R_away HO_6.out (fun _ hk => hk.2.1)) | (rw [add_block]; exact Kd.own_blk (Kd.R_away HO_6.out (fun _ hk => hk.2.1))) | (show (Addr.add _ _).block ≠ _; rw [add_block]; exact Kd.own_blk (Kd.R_away HO_6.out (fun _ hk => hk.2.1))) | (dsimp only; exact Kd.own_blk (Kd.R_away HO_6.out (fun _ hk => hk.2.1)))) _).trans (hHeld.1)))))), ((cell_far (p := ⟨gb343, _, none⟩) (by first | exact Kd.own_blk (Kd.R_away HO_6.out (fun _ hk => hk.2.1)) | (rw [add_block]; exact Kd.own_blk (Kd.R_away HO_6.out (fun _ hk => hk.2.1))) | (show (Addr.add _ _).block ≠ _; rw [add_block]; exact Kd.own_blk (Kd.R_away HO_6.out (fun _ hk => hk.2.1))) | (dsimp only; exact Kd.own_blk (Kd.R_away HO_6.out (fun _ hk => hk.2.1)))) _).trans (((cell_far (p := ⟨gb343, _, none⟩) (by first | exact Kd.own_blk (Kd.R_away HO_6.out (fun _ hk => hk.2.1)) | (rw [add_block]; exact Kd.own_blk (Kd.R_away HO_6.out (fun _ hk => hk.2.1))) | (show (Addr.add _ _).block ≠ _; rw [add_block]; exact Kd.own_blk (Kd.R_away HO_6.out (fun _ hk => hk.2.1))) | (dsimp only; exact Kd.own_blk (Kd.R_away HO_6.out (fun _ hk => hk.2.1)))) _).trans (((cell_far (p := ⟨gb343, _, none⟩) (by first | exact Kd.own_blk (Kd.R_away HO_6.out (fun _ hk => hk.2.1)) | (rw [add_block]; exact Kd.own_blk (Kd.R_away HO_6.out (fun _ hk => hk.2.1))) | (show (Addr.add _ _).block ≠ _; rw [add_block]; exact Kd.own_blk (Kd.R_away HO_6.out (fun _ hk => hk.2.1))) | (dsimp only; exact Kd.own_blk (Kd.R_away HO_6.out (fun _ hk => hk.2.1)))) _).trans (hHeld.2.1)))))), ((cell_far (p := ⟨gb343, _, none⟩) (by first | exact Kd.own_blk (Kd.R_away HO_6.out (fun _ hk => hk.2.1)) | (rw [add_block]; exact Kd.own_blk (Kd.R_away HO_6.out (fun _ hk => hk.2.1))) | (show (Addr.add _ _).block ≠ _; rw [add_block]; exact Kd.own_blk (Kd.R_away HO_6.out (fun _ hk => hk.2.1))) | (dsimp only; exact Kd.own_blk (Kd.R_away HO_6.out (fun _ hk => hk.2.1)))) _).trans (((cell_far (p := ⟨gb343, _, none⟩) (by first | exact Kd.own_blk (Kd.R_away HO_6.out (fun _ hk => hk.2.1)) | (rw [add_block]; exact Kd.own_blk (Kd.R_away HO_6.out (fun _ hk => hk.2.1))) | (show (Addr.add _ _).block ≠ _; rw [add_block]; exact Kd.own_blk (Kd.R_away HO_6.out (fun _ hk => hk.2.1))) | (dsimp only; exact Kd.own_blk (Kd.R_away HO_6.out (fun _ hk => hk.2.1)))) _).trans (((cell_far (p := ⟨gb343, _, none⟩) (by first | exact Kd.own_blk (Kd.R_away HO_6.out (fun _ hk => hk.2.1)) | (rw [add_block]; exact Kd.own_blk (Kd.R_away HO_6.out (fun _ hk => hk.2.1))) | (show (Addr.add _ _).block ≠ _; rw [add_block]; exact Kd.own_blk (Kd.R_away HO_6.out (fun _ hk => hk.2.1))) | (dsimp only; exact Kd.own_blk (Kd.R_away HO_6.out (fun _ hk => hk.2.1)))) _).trans (hHeld.2.2.1)))))), ((cell_far (p := ⟨gb343, _, none⟩) (by first | exact Kd.own_blk (Kd.R_away HO_6.out (fun _ hk => hk.2.1)) | (rw [add_block]; exact Kd.own_blk (Kd.R_away HO_6.out (fun _ hk => hk.2.1))) | (show (Addr.add _ _).block ≠ _; rw [add_block]; exact Kd.own_blk (Kd.R_away HO_6.out (fun _ hk => hk.2.1))) | (dsimp only; exact Kd.own_blk (Kd.R_away HO_6.out (fun _ hk => hk.2.1)))) _).trans (((cell_far (p := ⟨gb343, _, none⟩) (by first | exact Kd.own_blk (Kd.R_away HO_6.out (fun _ hk => hk.2.1)) | (rw [add_block]; exact Kd.own_blk (Kd.R_away HO_6.out (fun _ hk => hk.2.1))) | (show (Addr.add _ _).block ≠ _; rw [add_block]; exact Kd.own_blk (Kd.R_away HO_6.out (fun _ hk => hk.2.1))) | (dsimp only; exact Kd.own_blk (Kd.R_away HO_6.out (fun _ hk => hk.2.1)))) _).trans (((cell_far (p := ⟨gb343, _, none⟩) (by first | exact Kd.own_blk (Kd.R_away HO_6.out (fun _ hk => hk.2.1)) | (rw [add_block]; exact Kd.own_blk (Kd.R_away HO_6.out (fun _ hk => hk.2.1))) | (show (Addr.add _ _).block ≠ _; rw [add_block]; exact Kd.own_blk (Kd.R_away HO_6.out (fun _ hk => hk.2.1))) | (dsimp only; exact Kd.own_blk (Kd.R_away HO_6.out (fun _ hk => hk.2.1)))) _).trans (hHeld.2.2.2.1)))))), ((cell_far (p := ⟨gb343, _, none⟩) (by first | exact Kd.own_blk (Kd.R_away HO_6.out (fun _ hk => hk.2.1)) | (rw [add_block]; exact Kd.own_blk (Kd.R_away HO_6.out (fun _ hk => hk.2.1))) | (show (Addr.add _ _).block ≠ _; rw [add_block]; exact Kd.own_blk (Kd.R_away HO_6.out (fun _ hk => hk.2.1))) | (dsimp only; exact Kd.own_blk (Kd.R_away HO_6.out (fun _ hk => hk.2.1)))) _).trans (((cell_far (p := ⟨gb343, _, none⟩) (by first | exact Kd.own_blk (Kd.R_away HO_6.out (fun _ hk => hk.2.1)) | (rw [add_block]; exact Kd.own_blk (Kd.R_away HO_6.out (fun _ hk => hk.2.1))) | (show (Addr.add _ _).block ≠ _; rw [add_block]; exact Kd.own_blk (Kd.R_away HO_6.out (fun _ hk => hk.2.1))) | (dsimp only; exact Kd.own_blk (Kd.R_away HO_6.out (fun _ hk => hk.2.1)))) _).trans (((cell_far (p := ⟨gb343, _, none⟩) (by first | exact Kd.own_blk (Kd.R_away HO_6.out (fun _ hk => hk.2.1)) | (rw [add_block]; exact Kd.own_blk (Kd.R_away HO_6.out (fun _ hk => hk.2.1))) | (show (Addr.add _ _).block ≠ _; rw [add_block]; exact Kd.own_blk (Kd.R_away HO_6.out (fun _ hk => hk.2.1))) | (dsimp only; exact Kd.own_blk (Kd.R_away HO_6.out (fun _ hk => hk.2.1)))) _).trans (hHeld.2.2.2.2.1)))))), ((cell_far (p := ⟨gb343, _, none⟩) (by first | exact Kd.own_blk (Kd.R_away HO_6.out (fun _ hk => hk.2.1)) | (rw [add_block]; exact Kd.own_blk (Kd.R_away HO_6.out (fun _ hk => hk.2.1))) | (show (Addr.add _ _).block ≠ _; rw [add_block]; exact Kd.own_blk (Kd.R_away HO_6.out (fun _ hk => hk.2.1))) | (dsimp only; exact Kd.own_blk (Kd.R_away HO_6.out (fun _ hk => hk.2.1)))) _).trans (((cell_far (p := ⟨gb343, _, none⟩) (by first | exact Kd.own_blk (Kd.R_away HO_6.out (fun _ hk => hk.2.1)) | (rw [add_block]; exact Kd.own_blk (Kd.R_away HO_6.out (fun _ hk => hk.2.1))) | (show (Addr.add _ _).block ≠ _; rw [add_block]; exact Kd.own_blk (Kd.R_away HO_6.out (fun _ hk => hk.2.1))) | (dsimp only; exact Kd.own_blk (Kd.R_away HO_6.out (fun _ hk => hk.2.1)))) _).trans (((cell_far (p := ⟨gb343, _, none⟩) (by first | exact Kd.own_blk (Kd.R_away HO_6.out (fun _ hk => hk.2.1)) | (rw [add_block]; exact Kd.own_blk (Kd.R_away HO_6.out (fun _ hk => hk.2.1))) | (show (Addr.add _ _).block ≠ _; rw [add_block]; exact Kd.own_blk (Kd.R_away HO_6.out (fun _ hk => hk.2.1))) | (dsimp only; exact Kd.own_blk (Kd.R_away HO_6.out (fun _ hk => hk.2.1)))) _).trans (hHeld.2.2.2.2.2))))))⟩ (fun hHeld => ?_)
                      clear hK K
                      refine one_ (i := 15) (N := none) (mk_ 16 65535) rfl rfl (one_of HT_.out (by kernel_rfl)) (by decide) (fun K hK => ?_)
                      have hs38 : w34.cell? ⟨gb344, 0, none⟩ = some (.int .i64 0) := (blk_cell BK344.out 0).trans rfl
                      have hfs38 := blk_frozen BK344.out 0
                      have hns38_0 := NB325_344.out
                      have hns38_1 := NB343_344.out
                      have hms38_0 := NB344_325.out
                      have hms38_1 := NB344_343.out
                      have hs39 : w34.cell? ⟨gb344, 1, none⟩ = some (.int .i64 0) := (blk_cell BK344.out 1).trans rfl
                      have hfs39 := blk_frozen BK344.out 1
                      have hns39_0 := NB325_344.out
                      have hns39_1 := NB343_344.out
                      have hms39_0 := NB344_325.out
                      have hms39_1 := NB344_343.out
                      have hs40 : w34.cell? ⟨gb344, 2, none⟩ = some (.string (⟨#[]⟩ : ByteArray)) := (blk_cell BK344.out 2).trans rfl
                      have hfs40 := blk_frozen BK344.out 2
                      have hns40_0 := NB325_344.out
                      have hns40_1 := NB343_344.out
                      have hms40_0 := NB344_325.out
                      have hms40_1 := NB344_343.out
                      refine skip_ (w1 := ?_) (by rfl) rfl ?_ ?_
                      rotate_left
                      · go_simp
                        rfl
                      refine hK.out _ _ ⟨((cell_far (p := ⟨gb344, _, none⟩) (by first | exact Kd.own_blk (Kd.R_away HO_6.out (fun _ hk => hk.2.2)) | (rw [add_block]; exact Kd.own_blk (Kd.R_away HO_6.out (fun _ hk => hk.2.2))) | (show (Addr.add _ _).block ≠ _; rw [add_block]; exact Kd.own_blk (Kd.R_away HO_6.out (fun _ hk => hk.2.2))) | (dsimp only; exact Kd.own_blk (Kd.R_away HO_6.out (fun _ hk => hk.2.2)))) _).trans (((cell_far (p := ⟨gb344, _, none⟩) (by first | exact Kd.own_blk (Kd.R_away HO_6.out (fun _ hk => hk.2.2)) | (rw [add_block]; exact Kd.own_blk (Kd.R_away HO_6.out (fun _ hk => hk.2.2))) | (show (Addr.add _ _).block ≠ _; rw [add_block]; exact Kd.own_blk (Kd.R_away HO_6.out (fun _ hk => hk.2.2))) | (dsimp only; exact Kd.own_blk (Kd.R_away HO_6.out (fun _ hk => hk.2.2)))) _).trans (((cell_far (p := ⟨gb344, _, none⟩) (by first | exact Kd.own_blk (Kd.R_away HO_6.out (fun _ hk => hk.2.2)) | (rw [add_block]; exact Kd.own_blk (Kd.R_away HO_6.out (fun _ hk => hk.2.2))) | (show (Addr.add _ _).block ≠ _; rw [add_block]; exact Kd.own_blk (Kd.R_away HO_6.out (fun _ hk => hk.2.2))) | (dsimp only; exact Kd.own_blk (Kd.R_away HO_6.out (fun _ hk => hk.2.2)))) _).trans (hHeld.1)))))), ((cell_far (p := ⟨gb344, _, none⟩) (by first | exact Kd.own_blk (Kd.R_away HO_6.out (fun _ hk => hk.2.2)) | (rw [add_block]; exact Kd.own_blk (Kd.R_away HO_6.out (fun _ hk => hk.2.2))) | (show (Addr.add _ _).block ≠ _; rw [add_block]; exact Kd.own_blk (Kd.R_away HO_6.out (fun _ hk => hk.2.2))) | (dsimp only; exact Kd.own_blk (Kd.R_away HO_6.out (fun _ hk => hk.2.2)))) _).trans (((cell_far (p := ⟨gb344, _, none⟩) (by first | exact Kd.own_blk (Kd.R_away HO_6.out (fun _ hk => hk.2.2)) | (rw [add_block]; exact Kd.own_blk (Kd.R_away HO_6.out (fun _ hk => hk.2.2))) | (show (Addr.add _ _).block ≠ _; rw [add_block]; exact Kd.own_blk (Kd.R_away HO_6.out (fun _ hk => hk.2.2))) | (dsimp only; exact Kd.own_blk (Kd.R_away HO_6.out (fun _ hk => hk.2.2)))) _).trans (((cell_far (p := ⟨gb344, _, none⟩) (by first | exact Kd.own_blk (Kd.R_away HO_6.out (fun _ hk => hk.2.2)) | (rw [add_block]; exact Kd.own_blk (Kd.R_away HO_6.out (fun _ hk => hk.2.2))) | (show (Addr.add _ _).block ≠ _; rw [add_block]; exact Kd.own_blk (Kd.R_away HO_6.out (fun _ hk => hk.2.2))) | (dsimp only; exact Kd.own_blk (Kd.R_away HO_6.out (fun _ hk => hk.2.2)))) _).trans (hHeld.2.1)))))), ((cell_far (p := ⟨gb344, _, none⟩) (by first | exact Kd.own_blk (Kd.R_away HO_6.out (fun _ hk => hk.2.2)) | (rw [add_block]; exact Kd.own_blk (Kd.R_away HO_6.out (fun _ hk => hk.2.2))) | (show (Addr.add _ _).block ≠ _; rw [add_block]; exact Kd.own_blk (Kd.R_away HO_6.out (fun _ hk => hk.2.2))) | (dsimp only; exact Kd.own_blk (Kd.R_away HO_6.out (fun _ hk => hk.2.2)))) _).trans (((cell_far (p := ⟨gb344, _, none⟩) (by first | exact Kd.own_blk (Kd.R_away HO_6.out (fun _ hk => hk.2.2)) | (rw [add_block]; exact Kd.own_blk (Kd.R_away HO_6.out (fun _ hk => hk.2.2))) | (show (Addr.add _ _).block ≠ _; rw [add_block]; exact Kd.own_blk (Kd.R_away HO_6.out (fun _ hk => hk.2.2))) | (dsimp only; exact Kd.own_blk (Kd.R_away HO_6.out (fun _ hk => hk.2.2)))) _).trans (((cell_far (p := ⟨gb344, _, none⟩) (by first | exact Kd.own_blk (Kd.R_away HO_6.out (fun _ hk => hk.2.2)) | (rw [add_block]; exact Kd.own_blk (Kd.R_away HO_6.out (fun _ hk => hk.2.2))) | (show (Addr.add _ _).block ≠ _; rw [add_block]; exact Kd.own_blk (Kd.R_away HO_6.out (fun _ hk => hk.2.2))) | (dsimp only; exact Kd.own_blk (Kd.R_away HO_6.out (fun _ hk => hk.2.2)))) _).trans (hHeld.2.2.1)))))), ((cell_far (p := ⟨gb344, _, none⟩) (by first | exact Kd.own_blk (Kd.R_away HO_6.out (fun _ hk => hk.2.2)) | (rw [add_block]; exact Kd.own_blk (Kd.R_away HO_6.out (fun _ hk => hk.2.2))) | (show (Addr.add _ _).block ≠ _; rw [add_block]; exact Kd.own_blk (Kd.R_away HO_6.out (fun _ hk => hk.2.2))) | (dsimp only; exact Kd.own_blk (Kd.R_away HO_6.out (fun _ hk => hk.2.2)))) _).trans (((cell_far (p := ⟨gb344, _, none⟩) (by first | exact Kd.own_blk (Kd.R_away HO_6.out (fun _ hk => hk.2.2)) | (rw [add_block]; exact Kd.own_blk (Kd.R_away HO_6.out (fun _ hk => hk.2.2))) | (show (Addr.add _ _).block ≠ _; rw [add_block]; exact Kd.own_blk (Kd.R_away HO_6.out (fun _ hk => hk.2.2))) | (dsimp only; exact Kd.own_blk (Kd.R_away HO_6.out (fun _ hk => hk.2.2)))) _).trans (((cell_far (p := ⟨gb344, _, none⟩) (by first | exact Kd.own_blk (Kd.R_away HO_6.out (fun _ hk => hk.2.2)) | (rw [add_block]; exact Kd.own_blk (Kd.R_away HO_6.out (fun _ hk => hk.2.2))) | (show (Addr.add _ _).block ≠ _; rw [add_block]; exact Kd.own_blk (Kd.R_away HO_6.out (fun _ hk => hk.2.2))) | (dsimp only; exact Kd.own_blk (Kd.R_away HO_6.out (fun _ hk => hk.2.2)))) _).trans (hHeld.2.2.2.1)))))), ((cell_far (p := ⟨gb344, _, none⟩) (by first | exact Kd.own_blk (Kd.R_away HO_6.out (fun _ hk => hk.2.2)) | (rw [add_block]; exact Kd.own_blk (Kd.R_away HO_6.out (fun _ hk => hk.2.2))) | (show (Addr.add _ _).block ≠ _; rw [add_block]; exact Kd.own_blk (Kd.R_away HO_6.out (fun _ hk => hk.2.2))) | (dsimp only; exact Kd.own_blk (Kd.R_away HO_6.out (fun _ hk => hk.2.2)))) _).trans (((cell_far (p := ⟨gb344, _, none⟩) (by first | exact Kd.own_blk (Kd.R_away HO_6.out (fun _ hk => hk.2.2)) | (rw [add_block]; exact Kd.own_blk (Kd.R_away HO_6.out (fun _ hk => hk.2.2))) | (show (Addr.add _ _).block ≠ _; rw [add_block]; exact Kd.own_blk (Kd.R_away HO_6.out (fun _ hk => hk.2.2))) | (dsimp only; exact Kd.own_blk (Kd.R_away HO_6.out (fun _ hk => hk.2.2)))) _).trans (((cell_far (p := ⟨gb344, _, none⟩) (by first | exact Kd.own_blk (Kd.R_away HO_6.out (fun _ hk => hk.2.2)) | (rw [add_block]; exact Kd.own_blk (Kd.R_away HO_6.out (fun _ hk => hk.2.2))) | (show (Addr.add _ _).block ≠ _; rw [add_block]; exact Kd.own_blk (Kd.R_away HO_6.out (fun _ hk => hk.2.2))) | (dsimp only; exact Kd.own_blk (Kd.R_away HO_6.out (fun _ hk => hk.2.2)))) _).trans (hHeld.2.2.2.2.1)))))), ((cell_far (p := ⟨gb344, _, none⟩) (by first | exact Kd.own_blk (Kd.R_away HO_6.out (fun _ hk => hk.2.2)) | (rw [add_block]; exact Kd.own_blk (Kd.R_away HO_6.out (fun _ hk => hk.2.2))) | (show (Addr.add _ _).block ≠ _; rw [add_block]; exact Kd.own_blk (Kd.R_away HO_6.out (fun _ hk => hk.2.2))) | (dsimp only; exact Kd.own_blk (Kd.R_away HO_6.out (fun _ hk => hk.2.2)))) _).trans (((cell_far (p := ⟨gb344, _, none⟩) (by first | exact Kd.own_blk (Kd.R_away HO_6.out (fun _ hk => hk.2.2)) | (rw [add_block]; exact Kd.own_blk (Kd.R_away HO_6.out (fun _ hk => hk.2.2))) | (show (Addr.add _ _).block ≠ _; rw [add_block]; exact Kd.own_blk (Kd.R_away HO_6.out (fun _ hk => hk.2.2))) | (dsimp only; exact Kd.own_blk (Kd.R_away HO_6.out (fun _ hk => hk.2.2)))) _).trans (((cell_far (p := ⟨gb344, _, none⟩) (by first | exact Kd.own_blk (Kd.R_away HO_6.out (fun _ hk => hk.2.2)) | (rw [add_block]; exact Kd.own_blk (Kd.R_away HO_6.out (fun _ hk => hk.2.2))) | (show (Addr.add _ _).block ≠ _; rw [add_block]; exact Kd.own_blk (Kd.R_away HO_6.out (fun _ hk => hk.2.2))) | (dsimp only; exact Kd.own_blk (Kd.R_away HO_6.out (fun _ hk => hk.2.2)))) _).trans (hHeld.2.2.2.2.2))))))⟩ (fun hHeld => ?_)
                      clear hK K
                      refine done_ (done_of HT_.out (by kernel_rfl)) ?_
                      go_upto_region 7 with (fail)
                      go_cut [44] (fun v44 wc => ∃ (kq : Nat) (x44_28 : Bool), v44 = .bool x44_28 ∧ Aside0 (constableref01_Eval.j1 kq l0 l1 x6_1 x7_1 x44_28 ((rd_T23 x6_1 (ji23)).f0) ((rd_T23 x6_1 (ji23)).f1) ((rd_T23 x6_1 (ji23)).f2) ((rd_T23 x6_1 (ji26)).f0) ((rd_T23 x6_1 (ji26)).f1) ((rd_T23 x6_1 (ji26)).f2) = some (r1, r2, r3, r4)) ∧ Aside0 (kq ≤ k1) ∧ Aside0 (Kd.R k23 23 wc w.heap.size (fun k_ => k_ ≠ gb325 ∧ k_ ≠ gb343 ∧ k_ ≠ gb344) (.slice (some ad341) x6_1.length co31) x6_1) ∧ Aside0 (wc.heap[gb325]? = some (.cells #[.int .i64 x326000_1, .int .i64 x326001_1, .string x326002_1] 23 (0, 0))) ∧ Aside0 (wc.heap[gb343]? = some (.cells #[.int .i64 ((rd_T23 x6_1 (ji23)).f0), .int .i64 ((rd_T23 x6_1 (ji23)).f1), .string ((rd_T23 x6_1 (ji23)).f2)] 23 (0, 0))) ∧ Aside0 (wc.heap[gb344]? = some (.cells #[.int .i64 ((rd_T23 x6_1 (ji26)).f0), .int .i64 ((rd_T23 x6_1 (ji26)).f1), .string ((rd_T23 x6_1 (ji26)).f2)] 23 (0, 0))) ∧ Aside0 (Below w.heap.size w wc))
                      case first =>
                        have H := HC29.out
                        clear HC29
                        by_cases c41 : ((rd_T23 x6_1 (ji23)).f0) = 1
                        · rw [if_pos c41] at H
                          obtain ⟨c41b0, c41b1⟩ := eqB_ c41
                          clear c41
                          (first | rw [c41b0] | (simp only [i64_w, i32_w]; rw [c41b0]) | skip)
                          have H' := Aside0.mk H
                          clear H
                          have hnb42 := NB343_325.out
                          have hnc42 := NB325_343.out
                          have hnb43 := NB343_344.out
                          have hnc43 := NB344_343.out
                          have hcz44_0 : w34.cell? ⟨gb343, 0, none⟩ = some (.int .i64 0) := (blk_cell BK343.out 0).trans rfl
                          have hcz44_1 : w34.cell? ⟨gb343, 1, none⟩ = some (.int .i64 0) := (blk_cell BK343.out 1).trans rfl
                          have hcz44_2 : w34.cell? ⟨gb343, 2, none⟩ = some (.string (⟨#[]⟩ : ByteArray)) := (blk_cell BK343.out 2).trans rfl
                          have hfz44_0 := blk_frozen BK343.out 0
                          have hfz44_1 := blk_frozen BK343.out 1
                          have hfz44_2 := blk_frozen BK343.out 2
                          have hnb45 := NB344_325.out
                          have hnc45 := NB325_344.out
                          have hcz46_0 : w34.cell? ⟨gb344, 0, none⟩ = some (.int .i64 0) := (blk_cell BK344.out 0).trans rfl
                          have hcz46_1 : w34.cell? ⟨gb344, 1, none⟩ = some (.int .i64 0) := (blk_cell BK344.out 1).trans rfl
                          have hcz46_2 : w34.cell? ⟨gb344, 2, none⟩ = some (.string (⟨#[]⟩ : ByteArray)) := (blk_cell BK344.out 2).trans rfl
                          have hfz46_0 := blk_frozen BK344.out 0
                          have hfz46_1 := blk_frozen BK344.out 1
                          have hfz46_2 := blk_frozen BK344.out 2
                          go_wp2
                          go_meet
                          case rel => exact ⟨_, ((((rd_T23 x6_1 (ji26)).f0) != 1)), (by first | rfl | (simp; done) | (simp only [← hji26] <;> (first | rfl | simp)) | (simp [*]; done)), H', ⟨by have := HK1.out; first | omega | exact Nat.le_refl _⟩, ⟨by (with_reducible repeat (first | apply Kd.R_alloc | apply Kd.R_drewN | apply Kd.R_drew)); exact Kd.R_mono (Kd.R_far (p := ⟨gb344, 2, none⟩) (Kd.R_far (p := ⟨gb344, 1, none⟩) (Kd.R_far (p := ⟨gb344, 0, none⟩) (Kd.R_far (p := ⟨gb343, 2, none⟩) (Kd.R_far (p := ⟨gb343, 1, none⟩) (Kd.R_far (p := ⟨gb343, 0, none⟩) (Kd.R_mono (Kd.R_mono HO_6.out (fun k_ hk => (⟨hk, hk.2.1⟩ : _ ∧ k_ ≠ gb343))) (fun k_ hk => (⟨hk, hk.1.2.2⟩ : _ ∧ k_ ≠ gb344))) (fun _ hk => hk.1.2) (.int .i64 ((rd_T23 x6_1 (ji23)).f0))) (fun _ hk => hk.1.2) (.int .i64 ((rd_T23 x6_1 (ji23)).f1))) (fun _ hk => hk.1.2) (.string ((rd_T23 x6_1 (ji23)).f2))) (fun _ hk => hk.2) (.int .i64 ((rd_T23 x6_1 (ji26)).f0))) (fun _ hk => hk.2) (.int .i64 ((rd_T23 x6_1 (ji26)).f1))) (fun _ hk => hk.2) (.string ((rd_T23 x6_1 (ji26)).f2))) (fun _ hk => ⟨hk.1.1.1, ⟨hk.1.1.2.1, hk.1.1.2.2⟩⟩)⟩, ⟨by (with_reducible repeat (first | refine blk_drewN ?_ _ | refine blk_drew ?_ | refine blk_alloc ?_ _)); refine blk_far ?_ NB325_344.out _; (with_reducible repeat (first | refine blk_drewN ?_ _ | refine blk_drew ?_ | refine blk_alloc ?_ _)); refine blk_far ?_ NB325_344.out _; (with_reducible repeat (first | refine blk_drewN ?_ _ | refine blk_drew ?_ | refine blk_alloc ?_ _)); refine blk_far ?_ NB325_344.out _; (with_reducible repeat (first | refine blk_drewN ?_ _ | refine blk_drew ?_ | refine blk_alloc ?_ _)); refine blk_far ?_ NB325_343.out _; (with_reducible repeat (first | refine blk_drewN ?_ _ | refine blk_drew ?_ | refine blk_alloc ?_ _)); refine blk_far ?_ NB325_343.out _; (with_reducible repeat (first | refine blk_drewN ?_ _ | refine blk_drew ?_ | refine blk_alloc ?_ _)); refine blk_far ?_ NB325_343.out _; (with_reducible repeat (first | refine blk_drewN ?_ _ | refine blk_drew ?_ | refine blk_alloc ?_ _)); exact BK325.out⟩, ⟨by (with_reducible repeat (first | refine blk_drewN ?_ _ | refine blk_drew ?_ | refine blk_alloc ?_ _)); refine blk_far ?_ NB343_344.out _; (with_reducible repeat (first | refine blk_drewN ?_ _ | refine blk_drew ?_ | refine blk_alloc ?_ _)); refine blk_far ?_ NB343_344.out _; (with_reducible repeat (first | refine blk_drewN ?_ _ | refine blk_drew ?_ | refine blk_alloc ?_ _)); refine blk_far ?_ NB343_344.out _; (with_reducible repeat (first | refine blk_drewN ?_ _ | refine blk_drew ?_ | refine blk_alloc ?_ _)); refine blk_put (cs := #[.int .i64 ((rd_T23 x6_1 (ji23)).f0), .int .i64 ((rd_T23 x6_1 (ji23)).f1), .string (⟨#[]⟩ : ByteArray)]) ?_ 2 _ rfl; (with_reducible repeat (first | refine blk_drewN ?_ _ | refine blk_drew ?_ | refine blk_alloc ?_ _)); refine blk_put (cs := #[.int .i64 ((rd_T23 x6_1 (ji23)).f0), .int .i64 0, .string (⟨#[]⟩ : ByteArray)]) ?_ 1 _ rfl; (with_reducible repeat (first | refine blk_drewN ?_ _ | refine blk_drew ?_ | refine blk_alloc ?_ _)); refine blk_put (cs := #[.int .i64 0, .int .i64 0, .string (⟨#[]⟩ : ByteArray)]) ?_ 0 _ rfl; (with_reducible repeat (first | refine blk_drewN ?_ _ | refine blk_drew ?_ | refine blk_alloc ?_ _)); exact BK343.out⟩, ⟨by (with_reducible repeat (first | refine blk_drewN ?_ _ | refine blk_drew ?_ | refine blk_alloc ?_ _)); refine blk_put (cs := #[.int .i64 ((rd_T23 x6_1 (ji26)).f0), .int .i64 ((rd_T23 x6_1 (ji26)).f1), .string (⟨#[]⟩ : ByteArray)]) ?_ 2 _ rfl; (with_reducible repeat (first | refine blk_drewN ?_ _ | refine blk_drew ?_ | refine blk_alloc ?_ _)); refine blk_put (cs := #[.int .i64 ((rd_T23 x6_1 (ji26)).f0), .int .i64 0, .string (⟨#[]⟩ : ByteArray)]) ?_ 1 _ rfl; (with_reducible repeat (first | refine blk_drewN ?_ _ | refine blk_drew ?_ | refine blk_alloc ?_ _)); refine blk_put (cs := #[.int .i64 0, .int .i64 0, .string (⟨#[]⟩ : ByteArray)]) ?_ 0 _ rfl; (with_reducible repeat (first | refine blk_drewN ?_ _ | refine blk_drew ?_ | refine blk_alloc ?_ _)); refine blk_far ?_ NB344_343.out _; (with_reducible repeat (first | refine blk_drewN ?_ _ | refine blk_drew ?_ | refine blk_alloc ?_ _)); refine blk_far ?_ NB344_343.out _; (with_reducible repeat (first | refine blk_drewN ?_ _ | refine blk_drew ?_ | refine blk_alloc ?_ _)); refine blk_far ?_ NB344_343.out _; (with_reducible repeat (first | refine blk_drewN ?_ _ | refine blk_drew ?_ | refine blk_alloc ?_ _)); exact BK344.out⟩, ⟨by repeat (first | (with_reducible first | exact HB.out | apply below_alloc | apply pw_below_drewN | apply below_drew1 | refine below_set ?_ GE325.out | refine below_set ?_ GE343.out | refine below_set ?_ GE344.out) | exact HB.out)⟩⟩
                        · rw [if_neg c41] at H
                          obtain ⟨c41b0, c41b1⟩ := neB_ c41
                          (first | rw [c41b0] | (simp only [i64_w, i32_w]; rw [c41b0]) | skip)
                          have H' := Aside0.mk H
                          clear H
                          have hnb47 := NB343_325.out
                          have hnc47 := NB325_343.out
                          have hnb48 := NB343_344.out
                          have hnc48 := NB344_343.out
                          have hcz49_0 : w34.cell? ⟨gb343, 0, none⟩ = some (.int .i64 0) := (blk_cell BK343.out 0).trans rfl
                          have hcz49_1 : w34.cell? ⟨gb343, 1, none⟩ = some (.int .i64 0) := (blk_cell BK343.out 1).trans rfl
                          have hcz49_2 : w34.cell? ⟨gb343, 2, none⟩ = some (.string (⟨#[]⟩ : ByteArray)) := (blk_cell BK343.out 2).trans rfl
                          have hfz49_0 := blk_frozen BK343.out 0
                          have hfz49_1 := blk_frozen BK343.out 1
                          have hfz49_2 := blk_frozen BK343.out 2
                          go_wp2
                          go_meet
                          case rel => exact ⟨_, (true), ra_, H', ⟨by have := HK1.out; first | omega | exact Nat.le_refl _⟩, ⟨by (with_reducible repeat (first | apply Kd.R_alloc | apply Kd.R_drewN | apply Kd.R_drew)); exact Kd.R_mono (Kd.R_far (p := ⟨gb344, 2, none⟩) (Kd.R_far (p := ⟨gb344, 1, none⟩) (Kd.R_far (p := ⟨gb344, 0, none⟩) (Kd.R_far (p := ⟨gb343, 2, none⟩) (Kd.R_far (p := ⟨gb343, 1, none⟩) (Kd.R_far (p := ⟨gb343, 0, none⟩) (Kd.R_mono (Kd.R_mono HO_6.out (fun k_ hk => (⟨hk, hk.2.1⟩ : _ ∧ k_ ≠ gb343))) (fun k_ hk => (⟨hk, hk.1.2.2⟩ : _ ∧ k_ ≠ gb344))) (fun _ hk => hk.1.2) (.int .i64 ((rd_T23 x6_1 (ji23)).f0))) (fun _ hk => hk.1.2) (.int .i64 ((rd_T23 x6_1 (ji23)).f1))) (fun _ hk => hk.1.2) (.string ((rd_T23 x6_1 (ji23)).f2))) (fun _ hk => hk.2) (.int .i64 ((rd_T23 x6_1 (ji26)).f0))) (fun _ hk => hk.2) (.int .i64 ((rd_T23 x6_1 (ji26)).f1))) (fun _ hk => hk.2) (.string ((rd_T23 x6_1 (ji26)).f2))) (fun _ hk => ⟨hk.1.1.1, ⟨hk.1.1.2.1, hk.1.1.2.2⟩⟩)⟩, ⟨by (with_reducible repeat (first | refine blk_drewN ?_ _ | refine blk_drew ?_ | refine blk_alloc ?_ _)); refine blk_far ?_ NB325_344.out _; (with_reducible repeat (first | refine blk_drewN ?_ _ | refine blk_drew ?_ | refine blk_alloc ?_ _)); refine blk_far ?_ NB325_344.out _; (with_reducible repeat (first | refine blk_drewN ?_ _ | refine blk_drew ?_ | refine blk_alloc ?_ _)); refine blk_far ?_ NB325_344.out _; (with_reducible repeat (first | refine blk_drewN ?_ _ | refine blk_drew ?_ | refine blk_alloc ?_ _)); refine blk_far ?_ NB325_343.out _; (with_reducible repeat (first | refine blk_drewN ?_ _ | refine blk_drew ?_ | refine blk_alloc ?_ _)); refine blk_far ?_ NB325_343.out _; (with_reducible repeat (first | refine blk_drewN ?_ _ | refine blk_drew ?_ | refine blk_alloc ?_ _)); refine blk_far ?_ NB325_343.out _; (with_reducible repeat (first | refine blk_drewN ?_ _ | refine blk_drew ?_ | refine blk_alloc ?_ _)); exact BK325.out⟩, ⟨by (with_reducible repeat (first | refine blk_drewN ?_ _ | refine blk_drew ?_ | refine blk_alloc ?_ _)); refine blk_far ?_ NB343_344.out _; (with_reducible repeat (first | refine blk_drewN ?_ _ | refine blk_drew ?_ | refine blk_alloc ?_ _)); refine blk_far ?_ NB343_344.out _; (with_reducible repeat (first | refine blk_drewN ?_ _ | refine blk_drew ?_ | refine blk_alloc ?_ _)); refine blk_far ?_ NB343_344.out _; (with_reducible repeat (first | refine blk_drewN ?_ _ | refine blk_drew ?_ | refine blk_alloc ?_ _)); refine blk_put (cs := #[.int .i64 ((rd_T23 x6_1 (ji23)).f0), .int .i64 ((rd_T23 x6_1 (ji23)).f1), .string (⟨#[]⟩ : ByteArray)]) ?_ 2 _ rfl; (with_reducible repeat (first | refine blk_drewN ?_ _ | refine blk_drew ?_ | refine blk_alloc ?_ _)); refine blk_put (cs := #[.int .i64 ((rd_T23 x6_1 (ji23)).f0), .int .i64 0, .string (⟨#[]⟩ : ByteArray)]) ?_ 1 _ rfl; (with_reducible repeat (first | refine blk_drewN ?_ _ | refine blk_drew ?_ | refine blk_alloc ?_ _)); refine blk_put (cs := #[.int .i64 0, .int .i64 0, .string (⟨#[]⟩ : ByteArray)]) ?_ 0 _ rfl; (with_reducible repeat (first | refine blk_drewN ?_ _ | refine blk_drew ?_ | refine blk_alloc ?_ _)); exact BK343.out⟩, ⟨by (with_reducible repeat (first | refine blk_drewN ?_ _ | refine blk_drew ?_ | refine blk_alloc ?_ _)); refine blk_put (cs := #[.int .i64 ((rd_T23 x6_1 (ji26)).f0), .int .i64 ((rd_T23 x6_1 (ji26)).f1), .string (⟨#[]⟩ : ByteArray)]) ?_ 2 _ rfl; (with_reducible repeat (first | refine blk_drewN ?_ _ | refine blk_drew ?_ | refine blk_alloc ?_ _)); refine blk_put (cs := #[.int .i64 ((rd_T23 x6_1 (ji26)).f0), .int .i64 0, .string (⟨#[]⟩ : ByteArray)]) ?_ 1 _ rfl; (with_reducible repeat (first | refine blk_drewN ?_ _ | refine blk_drew ?_ | refine blk_alloc ?_ _)); refine blk_put (cs := #[.int .i64 0, .int .i64 0, .string (⟨#[]⟩ : ByteArray)]) ?_ 0 _ rfl; (with_reducible repeat (first | refine blk_drewN ?_ _ | refine blk_drew ?_ | refine blk_alloc ?_ _)); refine blk_far ?_ NB344_343.out _; (with_reducible repeat (first | refine blk_drewN ?_ _ | refine blk_drew ?_ | refine blk_alloc ?_ _)); refine blk_far ?_ NB344_343.out _; (with_reducible repeat (first | refine blk_drewN ?_ _ | refine blk_drew ?_ | refine blk_alloc ?_ _)); refine blk_far ?_ NB344_343.out _; (with_reducible repeat (first | refine blk_drewN ?_ _ | refine blk_drew ?_ | refine blk_alloc ?_ _)); exact BK344.out⟩, ⟨by repeat (first | (with_reducible first | exact HB.out | apply below_alloc | apply pw_below_drewN | apply below_drew1 | refine below_set ?_ GE325.out | refine below_set ?_ GE343.out | refine below_set ?_ GE344.out) | exact HB.out)⟩⟩
                      case rest =>
                        clear HC29
                        try clear c1
                        try clear c2
                        try clear p2
                        try clear p3
                        try clear q3
                        try clear hx3
                        try clear c4
                        try clear c5
                        try clear c6
                        try clear c6b0
                        try clear c6b1
                        try clear p6
                        try clear c8
                        try clear c9
                        try clear c12
                        try clear c17
                        try clear c20
                        try clear c20b0
                        try clear c20b1
                        try clear c21
                        try clear c24
                        try clear c24b0
                        try clear c25
                        try clear c25b0
                        try clear c27
                        try clear c27b0
                        try clear c28
                        try clear c28b0
                        try clear p32
                        try clear q32
                        try clear hx32
                        try clear p33
                        try clear q33
                        try clear hx33
                        try clear p34
                        try clear q34
                        try clear hx34
                        try clear c41
                        try clear c41b0
                        try clear c41b1
                        try clear c42
                        try clear c43
                        try clear c45
                        try clear c47
                        try clear c48
                        try clear hcz13_0
                        try clear hcz13_1
                        try clear hcz13_2
                        try clear hcz18_0
                        try clear hcz18_1
                        try clear hcz18_2
                        try clear hcz19_0
                        try clear hcz19_1
                        try clear hcz19_2
                        try clear hcz44_0
                        try clear hcz44_1
                        try clear hcz44_2
                        try clear hcz46_0
                        try clear hcz46_1
                        try clear hcz46_2
                        try clear hcz49_0
                        try clear hcz49_1
                        try clear hcz49_2
                        try clear hfz13_0
                        try clear hfz13_1
                        try clear hfz13_2
                        try clear hfz18_0
                        try clear hfz18_1
                        try clear hfz18_2
                        try clear hfz19_0
                        try clear hfz19_1
                        try clear hfz19_2
                        try clear hfz44_0
                        try clear hfz44_1
                        try clear hfz44_2
                        try clear hfz46_0
                        try clear hfz46_1
                        try clear hfz46_2
                        try clear hfz49_0
                        try clear hfz49_1
                        try clear hfz49_2
                        try clear hx327_0
                        try clear hx327_1
                        try clear hx327_2
                        try clear hx327_3
                        try clear hx327_4
                        try clear hx328_0
                        try clear hx328_1
                        try clear hx328_2
                        try clear hx328_3
                        try clear hx328_4
                        try clear hx337_0
                        try clear hx337_1
                        try clear hx337_2
                        try clear hx337_3
                        try clear hx337_4
                        try clear hx341_0
                        try clear hx341_1
                        try clear hx341_2
                        try clear hx342_0
                        try clear hx342_1
                        try clear hx342_2
                        try clear p327
                        try clear p328
                        try clear p337
                        try clear p341
                        try clear p342
                        try clear q327
                        try clear q328
                        try clear q337
                        try clear q341
                        try clear q342
                        obtain ⟨kq, x44_28, rfl, HA, HJ28, HO_6, BK325, BK343, BK344, HB⟩ := hcut
                        cases kq with
                        | zero => exact absurd HA.out (by simp [constableref01_Eval.j1])
                        | succ kj28 =>
                          have H := HA.out
                          clear HA
                          simp only [constableref01_Eval.j1] at H
                          by_cases c50 : x44_28 = true
                          · subst c50
                            have H1 : (some (0, 0, (⟨#[]⟩ : ByteArray), 3)) = some (r1, r2, r3, r4) := by rw [if_pos rfl] at H; exact H
                            clear H
                            have H := H1
                            clear H1
                            simp only [Option.some.injEq, Prod.mk.injEq] at H
                            obtain ⟨rfl, rfl, rfl, rfl⟩ := H
                            have hnb51 := NB325_343.out
                            have hnc51 := NB343_325.out
                            have hnb52 := NB325_344.out
                            have hnc52 := NB344_325.out
                            have hcz53_0 : wc.cell? ⟨gb325, 0, none⟩ = some (.int .i64 x326000_1) := (blk_cell BK325.out 0).trans rfl
                            have hcz53_1 : wc.cell? ⟨gb325, 1, none⟩ = some (.int .i64 x326001_1) := (blk_cell BK325.out 1).trans rfl
                            have hcz53_2 : wc.cell? ⟨gb325, 2, none⟩ = some (.string x326002_1) := (blk_cell BK325.out 2).trans rfl
                            have hfz53_0 := blk_frozen BK325.out 0
                            have hfz53_1 := blk_frozen BK325.out 1
                            have hfz53_2 := blk_frozen BK325.out 2
                            go_wp2
                            refine bodyPost_ret (results_ct rfl _ _ gb325 23 #[.int .i64 0, .int .i64 0, .string (⟨#[]⟩ : ByteArray)] (0, 0) _ rfl (bp_ BK325) Try.underlying23 rfl (by kernel_rfl)) rfl ?_
                            exact ⟨by first | rfl | (simp [errW_none, errW_some] <;> rfl) | (simp only [← hji23, ← hji26]; first | rfl | (simp [errW_none, errW_some] <;> rfl)) | (simp [*, errW_none, errW_some] <;> rfl), by repeat (first | (with_reducible first | exact HB.out | apply below_alloc | apply pw_below_drewN | apply below_drew1 | refine below_set ?_ GE325.out | refine below_set ?_ GE343.out | refine below_set ?_ GE344.out) | exact HB.out)⟩
                          · replace c50 := Bool.eq_false_iff.mpr c50
                            subst c50
                            have H1 : (if 0 ≤ x7_1 then (if x7_1 < (l0.length : Int) then ((constableref01_Do.f kj28 ((rd_T67 l0 x7_1).f0) ((rd_T23 x6_1 (ji23)).f1) ((rd_T23 x6_1 (ji26)).f1)).bind fun bt346 => (if bt346.2 = 0 then (if 0 ≤ (wrap64 ((x6_1.length : Int) - 2)) then (if (wrap64 ((x6_1.length : Int) - 2)) ≤ (x6_1.length : Int) then ((some (x6_1.take ((wrap64 ((x6_1.length : Int) - 2)) : Int).toNat : List (S23))).bind fun y348 => (if y348.length < 4398046511104 then (constableref01_Eval.l0 kj28 l0 l1 (y348 ++ [(⟨1, bt346.1, (⟨#[]⟩ : ByteArray)⟩ : S23)]) (wrap64 (x7_1 + 1))) else (none))) else (none)) else (none)) else (some (0, 0, (⟨#[]⟩ : ByteArray), bt346.2)))) else (none)) else (none)) = some (r1, r2, r3, r4) := by rw [if_neg (show ¬ (false = true) by decide)] at H; exact H
                            clear H
                            have H := H1
                            clear H1
                            by_cases c54 : 0 ≤ x7_1
                            · rw [if_pos c54] at H
                              have c54b0 : decide (0 ≤ x7_1) = true := decide_eq_true c54
                              clear c54
                              by_cases c55 : x7_1 < (l0.length : Int)
                              · rw [if_pos c55] at H
                                have c55b0 : decide (x7_1 < (l0.length : Int)) = true := decide_eq_true c55
                                clear c55
                                replace H := Option.bind_eq_some_iff.mp H
                                obtain ⟨⟨t346, t347⟩, A560, H⟩ := H
                                replace H : (if t347 = 0 then (if 0 ≤ (wrap64 ((x6_1.length : Int) - 2)) then (if (wrap64 ((x6_1.length : Int) - 2)) ≤ (x6_1.length : Int) then ((some (x6_1.take ((wrap64 ((x6_1.length : Int) - 2)) : Int).toNat : List (S23))).bind fun y348 => (if y348.length < 4398046511104 then (constableref01_Eval.l0 kj28 l0 l1 (y348 ++ [(⟨1, t346, (⟨#[]⟩ : ByteArray)⟩ : S23)]) (wrap64 (x7_1 + 1))) else (none))) else (none)) else (none)) else (some (0, 0, (⟨#[]⟩ : ByteArray), t347))) = some (r1, r2, r3, r4) := H
                                have A56 := Aside0.mk A560
                                clear A560
                                by_cases c57 : t347 = 0
                                · rw [if_pos c57] at H
                                  obtain ⟨c57b0, c57b1⟩ := eqB_ c57
                                  clear c57
                                  replace H : (if 0 ≤ (ji23) then (if (ji23) ≤ (x6_1.length : Int) then ((some (x6_1.take ((ji23) : Int).toNat : List (S23))).bind fun y348 => (if y348.length < 4398046511104 then (constableref01_Eval.l0 kj28 l0 l1 (y348 ++ [(⟨1, t346, (⟨#[]⟩ : ByteArray)⟩ : S23)]) (wrap64 (x7_1 + 1))) else (none))) else (none)) else (none)) = some (r1, r2, r3, r4) := by first | (rw [hji23] at H; exact H) | (simp only [hji23] at H ⊢; exact H)
                                  (try rw [hji23] at A56)
                                  have hji23w : (IntKind.i64.wrap ((x6_1.length : Int) - 2)) = ji23 := (i64_w _).trans hji23
                                  by_cases c59 : 0 ≤ (ji23)
                                  · rw [if_pos c59] at H
                                    have c59b0 := eq_true c59
                                    have c59b1 : decide (0 ≤ (ji23)) = true := decide_eq_true c59
                                    clear c59
                                    by_cases c60 : (ji23) ≤ (x6_1.length : Int)
                                    · rw [if_pos c60] at H
                                      have c60b0 := eq_true c60
                                      have c60b1 : decide ((ji23) ≤ (x6_1.length : Int)) = true := decide_eq_true c60
                                      clear c60
                                      obtain ⟨y348, hy348⟩ : ∃ y_ : List (S23), y_ = (x6_1.take ((ji23) : Int).toNat) := ⟨_, rfl⟩
                                      replace H : (if y348.length < 4398046511104 then (constableref01_Eval.l0 kj28 l0 l1 (y348 ++ [(⟨1, t346, (⟨#[]⟩ : ByteArray)⟩ : S23)]) (wrap64 (x7_1 + 1))) else (none)) = some (r1, r2, r3, r4) := by first | (rw [hy348]; with_reducible exact H) | (have H2_ := (Option.bind_some _ _).symm.trans H; rw [hy348]; with_reducible exact H2_) | (have H2_ := (Option.bind_some _ _).symm.trans H; with_reducible exact H2_) | with_reducible exact H | (rw [hy348]; exact H) | exact H
                                      have Ny348 := Aside0.mk hy348
                                      clear hy348
                                      by_cases c61 : y348.length < 4398046511104
                                      · rw [if_pos c61] at H
                                        have LMc61 := Aside0.mk c61
                                        clear c61
                                        obtain ⟨y351, hy351⟩ : ∃ y_ : List (S23), y_ = (y348 ++ [(⟨1, t346, (⟨#[]⟩ : ByteArray)⟩ : S23)]) := ⟨_, rfl⟩
                                        replace H : (constableref01_Eval.l0 kj28 l0 l1 y351 (wrap64 (x7_1 + 1))) = some (r1, r2, r3, r4) := by first | (rw [hy351]; with_reducible exact H) | (have H2_ := (Option.bind_some _ _).symm.trans H; rw [hy351]; with_reducible exact H2_) | (have H2_ := (Option.bind_some _ _).symm.trans H; with_reducible exact H2_) | with_reducible exact H | (rw [hy351]; exact H) | exact H
                                        have Ny351 := Aside0.mk hy351
                                        clear hy351
                                        have H' := Aside0.mk H
                                        clear H
                                        try go_wp2
                                        have n0_ := Aside0.mk (Kd.R_drew HO_6.out)
                                        have n1_ := Aside0.mk (blk_drew BK325.out)
                                        have n2_ := Aside0.mk (blk_drew BK343.out)
                                        have n3_ := Aside0.mk (blk_drew BK344.out)
                                        have n4_ := Aside0.mk (below_drew1 HB.out)
                                        clear HO_6
                                        clear BK325
                                        clear BK343
                                        clear BK344
                                        clear HB
                                        have HO_6 := n0_
                                        have BK325 := n1_
                                        have BK343 := n2_
                                        have BK344 := n3_
                                        have HB := n4_
                                        clear n0_ n1_ n2_ n3_ n4_
                                        have p345 : 0 ≤ (x7_1 : Int) := dt_
                                        have q345 : x7_1 < (l0.length : Int) := dt_
                                        obtain ⟨ad345, e345, hx345_0, hx345_1, hx345_2, hx345_3, hx345_4⟩ := at_T67 HR0.out x7_1 p345 q345
                                        have hw345_4 := hx345_4
                                        have hw345_3 := hx345_3
                                        have hw345_2 := hx345_2
                                        have hw345_1 := hx345_1
                                        have hw345_0 := hx345_0
                                        obtain rfl : ad327 = ad345 := (by injection e345)
                                        replace hx345_0 := cm_ HB hx345_0
                                        replace hx345_1 := cm_ HB hx345_1
                                        replace hx345_2 := cm_ HB hx345_2
                                        replace hx345_3 := cm_ HB hx345_3
                                        replace hx345_4 := cm_ HB hx345_4
                                        replace p345 := eq_true p345
                                        replace q345 := eq_true q345
                                        refine start_ (n := 15) (S := fun w' => w'.cell? ⟨gb343, 0, none⟩ = some (.int .i64 ((rd_T23 x6_1 (ji23)).f0)) ∧ w'.cell? ⟨gb343, 1, none⟩ = some (.int .i64 ((rd_T23 x6_1 (ji23)).f1)) ∧ w'.cell? ⟨gb343, 2, none⟩ = some (.string ((rd_T23 x6_1 (ji23)).f2)) ∧ w'.cell? ⟨gb344, 0, none⟩ = some (.int .i64 ((rd_T23 x6_1 (ji26)).f0)) ∧ w'.cell? ⟨gb344, 1, none⟩ = some (.int .i64 ((rd_T23 x6_1 (ji26)).f1)) ∧ w'.cell? ⟨gb344, 2, none⟩ = some (.string ((rd_T23 x6_1 (ji26)).f2)) ∧ w'.cell? (ad327.add ((x7_1).toNat * 5)) = some (.int .i64 ((rd_T67 l0 x7_1).f0)) ∧ w'.cell? ⟨(ad327.add ((x7_1).toNat * 5)).block, (ad327.add ((x7_1).toNat * 5)).off + 1, none⟩ = some (.string ((rd_T67 l0 x7_1).f1)) ∧ w'.cell? ⟨(ad327.add ((x7_1).toNat * 5)).block, (ad327.add ((x7_1).toNat * 5)).off + 2, none⟩ = some (.int .i64 ((rd_T67 l0 x7_1).f2.f0)) ∧ w'.cell? ⟨(ad327.add ((x7_1).toNat * 5)).block, (ad327.add ((x7_1).toNat * 5)).off + 3, none⟩ = some (.int .i64 ((rd_T67 l0 x7_1).f2.f1)) ∧ w'.cell? ⟨(ad327.add ((x7_1).toNat * 5)).block, (ad327.add ((x7_1).toNat * 5)).off + 4, none⟩ = some (.string ((rd_T67 l0 x7_1).f2.f2))) (ds := []) (mk_ 15 0) (by kernel_rfl) rfl rfl ⟨(blk_cell BK343.out 0).trans rfl, (blk_cell BK343.out 1).trans rfl, (blk_cell BK343.out 2).trans rfl, (blk_cell BK344.out 0).trans rfl, (blk_cell BK344.out 1).trans rfl, (blk_cell BK344.out 2).trans rfl, (cl_ HB hw345_0), (cl_ HB hw345_1), (cl_ HB hw345_2), (cl_ HB hw345_3), (cl_ HB hw345_4)⟩ (fun hHeld => ?_); refine with_tabW constableref01_Eval.tab9 constableref01_Eval.bits9 (fun HT_ HW_ => ?_)
                                        generalize wc.drew = w62 at HO_6 BK325 BK343 BK344 HB hx345_0 hx345_1 hx345_2 hx345_3 hx345_4 hHeld ⊢
                                        refine pu_ 0 47 1 HT_ ?_; refine pu_ 1 48 3 HT_ ?_; refine pu_ 2 49 7 HT_ ?_; refine pu_ 3 50 15 HT_ ?_; refine pu_ 5 52 47 HT_ ?_; refine pu_ 7 54 175 HT_ ?_; refine tk_ 4 51 191 HT_ HW_ hHeld ?_; refine tk_ 6 53 255 HT_ HW_ hHeld ?_; refine tk_ 8 55 511 HT_ HW_ hHeld ?_
                                        refine one_ (i := 9) (N := some 56) (mk_ 15 1023) rfl rfl (one_of HT_.out (by kernel_rfl)) (by decide) (fun K hK => ?_)
                                        refine goes_ Try.func52 (by kernel_rfl) rfl #[.int .i64 ((rd_T67 l0 x7_1).f0), .int .i64 ((rd_T23 x6_1 (ji23)).f1), .int .i64 ((rd_T23 x6_1 (ji26)).f1)] (by rfl) rfl rfl (by (try simp only [List.map_toArray, List.map_cons, List.map_nil]); first | done | (simp only [hji23, hji26]; rfl) | rfl | (simp only [List.length_drop, List.length_take]; rfl)) ?_
                                        with_reducible refine (constableref01_Do.calls kj28 ((rd_T67 l0 x7_1).f0) ((rd_T23 x6_1 (ji23)).f1) ((rd_T23 x6_1 (ji26)).f1) t346 t347 _ A56.out).mono ?_
                                        rintro e w63 ⟨rfl, hb⟩
                                        refine ⟨_, rfl, ?_⟩
                                        have n0_ := kb_ (ku_ HO_6.out) hb
                                        have n1_ := bb_ (bu_ BK325) hb
                                        have n2_ := bb_ (bu_ BK343) hb
                                        have n3_ := bb_ (bu_ BK344) hb
                                        have n4_ := bs_ (be_ HB) hb
                                        clear HO_6
                                        clear BK325
                                        clear BK343
                                        clear BK344
                                        clear HB
                                        have HO_6 := n0_
                                        have BK325 := n1_
                                        have BK343 := n2_
                                        have BK344 := n3_
                                        have HB := n4_
                                        clear n0_ n1_ n2_ n3_ n4_
                                        (try clear hb)
                                        (try clear hb2)
                                        (try clear hk)
                                        (try clear hi)
                                        refine hK.out _ _ ⟨(blk_cell BK343.out 0).trans rfl, (blk_cell BK343.out 1).trans rfl, (blk_cell BK343.out 2).trans rfl, (blk_cell BK344.out 0).trans rfl, (blk_cell BK344.out 1).trans rfl, (blk_cell BK344.out 2).trans rfl, (cl_ HB hw345_0), (cl_ HB hw345_1), (cl_ HB hw345_2), (cl_ HB hw345_3), (cl_ HB hw345_4)⟩ (fun hHeld => ?_)
                                        clear hK K
                                        refine nm_ 56 ?_; refine pu_ 10 46 2047 HT_ ?_; refine pu_ 11 57 4095 HT_ ?_; refine pu_ 12 58 8191 HT_ ?_; refine pu_ 13 12 16383 HT_ ?_; refine pu_ 14 13 32767 HT_ ?_
                                        refine done_ (done_of HT_.out (by kernel_rfl)) ?_
                                        have q64 : ((ji23) : Int) ≤ ((x6_1.length : Int) : Int) := dt_
                                        obtain ⟨i064, hi064, _, hsz64, _⟩ := info_parts info23
                                        have hcut64 := cut_to (P := Try.prog) 69 23 .i64 Try.underlying69 hi064 (some ad341) x6_1.length co31 (ji23) dt_ q64 (Kd.R_reads' HO_6.out).2.1
                                        have hr64 := Kd.R_take (m := ((ji23) : Int).toNat) HO_6.out (by omega)
                                        have hy64 : y348.length = ((ji23) : Int).toNat := (by rw [Ny348.out, List.length_take]; omega)
                                        rw [← Ny348.out] at hr64
                                        rw [← hy64] at hr64 hcut64
                                        clear hy64 hi064 hsz64 HO_6
                                        have HO350 := Aside0.mk hr64
                                        clear hr64
                                        replace q64 := eq_true q64
                                        try go_wp2_with (first | ((with_reducible refine gate_builtin (b := .append) (xs := #[.tmp 67, .tmp 70]) rfl ?_); at_builtin; refine Kd.R_append k23 (w0 := w) w.heap.size rfl (.tmp 67) (.tmp 70) 69 23 (.agg #[(.int .i64 0), (.int .i64 0), (.string ⟨#[]⟩)]) 32 rfl Try.underlying69 info23 rfl (by decide) (by omega) (.slice (some ad341) y348.length co31) y348 (⟨1, t346, (⟨#[]⟩ : ByteArray)⟩ : S23) [.int .i64 1, .int .i64 t346, .string (⟨#[]⟩ : ByteArray)] (fun k_ => k_ ≠ gb325 ∧ k_ ≠ gb343 ∧ k_ ≠ gb344) (fun _ => False) rfl rfl ?aP (fun _ hk => hk.elim) ?aF ?aO ?aB ?aS ?aL ?_; (case aP => exact k23_mkM _ _ _ (⟨1, t346, (⟨#[]⟩ : ByteArray)⟩ : S23)); (case aB => exact (be_ HB)); (case aF => exact (fun k_ hk => ⟨Kd.freshB (bu_ BK325) k_ hk, Kd.freshB (bu_ BK343) k_ hk, Kd.freshB (bu_ BK344) k_ hk⟩)); (case aO => exact (ku_ HO350.out)); (case aS => exact (below_size (be_ HB))); (case aL => have := LMc61.out; omega); intro v352 w65 ho hb hg hat; rw [← Ny351.out] at ho; have n0_ := Aside0.mk (blk_grown (bu_ BK325) hg (Kd.R_away HO350.out (fun _ hk => hk.1))); have n1_ := Aside0.mk (blk_grown (bu_ BK343) hg (Kd.R_away HO350.out (fun _ hk => hk.2.1))); have n2_ := Aside0.mk (blk_grown (bu_ BK344) hg (Kd.R_away HO350.out (fun _ hk => hk.2.2))); have n3_ := Aside0.mk (hb); have n4_ := Aside0.mk (ho); clear BK325; clear BK343; clear BK344; clear HB; clear HO350; have BK325 := n0_; have BK343 := n1_; have BK344 := n2_; have HB := n3_; have HO353 := n4_; clear n0_ n1_ n2_ n3_ n4_; clear ho hb hg hat))
                                        go_roundg kj28
                                        case measure => have := HK1.out; have := HJ28.out; omega
                                        case rel => exact ⟨(y351), (wrap64 (x7_1 + 1)), (x326000_1), (x326001_1), (x326002_1), ra_, H', ⟨by have := HK1.out; have := HJ28.out; omega⟩, ⟨by (with_reducible repeat (first | apply Kd.R_alloc | apply Kd.R_drewN | apply Kd.R_drew)); exact Kd.R_mono HO353.out (fun _ hk => hk.1)⟩, ⟨by (with_reducible repeat (first | refine blk_drewN ?_ _ | refine blk_drew ?_ | refine blk_alloc ?_ _)); exact BK325.out⟩, ⟨by repeat (first | (with_reducible first | exact HB.out | apply below_alloc | apply pw_below_drewN | apply below_drew1 | refine below_set ?_ GE325.out | refine below_set ?_ GE343.out | refine below_set ?_ GE344.out) | exact HB.out)⟩⟩
                                      · rw [if_neg c61] at H
                                        exact absurd H (by simp)
                                    · rw [if_neg c60] at H
                                      exact absurd H (by simp)
                                  · rw [if_neg c59] at H
                                    exact absurd H (by simp)
                                · rw [if_neg c57] at H
                                  obtain ⟨c57b0, c57b1⟩ := neB_ c57
                                  simp only [Option.some.injEq, Prod.mk.injEq] at H
                                  obtain ⟨rfl, rfl, rfl, rfl⟩ := H
                                  try go_wp2
                                  have n0_ := Aside0.mk (Kd.R_drew HO_6.out)
                                  have n1_ := Aside0.mk (blk_drew BK325.out)
                                  have n2_ := Aside0.mk (blk_drew BK343.out)
                                  have n3_ := Aside0.mk (blk_drew BK344.out)
                                  have n4_ := Aside0.mk (below_drew1 HB.out)
                                  clear HO_6
                                  clear BK325
                                  clear BK343
                                  clear BK344
                                  clear HB
                                  have HO_6 := n0_
                                  have BK325 := n1_
                                  have BK343 := n2_
                                  have BK344 := n3_
                                  have HB := n4_
                                  clear n0_ n1_ n2_ n3_ n4_
                                  have p345 : 0 ≤ (x7_1 : Int) := dt_
                                  have q345 : x7_1 < (l0.length : Int) := dt_
                                  obtain ⟨ad345, e345, hx345_0, hx345_1, hx345_2, hx345_3, hx345_4⟩ := at_T67 HR0.out x7_1 p345 q345
                                  have hw345_4 := hx345_4
                                  have hw345_3 := hx345_3
                                  have hw345_2 := hx345_2
                                  have hw345_1 := hx345_1
                                  have hw345_0 := hx345_0
                                  obtain rfl : ad327 = ad345 := (by injection e345)
                                  replace hx345_0 := cm_ HB hx345_0
                                  replace hx345_1 := cm_ HB hx345_1
                                  replace hx345_2 := cm_ HB hx345_2
                                  replace hx345_3 := cm_ HB hx345_3
                                  replace hx345_4 := cm_ HB hx345_4
                                  replace p345 := eq_true p345
                                  replace q345 := eq_true q345
                                  refine start_ (n := 15) (S := fun w' => w'.cell? ⟨gb343, 0, none⟩ = some (.int .i64 ((rd_T23 x6_1 (ji23)).f0)) ∧ w'.cell? ⟨gb343, 1, none⟩ = some (.int .i64 ((rd_T23 x6_1 (ji23)).f1)) ∧ w'.cell? ⟨gb343, 2, none⟩ = some (.string ((rd_T23 x6_1 (ji23)).f2)) ∧ w'.cell? ⟨gb344, 0, none⟩ = some (.int .i64 ((rd_T23 x6_1 (ji26)).f0)) ∧ w'.cell? ⟨gb344, 1, none⟩ = some (.int .i64 ((rd_T23 x6_1 (ji26)).f1)) ∧ w'.cell? ⟨gb344, 2, none⟩ = some (.string ((rd_T23 x6_1 (ji26)).f2)) ∧ w'.cell? (ad327.add ((x7_1).toNat * 5)) = some (.int .i64 ((rd_T67 l0 x7_1).f0)) ∧ w'.cell? ⟨(ad327.add ((x7_1).toNat * 5)).block, (ad327.add ((x7_1).toNat * 5)).off + 1, none⟩ = some (.string ((rd_T67 l0 x7_1).f1)) ∧ w'.cell? ⟨(ad327.add ((x7_1).toNat * 5)).block, (ad327.add ((x7_1).toNat * 5)).off + 2, none⟩ = some (.int .i64 ((rd_T67 l0 x7_1).f2.f0)) ∧ w'.cell? ⟨(ad327.add ((x7_1).toNat * 5)).block, (ad327.add ((x7_1).toNat * 5)).off + 3, none⟩ = some (.int .i64 ((rd_T67 l0 x7_1).f2.f1)) ∧ w'.cell? ⟨(ad327.add ((x7_1).toNat * 5)).block, (ad327.add ((x7_1).toNat * 5)).off + 4, none⟩ = some (.string ((rd_T67 l0 x7_1).f2.f2))) (ds := []) (mk_ 15 0) (by kernel_rfl) rfl rfl ⟨(blk_cell BK343.out 0).trans rfl, (blk_cell BK343.out 1).trans rfl, (blk_cell BK343.out 2).trans rfl, (blk_cell BK344.out 0).trans rfl, (blk_cell BK344.out 1).trans rfl, (blk_cell BK344.out 2).trans rfl, (cl_ HB hw345_0), (cl_ HB hw345_1), (cl_ HB hw345_2), (cl_ HB hw345_3), (cl_ HB hw345_4)⟩ (fun hHeld => ?_); refine with_tabW constableref01_Eval.tab9 constableref01_Eval.bits9 (fun HT_ HW_ => ?_)
                                  generalize wc.drew = w66 at HO_6 BK325 BK343 BK344 HB hx345_0 hx345_1 hx345_2 hx345_3 hx345_4 hHeld ⊢
                                  refine pu_ 0 47 1 HT_ ?_; refine pu_ 1 48 3 HT_ ?_; refine pu_ 2 49 7 HT_ ?_; refine pu_ 3 50 15 HT_ ?_; refine pu_ 5 52 47 HT_ ?_; refine pu_ 7 54 175 HT_ ?_; refine tk_ 4 51 191 HT_ HW_ hHeld ?_; refine tk_ 6 53 255 HT_ HW_ hHeld ?_; refine tk_ 8 55 511 HT_ HW_ hHeld ?_
                                  refine one_ (i := 9) (N := some 56) (mk_ 15 1023) rfl rfl (one_of HT_.out (by kernel_rfl)) (by decide) (fun K hK => ?_)
                                  refine goes_ Try.func52 (by kernel_rfl) rfl #[.int .i64 ((rd_T67 l0 x7_1).f0), .int .i64 ((rd_T23 x6_1 (ji23)).f1), .int .i64 ((rd_T23 x6_1 (ji26)).f1)] (by rfl) rfl rfl (by (try simp only [List.map_toArray, List.map_cons, List.map_nil]); first | done | (simp only [hji23, hji26]; rfl) | rfl | (simp only [List.length_drop, List.length_take]; rfl)) ?_
                                  with_reducible refine (constableref01_Do.calls kj28 ((rd_T67 l0 x7_1).f0) ((rd_T23 x6_1 (ji23)).f1) ((rd_T23 x6_1 (ji26)).f1) t346 t347 _ A56.out).mono ?_
                                  rintro e w67 ⟨rfl, hb⟩
                                  refine ⟨_, rfl, ?_⟩
                                  have n0_ := kb_ (ku_ HO_6.out) hb
                                  have n1_ := bb_ (bu_ BK325) hb
                                  have n2_ := bb_ (bu_ BK343) hb
                                  have n3_ := bb_ (bu_ BK344) hb
                                  have n4_ := bs_ (be_ HB) hb
                                  clear HO_6
                                  clear BK325
                                  clear BK343
                                  clear BK344
                                  clear HB
                                  have HO_6 := n0_
                                  have BK325 := n1_
                                  have BK343 := n2_
                                  have BK344 := n3_
                                  have HB := n4_
                                  clear n0_ n1_ n2_ n3_ n4_
                                  (try clear hb)
                                  (try clear hb2)
                                  (try clear hk)
                                  (try clear hi)
                                  refine hK.out _ _ ⟨(blk_cell BK343.out 0).trans rfl, (blk_cell BK343.out 1).trans rfl, (blk_cell BK343.out 2).trans rfl, (blk_cell BK344.out 0).trans rfl, (blk_cell BK344.out 1).trans rfl, (blk_cell BK344.out 2).trans rfl, (cl_ HB hw345_0), (cl_ HB hw345_1), (cl_ HB hw345_2), (cl_ HB hw345_3), (cl_ HB hw345_4)⟩ (fun hHeld => ?_)
                                  clear hK K
                                  refine nm_ 56 ?_; refine pu_ 10 46 2047 HT_ ?_; refine pu_ 11 57 4095 HT_ ?_; refine pu_ 12 58 8191 HT_ ?_; refine pu_ 13 12 16383 HT_ ?_; refine pu_ 14 13 32767 HT_ ?_
                                  refine done_ (done_of HT_.out (by kernel_rfl)) ?_
                                  have hnb68 := NB325_343.out
                                  have hnc68 := NB343_325.out
                                  have hnb69 := NB325_344.out
                                  have hnc69 := NB344_325.out
                                  have hcz70_0 : w67.cell? ⟨gb325, 0, none⟩ = some (.int .i64 x326000_1) := (blk_cell BK325.out 0).trans rfl
                                  have hcz70_1 : w67.cell? ⟨gb325, 1, none⟩ = some (.int .i64 x326001_1) := (blk_cell BK325.out 1).trans rfl
                                  have hcz70_2 : w67.cell? ⟨gb325, 2, none⟩ = some (.string x326002_1) := (blk_cell BK325.out 2).trans rfl
                                  have hfz70_0 := blk_frozen BK325.out 0
                                  have hfz70_1 := blk_frozen BK325.out 1
                                  have hfz70_2 := blk_frozen BK325.out 2
                                  try go_wp2
                                  refine bodyPost_ret (results_ct rfl _ _ gb325 23 #[.int .i64 0, .int .i64 0, .string (⟨#[]⟩ : ByteArray)] (0, 0) _ rfl (bp_ BK325) Try.underlying23 rfl (by kernel_rfl)) rfl ?_
                                  exact ⟨by first | rfl | (simp [errW_none, errW_some] <;> rfl) | (simp only [← hji23, ← hji26]; first | rfl | (simp [errW_none, errW_some] <;> rfl)) | (simp [*, errW_none, errW_some] <;> rfl), by repeat (first | (with_reducible first | exact HB.out | apply below_alloc | apply pw_below_drewN | apply below_drew1 | refine below_set ?_ GE325.out | refine below_set ?_ GE343.out | refine below_set ?_ GE344.out) | exact HB.out)⟩
                              · rw [if_neg c55] at H
                                exact absurd H (by simp)
                            · rw [if_neg c54] at H
                              exact absurd H (by simp)
                    · rw [if_neg c28] at H
                      exact absurd H (by simp)
                  · rw [if_neg c27] at H
                    exact absurd H (by simp)
                · rw [if_neg c25] at H
                  exact absurd H (by simp)
              · rw [if_neg c24] at H
                exact absurd H (by simp)
        · rw [if_neg c5] at H
          exact absurd H (by simp)
      · rw [if_neg c4] at H
        have c4b0 : decide (x7_1 < (l0.length : Int)) = false := decide_eq_false c4
        clear c4
        by_cases c71 : 0 < (x6_1.length : Int)
        · rw [if_pos c71] at H
          have c71b0 : decide (0 < (x6_1.length : Int)) = true := decide_eq_true c71
          have c71b1 : decide (0 < x6_1.length) = true := decide_eq_true (by omega)
          clear c71
          simp only [Option.some.injEq, Prod.mk.injEq] at H
          obtain ⟨rfl, rfl, rfl, rfl⟩ := H
          obtain ⟨Ao72, co72, eo72⟩ := Kd.R_slice HO_6.out
          subst eo72
          have p326 : 0 ≤ (0 : Int) := (by omega)
          have q326 : 0 < (x6_1.length : Int) := dt_
          obtain ⟨ad326, e326, hx326_0, hx326_1, hx326_2⟩ := at_T23 (Kd.R_reads' HO_6.out).2.2 0 p326 q326
          cases e326
          have qi326 : (0 < x6_1.length) = True := eq_true (by omega)
          (try rw [show ((0 : Int)).toNat = 0 from rfl] at hx326_0)
          (try rw [show 0 * 3 = 0 from rfl] at hx326_0)
          (try rw [Addr.add_zero'] at hx326_0)
          (try rw [show ((0 : Int)).toNat = 0 from rfl] at hx326_1)
          (try rw [show 0 * 3 = 0 from rfl] at hx326_1)
          (try rw [Addr.add_zero'] at hx326_1)
          (try rw [show ((0 : Int)).toNat = 0 from rfl] at hx326_2)
          (try rw [show 0 * 3 = 0 from rfl] at hx326_2)
          (try rw [Addr.add_zero'] at hx326_2)
          replace p326 := eq_true p326
          replace q326 := eq_true q326
          have hcz73_0 : wr.cell? ⟨gb325, 0, none⟩ = some (.int .i64 x326000_1) := (blk_cell BK325.out 0).trans rfl
          have hcz73_1 : wr.cell? ⟨gb325, 1, none⟩ = some (.int .i64 x326001_1) := (blk_cell BK325.out 1).trans rfl
          have hcz73_2 : wr.cell? ⟨gb325, 2, none⟩ = some (.string x326002_1) := (blk_cell BK325.out 2).trans rfl
          have hfz73_0 := blk_frozen BK325.out 0
          have hfz73_1 := blk_frozen BK325.out 1
          have hfz73_2 := blk_frozen BK325.out 2
          go_wp2
          refine bodyPost_ret (results_ct rfl _ _ gb325 23 #[.int .i64 ((rd_T23 x6_1 0).f0), .int .i64 ((rd_T23 x6_1 0).f1), .string ((rd_T23 x6_1 0).f2)] (0, 0) _ rfl (bp_ BK325) Try.underlying23 rfl (by kernel_rfl)) rfl ?_
          exact ⟨by first | rfl | (simp [errW_none, errW_some] <;> rfl) | (simp [*, errW_none, errW_some] <;> rfl), by repeat (first | (with_reducible first | exact HB.out | apply below_alloc | apply pw_below_drewN | apply below_drew1 | refine below_set ?_ GE325.out) | exact HB.out)⟩
        · rw [if_neg c71] at H
          exact absurd H (by simp)
end Go.Proofs.Ytaopajmpifenoaa.P
end
section
namespace Go.Proofs.Ytaopajmpifenoaa.P
open Go.RowKit Go.Proofs.YtaopajmpifenoaaW.PrintWords Go.Proofs.YtaopajmpifenoaaW.PrintLast Go.Proofs.YtaopajmpifenoaaW.PrintMore
attribute [local go_sem] max2_int min2_int max_two min_two max_three min_three max_four min_four
set_option linter.unusedVariables false
set_option linter.unusedSimpArgs false
def constablekeep_TwinOps.f (l0 : List (S67)) : Option ((List (S67))) := if ([] : List (S67)).length + l0.length < 2513169434916 then (some (([] : List (S67)) ++ l0)) else (none)
set_option maxHeartbeats 8000000 in
set_option maxRecDepth 100000 in
theorem constablekeep_TwinOps.calls (A0 : Option Addr) (c0 : Nat) (l0 : List (S67)) (r : List (S67)) (w : World) (hr0 : Kd.C k67 w A0 l0.length l0) (hc0 : l0.length ≤ c0) (h : constablekeep_TwinOps.f l0 = some r) :
    Calls Try.prog 25 #[.slice A0 l0.length c0] w fun e w' => ∃ v0_ : Value, e = .returned (v0_) ∧ Kd.R k67 67 w' w.heap.size (fun _ => True) v0_ r ∧ Below w.heap.size w w' := by
  have HR0 := Aside0.mk hr0
  have HC0 := Aside0.mk hc0
  clear hr0 hc0
  have HB := Aside0.mk (Below.refl w.heap.size w)
  have H : (if ([] : List (S67)).length + l0.length < 2513169434916 then (some (([] : List (S67)) ++ l0)) else (none)) = some r := h
  clear h
  by_cases c2 : ([] : List (S67)).length + l0.length < 2513169434916
  · rw [if_pos c2] at H
    have LMc2 := Aside0.mk c2
    clear c2
    obtain ⟨y118, hy118⟩ : ∃ y_ : List (S67), y_ = (([] : List (S67)) ++ l0) := ⟨_, rfl⟩
    replace H : (some y118) = some r := by first | (rw [hy118]; with_reducible exact H) | (have H2_ := (Option.bind_some _ _).symm.trans H; rw [hy118]; with_reducible exact H2_) | (have H2_ := (Option.bind_some _ _).symm.trans H; with_reducible exact H2_) | with_reducible exact H | (rw [hy118]; exact H) | exact H
    have Ny118 := Aside0.mk hy118
    clear hy118
    obtain rfl := Option.some.inj H
    go_enter Try.func25, Try.ntmps25
    go_wp2_with (first | ((with_reducible refine gate_builtin (b := .append) (xs := #[.tmp 4, .tmp 5]) rfl ?_); at_builtin; refine Kd.R_append_rows k67 (w0 := w) w.heap.size rfl (.tmp 4) (.tmp 5) 27 67 (.agg #[(.int .i64 0), (.string ⟨#[]⟩), (.int .i64 0), (.int .i64 0), (.string ⟨#[]⟩)]) 56 rfl Try.underlying27 info67 rfl (by decide) (by omega) (.slice none 0 0) ([] : List (S67)) l0 _ _ _ (fun _ => True) (fun _ => False) rfl rfl ?aO ?aR (fun _ _ h => h) (fun _ h => h.elim) ?aF ?aB ?aS ?aL ?_; (case aR => repeat (first | exact HR0.out | (with_reducible refine Kd.C_alloc ?_ _) | (with_reducible refine Kd.C_drewN ?_ _) | (with_reducible refine Kd.C_drew ?_))); (case aB => exact (be_ HB)); (case aF => exact (fun _ _ => trivial)); (case aO => exact ((Kd.R_nil _ _ _ _ (fun _ => True)))); (case aS => exact (below_size (be_ HB))); (case aL => have := LMc2.out; omega); intro v119 w3 ho hb hg hat; rw [← Ny118.out] at ho; have n0_ := Aside0.mk (hb); have n1_ := Aside0.mk (ho); clear HB; have HB := n0_; have HO120 := n1_; clear n0_ n1_; clear ho hb hg hat))
    go_ret
    exact ⟨_, by first | rfl | (simp [errW_none, errW_some] <;> rfl) | (simp [*, errW_none, errW_some] <;> rfl), by (with_reducible repeat (first | apply Kd.R_alloc | apply Kd.R_drewN | apply Kd.R_drew)); exact HO120.out, by repeat (first | (with_reducible first | exact HB.out | apply below_alloc | apply pw_below_drewN | apply below_drew1) | exact HB.out)⟩
  · rw [if_neg c2] at H
    exact absurd H (by simp)
end Go.Proofs.Ytaopajmpifenoaa.P
end
section
namespace Go.Proofs.Ytaopajmpifenoaa.P
open Go.RowKit Go.Proofs.YtaopajmpifenoaaW.PrintWords Go.Proofs.YtaopajmpifenoaaW.PrintLast Go.Proofs.YtaopajmpifenoaaW.PrintMore
attribute [local go_sem] max2_int min2_int max_two min_two max_three min_three max_four min_four
set_option linter.unusedVariables false
set_option linter.unusedSimpArgs false
theorem eqA67 (d : Nat) (w : World) (x0 y0 : Int) (x1 y1 : ByteArray) (x2 y2 : Int) (x3 y3 : Int) (x4 y4 : ByteArray) :
    (Op.equalIn (d + 3) 67 (.agg #[.int .i64 x0, .string x1, .int .i64 x2, .int .i64 x3, .string x4]) (.agg #[.int .i64 y0, .string y1, .int .i64 y2, .int .i64 y3, .string y4])).run Try.prog w = .ok (x0 == y0 && (x1.toList == y1.toList && ((x2 == y2 && (x3 == y3 && (x4.toList == y4.toList)))))) w := by
  refine eqA_of Try.underlying67 (by kernel_rfl) ?_
  refine eqf_cons (by rfl) (by go_simp; rfl) (by go_simp; rfl) (by go_simp) ?_
  refine eqf_cons (by rfl) (by go_simp; rfl) (by go_simp; rfl) (by go_simp) ?_
  exact eqf_last (by rfl) (by go_simp) (by go_simp) (eqA23 (d + 0) w _ _ _ _ _ _)
end Go.Proofs.Ytaopajmpifenoaa.P
end
section
namespace Go.Proofs.Ytaopajmpifenoaa.P
open Go.RowKit Go.Proofs.YtaopajmpifenoaaW.PrintWords Go.Proofs.YtaopajmpifenoaaW.PrintLast Go.Proofs.YtaopajmpifenoaaW.PrintMore
attribute [local go_sem] max2_int min2_int max_two min_two max_three min_three max_four min_four
set_option linter.unusedVariables false
set_option linter.unusedSimpArgs false
attribute [local go_sem high] eqA67
def constablekeep_Ops.l0 : Nat → List (S67) → List (S67) → Int → Option (Bool)
  | 0, _, _, _ => none
  | k + 1, x0, x1, x5 => if x5 < (x0.length : Int) then (if 0 ≤ x5 then (if x5 < (x1.length : Int) then (if (!(((rd_T67 x0 x5).f0) == ((rd_T67 x1 x5).f0)) || (!((((rd_T67 x0 x5).f1).toList) == (((rd_T67 x1 x5).f1).toList)) || ((!(((rd_T67 x0 x5).f2.f0) == ((rd_T67 x1 x5).f2.f0)) || (!(((rd_T67 x0 x5).f2.f1) == ((rd_T67 x1 x5).f2.f1)) || (!((((rd_T67 x0 x5).f2.f2).toList) == (((rd_T67 x1 x5).f2.f2).toList)))))))) = true then (some false) else (constablekeep_Ops.l0 k x0 x1 (wrap64 (x5 + 1)))) else (none)) else (none)) else (some true)
def constablekeep_Ops.f (k : Nat) (l0 : List (S67)) (l1 : List (S67)) : Option (Bool) := if (l0.length : Int) = (l1.length : Int) then (constablekeep_Ops.l0 k l0 l1 0) else (some false)
theorem constablekeep_Ops.mono_l : ∀ k, (∀ y0 y1 y2, LeO (constablekeep_Ops.l0 k y0 y1 y2) (constablekeep_Ops.l0 (k + 1) y0 y1 y2))
  | 0 => fun _ _ _ r h => by simp [constablekeep_Ops.l0] at h
  | k + 1 => by
    have ih0 := constablekeep_Ops.mono_l k
    · intro y0 y1 y2
      unfold constablekeep_Ops.l0
      repeat' first
      | (with_reducible exact ih0 _ _ _)
      | (with_reducible exact LeO.refl _)
      | (with_reducible exact LeO.none _)
      | (with_reducible refine LeO.ite ?_ ?_)
      | (with_reducible refine LeO.bind ?_ (fun _ => ?_))
      | exact ih0 _ _ _
      | exact LeO.none _
      | refine LeO.ite ?_ ?_
      | refine LeO.bind ?_ (fun _ => ?_)
theorem constablekeep_Ops.mono : ∀ a0 a1 k, LeO (constablekeep_Ops.f k a0 a1) (constablekeep_Ops.f (k + 1) a0 a1) := by
  intro a0 a1 k
  have ih0 := constablekeep_Ops.mono_l k
  unfold constablekeep_Ops.f
  repeat' first
      | (with_reducible exact ih0 _ _ _)
      | (with_reducible exact LeO.refl _)
      | (with_reducible exact LeO.none _)
      | (with_reducible refine LeO.ite ?_ ?_)
      | (with_reducible refine LeO.bind ?_ (fun _ => ?_))
      | exact ih0 _ _ _
      | exact LeO.none _
      | refine LeO.ite ?_ ?_
      | refine LeO.bind ?_ (fun _ => ?_)
set_option maxHeartbeats 8000000 in
set_option maxRecDepth 100000 in
theorem constablekeep_Ops.calls (k : Nat) (A0 : Option Addr) (c0 : Nat) (l0 : List (S67)) (A1 : Option Addr) (c1 : Nat) (l1 : List (S67)) (r : Bool) (w : World) (hr0 : Kd.C k67 w A0 l0.length l0) (hc0 : l0.length ≤ c0) (hr1 : Kd.C k67 w A1 l1.length l1) (hc1 : l1.length ≤ c1) (h : constablekeep_Ops.f k l0 l1 = some r) :
    Calls Try.prog 32 #[.slice A0 l0.length c0, .slice A1 l1.length c1] w fun e w' => e = .returned (.bool r) ∧ Drawn0 w w' := by
  have hu67 := Try.underlying67
  have HR0 := Aside0.mk hr0
  have HC0 := Aside0.mk hc0
  clear hr0 hc0
  have HR1 := Aside0.mk hr1
  have HC1 := Aside0.mk hc1
  clear hr1 hc1
  have H : (if (l0.length : Int) = (l1.length : Int) then (constablekeep_Ops.l0 k l0 l1 0) else (some false)) = some r := h
  clear h
  by_cases c3 : (l0.length : Int) = (l1.length : Int)
  · rw [if_pos c3] at H
    obtain ⟨c3b0, c3b1⟩ := eqB_ c3
    have c3b2 : (l0.length == l1.length) = true := by first | simpa using c3 | (simp at c3 ⊢; omega)
    clear c3
    have H' := Aside0.mk H
    clear H
    go_enter Try.func32, Try.ntmps32
    go_wp2
    repeat (go_quiet (fail); try go_wp2)
    go_loopg [5] k (fun kq v5 w' => ∃ (x5_1 : Int), v5 = .int .i64 x5_1 ∧ Aside0 (constablekeep_Ops.l0 kq l0 l1 x5_1 = some r) ∧ Aside0 (kq ≤ k) ∧ Drawn0 w w')
    case atStart => exact ⟨(0), ra_, H', ⟨Nat.le_refl _⟩, dz_⟩
    case round =>
      clear H'
      try clear c1
      try clear p2
      try clear c3
      try clear c3b0
      try clear c3b1
      try clear c3b2
      obtain ⟨x5_1, rfl, HA, HK1, ⟨m1, rfl⟩⟩ := hrel
      cases gk with
      | zero => exact absurd HA.out (by simp [constablekeep_Ops.l0])
      | succ k1 =>
        have H := HA.out
        clear HA
        simp only [constablekeep_Ops.l0] at H
        by_cases c4 : x5_1 < (l0.length : Int)
        · rw [if_pos c4] at H
          have c4b0 : decide (x5_1 < (l0.length : Int)) = true := decide_eq_true c4
          clear c4
          by_cases c5 : 0 ≤ x5_1
          · rw [if_pos c5] at H
            have c5b0 : decide (0 ≤ x5_1) = true := decide_eq_true c5
            clear c5
            by_cases c6 : x5_1 < (l1.length : Int)
            · rw [if_pos c6] at H
              have c6b0 : decide (x5_1 < (l1.length : Int)) = true := decide_eq_true c6
              clear c6
              by_cases c7 : (!(((rd_T67 l0 x5_1).f0) == ((rd_T67 l1 x5_1).f0)) || (!((((rd_T67 l0 x5_1).f1).toList) == (((rd_T67 l1 x5_1).f1).toList)) || ((!(((rd_T67 l0 x5_1).f2.f0) == ((rd_T67 l1 x5_1).f2.f0)) || (!(((rd_T67 l0 x5_1).f2.f1) == ((rd_T67 l1 x5_1).f2.f1)) || (!((((rd_T67 l0 x5_1).f2.f2).toList) == (((rd_T67 l1 x5_1).f2.f2).toList)))))))) = true
              · rw [if_pos c7] at H
                have c7b0 : (!(((rd_T67 l0 x5_1).f0) == ((rd_T67 l1 x5_1).f0)) || (!((((rd_T67 l0 x5_1).f1).toList) == (((rd_T67 l1 x5_1).f1).toList)) || ((!(((rd_T67 l0 x5_1).f2.f0) == ((rd_T67 l1 x5_1).f2.f0)) || (!(((rd_T67 l0 x5_1).f2.f1) == ((rd_T67 l1 x5_1).f2.f1)) || (!((((rd_T67 l0 x5_1).f2.f2).toList) == (((rd_T67 l1 x5_1).f2.f2).toList)))))))) = true := c7
                clear c7
                obtain rfl := Option.some.inj H
                have p277 : 0 ≤ (x5_1 : Int) := dt_
                have q277 : x5_1 < (l0.length : Int) := dt_
                obtain ⟨ad277, e277, hx277_0, hx277_1, hx277_2, hx277_3, hx277_4⟩ := at_T67 HR0.out x5_1 p277 q277
                cases e277
                replace p277 := eq_true p277
                replace q277 := eq_true q277
                have p278 : 0 ≤ (x5_1 : Int) := dt_
                have q278 : x5_1 < (l1.length : Int) := dt_
                obtain ⟨ad278, e278, hx278_0, hx278_1, hx278_2, hx278_3, hx278_4⟩ := at_T67 HR1.out x5_1 p278 q278
                cases e278
                replace p278 := eq_true p278
                replace q278 := eq_true q278
                go_wp2
                repeat (go_quiet (fail); try go_wp2)
                go_ret
                exact rz_
              · rw [if_neg c7] at H
                have c7b0 : (!(((rd_T67 l0 x5_1).f0) == ((rd_T67 l1 x5_1).f0)) || (!((((rd_T67 l0 x5_1).f1).toList) == (((rd_T67 l1 x5_1).f1).toList)) || ((!(((rd_T67 l0 x5_1).f2.f0) == ((rd_T67 l1 x5_1).f2.f0)) || (!(((rd_T67 l0 x5_1).f2.f1) == ((rd_T67 l1 x5_1).f2.f1)) || (!((((rd_T67 l0 x5_1).f2.f2).toList) == (((rd_T67 l1 x5_1).f2.f2).toList)))))))) = false := by simpa using c7
                clear c7
                have H' := Aside0.mk H
                clear H
                have p277 : 0 ≤ (x5_1 : Int) := dt_
                have q277 : x5_1 < (l0.length : Int) := dt_
                obtain ⟨ad277, e277, hx277_0, hx277_1, hx277_2, hx277_3, hx277_4⟩ := at_T67 HR0.out x5_1 p277 q277
                cases e277
                replace p277 := eq_true p277
                replace q277 := eq_true q277
                have p278 : 0 ≤ (x5_1 : Int) := dt_
                have q278 : x5_1 < (l1.length : Int) := dt_
                obtain ⟨ad278, e278, hx278_0, hx278_1, hx278_2, hx278_3, hx278_4⟩ := at_T67 HR1.out x5_1 p278 q278
                cases e278
                replace p278 := eq_true p278
                replace q278 := eq_true q278
                go_wp2
                repeat (go_quiet (fail); try go_wp2)
                go_roundg k1
                case measure => have := HK1.out; omega
                case rel => exact ⟨(wrap64 (x5_1 + 1)), ra_, H', ⟨by have := HK1.out; omega⟩, dz_⟩
            · rw [if_neg c6] at H
              exact absurd H (by simp)
          · rw [if_neg c5] at H
            exact absurd H (by simp)
        · rw [if_neg c4] at H
          have c4b0 : decide (x5_1 < (l0.length : Int)) = false := decide_eq_false c4
          clear c4
          obtain rfl := Option.some.inj H
          go_wp2
          repeat (go_quiet (fail); try go_wp2)
          go_ret
          exact rz_
  · rw [if_neg c3] at H
    obtain ⟨c3b0, c3b1⟩ := neB_ c3
    have c3b2 : (l0.length == l1.length) = false := by first | simpa using c3 | (simp at c3 ⊢; omega)
    obtain rfl := Option.some.inj H
    go_enter Try.func32, Try.ntmps32
    go_wp2
    repeat (go_quiet (fail); try go_wp2)
    go_ret
    exact rz_
end Go.Proofs.Ytaopajmpifenoaa.P
end
section
namespace Go.Proofs.Ytaopajmpifenoaa.P
open Go.RowKit Go.Proofs.YtaopajmpifenoaaW.PrintWords Go.Proofs.YtaopajmpifenoaaW.PrintLast Go.Proofs.YtaopajmpifenoaaW.PrintMore
def cmpS : List Int → List Int → Int
  | [], [] => 0
  | [], _ :: _ => -1
  | _ :: _, [] => 1
  | x :: a, y :: b => if x = y then cmpS a b else if x < y then -1 else 1
theorem ref_order_eq (a b : Int) : constableref01_order.f a b = some (if a < b then -1 else if a > b then 1 else 0) := by
  unfold constableref01_order.f
  split
  · rfl
  · split <;> rfl
theorem ref_Strings_ev (a b : ByteArray) (ha : a.size ≤ maxLen) (hb : b.size ≤ maxLen) : Ev (fun k => constableref01_Strings.f k a b) (cmpS (bytesOf a) (bytesOf b)) := by
  unfold maxLen at ha hb
  have h : ∀ (d i : Nat), i + d = a.size → i ≤ b.size → Ev (fun k => constableref01_Strings.l0 k a b i) (cmpS ((bytesOf a).drop i) ((bytesOf b).drop i)) := by
    intro d
    induction d with
    | zero =>
      intro i hi hib
      refine evShift ?_
      simp only [constableref01_Strings.l0]
      refine evNeg (by omega) (evShift ?_)
      simp only [constableref01_Strings.j1, Bool.false_eq_true, if_false, ref_order_eq, Option.bind_some]
      refine evSome ?_
      rw [List.drop_of_length_le (by rw [len_codes]; omega)]
      by_cases h2 : i < b.size
      · obtain ⟨y, hy, _⟩ := codes_split b i h2
        rw [hy]
        simp only [cmpS]
        rw [if_pos (by omega)]
      · rw [List.drop_of_length_le (by rw [len_codes]; omega)]
        simp only [cmpS]
        rw [if_neg (by omega), if_neg (by omega)]
    | succ d ih =>
      intro i hi hib
      have hlt : i < a.size := by omega
      obtain ⟨x, hx, ex⟩ := codes_split a i hlt
      refine evShift ?_
      simp only [constableref01_Strings.l0]
      refine evPos (by omega) (evShift ?_)
      simp only [constableref01_Strings.j1]
      by_cases h2 : i < b.size
      · obtain ⟨y, hy, ey⟩ := codes_split b i h2
        rw [hx, hy, ex, ey]
        simp only [cmpS]
        refine evPos (by rw [decide_eq_true_eq]; omega) (evPos (by omega) (evPos (by omega) (evPos (by omega) ?_)))
        have r1 := bt_range a i
        have r2 := bt_range b i
        have w1 : wrap64 x = x := by unfold wrap64; omega
        have w2 : wrap64 y = y := by unfold wrap64; omega
        rw [w1, w2]
        refine evIf (fun e => ?_) (fun e => ?_)
        · rw [if_pos e, wrap_succ hlt (by omega)]
          exact ih (i + 1) (by omega) (by omega)
        · rw [if_neg e]
          simp only [ref_order_eq, Option.bind_some]
          refine evSome ?_
          by_cases h3 : x < y
          · rw [if_pos h3, if_pos h3]
          · rw [if_neg h3, if_neg h3, if_pos (by omega)]
      · refine evNeg (by rw [decide_eq_true_eq]; omega) ?_
        simp only [ref_order_eq, Option.bind_some]
        refine evSome ?_
        rw [hx, List.drop_of_length_le (l := bytesOf b) (by rw [len_codes]; omega)]
        simp only [cmpS]
        rw [if_neg (by omega), if_pos (by omega)]
  have h0 := h a.size 0 (by omega) (by omega)
  simpa [constableref01_Strings.f] using h0
theorem less_cmp : ∀ a b : List UInt8, Op.bytesLess a b = decide (cmpS (a.map fun c => ((c.toNat : Nat) : Int)) (b.map fun c => ((c.toNat : Nat) : Int)) < 0)
  | [], [] => rfl
  | [], _ :: _ => rfl
  | _ :: _, [] => rfl
  | x :: a, y :: b => by
    simp only [Op.bytesLess, List.map_cons, cmpS]
    by_cases e : x = y
    · subst e
      simp only [if_true]
      rw [← less_cmp a b]; simp
    · have h1 : ¬ ((x.toNat : Nat) : Int) = ((y.toNat : Nat) : Int) := fun h => e (UInt8.toNat_inj.1 (by omega))
      have h2 : (x == y) = false := beq_eq_false_iff_ne.mpr e
      rw [if_neg h1, h2, Bool.false_and, Bool.or_false]
      by_cases h3 : x < y
      · have h4 : ((x.toNat : Nat) : Int) < ((y.toNat : Nat) : Int) := by have := UInt8.lt_iff_toNat_lt.1 h3; omega
        rw [if_pos h4, decide_eq_true h3]; rfl
      · have h4 : ¬ ((x.toNat : Nat) : Int) < ((y.toNat : Nat) : Int) := fun h => h3 (UInt8.lt_iff_toNat_lt.2 (by omega))
        rw [if_neg h4, decide_eq_false h3]; rfl
theorem less_codes (s t : ByteArray) : Op.bytesLess s.toList t.toList = decide (cmpS (bytesOf s) (bytesOf t) < 0) := by
  rw [tl_data, tl_data]; exact less_cmp _ _
theorem ref_zero (v : S23) : (!(v.f0 == 0) || (!(v.f1 == 0) || (!(v.f2.toList == ([] : List UInt8))))) = !zeroS v := by
  unfold zeroS
  rw [tl_beq_nil]
  by_cases h1 : v.f0 = 0 <;> by_cases h2 : v.f1 = 0 <;> by_cases h3 : v.f2 = ⟨#[]⟩ <;> simp [h1, h2, h3]
theorem size_pos_iff (s : ByteArray) : ((s.size : Int) > 0) ↔ ¬ s = ⟨#[]⟩ := by
  rw [← size_zero]; omega
theorem ref_Expr_l0 (l : List S67) (ho : OpsOk l) (hl : l.length ≤ 1000000) : ∀ (d i : Nat) (n : Int), i + d = l.length → 0 ≤ n → n ≤ i →
    Ev (fun k => constableref01_Expr.l0 k l n i) (decide (deepS n (l.drop i) = some 1)) := by
  intro d
  induction d with
  | zero =>
    intro i n hi h0 h1
    refine evShift ?_
    simp only [constableref01_Expr.l0]
    refine evNeg (by omega) (evSome ?_)
    rw [List.drop_of_length_le (by omega)]
    simp only [deepS, Option.some.injEq]
    rw [Bool.eq_iff_iff]; simp
  | succ d ih =>
    intro i n hi h0 h1
    have hlt : i < l.length := by omega
    obtain ⟨b1, b2⟩ := ho l[i] (List.getElem_mem hlt)
    have i1 := fun (m : Int) h0 h1 => ih (i + 1) m (by omega) h0 h1
    refine evShift ?_
    simp only [constableref01_Expr.l0]
    refine evPos (by omega) (evPos (by omega) ?_)
    simp only [rdO_nth l i hlt]
    rw [drop_at l i hlt, wrap_succ hlt (by omega)]
    have w1 : wrap64 (n + 1) = n + 1 := by unfold wrap64; omega
    rw [w1]
    simp only [deepS, ref_zero]
    refine evIf (fun k1 => ?_) (fun k1 => ?_)
    · have hp : pushS l[i] = true := decide_eq_true (.inl k1)
      have hop : opS l[i] = (wordS true l[i].f1 && zeroS l[i].f2) := by unfold opS; rw [if_pos k1]
      simp only [hp, hop, Bool.true_or, Bool.and_true, if_true]
      refine Ev.bind (ref_Word_ev _ true b1) (evCond (fun hw => ?_) (fun hw => evSome (by simp [hw])))
      refine evCond (fun hz => evSome ?_) (fun hz => ?_)
      · have : zeroS l[i].f2 = false := by simpa using hz
        simp [this]
      · have : zeroS l[i].f2 = true := by simpa using hz
        simp only [hw, this, Bool.and_self, if_true]
        exact i1 (n + 1) (by omega) (by omega)
    · refine evIf (fun k2 => ?_) (fun k2 => ?_)
      · have hp : pushS l[i] = true := decide_eq_true (.inr k2)
        have hop : opS l[i] = (decide (l[i].f1 = ⟨#[]⟩) && valS l[i].f2.f0 l[i].f2.f1 l[i].f2.f2) := by unfold opS; rw [if_neg k1, if_pos k2]
        simp only [hp, hop, Bool.true_or, Bool.and_true, if_true]
        refine evIf (fun hz => evSome ?_) (fun hz => ?_)
        · rw [size_pos_iff] at hz; simp [hz]
        · rw [size_pos_iff, Classical.not_not] at hz
          refine Ev.bind (ref_Value_ev _ _ _ b2) (evCond (fun hv => ?_) (fun hv => evSome (by simp [hv])))
          simp only [hz, hv, decide_true, Bool.and_self, if_true]
          exact i1 (n + 1) (by omega) (by omega)
      · have hp : pushS l[i] = false := decide_eq_false (by omega)
        have hop : opS l[i] = (decide (l[i].f0 = 3 ∨ l[i].f0 = 4 ∨ l[i].f0 = 5) && (decide (l[i].f1 = ⟨#[]⟩) && zeroS l[i].f2)) := by unfold opS; rw [if_neg k1, if_neg k2]
        have j1 : ∀ x : Bool, x = decide (l[i].f0 = 3 ∨ l[i].f0 = 4 ∨ l[i].f0 = 5) → Ev (fun k => constableref01_Expr.j1 k l n i x l[i].f0 l[i].f1 l[i].f2.f0 l[i].f2.f1 l[i].f2.f2)
            (decide ((if opS l[i] && (pushS l[i] || decide (2 ≤ n)) then deepS (if pushS l[i] then n + 1 else n - 1) (l.drop (i + 1)) else none) = some 1)) := by
          intro x hx
          refine evShift ?_
          simp only [constableref01_Expr.j1, ref_zero]
          rw [hop, ← hx, hp]
          simp only [Bool.false_or, Bool.false_eq_true, if_false]
          refine evCond (fun hx2 => ?_) (fun hx2 => evSome (by simp [hx2]))
          rw [hx2, wrap_succ hlt (by omega)]
          refine evIf (fun hz => evSome ?_) (fun hz => ?_)
          · rw [size_pos_iff] at hz; simp [hz]
          · rw [size_pos_iff, Classical.not_not] at hz
            refine evCond (fun hz2 => evSome ?_) (fun hz2 => ?_)
            · have : zeroS l[i].f2 = false := by simpa using hz2
              simp [this]
            · have hz3 : zeroS l[i].f2 = true := by simpa using hz2
              refine evIf (fun h2 => evSome ?_) (fun h2 => ?_)
              · have : ¬ (2 ≤ n) := by omega
                simp [this]
              · have h3 : 2 ≤ n := by omega
                have w2 : wrap64 (n - 1) = n - 1 := by unfold wrap64; omega
                rw [w2]
                simp only [hz, hz3, h3, decide_true, Bool.and_self, if_true]
                exact i1 (n - 1) (by omega) (by omega)
        refine evIf (fun k3 => ?_) (fun k3 => ?_)
        · exact j1 _ (by rw [k3]; rfl)
        · refine evIf (fun k4 => ?_) (fun k4 => ?_)
          · exact j1 _ (by rw [k4]; rfl)
          · exact j1 _ (by rw [Bool.eq_iff_iff]; simp [k3, k4])
theorem ref_Expr_ev (l : List S67) (ho : OpsOk l) : Ev (fun k => constableref01_Expr.f k l) (exprS l) := by
  unfold constableref01_Expr.f exprS
  simp only [ref_In_eq, Option.bind_some]
  refine evIf (fun h => ?_) (fun h => ?_)
  · rw [decide_eq_true_eq] at h
    rw [decide_eq_true (by omega), Bool.true_and]
    have := ref_Expr_l0 l ho (by omega) l.length 0 0 (by omega) (by omega) (by omega)
    simpa using this
  · rw [decide_eq_true_eq] at h
    refine evSome ?_
    rw [decide_eq_false (by omega), Bool.false_and]
theorem ref_Binds_l0 (l : List S54) (ho : BindsOk l) (hl : l.length ≤ 1000000) : ∀ (d : Nat) (i : Nat), i + d = l.length →
    Ev (fun k => constableref01_Binds.l0 k l i) (restS (if h : 0 < i ∧ i - 1 < l.length then some (l[i - 1]'h.2).f0 else none) (l.drop i)) := by
  intro d
  induction d with
  | zero =>
    intro i hi
    refine evShift ?_
    simp only [constableref01_Binds.l0]
    refine evNeg (by omega) (evSome ?_)
    rw [List.drop_of_length_le (by omega)]
    simp [restS]
  | succ d ih =>
    intro i hi
    have hlt : i < l.length := by omega
    obtain ⟨b1, b2⟩ := ho l[i] (List.getElem_mem hlt)
    refine evShift ?_
    simp only [constableref01_Binds.l0]
    refine evPos (by omega) (evPos (by omega) ?_)
    simp only [rdB_nth l i hlt]
    rw [drop_at l i hlt]
    have hn := ih (i + 1) (by omega)
    rw [dif_pos (by omega)] at hn
    simp only [Nat.add_sub_cancel] at hn
    rw [wrap_succ hlt (by omega)]
    have hb0 : bindS l[i] = (wordS true l[i].f0 && valS l[i].f1.f0 l[i].f1.f1 l[i].f1.f2) := rfl
    by_cases h0 : 0 < i
    · rw [dif_pos ⟨h0, by omega⟩]
      simp only [restS, hb0]
      refine Ev.bind (ref_Word_ev _ true b1) (evCond (fun h1 => ?_) (fun h1 => evSome (by simp [h1])))
      refine Ev.bind (ref_Value_ev _ _ _ b2) (evCond (fun h2 => ?_) (fun h2 => evSome (by simp [h2])))
      refine evPos (by omega) ?_
      have e : wrap64 ((i : Int) - 1) = ((i - 1 : Nat) : Int) := by unfold wrap64; omega
      rw [e]
      refine evPos (by omega) (evPos (by omega) ?_)
      rw [rdB_nth l (i - 1) (by omega)]
      refine Ev.bind (ref_Strings_ev _ _ (ho _ (List.getElem_mem _)).1 b1) ?_
      rw [less_codes]
      refine evIf (fun hc => evSome ?_) (fun hc => ?_)
      · rw [decide_eq_false (by omega)]; simp
      · rw [decide_eq_true (by omega)]
        simpa [h1, h2] using hn
    · rw [dif_neg (by omega)]
      simp only [restS, hb0]
      refine Ev.bind (ref_Word_ev _ true b1) (evCond (fun h1 => ?_) (fun h1 => evSome (by simp [h1])))
      refine Ev.bind (ref_Value_ev _ _ _ b2) (evCond (fun h2 => ?_) (fun h2 => evSome (by simp [h2])))
      refine evNeg (by omega) ?_
      simpa [h1, h2] using hn
theorem ref_Binds_ev (l : List S54) (ho : BindsOk l) : Ev (fun k => constableref01_Binds.f k l) (bindsS l) := by
  unfold constableref01_Binds.f bindsS
  refine evIf (fun h => evSome ?_) (fun h => ?_)
  · rw [decide_eq_false (by omega)]; rfl
  · rw [decide_eq_true (by omega)]
    have := ref_Binds_l0 l ho (by omega) l.length 0 (by omega)
    rw [dif_neg (by omega)] at this
    simpa [(rest_rising l).1] using this
theorem ref_Get_ev (l : List S54) (s : ByteArray) (hl : l.length ≤ maxLen) : Ev (fun k => constableref01_Get.f k l s) (match getS l s with | some v => (v.f0, v.f1, v.f2, true) | none => (0, 0, ⟨#[]⟩, false)) := by
  unfold maxLen at hl
  have h : ∀ i : Nat, i ≤ l.length → Ev (fun k => constableref01_Get.l0 k l s i) (match getS (l.drop i) s with | some v => (v.f0, v.f1, v.f2, true) | none => (0, 0, ⟨#[]⟩, false)) := by
    refine back_ind l.length (fun k i => constableref01_Get.l0 k l s i) _ ?_ ?_
    · refine evShift ?_
      simp only [constableref01_Get.l0]
      refine evNeg (by omega) (evSome ?_)
      rw [List.drop_length]; rfl
    · intro i hi ih
      refine evShift ?_
      simp only [constableref01_Get.l0]
      refine evPos (by omega) (evPos (by omega) ?_)
      rw [rdB_nth l i hi, drop_at l i hi, wrap_succ hi (by omega)]
      by_cases e : l[i].f0 = s
      · refine evPos (by rw [e]) (evSome ?_)
        rw [getS_cons, if_pos e]
      · refine evNeg (fun h => e (tl_inj.1 h)) ?_
        rw [getS_cons, if_neg e]; exact ih
  have := h 0 (by omega)
  simpa [constableref01_Get.f] using this
theorem ref_Eval_l0 (l : List S67) (b : List S54) (hl : l.length ≤ 1000000) (hb : b.length ≤ maxLen) : ∀ (d i : Nat) (st : List S23), i + d = l.length → st.length ≤ i → deepS st.length (l.drop i) = some 1 →
    Ev (fun k => constableref01_Eval.l0 k l b st.reverse i) (tupV (evalS b st (l.drop i)).1 (evalS b st (l.drop i)).2) := by
  intro d
  induction d with
  | zero =>
    intro i st hi h1 hd
    rw [List.drop_of_length_le (by omega)] at hd ⊢
    simp only [deepS, Option.some.injEq] at hd
    match st, hd with
    | [v], _ =>
      refine evShift ?_
      simp only [constableref01_Eval.l0]
      exact evNeg (by omega) (evPos (by simp) (evSome rfl))
    | [], hd => simp at hd
    | _ :: _ :: _, hd => simp at hd; omega
  | succ d ih =>
    intro i st hi h1 hd
    have hlt : i < l.length := by omega
    rw [drop_at l i hlt] at hd ⊢
    refine evShift ?_
    simp only [constableref01_Eval.l0]
    refine evPos (by omega) (evPos (by omega) ?_)
    simp only [rdO_nth l i hlt]
    rw [wrap_succ hlt (by omega)]
    have next : pushS l[i] = true → (pushV b l[i]).2 = 0 → Ev (fun k => constableref01_Eval.l0 k l b (st.reverse ++ [(pushV b l[i]).1]) ((i + 1 : Nat) : Int)) (tupV (evalS b st (l[i] :: l.drop (i + 1))).1 (evalS b st (l[i] :: l.drop (i + 1))).2) := by
      intro hp he
      obtain ⟨_, hd2⟩ := deep_push hd hp
      simp only [evalS, hp, if_true, he]
      have := ih (i + 1) ((pushV b l[i]).1 :: st) (by omega) (by simp; omega) (by simpa using hd2)
      rw [List.reverse_cons] at this
      exact this
    refine evIf (fun k1 => ?_) (fun k1 => ?_)
    · have hp : pushS l[i] = true := decide_eq_true (.inl k1)
      refine Ev.bind (ref_Get_ev b l[i].f1 hb) ?_
      cases hg : getS b l[i].f1 with
      | some v =>
        have hpv : pushV b l[i] = (v, 0) := by unfold pushV; rw [if_neg (by omega), hg]
        refine evPos rfl (evPos (by simp; omega) ?_)
        have := next hp (by rw [hpv])
        rw [hpv] at this
        exact this
      | none =>
        have hpv : pushV b l[i] = (zV, 5) := by unfold pushV; rw [if_neg (by omega), hg]
        refine evNeg (by decide) (evSome ?_)
        simp only [evalS, hp, if_true, hpv]
        rfl
    · refine evIf (fun k2 => ?_) (fun k2 => ?_)
      · have hp : pushS l[i] = true := decide_eq_true (.inr k2)
        have hpv : pushV b l[i] = (l[i].f2, 0) := by unfold pushV; rw [if_pos k2]
        refine evPos (by simp; omega) ?_
        have := next hp (by rw [hpv])
        rw [hpv] at this
        exact this
      · have hp : pushS l[i] = false := decide_eq_false (by omega)
        obtain ⟨_, h2, hd2⟩ := deep_reck hd hp
        match st, h1, h2, hd2 with
        | [], _, h2, _ => simp at h2
        | [_], _, h2, _ => simp at h2
        | y :: x :: st, h1, h2, hd2 =>
          have e : (y :: x :: st).reverse = st.reverse ++ x :: y :: [] := by simp
          have e' : (y :: x :: st).reverse = (st.reverse ++ [x]) ++ y :: [] := by simp
          have w1 : wrap64 (((y :: x :: st).reverse.length : Int) - 2) = (st.reverse.length : Int) := by simp at h1 ⊢; unfold wrap64; omega
          have w2 : wrap64 (((y :: x :: st).reverse.length : Int) - 1) = ((st.reverse ++ [x]).length : Int) := by simp at h1 ⊢; unfold wrap64; omega
          rw [w1, w2]
          refine evPos (by omega) (evPos (by simp; omega) (evPos (by omega) (evPos (by simp) ?_)))
          rw [show rd_T23 (y :: x :: st).reverse (st.reverse.length : Int) = x from by rw [e]; exact rdV_mid _ _ _ _ rfl]
          rw [show rd_T23 (y :: x :: st).reverse ((st.reverse ++ [x]).length : Int) = y from by rw [e']; exact rdV_mid _ _ _ _ rfl]
          have bad : reckV l[i].f0 x y = (zV, 3) → Ev (fun k => constableref01_Eval.j1 k l b (y :: x :: st).reverse i true x.f0 x.f1 x.f2 y.f0 y.f1 y.f2) (tupV (evalS b (y :: x :: st) (l[i] :: l.drop (i + 1))).1 (evalS b (y :: x :: st) (l[i] :: l.drop (i + 1))).2) := by
            intro hr
            refine evShift ?_
            simp only [constableref01_Eval.j1, if_true]
            refine evSome ?_
            simp only [evalS, hp, Bool.false_eq_true, if_false, hr]
            rfl
          refine evIf (fun x1 => ?_) (fun x1 => ?_)
          · by_cases y1 : y.f0 = 1
            · have hy : (y.f0 != 1) = false := by simpa using y1
              rw [hy]
              refine evShift ?_
              simp only [constableref01_Eval.j1, Bool.false_eq_true, if_false]
              refine evPos (by omega) (evPos (by omega) ?_)
              rw [rdO_nth l i hlt]
              refine Ev.bind (ref_Do_ev _ _ _) ?_
              have hr : reckV l[i].f0 x y = if (doS l[i].f0 x.f1 y.f1).2 = 0 then (⟨1, (doS l[i].f0 x.f1 y.f1).1, ⟨#[]⟩⟩, 0) else (zV, (doS l[i].f0 x.f1 y.f1).2) := by unfold reckV; rw [if_pos ⟨x1, y1⟩]
              refine evIf (fun he => ?_) (fun he => ?_)
              · rw [if_pos he] at hr
                simp only [evalS, hp, Bool.false_eq_true, if_false, hr, if_true]
                rw [w1]
                have ht : (y :: x :: st).reverse.take ((st.reverse.length : Int)).toNat = st.reverse := by rw [e, Int.toNat_natCast, List.take_left]
                refine evPos (by omega) (evPos (by simp; omega) ?_)
                rw [ht, wrap_succ hlt (by omega)]
                refine evBind0 rfl (evPos (by simp at h1 ⊢; omega) ?_)
                have := ih (i + 1) ((⟨1, (doS l[i].f0 x.f1 y.f1).1, ⟨#[]⟩⟩ : S23) :: st) (by omega) (by simp at h1 ⊢; omega) (by
                  rw [← hd2]; congr 1; simp only [List.length_cons]; omega)
                rw [List.reverse_cons] at this
                exact this
              · rw [if_neg he] at hr
                simp only [evalS, hp, Bool.false_eq_true, if_false, hr, if_neg he]
                exact evSome rfl
            · have hy : (y.f0 != 1) = true := by simpa using y1
              rw [hy]
              exact bad (by unfold reckV; rw [if_neg (fun h => y1 h.2)])
          · exact bad (by unfold reckV; rw [if_neg (fun h => x1 h.1)])
theorem ref_Eval_ev (l : List S67) (b : List S54) (hl : exprS l = true) (hb : b.length ≤ maxLen) :
    Ev (fun k => constableref01_Eval.f k l b) (tupV (evalS b [] l).1 (evalS b [] l).2) := by
  simp only [exprS, Bool.and_eq_true, decide_eq_true_eq] at hl
  have := ref_Eval_l0 l b (by omega) hb l.length 0 [] (by omega) (by simp) (by simpa using hl.2)
  simpa [constableref01_Eval.f] using this
theorem twinOps_eq (l : List S67) (h : l.length ≤ 1000000) : constablekeep_TwinOps.f l = some l := by
  unfold constablekeep_TwinOps.f
  rw [if_pos (by simp; omega)]; rfl
theorem keep_Ops_ev (a : List S67) (h : a.length ≤ 1000000) : Ev (fun k => constablekeep_Ops.f k a a) true := by
  have h1 : ∀ i : Nat, i ≤ a.length → Ev (fun k => constablekeep_Ops.l0 k a a i) true := by
    refine back_ind a.length (fun k i => constablekeep_Ops.l0 k a a i) (fun _ => true) ?_ ?_
    · refine evShift ?_
      simp only [constablekeep_Ops.l0]
      exact evNeg (by omega) (evSome rfl)
    · intro i hi ih
      refine evShift ?_
      simp only [constablekeep_Ops.l0]
      refine evPos (by omega) (evPos (by omega) (evPos (by omega) (evNeg (by simp) ?_)))
      rw [wrap_succ hi (by omega)]; exact ih
  exact evPos rfl (h1 0 (by omega))
theorem vars_len (l : List S67) : ∀ out : List ByteArray, (varsS out l).length ≤ out.length + l.length := by
  induction l with
  | nil => intro out; simp [varsS]
  | cons o l ih =>
    intro out
    simp only [varsS]
    split
    · have := ih out; simp; omega
    · have := ih (out ++ [o.f1]); simp at this ⊢; omega
theorem opS_kind {o : S67} (h : opS o = true) : (o.f0 ≥ 3 ↔ pushS o = false) := by
  unfold opS at h
  unfold pushS
  rw [decide_eq_false_iff_not]
  by_cases k1 : o.f0 = 1
  · omega
  · by_cases k2 : o.f0 = 2
    · omega
    · rw [if_neg k1, if_neg k2] at h
      simp only [Bool.and_eq_true, decide_eq_true_eq] at h
      omega
theorem deep_ops : ∀ (l : List S67) (n m : Int), deepS n l = some m → ∀ o ∈ l, opS o = true
  | [], _, _, _, o, ho => by simp at ho
  | x :: l, n, m, h, o, ho => by
    have hx : opS x = true ∧ ∃ n', deepS n' l = some m := by
      cases hp : pushS x with
      | true => obtain ⟨h1, h2⟩ := deep_push h hp; exact ⟨h1, _, h2⟩
      | false => obtain ⟨h1, _, h2⟩ := deep_reck h hp; exact ⟨h1, _, h2⟩
    rcases List.mem_cons.1 ho with rfl | ho
    · exact hx.1
    · obtain ⟨n', h2⟩ := hx.2
      exact deep_ops l n' m h2 o ho
def heavyO (l : List S67) : Bool := decide (l.length > 40) || l.any fun o => decide (o.f1.size > 200) || decide (o.f2.f2.size > 200)
def heavyB (l : List S54) : Bool := decide (l.length > 110) || l.any fun o => decide (o.f0.size > 200) || decide (o.f1.f2.size > 200)
theorem heavy07_ev (l : List S67) : Ev (fun k => constablelaw07_Heavy.f k l) (heavyO l) := by
  unfold constablelaw07_Heavy.f heavyO
  refine evIf (fun h => evSome ?_) (fun h => ?_)
  · rw [decide_eq_true (by omega)]; rfl
  · rw [decide_eq_false (by omega), Bool.false_or]
    have h1 : ∀ i : Nat, i ≤ l.length → Ev (fun k => constablelaw07_Heavy.l0 k l i) ((l.drop i).any fun o => decide (o.f1.size > 200) || decide (o.f2.f2.size > 200)) := by
      refine back_ind l.length (fun k i => constablelaw07_Heavy.l0 k l i) _ ?_ ?_
      · refine evShift ?_
        simp only [constablelaw07_Heavy.l0]
        refine evNeg (by omega) (evSome ?_)
        rw [List.drop_length]; rfl
      · intro i hi ih
        refine evShift ?_
        simp only [constablelaw07_Heavy.l0]
        refine evPos (by omega) (evPos (by omega) ?_)
        rw [rdO_nth l i hi, drop_at l i hi, wrap_succ hi (by omega)]
        simp only [List.any_cons]
        refine evIf (fun e => evSome ?_) (fun e => ?_)
        · rw [decide_eq_true (by omega)]; rfl
        · rw [decide_eq_false (by omega)]
          refine evIf (fun e => evSome ?_) (fun e => ?_)
          · rw [decide_eq_true (by omega)]; rfl
          · rw [decide_eq_false (by omega)]; exact ih
    have := h1 0 (by omega)
    simpa using this
theorem heavy05_ev (l : List S54) : Ev (fun k => constablelaw05_Heavy.f k l) (heavyB l) := by
  unfold constablelaw05_Heavy.f heavyB
  refine evIf (fun h => evSome ?_) (fun h => ?_)
  · rw [decide_eq_true (by omega)]; rfl
  · rw [decide_eq_false (by omega), Bool.false_or]
    have h1 : ∀ i : Nat, i ≤ l.length → Ev (fun k => constablelaw05_Heavy.l0 k l i) ((l.drop i).any fun o => decide (o.f0.size > 200) || decide (o.f1.f2.size > 200)) := by
      refine back_ind l.length (fun k i => constablelaw05_Heavy.l0 k l i) _ ?_ ?_
      · refine evShift ?_
        simp only [constablelaw05_Heavy.l0]
        refine evNeg (by omega) (evSome ?_)
        rw [List.drop_length]; rfl
      · intro i hi ih
        refine evShift ?_
        simp only [constablelaw05_Heavy.l0]
        refine evPos (by omega) (evPos (by omega) ?_)
        rw [rdB_nth l i hi, drop_at l i hi, wrap_succ hi (by omega)]
        simp only [List.any_cons]
        refine evIf (fun e => evSome ?_) (fun e => ?_)
        · rw [decide_eq_true (by omega)]; rfl
        · rw [decide_eq_false (by omega)]
          refine evIf (fun e => evSome ?_) (fun e => ?_)
          · rw [decide_eq_true (by omega)]; rfl
          · rw [decide_eq_false (by omega)]; exact ih
    have := h1 0 (by omega)
    simpa using this
theorem light_ops {l : List S67} (h : heavyO l = false) : l.length ≤ 40 ∧ OpsOk l := by
  unfold heavyO at h
  simp only [Bool.or_eq_false_iff, decide_eq_false_iff_not, List.any_eq_false, Bool.or_eq_true, decide_eq_true_eq, not_or] at h
  refine ⟨by omega, fun o ho => ?_⟩
  have := h.2 o ho
  unfold maxLen
  constructor <;> omega
theorem light_binds {l : List S54} (h : heavyB l = false) : l.length ≤ 110 ∧ BindsOk l := by
  unfold heavyB at h
  simp only [Bool.or_eq_false_iff, decide_eq_false_iff_not, List.any_eq_false, Bool.or_eq_true, decide_eq_true_eq, not_or] at h
  refine ⟨by omega, fun o ho => ?_⟩
  have := h.2 o ho
  unfold maxLen
  constructor <;> omega
end Go.Proofs.Ytaopajmpifenoaa.P
end
section
namespace Go.Proofs.Ytaopajmpifenoaa.P
open Go.RowKit Go.Proofs.YtaopajmpifenoaaW.PrintWords Go.Proofs.YtaopajmpifenoaaW.PrintLast Go.Proofs.YtaopajmpifenoaaW.PrintMore
theorem wakes08_ev : Ev (fun k => constablelaw08_wakes.f k) true := Ev.of (constablelaw08_wakes.mono) (k := 60) (by decide +kernel)
theorem wakesEnd {g : Nat → Option Bool} (h : Ev g true) : Ev (fun k => (g k).bind fun t => some t) true := Ev.bind h (evSome rfl)
end Go.Proofs.Ytaopajmpifenoaa.P
end
section
namespace Go.Proofs.Ytaopajmpifenoaa.P
open Go.RowKit Go.Proofs.YtaopajmpifenoaaW.PrintWords Go.Proofs.YtaopajmpifenoaaW.PrintLast Go.Proofs.YtaopajmpifenoaaW.PrintMore
structure Opens {α : Type} (d : Kd α) (P : Program) (t : TypeId) (ok : α → Prop) : Prop where
  cells : P.cellsOf t = d.sz
  opens : ∀ {H : Type} {enc : TypeId × Value → H} {w : World} {base : Nat} {spare : Nat → Bool} {held : Bool} {fuel : Nat} {cs : List Value} {x : DataW H × List MemPlace},
    DataW.trod enc P w base spare held fuel t cs = some x → ∃ v, d.K w v cs ∧ ok v
theorem Opens.mono {α : Type} {d : Kd α} {P : Program} {t : TypeId} {ok ok' : α → Prop} (h : Opens d P t ok) (hm : ∀ v, ok v → ok' v) : Opens d P t ok' :=
  ⟨h.cells, fun hx => by obtain ⟨v, h1, h2⟩ := h.opens hx; exact ⟨v, h1, hm v h2⟩⟩
theorem Opens.int {k : IntKind} {P : Program} {t : TypeId} (hu : P.underlying t = some (.int k)) (hc : P.cellsOf t = 1) : Opens (Kd.int k) P t (fun n => (Lit.int k n).wf = true) :=
  ⟨hc, fun hx => by obtain ⟨m, rfl, rfl, hw⟩ := DataW.trod_int hu hx; exact ⟨m, rfl, hw⟩⟩
theorem Opens.string {P : Program} {t : TypeId} (hu : P.underlying t = some .string) (hc : P.cellsOf t = 1) : Opens Kd.string P t (fun s => s.size ≤ maxLen) :=
  ⟨hc, fun hx => by obtain ⟨s, rfl, _, hw⟩ := DataW.trod_string hu hx; exact ⟨s, rfl, hw⟩⟩
theorem Opens.bool {P : Program} {t : TypeId} (hu : P.underlying t = some .bool) (hc : P.cellsOf t = 1) : Opens Kd.bool P t (fun _ => True) :=
  ⟨hc, fun hx => by obtain ⟨b, rfl, _⟩ := DataW.trod_bool hu hx; exact ⟨b, rfl, trivial⟩⟩
theorem Opens.iso {α β : Type} {d : Kd α} {P : Program} {t : TypeId} {ok : α → Prop} {f : β → α} (g : α → β) (hg : ∀ a, f (g a) = a) (h : Opens d P t ok) : Opens (Kd.iso d f) P t (fun b => ok (f b)) :=
  ⟨h.cells, fun hx => by
    obtain ⟨v, h1, h2⟩ := h.opens hx
    refine ⟨g v, ?_, ?_⟩
    · show d.K _ (f (g v)) _
      rw [hg]; exact h1
    · show ok (f (g v))
      rw [hg]; exact h2⟩
structure OpensFs {α : Type} (d : Kd α) (P : Program) (fs : List Field) (off : Nat) (ok : α → Prop) : Prop where
  opens : ∀ {H : Type} {enc : TypeId × Value → H} {w : World} {base : Nat} {spare : Nat → Bool} {held : Bool} {fuel : Nat} {cs : List Value},
    off + d.sz = cs.length → (∀ (i : Nat) (f : Field), fs[i]? = some f → ∃ x, DataW.trod enc P w base spare held fuel f.type ((cs.drop f.offset).take (P.cellsOf f.type)) = some x) → ∃ v, d.K w v (cs.drop off) ∧ ok v
theorem OpensFs.one {α : Type} {d : Kd α} {P : Program} {f : Field} {off : Nat} {ok : α → Prop} (ho : f.offset = off) (h : Opens d P f.type ok) : OpensFs d P [f] off ok := by
  refine ⟨?_⟩
  intro H enc w base spare held fuel cs hl hx
  obtain ⟨x, hx⟩ := hx 0 f rfl
  rw [ho, h.cells, List.take_of_length_le (by simp; omega)] at hx
  exact h.opens hx
theorem OpensFs.cons {α β : Type} {d : Kd α} {d' : Kd β} {P : Program} {f : Field} {fs : List Field} {off : Nat} {ok : α → Prop} {ok' : β → Prop} {ok2 : α × β → Prop} (ho : f.offset = off) (h : Opens d P f.type ok) (h' : OpensFs d' P fs (off + d.sz) ok') (hk : ∀ v, ok v.1 → ok' v.2 → ok2 v) :
    OpensFs (Kd.pair d d') P (f :: fs) off ok2 := by
  refine ⟨?_⟩
  intro H enc w base spare held fuel cs hl hx
  obtain ⟨x, hx0⟩ := hx 0 f rfl
  rw [ho, h.cells] at hx0
  obtain ⟨v, hv, ov⟩ := h.opens hx0
  have hl' : off + (d.sz + d'.sz) = cs.length := hl
  obtain ⟨u, hu, ou⟩ := h'.opens (cs := cs) (by omega) (fun i g hg => hx (i + 1) g hg)
  refine ⟨(v, u), ⟨(cs.drop off).take d.sz, cs.drop (off + d.sz), ?_, hv, hu⟩, hk (v, u) ov ou⟩
  rw [← List.drop_drop, List.take_append_drop]
theorem Opens.struct {α : Type} {d : Kd α} {P : Program} {t : TypeId} {fs : Array Field} {ok : α → Prop} (hu : P.underlying t = some (.struct fs)) (hc : P.cellsOf t = d.sz) (h : OpensFs d P fs.toList 0 ok) : Opens d P t ok := by
  refine ⟨hc, ?_⟩
  intro H enc w base spare held fuel cs x hx
  obtain ⟨xs, n, rfl, _, hl, hxl, hf⟩ := DataW.trod_struct hu hx
  have := h.opens (cs := cs) (enc := enc) (w := w) (base := base) (spare := spare) (held := held) (fuel := n) (by omega) (by
    intro i f hi
    have hi' : fs[i]? = some f := by simpa using hi
    have hlt : i < xs.length := by
      rw [hxl]
      exact (Array.getElem?_eq_some_iff.1 hi').1
    exact ⟨xs[i], by rw [hf i f hi', List.getElem?_eq_getElem hlt]⟩)
  simpa using this
theorem list_of {α : Type} {Q : Nat → α → Prop} : ∀ n : Nat, (∀ i, i < n → ∃ v, Q i v) → ∃ l : List α, l.length = n ∧ ∀ i v, l[i]? = some v → Q i v := by
  intro n
  induction n with
  | zero => intro _; exact ⟨[], rfl, fun i v h => by simp at h⟩
  | succ n ih =>
    intro h
    obtain ⟨l, hl, hq⟩ := ih (fun i hi => h i (by omega))
    obtain ⟨v, hv⟩ := h n (by omega)
    refine ⟨l ++ [v], by simp [hl], ?_⟩
    intro i u hu
    by_cases hi : i < l.length
    · rw [List.getElem?_append_left hi] at hu
      exact hq i u hu
    · rw [List.getElem?_append_right (by omega)] at hu
      have h0 : i - l.length = 0 := by
        by_cases h0 : i - l.length = 0
        · exact h0
        · rw [List.getElem?_eq_none (by simp; omega)] at hu; cases hu
      rw [h0] at hu
      simp at hu
      subst hu
      have : i = n := by omega
      subst this
      exact hv
theorem Opens.row {α : Type} {d : Kd α} {P : Program} {t e : TypeId} {ok : α → Prop} (h : Opens d P e ok) (hu : P.underlying t = some (.slice e))
    {H : Type} {enc : TypeId × Value → H} {w : World} {base : Nat} {spare : Nat → Bool} {held : Bool} {fuel : Nat} {A : Option Addr} {len cap : Nat} {x : DataW H × List MemPlace}
    (hx : DataW.trod enc P w base spare held fuel t [.slice A len cap] = some x) : ∃ l, l.length = len ∧ d.C w A len l ∧ len ≤ cap ∧ cap ≤ maxLen ∧ ∀ v ∈ l, ok v := by
  rcases DataW.trod_slice hu hx with ⟨hcs, _⟩ | ⟨a, len', cap', elems, rest, n, rfl, hcs, _, hb, hl, hm, hlen, hel, _⟩
  · simp only [List.cons.injEq, Value.slice.injEq, and_true] at hcs
    obtain ⟨rfl, rfl, rfl⟩ := hcs
    exact ⟨[], rfl, ⟨rfl, by omega, fun h => by omega⟩, Nat.le_refl _, by unfold maxLen; omega, fun v hv => by simp at hv⟩
  · simp only [List.cons.injEq, Value.slice.injEq, and_true] at hcs
    obtain ⟨rfl, rfl, rfl⟩ := hcs
    obtain ⟨l, hll, hq⟩ := list_of (Q := fun i v => ∃ cs, w.cells? base (a.add (i * P.cellsOf e)) (P.cellsOf e) = some cs ∧ d.K w v cs ∧ ok v) len (by
      intro i hi
      have h1 := hel i hi
      rw [List.getElem?_eq_getElem (by omega), Option.bind_eq_some_iff] at h1
      obtain ⟨cs, h2, h3⟩ := h1
      obtain ⟨v, h4, h5⟩ := h.opens h3
      exact ⟨v, cs, h2, h4, h5⟩)
    refine ⟨l, hll, ⟨hll, by unfold maxLen at hm; omega, fun _ => ⟨a, rfl, ?_⟩⟩, hl, hm, ?_⟩
    · intro j p hp
      obtain ⟨cs, h2, h4, _⟩ := hq j p hp
      obtain ⟨_, h6, h7⟩ := World.cells?_some h2
      refine ⟨cs, by rw [h6, h.cells], h4, ?_⟩
      intro i u hi
      have hlt : i < P.cellsOf e := by rw [← h6]; exact (List.getElem?_eq_some_iff.1 hi).1
      have h8 := h7 i hlt
      rw [Addr.add_add, h.cells, hi] at h8
      exact h8
    · intro v hv
      obtain ⟨i, hi⟩ := List.getElem?_of_mem hv
      obtain ⟨_, _, _, h5⟩ := hq i v hi
      exact h5
theorem Opens.slice {α : Type} {d : Kd α} {P : Program} {t e : TypeId} {ok : α → Prop} (h : Opens d P e ok) (hu : P.underlying t = some (.slice e)) (hc : P.cellsOf t = 1) : Opens (Kd.slice e d) P t (fun l => l.length ≤ maxLen ∧ ∀ v ∈ l, ok v) := by
  refine ⟨hc, ?_⟩
  intro H enc w base spare held fuel cs x hx
  have hx0 := hx
  rcases DataW.trod_slice hu hx with ⟨hcs, _⟩ | ⟨a, len', cap', elems, rest, n, rfl, hcs, _⟩ <;> subst hcs
  all_goals
    obtain ⟨l, h1, h2, h3, h4, h5⟩ := h.row hu hx0
    have h6 := Nat.le_trans h3 h4
    rw [← h1] at h2 h3 h6 ⊢
    exact ⟨l, ⟨_, _, rfl, h3, h2⟩, h6, h5⟩
theorem Opens.arg {α : Type} {d : Kd α} {P : Program} {t e : TypeId} {ok : α → Prop} (h : Opens d P e ok) (hu : P.underlying t = some (.slice e)) {B : Nat} (hB : P.bytesOf e = B)
    {H : Type} {enc : TypeId × Value → H} {w : World} {base : Nat} {spare : Nat → Bool} {held : Bool} {a : Option Addr} {len cap : Nat} {x : DataW H} {ps : List MemPlace} {ts : List TypeId} {ds : List (DataW H)} {j : Nat}
    (hsz : (DataW.weightsEach P ts ds).all (· ≤ reachBytes) = true) (ht : ts[j]? = some t) (hd : ds[j]? = some x)
    (hx : DataW.Trod enc P w base spare held t (.slice a len cap) x ps) : ∃ l, l.length = len ∧ d.C w a len l ∧ len ≤ cap ∧ (len ≤ maxLen ∧ len * B ≤ 140737488351232) ∧ ∀ v ∈ l, ok v := by
  obtain ⟨fuel, hf⟩ := hx
  have hf' : DataW.trod enc P w base spare held fuel t [.slice a len cap] = some (x, ps) := hf
  obtain ⟨l, h1, h2, h3, h4, h5⟩ := h.row hu hf'
  refine ⟨l, h1, h2, h3, ⟨Nat.le_trans h3 h4, ?_⟩, h5⟩
  rcases DataW.trod_slice hu hf' with ⟨hcs, _⟩ | ⟨a', len', cap', elems, rest, n, _, hcs, hxx, _, hl, _, hlen, _⟩
  · simp only [List.cons.injEq, Value.slice.injEq, and_true] at hcs
    obtain ⟨_, rfl, _⟩ := hcs
    omega
  · simp only [List.cons.injEq, Value.slice.injEq, and_true] at hcs
    obtain ⟨_, rfl, _⟩ := hcs
    obtain ⟨rfl, _⟩ := Prod.mk.inj hxx
    have z := sized_slice hsz ht hd hu
    rw [hB] at z
    have : len ≤ (elems.map (·.1)).length + (rest.map (·.1)).length := by simp; omega
    exact Nat.le_trans (Nat.mul_le_mul_right _ this) z
theorem Opens.agg {α : Type} {d : Kd α} {P : Program} {t : TypeId} {ok : α → Prop} (h : Opens d P t ok) {fs : Array Field} (hu : P.underlying t = some (.struct fs))
    {H : Type} {enc : TypeId × Value → H} {w : World} {r : Reach} {base b0 : Nat} {spare : Nat → Bool} {held : Bool} {v : Value} {x : DataW H} {ps : List MemPlace}
    (hv : Value.okWide P w r b0 t v) (hx : DataW.Trod enc P w base spare held t v x ps) : ∃ u cs, v = .agg ⟨cs⟩ ∧ d.K w u cs ∧ ok u := by
  obtain ⟨cs, rfl, _⟩ := Go.WideShapes.okWide_struct hu hv
  obtain ⟨fuel, hf⟩ := hx
  obtain ⟨u, h1, h2⟩ := h.opens hf
  exact ⟨u, cs.toList, rfl, h1, h2⟩
end Go.Proofs.Ytaopajmpifenoaa.P
end
section
namespace Go.Proofs.Ytaopajmpifenoaa.P
open Go.RowKit Go.Proofs.YtaopajmpifenoaaW.PrintWords Go.Proofs.YtaopajmpifenoaaW.PrintLast Go.Proofs.YtaopajmpifenoaaW.PrintMore
theorem o3 : Opens (Kd.int .i64) Try.prog 3 (fun x => (Lit.int .i64 x).wf = true) := Opens.int Try.underlying3 (by kernel_rfl)
theorem o9 : Opens Kd.string Try.prog 9 (fun x => x.size ≤ maxLen) := Opens.string Try.underlying9 (by kernel_rfl)
def ok23 (x : S23) : Prop := (Lit.int .i64 x.f0).wf = true ∧ (Lit.int .i64 x.f1).wf = true ∧ x.f2.size ≤ maxLen
theorem o23 : Opens k23 Try.prog 23 ok23 := by
  have h1 := Opens.struct (d := (Kd.pair (Kd.int .i64) (Kd.pair (Kd.int .i64) Kd.string))) (ok := fun a => (Lit.int .i64 a.1).wf = true ∧ (Lit.int .i64 a.2.1).wf = true ∧ a.2.2.size ≤ maxLen) Try.underlying23 (by kernel_rfl) (OpensFs.cons (ok2 := fun a : (Int) × (Int) × (ByteArray) => (Lit.int .i64 a.1).wf = true ∧ (Lit.int .i64 a.2.1).wf = true ∧ a.2.2.size ≤ maxLen) (ok' := fun a : (Int) × (ByteArray) => (Lit.int .i64 a.1).wf = true ∧ a.2.size ≤ maxLen) (by rfl) o3 (OpensFs.cons (ok2 := fun a : (Int) × (ByteArray) => (Lit.int .i64 a.1).wf = true ∧ a.2.size ≤ maxLen) (ok' := fun a : (ByteArray) => a.size ≤ maxLen) (by rfl) o3 (OpensFs.one (by rfl) o9) (fun v h1 h2 => ⟨h1, h2⟩)) (fun v h1 h2 => ⟨h1, h2⟩))
  exact Opens.mono (Opens.iso (fun a => ⟨a.1, a.2.1, a.2.2⟩) (fun _ => rfl) h1) (fun _ h => h)
theorem kc23 {w : World} {v : S23} {cs : List Value} (h : k23.K w v cs) : cs = [.int .i64 v.f0, .int .i64 v.f1, .string v.f2] := by
  have h0 : ((Kd.pair (Kd.int .i64) (Kd.pair (Kd.int .i64) Kd.string))).K w (v.f0, v.f1, v.f2) cs := h
  obtain ⟨c0, d0, rfl, g0, h1⟩ := h0
  obtain rfl := g0
  obtain ⟨c1, d1, rfl, g1, h2⟩ := h1
  obtain rfl := g1
  obtain rfl := h2
  exact rfl
def ok67 (x : S67) : Prop := (Lit.int .i64 x.f0).wf = true ∧ x.f1.size ≤ maxLen ∧ ok23 x.f2
theorem o67 : Opens k67 Try.prog 67 ok67 := by
  have h1 := Opens.struct (d := (Kd.pair (Kd.int .i64) (Kd.pair Kd.string k23))) (ok := fun a => (Lit.int .i64 a.1).wf = true ∧ a.2.1.size ≤ maxLen ∧ ok23 a.2.2) Try.underlying67 (by kernel_rfl) (OpensFs.cons (ok2 := fun a : (Int) × (ByteArray) × (S23) => (Lit.int .i64 a.1).wf = true ∧ a.2.1.size ≤ maxLen ∧ ok23 a.2.2) (ok' := fun a : (ByteArray) × (S23) => a.1.size ≤ maxLen ∧ ok23 a.2) (by rfl) o3 (OpensFs.cons (ok2 := fun a : (ByteArray) × (S23) => a.1.size ≤ maxLen ∧ ok23 a.2) (ok' := fun a : (S23) => ok23 a) (by rfl) o9 (OpensFs.one (by rfl) o23) (fun v h1 h2 => ⟨h1, h2⟩)) (fun v h1 h2 => ⟨h1, h2⟩))
  exact Opens.mono (Opens.iso (fun a => ⟨a.1, a.2.1, a.2.2⟩) (fun _ => rfl) h1) (fun _ h => h)
theorem kc67 {w : World} {v : S67} {cs : List Value} (h : k67.K w v cs) : cs = [.int .i64 v.f0, .string v.f1, .int .i64 v.f2.f0, .int .i64 v.f2.f1, .string v.f2.f2] := by
  have h0 : ((Kd.pair (Kd.int .i64) (Kd.pair Kd.string k23))).K w (v.f0, v.f1, v.f2) cs := h
  obtain ⟨c0, d0, rfl, g0, h1⟩ := h0
  obtain rfl := g0
  obtain ⟨c1, d1, rfl, g1, h2⟩ := h1
  obtain rfl := g1
  obtain rfl := kc23 h2
  exact rfl
def ok54 (x : S54) : Prop := x.f0.size ≤ maxLen ∧ ok23 x.f1
theorem o54 : Opens k54 Try.prog 54 ok54 := by
  have h1 := Opens.struct (d := (Kd.pair Kd.string k23)) (ok := fun a => a.1.size ≤ maxLen ∧ ok23 a.2) Try.underlying54 (by kernel_rfl) (OpensFs.cons (ok2 := fun a : (ByteArray) × (S23) => a.1.size ≤ maxLen ∧ ok23 a.2) (ok' := fun a : (S23) => ok23 a) (by rfl) o9 (OpensFs.one (by rfl) o23) (fun v h1 h2 => ⟨h1, h2⟩))
  exact Opens.mono (Opens.iso (fun a => ⟨a.1, a.2⟩) (fun _ => rfl) h1) (fun _ h => h)
theorem kc54 {w : World} {v : S54} {cs : List Value} (h : k54.K w v cs) : cs = [.string v.f0, .int .i64 v.f1.f0, .int .i64 v.f1.f1, .string v.f1.f2] := by
  have h0 : ((Kd.pair Kd.string k23)).K w (v.f0, v.f1) cs := h
  obtain ⟨c0, d0, rfl, g0, h1⟩ := h0
  obtain rfl := g0
  obtain rfl := kc23 h1
  exact rfl
end Go.Proofs.Ytaopajmpifenoaa.P
end
section
namespace Go.Proofs.Ytaopajmpifenoaa.Pure
open Go.RowKit Go.Proofs.Ytaopajmpifenoaa.P Go.Proofs.YtaopajmpifenoaaW.PrintWords Go.Proofs.YtaopajmpifenoaaW.PrintLast Go.Proofs.YtaopajmpifenoaaW.PrintMore
theorem GuardParts (n : Int) (x y : List S67) (b : List S54) (_w0 : (Lit.int .i64 n).wf = true) (hz1 : x.length ≤ maxLen ∧ x.length * 56 ≤ 140737488351232) (_ho1 : ∀ v ∈ x, ok67 v) (hz2 : y.length ≤ maxLen ∧ y.length * 56 ≤ 140737488351232) (_ho2 : ∀ v ∈ y, ok67 v) (hz3 : b.length ≤ maxLen ∧ b.length * 48 ≤ 140737488351232) (_ho3 : ∀ v ∈ b, ok54 v) :
    ∃ k, constablelaw08_GuardParts.f k n x y b = some true := by
  refine Ev.rounds (r := true) ?_
  have hwk := wakesEnd wakes08_ev
  unfold constablelaw08_GuardParts.f
  have hj : Ev (fun k => constablelaw08_GuardParts.j0 k n x y b true) true := by
    refine evShift ?_
    simp only [constablelaw08_GuardParts.j0, if_true]
    exact evSome rfl
  refine Ev.bind (heavy07_ev x) (evCond (fun _ => hj) (fun h1 => Ev.bind (heavy07_ev y) (evCond (fun _ => hj) (fun h2 => Ev.bind (heavy05_ev b) (evCond (fun _ => hj) (fun h3 => ?_))))))
  obtain ⟨hxl, hxo⟩ := light_ops h1
  obtain ⟨hyl, hyo⟩ := light_ops h2
  obtain ⟨hbl, hbo⟩ := light_binds h3
  refine Ev.bind (ref_Expr_ev x hxo) (evCond (fun hx => Ev.bind (ref_Expr_ev y hyo) (evCond (fun hy => Ev.bind (ref_Binds_ev b hbo) ?_) (fun _ => hj))) (fun _ => hj))
  cases hb : bindsS b with
  | false => exact hj
  | true =>
    have ek : ∃ how : Int, wrap64 (1 + (wrap64 (Int.tmod (IntKind.u64.wrap n) 4))) = how ∧ 1 ≤ how ∧ how ≤ 4 := by
      rw [IntKind.wrap_u64, Int.tmod_eq_emod_of_nonneg (by omega)]
      exact ⟨_, rfl, by unfold wrap64; omega, by unfold wrap64; omega⟩
    obtain ⟨how, ek, k1, k2⟩ := ek
    refine evShift ?_
    simp only [constablelaw08_GuardParts.j0, Bool.not_true, Bool.false_eq_true, if_false, ek]
    have hc : condS 3 ⟨#[]⟩ [] how x y = true := by
      unfold condS
      rw [decide_eq_true (show 1 ≤ how ∧ how ≤ 4 from ⟨k1, k2⟩), hx, hy]
      rfl
    have gE := guard_Eval_ev 3 ⟨#[]⟩ [] how x y b hxo hz1.1 hyo hz2.1 hbo hz3.1
    have gC := guard_Check_ev 3 ⟨#[]⟩ [] how x y hxo hz1.1 hyo hz2.1
    rw [hc] at gE gC
    have gH := guard_Holds_ev how (evalE x b).1 (evalE y b).1 (evalE_size hbo hxo) (evalE_size hbo hyo)
    refine Ev.bind (expr_Eval_ev x b hxo hz1.1 hbo hz3.1) (Ev.bind (expr_Eval_ev y b hyo hz2.1 hbo hz3.1) (Ev.bind gE ?_))
    simp only [if_true]
    unfold testS
    refine evIf (fun h1 => evIf (fun h2 => ?_) (fun h2 => ?_)) (fun h1 => ?_)
    · rw [if_pos (show (evalE x b).2 = 0 from h1), if_pos (show (evalE y b).2 = 0 from h2)]
      exact Ev.bind gH (evPos rfl (evPos (beq_self_eq_true _) (Ev.bind gC (evPos (by trivial) hwk))))
    · rw [if_pos (show (evalE x b).2 = 0 from h1), if_neg (show ¬ (evalE y b).2 = 0 from h2)]
      exact evPos rfl (evNeg (show ¬ false = true by decide) hwk)
    · rw [if_neg (show ¬ (evalE x b).2 = 0 from h1)]
      exact evPos rfl (evNeg (show ¬ false = true by decide) hwk)
end Go.Proofs.Ytaopajmpifenoaa.Pure
end
