/- Part 3 of the proof of GuardOne: words, contracts of functions of the program (what a call answers), and what the answers say. -/
import Derived.Lib.Bytes
import Derived.Test.YtaopajmpifenoaaVWords
import Derived.Test.YtaopajmpifenoaaVLast
import Derived.Test.YtaopajmpifenoaaVApart
import Derived.Test.YtaopajmpifenoaaVArr
import Derived.Test.YtaopajmpifenoaaVFoot
import Derived.Test.YtaopajmpifenoaaVKept
import Derived.Test.YtaopajmpifenoaaVShare
import Derived.Test.YtaopajmpifenoaaVZeros
import Derived.Test.YtaopajmpifenoaaVN
import Derived.Test.YtaopajmpifenoaaVFootNe
import Derived.Test.YtaopajmpifenoaaVAt
import Derived.Test.YtaopajmpifenoaaVEqStruct
import Derived.Test.YtaopajmpifenoaaVTab
import Derived.Test.YtaopajmpifenoaaVFour
import Derived.Test.YtaopajmpifenoaaVGuard
import Derived.Test.YtaopajmpifenoaaVInv
import Derived.Test.YtaopajmpifenoaaVInvWords
import Derived.Test.YtaopajmpifenoaaVQPut
import Derived.Test.YtaopajmpifenoaaVNEv
import Derived.Test.YtaopajmpifenoaaVMore
import Derived.Test.YtaopajmpifenoaaVRepsOne
import Derived.Test.YtaopajmpifenoaaVSized
import Derived.Test.YtaopajmpifenoaaCGuardOne0
import Derived.Test.YtaopajmpifenoaaCGuardOne1
section
namespace Go.Proofs.Ytaopajmpifenoaa.P
open Go.RowKit Go.Proofs.YtaopajmpifenoaaW.PrintWords Go.Proofs.YtaopajmpifenoaaW.PrintLast Go.Proofs.YtaopajmpifenoaaW.PrintMore
attribute [local go_sem] max2_int min2_int max_two min_two max_three min_three max_four min_four
set_option linter.unusedVariables false
set_option linter.unusedSimpArgs false
mutual
def expr_Eval.j0 : Nat → List (S67) → List (S54) → Int → Option (Int × Int × ByteArray × Int)
  | 0, _, _, _ => none
  | k + 1, x0, x1, x6 => if x6 = 0 then (expr_Eval.l0 k x1 ([] : List (S23)) x0 (x0.length : Int) 0) else (some (0, 0, (⟨#[]⟩ : ByteArray), x6))
def expr_Eval.l0 : Nat → List (S54) → List (S23) → List (S67) → Int → Int → Option (Int × Int × ByteArray × Int)
  | 0, _, _, _, _, _ => none
  | k + 1, x1, x7, x22, x23, x24 => if x24 < x23 then (if 0 ≤ x24 then (if x24 < (x22.length : Int) then ((expr_pushes.f ((rd_T67 x22 x24).f0)).bind fun t239 => (if t239 = true then ((expr_push.f k ((rd_T67 x22 x24).f0) ((rd_T67 x22 x24).f1) ((rd_T67 x22 x24).f2.f0) ((rd_T67 x22 x24).f2.f1) ((rd_T67 x22 x24).f2.f2) x1).bind fun bt240 => (if bt240.2.2.2 = 0 then (if x7.length < 4398046511104 then (expr_Eval.l0 k x1 (x7 ++ [(⟨bt240.1, bt240.2.1, bt240.2.2.1⟩ : S23)]) x22 x23 (wrap64 (x24 + 1))) else (none)) else (some (0, 0, (⟨#[]⟩ : ByteArray), bt240.2.2.2)))) else (if 0 ≤ (wrap64 ((x7.length : Int) - 2)) then (if (wrap64 ((x7.length : Int) - 2)) < (x7.length : Int) then (if 0 ≤ (wrap64 ((wrap64 ((x7.length : Int) - 2)) + 1)) then (if (wrap64 ((wrap64 ((x7.length : Int) - 2)) + 1)) < (x7.length : Int) then ((expr_reckon.f k ((rd_T67 x22 x24).f0) ((rd_T23 x7 (wrap64 ((x7.length : Int) - 2))).f0) ((rd_T23 x7 (wrap64 ((x7.length : Int) - 2))).f1) ((rd_T23 x7 (wrap64 ((x7.length : Int) - 2))).f2) ((rd_T23 x7 (wrap64 ((wrap64 ((x7.length : Int) - 2)) + 1))).f0) ((rd_T23 x7 (wrap64 ((wrap64 ((x7.length : Int) - 2)) + 1))).f1) ((rd_T23 x7 (wrap64 ((wrap64 ((x7.length : Int) - 2)) + 1))).f2)).bind fun bt249 => (if (wrap64 ((x7.length : Int) - 2)) ≤ (x7.length : Int) then ((some (x7.take ((wrap64 ((x7.length : Int) - 2)) : Int).toNat : List (S23))).bind fun y253 => (if bt249.2.2.2 = 0 then (if y253.length < 4398046511104 then (expr_Eval.l0 k x1 (y253 ++ [(⟨bt249.1, bt249.2.1, bt249.2.2.1⟩ : S23)]) x22 x23 (wrap64 (x24 + 1))) else (none)) else (some (0, 0, (⟨#[]⟩ : ByteArray), bt249.2.2.2)))) else (none))) else (none)) else (none)) else (none)) else (none)))) else (none)) else (none)) else (if 0 < (x7.length : Int) then (some ((rd_T23 x7 0).f0, (rd_T23 x7 0).f1, (rd_T23 x7 0).f2, 0)) else (none))
end
def expr_Eval.f (k : Nat) (l0 : List (S67)) (l1 : List (S54)) : Option (Int × Int × ByteArray × Int) := (expr_Check.f k l0).bind fun t233 => (if t233 = 0 then ((subst_Check.f k l1).bind fun t234 => (expr_Eval.j0 k l0 l1 t234)) else (expr_Eval.j0 k l0 l1 t233))
theorem expr_Eval.mono_l : ∀ k, (∀ y0 y1 y2, LeO (expr_Eval.j0 k y0 y1 y2) (expr_Eval.j0 (k + 1) y0 y1 y2)) ∧ (∀ y0 y1 y2 y3 y4, LeO (expr_Eval.l0 k y0 y1 y2 y3 y4) (expr_Eval.l0 (k + 1) y0 y1 y2 y3 y4))
  | 0 => ⟨fun _ _ _ r h => by simp [expr_Eval.j0] at h, fun _ _ _ _ _ r h => by simp [expr_Eval.l0] at h⟩
  | k + 1 => by
    obtain ⟨ih0, ih1⟩ := expr_Eval.mono_l k
    refine ⟨?_, ?_⟩
    · intro y0 y1 y2
      unfold expr_Eval.j0
      repeat' first
      | (with_reducible exact ih0 _ _ _)
      | (with_reducible exact ih1 _ _ _ _ _)
      | (with_reducible exact expr_Check.mono _ _)
      | (with_reducible exact expr_push.mono _ _ _ _ _ _ _)
      | (with_reducible exact expr_reckon.mono _ _ _ _ _ _ _ _)
      | (with_reducible exact subst_Check.mono _ _)
      | (with_reducible exact LeO.refl _)
      | (with_reducible exact LeO.none _)
      | (with_reducible refine LeO.ite ?_ ?_)
      | (with_reducible refine LeO.bind ?_ (fun _ => ?_))
      | exact ih0 _ _ _
      | exact ih1 _ _ _ _ _
      | exact expr_Check.mono _ _
      | exact expr_push.mono _ _ _ _ _ _ _
      | exact expr_reckon.mono _ _ _ _ _ _ _ _
      | exact subst_Check.mono _ _
      | exact LeO.none _
      | refine LeO.ite ?_ ?_
      | refine LeO.bind ?_ (fun _ => ?_)
    · intro y0 y1 y2 y3 y4
      unfold expr_Eval.l0
      repeat' first
      | (with_reducible exact ih0 _ _ _)
      | (with_reducible exact ih1 _ _ _ _ _)
      | (with_reducible exact expr_Check.mono _ _)
      | (with_reducible exact expr_push.mono _ _ _ _ _ _ _)
      | (with_reducible exact expr_reckon.mono _ _ _ _ _ _ _ _)
      | (with_reducible exact subst_Check.mono _ _)
      | (with_reducible exact LeO.refl _)
      | (with_reducible exact LeO.none _)
      | (with_reducible refine LeO.ite ?_ ?_)
      | (with_reducible refine LeO.bind ?_ (fun _ => ?_))
      | exact ih0 _ _ _
      | exact ih1 _ _ _ _ _
      | exact expr_Check.mono _ _
      | exact expr_push.mono _ _ _ _ _ _ _
      | exact expr_reckon.mono _ _ _ _ _ _ _ _
      | exact subst_Check.mono _ _
      | exact LeO.none _
      | refine LeO.ite ?_ ?_
      | refine LeO.bind ?_ (fun _ => ?_)
theorem expr_Eval.mono : ∀ a0 a1 k, LeO (expr_Eval.f k a0 a1) (expr_Eval.f (k + 1) a0 a1) := by
  intro a0 a1 k
  obtain ⟨ih0, ih1⟩ := expr_Eval.mono_l k
  unfold expr_Eval.f
  repeat' first
      | (with_reducible exact ih0 _ _ _)
      | (with_reducible exact ih1 _ _ _ _ _)
      | (with_reducible exact expr_Check.mono _ _)
      | (with_reducible exact expr_push.mono _ _ _ _ _ _ _)
      | (with_reducible exact expr_reckon.mono _ _ _ _ _ _ _ _)
      | (with_reducible exact subst_Check.mono _ _)
      | (with_reducible exact LeO.refl _)
      | (with_reducible exact LeO.none _)
      | (with_reducible refine LeO.ite ?_ ?_)
      | (with_reducible refine LeO.bind ?_ (fun _ => ?_))
      | exact ih0 _ _ _
      | exact ih1 _ _ _ _ _
      | exact expr_Check.mono _ _
      | exact expr_push.mono _ _ _ _ _ _ _
      | exact expr_reckon.mono _ _ _ _ _ _ _ _
      | exact subst_Check.mono _ _
      | exact LeO.none _
      | refine LeO.ite ?_ ?_
      | refine LeO.bind ?_ (fun _ => ?_)
def expr_Eval.T14 : Bool × List (List Nat × List Nat) := (true, [([], []), ([0], [0]), ([], []), ([], []), ([2, 3], [2, 3]), ([4], [4]), ([], []), ([], []), ([7], [7]), ([6, 8], [6, 8]), ([9], [9]), ([1, 5, 10], [1, 5, 10]), ([11], [11]), ([12], [12]), ([12], [12]), ([13, 11, 0, 1, 2, 3, 4, 5, 6, 7, 8, 9, 10, 11, 12, 13], [13]), ([14, 15, 0, 1, 2, 3, 4, 5, 6, 7, 8, 9, 10, 11, 12, 13, 14, 15], [14])])
def expr_Eval.B14 : List Nat := [0, 1, 0, 0, 12, 28, 0, 0, 128, 448, 960, 2047, 4095, 8191, 8191, 16383, 65535]
theorem expr_Eval.tab14 : rtab .any (opsOf Try.f22 14) = expr_Eval.T14 := by kernel_rfl
theorem expr_Eval.bits14 : waitsOk expr_Eval.T14.2 expr_Eval.B14 = true := by kernel_rfl
set_option maxHeartbeats 8000000 in
set_option maxRecDepth 100000 in
theorem expr_Eval.calls (k : Nat) (A0 : Option Addr) (c0 : Nat) (l0 : List (S67)) (A1 : Option Addr) (c1 : Nat) (l1 : List (S54)) (r1 : Int) (r2 : Int) (r3 : ByteArray) (r4 : Int) (w : World) (hr0 : Kd.C k67 w A0 l0.length l0) (hc0 : l0.length ≤ c0) (hr1 : Kd.C k54 w A1 l1.length l1) (hc1 : l1.length ≤ c1) (h : expr_Eval.f k l0 l1 = some (r1, r2, r3, r4)) :
    Calls Try.prog 22 #[.slice A0 l0.length c0, .slice A1 l1.length c1] w fun e w' => e = .returned (.tuple #[.agg #[.int .i64 r1, .int .i64 r2, .string r3], .int .i64 r4]) ∧ Below w.heap.size w w' := by
  have hu23 := Try.underlying23
  have hu67 := Try.underlying67
  have HR0 := Aside0.mk hr0
  have HC0 := Aside0.mk hc0
  clear hr0 hc0
  have HR1 := Aside0.mk hr1
  have HC1 := Aside0.mk hc1
  clear hr1 hc1
  have HB := Aside0.mk (Below.refl w.heap.size w)
  have H : ((expr_Check.f k l0).bind fun t233 => (if t233 = 0 then ((subst_Check.f k l1).bind fun t234 => (expr_Eval.j0 k l0 l1 t234)) else (expr_Eval.j0 k l0 l1 t233))) = some (r1, r2, r3, r4) := h
  clear h
  replace H := Option.bind_eq_some_iff.mp H
  obtain ⟨t233, A30, H⟩ := H
  replace H : (if t233 = 0 then ((subst_Check.f k l1).bind fun t234 => (expr_Eval.j0 k l0 l1 t234)) else (expr_Eval.j0 k l0 l1 t233)) = some (r1, r2, r3, r4) := H
  have A3 := Aside0.mk A30
  clear A30
  have HC4 := Aside0.mk H
  clear H
  go_enter Try.func22, Try.ntmps22
  go_upto_if 15 with (first | ((with_reducible refine gate_dst (N := 4) rfl ?_); refine box_event ?hg (N := 4) ?hd (cs := #[.int .i64 0, .int .i64 0, .string (⟨#[]⟩ : ByteArray)]) (t := 23) ?hr ?_; (case hd => rfl); (case hg => rfl); (case hr => first | (go_simp; done) | (go_simp; rfl)); intro gb232 hg w5 hbox hb; have n0_ := bs_ (be_ HB) hb; have n1_ := Aside0.mk (hbox); have n2_ := gs_ hg (be_ HB); have n3_ := gs_ hg (be_ HB); clear HB; have HB := n0_; have BK232 := n1_; have GW232 := n2_; have GE232 := n3_; clear n0_ n1_ n2_ n3_; clear hb hbox hg) | ((with_reducible refine gate_callee (f := 33) rfl ?_); refine goesL_ (some 13) rfl rfl Try.func33 (by kernel_rfl) rfl #[.slice A0 l0.length c0] rfl ga_ ?_; (with_reducible refine (expr_Check.calls k _ _ l0 t233 _ ?side1 ?side2 A3.out).mono ?_); (case side1 => repeat (first | exact (Kd.C_below HR0.out HB.out) | (with_reducible refine Kd.C_alloc ?_ _) | (with_reducible refine Kd.C_drewN ?_ _) | (with_reducible refine Kd.C_drew ?_))); (case side2 => exact HC0.out); rintro e w6 ⟨rfl, hb⟩; refine ⟨_, rfl, ?_⟩; have n0_ := bb_ (bu_ BK232) hb; have n1_ := bs_ (be_ HB) hb; clear BK232; clear HB; have BK232 := n0_; have HB := n1_; clear n0_ n1_; (try clear hb); (try clear hb2); (try clear hk); (try clear hi)))
  (try simp only [Act.put, List.setIfInBounds_toArray, List.set_cons_zero, List.set_cons_succ])
  go_cut [6] (fun v6 wc => ∃ (kq : Nat) (x6_3 : Int), v6 = .int .i64 x6_3 ∧ Aside0 (expr_Eval.j0 kq l0 l1 x6_3 = some (r1, r2, r3, r4)) ∧ Aside0 (kq ≤ k) ∧ Aside0 (wc.heap[gb232]? = some (.cells #[.int .i64 0, .int .i64 0, .string (⟨#[]⟩ : ByteArray)] 23 (0, 0))) ∧ Aside0 (Below w.heap.size w wc))
  case first =>
    have H := HC4.out
    clear HC4
    by_cases c7 : t233 = 0
    · rw [if_pos c7] at H
      obtain ⟨c7b0, c7b1⟩ := eqB_ c7
      clear c7
      (first | rw [c7b0] | (simp only [i64_w, i32_w]; rw [c7b0]) | skip)
      replace H := Option.bind_eq_some_iff.mp H
      obtain ⟨t234, A80, H⟩ := H
      replace H : (expr_Eval.j0 k l0 l1 t234) = some (r1, r2, r3, r4) := H
      have A8 := Aside0.mk A80
      clear A80
      have H' := Aside0.mk H
      clear H
      go_wp2_with (first | ((with_reducible refine gate_callee (f := 37) rfl ?_); refine goesL_ (some 17) rfl rfl Try.func37 (by kernel_rfl) rfl #[.slice A1 l1.length c1] rfl ga_ ?_; (with_reducible refine (subst_Check.calls k _ _ l1 t234 _ ?side1 ?side2 A8.out).mono ?_); (case side1 => repeat (first | exact (Kd.C_below HR1.out HB.out) | (with_reducible refine Kd.C_alloc ?_ _) | (with_reducible refine Kd.C_drewN ?_ _) | (with_reducible refine Kd.C_drew ?_))); (case side2 => exact HC1.out); rintro e w9 ⟨rfl, hb⟩; refine ⟨_, rfl, ?_⟩; have n0_ := bb_ (bu_ BK232) hb; have n1_ := bs_ (be_ HB) hb; clear BK232; clear HB; have BK232 := n0_; have HB := n1_; clear n0_ n1_; (try clear hb); (try clear hb2); (try clear hk); (try clear hi)))
      go_meet
      case rel => exact ⟨_, (t234), ra_, H', ⟨by first | omega | exact Nat.le_refl _⟩, ⟨by (with_reducible repeat (first | refine blk_drewN ?_ _ | refine blk_drew ?_ | refine blk_alloc ?_ _)); exact BK232.out⟩, ⟨by repeat (first | (with_reducible first | exact HB.out | apply below_alloc | apply pw_below_drewN | apply below_drew1 | refine below_set ?_ GE232.out) | exact HB.out)⟩⟩
    · rw [if_neg c7] at H
      obtain ⟨c7b0, c7b1⟩ := neB_ c7
      (first | rw [c7b0] | (simp only [i64_w, i32_w]; rw [c7b0]) | skip)
      have H' := Aside0.mk H
      clear H
      go_wp2
      go_meet
      case rel => exact ⟨_, (t233), ra_, H', ⟨by first | omega | exact Nat.le_refl _⟩, ⟨by (with_reducible repeat (first | refine blk_drewN ?_ _ | refine blk_drew ?_ | refine blk_alloc ?_ _)); exact BK232.out⟩, ⟨by repeat (first | (with_reducible first | exact HB.out | apply below_alloc | apply pw_below_drewN | apply below_drew1 | refine below_set ?_ GE232.out) | exact HB.out)⟩⟩
  case rest =>
    clear HC4
    try clear c1
    try clear c2
    try clear p2
    try clear c3
    try clear c7
    try clear c7b0
    try clear c7b1
    obtain ⟨kq, x6_3, rfl, HA, HJ3, BK232, HB⟩ := hcut
    cases kq with
    | zero => exact absurd HA.out (by simp [expr_Eval.j0])
    | succ kj3 =>
      have H := HA.out
      clear HA
      simp only [expr_Eval.j0] at H
      by_cases c10 : x6_3 = 0
      · rw [if_pos c10] at H
        obtain ⟨c10b0, c10b1⟩ := eqB_ c10
        clear c10
        have H' := Aside0.mk H
        clear H
        go_wp2
        go_loopg [7, 24] kj3 (fun kq v7 v24 w' => ∃ (x7_2 : List (S23)) (x24_2 : Int) (x233000_2 : Int) (x233001_2 : Int) (x233002_2 : ByteArray), v24 = .int .i64 x24_2 ∧ Aside0 (expr_Eval.l0 kq l1 x7_2 l0 (l0.length : Int) x24_2 = some (r1, r2, r3, r4)) ∧ Aside0 (kq ≤ kj3) ∧ Aside0 (Kd.R k23 23 w' w.heap.size (fun k_ => k_ ≠ gb232) v7 x7_2) ∧ Aside0 (w'.heap[gb232]? = some (.cells #[.int .i64 x233000_2, .int .i64 x233001_2, .string x233002_2] 23 (0, 0))) ∧ Aside0 (Below w.heap.size w w'))
        case atStart => exact ⟨(([] : List (S23))), (0), (0), (0), ((⟨#[]⟩ : ByteArray)), ra_, H', ⟨Nat.le_refl _⟩, ⟨by first | exact Kd.R_nil _ _ _ _ _ | exact Kd.N_nil _ _ _ _ _ | exact Kd.V_nil _ _ _ _ _ | exact Kd.Q_nil _ _ _ _ _ | exact Kd.S_nil _ _ _ _ _⟩, ⟨by (with_reducible repeat (first | refine blk_drewN ?_ _ | refine blk_drew ?_ | refine blk_alloc ?_ _)); exact BK232.out⟩, ⟨by repeat (first | (with_reducible first | exact HB.out | apply below_alloc | apply pw_below_drewN | apply below_drew1 | refine below_set ?_ GE232.out) | exact HB.out)⟩⟩
        case round =>
          clear H'
          try clear c1
          try clear c2
          try clear p2
          try clear c3
          try clear c7
          try clear c7b0
          try clear c7b1
          try clear c10
          try clear c10b0
          try clear c10b1
          try clear p2
          obtain ⟨x7_2, x24_2, x233000_2, x233001_2, x233002_2, rfl, HA, HK2, HO_7, BK232, HB⟩ := hrel
          cases gk with
          | zero => exact absurd HA.out (by simp [expr_Eval.l0])
          | succ k2 =>
            have H := HA.out
            clear HA
            simp only [expr_Eval.l0] at H
            by_cases c11 : x24_2 < (l0.length : Int)
            · rw [if_pos c11] at H
              have c11b0 : decide (x24_2 < (l0.length : Int)) = true := decide_eq_true c11
              clear c11
              by_cases c12 : 0 ≤ x24_2
              · rw [if_pos c12] at H
                have c12b0 : decide (0 ≤ x24_2) = true := decide_eq_true c12
                clear c12
                by_cases c13 : x24_2 < (l0.length : Int)
                · rw [if_pos c13] at H
                  have c13b0 : decide (x24_2 < (l0.length : Int)) = true := decide_eq_true c13
                  clear c13
                  replace H := Option.bind_eq_some_iff.mp H
                  obtain ⟨t239, A140, H⟩ := H
                  replace H : (if t239 = true then ((expr_push.f k2 ((rd_T67 l0 x24_2).f0) ((rd_T67 l0 x24_2).f1) ((rd_T67 l0 x24_2).f2.f0) ((rd_T67 l0 x24_2).f2.f1) ((rd_T67 l0 x24_2).f2.f2) l1).bind fun bt240 => (if bt240.2.2.2 = 0 then (if x7_2.length < 4398046511104 then (expr_Eval.l0 k2 l1 (x7_2 ++ [(⟨bt240.1, bt240.2.1, bt240.2.2.1⟩ : S23)]) l0 (l0.length : Int) (wrap64 (x24_2 + 1))) else (none)) else (some (0, 0, (⟨#[]⟩ : ByteArray), bt240.2.2.2)))) else (if 0 ≤ (wrap64 ((x7_2.length : Int) - 2)) then (if (wrap64 ((x7_2.length : Int) - 2)) < (x7_2.length : Int) then (if 0 ≤ (wrap64 ((wrap64 ((x7_2.length : Int) - 2)) + 1)) then (if (wrap64 ((wrap64 ((x7_2.length : Int) - 2)) + 1)) < (x7_2.length : Int) then ((expr_reckon.f k2 ((rd_T67 l0 x24_2).f0) ((rd_T23 x7_2 (wrap64 ((x7_2.length : Int) - 2))).f0) ((rd_T23 x7_2 (wrap64 ((x7_2.length : Int) - 2))).f1) ((rd_T23 x7_2 (wrap64 ((x7_2.length : Int) - 2))).f2) ((rd_T23 x7_2 (wrap64 ((wrap64 ((x7_2.length : Int) - 2)) + 1))).f0) ((rd_T23 x7_2 (wrap64 ((wrap64 ((x7_2.length : Int) - 2)) + 1))).f1) ((rd_T23 x7_2 (wrap64 ((wrap64 ((x7_2.length : Int) - 2)) + 1))).f2)).bind fun bt249 => (if (wrap64 ((x7_2.length : Int) - 2)) ≤ (x7_2.length : Int) then ((some (x7_2.take ((wrap64 ((x7_2.length : Int) - 2)) : Int).toNat : List (S23))).bind fun y253 => (if bt249.2.2.2 = 0 then (if y253.length < 4398046511104 then (expr_Eval.l0 k2 l1 (y253 ++ [(⟨bt249.1, bt249.2.1, bt249.2.2.1⟩ : S23)]) l0 (l0.length : Int) (wrap64 (x24_2 + 1))) else (none)) else (some (0, 0, (⟨#[]⟩ : ByteArray), bt249.2.2.2)))) else (none))) else (none)) else (none)) else (none)) else (none))) = some (r1, r2, r3, r4) := H
                  have A14 := Aside0.mk A140
                  clear A140
                  by_cases c15 : t239 = true
                  · subst c15
                    have H1 : ((expr_push.f k2 ((rd_T67 l0 x24_2).f0) ((rd_T67 l0 x24_2).f1) ((rd_T67 l0 x24_2).f2.f0) ((rd_T67 l0 x24_2).f2.f1) ((rd_T67 l0 x24_2).f2.f2) l1).bind fun bt240 => (if bt240.2.2.2 = 0 then (if x7_2.length < 4398046511104 then (expr_Eval.l0 k2 l1 (x7_2 ++ [(⟨bt240.1, bt240.2.1, bt240.2.2.1⟩ : S23)]) l0 (l0.length : Int) (wrap64 (x24_2 + 1))) else (none)) else (some (0, 0, (⟨#[]⟩ : ByteArray), bt240.2.2.2)))) = some (r1, r2, r3, r4) := by rw [if_pos rfl] at H; exact H
                    clear H
                    have H := H1
                    clear H1
                    replace H := Option.bind_eq_some_iff.mp H
                    obtain ⟨⟨t240, t241, t242, t243⟩, A160, H⟩ := H
                    replace H : (if t243 = 0 then (if x7_2.length < 4398046511104 then (expr_Eval.l0 k2 l1 (x7_2 ++ [(⟨t240, t241, t242⟩ : S23)]) l0 (l0.length : Int) (wrap64 (x24_2 + 1))) else (none)) else (some (0, 0, (⟨#[]⟩ : ByteArray), t243))) = some (r1, r2, r3, r4) := H
                    have A16 := Aside0.mk A160
                    clear A160
                    by_cases c17 : t243 = 0
                    · rw [if_pos c17] at H
                      obtain ⟨c17b0, c17b1⟩ := eqB_ c17
                      clear c17
                      by_cases c18 : x7_2.length < 4398046511104
                      · rw [if_pos c18] at H
                        have LMc18 := Aside0.mk c18
                        clear c18
                        obtain ⟨y244, hy244⟩ : ∃ y_ : List (S23), y_ = (x7_2 ++ [(⟨t240, t241, t242⟩ : S23)]) := ⟨_, rfl⟩
                        replace H : (expr_Eval.l0 k2 l1 y244 l0 (l0.length : Int) (wrap64 (x24_2 + 1))) = some (r1, r2, r3, r4) := by first | (rw [hy244]; with_reducible exact H) | (have H2_ := (Option.bind_some _ _).symm.trans H; rw [hy244]; with_reducible exact H2_) | (have H2_ := (Option.bind_some _ _).symm.trans H; with_reducible exact H2_) | with_reducible exact H | (rw [hy244]; exact H) | exact H
                        have Ny244 := Aside0.mk hy244
                        clear hy244
                        have H' := Aside0.mk H
                        clear H
                        have p236 : 0 ≤ (x24_2 : Int) := dt_
                        have q236 : x24_2 < (l0.length : Int) := dt_
                        obtain ⟨ad236, e236, hx236_0, hx236_1, hx236_2, hx236_3, hx236_4⟩ := at_T67 HR0.out x24_2 p236 q236
                        cases e236
                        replace hx236_0 := cm_ HB hx236_0
                        replace hx236_1 := cm_ HB hx236_1
                        replace hx236_2 := cm_ HB hx236_2
                        replace hx236_3 := cm_ HB hx236_3
                        replace hx236_4 := cm_ HB hx236_4
                        replace p236 := eq_true p236
                        replace q236 := eq_true q236
                        go_wp2_with (first | ((with_reducible refine gate_dst (N := 9) rfl ?_); refine box_event ?hg (N := 9) ?hd (cs := #[.int .i64 0, .string (⟨#[]⟩ : ByteArray), .int .i64 0, .int .i64 0, .string (⟨#[]⟩ : ByteArray)]) (t := 67) ?hr ?_; (case hd => rfl); (case hg => rfl); (case hr => first | (go_simp; done) | (go_simp; rfl)); intro gb237 hg w19 hbox hb; have n0_ := kb_ (ku_ HO_7.out) hb; have n1_ := bb_ (bu_ BK232) hb; have n2_ := bs_ (be_ HB) hb; have n3_ := Aside0.mk (hbox); have n4_ := gs_ hg (be_ HB); have n5_ := gs_ hg (be_ HB); have n6_ := nl_ hg (bu_ BK232); have n7_ := ng_ hg (bu_ BK232); clear HO_7; clear BK232; clear HB; have HO_7 := n0_; have BK232 := n1_; have HB := n2_; have BK237 := n3_; have GW237 := n4_; have GE237 := n5_; have NB232_237 := n6_; have NB237_232 := n7_; clear n0_ n1_ n2_ n3_ n4_ n5_ n6_ n7_; clear hb hbox hg; have hnb20 := NB237_232.out; have hnc20 := NB232_237.out; have hcz21_0 : w19.cell? ⟨gb237, 0, none⟩ = some (.int .i64 0) := (blk_cell BK237.out 0).trans rfl; have hcz21_1 : w19.cell? ⟨gb237, 1, none⟩ = some (.string (⟨#[]⟩ : ByteArray)) := (blk_cell BK237.out 1).trans rfl; have hcz21_2 : w19.cell? ⟨gb237, 2, none⟩ = some (.int .i64 0) := (blk_cell BK237.out 2).trans rfl; have hcz21_3 : w19.cell? ⟨gb237, 3, none⟩ = some (.int .i64 0) := (blk_cell BK237.out 3).trans rfl; have hcz21_4 : w19.cell? ⟨gb237, 4, none⟩ = some (.string (⟨#[]⟩ : ByteArray)) := (blk_cell BK237.out 4).trans rfl; have hfz21_0 := blk_frozen BK237.out 0; have hfz21_1 := blk_frozen BK237.out 1; have hfz21_2 := blk_frozen BK237.out 2; have hfz21_3 := blk_frozen BK237.out 3; have hfz21_4 := blk_frozen BK237.out 4) | ((with_reducible refine gate_dst (N := 10) rfl ?_); refine box_event ?hg (N := 10) ?hd (cs := #[.int .i64 0, .int .i64 0, .string (⟨#[]⟩ : ByteArray)]) (t := 23) ?hr ?_; (case hd => rfl); (case hg => rfl); (case hr => first | (go_simp; done) | (go_simp; rfl)); intro gb238 hg w22 hbox hb; have n0_ := Aside0.mk (Kd.R_below (Kd.R_elderB (ku_ (Kd.R_mono (Kd.R_far (p := ⟨gb237, 4, none⟩) (Kd.R_far (p := ⟨gb237, 3, none⟩) (Kd.R_far (p := ⟨gb237, 2, none⟩) (Kd.R_far (p := ⟨gb237, 1, none⟩) (Kd.R_far (p := ⟨gb237, 0, none⟩) (Kd.R_types HO_7.out BK237.out (by decide)) (fun _ hk => hk.2) (.int .i64 ((rd_T67 l0 x24_2).f0))) (fun _ hk => hk.2) (.string ((rd_T67 l0 x24_2).f1))) (fun _ hk => hk.2) (.int .i64 ((rd_T67 l0 x24_2).f2.f0))) (fun _ hk => hk.2) (.int .i64 ((rd_T67 l0 x24_2).f2.f1))) (fun _ hk => hk.2) (.string ((rd_T67 l0 x24_2).f2.f2))) (fun _ h_ => h_.1))) gb238 (Nat.le_of_eq hg.symm)) hb); have n1_ := bb_ (bu_ BK232) hb; have n2_ := Aside0.mk (blk_below (o := .cells #[.int .i64 ((rd_T67 l0 x24_2).f0), .string ((rd_T67 l0 x24_2).f1), .int .i64 ((rd_T67 l0 x24_2).f2.f0), .int .i64 ((rd_T67 l0 x24_2).f2.f1), .string ((rd_T67 l0 x24_2).f2.f2)] 67 (0, 0)) (bp_ BK237) hb); have n3_ := bs_ (be_ HB) hb; have n4_ := Aside0.mk (hbox); have n5_ := gs_ hg (be_ HB); have n6_ := gs_ hg (be_ HB); have n7_ := nl_ hg (bu_ BK232); have n8_ := ng_ hg (bu_ BK232); have n9_ := Aside0.mk ((by rw [hg]; exact Nat.ne_of_lt (blk_lt (o := .cells #[.int .i64 ((rd_T67 l0 x24_2).f0), .string ((rd_T67 l0 x24_2).f1), .int .i64 ((rd_T67 l0 x24_2).f2.f0), .int .i64 ((rd_T67 l0 x24_2).f2.f1), .string ((rd_T67 l0 x24_2).f2.f2)] 67 (0, 0)) (bp_ BK237)) : gb237 ≠ gb238)); have n10_ := Aside0.mk ((by rw [hg]; exact Nat.ne_of_gt (blk_lt (o := .cells #[.int .i64 ((rd_T67 l0 x24_2).f0), .string ((rd_T67 l0 x24_2).f1), .int .i64 ((rd_T67 l0 x24_2).f2.f0), .int .i64 ((rd_T67 l0 x24_2).f2.f1), .string ((rd_T67 l0 x24_2).f2.f2)] 67 (0, 0)) (bp_ BK237)) : gb238 ≠ gb237)); clear HO_7; clear BK232; clear BK237; clear HB; have HO_7 := n0_; have BK232 := n1_; have BK237 := n2_; have HB := n3_; have BK238 := n4_; have GW238 := n5_; have GE238 := n6_; have NB232_238 := n7_; have NB238_232 := n8_; have NB237_238 := n9_; have NB238_237 := n10_; clear n0_ n1_ n2_ n3_ n4_ n5_ n6_ n7_ n8_ n9_ n10_; (try clear hcz21_0 hcz21_1 hcz21_2 hcz21_3 hcz21_4 hfz21_0 hfz21_1 hfz21_2 hfz21_3 hfz21_4); clear hb hbox hg; have hnb23 := NB237_238.out; have hnc23 := NB238_237.out; have hcz24_0 : w22.cell? ⟨gb237, 0, none⟩ = some (.int .i64 ((rd_T67 l0 x24_2).f0)) := (blk_cell BK237.out 0).trans rfl; have hcz24_1 : w22.cell? ⟨gb237, 1, none⟩ = some (.string ((rd_T67 l0 x24_2).f1)) := (blk_cell BK237.out 1).trans rfl; have hcz24_2 : w22.cell? ⟨gb237, 2, none⟩ = some (.int .i64 ((rd_T67 l0 x24_2).f2.f0)) := (blk_cell BK237.out 2).trans rfl; have hcz24_3 : w22.cell? ⟨gb237, 3, none⟩ = some (.int .i64 ((rd_T67 l0 x24_2).f2.f1)) := (blk_cell BK237.out 3).trans rfl; have hcz24_4 : w22.cell? ⟨gb237, 4, none⟩ = some (.string ((rd_T67 l0 x24_2).f2.f2)) := (blk_cell BK237.out 4).trans rfl; have hfz24_0 := blk_frozen BK237.out 0; have hfz24_1 := blk_frozen BK237.out 1; have hfz24_2 := blk_frozen BK237.out 2; have hfz24_3 := blk_frozen BK237.out 3; have hfz24_4 := blk_frozen BK237.out 4) | ((with_reducible refine gate_callee (f := 38) rfl ?_); refine goesL_ (some 30) rfl rfl Try.func38 (by kernel_rfl) rfl #[.int .i64 ((rd_T67 l0 x24_2).f0)] rfl ga_ ?_; (with_reducible refine (expr_pushes.calls ((rd_T67 l0 x24_2).f0) true _ A14.out).mono ?_); rintro e w' ⟨rfl, ⟨nd, rfl⟩⟩; refine ⟨_, rfl, ?_⟩; (try (rw [drewN_self w22]; generalize hq_ : World.drewN w22 _ = w22; have n0_ : Aside0 (Kd.R k23 23 w22 w.heap.size (fun k_ => k_ ≠ gb232 ∧ k_ ≠ gb238) u7 x7_2) := ⟨by rw [← hq_]; exact (ku_ HO_7.out)⟩; have n1_ : Aside0 (w22.heap[gb232]? = some (.cells #[.int .i64 x233000_2, .int .i64 x233001_2, .string x233002_2] 23 (0, 0))) := ⟨by rw [← hq_]; exact (bu_ BK232)⟩; have n2_ : Aside0 (w22.heap[gb237]? = some (.cells #[.int .i64 ((rd_T67 l0 x24_2).f0), .string ((rd_T67 l0 x24_2).f1), .int .i64 ((rd_T67 l0 x24_2).f2.f0), .int .i64 ((rd_T67 l0 x24_2).f2.f1), .string ((rd_T67 l0 x24_2).f2.f2)] 67 (0, 0))) := ⟨by rw [← hq_]; exact (bu_ BK237)⟩; have n3_ : Aside0 (w22.heap[gb238]? = some (.cells #[.int .i64 0, .int .i64 0, .string (⟨#[]⟩ : ByteArray)] 23 (0, 0))) := ⟨by rw [← hq_]; exact (bu_ BK238)⟩; have n4_ : Aside0 (Below w.heap.size w w22) := ⟨by rw [← hq_]; exact (be_ HB)⟩; clear HO_7 BK232 BK237 BK238 HB hq_; have HO_7 := n0_; have BK232 := n1_; have BK237 := n2_; have BK238 := n3_; have HB := n4_; clear n0_ n1_ n2_ n3_ n4_)); (try clear hcz24_0 hcz24_1 hcz24_2 hcz24_3 hcz24_4 hfz24_0 hfz24_1 hfz24_2 hfz24_3 hfz24_4); have hcz25_0 : w22.cell? ⟨gb237, 0, none⟩ = some (.int .i64 ((rd_T67 l0 x24_2).f0)) := (blk_cell BK237.out 0).trans rfl; have hcz25_1 : w22.cell? ⟨gb237, 1, none⟩ = some (.string ((rd_T67 l0 x24_2).f1)) := (blk_cell BK237.out 1).trans rfl; have hcz25_2 : w22.cell? ⟨gb237, 2, none⟩ = some (.int .i64 ((rd_T67 l0 x24_2).f2.f0)) := (blk_cell BK237.out 2).trans rfl; have hcz25_3 : w22.cell? ⟨gb237, 3, none⟩ = some (.int .i64 ((rd_T67 l0 x24_2).f2.f1)) := (blk_cell BK237.out 3).trans rfl; have hcz25_4 : w22.cell? ⟨gb237, 4, none⟩ = some (.string ((rd_T67 l0 x24_2).f2.f2)) := (blk_cell BK237.out 4).trans rfl; have hfz25_0 := blk_frozen BK237.out 0; have hfz25_1 := blk_frozen BK237.out 1; have hfz25_2 := blk_frozen BK237.out 2; have hfz25_3 := blk_frozen BK237.out 3; have hfz25_4 := blk_frozen BK237.out 4) | ((with_reducible refine gate_callee (f := 39) rfl ?_); refine goesL_ (some 34) rfl rfl Try.func39 (by kernel_rfl) rfl #[.agg #[.int .i64 ((rd_T67 l0 x24_2).f0), .string ((rd_T67 l0 x24_2).f1), .int .i64 ((rd_T67 l0 x24_2).f2.f0), .int .i64 ((rd_T67 l0 x24_2).f2.f1), .string ((rd_T67 l0 x24_2).f2.f2)], .slice A1 l1.length c1] rfl ga_ ?_; (with_reducible refine (expr_push.calls k2 ((rd_T67 l0 x24_2).f0) ((rd_T67 l0 x24_2).f1) ((rd_T67 l0 x24_2).f2.f0) ((rd_T67 l0 x24_2).f2.f1) ((rd_T67 l0 x24_2).f2.f2) _ _ l1 t240 t241 t242 t243 _ ?side1 ?side2 A16.out).mono ?_); (case side1 => repeat (first | exact (Kd.C_below HR1.out HB.out) | (with_reducible refine Kd.C_alloc ?_ _) | (with_reducible refine Kd.C_drewN ?_ _) | (with_reducible refine Kd.C_drew ?_))); (case side2 => exact HC1.out); rintro e w26 ⟨rfl, hb⟩; refine ⟨_, rfl, ?_⟩; have n0_ := kb_ (ku_ HO_7.out) hb; have n1_ := bb_ (bu_ BK232) hb; have n2_ := bb_ (bu_ BK237) hb; have n3_ := bb_ (bu_ BK238) hb; have n4_ := bs_ (be_ HB) hb; clear HO_7; clear BK232; clear BK237; clear BK238; clear HB; have HO_7 := n0_; have BK232 := n1_; have BK237 := n2_; have BK238 := n3_; have HB := n4_; clear n0_ n1_ n2_ n3_ n4_; (try clear hcz25_0 hcz25_1 hcz25_2 hcz25_3 hcz25_4 hfz25_0 hfz25_1 hfz25_2 hfz25_3 hfz25_4); (try clear hb); (try clear hb2); (try clear hk); (try clear hi); have hnb27 := NB238_232.out; have hnc27 := NB232_238.out; have hcz28_0 : w26.cell? ⟨gb238, 0, none⟩ = some (.int .i64 0) := (blk_cell BK238.out 0).trans rfl; have hcz28_1 : w26.cell? ⟨gb238, 1, none⟩ = some (.int .i64 0) := (blk_cell BK238.out 1).trans rfl; have hcz28_2 : w26.cell? ⟨gb238, 2, none⟩ = some (.string (⟨#[]⟩ : ByteArray)) := (blk_cell BK238.out 2).trans rfl; have hfz28_0 := blk_frozen BK238.out 0; have hfz28_1 := blk_frozen BK238.out 1; have hfz28_2 := blk_frozen BK238.out 2) | ((with_reducible refine gate_builtin (b := .append) (xs := #[.tmp 62, .tmp 64]) rfl ?_); at_builtin; refine Kd.R_append k23 (w0 := w) w.heap.size rfl (.tmp 62) (.tmp 64) 69 23 (.agg #[(.int .i64 0), (.int .i64 0), (.string ⟨#[]⟩)]) 32 rfl Try.underlying69 info23 rfl (by decide) (by omega) u7 x7_2 (⟨t240, t241, t242⟩ : S23) [.int .i64 t240, .int .i64 t241, .string t242] (fun k_ => k_ ≠ gb232 ∧ k_ ≠ gb238) (fun _ => False) rfl (by first | (go_simp; done) | (go_simp; rfl)) ?aP (fun _ hk => hk.elim) ?aF ?aO ?aB ?aS ?aL ?_; (case aP => exact k23_mkM _ _ _ (⟨t240, t241, t242⟩ : S23)); (case aB => exact (be_ HB)); (case aF => exact (fun k_ hk => ⟨Kd.freshB (bu_ BK232) k_ hk, Kd.freshB (o := .cells #[.int .i64 t240, .int .i64 t241, .string t242] 23 (0, 0)) (bp_ BK238) k_ hk⟩)); (case aO => exact (by (with_reducible repeat (first | apply Kd.R_alloc | apply Kd.R_drewN | apply Kd.R_drew)); exact Kd.R_mono (Kd.R_far (p := ⟨gb238, 2, none⟩) (Kd.R_far (p := ⟨gb238, 1, none⟩) (Kd.R_far (p := ⟨gb238, 0, none⟩) (Kd.R_mono HO_7.out (fun k_ hk => (⟨hk, hk.2⟩ : _ ∧ k_ ≠ gb238))) (fun _ hk => hk.2) (.int .i64 t240)) (fun _ hk => hk.2) (.int .i64 t241)) (fun _ hk => hk.2) (.string t242)) (fun _ hk => ⟨hk.1.1, hk.1.2⟩))); (case aS => exact (below_size (be_ HB))); (case aL => have := LMc18.out; omega); intro v245 w29 ho hb hg hat; rw [← Ny244.out] at ho; have n0_ := Aside0.mk (blk_grown (bu_ BK232) hg (Kd.R_away HO_7.out (fun _ hk => hk.1))); have n1_ := Aside0.mk (blk_grown (bu_ BK237) hg (Kd.R_ne HO_7.out BK237.out (by decide))); have n2_ := Aside0.mk (blk_grown (o := .cells #[.int .i64 t240, .int .i64 t241, .string t242] 23 (0, 0)) (bp_ BK238) hg (Kd.R_away HO_7.out (fun _ hk => hk.2))); have n3_ := Aside0.mk (hb); have n4_ := Aside0.mk (ho); clear BK232; clear BK237; clear BK238; clear HB; clear HO_7; have BK232 := n0_; have BK237 := n1_; have BK238 := n2_; have HB := n3_; have HO246 := n4_; clear n0_ n1_ n2_ n3_ n4_; (try clear hcz28_0 hcz28_1 hcz28_2 hfz28_0 hfz28_1 hfz28_2); clear ho hb hg hat))
                        go_roundg k2
                        case measure => have := HJ3.out; have := HK2.out; omega
                        case rel => exact ⟨(y244), (wrap64 (x24_2 + 1)), (x233000_2), (x233001_2), (x233002_2), ra_, H', ⟨by have := HJ3.out; have := HK2.out; omega⟩, ⟨by (with_reducible repeat (first | apply Kd.R_alloc | apply Kd.R_drewN | apply Kd.R_drew)); exact Kd.R_mono HO246.out (fun _ hk => hk.1)⟩, ⟨by (with_reducible repeat (first | refine blk_drewN ?_ _ | refine blk_drew ?_ | refine blk_alloc ?_ _)); exact BK232.out⟩, ⟨by repeat (first | (with_reducible first | exact HB.out | apply below_alloc | apply pw_below_drewN | apply below_drew1 | refine below_set ?_ GE232.out | refine below_set ?_ GE237.out | refine below_set ?_ GE238.out) | exact HB.out)⟩⟩
                      · rw [if_neg c18] at H
                        exact absurd H (by simp)
                    · rw [if_neg c17] at H
                      obtain ⟨c17b0, c17b1⟩ := neB_ c17
                      simp only [Option.some.injEq, Prod.mk.injEq] at H
                      obtain ⟨rfl, rfl, rfl, rfl⟩ := H
                      have p236 : 0 ≤ (x24_2 : Int) := dt_
                      have q236 : x24_2 < (l0.length : Int) := dt_
                      obtain ⟨ad236, e236, hx236_0, hx236_1, hx236_2, hx236_3, hx236_4⟩ := at_T67 HR0.out x24_2 p236 q236
                      cases e236
                      replace hx236_0 := cm_ HB hx236_0
                      replace hx236_1 := cm_ HB hx236_1
                      replace hx236_2 := cm_ HB hx236_2
                      replace hx236_3 := cm_ HB hx236_3
                      replace hx236_4 := cm_ HB hx236_4
                      replace p236 := eq_true p236
                      replace q236 := eq_true q236
                      go_wp2_with (first | ((with_reducible refine gate_dst (N := 9) rfl ?_); refine box_event ?hg (N := 9) ?hd (cs := #[.int .i64 0, .string (⟨#[]⟩ : ByteArray), .int .i64 0, .int .i64 0, .string (⟨#[]⟩ : ByteArray)]) (t := 67) ?hr ?_; (case hd => rfl); (case hg => rfl); (case hr => first | (go_simp; done) | (go_simp; rfl)); intro gb237 hg w30 hbox hb; have n0_ := kb_ (ku_ HO_7.out) hb; have n1_ := bb_ (bu_ BK232) hb; have n2_ := bs_ (be_ HB) hb; have n3_ := Aside0.mk (hbox); have n4_ := gs_ hg (be_ HB); have n5_ := gs_ hg (be_ HB); have n6_ := nl_ hg (bu_ BK232); have n7_ := ng_ hg (bu_ BK232); clear HO_7; clear BK232; clear HB; have HO_7 := n0_; have BK232 := n1_; have HB := n2_; have BK237 := n3_; have GW237 := n4_; have GE237 := n5_; have NB232_237 := n6_; have NB237_232 := n7_; clear n0_ n1_ n2_ n3_ n4_ n5_ n6_ n7_; clear hb hbox hg; have hnb31 := NB237_232.out; have hnc31 := NB232_237.out; have hcz32_0 : w30.cell? ⟨gb237, 0, none⟩ = some (.int .i64 0) := (blk_cell BK237.out 0).trans rfl; have hcz32_1 : w30.cell? ⟨gb237, 1, none⟩ = some (.string (⟨#[]⟩ : ByteArray)) := (blk_cell BK237.out 1).trans rfl; have hcz32_2 : w30.cell? ⟨gb237, 2, none⟩ = some (.int .i64 0) := (blk_cell BK237.out 2).trans rfl; have hcz32_3 : w30.cell? ⟨gb237, 3, none⟩ = some (.int .i64 0) := (blk_cell BK237.out 3).trans rfl; have hcz32_4 : w30.cell? ⟨gb237, 4, none⟩ = some (.string (⟨#[]⟩ : ByteArray)) := (blk_cell BK237.out 4).trans rfl; have hfz32_0 := blk_frozen BK237.out 0; have hfz32_1 := blk_frozen BK237.out 1; have hfz32_2 := blk_frozen BK237.out 2; have hfz32_3 := blk_frozen BK237.out 3; have hfz32_4 := blk_frozen BK237.out 4) | ((with_reducible refine gate_dst (N := 10) rfl ?_); refine box_event ?hg (N := 10) ?hd (cs := #[.int .i64 0, .int .i64 0, .string (⟨#[]⟩ : ByteArray)]) (t := 23) ?hr ?_; (case hd => rfl); (case hg => rfl); (case hr => first | (go_simp; done) | (go_simp; rfl)); intro gb238 hg w33 hbox hb; have n0_ := Aside0.mk (Kd.R_below (Kd.R_elderB (ku_ (Kd.R_mono (Kd.R_far (p := ⟨gb237, 4, none⟩) (Kd.R_far (p := ⟨gb237, 3, none⟩) (Kd.R_far (p := ⟨gb237, 2, none⟩) (Kd.R_far (p := ⟨gb237, 1, none⟩) (Kd.R_far (p := ⟨gb237, 0, none⟩) (Kd.R_types HO_7.out BK237.out (by decide)) (fun _ hk => hk.2) (.int .i64 ((rd_T67 l0 x24_2).f0))) (fun _ hk => hk.2) (.string ((rd_T67 l0 x24_2).f1))) (fun _ hk => hk.2) (.int .i64 ((rd_T67 l0 x24_2).f2.f0))) (fun _ hk => hk.2) (.int .i64 ((rd_T67 l0 x24_2).f2.f1))) (fun _ hk => hk.2) (.string ((rd_T67 l0 x24_2).f2.f2))) (fun _ h_ => h_.1))) gb238 (Nat.le_of_eq hg.symm)) hb); have n1_ := bb_ (bu_ BK232) hb; have n2_ := Aside0.mk (blk_below (o := .cells #[.int .i64 ((rd_T67 l0 x24_2).f0), .string ((rd_T67 l0 x24_2).f1), .int .i64 ((rd_T67 l0 x24_2).f2.f0), .int .i64 ((rd_T67 l0 x24_2).f2.f1), .string ((rd_T67 l0 x24_2).f2.f2)] 67 (0, 0)) (bp_ BK237) hb); have n3_ := bs_ (be_ HB) hb; have n4_ := Aside0.mk (hbox); have n5_ := gs_ hg (be_ HB); have n6_ := gs_ hg (be_ HB); have n7_ := nl_ hg (bu_ BK232); have n8_ := ng_ hg (bu_ BK232); have n9_ := Aside0.mk ((by rw [hg]; exact Nat.ne_of_lt (blk_lt (o := .cells #[.int .i64 ((rd_T67 l0 x24_2).f0), .string ((rd_T67 l0 x24_2).f1), .int .i64 ((rd_T67 l0 x24_2).f2.f0), .int .i64 ((rd_T67 l0 x24_2).f2.f1), .string ((rd_T67 l0 x24_2).f2.f2)] 67 (0, 0)) (bp_ BK237)) : gb237 ≠ gb238)); have n10_ := Aside0.mk ((by rw [hg]; exact Nat.ne_of_gt (blk_lt (o := .cells #[.int .i64 ((rd_T67 l0 x24_2).f0), .string ((rd_T67 l0 x24_2).f1), .int .i64 ((rd_T67 l0 x24_2).f2.f0), .int .i64 ((rd_T67 l0 x24_2).f2.f1), .string ((rd_T67 l0 x24_2).f2.f2)] 67 (0, 0)) (bp_ BK237)) : gb238 ≠ gb237)); clear HO_7; clear BK232; clear BK237; clear HB; have HO_7 := n0_; have BK232 := n1_; have BK237 := n2_; have HB := n3_; have BK238 := n4_; have GW238 := n5_; have GE238 := n6_; have NB232_238 := n7_; have NB238_232 := n8_; have NB237_238 := n9_; have NB238_237 := n10_; clear n0_ n1_ n2_ n3_ n4_ n5_ n6_ n7_ n8_ n9_ n10_; (try clear hcz32_0 hcz32_1 hcz32_2 hcz32_3 hcz32_4 hfz32_0 hfz32_1 hfz32_2 hfz32_3 hfz32_4); clear hb hbox hg; have hnb34 := NB237_238.out; have hnc34 := NB238_237.out; have hcz35_0 : w33.cell? ⟨gb237, 0, none⟩ = some (.int .i64 ((rd_T67 l0 x24_2).f0)) := (blk_cell BK237.out 0).trans rfl; have hcz35_1 : w33.cell? ⟨gb237, 1, none⟩ = some (.string ((rd_T67 l0 x24_2).f1)) := (blk_cell BK237.out 1).trans rfl; have hcz35_2 : w33.cell? ⟨gb237, 2, none⟩ = some (.int .i64 ((rd_T67 l0 x24_2).f2.f0)) := (blk_cell BK237.out 2).trans rfl; have hcz35_3 : w33.cell? ⟨gb237, 3, none⟩ = some (.int .i64 ((rd_T67 l0 x24_2).f2.f1)) := (blk_cell BK237.out 3).trans rfl; have hcz35_4 : w33.cell? ⟨gb237, 4, none⟩ = some (.string ((rd_T67 l0 x24_2).f2.f2)) := (blk_cell BK237.out 4).trans rfl; have hfz35_0 := blk_frozen BK237.out 0; have hfz35_1 := blk_frozen BK237.out 1; have hfz35_2 := blk_frozen BK237.out 2; have hfz35_3 := blk_frozen BK237.out 3; have hfz35_4 := blk_frozen BK237.out 4) | ((with_reducible refine gate_callee (f := 38) rfl ?_); refine goesL_ (some 30) rfl rfl Try.func38 (by kernel_rfl) rfl #[.int .i64 ((rd_T67 l0 x24_2).f0)] rfl ga_ ?_; (with_reducible refine (expr_pushes.calls ((rd_T67 l0 x24_2).f0) true _ A14.out).mono ?_); rintro e w' ⟨rfl, ⟨nd, rfl⟩⟩; refine ⟨_, rfl, ?_⟩; (try (rw [drewN_self w33]; generalize hq_ : World.drewN w33 _ = w33; have n0_ : Aside0 (Kd.R k23 23 w33 w.heap.size (fun k_ => k_ ≠ gb232 ∧ k_ ≠ gb238) u7 x7_2) := ⟨by rw [← hq_]; exact (ku_ HO_7.out)⟩; have n1_ : Aside0 (w33.heap[gb232]? = some (.cells #[.int .i64 x233000_2, .int .i64 x233001_2, .string x233002_2] 23 (0, 0))) := ⟨by rw [← hq_]; exact (bu_ BK232)⟩; have n2_ : Aside0 (w33.heap[gb237]? = some (.cells #[.int .i64 ((rd_T67 l0 x24_2).f0), .string ((rd_T67 l0 x24_2).f1), .int .i64 ((rd_T67 l0 x24_2).f2.f0), .int .i64 ((rd_T67 l0 x24_2).f2.f1), .string ((rd_T67 l0 x24_2).f2.f2)] 67 (0, 0))) := ⟨by rw [← hq_]; exact (bu_ BK237)⟩; have n3_ : Aside0 (w33.heap[gb238]? = some (.cells #[.int .i64 0, .int .i64 0, .string (⟨#[]⟩ : ByteArray)] 23 (0, 0))) := ⟨by rw [← hq_]; exact (bu_ BK238)⟩; have n4_ : Aside0 (Below w.heap.size w w33) := ⟨by rw [← hq_]; exact (be_ HB)⟩; clear HO_7 BK232 BK237 BK238 HB hq_; have HO_7 := n0_; have BK232 := n1_; have BK237 := n2_; have BK238 := n3_; have HB := n4_; clear n0_ n1_ n2_ n3_ n4_)); (try clear hcz35_0 hcz35_1 hcz35_2 hcz35_3 hcz35_4 hfz35_0 hfz35_1 hfz35_2 hfz35_3 hfz35_4); have hcz36_0 : w33.cell? ⟨gb237, 0, none⟩ = some (.int .i64 ((rd_T67 l0 x24_2).f0)) := (blk_cell BK237.out 0).trans rfl; have hcz36_1 : w33.cell? ⟨gb237, 1, none⟩ = some (.string ((rd_T67 l0 x24_2).f1)) := (blk_cell BK237.out 1).trans rfl; have hcz36_2 : w33.cell? ⟨gb237, 2, none⟩ = some (.int .i64 ((rd_T67 l0 x24_2).f2.f0)) := (blk_cell BK237.out 2).trans rfl; have hcz36_3 : w33.cell? ⟨gb237, 3, none⟩ = some (.int .i64 ((rd_T67 l0 x24_2).f2.f1)) := (blk_cell BK237.out 3).trans rfl; have hcz36_4 : w33.cell? ⟨gb237, 4, none⟩ = some (.string ((rd_T67 l0 x24_2).f2.f2)) := (blk_cell BK237.out 4).trans rfl; have hfz36_0 := blk_frozen BK237.out 0; have hfz36_1 := blk_frozen BK237.out 1; have hfz36_2 := blk_frozen BK237.out 2; have hfz36_3 := blk_frozen BK237.out 3; have hfz36_4 := blk_frozen BK237.out 4) | ((with_reducible refine gate_callee (f := 39) rfl ?_); refine goesL_ (some 34) rfl rfl Try.func39 (by kernel_rfl) rfl #[.agg #[.int .i64 ((rd_T67 l0 x24_2).f0), .string ((rd_T67 l0 x24_2).f1), .int .i64 ((rd_T67 l0 x24_2).f2.f0), .int .i64 ((rd_T67 l0 x24_2).f2.f1), .string ((rd_T67 l0 x24_2).f2.f2)], .slice A1 l1.length c1] rfl ga_ ?_; (with_reducible refine (expr_push.calls k2 ((rd_T67 l0 x24_2).f0) ((rd_T67 l0 x24_2).f1) ((rd_T67 l0 x24_2).f2.f0) ((rd_T67 l0 x24_2).f2.f1) ((rd_T67 l0 x24_2).f2.f2) _ _ l1 t240 t241 t242 t243 _ ?side1 ?side2 A16.out).mono ?_); (case side1 => repeat (first | exact (Kd.C_below HR1.out HB.out) | (with_reducible refine Kd.C_alloc ?_ _) | (with_reducible refine Kd.C_drewN ?_ _) | (with_reducible refine Kd.C_drew ?_))); (case side2 => exact HC1.out); rintro e w37 ⟨rfl, hb⟩; refine ⟨_, rfl, ?_⟩; have n0_ := kb_ (ku_ HO_7.out) hb; have n1_ := bb_ (bu_ BK232) hb; have n2_ := bb_ (bu_ BK237) hb; have n3_ := bb_ (bu_ BK238) hb; have n4_ := bs_ (be_ HB) hb; clear HO_7; clear BK232; clear BK237; clear BK238; clear HB; have HO_7 := n0_; have BK232 := n1_; have BK237 := n2_; have BK238 := n3_; have HB := n4_; clear n0_ n1_ n2_ n3_ n4_; (try clear hcz36_0 hcz36_1 hcz36_2 hcz36_3 hcz36_4 hfz36_0 hfz36_1 hfz36_2 hfz36_3 hfz36_4); (try clear hb); (try clear hb2); (try clear hk); (try clear hi); have hnb38 := NB238_232.out; have hnc38 := NB232_238.out; have hcz39_0 : w37.cell? ⟨gb238, 0, none⟩ = some (.int .i64 0) := (blk_cell BK238.out 0).trans rfl; have hcz39_1 : w37.cell? ⟨gb238, 1, none⟩ = some (.int .i64 0) := (blk_cell BK238.out 1).trans rfl; have hcz39_2 : w37.cell? ⟨gb238, 2, none⟩ = some (.string (⟨#[]⟩ : ByteArray)) := (blk_cell BK238.out 2).trans rfl; have hfz39_0 := blk_frozen BK238.out 0; have hfz39_1 := blk_frozen BK238.out 1; have hfz39_2 := blk_frozen BK238.out 2; have hcz40_0 : w37.cell? ⟨gb232, 0, none⟩ = some (.int .i64 x233000_2) := (blk_cell BK232.out 0).trans rfl; have hcz40_1 : w37.cell? ⟨gb232, 1, none⟩ = some (.int .i64 x233001_2) := (blk_cell BK232.out 1).trans rfl; have hcz40_2 : w37.cell? ⟨gb232, 2, none⟩ = some (.string x233002_2) := (blk_cell BK232.out 2).trans rfl; have hfz40_0 := blk_frozen BK232.out 0; have hfz40_1 := blk_frozen BK232.out 1; have hfz40_2 := blk_frozen BK232.out 2))
                      refine bodyPost_ret (results_ct rfl _ _ gb232 23 #[.int .i64 0, .int .i64 0, .string (⟨#[]⟩ : ByteArray)] (0, 0) _ rfl (bp_ BK232) Try.underlying23 rfl (by kernel_rfl)) rfl ?_
                      exact ⟨by first | rfl | (simp [errW_none, errW_some] <;> rfl) | (simp [*, errW_none, errW_some] <;> rfl), by repeat (first | (with_reducible first | exact HB.out | apply below_alloc | apply pw_below_drewN | apply below_drew1 | refine below_set ?_ GE232.out | refine below_set ?_ GE237.out | refine below_set ?_ GE238.out) | exact HB.out)⟩
                  · replace c15 := Bool.eq_false_iff.mpr c15
                    subst c15
                    have H1 : (if 0 ≤ (wrap64 ((x7_2.length : Int) - 2)) then (if (wrap64 ((x7_2.length : Int) - 2)) < (x7_2.length : Int) then (if 0 ≤ (wrap64 ((wrap64 ((x7_2.length : Int) - 2)) + 1)) then (if (wrap64 ((wrap64 ((x7_2.length : Int) - 2)) + 1)) < (x7_2.length : Int) then ((expr_reckon.f k2 ((rd_T67 l0 x24_2).f0) ((rd_T23 x7_2 (wrap64 ((x7_2.length : Int) - 2))).f0) ((rd_T23 x7_2 (wrap64 ((x7_2.length : Int) - 2))).f1) ((rd_T23 x7_2 (wrap64 ((x7_2.length : Int) - 2))).f2) ((rd_T23 x7_2 (wrap64 ((wrap64 ((x7_2.length : Int) - 2)) + 1))).f0) ((rd_T23 x7_2 (wrap64 ((wrap64 ((x7_2.length : Int) - 2)) + 1))).f1) ((rd_T23 x7_2 (wrap64 ((wrap64 ((x7_2.length : Int) - 2)) + 1))).f2)).bind fun bt249 => (if (wrap64 ((x7_2.length : Int) - 2)) ≤ (x7_2.length : Int) then ((some (x7_2.take ((wrap64 ((x7_2.length : Int) - 2)) : Int).toNat : List (S23))).bind fun y253 => (if bt249.2.2.2 = 0 then (if y253.length < 4398046511104 then (expr_Eval.l0 k2 l1 (y253 ++ [(⟨bt249.1, bt249.2.1, bt249.2.2.1⟩ : S23)]) l0 (l0.length : Int) (wrap64 (x24_2 + 1))) else (none)) else (some (0, 0, (⟨#[]⟩ : ByteArray), bt249.2.2.2)))) else (none))) else (none)) else (none)) else (none)) else (none)) = some (r1, r2, r3, r4) := by rw [if_neg (show ¬ (false = true) by decide)] at H; exact H
                    clear H
                    have H := H1
                    clear H1
                    obtain ⟨ji41, hji41⟩ : ∃ j_ : Int, (wrap64 ((x7_2.length : Int) - 2)) = j_ := ⟨_, rfl⟩
                    replace H : (if 0 ≤ (ji41) then (if (ji41) < (x7_2.length : Int) then (if 0 ≤ (wrap64 ((ji41) + 1)) then (if (wrap64 ((ji41) + 1)) < (x7_2.length : Int) then ((expr_reckon.f k2 ((rd_T67 l0 x24_2).f0) ((rd_T23 x7_2 (ji41)).f0) ((rd_T23 x7_2 (ji41)).f1) ((rd_T23 x7_2 (ji41)).f2) ((rd_T23 x7_2 (wrap64 ((ji41) + 1))).f0) ((rd_T23 x7_2 (wrap64 ((ji41) + 1))).f1) ((rd_T23 x7_2 (wrap64 ((ji41) + 1))).f2)).bind fun bt249 => (if (ji41) ≤ (x7_2.length : Int) then ((some (x7_2.take ((ji41) : Int).toNat : List (S23))).bind fun y253 => (if bt249.2.2.2 = 0 then (if y253.length < 4398046511104 then (expr_Eval.l0 k2 l1 (y253 ++ [(⟨bt249.1, bt249.2.1, bt249.2.2.1⟩ : S23)]) l0 (l0.length : Int) (wrap64 (x24_2 + 1))) else (none)) else (some (0, 0, (⟨#[]⟩ : ByteArray), bt249.2.2.2)))) else (none))) else (none)) else (none)) else (none)) else (none)) = some (r1, r2, r3, r4) := by first | (rw [hji41] at H; exact H) | (simp only [hji41] at H ⊢; exact H)
                    (try rw [hji41] at A14)
                    have hji41w : (IntKind.i64.wrap ((x7_2.length : Int) - 2)) = ji41 := (i64_w _).trans hji41
                    by_cases c42 : 0 ≤ (ji41)
                    · rw [if_pos c42] at H
                      have c42b0 : decide (0 ≤ (ji41)) = true := decide_eq_true c42
                      clear c42
                      by_cases c43 : (ji41) < (x7_2.length : Int)
                      · rw [if_pos c43] at H
                        have c43b0 : decide ((ji41) < (x7_2.length : Int)) = true := decide_eq_true c43
                        clear c43
                        obtain ⟨ji44, hji44⟩ : ∃ j_ : Int, (wrap64 ((ji41) + 1)) = j_ := ⟨_, rfl⟩
                        replace H : (if 0 ≤ (ji44) then (if (ji44) < (x7_2.length : Int) then ((expr_reckon.f k2 ((rd_T67 l0 x24_2).f0) ((rd_T23 x7_2 (ji41)).f0) ((rd_T23 x7_2 (ji41)).f1) ((rd_T23 x7_2 (ji41)).f2) ((rd_T23 x7_2 (ji44)).f0) ((rd_T23 x7_2 (ji44)).f1) ((rd_T23 x7_2 (ji44)).f2)).bind fun bt249 => (if (ji41) ≤ (x7_2.length : Int) then ((some (x7_2.take ((ji41) : Int).toNat : List (S23))).bind fun y253 => (if bt249.2.2.2 = 0 then (if y253.length < 4398046511104 then (expr_Eval.l0 k2 l1 (y253 ++ [(⟨bt249.1, bt249.2.1, bt249.2.2.1⟩ : S23)]) l0 (l0.length : Int) (wrap64 (x24_2 + 1))) else (none)) else (some (0, 0, (⟨#[]⟩ : ByteArray), bt249.2.2.2)))) else (none))) else (none)) else (none)) = some (r1, r2, r3, r4) := by first | (rw [hji44] at H; exact H) | (simp only [hji44] at H ⊢; exact H)
                        (try rw [hji44] at A14)
                        have hji44w : (IntKind.i64.wrap ((ji41) + 1)) = ji44 := (i64_w _).trans hji44
                        by_cases c45 : 0 ≤ (ji44)
                        · rw [if_pos c45] at H
                          have c45b0 : decide (0 ≤ (ji44)) = true := decide_eq_true c45
                          clear c45
                          by_cases c46 : (ji44) < (x7_2.length : Int)
                          · rw [if_pos c46] at H
                            have c46b0 : decide ((ji44) < (x7_2.length : Int)) = true := decide_eq_true c46
                            clear c46
                            replace H := Option.bind_eq_some_iff.mp H
                            obtain ⟨⟨t249, t250, t251, t252⟩, A470, H⟩ := H
                            replace H : (if (ji41) ≤ (x7_2.length : Int) then ((some (x7_2.take ((ji41) : Int).toNat : List (S23))).bind fun y253 => (if t252 = 0 then (if y253.length < 4398046511104 then (expr_Eval.l0 k2 l1 (y253 ++ [(⟨t249, t250, t251⟩ : S23)]) l0 (l0.length : Int) (wrap64 (x24_2 + 1))) else (none)) else (some (0, 0, (⟨#[]⟩ : ByteArray), t252)))) else (none)) = some (r1, r2, r3, r4) := H
                            have A47 := Aside0.mk A470
                            clear A470
                            by_cases c48 : (ji41) ≤ (x7_2.length : Int)
                            · rw [if_pos c48] at H
                              have c48b0 := eq_true c48
                              have c48b1 : decide ((ji41) ≤ (x7_2.length : Int)) = true := decide_eq_true c48
                              clear c48
                              obtain ⟨y253, hy253⟩ : ∃ y_ : List (S23), y_ = (x7_2.take ((ji41) : Int).toNat) := ⟨_, rfl⟩
                              replace H : (if t252 = 0 then (if y253.length < 4398046511104 then (expr_Eval.l0 k2 l1 (y253 ++ [(⟨t249, t250, t251⟩ : S23)]) l0 (l0.length : Int) (wrap64 (x24_2 + 1))) else (none)) else (some (0, 0, (⟨#[]⟩ : ByteArray), t252))) = some (r1, r2, r3, r4) := by first | (rw [hy253]; with_reducible exact H) | (have H2_ := (Option.bind_some _ _).symm.trans H; rw [hy253]; with_reducible exact H2_) | (have H2_ := (Option.bind_some _ _).symm.trans H; with_reducible exact H2_) | with_reducible exact H | (rw [hy253]; exact H) | exact H
                              have Ny253 := Aside0.mk hy253
                              clear hy253
                              by_cases c49 : t252 = 0
                              · rw [if_pos c49] at H
                                obtain ⟨c49b0, c49b1⟩ := eqB_ c49
                                clear c49
                                by_cases c50 : y253.length < 4398046511104
                                · rw [if_pos c50] at H
                                  have LMc50 := Aside0.mk c50
                                  clear c50
                                  obtain ⟨y256, hy256⟩ : ∃ y_ : List (S23), y_ = (y253 ++ [(⟨t249, t250, t251⟩ : S23)]) := ⟨_, rfl⟩
                                  replace H : (expr_Eval.l0 k2 l1 y256 l0 (l0.length : Int) (wrap64 (x24_2 + 1))) = some (r1, r2, r3, r4) := by first | (rw [hy256]; with_reducible exact H) | (have H2_ := (Option.bind_some _ _).symm.trans H; rw [hy256]; with_reducible exact H2_) | (have H2_ := (Option.bind_some _ _).symm.trans H; with_reducible exact H2_) | with_reducible exact H | (rw [hy256]; exact H) | exact H
                                  have Ny256 := Aside0.mk hy256
                                  clear hy256
                                  have H' := Aside0.mk H
                                  clear H
                                  have p236 : 0 ≤ (x24_2 : Int) := dt_
                                  have q236 : x24_2 < (l0.length : Int) := dt_
                                  obtain ⟨ad236, e236, hx236_0, hx236_1, hx236_2, hx236_3, hx236_4⟩ := at_T67 HR0.out x24_2 p236 q236
                                  cases e236
                                  replace hx236_0 := cm_ HB hx236_0
                                  replace hx236_1 := cm_ HB hx236_1
                                  replace hx236_2 := cm_ HB hx236_2
                                  replace hx236_3 := cm_ HB hx236_3
                                  replace hx236_4 := cm_ HB hx236_4
                                  replace p236 := eq_true p236
                                  replace q236 := eq_true q236
                                  try go_wp2_with (first | ((with_reducible refine gate_dst (N := 9) rfl ?_); refine box_event ?hg (N := 9) ?hd (cs := #[.int .i64 0, .string (⟨#[]⟩ : ByteArray), .int .i64 0, .int .i64 0, .string (⟨#[]⟩ : ByteArray)]) (t := 67) ?hr ?_; (case hd => rfl); (case hg => rfl); (case hr => first | (go_simp; done) | (go_simp; rfl)); intro gb237 hg w51 hbox hb; have n0_ := kb_ (ku_ HO_7.out) hb; have n1_ := bb_ (bu_ BK232) hb; have n2_ := bs_ (be_ HB) hb; have n3_ := Aside0.mk (hbox); have n4_ := gs_ hg (be_ HB); have n5_ := gs_ hg (be_ HB); have n6_ := nl_ hg (bu_ BK232); have n7_ := ng_ hg (bu_ BK232); clear HO_7; clear BK232; clear HB; have HO_7 := n0_; have BK232 := n1_; have HB := n2_; have BK237 := n3_; have GW237 := n4_; have GE237 := n5_; have NB232_237 := n6_; have NB237_232 := n7_; clear n0_ n1_ n2_ n3_ n4_ n5_ n6_ n7_; clear hb hbox hg; have hnb52 := NB237_232.out; have hnc52 := NB232_237.out; have hcz53_0 : w51.cell? ⟨gb237, 0, none⟩ = some (.int .i64 0) := (blk_cell BK237.out 0).trans rfl; have hcz53_1 : w51.cell? ⟨gb237, 1, none⟩ = some (.string (⟨#[]⟩ : ByteArray)) := (blk_cell BK237.out 1).trans rfl; have hcz53_2 : w51.cell? ⟨gb237, 2, none⟩ = some (.int .i64 0) := (blk_cell BK237.out 2).trans rfl; have hcz53_3 : w51.cell? ⟨gb237, 3, none⟩ = some (.int .i64 0) := (blk_cell BK237.out 3).trans rfl; have hcz53_4 : w51.cell? ⟨gb237, 4, none⟩ = some (.string (⟨#[]⟩ : ByteArray)) := (blk_cell BK237.out 4).trans rfl; have hfz53_0 := blk_frozen BK237.out 0; have hfz53_1 := blk_frozen BK237.out 1; have hfz53_2 := blk_frozen BK237.out 2; have hfz53_3 := blk_frozen BK237.out 3; have hfz53_4 := blk_frozen BK237.out 4) | ((with_reducible refine gate_dst (N := 10) rfl ?_); refine box_event ?hg (N := 10) ?hd (cs := #[.int .i64 0, .int .i64 0, .string (⟨#[]⟩ : ByteArray)]) (t := 23) ?hr ?_; (case hd => rfl); (case hg => rfl); (case hr => first | (go_simp; done) | (go_simp; rfl)); intro gb238 hg w54 hbox hb; have n0_ := Aside0.mk (Kd.R_below (Kd.R_elderB (ku_ (Kd.R_mono (Kd.R_far (p := ⟨gb237, 4, none⟩) (Kd.R_far (p := ⟨gb237, 3, none⟩) (Kd.R_far (p := ⟨gb237, 2, none⟩) (Kd.R_far (p := ⟨gb237, 1, none⟩) (Kd.R_far (p := ⟨gb237, 0, none⟩) (Kd.R_types HO_7.out BK237.out (by decide)) (fun _ hk => hk.2) (.int .i64 ((rd_T67 l0 x24_2).f0))) (fun _ hk => hk.2) (.string ((rd_T67 l0 x24_2).f1))) (fun _ hk => hk.2) (.int .i64 ((rd_T67 l0 x24_2).f2.f0))) (fun _ hk => hk.2) (.int .i64 ((rd_T67 l0 x24_2).f2.f1))) (fun _ hk => hk.2) (.string ((rd_T67 l0 x24_2).f2.f2))) (fun _ h_ => h_.1))) gb238 (Nat.le_of_eq hg.symm)) hb); have n1_ := bb_ (bu_ BK232) hb; have n2_ := Aside0.mk (blk_below (o := .cells #[.int .i64 ((rd_T67 l0 x24_2).f0), .string ((rd_T67 l0 x24_2).f1), .int .i64 ((rd_T67 l0 x24_2).f2.f0), .int .i64 ((rd_T67 l0 x24_2).f2.f1), .string ((rd_T67 l0 x24_2).f2.f2)] 67 (0, 0)) (bp_ BK237) hb); have n3_ := bs_ (be_ HB) hb; have n4_ := Aside0.mk (hbox); have n5_ := gs_ hg (be_ HB); have n6_ := gs_ hg (be_ HB); have n7_ := nl_ hg (bu_ BK232); have n8_ := ng_ hg (bu_ BK232); have n9_ := Aside0.mk ((by rw [hg]; exact Nat.ne_of_lt (blk_lt (o := .cells #[.int .i64 ((rd_T67 l0 x24_2).f0), .string ((rd_T67 l0 x24_2).f1), .int .i64 ((rd_T67 l0 x24_2).f2.f0), .int .i64 ((rd_T67 l0 x24_2).f2.f1), .string ((rd_T67 l0 x24_2).f2.f2)] 67 (0, 0)) (bp_ BK237)) : gb237 ≠ gb238)); have n10_ := Aside0.mk ((by rw [hg]; exact Nat.ne_of_gt (blk_lt (o := .cells #[.int .i64 ((rd_T67 l0 x24_2).f0), .string ((rd_T67 l0 x24_2).f1), .int .i64 ((rd_T67 l0 x24_2).f2.f0), .int .i64 ((rd_T67 l0 x24_2).f2.f1), .string ((rd_T67 l0 x24_2).f2.f2)] 67 (0, 0)) (bp_ BK237)) : gb238 ≠ gb237)); clear HO_7; clear BK232; clear BK237; clear HB; have HO_7 := n0_; have BK232 := n1_; have BK237 := n2_; have HB := n3_; have BK238 := n4_; have GW238 := n5_; have GE238 := n6_; have NB232_238 := n7_; have NB238_232 := n8_; have NB237_238 := n9_; have NB238_237 := n10_; clear n0_ n1_ n2_ n3_ n4_ n5_ n6_ n7_ n8_ n9_ n10_; (try clear hcz53_0 hcz53_1 hcz53_2 hcz53_3 hcz53_4 hfz53_0 hfz53_1 hfz53_2 hfz53_3 hfz53_4); clear hb hbox hg; have hnb55 := NB237_238.out; have hnc55 := NB238_237.out; have hcz56_0 : w54.cell? ⟨gb237, 0, none⟩ = some (.int .i64 ((rd_T67 l0 x24_2).f0)) := (blk_cell BK237.out 0).trans rfl; have hcz56_1 : w54.cell? ⟨gb237, 1, none⟩ = some (.string ((rd_T67 l0 x24_2).f1)) := (blk_cell BK237.out 1).trans rfl; have hcz56_2 : w54.cell? ⟨gb237, 2, none⟩ = some (.int .i64 ((rd_T67 l0 x24_2).f2.f0)) := (blk_cell BK237.out 2).trans rfl; have hcz56_3 : w54.cell? ⟨gb237, 3, none⟩ = some (.int .i64 ((rd_T67 l0 x24_2).f2.f1)) := (blk_cell BK237.out 3).trans rfl; have hcz56_4 : w54.cell? ⟨gb237, 4, none⟩ = some (.string ((rd_T67 l0 x24_2).f2.f2)) := (blk_cell BK237.out 4).trans rfl; have hfz56_0 := blk_frozen BK237.out 0; have hfz56_1 := blk_frozen BK237.out 1; have hfz56_2 := blk_frozen BK237.out 2; have hfz56_3 := blk_frozen BK237.out 3; have hfz56_4 := blk_frozen BK237.out 4) | ((with_reducible refine gate_callee (f := 38) rfl ?_); refine goesL_ (some 30) rfl rfl Try.func38 (by kernel_rfl) rfl #[.int .i64 ((rd_T67 l0 x24_2).f0)] rfl ga_ ?_; (with_reducible refine (expr_pushes.calls ((rd_T67 l0 x24_2).f0) false _ A14.out).mono ?_); rintro e w' ⟨rfl, ⟨nd, rfl⟩⟩; refine ⟨_, rfl, ?_⟩; (try (rw [drewN_self w54]; generalize hq_ : World.drewN w54 _ = w54; have n0_ : Aside0 (Kd.R k23 23 w54 w.heap.size (fun k_ => k_ ≠ gb232 ∧ k_ ≠ gb238) u7 x7_2) := ⟨by rw [← hq_]; exact (ku_ HO_7.out)⟩; have n1_ : Aside0 (w54.heap[gb232]? = some (.cells #[.int .i64 x233000_2, .int .i64 x233001_2, .string x233002_2] 23 (0, 0))) := ⟨by rw [← hq_]; exact (bu_ BK232)⟩; have n2_ : Aside0 (w54.heap[gb237]? = some (.cells #[.int .i64 ((rd_T67 l0 x24_2).f0), .string ((rd_T67 l0 x24_2).f1), .int .i64 ((rd_T67 l0 x24_2).f2.f0), .int .i64 ((rd_T67 l0 x24_2).f2.f1), .string ((rd_T67 l0 x24_2).f2.f2)] 67 (0, 0))) := ⟨by rw [← hq_]; exact (bu_ BK237)⟩; have n3_ : Aside0 (w54.heap[gb238]? = some (.cells #[.int .i64 0, .int .i64 0, .string (⟨#[]⟩ : ByteArray)] 23 (0, 0))) := ⟨by rw [← hq_]; exact (bu_ BK238)⟩; have n4_ : Aside0 (Below w.heap.size w w54) := ⟨by rw [← hq_]; exact (be_ HB)⟩; clear HO_7 BK232 BK237 BK238 HB hq_; have HO_7 := n0_; have BK232 := n1_; have BK237 := n2_; have BK238 := n3_; have HB := n4_; clear n0_ n1_ n2_ n3_ n4_)); (try clear hcz56_0 hcz56_1 hcz56_2 hcz56_3 hcz56_4 hfz56_0 hfz56_1 hfz56_2 hfz56_3 hfz56_4); obtain ⟨Ao57, co57, eo57⟩ := Kd.R_slice HO_7.out; subst eo57))
                                  have n0_ := Aside0.mk (Kd.R_drew HO_7.out)
                                  have n1_ := Aside0.mk (blk_drew BK232.out)
                                  have n2_ := Aside0.mk (blk_drew BK237.out)
                                  have n3_ := Aside0.mk (blk_drew BK238.out)
                                  have n4_ := Aside0.mk (below_drew1 HB.out)
                                  clear HO_7
                                  clear BK232
                                  clear BK237
                                  clear BK238
                                  clear HB
                                  have HO_7 := n0_
                                  have BK232 := n1_
                                  have BK237 := n2_
                                  have BK238 := n3_
                                  have HB := n4_
                                  clear n0_ n1_ n2_ n3_ n4_
                                  have p247 : 0 ≤ ((ji41) : Int) := dt_
                                  have q247 : (ji41) < (x7_2.length : Int) := dt_
                                  obtain ⟨ad247, e247, hx247_0, hx247_1, hx247_2⟩ := at_T23 (Kd.R_reads' HO_7.out).2.2 (ji41) p247 q247
                                  cases e247
                                  replace p247 := eq_true p247
                                  replace q247 := eq_true q247
                                  have p248 : 0 ≤ ((ji44) : Int) := dt_
                                  have q248 : (ji44) < (x7_2.length : Int) := dt_
                                  obtain ⟨ad248, e248, hx248_0, hx248_1, hx248_2⟩ := at_T23 (Kd.R_reads' HO_7.out).2.2 (ji44) p248 q248
                                  obtain rfl : ad247 = ad248 := (by injection e248)
                                  replace p248 := eq_true p248
                                  replace q248 := eq_true q248
                                  refine start_ (n := 17) (S := fun w' => w'.cell? ⟨gb237, 0, none⟩ = some (.int .i64 ((rd_T67 l0 x24_2).f0)) ∧ w'.cell? ⟨gb237, 1, none⟩ = some (.string ((rd_T67 l0 x24_2).f1)) ∧ w'.cell? ⟨gb237, 2, none⟩ = some (.int .i64 ((rd_T67 l0 x24_2).f2.f0)) ∧ w'.cell? ⟨gb237, 3, none⟩ = some (.int .i64 ((rd_T67 l0 x24_2).f2.f1)) ∧ w'.cell? ⟨gb237, 4, none⟩ = some (.string ((rd_T67 l0 x24_2).f2.f2)) ∧ w'.cell? (ad247.add (((ji41)).toNat * 3)) = some (.int .i64 ((rd_T23 x7_2 (ji41)).f0)) ∧ w'.cell? ⟨(ad247.add (((ji41)).toNat * 3)).block, (ad247.add (((ji41)).toNat * 3)).off + 1, none⟩ = some (.int .i64 ((rd_T23 x7_2 (ji41)).f1)) ∧ w'.cell? ⟨(ad247.add (((ji41)).toNat * 3)).block, (ad247.add (((ji41)).toNat * 3)).off + 2, none⟩ = some (.string ((rd_T23 x7_2 (ji41)).f2)) ∧ w'.cell? (ad247.add (((ji44)).toNat * 3)) = some (.int .i64 ((rd_T23 x7_2 (ji44)).f0)) ∧ w'.cell? ⟨(ad247.add (((ji44)).toNat * 3)).block, (ad247.add (((ji44)).toNat * 3)).off + 1, none⟩ = some (.int .i64 ((rd_T23 x7_2 (ji44)).f1)) ∧ w'.cell? ⟨(ad247.add (((ji44)).toNat * 3)).block, (ad247.add (((ji44)).toNat * 3)).off + 2, none⟩ = some (.string ((rd_T23 x7_2 (ji44)).f2))) (ds := []) (mk_ 17 0) (by kernel_rfl) rfl rfl ⟨(blk_cell BK237.out 0).trans rfl, (blk_cell BK237.out 1).trans rfl, (blk_cell BK237.out 2).trans rfl, (blk_cell BK237.out 3).trans rfl, (blk_cell BK237.out 4).trans rfl, hx247_0, hx247_1, hx247_2, hx248_0, hx248_1, hx248_2⟩ (fun hHeld => ?_); refine with_tabW expr_Eval.tab14 expr_Eval.bits14 (fun HT_ HW_ => ?_)
                                  generalize w54.drew = w58 at HO_7 BK232 BK237 BK238 HB hx247_0 hx247_1 hx247_2 hx248_0 hx248_1 hx248_2 hHeld ⊢
                                  refine pu_ 0 41 1 HT_ ?_; refine pu_ 2 43 5 HT_ ?_; refine pu_ 3 44 13 HT_ ?_; refine pu_ 4 45 29 HT_ ?_; refine pu_ 6 47 93 HT_ ?_; refine pu_ 7 48 221 HT_ ?_; refine pu_ 8 49 477 HT_ ?_; refine pu_ 9 50 989 HT_ ?_; refine tk_ 1 42 991 HT_ HW_ hHeld ?_; refine tk_ 5 46 1023 HT_ HW_ hHeld ?_; refine tk_ 10 51 2047 HT_ HW_ hHeld ?_
                                  refine one_ (i := 11) (N := some 52) (mk_ 17 4095) rfl rfl (one_of HT_.out (by kernel_rfl)) (by decide) (fun K hK => ?_)
                                  refine goes_ Try.func40 (by kernel_rfl) rfl #[.int .i64 ((rd_T67 l0 x24_2).f0), .agg #[.int .i64 ((rd_T23 x7_2 (ji41)).f0), .int .i64 ((rd_T23 x7_2 (ji41)).f1), .string ((rd_T23 x7_2 (ji41)).f2)], .agg #[.int .i64 ((rd_T23 x7_2 (ji44)).f0), .int .i64 ((rd_T23 x7_2 (ji44)).f1), .string ((rd_T23 x7_2 (ji44)).f2)]] (by rfl) rfl rfl (by (try simp only [List.map_toArray, List.map_cons, List.map_nil]); first | done | (simp only [hji41, hji44]; rfl) | rfl | (simp only [List.length_drop, List.length_take]; rfl)) ?_
                                  with_reducible refine (expr_reckon.calls k2 ((rd_T67 l0 x24_2).f0) ((rd_T23 x7_2 (ji41)).f0) ((rd_T23 x7_2 (ji41)).f1) ((rd_T23 x7_2 (ji41)).f2) ((rd_T23 x7_2 (ji44)).f0) ((rd_T23 x7_2 (ji44)).f1) ((rd_T23 x7_2 (ji44)).f2) t249 t250 t251 t252 _ A47.out).mono ?_
                                  rintro e w59 ⟨rfl, hb⟩
                                  have HS5_ := (hb.cell (World.block_lt_of_cell? _ _ (hHeld.2.2.2.2.2.1))).trans (hHeld.2.2.2.2.2.1)
                                  have HS6_ := (hb.cell (World.block_lt_of_cell? _ _ (hHeld.2.2.2.2.2.2.1))).trans (hHeld.2.2.2.2.2.2.1)
                                  have HS7_ := (hb.cell (World.block_lt_of_cell? _ _ (hHeld.2.2.2.2.2.2.2.1))).trans (hHeld.2.2.2.2.2.2.2.1)
                                  have HS8_ := (hb.cell (World.block_lt_of_cell? _ _ (hHeld.2.2.2.2.2.2.2.2.1))).trans (hHeld.2.2.2.2.2.2.2.2.1)
                                  have HS9_ := (hb.cell (World.block_lt_of_cell? _ _ (hHeld.2.2.2.2.2.2.2.2.2.1))).trans (hHeld.2.2.2.2.2.2.2.2.2.1)
                                  have HS10_ := (hb.cell (World.block_lt_of_cell? _ _ (hHeld.2.2.2.2.2.2.2.2.2.2))).trans (hHeld.2.2.2.2.2.2.2.2.2.2)
                                  refine ⟨_, rfl, ?_⟩
                                  have n0_ := kb_ (ku_ HO_7.out) hb
                                  have n1_ := bb_ (bu_ BK232) hb
                                  have n2_ := bb_ (bu_ BK237) hb
                                  have n3_ := bb_ (bu_ BK238) hb
                                  have n4_ := bs_ (be_ HB) hb
                                  clear HO_7
                                  clear BK232
                                  clear BK237
                                  clear BK238
                                  clear HB
                                  have HO_7 := n0_
                                  have BK232 := n1_
                                  have BK237 := n2_
                                  have BK238 := n3_
                                  have HB := n4_
                                  clear n0_ n1_ n2_ n3_ n4_
                                  (try clear hb)
                                  (try clear hb2)
                                  (try clear hk)
                                  (try clear hi)
                                  refine hK.out _ _ ⟨(blk_cell BK237.out 0).trans rfl, (blk_cell BK237.out 1).trans rfl, (blk_cell BK237.out 2).trans rfl, (blk_cell BK237.out 3).trans rfl, (blk_cell BK237.out 4).trans rfl, HS5_, HS6_, HS7_, HS8_, HS9_, HS10_⟩ (fun hHeld => ?_)
                                  clear hK K
                                  refine nm_ 52 ?_; refine pu_ 12 40 8191 HT_ ?_; refine pu_ 13 53 16383 HT_ ?_; refine pu_ 14 54 32767 HT_ ?_
                                  refine one_ (i := 15) (N := none) (mk_ 17 65535) rfl rfl (one_of HT_.out (by kernel_rfl)) (by decide) (fun K hK => ?_)
                                  have hs60 : w59.cell? ⟨gb238, 0, none⟩ = some (.int .i64 0) := (blk_cell BK238.out 0).trans rfl
                                  have hfs60 := blk_frozen BK238.out 0
                                  have hns60_0 := NB232_238.out
                                  have hns60_1 := NB237_238.out
                                  have hms60_0 := NB238_232.out
                                  have hms60_1 := NB238_237.out
                                  have hs61 : w59.cell? ⟨gb238, 1, none⟩ = some (.int .i64 0) := (blk_cell BK238.out 1).trans rfl
                                  have hfs61 := blk_frozen BK238.out 1
                                  have hns61_0 := NB232_238.out
                                  have hns61_1 := NB237_238.out
                                  have hms61_0 := NB238_232.out
                                  have hms61_1 := NB238_237.out
                                  have hs62 : w59.cell? ⟨gb238, 2, none⟩ = some (.string (⟨#[]⟩ : ByteArray)) := (blk_cell BK238.out 2).trans rfl
                                  have hfs62 := blk_frozen BK238.out 2
                                  have hns62_0 := NB232_238.out
                                  have hns62_1 := NB237_238.out
                                  have hms62_0 := NB238_232.out
                                  have hms62_1 := NB238_237.out
                                  refine skip_ (w1 := ?_) (by rfl) rfl ?_ ?_
                                  rotate_left
                                  · go_simp
                                    rfl
                                  refine hK.out _ _ ⟨((cell_far (p := ⟨gb238, _, none⟩) NB237_238.out _).trans (((cell_far (p := ⟨gb238, _, none⟩) NB237_238.out _).trans (((cell_far (p := ⟨gb238, _, none⟩) NB237_238.out _).trans (hHeld.1)))))), ((cell_far (p := ⟨gb238, _, none⟩) NB237_238.out _).trans (((cell_far (p := ⟨gb238, _, none⟩) NB237_238.out _).trans (((cell_far (p := ⟨gb238, _, none⟩) NB237_238.out _).trans (hHeld.2.1)))))), ((cell_far (p := ⟨gb238, _, none⟩) NB237_238.out _).trans (((cell_far (p := ⟨gb238, _, none⟩) NB237_238.out _).trans (((cell_far (p := ⟨gb238, _, none⟩) NB237_238.out _).trans (hHeld.2.2.1)))))), ((cell_far (p := ⟨gb238, _, none⟩) NB237_238.out _).trans (((cell_far (p := ⟨gb238, _, none⟩) NB237_238.out _).trans (((cell_far (p := ⟨gb238, _, none⟩) NB237_238.out _).trans (hHeld.2.2.2.1)))))), ((cell_far (p := ⟨gb238, _, none⟩) NB237_238.out _).trans (((cell_far (p := ⟨gb238, _, none⟩) NB237_238.out _).trans (((cell_far (p := ⟨gb238, _, none⟩) NB237_238.out _).trans (hHeld.2.2.2.2.1)))))), ((cell_far (p := ⟨gb238, _, none⟩) (by first | exact Kd.own_blk (Kd.R_away HO_7.out (fun _ hk => hk.2)) | (rw [add_block]; exact Kd.own_blk (Kd.R_away HO_7.out (fun _ hk => hk.2))) | (show (Addr.add _ _).block ≠ _; rw [add_block]; exact Kd.own_blk (Kd.R_away HO_7.out (fun _ hk => hk.2))) | (dsimp only; exact Kd.own_blk (Kd.R_away HO_7.out (fun _ hk => hk.2)))) _).trans (((cell_far (p := ⟨gb238, _, none⟩) (by first | exact Kd.own_blk (Kd.R_away HO_7.out (fun _ hk => hk.2)) | (rw [add_block]; exact Kd.own_blk (Kd.R_away HO_7.out (fun _ hk => hk.2))) | (show (Addr.add _ _).block ≠ _; rw [add_block]; exact Kd.own_blk (Kd.R_away HO_7.out (fun _ hk => hk.2))) | (dsimp only; exact Kd.own_blk (Kd.R_away HO_7.out (fun _ hk => hk.2)))) _).trans (((cell_far (p := ⟨gb238, _, none⟩) (by first | exact Kd.own_blk (Kd.R_away HO_7.out (fun _ hk => hk.2)) | (rw [add_block]; exact Kd.own_blk (Kd.R_away HO_7.out (fun _ hk => hk.2))) | (show (Addr.add _ _).block ≠ _; rw [add_block]; exact Kd.own_blk (Kd.R_away HO_7.out (fun _ hk => hk.2))) | (dsimp only; exact Kd.own_blk (Kd.R_away HO_7.out (fun _ hk => hk.2)))) _).trans (hHeld.2.2.2.2.2.1)))))), ((cell_far (p := ⟨gb238, _, none⟩) (by first | exact Kd.own_blk (Kd.R_away HO_7.out (fun _ hk => hk.2)) | (rw [add_block]; exact Kd.own_blk (Kd.R_away HO_7.out (fun _ hk => hk.2))) | (show (Addr.add _ _).block ≠ _; rw [add_block]; exact Kd.own_blk (Kd.R_away HO_7.out (fun _ hk => hk.2))) | (dsimp only; exact Kd.own_blk (Kd.R_away HO_7.out (fun _ hk => hk.2)))) _).trans (((cell_far (p := ⟨gb238, _, none⟩) (by first | exact Kd.own_blk (Kd.R_away HO_7.out (fun _ hk => hk.2)) | (rw [add_block]; exact Kd.own_blk (Kd.R_away HO_7.out (fun _ hk => hk.2))) | (show (Addr.add _ _).block ≠ _; rw [add_block]; exact Kd.own_blk (Kd.R_away HO_7.out (fun _ hk => hk.2))) | (dsimp only; exact Kd.own_blk (Kd.R_away HO_7.out (fun _ hk => hk.2)))) _).trans (((cell_far (p := ⟨gb238, _, none⟩) (by first | exact Kd.own_blk (Kd.R_away HO_7.out (fun _ hk => hk.2)) | (rw [add_block]; exact Kd.own_blk (Kd.R_away HO_7.out (fun _ hk => hk.2))) | (show (Addr.add _ _).block ≠ _; rw [add_block]; exact Kd.own_blk (Kd.R_away HO_7.out (fun _ hk => hk.2))) | (dsimp only; exact Kd.own_blk (Kd.R_away HO_7.out (fun _ hk => hk.2)))) _).trans (hHeld.2.2.2.2.2.2.1)))))), ((cell_far (p := ⟨gb238, _, none⟩) (by first | exact Kd.own_blk (Kd.R_away HO_7.out (fun _ hk => hk.2)) | (rw [add_block]; exact Kd.own_blk (Kd.R_away HO_7.out (fun _ hk => hk.2))) | (show (Addr.add _ _).block ≠ _; rw [add_block]; exact Kd.own_blk (Kd.R_away HO_7.out (fun _ hk => hk.2))) | (dsimp only; exact Kd.own_blk (Kd.R_away HO_7.out (fun _ hk => hk.2)))) _).trans (((cell_far (p := ⟨gb238, _, none⟩) (by first | exact Kd.own_blk (Kd.R_away HO_7.out (fun _ hk => hk.2)) | (rw [add_block]; exact Kd.own_blk (Kd.R_away HO_7.out (fun _ hk => hk.2))) | (show (Addr.add _ _).block ≠ _; rw [add_block]; exact Kd.own_blk (Kd.R_away HO_7.out (fun _ hk => hk.2))) | (dsimp only; exact Kd.own_blk (Kd.R_away HO_7.out (fun _ hk => hk.2)))) _).trans (((cell_far (p := ⟨gb238, _, none⟩) (by first | exact Kd.own_blk (Kd.R_away HO_7.out (fun _ hk => hk.2)) | (rw [add_block]; exact Kd.own_blk (Kd.R_away HO_7.out (fun _ hk => hk.2))) | (show (Addr.add _ _).block ≠ _; rw [add_block]; exact Kd.own_blk (Kd.R_away HO_7.out (fun _ hk => hk.2))) | (dsimp only; exact Kd.own_blk (Kd.R_away HO_7.out (fun _ hk => hk.2)))) _).trans (hHeld.2.2.2.2.2.2.2.1)))))), ((cell_far (p := ⟨gb238, _, none⟩) (by first | exact Kd.own_blk (Kd.R_away HO_7.out (fun _ hk => hk.2)) | (rw [add_block]; exact Kd.own_blk (Kd.R_away HO_7.out (fun _ hk => hk.2))) | (show (Addr.add _ _).block ≠ _; rw [add_block]; exact Kd.own_blk (Kd.R_away HO_7.out (fun _ hk => hk.2))) | (dsimp only; exact Kd.own_blk (Kd.R_away HO_7.out (fun _ hk => hk.2)))) _).trans (((cell_far (p := ⟨gb238, _, none⟩) (by first | exact Kd.own_blk (Kd.R_away HO_7.out (fun _ hk => hk.2)) | (rw [add_block]; exact Kd.own_blk (Kd.R_away HO_7.out (fun _ hk => hk.2))) | (show (Addr.add _ _).block ≠ _; rw [add_block]; exact Kd.own_blk (Kd.R_away HO_7.out (fun _ hk => hk.2))) | (dsimp only; exact Kd.own_blk (Kd.R_away HO_7.out (fun _ hk => hk.2)))) _).trans (((cell_far (p := ⟨gb238, _, none⟩) (by first | exact Kd.own_blk (Kd.R_away HO_7.out (fun _ hk => hk.2)) | (rw [add_block]; exact Kd.own_blk (Kd.R_away HO_7.out (fun _ hk => hk.2))) | (show (Addr.add _ _).block ≠ _; rw [add_block]; exact Kd.own_blk (Kd.R_away HO_7.out (fun _ hk => hk.2))) | (dsimp only; exact Kd.own_blk (Kd.R_away HO_7.out (fun _ hk => hk.2)))) _).trans (hHeld.2.2.2.2.2.2.2.2.1)))))), ((cell_far (p := ⟨gb238, _, none⟩) (by first | exact Kd.own_blk (Kd.R_away HO_7.out (fun _ hk => hk.2)) | (rw [add_block]; exact Kd.own_blk (Kd.R_away HO_7.out (fun _ hk => hk.2))) | (show (Addr.add _ _).block ≠ _; rw [add_block]; exact Kd.own_blk (Kd.R_away HO_7.out (fun _ hk => hk.2))) | (dsimp only; exact Kd.own_blk (Kd.R_away HO_7.out (fun _ hk => hk.2)))) _).trans (((cell_far (p := ⟨gb238, _, none⟩) (by first | exact Kd.own_blk (Kd.R_away HO_7.out (fun _ hk => hk.2)) | (rw [add_block]; exact Kd.own_blk (Kd.R_away HO_7.out (fun _ hk => hk.2))) | (show (Addr.add _ _).block ≠ _; rw [add_block]; exact Kd.own_blk (Kd.R_away HO_7.out (fun _ hk => hk.2))) | (dsimp only; exact Kd.own_blk (Kd.R_away HO_7.out (fun _ hk => hk.2)))) _).trans (((cell_far (p := ⟨gb238, _, none⟩) (by first | exact Kd.own_blk (Kd.R_away HO_7.out (fun _ hk => hk.2)) | (rw [add_block]; exact Kd.own_blk (Kd.R_away HO_7.out (fun _ hk => hk.2))) | (show (Addr.add _ _).block ≠ _; rw [add_block]; exact Kd.own_blk (Kd.R_away HO_7.out (fun _ hk => hk.2))) | (dsimp only; exact Kd.own_blk (Kd.R_away HO_7.out (fun _ hk => hk.2)))) _).trans (hHeld.2.2.2.2.2.2.2.2.2.1)))))), ((cell_far (p := ⟨gb238, _, none⟩) (by first | exact Kd.own_blk (Kd.R_away HO_7.out (fun _ hk => hk.2)) | (rw [add_block]; exact Kd.own_blk (Kd.R_away HO_7.out (fun _ hk => hk.2))) | (show (Addr.add _ _).block ≠ _; rw [add_block]; exact Kd.own_blk (Kd.R_away HO_7.out (fun _ hk => hk.2))) | (dsimp only; exact Kd.own_blk (Kd.R_away HO_7.out (fun _ hk => hk.2)))) _).trans (((cell_far (p := ⟨gb238, _, none⟩) (by first | exact Kd.own_blk (Kd.R_away HO_7.out (fun _ hk => hk.2)) | (rw [add_block]; exact Kd.own_blk (Kd.R_away HO_7.out (fun _ hk => hk.2))) | (show (Addr.add _ _).block ≠ _; rw [add_block]; exact Kd.own_blk (Kd.R_away HO_7.out (fun _ hk => hk.2))) | (dsimp only; exact Kd.own_blk (Kd.R_away HO_7.out (fun _ hk => hk.2)))) _).trans (((cell_far (p := ⟨gb238, _, none⟩) (by first | exact Kd.own_blk (Kd.R_away HO_7.out (fun _ hk => hk.2)) | (rw [add_block]; exact Kd.own_blk (Kd.R_away HO_7.out (fun _ hk => hk.2))) | (show (Addr.add _ _).block ≠ _; rw [add_block]; exact Kd.own_blk (Kd.R_away HO_7.out (fun _ hk => hk.2))) | (dsimp only; exact Kd.own_blk (Kd.R_away HO_7.out (fun _ hk => hk.2)))) _).trans (hHeld.2.2.2.2.2.2.2.2.2.2))))))⟩ (fun hHeld => ?_)
                                  clear hK K
                                  refine pu_ 16 6 131071 HT_ ?_
                                  refine done_ (done_of HT_.out (by kernel_rfl)) ?_
                                  have n0_ : Aside0 (Kd.R k23 23 (((w59.setCell ⟨gb238, 0, none⟩ (.int .i64 t249)).setCell ⟨gb238, 1, none⟩ (.int .i64 t250)).setCell ⟨gb238, 2, none⟩ (.string t251)) w.heap.size (fun k_ => k_ ≠ gb232 ∧ k_ ≠ gb238) (.slice (some ad247) x7_2.length co57) x7_2) := ⟨by (with_reducible repeat (first | apply Kd.R_alloc | apply Kd.R_drewN | apply Kd.R_drew)); exact Kd.R_mono (Kd.R_far (p := ⟨gb238, 2, none⟩) (Kd.R_far (p := ⟨gb238, 1, none⟩) (Kd.R_far (p := ⟨gb238, 0, none⟩) (Kd.R_mono HO_7.out (fun k_ hk => (⟨hk, hk.2⟩ : _ ∧ k_ ≠ gb238))) (fun _ hk => hk.2) (.int .i64 t249)) (fun _ hk => hk.2) (.int .i64 t250)) (fun _ hk => hk.2) (.string t251)) (fun _ hk => ⟨hk.1.1, hk.1.2⟩)⟩
                                  have n1_ : Aside0 ((((w59.setCell ⟨gb238, 0, none⟩ (.int .i64 t249)).setCell ⟨gb238, 1, none⟩ (.int .i64 t250)).setCell ⟨gb238, 2, none⟩ (.string t251)).heap[gb232]? = some (.cells #[.int .i64 x233000_2, .int .i64 x233001_2, .string x233002_2] 23 (0, 0))) := ⟨by (with_reducible repeat (first | refine blk_drewN ?_ _ | refine blk_drew ?_ | refine blk_alloc ?_ _)); refine blk_far ?_ NB232_238.out _; (with_reducible repeat (first | refine blk_drewN ?_ _ | refine blk_drew ?_ | refine blk_alloc ?_ _)); refine blk_far ?_ NB232_238.out _; (with_reducible repeat (first | refine blk_drewN ?_ _ | refine blk_drew ?_ | refine blk_alloc ?_ _)); refine blk_far ?_ NB232_238.out _; (with_reducible repeat (first | refine blk_drewN ?_ _ | refine blk_drew ?_ | refine blk_alloc ?_ _)); exact BK232.out⟩
                                  have n2_ : Aside0 ((((w59.setCell ⟨gb238, 0, none⟩ (.int .i64 t249)).setCell ⟨gb238, 1, none⟩ (.int .i64 t250)).setCell ⟨gb238, 2, none⟩ (.string t251)).heap[gb237]? = some (.cells #[.int .i64 ((rd_T67 l0 x24_2).f0), .string ((rd_T67 l0 x24_2).f1), .int .i64 ((rd_T67 l0 x24_2).f2.f0), .int .i64 ((rd_T67 l0 x24_2).f2.f1), .string ((rd_T67 l0 x24_2).f2.f2)] 67 (0, 0))) := ⟨by (with_reducible repeat (first | refine blk_drewN ?_ _ | refine blk_drew ?_ | refine blk_alloc ?_ _)); refine blk_far ?_ NB237_238.out _; (with_reducible repeat (first | refine blk_drewN ?_ _ | refine blk_drew ?_ | refine blk_alloc ?_ _)); refine blk_far ?_ NB237_238.out _; (with_reducible repeat (first | refine blk_drewN ?_ _ | refine blk_drew ?_ | refine blk_alloc ?_ _)); refine blk_far ?_ NB237_238.out _; (with_reducible repeat (first | refine blk_drewN ?_ _ | refine blk_drew ?_ | refine blk_alloc ?_ _)); exact BK237.out⟩
                                  have n3_ : Aside0 ((((w59.setCell ⟨gb238, 0, none⟩ (.int .i64 t249)).setCell ⟨gb238, 1, none⟩ (.int .i64 t250)).setCell ⟨gb238, 2, none⟩ (.string t251)).heap[gb238]? = some (.cells #[.int .i64 t249, .int .i64 t250, .string t251] 23 (0, 0))) := ⟨by (with_reducible repeat (first | refine blk_drewN ?_ _ | refine blk_drew ?_ | refine blk_alloc ?_ _)); refine blk_put (cs := #[.int .i64 t249, .int .i64 t250, .string (⟨#[]⟩ : ByteArray)]) ?_ 2 _ rfl; (with_reducible repeat (first | refine blk_drewN ?_ _ | refine blk_drew ?_ | refine blk_alloc ?_ _)); refine blk_put (cs := #[.int .i64 t249, .int .i64 0, .string (⟨#[]⟩ : ByteArray)]) ?_ 1 _ rfl; (with_reducible repeat (first | refine blk_drewN ?_ _ | refine blk_drew ?_ | refine blk_alloc ?_ _)); refine blk_put (cs := #[.int .i64 0, .int .i64 0, .string (⟨#[]⟩ : ByteArray)]) ?_ 0 _ rfl; (with_reducible repeat (first | refine blk_drewN ?_ _ | refine blk_drew ?_ | refine blk_alloc ?_ _)); exact BK238.out⟩
                                  have n4_ : Aside0 (Below w.heap.size w (((w59.setCell ⟨gb238, 0, none⟩ (.int .i64 t249)).setCell ⟨gb238, 1, none⟩ (.int .i64 t250)).setCell ⟨gb238, 2, none⟩ (.string t251))) := ⟨by repeat (first | (with_reducible first | exact HB.out | apply below_alloc | apply pw_below_drewN | apply below_drew1 | refine below_set ?_ GE232.out | refine below_set ?_ GE237.out | refine below_set ?_ GE238.out) | exact HB.out)⟩
                                  (try clear HO_7)
                                  (try clear BK232)
                                  (try clear BK237)
                                  (try clear BK238)
                                  (try clear HB)
                                  generalize (((w59.setCell ⟨gb238, 0, none⟩ (.int .i64 t249)).setCell ⟨gb238, 1, none⟩ (.int .i64 t250)).setCell ⟨gb238, 2, none⟩ (.string t251)) = w63 at n0_ n1_ n2_ n3_ n4_ ⊢
                                  have HO_7 := n0_
                                  have BK232 := n1_
                                  have BK237 := n2_
                                  have BK238 := n3_
                                  have HB := n4_
                                  clear n0_ n1_ n2_ n3_ n4_
                                  have q64 : ((ji41) : Int) ≤ ((x7_2.length : Int) : Int) := dt_
                                  obtain ⟨i064, hi064, _, hsz64, _⟩ := info_parts info23
                                  have hcut64 := cut_to (P := Try.prog) 69 23 .i64 Try.underlying69 hi064 (some ad247) x7_2.length co57 (ji41) dt_ q64 (Kd.R_reads' HO_7.out).2.1
                                  have hr64 := Kd.R_take (m := ((ji41) : Int).toNat) HO_7.out (by omega)
                                  have hy64 : y253.length = ((ji41) : Int).toNat := (by rw [Ny253.out, List.length_take]; omega)
                                  rw [← Ny253.out] at hr64
                                  rw [← hy64] at hr64 hcut64
                                  clear hy64 hi064 hsz64 HO_7
                                  have HO255 := Aside0.mk hr64
                                  clear hr64
                                  replace q64 := eq_true q64
                                  have hnb65 := NB238_232.out
                                  have hnc65 := NB232_238.out
                                  have hcz66_0 : w63.cell? ⟨gb238, 0, none⟩ = some (.int .i64 t249) := (blk_cell BK238.out 0).trans rfl
                                  have hcz66_1 : w63.cell? ⟨gb238, 1, none⟩ = some (.int .i64 t250) := (blk_cell BK238.out 1).trans rfl
                                  have hcz66_2 : w63.cell? ⟨gb238, 2, none⟩ = some (.string t251) := (blk_cell BK238.out 2).trans rfl
                                  have hfz66_0 := blk_frozen BK238.out 0
                                  have hfz66_1 := blk_frozen BK238.out 1
                                  have hfz66_2 := blk_frozen BK238.out 2
                                  try go_wp2_with (first | ((with_reducible refine gate_builtin (b := .append) (xs := #[.tmp 62, .tmp 64]) rfl ?_); at_builtin; refine Kd.R_append k23 (w0 := w) w.heap.size rfl (.tmp 62) (.tmp 64) 69 23 (.agg #[(.int .i64 0), (.int .i64 0), (.string ⟨#[]⟩)]) 32 rfl Try.underlying69 info23 rfl (by decide) (by omega) (.slice (some ad247) y253.length co57) y253 (⟨t249, t250, t251⟩ : S23) [.int .i64 t249, .int .i64 t250, .string t251] (fun k_ => k_ ≠ gb232 ∧ k_ ≠ gb238) (fun _ => False) rfl rfl ?aP (fun _ hk => hk.elim) ?aF ?aO ?aB ?aS ?aL ?_; (case aP => exact k23_mkM _ _ _ (⟨t249, t250, t251⟩ : S23)); (case aB => exact (be_ HB)); (case aF => exact (fun k_ hk => ⟨Kd.freshB (bu_ BK232) k_ hk, Kd.freshB (bu_ BK238) k_ hk⟩)); (case aO => exact (ku_ HO255.out)); (case aS => exact (below_size (be_ HB))); (case aL => have := LMc50.out; omega); intro v257 w67 ho hb hg hat; rw [← Ny256.out] at ho; have n0_ := Aside0.mk (blk_grown (bu_ BK232) hg (Kd.R_away HO255.out (fun _ hk => hk.1))); have n1_ := Aside0.mk (blk_grown (bu_ BK237) hg (Kd.R_ne HO255.out BK237.out (by decide))); have n2_ := Aside0.mk (blk_grown (bu_ BK238) hg (Kd.R_away HO255.out (fun _ hk => hk.2))); have n3_ := Aside0.mk (hb); have n4_ := Aside0.mk (ho); clear BK232; clear BK237; clear BK238; clear HB; clear HO255; have BK232 := n0_; have BK237 := n1_; have BK238 := n2_; have HB := n3_; have HO258 := n4_; clear n0_ n1_ n2_ n3_ n4_; clear ho hb hg hat))
                                  go_roundg k2
                                  case measure => have := HJ3.out; have := HK2.out; omega
                                  case rel => exact ⟨(y256), (wrap64 (x24_2 + 1)), (x233000_2), (x233001_2), (x233002_2), ra_, H', ⟨by have := HJ3.out; have := HK2.out; omega⟩, ⟨by (with_reducible repeat (first | apply Kd.R_alloc | apply Kd.R_drewN | apply Kd.R_drew)); exact Kd.R_mono HO258.out (fun _ hk => hk.1)⟩, ⟨by (with_reducible repeat (first | refine blk_drewN ?_ _ | refine blk_drew ?_ | refine blk_alloc ?_ _)); exact BK232.out⟩, ⟨by repeat (first | (with_reducible first | exact HB.out | apply below_alloc | apply pw_below_drewN | apply below_drew1 | refine below_set ?_ GE232.out | refine below_set ?_ GE237.out | refine below_set ?_ GE238.out) | exact HB.out)⟩⟩
                                · rw [if_neg c50] at H
                                  exact absurd H (by simp)
                              · rw [if_neg c49] at H
                                obtain ⟨c49b0, c49b1⟩ := neB_ c49
                                simp only [Option.some.injEq, Prod.mk.injEq] at H
                                obtain ⟨rfl, rfl, rfl, rfl⟩ := H
                                have p236 : 0 ≤ (x24_2 : Int) := dt_
                                have q236 : x24_2 < (l0.length : Int) := dt_
                                obtain ⟨ad236, e236, hx236_0, hx236_1, hx236_2, hx236_3, hx236_4⟩ := at_T67 HR0.out x24_2 p236 q236
                                cases e236
                                replace hx236_0 := cm_ HB hx236_0
                                replace hx236_1 := cm_ HB hx236_1
                                replace hx236_2 := cm_ HB hx236_2
                                replace hx236_3 := cm_ HB hx236_3
                                replace hx236_4 := cm_ HB hx236_4
                                replace p236 := eq_true p236
                                replace q236 := eq_true q236
                                try go_wp2_with (first | ((with_reducible refine gate_dst (N := 9) rfl ?_); refine box_event ?hg (N := 9) ?hd (cs := #[.int .i64 0, .string (⟨#[]⟩ : ByteArray), .int .i64 0, .int .i64 0, .string (⟨#[]⟩ : ByteArray)]) (t := 67) ?hr ?_; (case hd => rfl); (case hg => rfl); (case hr => first | (go_simp; done) | (go_simp; rfl)); intro gb237 hg w68 hbox hb; have n0_ := kb_ (ku_ HO_7.out) hb; have n1_ := bb_ (bu_ BK232) hb; have n2_ := bs_ (be_ HB) hb; have n3_ := Aside0.mk (hbox); have n4_ := gs_ hg (be_ HB); have n5_ := gs_ hg (be_ HB); have n6_ := nl_ hg (bu_ BK232); have n7_ := ng_ hg (bu_ BK232); clear HO_7; clear BK232; clear HB; have HO_7 := n0_; have BK232 := n1_; have HB := n2_; have BK237 := n3_; have GW237 := n4_; have GE237 := n5_; have NB232_237 := n6_; have NB237_232 := n7_; clear n0_ n1_ n2_ n3_ n4_ n5_ n6_ n7_; clear hb hbox hg; have hnb69 := NB237_232.out; have hnc69 := NB232_237.out; have hcz70_0 : w68.cell? ⟨gb237, 0, none⟩ = some (.int .i64 0) := (blk_cell BK237.out 0).trans rfl; have hcz70_1 : w68.cell? ⟨gb237, 1, none⟩ = some (.string (⟨#[]⟩ : ByteArray)) := (blk_cell BK237.out 1).trans rfl; have hcz70_2 : w68.cell? ⟨gb237, 2, none⟩ = some (.int .i64 0) := (blk_cell BK237.out 2).trans rfl; have hcz70_3 : w68.cell? ⟨gb237, 3, none⟩ = some (.int .i64 0) := (blk_cell BK237.out 3).trans rfl; have hcz70_4 : w68.cell? ⟨gb237, 4, none⟩ = some (.string (⟨#[]⟩ : ByteArray)) := (blk_cell BK237.out 4).trans rfl; have hfz70_0 := blk_frozen BK237.out 0; have hfz70_1 := blk_frozen BK237.out 1; have hfz70_2 := blk_frozen BK237.out 2; have hfz70_3 := blk_frozen BK237.out 3; have hfz70_4 := blk_frozen BK237.out 4) | ((with_reducible refine gate_dst (N := 10) rfl ?_); refine box_event ?hg (N := 10) ?hd (cs := #[.int .i64 0, .int .i64 0, .string (⟨#[]⟩ : ByteArray)]) (t := 23) ?hr ?_; (case hd => rfl); (case hg => rfl); (case hr => first | (go_simp; done) | (go_simp; rfl)); intro gb238 hg w71 hbox hb; have n0_ := Aside0.mk (Kd.R_below (Kd.R_elderB (ku_ (Kd.R_mono (Kd.R_far (p := ⟨gb237, 4, none⟩) (Kd.R_far (p := ⟨gb237, 3, none⟩) (Kd.R_far (p := ⟨gb237, 2, none⟩) (Kd.R_far (p := ⟨gb237, 1, none⟩) (Kd.R_far (p := ⟨gb237, 0, none⟩) (Kd.R_types HO_7.out BK237.out (by decide)) (fun _ hk => hk.2) (.int .i64 ((rd_T67 l0 x24_2).f0))) (fun _ hk => hk.2) (.string ((rd_T67 l0 x24_2).f1))) (fun _ hk => hk.2) (.int .i64 ((rd_T67 l0 x24_2).f2.f0))) (fun _ hk => hk.2) (.int .i64 ((rd_T67 l0 x24_2).f2.f1))) (fun _ hk => hk.2) (.string ((rd_T67 l0 x24_2).f2.f2))) (fun _ h_ => h_.1))) gb238 (Nat.le_of_eq hg.symm)) hb); have n1_ := bb_ (bu_ BK232) hb; have n2_ := Aside0.mk (blk_below (o := .cells #[.int .i64 ((rd_T67 l0 x24_2).f0), .string ((rd_T67 l0 x24_2).f1), .int .i64 ((rd_T67 l0 x24_2).f2.f0), .int .i64 ((rd_T67 l0 x24_2).f2.f1), .string ((rd_T67 l0 x24_2).f2.f2)] 67 (0, 0)) (bp_ BK237) hb); have n3_ := bs_ (be_ HB) hb; have n4_ := Aside0.mk (hbox); have n5_ := gs_ hg (be_ HB); have n6_ := gs_ hg (be_ HB); have n7_ := nl_ hg (bu_ BK232); have n8_ := ng_ hg (bu_ BK232); have n9_ := Aside0.mk ((by rw [hg]; exact Nat.ne_of_lt (blk_lt (o := .cells #[.int .i64 ((rd_T67 l0 x24_2).f0), .string ((rd_T67 l0 x24_2).f1), .int .i64 ((rd_T67 l0 x24_2).f2.f0), .int .i64 ((rd_T67 l0 x24_2).f2.f1), .string ((rd_T67 l0 x24_2).f2.f2)] 67 (0, 0)) (bp_ BK237)) : gb237 ≠ gb238)); have n10_ := Aside0.mk ((by rw [hg]; exact Nat.ne_of_gt (blk_lt (o := .cells #[.int .i64 ((rd_T67 l0 x24_2).f0), .string ((rd_T67 l0 x24_2).f1), .int .i64 ((rd_T67 l0 x24_2).f2.f0), .int .i64 ((rd_T67 l0 x24_2).f2.f1), .string ((rd_T67 l0 x24_2).f2.f2)] 67 (0, 0)) (bp_ BK237)) : gb238 ≠ gb237)); clear HO_7; clear BK232; clear BK237; clear HB; have HO_7 := n0_; have BK232 := n1_; have BK237 := n2_; have HB := n3_; have BK238 := n4_; have GW238 := n5_; have GE238 := n6_; have NB232_238 := n7_; have NB238_232 := n8_; have NB237_238 := n9_; have NB238_237 := n10_; clear n0_ n1_ n2_ n3_ n4_ n5_ n6_ n7_ n8_ n9_ n10_; (try clear hcz70_0 hcz70_1 hcz70_2 hcz70_3 hcz70_4 hfz70_0 hfz70_1 hfz70_2 hfz70_3 hfz70_4); clear hb hbox hg; have hnb72 := NB237_238.out; have hnc72 := NB238_237.out; have hcz73_0 : w71.cell? ⟨gb237, 0, none⟩ = some (.int .i64 ((rd_T67 l0 x24_2).f0)) := (blk_cell BK237.out 0).trans rfl; have hcz73_1 : w71.cell? ⟨gb237, 1, none⟩ = some (.string ((rd_T67 l0 x24_2).f1)) := (blk_cell BK237.out 1).trans rfl; have hcz73_2 : w71.cell? ⟨gb237, 2, none⟩ = some (.int .i64 ((rd_T67 l0 x24_2).f2.f0)) := (blk_cell BK237.out 2).trans rfl; have hcz73_3 : w71.cell? ⟨gb237, 3, none⟩ = some (.int .i64 ((rd_T67 l0 x24_2).f2.f1)) := (blk_cell BK237.out 3).trans rfl; have hcz73_4 : w71.cell? ⟨gb237, 4, none⟩ = some (.string ((rd_T67 l0 x24_2).f2.f2)) := (blk_cell BK237.out 4).trans rfl; have hfz73_0 := blk_frozen BK237.out 0; have hfz73_1 := blk_frozen BK237.out 1; have hfz73_2 := blk_frozen BK237.out 2; have hfz73_3 := blk_frozen BK237.out 3; have hfz73_4 := blk_frozen BK237.out 4) | ((with_reducible refine gate_callee (f := 38) rfl ?_); refine goesL_ (some 30) rfl rfl Try.func38 (by kernel_rfl) rfl #[.int .i64 ((rd_T67 l0 x24_2).f0)] rfl ga_ ?_; (with_reducible refine (expr_pushes.calls ((rd_T67 l0 x24_2).f0) false _ A14.out).mono ?_); rintro e w' ⟨rfl, ⟨nd, rfl⟩⟩; refine ⟨_, rfl, ?_⟩; (try (rw [drewN_self w71]; generalize hq_ : World.drewN w71 _ = w71; have n0_ : Aside0 (Kd.R k23 23 w71 w.heap.size (fun k_ => k_ ≠ gb232 ∧ k_ ≠ gb238) u7 x7_2) := ⟨by rw [← hq_]; exact (ku_ HO_7.out)⟩; have n1_ : Aside0 (w71.heap[gb232]? = some (.cells #[.int .i64 x233000_2, .int .i64 x233001_2, .string x233002_2] 23 (0, 0))) := ⟨by rw [← hq_]; exact (bu_ BK232)⟩; have n2_ : Aside0 (w71.heap[gb237]? = some (.cells #[.int .i64 ((rd_T67 l0 x24_2).f0), .string ((rd_T67 l0 x24_2).f1), .int .i64 ((rd_T67 l0 x24_2).f2.f0), .int .i64 ((rd_T67 l0 x24_2).f2.f1), .string ((rd_T67 l0 x24_2).f2.f2)] 67 (0, 0))) := ⟨by rw [← hq_]; exact (bu_ BK237)⟩; have n3_ : Aside0 (w71.heap[gb238]? = some (.cells #[.int .i64 0, .int .i64 0, .string (⟨#[]⟩ : ByteArray)] 23 (0, 0))) := ⟨by rw [← hq_]; exact (bu_ BK238)⟩; have n4_ : Aside0 (Below w.heap.size w w71) := ⟨by rw [← hq_]; exact (be_ HB)⟩; clear HO_7 BK232 BK237 BK238 HB hq_; have HO_7 := n0_; have BK232 := n1_; have BK237 := n2_; have BK238 := n3_; have HB := n4_; clear n0_ n1_ n2_ n3_ n4_)); (try clear hcz73_0 hcz73_1 hcz73_2 hcz73_3 hcz73_4 hfz73_0 hfz73_1 hfz73_2 hfz73_3 hfz73_4); obtain ⟨Ao74, co74, eo74⟩ := Kd.R_slice HO_7.out; subst eo74))
                                have n0_ := Aside0.mk (Kd.R_drew HO_7.out)
                                have n1_ := Aside0.mk (blk_drew BK232.out)
                                have n2_ := Aside0.mk (blk_drew BK237.out)
                                have n3_ := Aside0.mk (blk_drew BK238.out)
                                have n4_ := Aside0.mk (below_drew1 HB.out)
                                clear HO_7
                                clear BK232
                                clear BK237
                                clear BK238
                                clear HB
                                have HO_7 := n0_
                                have BK232 := n1_
                                have BK237 := n2_
                                have BK238 := n3_
                                have HB := n4_
                                clear n0_ n1_ n2_ n3_ n4_
                                have p247 : 0 ≤ ((ji41) : Int) := dt_
                                have q247 : (ji41) < (x7_2.length : Int) := dt_
                                obtain ⟨ad247, e247, hx247_0, hx247_1, hx247_2⟩ := at_T23 (Kd.R_reads' HO_7.out).2.2 (ji41) p247 q247
                                cases e247
                                replace p247 := eq_true p247
                                replace q247 := eq_true q247
                                have p248 : 0 ≤ ((ji44) : Int) := dt_
                                have q248 : (ji44) < (x7_2.length : Int) := dt_
                                obtain ⟨ad248, e248, hx248_0, hx248_1, hx248_2⟩ := at_T23 (Kd.R_reads' HO_7.out).2.2 (ji44) p248 q248
                                obtain rfl : ad247 = ad248 := (by injection e248)
                                replace p248 := eq_true p248
                                replace q248 := eq_true q248
                                refine start_ (n := 17) (S := fun w' => w'.cell? ⟨gb237, 0, none⟩ = some (.int .i64 ((rd_T67 l0 x24_2).f0)) ∧ w'.cell? ⟨gb237, 1, none⟩ = some (.string ((rd_T67 l0 x24_2).f1)) ∧ w'.cell? ⟨gb237, 2, none⟩ = some (.int .i64 ((rd_T67 l0 x24_2).f2.f0)) ∧ w'.cell? ⟨gb237, 3, none⟩ = some (.int .i64 ((rd_T67 l0 x24_2).f2.f1)) ∧ w'.cell? ⟨gb237, 4, none⟩ = some (.string ((rd_T67 l0 x24_2).f2.f2)) ∧ w'.cell? (ad247.add (((ji41)).toNat * 3)) = some (.int .i64 ((rd_T23 x7_2 (ji41)).f0)) ∧ w'.cell? ⟨(ad247.add (((ji41)).toNat * 3)).block, (ad247.add (((ji41)).toNat * 3)).off + 1, none⟩ = some (.int .i64 ((rd_T23 x7_2 (ji41)).f1)) ∧ w'.cell? ⟨(ad247.add (((ji41)).toNat * 3)).block, (ad247.add (((ji41)).toNat * 3)).off + 2, none⟩ = some (.string ((rd_T23 x7_2 (ji41)).f2)) ∧ w'.cell? (ad247.add (((ji44)).toNat * 3)) = some (.int .i64 ((rd_T23 x7_2 (ji44)).f0)) ∧ w'.cell? ⟨(ad247.add (((ji44)).toNat * 3)).block, (ad247.add (((ji44)).toNat * 3)).off + 1, none⟩ = some (.int .i64 ((rd_T23 x7_2 (ji44)).f1)) ∧ w'.cell? ⟨(ad247.add (((ji44)).toNat * 3)).block, (ad247.add (((ji44)).toNat * 3)).off + 2, none⟩ = some (.string ((rd_T23 x7_2 (ji44)).f2))) (ds := []) (mk_ 17 0) (by kernel_rfl) rfl rfl ⟨(blk_cell BK237.out 0).trans rfl, (blk_cell BK237.out 1).trans rfl, (blk_cell BK237.out 2).trans rfl, (blk_cell BK237.out 3).trans rfl, (blk_cell BK237.out 4).trans rfl, hx247_0, hx247_1, hx247_2, hx248_0, hx248_1, hx248_2⟩ (fun hHeld => ?_); refine with_tabW expr_Eval.tab14 expr_Eval.bits14 (fun HT_ HW_ => ?_)
                                generalize w71.drew = w75 at HO_7 BK232 BK237 BK238 HB hx247_0 hx247_1 hx247_2 hx248_0 hx248_1 hx248_2 hHeld ⊢
                                refine pu_ 0 41 1 HT_ ?_; refine pu_ 2 43 5 HT_ ?_; refine pu_ 3 44 13 HT_ ?_; refine pu_ 4 45 29 HT_ ?_; refine pu_ 6 47 93 HT_ ?_; refine pu_ 7 48 221 HT_ ?_; refine pu_ 8 49 477 HT_ ?_; refine pu_ 9 50 989 HT_ ?_; refine tk_ 1 42 991 HT_ HW_ hHeld ?_; refine tk_ 5 46 1023 HT_ HW_ hHeld ?_; refine tk_ 10 51 2047 HT_ HW_ hHeld ?_
                                refine one_ (i := 11) (N := some 52) (mk_ 17 4095) rfl rfl (one_of HT_.out (by kernel_rfl)) (by decide) (fun K hK => ?_)
                                refine goes_ Try.func40 (by kernel_rfl) rfl #[.int .i64 ((rd_T67 l0 x24_2).f0), .agg #[.int .i64 ((rd_T23 x7_2 (ji41)).f0), .int .i64 ((rd_T23 x7_2 (ji41)).f1), .string ((rd_T23 x7_2 (ji41)).f2)], .agg #[.int .i64 ((rd_T23 x7_2 (ji44)).f0), .int .i64 ((rd_T23 x7_2 (ji44)).f1), .string ((rd_T23 x7_2 (ji44)).f2)]] (by rfl) rfl rfl (by (try simp only [List.map_toArray, List.map_cons, List.map_nil]); first | done | (simp only [hji41, hji44]; rfl) | rfl | (simp only [List.length_drop, List.length_take]; rfl)) ?_
                                with_reducible refine (expr_reckon.calls k2 ((rd_T67 l0 x24_2).f0) ((rd_T23 x7_2 (ji41)).f0) ((rd_T23 x7_2 (ji41)).f1) ((rd_T23 x7_2 (ji41)).f2) ((rd_T23 x7_2 (ji44)).f0) ((rd_T23 x7_2 (ji44)).f1) ((rd_T23 x7_2 (ji44)).f2) t249 t250 t251 t252 _ A47.out).mono ?_
                                rintro e w76 ⟨rfl, hb⟩
                                have HS5_ := (hb.cell (World.block_lt_of_cell? _ _ (hHeld.2.2.2.2.2.1))).trans (hHeld.2.2.2.2.2.1)
                                have HS6_ := (hb.cell (World.block_lt_of_cell? _ _ (hHeld.2.2.2.2.2.2.1))).trans (hHeld.2.2.2.2.2.2.1)
                                have HS7_ := (hb.cell (World.block_lt_of_cell? _ _ (hHeld.2.2.2.2.2.2.2.1))).trans (hHeld.2.2.2.2.2.2.2.1)
                                have HS8_ := (hb.cell (World.block_lt_of_cell? _ _ (hHeld.2.2.2.2.2.2.2.2.1))).trans (hHeld.2.2.2.2.2.2.2.2.1)
                                have HS9_ := (hb.cell (World.block_lt_of_cell? _ _ (hHeld.2.2.2.2.2.2.2.2.2.1))).trans (hHeld.2.2.2.2.2.2.2.2.2.1)
                                have HS10_ := (hb.cell (World.block_lt_of_cell? _ _ (hHeld.2.2.2.2.2.2.2.2.2.2))).trans (hHeld.2.2.2.2.2.2.2.2.2.2)
                                refine ⟨_, rfl, ?_⟩
                                have n0_ := kb_ (ku_ HO_7.out) hb
                                have n1_ := bb_ (bu_ BK232) hb
                                have n2_ := bb_ (bu_ BK237) hb
                                have n3_ := bb_ (bu_ BK238) hb
                                have n4_ := bs_ (be_ HB) hb
                                clear HO_7
                                clear BK232
                                clear BK237
                                clear BK238
                                clear HB
                                have HO_7 := n0_
                                have BK232 := n1_
                                have BK237 := n2_
                                have BK238 := n3_
                                have HB := n4_
                                clear n0_ n1_ n2_ n3_ n4_
                                (try clear hb)
                                (try clear hb2)
                                (try clear hk)
                                (try clear hi)
                                refine hK.out _ _ ⟨(blk_cell BK237.out 0).trans rfl, (blk_cell BK237.out 1).trans rfl, (blk_cell BK237.out 2).trans rfl, (blk_cell BK237.out 3).trans rfl, (blk_cell BK237.out 4).trans rfl, HS5_, HS6_, HS7_, HS8_, HS9_, HS10_⟩ (fun hHeld => ?_)
                                clear hK K
                                refine nm_ 52 ?_; refine pu_ 12 40 8191 HT_ ?_; refine pu_ 13 53 16383 HT_ ?_; refine pu_ 14 54 32767 HT_ ?_
                                refine one_ (i := 15) (N := none) (mk_ 17 65535) rfl rfl (one_of HT_.out (by kernel_rfl)) (by decide) (fun K hK => ?_)
                                have hs77 : w76.cell? ⟨gb238, 0, none⟩ = some (.int .i64 0) := (blk_cell BK238.out 0).trans rfl
                                have hfs77 := blk_frozen BK238.out 0
                                have hns77_0 := NB232_238.out
                                have hns77_1 := NB237_238.out
                                have hms77_0 := NB238_232.out
                                have hms77_1 := NB238_237.out
                                have hs78 : w76.cell? ⟨gb238, 1, none⟩ = some (.int .i64 0) := (blk_cell BK238.out 1).trans rfl
                                have hfs78 := blk_frozen BK238.out 1
                                have hns78_0 := NB232_238.out
                                have hns78_1 := NB237_238.out
                                have hms78_0 := NB238_232.out
                                have hms78_1 := NB238_237.out
                                have hs79 : w76.cell? ⟨gb238, 2, none⟩ = some (.string (⟨#[]⟩ : ByteArray)) := (blk_cell BK238.out 2).trans rfl
                                have hfs79 := blk_frozen BK238.out 2
                                have hns79_0 := NB232_238.out
                                have hns79_1 := NB237_238.out
                                have hms79_0 := NB238_232.out
                                have hms79_1 := NB238_237.out
                                refine skip_ (w1 := ?_) (by rfl) rfl ?_ ?_
                                rotate_left
                                · go_simp
                                  rfl
                                refine hK.out _ _ ⟨((cell_far (p := ⟨gb238, _, none⟩) NB237_238.out _).trans (((cell_far (p := ⟨gb238, _, none⟩) NB237_238.out _).trans (((cell_far (p := ⟨gb238, _, none⟩) NB237_238.out _).trans (hHeld.1)))))), ((cell_far (p := ⟨gb238, _, none⟩) NB237_238.out _).trans (((cell_far (p := ⟨gb238, _, none⟩) NB237_238.out _).trans (((cell_far (p := ⟨gb238, _, none⟩) NB237_238.out _).trans (hHeld.2.1)))))), ((cell_far (p := ⟨gb238, _, none⟩) NB237_238.out _).trans (((cell_far (p := ⟨gb238, _, none⟩) NB237_238.out _).trans (((cell_far (p := ⟨gb238, _, none⟩) NB237_238.out _).trans (hHeld.2.2.1)))))), ((cell_far (p := ⟨gb238, _, none⟩) NB237_238.out _).trans (((cell_far (p := ⟨gb238, _, none⟩) NB237_238.out _).trans (((cell_far (p := ⟨gb238, _, none⟩) NB237_238.out _).trans (hHeld.2.2.2.1)))))), ((cell_far (p := ⟨gb238, _, none⟩) NB237_238.out _).trans (((cell_far (p := ⟨gb238, _, none⟩) NB237_238.out _).trans (((cell_far (p := ⟨gb238, _, none⟩) NB237_238.out _).trans (hHeld.2.2.2.2.1)))))), ((cell_far (p := ⟨gb238, _, none⟩) (by first | exact Kd.own_blk (Kd.R_away HO_7.out (fun _ hk => hk.2)) | (rw [add_block]; exact Kd.own_blk (Kd.R_away HO_7.out (fun _ hk => hk.2))) | (show (Addr.add _ _).block ≠ _; rw [add_block]; exact Kd.own_blk (Kd.R_away HO_7.out (fun _ hk => hk.2))) | (dsimp only; exact Kd.own_blk (Kd.R_away HO_7.out (fun _ hk => hk.2)))) _).trans (((cell_far (p := ⟨gb238, _, none⟩) (by first | exact Kd.own_blk (Kd.R_away HO_7.out (fun _ hk => hk.2)) | (rw [add_block]; exact Kd.own_blk (Kd.R_away HO_7.out (fun _ hk => hk.2))) | (show (Addr.add _ _).block ≠ _; rw [add_block]; exact Kd.own_blk (Kd.R_away HO_7.out (fun _ hk => hk.2))) | (dsimp only; exact Kd.own_blk (Kd.R_away HO_7.out (fun _ hk => hk.2)))) _).trans (((cell_far (p := ⟨gb238, _, none⟩) (by first | exact Kd.own_blk (Kd.R_away HO_7.out (fun _ hk => hk.2)) | (rw [add_block]; exact Kd.own_blk (Kd.R_away HO_7.out (fun _ hk => hk.2))) | (show (Addr.add _ _).block ≠ _; rw [add_block]; exact Kd.own_blk (Kd.R_away HO_7.out (fun _ hk => hk.2))) | (dsimp only; exact Kd.own_blk (Kd.R_away HO_7.out (fun _ hk => hk.2)))) _).trans (hHeld.2.2.2.2.2.1)))))), ((cell_far (p := ⟨gb238, _, none⟩) (by first | exact Kd.own_blk (Kd.R_away HO_7.out (fun _ hk => hk.2)) | (rw [add_block]; exact Kd.own_blk (Kd.R_away HO_7.out (fun _ hk => hk.2))) | (show (Addr.add _ _).block ≠ _; rw [add_block]; exact Kd.own_blk (Kd.R_away HO_7.out (fun _ hk => hk.2))) | (dsimp only; exact Kd.own_blk (Kd.R_away HO_7.out (fun _ hk => hk.2)))) _).trans (((cell_far (p := ⟨gb238, _, none⟩) (by first | exact Kd.own_blk (Kd.R_away HO_7.out (fun _ hk => hk.2)) | (rw [add_block]; exact Kd.own_blk (Kd.R_away HO_7.out (fun _ hk => hk.2))) | (show (Addr.add _ _).block ≠ _; rw [add_block]; exact Kd.own_blk (Kd.R_away HO_7.out (fun _ hk => hk.2))) | (dsimp only; exact Kd.own_blk (Kd.R_away HO_7.out (fun _ hk => hk.2)))) _).trans (((cell_far (p := ⟨gb238, _, none⟩) (by first | exact Kd.own_blk (Kd.R_away HO_7.out (fun _ hk => hk.2)) | (rw [add_block]; exact Kd.own_blk (Kd.R_away HO_7.out (fun _ hk => hk.2))) | (show (Addr.add _ _).block ≠ _; rw [add_block]; exact Kd.own_blk (Kd.R_away HO_7.out (fun _ hk => hk.2))) | (dsimp only; exact Kd.own_blk (Kd.R_away HO_7.out (fun _ hk => hk.2)))) _).trans (hHeld.2.2.2.2.2.2.1)))))), ((cell_far (p := ⟨gb238, _, none⟩) (by first | exact Kd.own_blk (Kd.R_away HO_7.out (fun _ hk => hk.2)) | (rw [add_block]; exact Kd.own_blk (Kd.R_away HO_7.out (fun _ hk => hk.2))) | (show (Addr.add _ _).block ≠ _; rw [add_block]; exact Kd.own_blk (Kd.R_away HO_7.out (fun _ hk => hk.2))) | (dsimp only; exact Kd.own_blk (Kd.R_away HO_7.out (fun _ hk => hk.2)))) _).trans (((cell_far (p := ⟨gb238, _, none⟩) (by first | exact Kd.own_blk (Kd.R_away HO_7.out (fun _ hk => hk.2)) | (rw [add_block]; exact Kd.own_blk (Kd.R_away HO_7.out (fun _ hk => hk.2))) | (show (Addr.add _ _).block ≠ _; rw [add_block]; exact Kd.own_blk (Kd.R_away HO_7.out (fun _ hk => hk.2))) | (dsimp only; exact Kd.own_blk (Kd.R_away HO_7.out (fun _ hk => hk.2)))) _).trans (((cell_far (p := ⟨gb238, _, none⟩) (by first | exact Kd.own_blk (Kd.R_away HO_7.out (fun _ hk => hk.2)) | (rw [add_block]; exact Kd.own_blk (Kd.R_away HO_7.out (fun _ hk => hk.2))) | (show (Addr.add _ _).block ≠ _; rw [add_block]; exact Kd.own_blk (Kd.R_away HO_7.out (fun _ hk => hk.2))) | (dsimp only; exact Kd.own_blk (Kd.R_away HO_7.out (fun _ hk => hk.2)))) _).trans (hHeld.2.2.2.2.2.2.2.1)))))), ((cell_far (p := ⟨gb238, _, none⟩) (by first | exact Kd.own_blk (Kd.R_away HO_7.out (fun _ hk => hk.2)) | (rw [add_block]; exact Kd.own_blk (Kd.R_away HO_7.out (fun _ hk => hk.2))) | (show (Addr.add _ _).block ≠ _; rw [add_block]; exact Kd.own_blk (Kd.R_away HO_7.out (fun _ hk => hk.2))) | (dsimp only; exact Kd.own_blk (Kd.R_away HO_7.out (fun _ hk => hk.2)))) _).trans (((cell_far (p := ⟨gb238, _, none⟩) (by first | exact Kd.own_blk (Kd.R_away HO_7.out (fun _ hk => hk.2)) | (rw [add_block]; exact Kd.own_blk (Kd.R_away HO_7.out (fun _ hk => hk.2))) | (show (Addr.add _ _).block ≠ _; rw [add_block]; exact Kd.own_blk (Kd.R_away HO_7.out (fun _ hk => hk.2))) | (dsimp only; exact Kd.own_blk (Kd.R_away HO_7.out (fun _ hk => hk.2)))) _).trans (((cell_far (p := ⟨gb238, _, none⟩) (by first | exact Kd.own_blk (Kd.R_away HO_7.out (fun _ hk => hk.2)) | (rw [add_block]; exact Kd.own_blk (Kd.R_away HO_7.out (fun _ hk => hk.2))) | (show (Addr.add _ _).block ≠ _; rw [add_block]; exact Kd.own_blk (Kd.R_away HO_7.out (fun _ hk => hk.2))) | (dsimp only; exact Kd.own_blk (Kd.R_away HO_7.out (fun _ hk => hk.2)))) _).trans (hHeld.2.2.2.2.2.2.2.2.1)))))), ((cell_far (p := ⟨gb238, _, none⟩) (by first | exact Kd.own_blk (Kd.R_away HO_7.out (fun _ hk => hk.2)) | (rw [add_block]; exact Kd.own_blk (Kd.R_away HO_7.out (fun _ hk => hk.2))) | (show (Addr.add _ _).block ≠ _; rw [add_block]; exact Kd.own_blk (Kd.R_away HO_7.out (fun _ hk => hk.2))) | (dsimp only; exact Kd.own_blk (Kd.R_away HO_7.out (fun _ hk => hk.2)))) _).trans (((cell_far (p := ⟨gb238, _, none⟩) (by first | exact Kd.own_blk (Kd.R_away HO_7.out (fun _ hk => hk.2)) | (rw [add_block]; exact Kd.own_blk (Kd.R_away HO_7.out (fun _ hk => hk.2))) | (show (Addr.add _ _).block ≠ _; rw [add_block]; exact Kd.own_blk (Kd.R_away HO_7.out (fun _ hk => hk.2))) | (dsimp only; exact Kd.own_blk (Kd.R_away HO_7.out (fun _ hk => hk.2)))) _).trans (((cell_far (p := ⟨gb238, _, none⟩) (by first | exact Kd.own_blk (Kd.R_away HO_7.out (fun _ hk => hk.2)) | (rw [add_block]; exact Kd.own_blk (Kd.R_away HO_7.out (fun _ hk => hk.2))) | (show (Addr.add _ _).block ≠ _; rw [add_block]; exact Kd.own_blk (Kd.R_away HO_7.out (fun _ hk => hk.2))) | (dsimp only; exact Kd.own_blk (Kd.R_away HO_7.out (fun _ hk => hk.2)))) _).trans (hHeld.2.2.2.2.2.2.2.2.2.1)))))), ((cell_far (p := ⟨gb238, _, none⟩) (by first | exact Kd.own_blk (Kd.R_away HO_7.out (fun _ hk => hk.2)) | (rw [add_block]; exact Kd.own_blk (Kd.R_away HO_7.out (fun _ hk => hk.2))) | (show (Addr.add _ _).block ≠ _; rw [add_block]; exact Kd.own_blk (Kd.R_away HO_7.out (fun _ hk => hk.2))) | (dsimp only; exact Kd.own_blk (Kd.R_away HO_7.out (fun _ hk => hk.2)))) _).trans (((cell_far (p := ⟨gb238, _, none⟩) (by first | exact Kd.own_blk (Kd.R_away HO_7.out (fun _ hk => hk.2)) | (rw [add_block]; exact Kd.own_blk (Kd.R_away HO_7.out (fun _ hk => hk.2))) | (show (Addr.add _ _).block ≠ _; rw [add_block]; exact Kd.own_blk (Kd.R_away HO_7.out (fun _ hk => hk.2))) | (dsimp only; exact Kd.own_blk (Kd.R_away HO_7.out (fun _ hk => hk.2)))) _).trans (((cell_far (p := ⟨gb238, _, none⟩) (by first | exact Kd.own_blk (Kd.R_away HO_7.out (fun _ hk => hk.2)) | (rw [add_block]; exact Kd.own_blk (Kd.R_away HO_7.out (fun _ hk => hk.2))) | (show (Addr.add _ _).block ≠ _; rw [add_block]; exact Kd.own_blk (Kd.R_away HO_7.out (fun _ hk => hk.2))) | (dsimp only; exact Kd.own_blk (Kd.R_away HO_7.out (fun _ hk => hk.2)))) _).trans (hHeld.2.2.2.2.2.2.2.2.2.2))))))⟩ (fun hHeld => ?_)
                                clear hK K
                                refine pu_ 16 6 131071 HT_ ?_
                                refine done_ (done_of HT_.out (by kernel_rfl)) ?_
                                have n0_ : Aside0 (Kd.R k23 23 (((w76.setCell ⟨gb238, 0, none⟩ (.int .i64 t249)).setCell ⟨gb238, 1, none⟩ (.int .i64 t250)).setCell ⟨gb238, 2, none⟩ (.string t251)) w.heap.size (fun k_ => k_ ≠ gb232 ∧ k_ ≠ gb238) (.slice (some ad247) x7_2.length co74) x7_2) := ⟨by (with_reducible repeat (first | apply Kd.R_alloc | apply Kd.R_drewN | apply Kd.R_drew)); exact Kd.R_mono (Kd.R_far (p := ⟨gb238, 2, none⟩) (Kd.R_far (p := ⟨gb238, 1, none⟩) (Kd.R_far (p := ⟨gb238, 0, none⟩) (Kd.R_mono HO_7.out (fun k_ hk => (⟨hk, hk.2⟩ : _ ∧ k_ ≠ gb238))) (fun _ hk => hk.2) (.int .i64 t249)) (fun _ hk => hk.2) (.int .i64 t250)) (fun _ hk => hk.2) (.string t251)) (fun _ hk => ⟨hk.1.1, hk.1.2⟩)⟩
                                have n1_ : Aside0 ((((w76.setCell ⟨gb238, 0, none⟩ (.int .i64 t249)).setCell ⟨gb238, 1, none⟩ (.int .i64 t250)).setCell ⟨gb238, 2, none⟩ (.string t251)).heap[gb232]? = some (.cells #[.int .i64 x233000_2, .int .i64 x233001_2, .string x233002_2] 23 (0, 0))) := ⟨by (with_reducible repeat (first | refine blk_drewN ?_ _ | refine blk_drew ?_ | refine blk_alloc ?_ _)); refine blk_far ?_ NB232_238.out _; (with_reducible repeat (first | refine blk_drewN ?_ _ | refine blk_drew ?_ | refine blk_alloc ?_ _)); refine blk_far ?_ NB232_238.out _; (with_reducible repeat (first | refine blk_drewN ?_ _ | refine blk_drew ?_ | refine blk_alloc ?_ _)); refine blk_far ?_ NB232_238.out _; (with_reducible repeat (first | refine blk_drewN ?_ _ | refine blk_drew ?_ | refine blk_alloc ?_ _)); exact BK232.out⟩
                                have n2_ : Aside0 ((((w76.setCell ⟨gb238, 0, none⟩ (.int .i64 t249)).setCell ⟨gb238, 1, none⟩ (.int .i64 t250)).setCell ⟨gb238, 2, none⟩ (.string t251)).heap[gb237]? = some (.cells #[.int .i64 ((rd_T67 l0 x24_2).f0), .string ((rd_T67 l0 x24_2).f1), .int .i64 ((rd_T67 l0 x24_2).f2.f0), .int .i64 ((rd_T67 l0 x24_2).f2.f1), .string ((rd_T67 l0 x24_2).f2.f2)] 67 (0, 0))) := ⟨by (with_reducible repeat (first | refine blk_drewN ?_ _ | refine blk_drew ?_ | refine blk_alloc ?_ _)); refine blk_far ?_ NB237_238.out _; (with_reducible repeat (first | refine blk_drewN ?_ _ | refine blk_drew ?_ | refine blk_alloc ?_ _)); refine blk_far ?_ NB237_238.out _; (with_reducible repeat (first | refine blk_drewN ?_ _ | refine blk_drew ?_ | refine blk_alloc ?_ _)); refine blk_far ?_ NB237_238.out _; (with_reducible repeat (first | refine blk_drewN ?_ _ | refine blk_drew ?_ | refine blk_alloc ?_ _)); exact BK237.out⟩
                                have n3_ : Aside0 ((((w76.setCell ⟨gb238, 0, none⟩ (.int .i64 t249)).setCell ⟨gb238, 1, none⟩ (.int .i64 t250)).setCell ⟨gb238, 2, none⟩ (.string t251)).heap[gb238]? = some (.cells #[.int .i64 t249, .int .i64 t250, .string t251] 23 (0, 0))) := ⟨by (with_reducible repeat (first | refine blk_drewN ?_ _ | refine blk_drew ?_ | refine blk_alloc ?_ _)); refine blk_put (cs := #[.int .i64 t249, .int .i64 t250, .string (⟨#[]⟩ : ByteArray)]) ?_ 2 _ rfl; (with_reducible repeat (first | refine blk_drewN ?_ _ | refine blk_drew ?_ | refine blk_alloc ?_ _)); refine blk_put (cs := #[.int .i64 t249, .int .i64 0, .string (⟨#[]⟩ : ByteArray)]) ?_ 1 _ rfl; (with_reducible repeat (first | refine blk_drewN ?_ _ | refine blk_drew ?_ | refine blk_alloc ?_ _)); refine blk_put (cs := #[.int .i64 0, .int .i64 0, .string (⟨#[]⟩ : ByteArray)]) ?_ 0 _ rfl; (with_reducible repeat (first | refine blk_drewN ?_ _ | refine blk_drew ?_ | refine blk_alloc ?_ _)); exact BK238.out⟩
                                have n4_ : Aside0 (Below w.heap.size w (((w76.setCell ⟨gb238, 0, none⟩ (.int .i64 t249)).setCell ⟨gb238, 1, none⟩ (.int .i64 t250)).setCell ⟨gb238, 2, none⟩ (.string t251))) := ⟨by repeat (first | (with_reducible first | exact HB.out | apply below_alloc | apply pw_below_drewN | apply below_drew1 | refine below_set ?_ GE232.out | refine below_set ?_ GE237.out | refine below_set ?_ GE238.out) | exact HB.out)⟩
                                (try clear HO_7)
                                (try clear BK232)
                                (try clear BK237)
                                (try clear BK238)
                                (try clear HB)
                                generalize (((w76.setCell ⟨gb238, 0, none⟩ (.int .i64 t249)).setCell ⟨gb238, 1, none⟩ (.int .i64 t250)).setCell ⟨gb238, 2, none⟩ (.string t251)) = w80 at n0_ n1_ n2_ n3_ n4_ ⊢
                                have HO_7 := n0_
                                have BK232 := n1_
                                have BK237 := n2_
                                have BK238 := n3_
                                have HB := n4_
                                clear n0_ n1_ n2_ n3_ n4_
                                have q81 : ((ji41) : Int) ≤ ((x7_2.length : Int) : Int) := dt_
                                obtain ⟨i081, hi081, _, hsz81, _⟩ := info_parts info23
                                have hcut81 := cut_to (P := Try.prog) 69 23 .i64 Try.underlying69 hi081 (some ad247) x7_2.length co74 (ji41) dt_ q81 (Kd.R_reads' HO_7.out).2.1
                                have hr81 := Kd.R_take (m := ((ji41) : Int).toNat) HO_7.out (by omega)
                                have hy81 : y253.length = ((ji41) : Int).toNat := (by rw [Ny253.out, List.length_take]; omega)
                                rw [← Ny253.out] at hr81
                                rw [← hy81] at hr81 hcut81
                                clear hy81 hi081 hsz81 HO_7
                                have HO255 := Aside0.mk hr81
                                clear hr81
                                replace q81 := eq_true q81
                                have hnb82 := NB232_238.out
                                have hnc82 := NB238_232.out
                                have hcz83_0 : w80.cell? ⟨gb232, 0, none⟩ = some (.int .i64 x233000_2) := (blk_cell BK232.out 0).trans rfl
                                have hcz83_1 : w80.cell? ⟨gb232, 1, none⟩ = some (.int .i64 x233001_2) := (blk_cell BK232.out 1).trans rfl
                                have hcz83_2 : w80.cell? ⟨gb232, 2, none⟩ = some (.string x233002_2) := (blk_cell BK232.out 2).trans rfl
                                have hfz83_0 := blk_frozen BK232.out 0
                                have hfz83_1 := blk_frozen BK232.out 1
                                have hfz83_2 := blk_frozen BK232.out 2
                                try go_wp2
                                refine bodyPost_ret (results_ct rfl _ _ gb232 23 #[.int .i64 0, .int .i64 0, .string (⟨#[]⟩ : ByteArray)] (0, 0) _ rfl (bp_ BK232) Try.underlying23 rfl (by kernel_rfl)) rfl ?_
                                exact ⟨by first | rfl | (simp [errW_none, errW_some] <;> rfl) | (simp only [← hji41, ← hji44]; first | rfl | (simp [errW_none, errW_some] <;> rfl)) | (simp [*, errW_none, errW_some] <;> rfl), by repeat (first | (with_reducible first | exact HB.out | apply below_alloc | apply pw_below_drewN | apply below_drew1 | refine below_set ?_ GE232.out | refine below_set ?_ GE237.out | refine below_set ?_ GE238.out) | exact HB.out)⟩
                            · rw [if_neg c48] at H
                              exact absurd H (by simp)
                          · rw [if_neg c46] at H
                            exact absurd H (by simp)
                        · rw [if_neg c45] at H
                          exact absurd H (by simp)
                      · rw [if_neg c43] at H
                        exact absurd H (by simp)
                    · rw [if_neg c42] at H
                      exact absurd H (by simp)
                · rw [if_neg c13] at H
                  exact absurd H (by simp)
              · rw [if_neg c12] at H
                exact absurd H (by simp)
            · rw [if_neg c11] at H
              have c11b0 : decide (x24_2 < (l0.length : Int)) = false := decide_eq_false c11
              clear c11
              by_cases c84 : 0 < (x7_2.length : Int)
              · rw [if_pos c84] at H
                have c84b0 : decide (0 < (x7_2.length : Int)) = true := decide_eq_true c84
                have c84b1 : decide (0 < x7_2.length) = true := decide_eq_true (by omega)
                clear c84
                simp only [Option.some.injEq, Prod.mk.injEq] at H
                obtain ⟨rfl, rfl, rfl, rfl⟩ := H
                obtain ⟨Ao85, co85, eo85⟩ := Kd.R_slice HO_7.out
                subst eo85
                have p235 : 0 ≤ (0 : Int) := (by omega)
                have q235 : 0 < (x7_2.length : Int) := dt_
                obtain ⟨ad235, e235, hx235_0, hx235_1, hx235_2⟩ := at_T23 (Kd.R_reads' HO_7.out).2.2 0 p235 q235
                cases e235
                have qi235 : (0 < x7_2.length) = True := eq_true (by omega)
                (try rw [show ((0 : Int)).toNat = 0 from rfl] at hx235_0)
                (try rw [show 0 * 3 = 0 from rfl] at hx235_0)
                (try rw [Addr.add_zero'] at hx235_0)
                (try rw [show ((0 : Int)).toNat = 0 from rfl] at hx235_1)
                (try rw [show 0 * 3 = 0 from rfl] at hx235_1)
                (try rw [Addr.add_zero'] at hx235_1)
                (try rw [show ((0 : Int)).toNat = 0 from rfl] at hx235_2)
                (try rw [show 0 * 3 = 0 from rfl] at hx235_2)
                (try rw [Addr.add_zero'] at hx235_2)
                replace p235 := eq_true p235
                replace q235 := eq_true q235
                have hcz86_0 : wr.cell? ⟨gb232, 0, none⟩ = some (.int .i64 x233000_2) := (blk_cell BK232.out 0).trans rfl
                have hcz86_1 : wr.cell? ⟨gb232, 1, none⟩ = some (.int .i64 x233001_2) := (blk_cell BK232.out 1).trans rfl
                have hcz86_2 : wr.cell? ⟨gb232, 2, none⟩ = some (.string x233002_2) := (blk_cell BK232.out 2).trans rfl
                have hfz86_0 := blk_frozen BK232.out 0
                have hfz86_1 := blk_frozen BK232.out 1
                have hfz86_2 := blk_frozen BK232.out 2
                go_wp2
                refine bodyPost_ret (results_ct rfl _ _ gb232 23 #[.int .i64 ((rd_T23 x7_2 0).f0), .int .i64 ((rd_T23 x7_2 0).f1), .string ((rd_T23 x7_2 0).f2)] (0, 0) _ rfl (bp_ BK232) Try.underlying23 rfl (by kernel_rfl)) rfl ?_
                exact ⟨by first | rfl | (simp [errW_none, errW_some] <;> rfl) | (simp [*, errW_none, errW_some] <;> rfl), by repeat (first | (with_reducible first | exact HB.out | apply below_alloc | apply pw_below_drewN | apply below_drew1 | refine below_set ?_ GE232.out) | exact HB.out)⟩
              · rw [if_neg c84] at H
                exact absurd H (by simp)
      · rw [if_neg c10] at H
        obtain ⟨c10b0, c10b1⟩ := neB_ c10
        simp only [Option.some.injEq, Prod.mk.injEq] at H
        obtain ⟨rfl, rfl, rfl, rfl⟩ := H
        have hcz87_0 : wc.cell? ⟨gb232, 0, none⟩ = some (.int .i64 0) := (blk_cell BK232.out 0).trans rfl
        have hcz87_1 : wc.cell? ⟨gb232, 1, none⟩ = some (.int .i64 0) := (blk_cell BK232.out 1).trans rfl
        have hcz87_2 : wc.cell? ⟨gb232, 2, none⟩ = some (.string (⟨#[]⟩ : ByteArray)) := (blk_cell BK232.out 2).trans rfl
        have hfz87_0 := blk_frozen BK232.out 0
        have hfz87_1 := blk_frozen BK232.out 1
        have hfz87_2 := blk_frozen BK232.out 2
        go_wp2
        refine bodyPost_ret (results_ct rfl _ _ gb232 23 #[.int .i64 0, .int .i64 0, .string (⟨#[]⟩ : ByteArray)] (0, 0) _ rfl (bp_ BK232) Try.underlying23 rfl (by kernel_rfl)) rfl ?_
        exact ⟨by first | rfl | (simp [errW_none, errW_some] <;> rfl) | (simp [*, errW_none, errW_some] <;> rfl), by repeat (first | (with_reducible first | exact HB.out | apply below_alloc | apply pw_below_drewN | apply below_drew1 | refine below_set ?_ GE232.out) | exact HB.out)⟩
end Go.Proofs.Ytaopajmpifenoaa.P
end
section
namespace Go.Proofs.Ytaopajmpifenoaa.P
open Go.RowKit Go.Proofs.YtaopajmpifenoaaW.PrintWords Go.Proofs.YtaopajmpifenoaaW.PrintLast Go.Proofs.YtaopajmpifenoaaW.PrintMore
attribute [local go_sem] max2_int min2_int max_two min_two max_three min_three max_four min_four
set_option linter.unusedVariables false
set_option linter.unusedSimpArgs false
def guard_Eval.f (k : Nat) (a0_0 : Int) (a0_1 : ByteArray) (l0_2 : List (S72)) (a0_3 : Int) (l0_4 : List (S67)) (l0_5 : List (S67)) (l1 : List (S54)) : Option (Bool × Int) := (guard_Check.f k a0_0 a0_1 l0_2 a0_3 l0_4 l0_5).bind fun t260 => (if t260 = 0 then ((expr_Eval.f k l0_4 l1).bind fun bt261 => (if bt261.2.2.2 = 0 then ((expr_Eval.f k l0_5 l1).bind fun bt266 => (if bt266.2.2.2 = 0 then ((guard_Holds.f k a0_3 bt261.1 bt261.2.1 bt261.2.2.1 bt266.1 bt266.2.1 bt266.2.2.1).bind fun bt271 => (some (bt271.1, bt271.2))) else (some (false, bt266.2.2.2)))) else (some (false, bt261.2.2.2)))) else (some (false, t260)))
theorem guard_Eval.mono : ∀ a0 a1 a2 a3 a4 a5 a6 k, LeO (guard_Eval.f k a0 a1 a2 a3 a4 a5 a6) (guard_Eval.f (k + 1) a0 a1 a2 a3 a4 a5 a6) := by
  intro a0 a1 a2 a3 a4 a5 a6 k
  unfold guard_Eval.f
  repeat' first
      | (with_reducible exact expr_Eval.mono _ _ _)
      | (with_reducible exact guard_Check.mono _ _ _ _ _ _ _)
      | (with_reducible exact guard_Holds.mono _ _ _ _ _ _ _ _)
      | (with_reducible exact LeO.refl _)
      | (with_reducible exact LeO.none _)
      | (with_reducible refine LeO.ite ?_ ?_)
      | (with_reducible refine LeO.bind ?_ (fun _ => ?_))
      | exact expr_Eval.mono _ _ _
      | exact guard_Check.mono _ _ _ _ _ _ _
      | exact guard_Holds.mono _ _ _ _ _ _ _ _
      | exact LeO.none _
      | refine LeO.ite ?_ ?_
      | refine LeO.bind ?_ (fun _ => ?_)
set_option maxHeartbeats 8000000 in
set_option maxRecDepth 100000 in
theorem guard_Eval.calls (k : Nat) (a0_0 : Int) (a0_1 : ByteArray) (A0_2 : Option Addr) (c0_2 : Nat) (l0_2 : List (S72)) (a0_3 : Int) (A0_4 : Option Addr) (c0_4 : Nat) (l0_4 : List (S67)) (A0_5 : Option Addr) (c0_5 : Nat) (l0_5 : List (S67)) (A1 : Option Addr) (c1 : Nat) (l1 : List (S54)) (r1 : Bool) (r2 : Int) (w : World) (hr0_2 : Kd.C k72 w A0_2 l0_2.length l0_2) (hc0_2 : l0_2.length ≤ c0_2) (hr0_4 : Kd.C k67 w A0_4 l0_4.length l0_4) (hc0_4 : l0_4.length ≤ c0_4) (hr0_5 : Kd.C k67 w A0_5 l0_5.length l0_5) (hc0_5 : l0_5.length ≤ c0_5) (hr1 : Kd.C k54 w A1 l1.length l1) (hc1 : l1.length ≤ c1) (h : guard_Eval.f k a0_0 a0_1 l0_2 a0_3 l0_4 l0_5 l1 = some (r1, r2)) :
    Calls Try.prog 12 #[.agg #[.int .i64 a0_0, .string a0_1, .slice A0_2 l0_2.length c0_2, .int .i64 a0_3, .slice A0_4 l0_4.length c0_4, .slice A0_5 l0_5.length c0_5], .slice A1 l1.length c1] w fun e w' => e = .returned (.tuple #[.bool r1, .int .i64 r2]) ∧ Below w.heap.size w w' := by
  have hu29 := Try.underlying29
  have hu23 := Try.underlying23
  have HR0_2 := Aside0.mk hr0_2
  have HC0_2 := Aside0.mk hc0_2
  clear hr0_2 hc0_2
  have HR0_4 := Aside0.mk hr0_4
  have HC0_4 := Aside0.mk hc0_4
  clear hr0_4 hc0_4
  have HR0_5 := Aside0.mk hr0_5
  have HC0_5 := Aside0.mk hc0_5
  clear hr0_5 hc0_5
  have HR1 := Aside0.mk hr1
  have HC1 := Aside0.mk hc1
  clear hr1 hc1
  have HB := Aside0.mk (Below.refl w.heap.size w)
  have H : ((guard_Check.f k a0_0 a0_1 l0_2 a0_3 l0_4 l0_5).bind fun t260 => (if t260 = 0 then ((expr_Eval.f k l0_4 l1).bind fun bt261 => (if bt261.2.2.2 = 0 then ((expr_Eval.f k l0_5 l1).bind fun bt266 => (if bt266.2.2.2 = 0 then ((guard_Holds.f k a0_3 bt261.1 bt261.2.1 bt261.2.2.1 bt266.1 bt266.2.1 bt266.2.2.1).bind fun bt271 => (some (bt271.1, bt271.2))) else (some (false, bt266.2.2.2)))) else (some (false, bt261.2.2.2)))) else (some (false, t260)))) = some (r1, r2) := h
  clear h
  replace H := Option.bind_eq_some_iff.mp H
  obtain ⟨t260, A30, H⟩ := H
  replace H : (if t260 = 0 then ((expr_Eval.f k l0_4 l1).bind fun bt261 => (if bt261.2.2.2 = 0 then ((expr_Eval.f k l0_5 l1).bind fun bt266 => (if bt266.2.2.2 = 0 then ((guard_Holds.f k a0_3 bt261.1 bt261.2.1 bt261.2.2.1 bt266.1 bt266.2.1 bt266.2.2.1).bind fun bt271 => (some (bt271.1, bt271.2))) else (some (false, bt266.2.2.2)))) else (some (false, bt261.2.2.2)))) else (some (false, t260))) = some (r1, r2) := H
  have A3 := Aside0.mk A30
  clear A30
  by_cases c4 : t260 = 0
  · rw [if_pos c4] at H
    obtain ⟨c4b0, c4b1⟩ := eqB_ c4
    clear c4
    replace H := Option.bind_eq_some_iff.mp H
    obtain ⟨⟨t261, t262, t263, t264⟩, A50, H⟩ := H
    replace H : (if t264 = 0 then ((expr_Eval.f k l0_5 l1).bind fun bt266 => (if bt266.2.2.2 = 0 then ((guard_Holds.f k a0_3 t261 t262 t263 bt266.1 bt266.2.1 bt266.2.2.1).bind fun bt271 => (some (bt271.1, bt271.2))) else (some (false, bt266.2.2.2)))) else (some (false, t264))) = some (r1, r2) := H
    have A5 := Aside0.mk A50
    clear A50
    by_cases c6 : t264 = 0
    · rw [if_pos c6] at H
      obtain ⟨c6b0, c6b1⟩ := eqB_ c6
      clear c6
      replace H := Option.bind_eq_some_iff.mp H
      obtain ⟨⟨t266, t267, t268, t269⟩, A70, H⟩ := H
      replace H : (if t269 = 0 then ((guard_Holds.f k a0_3 t261 t262 t263 t266 t267 t268).bind fun bt271 => (some (bt271.1, bt271.2))) else (some (false, t269))) = some (r1, r2) := H
      have A7 := Aside0.mk A70
      clear A70
      by_cases c8 : t269 = 0
      · rw [if_pos c8] at H
        obtain ⟨c8b0, c8b1⟩ := eqB_ c8
        clear c8
        replace H := Option.bind_eq_some_iff.mp H
        obtain ⟨⟨t271, t272⟩, A90, H⟩ := H
        replace H : (some (t271, t272)) = some (r1, r2) := H
        have A9 := Aside0.mk A90
        clear A90
        simp only [Option.some.injEq, Prod.mk.injEq] at H
        obtain ⟨rfl, rfl⟩ := H
        go_enter Try.func12, Try.ntmps12
        go_wp2_with (first | ((with_reducible refine gate_dst (N := 2) rfl ?_); refine box_event ?hg (N := 2) ?hd (cs := #[.int .i64 a0_0, .string a0_1, .slice A0_2 l0_2.length c0_2, .int .i64 a0_3, .slice A0_4 l0_4.length c0_4, .slice A0_5 l0_5.length c0_5]) (t := 29) ?hr ?_; (case hd => rfl); (case hg => rfl); (case hr => first | (go_simp; done) | (go_simp; rfl)); intro gb259 hg w10 hbox hb; have n0_ := bs_ (be_ HB) hb; have n1_ := Aside0.mk (hbox); have n2_ := gs_ hg (be_ HB); have n3_ := gs_ hg (be_ HB); clear HB; have HB := n0_; have BK259 := n1_; have GW259 := n2_; have GE259 := n3_; clear n0_ n1_ n2_ n3_; clear hb hbox hg; have hcz11_0 : w10.cell? ⟨gb259, 0, none⟩ = some (.int .i64 a0_0) := (blk_cell BK259.out 0).trans rfl; have hcz11_1 : w10.cell? ⟨gb259, 1, none⟩ = some (.string a0_1) := (blk_cell BK259.out 1).trans rfl; have hcz11_2 : w10.cell? ⟨gb259, 2, none⟩ = some (.slice A0_2 l0_2.length c0_2) := (blk_cell BK259.out 2).trans rfl; have hcz11_3 : w10.cell? ⟨gb259, 3, none⟩ = some (.int .i64 a0_3) := (blk_cell BK259.out 3).trans rfl; have hcz11_4 : w10.cell? ⟨gb259, 4, none⟩ = some (.slice A0_4 l0_4.length c0_4) := (blk_cell BK259.out 4).trans rfl; have hcz11_5 : w10.cell? ⟨gb259, 5, none⟩ = some (.slice A0_5 l0_5.length c0_5) := (blk_cell BK259.out 5).trans rfl; have hfz11_0 := blk_frozen BK259.out 0; have hfz11_1 := blk_frozen BK259.out 1; have hfz11_2 := blk_frozen BK259.out 2; have hfz11_3 := blk_frozen BK259.out 3; have hfz11_4 := blk_frozen BK259.out 4; have hfz11_5 := blk_frozen BK259.out 5) | ((with_reducible refine gate_callee (f := 15) rfl ?_); refine goesL_ (some 10) rfl rfl Try.func15 (by kernel_rfl) rfl #[.agg #[.int .i64 a0_0, .string a0_1, .slice A0_2 l0_2.length c0_2, .int .i64 a0_3, .slice A0_4 l0_4.length c0_4, .slice A0_5 l0_5.length c0_5]] rfl ga_ ?_; (with_reducible refine (guard_Check.calls k a0_0 a0_1 _ _ l0_2 a0_3 _ _ l0_4 _ _ l0_5 t260 _ ?side1 ?side2 ?side3 ?side4 ?side5 ?side6 A3.out).mono ?_); (case side1 => repeat (first | exact (Kd.C_below HR0_2.out HB.out) | (with_reducible refine Kd.C_alloc ?_ _) | (with_reducible refine Kd.C_drewN ?_ _) | (with_reducible refine Kd.C_drew ?_))); (case side2 => exact HC0_2.out); (case side3 => repeat (first | exact (Kd.C_below HR0_4.out HB.out) | (with_reducible refine Kd.C_alloc ?_ _) | (with_reducible refine Kd.C_drewN ?_ _) | (with_reducible refine Kd.C_drew ?_))); (case side4 => exact HC0_4.out); (case side5 => repeat (first | exact (Kd.C_below HR0_5.out HB.out) | (with_reducible refine Kd.C_alloc ?_ _) | (with_reducible refine Kd.C_drewN ?_ _) | (with_reducible refine Kd.C_drew ?_))); (case side6 => exact HC0_5.out); rintro e w12 ⟨rfl, hb⟩; refine ⟨_, rfl, ?_⟩; have n0_ := bb_ (bu_ BK259) hb; have n1_ := bs_ (be_ HB) hb; clear BK259; clear HB; have BK259 := n0_; have HB := n1_; clear n0_ n1_; (try clear hcz11_0 hcz11_1 hcz11_2 hcz11_3 hcz11_4 hcz11_5 hfz11_0 hfz11_1 hfz11_2 hfz11_3 hfz11_4 hfz11_5); (try clear hb); (try clear hb2); (try clear hk); (try clear hi); have hcz13_0 : w12.cell? ⟨gb259, 0, none⟩ = some (.int .i64 a0_0) := (blk_cell BK259.out 0).trans rfl; have hcz13_1 : w12.cell? ⟨gb259, 1, none⟩ = some (.string a0_1) := (blk_cell BK259.out 1).trans rfl; have hcz13_2 : w12.cell? ⟨gb259, 2, none⟩ = some (.slice A0_2 l0_2.length c0_2) := (blk_cell BK259.out 2).trans rfl; have hcz13_3 : w12.cell? ⟨gb259, 3, none⟩ = some (.int .i64 a0_3) := (blk_cell BK259.out 3).trans rfl; have hcz13_4 : w12.cell? ⟨gb259, 4, none⟩ = some (.slice A0_4 l0_4.length c0_4) := (blk_cell BK259.out 4).trans rfl; have hcz13_5 : w12.cell? ⟨gb259, 5, none⟩ = some (.slice A0_5 l0_5.length c0_5) := (blk_cell BK259.out 5).trans rfl; have hfz13_0 := blk_frozen BK259.out 0; have hfz13_1 := blk_frozen BK259.out 1; have hfz13_2 := blk_frozen BK259.out 2; have hfz13_3 := blk_frozen BK259.out 3; have hfz13_4 := blk_frozen BK259.out 4; have hfz13_5 := blk_frozen BK259.out 5) | ((with_reducible refine gate_callee (f := 22) rfl ?_); refine goesL_ (some 18) rfl rfl Try.func22 (by kernel_rfl) rfl #[.slice A0_4 l0_4.length c0_4, .slice A1 l1.length c1] rfl ga_ ?_; (with_reducible refine (expr_Eval.calls k _ _ l0_4 _ _ l1 t261 t262 t263 t264 _ ?side1 ?side2 ?side3 ?side4 A5.out).mono ?_); (case side1 => repeat (first | exact (Kd.C_below HR0_4.out HB.out) | (with_reducible refine Kd.C_alloc ?_ _) | (with_reducible refine Kd.C_drewN ?_ _) | (with_reducible refine Kd.C_drew ?_))); (case side2 => exact HC0_4.out); (case side3 => repeat (first | exact (Kd.C_below HR1.out HB.out) | (with_reducible refine Kd.C_alloc ?_ _) | (with_reducible refine Kd.C_drewN ?_ _) | (with_reducible refine Kd.C_drew ?_))); (case side4 => exact HC1.out); rintro e w14 ⟨rfl, hb⟩; refine ⟨_, rfl, ?_⟩; have n0_ := bb_ (bu_ BK259) hb; have n1_ := bs_ (be_ HB) hb; clear BK259; clear HB; have BK259 := n0_; have HB := n1_; clear n0_ n1_; (try clear hcz13_0 hcz13_1 hcz13_2 hcz13_3 hcz13_4 hcz13_5 hfz13_0 hfz13_1 hfz13_2 hfz13_3 hfz13_4 hfz13_5); (try clear hb); (try clear hb2); (try clear hk); (try clear hi)) | ((with_reducible refine gate_dst (N := 7) rfl ?_); refine box_event ?hg (N := 7) ?hd (cs := #[.int .i64 0, .int .i64 0, .string (⟨#[]⟩ : ByteArray)]) (t := 23) ?hr ?_; (case hd => rfl); (case hg => rfl); (case hr => first | (go_simp; done) | (go_simp; rfl)); intro gb265 hg w15 hbox hb; have n0_ := bb_ (bu_ BK259) hb; have n1_ := bs_ (be_ HB) hb; have n2_ := Aside0.mk (hbox); have n3_ := gs_ hg (be_ HB); have n4_ := gs_ hg (be_ HB); have n5_ := nl_ hg (bu_ BK259); have n6_ := ng_ hg (bu_ BK259); clear BK259; clear HB; have BK259 := n0_; have HB := n1_; have BK265 := n2_; have GW265 := n3_; have GE265 := n4_; have NB259_265 := n5_; have NB265_259 := n6_; clear n0_ n1_ n2_ n3_ n4_ n5_ n6_; clear hb hbox hg; have hnb16 := NB265_259.out; have hnc16 := NB259_265.out; have hcz17_0 : w15.cell? ⟨gb265, 0, none⟩ = some (.int .i64 0) := (blk_cell BK265.out 0).trans rfl; have hcz17_1 : w15.cell? ⟨gb265, 1, none⟩ = some (.int .i64 0) := (blk_cell BK265.out 1).trans rfl; have hcz17_2 : w15.cell? ⟨gb265, 2, none⟩ = some (.string (⟨#[]⟩ : ByteArray)) := (blk_cell BK265.out 2).trans rfl; have hfz17_0 := blk_frozen BK265.out 0; have hfz17_1 := blk_frozen BK265.out 1; have hfz17_2 := blk_frozen BK265.out 2; have hcz18_0 : w15.cell? ⟨gb259, 0, none⟩ = some (.int .i64 a0_0) := (blk_cell BK259.out 0).trans rfl; have hcz18_1 : w15.cell? ⟨gb259, 1, none⟩ = some (.string a0_1) := (blk_cell BK259.out 1).trans rfl; have hcz18_2 : w15.cell? ⟨gb259, 2, none⟩ = some (.slice A0_2 l0_2.length c0_2) := (blk_cell BK259.out 2).trans rfl; have hcz18_3 : w15.cell? ⟨gb259, 3, none⟩ = some (.int .i64 a0_3) := (blk_cell BK259.out 3).trans rfl; have hcz18_4 : w15.cell? ⟨gb259, 4, none⟩ = some (.slice A0_4 l0_4.length c0_4) := (blk_cell BK259.out 4).trans rfl; have hcz18_5 : w15.cell? ⟨gb259, 5, none⟩ = some (.slice A0_5 l0_5.length c0_5) := (blk_cell BK259.out 5).trans rfl; have hfz18_0 := blk_frozen BK259.out 0; have hfz18_1 := blk_frozen BK259.out 1; have hfz18_2 := blk_frozen BK259.out 2; have hfz18_3 := blk_frozen BK259.out 3; have hfz18_4 := blk_frozen BK259.out 4; have hfz18_5 := blk_frozen BK259.out 5) | ((with_reducible refine gate_callee (f := 22) rfl ?_); refine goesL_ (some 28) rfl rfl Try.func22 (by kernel_rfl) rfl #[.slice A0_5 l0_5.length c0_5, .slice A1 l1.length c1] rfl ga_ ?_; (with_reducible refine (expr_Eval.calls k _ _ l0_5 _ _ l1 t266 t267 t268 t269 _ ?side1 ?side2 ?side3 ?side4 A7.out).mono ?_); (case side1 => exact Kd.C_below HR0_5.out (be_ HB)); (case side2 => exact HC0_5.out); (case side3 => exact Kd.C_below HR1.out (be_ HB)); (case side4 => exact HC1.out); rintro e w19 ⟨rfl, hb⟩; refine ⟨_, rfl, ?_⟩; have n0_ := bb_ (bu_ BK259) hb; have n1_ := Aside0.mk (blk_below (o := .cells #[.int .i64 t261, .int .i64 t262, .string t263] 23 (0, 0)) (bp_ BK265) hb); have n2_ := bs_ (be_ HB) hb; clear BK259; clear BK265; clear HB; have BK259 := n0_; have BK265 := n1_; have HB := n2_; clear n0_ n1_ n2_; (try clear hcz17_0 hcz17_1 hcz17_2 hfz17_0 hfz17_1 hfz17_2 hcz18_0 hcz18_1 hcz18_2 hcz18_3 hcz18_4 hcz18_5 hfz18_0 hfz18_1 hfz18_2 hfz18_3 hfz18_4 hfz18_5); (try clear hb); (try clear hb2); (try clear hk); (try clear hi)) | ((with_reducible refine gate_dst (N := 8) rfl ?_); refine box_event ?hg (N := 8) ?hd (cs := #[.int .i64 0, .int .i64 0, .string (⟨#[]⟩ : ByteArray)]) (t := 23) ?hr ?_; (case hd => rfl); (case hg => rfl); (case hr => first | (go_simp; done) | (go_simp; rfl)); intro gb270 hg w20 hbox hb; have n0_ := bb_ (bu_ BK259) hb; have n1_ := bb_ (bu_ BK265) hb; have n2_ := bs_ (be_ HB) hb; have n3_ := Aside0.mk (hbox); have n4_ := gs_ hg (be_ HB); have n5_ := gs_ hg (be_ HB); have n6_ := nl_ hg (bu_ BK259); have n7_ := ng_ hg (bu_ BK259); have n8_ := nl_ hg (bu_ BK265); have n9_ := ng_ hg (bu_ BK265); clear BK259; clear BK265; clear HB; have BK259 := n0_; have BK265 := n1_; have HB := n2_; have BK270 := n3_; have GW270 := n4_; have GE270 := n5_; have NB259_270 := n6_; have NB270_259 := n7_; have NB265_270 := n8_; have NB270_265 := n9_; clear n0_ n1_ n2_ n3_ n4_ n5_ n6_ n7_ n8_ n9_; clear hb hbox hg; have hnb21 := NB270_259.out; have hnc21 := NB259_270.out; have hnb22 := NB270_265.out; have hnc22 := NB265_270.out; have hcz23_0 : w20.cell? ⟨gb270, 0, none⟩ = some (.int .i64 0) := (blk_cell BK270.out 0).trans rfl; have hcz23_1 : w20.cell? ⟨gb270, 1, none⟩ = some (.int .i64 0) := (blk_cell BK270.out 1).trans rfl; have hcz23_2 : w20.cell? ⟨gb270, 2, none⟩ = some (.string (⟨#[]⟩ : ByteArray)) := (blk_cell BK270.out 2).trans rfl; have hfz23_0 := blk_frozen BK270.out 0; have hfz23_1 := blk_frozen BK270.out 1; have hfz23_2 := blk_frozen BK270.out 2; have hcz24_0 : w20.cell? ⟨gb259, 0, none⟩ = some (.int .i64 a0_0) := (blk_cell BK259.out 0).trans rfl; have hcz24_1 : w20.cell? ⟨gb259, 1, none⟩ = some (.string a0_1) := (blk_cell BK259.out 1).trans rfl; have hcz24_2 : w20.cell? ⟨gb259, 2, none⟩ = some (.slice A0_2 l0_2.length c0_2) := (blk_cell BK259.out 2).trans rfl; have hcz24_3 : w20.cell? ⟨gb259, 3, none⟩ = some (.int .i64 a0_3) := (blk_cell BK259.out 3).trans rfl; have hcz24_4 : w20.cell? ⟨gb259, 4, none⟩ = some (.slice A0_4 l0_4.length c0_4) := (blk_cell BK259.out 4).trans rfl; have hcz24_5 : w20.cell? ⟨gb259, 5, none⟩ = some (.slice A0_5 l0_5.length c0_5) := (blk_cell BK259.out 5).trans rfl; have hfz24_0 := blk_frozen BK259.out 0; have hfz24_1 := blk_frozen BK259.out 1; have hfz24_2 := blk_frozen BK259.out 2; have hfz24_3 := blk_frozen BK259.out 3; have hfz24_4 := blk_frozen BK259.out 4; have hfz24_5 := blk_frozen BK259.out 5; have hcz25_0 : w20.cell? ⟨gb265, 0, none⟩ = some (.int .i64 t261) := (blk_cell BK265.out 0).trans rfl; have hcz25_1 : w20.cell? ⟨gb265, 1, none⟩ = some (.int .i64 t262) := (blk_cell BK265.out 1).trans rfl; have hcz25_2 : w20.cell? ⟨gb265, 2, none⟩ = some (.string t263) := (blk_cell BK265.out 2).trans rfl; have hfz25_0 := blk_frozen BK265.out 0; have hfz25_1 := blk_frozen BK265.out 1; have hfz25_2 := blk_frozen BK265.out 2) | ((with_reducible refine gate_callee (f := 10) rfl ?_); refine goesL_ (some 38) rfl rfl Try.func10 (by kernel_rfl) rfl #[.int .i64 a0_3, .agg #[.int .i64 t261, .int .i64 t262, .string t263], .agg #[.int .i64 t266, .int .i64 t267, .string t268]] rfl ga_ ?_; (with_reducible refine (guard_Holds.calls k a0_3 t261 t262 t263 t266 t267 t268 t271 t272 _ A9.out).mono ?_); rintro e w26 ⟨rfl, hb⟩; refine ⟨_, rfl, ?_⟩; have n0_ := bb_ (bu_ BK259) hb; have n1_ := bb_ (bu_ BK265) hb; have n2_ := Aside0.mk (blk_below (o := .cells #[.int .i64 t266, .int .i64 t267, .string t268] 23 (0, 0)) (bp_ BK270) hb); have n3_ := bs_ (be_ HB) hb; clear BK259; clear BK265; clear BK270; clear HB; have BK259 := n0_; have BK265 := n1_; have BK270 := n2_; have HB := n3_; clear n0_ n1_ n2_ n3_; (try clear hcz23_0 hcz23_1 hcz23_2 hfz23_0 hfz23_1 hfz23_2 hcz24_0 hcz24_1 hcz24_2 hcz24_3 hcz24_4 hcz24_5 hfz24_0 hfz24_1 hfz24_2 hfz24_3 hfz24_4 hfz24_5 hcz25_0 hcz25_1 hcz25_2 hfz25_0 hfz25_1 hfz25_2); (try clear hb); (try clear hb2); (try clear hk); (try clear hi)))
        go_ret2
        exact ⟨by first | rfl | (simp [errW_none, errW_some] <;> rfl) | (simp [*, errW_none, errW_some] <;> rfl), by repeat (first | (with_reducible first | exact HB.out | apply below_alloc | apply pw_below_drewN | apply below_drew1 | refine below_set ?_ GE259.out | refine below_set ?_ GE265.out | refine below_set ?_ GE270.out) | exact HB.out)⟩
      · rw [if_neg c8] at H
        obtain ⟨c8b0, c8b1⟩ := neB_ c8
        simp only [Option.some.injEq, Prod.mk.injEq] at H
        obtain ⟨rfl, rfl⟩ := H
        go_enter Try.func12, Try.ntmps12
        go_wp2_with (first | ((with_reducible refine gate_dst (N := 2) rfl ?_); refine box_event ?hg (N := 2) ?hd (cs := #[.int .i64 a0_0, .string a0_1, .slice A0_2 l0_2.length c0_2, .int .i64 a0_3, .slice A0_4 l0_4.length c0_4, .slice A0_5 l0_5.length c0_5]) (t := 29) ?hr ?_; (case hd => rfl); (case hg => rfl); (case hr => first | (go_simp; done) | (go_simp; rfl)); intro gb259 hg w27 hbox hb; have n0_ := bs_ (be_ HB) hb; have n1_ := Aside0.mk (hbox); have n2_ := gs_ hg (be_ HB); have n3_ := gs_ hg (be_ HB); clear HB; have HB := n0_; have BK259 := n1_; have GW259 := n2_; have GE259 := n3_; clear n0_ n1_ n2_ n3_; clear hb hbox hg; have hcz28_0 : w27.cell? ⟨gb259, 0, none⟩ = some (.int .i64 a0_0) := (blk_cell BK259.out 0).trans rfl; have hcz28_1 : w27.cell? ⟨gb259, 1, none⟩ = some (.string a0_1) := (blk_cell BK259.out 1).trans rfl; have hcz28_2 : w27.cell? ⟨gb259, 2, none⟩ = some (.slice A0_2 l0_2.length c0_2) := (blk_cell BK259.out 2).trans rfl; have hcz28_3 : w27.cell? ⟨gb259, 3, none⟩ = some (.int .i64 a0_3) := (blk_cell BK259.out 3).trans rfl; have hcz28_4 : w27.cell? ⟨gb259, 4, none⟩ = some (.slice A0_4 l0_4.length c0_4) := (blk_cell BK259.out 4).trans rfl; have hcz28_5 : w27.cell? ⟨gb259, 5, none⟩ = some (.slice A0_5 l0_5.length c0_5) := (blk_cell BK259.out 5).trans rfl; have hfz28_0 := blk_frozen BK259.out 0; have hfz28_1 := blk_frozen BK259.out 1; have hfz28_2 := blk_frozen BK259.out 2; have hfz28_3 := blk_frozen BK259.out 3; have hfz28_4 := blk_frozen BK259.out 4; have hfz28_5 := blk_frozen BK259.out 5) | ((with_reducible refine gate_callee (f := 15) rfl ?_); refine goesL_ (some 10) rfl rfl Try.func15 (by kernel_rfl) rfl #[.agg #[.int .i64 a0_0, .string a0_1, .slice A0_2 l0_2.length c0_2, .int .i64 a0_3, .slice A0_4 l0_4.length c0_4, .slice A0_5 l0_5.length c0_5]] rfl ga_ ?_; (with_reducible refine (guard_Check.calls k a0_0 a0_1 _ _ l0_2 a0_3 _ _ l0_4 _ _ l0_5 t260 _ ?side1 ?side2 ?side3 ?side4 ?side5 ?side6 A3.out).mono ?_); (case side1 => repeat (first | exact (Kd.C_below HR0_2.out HB.out) | (with_reducible refine Kd.C_alloc ?_ _) | (with_reducible refine Kd.C_drewN ?_ _) | (with_reducible refine Kd.C_drew ?_))); (case side2 => exact HC0_2.out); (case side3 => repeat (first | exact (Kd.C_below HR0_4.out HB.out) | (with_reducible refine Kd.C_alloc ?_ _) | (with_reducible refine Kd.C_drewN ?_ _) | (with_reducible refine Kd.C_drew ?_))); (case side4 => exact HC0_4.out); (case side5 => repeat (first | exact (Kd.C_below HR0_5.out HB.out) | (with_reducible refine Kd.C_alloc ?_ _) | (with_reducible refine Kd.C_drewN ?_ _) | (with_reducible refine Kd.C_drew ?_))); (case side6 => exact HC0_5.out); rintro e w29 ⟨rfl, hb⟩; refine ⟨_, rfl, ?_⟩; have n0_ := bb_ (bu_ BK259) hb; have n1_ := bs_ (be_ HB) hb; clear BK259; clear HB; have BK259 := n0_; have HB := n1_; clear n0_ n1_; (try clear hcz28_0 hcz28_1 hcz28_2 hcz28_3 hcz28_4 hcz28_5 hfz28_0 hfz28_1 hfz28_2 hfz28_3 hfz28_4 hfz28_5); (try clear hb); (try clear hb2); (try clear hk); (try clear hi); have hcz30_0 : w29.cell? ⟨gb259, 0, none⟩ = some (.int .i64 a0_0) := (blk_cell BK259.out 0).trans rfl; have hcz30_1 : w29.cell? ⟨gb259, 1, none⟩ = some (.string a0_1) := (blk_cell BK259.out 1).trans rfl; have hcz30_2 : w29.cell? ⟨gb259, 2, none⟩ = some (.slice A0_2 l0_2.length c0_2) := (blk_cell BK259.out 2).trans rfl; have hcz30_3 : w29.cell? ⟨gb259, 3, none⟩ = some (.int .i64 a0_3) := (blk_cell BK259.out 3).trans rfl; have hcz30_4 : w29.cell? ⟨gb259, 4, none⟩ = some (.slice A0_4 l0_4.length c0_4) := (blk_cell BK259.out 4).trans rfl; have hcz30_5 : w29.cell? ⟨gb259, 5, none⟩ = some (.slice A0_5 l0_5.length c0_5) := (blk_cell BK259.out 5).trans rfl; have hfz30_0 := blk_frozen BK259.out 0; have hfz30_1 := blk_frozen BK259.out 1; have hfz30_2 := blk_frozen BK259.out 2; have hfz30_3 := blk_frozen BK259.out 3; have hfz30_4 := blk_frozen BK259.out 4; have hfz30_5 := blk_frozen BK259.out 5) | ((with_reducible refine gate_callee (f := 22) rfl ?_); refine goesL_ (some 18) rfl rfl Try.func22 (by kernel_rfl) rfl #[.slice A0_4 l0_4.length c0_4, .slice A1 l1.length c1] rfl ga_ ?_; (with_reducible refine (expr_Eval.calls k _ _ l0_4 _ _ l1 t261 t262 t263 t264 _ ?side1 ?side2 ?side3 ?side4 A5.out).mono ?_); (case side1 => repeat (first | exact (Kd.C_below HR0_4.out HB.out) | (with_reducible refine Kd.C_alloc ?_ _) | (with_reducible refine Kd.C_drewN ?_ _) | (with_reducible refine Kd.C_drew ?_))); (case side2 => exact HC0_4.out); (case side3 => repeat (first | exact (Kd.C_below HR1.out HB.out) | (with_reducible refine Kd.C_alloc ?_ _) | (with_reducible refine Kd.C_drewN ?_ _) | (with_reducible refine Kd.C_drew ?_))); (case side4 => exact HC1.out); rintro e w31 ⟨rfl, hb⟩; refine ⟨_, rfl, ?_⟩; have n0_ := bb_ (bu_ BK259) hb; have n1_ := bs_ (be_ HB) hb; clear BK259; clear HB; have BK259 := n0_; have HB := n1_; clear n0_ n1_; (try clear hcz30_0 hcz30_1 hcz30_2 hcz30_3 hcz30_4 hcz30_5 hfz30_0 hfz30_1 hfz30_2 hfz30_3 hfz30_4 hfz30_5); (try clear hb); (try clear hb2); (try clear hk); (try clear hi)) | ((with_reducible refine gate_dst (N := 7) rfl ?_); refine box_event ?hg (N := 7) ?hd (cs := #[.int .i64 0, .int .i64 0, .string (⟨#[]⟩ : ByteArray)]) (t := 23) ?hr ?_; (case hd => rfl); (case hg => rfl); (case hr => first | (go_simp; done) | (go_simp; rfl)); intro gb265 hg w32 hbox hb; have n0_ := bb_ (bu_ BK259) hb; have n1_ := bs_ (be_ HB) hb; have n2_ := Aside0.mk (hbox); have n3_ := gs_ hg (be_ HB); have n4_ := gs_ hg (be_ HB); have n5_ := nl_ hg (bu_ BK259); have n6_ := ng_ hg (bu_ BK259); clear BK259; clear HB; have BK259 := n0_; have HB := n1_; have BK265 := n2_; have GW265 := n3_; have GE265 := n4_; have NB259_265 := n5_; have NB265_259 := n6_; clear n0_ n1_ n2_ n3_ n4_ n5_ n6_; clear hb hbox hg; have hnb33 := NB265_259.out; have hnc33 := NB259_265.out; have hcz34_0 : w32.cell? ⟨gb265, 0, none⟩ = some (.int .i64 0) := (blk_cell BK265.out 0).trans rfl; have hcz34_1 : w32.cell? ⟨gb265, 1, none⟩ = some (.int .i64 0) := (blk_cell BK265.out 1).trans rfl; have hcz34_2 : w32.cell? ⟨gb265, 2, none⟩ = some (.string (⟨#[]⟩ : ByteArray)) := (blk_cell BK265.out 2).trans rfl; have hfz34_0 := blk_frozen BK265.out 0; have hfz34_1 := blk_frozen BK265.out 1; have hfz34_2 := blk_frozen BK265.out 2; have hcz35_0 : w32.cell? ⟨gb259, 0, none⟩ = some (.int .i64 a0_0) := (blk_cell BK259.out 0).trans rfl; have hcz35_1 : w32.cell? ⟨gb259, 1, none⟩ = some (.string a0_1) := (blk_cell BK259.out 1).trans rfl; have hcz35_2 : w32.cell? ⟨gb259, 2, none⟩ = some (.slice A0_2 l0_2.length c0_2) := (blk_cell BK259.out 2).trans rfl; have hcz35_3 : w32.cell? ⟨gb259, 3, none⟩ = some (.int .i64 a0_3) := (blk_cell BK259.out 3).trans rfl; have hcz35_4 : w32.cell? ⟨gb259, 4, none⟩ = some (.slice A0_4 l0_4.length c0_4) := (blk_cell BK259.out 4).trans rfl; have hcz35_5 : w32.cell? ⟨gb259, 5, none⟩ = some (.slice A0_5 l0_5.length c0_5) := (blk_cell BK259.out 5).trans rfl; have hfz35_0 := blk_frozen BK259.out 0; have hfz35_1 := blk_frozen BK259.out 1; have hfz35_2 := blk_frozen BK259.out 2; have hfz35_3 := blk_frozen BK259.out 3; have hfz35_4 := blk_frozen BK259.out 4; have hfz35_5 := blk_frozen BK259.out 5) | ((with_reducible refine gate_callee (f := 22) rfl ?_); refine goesL_ (some 28) rfl rfl Try.func22 (by kernel_rfl) rfl #[.slice A0_5 l0_5.length c0_5, .slice A1 l1.length c1] rfl ga_ ?_; (with_reducible refine (expr_Eval.calls k _ _ l0_5 _ _ l1 t266 t267 t268 t269 _ ?side1 ?side2 ?side3 ?side4 A7.out).mono ?_); (case side1 => exact Kd.C_below HR0_5.out (be_ HB)); (case side2 => exact HC0_5.out); (case side3 => exact Kd.C_below HR1.out (be_ HB)); (case side4 => exact HC1.out); rintro e w36 ⟨rfl, hb⟩; refine ⟨_, rfl, ?_⟩; have n0_ := bb_ (bu_ BK259) hb; have n1_ := Aside0.mk (blk_below (o := .cells #[.int .i64 t261, .int .i64 t262, .string t263] 23 (0, 0)) (bp_ BK265) hb); have n2_ := bs_ (be_ HB) hb; clear BK259; clear BK265; clear HB; have BK259 := n0_; have BK265 := n1_; have HB := n2_; clear n0_ n1_ n2_; (try clear hcz34_0 hcz34_1 hcz34_2 hfz34_0 hfz34_1 hfz34_2 hcz35_0 hcz35_1 hcz35_2 hcz35_3 hcz35_4 hcz35_5 hfz35_0 hfz35_1 hfz35_2 hfz35_3 hfz35_4 hfz35_5); (try clear hb); (try clear hb2); (try clear hk); (try clear hi)) | ((with_reducible refine gate_dst (N := 8) rfl ?_); refine box_event ?hg (N := 8) ?hd (cs := #[.int .i64 0, .int .i64 0, .string (⟨#[]⟩ : ByteArray)]) (t := 23) ?hr ?_; (case hd => rfl); (case hg => rfl); (case hr => first | (go_simp; done) | (go_simp; rfl)); intro gb270 hg w37 hbox hb; have n0_ := bb_ (bu_ BK259) hb; have n1_ := bb_ (bu_ BK265) hb; have n2_ := bs_ (be_ HB) hb; have n3_ := Aside0.mk (hbox); have n4_ := gs_ hg (be_ HB); have n5_ := gs_ hg (be_ HB); have n6_ := nl_ hg (bu_ BK259); have n7_ := ng_ hg (bu_ BK259); have n8_ := nl_ hg (bu_ BK265); have n9_ := ng_ hg (bu_ BK265); clear BK259; clear BK265; clear HB; have BK259 := n0_; have BK265 := n1_; have HB := n2_; have BK270 := n3_; have GW270 := n4_; have GE270 := n5_; have NB259_270 := n6_; have NB270_259 := n7_; have NB265_270 := n8_; have NB270_265 := n9_; clear n0_ n1_ n2_ n3_ n4_ n5_ n6_ n7_ n8_ n9_; clear hb hbox hg; have hnb38 := NB270_259.out; have hnc38 := NB259_270.out; have hnb39 := NB270_265.out; have hnc39 := NB265_270.out; have hcz40_0 : w37.cell? ⟨gb270, 0, none⟩ = some (.int .i64 0) := (blk_cell BK270.out 0).trans rfl; have hcz40_1 : w37.cell? ⟨gb270, 1, none⟩ = some (.int .i64 0) := (blk_cell BK270.out 1).trans rfl; have hcz40_2 : w37.cell? ⟨gb270, 2, none⟩ = some (.string (⟨#[]⟩ : ByteArray)) := (blk_cell BK270.out 2).trans rfl; have hfz40_0 := blk_frozen BK270.out 0; have hfz40_1 := blk_frozen BK270.out 1; have hfz40_2 := blk_frozen BK270.out 2))
        go_ret2
        exact ⟨by first | rfl | (simp [errW_none, errW_some] <;> rfl) | (simp [*, errW_none, errW_some] <;> rfl), by repeat (first | (with_reducible first | exact HB.out | apply below_alloc | apply pw_below_drewN | apply below_drew1 | refine below_set ?_ GE259.out | refine below_set ?_ GE265.out | refine below_set ?_ GE270.out) | exact HB.out)⟩
    · rw [if_neg c6] at H
      obtain ⟨c6b0, c6b1⟩ := neB_ c6
      simp only [Option.some.injEq, Prod.mk.injEq] at H
      obtain ⟨rfl, rfl⟩ := H
      go_enter Try.func12, Try.ntmps12
      go_wp2_with (first | ((with_reducible refine gate_dst (N := 2) rfl ?_); refine box_event ?hg (N := 2) ?hd (cs := #[.int .i64 a0_0, .string a0_1, .slice A0_2 l0_2.length c0_2, .int .i64 a0_3, .slice A0_4 l0_4.length c0_4, .slice A0_5 l0_5.length c0_5]) (t := 29) ?hr ?_; (case hd => rfl); (case hg => rfl); (case hr => first | (go_simp; done) | (go_simp; rfl)); intro gb259 hg w41 hbox hb; have n0_ := bs_ (be_ HB) hb; have n1_ := Aside0.mk (hbox); have n2_ := gs_ hg (be_ HB); have n3_ := gs_ hg (be_ HB); clear HB; have HB := n0_; have BK259 := n1_; have GW259 := n2_; have GE259 := n3_; clear n0_ n1_ n2_ n3_; clear hb hbox hg; have hcz42_0 : w41.cell? ⟨gb259, 0, none⟩ = some (.int .i64 a0_0) := (blk_cell BK259.out 0).trans rfl; have hcz42_1 : w41.cell? ⟨gb259, 1, none⟩ = some (.string a0_1) := (blk_cell BK259.out 1).trans rfl; have hcz42_2 : w41.cell? ⟨gb259, 2, none⟩ = some (.slice A0_2 l0_2.length c0_2) := (blk_cell BK259.out 2).trans rfl; have hcz42_3 : w41.cell? ⟨gb259, 3, none⟩ = some (.int .i64 a0_3) := (blk_cell BK259.out 3).trans rfl; have hcz42_4 : w41.cell? ⟨gb259, 4, none⟩ = some (.slice A0_4 l0_4.length c0_4) := (blk_cell BK259.out 4).trans rfl; have hcz42_5 : w41.cell? ⟨gb259, 5, none⟩ = some (.slice A0_5 l0_5.length c0_5) := (blk_cell BK259.out 5).trans rfl; have hfz42_0 := blk_frozen BK259.out 0; have hfz42_1 := blk_frozen BK259.out 1; have hfz42_2 := blk_frozen BK259.out 2; have hfz42_3 := blk_frozen BK259.out 3; have hfz42_4 := blk_frozen BK259.out 4; have hfz42_5 := blk_frozen BK259.out 5) | ((with_reducible refine gate_callee (f := 15) rfl ?_); refine goesL_ (some 10) rfl rfl Try.func15 (by kernel_rfl) rfl #[.agg #[.int .i64 a0_0, .string a0_1, .slice A0_2 l0_2.length c0_2, .int .i64 a0_3, .slice A0_4 l0_4.length c0_4, .slice A0_5 l0_5.length c0_5]] rfl ga_ ?_; (with_reducible refine (guard_Check.calls k a0_0 a0_1 _ _ l0_2 a0_3 _ _ l0_4 _ _ l0_5 t260 _ ?side1 ?side2 ?side3 ?side4 ?side5 ?side6 A3.out).mono ?_); (case side1 => repeat (first | exact (Kd.C_below HR0_2.out HB.out) | (with_reducible refine Kd.C_alloc ?_ _) | (with_reducible refine Kd.C_drewN ?_ _) | (with_reducible refine Kd.C_drew ?_))); (case side2 => exact HC0_2.out); (case side3 => repeat (first | exact (Kd.C_below HR0_4.out HB.out) | (with_reducible refine Kd.C_alloc ?_ _) | (with_reducible refine Kd.C_drewN ?_ _) | (with_reducible refine Kd.C_drew ?_))); (case side4 => exact HC0_4.out); (case side5 => repeat (first | exact (Kd.C_below HR0_5.out HB.out) | (with_reducible refine Kd.C_alloc ?_ _) | (with_reducible refine Kd.C_drewN ?_ _) | (with_reducible refine Kd.C_drew ?_))); (case side6 => exact HC0_5.out); rintro e w43 ⟨rfl, hb⟩; refine ⟨_, rfl, ?_⟩; have n0_ := bb_ (bu_ BK259) hb; have n1_ := bs_ (be_ HB) hb; clear BK259; clear HB; have BK259 := n0_; have HB := n1_; clear n0_ n1_; (try clear hcz42_0 hcz42_1 hcz42_2 hcz42_3 hcz42_4 hcz42_5 hfz42_0 hfz42_1 hfz42_2 hfz42_3 hfz42_4 hfz42_5); (try clear hb); (try clear hb2); (try clear hk); (try clear hi); have hcz44_0 : w43.cell? ⟨gb259, 0, none⟩ = some (.int .i64 a0_0) := (blk_cell BK259.out 0).trans rfl; have hcz44_1 : w43.cell? ⟨gb259, 1, none⟩ = some (.string a0_1) := (blk_cell BK259.out 1).trans rfl; have hcz44_2 : w43.cell? ⟨gb259, 2, none⟩ = some (.slice A0_2 l0_2.length c0_2) := (blk_cell BK259.out 2).trans rfl; have hcz44_3 : w43.cell? ⟨gb259, 3, none⟩ = some (.int .i64 a0_3) := (blk_cell BK259.out 3).trans rfl; have hcz44_4 : w43.cell? ⟨gb259, 4, none⟩ = some (.slice A0_4 l0_4.length c0_4) := (blk_cell BK259.out 4).trans rfl; have hcz44_5 : w43.cell? ⟨gb259, 5, none⟩ = some (.slice A0_5 l0_5.length c0_5) := (blk_cell BK259.out 5).trans rfl; have hfz44_0 := blk_frozen BK259.out 0; have hfz44_1 := blk_frozen BK259.out 1; have hfz44_2 := blk_frozen BK259.out 2; have hfz44_3 := blk_frozen BK259.out 3; have hfz44_4 := blk_frozen BK259.out 4; have hfz44_5 := blk_frozen BK259.out 5) | ((with_reducible refine gate_callee (f := 22) rfl ?_); refine goesL_ (some 18) rfl rfl Try.func22 (by kernel_rfl) rfl #[.slice A0_4 l0_4.length c0_4, .slice A1 l1.length c1] rfl ga_ ?_; (with_reducible refine (expr_Eval.calls k _ _ l0_4 _ _ l1 t261 t262 t263 t264 _ ?side1 ?side2 ?side3 ?side4 A5.out).mono ?_); (case side1 => repeat (first | exact (Kd.C_below HR0_4.out HB.out) | (with_reducible refine Kd.C_alloc ?_ _) | (with_reducible refine Kd.C_drewN ?_ _) | (with_reducible refine Kd.C_drew ?_))); (case side2 => exact HC0_4.out); (case side3 => repeat (first | exact (Kd.C_below HR1.out HB.out) | (with_reducible refine Kd.C_alloc ?_ _) | (with_reducible refine Kd.C_drewN ?_ _) | (with_reducible refine Kd.C_drew ?_))); (case side4 => exact HC1.out); rintro e w45 ⟨rfl, hb⟩; refine ⟨_, rfl, ?_⟩; have n0_ := bb_ (bu_ BK259) hb; have n1_ := bs_ (be_ HB) hb; clear BK259; clear HB; have BK259 := n0_; have HB := n1_; clear n0_ n1_; (try clear hcz44_0 hcz44_1 hcz44_2 hcz44_3 hcz44_4 hcz44_5 hfz44_0 hfz44_1 hfz44_2 hfz44_3 hfz44_4 hfz44_5); (try clear hb); (try clear hb2); (try clear hk); (try clear hi)) | ((with_reducible refine gate_dst (N := 7) rfl ?_); refine box_event ?hg (N := 7) ?hd (cs := #[.int .i64 0, .int .i64 0, .string (⟨#[]⟩ : ByteArray)]) (t := 23) ?hr ?_; (case hd => rfl); (case hg => rfl); (case hr => first | (go_simp; done) | (go_simp; rfl)); intro gb265 hg w46 hbox hb; have n0_ := bb_ (bu_ BK259) hb; have n1_ := bs_ (be_ HB) hb; have n2_ := Aside0.mk (hbox); have n3_ := gs_ hg (be_ HB); have n4_ := gs_ hg (be_ HB); have n5_ := nl_ hg (bu_ BK259); have n6_ := ng_ hg (bu_ BK259); clear BK259; clear HB; have BK259 := n0_; have HB := n1_; have BK265 := n2_; have GW265 := n3_; have GE265 := n4_; have NB259_265 := n5_; have NB265_259 := n6_; clear n0_ n1_ n2_ n3_ n4_ n5_ n6_; clear hb hbox hg; have hnb47 := NB265_259.out; have hnc47 := NB259_265.out; have hcz48_0 : w46.cell? ⟨gb265, 0, none⟩ = some (.int .i64 0) := (blk_cell BK265.out 0).trans rfl; have hcz48_1 : w46.cell? ⟨gb265, 1, none⟩ = some (.int .i64 0) := (blk_cell BK265.out 1).trans rfl; have hcz48_2 : w46.cell? ⟨gb265, 2, none⟩ = some (.string (⟨#[]⟩ : ByteArray)) := (blk_cell BK265.out 2).trans rfl; have hfz48_0 := blk_frozen BK265.out 0; have hfz48_1 := blk_frozen BK265.out 1; have hfz48_2 := blk_frozen BK265.out 2))
      go_ret2
      exact ⟨by first | rfl | (simp [errW_none, errW_some] <;> rfl) | (simp [*, errW_none, errW_some] <;> rfl), by repeat (first | (with_reducible first | exact HB.out | apply below_alloc | apply pw_below_drewN | apply below_drew1 | refine below_set ?_ GE259.out | refine below_set ?_ GE265.out) | exact HB.out)⟩
  · rw [if_neg c4] at H
    obtain ⟨c4b0, c4b1⟩ := neB_ c4
    simp only [Option.some.injEq, Prod.mk.injEq] at H
    obtain ⟨rfl, rfl⟩ := H
    go_enter Try.func12, Try.ntmps12
    go_wp2_with (first | ((with_reducible refine gate_dst (N := 2) rfl ?_); refine box_event ?hg (N := 2) ?hd (cs := #[.int .i64 a0_0, .string a0_1, .slice A0_2 l0_2.length c0_2, .int .i64 a0_3, .slice A0_4 l0_4.length c0_4, .slice A0_5 l0_5.length c0_5]) (t := 29) ?hr ?_; (case hd => rfl); (case hg => rfl); (case hr => first | (go_simp; done) | (go_simp; rfl)); intro gb259 hg w49 hbox hb; have n0_ := bs_ (be_ HB) hb; have n1_ := Aside0.mk (hbox); have n2_ := gs_ hg (be_ HB); have n3_ := gs_ hg (be_ HB); clear HB; have HB := n0_; have BK259 := n1_; have GW259 := n2_; have GE259 := n3_; clear n0_ n1_ n2_ n3_; clear hb hbox hg; have hcz50_0 : w49.cell? ⟨gb259, 0, none⟩ = some (.int .i64 a0_0) := (blk_cell BK259.out 0).trans rfl; have hcz50_1 : w49.cell? ⟨gb259, 1, none⟩ = some (.string a0_1) := (blk_cell BK259.out 1).trans rfl; have hcz50_2 : w49.cell? ⟨gb259, 2, none⟩ = some (.slice A0_2 l0_2.length c0_2) := (blk_cell BK259.out 2).trans rfl; have hcz50_3 : w49.cell? ⟨gb259, 3, none⟩ = some (.int .i64 a0_3) := (blk_cell BK259.out 3).trans rfl; have hcz50_4 : w49.cell? ⟨gb259, 4, none⟩ = some (.slice A0_4 l0_4.length c0_4) := (blk_cell BK259.out 4).trans rfl; have hcz50_5 : w49.cell? ⟨gb259, 5, none⟩ = some (.slice A0_5 l0_5.length c0_5) := (blk_cell BK259.out 5).trans rfl; have hfz50_0 := blk_frozen BK259.out 0; have hfz50_1 := blk_frozen BK259.out 1; have hfz50_2 := blk_frozen BK259.out 2; have hfz50_3 := blk_frozen BK259.out 3; have hfz50_4 := blk_frozen BK259.out 4; have hfz50_5 := blk_frozen BK259.out 5) | ((with_reducible refine gate_callee (f := 15) rfl ?_); refine goesL_ (some 10) rfl rfl Try.func15 (by kernel_rfl) rfl #[.agg #[.int .i64 a0_0, .string a0_1, .slice A0_2 l0_2.length c0_2, .int .i64 a0_3, .slice A0_4 l0_4.length c0_4, .slice A0_5 l0_5.length c0_5]] rfl ga_ ?_; (with_reducible refine (guard_Check.calls k a0_0 a0_1 _ _ l0_2 a0_3 _ _ l0_4 _ _ l0_5 t260 _ ?side1 ?side2 ?side3 ?side4 ?side5 ?side6 A3.out).mono ?_); (case side1 => repeat (first | exact (Kd.C_below HR0_2.out HB.out) | (with_reducible refine Kd.C_alloc ?_ _) | (with_reducible refine Kd.C_drewN ?_ _) | (with_reducible refine Kd.C_drew ?_))); (case side2 => exact HC0_2.out); (case side3 => repeat (first | exact (Kd.C_below HR0_4.out HB.out) | (with_reducible refine Kd.C_alloc ?_ _) | (with_reducible refine Kd.C_drewN ?_ _) | (with_reducible refine Kd.C_drew ?_))); (case side4 => exact HC0_4.out); (case side5 => repeat (first | exact (Kd.C_below HR0_5.out HB.out) | (with_reducible refine Kd.C_alloc ?_ _) | (with_reducible refine Kd.C_drewN ?_ _) | (with_reducible refine Kd.C_drew ?_))); (case side6 => exact HC0_5.out); rintro e w51 ⟨rfl, hb⟩; refine ⟨_, rfl, ?_⟩; have n0_ := bb_ (bu_ BK259) hb; have n1_ := bs_ (be_ HB) hb; clear BK259; clear HB; have BK259 := n0_; have HB := n1_; clear n0_ n1_; (try clear hcz50_0 hcz50_1 hcz50_2 hcz50_3 hcz50_4 hcz50_5 hfz50_0 hfz50_1 hfz50_2 hfz50_3 hfz50_4 hfz50_5); (try clear hb); (try clear hb2); (try clear hk); (try clear hi)))
    go_ret2
    exact ⟨by first | rfl | (simp [errW_none, errW_some] <;> rfl) | (simp [*, errW_none, errW_some] <;> rfl), by repeat (first | (with_reducible first | exact HB.out | apply below_alloc | apply pw_below_drewN | apply below_drew1 | refine below_set ?_ GE259.out) | exact HB.out)⟩
end Go.Proofs.Ytaopajmpifenoaa.P
end
section
namespace Go.Proofs.Ytaopajmpifenoaa.P
open Go.RowKit Go.Proofs.YtaopajmpifenoaaW.PrintWords Go.Proofs.YtaopajmpifenoaaW.PrintLast Go.Proofs.YtaopajmpifenoaaW.PrintMore
attribute [local go_sem] max2_int min2_int max_two min_two max_three min_three max_four min_four
set_option linter.unusedVariables false
set_option linter.unusedSimpArgs false
def constablelaw08_wakes.f (k : Nat)  : Option (Bool) := (some (([(⟨1, (⟨#[88]⟩ : ByteArray), (⟨0, 0, (⟨#[]⟩ : ByteArray)⟩ : S23)⟩ : S67)] : List (S67)) : List (S67))).bind fun y302 => ((some (([(⟨2, (⟨#[]⟩ : ByteArray), (⟨1, 3, (⟨#[]⟩ : ByteArray)⟩ : S23)⟩ : S67)] : List (S67)) : List (S67))).bind fun y305 => ((guard_Eval.f k 3 (⟨#[]⟩ : ByteArray) ([] : List (S72)) 3 y302 y305 (([(⟨(⟨#[88]⟩ : ByteArray), (⟨1, 2, (⟨#[]⟩ : ByteArray)⟩ : S23)⟩ : S54)] : List (S54)))).bind fun bt312 => ((guard_Holds.f k 2 1 2 (⟨#[]⟩ : ByteArray) 1 3 (⟨#[]⟩ : ByteArray)).bind fun bt314 => ((guard_Holds.f k 4 1 2 (⟨#[]⟩ : ByteArray) 2 0 (⟨#[97]⟩ : ByteArray)).bind fun bt316 => (if bt312.2 = 0 then (if bt312.1 = true then (if bt314.2 = 0 then (if bt314.1 = true then (if bt316.2 = 3 then ((guard_Check.f k 3 (⟨#[]⟩ : ByteArray) ([] : List (S72)) 3 y302 y305).bind fun t318 => (if t318 = 0 then ((guard_Check.f k 0 (⟨#[]⟩ : ByteArray) ([] : List (S72)) 0 ([] : List (S67)) ([] : List (S67))).bind fun t319 => (some (t319 == 1))) else (some false))) else (some false)) else (some false)) else (some false)) else (some false)) else (some false))))))
theorem constablelaw08_wakes.mono : ∀ k, LeO (constablelaw08_wakes.f k ) (constablelaw08_wakes.f (k + 1) ) := by
  intro  k
  unfold constablelaw08_wakes.f
  repeat' first
      | (with_reducible exact guard_Check.mono _ _ _ _ _ _ _)
      | (with_reducible exact guard_Eval.mono _ _ _ _ _ _ _ _)
      | (with_reducible exact guard_Holds.mono _ _ _ _ _ _ _ _)
      | (with_reducible exact LeO.refl _)
      | (with_reducible exact LeO.none _)
      | (with_reducible refine LeO.ite ?_ ?_)
      | (with_reducible refine LeO.bind ?_ (fun _ => ?_))
      | exact guard_Check.mono _ _ _ _ _ _ _
      | exact guard_Eval.mono _ _ _ _ _ _ _ _
      | exact guard_Holds.mono _ _ _ _ _ _ _ _
      | exact LeO.none _
      | refine LeO.ite ?_ ?_
      | refine LeO.bind ?_ (fun _ => ?_)
set_option maxHeartbeats 8000000 in
set_option maxRecDepth 100000 in
theorem constablelaw08_wakes.calls (k : Nat)  (r : Bool) (w : World) (h : constablelaw08_wakes.f k  = some r) (hr_ : r = true) :
    Calls Try.prog 17 #[] w fun e w' => e = .returned (.bool r) ∧ Below w.heap.size w w' := by
  have hu23 := Try.underlying23
  have hu67 := Try.underlying67
  have hu29 := Try.underlying29
  have hu54 := Try.underlying54
  have HB := Aside0.mk (Below.refl w.heap.size w)
  have H : ((some (([(⟨1, (⟨#[88]⟩ : ByteArray), (⟨0, 0, (⟨#[]⟩ : ByteArray)⟩ : S23)⟩ : S67)] : List (S67)) : List (S67))).bind fun y302 => ((some (([(⟨2, (⟨#[]⟩ : ByteArray), (⟨1, 3, (⟨#[]⟩ : ByteArray)⟩ : S23)⟩ : S67)] : List (S67)) : List (S67))).bind fun y305 => ((guard_Eval.f k 3 (⟨#[]⟩ : ByteArray) ([] : List (S72)) 3 y302 y305 (([(⟨(⟨#[88]⟩ : ByteArray), (⟨1, 2, (⟨#[]⟩ : ByteArray)⟩ : S23)⟩ : S54)] : List (S54)))).bind fun bt312 => ((guard_Holds.f k 2 1 2 (⟨#[]⟩ : ByteArray) 1 3 (⟨#[]⟩ : ByteArray)).bind fun bt314 => ((guard_Holds.f k 4 1 2 (⟨#[]⟩ : ByteArray) 2 0 (⟨#[97]⟩ : ByteArray)).bind fun bt316 => (if bt312.2 = 0 then (if bt312.1 = true then (if bt314.2 = 0 then (if bt314.1 = true then (if bt316.2 = 3 then ((guard_Check.f k 3 (⟨#[]⟩ : ByteArray) ([] : List (S72)) 3 y302 y305).bind fun t318 => (if t318 = 0 then ((guard_Check.f k 0 (⟨#[]⟩ : ByteArray) ([] : List (S72)) 0 ([] : List (S67)) ([] : List (S67))).bind fun t319 => (some (t319 == 1))) else (some false))) else (some false)) else (some false)) else (some false)) else (some false)) else (some false))))))) = some r := h
  clear h
  have HR_ := Aside0.mk hr_
  clear hr_
  obtain ⟨y302, hy302⟩ : ∃ y_ : List (S67), y_ = (([(⟨1, (⟨#[88]⟩ : ByteArray), (⟨0, 0, (⟨#[]⟩ : ByteArray)⟩ : S23)⟩ : S67)] : List (S67))) := ⟨_, rfl⟩
  replace H : ((some (([(⟨2, (⟨#[]⟩ : ByteArray), (⟨1, 3, (⟨#[]⟩ : ByteArray)⟩ : S23)⟩ : S67)] : List (S67)) : List (S67))).bind fun y305 => ((guard_Eval.f k 3 (⟨#[]⟩ : ByteArray) ([] : List (S72)) 3 y302 y305 (([(⟨(⟨#[88]⟩ : ByteArray), (⟨1, 2, (⟨#[]⟩ : ByteArray)⟩ : S23)⟩ : S54)] : List (S54)))).bind fun bt312 => ((guard_Holds.f k 2 1 2 (⟨#[]⟩ : ByteArray) 1 3 (⟨#[]⟩ : ByteArray)).bind fun bt314 => ((guard_Holds.f k 4 1 2 (⟨#[]⟩ : ByteArray) 2 0 (⟨#[97]⟩ : ByteArray)).bind fun bt316 => (if bt312.2 = 0 then (if bt312.1 = true then (if bt314.2 = 0 then (if bt314.1 = true then (if bt316.2 = 3 then ((guard_Check.f k 3 (⟨#[]⟩ : ByteArray) ([] : List (S72)) 3 y302 y305).bind fun t318 => (if t318 = 0 then ((guard_Check.f k 0 (⟨#[]⟩ : ByteArray) ([] : List (S72)) 0 ([] : List (S67)) ([] : List (S67))).bind fun t319 => (some (t319 == 1))) else (some false))) else (some false)) else (some false)) else (some false)) else (some false)) else (some false)))))) = some r := by first | (rw [hy302]; with_reducible exact H) | (have H2_ := (Option.bind_some _ _).symm.trans H; rw [hy302]; with_reducible exact H2_) | (have H2_ := (Option.bind_some _ _).symm.trans H; with_reducible exact H2_) | with_reducible exact H | (rw [hy302]; exact H) | exact H
  have Ny302 := Aside0.mk hy302
  clear hy302
  obtain ⟨y305, hy305⟩ : ∃ y_ : List (S67), y_ = (([(⟨2, (⟨#[]⟩ : ByteArray), (⟨1, 3, (⟨#[]⟩ : ByteArray)⟩ : S23)⟩ : S67)] : List (S67))) := ⟨_, rfl⟩
  replace H : ((guard_Eval.f k 3 (⟨#[]⟩ : ByteArray) ([] : List (S72)) 3 y302 y305 (([(⟨(⟨#[88]⟩ : ByteArray), (⟨1, 2, (⟨#[]⟩ : ByteArray)⟩ : S23)⟩ : S54)] : List (S54)))).bind fun bt312 => ((guard_Holds.f k 2 1 2 (⟨#[]⟩ : ByteArray) 1 3 (⟨#[]⟩ : ByteArray)).bind fun bt314 => ((guard_Holds.f k 4 1 2 (⟨#[]⟩ : ByteArray) 2 0 (⟨#[97]⟩ : ByteArray)).bind fun bt316 => (if bt312.2 = 0 then (if bt312.1 = true then (if bt314.2 = 0 then (if bt314.1 = true then (if bt316.2 = 3 then ((guard_Check.f k 3 (⟨#[]⟩ : ByteArray) ([] : List (S72)) 3 y302 y305).bind fun t318 => (if t318 = 0 then ((guard_Check.f k 0 (⟨#[]⟩ : ByteArray) ([] : List (S72)) 0 ([] : List (S67)) ([] : List (S67))).bind fun t319 => (some (t319 == 1))) else (some false))) else (some false)) else (some false)) else (some false)) else (some false)) else (some false))))) = some r := by first | (rw [hy305]; with_reducible exact H) | (have H2_ := (Option.bind_some _ _).symm.trans H; rw [hy305]; with_reducible exact H2_) | (have H2_ := (Option.bind_some _ _).symm.trans H; with_reducible exact H2_) | with_reducible exact H | (rw [hy305]; exact H) | exact H
  have Ny305 := Aside0.mk hy305
  clear hy305
  obtain ⟨y309, hy309⟩ : ∃ y_ : List (S54), y_ = (([(⟨(⟨#[88]⟩ : ByteArray), (⟨1, 2, (⟨#[]⟩ : ByteArray)⟩ : S23)⟩ : S54)] : List (S54))) := ⟨_, rfl⟩
  replace H : ((guard_Eval.f k 3 (⟨#[]⟩ : ByteArray) ([] : List (S72)) 3 y302 y305 y309).bind fun bt312 => ((guard_Holds.f k 2 1 2 (⟨#[]⟩ : ByteArray) 1 3 (⟨#[]⟩ : ByteArray)).bind fun bt314 => ((guard_Holds.f k 4 1 2 (⟨#[]⟩ : ByteArray) 2 0 (⟨#[97]⟩ : ByteArray)).bind fun bt316 => (if bt312.2 = 0 then (if bt312.1 = true then (if bt314.2 = 0 then (if bt314.1 = true then (if bt316.2 = 3 then ((guard_Check.f k 3 (⟨#[]⟩ : ByteArray) ([] : List (S72)) 3 y302 y305).bind fun t318 => (if t318 = 0 then ((guard_Check.f k 0 (⟨#[]⟩ : ByteArray) ([] : List (S72)) 0 ([] : List (S67)) ([] : List (S67))).bind fun t319 => (some (t319 == 1))) else (some false))) else (some false)) else (some false)) else (some false)) else (some false)) else (some false))))) = some r := by first | (rw [hy309]; with_reducible exact H) | (have H2_ := (Option.bind_some _ _).symm.trans H; rw [hy309]; with_reducible exact H2_) | (have H2_ := (Option.bind_some _ _).symm.trans H; with_reducible exact H2_) | with_reducible exact H | (rw [hy309]; exact H) | exact H
  have Ny309 := Aside0.mk hy309
  clear hy309
  replace H := Option.bind_eq_some_iff.mp H
  obtain ⟨⟨t312, t313⟩, A10, H⟩ := H
  replace H : ((guard_Holds.f k 2 1 2 (⟨#[]⟩ : ByteArray) 1 3 (⟨#[]⟩ : ByteArray)).bind fun bt314 => ((guard_Holds.f k 4 1 2 (⟨#[]⟩ : ByteArray) 2 0 (⟨#[97]⟩ : ByteArray)).bind fun bt316 => (if t313 = 0 then (if t312 = true then (if bt314.2 = 0 then (if bt314.1 = true then (if bt316.2 = 3 then ((guard_Check.f k 3 (⟨#[]⟩ : ByteArray) ([] : List (S72)) 3 y302 y305).bind fun t318 => (if t318 = 0 then ((guard_Check.f k 0 (⟨#[]⟩ : ByteArray) ([] : List (S72)) 0 ([] : List (S67)) ([] : List (S67))).bind fun t319 => (some (t319 == 1))) else (some false))) else (some false)) else (some false)) else (some false)) else (some false)) else (some false)))) = some r := H
  have A1 := Aside0.mk A10
  clear A10
  replace H := Option.bind_eq_some_iff.mp H
  obtain ⟨⟨t314, t315⟩, A20, H⟩ := H
  replace H : ((guard_Holds.f k 4 1 2 (⟨#[]⟩ : ByteArray) 2 0 (⟨#[97]⟩ : ByteArray)).bind fun bt316 => (if t313 = 0 then (if t312 = true then (if t315 = 0 then (if t314 = true then (if bt316.2 = 3 then ((guard_Check.f k 3 (⟨#[]⟩ : ByteArray) ([] : List (S72)) 3 y302 y305).bind fun t318 => (if t318 = 0 then ((guard_Check.f k 0 (⟨#[]⟩ : ByteArray) ([] : List (S72)) 0 ([] : List (S67)) ([] : List (S67))).bind fun t319 => (some (t319 == 1))) else (some false))) else (some false)) else (some false)) else (some false)) else (some false)) else (some false))) = some r := H
  have A2 := Aside0.mk A20
  clear A20
  replace H := Option.bind_eq_some_iff.mp H
  obtain ⟨⟨t316, t317⟩, A30, H⟩ := H
  replace H : (if t313 = 0 then (if t312 = true then (if t315 = 0 then (if t314 = true then (if t317 = 3 then ((guard_Check.f k 3 (⟨#[]⟩ : ByteArray) ([] : List (S72)) 3 y302 y305).bind fun t318 => (if t318 = 0 then ((guard_Check.f k 0 (⟨#[]⟩ : ByteArray) ([] : List (S72)) 0 ([] : List (S67)) ([] : List (S67))).bind fun t319 => (some (t319 == 1))) else (some false))) else (some false)) else (some false)) else (some false)) else (some false)) else (some false)) = some r := H
  have A3 := Aside0.mk A30
  clear A30
  by_cases c4 : t313 = 0
  · rw [if_pos c4] at H
    obtain ⟨c4b0, c4b1⟩ := eqB_ c4
    clear c4
    by_cases c5 : t312 = true
    · subst c5
      have H1 : (if t315 = 0 then (if t314 = true then (if t317 = 3 then ((guard_Check.f k 3 (⟨#[]⟩ : ByteArray) ([] : List (S72)) 3 y302 y305).bind fun t318 => (if t318 = 0 then ((guard_Check.f k 0 (⟨#[]⟩ : ByteArray) ([] : List (S72)) 0 ([] : List (S67)) ([] : List (S67))).bind fun t319 => (some (t319 == 1))) else (some false))) else (some false)) else (some false)) else (some false)) = some r := by rw [if_pos rfl] at H; exact H
      clear H
      have H := H1
      clear H1
      by_cases c6 : t315 = 0
      · rw [if_pos c6] at H
        obtain ⟨c6b0, c6b1⟩ := eqB_ c6
        clear c6
        by_cases c7 : t314 = true
        · subst c7
          have H1 : (if t317 = 3 then ((guard_Check.f k 3 (⟨#[]⟩ : ByteArray) ([] : List (S72)) 3 y302 y305).bind fun t318 => (if t318 = 0 then ((guard_Check.f k 0 (⟨#[]⟩ : ByteArray) ([] : List (S72)) 0 ([] : List (S67)) ([] : List (S67))).bind fun t319 => (some (t319 == 1))) else (some false))) else (some false)) = some r := by rw [if_pos rfl] at H; exact H
          clear H
          have H := H1
          clear H1
          by_cases c8 : t317 = 3
          · rw [if_pos c8] at H
            obtain ⟨c8b0, c8b1⟩ := eqB_ c8
            clear c8
            replace H := Option.bind_eq_some_iff.mp H
            obtain ⟨t318, A90, H⟩ := H
            replace H : (if t318 = 0 then ((guard_Check.f k 0 (⟨#[]⟩ : ByteArray) ([] : List (S72)) 0 ([] : List (S67)) ([] : List (S67))).bind fun t319 => (some (t319 == 1))) else (some false)) = some r := H
            have A9 := Aside0.mk A90
            clear A90
            by_cases c10 : t318 = 0
            · rw [if_pos c10] at H
              obtain ⟨c10b0, c10b1⟩ := eqB_ c10
              clear c10
              replace H := Option.bind_eq_some_iff.mp H
              obtain ⟨t319, A110, H⟩ := H
              replace H : (some (t319 == 1)) = some r := H
              have A11 := Aside0.mk A110
              clear A110
              obtain rfl := Option.some.inj H
              go_enter Try.func17, Try.ntmps17
              go_wp2_with (first | ((with_reducible refine gate_dst (N := 1) rfl ?_); refine box_event ?hg (N := 1) ?hd (cs := #[.int .i64 0, .int .i64 0, .string (⟨#[]⟩ : ByteArray)]) (t := 23) ?hr ?_; (case hd => rfl); (case hg => rfl); (case hr => first | (go_simp; done) | (go_simp; rfl)); intro gb300 hg w12 hbox hb; have n0_ := bs_ (be_ HB) hb; have n1_ := Aside0.mk (hbox); have n2_ := gs_ hg (be_ HB); have n3_ := gs_ hg (be_ HB); clear HB; have HB := n0_; have BK300 := n1_; have GW300 := n2_; have GE300 := n3_; clear n0_ n1_ n2_ n3_; clear hb hbox hg) | ((with_reducible refine gate_dst (N := 2) rfl ?_); refine box_event ?hg (N := 2) ?hd (cs := #[.int .i64 0, .int .i64 0, .string (⟨#[]⟩ : ByteArray)]) (t := 23) ?hr ?_; (case hd => rfl); (case hg => rfl); (case hr => first | (go_simp; done) | (go_simp; rfl)); intro gb301 hg w13 hbox hb; have n0_ := bb_ (bu_ BK300) hb; have n1_ := bs_ (be_ HB) hb; have n2_ := Aside0.mk (hbox); have n3_ := gs_ hg (be_ HB); have n4_ := gs_ hg (be_ HB); have n5_ := nl_ hg (bu_ BK300); have n6_ := ng_ hg (bu_ BK300); clear BK300; clear HB; have BK300 := n0_; have HB := n1_; have BK301 := n2_; have GW301 := n3_; have GE301 := n4_; have NB300_301 := n5_; have NB301_300 := n6_; clear n0_ n1_ n2_ n3_ n4_ n5_ n6_; clear hb hbox hg; have hnb14 := NB300_301.out; have hnc14 := NB301_300.out; have hcz15_0 : w13.cell? ⟨gb300, 0, none⟩ = some (.int .i64 0) := (blk_cell BK300.out 0).trans rfl; have hcz15_1 : w13.cell? ⟨gb300, 1, none⟩ = some (.int .i64 0) := (blk_cell BK300.out 1).trans rfl; have hcz15_2 : w13.cell? ⟨gb300, 2, none⟩ = some (.string (⟨#[]⟩ : ByteArray)) := (blk_cell BK300.out 2).trans rfl; have hfz15_0 := blk_frozen BK300.out 0; have hfz15_1 := blk_frozen BK300.out 1; have hfz15_2 := blk_frozen BK300.out 2; have hcz16_0 : w13.cell? ⟨gb301, 0, none⟩ = some (.int .i64 0) := (blk_cell BK301.out 0).trans rfl; have hcz16_1 : w13.cell? ⟨gb301, 1, none⟩ = some (.int .i64 0) := (blk_cell BK301.out 1).trans rfl; have hcz16_2 : w13.cell? ⟨gb301, 2, none⟩ = some (.string (⟨#[]⟩ : ByteArray)) := (blk_cell BK301.out 2).trans rfl; have hfz16_0 := blk_frozen BK301.out 0; have hfz16_1 := blk_frozen BK301.out 1; have hfz16_2 := blk_frozen BK301.out 2) | ((with_reducible refine gate_dst (N := 13) rfl ?_); refine Kd.R_lit k67 _ 67 ?hg (N := 13) ?hd (xs := ([(⟨1, (⟨#[88]⟩ : ByteArray), (⟨0, 0, (⟨#[]⟩ : ByteArray)⟩ : S23)⟩ : S67)] : List (S67))) (inner := [.int .i64 1, .string (⟨#[88]⟩ : ByteArray), .int .i64 0, .int .i64 0, .string (⟨#[]⟩ : ByteArray)]) (ok := fun _ => True) (okp := fun _ => True) ?hr ?hp (fun _ hk => hk) trivial (Below.refl _ _) (Nat.le_refl _) (by simp) ?_; (case hd => rfl); (case hg => rfl); (case hr => first | (go_simp; done) | (go_simp; rfl)); (case hp => exact (Reps.c5 (show Kd.M k67 _ _ _ (⟨1, (⟨#[88]⟩ : ByteArray), (⟨0, 0, (⟨#[]⟩ : ByteArray)⟩ : S23)⟩ : S67) [.int .i64 1, .string (⟨#[88]⟩ : ByteArray), .int .i64 0, .int .i64 0, .string (⟨#[]⟩ : ByteArray)] from (k67_mkM _ _ _ (⟨1, (⟨#[88]⟩ : ByteArray), (⟨0, 0, (⟨#[]⟩ : ByteArray)⟩ : S23)⟩ : S67) )) (Reps.none _ _))); intro v303 w17 ho18 hb hg_ hnew_; clear hg_ hnew_; (first | rw [← Ny302.out] at ho18 | (simp only [Int.reduceToNat] at ho18; rw [← Ny302.out] at ho18)); have n0_ := Aside0.mk (Kd.R_lower ho18 (below_size (be_ HB))); have n1_ := Aside0.mk (blk_below (o := .cells #[.int .i64 1, .int .i64 2, .string (⟨#[]⟩ : ByteArray)] 23 (0, 0)) (bp_ BK300) hb); have n2_ := Aside0.mk (blk_below (o := .cells #[.int .i64 1, .int .i64 3, .string (⟨#[]⟩ : ByteArray)] 23 (0, 0)) (bp_ BK301) hb); have n3_ := bs_ (be_ HB) hb; clear BK300; clear BK301; clear HB; have HO304 := n0_; have BK300 := n1_; have BK301 := n2_; have HB := n3_; clear n0_ n1_ n2_ n3_; (try clear hcz15_0 hcz15_1 hcz15_2 hfz15_0 hfz15_1 hfz15_2 hcz16_0 hcz16_1 hcz16_2 hfz16_0 hfz16_1 hfz16_2); clear hb ho18; have hcz19_0 : w17.cell? ⟨gb301, 0, none⟩ = some (.int .i64 1) := (blk_cell BK301.out 0).trans rfl; have hcz19_1 : w17.cell? ⟨gb301, 1, none⟩ = some (.int .i64 3) := (blk_cell BK301.out 1).trans rfl; have hcz19_2 : w17.cell? ⟨gb301, 2, none⟩ = some (.string (⟨#[]⟩ : ByteArray)) := (blk_cell BK301.out 2).trans rfl; have hfz19_0 := blk_frozen BK301.out 0; have hfz19_1 := blk_frozen BK301.out 1; have hfz19_2 := blk_frozen BK301.out 2) | ((with_reducible refine gate_dst (N := 16) rfl ?_); refine Kd.R_lit k67 _ 67 ?hg (N := 16) ?hd (xs := ([(⟨2, (⟨#[]⟩ : ByteArray), (⟨1, 3, (⟨#[]⟩ : ByteArray)⟩ : S23)⟩ : S67)] : List (S67))) (inner := [.int .i64 2, .string (⟨#[]⟩ : ByteArray), .int .i64 1, .int .i64 3, .string (⟨#[]⟩ : ByteArray)]) (ok := fun _ => True) (okp := fun _ => True) ?hr ?hp (fun _ hk => hk) trivial (Below.refl _ _) (Nat.le_refl _) (by simp) ?_; (case hd => rfl); (case hg => rfl); (case hr => first | (go_simp; done) | (go_simp; rfl)); (case hp => exact (Reps.c5 (show Kd.M k67 _ _ _ (⟨2, (⟨#[]⟩ : ByteArray), (⟨1, 3, (⟨#[]⟩ : ByteArray)⟩ : S23)⟩ : S67) [.int .i64 2, .string (⟨#[]⟩ : ByteArray), .int .i64 1, .int .i64 3, .string (⟨#[]⟩ : ByteArray)] from (k67_mkM _ _ _ (⟨2, (⟨#[]⟩ : ByteArray), (⟨1, 3, (⟨#[]⟩ : ByteArray)⟩ : S23)⟩ : S67) )) (Reps.none _ _))); intro v306 w20 ho21 hb hg_ hnew_; clear hg_ hnew_; (first | rw [← Ny305.out] at ho21 | (simp only [Int.reduceToNat] at ho21; rw [← Ny305.out] at ho21)); have n0_ := Aside0.mk (Kd.R_elder' (ku_ HO304.out) (Kd.R_base ho21) hb); have n1_ := Aside0.mk (Kd.R_lower (Kd.R_new' ho21 (Kd.R_lt (ku_ HO304.out))) (below_size (be_ HB))); have n2_ := bb_ (bu_ BK300) hb; have n3_ := bb_ (bu_ BK301) hb; have n4_ := bs_ (be_ HB) hb; clear HO304; clear BK300; clear BK301; clear HB; have HO304 := n0_; have HO307 := n1_; have BK300 := n2_; have BK301 := n3_; have HB := n4_; clear n0_ n1_ n2_ n3_ n4_; (try clear hcz19_0 hcz19_1 hcz19_2 hfz19_0 hfz19_1 hfz19_2); clear hb ho21; obtain ⟨Ao22, co22, eo22⟩ := Kd.R_slice HO307.out; subst eo22; obtain ⟨Ao23, co23, eo23⟩ := Kd.R_slice HO304.out; subst eo23) | ((with_reducible refine gate_dst (N := 3) rfl ?_); refine box_event ?hg (N := 3) ?hd (cs := #[.int .i64 0, .string (⟨#[]⟩ : ByteArray), .slice none 0 0, .int .i64 0, .slice none 0 0, .slice none 0 0]) (t := 29) ?hr ?_; (case hd => rfl); (case hg => rfl); (case hr => first | (go_simp; done) | (go_simp; rfl)); intro gb308 hg w24 hbox hb; have n0_ := kb_ (ku_ HO304.out) hb; have n1_ := kb_ (ku_ HO307.out) hb; have n2_ := bb_ (bu_ BK300) hb; have n3_ := bb_ (bu_ BK301) hb; have n4_ := bs_ (be_ HB) hb; have n5_ := Aside0.mk (hbox); have n6_ := gs_ hg (be_ HB); have n7_ := gs_ hg (be_ HB); have n8_ := nl_ hg (bu_ BK300); have n9_ := ng_ hg (bu_ BK300); have n10_ := nl_ hg (bu_ BK301); have n11_ := ng_ hg (bu_ BK301); clear HO304; clear HO307; clear BK300; clear BK301; clear HB; have HO304 := n0_; have HO307 := n1_; have BK300 := n2_; have BK301 := n3_; have HB := n4_; have BK308 := n5_; have GW308 := n6_; have GE308 := n7_; have NB300_308 := n8_; have NB308_300 := n9_; have NB301_308 := n10_; have NB308_301 := n11_; clear n0_ n1_ n2_ n3_ n4_ n5_ n6_ n7_ n8_ n9_ n10_ n11_; clear hb hbox hg; have hnb25 := NB308_300.out; have hnc25 := NB300_308.out; have hnb26 := NB308_301.out; have hnc26 := NB301_308.out; have hcz27_0 : w24.cell? ⟨gb308, 0, none⟩ = some (.int .i64 0) := (blk_cell BK308.out 0).trans rfl; have hcz27_1 : w24.cell? ⟨gb308, 1, none⟩ = some (.string (⟨#[]⟩ : ByteArray)) := (blk_cell BK308.out 1).trans rfl; have hcz27_2 : w24.cell? ⟨gb308, 2, none⟩ = some (.slice none 0 0) := (blk_cell BK308.out 2).trans rfl; have hcz27_3 : w24.cell? ⟨gb308, 3, none⟩ = some (.int .i64 0) := (blk_cell BK308.out 3).trans rfl; have hcz27_4 : w24.cell? ⟨gb308, 4, none⟩ = some (.slice none 0 0) := (blk_cell BK308.out 4).trans rfl; have hcz27_5 : w24.cell? ⟨gb308, 5, none⟩ = some (.slice none 0 0) := (blk_cell BK308.out 5).trans rfl; have hfz27_0 := blk_frozen BK308.out 0; have hfz27_1 := blk_frozen BK308.out 1; have hfz27_2 := blk_frozen BK308.out 2; have hfz27_3 := blk_frozen BK308.out 3; have hfz27_4 := blk_frozen BK308.out 4; have hfz27_5 := blk_frozen BK308.out 5; have hcz28_0 : w24.cell? ⟨gb300, 0, none⟩ = some (.int .i64 1) := (blk_cell BK300.out 0).trans rfl; have hcz28_1 : w24.cell? ⟨gb300, 1, none⟩ = some (.int .i64 2) := (blk_cell BK300.out 1).trans rfl; have hcz28_2 : w24.cell? ⟨gb300, 2, none⟩ = some (.string (⟨#[]⟩ : ByteArray)) := (blk_cell BK300.out 2).trans rfl; have hfz28_0 := blk_frozen BK300.out 0; have hfz28_1 := blk_frozen BK300.out 1; have hfz28_2 := blk_frozen BK300.out 2) | ((with_reducible refine gate_dst (N := 22) rfl ?_); refine Kd.R_lit k54 _ 54 ?hg (N := 22) ?hd (xs := ([(⟨(⟨#[88]⟩ : ByteArray), (⟨1, 2, (⟨#[]⟩ : ByteArray)⟩ : S23)⟩ : S54)] : List (S54))) (inner := [.string (⟨#[88]⟩ : ByteArray), .int .i64 1, .int .i64 2, .string (⟨#[]⟩ : ByteArray)]) (ok := fun _ => True) (okp := fun _ => True) ?hr ?hp (fun _ hk => hk) trivial (Below.refl _ _) (Nat.le_refl _) (by simp) ?_; (case hd => rfl); (case hg => rfl); (case hr => first | (go_simp; done) | (go_simp; rfl)); (case hp => exact (Reps.c4 (show Kd.M k54 _ _ _ (⟨(⟨#[88]⟩ : ByteArray), (⟨1, 2, (⟨#[]⟩ : ByteArray)⟩ : S23)⟩ : S54) [.string (⟨#[88]⟩ : ByteArray), .int .i64 1, .int .i64 2, .string (⟨#[]⟩ : ByteArray)] from (k54_mkM _ _ _ (⟨(⟨#[88]⟩ : ByteArray), (⟨1, 2, (⟨#[]⟩ : ByteArray)⟩ : S23)⟩ : S54) )) (Reps.none _ _))); intro v310 w29 ho30 hb hg_ hnew_; clear hg_ hnew_; (first | rw [← Ny309.out] at ho30 | (simp only [Int.reduceToNat] at ho30; rw [← Ny309.out] at ho30)); have n0_ := Aside0.mk (Kd.R_below (ku_ (Kd.R_mono (Kd.R_far (p := ⟨gb308, 5, none⟩) (Kd.R_far (p := ⟨gb308, 4, none⟩) (Kd.R_far (p := ⟨gb308, 3, none⟩) (Kd.R_far (p := ⟨gb308, 2, none⟩) (Kd.R_far (p := ⟨gb308, 1, none⟩) (Kd.R_far (p := ⟨gb308, 0, none⟩) (Kd.R_types HO304.out BK308.out (by decide)) (fun _ hk => hk.2) (.int .i64 3)) (fun _ hk => hk.2) (.string (⟨#[]⟩ : ByteArray))) (fun _ hk => hk.2) (.slice none 0 0)) (fun _ hk => hk.2) (.int .i64 3)) (fun _ hk => hk.2) (.slice Ao23 y302.length co23)) (fun _ hk => hk.2) (.slice Ao22 y305.length co22)) (fun _ h_ => h_.1))) hb); have n1_ := Aside0.mk (Kd.R_below (ku_ (Kd.R_mono (Kd.R_far (p := ⟨gb308, 5, none⟩) (Kd.R_far (p := ⟨gb308, 4, none⟩) (Kd.R_far (p := ⟨gb308, 3, none⟩) (Kd.R_far (p := ⟨gb308, 2, none⟩) (Kd.R_far (p := ⟨gb308, 1, none⟩) (Kd.R_far (p := ⟨gb308, 0, none⟩) (Kd.R_types HO307.out BK308.out (by decide)) (fun _ hk => hk.2) (.int .i64 3)) (fun _ hk => hk.2) (.string (⟨#[]⟩ : ByteArray))) (fun _ hk => hk.2) (.slice none 0 0)) (fun _ hk => hk.2) (.int .i64 3)) (fun _ hk => hk.2) (.slice Ao23 y302.length co23)) (fun _ hk => hk.2) (.slice Ao22 y305.length co22)) (fun _ h_ => h_.1))) hb); have n2_ := Aside0.mk (Kd.R_lower ho30 (below_size (be_ HB))); have n3_ := bb_ (bu_ BK300) hb; have n4_ := bb_ (bu_ BK301) hb; have n5_ := Aside0.mk (blk_below (o := .cells #[.int .i64 3, .string (⟨#[]⟩ : ByteArray), .slice none 0 0, .int .i64 3, .slice Ao23 y302.length co23, .slice Ao22 y305.length co22] 29 (0, 0)) (bp_ BK308) hb); have n6_ := bs_ (be_ HB) hb; clear HO304; clear HO307; clear BK300; clear BK301; clear BK308; clear HB; have HO304 := n0_; have HO307 := n1_; have HO311 := n2_; have BK300 := n3_; have BK301 := n4_; have BK308 := n5_; have HB := n6_; clear n0_ n1_ n2_ n3_ n4_ n5_ n6_; (try clear hcz27_0 hcz27_1 hcz27_2 hcz27_3 hcz27_4 hcz27_5 hfz27_0 hfz27_1 hfz27_2 hfz27_3 hfz27_4 hfz27_5 hcz28_0 hcz28_1 hcz28_2 hfz28_0 hfz28_1 hfz28_2); clear hb ho30; obtain ⟨Ao31, co31, eo31⟩ := Kd.R_slice HO311.out; subst eo31) | ((with_reducible refine gate_callee (f := 12) rfl ?_); refine goesL_ (some 23) rfl rfl Try.func12 (by kernel_rfl) rfl #[.agg #[.int .i64 3, .string (⟨#[]⟩ : ByteArray), .slice none 0 0, .int .i64 3, .slice Ao23 y302.length co23, .slice Ao22 y305.length co22], .slice Ao31 y309.length co31] rfl ga_ ?_; (refine (guard_Eval.calls k 3 (⟨#[]⟩ : ByteArray) none 0 ([] : List (S72)) 3 _ _ y302 _ _ y305 _ _ y309 true t313 _ ?side1 ?side2 ?side3 ?side4 ?side5 ?side6 ?side7 ?side8 A1.out).mono ?_); (case side1 => exact Kd.C_nil _ _); (case side2 => exact Nat.le_refl _); (case side3 => repeat (first | exact (Kd.R_reads' HO304.out).2.2 | (with_reducible refine Kd.C_alloc ?_ _) | (with_reducible refine Kd.C_drewN ?_ _) | (with_reducible refine Kd.C_drew ?_))); (case side4 => exact (Kd.R_reads' HO304.out).2.1); (case side5 => repeat (first | exact (Kd.R_reads' HO307.out).2.2 | (with_reducible refine Kd.C_alloc ?_ _) | (with_reducible refine Kd.C_drewN ?_ _) | (with_reducible refine Kd.C_drew ?_))); (case side6 => exact (Kd.R_reads' HO307.out).2.1); (case side7 => repeat (first | exact (Kd.R_reads' HO311.out).2.2 | (with_reducible refine Kd.C_alloc ?_ _) | (with_reducible refine Kd.C_drewN ?_ _) | (with_reducible refine Kd.C_drew ?_))); (case side8 => exact (Kd.R_reads' HO311.out).2.1); rintro e w32 ⟨rfl, hb⟩; refine ⟨_, rfl, ?_⟩; have n0_ := kb_ (ku_ HO304.out) hb; have n1_ := kb_ (ku_ HO307.out) hb; have n2_ := kb_ (ku_ HO311.out) hb; have n3_ := bb_ (bu_ BK300) hb; have n4_ := bb_ (bu_ BK301) hb; have n5_ := bb_ (bu_ BK308) hb; have n6_ := bs_ (be_ HB) hb; clear HO304; clear HO307; clear HO311; clear BK300; clear BK301; clear BK308; clear HB; have HO304 := n0_; have HO307 := n1_; have HO311 := n2_; have BK300 := n3_; have BK301 := n4_; have BK308 := n5_; have HB := n6_; clear n0_ n1_ n2_ n3_ n4_ n5_ n6_; (try clear hb); (try clear hb2); (try clear hk); (try clear hi); have hcz33_0 : w32.cell? ⟨gb300, 0, none⟩ = some (.int .i64 1) := (blk_cell BK300.out 0).trans rfl; have hcz33_1 : w32.cell? ⟨gb300, 1, none⟩ = some (.int .i64 2) := (blk_cell BK300.out 1).trans rfl; have hcz33_2 : w32.cell? ⟨gb300, 2, none⟩ = some (.string (⟨#[]⟩ : ByteArray)) := (blk_cell BK300.out 2).trans rfl; have hfz33_0 := blk_frozen BK300.out 0; have hfz33_1 := blk_frozen BK300.out 1; have hfz33_2 := blk_frozen BK300.out 2; have hcz34_0 : w32.cell? ⟨gb301, 0, none⟩ = some (.int .i64 1) := (blk_cell BK301.out 0).trans rfl; have hcz34_1 : w32.cell? ⟨gb301, 1, none⟩ = some (.int .i64 3) := (blk_cell BK301.out 1).trans rfl; have hcz34_2 : w32.cell? ⟨gb301, 2, none⟩ = some (.string (⟨#[]⟩ : ByteArray)) := (blk_cell BK301.out 2).trans rfl; have hfz34_0 := blk_frozen BK301.out 0; have hfz34_1 := blk_frozen BK301.out 1; have hfz34_2 := blk_frozen BK301.out 2; (try clear A1)) | ((with_reducible refine gate_callee (f := 10) rfl ?_); refine goesL_ (some 29) rfl rfl Try.func10 (by kernel_rfl) rfl #[.int .i64 2, .agg #[.int .i64 1, .int .i64 2, .string (⟨#[]⟩ : ByteArray)], .agg #[.int .i64 1, .int .i64 3, .string (⟨#[]⟩ : ByteArray)]] rfl ga_ ?_; (with_reducible refine (guard_Holds.calls k 2 1 2 (⟨#[]⟩ : ByteArray) 1 3 (⟨#[]⟩ : ByteArray) true t315 _ A2.out).mono ?_); rintro e w35 ⟨rfl, hb⟩; refine ⟨_, rfl, ?_⟩; have n0_ := kb_ (ku_ HO304.out) hb; have n1_ := kb_ (ku_ HO307.out) hb; have n2_ := kb_ (ku_ HO311.out) hb; have n3_ := bb_ (bu_ BK300) hb; have n4_ := bb_ (bu_ BK301) hb; have n5_ := bb_ (bu_ BK308) hb; have n6_ := bs_ (be_ HB) hb; clear HO304; clear HO307; clear HO311; clear BK300; clear BK301; clear BK308; clear HB; have HO304 := n0_; have HO307 := n1_; have HO311 := n2_; have BK300 := n3_; have BK301 := n4_; have BK308 := n5_; have HB := n6_; clear n0_ n1_ n2_ n3_ n4_ n5_ n6_; (try clear hcz33_0 hcz33_1 hcz33_2 hfz33_0 hfz33_1 hfz33_2 hcz34_0 hcz34_1 hcz34_2 hfz34_0 hfz34_1 hfz34_2); (try clear hb); (try clear hb2); (try clear hk); (try clear hi); have hcz36_0 : w35.cell? ⟨gb300, 0, none⟩ = some (.int .i64 1) := (blk_cell BK300.out 0).trans rfl; have hcz36_1 : w35.cell? ⟨gb300, 1, none⟩ = some (.int .i64 2) := (blk_cell BK300.out 1).trans rfl; have hcz36_2 : w35.cell? ⟨gb300, 2, none⟩ = some (.string (⟨#[]⟩ : ByteArray)) := (blk_cell BK300.out 2).trans rfl; have hfz36_0 := blk_frozen BK300.out 0; have hfz36_1 := blk_frozen BK300.out 1; have hfz36_2 := blk_frozen BK300.out 2) | ((with_reducible refine gate_callee (f := 10) rfl ?_); refine goesL_ (some 35) rfl rfl Try.func10 (by kernel_rfl) rfl #[.int .i64 4, .agg #[.int .i64 1, .int .i64 2, .string (⟨#[]⟩ : ByteArray)], .agg #[.int .i64 2, .int .i64 0, .string (⟨#[97]⟩ : ByteArray)]] rfl ga_ ?_; (with_reducible refine (guard_Holds.calls k 4 1 2 (⟨#[]⟩ : ByteArray) 2 0 (⟨#[97]⟩ : ByteArray) t316 t317 _ A3.out).mono ?_); rintro e w37 ⟨rfl, hb⟩; refine ⟨_, rfl, ?_⟩; have n0_ := kb_ (ku_ HO304.out) hb; have n1_ := kb_ (ku_ HO307.out) hb; have n2_ := kb_ (ku_ HO311.out) hb; have n3_ := bb_ (bu_ BK300) hb; have n4_ := bb_ (bu_ BK301) hb; have n5_ := bb_ (bu_ BK308) hb; have n6_ := bs_ (be_ HB) hb; clear HO304; clear HO307; clear HO311; clear BK300; clear BK301; clear BK308; clear HB; have HO304 := n0_; have HO307 := n1_; have HO311 := n2_; have BK300 := n3_; have BK301 := n4_; have BK308 := n5_; have HB := n6_; clear n0_ n1_ n2_ n3_ n4_ n5_ n6_; (try clear hcz36_0 hcz36_1 hcz36_2 hfz36_0 hfz36_1 hfz36_2); (try clear hb); (try clear hb2); (try clear hk); (try clear hi); have hcz38_0 : w37.cell? ⟨gb308, 0, none⟩ = some (.int .i64 3) := (blk_cell BK308.out 0).trans rfl; have hcz38_1 : w37.cell? ⟨gb308, 1, none⟩ = some (.string (⟨#[]⟩ : ByteArray)) := (blk_cell BK308.out 1).trans rfl; have hcz38_2 : w37.cell? ⟨gb308, 2, none⟩ = some (.slice none 0 0) := (blk_cell BK308.out 2).trans rfl; have hcz38_3 : w37.cell? ⟨gb308, 3, none⟩ = some (.int .i64 3) := (blk_cell BK308.out 3).trans rfl; have hcz38_4 : w37.cell? ⟨gb308, 4, none⟩ = some (.slice Ao23 y302.length co23) := (blk_cell BK308.out 4).trans rfl; have hcz38_5 : w37.cell? ⟨gb308, 5, none⟩ = some (.slice Ao22 y305.length co22) := (blk_cell BK308.out 5).trans rfl; have hfz38_0 := blk_frozen BK308.out 0; have hfz38_1 := blk_frozen BK308.out 1; have hfz38_2 := blk_frozen BK308.out 2; have hfz38_3 := blk_frozen BK308.out 3; have hfz38_4 := blk_frozen BK308.out 4; have hfz38_5 := blk_frozen BK308.out 5) | (go_at_call 15; (refine (guard_Check.calls k 3 (⟨#[]⟩ : ByteArray) none 0 ([] : List (S72)) 3 _ _ y302 _ _ y305 t318 _ ?side1 ?side2 ?side3 ?side4 ?side5 ?side6 A9.out).mono ?_); (case side1 => exact Kd.C_nil _ _); (case side2 => exact Nat.le_refl _); (case side3 => repeat (first | exact (Kd.R_reads' HO304.out).2.2 | (with_reducible refine Kd.C_alloc ?_ _) | (with_reducible refine Kd.C_drewN ?_ _) | (with_reducible refine Kd.C_drew ?_))); (case side4 => exact (Kd.R_reads' HO304.out).2.1); (case side5 => repeat (first | exact (Kd.R_reads' HO307.out).2.2 | (with_reducible refine Kd.C_alloc ?_ _) | (with_reducible refine Kd.C_drewN ?_ _) | (with_reducible refine Kd.C_drew ?_))); (case side6 => exact (Kd.R_reads' HO307.out).2.1); rintro e w39 ⟨rfl, hb⟩; have n0_ := kb_ (ku_ HO304.out) hb; have n1_ := kb_ (ku_ HO307.out) hb; have n2_ := kb_ (ku_ HO311.out) hb; have n3_ := bb_ (bu_ BK300) hb; have n4_ := bb_ (bu_ BK301) hb; have n5_ := bb_ (bu_ BK308) hb; have n6_ := bs_ (be_ HB) hb; clear HO304; clear HO307; clear HO311; clear BK300; clear BK301; clear BK308; clear HB; have HO304 := n0_; have HO307 := n1_; have HO311 := n2_; have BK300 := n3_; have BK301 := n4_; have BK308 := n5_; have HB := n6_; clear n0_ n1_ n2_ n3_ n4_ n5_ n6_; (try clear hcz38_0 hcz38_1 hcz38_2 hcz38_3 hcz38_4 hcz38_5 hfz38_0 hfz38_1 hfz38_2 hfz38_3 hfz38_4 hfz38_5); (try clear hb); (try clear hb2); (try clear hk); (try clear hi); (try clear A9)) | (go_at_call 15; (refine (guard_Check.calls k 0 (⟨#[]⟩ : ByteArray) none 0 ([] : List (S72)) 0 none 0 ([] : List (S67)) none 0 ([] : List (S67)) t319 _ ?side1 ?side2 ?side3 ?side4 ?side5 ?side6 A11.out).mono ?_); (case side1 => exact Kd.C_nil _ _); (case side2 => exact Nat.le_refl _); (case side3 => exact Kd.C_nil _ _); (case side4 => exact Nat.le_refl _); (case side5 => exact Kd.C_nil _ _); (case side6 => exact Nat.le_refl _); rintro e w40 ⟨rfl, hb⟩; have n0_ := kb_ (ku_ HO304.out) hb; have n1_ := kb_ (ku_ HO307.out) hb; have n2_ := kb_ (ku_ HO311.out) hb; have n3_ := bb_ (bu_ BK300) hb; have n4_ := bb_ (bu_ BK301) hb; have n5_ := bb_ (bu_ BK308) hb; have n6_ := bs_ (be_ HB) hb; clear HO304; clear HO307; clear HO311; clear BK300; clear BK301; clear BK308; clear HB; have HO304 := n0_; have HO307 := n1_; have HO311 := n2_; have BK300 := n3_; have BK301 := n4_; have BK308 := n5_; have HB := n6_; clear n0_ n1_ n2_ n3_ n4_ n5_ n6_; (try clear hb); (try clear hb2); (try clear hk); (try clear hi); (try clear A11)))
              go_ret
              exact ⟨by first | rfl | (simp [errW_none, errW_some] <;> rfl) | (simp [*, errW_none, errW_some] <;> rfl), by repeat (first | (with_reducible first | exact HB.out | apply below_alloc | apply pw_below_drewN | apply below_drew1 | refine below_set ?_ GE300.out | refine below_set ?_ GE301.out | refine below_set ?_ GE308.out) | exact HB.out)⟩
            · rw [if_neg c10] at H
              obtain ⟨c10b0, c10b1⟩ := neB_ c10
              exact absurd ((Option.some.inj H).trans HR_.out) (by decide)
          · rw [if_neg c8] at H
            obtain ⟨c8b0, c8b1⟩ := neB_ c8
            exact absurd ((Option.some.inj H).trans HR_.out) (by decide)
        · replace c7 := Bool.eq_false_iff.mpr c7
          subst c7
          have H1 : (some false) = some r := by rw [if_neg (show ¬ (false = true) by decide)] at H; exact H
          clear H
          have H := H1
          clear H1
          exact absurd ((Option.some.inj H).trans HR_.out) (by decide)
      · rw [if_neg c6] at H
        obtain ⟨c6b0, c6b1⟩ := neB_ c6
        exact absurd ((Option.some.inj H).trans HR_.out) (by decide)
    · replace c5 := Bool.eq_false_iff.mpr c5
      subst c5
      have H1 : (some false) = some r := by rw [if_neg (show ¬ (false = true) by decide)] at H; exact H
      clear H
      have H := H1
      clear H1
      exact absurd ((Option.some.inj H).trans HR_.out) (by decide)
  · rw [if_neg c4] at H
    obtain ⟨c4b0, c4b1⟩ := neB_ c4
    exact absurd ((Option.some.inj H).trans HR_.out) (by decide)
end Go.Proofs.Ytaopajmpifenoaa.P
end
section
namespace Go.Proofs.Ytaopajmpifenoaa.P
open Go.RowKit Go.Proofs.YtaopajmpifenoaaW.PrintWords Go.Proofs.YtaopajmpifenoaaW.PrintLast Go.Proofs.YtaopajmpifenoaaW.PrintMore
attribute [local go_sem] max2_int min2_int max_two min_two max_three min_three max_four min_four
set_option linter.unusedVariables false
set_option linter.unusedSimpArgs false
attribute [local go_sem high] eqA23
mutual
def constablelaw08_GuardOne.j0 : Nat → Bool → Int → Int → ByteArray → Int → Int → ByteArray → Option (Bool)
  | 0, _, _, _, _, _, _, _ => none
  | k + 1, x35, x373000, x373001, x373002, x374000, x374001, x374002 => if x35 = true then (some true) else ((guard_Holds.f k 1 x373000 x373001 x373002 x374000 x374001 x374002).bind fun bt376 => ((guard_Holds.f k 2 x373000 x373001 x373002 x374000 x374001 x374002).bind fun bt378 => ((guard_Holds.f k 3 x373000 x373001 x373002 x374000 x374001 x374002).bind fun bt380 => ((guard_Holds.f k 3 x374000 x374001 x374002 x373000 x373001 x373002).bind fun bt382 => ((guard_Holds.f k 4 x373000 x373001 x373002 x374000 x374001 x374002).bind fun bt384 => (if bt376.2 = 0 then (if bt378.2 = 0 then (if (bt376.1 != (x373000 == x374000 && (x373001 == x374001 && (x373002.toList == x374002.toList)))) = true then (constablelaw08_GuardOne.j1 k bt376.1 bt380.1 bt380.2 bt382.1 bt382.2 bt384.1 bt384.2 true x373000 x373001 x373002 x374000 x374001 x374002) else (constablelaw08_GuardOne.j1 k bt376.1 bt380.1 bt380.2 bt382.1 bt382.2 bt384.1 bt384.2 (bt378.1 == bt376.1) x373000 x373001 x373002 x374000 x374001 x374002)) else (constablelaw08_GuardOne.j1 k bt376.1 bt380.1 bt380.2 bt382.1 bt382.2 bt384.1 bt384.2 true x373000 x373001 x373002 x374000 x374001 x374002)) else (constablelaw08_GuardOne.j1 k bt376.1 bt380.1 bt380.2 bt382.1 bt382.2 bt384.1 bt384.2 true x373000 x373001 x373002 x374000 x374001 x374002)))))))
def constablelaw08_GuardOne.j1 : Nat → Bool → Bool → Int → Bool → Int → Bool → Int → Bool → Int → Int → ByteArray → Int → Int → ByteArray → Option (Bool)
  | 0, _, _, _, _, _, _, _, _, _, _, _, _, _, _ => none
  | k + 1, x5, x9, x10, x11, x12, x13, x14, x83, x373000, x373001, x373002, x374000, x374001, x374002 => if x83 = true then (some false) else (if x373000 = x374000 then (if x5 = true then (if x9 = true then (if x10 = 0 then (if x12 = 0 then (if x14 = 0 then (some false) else (some false)) else (some false)) else (some false)) else (if x11 = true then (if x10 = 0 then (if x12 = 0 then (if x14 = 0 then (some false) else (some false)) else (some false)) else (some false)) else (if x10 = 0 then (if x12 = 0 then (if x14 = 0 then (if (x13 == x5) = true then ((constablelaw08_wakes.f k).bind fun t386 => (some t386)) else (some false)) else (some false)) else (some false)) else (some false)))) else (if x9 = true then (if x11 = true then (if x10 = 0 then (if x12 = 0 then (if x14 = 0 then (some false) else (some false)) else (some false)) else (some false)) else (if x10 = 0 then (if x12 = 0 then (if x14 = 0 then (if (x13 == true) = true then ((constablelaw08_wakes.f k).bind fun t387 => (some t387)) else (some false)) else (some false)) else (some false)) else (some false))) else (if x10 = 0 then (if x12 = 0 then (if x14 = 0 then (if x11 = true then (if (x13 == x5) = true then ((constablelaw08_wakes.f k).bind fun t388 => (some t388)) else (some false)) else (some false)) else (some false)) else (some false)) else (some false)))) else (if x10 = 3 then (if x12 = 3 then (if x14 = 3 then (if x5 = true then (some false) else ((constablelaw08_wakes.f k).bind fun t389 => (some t389))) else (some false)) else (some false)) else (some false)))
end
def constablelaw08_GuardOne.f (k : Nat) (a0_0 : Int) (a0_1 : Int) (a0_2 : ByteArray) (a1_0 : Int) (a1_1 : Int) (a1_2 : ByteArray) : Option (Bool) := if (a0_2.size : Int) > 200 then (constablelaw08_GuardOne.j0 k true a0_0 a0_1 a0_2 a1_0 a1_1 a1_2) else (if (a1_2.size : Int) > 200 then (constablelaw08_GuardOne.j0 k true a0_0 a0_1 a0_2 a1_0 a1_1 a1_2) else ((constableref01_Value.f k a0_0 a0_1 a0_2).bind fun t374 => (if t374 = true then ((constableref01_Value.f k a1_0 a1_1 a1_2).bind fun t375 => (constablelaw08_GuardOne.j0 k (!t375) a0_0 a0_1 a0_2 a1_0 a1_1 a1_2)) else (constablelaw08_GuardOne.j0 k true a0_0 a0_1 a0_2 a1_0 a1_1 a1_2))))
theorem constablelaw08_GuardOne.mono_l : ∀ k, (∀ y0 y1 y2 y3 y4 y5 y6, LeO (constablelaw08_GuardOne.j0 k y0 y1 y2 y3 y4 y5 y6) (constablelaw08_GuardOne.j0 (k + 1) y0 y1 y2 y3 y4 y5 y6)) ∧ (∀ y0 y1 y2 y3 y4 y5 y6 y7 y8 y9 y10 y11 y12 y13, LeO (constablelaw08_GuardOne.j1 k y0 y1 y2 y3 y4 y5 y6 y7 y8 y9 y10 y11 y12 y13) (constablelaw08_GuardOne.j1 (k + 1) y0 y1 y2 y3 y4 y5 y6 y7 y8 y9 y10 y11 y12 y13))
  | 0 => ⟨fun _ _ _ _ _ _ _ r h => by simp [constablelaw08_GuardOne.j0] at h, fun _ _ _ _ _ _ _ _ _ _ _ _ _ _ r h => by simp [constablelaw08_GuardOne.j1] at h⟩
  | k + 1 => by
    obtain ⟨ih0, ih1⟩ := constablelaw08_GuardOne.mono_l k
    refine ⟨?_, ?_⟩
    · intro y0 y1 y2 y3 y4 y5 y6
      unfold constablelaw08_GuardOne.j0
      repeat' first
      | (with_reducible exact ih0 _ _ _ _ _ _ _)
      | (with_reducible exact ih1 _ _ _ _ _ _ _ _ _ _ _ _ _ _)
      | (with_reducible exact constablelaw08_wakes.mono _)
      | (with_reducible exact constableref01_Value.mono _ _ _ _)
      | (with_reducible exact guard_Holds.mono _ _ _ _ _ _ _ _)
      | (with_reducible exact LeO.refl _)
      | (with_reducible exact LeO.none _)
      | (with_reducible refine LeO.ite ?_ ?_)
      | (with_reducible refine LeO.bind ?_ (fun _ => ?_))
      | exact ih0 _ _ _ _ _ _ _
      | exact ih1 _ _ _ _ _ _ _ _ _ _ _ _ _ _
      | exact constablelaw08_wakes.mono _
      | exact constableref01_Value.mono _ _ _ _
      | exact guard_Holds.mono _ _ _ _ _ _ _ _
      | exact LeO.none _
      | refine LeO.ite ?_ ?_
      | refine LeO.bind ?_ (fun _ => ?_)
    · intro y0 y1 y2 y3 y4 y5 y6 y7 y8 y9 y10 y11 y12 y13
      unfold constablelaw08_GuardOne.j1
      repeat' first
      | (with_reducible exact ih0 _ _ _ _ _ _ _)
      | (with_reducible exact ih1 _ _ _ _ _ _ _ _ _ _ _ _ _ _)
      | (with_reducible exact constablelaw08_wakes.mono _)
      | (with_reducible exact constableref01_Value.mono _ _ _ _)
      | (with_reducible exact guard_Holds.mono _ _ _ _ _ _ _ _)
      | (with_reducible exact LeO.refl _)
      | (with_reducible exact LeO.none _)
      | (with_reducible refine LeO.ite ?_ ?_)
      | (with_reducible refine LeO.bind ?_ (fun _ => ?_))
      | exact ih0 _ _ _ _ _ _ _
      | exact ih1 _ _ _ _ _ _ _ _ _ _ _ _ _ _
      | exact constablelaw08_wakes.mono _
      | exact constableref01_Value.mono _ _ _ _
      | exact guard_Holds.mono _ _ _ _ _ _ _ _
      | exact LeO.none _
      | refine LeO.ite ?_ ?_
      | refine LeO.bind ?_ (fun _ => ?_)
theorem constablelaw08_GuardOne.mono : ∀ a0 a1 a2 a3 a4 a5 k, LeO (constablelaw08_GuardOne.f k a0 a1 a2 a3 a4 a5) (constablelaw08_GuardOne.f (k + 1) a0 a1 a2 a3 a4 a5) := by
  intro a0 a1 a2 a3 a4 a5 k
  obtain ⟨ih0, ih1⟩ := constablelaw08_GuardOne.mono_l k
  unfold constablelaw08_GuardOne.f
  repeat' first
      | (with_reducible exact ih0 _ _ _ _ _ _ _)
      | (with_reducible exact ih1 _ _ _ _ _ _ _ _ _ _ _ _ _ _)
      | (with_reducible exact constablelaw08_wakes.mono _)
      | (with_reducible exact constableref01_Value.mono _ _ _ _)
      | (with_reducible exact guard_Holds.mono _ _ _ _ _ _ _ _)
      | (with_reducible exact LeO.refl _)
      | (with_reducible exact LeO.none _)
      | (with_reducible refine LeO.ite ?_ ?_)
      | (with_reducible refine LeO.bind ?_ (fun _ => ?_))
      | exact ih0 _ _ _ _ _ _ _
      | exact ih1 _ _ _ _ _ _ _ _ _ _ _ _ _ _
      | exact constablelaw08_wakes.mono _
      | exact constableref01_Value.mono _ _ _ _
      | exact guard_Holds.mono _ _ _ _ _ _ _ _
      | exact LeO.none _
      | refine LeO.ite ?_ ?_
      | refine LeO.bind ?_ (fun _ => ?_)
set_option maxHeartbeats 8000000 in
set_option maxRecDepth 100000 in
theorem constablelaw08_GuardOne.calls (k : Nat) (a0_0 : Int) (a0_1 : Int) (a0_2 : ByteArray) (a1_0 : Int) (a1_1 : Int) (a1_2 : ByteArray) (r : Bool) (w : World) (h : constablelaw08_GuardOne.f k a0_0 a0_1 a0_2 a1_0 a1_1 a1_2 = some r) (hr_ : r = true) :
    Calls Try.prog 4 #[.agg #[.int .i64 a0_0, .int .i64 a0_1, .string a0_2], .agg #[.int .i64 a1_0, .int .i64 a1_1, .string a1_2]] w fun e w' => e = .returned (.bool r) ∧ Below w.heap.size w w' := by
  have hu23 := Try.underlying23
  have HB := Aside0.mk (Below.refl w.heap.size w)
  have H : (if (a0_2.size : Int) > 200 then (constablelaw08_GuardOne.j0 k true a0_0 a0_1 a0_2 a1_0 a1_1 a1_2) else (if (a1_2.size : Int) > 200 then (constablelaw08_GuardOne.j0 k true a0_0 a0_1 a0_2 a1_0 a1_1 a1_2) else ((constableref01_Value.f k a0_0 a0_1 a0_2).bind fun t374 => (if t374 = true then ((constableref01_Value.f k a1_0 a1_1 a1_2).bind fun t375 => (constablelaw08_GuardOne.j0 k (!t375) a0_0 a0_1 a0_2 a1_0 a1_1 a1_2)) else (constablelaw08_GuardOne.j0 k true a0_0 a0_1 a0_2 a1_0 a1_1 a1_2))))) = some r := h
  clear h
  have HR_ := Aside0.mk hr_
  clear hr_
  have HC3 := Aside0.mk H
  clear H
  go_enter Try.func4, Try.ntmps4
  go_upto_region 1 with (first | ((with_reducible refine gate_dst (N := 2) rfl ?_); (try (refine gate_guard (by rfl) ?_; dsimp only)); refine box_event ?hg (N := 2) ?hd (cs := #[.int .i64 a0_0, .int .i64 a0_1, .string a0_2]) (t := 23) ?hr ?_; (case hd => rfl); (case hg => rfl); (case hr => first | (go_simp; done) | (go_simp; rfl)); intro gb372 hg w4 hbox hb; have n0_ := bs_ (be_ HB) hb; have n1_ := Aside0.mk (hbox); have n2_ := gs_ hg (be_ HB); have n3_ := gs_ hg (be_ HB); clear HB; have HB := n0_; have BK372 := n1_; have GW372 := n2_; have GE372 := n3_; clear n0_ n1_ n2_ n3_; clear hb hbox hg) | ((with_reducible refine gate_dst (N := 3) rfl ?_); (try (refine gate_guard (by rfl) ?_; dsimp only)); refine box_event ?hg (N := 3) ?hd (cs := #[.int .i64 a1_0, .int .i64 a1_1, .string a1_2]) (t := 23) ?hr ?_; (case hd => rfl); (case hg => rfl); (case hr => first | (go_simp; done) | (go_simp; rfl)); intro gb373 hg w5 hbox hb; have n0_ := bb_ (bu_ BK372) hb; have n1_ := bs_ (be_ HB) hb; have n2_ := Aside0.mk (hbox); have n3_ := gs_ hg (be_ HB); have n4_ := gs_ hg (be_ HB); have n5_ := nl_ hg (bu_ BK372); have n6_ := ng_ hg (bu_ BK372); clear BK372; clear HB; have BK372 := n0_; have HB := n1_; have BK373 := n2_; have GW373 := n3_; have GE373 := n4_; have NB372_373 := n5_; have NB373_372 := n6_; clear n0_ n1_ n2_ n3_ n4_ n5_ n6_; clear hb hbox hg))
  (try simp only [Act.put, List.setIfInBounds_toArray, List.set_cons_zero, List.set_cons_succ])
  go_cut [35] (fun v35 wc => ∃ (kq : Nat) (x35_2 : Bool), v35 = .bool x35_2 ∧ Aside0 (constablelaw08_GuardOne.j0 kq x35_2 a0_0 a0_1 a0_2 a1_0 a1_1 a1_2 = some r) ∧ Aside0 (kq ≤ k) ∧ Aside0 (wc.heap[gb372]? = some (.cells #[.int .i64 a0_0, .int .i64 a0_1, .string a0_2] 23 (0, 0))) ∧ Aside0 (wc.heap[gb373]? = some (.cells #[.int .i64 a1_0, .int .i64 a1_1, .string a1_2] 23 (0, 0))) ∧ Aside0 (Below w.heap.size w wc))
  case first =>
    have H := HC3.out
    clear HC3
    by_cases c6 : (a0_2.size : Int) > 200
    · rw [if_pos c6] at H
      have c6b0 : decide (200 < (a0_2.size : Int)) = true := decide_eq_true c6
      have c6b1 : decide (200 < a0_2.size) = true := decide_eq_true (by omega)
      clear c6
      (first | rw [c6b0] | (simp only [i64_w, i32_w]; rw [c6b0]) | skip)
      have H' := Aside0.mk H
      clear H
      have hnb7 := NB372_373.out
      have hnc7 := NB373_372.out
      have hcz8_0 : w5.cell? ⟨gb372, 0, none⟩ = some (.int .i64 a0_0) := (blk_cell BK372.out 0).trans rfl
      have hcz8_1 : w5.cell? ⟨gb372, 1, none⟩ = some (.int .i64 a0_1) := (blk_cell BK372.out 1).trans rfl
      have hcz8_2 : w5.cell? ⟨gb372, 2, none⟩ = some (.string a0_2) := (blk_cell BK372.out 2).trans rfl
      have hfz8_0 := blk_frozen BK372.out 0
      have hfz8_1 := blk_frozen BK372.out 1
      have hfz8_2 := blk_frozen BK372.out 2
      go_wp2
      go_meet
      case rel => exact ⟨_, (true), ra_, H', ⟨by first | omega | exact Nat.le_refl _⟩, ⟨by (with_reducible repeat (first | refine blk_drewN ?_ _ | refine blk_drew ?_ | refine blk_alloc ?_ _)); exact BK372.out⟩, ⟨by (with_reducible repeat (first | refine blk_drewN ?_ _ | refine blk_drew ?_ | refine blk_alloc ?_ _)); exact BK373.out⟩, ⟨by repeat (first | (with_reducible first | exact HB.out | apply below_alloc | apply pw_below_drewN | apply below_drew1 | refine below_set ?_ GE372.out | refine below_set ?_ GE373.out) | exact HB.out)⟩⟩
    · rw [if_neg c6] at H
      have c6b0 : decide (200 < (a0_2.size : Int)) = false := decide_eq_false c6
      have c6b1 : decide (200 < a0_2.size) = false := decide_eq_false (by omega)
      clear c6
      (first | rw [c6b0] | (simp only [i64_w, i32_w]; rw [c6b0]) | skip)
      by_cases c9 : (a1_2.size : Int) > 200
      · rw [if_pos c9] at H
        have c9b0 : decide (200 < (a1_2.size : Int)) = true := decide_eq_true c9
        have c9b1 : decide (200 < a1_2.size) = true := decide_eq_true (by omega)
        clear c9
        have H' := Aside0.mk H
        clear H
        have hnb10 := NB372_373.out
        have hnc10 := NB373_372.out
        have hcz11_0 : w5.cell? ⟨gb372, 0, none⟩ = some (.int .i64 a0_0) := (blk_cell BK372.out 0).trans rfl
        have hcz11_1 : w5.cell? ⟨gb372, 1, none⟩ = some (.int .i64 a0_1) := (blk_cell BK372.out 1).trans rfl
        have hcz11_2 : w5.cell? ⟨gb372, 2, none⟩ = some (.string a0_2) := (blk_cell BK372.out 2).trans rfl
        have hfz11_0 := blk_frozen BK372.out 0
        have hfz11_1 := blk_frozen BK372.out 1
        have hfz11_2 := blk_frozen BK372.out 2
        have hcz12_0 : w5.cell? ⟨gb373, 0, none⟩ = some (.int .i64 a1_0) := (blk_cell BK373.out 0).trans rfl
        have hcz12_1 : w5.cell? ⟨gb373, 1, none⟩ = some (.int .i64 a1_1) := (blk_cell BK373.out 1).trans rfl
        have hcz12_2 : w5.cell? ⟨gb373, 2, none⟩ = some (.string a1_2) := (blk_cell BK373.out 2).trans rfl
        have hfz12_0 := blk_frozen BK373.out 0
        have hfz12_1 := blk_frozen BK373.out 1
        have hfz12_2 := blk_frozen BK373.out 2
        go_wp2
        go_meet
        case rel => exact ⟨_, (true), ra_, H', ⟨by first | omega | exact Nat.le_refl _⟩, ⟨by (with_reducible repeat (first | refine blk_drewN ?_ _ | refine blk_drew ?_ | refine blk_alloc ?_ _)); exact BK372.out⟩, ⟨by (with_reducible repeat (first | refine blk_drewN ?_ _ | refine blk_drew ?_ | refine blk_alloc ?_ _)); exact BK373.out⟩, ⟨by repeat (first | (with_reducible first | exact HB.out | apply below_alloc | apply pw_below_drewN | apply below_drew1 | refine below_set ?_ GE372.out | refine below_set ?_ GE373.out) | exact HB.out)⟩⟩
      · rw [if_neg c9] at H
        have c9b0 : decide (200 < (a1_2.size : Int)) = false := decide_eq_false c9
        have c9b1 : decide (200 < a1_2.size) = false := decide_eq_false (by omega)
        clear c9
        replace H := Option.bind_eq_some_iff.mp H
        obtain ⟨t374, A130, H⟩ := H
        replace H : (if t374 = true then ((constableref01_Value.f k a1_0 a1_1 a1_2).bind fun t375 => (constablelaw08_GuardOne.j0 k (!t375) a0_0 a0_1 a0_2 a1_0 a1_1 a1_2)) else (constablelaw08_GuardOne.j0 k true a0_0 a0_1 a0_2 a1_0 a1_1 a1_2)) = some r := H
        have A13 := Aside0.mk A130
        clear A130
        by_cases c14 : t374 = true
        · subst c14
          have H1 : ((constableref01_Value.f k a1_0 a1_1 a1_2).bind fun t375 => (constablelaw08_GuardOne.j0 k (!t375) a0_0 a0_1 a0_2 a1_0 a1_1 a1_2)) = some r := by rw [if_pos rfl] at H; exact H
          clear H
          have H := H1
          clear H1
          replace H := Option.bind_eq_some_iff.mp H
          obtain ⟨t375, A150, H⟩ := H
          replace H : (constablelaw08_GuardOne.j0 k (!t375) a0_0 a0_1 a0_2 a1_0 a1_1 a1_2) = some r := H
          have A15 := Aside0.mk A150
          clear A150
          have H' := Aside0.mk H
          clear H
          have hnb16 := NB372_373.out
          have hnc16 := NB373_372.out
          have hcz17_0 : w5.cell? ⟨gb372, 0, none⟩ = some (.int .i64 a0_0) := (blk_cell BK372.out 0).trans rfl
          have hcz17_1 : w5.cell? ⟨gb372, 1, none⟩ = some (.int .i64 a0_1) := (blk_cell BK372.out 1).trans rfl
          have hcz17_2 : w5.cell? ⟨gb372, 2, none⟩ = some (.string a0_2) := (blk_cell BK372.out 2).trans rfl
          have hfz17_0 := blk_frozen BK372.out 0
          have hfz17_1 := blk_frozen BK372.out 1
          have hfz17_2 := blk_frozen BK372.out 2
          have hcz18_0 : w5.cell? ⟨gb373, 0, none⟩ = some (.int .i64 a1_0) := (blk_cell BK373.out 0).trans rfl
          have hcz18_1 : w5.cell? ⟨gb373, 1, none⟩ = some (.int .i64 a1_1) := (blk_cell BK373.out 1).trans rfl
          have hcz18_2 : w5.cell? ⟨gb373, 2, none⟩ = some (.string a1_2) := (blk_cell BK373.out 2).trans rfl
          have hfz18_0 := blk_frozen BK373.out 0
          have hfz18_1 := blk_frozen BK373.out 1
          have hfz18_2 := blk_frozen BK373.out 2
          go_wp2_with (first | (go_at_call 19; (with_reducible refine (constableref01_Value.calls k a0_0 a0_1 a0_2 true _ A13.out).mono ?_); rintro e w19 ⟨rfl, hb⟩; have n0_ := bb_ (bu_ BK372) hb; have n1_ := bb_ (bu_ BK373) hb; have n2_ := bs_ (be_ HB) hb; clear BK372; clear BK373; clear HB; have BK372 := n0_; have BK373 := n1_; have HB := n2_; clear n0_ n1_ n2_; (try clear hb); (try clear hb2); (try clear hk); (try clear hi); have hcz20_0 : w19.cell? ⟨gb373, 0, none⟩ = some (.int .i64 a1_0) := (blk_cell BK373.out 0).trans rfl; have hcz20_1 : w19.cell? ⟨gb373, 1, none⟩ = some (.int .i64 a1_1) := (blk_cell BK373.out 1).trans rfl; have hcz20_2 : w19.cell? ⟨gb373, 2, none⟩ = some (.string a1_2) := (blk_cell BK373.out 2).trans rfl; have hfz20_0 := blk_frozen BK373.out 0; have hfz20_1 := blk_frozen BK373.out 1; have hfz20_2 := blk_frozen BK373.out 2) | (go_at_call 19; (with_reducible refine (constableref01_Value.calls k a1_0 a1_1 a1_2 t375 _ A15.out).mono ?_); rintro e w21 ⟨rfl, hb⟩; have n0_ := bb_ (bu_ BK372) hb; have n1_ := bb_ (bu_ BK373) hb; have n2_ := bs_ (be_ HB) hb; clear BK372; clear BK373; clear HB; have BK372 := n0_; have BK373 := n1_; have HB := n2_; clear n0_ n1_ n2_; (try clear hcz20_0 hcz20_1 hcz20_2 hfz20_0 hfz20_1 hfz20_2); (try clear hb); (try clear hb2); (try clear hk); (try clear hi)))
          go_meet
          case rel => exact ⟨_, (!t375), ra_, H', ⟨by first | omega | exact Nat.le_refl _⟩, ⟨by (with_reducible repeat (first | refine blk_drewN ?_ _ | refine blk_drew ?_ | refine blk_alloc ?_ _)); exact BK372.out⟩, ⟨by (with_reducible repeat (first | refine blk_drewN ?_ _ | refine blk_drew ?_ | refine blk_alloc ?_ _)); exact BK373.out⟩, ⟨by repeat (first | (with_reducible first | exact HB.out | apply below_alloc | apply pw_below_drewN | apply below_drew1 | refine below_set ?_ GE372.out | refine below_set ?_ GE373.out) | exact HB.out)⟩⟩
        · replace c14 := Bool.eq_false_iff.mpr c14
          subst c14
          have H1 : (constablelaw08_GuardOne.j0 k true a0_0 a0_1 a0_2 a1_0 a1_1 a1_2) = some r := by rw [if_neg (show ¬ (false = true) by decide)] at H; exact H
          clear H
          have H := H1
          clear H1
          have H' := Aside0.mk H
          clear H
          have hnb22 := NB372_373.out
          have hnc22 := NB373_372.out
          have hcz23_0 : w5.cell? ⟨gb372, 0, none⟩ = some (.int .i64 a0_0) := (blk_cell BK372.out 0).trans rfl
          have hcz23_1 : w5.cell? ⟨gb372, 1, none⟩ = some (.int .i64 a0_1) := (blk_cell BK372.out 1).trans rfl
          have hcz23_2 : w5.cell? ⟨gb372, 2, none⟩ = some (.string a0_2) := (blk_cell BK372.out 2).trans rfl
          have hfz23_0 := blk_frozen BK372.out 0
          have hfz23_1 := blk_frozen BK372.out 1
          have hfz23_2 := blk_frozen BK372.out 2
          have hcz24_0 : w5.cell? ⟨gb373, 0, none⟩ = some (.int .i64 a1_0) := (blk_cell BK373.out 0).trans rfl
          have hcz24_1 : w5.cell? ⟨gb373, 1, none⟩ = some (.int .i64 a1_1) := (blk_cell BK373.out 1).trans rfl
          have hcz24_2 : w5.cell? ⟨gb373, 2, none⟩ = some (.string a1_2) := (blk_cell BK373.out 2).trans rfl
          have hfz24_0 := blk_frozen BK373.out 0
          have hfz24_1 := blk_frozen BK373.out 1
          have hfz24_2 := blk_frozen BK373.out 2
          go_wp2_with (first | (go_at_call 19; (with_reducible refine (constableref01_Value.calls k a0_0 a0_1 a0_2 false _ A13.out).mono ?_); rintro e w25 ⟨rfl, hb⟩; have n0_ := bb_ (bu_ BK372) hb; have n1_ := bb_ (bu_ BK373) hb; have n2_ := bs_ (be_ HB) hb; clear BK372; clear BK373; clear HB; have BK372 := n0_; have BK373 := n1_; have HB := n2_; clear n0_ n1_ n2_; (try clear hb); (try clear hb2); (try clear hk); (try clear hi)))
          go_meet
          case rel => exact ⟨_, (true), ra_, H', ⟨by first | omega | exact Nat.le_refl _⟩, ⟨by (with_reducible repeat (first | refine blk_drewN ?_ _ | refine blk_drew ?_ | refine blk_alloc ?_ _)); exact BK372.out⟩, ⟨by (with_reducible repeat (first | refine blk_drewN ?_ _ | refine blk_drew ?_ | refine blk_alloc ?_ _)); exact BK373.out⟩, ⟨by repeat (first | (with_reducible first | exact HB.out | apply below_alloc | apply pw_below_drewN | apply below_drew1 | refine below_set ?_ GE372.out | refine below_set ?_ GE373.out) | exact HB.out)⟩⟩
  case rest =>
    clear HC3
    try clear c1
    try clear c2
    try clear p2
    try clear c4
    try clear c6
    try clear c6b0
    try clear c6b1
    try clear c7
    try clear c9
    try clear c9b0
    try clear c9b1
    try clear c10
    try clear c14
    try clear c16
    try clear c22
    try clear hcz11_0
    try clear hcz11_1
    try clear hcz11_2
    try clear hcz12_0
    try clear hcz12_1
    try clear hcz12_2
    try clear hcz17_0
    try clear hcz17_1
    try clear hcz17_2
    try clear hcz18_0
    try clear hcz18_1
    try clear hcz18_2
    try clear hcz20_0
    try clear hcz20_1
    try clear hcz20_2
    try clear hcz23_0
    try clear hcz23_1
    try clear hcz23_2
    try clear hcz24_0
    try clear hcz24_1
    try clear hcz24_2
    try clear hcz8_0
    try clear hcz8_1
    try clear hcz8_2
    try clear hfz11_0
    try clear hfz11_1
    try clear hfz11_2
    try clear hfz12_0
    try clear hfz12_1
    try clear hfz12_2
    try clear hfz17_0
    try clear hfz17_1
    try clear hfz17_2
    try clear hfz18_0
    try clear hfz18_1
    try clear hfz18_2
    try clear hfz20_0
    try clear hfz20_1
    try clear hfz20_2
    try clear hfz23_0
    try clear hfz23_1
    try clear hfz23_2
    try clear hfz24_0
    try clear hfz24_1
    try clear hfz24_2
    try clear hfz8_0
    try clear hfz8_1
    try clear hfz8_2
    obtain ⟨kq, x35_2, rfl, HA, HJ2, BK372, BK373, HB⟩ := hcut
    cases kq with
    | zero => exact absurd HA.out (by simp [constablelaw08_GuardOne.j0])
    | succ kj2 =>
      have H := HA.out
      clear HA
      simp only [constablelaw08_GuardOne.j0] at H
      by_cases c26 : x35_2 = true
      · subst c26
        have H1 : (some true) = some r := by rw [if_pos rfl] at H; exact H
        clear H
        have H := H1
        clear H1
        obtain rfl := Option.some.inj H
        go_wp2
        go_ret
        exact ⟨by first | rfl | (simp [errW_none, errW_some] <;> rfl) | (simp [*, errW_none, errW_some] <;> rfl), by repeat (first | (with_reducible first | exact HB.out | apply below_alloc | apply pw_below_drewN | apply below_drew1 | refine below_set ?_ GE372.out | refine below_set ?_ GE373.out) | exact HB.out)⟩
      · replace c26 := Bool.eq_false_iff.mpr c26
        subst c26
        have H1 : ((guard_Holds.f kj2 1 a0_0 a0_1 a0_2 a1_0 a1_1 a1_2).bind fun bt376 => ((guard_Holds.f kj2 2 a0_0 a0_1 a0_2 a1_0 a1_1 a1_2).bind fun bt378 => ((guard_Holds.f kj2 3 a0_0 a0_1 a0_2 a1_0 a1_1 a1_2).bind fun bt380 => ((guard_Holds.f kj2 3 a1_0 a1_1 a1_2 a0_0 a0_1 a0_2).bind fun bt382 => ((guard_Holds.f kj2 4 a0_0 a0_1 a0_2 a1_0 a1_1 a1_2).bind fun bt384 => (if bt376.2 = 0 then (if bt378.2 = 0 then (if (bt376.1 != (a0_0 == a1_0 && (a0_1 == a1_1 && (a0_2.toList == a1_2.toList)))) = true then (constablelaw08_GuardOne.j1 kj2 bt376.1 bt380.1 bt380.2 bt382.1 bt382.2 bt384.1 bt384.2 true a0_0 a0_1 a0_2 a1_0 a1_1 a1_2) else (constablelaw08_GuardOne.j1 kj2 bt376.1 bt380.1 bt380.2 bt382.1 bt382.2 bt384.1 bt384.2 (bt378.1 == bt376.1) a0_0 a0_1 a0_2 a1_0 a1_1 a1_2)) else (constablelaw08_GuardOne.j1 kj2 bt376.1 bt380.1 bt380.2 bt382.1 bt382.2 bt384.1 bt384.2 true a0_0 a0_1 a0_2 a1_0 a1_1 a1_2)) else (constablelaw08_GuardOne.j1 kj2 bt376.1 bt380.1 bt380.2 bt382.1 bt382.2 bt384.1 bt384.2 true a0_0 a0_1 a0_2 a1_0 a1_1 a1_2))))))) = some r := by rw [if_neg (show ¬ (false = true) by decide)] at H; exact H
        clear H
        have H := H1
        clear H1
        replace H := Option.bind_eq_some_iff.mp H
        obtain ⟨⟨t376, t377⟩, A270, H⟩ := H
        replace H : ((guard_Holds.f kj2 2 a0_0 a0_1 a0_2 a1_0 a1_1 a1_2).bind fun bt378 => ((guard_Holds.f kj2 3 a0_0 a0_1 a0_2 a1_0 a1_1 a1_2).bind fun bt380 => ((guard_Holds.f kj2 3 a1_0 a1_1 a1_2 a0_0 a0_1 a0_2).bind fun bt382 => ((guard_Holds.f kj2 4 a0_0 a0_1 a0_2 a1_0 a1_1 a1_2).bind fun bt384 => (if t377 = 0 then (if bt378.2 = 0 then (if (t376 != (a0_0 == a1_0 && (a0_1 == a1_1 && (a0_2.toList == a1_2.toList)))) = true then (constablelaw08_GuardOne.j1 kj2 t376 bt380.1 bt380.2 bt382.1 bt382.2 bt384.1 bt384.2 true a0_0 a0_1 a0_2 a1_0 a1_1 a1_2) else (constablelaw08_GuardOne.j1 kj2 t376 bt380.1 bt380.2 bt382.1 bt382.2 bt384.1 bt384.2 (bt378.1 == t376) a0_0 a0_1 a0_2 a1_0 a1_1 a1_2)) else (constablelaw08_GuardOne.j1 kj2 t376 bt380.1 bt380.2 bt382.1 bt382.2 bt384.1 bt384.2 true a0_0 a0_1 a0_2 a1_0 a1_1 a1_2)) else (constablelaw08_GuardOne.j1 kj2 t376 bt380.1 bt380.2 bt382.1 bt382.2 bt384.1 bt384.2 true a0_0 a0_1 a0_2 a1_0 a1_1 a1_2)))))) = some r := H
        have A27 := Aside0.mk A270
        clear A270
        replace H := Option.bind_eq_some_iff.mp H
        obtain ⟨⟨t378, t379⟩, A280, H⟩ := H
        replace H : ((guard_Holds.f kj2 3 a0_0 a0_1 a0_2 a1_0 a1_1 a1_2).bind fun bt380 => ((guard_Holds.f kj2 3 a1_0 a1_1 a1_2 a0_0 a0_1 a0_2).bind fun bt382 => ((guard_Holds.f kj2 4 a0_0 a0_1 a0_2 a1_0 a1_1 a1_2).bind fun bt384 => (if t377 = 0 then (if t379 = 0 then (if (t376 != (a0_0 == a1_0 && (a0_1 == a1_1 && (a0_2.toList == a1_2.toList)))) = true then (constablelaw08_GuardOne.j1 kj2 t376 bt380.1 bt380.2 bt382.1 bt382.2 bt384.1 bt384.2 true a0_0 a0_1 a0_2 a1_0 a1_1 a1_2) else (constablelaw08_GuardOne.j1 kj2 t376 bt380.1 bt380.2 bt382.1 bt382.2 bt384.1 bt384.2 (t378 == t376) a0_0 a0_1 a0_2 a1_0 a1_1 a1_2)) else (constablelaw08_GuardOne.j1 kj2 t376 bt380.1 bt380.2 bt382.1 bt382.2 bt384.1 bt384.2 true a0_0 a0_1 a0_2 a1_0 a1_1 a1_2)) else (constablelaw08_GuardOne.j1 kj2 t376 bt380.1 bt380.2 bt382.1 bt382.2 bt384.1 bt384.2 true a0_0 a0_1 a0_2 a1_0 a1_1 a1_2))))) = some r := H
        have A28 := Aside0.mk A280
        clear A280
        replace H := Option.bind_eq_some_iff.mp H
        obtain ⟨⟨t380, t381⟩, A290, H⟩ := H
        replace H : ((guard_Holds.f kj2 3 a1_0 a1_1 a1_2 a0_0 a0_1 a0_2).bind fun bt382 => ((guard_Holds.f kj2 4 a0_0 a0_1 a0_2 a1_0 a1_1 a1_2).bind fun bt384 => (if t377 = 0 then (if t379 = 0 then (if (t376 != (a0_0 == a1_0 && (a0_1 == a1_1 && (a0_2.toList == a1_2.toList)))) = true then (constablelaw08_GuardOne.j1 kj2 t376 t380 t381 bt382.1 bt382.2 bt384.1 bt384.2 true a0_0 a0_1 a0_2 a1_0 a1_1 a1_2) else (constablelaw08_GuardOne.j1 kj2 t376 t380 t381 bt382.1 bt382.2 bt384.1 bt384.2 (t378 == t376) a0_0 a0_1 a0_2 a1_0 a1_1 a1_2)) else (constablelaw08_GuardOne.j1 kj2 t376 t380 t381 bt382.1 bt382.2 bt384.1 bt384.2 true a0_0 a0_1 a0_2 a1_0 a1_1 a1_2)) else (constablelaw08_GuardOne.j1 kj2 t376 t380 t381 bt382.1 bt382.2 bt384.1 bt384.2 true a0_0 a0_1 a0_2 a1_0 a1_1 a1_2)))) = some r := H
        have A29 := Aside0.mk A290
        clear A290
        replace H := Option.bind_eq_some_iff.mp H
        obtain ⟨⟨t382, t383⟩, A300, H⟩ := H
        replace H : ((guard_Holds.f kj2 4 a0_0 a0_1 a0_2 a1_0 a1_1 a1_2).bind fun bt384 => (if t377 = 0 then (if t379 = 0 then (if (t376 != (a0_0 == a1_0 && (a0_1 == a1_1 && (a0_2.toList == a1_2.toList)))) = true then (constablelaw08_GuardOne.j1 kj2 t376 t380 t381 t382 t383 bt384.1 bt384.2 true a0_0 a0_1 a0_2 a1_0 a1_1 a1_2) else (constablelaw08_GuardOne.j1 kj2 t376 t380 t381 t382 t383 bt384.1 bt384.2 (t378 == t376) a0_0 a0_1 a0_2 a1_0 a1_1 a1_2)) else (constablelaw08_GuardOne.j1 kj2 t376 t380 t381 t382 t383 bt384.1 bt384.2 true a0_0 a0_1 a0_2 a1_0 a1_1 a1_2)) else (constablelaw08_GuardOne.j1 kj2 t376 t380 t381 t382 t383 bt384.1 bt384.2 true a0_0 a0_1 a0_2 a1_0 a1_1 a1_2))) = some r := H
        have A30 := Aside0.mk A300
        clear A300
        replace H := Option.bind_eq_some_iff.mp H
        obtain ⟨⟨t384, t385⟩, A310, H⟩ := H
        replace H : (if t377 = 0 then (if t379 = 0 then (if (t376 != (a0_0 == a1_0 && (a0_1 == a1_1 && (a0_2.toList == a1_2.toList)))) = true then (constablelaw08_GuardOne.j1 kj2 t376 t380 t381 t382 t383 t384 t385 true a0_0 a0_1 a0_2 a1_0 a1_1 a1_2) else (constablelaw08_GuardOne.j1 kj2 t376 t380 t381 t382 t383 t384 t385 (t378 == t376) a0_0 a0_1 a0_2 a1_0 a1_1 a1_2)) else (constablelaw08_GuardOne.j1 kj2 t376 t380 t381 t382 t383 t384 t385 true a0_0 a0_1 a0_2 a1_0 a1_1 a1_2)) else (constablelaw08_GuardOne.j1 kj2 t376 t380 t381 t382 t383 t384 t385 true a0_0 a0_1 a0_2 a1_0 a1_1 a1_2)) = some r := H
        have A31 := Aside0.mk A310
        clear A310
        have HC32 := Aside0.mk H
        clear H
        have hnb33 := NB372_373.out
        have hnc33 := NB373_372.out
        have hcz34_0 : wc.cell? ⟨gb372, 0, none⟩ = some (.int .i64 a0_0) := (blk_cell BK372.out 0).trans rfl
        have hcz34_1 : wc.cell? ⟨gb372, 1, none⟩ = some (.int .i64 a0_1) := (blk_cell BK372.out 1).trans rfl
        have hcz34_2 : wc.cell? ⟨gb372, 2, none⟩ = some (.string a0_2) := (blk_cell BK372.out 2).trans rfl
        have hfz34_0 := blk_frozen BK372.out 0
        have hfz34_1 := blk_frozen BK372.out 1
        have hfz34_2 := blk_frozen BK372.out 2
        have hcz35_0 : wc.cell? ⟨gb373, 0, none⟩ = some (.int .i64 a1_0) := (blk_cell BK373.out 0).trans rfl
        have hcz35_1 : wc.cell? ⟨gb373, 1, none⟩ = some (.int .i64 a1_1) := (blk_cell BK373.out 1).trans rfl
        have hcz35_2 : wc.cell? ⟨gb373, 2, none⟩ = some (.string a1_2) := (blk_cell BK373.out 2).trans rfl
        have hfz35_0 := blk_frozen BK373.out 0
        have hfz35_1 := blk_frozen BK373.out 1
        have hfz35_2 := blk_frozen BK373.out 2
        go_upto_region 8 with (first | ((with_reducible refine gate_callee (f := 10) rfl ?_); refine goesL_ (some 39) rfl rfl Try.func10 (by kernel_rfl) rfl #[.int .i64 1, .agg #[.int .i64 a0_0, .int .i64 a0_1, .string a0_2], .agg #[.int .i64 a1_0, .int .i64 a1_1, .string a1_2]] rfl ga_ ?_; (with_reducible refine (guard_Holds.calls kj2 1 a0_0 a0_1 a0_2 a1_0 a1_1 a1_2 t376 t377 _ A27.out).mono ?_); rintro e w36 ⟨rfl, hb⟩; refine ⟨_, rfl, ?_⟩; have n0_ := bb_ (bu_ BK372) hb; have n1_ := bb_ (bu_ BK373) hb; have n2_ := bs_ (be_ HB) hb; clear BK372; clear BK373; clear HB; have BK372 := n0_; have BK373 := n1_; have HB := n2_; clear n0_ n1_ n2_; (try clear hb); (try clear hb2); (try clear hk); (try clear hi); have hcz37_0 : w36.cell? ⟨gb372, 0, none⟩ = some (.int .i64 a0_0) := (blk_cell BK372.out 0).trans rfl; have hcz37_1 : w36.cell? ⟨gb372, 1, none⟩ = some (.int .i64 a0_1) := (blk_cell BK372.out 1).trans rfl; have hcz37_2 : w36.cell? ⟨gb372, 2, none⟩ = some (.string a0_2) := (blk_cell BK372.out 2).trans rfl; have hfz37_0 := blk_frozen BK372.out 0; have hfz37_1 := blk_frozen BK372.out 1; have hfz37_2 := blk_frozen BK372.out 2; have hcz38_0 : w36.cell? ⟨gb373, 0, none⟩ = some (.int .i64 a1_0) := (blk_cell BK373.out 0).trans rfl; have hcz38_1 : w36.cell? ⟨gb373, 1, none⟩ = some (.int .i64 a1_1) := (blk_cell BK373.out 1).trans rfl; have hcz38_2 : w36.cell? ⟨gb373, 2, none⟩ = some (.string a1_2) := (blk_cell BK373.out 2).trans rfl; have hfz38_0 := blk_frozen BK373.out 0; have hfz38_1 := blk_frozen BK373.out 1; have hfz38_2 := blk_frozen BK373.out 2) | ((with_reducible refine gate_callee (f := 10) rfl ?_); refine goesL_ (some 45) rfl rfl Try.func10 (by kernel_rfl) rfl #[.int .i64 2, .agg #[.int .i64 a0_0, .int .i64 a0_1, .string a0_2], .agg #[.int .i64 a1_0, .int .i64 a1_1, .string a1_2]] rfl ga_ ?_; (with_reducible refine (guard_Holds.calls kj2 2 a0_0 a0_1 a0_2 a1_0 a1_1 a1_2 t378 t379 _ A28.out).mono ?_); rintro e w39 ⟨rfl, hb⟩; refine ⟨_, rfl, ?_⟩; have n0_ := bb_ (bu_ BK372) hb; have n1_ := bb_ (bu_ BK373) hb; have n2_ := bs_ (be_ HB) hb; clear BK372; clear BK373; clear HB; have BK372 := n0_; have BK373 := n1_; have HB := n2_; clear n0_ n1_ n2_; (try clear hcz37_0 hcz37_1 hcz37_2 hfz37_0 hfz37_1 hfz37_2 hcz38_0 hcz38_1 hcz38_2 hfz38_0 hfz38_1 hfz38_2); (try clear hb); (try clear hb2); (try clear hk); (try clear hi); have hcz40_0 : w39.cell? ⟨gb372, 0, none⟩ = some (.int .i64 a0_0) := (blk_cell BK372.out 0).trans rfl; have hcz40_1 : w39.cell? ⟨gb372, 1, none⟩ = some (.int .i64 a0_1) := (blk_cell BK372.out 1).trans rfl; have hcz40_2 : w39.cell? ⟨gb372, 2, none⟩ = some (.string a0_2) := (blk_cell BK372.out 2).trans rfl; have hfz40_0 := blk_frozen BK372.out 0; have hfz40_1 := blk_frozen BK372.out 1; have hfz40_2 := blk_frozen BK372.out 2; have hcz41_0 : w39.cell? ⟨gb373, 0, none⟩ = some (.int .i64 a1_0) := (blk_cell BK373.out 0).trans rfl; have hcz41_1 : w39.cell? ⟨gb373, 1, none⟩ = some (.int .i64 a1_1) := (blk_cell BK373.out 1).trans rfl; have hcz41_2 : w39.cell? ⟨gb373, 2, none⟩ = some (.string a1_2) := (blk_cell BK373.out 2).trans rfl; have hfz41_0 := blk_frozen BK373.out 0; have hfz41_1 := blk_frozen BK373.out 1; have hfz41_2 := blk_frozen BK373.out 2) | ((with_reducible refine gate_callee (f := 10) rfl ?_); refine goesL_ (some 51) rfl rfl Try.func10 (by kernel_rfl) rfl #[.int .i64 3, .agg #[.int .i64 a0_0, .int .i64 a0_1, .string a0_2], .agg #[.int .i64 a1_0, .int .i64 a1_1, .string a1_2]] rfl ga_ ?_; (with_reducible refine (guard_Holds.calls kj2 3 a0_0 a0_1 a0_2 a1_0 a1_1 a1_2 t380 t381 _ A29.out).mono ?_); rintro e w42 ⟨rfl, hb⟩; refine ⟨_, rfl, ?_⟩; have n0_ := bb_ (bu_ BK372) hb; have n1_ := bb_ (bu_ BK373) hb; have n2_ := bs_ (be_ HB) hb; clear BK372; clear BK373; clear HB; have BK372 := n0_; have BK373 := n1_; have HB := n2_; clear n0_ n1_ n2_; (try clear hcz40_0 hcz40_1 hcz40_2 hfz40_0 hfz40_1 hfz40_2 hcz41_0 hcz41_1 hcz41_2 hfz41_0 hfz41_1 hfz41_2); (try clear hb); (try clear hb2); (try clear hk); (try clear hi); have hcz43_0 : w42.cell? ⟨gb373, 0, none⟩ = some (.int .i64 a1_0) := (blk_cell BK373.out 0).trans rfl; have hcz43_1 : w42.cell? ⟨gb373, 1, none⟩ = some (.int .i64 a1_1) := (blk_cell BK373.out 1).trans rfl; have hcz43_2 : w42.cell? ⟨gb373, 2, none⟩ = some (.string a1_2) := (blk_cell BK373.out 2).trans rfl; have hfz43_0 := blk_frozen BK373.out 0; have hfz43_1 := blk_frozen BK373.out 1; have hfz43_2 := blk_frozen BK373.out 2; have hcz44_0 : w42.cell? ⟨gb372, 0, none⟩ = some (.int .i64 a0_0) := (blk_cell BK372.out 0).trans rfl; have hcz44_1 : w42.cell? ⟨gb372, 1, none⟩ = some (.int .i64 a0_1) := (blk_cell BK372.out 1).trans rfl; have hcz44_2 : w42.cell? ⟨gb372, 2, none⟩ = some (.string a0_2) := (blk_cell BK372.out 2).trans rfl; have hfz44_0 := blk_frozen BK372.out 0; have hfz44_1 := blk_frozen BK372.out 1; have hfz44_2 := blk_frozen BK372.out 2) | ((with_reducible refine gate_callee (f := 10) rfl ?_); refine goesL_ (some 57) rfl rfl Try.func10 (by kernel_rfl) rfl #[.int .i64 3, .agg #[.int .i64 a1_0, .int .i64 a1_1, .string a1_2], .agg #[.int .i64 a0_0, .int .i64 a0_1, .string a0_2]] rfl ga_ ?_; (with_reducible refine (guard_Holds.calls kj2 3 a1_0 a1_1 a1_2 a0_0 a0_1 a0_2 t382 t383 _ A30.out).mono ?_); rintro e w45 ⟨rfl, hb⟩; refine ⟨_, rfl, ?_⟩; have n0_ := bb_ (bu_ BK372) hb; have n1_ := bb_ (bu_ BK373) hb; have n2_ := bs_ (be_ HB) hb; clear BK372; clear BK373; clear HB; have BK372 := n0_; have BK373 := n1_; have HB := n2_; clear n0_ n1_ n2_; (try clear hcz43_0 hcz43_1 hcz43_2 hfz43_0 hfz43_1 hfz43_2 hcz44_0 hcz44_1 hcz44_2 hfz44_0 hfz44_1 hfz44_2); (try clear hb); (try clear hb2); (try clear hk); (try clear hi); have hcz46_0 : w45.cell? ⟨gb372, 0, none⟩ = some (.int .i64 a0_0) := (blk_cell BK372.out 0).trans rfl; have hcz46_1 : w45.cell? ⟨gb372, 1, none⟩ = some (.int .i64 a0_1) := (blk_cell BK372.out 1).trans rfl; have hcz46_2 : w45.cell? ⟨gb372, 2, none⟩ = some (.string a0_2) := (blk_cell BK372.out 2).trans rfl; have hfz46_0 := blk_frozen BK372.out 0; have hfz46_1 := blk_frozen BK372.out 1; have hfz46_2 := blk_frozen BK372.out 2; have hcz47_0 : w45.cell? ⟨gb373, 0, none⟩ = some (.int .i64 a1_0) := (blk_cell BK373.out 0).trans rfl; have hcz47_1 : w45.cell? ⟨gb373, 1, none⟩ = some (.int .i64 a1_1) := (blk_cell BK373.out 1).trans rfl; have hcz47_2 : w45.cell? ⟨gb373, 2, none⟩ = some (.string a1_2) := (blk_cell BK373.out 2).trans rfl; have hfz47_0 := blk_frozen BK373.out 0; have hfz47_1 := blk_frozen BK373.out 1; have hfz47_2 := blk_frozen BK373.out 2) | ((with_reducible refine gate_callee (f := 10) rfl ?_); refine goesL_ (some 63) rfl rfl Try.func10 (by kernel_rfl) rfl #[.int .i64 4, .agg #[.int .i64 a0_0, .int .i64 a0_1, .string a0_2], .agg #[.int .i64 a1_0, .int .i64 a1_1, .string a1_2]] rfl ga_ ?_; (with_reducible refine (guard_Holds.calls kj2 4 a0_0 a0_1 a0_2 a1_0 a1_1 a1_2 t384 t385 _ A31.out).mono ?_); rintro e w48 ⟨rfl, hb⟩; refine ⟨_, rfl, ?_⟩; have n0_ := bb_ (bu_ BK372) hb; have n1_ := bb_ (bu_ BK373) hb; have n2_ := bs_ (be_ HB) hb; clear BK372; clear BK373; clear HB; have BK372 := n0_; have BK373 := n1_; have HB := n2_; clear n0_ n1_ n2_; (try clear hcz46_0 hcz46_1 hcz46_2 hfz46_0 hfz46_1 hfz46_2 hcz47_0 hcz47_1 hcz47_2 hfz47_0 hfz47_1 hfz47_2); (try clear hb); (try clear hb2); (try clear hk); (try clear hi)))
        (try simp only [Act.put, List.setIfInBounds_toArray, List.set_cons_zero, List.set_cons_succ])
        go_cut [83] (fun v83 wc => ∃ (kq : Nat) (x83_31 : Bool), v83 = .bool x83_31 ∧ Aside0 (constablelaw08_GuardOne.j1 kq t376 t380 t381 t382 t383 t384 t385 x83_31 a0_0 a0_1 a0_2 a1_0 a1_1 a1_2 = some r) ∧ Aside0 (kq ≤ kj2) ∧ Aside0 (wc.heap[gb372]? = some (.cells #[.int .i64 a0_0, .int .i64 a0_1, .string a0_2] 23 (0, 0))) ∧ Aside0 (wc.heap[gb373]? = some (.cells #[.int .i64 a1_0, .int .i64 a1_1, .string a1_2] 23 (0, 0))) ∧ Aside0 (Below w.heap.size w wc))
        case first =>
          have H := HC32.out
          clear HC32
          by_cases c49 : t377 = 0
          · rw [if_pos c49] at H
            obtain ⟨c49b0, c49b1⟩ := eqB_ c49
            clear c49
            (first | rw [c49b0] | (simp only [i64_w, i32_w]; rw [c49b0]) | skip)
            by_cases c50 : t379 = 0
            · rw [if_pos c50] at H
              obtain ⟨c50b0, c50b1⟩ := eqB_ c50
              clear c50
              by_cases c51 : (t376 != (a0_0 == a1_0 && (a0_1 == a1_1 && (a0_2.toList == a1_2.toList)))) = true
              · rw [if_pos c51] at H
                have c51b0 : (t376 != (a0_0 == a1_0 && (a0_1 == a1_1 && (a0_2.toList == a1_2.toList)))) = true := c51
                (try (have c51b1 : decide (t376 = (a0_0 == a1_0 && (a0_1 == a1_1 && (a0_2.toList == a1_2.toList)))) = false := by simpa using c51))
                (try (have c51b2 : (t376 == (a0_0 == a1_0 && (a0_1 == a1_1 && (a0_2.toList == a1_2.toList)))) = false := by simpa using c51))
                (try (have c51b3 : ¬ (t376 = (a0_0 == a1_0 && (a0_1 == a1_1 && (a0_2.toList == a1_2.toList)))) := by simpa using c51))
                clear c51
                have H' := Aside0.mk H
                clear H
                have hnb52 := NB372_373.out
                have hnc52 := NB373_372.out
                have hcz53_0 : w48.cell? ⟨gb372, 0, none⟩ = some (.int .i64 a0_0) := (blk_cell BK372.out 0).trans rfl
                have hcz53_1 : w48.cell? ⟨gb372, 1, none⟩ = some (.int .i64 a0_1) := (blk_cell BK372.out 1).trans rfl
                have hcz53_2 : w48.cell? ⟨gb372, 2, none⟩ = some (.string a0_2) := (blk_cell BK372.out 2).trans rfl
                have hfz53_0 := blk_frozen BK372.out 0
                have hfz53_1 := blk_frozen BK372.out 1
                have hfz53_2 := blk_frozen BK372.out 2
                have hcz54_0 : w48.cell? ⟨gb373, 0, none⟩ = some (.int .i64 a1_0) := (blk_cell BK373.out 0).trans rfl
                have hcz54_1 : w48.cell? ⟨gb373, 1, none⟩ = some (.int .i64 a1_1) := (blk_cell BK373.out 1).trans rfl
                have hcz54_2 : w48.cell? ⟨gb373, 2, none⟩ = some (.string a1_2) := (blk_cell BK373.out 2).trans rfl
                have hfz54_0 := blk_frozen BK373.out 0
                have hfz54_1 := blk_frozen BK373.out 1
                have hfz54_2 := blk_frozen BK373.out 2
                go_wp2
                go_meet
                case rel => exact ⟨_, (true), ra_, H', ⟨by have := HJ2.out; first | omega | exact Nat.le_refl _⟩, ⟨by (with_reducible repeat (first | refine blk_drewN ?_ _ | refine blk_drew ?_ | refine blk_alloc ?_ _)); exact BK372.out⟩, ⟨by (with_reducible repeat (first | refine blk_drewN ?_ _ | refine blk_drew ?_ | refine blk_alloc ?_ _)); exact BK373.out⟩, ⟨by repeat (first | (with_reducible first | exact HB.out | apply below_alloc | apply pw_below_drewN | apply below_drew1 | refine below_set ?_ GE372.out | refine below_set ?_ GE373.out) | exact HB.out)⟩⟩
              · rw [if_neg c51] at H
                have c51b0 : (t376 != (a0_0 == a1_0 && (a0_1 == a1_1 && (a0_2.toList == a1_2.toList)))) = false := by simpa using c51
                (try (have c51b1 : decide (t376 = (a0_0 == a1_0 && (a0_1 == a1_1 && (a0_2.toList == a1_2.toList)))) = true := by simpa using c51))
                (try (have c51b2 : (t376 == (a0_0 == a1_0 && (a0_1 == a1_1 && (a0_2.toList == a1_2.toList)))) = true := by simpa using c51))
                clear c51
                have H' := Aside0.mk H
                clear H
                have hnb55 := NB372_373.out
                have hnc55 := NB373_372.out
                have hcz56_0 : w48.cell? ⟨gb372, 0, none⟩ = some (.int .i64 a0_0) := (blk_cell BK372.out 0).trans rfl
                have hcz56_1 : w48.cell? ⟨gb372, 1, none⟩ = some (.int .i64 a0_1) := (blk_cell BK372.out 1).trans rfl
                have hcz56_2 : w48.cell? ⟨gb372, 2, none⟩ = some (.string a0_2) := (blk_cell BK372.out 2).trans rfl
                have hfz56_0 := blk_frozen BK372.out 0
                have hfz56_1 := blk_frozen BK372.out 1
                have hfz56_2 := blk_frozen BK372.out 2
                have hcz57_0 : w48.cell? ⟨gb373, 0, none⟩ = some (.int .i64 a1_0) := (blk_cell BK373.out 0).trans rfl
                have hcz57_1 : w48.cell? ⟨gb373, 1, none⟩ = some (.int .i64 a1_1) := (blk_cell BK373.out 1).trans rfl
                have hcz57_2 : w48.cell? ⟨gb373, 2, none⟩ = some (.string a1_2) := (blk_cell BK373.out 2).trans rfl
                have hfz57_0 := blk_frozen BK373.out 0
                have hfz57_1 := blk_frozen BK373.out 1
                have hfz57_2 := blk_frozen BK373.out 2
                go_wp2
                go_meet
                case rel => exact ⟨_, ((t378 == t376)), ra_, H', ⟨by have := HJ2.out; first | omega | exact Nat.le_refl _⟩, ⟨by (with_reducible repeat (first | refine blk_drewN ?_ _ | refine blk_drew ?_ | refine blk_alloc ?_ _)); exact BK372.out⟩, ⟨by (with_reducible repeat (first | refine blk_drewN ?_ _ | refine blk_drew ?_ | refine blk_alloc ?_ _)); exact BK373.out⟩, ⟨by repeat (first | (with_reducible first | exact HB.out | apply below_alloc | apply pw_below_drewN | apply below_drew1 | refine below_set ?_ GE372.out | refine below_set ?_ GE373.out) | exact HB.out)⟩⟩
            · rw [if_neg c50] at H
              obtain ⟨c50b0, c50b1⟩ := neB_ c50
              have H' := Aside0.mk H
              clear H
              go_wp2
              go_meet
              case rel => exact ⟨_, (true), ra_, H', ⟨by have := HJ2.out; first | omega | exact Nat.le_refl _⟩, ⟨by (with_reducible repeat (first | refine blk_drewN ?_ _ | refine blk_drew ?_ | refine blk_alloc ?_ _)); exact BK372.out⟩, ⟨by (with_reducible repeat (first | refine blk_drewN ?_ _ | refine blk_drew ?_ | refine blk_alloc ?_ _)); exact BK373.out⟩, ⟨by repeat (first | (with_reducible first | exact HB.out | apply below_alloc | apply pw_below_drewN | apply below_drew1 | refine below_set ?_ GE372.out | refine below_set ?_ GE373.out) | exact HB.out)⟩⟩
          · rw [if_neg c49] at H
            obtain ⟨c49b0, c49b1⟩ := neB_ c49
            (first | rw [c49b0] | (simp only [i64_w, i32_w]; rw [c49b0]) | skip)
            have H' := Aside0.mk H
            clear H
            go_wp2
            go_meet
            case rel => exact ⟨_, (true), ra_, H', ⟨by have := HJ2.out; first | omega | exact Nat.le_refl _⟩, ⟨by (with_reducible repeat (first | refine blk_drewN ?_ _ | refine blk_drew ?_ | refine blk_alloc ?_ _)); exact BK372.out⟩, ⟨by (with_reducible repeat (first | refine blk_drewN ?_ _ | refine blk_drew ?_ | refine blk_alloc ?_ _)); exact BK373.out⟩, ⟨by repeat (first | (with_reducible first | exact HB.out | apply below_alloc | apply pw_below_drewN | apply below_drew1 | refine below_set ?_ GE372.out | refine below_set ?_ GE373.out) | exact HB.out)⟩⟩
        case rest =>
          clear HC32
          try clear c1
          try clear c2
          try clear p2
          try clear c3
          try clear c4
          try clear c5
          try clear c6
          try clear c6b0
          try clear c6b1
          try clear c7
          try clear c9
          try clear c9b0
          try clear c9b1
          try clear c10
          try clear c14
          try clear c16
          try clear c22
          try clear c26
          try clear c33
          try clear c49
          try clear c49b0
          try clear c49b1
          try clear c50
          try clear c50b0
          try clear c50b1
          try clear c51
          try clear c51b0
          try clear c51b1
          try clear c51b2
          try clear c52
          try clear c55
          try clear hcz11_0
          try clear hcz11_1
          try clear hcz11_2
          try clear hcz12_0
          try clear hcz12_1
          try clear hcz12_2
          try clear hcz17_0
          try clear hcz17_1
          try clear hcz17_2
          try clear hcz18_0
          try clear hcz18_1
          try clear hcz18_2
          try clear hcz20_0
          try clear hcz20_1
          try clear hcz20_2
          try clear hcz23_0
          try clear hcz23_1
          try clear hcz23_2
          try clear hcz24_0
          try clear hcz24_1
          try clear hcz24_2
          try clear hcz34_0
          try clear hcz34_1
          try clear hcz34_2
          try clear hcz35_0
          try clear hcz35_1
          try clear hcz35_2
          try clear hcz37_0
          try clear hcz37_1
          try clear hcz37_2
          try clear hcz38_0
          try clear hcz38_1
          try clear hcz38_2
          try clear hcz40_0
          try clear hcz40_1
          try clear hcz40_2
          try clear hcz41_0
          try clear hcz41_1
          try clear hcz41_2
          try clear hcz43_0
          try clear hcz43_1
          try clear hcz43_2
          try clear hcz44_0
          try clear hcz44_1
          try clear hcz44_2
          try clear hcz46_0
          try clear hcz46_1
          try clear hcz46_2
          try clear hcz47_0
          try clear hcz47_1
          try clear hcz47_2
          try clear hcz53_0
          try clear hcz53_1
          try clear hcz53_2
          try clear hcz54_0
          try clear hcz54_1
          try clear hcz54_2
          try clear hcz56_0
          try clear hcz56_1
          try clear hcz56_2
          try clear hcz57_0
          try clear hcz57_1
          try clear hcz57_2
          try clear hcz8_0
          try clear hcz8_1
          try clear hcz8_2
          try clear hfz11_0
          try clear hfz11_1
          try clear hfz11_2
          try clear hfz12_0
          try clear hfz12_1
          try clear hfz12_2
          try clear hfz17_0
          try clear hfz17_1
          try clear hfz17_2
          try clear hfz18_0
          try clear hfz18_1
          try clear hfz18_2
          try clear hfz20_0
          try clear hfz20_1
          try clear hfz20_2
          try clear hfz23_0
          try clear hfz23_1
          try clear hfz23_2
          try clear hfz24_0
          try clear hfz24_1
          try clear hfz24_2
          try clear hfz34_0
          try clear hfz34_1
          try clear hfz34_2
          try clear hfz35_0
          try clear hfz35_1
          try clear hfz35_2
          try clear hfz37_0
          try clear hfz37_1
          try clear hfz37_2
          try clear hfz38_0
          try clear hfz38_1
          try clear hfz38_2
          try clear hfz40_0
          try clear hfz40_1
          try clear hfz40_2
          try clear hfz41_0
          try clear hfz41_1
          try clear hfz41_2
          try clear hfz43_0
          try clear hfz43_1
          try clear hfz43_2
          try clear hfz44_0
          try clear hfz44_1
          try clear hfz44_2
          try clear hfz46_0
          try clear hfz46_1
          try clear hfz46_2
          try clear hfz47_0
          try clear hfz47_1
          try clear hfz47_2
          try clear hfz53_0
          try clear hfz53_1
          try clear hfz53_2
          try clear hfz54_0
          try clear hfz54_1
          try clear hfz54_2
          try clear hfz56_0
          try clear hfz56_1
          try clear hfz56_2
          try clear hfz57_0
          try clear hfz57_1
          try clear hfz57_2
          try clear hfz8_0
          try clear hfz8_1
          try clear hfz8_2
          try clear p2
          obtain ⟨kq, x83_31, rfl, HA, HJ31, BK372, BK373, HB⟩ := hcut
          cases kq with
          | zero => exact absurd HA.out (by simp [constablelaw08_GuardOne.j1])
          | succ kj31 =>
            have H := HA.out
            clear HA
            simp only [constablelaw08_GuardOne.j1] at H
            by_cases c58 : x83_31 = true
            · subst c58
              have H1 : (some false) = some r := by rw [if_pos rfl] at H; exact H
              clear H
              have H := H1
              clear H1
              exact absurd ((Option.some.inj H).trans HR_.out) (by decide)
            · replace c58 := Bool.eq_false_iff.mpr c58
              subst c58
              have H1 : (if a0_0 = a1_0 then (if t376 = true then (if t380 = true then (if t381 = 0 then (if t383 = 0 then (if t385 = 0 then (some false) else (some false)) else (some false)) else (some false)) else (if t382 = true then (if t381 = 0 then (if t383 = 0 then (if t385 = 0 then (some false) else (some false)) else (some false)) else (some false)) else (if t381 = 0 then (if t383 = 0 then (if t385 = 0 then (if (t384 == t376) = true then ((constablelaw08_wakes.f kj31).bind fun t386 => (some t386)) else (some false)) else (some false)) else (some false)) else (some false)))) else (if t380 = true then (if t382 = true then (if t381 = 0 then (if t383 = 0 then (if t385 = 0 then (some false) else (some false)) else (some false)) else (some false)) else (if t381 = 0 then (if t383 = 0 then (if t385 = 0 then (if (t384 == true) = true then ((constablelaw08_wakes.f kj31).bind fun t387 => (some t387)) else (some false)) else (some false)) else (some false)) else (some false))) else (if t381 = 0 then (if t383 = 0 then (if t385 = 0 then (if t382 = true then (if (t384 == t376) = true then ((constablelaw08_wakes.f kj31).bind fun t388 => (some t388)) else (some false)) else (some false)) else (some false)) else (some false)) else (some false)))) else (if t381 = 3 then (if t383 = 3 then (if t385 = 3 then (if t376 = true then (some false) else ((constablelaw08_wakes.f kj31).bind fun t389 => (some t389))) else (some false)) else (some false)) else (some false))) = some r := by rw [if_neg (show ¬ (false = true) by decide)] at H; exact H
              clear H
              have H := H1
              clear H1
              by_cases c59 : a0_0 = a1_0
              · rw [if_pos c59] at H
                obtain ⟨c59b0, c59b1⟩ := eqB_ c59
                clear c59
                by_cases c60 : t376 = true
                · subst c60
                  have H1 : (if t380 = true then (if t381 = 0 then (if t383 = 0 then (if t385 = 0 then (some false) else (some false)) else (some false)) else (some false)) else (if t382 = true then (if t381 = 0 then (if t383 = 0 then (if t385 = 0 then (some false) else (some false)) else (some false)) else (some false)) else (if t381 = 0 then (if t383 = 0 then (if t385 = 0 then (if (t384 == true) = true then ((constablelaw08_wakes.f kj31).bind fun t386 => (some t386)) else (some false)) else (some false)) else (some false)) else (some false)))) = some r := by rw [if_pos rfl] at H; exact H
                  clear H
                  have H := H1
                  clear H1
                  by_cases c61 : t380 = true
                  · subst c61
                    have H1 : (if t381 = 0 then (if t383 = 0 then (if t385 = 0 then (some false) else (some false)) else (some false)) else (some false)) = some r := by rw [if_pos rfl] at H; exact H
                    clear H
                    have H := H1
                    clear H1
                    by_cases c62 : t381 = 0
                    · rw [if_pos c62] at H
                      obtain ⟨c62b0, c62b1⟩ := eqB_ c62
                      clear c62
                      by_cases c63 : t383 = 0
                      · rw [if_pos c63] at H
                        obtain ⟨c63b0, c63b1⟩ := eqB_ c63
                        clear c63
                        by_cases c64 : t385 = 0
                        · rw [if_pos c64] at H
                          obtain ⟨c64b0, c64b1⟩ := eqB_ c64
                          clear c64
                          exact absurd ((Option.some.inj H).trans HR_.out) (by decide)
                        · rw [if_neg c64] at H
                          obtain ⟨c64b0, c64b1⟩ := neB_ c64
                          exact absurd ((Option.some.inj H).trans HR_.out) (by decide)
                      · rw [if_neg c63] at H
                        obtain ⟨c63b0, c63b1⟩ := neB_ c63
                        exact absurd ((Option.some.inj H).trans HR_.out) (by decide)
                    · rw [if_neg c62] at H
                      obtain ⟨c62b0, c62b1⟩ := neB_ c62
                      exact absurd ((Option.some.inj H).trans HR_.out) (by decide)
                  · replace c61 := Bool.eq_false_iff.mpr c61
                    subst c61
                    have H1 : (if t382 = true then (if t381 = 0 then (if t383 = 0 then (if t385 = 0 then (some false) else (some false)) else (some false)) else (some false)) else (if t381 = 0 then (if t383 = 0 then (if t385 = 0 then (if (t384 == true) = true then ((constablelaw08_wakes.f kj31).bind fun t386 => (some t386)) else (some false)) else (some false)) else (some false)) else (some false))) = some r := by rw [if_neg (show ¬ (false = true) by decide)] at H; exact H
                    clear H
                    have H := H1
                    clear H1
                    by_cases c65 : t382 = true
                    · subst c65
                      have H1 : (if t381 = 0 then (if t383 = 0 then (if t385 = 0 then (some false) else (some false)) else (some false)) else (some false)) = some r := by rw [if_pos rfl] at H; exact H
                      clear H
                      have H := H1
                      clear H1
                      by_cases c66 : t381 = 0
                      · rw [if_pos c66] at H
                        obtain ⟨c66b0, c66b1⟩ := eqB_ c66
                        clear c66
                        by_cases c67 : t383 = 0
                        · rw [if_pos c67] at H
                          obtain ⟨c67b0, c67b1⟩ := eqB_ c67
                          clear c67
                          by_cases c68 : t385 = 0
                          · rw [if_pos c68] at H
                            obtain ⟨c68b0, c68b1⟩ := eqB_ c68
                            clear c68
                            exact absurd ((Option.some.inj H).trans HR_.out) (by decide)
                          · rw [if_neg c68] at H
                            obtain ⟨c68b0, c68b1⟩ := neB_ c68
                            exact absurd ((Option.some.inj H).trans HR_.out) (by decide)
                        · rw [if_neg c67] at H
                          obtain ⟨c67b0, c67b1⟩ := neB_ c67
                          exact absurd ((Option.some.inj H).trans HR_.out) (by decide)
                      · rw [if_neg c66] at H
                        obtain ⟨c66b0, c66b1⟩ := neB_ c66
                        exact absurd ((Option.some.inj H).trans HR_.out) (by decide)
                    · replace c65 := Bool.eq_false_iff.mpr c65
                      subst c65
                      have H1 : (if t381 = 0 then (if t383 = 0 then (if t385 = 0 then (if (t384 == true) = true then ((constablelaw08_wakes.f kj31).bind fun t386 => (some t386)) else (some false)) else (some false)) else (some false)) else (some false)) = some r := by rw [if_neg (show ¬ (false = true) by decide)] at H; exact H
                      clear H
                      have H := H1
                      clear H1
                      by_cases c69 : t381 = 0
                      · rw [if_pos c69] at H
                        obtain ⟨c69b0, c69b1⟩ := eqB_ c69
                        clear c69
                        by_cases c70 : t383 = 0
                        · rw [if_pos c70] at H
                          obtain ⟨c70b0, c70b1⟩ := eqB_ c70
                          clear c70
                          by_cases c71 : t385 = 0
                          · rw [if_pos c71] at H
                            obtain ⟨c71b0, c71b1⟩ := eqB_ c71
                            clear c71
                            by_cases c72 : (t384 == true) = true
                            · rw [if_pos c72] at H
                              have c72b0 : (t384 == true) = true := c72
                              (try (have c72b1 : decide (t384 = true) = true := by simpa using c72))
                              (try (have c72b2 : (t384 == true) = true := by simpa using c72))
                              clear c72
                              replace H := Option.bind_eq_some_iff.mp H
                              obtain ⟨t386, A730, H⟩ := H
                              replace H : (some t386) = some r := H
                              have A73 := Aside0.mk A730
                              clear A730
                              obtain rfl := Option.some.inj H
                              have hnb74 := NB372_373.out
                              have hnc74 := NB373_372.out
                              have hcz75_0 : wc.cell? ⟨gb372, 0, none⟩ = some (.int .i64 a0_0) := (blk_cell BK372.out 0).trans rfl
                              have hcz75_1 : wc.cell? ⟨gb372, 1, none⟩ = some (.int .i64 a0_1) := (blk_cell BK372.out 1).trans rfl
                              have hcz75_2 : wc.cell? ⟨gb372, 2, none⟩ = some (.string a0_2) := (blk_cell BK372.out 2).trans rfl
                              have hfz75_0 := blk_frozen BK372.out 0
                              have hfz75_1 := blk_frozen BK372.out 1
                              have hfz75_2 := blk_frozen BK372.out 2
                              have hcz76_0 : wc.cell? ⟨gb373, 0, none⟩ = some (.int .i64 a1_0) := (blk_cell BK373.out 0).trans rfl
                              have hcz76_1 : wc.cell? ⟨gb373, 1, none⟩ = some (.int .i64 a1_1) := (blk_cell BK373.out 1).trans rfl
                              have hcz76_2 : wc.cell? ⟨gb373, 2, none⟩ = some (.string a1_2) := (blk_cell BK373.out 2).trans rfl
                              have hfz76_0 := blk_frozen BK373.out 0
                              have hfz76_1 := blk_frozen BK373.out 1
                              have hfz76_2 := blk_frozen BK373.out 2
                              go_wp2_with (first | (go_at_call 17; (with_reducible refine (constablelaw08_wakes.calls kj31  t386 _ A73.out HR_.out).mono ?_); rintro e w77 ⟨rfl, hb⟩; have n0_ := bb_ (bu_ BK372) hb; have n1_ := bb_ (bu_ BK373) hb; have n2_ := bs_ (be_ HB) hb; clear BK372; clear BK373; clear HB; have BK372 := n0_; have BK373 := n1_; have HB := n2_; clear n0_ n1_ n2_; (try clear hb); (try clear hb2); (try clear hk); (try clear hi)))
                              go_ret
                              exact ⟨by first | rfl | (simp [errW_none, errW_some] <;> rfl) | (simp [*, errW_none, errW_some] <;> rfl), by repeat (first | (with_reducible first | exact HB.out | apply below_alloc | apply pw_below_drewN | apply below_drew1 | refine below_set ?_ GE372.out | refine below_set ?_ GE373.out) | exact HB.out)⟩
                            · rw [if_neg c72] at H
                              have c72b0 : (t384 == true) = false := by simpa using c72
                              (try (have c72b1 : decide (t384 = true) = false := by simpa using c72))
                              (try (have c72b2 : (t384 == true) = false := by simpa using c72))
                              (try (have c72b3 : ¬ (t384 = true) := by simpa using c72))
                              clear c72
                              exact absurd ((Option.some.inj H).trans HR_.out) (by decide)
                          · rw [if_neg c71] at H
                            obtain ⟨c71b0, c71b1⟩ := neB_ c71
                            exact absurd ((Option.some.inj H).trans HR_.out) (by decide)
                        · rw [if_neg c70] at H
                          obtain ⟨c70b0, c70b1⟩ := neB_ c70
                          exact absurd ((Option.some.inj H).trans HR_.out) (by decide)
                      · rw [if_neg c69] at H
                        obtain ⟨c69b0, c69b1⟩ := neB_ c69
                        exact absurd ((Option.some.inj H).trans HR_.out) (by decide)
                · replace c60 := Bool.eq_false_iff.mpr c60
                  subst c60
                  have H1 : (if t380 = true then (if t382 = true then (if t381 = 0 then (if t383 = 0 then (if t385 = 0 then (some false) else (some false)) else (some false)) else (some false)) else (if t381 = 0 then (if t383 = 0 then (if t385 = 0 then (if (t384 == true) = true then ((constablelaw08_wakes.f kj31).bind fun t387 => (some t387)) else (some false)) else (some false)) else (some false)) else (some false))) else (if t381 = 0 then (if t383 = 0 then (if t385 = 0 then (if t382 = true then (if (t384 == false) = true then ((constablelaw08_wakes.f kj31).bind fun t388 => (some t388)) else (some false)) else (some false)) else (some false)) else (some false)) else (some false))) = some r := by rw [if_neg (show ¬ (false = true) by decide)] at H; exact H
                  clear H
                  have H := H1
                  clear H1
                  by_cases c78 : t380 = true
                  · subst c78
                    have H1 : (if t382 = true then (if t381 = 0 then (if t383 = 0 then (if t385 = 0 then (some false) else (some false)) else (some false)) else (some false)) else (if t381 = 0 then (if t383 = 0 then (if t385 = 0 then (if (t384 == true) = true then ((constablelaw08_wakes.f kj31).bind fun t387 => (some t387)) else (some false)) else (some false)) else (some false)) else (some false))) = some r := by rw [if_pos rfl] at H; exact H
                    clear H
                    have H := H1
                    clear H1
                    by_cases c79 : t382 = true
                    · subst c79
                      have H1 : (if t381 = 0 then (if t383 = 0 then (if t385 = 0 then (some false) else (some false)) else (some false)) else (some false)) = some r := by rw [if_pos rfl] at H; exact H
                      clear H
                      have H := H1
                      clear H1
                      by_cases c80 : t381 = 0
                      · rw [if_pos c80] at H
                        obtain ⟨c80b0, c80b1⟩ := eqB_ c80
                        clear c80
                        by_cases c81 : t383 = 0
                        · rw [if_pos c81] at H
                          obtain ⟨c81b0, c81b1⟩ := eqB_ c81
                          clear c81
                          by_cases c82 : t385 = 0
                          · rw [if_pos c82] at H
                            obtain ⟨c82b0, c82b1⟩ := eqB_ c82
                            clear c82
                            exact absurd ((Option.some.inj H).trans HR_.out) (by decide)
                          · rw [if_neg c82] at H
                            obtain ⟨c82b0, c82b1⟩ := neB_ c82
                            exact absurd ((Option.some.inj H).trans HR_.out) (by decide)
                        · rw [if_neg c81] at H
                          obtain ⟨c81b0, c81b1⟩ := neB_ c81
                          exact absurd ((Option.some.inj H).trans HR_.out) (by decide)
                      · rw [if_neg c80] at H
                        obtain ⟨c80b0, c80b1⟩ := neB_ c80
                        exact absurd ((Option.some.inj H).trans HR_.out) (by decide)
                    · replace c79 := Bool.eq_false_iff.mpr c79
                      subst c79
                      have H1 : (if t381 = 0 then (if t383 = 0 then (if t385 = 0 then (if (t384 == true) = true then ((constablelaw08_wakes.f kj31).bind fun t387 => (some t387)) else (some false)) else (some false)) else (some false)) else (some false)) = some r := by rw [if_neg (show ¬ (false = true) by decide)] at H; exact H
                      clear H
                      have H := H1
                      clear H1
                      by_cases c83 : t381 = 0
                      · rw [if_pos c83] at H
                        obtain ⟨c83b0, c83b1⟩ := eqB_ c83
                        clear c83
                        by_cases c84 : t383 = 0
                        · rw [if_pos c84] at H
                          obtain ⟨c84b0, c84b1⟩ := eqB_ c84
                          clear c84
                          by_cases c85 : t385 = 0
                          · rw [if_pos c85] at H
                            obtain ⟨c85b0, c85b1⟩ := eqB_ c85
                            clear c85
                            by_cases c86 : (t384 == true) = true
                            · rw [if_pos c86] at H
                              have c86b0 : (t384 == true) = true := c86
                              (try (have c86b1 : decide (t384 = true) = true := by simpa using c86))
                              (try (have c86b2 : (t384 == true) = true := by simpa using c86))
                              clear c86
                              replace H := Option.bind_eq_some_iff.mp H
                              obtain ⟨t387, A870, H⟩ := H
                              replace H : (some t387) = some r := H
                              have A87 := Aside0.mk A870
                              clear A870
                              obtain rfl := Option.some.inj H
                              have hnb88 := NB372_373.out
                              have hnc88 := NB373_372.out
                              have hcz89_0 : wc.cell? ⟨gb372, 0, none⟩ = some (.int .i64 a0_0) := (blk_cell BK372.out 0).trans rfl
                              have hcz89_1 : wc.cell? ⟨gb372, 1, none⟩ = some (.int .i64 a0_1) := (blk_cell BK372.out 1).trans rfl
                              have hcz89_2 : wc.cell? ⟨gb372, 2, none⟩ = some (.string a0_2) := (blk_cell BK372.out 2).trans rfl
                              have hfz89_0 := blk_frozen BK372.out 0
                              have hfz89_1 := blk_frozen BK372.out 1
                              have hfz89_2 := blk_frozen BK372.out 2
                              have hcz90_0 : wc.cell? ⟨gb373, 0, none⟩ = some (.int .i64 a1_0) := (blk_cell BK373.out 0).trans rfl
                              have hcz90_1 : wc.cell? ⟨gb373, 1, none⟩ = some (.int .i64 a1_1) := (blk_cell BK373.out 1).trans rfl
                              have hcz90_2 : wc.cell? ⟨gb373, 2, none⟩ = some (.string a1_2) := (blk_cell BK373.out 2).trans rfl
                              have hfz90_0 := blk_frozen BK373.out 0
                              have hfz90_1 := blk_frozen BK373.out 1
                              have hfz90_2 := blk_frozen BK373.out 2
                              go_wp2_with (first | (go_at_call 17; (with_reducible refine (constablelaw08_wakes.calls kj31  t387 _ A87.out HR_.out).mono ?_); rintro e w91 ⟨rfl, hb⟩; have n0_ := bb_ (bu_ BK372) hb; have n1_ := bb_ (bu_ BK373) hb; have n2_ := bs_ (be_ HB) hb; clear BK372; clear BK373; clear HB; have BK372 := n0_; have BK373 := n1_; have HB := n2_; clear n0_ n1_ n2_; (try clear hb); (try clear hb2); (try clear hk); (try clear hi)))
                              go_ret
                              exact ⟨by first | rfl | (simp [errW_none, errW_some] <;> rfl) | (simp [*, errW_none, errW_some] <;> rfl), by repeat (first | (with_reducible first | exact HB.out | apply below_alloc | apply pw_below_drewN | apply below_drew1 | refine below_set ?_ GE372.out | refine below_set ?_ GE373.out) | exact HB.out)⟩
                            · rw [if_neg c86] at H
                              have c86b0 : (t384 == true) = false := by simpa using c86
                              (try (have c86b1 : decide (t384 = true) = false := by simpa using c86))
                              (try (have c86b2 : (t384 == true) = false := by simpa using c86))
                              (try (have c86b3 : ¬ (t384 = true) := by simpa using c86))
                              clear c86
                              exact absurd ((Option.some.inj H).trans HR_.out) (by decide)
                          · rw [if_neg c85] at H
                            obtain ⟨c85b0, c85b1⟩ := neB_ c85
                            exact absurd ((Option.some.inj H).trans HR_.out) (by decide)
                        · rw [if_neg c84] at H
                          obtain ⟨c84b0, c84b1⟩ := neB_ c84
                          exact absurd ((Option.some.inj H).trans HR_.out) (by decide)
                      · rw [if_neg c83] at H
                        obtain ⟨c83b0, c83b1⟩ := neB_ c83
                        exact absurd ((Option.some.inj H).trans HR_.out) (by decide)
                  · replace c78 := Bool.eq_false_iff.mpr c78
                    subst c78
                    have H1 : (if t381 = 0 then (if t383 = 0 then (if t385 = 0 then (if t382 = true then (if (t384 == false) = true then ((constablelaw08_wakes.f kj31).bind fun t388 => (some t388)) else (some false)) else (some false)) else (some false)) else (some false)) else (some false)) = some r := by rw [if_neg (show ¬ (false = true) by decide)] at H; exact H
                    clear H
                    have H := H1
                    clear H1
                    by_cases c92 : t381 = 0
                    · rw [if_pos c92] at H
                      obtain ⟨c92b0, c92b1⟩ := eqB_ c92
                      clear c92
                      by_cases c93 : t383 = 0
                      · rw [if_pos c93] at H
                        obtain ⟨c93b0, c93b1⟩ := eqB_ c93
                        clear c93
                        by_cases c94 : t385 = 0
                        · rw [if_pos c94] at H
                          obtain ⟨c94b0, c94b1⟩ := eqB_ c94
                          clear c94
                          by_cases c95 : t382 = true
                          · subst c95
                            have H1 : (if (t384 == false) = true then ((constablelaw08_wakes.f kj31).bind fun t388 => (some t388)) else (some false)) = some r := by rw [if_pos rfl] at H; exact H
                            clear H
                            have H := H1
                            clear H1
                            by_cases c96 : (t384 == false) = true
                            · rw [if_pos c96] at H
                              have c96b0 : (t384 == false) = true := c96
                              (try (have c96b1 : decide (t384 = false) = true := by simpa using c96))
                              (try (have c96b2 : (t384 == false) = true := by simpa using c96))
                              clear c96
                              replace H := Option.bind_eq_some_iff.mp H
                              obtain ⟨t388, A970, H⟩ := H
                              replace H : (some t388) = some r := H
                              have A97 := Aside0.mk A970
                              clear A970
                              obtain rfl := Option.some.inj H
                              have hnb98 := NB372_373.out
                              have hnc98 := NB373_372.out
                              have hcz99_0 : wc.cell? ⟨gb372, 0, none⟩ = some (.int .i64 a0_0) := (blk_cell BK372.out 0).trans rfl
                              have hcz99_1 : wc.cell? ⟨gb372, 1, none⟩ = some (.int .i64 a0_1) := (blk_cell BK372.out 1).trans rfl
                              have hcz99_2 : wc.cell? ⟨gb372, 2, none⟩ = some (.string a0_2) := (blk_cell BK372.out 2).trans rfl
                              have hfz99_0 := blk_frozen BK372.out 0
                              have hfz99_1 := blk_frozen BK372.out 1
                              have hfz99_2 := blk_frozen BK372.out 2
                              have hcz100_0 : wc.cell? ⟨gb373, 0, none⟩ = some (.int .i64 a1_0) := (blk_cell BK373.out 0).trans rfl
                              have hcz100_1 : wc.cell? ⟨gb373, 1, none⟩ = some (.int .i64 a1_1) := (blk_cell BK373.out 1).trans rfl
                              have hcz100_2 : wc.cell? ⟨gb373, 2, none⟩ = some (.string a1_2) := (blk_cell BK373.out 2).trans rfl
                              have hfz100_0 := blk_frozen BK373.out 0
                              have hfz100_1 := blk_frozen BK373.out 1
                              have hfz100_2 := blk_frozen BK373.out 2
                              go_wp2_with (first | (go_at_call 17; (with_reducible refine (constablelaw08_wakes.calls kj31  t388 _ A97.out HR_.out).mono ?_); rintro e w101 ⟨rfl, hb⟩; have n0_ := bb_ (bu_ BK372) hb; have n1_ := bb_ (bu_ BK373) hb; have n2_ := bs_ (be_ HB) hb; clear BK372; clear BK373; clear HB; have BK372 := n0_; have BK373 := n1_; have HB := n2_; clear n0_ n1_ n2_; (try clear hb); (try clear hb2); (try clear hk); (try clear hi)))
                              go_ret
                              exact ⟨by first | rfl | (simp [errW_none, errW_some] <;> rfl) | (simp [*, errW_none, errW_some] <;> rfl), by repeat (first | (with_reducible first | exact HB.out | apply below_alloc | apply pw_below_drewN | apply below_drew1 | refine below_set ?_ GE372.out | refine below_set ?_ GE373.out) | exact HB.out)⟩
                            · rw [if_neg c96] at H
                              have c96b0 : (t384 == false) = false := by simpa using c96
                              (try (have c96b1 : decide (t384 = false) = false := by simpa using c96))
                              (try (have c96b2 : (t384 == false) = false := by simpa using c96))
                              (try (have c96b3 : ¬ (t384 = false) := by simpa using c96))
                              clear c96
                              exact absurd ((Option.some.inj H).trans HR_.out) (by decide)
                          · replace c95 := Bool.eq_false_iff.mpr c95
                            subst c95
                            have H1 : (some false) = some r := by rw [if_neg (show ¬ (false = true) by decide)] at H; exact H
                            clear H
                            have H := H1
                            clear H1
                            exact absurd ((Option.some.inj H).trans HR_.out) (by decide)
                        · rw [if_neg c94] at H
                          obtain ⟨c94b0, c94b1⟩ := neB_ c94
                          exact absurd ((Option.some.inj H).trans HR_.out) (by decide)
                      · rw [if_neg c93] at H
                        obtain ⟨c93b0, c93b1⟩ := neB_ c93
                        exact absurd ((Option.some.inj H).trans HR_.out) (by decide)
                    · rw [if_neg c92] at H
                      obtain ⟨c92b0, c92b1⟩ := neB_ c92
                      exact absurd ((Option.some.inj H).trans HR_.out) (by decide)
              · rw [if_neg c59] at H
                obtain ⟨c59b0, c59b1⟩ := neB_ c59
                by_cases c102 : t381 = 3
                · rw [if_pos c102] at H
                  obtain ⟨c102b0, c102b1⟩ := eqB_ c102
                  clear c102
                  by_cases c103 : t383 = 3
                  · rw [if_pos c103] at H
                    obtain ⟨c103b0, c103b1⟩ := eqB_ c103
                    clear c103
                    by_cases c104 : t385 = 3
                    · rw [if_pos c104] at H
                      obtain ⟨c104b0, c104b1⟩ := eqB_ c104
                      clear c104
                      by_cases c105 : t376 = true
                      · subst c105
                        have H1 : (some false) = some r := by rw [if_pos rfl] at H; exact H
                        clear H
                        have H := H1
                        clear H1
                        exact absurd ((Option.some.inj H).trans HR_.out) (by decide)
                      · replace c105 := Bool.eq_false_iff.mpr c105
                        subst c105
                        have H1 : ((constablelaw08_wakes.f kj31).bind fun t389 => (some t389)) = some r := by rw [if_neg (show ¬ (false = true) by decide)] at H; exact H
                        clear H
                        have H := H1
                        clear H1
                        replace H := Option.bind_eq_some_iff.mp H
                        obtain ⟨t389, A1060, H⟩ := H
                        replace H : (some t389) = some r := H
                        have A106 := Aside0.mk A1060
                        clear A1060
                        obtain rfl := Option.some.inj H
                        have hnb107 := NB372_373.out
                        have hnc107 := NB373_372.out
                        have hcz108_0 : wc.cell? ⟨gb372, 0, none⟩ = some (.int .i64 a0_0) := (blk_cell BK372.out 0).trans rfl
                        have hcz108_1 : wc.cell? ⟨gb372, 1, none⟩ = some (.int .i64 a0_1) := (blk_cell BK372.out 1).trans rfl
                        have hcz108_2 : wc.cell? ⟨gb372, 2, none⟩ = some (.string a0_2) := (blk_cell BK372.out 2).trans rfl
                        have hfz108_0 := blk_frozen BK372.out 0
                        have hfz108_1 := blk_frozen BK372.out 1
                        have hfz108_2 := blk_frozen BK372.out 2
                        have hcz109_0 : wc.cell? ⟨gb373, 0, none⟩ = some (.int .i64 a1_0) := (blk_cell BK373.out 0).trans rfl
                        have hcz109_1 : wc.cell? ⟨gb373, 1, none⟩ = some (.int .i64 a1_1) := (blk_cell BK373.out 1).trans rfl
                        have hcz109_2 : wc.cell? ⟨gb373, 2, none⟩ = some (.string a1_2) := (blk_cell BK373.out 2).trans rfl
                        have hfz109_0 := blk_frozen BK373.out 0
                        have hfz109_1 := blk_frozen BK373.out 1
                        have hfz109_2 := blk_frozen BK373.out 2
                        go_wp2_with (first | (go_at_call 17; (with_reducible refine (constablelaw08_wakes.calls kj31  t389 _ A106.out HR_.out).mono ?_); rintro e w110 ⟨rfl, hb⟩; have n0_ := bb_ (bu_ BK372) hb; have n1_ := bb_ (bu_ BK373) hb; have n2_ := bs_ (be_ HB) hb; clear BK372; clear BK373; clear HB; have BK372 := n0_; have BK373 := n1_; have HB := n2_; clear n0_ n1_ n2_; (try clear hb); (try clear hb2); (try clear hk); (try clear hi)))
                        go_ret
                        exact ⟨by first | rfl | (simp [errW_none, errW_some] <;> rfl) | (simp [*, errW_none, errW_some] <;> rfl), by repeat (first | (with_reducible first | exact HB.out | apply below_alloc | apply pw_below_drewN | apply below_drew1 | refine below_set ?_ GE372.out | refine below_set ?_ GE373.out) | exact HB.out)⟩
                    · rw [if_neg c104] at H
                      obtain ⟨c104b0, c104b1⟩ := neB_ c104
                      exact absurd ((Option.some.inj H).trans HR_.out) (by decide)
                  · rw [if_neg c103] at H
                    obtain ⟨c103b0, c103b1⟩ := neB_ c103
                    exact absurd ((Option.some.inj H).trans HR_.out) (by decide)
                · rw [if_neg c102] at H
                  obtain ⟨c102b0, c102b1⟩ := neB_ c102
                  exact absurd ((Option.some.inj H).trans HR_.out) (by decide)
end Go.Proofs.Ytaopajmpifenoaa.P
end
section
namespace Go.Proofs.Ytaopajmpifenoaa.P
open Go.RowKit Go.Proofs.YtaopajmpifenoaaW.PrintWords Go.Proofs.YtaopajmpifenoaaW.PrintLast Go.Proofs.YtaopajmpifenoaaW.PrintMore
theorem evPos {α : Type} {c : Prop} [Decidable c] {f g : Nat → Option α} {r : α} (h : c) (k : Ev f r) : Ev (fun n => if c then f n else g n) r := Ev.congr (fun _ => if_pos h) k
theorem evNeg {α : Type} {c : Prop} [Decidable c] {f g : Nat → Option α} {r : α} (h : ¬ c) (k : Ev g r) : Ev (fun n => if c then f n else g n) r := Ev.congr (fun _ => if_neg h) k
theorem evSome {α : Type} {a r : α} (h : a = r) : Ev (fun _ => some a) r := ⟨0, fun _ _ => by rw [h]⟩
theorem evShift {α : Type} {g : Nat → Option α} {r : α} (k : Ev (fun n => g (n + 1)) r) : Ev g r := Ev.step (fun _ => rfl) k
theorem evBind0 {α β : Type} {g : Option α} {f : Nat → α → Option β} {a : α} {r : β} (h : g = some a) (k : Ev (fun n => f n a) r) : Ev (fun n => g.bind (f n)) r := by subst h; exact k
theorem evCond {α : Type} {b : Bool} {f g : Nat → Option α} {r : α} (h1 : b = true → Ev f r) (h2 : b = false → Ev g r) : Ev (fun n => if b = true then f n else g n) r := by
  cases b with
  | true => exact evPos rfl (h1 rfl)
  | false => exact evNeg (by decide) (h2 rfl)
theorem evIf {α : Type} {c : Prop} [Decidable c] {f g : Nat → Option α} {r : α} (h1 : c → Ev f r) (h2 : ¬ c → Ev g r) : Ev (fun n => if c then f n else g n) r := by
  by_cases h : c
  · exact evPos h (h1 h)
  · exact evNeg h (h2 h)
end Go.Proofs.Ytaopajmpifenoaa.P
end
section
namespace Go.Proofs.Ytaopajmpifenoaa.P
open Go.RowKit Go.Proofs.YtaopajmpifenoaaW.PrintWords Go.Proofs.YtaopajmpifenoaaW.PrintLast Go.Proofs.YtaopajmpifenoaaW.PrintMore
theorem len_codes (s : ByteArray) : (bytesOf s).length = s.size := by simp [bytesOf]
theorem bt_codes (s : ByteArray) (i : Int) : bt s i = rd (bytesOf s) i := (rd_bytesOf s i).symm
theorem codes_inj {s t : ByteArray} (h : bytesOf s = bytesOf t) : s = t := by
  have h2 : s.data.toList = t.data.toList := by
    unfold bytesOf at h
    have inj : ∀ (a b : List UInt8), a.map (fun b => ((b.toNat : Nat) : Int)) = b.map (fun b => ((b.toNat : Nat) : Int)) → a = b := by
      intro a
      induction a with
      | nil => intro b hb; cases b with
        | nil => rfl
        | cons y b => simp at hb
      | cons x a ih => intro b hb; cases b with
        | nil => simp at hb
        | cons y b =>
          simp only [List.map_cons, List.cons.injEq] at hb
          have e : x = y := UInt8.toNat_inj.1 (by omega)
          rw [e, ih b hb.2]
    exact inj _ _ h
  cases s with | mk a => cases t with | mk b => cases a; cases b; simp at h2; rw [h2]
theorem tl_data (s : ByteArray) : s.toList = s.data.toList := Lib.toList_data s
theorem tl_inj {s t : ByteArray} : s.toList = t.toList ↔ s = t := by
  constructor
  · intro h
    rw [tl_data, tl_data] at h
    exact codes_inj (by unfold bytesOf; rw [h])
  · intro h; rw [h]
theorem tl_beq (s t : ByteArray) : (s.toList == t.toList) = decide (s = t) := by
  rw [Bool.eq_iff_iff, beq_iff_eq, decide_eq_true_eq, tl_inj]
theorem tl_nil {s : ByteArray} : s.toList = [] ↔ s = ⟨#[]⟩ := by
  rw [← tl_inj]
  have : (⟨#[]⟩ : ByteArray).toList = [] := by rw [tl_data]
  rw [this]
theorem tl_beq_nil (s : ByteArray) : (s.toList == ([] : List UInt8)) = decide (s = ⟨#[]⟩) := by
  rw [Bool.eq_iff_iff, beq_iff_eq, decide_eq_true_eq, tl_nil]
theorem size_zero {s : ByteArray} : s.size = 0 ↔ s = ⟨#[]⟩ := by
  constructor
  · intro h
    apply codes_inj
    have : (bytesOf s).length = 0 := by rw [len_codes]; exact h
    rw [List.eq_nil_of_length_eq_zero this]; rfl
  · intro h; rw [h]; rfl
theorem rd_mid {p : List Int} {x : Int} {l : List Int} : rd (p ++ x :: l) p.length = x := by simp [rd, List.getD_eq_getElem?_getD]
theorem codes_split (s : ByteArray) (i : Nat) (h : i < s.size) : ∃ x, (bytesOf s).drop i = x :: (bytesOf s).drop (i + 1) ∧ bt s i = x := by
  have hl : i < (bytesOf s).length := by rw [len_codes]; exact h
  refine ⟨(bytesOf s)[i], ?_, ?_⟩
  · exact List.drop_eq_getElem_cons hl
  · rw [bt_codes]
    simp [rd, List.getD_eq_getElem?_getD, hl]
theorem back_ind {ρ : Type} (n : Nat) (l : Nat → Int → Option ρ) (spec : Nat → ρ) (hend : Ev (fun k => l k n) (spec n))
    (hstep : ∀ i : Nat, i < n → Ev (fun k => l k ((i + 1 : Nat) : Int)) (spec (i + 1)) → Ev (fun k => l k i) (spec i)) : ∀ i : Nat, i ≤ n → Ev (fun k => l k i) (spec i) := by
  intro i hi
  obtain ⟨d, rfl⟩ : ∃ d, n = i + d := ⟨n - i, by omega⟩
  induction d generalizing i with
  | zero => exact hend
  | succ d ih =>
    refine hstep i (by omega) ?_
    have := ih (i + 1) (by rw [show i + 1 + d = i + (d + 1) by omega]; exact hend) (fun j hj => hstep j (by omega)) (by omega)
    exact this
theorem wrap_succ {i n : Nat} (h : i < n) (hn : n ≤ 9223372036854775807) : wrap64 ((i : Int) + 1) = ((i + 1 : Nat) : Int) := by unfold wrap64; omega
theorem rdOf_nth {α : Type} (d : α) (l : List α) (i : Nat) (h : i < l.length) : rdOf d l i = l[i] := by simp [rdOf, List.getD_eq_getElem?_getD, h]
end Go.Proofs.Ytaopajmpifenoaa.P
end
