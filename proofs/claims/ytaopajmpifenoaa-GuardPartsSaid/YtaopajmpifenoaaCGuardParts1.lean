/- Part 2 of the proof of GuardParts: words, contracts of functions of the program (what a call answers), and what the answers say. -/
import Derived.Test.YtaopajmpifenoaaVWords
import Derived.Test.YtaopajmpifenoaaVLast
import Derived.Test.YtaopajmpifenoaaVApart
import Derived.Test.YtaopajmpifenoaaVArr
import Derived.Test.YtaopajmpifenoaaVFoot
import Derived.Test.YtaopajmpifenoaaVKept
import Derived.Test.YtaopajmpifenoaaVShare
import Derived.Test.YtaopajmpifenoaaVZeros
import Derived.Test.YtaopajmpifenoaaVN
import Derived.Test.YtaopajmpifenoaaVFootNe
import Derived.Test.YtaopajmpifenoaaVAt
import Derived.Test.YtaopajmpifenoaaVEqStruct
import Derived.Test.YtaopajmpifenoaaVTab
import Derived.Test.YtaopajmpifenoaaVFour
import Derived.Test.YtaopajmpifenoaaVGuard
import Derived.Test.YtaopajmpifenoaaVInv
import Derived.Test.YtaopajmpifenoaaVInvWords
import Derived.Test.YtaopajmpifenoaaVQPut
import Derived.Test.YtaopajmpifenoaaVNEv
import Derived.Test.YtaopajmpifenoaaVMore
import Derived.Test.YtaopajmpifenoaaVRepsOne
import Derived.Test.YtaopajmpifenoaaVSized
import Derived.Test.YtaopajmpifenoaaCGuardParts0
section
namespace Go.Proofs.Ytaopajmpifenoaa.P
open Go.RowKit Go.Proofs.YtaopajmpifenoaaW.PrintWords Go.Proofs.YtaopajmpifenoaaW.PrintLast Go.Proofs.YtaopajmpifenoaaW.PrintMore
attribute [local go_sem] max2_int min2_int max_two min_two max_three min_three max_four min_four
set_option linter.unusedVariables false
set_option linter.unusedSimpArgs false
def subst_right.f (k : Nat) (a0_0 : ByteArray) (a0_1 : Int) (a0_2 : Int) (a0_3 : ByteArray) : Option (Bool) := (subst_Var.f k a0_0).bind fun t199 => (if t199 = true then ((val_Check.f k a0_1 a0_2 a0_3).bind fun t200 => (some (t200 == 0))) else (some false))
theorem subst_right.mono : ∀ a0 a1 a2 a3 k, LeO (subst_right.f k a0 a1 a2 a3) (subst_right.f (k + 1) a0 a1 a2 a3) := by
  intro a0 a1 a2 a3 k
  unfold subst_right.f
  repeat' first
      | (with_reducible exact subst_Var.mono _ _)
      | (with_reducible exact val_Check.mono _ _ _ _)
      | (with_reducible exact LeO.refl _)
      | (with_reducible exact LeO.none _)
      | (with_reducible refine LeO.ite ?_ ?_)
      | (with_reducible refine LeO.bind ?_ (fun _ => ?_))
      | exact subst_Var.mono _ _
      | exact val_Check.mono _ _ _ _
      | exact LeO.none _
      | refine LeO.ite ?_ ?_
      | refine LeO.bind ?_ (fun _ => ?_)
set_option maxHeartbeats 8000000 in
set_option maxRecDepth 100000 in
theorem subst_right.calls (k : Nat) (a0_0 : ByteArray) (a0_1 : Int) (a0_2 : Int) (a0_3 : ByteArray) (r : Bool) (w : World) (h : subst_right.f k a0_0 a0_1 a0_2 a0_3 = some r) :
    Calls Try.prog 53 #[.agg #[.string a0_0, .int .i64 a0_1, .int .i64 a0_2, .string a0_3]] w fun e w' => e = .returned (.bool r) ∧ Below w.heap.size w w' := by
  have hu54 := Try.underlying54
  have hu23 := Try.underlying23
  have HB := Aside0.mk (Below.refl w.heap.size w)
  have H : ((subst_Var.f k a0_0).bind fun t199 => (if t199 = true then ((val_Check.f k a0_1 a0_2 a0_3).bind fun t200 => (some (t200 == 0))) else (some false))) = some r := h
  clear h
  replace H := Option.bind_eq_some_iff.mp H
  obtain ⟨t199, A20, H⟩ := H
  replace H : (if t199 = true then ((val_Check.f k a0_1 a0_2 a0_3).bind fun t200 => (some (t200 == 0))) else (some false)) = some r := H
  have A2 := Aside0.mk A20
  clear A20
  by_cases c3 : t199 = true
  · subst c3
    have H1 : ((val_Check.f k a0_1 a0_2 a0_3).bind fun t200 => (some (t200 == 0))) = some r := by rw [if_pos rfl] at H; exact H
    clear H
    have H := H1
    clear H1
    replace H := Option.bind_eq_some_iff.mp H
    obtain ⟨t200, A40, H⟩ := H
    replace H : (some (t200 == 0)) = some r := H
    have A4 := Aside0.mk A40
    clear A40
    obtain rfl := Option.some.inj H
    go_enter Try.func53, Try.ntmps53
    go_wp2_with (first | ((with_reducible refine gate_dst (N := 1) rfl ?_); refine box_event ?hg (N := 1) ?hd (cs := #[.string a0_0, .int .i64 a0_1, .int .i64 a0_2, .string a0_3]) (t := 54) ?hr ?_; (case hd => rfl); (case hg => rfl); (case hr => first | (go_simp; done) | (go_simp; rfl)); intro gb198 hg w5 hbox hb; have n0_ := bs_ (be_ HB) hb; have n1_ := Aside0.mk (hbox); have n2_ := gs_ hg (be_ HB); have n3_ := gs_ hg (be_ HB); clear HB; have HB := n0_; have BK198 := n1_; have GW198 := n2_; have GE198 := n3_; clear n0_ n1_ n2_ n3_; clear hb hbox hg; have hcz6_0 : w5.cell? ⟨gb198, 0, none⟩ = some (.string a0_0) := (blk_cell BK198.out 0).trans rfl; have hcz6_1 : w5.cell? ⟨gb198, 1, none⟩ = some (.int .i64 a0_1) := (blk_cell BK198.out 1).trans rfl; have hcz6_2 : w5.cell? ⟨gb198, 2, none⟩ = some (.int .i64 a0_2) := (blk_cell BK198.out 2).trans rfl; have hcz6_3 : w5.cell? ⟨gb198, 3, none⟩ = some (.string a0_3) := (blk_cell BK198.out 3).trans rfl; have hfz6_0 := blk_frozen BK198.out 0; have hfz6_1 := blk_frozen BK198.out 1; have hfz6_2 := blk_frozen BK198.out 2; have hfz6_3 := blk_frozen BK198.out 3) | ((with_reducible refine gate_callee (f := 61) rfl ?_); refine goesL_ (some 5) rfl rfl Try.func61 (by kernel_rfl) rfl #[.string a0_0] rfl ga_ ?_; (with_reducible refine (subst_Var.calls k a0_0 true _ A2.out).mono ?_); rintro e w' ⟨rfl, ⟨nd, rfl⟩⟩; refine ⟨_, rfl, ?_⟩) | (go_at_call 27; (with_reducible refine (val_Check.calls k a0_1 a0_2 a0_3 t200 _ A4.out).mono ?_); rintro e w7 ⟨rfl, hb⟩; have n0_ := bb_ (bu_ BK198) hb; have n1_ := bs_ (be_ HB) hb; clear BK198; clear HB; have BK198 := n0_; have HB := n1_; clear n0_ n1_; (try clear hcz6_0 hcz6_1 hcz6_2 hcz6_3 hfz6_0 hfz6_1 hfz6_2 hfz6_3); (try clear hb); (try clear hb2); (try clear hk); (try clear hi)))
    go_ret
    exact ⟨by first | rfl | (simp [errW_none, errW_some] <;> rfl) | (simp [*, errW_none, errW_some] <;> rfl), by repeat (first | (with_reducible first | exact HB.out | apply below_alloc | apply pw_below_drewN | apply below_drew1 | refine below_set ?_ GE198.out) | exact HB.out)⟩
  · replace c3 := Bool.eq_false_iff.mpr c3
    subst c3
    have H1 : (some false) = some r := by rw [if_neg (show ¬ (false = true) by decide)] at H; exact H
    clear H
    have H := H1
    clear H1
    obtain rfl := Option.some.inj H
    go_enter Try.func53, Try.ntmps53
    go_wp2_with (first | ((with_reducible refine gate_dst (N := 1) rfl ?_); refine box_event ?hg (N := 1) ?hd (cs := #[.string a0_0, .int .i64 a0_1, .int .i64 a0_2, .string a0_3]) (t := 54) ?hr ?_; (case hd => rfl); (case hg => rfl); (case hr => first | (go_simp; done) | (go_simp; rfl)); intro gb198 hg w8 hbox hb; have n0_ := bs_ (be_ HB) hb; have n1_ := Aside0.mk (hbox); have n2_ := gs_ hg (be_ HB); have n3_ := gs_ hg (be_ HB); clear HB; have HB := n0_; have BK198 := n1_; have GW198 := n2_; have GE198 := n3_; clear n0_ n1_ n2_ n3_; clear hb hbox hg; have hcz9_0 : w8.cell? ⟨gb198, 0, none⟩ = some (.string a0_0) := (blk_cell BK198.out 0).trans rfl; have hcz9_1 : w8.cell? ⟨gb198, 1, none⟩ = some (.int .i64 a0_1) := (blk_cell BK198.out 1).trans rfl; have hcz9_2 : w8.cell? ⟨gb198, 2, none⟩ = some (.int .i64 a0_2) := (blk_cell BK198.out 2).trans rfl; have hcz9_3 : w8.cell? ⟨gb198, 3, none⟩ = some (.string a0_3) := (blk_cell BK198.out 3).trans rfl; have hfz9_0 := blk_frozen BK198.out 0; have hfz9_1 := blk_frozen BK198.out 1; have hfz9_2 := blk_frozen BK198.out 2; have hfz9_3 := blk_frozen BK198.out 3) | ((with_reducible refine gate_callee (f := 61) rfl ?_); refine goesL_ (some 5) rfl rfl Try.func61 (by kernel_rfl) rfl #[.string a0_0] rfl ga_ ?_; (with_reducible refine (subst_Var.calls k a0_0 false _ A2.out).mono ?_); rintro e w' ⟨rfl, ⟨nd, rfl⟩⟩; refine ⟨_, rfl, ?_⟩))
    go_ret
    exact ⟨by first | rfl | (simp [errW_none, errW_some] <;> rfl) | (simp [*, errW_none, errW_some] <;> rfl), by repeat (first | (with_reducible first | exact HB.out | apply below_alloc | apply pw_below_drewN | apply below_drew1 | refine below_set ?_ GE198.out) | exact HB.out)⟩
end Go.Proofs.Ytaopajmpifenoaa.P
end
section
namespace Go.Proofs.Ytaopajmpifenoaa.P
open Go.RowKit Go.Proofs.YtaopajmpifenoaaW.PrintWords Go.Proofs.YtaopajmpifenoaaW.PrintLast Go.Proofs.YtaopajmpifenoaaW.PrintMore
attribute [local go_sem] max2_int min2_int max_two min_two max_three min_three max_four min_four
set_option linter.unusedVariables false
set_option linter.unusedSimpArgs false
def subst_Check.l0 : Nat → List (S54) → List (S54) → Int → Int → Option (Int)
  | 0, _, _, _, _ => none
  | k + 1, x0, x8, x9, x10 => if x10 < x9 then (if 0 ≤ x10 then (if x10 < (x8.length : Int) then ((subst_right.f k ((rd_T54 x8 x10).f0) ((rd_T54 x8 x10).f1.f0) ((rd_T54 x8 x10).f1.f1) ((rd_T54 x8 x10).f1.f2)).bind fun t203 => (if t203 = true then (if x10 > 0 then (if 0 ≤ (wrap64 (x10 - 1)) then (if (wrap64 (x10 - 1)) < (x0.length : Int) then (if ((Op.bytesLess (((rd_T54 x0 (wrap64 (x10 - 1))).f0).toList) (((rd_T54 x8 x10).f0).toList)) = true) then (subst_Check.l0 k x0 x8 x9 (wrap64 (x10 + 1))) else (some 1)) else (none)) else (none)) else (subst_Check.l0 k x0 x8 x9 (wrap64 (x10 + 1)))) else (some 1))) else (none)) else (none)) else (some 0)
def subst_Check.f (k : Nat) (l0 : List (S54)) : Option (Int) := if (l0.length : Int) > 100 then (some 1) else (subst_Check.l0 k l0 l0 (l0.length : Int) 0)
theorem subst_Check.mono_l : ∀ k, (∀ y0 y1 y2 y3, LeO (subst_Check.l0 k y0 y1 y2 y3) (subst_Check.l0 (k + 1) y0 y1 y2 y3))
  | 0 => fun _ _ _ _ r h => by simp [subst_Check.l0] at h
  | k + 1 => by
    have ih0 := subst_Check.mono_l k
    · intro y0 y1 y2 y3
      unfold subst_Check.l0
      repeat' first
      | (with_reducible exact ih0 _ _ _ _)
      | (with_reducible exact subst_right.mono _ _ _ _ _)
      | (with_reducible exact LeO.refl _)
      | (with_reducible exact LeO.none _)
      | (with_reducible refine LeO.ite ?_ ?_)
      | (with_reducible refine LeO.bind ?_ (fun _ => ?_))
      | exact ih0 _ _ _ _
      | exact subst_right.mono _ _ _ _ _
      | exact LeO.none _
      | refine LeO.ite ?_ ?_
      | refine LeO.bind ?_ (fun _ => ?_)
theorem subst_Check.mono : ∀ a0 k, LeO (subst_Check.f k a0) (subst_Check.f (k + 1) a0) := by
  intro a0 k
  have ih0 := subst_Check.mono_l k
  unfold subst_Check.f
  repeat' first
      | (with_reducible exact ih0 _ _ _ _)
      | (with_reducible exact subst_right.mono _ _ _ _ _)
      | (with_reducible exact LeO.refl _)
      | (with_reducible exact LeO.none _)
      | (with_reducible refine LeO.ite ?_ ?_)
      | (with_reducible refine LeO.bind ?_ (fun _ => ?_))
      | exact ih0 _ _ _ _
      | exact subst_right.mono _ _ _ _ _
      | exact LeO.none _
      | refine LeO.ite ?_ ?_
      | refine LeO.bind ?_ (fun _ => ?_)
def subst_Check.T6 : Bool × List (List Nat × List Nat) := (true, [([], []), ([0], [0]), ([1], [1]), ([2, 1], [2]), ([3], [3]), ([4, 3], [3, 4]), ([5, 3, 3], [3, 5]), ([6], [6]), ([6], [6]), ([8, 6], [6, 8]), ([7, 9, 6], [6, 7, 9]), ([10, 6], [6, 10]), ([11, 6], [6, 11]), ([6], [6]), ([13, 6], [6, 13]), ([12, 14, 6], [6, 12, 14]), ([6, 15, 3], [3, 6, 15]), ([3, 16], [3, 16])])
def subst_Check.B6 : List Nat := [0, 1, 3, 7, 15, 31, 63, 127, 127, 383, 1023, 2047, 4095, 127, 8319, 32767, 65535, 131071]
theorem subst_Check.tab6 : rtab .any (opsOf Try.f37 6) = subst_Check.T6 := by kernel_rfl
theorem subst_Check.bits6 : waitsOk subst_Check.T6.2 subst_Check.B6 = true := by kernel_rfl
set_option maxHeartbeats 8000000 in
set_option maxRecDepth 100000 in
theorem subst_Check.calls (k : Nat) (A0 : Option Addr) (c0 : Nat) (l0 : List (S54)) (r : Int) (w : World) (hr0 : Kd.C k54 w A0 l0.length l0) (hc0 : l0.length ≤ c0) (h : subst_Check.f k l0 = some r) :
    Calls Try.prog 37 #[.slice A0 l0.length c0] w fun e w' => e = .returned (.int .i64 r) ∧ Below w.heap.size w w' := by
  have hu54 := Try.underlying54
  have HR0 := Aside0.mk hr0
  have HC0 := Aside0.mk hc0
  clear hr0 hc0
  have HB := Aside0.mk (Below.refl w.heap.size w)
  have H : (if (l0.length : Int) > 100 then (some 1) else (subst_Check.l0 k l0 l0 (l0.length : Int) 0)) = some r := h
  clear h
  by_cases c2 : (l0.length : Int) > 100
  · rw [if_pos c2] at H
    have c2b0 : decide (100 < (l0.length : Int)) = true := decide_eq_true c2
    have c2b1 : decide (100 < l0.length) = true := decide_eq_true (by omega)
    clear c2
    obtain rfl := Option.some.inj H
    go_enter Try.func37, Try.ntmps37
    go_wp2
    go_ret
    exact ⟨by first | rfl | (simp [errW_none, errW_some] <;> rfl) | (simp [*, errW_none, errW_some] <;> rfl), by repeat (first | (with_reducible first | exact HB.out | apply below_alloc | apply pw_below_drewN | apply below_drew1) | exact HB.out)⟩
  · rw [if_neg c2] at H
    have c2b0 : decide (100 < (l0.length : Int)) = false := decide_eq_false c2
    have c2b1 : decide (100 < l0.length) = false := decide_eq_false (by omega)
    clear c2
    have H' := Aside0.mk H
    clear H
    go_enter Try.func37, Try.ntmps37
    go_wp2
    go_loopg [10] k (fun kq v10 w' => ∃ (x10_1 : Int), v10 = .int .i64 x10_1 ∧ Aside0 (subst_Check.l0 kq l0 l0 (l0.length : Int) x10_1 = some r) ∧ Aside0 (kq ≤ k) ∧ Aside0 (Below w.heap.size w w'))
    case atStart => exact ⟨(0), ra_, H', ⟨Nat.le_refl _⟩, ⟨by repeat (first | (with_reducible first | exact HB.out | apply below_alloc | apply pw_below_drewN | apply below_drew1) | exact HB.out)⟩⟩
    case round =>
      clear H'
      try clear c2
      try clear c2b0
      try clear c2b1
      try clear p2
      obtain ⟨x10_1, rfl, HA, HK1, HB⟩ := hrel
      cases gk with
      | zero => exact absurd HA.out (by simp [subst_Check.l0])
      | succ k1 =>
        have H := HA.out
        clear HA
        simp only [subst_Check.l0] at H
        by_cases c3 : x10_1 < (l0.length : Int)
        · rw [if_pos c3] at H
          have c3b0 : decide (x10_1 < (l0.length : Int)) = true := decide_eq_true c3
          clear c3
          by_cases c4 : 0 ≤ x10_1
          · rw [if_pos c4] at H
            have c4b0 : decide (0 ≤ x10_1) = true := decide_eq_true c4
            clear c4
            by_cases c5 : x10_1 < (l0.length : Int)
            · rw [if_pos c5] at H
              have c5b0 : decide (x10_1 < (l0.length : Int)) = true := decide_eq_true c5
              clear c5
              replace H := Option.bind_eq_some_iff.mp H
              obtain ⟨t203, A60, H⟩ := H
              replace H : (if t203 = true then (if x10_1 > 0 then (if 0 ≤ (wrap64 (x10_1 - 1)) then (if (wrap64 (x10_1 - 1)) < (l0.length : Int) then (if ((Op.bytesLess (((rd_T54 l0 (wrap64 (x10_1 - 1))).f0).toList) (((rd_T54 l0 x10_1).f0).toList)) = true) then (subst_Check.l0 k1 l0 l0 (l0.length : Int) (wrap64 (x10_1 + 1))) else (some 1)) else (none)) else (none)) else (subst_Check.l0 k1 l0 l0 (l0.length : Int) (wrap64 (x10_1 + 1)))) else (some 1)) = some r := H
              have A6 := Aside0.mk A60
              clear A60
              by_cases c7 : t203 = true
              · subst c7
                have H1 : (if x10_1 > 0 then (if 0 ≤ (wrap64 (x10_1 - 1)) then (if (wrap64 (x10_1 - 1)) < (l0.length : Int) then (if ((Op.bytesLess (((rd_T54 l0 (wrap64 (x10_1 - 1))).f0).toList) (((rd_T54 l0 x10_1).f0).toList)) = true) then (subst_Check.l0 k1 l0 l0 (l0.length : Int) (wrap64 (x10_1 + 1))) else (some 1)) else (none)) else (none)) else (subst_Check.l0 k1 l0 l0 (l0.length : Int) (wrap64 (x10_1 + 1)))) = some r := by rw [if_pos rfl] at H; exact H
                clear H
                have H := H1
                clear H1
                by_cases c8 : x10_1 > 0
                · rw [if_pos c8] at H
                  have c8b0 : decide (0 < x10_1) = true := decide_eq_true c8
                  clear c8
                  obtain ⟨ji9, hji9⟩ : ∃ j_ : Int, (wrap64 (x10_1 - 1)) = j_ := ⟨_, rfl⟩
                  replace H : (if 0 ≤ (ji9) then (if (ji9) < (l0.length : Int) then (if ((Op.bytesLess (((rd_T54 l0 (ji9)).f0).toList) (((rd_T54 l0 x10_1).f0).toList)) = true) then (subst_Check.l0 k1 l0 l0 (l0.length : Int) (wrap64 (x10_1 + 1))) else (some 1)) else (none)) else (none)) = some r := by first | (rw [hji9] at H; exact H) | (simp only [hji9] at H ⊢; exact H)
                  (try rw [hji9] at A6)
                  have hji9w : (IntKind.i64.wrap (x10_1 - 1)) = ji9 := (i64_w _).trans hji9
                  by_cases c10 : 0 ≤ (ji9)
                  · rw [if_pos c10] at H
                    have c10b0 : decide (0 ≤ (ji9)) = true := decide_eq_true c10
                    clear c10
                    by_cases c11 : (ji9) < (l0.length : Int)
                    · rw [if_pos c11] at H
                      have c11b0 : decide ((ji9) < (l0.length : Int)) = true := decide_eq_true c11
                      clear c11
                      by_cases c12 : ((Op.bytesLess (((rd_T54 l0 (ji9)).f0).toList) (((rd_T54 l0 x10_1).f0).toList)) = true)
                      · rw [if_pos c12] at H
                        have c12b0 : (Op.bytesLess (((rd_T54 l0 (ji9)).f0).toList) (((rd_T54 l0 x10_1).f0).toList)) = true := c12
                        clear c12
                        have H' := Aside0.mk H
                        clear H
                        have p201 : 0 ≤ (x10_1 : Int) := dt_
                        have q201 : x10_1 < (l0.length : Int) := dt_
                        obtain ⟨ad201, e201, hx201_0, hx201_1, hx201_2, hx201_3⟩ := at_T54 HR0.out x10_1 p201 q201
                        cases e201
                        replace hx201_0 := cm_ HB hx201_0
                        replace hx201_1 := cm_ HB hx201_1
                        replace hx201_2 := cm_ HB hx201_2
                        replace hx201_3 := cm_ HB hx201_3
                        replace p201 := eq_true p201
                        replace q201 := eq_true q201
                        try go_wp2_with (first | ((with_reducible refine gate_dst (N := 4) rfl ?_); refine box_event ?hg (N := 4) ?hd (cs := #[.string (⟨#[]⟩ : ByteArray), .int .i64 0, .int .i64 0, .string (⟨#[]⟩ : ByteArray)]) (t := 54) ?hr ?_; (case hd => rfl); (case hg => rfl); (case hr => first | (go_simp; done) | (go_simp; rfl)); intro gb202 hg w13 hbox hb; have n0_ := bs_ (be_ HB) hb; have n1_ := Aside0.mk (hbox); have n2_ := gs_ hg (be_ HB); have n3_ := gs_ hg (be_ HB); clear HB; have HB := n0_; have BK202 := n1_; have GW202 := n2_; have GE202 := n3_; clear n0_ n1_ n2_ n3_; clear hb hbox hg; have hcz14_0 : w13.cell? ⟨gb202, 0, none⟩ = some (.string (⟨#[]⟩ : ByteArray)) := (blk_cell BK202.out 0).trans rfl; have hcz14_1 : w13.cell? ⟨gb202, 1, none⟩ = some (.int .i64 0) := (blk_cell BK202.out 1).trans rfl; have hcz14_2 : w13.cell? ⟨gb202, 2, none⟩ = some (.int .i64 0) := (blk_cell BK202.out 2).trans rfl; have hcz14_3 : w13.cell? ⟨gb202, 3, none⟩ = some (.string (⟨#[]⟩ : ByteArray)) := (blk_cell BK202.out 3).trans rfl; have hfz14_0 := blk_frozen BK202.out 0; have hfz14_1 := blk_frozen BK202.out 1; have hfz14_2 := blk_frozen BK202.out 2; have hfz14_3 := blk_frozen BK202.out 3))
                        have n0_ : Aside0 (((((w13.setCell ⟨gb202, 0, none⟩ (.string ((rd_T54 l0 x10_1).f0))).setCell ⟨gb202, 1, none⟩ (.int .i64 ((rd_T54 l0 x10_1).f1.f0))).setCell ⟨gb202, 2, none⟩ (.int .i64 ((rd_T54 l0 x10_1).f1.f1))).setCell ⟨gb202, 3, none⟩ (.string ((rd_T54 l0 x10_1).f1.f2))).heap[gb202]? = some (.cells #[.string ((rd_T54 l0 x10_1).f0), .int .i64 ((rd_T54 l0 x10_1).f1.f0), .int .i64 ((rd_T54 l0 x10_1).f1.f1), .string ((rd_T54 l0 x10_1).f1.f2)] 54 (0, 0))) := ⟨by (with_reducible repeat (first | refine blk_drewN ?_ _ | refine blk_drew ?_ | refine blk_alloc ?_ _)); refine blk_put (cs := #[.string ((rd_T54 l0 x10_1).f0), .int .i64 ((rd_T54 l0 x10_1).f1.f0), .int .i64 ((rd_T54 l0 x10_1).f1.f1), .string (⟨#[]⟩ : ByteArray)]) ?_ 3 _ rfl; (with_reducible repeat (first | refine blk_drewN ?_ _ | refine blk_drew ?_ | refine blk_alloc ?_ _)); refine blk_put (cs := #[.string ((rd_T54 l0 x10_1).f0), .int .i64 ((rd_T54 l0 x10_1).f1.f0), .int .i64 0, .string (⟨#[]⟩ : ByteArray)]) ?_ 2 _ rfl; (with_reducible repeat (first | refine blk_drewN ?_ _ | refine blk_drew ?_ | refine blk_alloc ?_ _)); refine blk_put (cs := #[.string ((rd_T54 l0 x10_1).f0), .int .i64 0, .int .i64 0, .string (⟨#[]⟩ : ByteArray)]) ?_ 1 _ rfl; (with_reducible repeat (first | refine blk_drewN ?_ _ | refine blk_drew ?_ | refine blk_alloc ?_ _)); refine blk_put (cs := #[.string (⟨#[]⟩ : ByteArray), .int .i64 0, .int .i64 0, .string (⟨#[]⟩ : ByteArray)]) ?_ 0 _ rfl; (with_reducible repeat (first | refine blk_drewN ?_ _ | refine blk_drew ?_ | refine blk_alloc ?_ _)); exact BK202.out⟩
                        have n1_ : Aside0 (Below w.heap.size w ((((w13.setCell ⟨gb202, 0, none⟩ (.string ((rd_T54 l0 x10_1).f0))).setCell ⟨gb202, 1, none⟩ (.int .i64 ((rd_T54 l0 x10_1).f1.f0))).setCell ⟨gb202, 2, none⟩ (.int .i64 ((rd_T54 l0 x10_1).f1.f1))).setCell ⟨gb202, 3, none⟩ (.string ((rd_T54 l0 x10_1).f1.f2)))) := ⟨by repeat (first | (with_reducible first | exact HB.out | apply below_alloc | apply pw_below_drewN | apply below_drew1 | refine below_set ?_ GE202.out) | exact HB.out)⟩
                        (try clear BK202)
                        (try clear HB)
                        generalize ((((w13.setCell ⟨gb202, 0, none⟩ (.string ((rd_T54 l0 x10_1).f0))).setCell ⟨gb202, 1, none⟩ (.int .i64 ((rd_T54 l0 x10_1).f1.f0))).setCell ⟨gb202, 2, none⟩ (.int .i64 ((rd_T54 l0 x10_1).f1.f1))).setCell ⟨gb202, 3, none⟩ (.string ((rd_T54 l0 x10_1).f1.f2))) = w15 at n0_ n1_ ⊢
                        have BK202 := n0_
                        have HB := n1_
                        clear n0_ n1_
                        have n0_ := Aside0.mk (blk_drew BK202.out)
                        have n1_ := Aside0.mk (below_drew1 HB.out)
                        clear BK202
                        clear HB
                        have BK202 := n0_
                        have HB := n1_
                        clear n0_ n1_
                        have p204 : 0 ≤ ((ji9) : Int) := dt_
                        have q204 : (ji9) < (l0.length : Int) := dt_
                        obtain ⟨ad204, e204, hx204_0, hx204_1, hx204_2, hx204_3⟩ := at_T54 HR0.out (ji9) p204 q204
                        have hw204_3 := hx204_3
                        have hw204_2 := hx204_2
                        have hw204_1 := hx204_1
                        have hw204_0 := hx204_0
                        obtain rfl : ad201 = ad204 := (by injection e204)
                        replace hx204_0 := cm_ HB hx204_0
                        replace hx204_1 := cm_ HB hx204_1
                        replace hx204_2 := cm_ HB hx204_2
                        replace hx204_3 := cm_ HB hx204_3
                        replace p204 := eq_true p204
                        replace q204 := eq_true q204
                        refine start_ (n := 18) (S := fun w' => w'.cell? ⟨gb202, 0, none⟩ = some (.string ((rd_T54 l0 x10_1).f0)) ∧ w'.cell? ⟨gb202, 1, none⟩ = some (.int .i64 ((rd_T54 l0 x10_1).f1.f0)) ∧ w'.cell? ⟨gb202, 2, none⟩ = some (.int .i64 ((rd_T54 l0 x10_1).f1.f1)) ∧ w'.cell? ⟨gb202, 3, none⟩ = some (.string ((rd_T54 l0 x10_1).f1.f2)) ∧ w'.cell? (ad201.add (((ji9)).toNat * 4)) = some (.string ((rd_T54 l0 (ji9)).f0)) ∧ w'.cell? ⟨(ad201.add (((ji9)).toNat * 4)).block, (ad201.add (((ji9)).toNat * 4)).off + 1, none⟩ = some (.int .i64 ((rd_T54 l0 (ji9)).f1.f0)) ∧ w'.cell? ⟨(ad201.add (((ji9)).toNat * 4)).block, (ad201.add (((ji9)).toNat * 4)).off + 2, none⟩ = some (.int .i64 ((rd_T54 l0 (ji9)).f1.f1)) ∧ w'.cell? ⟨(ad201.add (((ji9)).toNat * 4)).block, (ad201.add (((ji9)).toNat * 4)).off + 3, none⟩ = some (.string ((rd_T54 l0 (ji9)).f1.f2))) (ds := []) (mk_ 18 0) (by kernel_rfl) rfl rfl ⟨(blk_cell BK202.out 0).trans rfl, (blk_cell BK202.out 1).trans rfl, (blk_cell BK202.out 2).trans rfl, (blk_cell BK202.out 3).trans rfl, (cl_ HB hw204_0), (cl_ HB hw204_1), (cl_ HB hw204_2), (cl_ HB hw204_3)⟩ (fun hHeld => ?_); refine with_tabW subst_Check.tab6 subst_Check.bits6 (fun HT_ HW_ => ?_)
                        generalize w15.drew = w16 at BK202 HB hx204_0 hx204_1 hx204_2 hx204_3 hHeld ⊢
                        refine tk_ 0 15 1 HT_ HW_ hHeld ?_
                        refine one_ (i := 1) (N := some 16) (mk_ 18 3) rfl rfl (one_of HT_.out (by kernel_rfl)) (by decide) (fun K hK => ?_)
                        refine goes_ Try.func53 (by kernel_rfl) rfl #[.agg #[.string ((rd_T54 l0 x10_1).f0), .int .i64 ((rd_T54 l0 x10_1).f1.f0), .int .i64 ((rd_T54 l0 x10_1).f1.f1), .string ((rd_T54 l0 x10_1).f1.f2)]] (by rfl) rfl rfl ga_ ?_
                        with_reducible refine (subst_right.calls k1 ((rd_T54 l0 x10_1).f0) ((rd_T54 l0 x10_1).f1.f0) ((rd_T54 l0 x10_1).f1.f1) ((rd_T54 l0 x10_1).f1.f2) true _ A6.out).mono ?_
                        rintro e w17 ⟨rfl, hb⟩
                        refine ⟨_, rfl, ?_⟩
                        have n0_ := bb_ (bu_ BK202) hb
                        have n1_ := bs_ (be_ HB) hb
                        clear BK202
                        clear HB
                        have BK202 := n0_
                        have HB := n1_
                        clear n0_ n1_
                        (try clear hb)
                        (try clear hb2)
                        (try clear hk)
                        (try clear hi)
                        refine hK.out _ _ ⟨(blk_cell BK202.out 0).trans rfl, (blk_cell BK202.out 1).trans rfl, (blk_cell BK202.out 2).trans rfl, (blk_cell BK202.out 3).trans rfl, (cl_ HB hw204_0), (cl_ HB hw204_1), (cl_ HB hw204_2), (cl_ HB hw204_3)⟩ (fun hHeld => ?_)
                        clear hK K
                        refine nm_ 16 ?_; refine pu_ 2 17 7 HT_ ?_; refine pu_ 3 18 15 HT_ ?_; refine pu_ 4 19 31 HT_ ?_; refine pu_ 5 20 63 HT_ ?_; refine pu_ 6 21 127 HT_ ?_; refine pu_ 7 22 255 HT_ ?_; refine pu_ 8 23 511 HT_ ?_; refine pu_ 9 24 1023 HT_ ?_; refine pu_ 10 25 2047 HT_ ?_; refine pu_ 11 26 4095 HT_ ?_; refine pu_ 13 28 12287 HT_ ?_; refine tk_ 12 27 16383 HT_ HW_ hHeld ?_; refine tk_ 14 29 32767 HT_ HW_ hHeld ?_; refine pu_ 15 30 65535 HT_ ?_; refine pu_ 16 31 131071 HT_ ?_; refine pu_ 17 32 262143 HT_ ?_
                        refine done_ (done_of HT_.out (by kernel_rfl)) ?_
                        try go_wp2
                        go_roundg k1
                        case measure => have := HK1.out; omega
                        case rel => exact ⟨(wrap64 (x10_1 + 1)), ra_, H', ⟨by have := HK1.out; omega⟩, ⟨by repeat (first | (with_reducible first | exact HB.out | apply below_alloc | apply pw_below_drewN | apply below_drew1 | refine below_set ?_ GE202.out) | exact HB.out)⟩⟩
                      · rw [if_neg c12] at H
                        have c12b0 : (Op.bytesLess (((rd_T54 l0 (ji9)).f0).toList) (((rd_T54 l0 x10_1).f0).toList)) = false := by simpa using c12
                        clear c12
                        obtain rfl := Option.some.inj H
                        have p201 : 0 ≤ (x10_1 : Int) := dt_
                        have q201 : x10_1 < (l0.length : Int) := dt_
                        obtain ⟨ad201, e201, hx201_0, hx201_1, hx201_2, hx201_3⟩ := at_T54 HR0.out x10_1 p201 q201
                        cases e201
                        replace hx201_0 := cm_ HB hx201_0
                        replace hx201_1 := cm_ HB hx201_1
                        replace hx201_2 := cm_ HB hx201_2
                        replace hx201_3 := cm_ HB hx201_3
                        replace p201 := eq_true p201
                        replace q201 := eq_true q201
                        try go_wp2_with (first | ((with_reducible refine gate_dst (N := 4) rfl ?_); refine box_event ?hg (N := 4) ?hd (cs := #[.string (⟨#[]⟩ : ByteArray), .int .i64 0, .int .i64 0, .string (⟨#[]⟩ : ByteArray)]) (t := 54) ?hr ?_; (case hd => rfl); (case hg => rfl); (case hr => first | (go_simp; done) | (go_simp; rfl)); intro gb202 hg w18 hbox hb; have n0_ := bs_ (be_ HB) hb; have n1_ := Aside0.mk (hbox); have n2_ := gs_ hg (be_ HB); have n3_ := gs_ hg (be_ HB); clear HB; have HB := n0_; have BK202 := n1_; have GW202 := n2_; have GE202 := n3_; clear n0_ n1_ n2_ n3_; clear hb hbox hg; have hcz19_0 : w18.cell? ⟨gb202, 0, none⟩ = some (.string (⟨#[]⟩ : ByteArray)) := (blk_cell BK202.out 0).trans rfl; have hcz19_1 : w18.cell? ⟨gb202, 1, none⟩ = some (.int .i64 0) := (blk_cell BK202.out 1).trans rfl; have hcz19_2 : w18.cell? ⟨gb202, 2, none⟩ = some (.int .i64 0) := (blk_cell BK202.out 2).trans rfl; have hcz19_3 : w18.cell? ⟨gb202, 3, none⟩ = some (.string (⟨#[]⟩ : ByteArray)) := (blk_cell BK202.out 3).trans rfl; have hfz19_0 := blk_frozen BK202.out 0; have hfz19_1 := blk_frozen BK202.out 1; have hfz19_2 := blk_frozen BK202.out 2; have hfz19_3 := blk_frozen BK202.out 3))
                        have n0_ : Aside0 (((((w18.setCell ⟨gb202, 0, none⟩ (.string ((rd_T54 l0 x10_1).f0))).setCell ⟨gb202, 1, none⟩ (.int .i64 ((rd_T54 l0 x10_1).f1.f0))).setCell ⟨gb202, 2, none⟩ (.int .i64 ((rd_T54 l0 x10_1).f1.f1))).setCell ⟨gb202, 3, none⟩ (.string ((rd_T54 l0 x10_1).f1.f2))).heap[gb202]? = some (.cells #[.string ((rd_T54 l0 x10_1).f0), .int .i64 ((rd_T54 l0 x10_1).f1.f0), .int .i64 ((rd_T54 l0 x10_1).f1.f1), .string ((rd_T54 l0 x10_1).f1.f2)] 54 (0, 0))) := ⟨by (with_reducible repeat (first | refine blk_drewN ?_ _ | refine blk_drew ?_ | refine blk_alloc ?_ _)); refine blk_put (cs := #[.string ((rd_T54 l0 x10_1).f0), .int .i64 ((rd_T54 l0 x10_1).f1.f0), .int .i64 ((rd_T54 l0 x10_1).f1.f1), .string (⟨#[]⟩ : ByteArray)]) ?_ 3 _ rfl; (with_reducible repeat (first | refine blk_drewN ?_ _ | refine blk_drew ?_ | refine blk_alloc ?_ _)); refine blk_put (cs := #[.string ((rd_T54 l0 x10_1).f0), .int .i64 ((rd_T54 l0 x10_1).f1.f0), .int .i64 0, .string (⟨#[]⟩ : ByteArray)]) ?_ 2 _ rfl; (with_reducible repeat (first | refine blk_drewN ?_ _ | refine blk_drew ?_ | refine blk_alloc ?_ _)); refine blk_put (cs := #[.string ((rd_T54 l0 x10_1).f0), .int .i64 0, .int .i64 0, .string (⟨#[]⟩ : ByteArray)]) ?_ 1 _ rfl; (with_reducible repeat (first | refine blk_drewN ?_ _ | refine blk_drew ?_ | refine blk_alloc ?_ _)); refine blk_put (cs := #[.string (⟨#[]⟩ : ByteArray), .int .i64 0, .int .i64 0, .string (⟨#[]⟩ : ByteArray)]) ?_ 0 _ rfl; (with_reducible repeat (first | refine blk_drewN ?_ _ | refine blk_drew ?_ | refine blk_alloc ?_ _)); exact BK202.out⟩
                        have n1_ : Aside0 (Below w.heap.size w ((((w18.setCell ⟨gb202, 0, none⟩ (.string ((rd_T54 l0 x10_1).f0))).setCell ⟨gb202, 1, none⟩ (.int .i64 ((rd_T54 l0 x10_1).f1.f0))).setCell ⟨gb202, 2, none⟩ (.int .i64 ((rd_T54 l0 x10_1).f1.f1))).setCell ⟨gb202, 3, none⟩ (.string ((rd_T54 l0 x10_1).f1.f2)))) := ⟨by repeat (first | (with_reducible first | exact HB.out | apply below_alloc | apply pw_below_drewN | apply below_drew1 | refine below_set ?_ GE202.out) | exact HB.out)⟩
                        (try clear BK202)
                        (try clear HB)
                        generalize ((((w18.setCell ⟨gb202, 0, none⟩ (.string ((rd_T54 l0 x10_1).f0))).setCell ⟨gb202, 1, none⟩ (.int .i64 ((rd_T54 l0 x10_1).f1.f0))).setCell ⟨gb202, 2, none⟩ (.int .i64 ((rd_T54 l0 x10_1).f1.f1))).setCell ⟨gb202, 3, none⟩ (.string ((rd_T54 l0 x10_1).f1.f2))) = w20 at n0_ n1_ ⊢
                        have BK202 := n0_
                        have HB := n1_
                        clear n0_ n1_
                        have n0_ := Aside0.mk (blk_drew BK202.out)
                        have n1_ := Aside0.mk (below_drew1 HB.out)
                        clear BK202
                        clear HB
                        have BK202 := n0_
                        have HB := n1_
                        clear n0_ n1_
                        have p204 : 0 ≤ ((ji9) : Int) := dt_
                        have q204 : (ji9) < (l0.length : Int) := dt_
                        obtain ⟨ad204, e204, hx204_0, hx204_1, hx204_2, hx204_3⟩ := at_T54 HR0.out (ji9) p204 q204
                        have hw204_3 := hx204_3
                        have hw204_2 := hx204_2
                        have hw204_1 := hx204_1
                        have hw204_0 := hx204_0
                        obtain rfl : ad201 = ad204 := (by injection e204)
                        replace hx204_0 := cm_ HB hx204_0
                        replace hx204_1 := cm_ HB hx204_1
                        replace hx204_2 := cm_ HB hx204_2
                        replace hx204_3 := cm_ HB hx204_3
                        replace p204 := eq_true p204
                        replace q204 := eq_true q204
                        refine start_ (n := 18) (S := fun w' => w'.cell? ⟨gb202, 0, none⟩ = some (.string ((rd_T54 l0 x10_1).f0)) ∧ w'.cell? ⟨gb202, 1, none⟩ = some (.int .i64 ((rd_T54 l0 x10_1).f1.f0)) ∧ w'.cell? ⟨gb202, 2, none⟩ = some (.int .i64 ((rd_T54 l0 x10_1).f1.f1)) ∧ w'.cell? ⟨gb202, 3, none⟩ = some (.string ((rd_T54 l0 x10_1).f1.f2)) ∧ w'.cell? (ad201.add (((ji9)).toNat * 4)) = some (.string ((rd_T54 l0 (ji9)).f0)) ∧ w'.cell? ⟨(ad201.add (((ji9)).toNat * 4)).block, (ad201.add (((ji9)).toNat * 4)).off + 1, none⟩ = some (.int .i64 ((rd_T54 l0 (ji9)).f1.f0)) ∧ w'.cell? ⟨(ad201.add (((ji9)).toNat * 4)).block, (ad201.add (((ji9)).toNat * 4)).off + 2, none⟩ = some (.int .i64 ((rd_T54 l0 (ji9)).f1.f1)) ∧ w'.cell? ⟨(ad201.add (((ji9)).toNat * 4)).block, (ad201.add (((ji9)).toNat * 4)).off + 3, none⟩ = some (.string ((rd_T54 l0 (ji9)).f1.f2))) (ds := []) (mk_ 18 0) (by kernel_rfl) rfl rfl ⟨(blk_cell BK202.out 0).trans rfl, (blk_cell BK202.out 1).trans rfl, (blk_cell BK202.out 2).trans rfl, (blk_cell BK202.out 3).trans rfl, (cl_ HB hw204_0), (cl_ HB hw204_1), (cl_ HB hw204_2), (cl_ HB hw204_3)⟩ (fun hHeld => ?_); refine with_tabW subst_Check.tab6 subst_Check.bits6 (fun HT_ HW_ => ?_)
                        generalize w20.drew = w21 at BK202 HB hx204_0 hx204_1 hx204_2 hx204_3 hHeld ⊢
                        refine tk_ 0 15 1 HT_ HW_ hHeld ?_
                        refine one_ (i := 1) (N := some 16) (mk_ 18 3) rfl rfl (one_of HT_.out (by kernel_rfl)) (by decide) (fun K hK => ?_)
                        refine goes_ Try.func53 (by kernel_rfl) rfl #[.agg #[.string ((rd_T54 l0 x10_1).f0), .int .i64 ((rd_T54 l0 x10_1).f1.f0), .int .i64 ((rd_T54 l0 x10_1).f1.f1), .string ((rd_T54 l0 x10_1).f1.f2)]] (by rfl) rfl rfl ga_ ?_
                        with_reducible refine (subst_right.calls k1 ((rd_T54 l0 x10_1).f0) ((rd_T54 l0 x10_1).f1.f0) ((rd_T54 l0 x10_1).f1.f1) ((rd_T54 l0 x10_1).f1.f2) true _ A6.out).mono ?_
                        rintro e w22 ⟨rfl, hb⟩
                        refine ⟨_, rfl, ?_⟩
                        have n0_ := bb_ (bu_ BK202) hb
                        have n1_ := bs_ (be_ HB) hb
                        clear BK202
                        clear HB
                        have BK202 := n0_
                        have HB := n1_
                        clear n0_ n1_
                        (try clear hb)
                        (try clear hb2)
                        (try clear hk)
                        (try clear hi)
                        refine hK.out _ _ ⟨(blk_cell BK202.out 0).trans rfl, (blk_cell BK202.out 1).trans rfl, (blk_cell BK202.out 2).trans rfl, (blk_cell BK202.out 3).trans rfl, (cl_ HB hw204_0), (cl_ HB hw204_1), (cl_ HB hw204_2), (cl_ HB hw204_3)⟩ (fun hHeld => ?_)
                        clear hK K
                        refine nm_ 16 ?_; refine pu_ 2 17 7 HT_ ?_; refine pu_ 3 18 15 HT_ ?_; refine pu_ 4 19 31 HT_ ?_; refine pu_ 5 20 63 HT_ ?_; refine pu_ 6 21 127 HT_ ?_; refine pu_ 7 22 255 HT_ ?_; refine pu_ 8 23 511 HT_ ?_; refine pu_ 9 24 1023 HT_ ?_; refine pu_ 10 25 2047 HT_ ?_; refine pu_ 11 26 4095 HT_ ?_; refine pu_ 13 28 12287 HT_ ?_; refine tk_ 12 27 16383 HT_ HW_ hHeld ?_; refine tk_ 14 29 32767 HT_ HW_ hHeld ?_; refine pu_ 15 30 65535 HT_ ?_; refine pu_ 16 31 131071 HT_ ?_; refine pu_ 17 32 262143 HT_ ?_
                        refine done_ (done_of HT_.out (by kernel_rfl)) ?_
                        try go_wp2
                        go_ret
                        exact ⟨by first | rfl | (simp [errW_none, errW_some] <;> rfl) | (simp only [← hji9]; first | rfl | (simp [errW_none, errW_some] <;> rfl)) | (simp [*, errW_none, errW_some] <;> rfl), by repeat (first | (with_reducible first | exact HB.out | apply below_alloc | apply pw_below_drewN | apply below_drew1 | refine below_set ?_ GE202.out) | exact HB.out)⟩
                    · rw [if_neg c11] at H
                      exact absurd H (by simp)
                  · rw [if_neg c10] at H
                    exact absurd H (by simp)
                · rw [if_neg c8] at H
                  have c8b0 : decide (0 < x10_1) = false := decide_eq_false c8
                  clear c8
                  have H' := Aside0.mk H
                  clear H
                  have p201 : 0 ≤ (x10_1 : Int) := dt_
                  have q201 : x10_1 < (l0.length : Int) := dt_
                  obtain ⟨ad201, e201, hx201_0, hx201_1, hx201_2, hx201_3⟩ := at_T54 HR0.out x10_1 p201 q201
                  cases e201
                  replace hx201_0 := cm_ HB hx201_0
                  replace hx201_1 := cm_ HB hx201_1
                  replace hx201_2 := cm_ HB hx201_2
                  replace hx201_3 := cm_ HB hx201_3
                  replace p201 := eq_true p201
                  replace q201 := eq_true q201
                  try go_wp2_with (first | ((with_reducible refine gate_dst (N := 4) rfl ?_); refine box_event ?hg (N := 4) ?hd (cs := #[.string (⟨#[]⟩ : ByteArray), .int .i64 0, .int .i64 0, .string (⟨#[]⟩ : ByteArray)]) (t := 54) ?hr ?_; (case hd => rfl); (case hg => rfl); (case hr => first | (go_simp; done) | (go_simp; rfl)); intro gb202 hg w23 hbox hb; have n0_ := bs_ (be_ HB) hb; have n1_ := Aside0.mk (hbox); have n2_ := gs_ hg (be_ HB); have n3_ := gs_ hg (be_ HB); clear HB; have HB := n0_; have BK202 := n1_; have GW202 := n2_; have GE202 := n3_; clear n0_ n1_ n2_ n3_; clear hb hbox hg; have hcz24_0 : w23.cell? ⟨gb202, 0, none⟩ = some (.string (⟨#[]⟩ : ByteArray)) := (blk_cell BK202.out 0).trans rfl; have hcz24_1 : w23.cell? ⟨gb202, 1, none⟩ = some (.int .i64 0) := (blk_cell BK202.out 1).trans rfl; have hcz24_2 : w23.cell? ⟨gb202, 2, none⟩ = some (.int .i64 0) := (blk_cell BK202.out 2).trans rfl; have hcz24_3 : w23.cell? ⟨gb202, 3, none⟩ = some (.string (⟨#[]⟩ : ByteArray)) := (blk_cell BK202.out 3).trans rfl; have hfz24_0 := blk_frozen BK202.out 0; have hfz24_1 := blk_frozen BK202.out 1; have hfz24_2 := blk_frozen BK202.out 2; have hfz24_3 := blk_frozen BK202.out 3))
                  have n0_ : Aside0 (((((w23.setCell ⟨gb202, 0, none⟩ (.string ((rd_T54 l0 x10_1).f0))).setCell ⟨gb202, 1, none⟩ (.int .i64 ((rd_T54 l0 x10_1).f1.f0))).setCell ⟨gb202, 2, none⟩ (.int .i64 ((rd_T54 l0 x10_1).f1.f1))).setCell ⟨gb202, 3, none⟩ (.string ((rd_T54 l0 x10_1).f1.f2))).heap[gb202]? = some (.cells #[.string ((rd_T54 l0 x10_1).f0), .int .i64 ((rd_T54 l0 x10_1).f1.f0), .int .i64 ((rd_T54 l0 x10_1).f1.f1), .string ((rd_T54 l0 x10_1).f1.f2)] 54 (0, 0))) := ⟨by (with_reducible repeat (first | refine blk_drewN ?_ _ | refine blk_drew ?_ | refine blk_alloc ?_ _)); refine blk_put (cs := #[.string ((rd_T54 l0 x10_1).f0), .int .i64 ((rd_T54 l0 x10_1).f1.f0), .int .i64 ((rd_T54 l0 x10_1).f1.f1), .string (⟨#[]⟩ : ByteArray)]) ?_ 3 _ rfl; (with_reducible repeat (first | refine blk_drewN ?_ _ | refine blk_drew ?_ | refine blk_alloc ?_ _)); refine blk_put (cs := #[.string ((rd_T54 l0 x10_1).f0), .int .i64 ((rd_T54 l0 x10_1).f1.f0), .int .i64 0, .string (⟨#[]⟩ : ByteArray)]) ?_ 2 _ rfl; (with_reducible repeat (first | refine blk_drewN ?_ _ | refine blk_drew ?_ | refine blk_alloc ?_ _)); refine blk_put (cs := #[.string ((rd_T54 l0 x10_1).f0), .int .i64 0, .int .i64 0, .string (⟨#[]⟩ : ByteArray)]) ?_ 1 _ rfl; (with_reducible repeat (first | refine blk_drewN ?_ _ | refine blk_drew ?_ | refine blk_alloc ?_ _)); refine blk_put (cs := #[.string (⟨#[]⟩ : ByteArray), .int .i64 0, .int .i64 0, .string (⟨#[]⟩ : ByteArray)]) ?_ 0 _ rfl; (with_reducible repeat (first | refine blk_drewN ?_ _ | refine blk_drew ?_ | refine blk_alloc ?_ _)); exact BK202.out⟩
                  have n1_ : Aside0 (Below w.heap.size w ((((w23.setCell ⟨gb202, 0, none⟩ (.string ((rd_T54 l0 x10_1).f0))).setCell ⟨gb202, 1, none⟩ (.int .i64 ((rd_T54 l0 x10_1).f1.f0))).setCell ⟨gb202, 2, none⟩ (.int .i64 ((rd_T54 l0 x10_1).f1.f1))).setCell ⟨gb202, 3, none⟩ (.string ((rd_T54 l0 x10_1).f1.f2)))) := ⟨by repeat (first | (with_reducible first | exact HB.out | apply below_alloc | apply pw_below_drewN | apply below_drew1 | refine below_set ?_ GE202.out) | exact HB.out)⟩
                  (try clear BK202)
                  (try clear HB)
                  generalize ((((w23.setCell ⟨gb202, 0, none⟩ (.string ((rd_T54 l0 x10_1).f0))).setCell ⟨gb202, 1, none⟩ (.int .i64 ((rd_T54 l0 x10_1).f1.f0))).setCell ⟨gb202, 2, none⟩ (.int .i64 ((rd_T54 l0 x10_1).f1.f1))).setCell ⟨gb202, 3, none⟩ (.string ((rd_T54 l0 x10_1).f1.f2))) = w25 at n0_ n1_ ⊢
                  have BK202 := n0_
                  have HB := n1_
                  clear n0_ n1_
                  have n0_ := Aside0.mk (blk_drew BK202.out)
                  have n1_ := Aside0.mk (below_drew1 HB.out)
                  clear BK202
                  clear HB
                  have BK202 := n0_
                  have HB := n1_
                  clear n0_ n1_
                  refine start_ (n := 18) (S := fun w' => w'.cell? ⟨gb202, 0, none⟩ = some (.string ((rd_T54 l0 x10_1).f0)) ∧ w'.cell? ⟨gb202, 1, none⟩ = some (.int .i64 ((rd_T54 l0 x10_1).f1.f0)) ∧ w'.cell? ⟨gb202, 2, none⟩ = some (.int .i64 ((rd_T54 l0 x10_1).f1.f1)) ∧ w'.cell? ⟨gb202, 3, none⟩ = some (.string ((rd_T54 l0 x10_1).f1.f2))) (ds := []) (mk_ 18 0) (by kernel_rfl) rfl rfl ⟨(blk_cell BK202.out 0).trans rfl, (blk_cell BK202.out 1).trans rfl, (blk_cell BK202.out 2).trans rfl, (blk_cell BK202.out 3).trans rfl⟩ (fun hHeld => ?_); refine with_tabW subst_Check.tab6 subst_Check.bits6 (fun HT_ HW_ => ?_)
                  generalize w25.drew = w26 at BK202 HB hHeld ⊢
                  refine tk_ 0 15 1 HT_ HW_ hHeld ?_
                  refine one_ (i := 1) (N := some 16) (mk_ 18 3) rfl rfl (one_of HT_.out (by kernel_rfl)) (by decide) (fun K hK => ?_)
                  refine goes_ Try.func53 (by kernel_rfl) rfl #[.agg #[.string ((rd_T54 l0 x10_1).f0), .int .i64 ((rd_T54 l0 x10_1).f1.f0), .int .i64 ((rd_T54 l0 x10_1).f1.f1), .string ((rd_T54 l0 x10_1).f1.f2)]] (by rfl) rfl rfl ga_ ?_
                  with_reducible refine (subst_right.calls k1 ((rd_T54 l0 x10_1).f0) ((rd_T54 l0 x10_1).f1.f0) ((rd_T54 l0 x10_1).f1.f1) ((rd_T54 l0 x10_1).f1.f2) true _ A6.out).mono ?_
                  rintro e w27 ⟨rfl, hb⟩
                  refine ⟨_, rfl, ?_⟩
                  have n0_ := bb_ (bu_ BK202) hb
                  have n1_ := bs_ (be_ HB) hb
                  clear BK202
                  clear HB
                  have BK202 := n0_
                  have HB := n1_
                  clear n0_ n1_
                  (try clear hb)
                  (try clear hb2)
                  (try clear hk)
                  (try clear hi)
                  refine hK.out _ _ ⟨(blk_cell BK202.out 0).trans rfl, (blk_cell BK202.out 1).trans rfl, (blk_cell BK202.out 2).trans rfl, (blk_cell BK202.out 3).trans rfl⟩ (fun hHeld => ?_)
                  clear hK K
                  refine nm_ 16 ?_; refine pu_ 2 17 7 HT_ ?_; refine pu_ 3 18 15 HT_ ?_; refine pu_ 4 19 31 HT_ ?_; refine pu_ 5 20 63 HT_ ?_; refine pu_ 6 21 127 HT_ ?_; refine pn_ 7 22 255 HT_ ?_; refine pn_ 8 23 511 HT_ ?_; refine pn_ 9 24 1023 HT_ ?_; refine pn_ 10 25 2047 HT_ ?_; refine pn_ 11 26 4095 HT_ ?_; refine pn_ 12 27 8191 HT_ ?_; refine pn_ 13 28 16383 HT_ ?_; refine pn_ 14 29 32767 HT_ ?_; refine pn_ 15 30 65535 HT_ ?_; refine pu_ 16 31 131071 HT_ ?_; refine pu_ 17 32 262143 HT_ ?_
                  refine done_ (done_of HT_.out (by kernel_rfl)) ?_
                  try go_wp2
                  go_roundg k1
                  case measure => have := HK1.out; omega
                  case rel => exact ⟨(wrap64 (x10_1 + 1)), ra_, H', ⟨by have := HK1.out; omega⟩, ⟨by repeat (first | (with_reducible first | exact HB.out | apply below_alloc | apply pw_below_drewN | apply below_drew1 | refine below_set ?_ GE202.out) | exact HB.out)⟩⟩
              · replace c7 := Bool.eq_false_iff.mpr c7
                subst c7
                have H1 : (some 1) = some r := by rw [if_neg (show ¬ (false = true) by decide)] at H; exact H
                clear H
                have H := H1
                clear H1
                obtain rfl := Option.some.inj H
                have p201 : 0 ≤ (x10_1 : Int) := dt_
                have q201 : x10_1 < (l0.length : Int) := dt_
                obtain ⟨ad201, e201, hx201_0, hx201_1, hx201_2, hx201_3⟩ := at_T54 HR0.out x10_1 p201 q201
                cases e201
                replace hx201_0 := cm_ HB hx201_0
                replace hx201_1 := cm_ HB hx201_1
                replace hx201_2 := cm_ HB hx201_2
                replace hx201_3 := cm_ HB hx201_3
                replace p201 := eq_true p201
                replace q201 := eq_true q201
                try go_wp2_with (first | ((with_reducible refine gate_dst (N := 4) rfl ?_); refine box_event ?hg (N := 4) ?hd (cs := #[.string (⟨#[]⟩ : ByteArray), .int .i64 0, .int .i64 0, .string (⟨#[]⟩ : ByteArray)]) (t := 54) ?hr ?_; (case hd => rfl); (case hg => rfl); (case hr => first | (go_simp; done) | (go_simp; rfl)); intro gb202 hg w28 hbox hb; have n0_ := bs_ (be_ HB) hb; have n1_ := Aside0.mk (hbox); have n2_ := gs_ hg (be_ HB); have n3_ := gs_ hg (be_ HB); clear HB; have HB := n0_; have BK202 := n1_; have GW202 := n2_; have GE202 := n3_; clear n0_ n1_ n2_ n3_; clear hb hbox hg; have hcz29_0 : w28.cell? ⟨gb202, 0, none⟩ = some (.string (⟨#[]⟩ : ByteArray)) := (blk_cell BK202.out 0).trans rfl; have hcz29_1 : w28.cell? ⟨gb202, 1, none⟩ = some (.int .i64 0) := (blk_cell BK202.out 1).trans rfl; have hcz29_2 : w28.cell? ⟨gb202, 2, none⟩ = some (.int .i64 0) := (blk_cell BK202.out 2).trans rfl; have hcz29_3 : w28.cell? ⟨gb202, 3, none⟩ = some (.string (⟨#[]⟩ : ByteArray)) := (blk_cell BK202.out 3).trans rfl; have hfz29_0 := blk_frozen BK202.out 0; have hfz29_1 := blk_frozen BK202.out 1; have hfz29_2 := blk_frozen BK202.out 2; have hfz29_3 := blk_frozen BK202.out 3))
                have n0_ : Aside0 (((((w28.setCell ⟨gb202, 0, none⟩ (.string ((rd_T54 l0 x10_1).f0))).setCell ⟨gb202, 1, none⟩ (.int .i64 ((rd_T54 l0 x10_1).f1.f0))).setCell ⟨gb202, 2, none⟩ (.int .i64 ((rd_T54 l0 x10_1).f1.f1))).setCell ⟨gb202, 3, none⟩ (.string ((rd_T54 l0 x10_1).f1.f2))).heap[gb202]? = some (.cells #[.string ((rd_T54 l0 x10_1).f0), .int .i64 ((rd_T54 l0 x10_1).f1.f0), .int .i64 ((rd_T54 l0 x10_1).f1.f1), .string ((rd_T54 l0 x10_1).f1.f2)] 54 (0, 0))) := ⟨by (with_reducible repeat (first | refine blk_drewN ?_ _ | refine blk_drew ?_ | refine blk_alloc ?_ _)); refine blk_put (cs := #[.string ((rd_T54 l0 x10_1).f0), .int .i64 ((rd_T54 l0 x10_1).f1.f0), .int .i64 ((rd_T54 l0 x10_1).f1.f1), .string (⟨#[]⟩ : ByteArray)]) ?_ 3 _ rfl; (with_reducible repeat (first | refine blk_drewN ?_ _ | refine blk_drew ?_ | refine blk_alloc ?_ _)); refine blk_put (cs := #[.string ((rd_T54 l0 x10_1).f0), .int .i64 ((rd_T54 l0 x10_1).f1.f0), .int .i64 0, .string (⟨#[]⟩ : ByteArray)]) ?_ 2 _ rfl; (with_reducible repeat (first | refine blk_drewN ?_ _ | refine blk_drew ?_ | refine blk_alloc ?_ _)); refine blk_put (cs := #[.string ((rd_T54 l0 x10_1).f0), .int .i64 0, .int .i64 0, .string (⟨#[]⟩ : ByteArray)]) ?_ 1 _ rfl; (with_reducible repeat (first | refine blk_drewN ?_ _ | refine blk_drew ?_ | refine blk_alloc ?_ _)); refine blk_put (cs := #[.string (⟨#[]⟩ : ByteArray), .int .i64 0, .int .i64 0, .string (⟨#[]⟩ : ByteArray)]) ?_ 0 _ rfl; (with_reducible repeat (first | refine blk_drewN ?_ _ | refine blk_drew ?_ | refine blk_alloc ?_ _)); exact BK202.out⟩
                have n1_ : Aside0 (Below w.heap.size w ((((w28.setCell ⟨gb202, 0, none⟩ (.string ((rd_T54 l0 x10_1).f0))).setCell ⟨gb202, 1, none⟩ (.int .i64 ((rd_T54 l0 x10_1).f1.f0))).setCell ⟨gb202, 2, none⟩ (.int .i64 ((rd_T54 l0 x10_1).f1.f1))).setCell ⟨gb202, 3, none⟩ (.string ((rd_T54 l0 x10_1).f1.f2)))) := ⟨by repeat (first | (with_reducible first | exact HB.out | apply below_alloc | apply pw_below_drewN | apply below_drew1 | refine below_set ?_ GE202.out) | exact HB.out)⟩
                (try clear BK202)
                (try clear HB)
                generalize ((((w28.setCell ⟨gb202, 0, none⟩ (.string ((rd_T54 l0 x10_1).f0))).setCell ⟨gb202, 1, none⟩ (.int .i64 ((rd_T54 l0 x10_1).f1.f0))).setCell ⟨gb202, 2, none⟩ (.int .i64 ((rd_T54 l0 x10_1).f1.f1))).setCell ⟨gb202, 3, none⟩ (.string ((rd_T54 l0 x10_1).f1.f2))) = w30 at n0_ n1_ ⊢
                have BK202 := n0_
                have HB := n1_
                clear n0_ n1_
                have n0_ := Aside0.mk (blk_drew BK202.out)
                have n1_ := Aside0.mk (below_drew1 HB.out)
                clear BK202
                clear HB
                have BK202 := n0_
                have HB := n1_
                clear n0_ n1_
                refine start_ (n := 18) (S := fun w' => w'.cell? ⟨gb202, 0, none⟩ = some (.string ((rd_T54 l0 x10_1).f0)) ∧ w'.cell? ⟨gb202, 1, none⟩ = some (.int .i64 ((rd_T54 l0 x10_1).f1.f0)) ∧ w'.cell? ⟨gb202, 2, none⟩ = some (.int .i64 ((rd_T54 l0 x10_1).f1.f1)) ∧ w'.cell? ⟨gb202, 3, none⟩ = some (.string ((rd_T54 l0 x10_1).f1.f2))) (ds := []) (mk_ 18 0) (by kernel_rfl) rfl rfl ⟨(blk_cell BK202.out 0).trans rfl, (blk_cell BK202.out 1).trans rfl, (blk_cell BK202.out 2).trans rfl, (blk_cell BK202.out 3).trans rfl⟩ (fun hHeld => ?_); refine with_tabW subst_Check.tab6 subst_Check.bits6 (fun HT_ HW_ => ?_)
                generalize w30.drew = w31 at BK202 HB hHeld ⊢
                refine tk_ 0 15 1 HT_ HW_ hHeld ?_
                refine one_ (i := 1) (N := some 16) (mk_ 18 3) rfl rfl (one_of HT_.out (by kernel_rfl)) (by decide) (fun K hK => ?_)
                refine goes_ Try.func53 (by kernel_rfl) rfl #[.agg #[.string ((rd_T54 l0 x10_1).f0), .int .i64 ((rd_T54 l0 x10_1).f1.f0), .int .i64 ((rd_T54 l0 x10_1).f1.f1), .string ((rd_T54 l0 x10_1).f1.f2)]] (by rfl) rfl rfl ga_ ?_
                with_reducible refine (subst_right.calls k1 ((rd_T54 l0 x10_1).f0) ((rd_T54 l0 x10_1).f1.f0) ((rd_T54 l0 x10_1).f1.f1) ((rd_T54 l0 x10_1).f1.f2) false _ A6.out).mono ?_
                rintro e w32 ⟨rfl, hb⟩
                refine ⟨_, rfl, ?_⟩
                have n0_ := bb_ (bu_ BK202) hb
                have n1_ := bs_ (be_ HB) hb
                clear BK202
                clear HB
                have BK202 := n0_
                have HB := n1_
                clear n0_ n1_
                (try clear hb)
                (try clear hb2)
                (try clear hk)
                (try clear hi)
                refine hK.out _ _ ⟨(blk_cell BK202.out 0).trans rfl, (blk_cell BK202.out 1).trans rfl, (blk_cell BK202.out 2).trans rfl, (blk_cell BK202.out 3).trans rfl⟩ (fun hHeld => ?_)
                clear hK K
                refine nm_ 16 ?_; refine pu_ 2 17 7 HT_ ?_; refine pu_ 3 18 15 HT_ ?_; refine pn_ 4 19 31 HT_ ?_; refine pn_ 5 20 63 HT_ ?_; refine pn_ 6 21 127 HT_ ?_; refine pn_ 7 22 255 HT_ ?_; refine pn_ 8 23 511 HT_ ?_; refine pn_ 9 24 1023 HT_ ?_; refine pn_ 10 25 2047 HT_ ?_; refine pn_ 11 26 4095 HT_ ?_; refine pn_ 12 27 8191 HT_ ?_; refine pn_ 13 28 16383 HT_ ?_; refine pn_ 14 29 32767 HT_ ?_; refine pn_ 15 30 65535 HT_ ?_; refine pn_ 16 31 131071 HT_ ?_; refine pu_ 17 32 262143 HT_ ?_
                refine done_ (done_of HT_.out (by kernel_rfl)) ?_
                try go_wp2
                go_ret
                exact ⟨by first | rfl | (simp [errW_none, errW_some] <;> rfl) | (simp [*, errW_none, errW_some] <;> rfl), by repeat (first | (with_reducible first | exact HB.out | apply below_alloc | apply pw_below_drewN | apply below_drew1 | refine below_set ?_ GE202.out) | exact HB.out)⟩
            · rw [if_neg c5] at H
              exact absurd H (by simp)
          · rw [if_neg c4] at H
            exact absurd H (by simp)
        · rw [if_neg c3] at H
          have c3b0 : decide (x10_1 < (l0.length : Int)) = false := decide_eq_false c3
          clear c3
          obtain rfl := Option.some.inj H
          go_wp2
          go_ret
          exact ⟨by first | rfl | (simp [errW_none, errW_some] <;> rfl) | (simp [*, errW_none, errW_some] <;> rfl), by repeat (first | (with_reducible first | exact HB.out | apply below_alloc | apply pw_below_drewN | apply below_drew1) | exact HB.out)⟩
end Go.Proofs.Ytaopajmpifenoaa.P
end
section
namespace Go.Proofs.Ytaopajmpifenoaa.P
open Go.RowKit Go.Proofs.YtaopajmpifenoaaW.PrintWords Go.Proofs.YtaopajmpifenoaaW.PrintLast Go.Proofs.YtaopajmpifenoaaW.PrintMore
attribute [local go_sem] max2_int min2_int max_two min_two max_three min_three max_four min_four
set_option linter.unusedVariables false
set_option linter.unusedSimpArgs false
def subst_Get.l0 : Nat → ByteArray → List (S54) → Int → Int → Option (Int × Int × ByteArray × Bool)
  | 0, _, _, _, _ => none
  | k + 1, x1, x8, x9, x10 => if x10 < x9 then (if 0 ≤ x10 then (if x10 < (x8.length : Int) then (if ((rd_T54 x8 x10).f0).toList = x1.toList then (some ((rd_T54 x8 x10).f1.f0, (rd_T54 x8 x10).f1.f1, (rd_T54 x8 x10).f1.f2, true)) else (subst_Get.l0 k x1 x8 x9 (wrap64 (x10 + 1)))) else (none)) else (none)) else (some (0, 0, (⟨#[]⟩ : ByteArray), false))
def subst_Get.f (k : Nat) (l0 : List (S54)) (a1 : ByteArray) : Option (Int × Int × ByteArray × Bool) := subst_Get.l0 k a1 l0 (l0.length : Int) 0
theorem subst_Get.mono_l : ∀ k, (∀ y0 y1 y2 y3, LeO (subst_Get.l0 k y0 y1 y2 y3) (subst_Get.l0 (k + 1) y0 y1 y2 y3))
  | 0 => fun _ _ _ _ r h => by simp [subst_Get.l0] at h
  | k + 1 => by
    have ih0 := subst_Get.mono_l k
    · intro y0 y1 y2 y3
      unfold subst_Get.l0
      repeat' first
      | (with_reducible exact ih0 _ _ _ _)
      | (with_reducible exact LeO.refl _)
      | (with_reducible exact LeO.none _)
      | (with_reducible refine LeO.ite ?_ ?_)
      | (with_reducible refine LeO.bind ?_ (fun _ => ?_))
      | exact ih0 _ _ _ _
      | exact LeO.none _
      | refine LeO.ite ?_ ?_
      | refine LeO.bind ?_ (fun _ => ?_)
theorem subst_Get.mono : ∀ a0 a1 k, LeO (subst_Get.f k a0 a1) (subst_Get.f (k + 1) a0 a1) := by
  intro a0 a1 k
  have ih0 := subst_Get.mono_l k
  unfold subst_Get.f
  repeat' first
      | (with_reducible exact ih0 _ _ _ _)
      | (with_reducible exact LeO.refl _)
      | (with_reducible exact LeO.none _)
      | (with_reducible refine LeO.ite ?_ ?_)
      | (with_reducible refine LeO.bind ?_ (fun _ => ?_))
      | exact ih0 _ _ _ _
      | exact LeO.none _
      | refine LeO.ite ?_ ?_
      | refine LeO.bind ?_ (fun _ => ?_)
set_option maxHeartbeats 8000000 in
set_option maxRecDepth 100000 in
theorem subst_Get.calls (k : Nat) (A0 : Option Addr) (c0 : Nat) (l0 : List (S54)) (a1 : ByteArray) (r1 : Int) (r2 : Int) (r3 : ByteArray) (r4 : Bool) (w : World) (hr0 : Kd.C k54 w A0 l0.length l0) (hc0 : l0.length ≤ c0) (h : subst_Get.f k l0 a1 = some (r1, r2, r3, r4)) :
    Calls Try.prog 54 #[.slice A0 l0.length c0, .string a1] w fun e w' => e = .returned (.tuple #[.agg #[.int .i64 r1, .int .i64 r2, .string r3], .bool r4]) ∧ Below w.heap.size w w' := by
  have hu23 := Try.underlying23
  have hu54 := Try.underlying54
  have HR0 := Aside0.mk hr0
  have HC0 := Aside0.mk hc0
  clear hr0 hc0
  have HB := Aside0.mk (Below.refl w.heap.size w)
  have H : (subst_Get.l0 k a1 l0 (l0.length : Int) 0) = some (r1, r2, r3, r4) := h
  clear h
  have H' := Aside0.mk H
  clear H
  go_enter Try.func54, Try.ntmps54
  go_wp2_with (first | ((with_reducible refine gate_dst (N := 4) rfl ?_); refine box_event ?hg (N := 4) ?hd (cs := #[.int .i64 0, .int .i64 0, .string (⟨#[]⟩ : ByteArray)]) (t := 23) ?hr ?_; (case hd => rfl); (case hg => rfl); (case hr => first | (go_simp; done) | (go_simp; rfl)); intro gb205 hg w3 hbox hb; have n0_ := bs_ (be_ HB) hb; have n1_ := Aside0.mk (hbox); have n2_ := gs_ hg (be_ HB); have n3_ := gs_ hg (be_ HB); clear HB; have HB := n0_; have BK205 := n1_; have GW205 := n2_; have GE205 := n3_; clear n0_ n1_ n2_ n3_; clear hb hbox hg))
  go_loopg [10] k (fun kq v10 w' => ∃ (x10_1 : Int) (x206000_1 : Int) (x206001_1 : Int) (x206002_1 : ByteArray), v10 = .int .i64 x10_1 ∧ Aside0 (subst_Get.l0 kq a1 l0 (l0.length : Int) x10_1 = some (r1, r2, r3, r4)) ∧ Aside0 (kq ≤ k) ∧ Aside0 (w'.heap[gb205]? = some (.cells #[.int .i64 x206000_1, .int .i64 x206001_1, .string x206002_1] 23 (0, 0))) ∧ Aside0 (Below w.heap.size w w'))
  case atStart => exact ⟨(0), (0), (0), ((⟨#[]⟩ : ByteArray)), ra_, H', ⟨Nat.le_refl _⟩, ⟨by (with_reducible repeat (first | refine blk_drewN ?_ _ | refine blk_drew ?_ | refine blk_alloc ?_ _)); exact BK205.out⟩, ⟨by repeat (first | (with_reducible first | exact HB.out | apply below_alloc | apply pw_below_drewN | apply below_drew1 | refine below_set ?_ GE205.out) | exact HB.out)⟩⟩
  case round =>
    clear H'
    try clear p2
    obtain ⟨x10_1, x206000_1, x206001_1, x206002_1, rfl, HA, HK1, BK205, HB⟩ := hrel
    cases gk with
    | zero => exact absurd HA.out (by simp [subst_Get.l0])
    | succ k1 =>
      have H := HA.out
      clear HA
      simp only [subst_Get.l0] at H
      by_cases c4 : x10_1 < (l0.length : Int)
      · rw [if_pos c4] at H
        have c4b0 : decide (x10_1 < (l0.length : Int)) = true := decide_eq_true c4
        clear c4
        by_cases c5 : 0 ≤ x10_1
        · rw [if_pos c5] at H
          have c5b0 : decide (0 ≤ x10_1) = true := decide_eq_true c5
          clear c5
          by_cases c6 : x10_1 < (l0.length : Int)
          · rw [if_pos c6] at H
            have c6b0 : decide (x10_1 < (l0.length : Int)) = true := decide_eq_true c6
            clear c6
            by_cases c7 : ((rd_T54 l0 x10_1).f0).toList = a1.toList
            · rw [if_pos c7] at H
              obtain ⟨c7b0, c7b1⟩ := eqB_ c7
              clear c7
              simp only [Option.some.injEq, Prod.mk.injEq] at H
              obtain ⟨rfl, rfl, rfl, rfl⟩ := H
              have p206 : 0 ≤ (x10_1 : Int) := dt_
              have q206 : x10_1 < (l0.length : Int) := dt_
              obtain ⟨ad206, e206, hx206_0, hx206_1, hx206_2, hx206_3⟩ := at_T54 HR0.out x10_1 p206 q206
              cases e206
              replace hx206_0 := cm_ HB hx206_0
              replace hx206_1 := cm_ HB hx206_1
              replace hx206_2 := cm_ HB hx206_2
              replace hx206_3 := cm_ HB hx206_3
              replace p206 := eq_true p206
              replace q206 := eq_true q206
              go_wp2_with (first | ((with_reducible refine gate_dst (N := 7) rfl ?_); refine box_event ?hg (N := 7) ?hd (cs := #[.string (⟨#[]⟩ : ByteArray), .int .i64 0, .int .i64 0, .string (⟨#[]⟩ : ByteArray)]) (t := 54) ?hr ?_; (case hd => rfl); (case hg => rfl); (case hr => first | (go_simp; done) | (go_simp; rfl)); intro gb207 hg w8 hbox hb; have n0_ := bb_ (bu_ BK205) hb; have n1_ := bs_ (be_ HB) hb; have n2_ := Aside0.mk (hbox); have n3_ := gs_ hg (be_ HB); have n4_ := gs_ hg (be_ HB); have n5_ := nl_ hg (bu_ BK205); have n6_ := ng_ hg (bu_ BK205); clear BK205; clear HB; have BK205 := n0_; have HB := n1_; have BK207 := n2_; have GW207 := n3_; have GE207 := n4_; have NB205_207 := n5_; have NB207_205 := n6_; clear n0_ n1_ n2_ n3_ n4_ n5_ n6_; clear hb hbox hg; have hnb9 := NB207_205.out; have hnc9 := NB205_207.out; have hcz10_0 : w8.cell? ⟨gb207, 0, none⟩ = some (.string (⟨#[]⟩ : ByteArray)) := (blk_cell BK207.out 0).trans rfl; have hcz10_1 : w8.cell? ⟨gb207, 1, none⟩ = some (.int .i64 0) := (blk_cell BK207.out 1).trans rfl; have hcz10_2 : w8.cell? ⟨gb207, 2, none⟩ = some (.int .i64 0) := (blk_cell BK207.out 2).trans rfl; have hcz10_3 : w8.cell? ⟨gb207, 3, none⟩ = some (.string (⟨#[]⟩ : ByteArray)) := (blk_cell BK207.out 3).trans rfl; have hfz10_0 := blk_frozen BK207.out 0; have hfz10_1 := blk_frozen BK207.out 1; have hfz10_2 := blk_frozen BK207.out 2; have hfz10_3 := blk_frozen BK207.out 3; have hcz11_0 : w8.cell? ⟨gb205, 0, none⟩ = some (.int .i64 x206000_1) := (blk_cell BK205.out 0).trans rfl; have hcz11_1 : w8.cell? ⟨gb205, 1, none⟩ = some (.int .i64 x206001_1) := (blk_cell BK205.out 1).trans rfl; have hcz11_2 : w8.cell? ⟨gb205, 2, none⟩ = some (.string x206002_1) := (blk_cell BK205.out 2).trans rfl; have hfz11_0 := blk_frozen BK205.out 0; have hfz11_1 := blk_frozen BK205.out 1; have hfz11_2 := blk_frozen BK205.out 2))
              refine bodyPost_ret (results_ct rfl _ _ gb205 23 #[.int .i64 ((rd_T54 l0 x10_1).f1.f0), .int .i64 ((rd_T54 l0 x10_1).f1.f1), .string ((rd_T54 l0 x10_1).f1.f2)] (0, 0) _ rfl (bp_ BK205) Try.underlying23 rfl (by kernel_rfl)) rfl ?_
              exact ⟨by first | rfl | (simp [errW_none, errW_some] <;> rfl) | (simp [*, errW_none, errW_some] <;> rfl), by repeat (first | (with_reducible first | exact HB.out | apply below_alloc | apply pw_below_drewN | apply below_drew1 | refine below_set ?_ GE205.out | refine below_set ?_ GE207.out) | exact HB.out)⟩
            · rw [if_neg c7] at H
              obtain ⟨c7b0, c7b1⟩ := neB_ c7
              have H' := Aside0.mk H
              clear H
              have p206 : 0 ≤ (x10_1 : Int) := dt_
              have q206 : x10_1 < (l0.length : Int) := dt_
              obtain ⟨ad206, e206, hx206_0, hx206_1, hx206_2, hx206_3⟩ := at_T54 HR0.out x10_1 p206 q206
              cases e206
              replace hx206_0 := cm_ HB hx206_0
              replace hx206_1 := cm_ HB hx206_1
              replace hx206_2 := cm_ HB hx206_2
              replace hx206_3 := cm_ HB hx206_3
              replace p206 := eq_true p206
              replace q206 := eq_true q206
              go_wp2_with (first | ((with_reducible refine gate_dst (N := 7) rfl ?_); refine box_event ?hg (N := 7) ?hd (cs := #[.string (⟨#[]⟩ : ByteArray), .int .i64 0, .int .i64 0, .string (⟨#[]⟩ : ByteArray)]) (t := 54) ?hr ?_; (case hd => rfl); (case hg => rfl); (case hr => first | (go_simp; done) | (go_simp; rfl)); intro gb207 hg w12 hbox hb; have n0_ := bb_ (bu_ BK205) hb; have n1_ := bs_ (be_ HB) hb; have n2_ := Aside0.mk (hbox); have n3_ := gs_ hg (be_ HB); have n4_ := gs_ hg (be_ HB); have n5_ := nl_ hg (bu_ BK205); have n6_ := ng_ hg (bu_ BK205); clear BK205; clear HB; have BK205 := n0_; have HB := n1_; have BK207 := n2_; have GW207 := n3_; have GE207 := n4_; have NB205_207 := n5_; have NB207_205 := n6_; clear n0_ n1_ n2_ n3_ n4_ n5_ n6_; clear hb hbox hg; have hnb13 := NB207_205.out; have hnc13 := NB205_207.out; have hcz14_0 : w12.cell? ⟨gb207, 0, none⟩ = some (.string (⟨#[]⟩ : ByteArray)) := (blk_cell BK207.out 0).trans rfl; have hcz14_1 : w12.cell? ⟨gb207, 1, none⟩ = some (.int .i64 0) := (blk_cell BK207.out 1).trans rfl; have hcz14_2 : w12.cell? ⟨gb207, 2, none⟩ = some (.int .i64 0) := (blk_cell BK207.out 2).trans rfl; have hcz14_3 : w12.cell? ⟨gb207, 3, none⟩ = some (.string (⟨#[]⟩ : ByteArray)) := (blk_cell BK207.out 3).trans rfl; have hfz14_0 := blk_frozen BK207.out 0; have hfz14_1 := blk_frozen BK207.out 1; have hfz14_2 := blk_frozen BK207.out 2; have hfz14_3 := blk_frozen BK207.out 3))
              go_roundg k1
              case measure => have := HK1.out; omega
              case rel => exact ⟨(wrap64 (x10_1 + 1)), (x206000_1), (x206001_1), (x206002_1), ra_, H', ⟨by have := HK1.out; omega⟩, ⟨by (with_reducible repeat (first | refine blk_drewN ?_ _ | refine blk_drew ?_ | refine blk_alloc ?_ _)); refine blk_far ?_ NB205_207.out _; (with_reducible repeat (first | refine blk_drewN ?_ _ | refine blk_drew ?_ | refine blk_alloc ?_ _)); refine blk_far ?_ NB205_207.out _; (with_reducible repeat (first | refine blk_drewN ?_ _ | refine blk_drew ?_ | refine blk_alloc ?_ _)); refine blk_far ?_ NB205_207.out _; (with_reducible repeat (first | refine blk_drewN ?_ _ | refine blk_drew ?_ | refine blk_alloc ?_ _)); refine blk_far ?_ NB205_207.out _; (with_reducible repeat (first | refine blk_drewN ?_ _ | refine blk_drew ?_ | refine blk_alloc ?_ _)); exact BK205.out⟩, ⟨by repeat (first | (with_reducible first | exact HB.out | apply below_alloc | apply pw_below_drewN | apply below_drew1 | refine below_set ?_ GE205.out | refine below_set ?_ GE207.out) | exact HB.out)⟩⟩
          · rw [if_neg c6] at H
            exact absurd H (by simp)
        · rw [if_neg c5] at H
          exact absurd H (by simp)
      · rw [if_neg c4] at H
        have c4b0 : decide (x10_1 < (l0.length : Int)) = false := decide_eq_false c4
        clear c4
        simp only [Option.some.injEq, Prod.mk.injEq] at H
        obtain ⟨rfl, rfl, rfl, rfl⟩ := H
        have hcz15_0 : wr.cell? ⟨gb205, 0, none⟩ = some (.int .i64 x206000_1) := (blk_cell BK205.out 0).trans rfl
        have hcz15_1 : wr.cell? ⟨gb205, 1, none⟩ = some (.int .i64 x206001_1) := (blk_cell BK205.out 1).trans rfl
        have hcz15_2 : wr.cell? ⟨gb205, 2, none⟩ = some (.string x206002_1) := (blk_cell BK205.out 2).trans rfl
        have hfz15_0 := blk_frozen BK205.out 0
        have hfz15_1 := blk_frozen BK205.out 1
        have hfz15_2 := blk_frozen BK205.out 2
        go_wp2
        refine bodyPost_ret (results_ct rfl _ _ gb205 23 #[.int .i64 0, .int .i64 0, .string (⟨#[]⟩ : ByteArray)] (0, 0) _ rfl (bp_ BK205) Try.underlying23 rfl (by kernel_rfl)) rfl ?_
        exact ⟨by first | rfl | (simp [errW_none, errW_some] <;> rfl) | (simp [*, errW_none, errW_some] <;> rfl), by repeat (first | (with_reducible first | exact HB.out | apply below_alloc | apply pw_below_drewN | apply below_drew1 | refine below_set ?_ GE205.out) | exact HB.out)⟩
end Go.Proofs.Ytaopajmpifenoaa.P
end
section
namespace Go.Proofs.Ytaopajmpifenoaa.P
open Go.RowKit Go.Proofs.YtaopajmpifenoaaW.PrintWords Go.Proofs.YtaopajmpifenoaaW.PrintLast Go.Proofs.YtaopajmpifenoaaW.PrintMore
attribute [local go_sem] max2_int min2_int max_two min_two max_three min_three max_four min_four
set_option linter.unusedVariables false
set_option linter.unusedSimpArgs false
def expr_push.f (k : Nat) (a0_0 : Int) (a0_1 : ByteArray) (a0_2 : Int) (a0_3 : Int) (a0_4 : ByteArray) (l1 : List (S54)) : Option (Int × Int × ByteArray × Int) := if a0_0 = 2 then (some (a0_2, a0_3, a0_4, 0)) else ((subst_Get.f k l1 a0_1).bind fun bt210 => (if bt210.2.2.2 = true then (some (bt210.1, bt210.2.1, bt210.2.2.1, 0)) else (some (0, 0, (⟨#[]⟩ : ByteArray), 5))))
theorem expr_push.mono : ∀ a0 a1 a2 a3 a4 a5 k, LeO (expr_push.f k a0 a1 a2 a3 a4 a5) (expr_push.f (k + 1) a0 a1 a2 a3 a4 a5) := by
  intro a0 a1 a2 a3 a4 a5 k
  unfold expr_push.f
  repeat' first
      | (with_reducible exact subst_Get.mono _ _ _)
      | (with_reducible exact LeO.refl _)
      | (with_reducible exact LeO.none _)
      | (with_reducible refine LeO.ite ?_ ?_)
      | (with_reducible refine LeO.bind ?_ (fun _ => ?_))
      | exact subst_Get.mono _ _ _
      | exact LeO.none _
      | refine LeO.ite ?_ ?_
      | refine LeO.bind ?_ (fun _ => ?_)
set_option maxHeartbeats 8000000 in
set_option maxRecDepth 100000 in
theorem expr_push.calls (k : Nat) (a0_0 : Int) (a0_1 : ByteArray) (a0_2 : Int) (a0_3 : Int) (a0_4 : ByteArray) (A1 : Option Addr) (c1 : Nat) (l1 : List (S54)) (r1 : Int) (r2 : Int) (r3 : ByteArray) (r4 : Int) (w : World) (hr1 : Kd.C k54 w A1 l1.length l1) (hc1 : l1.length ≤ c1) (h : expr_push.f k a0_0 a0_1 a0_2 a0_3 a0_4 l1 = some (r1, r2, r3, r4)) :
    Calls Try.prog 39 #[.agg #[.int .i64 a0_0, .string a0_1, .int .i64 a0_2, .int .i64 a0_3, .string a0_4], .slice A1 l1.length c1] w fun e w' => e = .returned (.tuple #[.agg #[.int .i64 r1, .int .i64 r2, .string r3], .int .i64 r4]) ∧ Below w.heap.size w w' := by
  have hu67 := Try.underlying67
  have hu23 := Try.underlying23
  have HR1 := Aside0.mk hr1
  have HC1 := Aside0.mk hc1
  clear hr1 hc1
  have HB := Aside0.mk (Below.refl w.heap.size w)
  have H : (if a0_0 = 2 then (some (a0_2, a0_3, a0_4, 0)) else ((subst_Get.f k l1 a0_1).bind fun bt210 => (if bt210.2.2.2 = true then (some (bt210.1, bt210.2.1, bt210.2.2.1, 0)) else (some (0, 0, (⟨#[]⟩ : ByteArray), 5))))) = some (r1, r2, r3, r4) := h
  clear h
  by_cases c3 : a0_0 = 2
  · rw [if_pos c3] at H
    obtain ⟨c3b0, c3b1⟩ := eqB_ c3
    clear c3
    simp only [Option.some.injEq, Prod.mk.injEq] at H
    obtain ⟨rfl, rfl, rfl, rfl⟩ := H
    go_enter Try.func39, Try.ntmps39
    go_wp2_with (first | ((with_reducible refine gate_dst (N := 2) rfl ?_); refine box_event ?hg (N := 2) ?hd (cs := #[.int .i64 a0_0, .string a0_1, .int .i64 a0_2, .int .i64 a0_3, .string a0_4]) (t := 67) ?hr ?_; (case hd => rfl); (case hg => rfl); (case hr => first | (go_simp; done) | (go_simp; rfl)); intro gb208 hg w4 hbox hb; have n0_ := bs_ (be_ HB) hb; have n1_ := Aside0.mk (hbox); have n2_ := gs_ hg (be_ HB); have n3_ := gs_ hg (be_ HB); clear HB; have HB := n0_; have BK208 := n1_; have GW208 := n2_; have GE208 := n3_; clear n0_ n1_ n2_ n3_; clear hb hbox hg) | ((with_reducible refine gate_dst (N := 4) rfl ?_); refine box_event ?hg (N := 4) ?hd (cs := #[.int .i64 0, .int .i64 0, .string (⟨#[]⟩ : ByteArray)]) (t := 23) ?hr ?_; (case hd => rfl); (case hg => rfl); (case hr => first | (go_simp; done) | (go_simp; rfl)); intro gb209 hg w5 hbox hb; have n0_ := bb_ (bu_ BK208) hb; have n1_ := bs_ (be_ HB) hb; have n2_ := Aside0.mk (hbox); have n3_ := gs_ hg (be_ HB); have n4_ := gs_ hg (be_ HB); have n5_ := nl_ hg (bu_ BK208); have n6_ := ng_ hg (bu_ BK208); clear BK208; clear HB; have BK208 := n0_; have HB := n1_; have BK209 := n2_; have GW209 := n3_; have GE209 := n4_; have NB208_209 := n5_; have NB209_208 := n6_; clear n0_ n1_ n2_ n3_ n4_ n5_ n6_; clear hb hbox hg; have hnb6 := NB208_209.out; have hnc6 := NB209_208.out; have hcz7_0 : w5.cell? ⟨gb208, 0, none⟩ = some (.int .i64 a0_0) := (blk_cell BK208.out 0).trans rfl; have hcz7_1 : w5.cell? ⟨gb208, 1, none⟩ = some (.string a0_1) := (blk_cell BK208.out 1).trans rfl; have hcz7_2 : w5.cell? ⟨gb208, 2, none⟩ = some (.int .i64 a0_2) := (blk_cell BK208.out 2).trans rfl; have hcz7_3 : w5.cell? ⟨gb208, 3, none⟩ = some (.int .i64 a0_3) := (blk_cell BK208.out 3).trans rfl; have hcz7_4 : w5.cell? ⟨gb208, 4, none⟩ = some (.string a0_4) := (blk_cell BK208.out 4).trans rfl; have hfz7_0 := blk_frozen BK208.out 0; have hfz7_1 := blk_frozen BK208.out 1; have hfz7_2 := blk_frozen BK208.out 2; have hfz7_3 := blk_frozen BK208.out 3; have hfz7_4 := blk_frozen BK208.out 4; have hcz8_0 : w5.cell? ⟨gb209, 0, none⟩ = some (.int .i64 0) := (blk_cell BK209.out 0).trans rfl; have hcz8_1 : w5.cell? ⟨gb209, 1, none⟩ = some (.int .i64 0) := (blk_cell BK209.out 1).trans rfl; have hcz8_2 : w5.cell? ⟨gb209, 2, none⟩ = some (.string (⟨#[]⟩ : ByteArray)) := (blk_cell BK209.out 2).trans rfl; have hfz8_0 := blk_frozen BK209.out 0; have hfz8_1 := blk_frozen BK209.out 1; have hfz8_2 := blk_frozen BK209.out 2))
    refine bodyPost_ret (results_ct rfl _ _ gb209 23 #[.int .i64 a0_2, .int .i64 a0_3, .string a0_4] (0, 0) _ rfl (bp_ BK209) Try.underlying23 rfl (by kernel_rfl)) rfl ?_
    exact ⟨by first | rfl | (simp [errW_none, errW_some] <;> rfl) | (simp [*, errW_none, errW_some] <;> rfl), by repeat (first | (with_reducible first | exact HB.out | apply below_alloc | apply pw_below_drewN | apply below_drew1 | refine below_set ?_ GE208.out | refine below_set ?_ GE209.out) | exact HB.out)⟩
  · rw [if_neg c3] at H
    obtain ⟨c3b0, c3b1⟩ := neB_ c3
    replace H := Option.bind_eq_some_iff.mp H
    obtain ⟨⟨t210, t211, t212, t213⟩, A90, H⟩ := H
    replace H : (if t213 = true then (some (t210, t211, t212, 0)) else (some (0, 0, (⟨#[]⟩ : ByteArray), 5))) = some (r1, r2, r3, r4) := H
    have A9 := Aside0.mk A90
    clear A90
    by_cases c10 : t213 = true
    · subst c10
      have H1 : (some (t210, t211, t212, 0)) = some (r1, r2, r3, r4) := by rw [if_pos rfl] at H; exact H
      clear H
      have H := H1
      clear H1
      simp only [Option.some.injEq, Prod.mk.injEq] at H
      obtain ⟨rfl, rfl, rfl, rfl⟩ := H
      go_enter Try.func39, Try.ntmps39
      go_wp2_with (first | ((with_reducible refine gate_dst (N := 2) rfl ?_); refine box_event ?hg (N := 2) ?hd (cs := #[.int .i64 a0_0, .string a0_1, .int .i64 a0_2, .int .i64 a0_3, .string a0_4]) (t := 67) ?hr ?_; (case hd => rfl); (case hg => rfl); (case hr => first | (go_simp; done) | (go_simp; rfl)); intro gb208 hg w11 hbox hb; have n0_ := bs_ (be_ HB) hb; have n1_ := Aside0.mk (hbox); have n2_ := gs_ hg (be_ HB); have n3_ := gs_ hg (be_ HB); clear HB; have HB := n0_; have BK208 := n1_; have GW208 := n2_; have GE208 := n3_; clear n0_ n1_ n2_ n3_; clear hb hbox hg) | ((with_reducible refine gate_dst (N := 4) rfl ?_); refine box_event ?hg (N := 4) ?hd (cs := #[.int .i64 0, .int .i64 0, .string (⟨#[]⟩ : ByteArray)]) (t := 23) ?hr ?_; (case hd => rfl); (case hg => rfl); (case hr => first | (go_simp; done) | (go_simp; rfl)); intro gb209 hg w12 hbox hb; have n0_ := bb_ (bu_ BK208) hb; have n1_ := bs_ (be_ HB) hb; have n2_ := Aside0.mk (hbox); have n3_ := gs_ hg (be_ HB); have n4_ := gs_ hg (be_ HB); have n5_ := nl_ hg (bu_ BK208); have n6_ := ng_ hg (bu_ BK208); clear BK208; clear HB; have BK208 := n0_; have HB := n1_; have BK209 := n2_; have GW209 := n3_; have GE209 := n4_; have NB208_209 := n5_; have NB209_208 := n6_; clear n0_ n1_ n2_ n3_ n4_ n5_ n6_; clear hb hbox hg; have hnb13 := NB208_209.out; have hnc13 := NB209_208.out; have hcz14_0 : w12.cell? ⟨gb208, 0, none⟩ = some (.int .i64 a0_0) := (blk_cell BK208.out 0).trans rfl; have hcz14_1 : w12.cell? ⟨gb208, 1, none⟩ = some (.string a0_1) := (blk_cell BK208.out 1).trans rfl; have hcz14_2 : w12.cell? ⟨gb208, 2, none⟩ = some (.int .i64 a0_2) := (blk_cell BK208.out 2).trans rfl; have hcz14_3 : w12.cell? ⟨gb208, 3, none⟩ = some (.int .i64 a0_3) := (blk_cell BK208.out 3).trans rfl; have hcz14_4 : w12.cell? ⟨gb208, 4, none⟩ = some (.string a0_4) := (blk_cell BK208.out 4).trans rfl; have hfz14_0 := blk_frozen BK208.out 0; have hfz14_1 := blk_frozen BK208.out 1; have hfz14_2 := blk_frozen BK208.out 2; have hfz14_3 := blk_frozen BK208.out 3; have hfz14_4 := blk_frozen BK208.out 4) | ((with_reducible refine gate_callee (f := 54) rfl ?_); refine goesL_ (some 17) rfl rfl Try.func54 (by kernel_rfl) rfl #[.slice A1 l1.length c1, .string a0_1] rfl ga_ ?_; (with_reducible refine (subst_Get.calls k _ _ l1 a0_1 t210 t211 t212 true _ ?side1 ?side2 A9.out).mono ?_); (case side1 => repeat (first | exact (Kd.C_below HR1.out HB.out) | (with_reducible refine Kd.C_alloc ?_ _) | (with_reducible refine Kd.C_drewN ?_ _) | (with_reducible refine Kd.C_drew ?_))); (case side2 => exact HC1.out); rintro e w15 ⟨rfl, hb⟩; refine ⟨_, rfl, ?_⟩; have n0_ := bb_ (bu_ BK208) hb; have n1_ := bb_ (bu_ BK209) hb; have n2_ := bs_ (be_ HB) hb; clear BK208; clear BK209; clear HB; have BK208 := n0_; have BK209 := n1_; have HB := n2_; clear n0_ n1_ n2_; (try clear hcz14_0 hcz14_1 hcz14_2 hcz14_3 hcz14_4 hfz14_0 hfz14_1 hfz14_2 hfz14_3 hfz14_4); (try clear hb); (try clear hb2); (try clear hk); (try clear hi)) | ((with_reducible refine gate_dst (N := 6) rfl ?_); refine box_event ?hg (N := 6) ?hd (cs := #[.int .i64 0, .int .i64 0, .string (⟨#[]⟩ : ByteArray)]) (t := 23) ?hr ?_; (case hd => rfl); (case hg => rfl); (case hr => first | (go_simp; done) | (go_simp; rfl)); intro gb214 hg w16 hbox hb; have n0_ := bb_ (bu_ BK208) hb; have n1_ := bb_ (bu_ BK209) hb; have n2_ := bs_ (be_ HB) hb; have n3_ := Aside0.mk (hbox); have n4_ := gs_ hg (be_ HB); have n5_ := gs_ hg (be_ HB); have n6_ := nl_ hg (bu_ BK208); have n7_ := ng_ hg (bu_ BK208); have n8_ := nl_ hg (bu_ BK209); have n9_ := ng_ hg (bu_ BK209); clear BK208; clear BK209; clear HB; have BK208 := n0_; have BK209 := n1_; have HB := n2_; have BK214 := n3_; have GW214 := n4_; have GE214 := n5_; have NB208_214 := n6_; have NB214_208 := n7_; have NB209_214 := n8_; have NB214_209 := n9_; clear n0_ n1_ n2_ n3_ n4_ n5_ n6_ n7_ n8_ n9_; clear hb hbox hg; have hnb17 := NB214_208.out; have hnc17 := NB208_214.out; have hnb18 := NB214_209.out; have hnc18 := NB209_214.out; have hcz19_0 : w16.cell? ⟨gb214, 0, none⟩ = some (.int .i64 0) := (blk_cell BK214.out 0).trans rfl; have hcz19_1 : w16.cell? ⟨gb214, 1, none⟩ = some (.int .i64 0) := (blk_cell BK214.out 1).trans rfl; have hcz19_2 : w16.cell? ⟨gb214, 2, none⟩ = some (.string (⟨#[]⟩ : ByteArray)) := (blk_cell BK214.out 2).trans rfl; have hfz19_0 := blk_frozen BK214.out 0; have hfz19_1 := blk_frozen BK214.out 1; have hfz19_2 := blk_frozen BK214.out 2; have hcz20_0 : w16.cell? ⟨gb209, 0, none⟩ = some (.int .i64 0) := (blk_cell BK209.out 0).trans rfl; have hcz20_1 : w16.cell? ⟨gb209, 1, none⟩ = some (.int .i64 0) := (blk_cell BK209.out 1).trans rfl; have hcz20_2 : w16.cell? ⟨gb209, 2, none⟩ = some (.string (⟨#[]⟩ : ByteArray)) := (blk_cell BK209.out 2).trans rfl; have hfz20_0 := blk_frozen BK209.out 0; have hfz20_1 := blk_frozen BK209.out 1; have hfz20_2 := blk_frozen BK209.out 2))
      refine bodyPost_ret (results_ct rfl _ _ gb209 23 #[.int .i64 t210, .int .i64 t211, .string t212] (0, 0) _ rfl (bp_ BK209) Try.underlying23 rfl (by kernel_rfl)) rfl ?_
      exact ⟨by first | rfl | (simp [errW_none, errW_some] <;> rfl) | (simp [*, errW_none, errW_some] <;> rfl), by repeat (first | (with_reducible first | exact HB.out | apply below_alloc | apply pw_below_drewN | apply below_drew1 | refine below_set ?_ GE208.out | refine below_set ?_ GE209.out | refine below_set ?_ GE214.out) | exact HB.out)⟩
    · replace c10 := Bool.eq_false_iff.mpr c10
      subst c10
      have H1 : (some (0, 0, (⟨#[]⟩ : ByteArray), 5)) = some (r1, r2, r3, r4) := by rw [if_neg (show ¬ (false = true) by decide)] at H; exact H
      clear H
      have H := H1
      clear H1
      simp only [Option.some.injEq, Prod.mk.injEq] at H
      obtain ⟨rfl, rfl, rfl, rfl⟩ := H
      go_enter Try.func39, Try.ntmps39
      go_wp2_with (first | ((with_reducible refine gate_dst (N := 2) rfl ?_); refine box_event ?hg (N := 2) ?hd (cs := #[.int .i64 a0_0, .string a0_1, .int .i64 a0_2, .int .i64 a0_3, .string a0_4]) (t := 67) ?hr ?_; (case hd => rfl); (case hg => rfl); (case hr => first | (go_simp; done) | (go_simp; rfl)); intro gb208 hg w21 hbox hb; have n0_ := bs_ (be_ HB) hb; have n1_ := Aside0.mk (hbox); have n2_ := gs_ hg (be_ HB); have n3_ := gs_ hg (be_ HB); clear HB; have HB := n0_; have BK208 := n1_; have GW208 := n2_; have GE208 := n3_; clear n0_ n1_ n2_ n3_; clear hb hbox hg) | ((with_reducible refine gate_dst (N := 4) rfl ?_); refine box_event ?hg (N := 4) ?hd (cs := #[.int .i64 0, .int .i64 0, .string (⟨#[]⟩ : ByteArray)]) (t := 23) ?hr ?_; (case hd => rfl); (case hg => rfl); (case hr => first | (go_simp; done) | (go_simp; rfl)); intro gb209 hg w22 hbox hb; have n0_ := bb_ (bu_ BK208) hb; have n1_ := bs_ (be_ HB) hb; have n2_ := Aside0.mk (hbox); have n3_ := gs_ hg (be_ HB); have n4_ := gs_ hg (be_ HB); have n5_ := nl_ hg (bu_ BK208); have n6_ := ng_ hg (bu_ BK208); clear BK208; clear HB; have BK208 := n0_; have HB := n1_; have BK209 := n2_; have GW209 := n3_; have GE209 := n4_; have NB208_209 := n5_; have NB209_208 := n6_; clear n0_ n1_ n2_ n3_ n4_ n5_ n6_; clear hb hbox hg; have hnb23 := NB208_209.out; have hnc23 := NB209_208.out; have hcz24_0 : w22.cell? ⟨gb208, 0, none⟩ = some (.int .i64 a0_0) := (blk_cell BK208.out 0).trans rfl; have hcz24_1 : w22.cell? ⟨gb208, 1, none⟩ = some (.string a0_1) := (blk_cell BK208.out 1).trans rfl; have hcz24_2 : w22.cell? ⟨gb208, 2, none⟩ = some (.int .i64 a0_2) := (blk_cell BK208.out 2).trans rfl; have hcz24_3 : w22.cell? ⟨gb208, 3, none⟩ = some (.int .i64 a0_3) := (blk_cell BK208.out 3).trans rfl; have hcz24_4 : w22.cell? ⟨gb208, 4, none⟩ = some (.string a0_4) := (blk_cell BK208.out 4).trans rfl; have hfz24_0 := blk_frozen BK208.out 0; have hfz24_1 := blk_frozen BK208.out 1; have hfz24_2 := blk_frozen BK208.out 2; have hfz24_3 := blk_frozen BK208.out 3; have hfz24_4 := blk_frozen BK208.out 4) | ((with_reducible refine gate_callee (f := 54) rfl ?_); refine goesL_ (some 17) rfl rfl Try.func54 (by kernel_rfl) rfl #[.slice A1 l1.length c1, .string a0_1] rfl ga_ ?_; (with_reducible refine (subst_Get.calls k _ _ l1 a0_1 t210 t211 t212 false _ ?side1 ?side2 A9.out).mono ?_); (case side1 => repeat (first | exact (Kd.C_below HR1.out HB.out) | (with_reducible refine Kd.C_alloc ?_ _) | (with_reducible refine Kd.C_drewN ?_ _) | (with_reducible refine Kd.C_drew ?_))); (case side2 => exact HC1.out); rintro e w25 ⟨rfl, hb⟩; refine ⟨_, rfl, ?_⟩; have n0_ := bb_ (bu_ BK208) hb; have n1_ := bb_ (bu_ BK209) hb; have n2_ := bs_ (be_ HB) hb; clear BK208; clear BK209; clear HB; have BK208 := n0_; have BK209 := n1_; have HB := n2_; clear n0_ n1_ n2_; (try clear hcz24_0 hcz24_1 hcz24_2 hcz24_3 hcz24_4 hfz24_0 hfz24_1 hfz24_2 hfz24_3 hfz24_4); (try clear hb); (try clear hb2); (try clear hk); (try clear hi)) | ((with_reducible refine gate_dst (N := 6) rfl ?_); refine box_event ?hg (N := 6) ?hd (cs := #[.int .i64 0, .int .i64 0, .string (⟨#[]⟩ : ByteArray)]) (t := 23) ?hr ?_; (case hd => rfl); (case hg => rfl); (case hr => first | (go_simp; done) | (go_simp; rfl)); intro gb214 hg w26 hbox hb; have n0_ := bb_ (bu_ BK208) hb; have n1_ := bb_ (bu_ BK209) hb; have n2_ := bs_ (be_ HB) hb; have n3_ := Aside0.mk (hbox); have n4_ := gs_ hg (be_ HB); have n5_ := gs_ hg (be_ HB); have n6_ := nl_ hg (bu_ BK208); have n7_ := ng_ hg (bu_ BK208); have n8_ := nl_ hg (bu_ BK209); have n9_ := ng_ hg (bu_ BK209); clear BK208; clear BK209; clear HB; have BK208 := n0_; have BK209 := n1_; have HB := n2_; have BK214 := n3_; have GW214 := n4_; have GE214 := n5_; have NB208_214 := n6_; have NB214_208 := n7_; have NB209_214 := n8_; have NB214_209 := n9_; clear n0_ n1_ n2_ n3_ n4_ n5_ n6_ n7_ n8_ n9_; clear hb hbox hg; have hnb27 := NB214_208.out; have hnc27 := NB208_214.out; have hnb28 := NB214_209.out; have hnc28 := NB209_214.out; have hcz29_0 : w26.cell? ⟨gb214, 0, none⟩ = some (.int .i64 0) := (blk_cell BK214.out 0).trans rfl; have hcz29_1 : w26.cell? ⟨gb214, 1, none⟩ = some (.int .i64 0) := (blk_cell BK214.out 1).trans rfl; have hcz29_2 : w26.cell? ⟨gb214, 2, none⟩ = some (.string (⟨#[]⟩ : ByteArray)) := (blk_cell BK214.out 2).trans rfl; have hfz29_0 := blk_frozen BK214.out 0; have hfz29_1 := blk_frozen BK214.out 1; have hfz29_2 := blk_frozen BK214.out 2; have hcz30_0 : w26.cell? ⟨gb209, 0, none⟩ = some (.int .i64 0) := (blk_cell BK209.out 0).trans rfl; have hcz30_1 : w26.cell? ⟨gb209, 1, none⟩ = some (.int .i64 0) := (blk_cell BK209.out 1).trans rfl; have hcz30_2 : w26.cell? ⟨gb209, 2, none⟩ = some (.string (⟨#[]⟩ : ByteArray)) := (blk_cell BK209.out 2).trans rfl; have hfz30_0 := blk_frozen BK209.out 0; have hfz30_1 := blk_frozen BK209.out 1; have hfz30_2 := blk_frozen BK209.out 2))
      refine bodyPost_ret (results_ct rfl _ _ gb209 23 #[.int .i64 0, .int .i64 0, .string (⟨#[]⟩ : ByteArray)] (0, 0) _ rfl (bp_ BK209) Try.underlying23 rfl (by kernel_rfl)) rfl ?_
      exact ⟨by first | rfl | (simp [errW_none, errW_some] <;> rfl) | (simp [*, errW_none, errW_some] <;> rfl), by repeat (first | (with_reducible first | exact HB.out | apply below_alloc | apply pw_below_drewN | apply below_drew1 | refine below_set ?_ GE208.out | refine below_set ?_ GE209.out | refine below_set ?_ GE214.out) | exact HB.out)⟩
end Go.Proofs.Ytaopajmpifenoaa.P
end
section
namespace Go.Proofs.Ytaopajmpifenoaa.P
open Go.RowKit Go.Proofs.YtaopajmpifenoaaW.PrintWords Go.Proofs.YtaopajmpifenoaaW.PrintLast Go.Proofs.YtaopajmpifenoaaW.PrintMore
attribute [local go_sem] max2_int min2_int max_two min_two max_three min_three max_four min_four
set_option linter.unusedVariables false
set_option linter.unusedSimpArgs false
def num_in.f (a0 : Int) : Option (Bool) := if a0 ≥ (-4611686018427387904) then (some (decide (a0 ≤ 4611686018427387904))) else (some false)
set_option maxHeartbeats 8000000 in
set_option maxRecDepth 100000 in
theorem num_in.calls (a0 : Int) (r : Bool) (w : World) (h : num_in.f a0 = some r) :
    Calls Try.prog 63 #[.int .i64 a0] w fun e w' => e = .returned (.bool r) ∧ Drawn0 w w' := by
  have H : (if a0 ≥ (-4611686018427387904) then (some (decide (a0 ≤ 4611686018427387904))) else (some false)) = some r := h
  clear h
  by_cases c2 : a0 ≥ (-4611686018427387904)
  · rw [if_pos c2] at H
    have c2b0 : decide ((-4611686018427387904) ≤ a0) = true := decide_eq_true c2
    clear c2
    obtain rfl := Option.some.inj H
    go_enter Try.func63, Try.ntmps63
    go_wp2
    go_ret
    exact rz_
  · rw [if_neg c2] at H
    have c2b0 : decide ((-4611686018427387904) ≤ a0) = false := decide_eq_false c2
    clear c2
    obtain rfl := Option.some.inj H
    go_enter Try.func63, Try.ntmps63
    go_wp2
    go_ret
    exact rz_
end Go.Proofs.Ytaopajmpifenoaa.P
end
section
namespace Go.Proofs.Ytaopajmpifenoaa.P
open Go.RowKit Go.Proofs.YtaopajmpifenoaaW.PrintWords Go.Proofs.YtaopajmpifenoaaW.PrintLast Go.Proofs.YtaopajmpifenoaaW.PrintMore
attribute [local go_sem] max2_int min2_int max_two min_two max_three min_three max_four min_four
set_option linter.unusedVariables false
set_option linter.unusedSimpArgs false
def num_add.f (a0 : Int) (a1 : Int) : Option (Int × Bool) := if a1 > 0 then (if a0 > (wrap64 (4611686018427387904 - a1)) then (some (0, false)) else (if a1 < 0 then (if a0 < (wrap64 ((-4611686018427387904) - a1)) then (some (0, false)) else (some (wrap64 (a0 + a1), true))) else (some (wrap64 (a0 + a1), true)))) else (if a1 < 0 then (if a0 < (wrap64 ((-4611686018427387904) - a1)) then (some (0, false)) else (some (wrap64 (a0 + a1), true))) else (some (wrap64 (a0 + a1), true)))
set_option maxHeartbeats 8000000 in
set_option maxRecDepth 100000 in
theorem num_add.calls (a0 : Int) (a1 : Int) (r1 : Int) (r2 : Bool) (w : World) (h : num_add.f a0 a1 = some (r1, r2)) :
    Calls Try.prog 64 #[.int .i64 a0, .int .i64 a1] w fun e w' => e = .returned (.tuple #[.int .i64 r1, .bool r2]) ∧ Drawn0 w w' := by
  have H : (if a1 > 0 then (if a0 > (wrap64 (4611686018427387904 - a1)) then (some (0, false)) else (if a1 < 0 then (if a0 < (wrap64 ((-4611686018427387904) - a1)) then (some (0, false)) else (some (wrap64 (a0 + a1), true))) else (some (wrap64 (a0 + a1), true)))) else (if a1 < 0 then (if a0 < (wrap64 ((-4611686018427387904) - a1)) then (some (0, false)) else (some (wrap64 (a0 + a1), true))) else (some (wrap64 (a0 + a1), true)))) = some (r1, r2) := h
  clear h
  by_cases c3 : a1 > 0
  · rw [if_pos c3] at H
    have c3b0 : decide (0 < a1) = true := decide_eq_true c3
    clear c3
    by_cases c4 : a0 > (wrap64 (4611686018427387904 - a1))
    · rw [if_pos c4] at H
      have c4b0 : decide ((wrap64 (4611686018427387904 - a1)) < a0) = true := decide_eq_true c4
      clear c4
      simp only [Option.some.injEq, Prod.mk.injEq] at H
      obtain ⟨rfl, rfl⟩ := H
      go_enter Try.func64, Try.ntmps64
      go_wp2
      go_ret2
      exact rz_
    · rw [if_neg c4] at H
      have c4b0 : decide ((wrap64 (4611686018427387904 - a1)) < a0) = false := decide_eq_false c4
      clear c4
      by_cases c5 : a1 < 0
      · rw [if_pos c5] at H
        have c5b0 : decide (a1 < 0) = true := decide_eq_true c5
        clear c5
        by_cases c6 : a0 < (wrap64 ((-4611686018427387904) - a1))
        · rw [if_pos c6] at H
          have c6b0 : decide (a0 < (wrap64 ((-4611686018427387904) - a1))) = true := decide_eq_true c6
          clear c6
          simp only [Option.some.injEq, Prod.mk.injEq] at H
          obtain ⟨rfl, rfl⟩ := H
          go_enter Try.func64, Try.ntmps64
          go_wp2
          go_ret2
          exact rz_
        · rw [if_neg c6] at H
          have c6b0 : decide (a0 < (wrap64 ((-4611686018427387904) - a1))) = false := decide_eq_false c6
          clear c6
          simp only [Option.some.injEq, Prod.mk.injEq] at H
          obtain ⟨rfl, rfl⟩ := H
          go_enter Try.func64, Try.ntmps64
          go_wp2
          go_ret2
          exact rz_
      · rw [if_neg c5] at H
        have c5b0 : decide (a1 < 0) = false := decide_eq_false c5
        clear c5
        simp only [Option.some.injEq, Prod.mk.injEq] at H
        obtain ⟨rfl, rfl⟩ := H
        go_enter Try.func64, Try.ntmps64
        go_wp2
        go_ret2
        exact rz_
  · rw [if_neg c3] at H
    have c3b0 : decide (0 < a1) = false := decide_eq_false c3
    clear c3
    by_cases c7 : a1 < 0
    · rw [if_pos c7] at H
      have c7b0 : decide (a1 < 0) = true := decide_eq_true c7
      clear c7
      by_cases c8 : a0 < (wrap64 ((-4611686018427387904) - a1))
      · rw [if_pos c8] at H
        have c8b0 : decide (a0 < (wrap64 ((-4611686018427387904) - a1))) = true := decide_eq_true c8
        clear c8
        simp only [Option.some.injEq, Prod.mk.injEq] at H
        obtain ⟨rfl, rfl⟩ := H
        go_enter Try.func64, Try.ntmps64
        go_wp2
        go_ret2
        exact rz_
      · rw [if_neg c8] at H
        have c8b0 : decide (a0 < (wrap64 ((-4611686018427387904) - a1))) = false := decide_eq_false c8
        clear c8
        simp only [Option.some.injEq, Prod.mk.injEq] at H
        obtain ⟨rfl, rfl⟩ := H
        go_enter Try.func64, Try.ntmps64
        go_wp2
        go_ret2
        exact rz_
    · rw [if_neg c7] at H
      have c7b0 : decide (a1 < 0) = false := decide_eq_false c7
      clear c7
      simp only [Option.some.injEq, Prod.mk.injEq] at H
      obtain ⟨rfl, rfl⟩ := H
      go_enter Try.func64, Try.ntmps64
      go_wp2
      go_ret2
      exact rz_
end Go.Proofs.Ytaopajmpifenoaa.P
end
section
namespace Go.Proofs.Ytaopajmpifenoaa.P
open Go.RowKit Go.Proofs.YtaopajmpifenoaaW.PrintWords Go.Proofs.YtaopajmpifenoaaW.PrintLast Go.Proofs.YtaopajmpifenoaaW.PrintMore
attribute [local go_sem] max2_int min2_int max_two min_two max_three min_three max_four min_four
set_option linter.unusedVariables false
set_option linter.unusedSimpArgs false
def bits_Mul64.f (a0 : Int) (a1 : Int) : Option (Int × Int) := some (IntKind.u64.wrap ((IntKind.u64.wrap ((IntKind.u64.wrap ((a0 / 4294967296) * (a1 / 4294967296))) + ((IntKind.u64.wrap ((IntKind.u64.wrap ((a0 / 4294967296) * (Go.bits .and .u64 a1 4294967295))) + ((IntKind.u64.wrap ((Go.bits .and .u64 a0 4294967295) * (Go.bits .and .u64 a1 4294967295))) / 4294967296))) / 4294967296))) + ((IntKind.u64.wrap ((Go.bits .and .u64 (IntKind.u64.wrap ((IntKind.u64.wrap ((a0 / 4294967296) * (Go.bits .and .u64 a1 4294967295))) + ((IntKind.u64.wrap ((Go.bits .and .u64 a0 4294967295) * (Go.bits .and .u64 a1 4294967295))) / 4294967296))) 4294967295) + (IntKind.u64.wrap ((Go.bits .and .u64 a0 4294967295) * (a1 / 4294967296))))) / 4294967296)), IntKind.u64.wrap (a0 * a1))
set_option maxHeartbeats 8000000 in
set_option maxRecDepth 100000 in
theorem bits_Mul64.calls (a0 : Int) (a1 : Int) (r1 : Int) (r2 : Int) (w : World) (h : bits_Mul64.f a0 a1 = some (r1, r2)) :
    Calls Try.prog 68 #[.int .u64 a0, .int .u64 a1] w fun e w' => e = .returned (.tuple #[.int .u64 r1, .int .u64 r2]) ∧ Drawn0 w w' := by
  have H : (some (IntKind.u64.wrap ((IntKind.u64.wrap ((IntKind.u64.wrap ((a0 / 4294967296) * (a1 / 4294967296))) + ((IntKind.u64.wrap ((IntKind.u64.wrap ((a0 / 4294967296) * (Go.bits .and .u64 a1 4294967295))) + ((IntKind.u64.wrap ((Go.bits .and .u64 a0 4294967295) * (Go.bits .and .u64 a1 4294967295))) / 4294967296))) / 4294967296))) + ((IntKind.u64.wrap ((Go.bits .and .u64 (IntKind.u64.wrap ((IntKind.u64.wrap ((a0 / 4294967296) * (Go.bits .and .u64 a1 4294967295))) + ((IntKind.u64.wrap ((Go.bits .and .u64 a0 4294967295) * (Go.bits .and .u64 a1 4294967295))) / 4294967296))) 4294967295) + (IntKind.u64.wrap ((Go.bits .and .u64 a0 4294967295) * (a1 / 4294967296))))) / 4294967296)), IntKind.u64.wrap (a0 * a1))) = some (r1, r2) := h
  clear h
  simp only [Option.some.injEq, Prod.mk.injEq] at H
  obtain ⟨rfl, rfl⟩ := H
  go_enter Try.func68, Try.ntmps68
  go_wp2
  go_ret2
  exact rz_
end Go.Proofs.Ytaopajmpifenoaa.P
end
section
namespace Go.Proofs.Ytaopajmpifenoaa.P
open Go.RowKit Go.Proofs.YtaopajmpifenoaaW.PrintWords Go.Proofs.YtaopajmpifenoaaW.PrintLast Go.Proofs.YtaopajmpifenoaaW.PrintMore
attribute [local go_sem] max2_int min2_int max_two min_two max_three min_three max_four min_four
set_option linter.unusedVariables false
set_option linter.unusedSimpArgs false
def num_size.f (a0 : Int) : Option (Int) := if a0 < 0 then (some (IntKind.u64.wrap (wrap64 (-a0)))) else (some (IntKind.u64.wrap (a0)))
set_option maxHeartbeats 8000000 in
set_option maxRecDepth 100000 in
theorem num_size.calls (a0 : Int) (r : Int) (w : World) (h : num_size.f a0 = some r) :
    Calls Try.prog 69 #[.int .i64 a0] w fun e w' => e = .returned (.int .u64 r) ∧ Drawn0 w w' := by
  have H : (if a0 < 0 then (some (IntKind.u64.wrap (wrap64 (-a0)))) else (some (IntKind.u64.wrap (a0)))) = some r := h
  clear h
  by_cases c2 : a0 < 0
  · rw [if_pos c2] at H
    have c2b0 : decide (a0 < 0) = true := decide_eq_true c2
    clear c2
    obtain rfl := Option.some.inj H
    go_enter Try.func69, Try.ntmps69
    go_wp2
    go_ret
    exact rz_
  · rw [if_neg c2] at H
    have c2b0 : decide (a0 < 0) = false := decide_eq_false c2
    clear c2
    obtain rfl := Option.some.inj H
    go_enter Try.func69, Try.ntmps69
    go_wp2
    go_ret
    exact rz_
end Go.Proofs.Ytaopajmpifenoaa.P
end
section
namespace Go.Proofs.Ytaopajmpifenoaa.P
open Go.RowKit Go.Proofs.YtaopajmpifenoaaW.PrintWords Go.Proofs.YtaopajmpifenoaaW.PrintLast Go.Proofs.YtaopajmpifenoaaW.PrintMore
attribute [local go_sem] max2_int min2_int max_two min_two max_three min_three max_four min_four
set_option linter.unusedVariables false
set_option linter.unusedSimpArgs false
def num_mul.j0 : Nat → Int → Int → Int → Bool → Option (Int × Bool)
  | 0, _, _, _, _ => none
  | k + 1, x0, x1, x7, x21 => if x21 = true then (some (0, false)) else (if ((decide (x0 < 0)) != (decide (x1 < 0))) = true then (some (wrap64 (-(wrap64 (x7))), true)) else (some (wrap64 (x7), true)))
def num_mul.f (k : Nat) (a0 : Int) (a1 : Int) : Option (Int × Bool) := (num_size.f a0).bind fun t215 => ((num_size.f a1).bind fun t216 => ((bits_Mul64.f t215 t216).bind fun bt217 => (if bt217.1 > 0 then (num_mul.j0 k a0 a1 bt217.2 true) else (num_mul.j0 k a0 a1 bt217.2 (decide (bt217.2 > 4611686018427387904))))))
theorem num_mul.mono_l : ∀ k, (∀ y0 y1 y2 y3, LeO (num_mul.j0 k y0 y1 y2 y3) (num_mul.j0 (k + 1) y0 y1 y2 y3))
  | 0 => fun _ _ _ _ r h => by simp [num_mul.j0] at h
  | k + 1 => by
    have ih0 := num_mul.mono_l k
    · intro y0 y1 y2 y3
      unfold num_mul.j0
      repeat' first
      | (with_reducible exact ih0 _ _ _ _)
      | (with_reducible exact LeO.refl _)
      | (with_reducible exact LeO.none _)
      | (with_reducible refine LeO.ite ?_ ?_)
      | (with_reducible refine LeO.bind ?_ (fun _ => ?_))
      | exact ih0 _ _ _ _
      | exact LeO.none _
      | refine LeO.ite ?_ ?_
      | refine LeO.bind ?_ (fun _ => ?_)
theorem num_mul.mono : ∀ a0 a1 k, LeO (num_mul.f k a0 a1) (num_mul.f (k + 1) a0 a1) := by
  intro a0 a1 k
  have ih0 := num_mul.mono_l k
  unfold num_mul.f
  repeat' first
      | (with_reducible exact ih0 _ _ _ _)
      | (with_reducible exact LeO.refl _)
      | (with_reducible exact LeO.none _)
      | (with_reducible refine LeO.ite ?_ ?_)
      | (with_reducible refine LeO.bind ?_ (fun _ => ?_))
      | exact ih0 _ _ _ _
      | exact LeO.none _
      | refine LeO.ite ?_ ?_
      | refine LeO.bind ?_ (fun _ => ?_)
set_option maxHeartbeats 8000000 in
set_option maxRecDepth 100000 in
theorem num_mul.calls (k : Nat) (a0 : Int) (a1 : Int) (r1 : Int) (r2 : Bool) (w : World) (h : num_mul.f k a0 a1 = some (r1, r2)) :
    Calls Try.prog 65 #[.int .i64 a0, .int .i64 a1] w fun e w' => e = .returned (.tuple #[.int .i64 r1, .bool r2]) ∧ Drawn0 w w' := by
  have H : ((num_size.f a0).bind fun t215 => ((num_size.f a1).bind fun t216 => ((bits_Mul64.f t215 t216).bind fun bt217 => (if bt217.1 > 0 then (num_mul.j0 k a0 a1 bt217.2 true) else (num_mul.j0 k a0 a1 bt217.2 (decide (bt217.2 > 4611686018427387904))))))) = some (r1, r2) := h
  clear h
  replace H := Option.bind_eq_some_iff.mp H
  obtain ⟨t215, A30, H⟩ := H
  replace H : ((num_size.f a1).bind fun t216 => ((bits_Mul64.f t215 t216).bind fun bt217 => (if bt217.1 > 0 then (num_mul.j0 k a0 a1 bt217.2 true) else (num_mul.j0 k a0 a1 bt217.2 (decide (bt217.2 > 4611686018427387904)))))) = some (r1, r2) := H
  have A3 := Aside0.mk A30
  clear A30
  replace H := Option.bind_eq_some_iff.mp H
  obtain ⟨t216, A40, H⟩ := H
  replace H : ((bits_Mul64.f t215 t216).bind fun bt217 => (if bt217.1 > 0 then (num_mul.j0 k a0 a1 bt217.2 true) else (num_mul.j0 k a0 a1 bt217.2 (decide (bt217.2 > 4611686018427387904))))) = some (r1, r2) := H
  have A4 := Aside0.mk A40
  clear A40
  replace H := Option.bind_eq_some_iff.mp H
  obtain ⟨⟨t217, t218⟩, A50, H⟩ := H
  replace H : (if t217 > 0 then (num_mul.j0 k a0 a1 t218 true) else (num_mul.j0 k a0 a1 t218 (decide (t218 > 4611686018427387904)))) = some (r1, r2) := H
  have A5 := Aside0.mk A50
  clear A50
  have HC6 := Aside0.mk H
  clear H
  go_enter Try.func65, Try.ntmps65
  go_upto_region 2 with (first | ((with_reducible refine gate_callee (f := 69) rfl ?_); refine goesL_ (some 10) rfl rfl Try.func69 (by kernel_rfl) rfl #[.int .i64 a0] rfl ga_ ?_; (with_reducible refine (num_size.calls a0 t215 _ A3.out).mono ?_); rintro e w' ⟨rfl, ⟨nd, rfl⟩⟩; refine ⟨_, rfl, ?_⟩) | ((with_reducible refine gate_callee (f := 69) rfl ?_); refine goesL_ (some 12) rfl rfl Try.func69 (by kernel_rfl) rfl #[.int .i64 a1] rfl ga_ ?_; (with_reducible refine (num_size.calls a1 t216 _ A4.out).mono ?_); rintro e w' ⟨rfl, ⟨nd, rfl⟩⟩; refine ⟨_, rfl, ?_⟩) | ((with_reducible refine gate_callee (f := 68) rfl ?_); refine goesL_ (some 13) rfl rfl Try.func68 (by kernel_rfl) rfl #[.int .u64 t215, .int .u64 t216] rfl ga_ ?_; (with_reducible refine (bits_Mul64.calls t215 t216 t217 t218 _ A5.out).mono ?_); rintro e w' ⟨rfl, ⟨nd, rfl⟩⟩; refine ⟨_, rfl, ?_⟩))
  (try simp only [Act.put, List.setIfInBounds_toArray, List.set_cons_zero, List.set_cons_succ])
  go_cut [21] (fun v21 wc => ∃ (kq : Nat) (x21_5 : Bool), v21 = .bool x21_5 ∧ Aside0 (num_mul.j0 kq a0 a1 t218 x21_5 = some (r1, r2)) ∧ Aside0 (kq ≤ k) ∧ Drawn0 w wc)
  case first =>
    have H := HC6.out
    clear HC6
    by_cases c7 : t217 > 0
    · rw [if_pos c7] at H
      have c7b0 : decide (0 < t217) = true := decide_eq_true c7
      clear c7
      (first | rw [c7b0] | (simp only [i64_w, i32_w]; rw [c7b0]) | skip)
      have H' := Aside0.mk H
      clear H
      go_wp2
      go_meet
      case rel => exact ⟨_, (true), ra_, H', ⟨by first | omega | exact Nat.le_refl _⟩, dz_⟩
    · rw [if_neg c7] at H
      have c7b0 : decide (0 < t217) = false := decide_eq_false c7
      clear c7
      (first | rw [c7b0] | (simp only [i64_w, i32_w]; rw [c7b0]) | skip)
      have H' := Aside0.mk H
      clear H
      go_wp2
      go_meet
      case rel => exact ⟨_, (decide (t218 > 4611686018427387904)), ra_, H', ⟨by first | omega | exact Nat.le_refl _⟩, dz_⟩
  case rest =>
    clear HC6
    try clear p2
    try clear c6
    try clear c7
    try clear c7b0
    obtain ⟨kq, x21_5, rfl, HA, HJ5, ⟨mc5, rfl⟩⟩ := hcut
    cases kq with
    | zero => exact absurd HA.out (by simp [num_mul.j0])
    | succ kj5 =>
      have H := HA.out
      clear HA
      simp only [num_mul.j0] at H
      by_cases c8 : x21_5 = true
      · subst c8
        have H1 : (some (0, false)) = some (r1, r2) := by rw [if_pos rfl] at H; exact H
        clear H
        have H := H1
        clear H1
        simp only [Option.some.injEq, Prod.mk.injEq] at H
        obtain ⟨rfl, rfl⟩ := H
        go_wp2
        go_ret2
        exact rz_
      · replace c8 := Bool.eq_false_iff.mpr c8
        subst c8
        have H1 : (if ((decide (a0 < 0)) != (decide (a1 < 0))) = true then (some (wrap64 (-(wrap64 (t218))), true)) else (some (wrap64 (t218), true))) = some (r1, r2) := by rw [if_neg (show ¬ (false = true) by decide)] at H; exact H
        clear H
        have H := H1
        clear H1
        by_cases c9 : ((decide (a0 < 0)) != (decide (a1 < 0))) = true
        · rw [if_pos c9] at H
          have c9b0 : ((decide (a0 < 0)) != (decide (a1 < 0))) = true := c9
          (try (have c9b1 : decide ((decide (a0 < 0)) = (decide (a1 < 0))) = false := by simpa using c9))
          (try (have c9b2 : ((decide (a0 < 0)) == (decide (a1 < 0))) = false := by simpa using c9))
          (try (have c9b3 : ¬ ((decide (a0 < 0)) = (decide (a1 < 0))) := by simpa using c9))
          clear c9
          simp only [Option.some.injEq, Prod.mk.injEq] at H
          obtain ⟨rfl, rfl⟩ := H
          go_wp2
          go_ret2
          exact rz_
        · rw [if_neg c9] at H
          have c9b0 : ((decide (a0 < 0)) != (decide (a1 < 0))) = false := by simpa using c9
          (try (have c9b1 : decide ((decide (a0 < 0)) = (decide (a1 < 0))) = true := by simpa using c9))
          (try (have c9b2 : ((decide (a0 < 0)) == (decide (a1 < 0))) = true := by simpa using c9))
          clear c9
          simp only [Option.some.injEq, Prod.mk.injEq] at H
          obtain ⟨rfl, rfl⟩ := H
          go_wp2
          go_ret2
          exact rz_
end Go.Proofs.Ytaopajmpifenoaa.P
end
section
namespace Go.Proofs.Ytaopajmpifenoaa.P
open Go.RowKit Go.Proofs.YtaopajmpifenoaaW.PrintWords Go.Proofs.YtaopajmpifenoaaW.PrintLast Go.Proofs.YtaopajmpifenoaaW.PrintMore
attribute [local go_sem] max2_int min2_int max_two min_two max_three min_three max_four min_four
set_option linter.unusedVariables false
set_option linter.unusedSimpArgs false
mutual
def num_Do.j0 : Nat → Int → Int → Int → Bool → Option (Int × Int)
  | 0, _, _, _, _ => none
  | k + 1, x0, x1, x2, x19 => if x19 = true then (some (0, 3)) else ((num_in.f x1).bind fun t219 => (if t219 = true then ((num_in.f x2).bind fun t220 => (num_Do.j1 k x0 x1 x2 (!t220))) else (num_Do.j1 k x0 x1 x2 true)))
def num_Do.j1 : Nat → Int → Int → Int → Bool → Option (Int × Int)
  | 0, _, _, _, _ => none
  | k + 1, x0, x1, x2, x27 => if x27 = true then (some (0, 4)) else (if x0 = 3 then ((num_add.f x1 x2).bind fun bt221 => (if bt221.2 = true then (some (bt221.1, 0)) else (some (0, 4)))) else (if x0 = 4 then ((num_add.f x1 (wrap64 (-x2))).bind fun bt223 => (if bt223.2 = true then (some (bt223.1, 0)) else (some (0, 4)))) else ((num_mul.f k x1 x2).bind fun bt225 => (if bt225.2 = true then (some (bt225.1, 0)) else (some (0, 4))))))
end
def num_Do.f (k : Nat) (a0 : Int) (a1 : Int) (a2 : Int) : Option (Int × Int) := if a0 = 3 then (num_Do.j0 k a0 a1 a2 false) else (if a0 = 4 then (num_Do.j0 k a0 a1 a2 false) else (num_Do.j0 k a0 a1 a2 (a0 != 5)))
theorem num_Do.mono_l : ∀ k, (∀ y0 y1 y2 y3, LeO (num_Do.j0 k y0 y1 y2 y3) (num_Do.j0 (k + 1) y0 y1 y2 y3)) ∧ (∀ y0 y1 y2 y3, LeO (num_Do.j1 k y0 y1 y2 y3) (num_Do.j1 (k + 1) y0 y1 y2 y3))
  | 0 => ⟨fun _ _ _ _ r h => by simp [num_Do.j0] at h, fun _ _ _ _ r h => by simp [num_Do.j1] at h⟩
  | k + 1 => by
    obtain ⟨ih0, ih1⟩ := num_Do.mono_l k
    refine ⟨?_, ?_⟩
    · intro y0 y1 y2 y3
      unfold num_Do.j0
      repeat' first
      | (with_reducible exact ih0 _ _ _ _)
      | (with_reducible exact ih1 _ _ _ _)
      | (with_reducible exact num_mul.mono _ _ _)
      | (with_reducible exact LeO.refl _)
      | (with_reducible exact LeO.none _)
      | (with_reducible refine LeO.ite ?_ ?_)
      | (with_reducible refine LeO.bind ?_ (fun _ => ?_))
      | exact ih0 _ _ _ _
      | exact ih1 _ _ _ _
      | exact num_mul.mono _ _ _
      | exact LeO.none _
      | refine LeO.ite ?_ ?_
      | refine LeO.bind ?_ (fun _ => ?_)
    · intro y0 y1 y2 y3
      unfold num_Do.j1
      repeat' first
      | (with_reducible exact ih0 _ _ _ _)
      | (with_reducible exact ih1 _ _ _ _)
      | (with_reducible exact num_mul.mono _ _ _)
      | (with_reducible exact LeO.refl _)
      | (with_reducible exact LeO.none _)
      | (with_reducible refine LeO.ite ?_ ?_)
      | (with_reducible refine LeO.bind ?_ (fun _ => ?_))
      | exact ih0 _ _ _ _
      | exact ih1 _ _ _ _
      | exact num_mul.mono _ _ _
      | exact LeO.none _
      | refine LeO.ite ?_ ?_
      | refine LeO.bind ?_ (fun _ => ?_)
theorem num_Do.mono : ∀ a0 a1 a2 k, LeO (num_Do.f k a0 a1 a2) (num_Do.f (k + 1) a0 a1 a2) := by
  intro a0 a1 a2 k
  obtain ⟨ih0, ih1⟩ := num_Do.mono_l k
  unfold num_Do.f
  repeat' first
      | (with_reducible exact ih0 _ _ _ _)
      | (with_reducible exact ih1 _ _ _ _)
      | (with_reducible exact num_mul.mono _ _ _)
      | (with_reducible exact LeO.refl _)
      | (with_reducible exact LeO.none _)
      | (with_reducible refine LeO.ite ?_ ?_)
      | (with_reducible refine LeO.bind ?_ (fun _ => ?_))
      | exact ih0 _ _ _ _
      | exact ih1 _ _ _ _
      | exact num_mul.mono _ _ _
      | exact LeO.none _
      | refine LeO.ite ?_ ?_
      | refine LeO.bind ?_ (fun _ => ?_)
set_option maxHeartbeats 8000000 in
set_option maxRecDepth 100000 in
theorem num_Do.calls (k : Nat) (a0 : Int) (a1 : Int) (a2 : Int) (r1 : Int) (r2 : Int) (w : World) (h : num_Do.f k a0 a1 a2 = some (r1, r2)) :
    Calls Try.prog 55 #[.int .i64 a0, .int .i64 a1, .int .i64 a2] w fun e w' => e = .returned (.tuple #[.int .i64 r1, .int .i64 r2]) ∧ Drawn0 w w' := by
  have H : (if a0 = 3 then (num_Do.j0 k a0 a1 a2 false) else (if a0 = 4 then (num_Do.j0 k a0 a1 a2 false) else (num_Do.j0 k a0 a1 a2 (a0 != 5)))) = some (r1, r2) := h
  clear h
  have HC4 := Aside0.mk H
  clear H
  go_enter Try.func55, Try.ntmps55
  go_upto_region 1 with (fail)
  go_cut [19] (fun v19 wc => ∃ (kq : Nat) (x19_3 : Bool), v19 = .bool x19_3 ∧ Aside0 (num_Do.j0 kq a0 a1 a2 x19_3 = some (r1, r2)) ∧ Aside0 (kq ≤ k) ∧ Drawn0 w wc)
  case first =>
    have H := HC4.out
    clear HC4
    by_cases c5 : a0 = 3
    · rw [if_pos c5] at H
      obtain ⟨c5b0, c5b1⟩ := eqB_ c5
      clear c5
      (first | rw [c5b0] | (simp only [i64_w, i32_w]; rw [c5b0]) | skip)
      have H' := Aside0.mk H
      clear H
      go_wp2
      go_meet
      case rel => exact ⟨_, (false), ra_, H', ⟨by first | omega | exact Nat.le_refl _⟩, dz_⟩
    · rw [if_neg c5] at H
      obtain ⟨c5b0, c5b1⟩ := neB_ c5
      (first | rw [c5b0] | (simp only [i64_w, i32_w]; rw [c5b0]) | skip)
      by_cases c6 : a0 = 4
      · rw [if_pos c6] at H
        obtain ⟨c6b0, c6b1⟩ := eqB_ c6
        clear c6
        have H' := Aside0.mk H
        clear H
        go_wp2
        go_meet
        case rel => exact ⟨_, (false), ra_, H', ⟨by first | omega | exact Nat.le_refl _⟩, dz_⟩
      · rw [if_neg c6] at H
        obtain ⟨c6b0, c6b1⟩ := neB_ c6
        have H' := Aside0.mk H
        clear H
        go_wp2
        go_meet
        case rel => exact ⟨_, ((a0 != 5)), ra_, H', ⟨by first | omega | exact Nat.le_refl _⟩, dz_⟩
  case rest =>
    clear HC4
    try clear p2
    try clear c5
    try clear c5b0
    try clear c5b1
    try clear c6
    try clear c6b0
    try clear c6b1
    obtain ⟨kq, x19_3, rfl, HA, HJ3, ⟨mc3, rfl⟩⟩ := hcut
    cases kq with
    | zero => exact absurd HA.out (by simp [num_Do.j0])
    | succ kj3 =>
      have H := HA.out
      clear HA
      simp only [num_Do.j0] at H
      by_cases c7 : x19_3 = true
      · subst c7
        have H1 : (some (0, 3)) = some (r1, r2) := by rw [if_pos rfl] at H; exact H
        clear H
        have H := H1
        clear H1
        simp only [Option.some.injEq, Prod.mk.injEq] at H
        obtain ⟨rfl, rfl⟩ := H
        go_wp2
        go_ret2
        exact rz_
      · replace c7 := Bool.eq_false_iff.mpr c7
        subst c7
        have H1 : ((num_in.f a1).bind fun t219 => (if t219 = true then ((num_in.f a2).bind fun t220 => (num_Do.j1 kj3 a0 a1 a2 (!t220))) else (num_Do.j1 kj3 a0 a1 a2 true))) = some (r1, r2) := by rw [if_neg (show ¬ (false = true) by decide)] at H; exact H
        clear H
        have H := H1
        clear H1
        have HC8 := Aside0.mk H
        clear H
        go_upto_region 3 with (fail)
        go_cut [27] (fun v27 wc => ∃ (kq : Nat) (x27_7 : Bool), v27 = .bool x27_7 ∧ Aside0 (num_Do.j1 kq a0 a1 a2 x27_7 = some (r1, r2)) ∧ Aside0 (kq ≤ kj3) ∧ Drawn0 w wc)
        case first =>
          have H := HC8.out
          clear HC8
          replace H := Option.bind_eq_some_iff.mp H
          obtain ⟨t219, A90, H⟩ := H
          replace H : (if t219 = true then ((num_in.f a2).bind fun t220 => (num_Do.j1 kj3 a0 a1 a2 (!t220))) else (num_Do.j1 kj3 a0 a1 a2 true)) = some (r1, r2) := H
          have A9 := Aside0.mk A90
          clear A90
          by_cases c10 : t219 = true
          · subst c10
            have H1 : ((num_in.f a2).bind fun t220 => (num_Do.j1 kj3 a0 a1 a2 (!t220))) = some (r1, r2) := by rw [if_pos rfl] at H; exact H
            clear H
            have H := H1
            clear H1
            replace H := Option.bind_eq_some_iff.mp H
            obtain ⟨t220, A110, H⟩ := H
            replace H : (num_Do.j1 kj3 a0 a1 a2 (!t220)) = some (r1, r2) := H
            have A11 := Aside0.mk A110
            clear A110
            have H' := Aside0.mk H
            clear H
            go_wp2_with (first | ((with_reducible refine gate_callee (f := 63) rfl ?_); refine goesL_ (some 21) rfl rfl Try.func63 (by kernel_rfl) rfl #[.int .i64 a1] rfl ga_ ?_; (with_reducible refine (num_in.calls a1 true _ A9.out).mono ?_); rintro e w' ⟨rfl, ⟨nd, rfl⟩⟩; refine ⟨_, rfl, ?_⟩) | (go_at_call 63; (with_reducible refine (num_in.calls a2 t220 _ A11.out).mono ?_); rintro e w' ⟨rfl, ⟨nd, rfl⟩⟩))
            go_meet
            case rel => exact ⟨_, (!t220), ra_, H', ⟨by have := HJ3.out; first | omega | exact Nat.le_refl _⟩, dz_⟩
          · replace c10 := Bool.eq_false_iff.mpr c10
            subst c10
            have H1 : (num_Do.j1 kj3 a0 a1 a2 true) = some (r1, r2) := by rw [if_neg (show ¬ (false = true) by decide)] at H; exact H
            clear H
            have H := H1
            clear H1
            have H' := Aside0.mk H
            clear H
            go_wp2_with (first | ((with_reducible refine gate_callee (f := 63) rfl ?_); refine goesL_ (some 21) rfl rfl Try.func63 (by kernel_rfl) rfl #[.int .i64 a1] rfl ga_ ?_; (with_reducible refine (num_in.calls a1 false _ A9.out).mono ?_); rintro e w' ⟨rfl, ⟨nd, rfl⟩⟩; refine ⟨_, rfl, ?_⟩))
            go_meet
            case rel => exact ⟨_, (true), ra_, H', ⟨by have := HJ3.out; first | omega | exact Nat.le_refl _⟩, dz_⟩
        case rest =>
          clear HC8
          try clear c1
          try clear p2
          try clear c3
          try clear c5
          try clear c5b0
          try clear c5b1
          try clear c6
          try clear c6b0
          try clear c6b1
          try clear c7
          try clear c10
          try clear p2
          obtain ⟨kq, x27_7, rfl, HA, HJ7, ⟨mc7, rfl⟩⟩ := hcut
          cases kq with
          | zero => exact absurd HA.out (by simp [num_Do.j1])
          | succ kj7 =>
            have H := HA.out
            clear HA
            simp only [num_Do.j1] at H
            by_cases c12 : x27_7 = true
            · subst c12
              have H1 : (some (0, 4)) = some (r1, r2) := by rw [if_pos rfl] at H; exact H
              clear H
              have H := H1
              clear H1
              simp only [Option.some.injEq, Prod.mk.injEq] at H
              obtain ⟨rfl, rfl⟩ := H
              go_wp2
              go_ret2
              exact rz_
            · replace c12 := Bool.eq_false_iff.mpr c12
              subst c12
              have H1 : (if a0 = 3 then ((num_add.f a1 a2).bind fun bt221 => (if bt221.2 = true then (some (bt221.1, 0)) else (some (0, 4)))) else (if a0 = 4 then ((num_add.f a1 (wrap64 (-a2))).bind fun bt223 => (if bt223.2 = true then (some (bt223.1, 0)) else (some (0, 4)))) else ((num_mul.f kj7 a1 a2).bind fun bt225 => (if bt225.2 = true then (some (bt225.1, 0)) else (some (0, 4)))))) = some (r1, r2) := by rw [if_neg (show ¬ (false = true) by decide)] at H; exact H
              clear H
              have H := H1
              clear H1
              by_cases c13 : a0 = 3
              · rw [if_pos c13] at H
                obtain ⟨c13b0, c13b1⟩ := eqB_ c13
                clear c13
                replace H := Option.bind_eq_some_iff.mp H
                obtain ⟨⟨t221, t222⟩, A140, H⟩ := H
                replace H : (if t222 = true then (some (t221, 0)) else (some (0, 4))) = some (r1, r2) := H
                have A14 := Aside0.mk A140
                clear A140
                by_cases c15 : t222 = true
                · subst c15
                  have H1 : (some (t221, 0)) = some (r1, r2) := by rw [if_pos rfl] at H; exact H
                  clear H
                  have H := H1
                  clear H1
                  simp only [Option.some.injEq, Prod.mk.injEq] at H
                  obtain ⟨rfl, rfl⟩ := H
                  go_wp2_with (first | ((with_reducible refine gate_callee (f := 64) rfl ?_); refine goesL_ (some 40) rfl rfl Try.func64 (by kernel_rfl) rfl #[.int .i64 a1, .int .i64 a2] rfl ga_ ?_; (with_reducible refine (num_add.calls a1 a2 t221 true _ A14.out).mono ?_); rintro e w' ⟨rfl, ⟨nd, rfl⟩⟩; refine ⟨_, rfl, ?_⟩))
                  go_ret2
                  exact rz_
                · replace c15 := Bool.eq_false_iff.mpr c15
                  subst c15
                  have H1 : (some (0, 4)) = some (r1, r2) := by rw [if_neg (show ¬ (false = true) by decide)] at H; exact H
                  clear H
                  have H := H1
                  clear H1
                  simp only [Option.some.injEq, Prod.mk.injEq] at H
                  obtain ⟨rfl, rfl⟩ := H
                  go_wp2_with (first | ((with_reducible refine gate_callee (f := 64) rfl ?_); refine goesL_ (some 40) rfl rfl Try.func64 (by kernel_rfl) rfl #[.int .i64 a1, .int .i64 a2] rfl ga_ ?_; (with_reducible refine (num_add.calls a1 a2 t221 false _ A14.out).mono ?_); rintro e w' ⟨rfl, ⟨nd, rfl⟩⟩; refine ⟨_, rfl, ?_⟩))
                  go_ret2
                  exact rz_
              · rw [if_neg c13] at H
                obtain ⟨c13b0, c13b1⟩ := neB_ c13
                by_cases c16 : a0 = 4
                · rw [if_pos c16] at H
                  obtain ⟨c16b0, c16b1⟩ := eqB_ c16
                  clear c16
                  replace H := Option.bind_eq_some_iff.mp H
                  obtain ⟨⟨t223, t224⟩, A170, H⟩ := H
                  replace H : (if t224 = true then (some (t223, 0)) else (some (0, 4))) = some (r1, r2) := H
                  have A17 := Aside0.mk A170
                  clear A170
                  by_cases c18 : t224 = true
                  · subst c18
                    have H1 : (some (t223, 0)) = some (r1, r2) := by rw [if_pos rfl] at H; exact H
                    clear H
                    have H := H1
                    clear H1
                    simp only [Option.some.injEq, Prod.mk.injEq] at H
                    obtain ⟨rfl, rfl⟩ := H
                    go_wp2_with (first | ((with_reducible refine gate_callee (f := 64) rfl ?_); refine goesL_ (some 49) rfl rfl Try.func64 (by kernel_rfl) rfl #[.int .i64 a1, .int .i64 (wrap64 (-a2))] rfl ga_ ?_; (with_reducible refine (num_add.calls a1 (wrap64 (-a2)) t223 true _ A17.out).mono ?_); rintro e w' ⟨rfl, ⟨nd, rfl⟩⟩; refine ⟨_, rfl, ?_⟩))
                    go_ret2
                    exact rz_
                  · replace c18 := Bool.eq_false_iff.mpr c18
                    subst c18
                    have H1 : (some (0, 4)) = some (r1, r2) := by rw [if_neg (show ¬ (false = true) by decide)] at H; exact H
                    clear H
                    have H := H1
                    clear H1
                    simp only [Option.some.injEq, Prod.mk.injEq] at H
                    obtain ⟨rfl, rfl⟩ := H
                    go_wp2_with (first | ((with_reducible refine gate_callee (f := 64) rfl ?_); refine goesL_ (some 49) rfl rfl Try.func64 (by kernel_rfl) rfl #[.int .i64 a1, .int .i64 (wrap64 (-a2))] rfl ga_ ?_; (with_reducible refine (num_add.calls a1 (wrap64 (-a2)) t223 false _ A17.out).mono ?_); rintro e w' ⟨rfl, ⟨nd, rfl⟩⟩; refine ⟨_, rfl, ?_⟩))
                    go_ret2
                    exact rz_
                · rw [if_neg c16] at H
                  obtain ⟨c16b0, c16b1⟩ := neB_ c16
                  replace H := Option.bind_eq_some_iff.mp H
                  obtain ⟨⟨t225, t226⟩, A190, H⟩ := H
                  replace H : (if t226 = true then (some (t225, 0)) else (some (0, 4))) = some (r1, r2) := H
                  have A19 := Aside0.mk A190
                  clear A190
                  by_cases c20 : t226 = true
                  · subst c20
                    have H1 : (some (t225, 0)) = some (r1, r2) := by rw [if_pos rfl] at H; exact H
                    clear H
                    have H := H1
                    clear H1
                    simp only [Option.some.injEq, Prod.mk.injEq] at H
                    obtain ⟨rfl, rfl⟩ := H
                    go_wp2_with (first | ((with_reducible refine gate_callee (f := 65) rfl ?_); refine goesL_ (some 32) rfl rfl Try.func65 (by kernel_rfl) rfl #[.int .i64 a1, .int .i64 a2] rfl ga_ ?_; (with_reducible refine (num_mul.calls kj7 a1 a2 t225 true _ A19.out).mono ?_); rintro e w' ⟨rfl, ⟨nd, rfl⟩⟩; refine ⟨_, rfl, ?_⟩))
                    go_ret2
                    exact rz_
                  · replace c20 := Bool.eq_false_iff.mpr c20
                    subst c20
                    have H1 : (some (0, 4)) = some (r1, r2) := by rw [if_neg (show ¬ (false = true) by decide)] at H; exact H
                    clear H
                    have H := H1
                    clear H1
                    simp only [Option.some.injEq, Prod.mk.injEq] at H
                    obtain ⟨rfl, rfl⟩ := H
                    go_wp2_with (first | ((with_reducible refine gate_callee (f := 65) rfl ?_); refine goesL_ (some 32) rfl rfl Try.func65 (by kernel_rfl) rfl #[.int .i64 a1, .int .i64 a2] rfl ga_ ?_; (with_reducible refine (num_mul.calls kj7 a1 a2 t225 false _ A19.out).mono ?_); rintro e w' ⟨rfl, ⟨nd, rfl⟩⟩; refine ⟨_, rfl, ?_⟩))
                    go_ret2
                    exact rz_
end Go.Proofs.Ytaopajmpifenoaa.P
end
section
namespace Go.Proofs.Ytaopajmpifenoaa.P
open Go.RowKit Go.Proofs.YtaopajmpifenoaaW.PrintWords Go.Proofs.YtaopajmpifenoaaW.PrintLast Go.Proofs.YtaopajmpifenoaaW.PrintMore
attribute [local go_sem] max2_int min2_int max_two min_two max_three min_three max_four min_four
set_option linter.unusedVariables false
set_option linter.unusedSimpArgs false
def expr_reckon.j0 : Nat → Int → Bool → Int → Int → ByteArray → Int → Int → ByteArray → Option (Int × Int × ByteArray × Int)
  | 0, _, _, _, _, _, _, _, _ => none
  | k + 1, x0, x17, x228000, x228001, x228002, x229000, x229001, x229002 => if x17 = true then (some (0, 0, (⟨#[]⟩ : ByteArray), 3)) else ((num_Do.f k x0 x228001 x229001).bind fun bt230 => (if bt230.2 = 0 then (some (1, bt230.1, (⟨#[]⟩ : ByteArray), 0)) else (some (0, 0, (⟨#[]⟩ : ByteArray), bt230.2))))
def expr_reckon.f (k : Nat) (a0 : Int) (a1_0 : Int) (a1_1 : Int) (a1_2 : ByteArray) (a2_0 : Int) (a2_1 : Int) (a2_2 : ByteArray) : Option (Int × Int × ByteArray × Int) := if a1_0 = 1 then (expr_reckon.j0 k a0 (a2_0 != 1) a1_0 a1_1 a1_2 a2_0 a2_1 a2_2) else (expr_reckon.j0 k a0 true a1_0 a1_1 a1_2 a2_0 a2_1 a2_2)
theorem expr_reckon.mono_l : ∀ k, (∀ y0 y1 y2 y3 y4 y5 y6 y7, LeO (expr_reckon.j0 k y0 y1 y2 y3 y4 y5 y6 y7) (expr_reckon.j0 (k + 1) y0 y1 y2 y3 y4 y5 y6 y7))
  | 0 => fun _ _ _ _ _ _ _ _ r h => by simp [expr_reckon.j0] at h
  | k + 1 => by
    have ih0 := expr_reckon.mono_l k
    · intro y0 y1 y2 y3 y4 y5 y6 y7
      unfold expr_reckon.j0
      repeat' first
      | (with_reducible exact ih0 _ _ _ _ _ _ _ _)
      | (with_reducible exact num_Do.mono _ _ _ _)
      | (with_reducible exact LeO.refl _)
      | (with_reducible exact LeO.none _)
      | (with_reducible refine LeO.ite ?_ ?_)
      | (with_reducible refine LeO.bind ?_ (fun _ => ?_))
      | exact ih0 _ _ _ _ _ _ _ _
      | exact num_Do.mono _ _ _ _
      | exact LeO.none _
      | refine LeO.ite ?_ ?_
      | refine LeO.bind ?_ (fun _ => ?_)
theorem expr_reckon.mono : ∀ a0 a1 a2 a3 a4 a5 a6 k, LeO (expr_reckon.f k a0 a1 a2 a3 a4 a5 a6) (expr_reckon.f (k + 1) a0 a1 a2 a3 a4 a5 a6) := by
  intro a0 a1 a2 a3 a4 a5 a6 k
  have ih0 := expr_reckon.mono_l k
  unfold expr_reckon.f
  repeat' first
      | (with_reducible exact ih0 _ _ _ _ _ _ _ _)
      | (with_reducible exact num_Do.mono _ _ _ _)
      | (with_reducible exact LeO.refl _)
      | (with_reducible exact LeO.none _)
      | (with_reducible refine LeO.ite ?_ ?_)
      | (with_reducible refine LeO.bind ?_ (fun _ => ?_))
      | exact ih0 _ _ _ _ _ _ _ _
      | exact num_Do.mono _ _ _ _
      | exact LeO.none _
      | refine LeO.ite ?_ ?_
      | refine LeO.bind ?_ (fun _ => ?_)
set_option maxHeartbeats 8000000 in
set_option maxRecDepth 100000 in
theorem expr_reckon.calls (k : Nat) (a0 : Int) (a1_0 : Int) (a1_1 : Int) (a1_2 : ByteArray) (a2_0 : Int) (a2_1 : Int) (a2_2 : ByteArray) (r1 : Int) (r2 : Int) (r3 : ByteArray) (r4 : Int) (w : World) (h : expr_reckon.f k a0 a1_0 a1_1 a1_2 a2_0 a2_1 a2_2 = some (r1, r2, r3, r4)) :
    Calls Try.prog 40 #[.int .i64 a0, .agg #[.int .i64 a1_0, .int .i64 a1_1, .string a1_2], .agg #[.int .i64 a2_0, .int .i64 a2_1, .string a2_2]] w fun e w' => e = .returned (.tuple #[.agg #[.int .i64 r1, .int .i64 r2, .string r3], .int .i64 r4]) ∧ Below w.heap.size w w' := by
  have hu23 := Try.underlying23
  have HB := Aside0.mk (Below.refl w.heap.size w)
  have H : (if a1_0 = 1 then (expr_reckon.j0 k a0 (a2_0 != 1) a1_0 a1_1 a1_2 a2_0 a2_1 a2_2) else (expr_reckon.j0 k a0 true a1_0 a1_1 a1_2 a2_0 a2_1 a2_2)) = some (r1, r2, r3, r4) := h
  clear h
  have HC4 := Aside0.mk H
  clear H
  go_enter Try.func40, Try.ntmps40
  go_upto_region 1 with (first | ((with_reducible refine gate_dst (N := 4) rfl ?_); refine box_event ?hg (N := 4) ?hd (cs := #[.int .i64 a1_0, .int .i64 a1_1, .string a1_2]) (t := 23) ?hr ?_; (case hd => rfl); (case hg => rfl); (case hr => first | (go_simp; done) | (go_simp; rfl)); intro gb227 hg w5 hbox hb; have n0_ := bs_ (be_ HB) hb; have n1_ := Aside0.mk (hbox); have n2_ := gs_ hg (be_ HB); have n3_ := gs_ hg (be_ HB); clear HB; have HB := n0_; have BK227 := n1_; have GW227 := n2_; have GE227 := n3_; clear n0_ n1_ n2_ n3_; clear hb hbox hg) | ((with_reducible refine gate_dst (N := 5) rfl ?_); refine box_event ?hg (N := 5) ?hd (cs := #[.int .i64 a2_0, .int .i64 a2_1, .string a2_2]) (t := 23) ?hr ?_; (case hd => rfl); (case hg => rfl); (case hr => first | (go_simp; done) | (go_simp; rfl)); intro gb228 hg w6 hbox hb; have n0_ := bb_ (bu_ BK227) hb; have n1_ := bs_ (be_ HB) hb; have n2_ := Aside0.mk (hbox); have n3_ := gs_ hg (be_ HB); have n4_ := gs_ hg (be_ HB); have n5_ := nl_ hg (bu_ BK227); have n6_ := ng_ hg (bu_ BK227); clear BK227; clear HB; have BK227 := n0_; have HB := n1_; have BK228 := n2_; have GW228 := n3_; have GE228 := n4_; have NB227_228 := n5_; have NB228_227 := n6_; clear n0_ n1_ n2_ n3_ n4_ n5_ n6_; clear hb hbox hg) | ((with_reducible refine gate_dst (N := 6) rfl ?_); refine box_event ?hg (N := 6) ?hd (cs := #[.int .i64 0, .int .i64 0, .string (⟨#[]⟩ : ByteArray)]) (t := 23) ?hr ?_; (case hd => rfl); (case hg => rfl); (case hr => first | (go_simp; done) | (go_simp; rfl)); intro gb229 hg w7 hbox hb; have n0_ := bb_ (bu_ BK227) hb; have n1_ := bb_ (bu_ BK228) hb; have n2_ := bs_ (be_ HB) hb; have n3_ := Aside0.mk (hbox); have n4_ := gs_ hg (be_ HB); have n5_ := gs_ hg (be_ HB); have n6_ := nl_ hg (bu_ BK227); have n7_ := ng_ hg (bu_ BK227); have n8_ := nl_ hg (bu_ BK228); have n9_ := ng_ hg (bu_ BK228); clear BK227; clear BK228; clear HB; have BK227 := n0_; have BK228 := n1_; have HB := n2_; have BK229 := n3_; have GW229 := n4_; have GE229 := n5_; have NB227_229 := n6_; have NB229_227 := n7_; have NB228_229 := n8_; have NB229_228 := n9_; clear n0_ n1_ n2_ n3_ n4_ n5_ n6_ n7_ n8_ n9_; clear hb hbox hg))
  (try simp only [Act.put, List.setIfInBounds_toArray, List.set_cons_zero, List.set_cons_succ])
  go_cut [17] (fun v17 wc => ∃ (kq : Nat) (x17_3 : Bool), v17 = .bool x17_3 ∧ Aside0 (expr_reckon.j0 kq a0 x17_3 a1_0 a1_1 a1_2 a2_0 a2_1 a2_2 = some (r1, r2, r3, r4)) ∧ Aside0 (kq ≤ k) ∧ Aside0 (wc.heap[gb227]? = some (.cells #[.int .i64 a1_0, .int .i64 a1_1, .string a1_2] 23 (0, 0))) ∧ Aside0 (wc.heap[gb228]? = some (.cells #[.int .i64 a2_0, .int .i64 a2_1, .string a2_2] 23 (0, 0))) ∧ Aside0 (wc.heap[gb229]? = some (.cells #[.int .i64 0, .int .i64 0, .string (⟨#[]⟩ : ByteArray)] 23 (0, 0))) ∧ Aside0 (Below w.heap.size w wc))
  case first =>
    have H := HC4.out
    clear HC4
    by_cases c8 : a1_0 = 1
    · rw [if_pos c8] at H
      obtain ⟨c8b0, c8b1⟩ := eqB_ c8
      clear c8
      (first | rw [c8b0] | (simp only [i64_w, i32_w]; rw [c8b0]) | skip)
      have H' := Aside0.mk H
      clear H
      have hnb9 := NB227_228.out
      have hnc9 := NB228_227.out
      have hnb10 := NB227_229.out
      have hnc10 := NB229_227.out
      have hcz11_0 : w7.cell? ⟨gb227, 0, none⟩ = some (.int .i64 a1_0) := (blk_cell BK227.out 0).trans rfl
      have hcz11_1 : w7.cell? ⟨gb227, 1, none⟩ = some (.int .i64 a1_1) := (blk_cell BK227.out 1).trans rfl
      have hcz11_2 : w7.cell? ⟨gb227, 2, none⟩ = some (.string a1_2) := (blk_cell BK227.out 2).trans rfl
      have hfz11_0 := blk_frozen BK227.out 0
      have hfz11_1 := blk_frozen BK227.out 1
      have hfz11_2 := blk_frozen BK227.out 2
      have hnb12 := NB228_229.out
      have hnc12 := NB229_228.out
      have hcz13_0 : w7.cell? ⟨gb228, 0, none⟩ = some (.int .i64 a2_0) := (blk_cell BK228.out 0).trans rfl
      have hcz13_1 : w7.cell? ⟨gb228, 1, none⟩ = some (.int .i64 a2_1) := (blk_cell BK228.out 1).trans rfl
      have hcz13_2 : w7.cell? ⟨gb228, 2, none⟩ = some (.string a2_2) := (blk_cell BK228.out 2).trans rfl
      have hfz13_0 := blk_frozen BK228.out 0
      have hfz13_1 := blk_frozen BK228.out 1
      have hfz13_2 := blk_frozen BK228.out 2
      go_wp2
      go_meet
      case rel => exact ⟨_, ((a2_0 != 1)), ra_, H', ⟨by first | omega | exact Nat.le_refl _⟩, ⟨by (with_reducible repeat (first | refine blk_drewN ?_ _ | refine blk_drew ?_ | refine blk_alloc ?_ _)); exact BK227.out⟩, ⟨by (with_reducible repeat (first | refine blk_drewN ?_ _ | refine blk_drew ?_ | refine blk_alloc ?_ _)); exact BK228.out⟩, ⟨by (with_reducible repeat (first | refine blk_drewN ?_ _ | refine blk_drew ?_ | refine blk_alloc ?_ _)); exact BK229.out⟩, ⟨by repeat (first | (with_reducible first | exact HB.out | apply below_alloc | apply pw_below_drewN | apply below_drew1 | refine below_set ?_ GE227.out | refine below_set ?_ GE228.out | refine below_set ?_ GE229.out) | exact HB.out)⟩⟩
    · rw [if_neg c8] at H
      obtain ⟨c8b0, c8b1⟩ := neB_ c8
      (first | rw [c8b0] | (simp only [i64_w, i32_w]; rw [c8b0]) | skip)
      have H' := Aside0.mk H
      clear H
      have hnb14 := NB227_228.out
      have hnc14 := NB228_227.out
      have hnb15 := NB227_229.out
      have hnc15 := NB229_227.out
      have hcz16_0 : w7.cell? ⟨gb227, 0, none⟩ = some (.int .i64 a1_0) := (blk_cell BK227.out 0).trans rfl
      have hcz16_1 : w7.cell? ⟨gb227, 1, none⟩ = some (.int .i64 a1_1) := (blk_cell BK227.out 1).trans rfl
      have hcz16_2 : w7.cell? ⟨gb227, 2, none⟩ = some (.string a1_2) := (blk_cell BK227.out 2).trans rfl
      have hfz16_0 := blk_frozen BK227.out 0
      have hfz16_1 := blk_frozen BK227.out 1
      have hfz16_2 := blk_frozen BK227.out 2
      go_wp2
      go_meet
      case rel => exact ⟨_, (true), ra_, H', ⟨by first | omega | exact Nat.le_refl _⟩, ⟨by (with_reducible repeat (first | refine blk_drewN ?_ _ | refine blk_drew ?_ | refine blk_alloc ?_ _)); exact BK227.out⟩, ⟨by (with_reducible repeat (first | refine blk_drewN ?_ _ | refine blk_drew ?_ | refine blk_alloc ?_ _)); exact BK228.out⟩, ⟨by (with_reducible repeat (first | refine blk_drewN ?_ _ | refine blk_drew ?_ | refine blk_alloc ?_ _)); exact BK229.out⟩, ⟨by repeat (first | (with_reducible first | exact HB.out | apply below_alloc | apply pw_below_drewN | apply below_drew1 | refine below_set ?_ GE227.out | refine below_set ?_ GE228.out | refine below_set ?_ GE229.out) | exact HB.out)⟩⟩
  case rest =>
    clear HC4
    try clear c1
    try clear p2
    try clear c4
    try clear c8
    try clear c8b0
    try clear c8b1
    try clear c9
    try clear c10
    try clear c12
    try clear c14
    try clear c15
    try clear hcz11_0
    try clear hcz11_1
    try clear hcz11_2
    try clear hcz13_0
    try clear hcz13_1
    try clear hcz13_2
    try clear hcz16_0
    try clear hcz16_1
    try clear hcz16_2
    try clear hfz11_0
    try clear hfz11_1
    try clear hfz11_2
    try clear hfz13_0
    try clear hfz13_1
    try clear hfz13_2
    try clear hfz16_0
    try clear hfz16_1
    try clear hfz16_2
    obtain ⟨kq, x17_3, rfl, HA, HJ3, BK227, BK228, BK229, HB⟩ := hcut
    cases kq with
    | zero => exact absurd HA.out (by simp [expr_reckon.j0])
    | succ kj3 =>
      have H := HA.out
      clear HA
      simp only [expr_reckon.j0] at H
      by_cases c17 : x17_3 = true
      · subst c17
        have H1 : (some (0, 0, (⟨#[]⟩ : ByteArray), 3)) = some (r1, r2, r3, r4) := by rw [if_pos rfl] at H; exact H
        clear H
        have H := H1
        clear H1
        simp only [Option.some.injEq, Prod.mk.injEq] at H
        obtain ⟨rfl, rfl, rfl, rfl⟩ := H
        have hnb18 := NB229_227.out
        have hnc18 := NB227_229.out
        have hnb19 := NB229_228.out
        have hnc19 := NB228_229.out
        have hcz20_0 : wc.cell? ⟨gb229, 0, none⟩ = some (.int .i64 0) := (blk_cell BK229.out 0).trans rfl
        have hcz20_1 : wc.cell? ⟨gb229, 1, none⟩ = some (.int .i64 0) := (blk_cell BK229.out 1).trans rfl
        have hcz20_2 : wc.cell? ⟨gb229, 2, none⟩ = some (.string (⟨#[]⟩ : ByteArray)) := (blk_cell BK229.out 2).trans rfl
        have hfz20_0 := blk_frozen BK229.out 0
        have hfz20_1 := blk_frozen BK229.out 1
        have hfz20_2 := blk_frozen BK229.out 2
        go_wp2
        refine bodyPost_ret (results_ct rfl _ _ gb229 23 #[.int .i64 0, .int .i64 0, .string (⟨#[]⟩ : ByteArray)] (0, 0) _ rfl (bp_ BK229) Try.underlying23 rfl (by kernel_rfl)) rfl ?_
        exact ⟨by first | rfl | (simp [errW_none, errW_some] <;> rfl) | (simp [*, errW_none, errW_some] <;> rfl), by repeat (first | (with_reducible first | exact HB.out | apply below_alloc | apply pw_below_drewN | apply below_drew1 | refine below_set ?_ GE227.out | refine below_set ?_ GE228.out | refine below_set ?_ GE229.out) | exact HB.out)⟩
      · replace c17 := Bool.eq_false_iff.mpr c17
        subst c17
        have H1 : ((num_Do.f kj3 a0 a1_1 a2_1).bind fun bt230 => (if bt230.2 = 0 then (some (1, bt230.1, (⟨#[]⟩ : ByteArray), 0)) else (some (0, 0, (⟨#[]⟩ : ByteArray), bt230.2)))) = some (r1, r2, r3, r4) := by rw [if_neg (show ¬ (false = true) by decide)] at H; exact H
        clear H
        have H := H1
        clear H1
        replace H := Option.bind_eq_some_iff.mp H
        obtain ⟨⟨t230, t231⟩, A210, H⟩ := H
        replace H : (if t231 = 0 then (some (1, t230, (⟨#[]⟩ : ByteArray), 0)) else (some (0, 0, (⟨#[]⟩ : ByteArray), t231))) = some (r1, r2, r3, r4) := H
        have A21 := Aside0.mk A210
        clear A210
        by_cases c22 : t231 = 0
        · rw [if_pos c22] at H
          obtain ⟨c22b0, c22b1⟩ := eqB_ c22
          clear c22
          simp only [Option.some.injEq, Prod.mk.injEq] at H
          obtain ⟨rfl, rfl, rfl, rfl⟩ := H
          have hnb23 := NB227_228.out
          have hnc23 := NB228_227.out
          have hnb24 := NB227_229.out
          have hnc24 := NB229_227.out
          have hcz25_0 : wc.cell? ⟨gb227, 0, none⟩ = some (.int .i64 a1_0) := (blk_cell BK227.out 0).trans rfl
          have hcz25_1 : wc.cell? ⟨gb227, 1, none⟩ = some (.int .i64 a1_1) := (blk_cell BK227.out 1).trans rfl
          have hcz25_2 : wc.cell? ⟨gb227, 2, none⟩ = some (.string a1_2) := (blk_cell BK227.out 2).trans rfl
          have hfz25_0 := blk_frozen BK227.out 0
          have hfz25_1 := blk_frozen BK227.out 1
          have hfz25_2 := blk_frozen BK227.out 2
          have hnb26 := NB228_229.out
          have hnc26 := NB229_228.out
          have hcz27_0 : wc.cell? ⟨gb228, 0, none⟩ = some (.int .i64 a2_0) := (blk_cell BK228.out 0).trans rfl
          have hcz27_1 : wc.cell? ⟨gb228, 1, none⟩ = some (.int .i64 a2_1) := (blk_cell BK228.out 1).trans rfl
          have hcz27_2 : wc.cell? ⟨gb228, 2, none⟩ = some (.string a2_2) := (blk_cell BK228.out 2).trans rfl
          have hfz27_0 := blk_frozen BK228.out 0
          have hfz27_1 := blk_frozen BK228.out 1
          have hfz27_2 := blk_frozen BK228.out 2
          go_wp2_with (first | ((with_reducible refine gate_callee (f := 55) rfl ?_); refine goesL_ (some 25) rfl rfl Try.func55 (by kernel_rfl) rfl #[.int .i64 a0, .int .i64 a1_1, .int .i64 a2_1] rfl ga_ ?_; (with_reducible refine (num_Do.calls kj3 a0 a1_1 a2_1 t230 t231 _ A21.out).mono ?_); rintro e w' ⟨rfl, ⟨nd, rfl⟩⟩; refine ⟨_, rfl, ?_⟩; (try (rw [drewN_self wc]; generalize hq_ : World.drewN wc _ = wc; have n0_ : Aside0 (wc.heap[gb227]? = some (.cells #[.int .i64 a1_0, .int .i64 a1_1, .string a1_2] 23 (0, 0))) := ⟨by rw [← hq_]; exact (bu_ BK227)⟩; have n1_ : Aside0 (wc.heap[gb228]? = some (.cells #[.int .i64 a2_0, .int .i64 a2_1, .string a2_2] 23 (0, 0))) := ⟨by rw [← hq_]; exact (bu_ BK228)⟩; have n2_ : Aside0 (wc.heap[gb229]? = some (.cells #[.int .i64 0, .int .i64 0, .string (⟨#[]⟩ : ByteArray)] 23 (0, 0))) := ⟨by rw [← hq_]; exact (bu_ BK229)⟩; have n3_ : Aside0 (Below w.heap.size w wc) := ⟨by rw [← hq_]; exact (be_ HB)⟩; clear BK227 BK228 BK229 HB hq_; have BK227 := n0_; have BK228 := n1_; have BK229 := n2_; have HB := n3_; clear n0_ n1_ n2_ n3_)); have hcz28_0 : wc.cell? ⟨gb229, 0, none⟩ = some (.int .i64 0) := (blk_cell BK229.out 0).trans rfl; have hcz28_1 : wc.cell? ⟨gb229, 1, none⟩ = some (.int .i64 0) := (blk_cell BK229.out 1).trans rfl; have hcz28_2 : wc.cell? ⟨gb229, 2, none⟩ = some (.string (⟨#[]⟩ : ByteArray)) := (blk_cell BK229.out 2).trans rfl; have hfz28_0 := blk_frozen BK229.out 0; have hfz28_1 := blk_frozen BK229.out 1; have hfz28_2 := blk_frozen BK229.out 2))
          refine bodyPost_ret (results_ct rfl _ _ gb229 23 #[.int .i64 1, .int .i64 t230, .string (⟨#[]⟩ : ByteArray)] (0, 0) _ rfl (bp_ BK229) Try.underlying23 rfl (by kernel_rfl)) rfl ?_
          exact ⟨by first | rfl | (simp [errW_none, errW_some] <;> rfl) | (simp [*, errW_none, errW_some] <;> rfl), by repeat (first | (with_reducible first | exact HB.out | apply below_alloc | apply pw_below_drewN | apply below_drew1 | refine below_set ?_ GE227.out | refine below_set ?_ GE228.out | refine below_set ?_ GE229.out) | exact HB.out)⟩
        · rw [if_neg c22] at H
          obtain ⟨c22b0, c22b1⟩ := neB_ c22
          simp only [Option.some.injEq, Prod.mk.injEq] at H
          obtain ⟨rfl, rfl, rfl, rfl⟩ := H
          have hnb29 := NB227_228.out
          have hnc29 := NB228_227.out
          have hnb30 := NB227_229.out
          have hnc30 := NB229_227.out
          have hcz31_0 : wc.cell? ⟨gb227, 0, none⟩ = some (.int .i64 a1_0) := (blk_cell BK227.out 0).trans rfl
          have hcz31_1 : wc.cell? ⟨gb227, 1, none⟩ = some (.int .i64 a1_1) := (blk_cell BK227.out 1).trans rfl
          have hcz31_2 : wc.cell? ⟨gb227, 2, none⟩ = some (.string a1_2) := (blk_cell BK227.out 2).trans rfl
          have hfz31_0 := blk_frozen BK227.out 0
          have hfz31_1 := blk_frozen BK227.out 1
          have hfz31_2 := blk_frozen BK227.out 2
          have hnb32 := NB228_229.out
          have hnc32 := NB229_228.out
          have hcz33_0 : wc.cell? ⟨gb228, 0, none⟩ = some (.int .i64 a2_0) := (blk_cell BK228.out 0).trans rfl
          have hcz33_1 : wc.cell? ⟨gb228, 1, none⟩ = some (.int .i64 a2_1) := (blk_cell BK228.out 1).trans rfl
          have hcz33_2 : wc.cell? ⟨gb228, 2, none⟩ = some (.string a2_2) := (blk_cell BK228.out 2).trans rfl
          have hfz33_0 := blk_frozen BK228.out 0
          have hfz33_1 := blk_frozen BK228.out 1
          have hfz33_2 := blk_frozen BK228.out 2
          go_wp2_with (first | ((with_reducible refine gate_callee (f := 55) rfl ?_); refine goesL_ (some 25) rfl rfl Try.func55 (by kernel_rfl) rfl #[.int .i64 a0, .int .i64 a1_1, .int .i64 a2_1] rfl ga_ ?_; (with_reducible refine (num_Do.calls kj3 a0 a1_1 a2_1 t230 t231 _ A21.out).mono ?_); rintro e w' ⟨rfl, ⟨nd, rfl⟩⟩; refine ⟨_, rfl, ?_⟩; (try (rw [drewN_self wc]; generalize hq_ : World.drewN wc _ = wc; have n0_ : Aside0 (wc.heap[gb227]? = some (.cells #[.int .i64 a1_0, .int .i64 a1_1, .string a1_2] 23 (0, 0))) := ⟨by rw [← hq_]; exact (bu_ BK227)⟩; have n1_ : Aside0 (wc.heap[gb228]? = some (.cells #[.int .i64 a2_0, .int .i64 a2_1, .string a2_2] 23 (0, 0))) := ⟨by rw [← hq_]; exact (bu_ BK228)⟩; have n2_ : Aside0 (wc.heap[gb229]? = some (.cells #[.int .i64 0, .int .i64 0, .string (⟨#[]⟩ : ByteArray)] 23 (0, 0))) := ⟨by rw [← hq_]; exact (bu_ BK229)⟩; have n3_ : Aside0 (Below w.heap.size w wc) := ⟨by rw [← hq_]; exact (be_ HB)⟩; clear BK227 BK228 BK229 HB hq_; have BK227 := n0_; have BK228 := n1_; have BK229 := n2_; have HB := n3_; clear n0_ n1_ n2_ n3_)); have hcz34_0 : wc.cell? ⟨gb229, 0, none⟩ = some (.int .i64 0) := (blk_cell BK229.out 0).trans rfl; have hcz34_1 : wc.cell? ⟨gb229, 1, none⟩ = some (.int .i64 0) := (blk_cell BK229.out 1).trans rfl; have hcz34_2 : wc.cell? ⟨gb229, 2, none⟩ = some (.string (⟨#[]⟩ : ByteArray)) := (blk_cell BK229.out 2).trans rfl; have hfz34_0 := blk_frozen BK229.out 0; have hfz34_1 := blk_frozen BK229.out 1; have hfz34_2 := blk_frozen BK229.out 2))
          refine bodyPost_ret (results_ct rfl _ _ gb229 23 #[.int .i64 0, .int .i64 0, .string (⟨#[]⟩ : ByteArray)] (0, 0) _ rfl (bp_ BK229) Try.underlying23 rfl (by kernel_rfl)) rfl ?_
          exact ⟨by first | rfl | (simp [errW_none, errW_some] <;> rfl) | (simp [*, errW_none, errW_some] <;> rfl), by repeat (first | (with_reducible first | exact HB.out | apply below_alloc | apply pw_below_drewN | apply below_drew1 | refine below_set ?_ GE227.out | refine below_set ?_ GE228.out | refine below_set ?_ GE229.out) | exact HB.out)⟩
end Go.Proofs.Ytaopajmpifenoaa.P
end
section
namespace Go.Proofs.Ytaopajmpifenoaa.P
open Go.RowKit Go.Proofs.YtaopajmpifenoaaW.PrintWords Go.Proofs.YtaopajmpifenoaaW.PrintLast Go.Proofs.YtaopajmpifenoaaW.PrintMore
attribute [local go_sem] max2_int min2_int max_two min_two max_three min_three max_four min_four
set_option linter.unusedVariables false
set_option linter.unusedSimpArgs false
mutual
def expr_Eval.j0 : Nat → List (S67) → List (S54) → Int → Option (Int × Int × ByteArray × Int)
  | 0, _, _, _ => none
  | k + 1, x0, x1, x6 => if x6 = 0 then (expr_Eval.l0 k x1 ([] : List (S23)) x0 (x0.length : Int) 0) else (some (0, 0, (⟨#[]⟩ : ByteArray), x6))
def expr_Eval.l0 : Nat → List (S54) → List (S23) → List (S67) → Int → Int → Option (Int × Int × ByteArray × Int)
  | 0, _, _, _, _, _ => none
  | k + 1, x1, x7, x22, x23, x24 => if x24 < x23 then (if 0 ≤ x24 then (if x24 < (x22.length : Int) then ((expr_pushes.f ((rd_T67 x22 x24).f0)).bind fun t239 => (if t239 = true then ((expr_push.f k ((rd_T67 x22 x24).f0) ((rd_T67 x22 x24).f1) ((rd_T67 x22 x24).f2.f0) ((rd_T67 x22 x24).f2.f1) ((rd_T67 x22 x24).f2.f2) x1).bind fun bt240 => (if bt240.2.2.2 = 0 then (if x7.length < 4398046511104 then (expr_Eval.l0 k x1 (x7 ++ [(⟨bt240.1, bt240.2.1, bt240.2.2.1⟩ : S23)]) x22 x23 (wrap64 (x24 + 1))) else (none)) else (some (0, 0, (⟨#[]⟩ : ByteArray), bt240.2.2.2)))) else (if 0 ≤ (wrap64 ((x7.length : Int) - 2)) then (if (wrap64 ((x7.length : Int) - 2)) < (x7.length : Int) then (if 0 ≤ (wrap64 ((wrap64 ((x7.length : Int) - 2)) + 1)) then (if (wrap64 ((wrap64 ((x7.length : Int) - 2)) + 1)) < (x7.length : Int) then ((expr_reckon.f k ((rd_T67 x22 x24).f0) ((rd_T23 x7 (wrap64 ((x7.length : Int) - 2))).f0) ((rd_T23 x7 (wrap64 ((x7.length : Int) - 2))).f1) ((rd_T23 x7 (wrap64 ((x7.length : Int) - 2))).f2) ((rd_T23 x7 (wrap64 ((wrap64 ((x7.length : Int) - 2)) + 1))).f0) ((rd_T23 x7 (wrap64 ((wrap64 ((x7.length : Int) - 2)) + 1))).f1) ((rd_T23 x7 (wrap64 ((wrap64 ((x7.length : Int) - 2)) + 1))).f2)).bind fun bt249 => (if (wrap64 ((x7.length : Int) - 2)) ≤ (x7.length : Int) then ((some (x7.take ((wrap64 ((x7.length : Int) - 2)) : Int).toNat : List (S23))).bind fun y253 => (if bt249.2.2.2 = 0 then (if y253.length < 4398046511104 then (expr_Eval.l0 k x1 (y253 ++ [(⟨bt249.1, bt249.2.1, bt249.2.2.1⟩ : S23)]) x22 x23 (wrap64 (x24 + 1))) else (none)) else (some (0, 0, (⟨#[]⟩ : ByteArray), bt249.2.2.2)))) else (none))) else (none)) else (none)) else (none)) else (none)))) else (none)) else (none)) else (if 0 < (x7.length : Int) then (some ((rd_T23 x7 0).f0, (rd_T23 x7 0).f1, (rd_T23 x7 0).f2, 0)) else (none))
end
def expr_Eval.f (k : Nat) (l0 : List (S67)) (l1 : List (S54)) : Option (Int × Int × ByteArray × Int) := (expr_Check.f k l0).bind fun t233 => (if t233 = 0 then ((subst_Check.f k l1).bind fun t234 => (expr_Eval.j0 k l0 l1 t234)) else (expr_Eval.j0 k l0 l1 t233))
theorem expr_Eval.mono_l : ∀ k, (∀ y0 y1 y2, LeO (expr_Eval.j0 k y0 y1 y2) (expr_Eval.j0 (k + 1) y0 y1 y2)) ∧ (∀ y0 y1 y2 y3 y4, LeO (expr_Eval.l0 k y0 y1 y2 y3 y4) (expr_Eval.l0 (k + 1) y0 y1 y2 y3 y4))
  | 0 => ⟨fun _ _ _ r h => by simp [expr_Eval.j0] at h, fun _ _ _ _ _ r h => by simp [expr_Eval.l0] at h⟩
  | k + 1 => by
    obtain ⟨ih0, ih1⟩ := expr_Eval.mono_l k
    refine ⟨?_, ?_⟩
    · intro y0 y1 y2
      unfold expr_Eval.j0
      repeat' first
      | (with_reducible exact ih0 _ _ _)
      | (with_reducible exact ih1 _ _ _ _ _)
      | (with_reducible exact expr_Check.mono _ _)
      | (with_reducible exact expr_push.mono _ _ _ _ _ _ _)
      | (with_reducible exact expr_reckon.mono _ _ _ _ _ _ _ _)
      | (with_reducible exact subst_Check.mono _ _)
      | (with_reducible exact LeO.refl _)
      | (with_reducible exact LeO.none _)
      | (with_reducible refine LeO.ite ?_ ?_)
      | (with_reducible refine LeO.bind ?_ (fun _ => ?_))
      | exact ih0 _ _ _
      | exact ih1 _ _ _ _ _
      | exact expr_Check.mono _ _
      | exact expr_push.mono _ _ _ _ _ _ _
      | exact expr_reckon.mono _ _ _ _ _ _ _ _
      | exact subst_Check.mono _ _
      | exact LeO.none _
      | refine LeO.ite ?_ ?_
      | refine LeO.bind ?_ (fun _ => ?_)
    · intro y0 y1 y2 y3 y4
      unfold expr_Eval.l0
      repeat' first
      | (with_reducible exact ih0 _ _ _)
      | (with_reducible exact ih1 _ _ _ _ _)
      | (with_reducible exact expr_Check.mono _ _)
      | (with_reducible exact expr_push.mono _ _ _ _ _ _ _)
      | (with_reducible exact expr_reckon.mono _ _ _ _ _ _ _ _)
      | (with_reducible exact subst_Check.mono _ _)
      | (with_reducible exact LeO.refl _)
      | (with_reducible exact LeO.none _)
      | (with_reducible refine LeO.ite ?_ ?_)
      | (with_reducible refine LeO.bind ?_ (fun _ => ?_))
      | exact ih0 _ _ _
      | exact ih1 _ _ _ _ _
      | exact expr_Check.mono _ _
      | exact expr_push.mono _ _ _ _ _ _ _
      | exact expr_reckon.mono _ _ _ _ _ _ _ _
      | exact subst_Check.mono _ _
      | exact LeO.none _
      | refine LeO.ite ?_ ?_
      | refine LeO.bind ?_ (fun _ => ?_)
theorem expr_Eval.mono : ∀ a0 a1 k, LeO (expr_Eval.f k a0 a1) (expr_Eval.f (k + 1) a0 a1) := by
  intro a0 a1 k
  obtain ⟨ih0, ih1⟩ := expr_Eval.mono_l k
  unfold expr_Eval.f
  repeat' first
      | (with_reducible exact ih0 _ _ _)
      | (with_reducible exact ih1 _ _ _ _ _)
      | (with_reducible exact expr_Check.mono _ _)
      | (with_reducible exact expr_push.mono _ _ _ _ _ _ _)
      | (with_reducible exact expr_reckon.mono _ _ _ _ _ _ _ _)
      | (with_reducible exact subst_Check.mono _ _)
      | (with_reducible exact LeO.refl _)
      | (with_reducible exact LeO.none _)
      | (with_reducible refine LeO.ite ?_ ?_)
      | (with_reducible refine LeO.bind ?_ (fun _ => ?_))
      | exact ih0 _ _ _
      | exact ih1 _ _ _ _ _
      | exact expr_Check.mono _ _
      | exact expr_push.mono _ _ _ _ _ _ _
      | exact expr_reckon.mono _ _ _ _ _ _ _ _
      | exact subst_Check.mono _ _
      | exact LeO.none _
      | refine LeO.ite ?_ ?_
      | refine LeO.bind ?_ (fun _ => ?_)
def expr_Eval.T14 : Bool × List (List Nat × List Nat) := (true, [([], []), ([0], [0]), ([], []), ([], []), ([2, 3], [2, 3]), ([4], [4]), ([], []), ([], []), ([7], [7]), ([6, 8], [6, 8]), ([9], [9]), ([1, 5, 10], [1, 5, 10]), ([11], [11]), ([12], [12]), ([12], [12]), ([13, 11, 0, 1, 2, 3, 4, 5, 6, 7, 8, 9, 10, 11, 12, 13], [13]), ([14, 15, 0, 1, 2, 3, 4, 5, 6, 7, 8, 9, 10, 11, 12, 13, 14, 15], [14])])
def expr_Eval.B14 : List Nat := [0, 1, 0, 0, 12, 28, 0, 0, 128, 448, 960, 2047, 4095, 8191, 8191, 16383, 65535]
theorem expr_Eval.tab14 : rtab .any (opsOf Try.f22 14) = expr_Eval.T14 := by kernel_rfl
theorem expr_Eval.bits14 : waitsOk expr_Eval.T14.2 expr_Eval.B14 = true := by kernel_rfl
set_option maxHeartbeats 8000000 in
set_option maxRecDepth 100000 in
theorem expr_Eval.calls (k : Nat) (A0 : Option Addr) (c0 : Nat) (l0 : List (S67)) (A1 : Option Addr) (c1 : Nat) (l1 : List (S54)) (r1 : Int) (r2 : Int) (r3 : ByteArray) (r4 : Int) (w : World) (hr0 : Kd.C k67 w A0 l0.length l0) (hc0 : l0.length ≤ c0) (hr1 : Kd.C k54 w A1 l1.length l1) (hc1 : l1.length ≤ c1) (h : expr_Eval.f k l0 l1 = some (r1, r2, r3, r4)) :
    Calls Try.prog 22 #[.slice A0 l0.length c0, .slice A1 l1.length c1] w fun e w' => e = .returned (.tuple #[.agg #[.int .i64 r1, .int .i64 r2, .string r3], .int .i64 r4]) ∧ Below w.heap.size w w' := by
  have hu23 := Try.underlying23
  have hu67 := Try.underlying67
  have HR0 := Aside0.mk hr0
  have HC0 := Aside0.mk hc0
  clear hr0 hc0
  have HR1 := Aside0.mk hr1
  have HC1 := Aside0.mk hc1
  clear hr1 hc1
  have HB := Aside0.mk (Below.refl w.heap.size w)
  have H : ((expr_Check.f k l0).bind fun t233 => (if t233 = 0 then ((subst_Check.f k l1).bind fun t234 => (expr_Eval.j0 k l0 l1 t234)) else (expr_Eval.j0 k l0 l1 t233))) = some (r1, r2, r3, r4) := h
  clear h
  replace H := Option.bind_eq_some_iff.mp H
  obtain ⟨t233, A30, H⟩ := H
  replace H : (if t233 = 0 then ((subst_Check.f k l1).bind fun t234 => (expr_Eval.j0 k l0 l1 t234)) else (expr_Eval.j0 k l0 l1 t233)) = some (r1, r2, r3, r4) := H
  have A3 := Aside0.mk A30
  clear A30
  have HC4 := Aside0.mk H
  clear H
  go_enter Try.func22, Try.ntmps22
  go_upto_if 15 with (first | ((with_reducible refine gate_dst (N := 4) rfl ?_); refine box_event ?hg (N := 4) ?hd (cs := #[.int .i64 0, .int .i64 0, .string (⟨#[]⟩ : ByteArray)]) (t := 23) ?hr ?_; (case hd => rfl); (case hg => rfl); (case hr => first | (go_simp; done) | (go_simp; rfl)); intro gb232 hg w5 hbox hb; have n0_ := bs_ (be_ HB) hb; have n1_ := Aside0.mk (hbox); have n2_ := gs_ hg (be_ HB); have n3_ := gs_ hg (be_ HB); clear HB; have HB := n0_; have BK232 := n1_; have GW232 := n2_; have GE232 := n3_; clear n0_ n1_ n2_ n3_; clear hb hbox hg) | ((with_reducible refine gate_callee (f := 33) rfl ?_); refine goesL_ (some 13) rfl rfl Try.func33 (by kernel_rfl) rfl #[.slice A0 l0.length c0] rfl ga_ ?_; (with_reducible refine (expr_Check.calls k _ _ l0 t233 _ ?side1 ?side2 A3.out).mono ?_); (case side1 => repeat (first | exact (Kd.C_below HR0.out HB.out) | (with_reducible refine Kd.C_alloc ?_ _) | (with_reducible refine Kd.C_drewN ?_ _) | (with_reducible refine Kd.C_drew ?_))); (case side2 => exact HC0.out); rintro e w6 ⟨rfl, hb⟩; refine ⟨_, rfl, ?_⟩; have n0_ := bb_ (bu_ BK232) hb; have n1_ := bs_ (be_ HB) hb; clear BK232; clear HB; have BK232 := n0_; have HB := n1_; clear n0_ n1_; (try clear hb); (try clear hb2); (try clear hk); (try clear hi)))
  (try simp only [Act.put, List.setIfInBounds_toArray, List.set_cons_zero, List.set_cons_succ])
  go_cut [6] (fun v6 wc => ∃ (kq : Nat) (x6_3 : Int), v6 = .int .i64 x6_3 ∧ Aside0 (expr_Eval.j0 kq l0 l1 x6_3 = some (r1, r2, r3, r4)) ∧ Aside0 (kq ≤ k) ∧ Aside0 (wc.heap[gb232]? = some (.cells #[.int .i64 0, .int .i64 0, .string (⟨#[]⟩ : ByteArray)] 23 (0, 0))) ∧ Aside0 (Below w.heap.size w wc))
  case first =>
    have H := HC4.out
    clear HC4
    by_cases c7 : t233 = 0
    · rw [if_pos c7] at H
      obtain ⟨c7b0, c7b1⟩ := eqB_ c7
      clear c7
      (first | rw [c7b0] | (simp only [i64_w, i32_w]; rw [c7b0]) | skip)
      replace H := Option.bind_eq_some_iff.mp H
      obtain ⟨t234, A80, H⟩ := H
      replace H : (expr_Eval.j0 k l0 l1 t234) = some (r1, r2, r3, r4) := H
      have A8 := Aside0.mk A80
      clear A80
      have H' := Aside0.mk H
      clear H
      go_wp2_with (first | ((with_reducible refine gate_callee (f := 37) rfl ?_); refine goesL_ (some 17) rfl rfl Try.func37 (by kernel_rfl) rfl #[.slice A1 l1.length c1] rfl ga_ ?_; (with_reducible refine (subst_Check.calls k _ _ l1 t234 _ ?side1 ?side2 A8.out).mono ?_); (case side1 => repeat (first | exact (Kd.C_below HR1.out HB.out) | (with_reducible refine Kd.C_alloc ?_ _) | (with_reducible refine Kd.C_drewN ?_ _) | (with_reducible refine Kd.C_drew ?_))); (case side2 => exact HC1.out); rintro e w9 ⟨rfl, hb⟩; refine ⟨_, rfl, ?_⟩; have n0_ := bb_ (bu_ BK232) hb; have n1_ := bs_ (be_ HB) hb; clear BK232; clear HB; have BK232 := n0_; have HB := n1_; clear n0_ n1_; (try clear hb); (try clear hb2); (try clear hk); (try clear hi)))
      go_meet
      case rel => exact ⟨_, (t234), ra_, H', ⟨by first | omega | exact Nat.le_refl _⟩, ⟨by (with_reducible repeat (first | refine blk_drewN ?_ _ | refine blk_drew ?_ | refine blk_alloc ?_ _)); exact BK232.out⟩, ⟨by repeat (first | (with_reducible first | exact HB.out | apply below_alloc | apply pw_below_drewN | apply below_drew1 | refine below_set ?_ GE232.out) | exact HB.out)⟩⟩
    · rw [if_neg c7] at H
      obtain ⟨c7b0, c7b1⟩ := neB_ c7
      (first | rw [c7b0] | (simp only [i64_w, i32_w]; rw [c7b0]) | skip)
      have H' := Aside0.mk H
      clear H
      go_wp2
      go_meet
      case rel => exact ⟨_, (t233), ra_, H', ⟨by first | omega | exact Nat.le_refl _⟩, ⟨by (with_reducible repeat (first | refine blk_drewN ?_ _ | refine blk_drew ?_ | refine blk_alloc ?_ _)); exact BK232.out⟩, ⟨by repeat (first | (with_reducible first | exact HB.out | apply below_alloc | apply pw_below_drewN | apply below_drew1 | refine below_set ?_ GE232.out) | exact HB.out)⟩⟩
  case rest =>
    clear HC4
    try clear c1
    try clear c2
    try clear p2
    try clear c3
    try clear c7
    try clear c7b0
    try clear c7b1
    obtain ⟨kq, x6_3, rfl, HA, HJ3, BK232, HB⟩ := hcut
    cases kq with
    | zero => exact absurd HA.out (by simp [expr_Eval.j0])
    | succ kj3 =>
      have H := HA.out
      clear HA
      simp only [expr_Eval.j0] at H
      by_cases c10 : x6_3 = 0
      · rw [if_pos c10] at H
        obtain ⟨c10b0, c10b1⟩ := eqB_ c10
        clear c10
        have H' := Aside0.mk H
        clear H
        go_wp2
        go_loopg [7, 24] kj3 (fun kq v7 v24 w' => ∃ (x7_2 : List (S23)) (x24_2 : Int) (x233000_2 : Int) (x233001_2 : Int) (x233002_2 : ByteArray), v24 = .int .i64 x24_2 ∧ Aside0 (expr_Eval.l0 kq l1 x7_2 l0 (l0.length : Int) x24_2 = some (r1, r2, r3, r4)) ∧ Aside0 (kq ≤ kj3) ∧ Aside0 (Kd.R k23 23 w' w.heap.size (fun k_ => k_ ≠ gb232) v7 x7_2) ∧ Aside0 (w'.heap[gb232]? = some (.cells #[.int .i64 x233000_2, .int .i64 x233001_2, .string x233002_2] 23 (0, 0))) ∧ Aside0 (Below w.heap.size w w'))
        case atStart => exact ⟨(([] : List (S23))), (0), (0), (0), ((⟨#[]⟩ : ByteArray)), ra_, H', ⟨Nat.le_refl _⟩, ⟨by first | exact Kd.R_nil _ _ _ _ _ | exact Kd.N_nil _ _ _ _ _ | exact Kd.V_nil _ _ _ _ _ | exact Kd.Q_nil _ _ _ _ _ | exact Kd.S_nil _ _ _ _ _⟩, ⟨by (with_reducible repeat (first | refine blk_drewN ?_ _ | refine blk_drew ?_ | refine blk_alloc ?_ _)); exact BK232.out⟩, ⟨by repeat (first | (with_reducible first | exact HB.out | apply below_alloc | apply pw_below_drewN | apply below_drew1 | refine below_set ?_ GE232.out) | exact HB.out)⟩⟩
        case round =>
          clear H'
          try clear c1
          try clear c2
          try clear p2
          try clear c3
          try clear c7
          try clear c7b0
          try clear c7b1
          try clear c10
          try clear c10b0
          try clear c10b1
          try clear p2
          obtain ⟨x7_2, x24_2, x233000_2, x233001_2, x233002_2, rfl, HA, HK2, HO_7, BK232, HB⟩ := hrel
          cases gk with
          | zero => exact absurd HA.out (by simp [expr_Eval.l0])
          | succ k2 =>
            have H := HA.out
            clear HA
            simp only [expr_Eval.l0] at H
            by_cases c11 : x24_2 < (l0.length : Int)
            · rw [if_pos c11] at H
              have c11b0 : decide (x24_2 < (l0.length : Int)) = true := decide_eq_true c11
              clear c11
              by_cases c12 : 0 ≤ x24_2
              · rw [if_pos c12] at H
                have c12b0 : decide (0 ≤ x24_2) = true := decide_eq_true c12
                clear c12
                by_cases c13 : x24_2 < (l0.length : Int)
                · rw [if_pos c13] at H
                  have c13b0 : decide (x24_2 < (l0.length : Int)) = true := decide_eq_true c13
                  clear c13
                  replace H := Option.bind_eq_some_iff.mp H
                  obtain ⟨t239, A140, H⟩ := H
                  replace H : (if t239 = true then ((expr_push.f k2 ((rd_T67 l0 x24_2).f0) ((rd_T67 l0 x24_2).f1) ((rd_T67 l0 x24_2).f2.f0) ((rd_T67 l0 x24_2).f2.f1) ((rd_T67 l0 x24_2).f2.f2) l1).bind fun bt240 => (if bt240.2.2.2 = 0 then (if x7_2.length < 4398046511104 then (expr_Eval.l0 k2 l1 (x7_2 ++ [(⟨bt240.1, bt240.2.1, bt240.2.2.1⟩ : S23)]) l0 (l0.length : Int) (wrap64 (x24_2 + 1))) else (none)) else (some (0, 0, (⟨#[]⟩ : ByteArray), bt240.2.2.2)))) else (if 0 ≤ (wrap64 ((x7_2.length : Int) - 2)) then (if (wrap64 ((x7_2.length : Int) - 2)) < (x7_2.length : Int) then (if 0 ≤ (wrap64 ((wrap64 ((x7_2.length : Int) - 2)) + 1)) then (if (wrap64 ((wrap64 ((x7_2.length : Int) - 2)) + 1)) < (x7_2.length : Int) then ((expr_reckon.f k2 ((rd_T67 l0 x24_2).f0) ((rd_T23 x7_2 (wrap64 ((x7_2.length : Int) - 2))).f0) ((rd_T23 x7_2 (wrap64 ((x7_2.length : Int) - 2))).f1) ((rd_T23 x7_2 (wrap64 ((x7_2.length : Int) - 2))).f2) ((rd_T23 x7_2 (wrap64 ((wrap64 ((x7_2.length : Int) - 2)) + 1))).f0) ((rd_T23 x7_2 (wrap64 ((wrap64 ((x7_2.length : Int) - 2)) + 1))).f1) ((rd_T23 x7_2 (wrap64 ((wrap64 ((x7_2.length : Int) - 2)) + 1))).f2)).bind fun bt249 => (if (wrap64 ((x7_2.length : Int) - 2)) ≤ (x7_2.length : Int) then ((some (x7_2.take ((wrap64 ((x7_2.length : Int) - 2)) : Int).toNat : List (S23))).bind fun y253 => (if bt249.2.2.2 = 0 then (if y253.length < 4398046511104 then (expr_Eval.l0 k2 l1 (y253 ++ [(⟨bt249.1, bt249.2.1, bt249.2.2.1⟩ : S23)]) l0 (l0.length : Int) (wrap64 (x24_2 + 1))) else (none)) else (some (0, 0, (⟨#[]⟩ : ByteArray), bt249.2.2.2)))) else (none))) else (none)) else (none)) else (none)) else (none))) = some (r1, r2, r3, r4) := H
                  have A14 := Aside0.mk A140
                  clear A140
                  by_cases c15 : t239 = true
                  · subst c15
                    have H1 : ((expr_push.f k2 ((rd_T67 l0 x24_2).f0) ((rd_T67 l0 x24_2).f1) ((rd_T67 l0 x24_2).f2.f0) ((rd_T67 l0 x24_2).f2.f1) ((rd_T67 l0 x24_2).f2.f2) l1).bind fun bt240 => (if bt240.2.2.2 = 0 then (if x7_2.length < 4398046511104 then (expr_Eval.l0 k2 l1 (x7_2 ++ [(⟨bt240.1, bt240.2.1, bt240.2.2.1⟩ : S23)]) l0 (l0.length : Int) (wrap64 (x24_2 + 1))) else (none)) else (some (0, 0, (⟨#[]⟩ : ByteArray), bt240.2.2.2)))) = some (r1, r2, r3, r4) := by rw [if_pos rfl] at H; exact H
                    clear H
                    have H := H1
                    clear H1
                    replace H := Option.bind_eq_some_iff.mp H
                    obtain ⟨⟨t240, t241, t242, t243⟩, A160, H⟩ := H
                    replace H : (if t243 = 0 then (if x7_2.length < 4398046511104 then (expr_Eval.l0 k2 l1 (x7_2 ++ [(⟨t240, t241, t242⟩ : S23)]) l0 (l0.length : Int) (wrap64 (x24_2 + 1))) else (none)) else (some (0, 0, (⟨#[]⟩ : ByteArray), t243))) = some (r1, r2, r3, r4) := H
                    have A16 := Aside0.mk A160
                    clear A160
                    by_cases c17 : t243 = 0
                    · rw [if_pos c17] at H
                      obtain ⟨c17b0, c17b1⟩ := eqB_ c17
                      clear c17
                      by_cases c18 : x7_2.length < 4398046511104
                      · rw [if_pos c18] at H
                        have LMc18 := Aside0.mk c18
                        clear c18
                        obtain ⟨y244, hy244⟩ : ∃ y_ : List (S23), y_ = (x7_2 ++ [(⟨t240, t241, t242⟩ : S23)]) := ⟨_, rfl⟩
                        replace H : (expr_Eval.l0 k2 l1 y244 l0 (l0.length : Int) (wrap64 (x24_2 + 1))) = some (r1, r2, r3, r4) := by first | (rw [hy244]; with_reducible exact H) | (have H2_ := (Option.bind_some _ _).symm.trans H; rw [hy244]; with_reducible exact H2_) | (have H2_ := (Option.bind_some _ _).symm.trans H; with_reducible exact H2_) | with_reducible exact H | (rw [hy244]; exact H) | exact H
                        have Ny244 := Aside0.mk hy244
                        clear hy244
                        have H' := Aside0.mk H
                        clear H
                        have p236 : 0 ≤ (x24_2 : Int) := dt_
                        have q236 : x24_2 < (l0.length : Int) := dt_
                        obtain ⟨ad236, e236, hx236_0, hx236_1, hx236_2, hx236_3, hx236_4⟩ := at_T67 HR0.out x24_2 p236 q236
                        cases e236
                        replace hx236_0 := cm_ HB hx236_0
                        replace hx236_1 := cm_ HB hx236_1
                        replace hx236_2 := cm_ HB hx236_2
                        replace hx236_3 := cm_ HB hx236_3
                        replace hx236_4 := cm_ HB hx236_4
                        replace p236 := eq_true p236
                        replace q236 := eq_true q236
                        go_wp2_with (first | ((with_reducible refine gate_dst (N := 9) rfl ?_); refine box_event ?hg (N := 9) ?hd (cs := #[.int .i64 0, .string (⟨#[]⟩ : ByteArray), .int .i64 0, .int .i64 0, .string (⟨#[]⟩ : ByteArray)]) (t := 67) ?hr ?_; (case hd => rfl); (case hg => rfl); (case hr => first | (go_simp; done) | (go_simp; rfl)); intro gb237 hg w19 hbox hb; have n0_ := kb_ (ku_ HO_7.out) hb; have n1_ := bb_ (bu_ BK232) hb; have n2_ := bs_ (be_ HB) hb; have n3_ := Aside0.mk (hbox); have n4_ := gs_ hg (be_ HB); have n5_ := gs_ hg (be_ HB); have n6_ := nl_ hg (bu_ BK232); have n7_ := ng_ hg (bu_ BK232); clear HO_7; clear BK232; clear HB; have HO_7 := n0_; have BK232 := n1_; have HB := n2_; have BK237 := n3_; have GW237 := n4_; have GE237 := n5_; have NB232_237 := n6_; have NB237_232 := n7_; clear n0_ n1_ n2_ n3_ n4_ n5_ n6_ n7_; clear hb hbox hg; have hnb20 := NB237_232.out; have hnc20 := NB232_237.out; have hcz21_0 : w19.cell? ⟨gb237, 0, none⟩ = some (.int .i64 0) := (blk_cell BK237.out 0).trans rfl; have hcz21_1 : w19.cell? ⟨gb237, 1, none⟩ = some (.string (⟨#[]⟩ : ByteArray)) := (blk_cell BK237.out 1).trans rfl; have hcz21_2 : w19.cell? ⟨gb237, 2, none⟩ = some (.int .i64 0) := (blk_cell BK237.out 2).trans rfl; have hcz21_3 : w19.cell? ⟨gb237, 3, none⟩ = some (.int .i64 0) := (blk_cell BK237.out 3).trans rfl; have hcz21_4 : w19.cell? ⟨gb237, 4, none⟩ = some (.string (⟨#[]⟩ : ByteArray)) := (blk_cell BK237.out 4).trans rfl; have hfz21_0 := blk_frozen BK237.out 0; have hfz21_1 := blk_frozen BK237.out 1; have hfz21_2 := blk_frozen BK237.out 2; have hfz21_3 := blk_frozen BK237.out 3; have hfz21_4 := blk_frozen BK237.out 4) | ((with_reducible refine gate_dst (N := 10) rfl ?_); refine box_event ?hg (N := 10) ?hd (cs := #[.int .i64 0, .int .i64 0, .string (⟨#[]⟩ : ByteArray)]) (t := 23) ?hr ?_; (case hd => rfl); (case hg => rfl); (case hr => first | (go_simp; done) | (go_simp; rfl)); intro gb238 hg w22 hbox hb; have n0_ := Aside0.mk (Kd.R_below (Kd.R_elderB (ku_ (Kd.R_mono (Kd.R_far (p := ⟨gb237, 4, none⟩) (Kd.R_far (p := ⟨gb237, 3, none⟩) (Kd.R_far (p := ⟨gb237, 2, none⟩) (Kd.R_far (p := ⟨gb237, 1, none⟩) (Kd.R_far (p := ⟨gb237, 0, none⟩) (Kd.R_types HO_7.out BK237.out (by decide)) (fun _ hk => hk.2) (.int .i64 ((rd_T67 l0 x24_2).f0))) (fun _ hk => hk.2) (.string ((rd_T67 l0 x24_2).f1))) (fun _ hk => hk.2) (.int .i64 ((rd_T67 l0 x24_2).f2.f0))) (fun _ hk => hk.2) (.int .i64 ((rd_T67 l0 x24_2).f2.f1))) (fun _ hk => hk.2) (.string ((rd_T67 l0 x24_2).f2.f2))) (fun _ h_ => h_.1))) gb238 (Nat.le_of_eq hg.symm)) hb); have n1_ := bb_ (bu_ BK232) hb; have n2_ := Aside0.mk (blk_below (o := .cells #[.int .i64 ((rd_T67 l0 x24_2).f0), .string ((rd_T67 l0 x24_2).f1), .int .i64 ((rd_T67 l0 x24_2).f2.f0), .int .i64 ((rd_T67 l0 x24_2).f2.f1), .string ((rd_T67 l0 x24_2).f2.f2)] 67 (0, 0)) (bp_ BK237) hb); have n3_ := bs_ (be_ HB) hb; have n4_ := Aside0.mk (hbox); have n5_ := gs_ hg (be_ HB); have n6_ := gs_ hg (be_ HB); have n7_ := nl_ hg (bu_ BK232); have n8_ := ng_ hg (bu_ BK232); have n9_ := Aside0.mk ((by rw [hg]; exact Nat.ne_of_lt (blk_lt (o := .cells #[.int .i64 ((rd_T67 l0 x24_2).f0), .string ((rd_T67 l0 x24_2).f1), .int .i64 ((rd_T67 l0 x24_2).f2.f0), .int .i64 ((rd_T67 l0 x24_2).f2.f1), .string ((rd_T67 l0 x24_2).f2.f2)] 67 (0, 0)) (bp_ BK237)) : gb237 ≠ gb238)); have n10_ := Aside0.mk ((by rw [hg]; exact Nat.ne_of_gt (blk_lt (o := .cells #[.int .i64 ((rd_T67 l0 x24_2).f0), .string ((rd_T67 l0 x24_2).f1), .int .i64 ((rd_T67 l0 x24_2).f2.f0), .int .i64 ((rd_T67 l0 x24_2).f2.f1), .string ((rd_T67 l0 x24_2).f2.f2)] 67 (0, 0)) (bp_ BK237)) : gb238 ≠ gb237)); clear HO_7; clear BK232; clear BK237; clear HB; have HO_7 := n0_; have BK232 := n1_; have BK237 := n2_; have HB := n3_; have BK238 := n4_; have GW238 := n5_; have GE238 := n6_; have NB232_238 := n7_; have NB238_232 := n8_; have NB237_238 := n9_; have NB238_237 := n10_; clear n0_ n1_ n2_ n3_ n4_ n5_ n6_ n7_ n8_ n9_ n10_; (try clear hcz21_0 hcz21_1 hcz21_2 hcz21_3 hcz21_4 hfz21_0 hfz21_1 hfz21_2 hfz21_3 hfz21_4); clear hb hbox hg; have hnb23 := NB237_238.out; have hnc23 := NB238_237.out; have hcz24_0 : w22.cell? ⟨gb237, 0, none⟩ = some (.int .i64 ((rd_T67 l0 x24_2).f0)) := (blk_cell BK237.out 0).trans rfl; have hcz24_1 : w22.cell? ⟨gb237, 1, none⟩ = some (.string ((rd_T67 l0 x24_2).f1)) := (blk_cell BK237.out 1).trans rfl; have hcz24_2 : w22.cell? ⟨gb237, 2, none⟩ = some (.int .i64 ((rd_T67 l0 x24_2).f2.f0)) := (blk_cell BK237.out 2).trans rfl; have hcz24_3 : w22.cell? ⟨gb237, 3, none⟩ = some (.int .i64 ((rd_T67 l0 x24_2).f2.f1)) := (blk_cell BK237.out 3).trans rfl; have hcz24_4 : w22.cell? ⟨gb237, 4, none⟩ = some (.string ((rd_T67 l0 x24_2).f2.f2)) := (blk_cell BK237.out 4).trans rfl; have hfz24_0 := blk_frozen BK237.out 0; have hfz24_1 := blk_frozen BK237.out 1; have hfz24_2 := blk_frozen BK237.out 2; have hfz24_3 := blk_frozen BK237.out 3; have hfz24_4 := blk_frozen BK237.out 4) | ((with_reducible refine gate_callee (f := 38) rfl ?_); refine goesL_ (some 30) rfl rfl Try.func38 (by kernel_rfl) rfl #[.int .i64 ((rd_T67 l0 x24_2).f0)] rfl ga_ ?_; (with_reducible refine (expr_pushes.calls ((rd_T67 l0 x24_2).f0) true _ A14.out).mono ?_); rintro e w' ⟨rfl, ⟨nd, rfl⟩⟩; refine ⟨_, rfl, ?_⟩; (try (rw [drewN_self w22]; generalize hq_ : World.drewN w22 _ = w22; have n0_ : Aside0 (Kd.R k23 23 w22 w.heap.size (fun k_ => k_ ≠ gb232 ∧ k_ ≠ gb238) u7 x7_2) := ⟨by rw [← hq_]; exact (ku_ HO_7.out)⟩; have n1_ : Aside0 (w22.heap[gb232]? = some (.cells #[.int .i64 x233000_2, .int .i64 x233001_2, .string x233002_2] 23 (0, 0))) := ⟨by rw [← hq_]; exact (bu_ BK232)⟩; have n2_ : Aside0 (w22.heap[gb237]? = some (.cells #[.int .i64 ((rd_T67 l0 x24_2).f0), .string ((rd_T67 l0 x24_2).f1), .int .i64 ((rd_T67 l0 x24_2).f2.f0), .int .i64 ((rd_T67 l0 x24_2).f2.f1), .string ((rd_T67 l0 x24_2).f2.f2)] 67 (0, 0))) := ⟨by rw [← hq_]; exact (bu_ BK237)⟩; have n3_ : Aside0 (w22.heap[gb238]? = some (.cells #[.int .i64 0, .int .i64 0, .string (⟨#[]⟩ : ByteArray)] 23 (0, 0))) := ⟨by rw [← hq_]; exact (bu_ BK238)⟩; have n4_ : Aside0 (Below w.heap.size w w22) := ⟨by rw [← hq_]; exact (be_ HB)⟩; clear HO_7 BK232 BK237 BK238 HB hq_; have HO_7 := n0_; have BK232 := n1_; have BK237 := n2_; have BK238 := n3_; have HB := n4_; clear n0_ n1_ n2_ n3_ n4_)); (try clear hcz24_0 hcz24_1 hcz24_2 hcz24_3 hcz24_4 hfz24_0 hfz24_1 hfz24_2 hfz24_3 hfz24_4); have hcz25_0 : w22.cell? ⟨gb237, 0, none⟩ = some (.int .i64 ((rd_T67 l0 x24_2).f0)) := (blk_cell BK237.out 0).trans rfl; have hcz25_1 : w22.cell? ⟨gb237, 1, none⟩ = some (.string ((rd_T67 l0 x24_2).f1)) := (blk_cell BK237.out 1).trans rfl; have hcz25_2 : w22.cell? ⟨gb237, 2, none⟩ = some (.int .i64 ((rd_T67 l0 x24_2).f2.f0)) := (blk_cell BK237.out 2).trans rfl; have hcz25_3 : w22.cell? ⟨gb237, 3, none⟩ = some (.int .i64 ((rd_T67 l0 x24_2).f2.f1)) := (blk_cell BK237.out 3).trans rfl; have hcz25_4 : w22.cell? ⟨gb237, 4, none⟩ = some (.string ((rd_T67 l0 x24_2).f2.f2)) := (blk_cell BK237.out 4).trans rfl; have hfz25_0 := blk_frozen BK237.out 0; have hfz25_1 := blk_frozen BK237.out 1; have hfz25_2 := blk_frozen BK237.out 2; have hfz25_3 := blk_frozen BK237.out 3; have hfz25_4 := blk_frozen BK237.out 4) | ((with_reducible refine gate_callee (f := 39) rfl ?_); refine goesL_ (some 34) rfl rfl Try.func39 (by kernel_rfl) rfl #[.agg #[.int .i64 ((rd_T67 l0 x24_2).f0), .string ((rd_T67 l0 x24_2).f1), .int .i64 ((rd_T67 l0 x24_2).f2.f0), .int .i64 ((rd_T67 l0 x24_2).f2.f1), .string ((rd_T67 l0 x24_2).f2.f2)], .slice A1 l1.length c1] rfl ga_ ?_; (with_reducible refine (expr_push.calls k2 ((rd_T67 l0 x24_2).f0) ((rd_T67 l0 x24_2).f1) ((rd_T67 l0 x24_2).f2.f0) ((rd_T67 l0 x24_2).f2.f1) ((rd_T67 l0 x24_2).f2.f2) _ _ l1 t240 t241 t242 t243 _ ?side1 ?side2 A16.out).mono ?_); (case side1 => repeat (first | exact (Kd.C_below HR1.out HB.out) | (with_reducible refine Kd.C_alloc ?_ _) | (with_reducible refine Kd.C_drewN ?_ _) | (with_reducible refine Kd.C_drew ?_))); (case side2 => exact HC1.out); rintro e w26 ⟨rfl, hb⟩; refine ⟨_, rfl, ?_⟩; have n0_ := kb_ (ku_ HO_7.out) hb; have n1_ := bb_ (bu_ BK232) hb; have n2_ := bb_ (bu_ BK237) hb; have n3_ := bb_ (bu_ BK238) hb; have n4_ := bs_ (be_ HB) hb; clear HO_7; clear BK232; clear BK237; clear BK238; clear HB; have HO_7 := n0_; have BK232 := n1_; have BK237 := n2_; have BK238 := n3_; have HB := n4_; clear n0_ n1_ n2_ n3_ n4_; (try clear hcz25_0 hcz25_1 hcz25_2 hcz25_3 hcz25_4 hfz25_0 hfz25_1 hfz25_2 hfz25_3 hfz25_4); (try clear hb); (try clear hb2); (try clear hk); (try clear hi); have hnb27 := NB238_232.out; have hnc27 := NB232_238.out; have hcz28_0 : w26.cell? ⟨gb238, 0, none⟩ = some (.int .i64 0) := (blk_cell BK238.out 0).trans rfl; have hcz28_1 : w26.cell? ⟨gb238, 1, none⟩ = some (.int .i64 0) := (blk_cell BK238.out 1).trans rfl; have hcz28_2 : w26.cell? ⟨gb238, 2, none⟩ = some (.string (⟨#[]⟩ : ByteArray)) := (blk_cell BK238.out 2).trans rfl; have hfz28_0 := blk_frozen BK238.out 0; have hfz28_1 := blk_frozen BK238.out 1; have hfz28_2 := blk_frozen BK238.out 2) | ((with_reducible refine gate_builtin (b := .append) (xs := #[.tmp 62, .tmp 64]) rfl ?_); at_builtin; refine Kd.R_append k23 (w0 := w) w.heap.size rfl (.tmp 62) (.tmp 64) 69 23 (.agg #[(.int .i64 0), (.int .i64 0), (.string ⟨#[]⟩)]) 32 rfl Try.underlying69 info23 rfl (by decide) (by omega) u7 x7_2 (⟨t240, t241, t242⟩ : S23) [.int .i64 t240, .int .i64 t241, .string t242] (fun k_ => k_ ≠ gb232 ∧ k_ ≠ gb238) (fun _ => False) rfl (by first | (go_simp; done) | (go_simp; rfl)) ?aP (fun _ hk => hk.elim) ?aF ?aO ?aB ?aS ?aL ?_; (case aP => exact k23_mkM _ _ _ (⟨t240, t241, t242⟩ : S23)); (case aB => exact (be_ HB)); (case aF => exact (fun k_ hk => ⟨Kd.freshB (bu_ BK232) k_ hk, Kd.freshB (o := .cells #[.int .i64 t240, .int .i64 t241, .string t242] 23 (0, 0)) (bp_ BK238) k_ hk⟩)); (case aO => exact (by (with_reducible repeat (first | apply Kd.R_alloc | apply Kd.R_drewN | apply Kd.R_drew)); exact Kd.R_mono (Kd.R_far (p := ⟨gb238, 2, none⟩) (Kd.R_far (p := ⟨gb238, 1, none⟩) (Kd.R_far (p := ⟨gb238, 0, none⟩) (Kd.R_mono HO_7.out (fun k_ hk => (⟨hk, hk.2⟩ : _ ∧ k_ ≠ gb238))) (fun _ hk => hk.2) (.int .i64 t240)) (fun _ hk => hk.2) (.int .i64 t241)) (fun _ hk => hk.2) (.string t242)) (fun _ hk => ⟨hk.1.1, hk.1.2⟩))); (case aS => exact (below_size (be_ HB))); (case aL => have := LMc18.out; omega); intro v245 w29 ho hb hg hat; rw [← Ny244.out] at ho; have n0_ := Aside0.mk (blk_grown (bu_ BK232) hg (Kd.R_away HO_7.out (fun _ hk => hk.1))); have n1_ := Aside0.mk (blk_grown (bu_ BK237) hg (Kd.R_ne HO_7.out BK237.out (by decide))); have n2_ := Aside0.mk (blk_grown (o := .cells #[.int .i64 t240, .int .i64 t241, .string t242] 23 (0, 0)) (bp_ BK238) hg (Kd.R_away HO_7.out (fun _ hk => hk.2))); have n3_ := Aside0.mk (hb); have n4_ := Aside0.mk (ho); clear BK232; clear BK237; clear BK238; clear HB; clear HO_7; have BK232 := n0_; have BK237 := n1_; have BK238 := n2_; have HB := n3_; have HO246 := n4_; clear n0_ n1_ n2_ n3_ n4_; (try clear hcz28_0 hcz28_1 hcz28_2 hfz28_0 hfz28_1 hfz28_2); clear ho hb hg hat))
                        go_roundg k2
                        case measure => have := HJ3.out; have := HK2.out; omega
                        case rel => exact ⟨(y244), (wrap64 (x24_2 + 1)), (x233000_2), (x233001_2), (x233002_2), ra_, H', ⟨by have := HJ3.out; have := HK2.out; omega⟩, ⟨by (with_reducible repeat (first | apply Kd.R_alloc | apply Kd.R_drewN | apply Kd.R_drew)); exact Kd.R_mono HO246.out (fun _ hk => hk.1)⟩, ⟨by (with_reducible repeat (first | refine blk_drewN ?_ _ | refine blk_drew ?_ | refine blk_alloc ?_ _)); exact BK232.out⟩, ⟨by repeat (first | (with_reducible first | exact HB.out | apply below_alloc | apply pw_below_drewN | apply below_drew1 | refine below_set ?_ GE232.out | refine below_set ?_ GE237.out | refine below_set ?_ GE238.out) | exact HB.out)⟩⟩
                      · rw [if_neg c18] at H
                        exact absurd H (by simp)
                    · rw [if_neg c17] at H
                      obtain ⟨c17b0, c17b1⟩ := neB_ c17
                      simp only [Option.some.injEq, Prod.mk.injEq] at H
                      obtain ⟨rfl, rfl, rfl, rfl⟩ := H
                      have p236 : 0 ≤ (x24_2 : Int) := dt_
                      have q236 : x24_2 < (l0.length : Int) := dt_
                      obtain ⟨ad236, e236, hx236_0, hx236_1, hx236_2, hx236_3, hx236_4⟩ := at_T67 HR0.out x24_2 p236 q236
                      cases e236
                      replace hx236_0 := cm_ HB hx236_0
                      replace hx236_1 := cm_ HB hx236_1
                      replace hx236_2 := cm_ HB hx236_2
                      replace hx236_3 := cm_ HB hx236_3
                      replace hx236_4 := cm_ HB hx236_4
                      replace p236 := eq_true p236
                      replace q236 := eq_true q236
                      go_wp2_with (first | ((with_reducible refine gate_dst (N := 9) rfl ?_); refine box_event ?hg (N := 9) ?hd (cs := #[.int .i64 0, .string (⟨#[]⟩ : ByteArray), .int .i64 0, .int .i64 0, .string (⟨#[]⟩ : ByteArray)]) (t := 67) ?hr ?_; (case hd => rfl); (case hg => rfl); (case hr => first | (go_simp; done) | (go_simp; rfl)); intro gb237 hg w30 hbox hb; have n0_ := kb_ (ku_ HO_7.out) hb; have n1_ := bb_ (bu_ BK232) hb; have n2_ := bs_ (be_ HB) hb; have n3_ := Aside0.mk (hbox); have n4_ := gs_ hg (be_ HB); have n5_ := gs_ hg (be_ HB); have n6_ := nl_ hg (bu_ BK232); have n7_ := ng_ hg (bu_ BK232); clear HO_7; clear BK232; clear HB; have HO_7 := n0_; have BK232 := n1_; have HB := n2_; have BK237 := n3_; have GW237 := n4_; have GE237 := n5_; have NB232_237 := n6_; have NB237_232 := n7_; clear n0_ n1_ n2_ n3_ n4_ n5_ n6_ n7_; clear hb hbox hg; have hnb31 := NB237_232.out; have hnc31 := NB232_237.out; have hcz32_0 : w30.cell? ⟨gb237, 0, none⟩ = some (.int .i64 0) := (blk_cell BK237.out 0).trans rfl; have hcz32_1 : w30.cell? ⟨gb237, 1, none⟩ = some (.string (⟨#[]⟩ : ByteArray)) := (blk_cell BK237.out 1).trans rfl; have hcz32_2 : w30.cell? ⟨gb237, 2, none⟩ = some (.int .i64 0) := (blk_cell BK237.out 2).trans rfl; have hcz32_3 : w30.cell? ⟨gb237, 3, none⟩ = some (.int .i64 0) := (blk_cell BK237.out 3).trans rfl; have hcz32_4 : w30.cell? ⟨gb237, 4, none⟩ = some (.string (⟨#[]⟩ : ByteArray)) := (blk_cell BK237.out 4).trans rfl; have hfz32_0 := blk_frozen BK237.out 0; have hfz32_1 := blk_frozen BK237.out 1; have hfz32_2 := blk_frozen BK237.out 2; have hfz32_3 := blk_frozen BK237.out 3; have hfz32_4 := blk_frozen BK237.out 4) | ((with_reducible refine gate_dst (N := 10) rfl ?_); refine box_event ?hg (N := 10) ?hd (cs := #[.int .i64 0, .int .i64 0, .string (⟨#[]⟩ : ByteArray)]) (t := 23) ?hr ?_; (case hd => rfl); (case hg => rfl); (case hr => first | (go_simp; done) | (go_simp; rfl)); intro gb238 hg w33 hbox hb; have n0_ := Aside0.mk (Kd.R_below (Kd.R_elderB (ku_ (Kd.R_mono (Kd.R_far (p := ⟨gb237, 4, none⟩) (Kd.R_far (p := ⟨gb237, 3, none⟩) (Kd.R_far (p := ⟨gb237, 2, none⟩) (Kd.R_far (p := ⟨gb237, 1, none⟩) (Kd.R_far (p := ⟨gb237, 0, none⟩) (Kd.R_types HO_7.out BK237.out (by decide)) (fun _ hk => hk.2) (.int .i64 ((rd_T67 l0 x24_2).f0))) (fun _ hk => hk.2) (.string ((rd_T67 l0 x24_2).f1))) (fun _ hk => hk.2) (.int .i64 ((rd_T67 l0 x24_2).f2.f0))) (fun _ hk => hk.2) (.int .i64 ((rd_T67 l0 x24_2).f2.f1))) (fun _ hk => hk.2) (.string ((rd_T67 l0 x24_2).f2.f2))) (fun _ h_ => h_.1))) gb238 (Nat.le_of_eq hg.symm)) hb); have n1_ := bb_ (bu_ BK232) hb; have n2_ := Aside0.mk (blk_below (o := .cells #[.int .i64 ((rd_T67 l0 x24_2).f0), .string ((rd_T67 l0 x24_2).f1), .int .i64 ((rd_T67 l0 x24_2).f2.f0), .int .i64 ((rd_T67 l0 x24_2).f2.f1), .string ((rd_T67 l0 x24_2).f2.f2)] 67 (0, 0)) (bp_ BK237) hb); have n3_ := bs_ (be_ HB) hb; have n4_ := Aside0.mk (hbox); have n5_ := gs_ hg (be_ HB); have n6_ := gs_ hg (be_ HB); have n7_ := nl_ hg (bu_ BK232); have n8_ := ng_ hg (bu_ BK232); have n9_ := Aside0.mk ((by rw [hg]; exact Nat.ne_of_lt (blk_lt (o := .cells #[.int .i64 ((rd_T67 l0 x24_2).f0), .string ((rd_T67 l0 x24_2).f1), .int .i64 ((rd_T67 l0 x24_2).f2.f0), .int .i64 ((rd_T67 l0 x24_2).f2.f1), .string ((rd_T67 l0 x24_2).f2.f2)] 67 (0, 0)) (bp_ BK237)) : gb237 ≠ gb238)); have n10_ := Aside0.mk ((by rw [hg]; exact Nat.ne_of_gt (blk_lt (o := .cells #[.int .i64 ((rd_T67 l0 x24_2).f0), .string ((rd_T67 l0 x24_2).f1), .int .i64 ((rd_T67 l0 x24_2).f2.f0), .int .i64 ((rd_T67 l0 x24_2).f2.f1), .string ((rd_T67 l0 x24_2).f2.f2)] 67 (0, 0)) (bp_ BK237)) : gb238 ≠ gb237)); clear HO_7; clear BK232; clear BK237; clear HB; have HO_7 := n0_; have BK232 := n1_; have BK237 := n2_; have HB := n3_; have BK238 := n4_; have GW238 := n5_; have GE238 := n6_; have NB232_238 := n7_; have NB238_232 := n8_; have NB237_238 := n9_; have NB238_237 := n10_; clear n0_ n1_ n2_ n3_ n4_ n5_ n6_ n7_ n8_ n9_ n10_; (try clear hcz32_0 hcz32_1 hcz32_2 hcz32_3 hcz32_4 hfz32_0 hfz32_1 hfz32_2 hfz32_3 hfz32_4); clear hb hbox hg; have hnb34 := NB237_238.out; have hnc34 := NB238_237.out; have hcz35_0 : w33.cell? ⟨gb237, 0, none⟩ = some (.int .i64 ((rd_T67 l0 x24_2).f0)) := (blk_cell BK237.out 0).trans rfl; have hcz35_1 : w33.cell? ⟨gb237, 1, none⟩ = some (.string ((rd_T67 l0 x24_2).f1)) := (blk_cell BK237.out 1).trans rfl; have hcz35_2 : w33.cell? ⟨gb237, 2, none⟩ = some (.int .i64 ((rd_T67 l0 x24_2).f2.f0)) := (blk_cell BK237.out 2).trans rfl; have hcz35_3 : w33.cell? ⟨gb237, 3, none⟩ = some (.int .i64 ((rd_T67 l0 x24_2).f2.f1)) := (blk_cell BK237.out 3).trans rfl; have hcz35_4 : w33.cell? ⟨gb237, 4, none⟩ = some (.string ((rd_T67 l0 x24_2).f2.f2)) := (blk_cell BK237.out 4).trans rfl; have hfz35_0 := blk_frozen BK237.out 0; have hfz35_1 := blk_frozen BK237.out 1; have hfz35_2 := blk_frozen BK237.out 2; have hfz35_3 := blk_frozen BK237.out 3; have hfz35_4 := blk_frozen BK237.out 4) | ((with_reducible refine gate_callee (f := 38) rfl ?_); refine goesL_ (some 30) rfl rfl Try.func38 (by kernel_rfl) rfl #[.int .i64 ((rd_T67 l0 x24_2).f0)] rfl ga_ ?_; (with_reducible refine (expr_pushes.calls ((rd_T67 l0 x24_2).f0) true _ A14.out).mono ?_); rintro e w' ⟨rfl, ⟨nd, rfl⟩⟩; refine ⟨_, rfl, ?_⟩; (try (rw [drewN_self w33]; generalize hq_ : World.drewN w33 _ = w33; have n0_ : Aside0 (Kd.R k23 23 w33 w.heap.size (fun k_ => k_ ≠ gb232 ∧ k_ ≠ gb238) u7 x7_2) := ⟨by rw [← hq_]; exact (ku_ HO_7.out)⟩; have n1_ : Aside0 (w33.heap[gb232]? = some (.cells #[.int .i64 x233000_2, .int .i64 x233001_2, .string x233002_2] 23 (0, 0))) := ⟨by rw [← hq_]; exact (bu_ BK232)⟩; have n2_ : Aside0 (w33.heap[gb237]? = some (.cells #[.int .i64 ((rd_T67 l0 x24_2).f0), .string ((rd_T67 l0 x24_2).f1), .int .i64 ((rd_T67 l0 x24_2).f2.f0), .int .i64 ((rd_T67 l0 x24_2).f2.f1), .string ((rd_T67 l0 x24_2).f2.f2)] 67 (0, 0))) := ⟨by rw [← hq_]; exact (bu_ BK237)⟩; have n3_ : Aside0 (w33.heap[gb238]? = some (.cells #[.int .i64 0, .int .i64 0, .string (⟨#[]⟩ : ByteArray)] 23 (0, 0))) := ⟨by rw [← hq_]; exact (bu_ BK238)⟩; have n4_ : Aside0 (Below w.heap.size w w33) := ⟨by rw [← hq_]; exact (be_ HB)⟩; clear HO_7 BK232 BK237 BK238 HB hq_; have HO_7 := n0_; have BK232 := n1_; have BK237 := n2_; have BK238 := n3_; have HB := n4_; clear n0_ n1_ n2_ n3_ n4_)); (try clear hcz35_0 hcz35_1 hcz35_2 hcz35_3 hcz35_4 hfz35_0 hfz35_1 hfz35_2 hfz35_3 hfz35_4); have hcz36_0 : w33.cell? ⟨gb237, 0, none⟩ = some (.int .i64 ((rd_T67 l0 x24_2).f0)) := (blk_cell BK237.out 0).trans rfl; have hcz36_1 : w33.cell? ⟨gb237, 1, none⟩ = some (.string ((rd_T67 l0 x24_2).f1)) := (blk_cell BK237.out 1).trans rfl; have hcz36_2 : w33.cell? ⟨gb237, 2, none⟩ = some (.int .i64 ((rd_T67 l0 x24_2).f2.f0)) := (blk_cell BK237.out 2).trans rfl; have hcz36_3 : w33.cell? ⟨gb237, 3, none⟩ = some (.int .i64 ((rd_T67 l0 x24_2).f2.f1)) := (blk_cell BK237.out 3).trans rfl; have hcz36_4 : w33.cell? ⟨gb237, 4, none⟩ = some (.string ((rd_T67 l0 x24_2).f2.f2)) := (blk_cell BK237.out 4).trans rfl; have hfz36_0 := blk_frozen BK237.out 0; have hfz36_1 := blk_frozen BK237.out 1; have hfz36_2 := blk_frozen BK237.out 2; have hfz36_3 := blk_frozen BK237.out 3; have hfz36_4 := blk_frozen BK237.out 4) | ((with_reducible refine gate_callee (f := 39) rfl ?_); refine goesL_ (some 34) rfl rfl Try.func39 (by kernel_rfl) rfl #[.agg #[.int .i64 ((rd_T67 l0 x24_2).f0), .string ((rd_T67 l0 x24_2).f1), .int .i64 ((rd_T67 l0 x24_2).f2.f0), .int .i64 ((rd_T67 l0 x24_2).f2.f1), .string ((rd_T67 l0 x24_2).f2.f2)], .slice A1 l1.length c1] rfl ga_ ?_; (with_reducible refine (expr_push.calls k2 ((rd_T67 l0 x24_2).f0) ((rd_T67 l0 x24_2).f1) ((rd_T67 l0 x24_2).f2.f0) ((rd_T67 l0 x24_2).f2.f1) ((rd_T67 l0 x24_2).f2.f2) _ _ l1 t240 t241 t242 t243 _ ?side1 ?side2 A16.out).mono ?_); (case side1 => repeat (first | exact (Kd.C_below HR1.out HB.out) | (with_reducible refine Kd.C_alloc ?_ _) | (with_reducible refine Kd.C_drewN ?_ _) | (with_reducible refine Kd.C_drew ?_))); (case side2 => exact HC1.out); rintro e w37 ⟨rfl, hb⟩; refine ⟨_, rfl, ?_⟩; have n0_ := kb_ (ku_ HO_7.out) hb; have n1_ := bb_ (bu_ BK232) hb; have n2_ := bb_ (bu_ BK237) hb; have n3_ := bb_ (bu_ BK238) hb; have n4_ := bs_ (be_ HB) hb; clear HO_7; clear BK232; clear BK237; clear BK238; clear HB; have HO_7 := n0_; have BK232 := n1_; have BK237 := n2_; have BK238 := n3_; have HB := n4_; clear n0_ n1_ n2_ n3_ n4_; (try clear hcz36_0 hcz36_1 hcz36_2 hcz36_3 hcz36_4 hfz36_0 hfz36_1 hfz36_2 hfz36_3 hfz36_4); (try clear hb); (try clear hb2); (try clear hk); (try clear hi); have hnb38 := NB238_232.out; have hnc38 := NB232_238.out; have hcz39_0 : w37.cell? ⟨gb238, 0, none⟩ = some (.int .i64 0) := (blk_cell BK238.out 0).trans rfl; have hcz39_1 : w37.cell? ⟨gb238, 1, none⟩ = some (.int .i64 0) := (blk_cell BK238.out 1).trans rfl; have hcz39_2 : w37.cell? ⟨gb238, 2, none⟩ = some (.string (⟨#[]⟩ : ByteArray)) := (blk_cell BK238.out 2).trans rfl; have hfz39_0 := blk_frozen BK238.out 0; have hfz39_1 := blk_frozen BK238.out 1; have hfz39_2 := blk_frozen BK238.out 2; have hcz40_0 : w37.cell? ⟨gb232, 0, none⟩ = some (.int .i64 x233000_2) := (blk_cell BK232.out 0).trans rfl; have hcz40_1 : w37.cell? ⟨gb232, 1, none⟩ = some (.int .i64 x233001_2) := (blk_cell BK232.out 1).trans rfl; have hcz40_2 : w37.cell? ⟨gb232, 2, none⟩ = some (.string x233002_2) := (blk_cell BK232.out 2).trans rfl; have hfz40_0 := blk_frozen BK232.out 0; have hfz40_1 := blk_frozen BK232.out 1; have hfz40_2 := blk_frozen BK232.out 2))
                      refine bodyPost_ret (results_ct rfl _ _ gb232 23 #[.int .i64 0, .int .i64 0, .string (⟨#[]⟩ : ByteArray)] (0, 0) _ rfl (bp_ BK232) Try.underlying23 rfl (by kernel_rfl)) rfl ?_
                      exact ⟨by first | rfl | (simp [errW_none, errW_some] <;> rfl) | (simp [*, errW_none, errW_some] <;> rfl), by repeat (first | (with_reducible first | exact HB.out | apply below_alloc | apply pw_below_drewN | apply below_drew1 | refine below_set ?_ GE232.out | refine below_set ?_ GE237.out | refine below_set ?_ GE238.out) | exact HB.out)⟩
                  · replace c15 := Bool.eq_false_iff.mpr c15
                    subst c15
                    have H1 : (if 0 ≤ (wrap64 ((x7_2.length : Int) - 2)) then (if (wrap64 ((x7_2.length : Int) - 2)) < (x7_2.length : Int) then (if 0 ≤ (wrap64 ((wrap64 ((x7_2.length : Int) - 2)) + 1)) then (if (wrap64 ((wrap64 ((x7_2.length : Int) - 2)) + 1)) < (x7_2.length : Int) then ((expr_reckon.f k2 ((rd_T67 l0 x24_2).f0) ((rd_T23 x7_2 (wrap64 ((x7_2.length : Int) - 2))).f0) ((rd_T23 x7_2 (wrap64 ((x7_2.length : Int) - 2))).f1) ((rd_T23 x7_2 (wrap64 ((x7_2.length : Int) - 2))).f2) ((rd_T23 x7_2 (wrap64 ((wrap64 ((x7_2.length : Int) - 2)) + 1))).f0) ((rd_T23 x7_2 (wrap64 ((wrap64 ((x7_2.length : Int) - 2)) + 1))).f1) ((rd_T23 x7_2 (wrap64 ((wrap64 ((x7_2.length : Int) - 2)) + 1))).f2)).bind fun bt249 => (if (wrap64 ((x7_2.length : Int) - 2)) ≤ (x7_2.length : Int) then ((some (x7_2.take ((wrap64 ((x7_2.length : Int) - 2)) : Int).toNat : List (S23))).bind fun y253 => (if bt249.2.2.2 = 0 then (if y253.length < 4398046511104 then (expr_Eval.l0 k2 l1 (y253 ++ [(⟨bt249.1, bt249.2.1, bt249.2.2.1⟩ : S23)]) l0 (l0.length : Int) (wrap64 (x24_2 + 1))) else (none)) else (some (0, 0, (⟨#[]⟩ : ByteArray), bt249.2.2.2)))) else (none))) else (none)) else (none)) else (none)) else (none)) = some (r1, r2, r3, r4) := by rw [if_neg (show ¬ (false = true) by decide)] at H; exact H
                    clear H
                    have H := H1
                    clear H1
                    obtain ⟨ji41, hji41⟩ : ∃ j_ : Int, (wrap64 ((x7_2.length : Int) - 2)) = j_ := ⟨_, rfl⟩
                    replace H : (if 0 ≤ (ji41) then (if (ji41) < (x7_2.length : Int) then (if 0 ≤ (wrap64 ((ji41) + 1)) then (if (wrap64 ((ji41) + 1)) < (x7_2.length : Int) then ((expr_reckon.f k2 ((rd_T67 l0 x24_2).f0) ((rd_T23 x7_2 (ji41)).f0) ((rd_T23 x7_2 (ji41)).f1) ((rd_T23 x7_2 (ji41)).f2) ((rd_T23 x7_2 (wrap64 ((ji41) + 1))).f0) ((rd_T23 x7_2 (wrap64 ((ji41) + 1))).f1) ((rd_T23 x7_2 (wrap64 ((ji41) + 1))).f2)).bind fun bt249 => (if (ji41) ≤ (x7_2.length : Int) then ((some (x7_2.take ((ji41) : Int).toNat : List (S23))).bind fun y253 => (if bt249.2.2.2 = 0 then (if y253.length < 4398046511104 then (expr_Eval.l0 k2 l1 (y253 ++ [(⟨bt249.1, bt249.2.1, bt249.2.2.1⟩ : S23)]) l0 (l0.length : Int) (wrap64 (x24_2 + 1))) else (none)) else (some (0, 0, (⟨#[]⟩ : ByteArray), bt249.2.2.2)))) else (none))) else (none)) else (none)) else (none)) else (none)) = some (r1, r2, r3, r4) := by first | (rw [hji41] at H; exact H) | (simp only [hji41] at H ⊢; exact H)
                    (try rw [hji41] at A14)
                    have hji41w : (IntKind.i64.wrap ((x7_2.length : Int) - 2)) = ji41 := (i64_w _).trans hji41
                    by_cases c42 : 0 ≤ (ji41)
                    · rw [if_pos c42] at H
                      have c42b0 : decide (0 ≤ (ji41)) = true := decide_eq_true c42
                      clear c42
                      by_cases c43 : (ji41) < (x7_2.length : Int)
                      · rw [if_pos c43] at H
                        have c43b0 : decide ((ji41) < (x7_2.length : Int)) = true := decide_eq_true c43
                        clear c43
                        obtain ⟨ji44, hji44⟩ : ∃ j_ : Int, (wrap64 ((ji41) + 1)) = j_ := ⟨_, rfl⟩
                        replace H : (if 0 ≤ (ji44) then (if (ji44) < (x7_2.length : Int) then ((expr_reckon.f k2 ((rd_T67 l0 x24_2).f0) ((rd_T23 x7_2 (ji41)).f0) ((rd_T23 x7_2 (ji41)).f1) ((rd_T23 x7_2 (ji41)).f2) ((rd_T23 x7_2 (ji44)).f0) ((rd_T23 x7_2 (ji44)).f1) ((rd_T23 x7_2 (ji44)).f2)).bind fun bt249 => (if (ji41) ≤ (x7_2.length : Int) then ((some (x7_2.take ((ji41) : Int).toNat : List (S23))).bind fun y253 => (if bt249.2.2.2 = 0 then (if y253.length < 4398046511104 then (expr_Eval.l0 k2 l1 (y253 ++ [(⟨bt249.1, bt249.2.1, bt249.2.2.1⟩ : S23)]) l0 (l0.length : Int) (wrap64 (x24_2 + 1))) else (none)) else (some (0, 0, (⟨#[]⟩ : ByteArray), bt249.2.2.2)))) else (none))) else (none)) else (none)) = some (r1, r2, r3, r4) := by first | (rw [hji44] at H; exact H) | (simp only [hji44] at H ⊢; exact H)
                        (try rw [hji44] at A14)
                        have hji44w : (IntKind.i64.wrap ((ji41) + 1)) = ji44 := (i64_w _).trans hji44
                        by_cases c45 : 0 ≤ (ji44)
                        · rw [if_pos c45] at H
                          have c45b0 : decide (0 ≤ (ji44)) = true := decide_eq_true c45
                          clear c45
                          by_cases c46 : (ji44) < (x7_2.length : Int)
                          · rw [if_pos c46] at H
                            have c46b0 : decide ((ji44) < (x7_2.length : Int)) = true := decide_eq_true c46
                            clear c46
                            replace H := Option.bind_eq_some_iff.mp H
                            obtain ⟨⟨t249, t250, t251, t252⟩, A470, H⟩ := H
                            replace H : (if (ji41) ≤ (x7_2.length : Int) then ((some (x7_2.take ((ji41) : Int).toNat : List (S23))).bind fun y253 => (if t252 = 0 then (if y253.length < 4398046511104 then (expr_Eval.l0 k2 l1 (y253 ++ [(⟨t249, t250, t251⟩ : S23)]) l0 (l0.length : Int) (wrap64 (x24_2 + 1))) else (none)) else (some (0, 0, (⟨#[]⟩ : ByteArray), t252)))) else (none)) = some (r1, r2, r3, r4) := H
                            have A47 := Aside0.mk A470
                            clear A470
                            by_cases c48 : (ji41) ≤ (x7_2.length : Int)
                            · rw [if_pos c48] at H
                              have c48b0 := eq_true c48
                              have c48b1 : decide ((ji41) ≤ (x7_2.length : Int)) = true := decide_eq_true c48
                              clear c48
                              obtain ⟨y253, hy253⟩ : ∃ y_ : List (S23), y_ = (x7_2.take ((ji41) : Int).toNat) := ⟨_, rfl⟩
                              replace H : (if t252 = 0 then (if y253.length < 4398046511104 then (expr_Eval.l0 k2 l1 (y253 ++ [(⟨t249, t250, t251⟩ : S23)]) l0 (l0.length : Int) (wrap64 (x24_2 + 1))) else (none)) else (some (0, 0, (⟨#[]⟩ : ByteArray), t252))) = some (r1, r2, r3, r4) := by first | (rw [hy253]; with_reducible exact H) | (have H2_ := (Option.bind_some _ _).symm.trans H; rw [hy253]; with_reducible exact H2_) | (have H2_ := (Option.bind_some _ _).symm.trans H; with_reducible exact H2_) | with_reducible exact H | (rw [hy253]; exact H) | exact H
                              have Ny253 := Aside0.mk hy253
                              clear hy253
                              by_cases c49 : t252 = 0
                              · rw [if_pos c49] at H
                                obtain ⟨c49b0, c49b1⟩ := eqB_ c49
                                clear c49
                                by_cases c50 : y253.length < 4398046511104
                                · rw [if_pos c50] at H
                                  have LMc50 := Aside0.mk c50
                                  clear c50
                                  obtain ⟨y256, hy256⟩ : ∃ y_ : List (S23), y_ = (y253 ++ [(⟨t249, t250, t251⟩ : S23)]) := ⟨_, rfl⟩
                                  replace H : (expr_Eval.l0 k2 l1 y256 l0 (l0.length : Int) (wrap64 (x24_2 + 1))) = some (r1, r2, r3, r4) := by first | (rw [hy256]; with_reducible exact H) | (have H2_ := (Option.bind_some _ _).symm.trans H; rw [hy256]; with_reducible exact H2_) | (have H2_ := (Option.bind_some _ _).symm.trans H; with_reducible exact H2_) | with_reducible exact H | (rw [hy256]; exact H) | exact H
                                  have Ny256 := Aside0.mk hy256
                                  clear hy256
                                  have H' := Aside0.mk H
                                  clear H
                                  have p236 : 0 ≤ (x24_2 : Int) := dt_
                                  have q236 : x24_2 < (l0.length : Int) := dt_
                                  obtain ⟨ad236, e236, hx236_0, hx236_1, hx236_2, hx236_3, hx236_4⟩ := at_T67 HR0.out x24_2 p236 q236
                                  cases e236
                                  replace hx236_0 := cm_ HB hx236_0
                                  replace hx236_1 := cm_ HB hx236_1
                                  replace hx236_2 := cm_ HB hx236_2
                                  replace hx236_3 := cm_ HB hx236_3
                                  replace hx236_4 := cm_ HB hx236_4
                                  replace p236 := eq_true p236
                                  replace q236 := eq_true q236
                                  try go_wp2_with (first | ((with_reducible refine gate_dst (N := 9) rfl ?_); refine box_event ?hg (N := 9) ?hd (cs := #[.int .i64 0, .string (⟨#[]⟩ : ByteArray), .int .i64 0, .int .i64 0, .string (⟨#[]⟩ : ByteArray)]) (t := 67) ?hr ?_; (case hd => rfl); (case hg => rfl); (case hr => first | (go_simp; done) | (go_simp; rfl)); intro gb237 hg w51 hbox hb; have n0_ := kb_ (ku_ HO_7.out) hb; have n1_ := bb_ (bu_ BK232) hb; have n2_ := bs_ (be_ HB) hb; have n3_ := Aside0.mk (hbox); have n4_ := gs_ hg (be_ HB); have n5_ := gs_ hg (be_ HB); have n6_ := nl_ hg (bu_ BK232); have n7_ := ng_ hg (bu_ BK232); clear HO_7; clear BK232; clear HB; have HO_7 := n0_; have BK232 := n1_; have HB := n2_; have BK237 := n3_; have GW237 := n4_; have GE237 := n5_; have NB232_237 := n6_; have NB237_232 := n7_; clear n0_ n1_ n2_ n3_ n4_ n5_ n6_ n7_; clear hb hbox hg; have hnb52 := NB237_232.out; have hnc52 := NB232_237.out; have hcz53_0 : w51.cell? ⟨gb237, 0, none⟩ = some (.int .i64 0) := (blk_cell BK237.out 0).trans rfl; have hcz53_1 : w51.cell? ⟨gb237, 1, none⟩ = some (.string (⟨#[]⟩ : ByteArray)) := (blk_cell BK237.out 1).trans rfl; have hcz53_2 : w51.cell? ⟨gb237, 2, none⟩ = some (.int .i64 0) := (blk_cell BK237.out 2).trans rfl; have hcz53_3 : w51.cell? ⟨gb237, 3, none⟩ = some (.int .i64 0) := (blk_cell BK237.out 3).trans rfl; have hcz53_4 : w51.cell? ⟨gb237, 4, none⟩ = some (.string (⟨#[]⟩ : ByteArray)) := (blk_cell BK237.out 4).trans rfl; have hfz53_0 := blk_frozen BK237.out 0; have hfz53_1 := blk_frozen BK237.out 1; have hfz53_2 := blk_frozen BK237.out 2; have hfz53_3 := blk_frozen BK237.out 3; have hfz53_4 := blk_frozen BK237.out 4) | ((with_reducible refine gate_dst (N := 10) rfl ?_); refine box_event ?hg (N := 10) ?hd (cs := #[.int .i64 0, .int .i64 0, .string (⟨#[]⟩ : ByteArray)]) (t := 23) ?hr ?_; (case hd => rfl); (case hg => rfl); (case hr => first | (go_simp; done) | (go_simp; rfl)); intro gb238 hg w54 hbox hb; have n0_ := Aside0.mk (Kd.R_below (Kd.R_elderB (ku_ (Kd.R_mono (Kd.R_far (p := ⟨gb237, 4, none⟩) (Kd.R_far (p := ⟨gb237, 3, none⟩) (Kd.R_far (p := ⟨gb237, 2, none⟩) (Kd.R_far (p := ⟨gb237, 1, none⟩) (Kd.R_far (p := ⟨gb237, 0, none⟩) (Kd.R_types HO_7.out BK237.out (by decide)) (fun _ hk => hk.2) (.int .i64 ((rd_T67 l0 x24_2).f0))) (fun _ hk => hk.2) (.string ((rd_T67 l0 x24_2).f1))) (fun _ hk => hk.2) (.int .i64 ((rd_T67 l0 x24_2).f2.f0))) (fun _ hk => hk.2) (.int .i64 ((rd_T67 l0 x24_2).f2.f1))) (fun _ hk => hk.2) (.string ((rd_T67 l0 x24_2).f2.f2))) (fun _ h_ => h_.1))) gb238 (Nat.le_of_eq hg.symm)) hb); have n1_ := bb_ (bu_ BK232) hb; have n2_ := Aside0.mk (blk_below (o := .cells #[.int .i64 ((rd_T67 l0 x24_2).f0), .string ((rd_T67 l0 x24_2).f1), .int .i64 ((rd_T67 l0 x24_2).f2.f0), .int .i64 ((rd_T67 l0 x24_2).f2.f1), .string ((rd_T67 l0 x24_2).f2.f2)] 67 (0, 0)) (bp_ BK237) hb); have n3_ := bs_ (be_ HB) hb; have n4_ := Aside0.mk (hbox); have n5_ := gs_ hg (be_ HB); have n6_ := gs_ hg (be_ HB); have n7_ := nl_ hg (bu_ BK232); have n8_ := ng_ hg (bu_ BK232); have n9_ := Aside0.mk ((by rw [hg]; exact Nat.ne_of_lt (blk_lt (o := .cells #[.int .i64 ((rd_T67 l0 x24_2).f0), .string ((rd_T67 l0 x24_2).f1), .int .i64 ((rd_T67 l0 x24_2).f2.f0), .int .i64 ((rd_T67 l0 x24_2).f2.f1), .string ((rd_T67 l0 x24_2).f2.f2)] 67 (0, 0)) (bp_ BK237)) : gb237 ≠ gb238)); have n10_ := Aside0.mk ((by rw [hg]; exact Nat.ne_of_gt (blk_lt (o := .cells #[.int .i64 ((rd_T67 l0 x24_2).f0), .string ((rd_T67 l0 x24_2).f1), .int .i64 ((rd_T67 l0 x24_2).f2.f0), .int .i64 ((rd_T67 l0 x24_2).f2.f1), .string ((rd_T67 l0 x24_2).f2.f2)] 67 (0, 0)) (bp_ BK237)) : gb238 ≠ gb237)); clear HO_7; clear BK232; clear BK237; clear HB; have HO_7 := n0_; have BK232 := n1_; have BK237 := n2_; have HB := n3_; have BK238 := n4_; have GW238 := n5_; have GE238 := n6_; have NB232_238 := n7_; have NB238_232 := n8_; have NB237_238 := n9_; have NB238_237 := n10_; clear n0_ n1_ n2_ n3_ n4_ n5_ n6_ n7_ n8_ n9_ n10_; (try clear hcz53_0 hcz53_1 hcz53_2 hcz53_3 hcz53_4 hfz53_0 hfz53_1 hfz53_2 hfz53_3 hfz53_4); clear hb hbox hg; have hnb55 := NB237_238.out; have hnc55 := NB238_237.out; have hcz56_0 : w54.cell? ⟨gb237, 0, none⟩ = some (.int .i64 ((rd_T67 l0 x24_2).f0)) := (blk_cell BK237.out 0).trans rfl; have hcz56_1 : w54.cell? ⟨gb237, 1, none⟩ = some (.string ((rd_T67 l0 x24_2).f1)) := (blk_cell BK237.out 1).trans rfl; have hcz56_2 : w54.cell? ⟨gb237, 2, none⟩ = some (.int .i64 ((rd_T67 l0 x24_2).f2.f0)) := (blk_cell BK237.out 2).trans rfl; have hcz56_3 : w54.cell? ⟨gb237, 3, none⟩ = some (.int .i64 ((rd_T67 l0 x24_2).f2.f1)) := (blk_cell BK237.out 3).trans rfl; have hcz56_4 : w54.cell? ⟨gb237, 4, none⟩ = some (.string ((rd_T67 l0 x24_2).f2.f2)) := (blk_cell BK237.out 4).trans rfl; have hfz56_0 := blk_frozen BK237.out 0; have hfz56_1 := blk_frozen BK237.out 1; have hfz56_2 := blk_frozen BK237.out 2; have hfz56_3 := blk_frozen BK237.out 3; have hfz56_4 := blk_frozen BK237.out 4) | ((with_reducible refine gate_callee (f := 38) rfl ?_); refine goesL_ (some 30) rfl rfl Try.func38 (by kernel_rfl) rfl #[.int .i64 ((rd_T67 l0 x24_2).f0)] rfl ga_ ?_; (with_reducible refine (expr_pushes.calls ((rd_T67 l0 x24_2).f0) false _ A14.out).mono ?_); rintro e w' ⟨rfl, ⟨nd, rfl⟩⟩; refine ⟨_, rfl, ?_⟩; (try (rw [drewN_self w54]; generalize hq_ : World.drewN w54 _ = w54; have n0_ : Aside0 (Kd.R k23 23 w54 w.heap.size (fun k_ => k_ ≠ gb232 ∧ k_ ≠ gb238) u7 x7_2) := ⟨by rw [← hq_]; exact (ku_ HO_7.out)⟩; have n1_ : Aside0 (w54.heap[gb232]? = some (.cells #[.int .i64 x233000_2, .int .i64 x233001_2, .string x233002_2] 23 (0, 0))) := ⟨by rw [← hq_]; exact (bu_ BK232)⟩; have n2_ : Aside0 (w54.heap[gb237]? = some (.cells #[.int .i64 ((rd_T67 l0 x24_2).f0), .string ((rd_T67 l0 x24_2).f1), .int .i64 ((rd_T67 l0 x24_2).f2.f0), .int .i64 ((rd_T67 l0 x24_2).f2.f1), .string ((rd_T67 l0 x24_2).f2.f2)] 67 (0, 0))) := ⟨by rw [← hq_]; exact (bu_ BK237)⟩; have n3_ : Aside0 (w54.heap[gb238]? = some (.cells #[.int .i64 0, .int .i64 0, .string (⟨#[]⟩ : ByteArray)] 23 (0, 0))) := ⟨by rw [← hq_]; exact (bu_ BK238)⟩; have n4_ : Aside0 (Below w.heap.size w w54) := ⟨by rw [← hq_]; exact (be_ HB)⟩; clear HO_7 BK232 BK237 BK238 HB hq_; have HO_7 := n0_; have BK232 := n1_; have BK237 := n2_; have BK238 := n3_; have HB := n4_; clear n0_ n1_ n2_ n3_ n4_)); (try clear hcz56_0 hcz56_1 hcz56_2 hcz56_3 hcz56_4 hfz56_0 hfz56_1 hfz56_2 hfz56_3 hfz56_4); obtain ⟨Ao57, co57, eo57⟩ := Kd.R_slice HO_7.out; subst eo57))
                                  have n0_ := Aside0.mk (Kd.R_drew HO_7.out)
                                  have n1_ := Aside0.mk (blk_drew BK232.out)
                                  have n2_ := Aside0.mk (blk_drew BK237.out)
                                  have n3_ := Aside0.mk (blk_drew BK238.out)
                                  have n4_ := Aside0.mk (below_drew1 HB.out)
                                  clear HO_7
                                  clear BK232
                                  clear BK237
                                  clear BK238
                                  clear HB
                                  have HO_7 := n0_
                                  have BK232 := n1_
                                  have BK237 := n2_
                                  have BK238 := n3_
                                  have HB := n4_
                                  clear n0_ n1_ n2_ n3_ n4_
                                  have p247 : 0 ≤ ((ji41) : Int) := dt_
                                  have q247 : (ji41) < (x7_2.length : Int) := dt_
                                  obtain ⟨ad247, e247, hx247_0, hx247_1, hx247_2⟩ := at_T23 (Kd.R_reads' HO_7.out).2.2 (ji41) p247 q247
                                  cases e247
                                  replace p247 := eq_true p247
                                  replace q247 := eq_true q247
                                  have p248 : 0 ≤ ((ji44) : Int) := dt_
                                  have q248 : (ji44) < (x7_2.length : Int) := dt_
                                  obtain ⟨ad248, e248, hx248_0, hx248_1, hx248_2⟩ := at_T23 (Kd.R_reads' HO_7.out).2.2 (ji44) p248 q248
                                  obtain rfl : ad247 = ad248 := (by injection e248)
                                  replace p248 := eq_true p248
                                  replace q248 := eq_true q248
                                  refine start_ (n := 17) (S := fun w' => w'.cell? ⟨gb237, 0, none⟩ = some (.int .i64 ((rd_T67 l0 x24_2).f0)) ∧ w'.cell? ⟨gb237, 1, none⟩ = some (.string ((rd_T67 l0 x24_2).f1)) ∧ w'.cell? ⟨gb237, 2, none⟩ = some (.int .i64 ((rd_T67 l0 x24_2).f2.f0)) ∧ w'.cell? ⟨gb237, 3, none⟩ = some (.int .i64 ((rd_T67 l0 x24_2).f2.f1)) ∧ w'.cell? ⟨gb237, 4, none⟩ = some (.string ((rd_T67 l0 x24_2).f2.f2)) ∧ w'.cell? (ad247.add (((ji41)).toNat * 3)) = some (.int .i64 ((rd_T23 x7_2 (ji41)).f0)) ∧ w'.cell? ⟨(ad247.add (((ji41)).toNat * 3)).block, (ad247.add (((ji41)).toNat * 3)).off + 1, none⟩ = some (.int .i64 ((rd_T23 x7_2 (ji41)).f1)) ∧ w'.cell? ⟨(ad247.add (((ji41)).toNat * 3)).block, (ad247.add (((ji41)).toNat * 3)).off + 2, none⟩ = some (.string ((rd_T23 x7_2 (ji41)).f2)) ∧ w'.cell? (ad247.add (((ji44)).toNat * 3)) = some (.int .i64 ((rd_T23 x7_2 (ji44)).f0)) ∧ w'.cell? ⟨(ad247.add (((ji44)).toNat * 3)).block, (ad247.add (((ji44)).toNat * 3)).off + 1, none⟩ = some (.int .i64 ((rd_T23 x7_2 (ji44)).f1)) ∧ w'.cell? ⟨(ad247.add (((ji44)).toNat * 3)).block, (ad247.add (((ji44)).toNat * 3)).off + 2, none⟩ = some (.string ((rd_T23 x7_2 (ji44)).f2))) (ds := []) (mk_ 17 0) (by kernel_rfl) rfl rfl ⟨(blk_cell BK237.out 0).trans rfl, (blk_cell BK237.out 1).trans rfl, (blk_cell BK237.out 2).trans rfl, (blk_cell BK237.out 3).trans rfl, (blk_cell BK237.out 4).trans rfl, hx247_0, hx247_1, hx247_2, hx248_0, hx248_1, hx248_2⟩ (fun hHeld => ?_); refine with_tabW expr_Eval.tab14 expr_Eval.bits14 (fun HT_ HW_ => ?_)
                                  generalize w54.drew = w58 at HO_7 BK232 BK237 BK238 HB hx247_0 hx247_1 hx247_2 hx248_0 hx248_1 hx248_2 hHeld ⊢
                                  refine pu_ 0 41 1 HT_ ?_; refine pu_ 2 43 5 HT_ ?_; refine pu_ 3 44 13 HT_ ?_; refine pu_ 4 45 29 HT_ ?_; refine pu_ 6 47 93 HT_ ?_; refine pu_ 7 48 221 HT_ ?_; refine pu_ 8 49 477 HT_ ?_; refine pu_ 9 50 989 HT_ ?_; refine tk_ 1 42 991 HT_ HW_ hHeld ?_; refine tk_ 5 46 1023 HT_ HW_ hHeld ?_; refine tk_ 10 51 2047 HT_ HW_ hHeld ?_
                                  refine one_ (i := 11) (N := some 52) (mk_ 17 4095) rfl rfl (one_of HT_.out (by kernel_rfl)) (by decide) (fun K hK => ?_)
                                  refine goes_ Try.func40 (by kernel_rfl) rfl #[.int .i64 ((rd_T67 l0 x24_2).f0), .agg #[.int .i64 ((rd_T23 x7_2 (ji41)).f0), .int .i64 ((rd_T23 x7_2 (ji41)).f1), .string ((rd_T23 x7_2 (ji41)).f2)], .agg #[.int .i64 ((rd_T23 x7_2 (ji44)).f0), .int .i64 ((rd_T23 x7_2 (ji44)).f1), .string ((rd_T23 x7_2 (ji44)).f2)]] (by rfl) rfl rfl (by (try simp only [List.map_toArray, List.map_cons, List.map_nil]); first | done | (simp only [hji41, hji44]; rfl) | rfl | (simp only [List.length_drop, List.length_take]; rfl)) ?_
                                  with_reducible refine (expr_reckon.calls k2 ((rd_T67 l0 x24_2).f0) ((rd_T23 x7_2 (ji41)).f0) ((rd_T23 x7_2 (ji41)).f1) ((rd_T23 x7_2 (ji41)).f2) ((rd_T23 x7_2 (ji44)).f0) ((rd_T23 x7_2 (ji44)).f1) ((rd_T23 x7_2 (ji44)).f2) t249 t250 t251 t252 _ A47.out).mono ?_
                                  rintro e w59 ⟨rfl, hb⟩
                                  have HS5_ := (hb.cell (World.block_lt_of_cell? _ _ (hHeld.2.2.2.2.2.1))).trans (hHeld.2.2.2.2.2.1)
                                  have HS6_ := (hb.cell (World.block_lt_of_cell? _ _ (hHeld.2.2.2.2.2.2.1))).trans (hHeld.2.2.2.2.2.2.1)
                                  have HS7_ := (hb.cell (World.block_lt_of_cell? _ _ (hHeld.2.2.2.2.2.2.2.1))).trans (hHeld.2.2.2.2.2.2.2.1)
                                  have HS8_ := (hb.cell (World.block_lt_of_cell? _ _ (hHeld.2.2.2.2.2.2.2.2.1))).trans (hHeld.2.2.2.2.2.2.2.2.1)
                                  have HS9_ := (hb.cell (World.block_lt_of_cell? _ _ (hHeld.2.2.2.2.2.2.2.2.2.1))).trans (hHeld.2.2.2.2.2.2.2.2.2.1)
                                  have HS10_ := (hb.cell (World.block_lt_of_cell? _ _ (hHeld.2.2.2.2.2.2.2.2.2.2))).trans (hHeld.2.2.2.2.2.2.2.2.2.2)
                                  refine ⟨_, rfl, ?_⟩
                                  have n0_ := kb_ (ku_ HO_7.out) hb
                                  have n1_ := bb_ (bu_ BK232) hb
                                  have n2_ := bb_ (bu_ BK237) hb
                                  have n3_ := bb_ (bu_ BK238) hb
                                  have n4_ := bs_ (be_ HB) hb
                                  clear HO_7
                                  clear BK232
                                  clear BK237
                                  clear BK238
                                  clear HB
                                  have HO_7 := n0_
                                  have BK232 := n1_
                                  have BK237 := n2_
                                  have BK238 := n3_
                                  have HB := n4_
                                  clear n0_ n1_ n2_ n3_ n4_
                                  (try clear hb)
                                  (try clear hb2)
                                  (try clear hk)
                                  (try clear hi)
                                  refine hK.out _ _ ⟨(blk_cell BK237.out 0).trans rfl, (blk_cell BK237.out 1).trans rfl, (blk_cell BK237.out 2).trans rfl, (blk_cell BK237.out 3).trans rfl, (blk_cell BK237.out 4).trans rfl, HS5_, HS6_, HS7_, HS8_, HS9_, HS10_⟩ (fun hHeld => ?_)
                                  clear hK K
                                  refine nm_ 52 ?_; refine pu_ 12 40 8191 HT_ ?_; refine pu_ 13 53 16383 HT_ ?_; refine pu_ 14 54 32767 HT_ ?_
                                  refine one_ (i := 15) (N := none) (mk_ 17 65535) rfl rfl (one_of HT_.out (by kernel_rfl)) (by decide) (fun K hK => ?_)
                                  have hs60 : w59.cell? ⟨gb238, 0, none⟩ = some (.int .i64 0) := (blk_cell BK238.out 0).trans rfl
                                  have hfs60 := blk_frozen BK238.out 0
                                  have hns60_0 := NB232_238.out
                                  have hns60_1 := NB237_238.out
                                  have hms60_0 := NB238_232.out
                                  have hms60_1 := NB238_237.out
                                  have hs61 : w59.cell? ⟨gb238, 1, none⟩ = some (.int .i64 0) := (blk_cell BK238.out 1).trans rfl
                                  have hfs61 := blk_frozen BK238.out 1
                                  have hns61_0 := NB232_238.out
                                  have hns61_1 := NB237_238.out
                                  have hms61_0 := NB238_232.out
                                  have hms61_1 := NB238_237.out
                                  have hs62 : w59.cell? ⟨gb238, 2, none⟩ = some (.string (⟨#[]⟩ : ByteArray)) := (blk_cell BK238.out 2).trans rfl
                                  have hfs62 := blk_frozen BK238.out 2
                                  have hns62_0 := NB232_238.out
                                  have hns62_1 := NB237_238.out
                                  have hms62_0 := NB238_232.out
                                  have hms62_1 := NB238_237.out
                                  refine skip_ (w1 := ?_) (by rfl) rfl ?_ ?_
                                  rotate_left
                                  · go_simp
                                    rfl
                                  refine hK.out _ _ ⟨((cell_far (p := ⟨gb238, _, none⟩) NB237_238.out _).trans (((cell_far (p := ⟨gb238, _, none⟩) NB237_238.out _).trans (((cell_far (p := ⟨gb238, _, none⟩) NB237_238.out _).trans (hHeld.1)))))), ((cell_far (p := ⟨gb238, _, none⟩) NB237_238.out _).trans (((cell_far (p := ⟨gb238, _, none⟩) NB237_238.out _).trans (((cell_far (p := ⟨gb238, _, none⟩) NB237_238.out _).trans (hHeld.2.1)))))), ((cell_far (p := ⟨gb238, _, none⟩) NB237_238.out _).trans (((cell_far (p := ⟨gb238, _, none⟩) NB237_238.out _).trans (((cell_far (p := ⟨gb238, _, none⟩) NB237_238.out _).trans (hHeld.2.2.1)))))), ((cell_far (p := ⟨gb238, _, none⟩) NB237_238.out _).trans (((cell_far (p := ⟨gb238, _, none⟩) NB237_238.out _).trans (((cell_far (p := ⟨gb238, _, none⟩) NB237_238.out _).trans (hHeld.2.2.2.1)))))), ((cell_far (p := ⟨gb238, _, none⟩) NB237_238.out _).trans (((cell_far (p := ⟨gb238, _, none⟩) NB237_238.out _).trans (((cell_far (p := ⟨gb238, _, none⟩) NB237_238.out _).trans (hHeld.2.2.2.2.1)))))), ((cell_far (p := ⟨gb238, _, none⟩) (by first | exact Kd.own_blk (Kd.R_away HO_7.out (fun _ hk => hk.2)) | (rw [add_block]; exact Kd.own_blk (Kd.R_away HO_7.out (fun _ hk => hk.2))) | (show (Addr.add _ _).block ≠ _; rw [add_block]; exact Kd.own_blk (Kd.R_away HO_7.out (fun _ hk => hk.2))) | (dsimp only; exact Kd.own_blk (Kd.R_away HO_7.out (fun _ hk => hk.2)))) _).trans (((cell_far (p := ⟨gb238, _, none⟩) (by first | exact Kd.own_blk (Kd.R_away HO_7.out (fun _ hk => hk.2)) | (rw [add_block]; exact Kd.own_blk (Kd.R_away HO_7.out (fun _ hk => hk.2))) | (show (Addr.add _ _).block ≠ _; rw [add_block]; exact Kd.own_blk (Kd.R_away HO_7.out (fun _ hk => hk.2))) | (dsimp only; exact Kd.own_blk (Kd.R_away HO_7.out (fun _ hk => hk.2)))) _).trans (((cell_far (p := ⟨gb238, _, none⟩) (by first | exact Kd.own_blk (Kd.R_away HO_7.out (fun _ hk => hk.2)) | (rw [add_block]; exact Kd.own_blk (Kd.R_away HO_7.out (fun _ hk => hk.2))) | (show (Addr.add _ _).block ≠ _; rw [add_block]; exact Kd.own_blk (Kd.R_away HO_7.out (fun _ hk => hk.2))) | (dsimp only; exact Kd.own_blk (Kd.R_away HO_7.out (fun _ hk => hk.2)))) _).trans (hHeld.2.2.2.2.2.1)))))), ((cell_far (p := ⟨gb238, _, none⟩) (by first | exact Kd.own_blk (Kd.R_away HO_7.out (fun _ hk => hk.2)) | (rw [add_block]; exact Kd.own_blk (Kd.R_away HO_7.out (fun _ hk => hk.2))) | (show (Addr.add _ _).block ≠ _; rw [add_block]; exact Kd.own_blk (Kd.R_away HO_7.out (fun _ hk => hk.2))) | (dsimp only; exact Kd.own_blk (Kd.R_away HO_7.out (fun _ hk => hk.2)))) _).trans (((cell_far (p := ⟨gb238, _, none⟩) (by first | exact Kd.own_blk (Kd.R_away HO_7.out (fun _ hk => hk.2)) | (rw [add_block]; exact Kd.own_blk (Kd.R_away HO_7.out (fun _ hk => hk.2))) | (show (Addr.add _ _).block ≠ _; rw [add_block]; exact Kd.own_blk (Kd.R_away HO_7.out (fun _ hk => hk.2))) | (dsimp only; exact Kd.own_blk (Kd.R_away HO_7.out (fun _ hk => hk.2)))) _).trans (((cell_far (p := ⟨gb238, _, none⟩) (by first | exact Kd.own_blk (Kd.R_away HO_7.out (fun _ hk => hk.2)) | (rw [add_block]; exact Kd.own_blk (Kd.R_away HO_7.out (fun _ hk => hk.2))) | (show (Addr.add _ _).block ≠ _; rw [add_block]; exact Kd.own_blk (Kd.R_away HO_7.out (fun _ hk => hk.2))) | (dsimp only; exact Kd.own_blk (Kd.R_away HO_7.out (fun _ hk => hk.2)))) _).trans (hHeld.2.2.2.2.2.2.1)))))), ((cell_far (p := ⟨gb238, _, none⟩) (by first | exact Kd.own_blk (Kd.R_away HO_7.out (fun _ hk => hk.2)) | (rw [add_block]; exact Kd.own_blk (Kd.R_away HO_7.out (fun _ hk => hk.2))) | (show (Addr.add _ _).block ≠ _; rw [add_block]; exact Kd.own_blk (Kd.R_away HO_7.out (fun _ hk => hk.2))) | (dsimp only; exact Kd.own_blk (Kd.R_away HO_7.out (fun _ hk => hk.2)))) _).trans (((cell_far (p := ⟨gb238, _, none⟩) (by first | exact Kd.own_blk (Kd.R_away HO_7.out (fun _ hk => hk.2)) | (rw [add_block]; exact Kd.own_blk (Kd.R_away HO_7.out (fun _ hk => hk.2))) | (show (Addr.add _ _).block ≠ _; rw [add_block]; exact Kd.own_blk (Kd.R_away HO_7.out (fun _ hk => hk.2))) | (dsimp only; exact Kd.own_blk (Kd.R_away HO_7.out (fun _ hk => hk.2)))) _).trans (((cell_far (p := ⟨gb238, _, none⟩) (by first | exact Kd.own_blk (Kd.R_away HO_7.out (fun _ hk => hk.2)) | (rw [add_block]; exact Kd.own_blk (Kd.R_away HO_7.out (fun _ hk => hk.2))) | (show (Addr.add _ _).block ≠ _; rw [add_block]; exact Kd.own_blk (Kd.R_away HO_7.out (fun _ hk => hk.2))) | (dsimp only; exact Kd.own_blk (Kd.R_away HO_7.out (fun _ hk => hk.2)))) _).trans (hHeld.2.2.2.2.2.2.2.1)))))), ((cell_far (p := ⟨gb238, _, none⟩) (by first | exact Kd.own_blk (Kd.R_away HO_7.out (fun _ hk => hk.2)) | (rw [add_block]; exact Kd.own_blk (Kd.R_away HO_7.out (fun _ hk => hk.2))) | (show (Addr.add _ _).block ≠ _; rw [add_block]; exact Kd.own_blk (Kd.R_away HO_7.out (fun _ hk => hk.2))) | (dsimp only; exact Kd.own_blk (Kd.R_away HO_7.out (fun _ hk => hk.2)))) _).trans (((cell_far (p := ⟨gb238, _, none⟩) (by first | exact Kd.own_blk (Kd.R_away HO_7.out (fun _ hk => hk.2)) | (rw [add_block]; exact Kd.own_blk (Kd.R_away HO_7.out (fun _ hk => hk.2))) | (show (Addr.add _ _).block ≠ _; rw [add_block]; exact Kd.own_blk (Kd.R_away HO_7.out (fun _ hk => hk.2))) | (dsimp only; exact Kd.own_blk (Kd.R_away HO_7.out (fun _ hk => hk.2)))) _).trans (((cell_far (p := ⟨gb238, _, none⟩) (by first | exact Kd.own_blk (Kd.R_away HO_7.out (fun _ hk => hk.2)) | (rw [add_block]; exact Kd.own_blk (Kd.R_away HO_7.out (fun _ hk => hk.2))) | (show (Addr.add _ _).block ≠ _; rw [add_block]; exact Kd.own_blk (Kd.R_away HO_7.out (fun _ hk => hk.2))) | (dsimp only; exact Kd.own_blk (Kd.R_away HO_7.out (fun _ hk => hk.2)))) _).trans (hHeld.2.2.2.2.2.2.2.2.1)))))), ((cell_far (p := ⟨gb238, _, none⟩) (by first | exact Kd.own_blk (Kd.R_away HO_7.out (fun _ hk => hk.2)) | (rw [add_block]; exact Kd.own_blk (Kd.R_away HO_7.out (fun _ hk => hk.2))) | (show (Addr.add _ _).block ≠ _; rw [add_block]; exact Kd.own_blk (Kd.R_away HO_7.out (fun _ hk => hk.2))) | (dsimp only; exact Kd.own_blk (Kd.R_away HO_7.out (fun _ hk => hk.2)))) _).trans (((cell_far (p := ⟨gb238, _, none⟩) (by first | exact Kd.own_blk (Kd.R_away HO_7.out (fun _ hk => hk.2)) | (rw [add_block]; exact Kd.own_blk (Kd.R_away HO_7.out (fun _ hk => hk.2))) | (show (Addr.add _ _).block ≠ _; rw [add_block]; exact Kd.own_blk (Kd.R_away HO_7.out (fun _ hk => hk.2))) | (dsimp only; exact Kd.own_blk (Kd.R_away HO_7.out (fun _ hk => hk.2)))) _).trans (((cell_far (p := ⟨gb238, _, none⟩) (by first | exact Kd.own_blk (Kd.R_away HO_7.out (fun _ hk => hk.2)) | (rw [add_block]; exact Kd.own_blk (Kd.R_away HO_7.out (fun _ hk => hk.2))) | (show (Addr.add _ _).block ≠ _; rw [add_block]; exact Kd.own_blk (Kd.R_away HO_7.out (fun _ hk => hk.2))) | (dsimp only; exact Kd.own_blk (Kd.R_away HO_7.out (fun _ hk => hk.2)))) _).trans (hHeld.2.2.2.2.2.2.2.2.2.1)))))), ((cell_far (p := ⟨gb238, _, none⟩) (by first | exact Kd.own_blk (Kd.R_away HO_7.out (fun _ hk => hk.2)) | (rw [add_block]; exact Kd.own_blk (Kd.R_away HO_7.out (fun _ hk => hk.2))) | (show (Addr.add _ _).block ≠ _; rw [add_block]; exact Kd.own_blk (Kd.R_away HO_7.out (fun _ hk => hk.2))) | (dsimp only; exact Kd.own_blk (Kd.R_away HO_7.out (fun _ hk => hk.2)))) _).trans (((cell_far (p := ⟨gb238, _, none⟩) (by first | exact Kd.own_blk (Kd.R_away HO_7.out (fun _ hk => hk.2)) | (rw [add_block]; exact Kd.own_blk (Kd.R_away HO_7.out (fun _ hk => hk.2))) | (show (Addr.add _ _).block ≠ _; rw [add_block]; exact Kd.own_blk (Kd.R_away HO_7.out (fun _ hk => hk.2))) | (dsimp only; exact Kd.own_blk (Kd.R_away HO_7.out (fun _ hk => hk.2)))) _).trans (((cell_far (p := ⟨gb238, _, none⟩) (by first | exact Kd.own_blk (Kd.R_away HO_7.out (fun _ hk => hk.2)) | (rw [add_block]; exact Kd.own_blk (Kd.R_away HO_7.out (fun _ hk => hk.2))) | (show (Addr.add _ _).block ≠ _; rw [add_block]; exact Kd.own_blk (Kd.R_away HO_7.out (fun _ hk => hk.2))) | (dsimp only; exact Kd.own_blk (Kd.R_away HO_7.out (fun _ hk => hk.2)))) _).trans (hHeld.2.2.2.2.2.2.2.2.2.2))))))⟩ (fun hHeld => ?_)
                                  clear hK K
                                  refine pu_ 16 6 131071 HT_ ?_
                                  refine done_ (done_of HT_.out (by kernel_rfl)) ?_
                                  have n0_ : Aside0 (Kd.R k23 23 (((w59.setCell ⟨gb238, 0, none⟩ (.int .i64 t249)).setCell ⟨gb238, 1, none⟩ (.int .i64 t250)).setCell ⟨gb238, 2, none⟩ (.string t251)) w.heap.size (fun k_ => k_ ≠ gb232 ∧ k_ ≠ gb238) (.slice (some ad247) x7_2.length co57) x7_2) := ⟨by (with_reducible repeat (first | apply Kd.R_alloc | apply Kd.R_drewN | apply Kd.R_drew)); exact Kd.R_mono (Kd.R_far (p := ⟨gb238, 2, none⟩) (Kd.R_far (p := ⟨gb238, 1, none⟩) (Kd.R_far (p := ⟨gb238, 0, none⟩) (Kd.R_mono HO_7.out (fun k_ hk => (⟨hk, hk.2⟩ : _ ∧ k_ ≠ gb238))) (fun _ hk => hk.2) (.int .i64 t249)) (fun _ hk => hk.2) (.int .i64 t250)) (fun _ hk => hk.2) (.string t251)) (fun _ hk => ⟨hk.1.1, hk.1.2⟩)⟩
                                  have n1_ : Aside0 ((((w59.setCell ⟨gb238, 0, none⟩ (.int .i64 t249)).setCell ⟨gb238, 1, none⟩ (.int .i64 t250)).setCell ⟨gb238, 2, none⟩ (.string t251)).heap[gb232]? = some (.cells #[.int .i64 x233000_2, .int .i64 x233001_2, .string x233002_2] 23 (0, 0))) := ⟨by (with_reducible repeat (first | refine blk_drewN ?_ _ | refine blk_drew ?_ | refine blk_alloc ?_ _)); refine blk_far ?_ NB232_238.out _; (with_reducible repeat (first | refine blk_drewN ?_ _ | refine blk_drew ?_ | refine blk_alloc ?_ _)); refine blk_far ?_ NB232_238.out _; (with_reducible repeat (first | refine blk_drewN ?_ _ | refine blk_drew ?_ | refine blk_alloc ?_ _)); refine blk_far ?_ NB232_238.out _; (with_reducible repeat (first | refine blk_drewN ?_ _ | refine blk_drew ?_ | refine blk_alloc ?_ _)); exact BK232.out⟩
                                  have n2_ : Aside0 ((((w59.setCell ⟨gb238, 0, none⟩ (.int .i64 t249)).setCell ⟨gb238, 1, none⟩ (.int .i64 t250)).setCell ⟨gb238, 2, none⟩ (.string t251)).heap[gb237]? = some (.cells #[.int .i64 ((rd_T67 l0 x24_2).f0), .string ((rd_T67 l0 x24_2).f1), .int .i64 ((rd_T67 l0 x24_2).f2.f0), .int .i64 ((rd_T67 l0 x24_2).f2.f1), .string ((rd_T67 l0 x24_2).f2.f2)] 67 (0, 0))) := ⟨by (with_reducible repeat (first | refine blk_drewN ?_ _ | refine blk_drew ?_ | refine blk_alloc ?_ _)); refine blk_far ?_ NB237_238.out _; (with_reducible repeat (first | refine blk_drewN ?_ _ | refine blk_drew ?_ | refine blk_alloc ?_ _)); refine blk_far ?_ NB237_238.out _; (with_reducible repeat (first | refine blk_drewN ?_ _ | refine blk_drew ?_ | refine blk_alloc ?_ _)); refine blk_far ?_ NB237_238.out _; (with_reducible repeat (first | refine blk_drewN ?_ _ | refine blk_drew ?_ | refine blk_alloc ?_ _)); exact BK237.out⟩
                                  have n3_ : Aside0 ((((w59.setCell ⟨gb238, 0, none⟩ (.int .i64 t249)).setCell ⟨gb238, 1, none⟩ (.int .i64 t250)).setCell ⟨gb238, 2, none⟩ (.string t251)).heap[gb238]? = some (.cells #[.int .i64 t249, .int .i64 t250, .string t251] 23 (0, 0))) := ⟨by (with_reducible repeat (first | refine blk_drewN ?_ _ | refine blk_drew ?_ | refine blk_alloc ?_ _)); refine blk_put (cs := #[.int .i64 t249, .int .i64 t250, .string (⟨#[]⟩ : ByteArray)]) ?_ 2 _ rfl; (with_reducible repeat (first | refine blk_drewN ?_ _ | refine blk_drew ?_ | refine blk_alloc ?_ _)); refine blk_put (cs := #[.int .i64 t249, .int .i64 0, .string (⟨#[]⟩ : ByteArray)]) ?_ 1 _ rfl; (with_reducible repeat (first | refine blk_drewN ?_ _ | refine blk_drew ?_ | refine blk_alloc ?_ _)); refine blk_put (cs := #[.int .i64 0, .int .i64 0, .string (⟨#[]⟩ : ByteArray)]) ?_ 0 _ rfl; (with_reducible repeat (first | refine blk_drewN ?_ _ | refine blk_drew ?_ | refine blk_alloc ?_ _)); exact BK238.out⟩
                                  have n4_ : Aside0 (Below w.heap.size w (((w59.setCell ⟨gb238, 0, none⟩ (.int .i64 t249)).setCell ⟨gb238, 1, none⟩ (.int .i64 t250)).setCell ⟨gb238, 2, none⟩ (.string t251))) := ⟨by repeat (first | (with_reducible first | exact HB.out | apply below_alloc | apply pw_below_drewN | apply below_drew1 | refine below_set ?_ GE232.out | refine below_set ?_ GE237.out | refine below_set ?_ GE238.out) | exact HB.out)⟩
                                  (try clear HO_7)
                                  (try clear BK232)
                                  (try clear BK237)
                                  (try clear BK238)
                                  (try clear HB)
                                  generalize (((w59.setCell ⟨gb238, 0, none⟩ (.int .i64 t249)).setCell ⟨gb238, 1, none⟩ (.int .i64 t250)).setCell ⟨gb238, 2, none⟩ (.string t251)) = w63 at n0_ n1_ n2_ n3_ n4_ ⊢
                                  have HO_7 := n0_
                                  have BK232 := n1_
                                  have BK237 := n2_
                                  have BK238 := n3_
                                  have HB := n4_
                                  clear n0_ n1_ n2_ n3_ n4_
                                  have q64 : ((ji41) : Int) ≤ ((x7_2.length : Int) : Int) := dt_
                                  obtain ⟨i064, hi064, _, hsz64, _⟩ := info_parts info23
                                  have hcut64 := cut_to (P := Try.prog) 69 23 .i64 Try.underlying69 hi064 (some ad247) x7_2.length co57 (ji41) dt_ q64 (Kd.R_reads' HO_7.out).2.1
                                  have hr64 := Kd.R_take (m := ((ji41) : Int).toNat) HO_7.out (by omega)
                                  have hy64 : y253.length = ((ji41) : Int).toNat := (by rw [Ny253.out, List.length_take]; omega)
                                  rw [← Ny253.out] at hr64
                                  rw [← hy64] at hr64 hcut64
                                  clear hy64 hi064 hsz64 HO_7
                                  have HO255 := Aside0.mk hr64
                                  clear hr64
                                  replace q64 := eq_true q64
                                  have hnb65 := NB238_232.out
                                  have hnc65 := NB232_238.out
                                  have hcz66_0 : w63.cell? ⟨gb238, 0, none⟩ = some (.int .i64 t249) := (blk_cell BK238.out 0).trans rfl
                                  have hcz66_1 : w63.cell? ⟨gb238, 1, none⟩ = some (.int .i64 t250) := (blk_cell BK238.out 1).trans rfl
                                  have hcz66_2 : w63.cell? ⟨gb238, 2, none⟩ = some (.string t251) := (blk_cell BK238.out 2).trans rfl
                                  have hfz66_0 := blk_frozen BK238.out 0
                                  have hfz66_1 := blk_frozen BK238.out 1
                                  have hfz66_2 := blk_frozen BK238.out 2
                                  try go_wp2_with (first | ((with_reducible refine gate_builtin (b := .append) (xs := #[.tmp 62, .tmp 64]) rfl ?_); at_builtin; refine Kd.R_append k23 (w0 := w) w.heap.size rfl (.tmp 62) (.tmp 64) 69 23 (.agg #[(.int .i64 0), (.int .i64 0), (.string ⟨#[]⟩)]) 32 rfl Try.underlying69 info23 rfl (by decide) (by omega) (.slice (some ad247) y253.length co57) y253 (⟨t249, t250, t251⟩ : S23) [.int .i64 t249, .int .i64 t250, .string t251] (fun k_ => k_ ≠ gb232 ∧ k_ ≠ gb238) (fun _ => False) rfl rfl ?aP (fun _ hk => hk.elim) ?aF ?aO ?aB ?aS ?aL ?_; (case aP => exact k23_mkM _ _ _ (⟨t249, t250, t251⟩ : S23)); (case aB => exact (be_ HB)); (case aF => exact (fun k_ hk => ⟨Kd.freshB (bu_ BK232) k_ hk, Kd.freshB (bu_ BK238) k_ hk⟩)); (case aO => exact (ku_ HO255.out)); (case aS => exact (below_size (be_ HB))); (case aL => have := LMc50.out; omega); intro v257 w67 ho hb hg hat; rw [← Ny256.out] at ho; have n0_ := Aside0.mk (blk_grown (bu_ BK232) hg (Kd.R_away HO255.out (fun _ hk => hk.1))); have n1_ := Aside0.mk (blk_grown (bu_ BK237) hg (Kd.R_ne HO255.out BK237.out (by decide))); have n2_ := Aside0.mk (blk_grown (bu_ BK238) hg (Kd.R_away HO255.out (fun _ hk => hk.2))); have n3_ := Aside0.mk (hb); have n4_ := Aside0.mk (ho); clear BK232; clear BK237; clear BK238; clear HB; clear HO255; have BK232 := n0_; have BK237 := n1_; have BK238 := n2_; have HB := n3_; have HO258 := n4_; clear n0_ n1_ n2_ n3_ n4_; clear ho hb hg hat))
                                  go_roundg k2
                                  case measure => have := HJ3.out; have := HK2.out; omega
                                  case rel => exact ⟨(y256), (wrap64 (x24_2 + 1)), (x233000_2), (x233001_2), (x233002_2), ra_, H', ⟨by have := HJ3.out; have := HK2.out; omega⟩, ⟨by (with_reducible repeat (first | apply Kd.R_alloc | apply Kd.R_drewN | apply Kd.R_drew)); exact Kd.R_mono HO258.out (fun _ hk => hk.1)⟩, ⟨by (with_reducible repeat (first | refine blk_drewN ?_ _ | refine blk_drew ?_ | refine blk_alloc ?_ _)); exact BK232.out⟩, ⟨by repeat (first | (with_reducible first | exact HB.out | apply below_alloc | apply pw_below_drewN | apply below_drew1 | refine below_set ?_ GE232.out | refine below_set ?_ GE237.out | refine below_set ?_ GE238.out) | exact HB.out)⟩⟩
                                · rw [if_neg c50] at H
                                  exact absurd H (by simp)
                              · rw [if_neg c49] at H
                                obtain ⟨c49b0, c49b1⟩ := neB_ c49
                                simp only [Option.some.injEq, Prod.mk.injEq] at H
                                obtain ⟨rfl, rfl, rfl, rfl⟩ := H
                                have p236 : 0 ≤ (x24_2 : Int) := dt_
                                have q236 : x24_2 < (l0.length : Int) := dt_
                                obtain ⟨ad236, e236, hx236_0, hx236_1, hx236_2, hx236_3, hx236_4⟩ := at_T67 HR0.out x24_2 p236 q236
                                cases e236
                                replace hx236_0 := cm_ HB hx236_0
                                replace hx236_1 := cm_ HB hx236_1
                                replace hx236_2 := cm_ HB hx236_2
                                replace hx236_3 := cm_ HB hx236_3
                                replace hx236_4 := cm_ HB hx236_4
                                replace p236 := eq_true p236
                                replace q236 := eq_true q236
                                try go_wp2_with (first | ((with_reducible refine gate_dst (N := 9) rfl ?_); refine box_event ?hg (N := 9) ?hd (cs := #[.int .i64 0, .string (⟨#[]⟩ : ByteArray), .int .i64 0, .int .i64 0, .string (⟨#[]⟩ : ByteArray)]) (t := 67) ?hr ?_; (case hd => rfl); (case hg => rfl); (case hr => first | (go_simp; done) | (go_simp; rfl)); intro gb237 hg w68 hbox hb; have n0_ := kb_ (ku_ HO_7.out) hb; have n1_ := bb_ (bu_ BK232) hb; have n2_ := bs_ (be_ HB) hb; have n3_ := Aside0.mk (hbox); have n4_ := gs_ hg (be_ HB); have n5_ := gs_ hg (be_ HB); have n6_ := nl_ hg (bu_ BK232); have n7_ := ng_ hg (bu_ BK232); clear HO_7; clear BK232; clear HB; have HO_7 := n0_; have BK232 := n1_; have HB := n2_; have BK237 := n3_; have GW237 := n4_; have GE237 := n5_; have NB232_237 := n6_; have NB237_232 := n7_; clear n0_ n1_ n2_ n3_ n4_ n5_ n6_ n7_; clear hb hbox hg; have hnb69 := NB237_232.out; have hnc69 := NB232_237.out; have hcz70_0 : w68.cell? ⟨gb237, 0, none⟩ = some (.int .i64 0) := (blk_cell BK237.out 0).trans rfl; have hcz70_1 : w68.cell? ⟨gb237, 1, none⟩ = some (.string (⟨#[]⟩ : ByteArray)) := (blk_cell BK237.out 1).trans rfl; have hcz70_2 : w68.cell? ⟨gb237, 2, none⟩ = some (.int .i64 0) := (blk_cell BK237.out 2).trans rfl; have hcz70_3 : w68.cell? ⟨gb237, 3, none⟩ = some (.int .i64 0) := (blk_cell BK237.out 3).trans rfl; have hcz70_4 : w68.cell? ⟨gb237, 4, none⟩ = some (.string (⟨#[]⟩ : ByteArray)) := (blk_cell BK237.out 4).trans rfl; have hfz70_0 := blk_frozen BK237.out 0; have hfz70_1 := blk_frozen BK237.out 1; have hfz70_2 := blk_frozen BK237.out 2; have hfz70_3 := blk_frozen BK237.out 3; have hfz70_4 := blk_frozen BK237.out 4) | ((with_reducible refine gate_dst (N := 10) rfl ?_); refine box_event ?hg (N := 10) ?hd (cs := #[.int .i64 0, .int .i64 0, .string (⟨#[]⟩ : ByteArray)]) (t := 23) ?hr ?_; (case hd => rfl); (case hg => rfl); (case hr => first | (go_simp; done) | (go_simp; rfl)); intro gb238 hg w71 hbox hb; have n0_ := Aside0.mk (Kd.R_below (Kd.R_elderB (ku_ (Kd.R_mono (Kd.R_far (p := ⟨gb237, 4, none⟩) (Kd.R_far (p := ⟨gb237, 3, none⟩) (Kd.R_far (p := ⟨gb237, 2, none⟩) (Kd.R_far (p := ⟨gb237, 1, none⟩) (Kd.R_far (p := ⟨gb237, 0, none⟩) (Kd.R_types HO_7.out BK237.out (by decide)) (fun _ hk => hk.2) (.int .i64 ((rd_T67 l0 x24_2).f0))) (fun _ hk => hk.2) (.string ((rd_T67 l0 x24_2).f1))) (fun _ hk => hk.2) (.int .i64 ((rd_T67 l0 x24_2).f2.f0))) (fun _ hk => hk.2) (.int .i64 ((rd_T67 l0 x24_2).f2.f1))) (fun _ hk => hk.2) (.string ((rd_T67 l0 x24_2).f2.f2))) (fun _ h_ => h_.1))) gb238 (Nat.le_of_eq hg.symm)) hb); have n1_ := bb_ (bu_ BK232) hb; have n2_ := Aside0.mk (blk_below (o := .cells #[.int .i64 ((rd_T67 l0 x24_2).f0), .string ((rd_T67 l0 x24_2).f1), .int .i64 ((rd_T67 l0 x24_2).f2.f0), .int .i64 ((rd_T67 l0 x24_2).f2.f1), .string ((rd_T67 l0 x24_2).f2.f2)] 67 (0, 0)) (bp_ BK237) hb); have n3_ := bs_ (be_ HB) hb; have n4_ := Aside0.mk (hbox); have n5_ := gs_ hg (be_ HB); have n6_ := gs_ hg (be_ HB); have n7_ := nl_ hg (bu_ BK232); have n8_ := ng_ hg (bu_ BK232); have n9_ := Aside0.mk ((by rw [hg]; exact Nat.ne_of_lt (blk_lt (o := .cells #[.int .i64 ((rd_T67 l0 x24_2).f0), .string ((rd_T67 l0 x24_2).f1), .int .i64 ((rd_T67 l0 x24_2).f2.f0), .int .i64 ((rd_T67 l0 x24_2).f2.f1), .string ((rd_T67 l0 x24_2).f2.f2)] 67 (0, 0)) (bp_ BK237)) : gb237 ≠ gb238)); have n10_ := Aside0.mk ((by rw [hg]; exact Nat.ne_of_gt (blk_lt (o := .cells #[.int .i64 ((rd_T67 l0 x24_2).f0), .string ((rd_T67 l0 x24_2).f1), .int .i64 ((rd_T67 l0 x24_2).f2.f0), .int .i64 ((rd_T67 l0 x24_2).f2.f1), .string ((rd_T67 l0 x24_2).f2.f2)] 67 (0, 0)) (bp_ BK237)) : gb238 ≠ gb237)); clear HO_7; clear BK232; clear BK237; clear HB; have HO_7 := n0_; have BK232 := n1_; have BK237 := n2_; have HB := n3_; have BK238 := n4_; have GW238 := n5_; have GE238 := n6_; have NB232_238 := n7_; have NB238_232 := n8_; have NB237_238 := n9_; have NB238_237 := n10_; clear n0_ n1_ n2_ n3_ n4_ n5_ n6_ n7_ n8_ n9_ n10_; (try clear hcz70_0 hcz70_1 hcz70_2 hcz70_3 hcz70_4 hfz70_0 hfz70_1 hfz70_2 hfz70_3 hfz70_4); clear hb hbox hg; have hnb72 := NB237_238.out; have hnc72 := NB238_237.out; have hcz73_0 : w71.cell? ⟨gb237, 0, none⟩ = some (.int .i64 ((rd_T67 l0 x24_2).f0)) := (blk_cell BK237.out 0).trans rfl; have hcz73_1 : w71.cell? ⟨gb237, 1, none⟩ = some (.string ((rd_T67 l0 x24_2).f1)) := (blk_cell BK237.out 1).trans rfl; have hcz73_2 : w71.cell? ⟨gb237, 2, none⟩ = some (.int .i64 ((rd_T67 l0 x24_2).f2.f0)) := (blk_cell BK237.out 2).trans rfl; have hcz73_3 : w71.cell? ⟨gb237, 3, none⟩ = some (.int .i64 ((rd_T67 l0 x24_2).f2.f1)) := (blk_cell BK237.out 3).trans rfl; have hcz73_4 : w71.cell? ⟨gb237, 4, none⟩ = some (.string ((rd_T67 l0 x24_2).f2.f2)) := (blk_cell BK237.out 4).trans rfl; have hfz73_0 := blk_frozen BK237.out 0; have hfz73_1 := blk_frozen BK237.out 1; have hfz73_2 := blk_frozen BK237.out 2; have hfz73_3 := blk_frozen BK237.out 3; have hfz73_4 := blk_frozen BK237.out 4) | ((with_reducible refine gate_callee (f := 38) rfl ?_); refine goesL_ (some 30) rfl rfl Try.func38 (by kernel_rfl) rfl #[.int .i64 ((rd_T67 l0 x24_2).f0)] rfl ga_ ?_; (with_reducible refine (expr_pushes.calls ((rd_T67 l0 x24_2).f0) false _ A14.out).mono ?_); rintro e w' ⟨rfl, ⟨nd, rfl⟩⟩; refine ⟨_, rfl, ?_⟩; (try (rw [drewN_self w71]; generalize hq_ : World.drewN w71 _ = w71; have n0_ : Aside0 (Kd.R k23 23 w71 w.heap.size (fun k_ => k_ ≠ gb232 ∧ k_ ≠ gb238) u7 x7_2) := ⟨by rw [← hq_]; exact (ku_ HO_7.out)⟩; have n1_ : Aside0 (w71.heap[gb232]? = some (.cells #[.int .i64 x233000_2, .int .i64 x233001_2, .string x233002_2] 23 (0, 0))) := ⟨by rw [← hq_]; exact (bu_ BK232)⟩; have n2_ : Aside0 (w71.heap[gb237]? = some (.cells #[.int .i64 ((rd_T67 l0 x24_2).f0), .string ((rd_T67 l0 x24_2).f1), .int .i64 ((rd_T67 l0 x24_2).f2.f0), .int .i64 ((rd_T67 l0 x24_2).f2.f1), .string ((rd_T67 l0 x24_2).f2.f2)] 67 (0, 0))) := ⟨by rw [← hq_]; exact (bu_ BK237)⟩; have n3_ : Aside0 (w71.heap[gb238]? = some (.cells #[.int .i64 0, .int .i64 0, .string (⟨#[]⟩ : ByteArray)] 23 (0, 0))) := ⟨by rw [← hq_]; exact (bu_ BK238)⟩; have n4_ : Aside0 (Below w.heap.size w w71) := ⟨by rw [← hq_]; exact (be_ HB)⟩; clear HO_7 BK232 BK237 BK238 HB hq_; have HO_7 := n0_; have BK232 := n1_; have BK237 := n2_; have BK238 := n3_; have HB := n4_; clear n0_ n1_ n2_ n3_ n4_)); (try clear hcz73_0 hcz73_1 hcz73_2 hcz73_3 hcz73_4 hfz73_0 hfz73_1 hfz73_2 hfz73_3 hfz73_4); obtain ⟨Ao74, co74, eo74⟩ := Kd.R_slice HO_7.out; subst eo74))
                                have n0_ := Aside0.mk (Kd.R_drew HO_7.out)
                                have n1_ := Aside0.mk (blk_drew BK232.out)
                                have n2_ := Aside0.mk (blk_drew BK237.out)
                                have n3_ := Aside0.mk (blk_drew BK238.out)
                                have n4_ := Aside0.mk (below_drew1 HB.out)
                                clear HO_7
                                clear BK232
                                clear BK237
                                clear BK238
                                clear HB
                                have HO_7 := n0_
                                have BK232 := n1_
                                have BK237 := n2_
                                have BK238 := n3_
                                have HB := n4_
                                clear n0_ n1_ n2_ n3_ n4_
                                have p247 : 0 ≤ ((ji41) : Int) := dt_
                                have q247 : (ji41) < (x7_2.length : Int) := dt_
                                obtain ⟨ad247, e247, hx247_0, hx247_1, hx247_2⟩ := at_T23 (Kd.R_reads' HO_7.out).2.2 (ji41) p247 q247
                                cases e247
                                replace p247 := eq_true p247
                                replace q247 := eq_true q247
                                have p248 : 0 ≤ ((ji44) : Int) := dt_
                                have q248 : (ji44) < (x7_2.length : Int) := dt_
                                obtain ⟨ad248, e248, hx248_0, hx248_1, hx248_2⟩ := at_T23 (Kd.R_reads' HO_7.out).2.2 (ji44) p248 q248
                                obtain rfl : ad247 = ad248 := (by injection e248)
                                replace p248 := eq_true p248
                                replace q248 := eq_true q248
                                refine start_ (n := 17) (S := fun w' => w'.cell? ⟨gb237, 0, none⟩ = some (.int .i64 ((rd_T67 l0 x24_2).f0)) ∧ w'.cell? ⟨gb237, 1, none⟩ = some (.string ((rd_T67 l0 x24_2).f1)) ∧ w'.cell? ⟨gb237, 2, none⟩ = some (.int .i64 ((rd_T67 l0 x24_2).f2.f0)) ∧ w'.cell? ⟨gb237, 3, none⟩ = some (.int .i64 ((rd_T67 l0 x24_2).f2.f1)) ∧ w'.cell? ⟨gb237, 4, none⟩ = some (.string ((rd_T67 l0 x24_2).f2.f2)) ∧ w'.cell? (ad247.add (((ji41)).toNat * 3)) = some (.int .i64 ((rd_T23 x7_2 (ji41)).f0)) ∧ w'.cell? ⟨(ad247.add (((ji41)).toNat * 3)).block, (ad247.add (((ji41)).toNat * 3)).off + 1, none⟩ = some (.int .i64 ((rd_T23 x7_2 (ji41)).f1)) ∧ w'.cell? ⟨(ad247.add (((ji41)).toNat * 3)).block, (ad247.add (((ji41)).toNat * 3)).off + 2, none⟩ = some (.string ((rd_T23 x7_2 (ji41)).f2)) ∧ w'.cell? (ad247.add (((ji44)).toNat * 3)) = some (.int .i64 ((rd_T23 x7_2 (ji44)).f0)) ∧ w'.cell? ⟨(ad247.add (((ji44)).toNat * 3)).block, (ad247.add (((ji44)).toNat * 3)).off + 1, none⟩ = some (.int .i64 ((rd_T23 x7_2 (ji44)).f1)) ∧ w'.cell? ⟨(ad247.add (((ji44)).toNat * 3)).block, (ad247.add (((ji44)).toNat * 3)).off + 2, none⟩ = some (.string ((rd_T23 x7_2 (ji44)).f2))) (ds := []) (mk_ 17 0) (by kernel_rfl) rfl rfl ⟨(blk_cell BK237.out 0).trans rfl, (blk_cell BK237.out 1).trans rfl, (blk_cell BK237.out 2).trans rfl, (blk_cell BK237.out 3).trans rfl, (blk_cell BK237.out 4).trans rfl, hx247_0, hx247_1, hx247_2, hx248_0, hx248_1, hx248_2⟩ (fun hHeld => ?_); refine with_tabW expr_Eval.tab14 expr_Eval.bits14 (fun HT_ HW_ => ?_)
                                generalize w71.drew = w75 at HO_7 BK232 BK237 BK238 HB hx247_0 hx247_1 hx247_2 hx248_0 hx248_1 hx248_2 hHeld ⊢
                                refine pu_ 0 41 1 HT_ ?_; refine pu_ 2 43 5 HT_ ?_; refine pu_ 3 44 13 HT_ ?_; refine pu_ 4 45 29 HT_ ?_; refine pu_ 6 47 93 HT_ ?_; refine pu_ 7 48 221 HT_ ?_; refine pu_ 8 49 477 HT_ ?_; refine pu_ 9 50 989 HT_ ?_; refine tk_ 1 42 991 HT_ HW_ hHeld ?_; refine tk_ 5 46 1023 HT_ HW_ hHeld ?_; refine tk_ 10 51 2047 HT_ HW_ hHeld ?_
                                refine one_ (i := 11) (N := some 52) (mk_ 17 4095) rfl rfl (one_of HT_.out (by kernel_rfl)) (by decide) (fun K hK => ?_)
                                refine goes_ Try.func40 (by kernel_rfl) rfl #[.int .i64 ((rd_T67 l0 x24_2).f0), .agg #[.int .i64 ((rd_T23 x7_2 (ji41)).f0), .int .i64 ((rd_T23 x7_2 (ji41)).f1), .string ((rd_T23 x7_2 (ji41)).f2)], .agg #[.int .i64 ((rd_T23 x7_2 (ji44)).f0), .int .i64 ((rd_T23 x7_2 (ji44)).f1), .string ((rd_T23 x7_2 (ji44)).f2)]] (by rfl) rfl rfl (by (try simp only [List.map_toArray, List.map_cons, List.map_nil]); first | done | (simp only [hji41, hji44]; rfl) | rfl | (simp only [List.length_drop, List.length_take]; rfl)) ?_
                                with_reducible refine (expr_reckon.calls k2 ((rd_T67 l0 x24_2).f0) ((rd_T23 x7_2 (ji41)).f0) ((rd_T23 x7_2 (ji41)).f1) ((rd_T23 x7_2 (ji41)).f2) ((rd_T23 x7_2 (ji44)).f0) ((rd_T23 x7_2 (ji44)).f1) ((rd_T23 x7_2 (ji44)).f2) t249 t250 t251 t252 _ A47.out).mono ?_
                                rintro e w76 ⟨rfl, hb⟩
                                have HS5_ := (hb.cell (World.block_lt_of_cell? _ _ (hHeld.2.2.2.2.2.1))).trans (hHeld.2.2.2.2.2.1)
                                have HS6_ := (hb.cell (World.block_lt_of_cell? _ _ (hHeld.2.2.2.2.2.2.1))).trans (hHeld.2.2.2.2.2.2.1)
                                have HS7_ := (hb.cell (World.block_lt_of_cell? _ _ (hHeld.2.2.2.2.2.2.2.1))).trans (hHeld.2.2.2.2.2.2.2.1)
                                have HS8_ := (hb.cell (World.block_lt_of_cell? _ _ (hHeld.2.2.2.2.2.2.2.2.1))).trans (hHeld.2.2.2.2.2.2.2.2.1)
                                have HS9_ := (hb.cell (World.block_lt_of_cell? _ _ (hHeld.2.2.2.2.2.2.2.2.2.1))).trans (hHeld.2.2.2.2.2.2.2.2.2.1)
                                have HS10_ := (hb.cell (World.block_lt_of_cell? _ _ (hHeld.2.2.2.2.2.2.2.2.2.2))).trans (hHeld.2.2.2.2.2.2.2.2.2.2)
                                refine ⟨_, rfl, ?_⟩
                                have n0_ := kb_ (ku_ HO_7.out) hb
                                have n1_ := bb_ (bu_ BK232) hb
                                have n2_ := bb_ (bu_ BK237) hb
                                have n3_ := bb_ (bu_ BK238) hb
                                have n4_ := bs_ (be_ HB) hb
                                clear HO_7
                                clear BK232
                                clear BK237
                                clear BK238
                                clear HB
                                have HO_7 := n0_
                                have BK232 := n1_
                                have BK237 := n2_
                                have BK238 := n3_
                                have HB := n4_
                                clear n0_ n1_ n2_ n3_ n4_
                                (try clear hb)
                                (try clear hb2)
                                (try clear hk)
                                (try clear hi)
                                refine hK.out _ _ ⟨(blk_cell BK237.out 0).trans rfl, (blk_cell BK237.out 1).trans rfl, (blk_cell BK237.out 2).trans rfl, (blk_cell BK237.out 3).trans rfl, (blk_cell BK237.out 4).trans rfl, HS5_, HS6_, HS7_, HS8_, HS9_, HS10_⟩ (fun hHeld => ?_)
                                clear hK K
                                refine nm_ 52 ?_; refine pu_ 12 40 8191 HT_ ?_; refine pu_ 13 53 16383 HT_ ?_; refine pu_ 14 54 32767 HT_ ?_
                                refine one_ (i := 15) (N := none) (mk_ 17 65535) rfl rfl (one_of HT_.out (by kernel_rfl)) (by decide) (fun K hK => ?_)
                                have hs77 : w76.cell? ⟨gb238, 0, none⟩ = some (.int .i64 0) := (blk_cell BK238.out 0).trans rfl
                                have hfs77 := blk_frozen BK238.out 0
                                have hns77_0 := NB232_238.out
                                have hns77_1 := NB237_238.out
                                have hms77_0 := NB238_232.out
                                have hms77_1 := NB238_237.out
                                have hs78 : w76.cell? ⟨gb238, 1, none⟩ = some (.int .i64 0) := (blk_cell BK238.out 1).trans rfl
                                have hfs78 := blk_frozen BK238.out 1
                                have hns78_0 := NB232_238.out
                                have hns78_1 := NB237_238.out
                                have hms78_0 := NB238_232.out
                                have hms78_1 := NB238_237.out
                                have hs79 : w76.cell? ⟨gb238, 2, none⟩ = some (.string (⟨#[]⟩ : ByteArray)) := (blk_cell BK238.out 2).trans rfl
                                have hfs79 := blk_frozen BK238.out 2
                                have hns79_0 := NB232_238.out
                                have hns79_1 := NB237_238.out
                                have hms79_0 := NB238_232.out
                                have hms79_1 := NB238_237.out
                                refine skip_ (w1 := ?_) (by rfl) rfl ?_ ?_
                                rotate_left
                                · go_simp
                                  rfl
                                refine hK.out _ _ ⟨((cell_far (p := ⟨gb238, _, none⟩) NB237_238.out _).trans (((cell_far (p := ⟨gb238, _, none⟩) NB237_238.out _).trans (((cell_far (p := ⟨gb238, _, none⟩) NB237_238.out _).trans (hHeld.1)))))), ((cell_far (p := ⟨gb238, _, none⟩) NB237_238.out _).trans (((cell_far (p := ⟨gb238, _, none⟩) NB237_238.out _).trans (((cell_far (p := ⟨gb238, _, none⟩) NB237_238.out _).trans (hHeld.2.1)))))), ((cell_far (p := ⟨gb238, _, none⟩) NB237_238.out _).trans (((cell_far (p := ⟨gb238, _, none⟩) NB237_238.out _).trans (((cell_far (p := ⟨gb238, _, none⟩) NB237_238.out _).trans (hHeld.2.2.1)))))), ((cell_far (p := ⟨gb238, _, none⟩) NB237_238.out _).trans (((cell_far (p := ⟨gb238, _, none⟩) NB237_238.out _).trans (((cell_far (p := ⟨gb238, _, none⟩) NB237_238.out _).trans (hHeld.2.2.2.1)))))), ((cell_far (p := ⟨gb238, _, none⟩) NB237_238.out _).trans (((cell_far (p := ⟨gb238, _, none⟩) NB237_238.out _).trans (((cell_far (p := ⟨gb238, _, none⟩) NB237_238.out _).trans (hHeld.2.2.2.2.1)))))), ((cell_far (p := ⟨gb238, _, none⟩) (by first | exact Kd.own_blk (Kd.R_away HO_7.out (fun _ hk => hk.2)) | (rw [add_block]; exact Kd.own_blk (Kd.R_away HO_7.out (fun _ hk => hk.2))) | (show (Addr.add _ _).block ≠ _; rw [add_block]; exact Kd.own_blk (Kd.R_away HO_7.out (fun _ hk => hk.2))) | (dsimp only; exact Kd.own_blk (Kd.R_away HO_7.out (fun _ hk => hk.2)))) _).trans (((cell_far (p := ⟨gb238, _, none⟩) (by first | exact Kd.own_blk (Kd.R_away HO_7.out (fun _ hk => hk.2)) | (rw [add_block]; exact Kd.own_blk (Kd.R_away HO_7.out (fun _ hk => hk.2))) | (show (Addr.add _ _).block ≠ _; rw [add_block]; exact Kd.own_blk (Kd.R_away HO_7.out (fun _ hk => hk.2))) | (dsimp only; exact Kd.own_blk (Kd.R_away HO_7.out (fun _ hk => hk.2)))) _).trans (((cell_far (p := ⟨gb238, _, none⟩) (by first | exact Kd.own_blk (Kd.R_away HO_7.out (fun _ hk => hk.2)) | (rw [add_block]; exact Kd.own_blk (Kd.R_away HO_7.out (fun _ hk => hk.2))) | (show (Addr.add _ _).block ≠ _; rw [add_block]; exact Kd.own_blk (Kd.R_away HO_7.out (fun _ hk => hk.2))) | (dsimp only; exact Kd.own_blk (Kd.R_away HO_7.out (fun _ hk => hk.2)))) _).trans (hHeld.2.2.2.2.2.1)))))), ((cell_far (p := ⟨gb238, _, none⟩) (by first | exact Kd.own_blk (Kd.R_away HO_7.out (fun _ hk => hk.2)) | (rw [add_block]; exact Kd.own_blk (Kd.R_away HO_7.out (fun _ hk => hk.2))) | (show (Addr.add _ _).block ≠ _; rw [add_block]; exact Kd.own_blk (Kd.R_away HO_7.out (fun _ hk => hk.2))) | (dsimp only; exact Kd.own_blk (Kd.R_away HO_7.out (fun _ hk => hk.2)))) _).trans (((cell_far (p := ⟨gb238, _, none⟩) (by first | exact Kd.own_blk (Kd.R_away HO_7.out (fun _ hk => hk.2)) | (rw [add_block]; exact Kd.own_blk (Kd.R_away HO_7.out (fun _ hk => hk.2))) | (show (Addr.add _ _).block ≠ _; rw [add_block]; exact Kd.own_blk (Kd.R_away HO_7.out (fun _ hk => hk.2))) | (dsimp only; exact Kd.own_blk (Kd.R_away HO_7.out (fun _ hk => hk.2)))) _).trans (((cell_far (p := ⟨gb238, _, none⟩) (by first | exact Kd.own_blk (Kd.R_away HO_7.out (fun _ hk => hk.2)) | (rw [add_block]; exact Kd.own_blk (Kd.R_away HO_7.out (fun _ hk => hk.2))) | (show (Addr.add _ _).block ≠ _; rw [add_block]; exact Kd.own_blk (Kd.R_away HO_7.out (fun _ hk => hk.2))) | (dsimp only; exact Kd.own_blk (Kd.R_away HO_7.out (fun _ hk => hk.2)))) _).trans (hHeld.2.2.2.2.2.2.1)))))), ((cell_far (p := ⟨gb238, _, none⟩) (by first | exact Kd.own_blk (Kd.R_away HO_7.out (fun _ hk => hk.2)) | (rw [add_block]; exact Kd.own_blk (Kd.R_away HO_7.out (fun _ hk => hk.2))) | (show (Addr.add _ _).block ≠ _; rw [add_block]; exact Kd.own_blk (Kd.R_away HO_7.out (fun _ hk => hk.2))) | (dsimp only; exact Kd.own_blk (Kd.R_away HO_7.out (fun _ hk => hk.2)))) _).trans (((cell_far (p := ⟨gb238, _, none⟩) (by first | exact Kd.own_blk (Kd.R_away HO_7.out (fun _ hk => hk.2)) | (rw [add_block]; exact Kd.own_blk (Kd.R_away HO_7.out (fun _ hk => hk.2))) | (show (Addr.add _ _).block ≠ _; rw [add_block]; exact Kd.own_blk (Kd.R_away HO_7.out (fun _ hk => hk.2))) | (dsimp only; exact Kd.own_blk (Kd.R_away HO_7.out (fun _ hk => hk.2)))) _).trans (((cell_far (p := ⟨gb238, _, none⟩) (by first | exact Kd.own_blk (Kd.R_away HO_7.out (fun _ hk => hk.2)) | (rw [add_block]; exact Kd.own_blk (Kd.R_away HO_7.out (fun _ hk => hk.2))) | (show (Addr.add _ _).block ≠ _; rw [add_block]; exact Kd.own_blk (Kd.R_away HO_7.out (fun _ hk => hk.2))) | (dsimp only; exact Kd.own_blk (Kd.R_away HO_7.out (fun _ hk => hk.2)))) _).trans (hHeld.2.2.2.2.2.2.2.1)))))), ((cell_far (p := ⟨gb238, _, none⟩) (by first | exact Kd.own_blk (Kd.R_away HO_7.out (fun _ hk => hk.2)) | (rw [add_block]; exact Kd.own_blk (Kd.R_away HO_7.out (fun _ hk => hk.2))) | (show (Addr.add _ _).block ≠ _; rw [add_block]; exact Kd.own_blk (Kd.R_away HO_7.out (fun _ hk => hk.2))) | (dsimp only; exact Kd.own_blk (Kd.R_away HO_7.out (fun _ hk => hk.2)))) _).trans (((cell_far (p := ⟨gb238, _, none⟩) (by first | exact Kd.own_blk (Kd.R_away HO_7.out (fun _ hk => hk.2)) | (rw [add_block]; exact Kd.own_blk (Kd.R_away HO_7.out (fun _ hk => hk.2))) | (show (Addr.add _ _).block ≠ _; rw [add_block]; exact Kd.own_blk (Kd.R_away HO_7.out (fun _ hk => hk.2))) | (dsimp only; exact Kd.own_blk (Kd.R_away HO_7.out (fun _ hk => hk.2)))) _).trans (((cell_far (p := ⟨gb238, _, none⟩) (by first | exact Kd.own_blk (Kd.R_away HO_7.out (fun _ hk => hk.2)) | (rw [add_block]; exact Kd.own_blk (Kd.R_away HO_7.out (fun _ hk => hk.2))) | (show (Addr.add _ _).block ≠ _; rw [add_block]; exact Kd.own_blk (Kd.R_away HO_7.out (fun _ hk => hk.2))) | (dsimp only; exact Kd.own_blk (Kd.R_away HO_7.out (fun _ hk => hk.2)))) _).trans (hHeld.2.2.2.2.2.2.2.2.1)))))), ((cell_far (p := ⟨gb238, _, none⟩) (by first | exact Kd.own_blk (Kd.R_away HO_7.out (fun _ hk => hk.2)) | (rw [add_block]; exact Kd.own_blk (Kd.R_away HO_7.out (fun _ hk => hk.2))) | (show (Addr.add _ _).block ≠ _; rw [add_block]; exact Kd.own_blk (Kd.R_away HO_7.out (fun _ hk => hk.2))) | (dsimp only; exact Kd.own_blk (Kd.R_away HO_7.out (fun _ hk => hk.2)))) _).trans (((cell_far (p := ⟨gb238, _, none⟩) (by first | exact Kd.own_blk (Kd.R_away HO_7.out (fun _ hk => hk.2)) | (rw [add_block]; exact Kd.own_blk (Kd.R_away HO_7.out (fun _ hk => hk.2))) | (show (Addr.add _ _).block ≠ _; rw [add_block]; exact Kd.own_blk (Kd.R_away HO_7.out (fun _ hk => hk.2))) | (dsimp only; exact Kd.own_blk (Kd.R_away HO_7.out (fun _ hk => hk.2)))) _).trans (((cell_far (p := ⟨gb238, _, none⟩) (by first | exact Kd.own_blk (Kd.R_away HO_7.out (fun _ hk => hk.2)) | (rw [add_block]; exact Kd.own_blk (Kd.R_away HO_7.out (fun _ hk => hk.2))) | (show (Addr.add _ _).block ≠ _; rw [add_block]; exact Kd.own_blk (Kd.R_away HO_7.out (fun _ hk => hk.2))) | (dsimp only; exact Kd.own_blk (Kd.R_away HO_7.out (fun _ hk => hk.2)))) _).trans (hHeld.2.2.2.2.2.2.2.2.2.1)))))), ((cell_far (p := ⟨gb238, _, none⟩) (by first | exact Kd.own_blk (Kd.R_away HO_7.out (fun _ hk => hk.2)) | (rw [add_block]; exact Kd.own_blk (Kd.R_away HO_7.out (fun _ hk => hk.2))) | (show (Addr.add _ _).block ≠ _; rw [add_block]; exact Kd.own_blk (Kd.R_away HO_7.out (fun _ hk => hk.2))) | (dsimp only; exact Kd.own_blk (Kd.R_away HO_7.out (fun _ hk => hk.2)))) _).trans (((cell_far (p := ⟨gb238, _, none⟩) (by first | exact Kd.own_blk (Kd.R_away HO_7.out (fun _ hk => hk.2)) | (rw [add_block]; exact Kd.own_blk (Kd.R_away HO_7.out (fun _ hk => hk.2))) | (show (Addr.add _ _).block ≠ _; rw [add_block]; exact Kd.own_blk (Kd.R_away HO_7.out (fun _ hk => hk.2))) | (dsimp only; exact Kd.own_blk (Kd.R_away HO_7.out (fun _ hk => hk.2)))) _).trans (((cell_far (p := ⟨gb238, _, none⟩) (by first | exact Kd.own_blk (Kd.R_away HO_7.out (fun _ hk => hk.2)) | (rw [add_block]; exact Kd.own_blk (Kd.R_away HO_7.out (fun _ hk => hk.2))) | (show (Addr.add _ _).block ≠ _; rw [add_block]; exact Kd.own_blk (Kd.R_away HO_7.out (fun _ hk => hk.2))) | (dsimp only; exact Kd.own_blk (Kd.R_away HO_7.out (fun _ hk => hk.2)))) _).trans (hHeld.2.2.2.2.2.2.2.2.2.2))))))⟩ (fun hHeld => ?_)
                                clear hK K
                                refine pu_ 16 6 131071 HT_ ?_
                                refine done_ (done_of HT_.out (by kernel_rfl)) ?_
                                have n0_ : Aside0 (Kd.R k23 23 (((w76.setCell ⟨gb238, 0, none⟩ (.int .i64 t249)).setCell ⟨gb238, 1, none⟩ (.int .i64 t250)).setCell ⟨gb238, 2, none⟩ (.string t251)) w.heap.size (fun k_ => k_ ≠ gb232 ∧ k_ ≠ gb238) (.slice (some ad247) x7_2.length co74) x7_2) := ⟨by (with_reducible repeat (first | apply Kd.R_alloc | apply Kd.R_drewN | apply Kd.R_drew)); exact Kd.R_mono (Kd.R_far (p := ⟨gb238, 2, none⟩) (Kd.R_far (p := ⟨gb238, 1, none⟩) (Kd.R_far (p := ⟨gb238, 0, none⟩) (Kd.R_mono HO_7.out (fun k_ hk => (⟨hk, hk.2⟩ : _ ∧ k_ ≠ gb238))) (fun _ hk => hk.2) (.int .i64 t249)) (fun _ hk => hk.2) (.int .i64 t250)) (fun _ hk => hk.2) (.string t251)) (fun _ hk => ⟨hk.1.1, hk.1.2⟩)⟩
                                have n1_ : Aside0 ((((w76.setCell ⟨gb238, 0, none⟩ (.int .i64 t249)).setCell ⟨gb238, 1, none⟩ (.int .i64 t250)).setCell ⟨gb238, 2, none⟩ (.string t251)).heap[gb232]? = some (.cells #[.int .i64 x233000_2, .int .i64 x233001_2, .string x233002_2] 23 (0, 0))) := ⟨by (with_reducible repeat (first | refine blk_drewN ?_ _ | refine blk_drew ?_ | refine blk_alloc ?_ _)); refine blk_far ?_ NB232_238.out _; (with_reducible repeat (first | refine blk_drewN ?_ _ | refine blk_drew ?_ | refine blk_alloc ?_ _)); refine blk_far ?_ NB232_238.out _; (with_reducible repeat (first | refine blk_drewN ?_ _ | refine blk_drew ?_ | refine blk_alloc ?_ _)); refine blk_far ?_ NB232_238.out _; (with_reducible repeat (first | refine blk_drewN ?_ _ | refine blk_drew ?_ | refine blk_alloc ?_ _)); exact BK232.out⟩
                                have n2_ : Aside0 ((((w76.setCell ⟨gb238, 0, none⟩ (.int .i64 t249)).setCell ⟨gb238, 1, none⟩ (.int .i64 t250)).setCell ⟨gb238, 2, none⟩ (.string t251)).heap[gb237]? = some (.cells #[.int .i64 ((rd_T67 l0 x24_2).f0), .string ((rd_T67 l0 x24_2).f1), .int .i64 ((rd_T67 l0 x24_2).f2.f0), .int .i64 ((rd_T67 l0 x24_2).f2.f1), .string ((rd_T67 l0 x24_2).f2.f2)] 67 (0, 0))) := ⟨by (with_reducible repeat (first | refine blk_drewN ?_ _ | refine blk_drew ?_ | refine blk_alloc ?_ _)); refine blk_far ?_ NB237_238.out _; (with_reducible repeat (first | refine blk_drewN ?_ _ | refine blk_drew ?_ | refine blk_alloc ?_ _)); refine blk_far ?_ NB237_238.out _; (with_reducible repeat (first | refine blk_drewN ?_ _ | refine blk_drew ?_ | refine blk_alloc ?_ _)); refine blk_far ?_ NB237_238.out _; (with_reducible repeat (first | refine blk_drewN ?_ _ | refine blk_drew ?_ | refine blk_alloc ?_ _)); exact BK237.out⟩
                                have n3_ : Aside0 ((((w76.setCell ⟨gb238, 0, none⟩ (.int .i64 t249)).setCell ⟨gb238, 1, none⟩ (.int .i64 t250)).setCell ⟨gb238, 2, none⟩ (.string t251)).heap[gb238]? = some (.cells #[.int .i64 t249, .int .i64 t250, .string t251] 23 (0, 0))) := ⟨by (with_reducible repeat (first | refine blk_drewN ?_ _ | refine blk_drew ?_ | refine blk_alloc ?_ _)); refine blk_put (cs := #[.int .i64 t249, .int .i64 t250, .string (⟨#[]⟩ : ByteArray)]) ?_ 2 _ rfl; (with_reducible repeat (first | refine blk_drewN ?_ _ | refine blk_drew ?_ | refine blk_alloc ?_ _)); refine blk_put (cs := #[.int .i64 t249, .int .i64 0, .string (⟨#[]⟩ : ByteArray)]) ?_ 1 _ rfl; (with_reducible repeat (first | refine blk_drewN ?_ _ | refine blk_drew ?_ | refine blk_alloc ?_ _)); refine blk_put (cs := #[.int .i64 0, .int .i64 0, .string (⟨#[]⟩ : ByteArray)]) ?_ 0 _ rfl; (with_reducible repeat (first | refine blk_drewN ?_ _ | refine blk_drew ?_ | refine blk_alloc ?_ _)); exact BK238.out⟩
                                have n4_ : Aside0 (Below w.heap.size w (((w76.setCell ⟨gb238, 0, none⟩ (.int .i64 t249)).setCell ⟨gb238, 1, none⟩ (.int .i64 t250)).setCell ⟨gb238, 2, none⟩ (.string t251))) := ⟨by repeat (first | (with_reducible first | exact HB.out | apply below_alloc | apply pw_below_drewN | apply below_drew1 | refine below_set ?_ GE232.out | refine below_set ?_ GE237.out | refine below_set ?_ GE238.out) | exact HB.out)⟩
                                (try clear HO_7)
                                (try clear BK232)
                                (try clear BK237)
                                (try clear BK238)
                                (try clear HB)
                                generalize (((w76.setCell ⟨gb238, 0, none⟩ (.int .i64 t249)).setCell ⟨gb238, 1, none⟩ (.int .i64 t250)).setCell ⟨gb238, 2, none⟩ (.string t251)) = w80 at n0_ n1_ n2_ n3_ n4_ ⊢
                                have HO_7 := n0_
                                have BK232 := n1_
                                have BK237 := n2_
                                have BK238 := n3_
                                have HB := n4_
                                clear n0_ n1_ n2_ n3_ n4_
                                have q81 : ((ji41) : Int) ≤ ((x7_2.length : Int) : Int) := dt_
                                obtain ⟨i081, hi081, _, hsz81, _⟩ := info_parts info23
                                have hcut81 := cut_to (P := Try.prog) 69 23 .i64 Try.underlying69 hi081 (some ad247) x7_2.length co74 (ji41) dt_ q81 (Kd.R_reads' HO_7.out).2.1
                                have hr81 := Kd.R_take (m := ((ji41) : Int).toNat) HO_7.out (by omega)
                                have hy81 : y253.length = ((ji41) : Int).toNat := (by rw [Ny253.out, List.length_take]; omega)
                                rw [← Ny253.out] at hr81
                                rw [← hy81] at hr81 hcut81
                                clear hy81 hi081 hsz81 HO_7
                                have HO255 := Aside0.mk hr81
                                clear hr81
                                replace q81 := eq_true q81
                                have hnb82 := NB232_238.out
                                have hnc82 := NB238_232.out
                                have hcz83_0 : w80.cell? ⟨gb232, 0, none⟩ = some (.int .i64 x233000_2) := (blk_cell BK232.out 0).trans rfl
                                have hcz83_1 : w80.cell? ⟨gb232, 1, none⟩ = some (.int .i64 x233001_2) := (blk_cell BK232.out 1).trans rfl
                                have hcz83_2 : w80.cell? ⟨gb232, 2, none⟩ = some (.string x233002_2) := (blk_cell BK232.out 2).trans rfl
                                have hfz83_0 := blk_frozen BK232.out 0
                                have hfz83_1 := blk_frozen BK232.out 1
                                have hfz83_2 := blk_frozen BK232.out 2
                                try go_wp2
                                refine bodyPost_ret (results_ct rfl _ _ gb232 23 #[.int .i64 0, .int .i64 0, .string (⟨#[]⟩ : ByteArray)] (0, 0) _ rfl (bp_ BK232) Try.underlying23 rfl (by kernel_rfl)) rfl ?_
                                exact ⟨by first | rfl | (simp [errW_none, errW_some] <;> rfl) | (simp only [← hji41, ← hji44]; first | rfl | (simp [errW_none, errW_some] <;> rfl)) | (simp [*, errW_none, errW_some] <;> rfl), by repeat (first | (with_reducible first | exact HB.out | apply below_alloc | apply pw_below_drewN | apply below_drew1 | refine below_set ?_ GE232.out | refine below_set ?_ GE237.out | refine below_set ?_ GE238.out) | exact HB.out)⟩
                            · rw [if_neg c48] at H
                              exact absurd H (by simp)
                          · rw [if_neg c46] at H
                            exact absurd H (by simp)
                        · rw [if_neg c45] at H
                          exact absurd H (by simp)
                      · rw [if_neg c43] at H
                        exact absurd H (by simp)
                    · rw [if_neg c42] at H
                      exact absurd H (by simp)
                · rw [if_neg c13] at H
                  exact absurd H (by simp)
              · rw [if_neg c12] at H
                exact absurd H (by simp)
            · rw [if_neg c11] at H
              have c11b0 : decide (x24_2 < (l0.length : Int)) = false := decide_eq_false c11
              clear c11
              by_cases c84 : 0 < (x7_2.length : Int)
              · rw [if_pos c84] at H
                have c84b0 : decide (0 < (x7_2.length : Int)) = true := decide_eq_true c84
                have c84b1 : decide (0 < x7_2.length) = true := decide_eq_true (by omega)
                clear c84
                simp only [Option.some.injEq, Prod.mk.injEq] at H
                obtain ⟨rfl, rfl, rfl, rfl⟩ := H
                obtain ⟨Ao85, co85, eo85⟩ := Kd.R_slice HO_7.out
                subst eo85
                have p235 : 0 ≤ (0 : Int) := (by omega)
                have q235 : 0 < (x7_2.length : Int) := dt_
                obtain ⟨ad235, e235, hx235_0, hx235_1, hx235_2⟩ := at_T23 (Kd.R_reads' HO_7.out).2.2 0 p235 q235
                cases e235
                have qi235 : (0 < x7_2.length) = True := eq_true (by omega)
                (try rw [show ((0 : Int)).toNat = 0 from rfl] at hx235_0)
                (try rw [show 0 * 3 = 0 from rfl] at hx235_0)
                (try rw [Addr.add_zero'] at hx235_0)
                (try rw [show ((0 : Int)).toNat = 0 from rfl] at hx235_1)
                (try rw [show 0 * 3 = 0 from rfl] at hx235_1)
                (try rw [Addr.add_zero'] at hx235_1)
                (try rw [show ((0 : Int)).toNat = 0 from rfl] at hx235_2)
                (try rw [show 0 * 3 = 0 from rfl] at hx235_2)
                (try rw [Addr.add_zero'] at hx235_2)
                replace p235 := eq_true p235
                replace q235 := eq_true q235
                have hcz86_0 : wr.cell? ⟨gb232, 0, none⟩ = some (.int .i64 x233000_2) := (blk_cell BK232.out 0).trans rfl
                have hcz86_1 : wr.cell? ⟨gb232, 1, none⟩ = some (.int .i64 x233001_2) := (blk_cell BK232.out 1).trans rfl
                have hcz86_2 : wr.cell? ⟨gb232, 2, none⟩ = some (.string x233002_2) := (blk_cell BK232.out 2).trans rfl
                have hfz86_0 := blk_frozen BK232.out 0
                have hfz86_1 := blk_frozen BK232.out 1
                have hfz86_2 := blk_frozen BK232.out 2
                go_wp2
                refine bodyPost_ret (results_ct rfl _ _ gb232 23 #[.int .i64 ((rd_T23 x7_2 0).f0), .int .i64 ((rd_T23 x7_2 0).f1), .string ((rd_T23 x7_2 0).f2)] (0, 0) _ rfl (bp_ BK232) Try.underlying23 rfl (by kernel_rfl)) rfl ?_
                exact ⟨by first | rfl | (simp [errW_none, errW_some] <;> rfl) | (simp [*, errW_none, errW_some] <;> rfl), by repeat (first | (with_reducible first | exact HB.out | apply below_alloc | apply pw_below_drewN | apply below_drew1 | refine below_set ?_ GE232.out) | exact HB.out)⟩
              · rw [if_neg c84] at H
                exact absurd H (by simp)
      · rw [if_neg c10] at H
        obtain ⟨c10b0, c10b1⟩ := neB_ c10
        simp only [Option.some.injEq, Prod.mk.injEq] at H
        obtain ⟨rfl, rfl, rfl, rfl⟩ := H
        have hcz87_0 : wc.cell? ⟨gb232, 0, none⟩ = some (.int .i64 0) := (blk_cell BK232.out 0).trans rfl
        have hcz87_1 : wc.cell? ⟨gb232, 1, none⟩ = some (.int .i64 0) := (blk_cell BK232.out 1).trans rfl
        have hcz87_2 : wc.cell? ⟨gb232, 2, none⟩ = some (.string (⟨#[]⟩ : ByteArray)) := (blk_cell BK232.out 2).trans rfl
        have hfz87_0 := blk_frozen BK232.out 0
        have hfz87_1 := blk_frozen BK232.out 1
        have hfz87_2 := blk_frozen BK232.out 2
        go_wp2
        refine bodyPost_ret (results_ct rfl _ _ gb232 23 #[.int .i64 0, .int .i64 0, .string (⟨#[]⟩ : ByteArray)] (0, 0) _ rfl (bp_ BK232) Try.underlying23 rfl (by kernel_rfl)) rfl ?_
        exact ⟨by first | rfl | (simp [errW_none, errW_some] <;> rfl) | (simp [*, errW_none, errW_some] <;> rfl), by repeat (first | (with_reducible first | exact HB.out | apply below_alloc | apply pw_below_drewN | apply below_drew1 | refine below_set ?_ GE232.out) | exact HB.out)⟩
end Go.Proofs.Ytaopajmpifenoaa.P
end
