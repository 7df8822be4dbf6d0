/- Part 3 of the proof of ExprParting: words, contracts of functions of the program (what a call answers), and what the answers say. -/
import Derived.Test.YtconpnagoijacaaVWords
import Derived.Test.YtconpnagoijacaaVLast
import Derived.Test.YtconpnagoijacaaVApart
import Derived.Test.YtconpnagoijacaaVArr
import Derived.Test.YtconpnagoijacaaVFoot
import Derived.Test.YtconpnagoijacaaVKept
import Derived.Test.YtconpnagoijacaaVShare
import Derived.Test.YtconpnagoijacaaVZeros
import Derived.Test.YtconpnagoijacaaVN
import Derived.Test.YtconpnagoijacaaVFootNe
import Derived.Test.YtconpnagoijacaaVAt
import Derived.Test.YtconpnagoijacaaVEqStruct
import Derived.Test.YtconpnagoijacaaVTab
import Derived.Test.YtconpnagoijacaaVFour
import Derived.Test.YtconpnagoijacaaVGuard
import Derived.Test.YtconpnagoijacaaVInv
import Derived.Test.YtconpnagoijacaaVInvWords
import Derived.Test.YtconpnagoijacaaVQPut
import Derived.Test.YtconpnagoijacaaVNEv
import Derived.Test.YtconpnagoijacaaVMore
import Derived.Test.YtconpnagoijacaaVRepsOne
import Derived.Test.YtconpnagoijacaaVSized
import Derived.Test.YtconpnagoijacaaCExprParting0
import Derived.Test.YtconpnagoijacaaCExprParting1
section
namespace Go.Proofs.Ytconpnagoijacaa.P
open Go.RowKit Go.Proofs.YtconpnagoijacaaW.PrintWords Go.Proofs.YtconpnagoijacaaW.PrintLast Go.Proofs.YtconpnagoijacaaW.PrintMore
attribute [local go_sem] max2_int min2_int max_two min_two max_three min_three max_four min_four
set_option linter.unusedVariables false
set_option linter.unusedSimpArgs false
def expr_Vars.l0 : Nat → List ByteArray → List (S52) → Int → Int → Option (List ByteArray)
  | 0, _, _, _, _ => none
  | k + 1, x3, x6, x7, x8 => if x8 < x7 then (if 0 ≤ x8 then (if x8 < (x6.length : Int) then (if ((rd_T52 x6 x8).f1).toList = ([] : List UInt8) then (expr_Vars.l0 k x3 x6 x7 (wrap64 (x8 + 1))) else ((slices_Contains_string_string.f k x3 ((rd_T52 x6 x8).f1)).bind fun t281 => (if t281 = true then (expr_Vars.l0 k x3 x6 x7 (wrap64 (x8 + 1))) else (if x3.length < 8796093022208 then (expr_Vars.l0 k (x3 ++ [(rd_T52 x6 x8).f1]) x6 x7 (wrap64 (x8 + 1))) else (none))))) else (none)) else (none)) else (some x3)
def expr_Vars.f (k : Nat) (l0 : List (S52)) : Option (List ByteArray) := expr_Vars.l0 k ([] : List ByteArray) l0 (l0.length : Int) 0
theorem expr_Vars.mono_l : ∀ k, (∀ y0 y1 y2 y3, LeO (expr_Vars.l0 k y0 y1 y2 y3) (expr_Vars.l0 (k + 1) y0 y1 y2 y3))
  | 0 => fun _ _ _ _ r h => by simp [expr_Vars.l0] at h
  | k + 1 => by
    have ih0 := expr_Vars.mono_l k
    · intro y0 y1 y2 y3
      unfold expr_Vars.l0
      repeat' first
      | (with_reducible exact ih0 _ _ _ _)
      | (with_reducible exact slices_Contains_string_string.mono _ _ _)
      | (with_reducible exact LeO.refl _)
      | (with_reducible exact LeO.none _)
      | (with_reducible refine LeO.ite ?_ ?_)
      | (with_reducible refine LeO.bind ?_ (fun _ => ?_))
      | exact ih0 _ _ _ _
      | exact slices_Contains_string_string.mono _ _ _
      | exact LeO.none _
      | refine LeO.ite ?_ ?_
      | refine LeO.bind ?_ (fun _ => ?_)
theorem expr_Vars.mono : ∀ a0 k, LeO (expr_Vars.f k a0) (expr_Vars.f (k + 1) a0) := by
  intro a0 k
  have ih0 := expr_Vars.mono_l k
  unfold expr_Vars.f
  repeat' first
      | (with_reducible exact ih0 _ _ _ _)
      | (with_reducible exact slices_Contains_string_string.mono _ _ _)
      | (with_reducible exact LeO.refl _)
      | (with_reducible exact LeO.none _)
      | (with_reducible refine LeO.ite ?_ ?_)
      | (with_reducible refine LeO.bind ?_ (fun _ => ?_))
      | exact ih0 _ _ _ _
      | exact slices_Contains_string_string.mono _ _ _
      | exact LeO.none _
      | refine LeO.ite ?_ ?_
      | refine LeO.bind ?_ (fun _ => ?_)
set_option maxHeartbeats 8000000 in
set_option maxRecDepth 100000 in
theorem expr_Vars.calls (k : Nat) (A0 : Option Addr) (c0 : Nat) (l0 : List (S52)) (r : List ByteArray) (w : World) (hr0 : Kd.C k52 w A0 l0.length l0) (hc0 : l0.length ≤ c0) (h : expr_Vars.f k l0 = some r) :
    Calls Try.prog 23 #[.slice A0 l0.length c0] w fun e w' => ∃ v0_ : Value, e = .returned (v0_) ∧ Kd.R Kd.string 9 w' w.heap.size (fun _ => True) v0_ r ∧ Below w.heap.size w w' := by
  have hu52 := Try.underlying52
  have HR0 := Aside0.mk hr0
  have HC0 := Aside0.mk hc0
  clear hr0 hc0
  have HB := Aside0.mk (Below.refl w.heap.size w)
  have H : (expr_Vars.l0 k ([] : List ByteArray) l0 (l0.length : Int) 0) = some r := h
  clear h
  have H' := Aside0.mk H
  clear H
  go_enter Try.func23, Try.ntmps23
  go_wp2
  go_loopg [3, 8] k (fun kq v3 v8 w' => ∃ (x3_1 : List ByteArray) (x8_1 : Int), v8 = .int .i64 x8_1 ∧ Aside0 (expr_Vars.l0 kq x3_1 l0 (l0.length : Int) x8_1 = some r) ∧ Aside0 (kq ≤ k) ∧ Aside0 (Kd.R Kd.string 9 w' w.heap.size (fun _ => True) v3 x3_1) ∧ Aside0 (Below w.heap.size w w'))
  case atStart => exact ⟨(([] : List ByteArray)), (0), ra_, H', ⟨Nat.le_refl _⟩, ⟨by first | exact Kd.R_nil _ _ _ _ _ | exact Kd.N_nil _ _ _ _ _ | exact Kd.V_nil _ _ _ _ _ | exact Kd.Q_nil _ _ _ _ _ | exact Kd.S_nil _ _ _ _ _⟩, ⟨by repeat (first | (with_reducible first | exact HB.out | apply below_alloc | apply pw_below_drewN | apply below_drew1) | exact HB.out)⟩⟩
  case round =>
    clear H'
    obtain ⟨x3_1, x8_1, rfl, HA, HK1, HO_3, HB⟩ := hrel
    cases gk with
    | zero => exact absurd HA.out (by simp [expr_Vars.l0])
    | succ k1 =>
      have H := HA.out
      clear HA
      simp only [expr_Vars.l0] at H
      by_cases c2 : x8_1 < (l0.length : Int)
      · rw [if_pos c2] at H
        have c2b0 : decide (x8_1 < (l0.length : Int)) = true := decide_eq_true c2
        clear c2
        by_cases c3 : 0 ≤ x8_1
        · rw [if_pos c3] at H
          have c3b0 : decide (0 ≤ x8_1) = true := decide_eq_true c3
          clear c3
          by_cases c4 : x8_1 < (l0.length : Int)
          · rw [if_pos c4] at H
            have c4b0 : decide (x8_1 < (l0.length : Int)) = true := decide_eq_true c4
            clear c4
            by_cases c5 : ((rd_T52 l0 x8_1).f1).toList = ([] : List UInt8)
            · rw [if_pos c5] at H
              obtain ⟨c5b0, c5b1⟩ := eqB_ c5
              clear c5
              have H' := Aside0.mk H
              clear H
              have p279 : 0 ≤ (x8_1 : Int) := dt_
              have q279 : x8_1 < (l0.length : Int) := dt_
              obtain ⟨ad279, e279, hx279_0, hx279_1, hx279_2, hx279_3, hx279_4⟩ := at_T52 HR0.out x8_1 p279 q279
              cases e279
              replace hx279_0 := cm_ HB hx279_0
              replace hx279_1 := cm_ HB hx279_1
              replace hx279_2 := cm_ HB hx279_2
              replace hx279_3 := cm_ HB hx279_3
              replace hx279_4 := cm_ HB hx279_4
              replace p279 := eq_true p279
              replace q279 := eq_true q279
              go_wp2_with (first | ((with_reducible refine gate_dst (N := 5) rfl ?_); refine box_event ?hg (N := 5) ?hd (cs := #[.int .i64 0, .string (⟨#[]⟩ : ByteArray), .int .i64 0, .int .i64 0, .string (⟨#[]⟩ : ByteArray)]) (t := 52) ?hr ?_; (case hd => rfl); (case hg => rfl); (case hr => first | (go_simp; done) | (go_simp; rfl)); intro gb280 hg w6 hbox hb; have n0_ := kb_ (ku_ HO_3.out) hb; have n1_ := bs_ (be_ HB) hb; have n2_ := Aside0.mk (hbox); have n3_ := gs_ hg (be_ HB); have n4_ := gs_ hg (be_ HB); clear HO_3; clear HB; have HO_3 := n0_; have HB := n1_; have BK280 := n2_; have GW280 := n3_; have GE280 := n4_; clear n0_ n1_ n2_ n3_ n4_; clear hb hbox hg; have hcz7_0 : w6.cell? ⟨gb280, 0, none⟩ = some (.int .i64 0) := (blk_cell BK280.out 0).trans rfl; have hcz7_1 : w6.cell? ⟨gb280, 1, none⟩ = some (.string (⟨#[]⟩ : ByteArray)) := (blk_cell BK280.out 1).trans rfl; have hcz7_2 : w6.cell? ⟨gb280, 2, none⟩ = some (.int .i64 0) := (blk_cell BK280.out 2).trans rfl; have hcz7_3 : w6.cell? ⟨gb280, 3, none⟩ = some (.int .i64 0) := (blk_cell BK280.out 3).trans rfl; have hcz7_4 : w6.cell? ⟨gb280, 4, none⟩ = some (.string (⟨#[]⟩ : ByteArray)) := (blk_cell BK280.out 4).trans rfl; have hfz7_0 := blk_frozen BK280.out 0; have hfz7_1 := blk_frozen BK280.out 1; have hfz7_2 := blk_frozen BK280.out 2; have hfz7_3 := blk_frozen BK280.out 3; have hfz7_4 := blk_frozen BK280.out 4))
              go_roundg k1
              case measure => have := HK1.out; omega
              case rel => exact ⟨(x3_1), (wrap64 (x8_1 + 1)), ra_, H', ⟨by have := HK1.out; omega⟩, ⟨by (with_reducible repeat (first | apply Kd.R_alloc | apply Kd.R_drewN | apply Kd.R_drew)); exact Kd.R_mono (Kd.R_far (p := ⟨gb280, 4, none⟩) (Kd.R_far (p := ⟨gb280, 3, none⟩) (Kd.R_far (p := ⟨gb280, 2, none⟩) (Kd.R_far (p := ⟨gb280, 1, none⟩) (Kd.R_far (p := ⟨gb280, 0, none⟩) (Kd.R_types HO_3.out BK280.out (by decide)) (fun _ hk => hk.2) (.int .i64 ((rd_T52 l0 x8_1).f0))) (fun _ hk => hk.2) (.string ((rd_T52 l0 x8_1).f1))) (fun _ hk => hk.2) (.int .i64 ((rd_T52 l0 x8_1).f2.f0))) (fun _ hk => hk.2) (.int .i64 ((rd_T52 l0 x8_1).f2.f1))) (fun _ hk => hk.2) (.string ((rd_T52 l0 x8_1).f2.f2))) (fun _ hk => trivial)⟩, ⟨by repeat (first | (with_reducible first | exact HB.out | apply below_alloc | apply pw_below_drewN | apply below_drew1 | refine below_set ?_ GE280.out) | exact HB.out)⟩⟩
            · rw [if_neg c5] at H
              obtain ⟨c5b0, c5b1⟩ := neB_ c5
              replace H := Option.bind_eq_some_iff.mp H
              obtain ⟨t281, A80, H⟩ := H
              replace H : (if t281 = true then (expr_Vars.l0 k1 x3_1 l0 (l0.length : Int) (wrap64 (x8_1 + 1))) else (if x3_1.length < 8796093022208 then (expr_Vars.l0 k1 (x3_1 ++ [(rd_T52 l0 x8_1).f1]) l0 (l0.length : Int) (wrap64 (x8_1 + 1))) else (none))) = some r := H
              have A8 := Aside0.mk A80
              clear A80
              by_cases c9 : t281 = true
              · subst c9
                have H1 : (expr_Vars.l0 k1 x3_1 l0 (l0.length : Int) (wrap64 (x8_1 + 1))) = some r := by rw [if_pos rfl] at H; exact H
                clear H
                have H := H1
                clear H1
                have H' := Aside0.mk H
                clear H
                have p279 : 0 ≤ (x8_1 : Int) := dt_
                have q279 : x8_1 < (l0.length : Int) := dt_
                obtain ⟨ad279, e279, hx279_0, hx279_1, hx279_2, hx279_3, hx279_4⟩ := at_T52 HR0.out x8_1 p279 q279
                cases e279
                replace hx279_0 := cm_ HB hx279_0
                replace hx279_1 := cm_ HB hx279_1
                replace hx279_2 := cm_ HB hx279_2
                replace hx279_3 := cm_ HB hx279_3
                replace hx279_4 := cm_ HB hx279_4
                replace p279 := eq_true p279
                replace q279 := eq_true q279
                go_wp2_with (first | ((with_reducible refine gate_dst (N := 5) rfl ?_); refine box_event ?hg (N := 5) ?hd (cs := #[.int .i64 0, .string (⟨#[]⟩ : ByteArray), .int .i64 0, .int .i64 0, .string (⟨#[]⟩ : ByteArray)]) (t := 52) ?hr ?_; (case hd => rfl); (case hg => rfl); (case hr => first | (go_simp; done) | (go_simp; rfl)); intro gb280 hg w10 hbox hb; have n0_ := kb_ (ku_ HO_3.out) hb; have n1_ := bs_ (be_ HB) hb; have n2_ := Aside0.mk (hbox); have n3_ := gs_ hg (be_ HB); have n4_ := gs_ hg (be_ HB); clear HO_3; clear HB; have HO_3 := n0_; have HB := n1_; have BK280 := n2_; have GW280 := n3_; have GE280 := n4_; clear n0_ n1_ n2_ n3_ n4_; clear hb hbox hg; have hcz11_0 : w10.cell? ⟨gb280, 0, none⟩ = some (.int .i64 0) := (blk_cell BK280.out 0).trans rfl; have hcz11_1 : w10.cell? ⟨gb280, 1, none⟩ = some (.string (⟨#[]⟩ : ByteArray)) := (blk_cell BK280.out 1).trans rfl; have hcz11_2 : w10.cell? ⟨gb280, 2, none⟩ = some (.int .i64 0) := (blk_cell BK280.out 2).trans rfl; have hcz11_3 : w10.cell? ⟨gb280, 3, none⟩ = some (.int .i64 0) := (blk_cell BK280.out 3).trans rfl; have hcz11_4 : w10.cell? ⟨gb280, 4, none⟩ = some (.string (⟨#[]⟩ : ByteArray)) := (blk_cell BK280.out 4).trans rfl; have hfz11_0 := blk_frozen BK280.out 0; have hfz11_1 := blk_frozen BK280.out 1; have hfz11_2 := blk_frozen BK280.out 2; have hfz11_3 := blk_frozen BK280.out 3; have hfz11_4 := blk_frozen BK280.out 4; obtain ⟨Ao12, co12, eo12⟩ := Kd.R_slice HO_3.out; subst eo12) | (go_at_call 43; (with_reducible refine (slices_Contains_string_string.calls k1 _ _ x3_1 ((rd_T52 l0 x8_1).f1) true _ ?side1 ?side2 A8.out).mono ?_); (case side1 => refine (Kd.R_reads' (e := 9) (base := w.heap.size) (ok := fun k_ => True) (n := x3_1.length) (c := co12) ?_).2.2; exact (ku_ (Kd.R_mono (Kd.R_far (p := ⟨gb280, 4, none⟩) (Kd.R_far (p := ⟨gb280, 3, none⟩) (Kd.R_far (p := ⟨gb280, 2, none⟩) (Kd.R_far (p := ⟨gb280, 1, none⟩) (Kd.R_far (p := ⟨gb280, 0, none⟩) (Kd.R_types HO_3.out BK280.out (by decide)) (fun _ hk => hk.2) (.int .i64 ((rd_T52 l0 x8_1).f0))) (fun _ hk => hk.2) (.string ((rd_T52 l0 x8_1).f1))) (fun _ hk => hk.2) (.int .i64 ((rd_T52 l0 x8_1).f2.f0))) (fun _ hk => hk.2) (.int .i64 ((rd_T52 l0 x8_1).f2.f1))) (fun _ hk => hk.2) (.string ((rd_T52 l0 x8_1).f2.f2))) (fun _ h_ => h_.1)))); (case side2 => exact (Kd.R_reads' HO_3.out).2.1); rintro e w' ⟨rfl, ⟨nd, rfl⟩⟩))
                go_roundg k1
                case measure => have := HK1.out; omega
                case rel => exact ⟨(x3_1), (wrap64 (x8_1 + 1)), ra_, H', ⟨by have := HK1.out; omega⟩, ⟨by (with_reducible repeat (first | apply Kd.R_alloc | apply Kd.R_drewN | apply Kd.R_drew)); exact Kd.R_mono (Kd.R_far (p := ⟨gb280, 4, none⟩) (Kd.R_far (p := ⟨gb280, 3, none⟩) (Kd.R_far (p := ⟨gb280, 2, none⟩) (Kd.R_far (p := ⟨gb280, 1, none⟩) (Kd.R_far (p := ⟨gb280, 0, none⟩) (Kd.R_types HO_3.out BK280.out (by decide)) (fun _ hk => hk.2) (.int .i64 ((rd_T52 l0 x8_1).f0))) (fun _ hk => hk.2) (.string ((rd_T52 l0 x8_1).f1))) (fun _ hk => hk.2) (.int .i64 ((rd_T52 l0 x8_1).f2.f0))) (fun _ hk => hk.2) (.int .i64 ((rd_T52 l0 x8_1).f2.f1))) (fun _ hk => hk.2) (.string ((rd_T52 l0 x8_1).f2.f2))) (fun _ hk => trivial)⟩, ⟨by repeat (first | (with_reducible first | exact HB.out | apply below_alloc | apply pw_below_drewN | apply below_drew1 | refine below_set ?_ GE280.out) | exact HB.out)⟩⟩
              · replace c9 := Bool.eq_false_iff.mpr c9
                subst c9
                have H1 : (if x3_1.length < 8796093022208 then (expr_Vars.l0 k1 (x3_1 ++ [(rd_T52 l0 x8_1).f1]) l0 (l0.length : Int) (wrap64 (x8_1 + 1))) else (none)) = some r := by rw [if_neg (show ¬ (false = true) by decide)] at H; exact H
                clear H
                have H := H1
                clear H1
                by_cases c13 : x3_1.length < 8796093022208
                · rw [if_pos c13] at H
                  have LMc13 := Aside0.mk c13
                  clear c13
                  obtain ⟨y282, hy282⟩ : ∃ y_ : List ByteArray, y_ = (x3_1 ++ [(rd_T52 l0 x8_1).f1]) := ⟨_, rfl⟩
                  replace H : (expr_Vars.l0 k1 y282 l0 (l0.length : Int) (wrap64 (x8_1 + 1))) = some r := by first | (rw [hy282]; with_reducible exact H) | (have H2_ := (Option.bind_some _ _).symm.trans H; rw [hy282]; with_reducible exact H2_) | (have H2_ := (Option.bind_some _ _).symm.trans H; with_reducible exact H2_) | with_reducible exact H | (rw [hy282]; exact H) | exact H
                  have Ny282 := Aside0.mk hy282
                  clear hy282
                  have H' := Aside0.mk H
                  clear H
                  have p279 : 0 ≤ (x8_1 : Int) := dt_
                  have q279 : x8_1 < (l0.length : Int) := dt_
                  obtain ⟨ad279, e279, hx279_0, hx279_1, hx279_2, hx279_3, hx279_4⟩ := at_T52 HR0.out x8_1 p279 q279
                  cases e279
                  replace hx279_0 := cm_ HB hx279_0
                  replace hx279_1 := cm_ HB hx279_1
                  replace hx279_2 := cm_ HB hx279_2
                  replace hx279_3 := cm_ HB hx279_3
                  replace hx279_4 := cm_ HB hx279_4
                  replace p279 := eq_true p279
                  replace q279 := eq_true q279
                  go_wp2_with (first | ((with_reducible refine gate_dst (N := 5) rfl ?_); refine box_event ?hg (N := 5) ?hd (cs := #[.int .i64 0, .string (⟨#[]⟩ : ByteArray), .int .i64 0, .int .i64 0, .string (⟨#[]⟩ : ByteArray)]) (t := 52) ?hr ?_; (case hd => rfl); (case hg => rfl); (case hr => first | (go_simp; done) | (go_simp; rfl)); intro gb280 hg w14 hbox hb; have n0_ := kb_ (ku_ HO_3.out) hb; have n1_ := bs_ (be_ HB) hb; have n2_ := Aside0.mk (hbox); have n3_ := gs_ hg (be_ HB); have n4_ := gs_ hg (be_ HB); clear HO_3; clear HB; have HO_3 := n0_; have HB := n1_; have BK280 := n2_; have GW280 := n3_; have GE280 := n4_; clear n0_ n1_ n2_ n3_ n4_; clear hb hbox hg; have hcz15_0 : w14.cell? ⟨gb280, 0, none⟩ = some (.int .i64 0) := (blk_cell BK280.out 0).trans rfl; have hcz15_1 : w14.cell? ⟨gb280, 1, none⟩ = some (.string (⟨#[]⟩ : ByteArray)) := (blk_cell BK280.out 1).trans rfl; have hcz15_2 : w14.cell? ⟨gb280, 2, none⟩ = some (.int .i64 0) := (blk_cell BK280.out 2).trans rfl; have hcz15_3 : w14.cell? ⟨gb280, 3, none⟩ = some (.int .i64 0) := (blk_cell BK280.out 3).trans rfl; have hcz15_4 : w14.cell? ⟨gb280, 4, none⟩ = some (.string (⟨#[]⟩ : ByteArray)) := (blk_cell BK280.out 4).trans rfl; have hfz15_0 := blk_frozen BK280.out 0; have hfz15_1 := blk_frozen BK280.out 1; have hfz15_2 := blk_frozen BK280.out 2; have hfz15_3 := blk_frozen BK280.out 3; have hfz15_4 := blk_frozen BK280.out 4; obtain ⟨Ao16, co16, eo16⟩ := Kd.R_slice HO_3.out; subst eo16) | (go_at_call 43; (with_reducible refine (slices_Contains_string_string.calls k1 _ _ x3_1 ((rd_T52 l0 x8_1).f1) false _ ?side1 ?side2 A8.out).mono ?_); (case side1 => refine (Kd.R_reads' (e := 9) (base := w.heap.size) (ok := fun k_ => True) (n := x3_1.length) (c := co16) ?_).2.2; exact (ku_ (Kd.R_mono (Kd.R_far (p := ⟨gb280, 4, none⟩) (Kd.R_far (p := ⟨gb280, 3, none⟩) (Kd.R_far (p := ⟨gb280, 2, none⟩) (Kd.R_far (p := ⟨gb280, 1, none⟩) (Kd.R_far (p := ⟨gb280, 0, none⟩) (Kd.R_types HO_3.out BK280.out (by decide)) (fun _ hk => hk.2) (.int .i64 ((rd_T52 l0 x8_1).f0))) (fun _ hk => hk.2) (.string ((rd_T52 l0 x8_1).f1))) (fun _ hk => hk.2) (.int .i64 ((rd_T52 l0 x8_1).f2.f0))) (fun _ hk => hk.2) (.int .i64 ((rd_T52 l0 x8_1).f2.f1))) (fun _ hk => hk.2) (.string ((rd_T52 l0 x8_1).f2.f2))) (fun _ h_ => h_.1)))); (case side2 => exact (Kd.R_reads' HO_3.out).2.1); rintro e w' ⟨rfl, ⟨nd, rfl⟩⟩) | ((with_reducible refine gate_builtin (b := .append) (xs := #[.tmp 22, .tmp 25]) rfl ?_); at_builtin; refine Kd.R_append Kd.string (w0 := w) w.heap.size rfl (.tmp 22) (.tmp 25) 44 9 (.string ⟨#[]⟩) 16 rfl Try.underlying44 info9 rfl (by decide) (by omega) (.slice Ao16 x3_1.length co16) x3_1 ((rd_T52 l0 x8_1).f1) [.string ((rd_T52 l0 x8_1).f1)] (fun _ => True) (fun _ => False) rfl (by first | (go_simp; done) | (go_simp; rfl)) ?aP (fun _ hk => hk.elim) ?aF ?aO ?aB ?aS ?aL ?_; (case aP => exact rfl); (case aB => exact (be_ HB)); (case aF => exact (fun _ _ => trivial)); (case aO => exact (by (with_reducible repeat (first | apply Kd.R_alloc | apply Kd.R_drewN | apply Kd.R_drew)); exact Kd.R_mono (Kd.R_far (p := ⟨gb280, 4, none⟩) (Kd.R_far (p := ⟨gb280, 3, none⟩) (Kd.R_far (p := ⟨gb280, 2, none⟩) (Kd.R_far (p := ⟨gb280, 1, none⟩) (Kd.R_far (p := ⟨gb280, 0, none⟩) (Kd.R_types HO_3.out BK280.out (by decide)) (fun _ hk => hk.2) (.int .i64 ((rd_T52 l0 x8_1).f0))) (fun _ hk => hk.2) (.string ((rd_T52 l0 x8_1).f1))) (fun _ hk => hk.2) (.int .i64 ((rd_T52 l0 x8_1).f2.f0))) (fun _ hk => hk.2) (.int .i64 ((rd_T52 l0 x8_1).f2.f1))) (fun _ hk => hk.2) (.string ((rd_T52 l0 x8_1).f2.f2))) (fun _ hk => trivial))); (case aS => exact (below_size (be_ HB))); (case aL => have := LMc13.out; omega); intro v283 w17 ho hb hg hat; rw [← Ny282.out] at ho; have n0_ := Aside0.mk (blk_grown (o := .cells #[.int .i64 ((rd_T52 l0 x8_1).f0), .string ((rd_T52 l0 x8_1).f1), .int .i64 ((rd_T52 l0 x8_1).f2.f0), .int .i64 ((rd_T52 l0 x8_1).f2.f1), .string ((rd_T52 l0 x8_1).f2.f2)] 52 (0, 0)) (bp_ BK280) hg (Kd.R_ne HO_3.out BK280.out (by decide))); have n1_ := Aside0.mk (hb); have n2_ := Aside0.mk (ho); clear BK280; clear HB; clear HO_3; have BK280 := n0_; have HB := n1_; have HO284 := n2_; clear n0_ n1_ n2_; clear ho hb hg hat))
                  go_roundg k1
                  case measure => have := HK1.out; omega
                  case rel => exact ⟨(y282), (wrap64 (x8_1 + 1)), ra_, H', ⟨by have := HK1.out; omega⟩, ⟨by (with_reducible repeat (first | apply Kd.R_alloc | apply Kd.R_drewN | apply Kd.R_drew)); exact HO284.out⟩, ⟨by repeat (first | (with_reducible first | exact HB.out | apply below_alloc | apply pw_below_drewN | apply below_drew1 | refine below_set ?_ GE280.out) | exact HB.out)⟩⟩
                · rw [if_neg c13] at H
                  exact absurd H (by simp)
          · rw [if_neg c4] at H
            exact absurd H (by simp)
        · rw [if_neg c3] at H
          exact absurd H (by simp)
      · rw [if_neg c2] at H
        have c2b0 : decide (x8_1 < (l0.length : Int)) = false := decide_eq_false c2
        clear c2
        obtain rfl := Option.some.inj H
        go_wp2
        go_ret
        exact ⟨_, by first | rfl | (simp [errW_none, errW_some] <;> rfl) | (simp [*, errW_none, errW_some] <;> rfl), by (with_reducible repeat (first | apply Kd.R_alloc | apply Kd.R_drewN | apply Kd.R_drew)); exact HO_3.out, by repeat (first | (with_reducible first | exact HB.out | apply below_alloc | apply pw_below_drewN | apply below_drew1) | exact HB.out)⟩
end Go.Proofs.Ytconpnagoijacaa.P
end
section
namespace Go.Proofs.Ytconpnagoijacaa.P
open Go.RowKit Go.Proofs.YtconpnagoijacaaW.PrintWords Go.Proofs.YtconpnagoijacaaW.PrintLast Go.Proofs.YtconpnagoijacaaW.PrintMore
attribute [local go_sem] max2_int min2_int max_two min_two max_three min_three max_four min_four
set_option linter.unusedVariables false
set_option linter.unusedSimpArgs false
def constablelaw07_wakes.f (k : Nat)  : Option (Bool) := (some (([(⟨1, (⟨#[88]⟩ : ByteArray), (⟨0, 0, (⟨#[]⟩ : ByteArray)⟩ : S40)⟩ : S52), (⟨2, (⟨#[]⟩ : ByteArray), (⟨1, 2, (⟨#[]⟩ : ByteArray)⟩ : S40)⟩ : S52), (⟨5, (⟨#[]⟩ : ByteArray), (⟨0, 0, (⟨#[]⟩ : ByteArray)⟩ : S40)⟩ : S52)] : List (S52)) : List (S52))).bind fun y328 => ((expr_Eval.f k y328 (([(⟨(⟨#[88]⟩ : ByteArray), (⟨1, 3, (⟨#[]⟩ : ByteArray)⟩ : S40)⟩ : S62)] : List (S62)))).bind fun bt334 => ((expr_Eval.f k y328 ([] : List (S62))).bind fun bt339 => (if bt334.2.2.2 = 0 then (if bt334.2.1 = 6 then (if bt339.2.2.2 = 5 then ((expr_Vars.f k y328).bind fun t344 => (if (t344.length : Int) = 1 then ((expr_Part.f k y328 2).bind fun t347 => (if t347 = 0 then ((expr_Part.f k y328 1).bind fun t348 => (if t348 = 1 then ((expr_Check.f k ([] : List (S52))).bind fun t349 => (some (t349 == 1))) else (some false))) else (some false))) else (some false))) else (some false)) else (some false)) else (some false))))
theorem constablelaw07_wakes.mono : ∀ k, LeO (constablelaw07_wakes.f k ) (constablelaw07_wakes.f (k + 1) ) := by
  intro  k
  unfold constablelaw07_wakes.f
  repeat' first
      | (with_reducible exact expr_Check.mono _ _)
      | (with_reducible exact expr_Eval.mono _ _ _)
      | (with_reducible exact expr_Part.mono _ _ _)
      | (with_reducible exact expr_Vars.mono _ _)
      | (with_reducible exact LeO.refl _)
      | (with_reducible exact LeO.none _)
      | (with_reducible refine LeO.ite ?_ ?_)
      | (with_reducible refine LeO.bind ?_ (fun _ => ?_))
      | exact expr_Check.mono _ _
      | exact expr_Eval.mono _ _ _
      | exact expr_Part.mono _ _ _
      | exact expr_Vars.mono _ _
      | exact LeO.none _
      | refine LeO.ite ?_ ?_
      | refine LeO.bind ?_ (fun _ => ?_)
set_option maxHeartbeats 8000000 in
set_option maxRecDepth 100000 in
theorem constablelaw07_wakes.calls (k : Nat)  (r : Bool) (w : World) (h : constablelaw07_wakes.f k  = some r) (hr_ : r = true) :
    Calls Try.prog 32 #[] w fun e w' => e = .returned (.bool r) ∧ Below w.heap.size w w' := by
  have hu40 := Try.underlying40
  have hu52 := Try.underlying52
  have hu62 := Try.underlying62
  have HB := Aside0.mk (Below.refl w.heap.size w)
  have H : ((some (([(⟨1, (⟨#[88]⟩ : ByteArray), (⟨0, 0, (⟨#[]⟩ : ByteArray)⟩ : S40)⟩ : S52), (⟨2, (⟨#[]⟩ : ByteArray), (⟨1, 2, (⟨#[]⟩ : ByteArray)⟩ : S40)⟩ : S52), (⟨5, (⟨#[]⟩ : ByteArray), (⟨0, 0, (⟨#[]⟩ : ByteArray)⟩ : S40)⟩ : S52)] : List (S52)) : List (S52))).bind fun y328 => ((expr_Eval.f k y328 (([(⟨(⟨#[88]⟩ : ByteArray), (⟨1, 3, (⟨#[]⟩ : ByteArray)⟩ : S40)⟩ : S62)] : List (S62)))).bind fun bt334 => ((expr_Eval.f k y328 ([] : List (S62))).bind fun bt339 => (if bt334.2.2.2 = 0 then (if bt334.2.1 = 6 then (if bt339.2.2.2 = 5 then ((expr_Vars.f k y328).bind fun t344 => (if (t344.length : Int) = 1 then ((expr_Part.f k y328 2).bind fun t347 => (if t347 = 0 then ((expr_Part.f k y328 1).bind fun t348 => (if t348 = 1 then ((expr_Check.f k ([] : List (S52))).bind fun t349 => (some (t349 == 1))) else (some false))) else (some false))) else (some false))) else (some false)) else (some false)) else (some false))))) = some r := h
  clear h
  have HR_ := Aside0.mk hr_
  clear hr_
  obtain ⟨y328, hy328⟩ : ∃ y_ : List (S52), y_ = (([(⟨1, (⟨#[88]⟩ : ByteArray), (⟨0, 0, (⟨#[]⟩ : ByteArray)⟩ : S40)⟩ : S52), (⟨2, (⟨#[]⟩ : ByteArray), (⟨1, 2, (⟨#[]⟩ : ByteArray)⟩ : S40)⟩ : S52), (⟨5, (⟨#[]⟩ : ByteArray), (⟨0, 0, (⟨#[]⟩ : ByteArray)⟩ : S40)⟩ : S52)] : List (S52))) := ⟨_, rfl⟩
  replace H : ((expr_Eval.f k y328 (([(⟨(⟨#[88]⟩ : ByteArray), (⟨1, 3, (⟨#[]⟩ : ByteArray)⟩ : S40)⟩ : S62)] : List (S62)))).bind fun bt334 => ((expr_Eval.f k y328 ([] : List (S62))).bind fun bt339 => (if bt334.2.2.2 = 0 then (if bt334.2.1 = 6 then (if bt339.2.2.2 = 5 then ((expr_Vars.f k y328).bind fun t344 => (if (t344.length : Int) = 1 then ((expr_Part.f k y328 2).bind fun t347 => (if t347 = 0 then ((expr_Part.f k y328 1).bind fun t348 => (if t348 = 1 then ((expr_Check.f k ([] : List (S52))).bind fun t349 => (some (t349 == 1))) else (some false))) else (some false))) else (some false))) else (some false)) else (some false)) else (some false)))) = some r := by first | (rw [hy328]; with_reducible exact H) | (have H2_ := (Option.bind_some _ _).symm.trans H; rw [hy328]; with_reducible exact H2_) | (have H2_ := (Option.bind_some _ _).symm.trans H; with_reducible exact H2_) | with_reducible exact H | (rw [hy328]; exact H) | exact H
  have Ny328 := Aside0.mk hy328
  clear hy328
  obtain ⟨y331, hy331⟩ : ∃ y_ : List (S62), y_ = (([(⟨(⟨#[88]⟩ : ByteArray), (⟨1, 3, (⟨#[]⟩ : ByteArray)⟩ : S40)⟩ : S62)] : List (S62))) := ⟨_, rfl⟩
  replace H : ((expr_Eval.f k y328 y331).bind fun bt334 => ((expr_Eval.f k y328 ([] : List (S62))).bind fun bt339 => (if bt334.2.2.2 = 0 then (if bt334.2.1 = 6 then (if bt339.2.2.2 = 5 then ((expr_Vars.f k y328).bind fun t344 => (if (t344.length : Int) = 1 then ((expr_Part.f k y328 2).bind fun t347 => (if t347 = 0 then ((expr_Part.f k y328 1).bind fun t348 => (if t348 = 1 then ((expr_Check.f k ([] : List (S52))).bind fun t349 => (some (t349 == 1))) else (some false))) else (some false))) else (some false))) else (some false)) else (some false)) else (some false)))) = some r := by first | (rw [hy331]; with_reducible exact H) | (have H2_ := (Option.bind_some _ _).symm.trans H; rw [hy331]; with_reducible exact H2_) | (have H2_ := (Option.bind_some _ _).symm.trans H; with_reducible exact H2_) | with_reducible exact H | (rw [hy331]; exact H) | exact H
  have Ny331 := Aside0.mk hy331
  clear hy331
  replace H := Option.bind_eq_some_iff.mp H
  obtain ⟨⟨t334, t335, t336, t337⟩, A10, H⟩ := H
  replace H : ((expr_Eval.f k y328 ([] : List (S62))).bind fun bt339 => (if t337 = 0 then (if t335 = 6 then (if bt339.2.2.2 = 5 then ((expr_Vars.f k y328).bind fun t344 => (if (t344.length : Int) = 1 then ((expr_Part.f k y328 2).bind fun t347 => (if t347 = 0 then ((expr_Part.f k y328 1).bind fun t348 => (if t348 = 1 then ((expr_Check.f k ([] : List (S52))).bind fun t349 => (some (t349 == 1))) else (some false))) else (some false))) else (some false))) else (some false)) else (some false)) else (some false))) = some r := H
  have A1 := Aside0.mk A10
  clear A10
  replace H := Option.bind_eq_some_iff.mp H
  obtain ⟨⟨t339, t340, t341, t342⟩, A20, H⟩ := H
  replace H : (if t337 = 0 then (if t335 = 6 then (if t342 = 5 then ((expr_Vars.f k y328).bind fun t344 => (if (t344.length : Int) = 1 then ((expr_Part.f k y328 2).bind fun t347 => (if t347 = 0 then ((expr_Part.f k y328 1).bind fun t348 => (if t348 = 1 then ((expr_Check.f k ([] : List (S52))).bind fun t349 => (some (t349 == 1))) else (some false))) else (some false))) else (some false))) else (some false)) else (some false)) else (some false)) = some r := H
  have A2 := Aside0.mk A20
  clear A20
  by_cases c3 : t337 = 0
  · rw [if_pos c3] at H
    obtain ⟨c3b0, c3b1⟩ := eqB_ c3
    clear c3
    by_cases c4 : t335 = 6
    · rw [if_pos c4] at H
      obtain ⟨c4b0, c4b1⟩ := eqB_ c4
      clear c4
      by_cases c5 : t342 = 5
      · rw [if_pos c5] at H
        obtain ⟨c5b0, c5b1⟩ := eqB_ c5
        clear c5
        replace H := Option.bind_eq_some_iff.mp H
        obtain ⟨t344, A60, H⟩ := H
        replace H : (if (t344.length : Int) = 1 then ((expr_Part.f k y328 2).bind fun t347 => (if t347 = 0 then ((expr_Part.f k y328 1).bind fun t348 => (if t348 = 1 then ((expr_Check.f k ([] : List (S52))).bind fun t349 => (some (t349 == 1))) else (some false))) else (some false))) else (some false)) = some r := H
        have A6 := Aside0.mk A60
        clear A60
        by_cases c7 : (t344.length : Int) = 1
        · rw [if_pos c7] at H
          obtain ⟨c7b0, c7b1⟩ := eqB_ c7
          clear c7
          replace H := Option.bind_eq_some_iff.mp H
          obtain ⟨t347, A80, H⟩ := H
          replace H : (if t347 = 0 then ((expr_Part.f k y328 1).bind fun t348 => (if t348 = 1 then ((expr_Check.f k ([] : List (S52))).bind fun t349 => (some (t349 == 1))) else (some false))) else (some false)) = some r := H
          have A8 := Aside0.mk A80
          clear A80
          by_cases c9 : t347 = 0
          · rw [if_pos c9] at H
            obtain ⟨c9b0, c9b1⟩ := eqB_ c9
            clear c9
            replace H := Option.bind_eq_some_iff.mp H
            obtain ⟨t348, A100, H⟩ := H
            replace H : (if t348 = 1 then ((expr_Check.f k ([] : List (S52))).bind fun t349 => (some (t349 == 1))) else (some false)) = some r := H
            have A10 := Aside0.mk A100
            clear A100
            by_cases c11 : t348 = 1
            · rw [if_pos c11] at H
              obtain ⟨c11b0, c11b1⟩ := eqB_ c11
              clear c11
              replace H := Option.bind_eq_some_iff.mp H
              obtain ⟨t349, A120, H⟩ := H
              replace H : (some (t349 == 1)) = some r := H
              have A12 := Aside0.mk A120
              clear A120
              obtain rfl := Option.some.inj H
              go_enter Try.func32, Try.ntmps32
              go_wp2_with (first | ((with_reducible refine gate_dst (N := 1) rfl ?_); (try (refine gate_guard (by rfl) ?_; dsimp only)); refine box_event ?hg (N := 1) ?hd (cs := #[.int .i64 0, .int .i64 0, .string (⟨#[]⟩ : ByteArray)]) (t := 40) ?hr ?_; (case hd => rfl); (case hg => rfl); (case hr => first | (go_simp; done) | (go_simp; rfl)); intro gb326 hg w13 hbox hb; have n0_ := bs_ (be_ HB) hb; have n1_ := Aside0.mk (hbox); have n2_ := gs_ hg (be_ HB); have n3_ := gs_ hg (be_ HB); clear HB; have HB := n0_; have BK326 := n1_; have GW326 := n2_; have GE326 := n3_; clear n0_ n1_ n2_ n3_; clear hb hbox hg) | ((with_reducible refine gate_dst (N := 2) rfl ?_); (try (refine gate_guard (by rfl) ?_; dsimp only)); refine box_event ?hg (N := 2) ?hd (cs := #[.int .i64 0, .int .i64 0, .string (⟨#[]⟩ : ByteArray)]) (t := 40) ?hr ?_; (case hd => rfl); (case hg => rfl); (case hr => first | (go_simp; done) | (go_simp; rfl)); intro gb327 hg w14 hbox hb; have n0_ := bb_ (bu_ BK326) hb; have n1_ := bs_ (be_ HB) hb; have n2_ := Aside0.mk (hbox); have n3_ := gs_ hg (be_ HB); have n4_ := gs_ hg (be_ HB); have n5_ := nl_ hg (bu_ BK326); have n6_ := ng_ hg (bu_ BK326); clear BK326; clear HB; have BK326 := n0_; have HB := n1_; have BK327 := n2_; have GW327 := n3_; have GE327 := n4_; have NB326_327 := n5_; have NB327_326 := n6_; clear n0_ n1_ n2_ n3_ n4_ n5_ n6_; clear hb hbox hg; have hnb15 := NB326_327.out; have hnc15 := NB327_326.out; have hcz16_0 : w14.cell? ⟨gb326, 0, none⟩ = some (.int .i64 0) := (blk_cell BK326.out 0).trans rfl; have hcz16_1 : w14.cell? ⟨gb326, 1, none⟩ = some (.int .i64 0) := (blk_cell BK326.out 1).trans rfl; have hcz16_2 : w14.cell? ⟨gb326, 2, none⟩ = some (.string (⟨#[]⟩ : ByteArray)) := (blk_cell BK326.out 2).trans rfl; have hfz16_0 := blk_frozen BK326.out 0; have hfz16_1 := blk_frozen BK326.out 1; have hfz16_2 := blk_frozen BK326.out 2; have hcz17_0 : w14.cell? ⟨gb327, 0, none⟩ = some (.int .i64 0) := (blk_cell BK327.out 0).trans rfl; have hcz17_1 : w14.cell? ⟨gb327, 1, none⟩ = some (.int .i64 0) := (blk_cell BK327.out 1).trans rfl; have hcz17_2 : w14.cell? ⟨gb327, 2, none⟩ = some (.string (⟨#[]⟩ : ByteArray)) := (blk_cell BK327.out 2).trans rfl; have hfz17_0 := blk_frozen BK327.out 0; have hfz17_1 := blk_frozen BK327.out 1; have hfz17_2 := blk_frozen BK327.out 2) | ((with_reducible refine gate_dst (N := 14) rfl ?_); (try (refine gate_guard (by rfl) ?_; dsimp only)); refine Kd.R_lit k52 _ 52 ?hg (N := 14) ?hd (xs := ([(⟨1, (⟨#[88]⟩ : ByteArray), (⟨0, 0, (⟨#[]⟩ : ByteArray)⟩ : S40)⟩ : S52), (⟨2, (⟨#[]⟩ : ByteArray), (⟨1, 2, (⟨#[]⟩ : ByteArray)⟩ : S40)⟩ : S52), (⟨5, (⟨#[]⟩ : ByteArray), (⟨0, 0, (⟨#[]⟩ : ByteArray)⟩ : S40)⟩ : S52)] : List (S52))) (inner := [.int .i64 1, .string (⟨#[88]⟩ : ByteArray), .int .i64 0, .int .i64 0, .string (⟨#[]⟩ : ByteArray), .int .i64 2, .string (⟨#[]⟩ : ByteArray), .int .i64 1, .int .i64 2, .string (⟨#[]⟩ : ByteArray), .int .i64 5, .string (⟨#[]⟩ : ByteArray), .int .i64 0, .int .i64 0, .string (⟨#[]⟩ : ByteArray)]) (ok := fun _ => True) (okp := fun _ => True) ?hr ?hp (fun _ hk => hk) trivial (Below.refl _ _) (Nat.le_refl _) (by simp) ?_; (case hd => rfl); (case hg => rfl); (case hr => first | (go_simp; done) | (go_simp; rfl)); (case hp => exact (Reps.c5 (show Kd.M k52 _ _ _ (⟨1, (⟨#[88]⟩ : ByteArray), (⟨0, 0, (⟨#[]⟩ : ByteArray)⟩ : S40)⟩ : S52) [.int .i64 1, .string (⟨#[88]⟩ : ByteArray), .int .i64 0, .int .i64 0, .string (⟨#[]⟩ : ByteArray)] from (k52_mkM _ _ _ (⟨1, (⟨#[88]⟩ : ByteArray), (⟨0, 0, (⟨#[]⟩ : ByteArray)⟩ : S40)⟩ : S52) )) (Reps.c5 (show Kd.M k52 _ _ _ (⟨2, (⟨#[]⟩ : ByteArray), (⟨1, 2, (⟨#[]⟩ : ByteArray)⟩ : S40)⟩ : S52) [.int .i64 2, .string (⟨#[]⟩ : ByteArray), .int .i64 1, .int .i64 2, .string (⟨#[]⟩ : ByteArray)] from (k52_mkM _ _ _ (⟨2, (⟨#[]⟩ : ByteArray), (⟨1, 2, (⟨#[]⟩ : ByteArray)⟩ : S40)⟩ : S52) )) (Reps.c5 (show Kd.M k52 _ _ _ (⟨5, (⟨#[]⟩ : ByteArray), (⟨0, 0, (⟨#[]⟩ : ByteArray)⟩ : S40)⟩ : S52) [.int .i64 5, .string (⟨#[]⟩ : ByteArray), .int .i64 0, .int .i64 0, .string (⟨#[]⟩ : ByteArray)] from (k52_mkM _ _ _ (⟨5, (⟨#[]⟩ : ByteArray), (⟨0, 0, (⟨#[]⟩ : ByteArray)⟩ : S40)⟩ : S52) )) (Reps.none _ _))))); intro v329 w18 ho19 hb hg_ hnew_; clear hg_ hnew_; (first | rw [← Ny328.out] at ho19 | (simp only [Int.reduceToNat] at ho19; rw [← Ny328.out] at ho19)); have n0_ := Aside0.mk (Kd.R_lower ho19 (below_size (be_ HB))); have n1_ := Aside0.mk (blk_below (o := .cells #[.int .i64 1, .int .i64 2, .string (⟨#[]⟩ : ByteArray)] 40 (0, 0)) (bp_ BK326) hb); have n2_ := Aside0.mk (blk_below (o := .cells #[.int .i64 1, .int .i64 3, .string (⟨#[]⟩ : ByteArray)] 40 (0, 0)) (bp_ BK327) hb); have n3_ := bs_ (be_ HB) hb; clear BK326; clear BK327; clear HB; have HO330 := n0_; have BK326 := n1_; have BK327 := n2_; have HB := n3_; clear n0_ n1_ n2_ n3_; clear hb ho19; have hcz20_0 : w18.cell? ⟨gb327, 0, none⟩ = some (.int .i64 1) := (blk_cell BK327.out 0).trans rfl; have hcz20_1 : w18.cell? ⟨gb327, 1, none⟩ = some (.int .i64 3) := (blk_cell BK327.out 1).trans rfl; have hcz20_2 : w18.cell? ⟨gb327, 2, none⟩ = some (.string (⟨#[]⟩ : ByteArray)) := (blk_cell BK327.out 2).trans rfl; have hfz20_0 := blk_frozen BK327.out 0; have hfz20_1 := blk_frozen BK327.out 1; have hfz20_2 := blk_frozen BK327.out 2) | ((with_reducible refine gate_dst (N := 19) rfl ?_); (try (refine gate_guard (by rfl) ?_; dsimp only)); refine Kd.R_lit k62 _ 62 ?hg (N := 19) ?hd (xs := ([(⟨(⟨#[88]⟩ : ByteArray), (⟨1, 3, (⟨#[]⟩ : ByteArray)⟩ : S40)⟩ : S62)] : List (S62))) (inner := [.string (⟨#[88]⟩ : ByteArray), .int .i64 1, .int .i64 3, .string (⟨#[]⟩ : ByteArray)]) (ok := fun _ => True) (okp := fun _ => True) ?hr ?hp (fun _ hk => hk) trivial (Below.refl _ _) (Nat.le_refl _) (by simp) ?_; (case hd => rfl); (case hg => rfl); (case hr => first | (go_simp; done) | (go_simp; rfl)); (case hp => exact (Reps.c4 (show Kd.M k62 _ _ _ (⟨(⟨#[88]⟩ : ByteArray), (⟨1, 3, (⟨#[]⟩ : ByteArray)⟩ : S40)⟩ : S62) [.string (⟨#[88]⟩ : ByteArray), .int .i64 1, .int .i64 3, .string (⟨#[]⟩ : ByteArray)] from (k62_mkM _ _ _ (⟨(⟨#[88]⟩ : ByteArray), (⟨1, 3, (⟨#[]⟩ : ByteArray)⟩ : S40)⟩ : S62) )) (Reps.none _ _))); intro v332 w21 ho22 hb hg_ hnew_; clear hg_ hnew_; (first | rw [← Ny331.out] at ho22 | (simp only [Int.reduceToNat] at ho22; rw [← Ny331.out] at ho22)); have n0_ := kb_ (ku_ HO330.out) hb; have n1_ := Aside0.mk (Kd.R_lower ho22 (below_size (be_ HB))); have n2_ := bb_ (bu_ BK326) hb; have n3_ := bb_ (bu_ BK327) hb; have n4_ := bs_ (be_ HB) hb; clear HO330; clear BK326; clear BK327; clear HB; have HO330 := n0_; have HO333 := n1_; have BK326 := n2_; have BK327 := n3_; have HB := n4_; clear n0_ n1_ n2_ n3_ n4_; clear hb ho22; obtain ⟨Ao23, co23, eo23⟩ := Kd.R_slice HO330.out; subst eo23; obtain ⟨Ao24, co24, eo24⟩ := Kd.R_slice HO333.out; subst eo24) | ((with_reducible refine gate_callee (f := 21) rfl ?_); refine goesL_ (some 20) rfl rfl Try.func21 (by kernel_rfl) rfl #[.slice Ao23 y328.length co23, .slice Ao24 y331.length co24] rfl ga_ ?_; (with_reducible refine (expr_Eval.calls k _ _ y328 _ _ y331 t334 t335 t336 t337 _ ?side1 ?side2 ?side3 ?side4 A1.out).mono ?_); (case side1 => repeat (first | exact (Kd.R_reads' HO330.out).2.2 | (with_reducible refine Kd.C_alloc ?_ _) | (with_reducible refine Kd.C_drewN ?_ _) | (with_reducible refine Kd.C_drew ?_))); (case side2 => exact (Kd.R_reads' HO330.out).2.1); (case side3 => repeat (first | exact (Kd.R_reads' HO333.out).2.2 | (with_reducible refine Kd.C_alloc ?_ _) | (with_reducible refine Kd.C_drewN ?_ _) | (with_reducible refine Kd.C_drew ?_))); (case side4 => exact (Kd.R_reads' HO333.out).2.1); rintro e w25 ⟨rfl, hb⟩; refine ⟨_, rfl, ?_⟩; have n0_ := kb_ (ku_ HO330.out) hb; have n1_ := kb_ (ku_ HO333.out) hb; have n2_ := bb_ (bu_ BK326) hb; have n3_ := bb_ (bu_ BK327) hb; have n4_ := bs_ (be_ HB) hb; clear HO330; clear HO333; clear BK326; clear BK327; clear HB; have HO330 := n0_; have HO333 := n1_; have BK326 := n2_; have BK327 := n3_; have HB := n4_; clear n0_ n1_ n2_ n3_ n4_; (try clear hb); (try clear hb2); (try clear hk); (try clear hi)) | ((with_reducible refine gate_dst (N := 4) rfl ?_); (try (refine gate_guard (by rfl) ?_; dsimp only)); refine box_event ?hg (N := 4) ?hd (cs := #[.int .i64 0, .int .i64 0, .string (⟨#[]⟩ : ByteArray)]) (t := 40) ?hr ?_; (case hd => rfl); (case hg => rfl); (case hr => first | (go_simp; done) | (go_simp; rfl)); intro gb338 hg w26 hbox hb; have n0_ := kb_ (ku_ HO330.out) hb; have n1_ := kb_ (ku_ HO333.out) hb; have n2_ := bb_ (bu_ BK326) hb; have n3_ := bb_ (bu_ BK327) hb; have n4_ := bs_ (be_ HB) hb; have n5_ := Aside0.mk (hbox); have n6_ := gs_ hg (be_ HB); have n7_ := gs_ hg (be_ HB); have n8_ := nl_ hg (bu_ BK326); have n9_ := ng_ hg (bu_ BK326); have n10_ := nl_ hg (bu_ BK327); have n11_ := ng_ hg (bu_ BK327); clear HO330; clear HO333; clear BK326; clear BK327; clear HB; have HO330 := n0_; have HO333 := n1_; have BK326 := n2_; have BK327 := n3_; have HB := n4_; have BK338 := n5_; have GW338 := n6_; have GE338 := n7_; have NB326_338 := n8_; have NB338_326 := n9_; have NB327_338 := n10_; have NB338_327 := n11_; clear n0_ n1_ n2_ n3_ n4_ n5_ n6_ n7_ n8_ n9_ n10_ n11_; clear hb hbox hg; have hnb27 := NB338_326.out; have hnc27 := NB326_338.out; have hnb28 := NB338_327.out; have hnc28 := NB327_338.out; have hcz29_0 : w26.cell? ⟨gb338, 0, none⟩ = some (.int .i64 0) := (blk_cell BK338.out 0).trans rfl; have hcz29_1 : w26.cell? ⟨gb338, 1, none⟩ = some (.int .i64 0) := (blk_cell BK338.out 1).trans rfl; have hcz29_2 : w26.cell? ⟨gb338, 2, none⟩ = some (.string (⟨#[]⟩ : ByteArray)) := (blk_cell BK338.out 2).trans rfl; have hfz29_0 := blk_frozen BK338.out 0; have hfz29_1 := blk_frozen BK338.out 1; have hfz29_2 := blk_frozen BK338.out 2) | ((with_reducible refine gate_callee (f := 21) rfl ?_); refine goesL_ (some 25) rfl rfl Try.func21 (by kernel_rfl) rfl #[.slice Ao23 y328.length co23, .slice none 0 0] rfl ga_ ?_; (refine (expr_Eval.calls k _ _ y328 _ _ ([] : List (S62)) t339 t340 t341 t342 _ ?side1 ?side2 ?side3 ?side4 A2.out).mono ?_); (case side1 => refine (Kd.R_reads' (e := 52) (base := w.heap.size) (ok := fun k_ => True) (n := y328.length) (c := co23) ?_).2.2; exact (ku_ (Kd.R_mono (Kd.R_far (p := ⟨gb338, 2, none⟩) (Kd.R_far (p := ⟨gb338, 1, none⟩) (Kd.R_far (p := ⟨gb338, 0, none⟩) (Kd.R_types HO330.out BK338.out (by decide)) (fun _ hk => hk.2) (.int .i64 t334)) (fun _ hk => hk.2) (.int .i64 t335)) (fun _ hk => hk.2) (.string t336)) (fun _ h_ => h_.1)))); (case side2 => exact (Kd.R_reads' HO330.out).2.1); (case side3 => exact Kd.C_nil _ _); (case side4 => exact Nat.le_refl _); rintro e w30 ⟨rfl, hb⟩; refine ⟨_, rfl, ?_⟩; have n0_ := Aside0.mk (Kd.R_below (ku_ (Kd.R_mono (Kd.R_far (p := ⟨gb338, 2, none⟩) (Kd.R_far (p := ⟨gb338, 1, none⟩) (Kd.R_far (p := ⟨gb338, 0, none⟩) (Kd.R_types HO330.out BK338.out (by decide)) (fun _ hk => hk.2) (.int .i64 t334)) (fun _ hk => hk.2) (.int .i64 t335)) (fun _ hk => hk.2) (.string t336)) (fun _ h_ => h_.1))) hb); have n1_ := Aside0.mk (Kd.R_below (ku_ (Kd.R_mono (Kd.R_far (p := ⟨gb338, 2, none⟩) (Kd.R_far (p := ⟨gb338, 1, none⟩) (Kd.R_far (p := ⟨gb338, 0, none⟩) (Kd.R_types HO333.out BK338.out (by decide)) (fun _ hk => hk.2) (.int .i64 t334)) (fun _ hk => hk.2) (.int .i64 t335)) (fun _ hk => hk.2) (.string t336)) (fun _ h_ => h_.1))) hb); have n2_ := bb_ (bu_ BK326) hb; have n3_ := bb_ (bu_ BK327) hb; have n4_ := Aside0.mk (blk_below (o := .cells #[.int .i64 t334, .int .i64 t335, .string t336] 40 (0, 0)) (bp_ BK338) hb); have n5_ := bs_ (be_ HB) hb; clear HO330; clear HO333; clear BK326; clear BK327; clear BK338; clear HB; have HO330 := n0_; have HO333 := n1_; have BK326 := n2_; have BK327 := n3_; have BK338 := n4_; have HB := n5_; clear n0_ n1_ n2_ n3_ n4_ n5_; (try clear hb); (try clear hb2); (try clear hk); (try clear hi)) | ((with_reducible refine gate_dst (N := 6) rfl ?_); (try (refine gate_guard (by rfl) ?_; dsimp only)); refine box_event ?hg (N := 6) ?hd (cs := #[.int .i64 0, .int .i64 0, .string (⟨#[]⟩ : ByteArray)]) (t := 40) ?hr ?_; (case hd => rfl); (case hg => rfl); (case hr => first | (go_simp; done) | (go_simp; rfl)); intro gb343 hg w31 hbox hb; have n0_ := kb_ (ku_ HO330.out) hb; have n1_ := kb_ (ku_ HO333.out) hb; have n2_ := bb_ (bu_ BK326) hb; have n3_ := bb_ (bu_ BK327) hb; have n4_ := bb_ (bu_ BK338) hb; have n5_ := bs_ (be_ HB) hb; have n6_ := Aside0.mk (hbox); have n7_ := gs_ hg (be_ HB); have n8_ := gs_ hg (be_ HB); have n9_ := nl_ hg (bu_ BK326); have n10_ := ng_ hg (bu_ BK326); have n11_ := nl_ hg (bu_ BK327); have n12_ := ng_ hg (bu_ BK327); have n13_ := nl_ hg (bu_ BK338); have n14_ := ng_ hg (bu_ BK338); clear HO330; clear HO333; clear BK326; clear BK327; clear BK338; clear HB; have HO330 := n0_; have HO333 := n1_; have BK326 := n2_; have BK327 := n3_; have BK338 := n4_; have HB := n5_; have BK343 := n6_; have GW343 := n7_; have GE343 := n8_; have NB326_343 := n9_; have NB343_326 := n10_; have NB327_343 := n11_; have NB343_327 := n12_; have NB338_343 := n13_; have NB343_338 := n14_; clear n0_ n1_ n2_ n3_ n4_ n5_ n6_ n7_ n8_ n9_ n10_ n11_ n12_ n13_ n14_; clear hb hbox hg; have hnb32 := NB343_326.out; have hnc32 := NB326_343.out; have hnb33 := NB343_327.out; have hnc33 := NB327_343.out; have hnb34 := NB343_338.out; have hnc34 := NB338_343.out; have hcz35_0 : w31.cell? ⟨gb343, 0, none⟩ = some (.int .i64 0) := (blk_cell BK343.out 0).trans rfl; have hcz35_1 : w31.cell? ⟨gb343, 1, none⟩ = some (.int .i64 0) := (blk_cell BK343.out 1).trans rfl; have hcz35_2 : w31.cell? ⟨gb343, 2, none⟩ = some (.string (⟨#[]⟩ : ByteArray)) := (blk_cell BK343.out 2).trans rfl; have hfz35_0 := blk_frozen BK343.out 0; have hfz35_1 := blk_frozen BK343.out 1; have hfz35_2 := blk_frozen BK343.out 2; have hcz36_0 : w31.cell? ⟨gb338, 0, none⟩ = some (.int .i64 t334) := (blk_cell BK338.out 0).trans rfl; have hcz36_1 : w31.cell? ⟨gb338, 1, none⟩ = some (.int .i64 t335) := (blk_cell BK338.out 1).trans rfl; have hcz36_2 : w31.cell? ⟨gb338, 2, none⟩ = some (.string t336) := (blk_cell BK338.out 2).trans rfl; have hfz36_0 := blk_frozen BK338.out 0; have hfz36_1 := blk_frozen BK338.out 1; have hfz36_2 := blk_frozen BK338.out 2) | (go_at_call 23; (with_reducible refine (expr_Vars.calls k _ _ y328 t344 _ ?side1 ?side2 A6.out).mono ?_); (case side1 => refine (Kd.R_reads' (e := 52) (base := w.heap.size) (ok := fun k_ => True) (n := y328.length) (c := co23) ?_).2.2; exact (ku_ (Kd.R_mono (Kd.R_far (p := ⟨gb343, 2, none⟩) (Kd.R_far (p := ⟨gb343, 1, none⟩) (Kd.R_far (p := ⟨gb343, 0, none⟩) (Kd.R_types HO330.out BK343.out (by decide)) (fun _ hk => hk.2) (.int .i64 t339)) (fun _ hk => hk.2) (.int .i64 t340)) (fun _ hk => hk.2) (.string t341)) (fun _ h_ => h_.1)))); (case side2 => exact (Kd.R_reads' HO330.out).2.1); rintro e w37 ⟨v345, rfl, ho0, hb⟩; have n0_ := Aside0.mk (Kd.R_below (ku_ (Kd.R_mono (Kd.R_far (p := ⟨gb343, 2, none⟩) (Kd.R_far (p := ⟨gb343, 1, none⟩) (Kd.R_far (p := ⟨gb343, 0, none⟩) (Kd.R_types HO330.out BK343.out (by decide)) (fun _ hk => hk.2) (.int .i64 t339)) (fun _ hk => hk.2) (.int .i64 t340)) (fun _ hk => hk.2) (.string t341)) (fun _ h_ => h_.1))) hb); have n1_ := Aside0.mk (Kd.R_below (ku_ (Kd.R_mono (Kd.R_far (p := ⟨gb343, 2, none⟩) (Kd.R_far (p := ⟨gb343, 1, none⟩) (Kd.R_far (p := ⟨gb343, 0, none⟩) (Kd.R_types HO333.out BK343.out (by decide)) (fun _ hk => hk.2) (.int .i64 t339)) (fun _ hk => hk.2) (.int .i64 t340)) (fun _ hk => hk.2) (.string t341)) (fun _ h_ => h_.1))) hb); have n2_ := Aside0.mk (Kd.R_lower ho0 (below_size (be_ HB))); have n3_ := bb_ (bu_ BK326) hb; have n4_ := bb_ (bu_ BK327) hb; have n5_ := bb_ (bu_ BK338) hb; have n6_ := Aside0.mk (blk_below (o := .cells #[.int .i64 t339, .int .i64 t340, .string t341] 40 (0, 0)) (bp_ BK343) hb); have n7_ := bs_ (be_ HB) hb; clear HO330; clear HO333; clear BK326; clear BK327; clear BK338; clear BK343; clear HB; have HO330 := n0_; have HO333 := n1_; have HO346 := n2_; have BK326 := n3_; have BK327 := n4_; have BK338 := n5_; have BK343 := n6_; have HB := n7_; clear n0_ n1_ n2_ n3_ n4_ n5_ n6_ n7_; (try clear hb); (try clear hb2); (try clear hk); (try clear hi); (try clear ho0); obtain ⟨Ao38, co38, eo38⟩ := Kd.R_slice HO346.out; subst eo38) | (go_at_call 30; (with_reducible refine (expr_Part.calls k _ _ y328 2 t347 _ ?side1 ?side2 A8.out).mono ?_); (case side1 => repeat (first | exact (Kd.R_reads' HO330.out).2.2 | (with_reducible refine Kd.C_alloc ?_ _) | (with_reducible refine Kd.C_drewN ?_ _) | (with_reducible refine Kd.C_drew ?_))); (case side2 => exact (Kd.R_reads' HO330.out).2.1); rintro e w39 ⟨rfl, hb⟩; have n0_ := kb_ (ku_ HO330.out) hb; have n1_ := kb_ (ku_ HO333.out) hb; have n2_ := kb_ (ku_ HO346.out) hb; have n3_ := bb_ (bu_ BK326) hb; have n4_ := bb_ (bu_ BK327) hb; have n5_ := bb_ (bu_ BK338) hb; have n6_ := bb_ (bu_ BK343) hb; have n7_ := bs_ (be_ HB) hb; clear HO330; clear HO333; clear HO346; clear BK326; clear BK327; clear BK338; clear BK343; clear HB; have HO330 := n0_; have HO333 := n1_; have HO346 := n2_; have BK326 := n3_; have BK327 := n4_; have BK338 := n5_; have BK343 := n6_; have HB := n7_; clear n0_ n1_ n2_ n3_ n4_ n5_ n6_ n7_; (try clear hb); (try clear hb2); (try clear hk); (try clear hi)) | (go_at_call 30; (with_reducible refine (expr_Part.calls k _ _ y328 1 t348 _ ?side1 ?side2 A10.out).mono ?_); (case side1 => repeat (first | exact (Kd.R_reads' HO330.out).2.2 | (with_reducible refine Kd.C_alloc ?_ _) | (with_reducible refine Kd.C_drewN ?_ _) | (with_reducible refine Kd.C_drew ?_))); (case side2 => exact (Kd.R_reads' HO330.out).2.1); rintro e w40 ⟨rfl, hb⟩; have n0_ := kb_ (ku_ HO330.out) hb; have n1_ := kb_ (ku_ HO333.out) hb; have n2_ := kb_ (ku_ HO346.out) hb; have n3_ := bb_ (bu_ BK326) hb; have n4_ := bb_ (bu_ BK327) hb; have n5_ := bb_ (bu_ BK338) hb; have n6_ := bb_ (bu_ BK343) hb; have n7_ := bs_ (be_ HB) hb; clear HO330; clear HO333; clear HO346; clear BK326; clear BK327; clear BK338; clear BK343; clear HB; have HO330 := n0_; have HO333 := n1_; have HO346 := n2_; have BK326 := n3_; have BK327 := n4_; have BK338 := n5_; have BK343 := n6_; have HB := n7_; clear n0_ n1_ n2_ n3_ n4_ n5_ n6_ n7_; (try clear hb); (try clear hb2); (try clear hk); (try clear hi)) | (go_at_call 28; (refine (expr_Check.calls k _ _ ([] : List (S52)) t349 _ ?side1 ?side2 A12.out).mono ?_); (case side1 => exact Kd.C_nil _ _); (case side2 => exact Nat.le_refl _); rintro e w41 ⟨rfl, hb⟩; have n0_ := kb_ (ku_ HO330.out) hb; have n1_ := kb_ (ku_ HO333.out) hb; have n2_ := kb_ (ku_ HO346.out) hb; have n3_ := bb_ (bu_ BK326) hb; have n4_ := bb_ (bu_ BK327) hb; have n5_ := bb_ (bu_ BK338) hb; have n6_ := bb_ (bu_ BK343) hb; have n7_ := bs_ (be_ HB) hb; clear HO330; clear HO333; clear HO346; clear BK326; clear BK327; clear BK338; clear BK343; clear HB; have HO330 := n0_; have HO333 := n1_; have HO346 := n2_; have BK326 := n3_; have BK327 := n4_; have BK338 := n5_; have BK343 := n6_; have HB := n7_; clear n0_ n1_ n2_ n3_ n4_ n5_ n6_ n7_; (try clear hb); (try clear hb2); (try clear hk); (try clear hi)))
              go_ret
              exact ⟨by first | rfl | (simp [errW_none, errW_some] <;> rfl) | (simp [*, errW_none, errW_some] <;> rfl), by repeat (first | (with_reducible first | exact HB.out | apply below_alloc | apply pw_below_drewN | apply below_drew1 | refine below_set ?_ GE326.out | refine below_set ?_ GE327.out | refine below_set ?_ GE338.out | refine below_set ?_ GE343.out) | exact HB.out)⟩
            · rw [if_neg c11] at H
              obtain ⟨c11b0, c11b1⟩ := neB_ c11
              exact absurd ((Option.some.inj H).trans HR_.out) (by decide)
          · rw [if_neg c9] at H
            obtain ⟨c9b0, c9b1⟩ := neB_ c9
            exact absurd ((Option.some.inj H).trans HR_.out) (by decide)
        · rw [if_neg c7] at H
          obtain ⟨c7b0, c7b1⟩ := neB_ c7
          exact absurd ((Option.some.inj H).trans HR_.out) (by decide)
      · rw [if_neg c5] at H
        obtain ⟨c5b0, c5b1⟩ := neB_ c5
        exact absurd ((Option.some.inj H).trans HR_.out) (by decide)
    · rw [if_neg c4] at H
      obtain ⟨c4b0, c4b1⟩ := neB_ c4
      exact absurd ((Option.some.inj H).trans HR_.out) (by decide)
  · rw [if_neg c3] at H
    obtain ⟨c3b0, c3b1⟩ := neB_ c3
    exact absurd ((Option.some.inj H).trans HR_.out) (by decide)
end Go.Proofs.Ytconpnagoijacaa.P
end
section
namespace Go.Proofs.Ytconpnagoijacaa.P
open Go.RowKit Go.Proofs.YtconpnagoijacaaW.PrintWords Go.Proofs.YtconpnagoijacaaW.PrintLast Go.Proofs.YtconpnagoijacaaW.PrintMore
attribute [local go_sem] max2_int min2_int max_two min_two max_three min_three max_four min_four
set_option linter.unusedVariables false
set_option linter.unusedSimpArgs false
mutual
def constablelaw07_ExprParting.j0 : Nat → List (S52) → Bool → Option (Bool)
  | 0, _, _ => none
  | k + 1, x0, x12 => if x12 = true then (some true) else (constablelaw07_ExprParting.l0 k x0 0)
def constablelaw07_ExprParting.l0 : Nat → List (S52) → Int → Option (Bool)
  | 0, _, _ => none
  | k + 1, x0, x3 => if x3 < (x0.length : Int) then ((expr_Part.f k x0 x3).bind fun t493 => (if t493 < 0 then (constablelaw07_ExprParting.j2 k x0 x3 t493 true) else (if t493 > x3 then (constablelaw07_ExprParting.j2 k x0 x3 t493 true) else (if 0 ≤ x3 then (if ((t493 == x3) != (decide (((rd_T52 x0 x3).f0) < 3))) = true then (constablelaw07_ExprParting.j2 k x0 x3 t493 true) else (if 0 ≤ t493 then (if t493 ≤ (wrap64 (x3 + 1)) then (if (wrap64 (x3 + 1)) ≤ (x0.length : Int) then ((expr_Check.f k ((x0.take ((wrap64 (x3 + 1)) : Int).toNat).drop (t493 : Int).toNat)).bind fun t499 => (constablelaw07_ExprParting.j2 k x0 x3 t493 (t499 != 0))) else (none)) else (none)) else (none))) else (none))))) else ((expr_Part.f k x0 (-1)).bind fun t490 => (if t490 = (-1) then ((expr_Part.f k x0 (x0.length : Int)).bind fun t491 => (if t491 = (-1) then ((constablelaw07_wakes.f k).bind fun t492 => (some t492)) else (some false))) else (some false)))
def constablelaw07_ExprParting.j2 : Nat → List (S52) → Int → Int → Bool → Option (Bool)
  | 0, _, _, _, _ => none
  | k + 1, x0, x3, x4, x49 => if x49 = true then (some false) else (if 0 ≤ x3 then (if x3 < (x0.length : Int) then (if ((rd_T52 x0 x3).f0) ≥ 3 then ((expr_Part.f k x0 (wrap64 (x3 - 1))).bind fun t501 => (if t501 ≤ x4 then (some false) else ((expr_Part.f k x0 (wrap64 (t501 - 1))).bind fun t502 => (if t502 = x4 then (constablelaw07_ExprParting.l0 k x0 (wrap64 (x3 + 1))) else (some false))))) else (constablelaw07_ExprParting.l0 k x0 (wrap64 (x3 + 1)))) else (none)) else (none))
end
def constablelaw07_ExprParting.f (k : Nat) (l0 : List (S52)) : Option (Bool) := (constablelaw07_Heavy.f k l0).bind fun t488 => (if t488 = true then (constablelaw07_ExprParting.j0 k l0 true) else ((constableref01_Expr.f k l0).bind fun t489 => (constablelaw07_ExprParting.j0 k l0 (!t489))))
theorem constablelaw07_ExprParting.mono_l : ∀ k, (∀ y0 y1, LeO (constablelaw07_ExprParting.j0 k y0 y1) (constablelaw07_ExprParting.j0 (k + 1) y0 y1)) ∧ (∀ y0 y1, LeO (constablelaw07_ExprParting.l0 k y0 y1) (constablelaw07_ExprParting.l0 (k + 1) y0 y1)) ∧ (∀ y0 y1 y2 y3, LeO (constablelaw07_ExprParting.j2 k y0 y1 y2 y3) (constablelaw07_ExprParting.j2 (k + 1) y0 y1 y2 y3))
  | 0 => ⟨fun _ _ r h => by simp [constablelaw07_ExprParting.j0] at h, fun _ _ r h => by simp [constablelaw07_ExprParting.l0] at h, fun _ _ _ _ r h => by simp [constablelaw07_ExprParting.j2] at h⟩
  | k + 1 => by
    obtain ⟨ih0, ih1, ih2⟩ := constablelaw07_ExprParting.mono_l k
    refine ⟨?_, ?_, ?_⟩
    · intro y0 y1
      unfold constablelaw07_ExprParting.j0
      repeat' first
      | (with_reducible exact ih0 _ _)
      | (with_reducible exact ih1 _ _)
      | (with_reducible exact ih2 _ _ _ _)
      | (with_reducible exact constablelaw07_Heavy.mono _ _)
      | (with_reducible exact constablelaw07_wakes.mono _)
      | (with_reducible exact constableref01_Expr.mono _ _)
      | (with_reducible exact expr_Check.mono _ _)
      | (with_reducible exact expr_Part.mono _ _ _)
      | (with_reducible exact LeO.refl _)
      | (with_reducible exact LeO.none _)
      | (with_reducible refine LeO.ite ?_ ?_)
      | (with_reducible refine LeO.bind ?_ (fun _ => ?_))
      | exact ih0 _ _
      | exact ih1 _ _
      | exact ih2 _ _ _ _
      | exact constablelaw07_Heavy.mono _ _
      | exact constablelaw07_wakes.mono _
      | exact constableref01_Expr.mono _ _
      | exact expr_Check.mono _ _
      | exact expr_Part.mono _ _ _
      | exact LeO.none _
      | refine LeO.ite ?_ ?_
      | refine LeO.bind ?_ (fun _ => ?_)
    · intro y0 y1
      unfold constablelaw07_ExprParting.l0
      repeat' first
      | (with_reducible exact ih0 _ _)
      | (with_reducible exact ih1 _ _)
      | (with_reducible exact ih2 _ _ _ _)
      | (with_reducible exact constablelaw07_Heavy.mono _ _)
      | (with_reducible exact constablelaw07_wakes.mono _)
      | (with_reducible exact constableref01_Expr.mono _ _)
      | (with_reducible exact expr_Check.mono _ _)
      | (with_reducible exact expr_Part.mono _ _ _)
      | (with_reducible exact LeO.refl _)
      | (with_reducible exact LeO.none _)
      | (with_reducible refine LeO.ite ?_ ?_)
      | (with_reducible refine LeO.bind ?_ (fun _ => ?_))
      | exact ih0 _ _
      | exact ih1 _ _
      | exact ih2 _ _ _ _
      | exact constablelaw07_Heavy.mono _ _
      | exact constablelaw07_wakes.mono _
      | exact constableref01_Expr.mono _ _
      | exact expr_Check.mono _ _
      | exact expr_Part.mono _ _ _
      | exact LeO.none _
      | refine LeO.ite ?_ ?_
      | refine LeO.bind ?_ (fun _ => ?_)
    · intro y0 y1 y2 y3
      unfold constablelaw07_ExprParting.j2
      repeat' first
      | (with_reducible exact ih0 _ _)
      | (with_reducible exact ih1 _ _)
      | (with_reducible exact ih2 _ _ _ _)
      | (with_reducible exact constablelaw07_Heavy.mono _ _)
      | (with_reducible exact constablelaw07_wakes.mono _)
      | (with_reducible exact constableref01_Expr.mono _ _)
      | (with_reducible exact expr_Check.mono _ _)
      | (with_reducible exact expr_Part.mono _ _ _)
      | (with_reducible exact LeO.refl _)
      | (with_reducible exact LeO.none _)
      | (with_reducible refine LeO.ite ?_ ?_)
      | (with_reducible refine LeO.bind ?_ (fun _ => ?_))
      | exact ih0 _ _
      | exact ih1 _ _
      | exact ih2 _ _ _ _
      | exact constablelaw07_Heavy.mono _ _
      | exact constablelaw07_wakes.mono _
      | exact constableref01_Expr.mono _ _
      | exact expr_Check.mono _ _
      | exact expr_Part.mono _ _ _
      | exact LeO.none _
      | refine LeO.ite ?_ ?_
      | refine LeO.bind ?_ (fun _ => ?_)
theorem constablelaw07_ExprParting.mono : ∀ a0 k, LeO (constablelaw07_ExprParting.f k a0) (constablelaw07_ExprParting.f (k + 1) a0) := by
  intro a0 k
  obtain ⟨ih0, ih1, ih2⟩ := constablelaw07_ExprParting.mono_l k
  unfold constablelaw07_ExprParting.f
  repeat' first
      | (with_reducible exact ih0 _ _)
      | (with_reducible exact ih1 _ _)
      | (with_reducible exact ih2 _ _ _ _)
      | (with_reducible exact constablelaw07_Heavy.mono _ _)
      | (with_reducible exact constablelaw07_wakes.mono _)
      | (with_reducible exact constableref01_Expr.mono _ _)
      | (with_reducible exact expr_Check.mono _ _)
      | (with_reducible exact expr_Part.mono _ _ _)
      | (with_reducible exact LeO.refl _)
      | (with_reducible exact LeO.none _)
      | (with_reducible refine LeO.ite ?_ ?_)
      | (with_reducible refine LeO.bind ?_ (fun _ => ?_))
      | exact ih0 _ _
      | exact ih1 _ _
      | exact ih2 _ _ _ _
      | exact constablelaw07_Heavy.mono _ _
      | exact constablelaw07_wakes.mono _
      | exact constableref01_Expr.mono _ _
      | exact expr_Check.mono _ _
      | exact expr_Part.mono _ _ _
      | exact LeO.none _
      | refine LeO.ite ?_ ?_
      | refine LeO.bind ?_ (fun _ => ?_)
set_option maxHeartbeats 8000000 in
set_option maxRecDepth 100000 in
theorem constablelaw07_ExprParting.calls (k : Nat) (A0 : Option Addr) (c0 : Nat) (l0 : List (S52)) (r : Bool) (w : World) (hr0 : Kd.C k52 w A0 l0.length l0) (hc0 : l0.length ≤ c0) (h : constablelaw07_ExprParting.f k l0 = some r) (hr_ : r = true) :
    Calls Try.prog 10 #[.slice A0 l0.length c0] w fun e w' => e = .returned (.bool r) ∧ Below w.heap.size w w' := by
  have HR0 := Aside0.mk hr0
  have HC0 := Aside0.mk hc0
  clear hr0 hc0
  have HB := Aside0.mk (Below.refl w.heap.size w)
  have H : ((constablelaw07_Heavy.f k l0).bind fun t488 => (if t488 = true then (constablelaw07_ExprParting.j0 k l0 true) else ((constableref01_Expr.f k l0).bind fun t489 => (constablelaw07_ExprParting.j0 k l0 (!t489))))) = some r := h
  clear h
  have HR_ := Aside0.mk hr_
  clear hr_
  have HC2 := Aside0.mk H
  clear H
  go_enter Try.func10, Try.ntmps10
  go_upto_region 1 with (fail)
  go_cut [12] (fun v12 wc => ∃ (kq : Nat) (x12_1 : Bool), v12 = .bool x12_1 ∧ Aside0 (constablelaw07_ExprParting.j0 kq l0 x12_1 = some r) ∧ Aside0 (kq ≤ k) ∧ Aside0 (Below w.heap.size w wc))
  case first =>
    have H := HC2.out
    clear HC2
    replace H := Option.bind_eq_some_iff.mp H
    obtain ⟨t488, A30, H⟩ := H
    replace H : (if t488 = true then (constablelaw07_ExprParting.j0 k l0 true) else ((constableref01_Expr.f k l0).bind fun t489 => (constablelaw07_ExprParting.j0 k l0 (!t489)))) = some r := H
    have A3 := Aside0.mk A30
    clear A30
    by_cases c4 : t488 = true
    · subst c4
      have H1 : (constablelaw07_ExprParting.j0 k l0 true) = some r := by rw [if_pos rfl] at H; exact H
      clear H
      have H := H1
      clear H1
      have H' := Aside0.mk H
      clear H
      go_wp2_with (first | ((with_reducible refine gate_callee (f := 17) rfl ?_); refine goesL_ (some 7) rfl rfl Try.func17 (by kernel_rfl) rfl #[.slice A0 l0.length c0] rfl ga_ ?_; (with_reducible refine (constablelaw07_Heavy.calls k _ _ l0 true _ ?side1 ?side2 A3.out).mono ?_); (case side1 => repeat (first | exact (Kd.C_below HR0.out HB.out) | (with_reducible refine Kd.C_alloc ?_ _) | (with_reducible refine Kd.C_drewN ?_ _) | (with_reducible refine Kd.C_drew ?_))); (case side2 => exact HC0.out); rintro e w' ⟨rfl, ⟨nd, rfl⟩⟩; refine ⟨_, rfl, ?_⟩))
      go_meet
      case rel => exact ⟨_, (true), ra_, H', ⟨by first | omega | exact Nat.le_refl _⟩, ⟨by repeat (first | (with_reducible first | exact HB.out | apply below_alloc | apply pw_below_drewN | apply below_drew1) | exact HB.out)⟩⟩
    · replace c4 := Bool.eq_false_iff.mpr c4
      subst c4
      have H1 : ((constableref01_Expr.f k l0).bind fun t489 => (constablelaw07_ExprParting.j0 k l0 (!t489))) = some r := by rw [if_neg (show ¬ (false = true) by decide)] at H; exact H
      clear H
      have H := H1
      clear H1
      replace H := Option.bind_eq_some_iff.mp H
      obtain ⟨t489, A50, H⟩ := H
      replace H : (constablelaw07_ExprParting.j0 k l0 (!t489)) = some r := H
      have A5 := Aside0.mk A50
      clear A50
      have H' := Aside0.mk H
      clear H
      go_wp2_with (first | ((with_reducible refine gate_callee (f := 17) rfl ?_); refine goesL_ (some 7) rfl rfl Try.func17 (by kernel_rfl) rfl #[.slice A0 l0.length c0] rfl ga_ ?_; (with_reducible refine (constablelaw07_Heavy.calls k _ _ l0 false _ ?side1 ?side2 A3.out).mono ?_); (case side1 => repeat (first | exact (Kd.C_below HR0.out HB.out) | (with_reducible refine Kd.C_alloc ?_ _) | (with_reducible refine Kd.C_drewN ?_ _) | (with_reducible refine Kd.C_drew ?_))); (case side2 => exact HC0.out); rintro e w' ⟨rfl, ⟨nd, rfl⟩⟩; refine ⟨_, rfl, ?_⟩) | (go_at_call 27; (with_reducible refine (constableref01_Expr.calls k _ _ l0 t489 _ ?side1 ?side2 A5.out).mono ?_); (case side1 => repeat (first | exact (Kd.C_below HR0.out (be_ HB)) | (with_reducible refine Kd.C_alloc ?_ _) | (with_reducible refine Kd.C_drewN ?_ _) | (with_reducible refine Kd.C_drew ?_))); (case side2 => exact HC0.out); rintro e w6 ⟨rfl, hb⟩; have n0_ := bs_ (be_ HB) hb; clear HB; have HB := n0_; clear n0_; (try clear hb); (try clear hb2); (try clear hk); (try clear hi)))
      go_meet
      case rel => exact ⟨_, (!t489), ra_, H', ⟨by first | omega | exact Nat.le_refl _⟩, ⟨by repeat (first | (with_reducible first | exact HB.out | apply below_alloc | apply pw_below_drewN | apply below_drew1) | exact HB.out)⟩⟩
  case rest =>
    clear HC2
    try clear c1
    try clear p2
    try clear c4
    obtain ⟨kq, x12_1, rfl, HA, HJ1, HB⟩ := hcut
    cases kq with
    | zero => exact absurd HA.out (by simp [constablelaw07_ExprParting.j0])
    | succ kj1 =>
      have H := HA.out
      clear HA
      simp only [constablelaw07_ExprParting.j0] at H
      by_cases c7 : x12_1 = true
      · subst c7
        have H1 : (some true) = some r := by rw [if_pos rfl] at H; exact H
        clear H
        have H := H1
        clear H1
        obtain rfl := Option.some.inj H
        go_wp2
        go_ret
        exact ⟨by first | rfl | (simp [errW_none, errW_some] <;> rfl) | (simp [*, errW_none, errW_some] <;> rfl), by repeat (first | (with_reducible first | exact HB.out | apply below_alloc | apply pw_below_drewN | apply below_drew1) | exact HB.out)⟩
      · replace c7 := Bool.eq_false_iff.mpr c7
        subst c7
        have H1 : (constablelaw07_ExprParting.l0 kj1 l0 0) = some r := by rw [if_neg (show ¬ (false = true) by decide)] at H; exact H
        clear H
        have H := H1
        clear H1
        have H' := Aside0.mk H
        clear H
        go_wp2
        go_loopg [3] kj1 (fun kq v3 w' => ∃ (x3_2 : Int), v3 = .int .i64 x3_2 ∧ Aside0 (constablelaw07_ExprParting.l0 kq l0 x3_2 = some r) ∧ Aside0 (kq ≤ kj1) ∧ Aside0 (Below w.heap.size w w'))
        case atStart => exact ⟨(0), ra_, H', ⟨Nat.le_refl _⟩, ⟨by repeat (first | (with_reducible first | exact HB.out | apply below_alloc | apply pw_below_drewN | apply below_drew1) | exact HB.out)⟩⟩
        case round =>
          clear H'
          try clear c1
          try clear p2
          try clear c4
          try clear c7
          try clear p2
          obtain ⟨x3_2, rfl, HA, HK2, HB⟩ := hrel
          cases gk with
          | zero => exact absurd HA.out (by simp [constablelaw07_ExprParting.l0])
          | succ k2 =>
            have H := HA.out
            clear HA
            simp only [constablelaw07_ExprParting.l0] at H
            by_cases c8 : x3_2 < (l0.length : Int)
            · rw [if_pos c8] at H
              have c8b0 : decide (x3_2 < (l0.length : Int)) = true := decide_eq_true c8
              clear c8
              replace H := Option.bind_eq_some_iff.mp H
              obtain ⟨t493, A90, H⟩ := H
              replace H : (if t493 < 0 then (constablelaw07_ExprParting.j2 k2 l0 x3_2 t493 true) else (if t493 > x3_2 then (constablelaw07_ExprParting.j2 k2 l0 x3_2 t493 true) else (if 0 ≤ x3_2 then (if ((t493 == x3_2) != (decide (((rd_T52 l0 x3_2).f0) < 3))) = true then (constablelaw07_ExprParting.j2 k2 l0 x3_2 t493 true) else (if 0 ≤ t493 then (if t493 ≤ (wrap64 (x3_2 + 1)) then (if (wrap64 (x3_2 + 1)) ≤ (l0.length : Int) then ((expr_Check.f k2 ((l0.take ((wrap64 (x3_2 + 1)) : Int).toNat).drop (t493 : Int).toNat)).bind fun t499 => (constablelaw07_ExprParting.j2 k2 l0 x3_2 t493 (t499 != 0))) else (none)) else (none)) else (none))) else (none)))) = some r := H
              have A9 := Aside0.mk A90
              clear A90
              have HC10 := Aside0.mk H
              clear H
              go_upto_region 7 with (first | ((with_reducible refine gate_callee (f := 30) rfl ?_); refine goesL_ (some 21) rfl rfl Try.func30 (by kernel_rfl) rfl #[.slice A0 l0.length c0, .int .i64 x3_2] rfl ga_ ?_; (with_reducible refine (expr_Part.calls k2 _ _ l0 x3_2 t493 _ ?side1 ?side2 A9.out).mono ?_); (case side1 => repeat (first | exact (Kd.C_below HR0.out HB.out) | (with_reducible refine Kd.C_alloc ?_ _) | (with_reducible refine Kd.C_drewN ?_ _) | (with_reducible refine Kd.C_drew ?_))); (case side2 => exact HC0.out); rintro e w11 ⟨rfl, hb⟩; refine ⟨_, rfl, ?_⟩; have n0_ := bs_ (be_ HB) hb; clear HB; have HB := n0_; clear n0_; (try clear hb); (try clear hb2); (try clear hk); (try clear hi)))
              (try simp only [Act.put, List.setIfInBounds_toArray, List.set_cons_zero, List.set_cons_succ])
              go_cut [49] (fun v49 wc => ∃ (kq : Nat) (x49_9 : Bool), v49 = .bool x49_9 ∧ Aside0 (constablelaw07_ExprParting.j2 kq l0 x3_2 t493 x49_9 = some r) ∧ Aside0 (kq ≤ k2) ∧ Aside0 (Below w.heap.size w wc))
              case first =>
                have H := HC10.out
                clear HC10
                by_cases c12 : t493 < 0
                · rw [if_pos c12] at H
                  have c12b0 : decide (t493 < 0) = true := decide_eq_true c12
                  clear c12
                  (first | rw [c12b0] | (simp only [i64_w, i32_w]; rw [c12b0]) | skip)
                  have H' := Aside0.mk H
                  clear H
                  go_wp2
                  go_meet
                  case rel => exact ⟨_, (true), ra_, H', ⟨by have := HJ1.out; have := HK2.out; first | omega | exact Nat.le_refl _⟩, ⟨by repeat (first | (with_reducible first | exact HB.out | apply below_alloc | apply pw_below_drewN | apply below_drew1) | exact HB.out)⟩⟩
                · rw [if_neg c12] at H
                  have c12b0 : decide (t493 < 0) = false := decide_eq_false c12
                  clear c12
                  (first | rw [c12b0] | (simp only [i64_w, i32_w]; rw [c12b0]) | skip)
                  by_cases c13 : t493 > x3_2
                  · rw [if_pos c13] at H
                    have c13b0 : decide (x3_2 < t493) = true := decide_eq_true c13
                    clear c13
                    have H' := Aside0.mk H
                    clear H
                    go_wp2
                    go_meet
                    case rel => exact ⟨_, (true), ra_, H', ⟨by have := HJ1.out; have := HK2.out; first | omega | exact Nat.le_refl _⟩, ⟨by repeat (first | (with_reducible first | exact HB.out | apply below_alloc | apply pw_below_drewN | apply below_drew1) | exact HB.out)⟩⟩
                  · rw [if_neg c13] at H
                    have c13b0 : decide (x3_2 < t493) = false := decide_eq_false c13
                    clear c13
                    by_cases c14 : 0 ≤ x3_2
                    · rw [if_pos c14] at H
                      have c14b0 : decide (0 ≤ x3_2) = true := decide_eq_true c14
                      clear c14
                      by_cases c15 : ((t493 == x3_2) != (decide (((rd_T52 l0 x3_2).f0) < 3))) = true
                      · rw [if_pos c15] at H
                        have c15b0 : ((t493 == x3_2) != (decide (((rd_T52 l0 x3_2).f0) < 3))) = true := c15
                        (try (have c15b1 : decide ((t493 == x3_2) = (decide (((rd_T52 l0 x3_2).f0) < 3))) = false := by simpa using c15))
                        (try (have c15b2 : ((t493 == x3_2) == (decide (((rd_T52 l0 x3_2).f0) < 3))) = false := by simpa using c15))
                        (try (have c15b3 : ¬ ((t493 == x3_2) = (decide (((rd_T52 l0 x3_2).f0) < 3))) := by simpa using c15))
                        clear c15
                        have H' := Aside0.mk H
                        clear H
                        have p494 : 0 ≤ (x3_2 : Int) := dt_
                        have q494 : x3_2 < (l0.length : Int) := dt_
                        obtain ⟨ad494, e494, hx494_0, hx494_1, hx494_2, hx494_3, hx494_4⟩ := at_T52 HR0.out x3_2 p494 q494
                        cases e494
                        replace hx494_0 := cm_ HB hx494_0
                        replace hx494_1 := cm_ HB hx494_1
                        replace hx494_2 := cm_ HB hx494_2
                        replace hx494_3 := cm_ HB hx494_3
                        replace hx494_4 := cm_ HB hx494_4
                        replace p494 := eq_true p494
                        replace q494 := eq_true q494
                        go_wp2
                        go_meet
                        case rel => exact ⟨_, (true), ra_, H', ⟨by have := HJ1.out; have := HK2.out; first | omega | exact Nat.le_refl _⟩, ⟨by repeat (first | (with_reducible first | exact HB.out | apply below_alloc | apply pw_below_drewN | apply below_drew1) | exact HB.out)⟩⟩
                      · rw [if_neg c15] at H
                        have c15b0 : ((t493 == x3_2) != (decide (((rd_T52 l0 x3_2).f0) < 3))) = false := by simpa using c15
                        (try (have c15b1 : decide ((t493 == x3_2) = (decide (((rd_T52 l0 x3_2).f0) < 3))) = true := by simpa using c15))
                        (try (have c15b2 : ((t493 == x3_2) == (decide (((rd_T52 l0 x3_2).f0) < 3))) = true := by simpa using c15))
                        clear c15
                        by_cases c16 : 0 ≤ t493
                        · rw [if_pos c16] at H
                          have c16b0 := eq_true c16
                          have c16b1 : decide (0 ≤ t493) = true := decide_eq_true c16
                          clear c16
                          by_cases c17 : t493 ≤ (wrap64 (x3_2 + 1))
                          · rw [if_pos c17] at H
                            have c17b0 := eq_true c17
                            have c17b1 : decide (t493 ≤ (wrap64 (x3_2 + 1))) = true := decide_eq_true c17
                            by_cases c18 : (wrap64 (x3_2 + 1)) ≤ (l0.length : Int)
                            · rw [if_pos c18] at H
                              have c18b0 := eq_true c18
                              have c18b1 : decide ((wrap64 (x3_2 + 1)) ≤ (l0.length : Int)) = true := decide_eq_true c18
                              obtain ⟨y495, hy495⟩ : ∃ y_ : List (S52), y_ = ((l0.take ((wrap64 (x3_2 + 1)) : Int).toNat).drop (t493 : Int).toNat) := ⟨_, rfl⟩
                              replace H : ((expr_Check.f k2 y495).bind fun t499 => (constablelaw07_ExprParting.j2 k2 l0 x3_2 t493 (t499 != 0))) = some r := by first | (rw [hy495]; with_reducible exact H) | (have H2_ := (Option.bind_some _ _).symm.trans H; rw [hy495]; with_reducible exact H2_) | (have H2_ := (Option.bind_some _ _).symm.trans H; with_reducible exact H2_) | with_reducible exact H | (rw [hy495]; exact H) | exact H
                              have Ny495 := Aside0.mk hy495
                              clear hy495
                              replace H := Option.bind_eq_some_iff.mp H
                              obtain ⟨t499, A190, H⟩ := H
                              replace H : (constablelaw07_ExprParting.j2 k2 l0 x3_2 t493 (t499 != 0)) = some r := H
                              have A19 := Aside0.mk A190
                              clear A190
                              have H' := Aside0.mk H
                              clear H
                              have p494 : 0 ≤ (x3_2 : Int) := dt_
                              have q494 : x3_2 < (l0.length : Int) := dt_
                              obtain ⟨ad494, e494, hx494_0, hx494_1, hx494_2, hx494_3, hx494_4⟩ := at_T52 HR0.out x3_2 p494 q494
                              cases e494
                              replace hx494_0 := cm_ HB hx494_0
                              replace hx494_1 := cm_ HB hx494_1
                              replace hx494_2 := cm_ HB hx494_2
                              replace hx494_3 := cm_ HB hx494_3
                              replace hx494_4 := cm_ HB hx494_4
                              replace p494 := eq_true p494
                              replace q494 := eq_true q494
                              have q20 : ((wrap64 (x3_2 + 1)) : Int) ≤ ((l0.length : Int) : Int) := dt_
                              obtain ⟨i020, hi020, _, hsz20, _⟩ := info_parts info52
                              have hroom20 : l0.length ≤ c0 := HC0.out
                              have hC20 : Kd.C k52 _ (some ad494) l0.length l0 := HR0.out
                              have ql20 : (t493 : Int) ≤ ((wrap64 (x3_2 + 1)) : Int) := dt_
                              have q020 : (0 : Int) ≤ (t493 : Int) := dt_
                              have hcut20 := cut_mid (P := Try.prog) 33 52 .i64 .i64 Try.underlying33 hi020 5 hsz20 (some ad494) l0.length c0 t493 (wrap64 (x3_2 + 1)) q020 ql20 q20 hroom20
                              have hr20 := Kd.C_mid (lo := (t493 : Int).toNat) (hi := ((wrap64 (x3_2 + 1)) : Int).toNat) (c := c0) hC20 (by omega) (by omega) hroom20
                              obtain ⟨A20, hA20⟩ : ∃ A1, A1 = (if c0 = (t493 : Int).toNat then (some ad494) else ((some ad494) : Option Addr).map (·.add ((t493 : Int).toNat * 5))) := ⟨_, rfl⟩
                              obtain ⟨c20, hc20⟩ : ∃ c1, c1 = c0 - (t493 : Int).toNat := ⟨_, rfl⟩
                              have hy20 : y495.length = ((wrap64 (x3_2 + 1)) : Int).toNat - (t493 : Int).toNat := (by rw [Ny495.out, List.length_drop, List.length_take] <;> omega)
                              rw [show ((l0).take ((wrap64 (x3_2 + 1)) : Int).toNat).drop (t493 : Int).toNat = y495 from Ny495.out.symm] at hr20
                              replace hr20 : Kd.C k52 _ A20 y495.length y495 := (by rw [hA20]; exact hr20)
                              rw [← hy20, ← hA20, ← hc20] at hcut20
                              have HR498 := Aside0.mk hr20
                              have HC498 := Aside0.mk (show y495.length ≤ c20 from by rw [hy20, hc20]; exact Nat.sub_le_sub_right (Nat.le_trans (by omega) hroom20) _)
                              clear hr20 hC20 hroom20 hi020 hsz20 hc20
                              have KY20 := Aside0.mk hy20
                              have KA20 := Aside0.mk hA20
                              clear hy20 hA20
                              replace q20 := eq_true q20
                              go_wp2_with (first | (go_at_call 28; (with_reducible refine (expr_Check.calls k2 _ _ y495 t499 _ ?side1 ?side2 A19.out).mono ?_); (case side1 => repeat (first | exact (Kd.C_below HR498.out HB.out) | (with_reducible refine Kd.C_alloc ?_ _) | (with_reducible refine Kd.C_drewN ?_ _) | (with_reducible refine Kd.C_drew ?_))); (case side2 => exact HC498.out); rintro e w21 ⟨rfl, hb⟩; have n0_ := bs_ (be_ HB) hb; clear HB; have HB := n0_; clear n0_; (try clear hb); (try clear hb2); (try clear hk); (try clear hi)))
                              go_meet
                              case rel => exact ⟨_, ((t499 != 0)), ra_, H', ⟨by have := HJ1.out; have := HK2.out; first | omega | exact Nat.le_refl _⟩, ⟨by repeat (first | (with_reducible first | exact HB.out | apply below_alloc | apply pw_below_drewN | apply below_drew1) | exact HB.out)⟩⟩
                            · rw [if_neg c18] at H
                              exact absurd H (by simp)
                          · rw [if_neg c17] at H
                            exact absurd H (by simp)
                        · rw [if_neg c16] at H
                          exact absurd H (by simp)
                    · rw [if_neg c14] at H
                      exact absurd H (by simp)
              case rest =>
                clear HC10
                try clear c1
                try clear c2
                try clear p2
                try clear q2
                try clear c3
                try clear c4
                try clear p4
                try clear q4
                try clear hx4
                try clear p6
                try clear c7
                try clear c8
                try clear c8b0
                try clear c10
                try clear c12
                try clear c12b0
                try clear c13
                try clear c13b0
                try clear c14
                try clear c14b0
                try clear c15
                try clear c15b0
                try clear c15b1
                try clear c15b2
                try clear c16
                try clear c16b0
                try clear c16b1
                try clear c17
                try clear c17b0
                try clear c17b1
                try clear c18
                try clear c18b0
                try clear c18b1
                try clear c20
                try clear q20
                try clear hx494_0
                try clear hx494_1
                try clear hx494_2
                try clear hx494_3
                try clear hx494_4
                try clear p2
                try clear p494
                try clear q020
                try clear q20
                try clear q494
                obtain ⟨kq, x49_9, rfl, HA, HJ9, HB⟩ := hcut
                cases kq with
                | zero => exact absurd HA.out (by simp [constablelaw07_ExprParting.j2])
                | succ kj9 =>
                  have H := HA.out
                  clear HA
                  simp only [constablelaw07_ExprParting.j2] at H
                  by_cases c22 : x49_9 = true
                  · subst c22
                    have H1 : (some false) = some r := by rw [if_pos rfl] at H; exact H
                    clear H
                    have H := H1
                    clear H1
                    exact absurd ((Option.some.inj H).trans HR_.out) (by decide)
                  · replace c22 := Bool.eq_false_iff.mpr c22
                    subst c22
                    have H1 : (if 0 ≤ x3_2 then (if x3_2 < (l0.length : Int) then (if ((rd_T52 l0 x3_2).f0) ≥ 3 then ((expr_Part.f kj9 l0 (wrap64 (x3_2 - 1))).bind fun t501 => (if t501 ≤ t493 then (some false) else ((expr_Part.f kj9 l0 (wrap64 (t501 - 1))).bind fun t502 => (if t502 = t493 then (constablelaw07_ExprParting.l0 kj9 l0 (wrap64 (x3_2 + 1))) else (some false))))) else (constablelaw07_ExprParting.l0 kj9 l0 (wrap64 (x3_2 + 1)))) else (none)) else (none)) = some r := by rw [if_neg (show ¬ (false = true) by decide)] at H; exact H
                    clear H
                    have H := H1
                    clear H1
                    by_cases c23 : 0 ≤ x3_2
                    · rw [if_pos c23] at H
                      have c23b0 : decide (0 ≤ x3_2) = true := decide_eq_true c23
                      clear c23
                      by_cases c24 : x3_2 < (l0.length : Int)
                      · rw [if_pos c24] at H
                        have c24b0 : decide (x3_2 < (l0.length : Int)) = true := decide_eq_true c24
                        clear c24
                        by_cases c25 : ((rd_T52 l0 x3_2).f0) ≥ 3
                        · rw [if_pos c25] at H
                          have c25b0 : decide (3 ≤ ((rd_T52 l0 x3_2).f0)) = true := decide_eq_true c25
                          clear c25
                          replace H := Option.bind_eq_some_iff.mp H
                          obtain ⟨t501, A260, H⟩ := H
                          replace H : (if t501 ≤ t493 then (some false) else ((expr_Part.f kj9 l0 (wrap64 (t501 - 1))).bind fun t502 => (if t502 = t493 then (constablelaw07_ExprParting.l0 kj9 l0 (wrap64 (x3_2 + 1))) else (some false)))) = some r := H
                          have A26 := Aside0.mk A260
                          clear A260
                          by_cases c27 : t501 ≤ t493
                          · rw [if_pos c27] at H
                            have c27b0 : decide (t501 ≤ t493) = true := decide_eq_true c27
                            clear c27
                            exact absurd ((Option.some.inj H).trans HR_.out) (by decide)
                          · rw [if_neg c27] at H
                            have c27b0 : decide (t501 ≤ t493) = false := decide_eq_false c27
                            clear c27
                            replace H := Option.bind_eq_some_iff.mp H
                            obtain ⟨t502, A280, H⟩ := H
                            replace H : (if t502 = t493 then (constablelaw07_ExprParting.l0 kj9 l0 (wrap64 (x3_2 + 1))) else (some false)) = some r := H
                            have A28 := Aside0.mk A280
                            clear A280
                            by_cases c29 : t502 = t493
                            · rw [if_pos c29] at H
                              obtain ⟨c29b0, c29b1⟩ := eqB_ c29
                              clear c29
                              have H' := Aside0.mk H
                              clear H
                              have p500 : 0 ≤ (x3_2 : Int) := dt_
                              have q500 : x3_2 < (l0.length : Int) := dt_
                              obtain ⟨ad500, e500, hx500_0, hx500_1, hx500_2, hx500_3, hx500_4⟩ := at_T52 HR0.out x3_2 p500 q500
                              cases e500
                              replace hx500_0 := cm_ HB hx500_0
                              replace hx500_1 := cm_ HB hx500_1
                              replace hx500_2 := cm_ HB hx500_2
                              replace hx500_3 := cm_ HB hx500_3
                              replace hx500_4 := cm_ HB hx500_4
                              replace p500 := eq_true p500
                              replace q500 := eq_true q500
                              go_wp2_with (first | ((with_reducible refine gate_callee (f := 30) rfl ?_); refine goesL_ (some 59) rfl rfl Try.func30 (by kernel_rfl) rfl #[.slice (some ad500) l0.length c0, .int .i64 (wrap64 (x3_2 - 1))] rfl ga_ ?_; (with_reducible refine (expr_Part.calls kj9 _ _ l0 (wrap64 (x3_2 - 1)) t501 _ ?side1 ?side2 A26.out).mono ?_); (case side1 => repeat (first | exact (Kd.C_below HR0.out HB.out) | (with_reducible refine Kd.C_alloc ?_ _) | (with_reducible refine Kd.C_drewN ?_ _) | (with_reducible refine Kd.C_drew ?_))); (case side2 => exact HC0.out); rintro e w30 ⟨rfl, hb⟩; refine ⟨_, rfl, ?_⟩; have n0_ := bs_ (be_ HB) hb; clear HB; have HB := n0_; clear n0_; (try clear hb); (try clear hb2); (try clear hk); (try clear hi)) | (go_at_call 30; (with_reducible refine (expr_Part.calls kj9 _ _ l0 (wrap64 (t501 - 1)) t502 _ ?side1 ?side2 A28.out).mono ?_); (case side1 => repeat (first | exact (Kd.C_below HR0.out HB.out) | (with_reducible refine Kd.C_alloc ?_ _) | (with_reducible refine Kd.C_drewN ?_ _) | (with_reducible refine Kd.C_drew ?_))); (case side2 => exact HC0.out); rintro e w31 ⟨rfl, hb⟩; have n0_ := bs_ (be_ HB) hb; clear HB; have HB := n0_; clear n0_; (try clear hb); (try clear hb2); (try clear hk); (try clear hi)))
                              go_roundg kj9
                              case measure => have := HJ1.out; have := HK2.out; have := HJ9.out; omega
                              case rel => exact ⟨(wrap64 (x3_2 + 1)), ra_, H', ⟨by have := HJ1.out; have := HK2.out; have := HJ9.out; omega⟩, ⟨by repeat (first | (with_reducible first | exact HB.out | apply below_alloc | apply pw_below_drewN | apply below_drew1) | exact HB.out)⟩⟩
                            · rw [if_neg c29] at H
                              obtain ⟨c29b0, c29b1⟩ := neB_ c29
                              exact absurd ((Option.some.inj H).trans HR_.out) (by decide)
                        · rw [if_neg c25] at H
                          have c25b0 : decide (3 ≤ ((rd_T52 l0 x3_2).f0)) = false := decide_eq_false c25
                          clear c25
                          have H' := Aside0.mk H
                          clear H
                          have p500 : 0 ≤ (x3_2 : Int) := dt_
                          have q500 : x3_2 < (l0.length : Int) := dt_
                          obtain ⟨ad500, e500, hx500_0, hx500_1, hx500_2, hx500_3, hx500_4⟩ := at_T52 HR0.out x3_2 p500 q500
                          cases e500
                          replace hx500_0 := cm_ HB hx500_0
                          replace hx500_1 := cm_ HB hx500_1
                          replace hx500_2 := cm_ HB hx500_2
                          replace hx500_3 := cm_ HB hx500_3
                          replace hx500_4 := cm_ HB hx500_4
                          replace p500 := eq_true p500
                          replace q500 := eq_true q500
                          go_wp2
                          go_roundg kj9
                          case measure => have := HJ1.out; have := HK2.out; have := HJ9.out; omega
                          case rel => exact ⟨(wrap64 (x3_2 + 1)), ra_, H', ⟨by have := HJ1.out; have := HK2.out; have := HJ9.out; omega⟩, ⟨by repeat (first | (with_reducible first | exact HB.out | apply below_alloc | apply pw_below_drewN | apply below_drew1) | exact HB.out)⟩⟩
                      · rw [if_neg c24] at H
                        exact absurd H (by simp)
                    · rw [if_neg c23] at H
                      exact absurd H (by simp)
            · rw [if_neg c8] at H
              have c8b0 : decide (x3_2 < (l0.length : Int)) = false := decide_eq_false c8
              clear c8
              replace H := Option.bind_eq_some_iff.mp H
              obtain ⟨t490, A320, H⟩ := H
              replace H : (if t490 = (-1) then ((expr_Part.f k2 l0 (l0.length : Int)).bind fun t491 => (if t491 = (-1) then ((constablelaw07_wakes.f k2).bind fun t492 => (some t492)) else (some false))) else (some false)) = some r := H
              have A32 := Aside0.mk A320
              clear A320
              by_cases c33 : t490 = (-1)
              · rw [if_pos c33] at H
                obtain ⟨c33b0, c33b1⟩ := eqB_ c33
                clear c33
                replace H := Option.bind_eq_some_iff.mp H
                obtain ⟨t491, A340, H⟩ := H
                replace H : (if t491 = (-1) then ((constablelaw07_wakes.f k2).bind fun t492 => (some t492)) else (some false)) = some r := H
                have A34 := Aside0.mk A340
                clear A340
                by_cases c35 : t491 = (-1)
                · rw [if_pos c35] at H
                  obtain ⟨c35b0, c35b1⟩ := eqB_ c35
                  clear c35
                  replace H := Option.bind_eq_some_iff.mp H
                  obtain ⟨t492, A360, H⟩ := H
                  replace H : (some t492) = some r := H
                  have A36 := Aside0.mk A360
                  clear A360
                  obtain rfl := Option.some.inj H
                  go_wp2_with (first | ((with_reducible refine gate_callee (f := 30) rfl ?_); refine goesL_ (some 72) rfl rfl Try.func30 (by kernel_rfl) rfl #[.slice A0 l0.length c0, .int .i64 (-1)] rfl ga_ ?_; (with_reducible refine (expr_Part.calls k2 _ _ l0 (-1) t490 _ ?side1 ?side2 A32.out).mono ?_); (case side1 => repeat (first | exact (Kd.C_below HR0.out HB.out) | (with_reducible refine Kd.C_alloc ?_ _) | (with_reducible refine Kd.C_drewN ?_ _) | (with_reducible refine Kd.C_drew ?_))); (case side2 => exact HC0.out); rintro e w37 ⟨rfl, hb⟩; refine ⟨_, rfl, ?_⟩; have n0_ := bs_ (be_ HB) hb; clear HB; have HB := n0_; clear n0_; (try clear hb); (try clear hb2); (try clear hk); (try clear hi)) | (go_at_call 30; (with_reducible refine (expr_Part.calls k2 _ _ l0 (l0.length : Int) t491 _ ?side1 ?side2 A34.out).mono ?_); (case side1 => repeat (first | exact (Kd.C_below HR0.out HB.out) | (with_reducible refine Kd.C_alloc ?_ _) | (with_reducible refine Kd.C_drewN ?_ _) | (with_reducible refine Kd.C_drew ?_))); (case side2 => exact HC0.out); rintro e w38 ⟨rfl, hb⟩; have n0_ := bs_ (be_ HB) hb; clear HB; have HB := n0_; clear n0_; (try clear hb); (try clear hb2); (try clear hk); (try clear hi)) | (go_at_call 32; (with_reducible refine (constablelaw07_wakes.calls k2  t492 _ A36.out HR_.out).mono ?_); rintro e w39 ⟨rfl, hb⟩; have n0_ := bs_ (be_ HB) hb; clear HB; have HB := n0_; clear n0_; (try clear hb); (try clear hb2); (try clear hk); (try clear hi)))
                  go_ret
                  exact ⟨by first | rfl | (simp [errW_none, errW_some] <;> rfl) | (simp [*, errW_none, errW_some] <;> rfl), by repeat (first | (with_reducible first | exact HB.out | apply below_alloc | apply pw_below_drewN | apply below_drew1) | exact HB.out)⟩
                · rw [if_neg c35] at H
                  obtain ⟨c35b0, c35b1⟩ := neB_ c35
                  exact absurd ((Option.some.inj H).trans HR_.out) (by decide)
              · rw [if_neg c33] at H
                obtain ⟨c33b0, c33b1⟩ := neB_ c33
                exact absurd ((Option.some.inj H).trans HR_.out) (by decide)
end Go.Proofs.Ytconpnagoijacaa.P
end
section
namespace Go.Proofs.Ytconpnagoijacaa.P
open Go.RowKit Go.Proofs.YtconpnagoijacaaW.PrintWords Go.Proofs.YtconpnagoijacaaW.PrintLast Go.Proofs.YtconpnagoijacaaW.PrintMore
attribute [local go_sem] max2_int min2_int max_two min_two max_three min_three max_four min_four
set_option linter.unusedVariables false
set_option linter.unusedSimpArgs false
def constableref01_order.f (a0 : Int) (a1 : Int) : Option (Int) := if a0 < a1 then (some (-1)) else (if a0 > a1 then (some 1) else (some 0))
set_option maxHeartbeats 8000000 in
set_option maxRecDepth 100000 in
theorem constableref01_order.calls (a0 : Int) (a1 : Int) (r : Int) (w : World) (h : constableref01_order.f a0 a1 = some r) :
    Calls Try.prog 59 #[.int .i64 a0, .int .i64 a1] w fun e w' => e = .returned (.int .i64 r) ∧ Drawn0 w w' := by
  have H : (if a0 < a1 then (some (-1)) else (if a0 > a1 then (some 1) else (some 0))) = some r := h
  clear h
  by_cases c3 : a0 < a1
  · rw [if_pos c3] at H
    have c3b0 : decide (a0 < a1) = true := decide_eq_true c3
    clear c3
    obtain rfl := Option.some.inj H
    go_enter Try.func59, Try.ntmps59
    go_wp2
    go_ret
    exact rz_
  · rw [if_neg c3] at H
    have c3b0 : decide (a0 < a1) = false := decide_eq_false c3
    clear c3
    by_cases c4 : a0 > a1
    · rw [if_pos c4] at H
      have c4b0 : decide (a1 < a0) = true := decide_eq_true c4
      clear c4
      obtain rfl := Option.some.inj H
      go_enter Try.func59, Try.ntmps59
      go_wp2
      go_ret
      exact rz_
    · rw [if_neg c4] at H
      have c4b0 : decide (a1 < a0) = false := decide_eq_false c4
      clear c4
      obtain rfl := Option.some.inj H
      go_enter Try.func59, Try.ntmps59
      go_wp2
      go_ret
      exact rz_
end Go.Proofs.Ytconpnagoijacaa.P
end
section
namespace Go.Proofs.Ytconpnagoijacaa.P
open Go.RowKit Go.Proofs.YtconpnagoijacaaW.PrintWords Go.Proofs.YtconpnagoijacaaW.PrintLast Go.Proofs.YtconpnagoijacaaW.PrintMore
attribute [local go_sem] max2_int min2_int max_two min_two max_three min_three max_four min_four
set_option linter.unusedVariables false
set_option linter.unusedSimpArgs false
mutual
def constableref01_Strings.l0 : Nat → ByteArray → ByteArray → Int → Option (Int)
  | 0, _, _, _ => none
  | k + 1, x0, x1, x5 => if x5 < (x0.size : Int) then (constableref01_Strings.j1 k x0 x1 x5 (decide (x5 < (x1.size : Int)))) else (constableref01_Strings.j1 k x0 x1 x5 false)
def constableref01_Strings.j1 : Nat → ByteArray → ByteArray → Int → Bool → Option (Int)
  | 0, _, _, _, _ => none
  | k + 1, x0, x1, x5, x15 => if x15 = true then (if 0 ≤ x5 then (if x5 < (x0.size : Int) then (if x5 < (x1.size : Int) then (if (bt x0 x5) = (bt x1 x5) then (constableref01_Strings.l0 k x0 x1 (wrap64 (x5 + 1))) else ((constableref01_order.f (wrap64 (bt x0 x5)) (wrap64 (bt x1 x5))).bind fun t317 => (some t317))) else (none)) else (none)) else (none)) else ((constableref01_order.f (x0.size : Int) (x1.size : Int)).bind fun t318 => (some t318))
end
def constableref01_Strings.f (k : Nat) (a0 : ByteArray) (a1 : ByteArray) : Option (Int) := constableref01_Strings.l0 k a0 a1 0
theorem constableref01_Strings.mono_l : ∀ k, (∀ y0 y1 y2, LeO (constableref01_Strings.l0 k y0 y1 y2) (constableref01_Strings.l0 (k + 1) y0 y1 y2)) ∧ (∀ y0 y1 y2 y3, LeO (constableref01_Strings.j1 k y0 y1 y2 y3) (constableref01_Strings.j1 (k + 1) y0 y1 y2 y3))
  | 0 => ⟨fun _ _ _ r h => by simp [constableref01_Strings.l0] at h, fun _ _ _ _ r h => by simp [constableref01_Strings.j1] at h⟩
  | k + 1 => by
    obtain ⟨ih0, ih1⟩ := constableref01_Strings.mono_l k
    refine ⟨?_, ?_⟩
    · intro y0 y1 y2
      unfold constableref01_Strings.l0
      repeat' first
      | (with_reducible exact ih0 _ _ _)
      | (with_reducible exact ih1 _ _ _ _)
      | (with_reducible exact LeO.refl _)
      | (with_reducible exact LeO.none _)
      | (with_reducible refine LeO.ite ?_ ?_)
      | (with_reducible refine LeO.bind ?_ (fun _ => ?_))
      | exact ih0 _ _ _
      | exact ih1 _ _ _ _
      | exact LeO.none _
      | refine LeO.ite ?_ ?_
      | refine LeO.bind ?_ (fun _ => ?_)
    · intro y0 y1 y2 y3
      unfold constableref01_Strings.j1
      repeat' first
      | (with_reducible exact ih0 _ _ _)
      | (with_reducible exact ih1 _ _ _ _)
      | (with_reducible exact LeO.refl _)
      | (with_reducible exact LeO.none _)
      | (with_reducible refine LeO.ite ?_ ?_)
      | (with_reducible refine LeO.bind ?_ (fun _ => ?_))
      | exact ih0 _ _ _
      | exact ih1 _ _ _ _
      | exact LeO.none _
      | refine LeO.ite ?_ ?_
      | refine LeO.bind ?_ (fun _ => ?_)
theorem constableref01_Strings.mono : ∀ a0 a1 k, LeO (constableref01_Strings.f k a0 a1) (constableref01_Strings.f (k + 1) a0 a1) := by
  intro a0 a1 k
  obtain ⟨ih0, ih1⟩ := constableref01_Strings.mono_l k
  unfold constableref01_Strings.f
  repeat' first
      | (with_reducible exact ih0 _ _ _)
      | (with_reducible exact ih1 _ _ _ _)
      | (with_reducible exact LeO.refl _)
      | (with_reducible exact LeO.none _)
      | (with_reducible refine LeO.ite ?_ ?_)
      | (with_reducible refine LeO.bind ?_ (fun _ => ?_))
      | exact ih0 _ _ _
      | exact ih1 _ _ _ _
      | exact LeO.none _
      | refine LeO.ite ?_ ?_
      | refine LeO.bind ?_ (fun _ => ?_)
set_option maxHeartbeats 8000000 in
set_option maxRecDepth 100000 in
theorem constableref01_Strings.calls (k : Nat) (a0 : ByteArray) (a1 : ByteArray) (r : Int) (w : World) (h : constableref01_Strings.f k a0 a1 = some r) :
    Calls Try.prog 48 #[.string a0, .string a1] w fun e w' => e = .returned (.int .i64 r) ∧ Drawn0 w w' := by
  have H : (constableref01_Strings.l0 k a0 a1 0) = some r := h
  clear h
  have H' := Aside0.mk H
  clear H
  go_enter Try.func48, Try.ntmps48
  go_wp2
  repeat (go_quiet (fail); try go_wp2)
  go_loopg [5] k (fun kq v5 w' => ∃ (x5_1 : Int), v5 = .int .i64 x5_1 ∧ Aside0 (constableref01_Strings.l0 kq a0 a1 x5_1 = some r) ∧ Aside0 (kq ≤ k) ∧ Drawn0 w w')
  case atStart => exact ⟨(0), ra_, H', ⟨Nat.le_refl _⟩, dz_⟩
  case round =>
    clear H'
    try clear p2
    obtain ⟨x5_1, rfl, HA, HK1, ⟨m1, rfl⟩⟩ := hrel
    cases gk with
    | zero => exact absurd HA.out (by simp [constableref01_Strings.l0])
    | succ k1 =>
      have H := HA.out
      clear HA
      simp only [constableref01_Strings.l0] at H
      have HC3 := Aside0.mk H
      clear H
      go_upto_region 2 with (fail)
      repeat (go_quiet (fail); go_upto_region 2 with (fail))
      go_cut [15] (fun v15 wc => ∃ (kq : Nat) (x15_2 : Bool), v15 = .bool x15_2 ∧ Aside0 (constableref01_Strings.j1 kq a0 a1 x5_1 x15_2 = some r) ∧ Aside0 (kq ≤ k1) ∧ Drawn0 w wc)
      case first =>
        have H := HC3.out
        clear HC3
        by_cases c4 : x5_1 < (a0.size : Int)
        · rw [if_pos c4] at H
          have c4b0 : decide (x5_1 < (a0.size : Int)) = true := decide_eq_true c4
          clear c4
          (first | rw [c4b0] | (simp only [i64_w, i32_w]; rw [c4b0]) | skip)
          have H' := Aside0.mk H
          clear H
          go_wp2
          repeat (go_quiet (fail); try go_wp2)
          go_meet
          case rel => exact ⟨_, (decide (x5_1 < (a1.size : Int))), ra_, H', ⟨by have := HK1.out; first | omega | exact Nat.le_refl _⟩, dz_⟩
        · rw [if_neg c4] at H
          have c4b0 : decide (x5_1 < (a0.size : Int)) = false := decide_eq_false c4
          clear c4
          (first | rw [c4b0] | (simp only [i64_w, i32_w]; rw [c4b0]) | skip)
          have H' := Aside0.mk H
          clear H
          go_wp2
          repeat (go_quiet (fail); try go_wp2)
          go_meet
          case rel => exact ⟨_, (false), ra_, H', ⟨by have := HK1.out; first | omega | exact Nat.le_refl _⟩, dz_⟩
      case rest =>
        clear HC3
        try clear p2
        try clear c4
        try clear c4b0
        try clear p2
        obtain ⟨kq, x15_2, rfl, HA, HJ2, ⟨mc2, rfl⟩⟩ := hcut
        cases kq with
        | zero => exact absurd HA.out (by simp [constableref01_Strings.j1])
        | succ kj2 =>
          have H := HA.out
          clear HA
          simp only [constableref01_Strings.j1] at H
          by_cases c5 : x15_2 = true
          · subst c5
            have H1 : (if 0 ≤ x5_1 then (if x5_1 < (a0.size : Int) then (if x5_1 < (a1.size : Int) then (if (bt a0 x5_1) = (bt a1 x5_1) then (constableref01_Strings.l0 kj2 a0 a1 (wrap64 (x5_1 + 1))) else ((constableref01_order.f (wrap64 (bt a0 x5_1)) (wrap64 (bt a1 x5_1))).bind fun t317 => (some t317))) else (none)) else (none)) else (none)) = some r := by rw [if_pos rfl] at H; exact H
            clear H
            have H := H1
            clear H1
            by_cases c6 : 0 ≤ x5_1
            · rw [if_pos c6] at H
              have c6b0 : decide (0 ≤ x5_1) = true := decide_eq_true c6
              clear c6
              by_cases c7 : x5_1 < (a0.size : Int)
              · rw [if_pos c7] at H
                have c7b0 : decide (x5_1 < (a0.size : Int)) = true := decide_eq_true c7
                clear c7
                by_cases c9 : x5_1 < (a1.size : Int)
                · rw [if_pos c9] at H
                  have c9b0 : decide (x5_1 < (a1.size : Int)) = true := decide_eq_true c9
                  clear c9
                  by_cases c11 : (bt a0 x5_1) = (bt a1 x5_1)
                  · rw [if_pos c11] at H
                    obtain ⟨c11b0, c11b1⟩ := eqB_ c11
                    clear c11
                    have H' := Aside0.mk H
                    clear H
                    have p8 : 0 ≤ (x5_1 : Int) := dt_
                    have q8 : x5_1 < (a0.size : Int) := dt_
                    have hx8 := bt_at a0 x5_1
                    replace p8 := eq_true p8
                    replace q8 := eq_true q8
                    have p10 : 0 ≤ (x5_1 : Int) := dt_
                    have q10 : x5_1 < (a1.size : Int) := dt_
                    have hx10 := bt_at a1 x5_1
                    replace p10 := eq_true p10
                    replace q10 := eq_true q10
                    go_wp2
                    repeat (go_quiet (fail); try go_wp2)
                    go_roundg kj2
                    case measure => have := HK1.out; have := HJ2.out; omega
                    case rel => exact ⟨(wrap64 (x5_1 + 1)), ra_, H', ⟨by have := HK1.out; have := HJ2.out; omega⟩, dz_⟩
                  · rw [if_neg c11] at H
                    obtain ⟨c11b0, c11b1⟩ := neB_ c11
                    replace H := Option.bind_eq_some_iff.mp H
                    obtain ⟨t317, A140, H⟩ := H
                    replace H : (some t317) = some r := H
                    have A14 := Aside0.mk A140
                    clear A140
                    obtain rfl := Option.some.inj H
                    have p8 : 0 ≤ (x5_1 : Int) := dt_
                    have q8 : x5_1 < (a0.size : Int) := dt_
                    have hx8 := bt_at a0 x5_1
                    replace p8 := eq_true p8
                    replace q8 := eq_true q8
                    have p10 : 0 ≤ (x5_1 : Int) := dt_
                    have q10 : x5_1 < (a1.size : Int) := dt_
                    have hx10 := bt_at a1 x5_1
                    replace p10 := eq_true p10
                    replace q10 := eq_true q10
                    have p12 : 0 ≤ (x5_1 : Int) := dt_
                    have q12 : x5_1 < (a0.size : Int) := dt_
                    have hx12 := bt_at a0 x5_1
                    replace p12 := eq_true p12
                    replace q12 := eq_true q12
                    have p13 : 0 ≤ (x5_1 : Int) := dt_
                    have q13 : x5_1 < (a1.size : Int) := dt_
                    have hx13 := bt_at a1 x5_1
                    replace p13 := eq_true p13
                    replace q13 := eq_true q13
                    go_wp2_with (first | (go_at_call 59; (with_reducible refine (constableref01_order.calls (wrap64 (bt a0 x5_1)) (wrap64 (bt a1 x5_1)) t317 _ A14.out).mono ?_); rintro e w' ⟨rfl, ⟨nd, rfl⟩⟩; (try first | exact ⟨rfl, _, World.drewN_drewN _ _ _⟩ | exact ⟨rfl, _, Eq.trans (World.drewN_drewN _ _ _) (congrArg (World.drewN _) (Nat.add_assoc _ _ _))⟩)))
                    repeat (go_quiet (first | (go_at_call 59; (with_reducible refine (constableref01_order.calls (wrap64 (bt a0 x5_1)) (wrap64 (bt a1 x5_1)) t317 _ A14.out).mono ?_); rintro e w' ⟨rfl, ⟨nd, rfl⟩⟩; (try first | exact ⟨rfl, _, World.drewN_drewN _ _ _⟩ | exact ⟨rfl, _, Eq.trans (World.drewN_drewN _ _ _) (congrArg (World.drewN _) (Nat.add_assoc _ _ _))⟩))); try go_wp2_with (first | (go_at_call 59; (with_reducible refine (constableref01_order.calls (wrap64 (bt a0 x5_1)) (wrap64 (bt a1 x5_1)) t317 _ A14.out).mono ?_); rintro e w' ⟨rfl, ⟨nd, rfl⟩⟩; (try first | exact ⟨rfl, _, World.drewN_drewN _ _ _⟩ | exact ⟨rfl, _, Eq.trans (World.drewN_drewN _ _ _) (congrArg (World.drewN _) (Nat.add_assoc _ _ _))⟩))))
                    go_ret
                    exact rz_
                · rw [if_neg c9] at H
                  exact absurd H (by simp)
              · rw [if_neg c7] at H
                exact absurd H (by simp)
            · rw [if_neg c6] at H
              exact absurd H (by simp)
          · replace c5 := Bool.eq_false_iff.mpr c5
            subst c5
            have H1 : ((constableref01_order.f (a0.size : Int) (a1.size : Int)).bind fun t318 => (some t318)) = some r := by rw [if_neg (show ¬ (false = true) by decide)] at H; exact H
            clear H
            have H := H1
            clear H1
            replace H := Option.bind_eq_some_iff.mp H
            obtain ⟨t318, A150, H⟩ := H
            replace H : (some t318) = some r := H
            have A15 := Aside0.mk A150
            clear A150
            obtain rfl := Option.some.inj H
            go_wp2_with (first | (go_at_call 59; (with_reducible refine (constableref01_order.calls (a0.size : Int) (a1.size : Int) t318 _ A15.out).mono ?_); rintro e w' ⟨rfl, ⟨nd, rfl⟩⟩; (try first | exact ⟨rfl, _, World.drewN_drewN _ _ _⟩ | exact ⟨rfl, _, Eq.trans (World.drewN_drewN _ _ _) (congrArg (World.drewN _) (Nat.add_assoc _ _ _))⟩)))
            repeat (go_quiet (first | (go_at_call 59; (with_reducible refine (constableref01_order.calls (a0.size : Int) (a1.size : Int) t318 _ A15.out).mono ?_); rintro e w' ⟨rfl, ⟨nd, rfl⟩⟩; (try first | exact ⟨rfl, _, World.drewN_drewN _ _ _⟩ | exact ⟨rfl, _, Eq.trans (World.drewN_drewN _ _ _) (congrArg (World.drewN _) (Nat.add_assoc _ _ _))⟩))); try go_wp2_with (first | (go_at_call 59; (with_reducible refine (constableref01_order.calls (a0.size : Int) (a1.size : Int) t318 _ A15.out).mono ?_); rintro e w' ⟨rfl, ⟨nd, rfl⟩⟩; (try first | exact ⟨rfl, _, World.drewN_drewN _ _ _⟩ | exact ⟨rfl, _, Eq.trans (World.drewN_drewN _ _ _) (congrArg (World.drewN _) (Nat.add_assoc _ _ _))⟩))))
            go_ret
            exact rz_
end Go.Proofs.Ytconpnagoijacaa.P
end
section
namespace Go.Proofs.Ytconpnagoijacaa.P
open Go.RowKit Go.Proofs.YtconpnagoijacaaW.PrintWords Go.Proofs.YtconpnagoijacaaW.PrintLast Go.Proofs.YtconpnagoijacaaW.PrintMore
attribute [local go_sem] max2_int min2_int max_two min_two max_three min_three max_four min_four
set_option linter.unusedVariables false
set_option linter.unusedSimpArgs false
def constableref01_Binds.l0 : Nat → List (S62) → Int → Option (Bool)
  | 0, _, _ => none
  | k + 1, x0, x3 => if x3 < (x0.length : Int) then (if 0 ≤ x3 then ((constableref01_Word.f k ((rd_T62 x0 x3).f0) true).bind fun t320 => (if t320 = true then ((constableref01_Value.f k ((rd_T62 x0 x3).f1.f0) ((rd_T62 x0 x3).f1.f1) ((rd_T62 x0 x3).f1.f2)).bind fun t322 => (if t322 = true then (if x3 > 0 then (if 0 ≤ (wrap64 (x3 - 1)) then (if (wrap64 (x3 - 1)) < (x0.length : Int) then ((constableref01_Strings.f k ((rd_T62 x0 (wrap64 (x3 - 1))).f0) ((rd_T62 x0 x3).f0)).bind fun t325 => (if t325 ≥ 0 then (some false) else (constableref01_Binds.l0 k x0 (wrap64 (x3 + 1))))) else (none)) else (none)) else (constableref01_Binds.l0 k x0 (wrap64 (x3 + 1)))) else (some false))) else (some false))) else (none)) else (some true)
def constableref01_Binds.f (k : Nat) (l0 : List (S62)) : Option (Bool) := if (l0.length : Int) > 100 then (some false) else (constableref01_Binds.l0 k l0 0)
theorem constableref01_Binds.mono_l : ∀ k, (∀ y0 y1, LeO (constableref01_Binds.l0 k y0 y1) (constableref01_Binds.l0 (k + 1) y0 y1))
  | 0 => fun _ _ r h => by simp [constableref01_Binds.l0] at h
  | k + 1 => by
    have ih0 := constableref01_Binds.mono_l k
    · intro y0 y1
      unfold constableref01_Binds.l0
      repeat' first
      | (with_reducible exact ih0 _ _)
      | (with_reducible exact constableref01_Strings.mono _ _ _)
      | (with_reducible exact constableref01_Value.mono _ _ _ _)
      | (with_reducible exact constableref01_Word.mono _ _ _)
      | (with_reducible exact LeO.refl _)
      | (with_reducible exact LeO.none _)
      | (with_reducible refine LeO.ite ?_ ?_)
      | (with_reducible refine LeO.bind ?_ (fun _ => ?_))
      | exact ih0 _ _
      | exact constableref01_Strings.mono _ _ _
      | exact constableref01_Value.mono _ _ _ _
      | exact constableref01_Word.mono _ _ _
      | exact LeO.none _
      | refine LeO.ite ?_ ?_
      | refine LeO.bind ?_ (fun _ => ?_)
theorem constableref01_Binds.mono : ∀ a0 k, LeO (constableref01_Binds.f k a0) (constableref01_Binds.f (k + 1) a0) := by
  intro a0 k
  have ih0 := constableref01_Binds.mono_l k
  unfold constableref01_Binds.f
  repeat' first
      | (with_reducible exact ih0 _ _)
      | (with_reducible exact constableref01_Strings.mono _ _ _)
      | (with_reducible exact constableref01_Value.mono _ _ _ _)
      | (with_reducible exact constableref01_Word.mono _ _ _)
      | (with_reducible exact LeO.refl _)
      | (with_reducible exact LeO.none _)
      | (with_reducible refine LeO.ite ?_ ?_)
      | (with_reducible refine LeO.bind ?_ (fun _ => ?_))
      | exact ih0 _ _
      | exact constableref01_Strings.mono _ _ _
      | exact constableref01_Value.mono _ _ _ _
      | exact constableref01_Word.mono _ _ _
      | exact LeO.none _
      | refine LeO.ite ?_ ?_
      | refine LeO.bind ?_ (fun _ => ?_)
def constableref01_Binds.T6 : Bool × List (List Nat × List Nat) := (true, [([], []), ([], []), ([0, 1], [0, 1]), ([2], [2]), ([3], [3]), ([4], [4]), ([5], [5]), ([6, 5], [6]), ([7], [7]), ([7], [7]), ([8, 9, 7], [7, 8, 9]), ([10, 7], [7, 10]), ([11, 7], [7, 11]), ([12, 7, 7], [7, 12]), ([13, 7], [7, 13]), ([7, 14], [7, 14]), ([15, 13], [15]), ([16], [16]), ([17, 16], [16, 17]), ([18, 16, 16], [16, 18]), ([19], [19]), ([19], [19]), ([21, 19], [19, 21]), ([20, 22, 19], [19, 20, 22]), ([23, 19], [19, 23]), ([24, 19], [19, 24]), ([19], [19]), ([19], [19]), ([26, 27, 19], [19, 26, 27]), ([28, 19], [19, 28]), ([29, 19], [19, 29]), ([25, 30, 19, 19], [19, 25, 30]), ([31, 19], [19, 31]), ([19, 32, 16], [16, 19, 32]), ([16, 33], [16, 33])])
def constableref01_Binds.B6 : List Nat := [0, 0, 3, 7, 15, 31, 63, 127, 255, 255, 1023, 2047, 4095, 8191, 16383, 32767, 65535, 131071, 262143, 524287, 1048575, 1048575, 3145727, 8388607, 16777215, 33554431, 1048575, 1048575, 202375167, 470810623, 1007681535, 2147483647, 4294967295, 8589934591, 17179869183]
theorem constableref01_Binds.tab6 : rtab .any (opsOf Try.f31 6) = constableref01_Binds.T6 := by kernel_rfl
theorem constableref01_Binds.bits6 : waitsOk constableref01_Binds.T6.2 constableref01_Binds.B6 = true := by kernel_rfl
set_option maxHeartbeats 8000000 in
set_option maxRecDepth 100000 in
theorem constableref01_Binds.calls (k : Nat) (A0 : Option Addr) (c0 : Nat) (l0 : List (S62)) (r : Bool) (w : World) (hr0 : Kd.C k62 w A0 l0.length l0) (hc0 : l0.length ≤ c0) (h : constableref01_Binds.f k l0 = some r) :
    Calls Try.prog 31 #[.slice A0 l0.length c0] w fun e w' => e = .returned (.bool r) ∧ Below w.heap.size w w' := by
  have hu40 := Try.underlying40
  have HR0 := Aside0.mk hr0
  have HC0 := Aside0.mk hc0
  clear hr0 hc0
  have HB := Aside0.mk (Below.refl w.heap.size w)
  have H : (if (l0.length : Int) > 100 then (some false) else (constableref01_Binds.l0 k l0 0)) = some r := h
  clear h
  by_cases c2 : (l0.length : Int) > 100
  · rw [if_pos c2] at H
    have c2b0 : decide (100 < (l0.length : Int)) = true := decide_eq_true c2
    have c2b1 : decide (100 < l0.length) = true := decide_eq_true (by omega)
    clear c2
    obtain rfl := Option.some.inj H
    go_enter Try.func31, Try.ntmps31
    go_wp2
    go_ret
    exact ⟨by first | rfl | (simp [errW_none, errW_some] <;> rfl) | (simp [*, errW_none, errW_some] <;> rfl), by repeat (first | (with_reducible first | exact HB.out | apply below_alloc | apply pw_below_drewN | apply below_drew1) | exact HB.out)⟩
  · rw [if_neg c2] at H
    have c2b0 : decide (100 < (l0.length : Int)) = false := decide_eq_false c2
    have c2b1 : decide (100 < l0.length) = false := decide_eq_false (by omega)
    clear c2
    have H' := Aside0.mk H
    clear H
    go_enter Try.func31, Try.ntmps31
    go_wp2
    go_loopg [3] k (fun kq v3 w' => ∃ (x3_1 : Int), v3 = .int .i64 x3_1 ∧ Aside0 (constableref01_Binds.l0 kq l0 x3_1 = some r) ∧ Aside0 (kq ≤ k) ∧ Aside0 (Below w.heap.size w w'))
    case atStart => exact ⟨(0), ra_, H', ⟨Nat.le_refl _⟩, ⟨by repeat (first | (with_reducible first | exact HB.out | apply below_alloc | apply pw_below_drewN | apply below_drew1) | exact HB.out)⟩⟩
    case round =>
      clear H'
      try clear c2
      try clear c2b0
      try clear c2b1
      try clear p2
      obtain ⟨x3_1, rfl, HA, HK1, HB⟩ := hrel
      cases gk with
      | zero => exact absurd HA.out (by simp [constableref01_Binds.l0])
      | succ k1 =>
        have H := HA.out
        clear HA
        simp only [constableref01_Binds.l0] at H
        by_cases c3 : x3_1 < (l0.length : Int)
        · rw [if_pos c3] at H
          have c3b0 : decide (x3_1 < (l0.length : Int)) = true := decide_eq_true c3
          clear c3
          by_cases c4 : 0 ≤ x3_1
          · rw [if_pos c4] at H
            have c4b0 : decide (0 ≤ x3_1) = true := decide_eq_true c4
            clear c4
            replace H := Option.bind_eq_some_iff.mp H
            obtain ⟨t320, A50, H⟩ := H
            replace H : (if t320 = true then ((constableref01_Value.f k1 ((rd_T62 l0 x3_1).f1.f0) ((rd_T62 l0 x3_1).f1.f1) ((rd_T62 l0 x3_1).f1.f2)).bind fun t322 => (if t322 = true then (if x3_1 > 0 then (if 0 ≤ (wrap64 (x3_1 - 1)) then (if (wrap64 (x3_1 - 1)) < (l0.length : Int) then ((constableref01_Strings.f k1 ((rd_T62 l0 (wrap64 (x3_1 - 1))).f0) ((rd_T62 l0 x3_1).f0)).bind fun t325 => (if t325 ≥ 0 then (some false) else (constableref01_Binds.l0 k1 l0 (wrap64 (x3_1 + 1))))) else (none)) else (none)) else (constableref01_Binds.l0 k1 l0 (wrap64 (x3_1 + 1)))) else (some false))) else (some false)) = some r := H
            have A5 := Aside0.mk A50
            clear A50
            by_cases c6 : t320 = true
            · subst c6
              have H1 : ((constableref01_Value.f k1 ((rd_T62 l0 x3_1).f1.f0) ((rd_T62 l0 x3_1).f1.f1) ((rd_T62 l0 x3_1).f1.f2)).bind fun t322 => (if t322 = true then (if x3_1 > 0 then (if 0 ≤ (wrap64 (x3_1 - 1)) then (if (wrap64 (x3_1 - 1)) < (l0.length : Int) then ((constableref01_Strings.f k1 ((rd_T62 l0 (wrap64 (x3_1 - 1))).f0) ((rd_T62 l0 x3_1).f0)).bind fun t325 => (if t325 ≥ 0 then (some false) else (constableref01_Binds.l0 k1 l0 (wrap64 (x3_1 + 1))))) else (none)) else (none)) else (constableref01_Binds.l0 k1 l0 (wrap64 (x3_1 + 1)))) else (some false))) = some r := by rw [if_pos rfl] at H; exact H
              clear H
              have H := H1
              clear H1
              replace H := Option.bind_eq_some_iff.mp H
              obtain ⟨t322, A70, H⟩ := H
              replace H : (if t322 = true then (if x3_1 > 0 then (if 0 ≤ (wrap64 (x3_1 - 1)) then (if (wrap64 (x3_1 - 1)) < (l0.length : Int) then ((constableref01_Strings.f k1 ((rd_T62 l0 (wrap64 (x3_1 - 1))).f0) ((rd_T62 l0 x3_1).f0)).bind fun t325 => (if t325 ≥ 0 then (some false) else (constableref01_Binds.l0 k1 l0 (wrap64 (x3_1 + 1))))) else (none)) else (none)) else (constableref01_Binds.l0 k1 l0 (wrap64 (x3_1 + 1)))) else (some false)) = some r := H
              have A7 := Aside0.mk A70
              clear A70
              by_cases c8 : t322 = true
              · subst c8
                have H1 : (if x3_1 > 0 then (if 0 ≤ (wrap64 (x3_1 - 1)) then (if (wrap64 (x3_1 - 1)) < (l0.length : Int) then ((constableref01_Strings.f k1 ((rd_T62 l0 (wrap64 (x3_1 - 1))).f0) ((rd_T62 l0 x3_1).f0)).bind fun t325 => (if t325 ≥ 0 then (some false) else (constableref01_Binds.l0 k1 l0 (wrap64 (x3_1 + 1))))) else (none)) else (none)) else (constableref01_Binds.l0 k1 l0 (wrap64 (x3_1 + 1)))) = some r := by rw [if_pos rfl] at H; exact H
                clear H
                have H := H1
                clear H1
                by_cases c9 : x3_1 > 0
                · rw [if_pos c9] at H
                  have c9b0 : decide (0 < x3_1) = true := decide_eq_true c9
                  clear c9
                  obtain ⟨ji10, hji10⟩ : ∃ j_ : Int, (wrap64 (x3_1 - 1)) = j_ := ⟨_, rfl⟩
                  replace H : (if 0 ≤ (ji10) then (if (ji10) < (l0.length : Int) then ((constableref01_Strings.f k1 ((rd_T62 l0 (ji10)).f0) ((rd_T62 l0 x3_1).f0)).bind fun t325 => (if t325 ≥ 0 then (some false) else (constableref01_Binds.l0 k1 l0 (wrap64 (x3_1 + 1))))) else (none)) else (none)) = some r := by first | (rw [hji10] at H; exact H) | (simp only [hji10] at H ⊢; exact H)
                  (try rw [hji10] at A5)
                  (try rw [hji10] at A7)
                  have hji10w : (IntKind.i64.wrap (x3_1 - 1)) = ji10 := (i64_w _).trans hji10
                  by_cases c11 : 0 ≤ (ji10)
                  · rw [if_pos c11] at H
                    have c11b0 : decide (0 ≤ (ji10)) = true := decide_eq_true c11
                    clear c11
                    by_cases c12 : (ji10) < (l0.length : Int)
                    · rw [if_pos c12] at H
                      have c12b0 : decide ((ji10) < (l0.length : Int)) = true := decide_eq_true c12
                      clear c12
                      replace H := Option.bind_eq_some_iff.mp H
                      obtain ⟨t325, A130, H⟩ := H
                      replace H : (if t325 ≥ 0 then (some false) else (constableref01_Binds.l0 k1 l0 (wrap64 (x3_1 + 1)))) = some r := H
                      have A13 := Aside0.mk A130
                      clear A130
                      by_cases c14 : t325 ≥ 0
                      · rw [if_pos c14] at H
                        have c14b0 : decide (0 ≤ t325) = true := decide_eq_true c14
                        clear c14
                        obtain rfl := Option.some.inj H
                        try go_wp2
                        have n0_ := Aside0.mk (below_drew1 HB.out)
                        clear HB
                        have HB := n0_
                        clear n0_
                        have p319 : 0 ≤ (x3_1 : Int) := dt_
                        have q319 : x3_1 < (l0.length : Int) := dt_
                        obtain ⟨ad319, e319, hx319_0, hx319_1, hx319_2, hx319_3⟩ := at_T62 HR0.out x3_1 p319 q319
                        have hw319_3 := hx319_3
                        have hw319_2 := hx319_2
                        have hw319_1 := hx319_1
                        have hw319_0 := hx319_0
                        cases e319
                        replace hx319_0 := cm_ HB hx319_0
                        replace hx319_1 := cm_ HB hx319_1
                        replace hx319_2 := cm_ HB hx319_2
                        replace hx319_3 := cm_ HB hx319_3
                        replace p319 := eq_true p319
                        replace q319 := eq_true q319
                        have p321 : 0 ≤ (x3_1 : Int) := dt_
                        have q321 : x3_1 < (l0.length : Int) := dt_
                        obtain ⟨ad321, e321, hx321_0, hx321_1, hx321_2, hx321_3⟩ := at_T62 HR0.out x3_1 p321 q321
                        have hw321_3 := hx321_3
                        have hw321_2 := hx321_2
                        have hw321_1 := hx321_1
                        have hw321_0 := hx321_0
                        obtain rfl : ad319 = ad321 := (by injection e321)
                        replace hx321_0 := cm_ HB hx321_0
                        replace hx321_1 := cm_ HB hx321_1
                        replace hx321_2 := cm_ HB hx321_2
                        replace hx321_3 := cm_ HB hx321_3
                        replace p321 := eq_true p321
                        replace q321 := eq_true q321
                        have p323 : 0 ≤ ((ji10) : Int) := dt_
                        have q323 : (ji10) < (l0.length : Int) := dt_
                        obtain ⟨ad323, e323, hx323_0, hx323_1, hx323_2, hx323_3⟩ := at_T62 HR0.out (ji10) p323 q323
                        have hw323_3 := hx323_3
                        have hw323_2 := hx323_2
                        have hw323_1 := hx323_1
                        have hw323_0 := hx323_0
                        obtain rfl : ad319 = ad323 := (by injection e323)
                        replace hx323_0 := cm_ HB hx323_0
                        replace hx323_1 := cm_ HB hx323_1
                        replace hx323_2 := cm_ HB hx323_2
                        replace hx323_3 := cm_ HB hx323_3
                        replace p323 := eq_true p323
                        replace q323 := eq_true q323
                        have p324 : 0 ≤ (x3_1 : Int) := dt_
                        have q324 : x3_1 < (l0.length : Int) := dt_
                        obtain ⟨ad324, e324, hx324_0, hx324_1, hx324_2, hx324_3⟩ := at_T62 HR0.out x3_1 p324 q324
                        have hw324_3 := hx324_3
                        have hw324_2 := hx324_2
                        have hw324_1 := hx324_1
                        have hw324_0 := hx324_0
                        obtain rfl : ad319 = ad324 := (by injection e324)
                        replace hx324_0 := cm_ HB hx324_0
                        replace hx324_1 := cm_ HB hx324_1
                        replace hx324_2 := cm_ HB hx324_2
                        replace hx324_3 := cm_ HB hx324_3
                        replace p324 := eq_true p324
                        replace q324 := eq_true q324
                        refine start_ (n := 35) (S := fun w' => w'.cell? (ad319.add ((x3_1).toNat * 4)) = some (.string ((rd_T62 l0 x3_1).f0)) ∧ w'.cell? ⟨(ad319.add ((x3_1).toNat * 4)).block, (ad319.add ((x3_1).toNat * 4)).off + 1, none⟩ = some (.int .i64 ((rd_T62 l0 x3_1).f1.f0)) ∧ w'.cell? ⟨(ad319.add ((x3_1).toNat * 4)).block, (ad319.add ((x3_1).toNat * 4)).off + 2, none⟩ = some (.int .i64 ((rd_T62 l0 x3_1).f1.f1)) ∧ w'.cell? ⟨(ad319.add ((x3_1).toNat * 4)).block, (ad319.add ((x3_1).toNat * 4)).off + 3, none⟩ = some (.string ((rd_T62 l0 x3_1).f1.f2)) ∧ w'.cell? (ad319.add ((x3_1).toNat * 4)) = some (.string ((rd_T62 l0 x3_1).f0)) ∧ w'.cell? ⟨(ad319.add ((x3_1).toNat * 4)).block, (ad319.add ((x3_1).toNat * 4)).off + 1, none⟩ = some (.int .i64 ((rd_T62 l0 x3_1).f1.f0)) ∧ w'.cell? ⟨(ad319.add ((x3_1).toNat * 4)).block, (ad319.add ((x3_1).toNat * 4)).off + 2, none⟩ = some (.int .i64 ((rd_T62 l0 x3_1).f1.f1)) ∧ w'.cell? ⟨(ad319.add ((x3_1).toNat * 4)).block, (ad319.add ((x3_1).toNat * 4)).off + 3, none⟩ = some (.string ((rd_T62 l0 x3_1).f1.f2)) ∧ w'.cell? (ad319.add (((ji10)).toNat * 4)) = some (.string ((rd_T62 l0 (ji10)).f0)) ∧ w'.cell? ⟨(ad319.add (((ji10)).toNat * 4)).block, (ad319.add (((ji10)).toNat * 4)).off + 1, none⟩ = some (.int .i64 ((rd_T62 l0 (ji10)).f1.f0)) ∧ w'.cell? ⟨(ad319.add (((ji10)).toNat * 4)).block, (ad319.add (((ji10)).toNat * 4)).off + 2, none⟩ = some (.int .i64 ((rd_T62 l0 (ji10)).f1.f1)) ∧ w'.cell? ⟨(ad319.add (((ji10)).toNat * 4)).block, (ad319.add (((ji10)).toNat * 4)).off + 3, none⟩ = some (.string ((rd_T62 l0 (ji10)).f1.f2)) ∧ w'.cell? (ad319.add ((x3_1).toNat * 4)) = some (.string ((rd_T62 l0 x3_1).f0)) ∧ w'.cell? ⟨(ad319.add ((x3_1).toNat * 4)).block, (ad319.add ((x3_1).toNat * 4)).off + 1, none⟩ = some (.int .i64 ((rd_T62 l0 x3_1).f1.f0)) ∧ w'.cell? ⟨(ad319.add ((x3_1).toNat * 4)).block, (ad319.add ((x3_1).toNat * 4)).off + 2, none⟩ = some (.int .i64 ((rd_T62 l0 x3_1).f1.f1)) ∧ w'.cell? ⟨(ad319.add ((x3_1).toNat * 4)).block, (ad319.add ((x3_1).toNat * 4)).off + 3, none⟩ = some (.string ((rd_T62 l0 x3_1).f1.f2))) (ds := []) (mk_ 35 0) (by kernel_rfl) rfl rfl ⟨(cl_ HB hw319_0), (cl_ HB hw319_1), (cl_ HB hw319_2), (cl_ HB hw319_3), (cl_ HB hw321_0), (cl_ HB hw321_1), (cl_ HB hw321_2), (cl_ HB hw321_3), (cl_ HB hw323_0), (cl_ HB hw323_1), (cl_ HB hw323_2), (cl_ HB hw323_3), (cl_ HB hw324_0), (cl_ HB hw324_1), (cl_ HB hw324_2), (cl_ HB hw324_3)⟩ (fun hHeld => ?_); refine with_tabW constableref01_Binds.tab6 constableref01_Binds.bits6 (fun HT_ HW_ => ?_)
                        generalize wr.drew = w15 at HB hx319_0 hx319_1 hx319_2 hx319_3 hx321_0 hx321_1 hx321_2 hx321_3 hx323_0 hx323_1 hx323_2 hx323_3 hx324_0 hx324_1 hx324_2 hx324_3 hHeld ⊢
                        refine pu_ 0 13 1 HT_ ?_; refine pu_ 1 14 3 HT_ ?_; refine pu_ 2 15 7 HT_ ?_; refine pu_ 3 16 15 HT_ ?_; refine tk_ 4 17 31 HT_ HW_ hHeld ?_
                        refine one_ (i := 5) (N := some 18) (mk_ 35 63) rfl rfl (one_of HT_.out (by kernel_rfl)) (by decide) (fun K hK => ?_)
                        refine goes_ Try.func45 (by kernel_rfl) rfl #[.string ((rd_T62 l0 x3_1).f0), .bool true] (by rfl) rfl rfl ga_ ?_
                        with_reducible refine (constableref01_Word.calls k1 ((rd_T62 l0 x3_1).f0) true true _ A5.out).mono ?_
                        rintro e w' ⟨rfl, ⟨nd, rfl⟩⟩
                        refine ⟨_, rfl, ?_⟩
                        refine hK.out _ _ ⟨(cl_ HB hw319_0), (cl_ HB hw319_1), (cl_ HB hw319_2), (cl_ HB hw319_3), (cl_ HB hw321_0), (cl_ HB hw321_1), (cl_ HB hw321_2), (cl_ HB hw321_3), (cl_ HB hw323_0), (cl_ HB hw323_1), (cl_ HB hw323_2), (cl_ HB hw323_3), (cl_ HB hw324_0), (cl_ HB hw324_1), (cl_ HB hw324_2), (cl_ HB hw324_3)⟩ (fun hHeld => ?_)
                        clear hK K
                        refine nm_ 18 ?_; refine pu_ 6 19 127 HT_ ?_; refine pu_ 7 20 255 HT_ ?_; refine pu_ 8 21 511 HT_ ?_; refine pu_ 9 22 1023 HT_ ?_; refine pu_ 10 23 2047 HT_ ?_; refine pu_ 11 24 4095 HT_ ?_; refine tk_ 12 25 8191 HT_ HW_ hHeld ?_
                        refine one_ (i := 13) (N := some 26) (mk_ 35 16383) rfl rfl (one_of HT_.out (by kernel_rfl)) (by decide) (fun K hK => ?_)
                        refine goes_ Try.func46 (by kernel_rfl) rfl #[.agg #[.int .i64 ((rd_T62 l0 x3_1).f1.f0), .int .i64 ((rd_T62 l0 x3_1).f1.f1), .string ((rd_T62 l0 x3_1).f1.f2)]] (by rfl) rfl rfl ga_ ?_
                        with_reducible refine (constableref01_Value.calls k1 ((rd_T62 l0 x3_1).f1.f0) ((rd_T62 l0 x3_1).f1.f1) ((rd_T62 l0 x3_1).f1.f2) true _ A7.out).mono ?_
                        rintro e w16 ⟨rfl, hb⟩
                        refine ⟨_, rfl, ?_⟩
                        have n0_ := bs_ (be_ HB) hb
                        clear HB
                        have HB := n0_
                        clear n0_
                        (try clear hb)
                        (try clear hb2)
                        (try clear hk)
                        (try clear hi)
                        refine hK.out _ _ ⟨(cl_ HB hw319_0), (cl_ HB hw319_1), (cl_ HB hw319_2), (cl_ HB hw319_3), (cl_ HB hw321_0), (cl_ HB hw321_1), (cl_ HB hw321_2), (cl_ HB hw321_3), (cl_ HB hw323_0), (cl_ HB hw323_1), (cl_ HB hw323_2), (cl_ HB hw323_3), (cl_ HB hw324_0), (cl_ HB hw324_1), (cl_ HB hw324_2), (cl_ HB hw324_3)⟩ (fun hHeld => ?_)
                        clear hK K
                        refine nm_ 26 ?_; refine pu_ 14 27 32767 HT_ ?_; refine pu_ 15 28 65535 HT_ ?_; refine pu_ 16 29 131071 HT_ ?_; refine pu_ 17 30 262143 HT_ ?_; refine pu_ 18 31 524287 HT_ ?_; refine pu_ 19 32 1048575 HT_ ?_; refine pu_ 20 33 2097151 HT_ ?_; refine pu_ 21 34 4194303 HT_ ?_; refine pu_ 22 35 8388607 HT_ ?_; refine pu_ 23 36 16777215 HT_ ?_; refine pu_ 24 37 33554431 HT_ ?_; refine pu_ 26 39 100663295 HT_ ?_; refine pu_ 27 40 234881023 HT_ ?_; refine pu_ 28 41 503316479 HT_ ?_; refine pu_ 29 42 1040187391 HT_ ?_; refine tk_ 25 38 1073741823 HT_ HW_ hHeld ?_; refine tk_ 30 43 2147483647 HT_ HW_ hHeld ?_
                        refine one_ (i := 31) (N := some 44) (mk_ 35 4294967295) rfl rfl (one_of HT_.out (by kernel_rfl)) (by decide) (fun K hK => ?_)
                        refine goes_ Try.func48 (by kernel_rfl) rfl #[.string ((rd_T62 l0 (ji10)).f0), .string ((rd_T62 l0 x3_1).f0)] (by rfl) rfl rfl (by (try simp only [List.map_toArray, List.map_cons, List.map_nil]); first | done | (simp only [hji10]; rfl) | rfl | (simp only [List.length_drop, List.length_take]; rfl)) ?_
                        with_reducible refine (constableref01_Strings.calls k1 ((rd_T62 l0 (ji10)).f0) ((rd_T62 l0 x3_1).f0) t325 _ A13.out).mono ?_
                        rintro e w' ⟨rfl, ⟨nd, rfl⟩⟩
                        refine ⟨_, rfl, ?_⟩
                        refine hK.out _ _ ⟨(cl_ HB hw319_0), (cl_ HB hw319_1), (cl_ HB hw319_2), (cl_ HB hw319_3), (cl_ HB hw321_0), (cl_ HB hw321_1), (cl_ HB hw321_2), (cl_ HB hw321_3), (cl_ HB hw323_0), (cl_ HB hw323_1), (cl_ HB hw323_2), (cl_ HB hw323_3), (cl_ HB hw324_0), (cl_ HB hw324_1), (cl_ HB hw324_2), (cl_ HB hw324_3)⟩ (fun hHeld => ?_)
                        clear hK K
                        refine nm_ 44 ?_; refine pu_ 32 45 8589934591 HT_ ?_; refine pu_ 33 46 17179869183 HT_ ?_; refine pu_ 34 47 34359738367 HT_ ?_
                        refine done_ (done_of HT_.out (by kernel_rfl)) ?_
                        try go_wp2
                        go_ret
                        exact ⟨by first | rfl | (simp [errW_none, errW_some] <;> rfl) | (simp only [← hji10]; first | rfl | (simp [errW_none, errW_some] <;> rfl)) | (simp [*, errW_none, errW_some] <;> rfl), by repeat (first | (with_reducible first | exact HB.out | apply below_alloc | apply pw_below_drewN | apply below_drew1) | exact HB.out)⟩
                      · rw [if_neg c14] at H
                        have c14b0 : decide (0 ≤ t325) = false := decide_eq_false c14
                        clear c14
                        have H' := Aside0.mk H
                        clear H
                        try go_wp2
                        have n0_ := Aside0.mk (below_drew1 HB.out)
                        clear HB
                        have HB := n0_
                        clear n0_
                        have p319 : 0 ≤ (x3_1 : Int) := dt_
                        have q319 : x3_1 < (l0.length : Int) := dt_
                        obtain ⟨ad319, e319, hx319_0, hx319_1, hx319_2, hx319_3⟩ := at_T62 HR0.out x3_1 p319 q319
                        have hw319_3 := hx319_3
                        have hw319_2 := hx319_2
                        have hw319_1 := hx319_1
                        have hw319_0 := hx319_0
                        cases e319
                        replace hx319_0 := cm_ HB hx319_0
                        replace hx319_1 := cm_ HB hx319_1
                        replace hx319_2 := cm_ HB hx319_2
                        replace hx319_3 := cm_ HB hx319_3
                        replace p319 := eq_true p319
                        replace q319 := eq_true q319
                        have p321 : 0 ≤ (x3_1 : Int) := dt_
                        have q321 : x3_1 < (l0.length : Int) := dt_
                        obtain ⟨ad321, e321, hx321_0, hx321_1, hx321_2, hx321_3⟩ := at_T62 HR0.out x3_1 p321 q321
                        have hw321_3 := hx321_3
                        have hw321_2 := hx321_2
                        have hw321_1 := hx321_1
                        have hw321_0 := hx321_0
                        obtain rfl : ad319 = ad321 := (by injection e321)
                        replace hx321_0 := cm_ HB hx321_0
                        replace hx321_1 := cm_ HB hx321_1
                        replace hx321_2 := cm_ HB hx321_2
                        replace hx321_3 := cm_ HB hx321_3
                        replace p321 := eq_true p321
                        replace q321 := eq_true q321
                        have p323 : 0 ≤ ((ji10) : Int) := dt_
                        have q323 : (ji10) < (l0.length : Int) := dt_
                        obtain ⟨ad323, e323, hx323_0, hx323_1, hx323_2, hx323_3⟩ := at_T62 HR0.out (ji10) p323 q323
                        have hw323_3 := hx323_3
                        have hw323_2 := hx323_2
                        have hw323_1 := hx323_1
                        have hw323_0 := hx323_0
                        obtain rfl : ad319 = ad323 := (by injection e323)
                        replace hx323_0 := cm_ HB hx323_0
                        replace hx323_1 := cm_ HB hx323_1
                        replace hx323_2 := cm_ HB hx323_2
                        replace hx323_3 := cm_ HB hx323_3
                        replace p323 := eq_true p323
                        replace q323 := eq_true q323
                        have p324 : 0 ≤ (x3_1 : Int) := dt_
                        have q324 : x3_1 < (l0.length : Int) := dt_
                        obtain ⟨ad324, e324, hx324_0, hx324_1, hx324_2, hx324_3⟩ := at_T62 HR0.out x3_1 p324 q324
                        have hw324_3 := hx324_3
                        have hw324_2 := hx324_2
                        have hw324_1 := hx324_1
                        have hw324_0 := hx324_0
                        obtain rfl : ad319 = ad324 := (by injection e324)
                        replace hx324_0 := cm_ HB hx324_0
                        replace hx324_1 := cm_ HB hx324_1
                        replace hx324_2 := cm_ HB hx324_2
                        replace hx324_3 := cm_ HB hx324_3
                        replace p324 := eq_true p324
                        replace q324 := eq_true q324
                        refine start_ (n := 35) (S := fun w' => w'.cell? (ad319.add ((x3_1).toNat * 4)) = some (.string ((rd_T62 l0 x3_1).f0)) ∧ w'.cell? ⟨(ad319.add ((x3_1).toNat * 4)).block, (ad319.add ((x3_1).toNat * 4)).off + 1, none⟩ = some (.int .i64 ((rd_T62 l0 x3_1).f1.f0)) ∧ w'.cell? ⟨(ad319.add ((x3_1).toNat * 4)).block, (ad319.add ((x3_1).toNat * 4)).off + 2, none⟩ = some (.int .i64 ((rd_T62 l0 x3_1).f1.f1)) ∧ w'.cell? ⟨(ad319.add ((x3_1).toNat * 4)).block, (ad319.add ((x3_1).toNat * 4)).off + 3, none⟩ = some (.string ((rd_T62 l0 x3_1).f1.f2)) ∧ w'.cell? (ad319.add ((x3_1).toNat * 4)) = some (.string ((rd_T62 l0 x3_1).f0)) ∧ w'.cell? ⟨(ad319.add ((x3_1).toNat * 4)).block, (ad319.add ((x3_1).toNat * 4)).off + 1, none⟩ = some (.int .i64 ((rd_T62 l0 x3_1).f1.f0)) ∧ w'.cell? ⟨(ad319.add ((x3_1).toNat * 4)).block, (ad319.add ((x3_1).toNat * 4)).off + 2, none⟩ = some (.int .i64 ((rd_T62 l0 x3_1).f1.f1)) ∧ w'.cell? ⟨(ad319.add ((x3_1).toNat * 4)).block, (ad319.add ((x3_1).toNat * 4)).off + 3, none⟩ = some (.string ((rd_T62 l0 x3_1).f1.f2)) ∧ w'.cell? (ad319.add (((ji10)).toNat * 4)) = some (.string ((rd_T62 l0 (ji10)).f0)) ∧ w'.cell? ⟨(ad319.add (((ji10)).toNat * 4)).block, (ad319.add (((ji10)).toNat * 4)).off + 1, none⟩ = some (.int .i64 ((rd_T62 l0 (ji10)).f1.f0)) ∧ w'.cell? ⟨(ad319.add (((ji10)).toNat * 4)).block, (ad319.add (((ji10)).toNat * 4)).off + 2, none⟩ = some (.int .i64 ((rd_T62 l0 (ji10)).f1.f1)) ∧ w'.cell? ⟨(ad319.add (((ji10)).toNat * 4)).block, (ad319.add (((ji10)).toNat * 4)).off + 3, none⟩ = some (.string ((rd_T62 l0 (ji10)).f1.f2)) ∧ w'.cell? (ad319.add ((x3_1).toNat * 4)) = some (.string ((rd_T62 l0 x3_1).f0)) ∧ w'.cell? ⟨(ad319.add ((x3_1).toNat * 4)).block, (ad319.add ((x3_1).toNat * 4)).off + 1, none⟩ = some (.int .i64 ((rd_T62 l0 x3_1).f1.f0)) ∧ w'.cell? ⟨(ad319.add ((x3_1).toNat * 4)).block, (ad319.add ((x3_1).toNat * 4)).off + 2, none⟩ = some (.int .i64 ((rd_T62 l0 x3_1).f1.f1)) ∧ w'.cell? ⟨(ad319.add ((x3_1).toNat * 4)).block, (ad319.add ((x3_1).toNat * 4)).off + 3, none⟩ = some (.string ((rd_T62 l0 x3_1).f1.f2))) (ds := []) (mk_ 35 0) (by kernel_rfl) rfl rfl ⟨(cl_ HB hw319_0), (cl_ HB hw319_1), (cl_ HB hw319_2), (cl_ HB hw319_3), (cl_ HB hw321_0), (cl_ HB hw321_1), (cl_ HB hw321_2), (cl_ HB hw321_3), (cl_ HB hw323_0), (cl_ HB hw323_1), (cl_ HB hw323_2), (cl_ HB hw323_3), (cl_ HB hw324_0), (cl_ HB hw324_1), (cl_ HB hw324_2), (cl_ HB hw324_3)⟩ (fun hHeld => ?_); refine with_tabW constableref01_Binds.tab6 constableref01_Binds.bits6 (fun HT_ HW_ => ?_)
                        generalize wr.drew = w17 at HB hx319_0 hx319_1 hx319_2 hx319_3 hx321_0 hx321_1 hx321_2 hx321_3 hx323_0 hx323_1 hx323_2 hx323_3 hx324_0 hx324_1 hx324_2 hx324_3 hHeld ⊢
                        refine pu_ 0 13 1 HT_ ?_; refine pu_ 1 14 3 HT_ ?_; refine pu_ 2 15 7 HT_ ?_; refine pu_ 3 16 15 HT_ ?_; refine tk_ 4 17 31 HT_ HW_ hHeld ?_
                        refine one_ (i := 5) (N := some 18) (mk_ 35 63) rfl rfl (one_of HT_.out (by kernel_rfl)) (by decide) (fun K hK => ?_)
                        refine goes_ Try.func45 (by kernel_rfl) rfl #[.string ((rd_T62 l0 x3_1).f0), .bool true] (by rfl) rfl rfl ga_ ?_
                        with_reducible refine (constableref01_Word.calls k1 ((rd_T62 l0 x3_1).f0) true true _ A5.out).mono ?_
                        rintro e w' ⟨rfl, ⟨nd, rfl⟩⟩
                        refine ⟨_, rfl, ?_⟩
                        refine hK.out _ _ ⟨(cl_ HB hw319_0), (cl_ HB hw319_1), (cl_ HB hw319_2), (cl_ HB hw319_3), (cl_ HB hw321_0), (cl_ HB hw321_1), (cl_ HB hw321_2), (cl_ HB hw321_3), (cl_ HB hw323_0), (cl_ HB hw323_1), (cl_ HB hw323_2), (cl_ HB hw323_3), (cl_ HB hw324_0), (cl_ HB hw324_1), (cl_ HB hw324_2), (cl_ HB hw324_3)⟩ (fun hHeld => ?_)
                        clear hK K
                        refine nm_ 18 ?_; refine pu_ 6 19 127 HT_ ?_; refine pu_ 7 20 255 HT_ ?_; refine pu_ 8 21 511 HT_ ?_; refine pu_ 9 22 1023 HT_ ?_; refine pu_ 10 23 2047 HT_ ?_; refine pu_ 11 24 4095 HT_ ?_; refine tk_ 12 25 8191 HT_ HW_ hHeld ?_
                        refine one_ (i := 13) (N := some 26) (mk_ 35 16383) rfl rfl (one_of HT_.out (by kernel_rfl)) (by decide) (fun K hK => ?_)
                        refine goes_ Try.func46 (by kernel_rfl) rfl #[.agg #[.int .i64 ((rd_T62 l0 x3_1).f1.f0), .int .i64 ((rd_T62 l0 x3_1).f1.f1), .string ((rd_T62 l0 x3_1).f1.f2)]] (by rfl) rfl rfl ga_ ?_
                        with_reducible refine (constableref01_Value.calls k1 ((rd_T62 l0 x3_1).f1.f0) ((rd_T62 l0 x3_1).f1.f1) ((rd_T62 l0 x3_1).f1.f2) true _ A7.out).mono ?_
                        rintro e w18 ⟨rfl, hb⟩
                        refine ⟨_, rfl, ?_⟩
                        have n0_ := bs_ (be_ HB) hb
                        clear HB
                        have HB := n0_
                        clear n0_
                        (try clear hb)
                        (try clear hb2)
                        (try clear hk)
                        (try clear hi)
                        refine hK.out _ _ ⟨(cl_ HB hw319_0), (cl_ HB hw319_1), (cl_ HB hw319_2), (cl_ HB hw319_3), (cl_ HB hw321_0), (cl_ HB hw321_1), (cl_ HB hw321_2), (cl_ HB hw321_3), (cl_ HB hw323_0), (cl_ HB hw323_1), (cl_ HB hw323_2), (cl_ HB hw323_3), (cl_ HB hw324_0), (cl_ HB hw324_1), (cl_ HB hw324_2), (cl_ HB hw324_3)⟩ (fun hHeld => ?_)
                        clear hK K
                        refine nm_ 26 ?_; refine pu_ 14 27 32767 HT_ ?_; refine pu_ 15 28 65535 HT_ ?_; refine pu_ 16 29 131071 HT_ ?_; refine pu_ 17 30 262143 HT_ ?_; refine pu_ 18 31 524287 HT_ ?_; refine pu_ 19 32 1048575 HT_ ?_; refine pu_ 20 33 2097151 HT_ ?_; refine pu_ 21 34 4194303 HT_ ?_; refine pu_ 22 35 8388607 HT_ ?_; refine pu_ 23 36 16777215 HT_ ?_; refine pu_ 24 37 33554431 HT_ ?_; refine pu_ 26 39 100663295 HT_ ?_; refine pu_ 27 40 234881023 HT_ ?_; refine pu_ 28 41 503316479 HT_ ?_; refine pu_ 29 42 1040187391 HT_ ?_; refine tk_ 25 38 1073741823 HT_ HW_ hHeld ?_; refine tk_ 30 43 2147483647 HT_ HW_ hHeld ?_
                        refine one_ (i := 31) (N := some 44) (mk_ 35 4294967295) rfl rfl (one_of HT_.out (by kernel_rfl)) (by decide) (fun K hK => ?_)
                        refine goes_ Try.func48 (by kernel_rfl) rfl #[.string ((rd_T62 l0 (ji10)).f0), .string ((rd_T62 l0 x3_1).f0)] (by rfl) rfl rfl (by (try simp only [List.map_toArray, List.map_cons, List.map_nil]); first | done | (simp only [hji10]; rfl) | rfl | (simp only [List.length_drop, List.length_take]; rfl)) ?_
                        with_reducible refine (constableref01_Strings.calls k1 ((rd_T62 l0 (ji10)).f0) ((rd_T62 l0 x3_1).f0) t325 _ A13.out).mono ?_
                        rintro e w' ⟨rfl, ⟨nd, rfl⟩⟩
                        refine ⟨_, rfl, ?_⟩
                        refine hK.out _ _ ⟨(cl_ HB hw319_0), (cl_ HB hw319_1), (cl_ HB hw319_2), (cl_ HB hw319_3), (cl_ HB hw321_0), (cl_ HB hw321_1), (cl_ HB hw321_2), (cl_ HB hw321_3), (cl_ HB hw323_0), (cl_ HB hw323_1), (cl_ HB hw323_2), (cl_ HB hw323_3), (cl_ HB hw324_0), (cl_ HB hw324_1), (cl_ HB hw324_2), (cl_ HB hw324_3)⟩ (fun hHeld => ?_)
                        clear hK K
                        refine nm_ 44 ?_; refine pu_ 32 45 8589934591 HT_ ?_; refine pu_ 33 46 17179869183 HT_ ?_; refine pu_ 34 47 34359738367 HT_ ?_
                        refine done_ (done_of HT_.out (by kernel_rfl)) ?_
                        try go_wp2
                        go_roundg k1
                        case measure => have := HK1.out; omega
                        case rel => exact ⟨(wrap64 (x3_1 + 1)), ra_, H', ⟨by have := HK1.out; omega⟩, ⟨by repeat (first | (with_reducible first | exact HB.out | apply below_alloc | apply pw_below_drewN | apply below_drew1) | exact HB.out)⟩⟩
                    · rw [if_neg c12] at H
                      exact absurd H (by simp)
                  · rw [if_neg c11] at H
                    exact absurd H (by simp)
                · rw [if_neg c9] at H
                  have c9b0 : decide (0 < x3_1) = false := decide_eq_false c9
                  clear c9
                  have H' := Aside0.mk H
                  clear H
                  try go_wp2
                  have n0_ := Aside0.mk (below_drew1 HB.out)
                  clear HB
                  have HB := n0_
                  clear n0_
                  have p319 : 0 ≤ (x3_1 : Int) := dt_
                  have q319 : x3_1 < (l0.length : Int) := dt_
                  obtain ⟨ad319, e319, hx319_0, hx319_1, hx319_2, hx319_3⟩ := at_T62 HR0.out x3_1 p319 q319
                  have hw319_3 := hx319_3
                  have hw319_2 := hx319_2
                  have hw319_1 := hx319_1
                  have hw319_0 := hx319_0
                  cases e319
                  replace hx319_0 := cm_ HB hx319_0
                  replace hx319_1 := cm_ HB hx319_1
                  replace hx319_2 := cm_ HB hx319_2
                  replace hx319_3 := cm_ HB hx319_3
                  replace p319 := eq_true p319
                  replace q319 := eq_true q319
                  have p321 : 0 ≤ (x3_1 : Int) := dt_
                  have q321 : x3_1 < (l0.length : Int) := dt_
                  obtain ⟨ad321, e321, hx321_0, hx321_1, hx321_2, hx321_3⟩ := at_T62 HR0.out x3_1 p321 q321
                  have hw321_3 := hx321_3
                  have hw321_2 := hx321_2
                  have hw321_1 := hx321_1
                  have hw321_0 := hx321_0
                  obtain rfl : ad319 = ad321 := (by injection e321)
                  replace hx321_0 := cm_ HB hx321_0
                  replace hx321_1 := cm_ HB hx321_1
                  replace hx321_2 := cm_ HB hx321_2
                  replace hx321_3 := cm_ HB hx321_3
                  replace p321 := eq_true p321
                  replace q321 := eq_true q321
                  refine start_ (n := 35) (S := fun w' => w'.cell? (ad319.add ((x3_1).toNat * 4)) = some (.string ((rd_T62 l0 x3_1).f0)) ∧ w'.cell? ⟨(ad319.add ((x3_1).toNat * 4)).block, (ad319.add ((x3_1).toNat * 4)).off + 1, none⟩ = some (.int .i64 ((rd_T62 l0 x3_1).f1.f0)) ∧ w'.cell? ⟨(ad319.add ((x3_1).toNat * 4)).block, (ad319.add ((x3_1).toNat * 4)).off + 2, none⟩ = some (.int .i64 ((rd_T62 l0 x3_1).f1.f1)) ∧ w'.cell? ⟨(ad319.add ((x3_1).toNat * 4)).block, (ad319.add ((x3_1).toNat * 4)).off + 3, none⟩ = some (.string ((rd_T62 l0 x3_1).f1.f2)) ∧ w'.cell? (ad319.add ((x3_1).toNat * 4)) = some (.string ((rd_T62 l0 x3_1).f0)) ∧ w'.cell? ⟨(ad319.add ((x3_1).toNat * 4)).block, (ad319.add ((x3_1).toNat * 4)).off + 1, none⟩ = some (.int .i64 ((rd_T62 l0 x3_1).f1.f0)) ∧ w'.cell? ⟨(ad319.add ((x3_1).toNat * 4)).block, (ad319.add ((x3_1).toNat * 4)).off + 2, none⟩ = some (.int .i64 ((rd_T62 l0 x3_1).f1.f1)) ∧ w'.cell? ⟨(ad319.add ((x3_1).toNat * 4)).block, (ad319.add ((x3_1).toNat * 4)).off + 3, none⟩ = some (.string ((rd_T62 l0 x3_1).f1.f2))) (ds := []) (mk_ 35 0) (by kernel_rfl) rfl rfl ⟨(cl_ HB hw319_0), (cl_ HB hw319_1), (cl_ HB hw319_2), (cl_ HB hw319_3), (cl_ HB hw321_0), (cl_ HB hw321_1), (cl_ HB hw321_2), (cl_ HB hw321_3)⟩ (fun hHeld => ?_); refine with_tabW constableref01_Binds.tab6 constableref01_Binds.bits6 (fun HT_ HW_ => ?_)
                  generalize wr.drew = w19 at HB hx319_0 hx319_1 hx319_2 hx319_3 hx321_0 hx321_1 hx321_2 hx321_3 hHeld ⊢
                  refine pu_ 0 13 1 HT_ ?_; refine pu_ 1 14 3 HT_ ?_; refine pu_ 2 15 7 HT_ ?_; refine pu_ 3 16 15 HT_ ?_; refine tk_ 4 17 31 HT_ HW_ hHeld ?_
                  refine one_ (i := 5) (N := some 18) (mk_ 35 63) rfl rfl (one_of HT_.out (by kernel_rfl)) (by decide) (fun K hK => ?_)
                  refine goes_ Try.func45 (by kernel_rfl) rfl #[.string ((rd_T62 l0 x3_1).f0), .bool true] (by rfl) rfl rfl ga_ ?_
                  with_reducible refine (constableref01_Word.calls k1 ((rd_T62 l0 x3_1).f0) true true _ A5.out).mono ?_
                  rintro e w' ⟨rfl, ⟨nd, rfl⟩⟩
                  refine ⟨_, rfl, ?_⟩
                  refine hK.out _ _ ⟨(cl_ HB hw319_0), (cl_ HB hw319_1), (cl_ HB hw319_2), (cl_ HB hw319_3), (cl_ HB hw321_0), (cl_ HB hw321_1), (cl_ HB hw321_2), (cl_ HB hw321_3)⟩ (fun hHeld => ?_)
                  clear hK K
                  refine nm_ 18 ?_; refine pu_ 6 19 127 HT_ ?_; refine pu_ 7 20 255 HT_ ?_; refine pu_ 8 21 511 HT_ ?_; refine pu_ 9 22 1023 HT_ ?_; refine pu_ 10 23 2047 HT_ ?_; refine pu_ 11 24 4095 HT_ ?_; refine tk_ 12 25 8191 HT_ HW_ hHeld ?_
                  refine one_ (i := 13) (N := some 26) (mk_ 35 16383) rfl rfl (one_of HT_.out (by kernel_rfl)) (by decide) (fun K hK => ?_)
                  refine goes_ Try.func46 (by kernel_rfl) rfl #[.agg #[.int .i64 ((rd_T62 l0 x3_1).f1.f0), .int .i64 ((rd_T62 l0 x3_1).f1.f1), .string ((rd_T62 l0 x3_1).f1.f2)]] (by rfl) rfl rfl ga_ ?_
                  with_reducible refine (constableref01_Value.calls k1 ((rd_T62 l0 x3_1).f1.f0) ((rd_T62 l0 x3_1).f1.f1) ((rd_T62 l0 x3_1).f1.f2) true _ A7.out).mono ?_
                  rintro e w20 ⟨rfl, hb⟩
                  refine ⟨_, rfl, ?_⟩
                  have n0_ := bs_ (be_ HB) hb
                  clear HB
                  have HB := n0_
                  clear n0_
                  (try clear hb)
                  (try clear hb2)
                  (try clear hk)
                  (try clear hi)
                  refine hK.out _ _ ⟨(cl_ HB hw319_0), (cl_ HB hw319_1), (cl_ HB hw319_2), (cl_ HB hw319_3), (cl_ HB hw321_0), (cl_ HB hw321_1), (cl_ HB hw321_2), (cl_ HB hw321_3)⟩ (fun hHeld => ?_)
                  clear hK K
                  refine nm_ 26 ?_; refine pu_ 14 27 32767 HT_ ?_; refine pu_ 15 28 65535 HT_ ?_; refine pu_ 16 29 131071 HT_ ?_; refine pu_ 17 30 262143 HT_ ?_; refine pu_ 18 31 524287 HT_ ?_; refine pu_ 19 32 1048575 HT_ ?_; refine pn_ 20 33 2097151 HT_ ?_; refine pn_ 21 34 4194303 HT_ ?_; refine pn_ 22 35 8388607 HT_ ?_; refine pn_ 23 36 16777215 HT_ ?_; refine pn_ 24 37 33554431 HT_ ?_; refine pn_ 25 38 67108863 HT_ ?_; refine pn_ 26 39 134217727 HT_ ?_; refine pn_ 27 40 268435455 HT_ ?_; refine pn_ 28 41 536870911 HT_ ?_; refine pn_ 29 42 1073741823 HT_ ?_; refine pn_ 30 43 2147483647 HT_ ?_; refine pn_ 31 44 4294967295 HT_ ?_; refine pn_ 32 45 8589934591 HT_ ?_; refine pu_ 33 46 17179869183 HT_ ?_; refine pu_ 34 47 34359738367 HT_ ?_
                  refine done_ (done_of HT_.out (by kernel_rfl)) ?_
                  try go_wp2
                  go_roundg k1
                  case measure => have := HK1.out; omega
                  case rel => exact ⟨(wrap64 (x3_1 + 1)), ra_, H', ⟨by have := HK1.out; omega⟩, ⟨by repeat (first | (with_reducible first | exact HB.out | apply below_alloc | apply pw_below_drewN | apply below_drew1) | exact HB.out)⟩⟩
              · replace c8 := Bool.eq_false_iff.mpr c8
                subst c8
                have H1 : (some false) = some r := by rw [if_neg (show ¬ (false = true) by decide)] at H; exact H
                clear H
                have H := H1
                clear H1
                obtain rfl := Option.some.inj H
                try go_wp2
                have n0_ := Aside0.mk (below_drew1 HB.out)
                clear HB
                have HB := n0_
                clear n0_
                have p319 : 0 ≤ (x3_1 : Int) := dt_
                have q319 : x3_1 < (l0.length : Int) := dt_
                obtain ⟨ad319, e319, hx319_0, hx319_1, hx319_2, hx319_3⟩ := at_T62 HR0.out x3_1 p319 q319
                have hw319_3 := hx319_3
                have hw319_2 := hx319_2
                have hw319_1 := hx319_1
                have hw319_0 := hx319_0
                cases e319
                replace hx319_0 := cm_ HB hx319_0
                replace hx319_1 := cm_ HB hx319_1
                replace hx319_2 := cm_ HB hx319_2
                replace hx319_3 := cm_ HB hx319_3
                replace p319 := eq_true p319
                replace q319 := eq_true q319
                have p321 : 0 ≤ (x3_1 : Int) := dt_
                have q321 : x3_1 < (l0.length : Int) := dt_
                obtain ⟨ad321, e321, hx321_0, hx321_1, hx321_2, hx321_3⟩ := at_T62 HR0.out x3_1 p321 q321
                have hw321_3 := hx321_3
                have hw321_2 := hx321_2
                have hw321_1 := hx321_1
                have hw321_0 := hx321_0
                obtain rfl : ad319 = ad321 := (by injection e321)
                replace hx321_0 := cm_ HB hx321_0
                replace hx321_1 := cm_ HB hx321_1
                replace hx321_2 := cm_ HB hx321_2
                replace hx321_3 := cm_ HB hx321_3
                replace p321 := eq_true p321
                replace q321 := eq_true q321
                refine start_ (n := 35) (S := fun w' => w'.cell? (ad319.add ((x3_1).toNat * 4)) = some (.string ((rd_T62 l0 x3_1).f0)) ∧ w'.cell? ⟨(ad319.add ((x3_1).toNat * 4)).block, (ad319.add ((x3_1).toNat * 4)).off + 1, none⟩ = some (.int .i64 ((rd_T62 l0 x3_1).f1.f0)) ∧ w'.cell? ⟨(ad319.add ((x3_1).toNat * 4)).block, (ad319.add ((x3_1).toNat * 4)).off + 2, none⟩ = some (.int .i64 ((rd_T62 l0 x3_1).f1.f1)) ∧ w'.cell? ⟨(ad319.add ((x3_1).toNat * 4)).block, (ad319.add ((x3_1).toNat * 4)).off + 3, none⟩ = some (.string ((rd_T62 l0 x3_1).f1.f2)) ∧ w'.cell? (ad319.add ((x3_1).toNat * 4)) = some (.string ((rd_T62 l0 x3_1).f0)) ∧ w'.cell? ⟨(ad319.add ((x3_1).toNat * 4)).block, (ad319.add ((x3_1).toNat * 4)).off + 1, none⟩ = some (.int .i64 ((rd_T62 l0 x3_1).f1.f0)) ∧ w'.cell? ⟨(ad319.add ((x3_1).toNat * 4)).block, (ad319.add ((x3_1).toNat * 4)).off + 2, none⟩ = some (.int .i64 ((rd_T62 l0 x3_1).f1.f1)) ∧ w'.cell? ⟨(ad319.add ((x3_1).toNat * 4)).block, (ad319.add ((x3_1).toNat * 4)).off + 3, none⟩ = some (.string ((rd_T62 l0 x3_1).f1.f2))) (ds := []) (mk_ 35 0) (by kernel_rfl) rfl rfl ⟨(cl_ HB hw319_0), (cl_ HB hw319_1), (cl_ HB hw319_2), (cl_ HB hw319_3), (cl_ HB hw321_0), (cl_ HB hw321_1), (cl_ HB hw321_2), (cl_ HB hw321_3)⟩ (fun hHeld => ?_); refine with_tabW constableref01_Binds.tab6 constableref01_Binds.bits6 (fun HT_ HW_ => ?_)
                generalize wr.drew = w21 at HB hx319_0 hx319_1 hx319_2 hx319_3 hx321_0 hx321_1 hx321_2 hx321_3 hHeld ⊢
                refine pu_ 0 13 1 HT_ ?_; refine pu_ 1 14 3 HT_ ?_; refine pu_ 2 15 7 HT_ ?_; refine pu_ 3 16 15 HT_ ?_; refine tk_ 4 17 31 HT_ HW_ hHeld ?_
                refine one_ (i := 5) (N := some 18) (mk_ 35 63) rfl rfl (one_of HT_.out (by kernel_rfl)) (by decide) (fun K hK => ?_)
                refine goes_ Try.func45 (by kernel_rfl) rfl #[.string ((rd_T62 l0 x3_1).f0), .bool true] (by rfl) rfl rfl ga_ ?_
                with_reducible refine (constableref01_Word.calls k1 ((rd_T62 l0 x3_1).f0) true true _ A5.out).mono ?_
                rintro e w' ⟨rfl, ⟨nd, rfl⟩⟩
                refine ⟨_, rfl, ?_⟩
                refine hK.out _ _ ⟨(cl_ HB hw319_0), (cl_ HB hw319_1), (cl_ HB hw319_2), (cl_ HB hw319_3), (cl_ HB hw321_0), (cl_ HB hw321_1), (cl_ HB hw321_2), (cl_ HB hw321_3)⟩ (fun hHeld => ?_)
                clear hK K
                refine nm_ 18 ?_; refine pu_ 6 19 127 HT_ ?_; refine pu_ 7 20 255 HT_ ?_; refine pu_ 8 21 511 HT_ ?_; refine pu_ 9 22 1023 HT_ ?_; refine pu_ 10 23 2047 HT_ ?_; refine pu_ 11 24 4095 HT_ ?_; refine tk_ 12 25 8191 HT_ HW_ hHeld ?_
                refine one_ (i := 13) (N := some 26) (mk_ 35 16383) rfl rfl (one_of HT_.out (by kernel_rfl)) (by decide) (fun K hK => ?_)
                refine goes_ Try.func46 (by kernel_rfl) rfl #[.agg #[.int .i64 ((rd_T62 l0 x3_1).f1.f0), .int .i64 ((rd_T62 l0 x3_1).f1.f1), .string ((rd_T62 l0 x3_1).f1.f2)]] (by rfl) rfl rfl ga_ ?_
                with_reducible refine (constableref01_Value.calls k1 ((rd_T62 l0 x3_1).f1.f0) ((rd_T62 l0 x3_1).f1.f1) ((rd_T62 l0 x3_1).f1.f2) false _ A7.out).mono ?_
                rintro e w22 ⟨rfl, hb⟩
                refine ⟨_, rfl, ?_⟩
                have n0_ := bs_ (be_ HB) hb
                clear HB
                have HB := n0_
                clear n0_
                (try clear hb)
                (try clear hb2)
                (try clear hk)
                (try clear hi)
                refine hK.out _ _ ⟨(cl_ HB hw319_0), (cl_ HB hw319_1), (cl_ HB hw319_2), (cl_ HB hw319_3), (cl_ HB hw321_0), (cl_ HB hw321_1), (cl_ HB hw321_2), (cl_ HB hw321_3)⟩ (fun hHeld => ?_)
                clear hK K
                refine nm_ 26 ?_; refine pu_ 14 27 32767 HT_ ?_; refine pu_ 15 28 65535 HT_ ?_; refine pu_ 16 29 131071 HT_ ?_; refine pn_ 17 30 262143 HT_ ?_; refine pn_ 18 31 524287 HT_ ?_; refine pn_ 19 32 1048575 HT_ ?_; refine pn_ 20 33 2097151 HT_ ?_; refine pn_ 21 34 4194303 HT_ ?_; refine pn_ 22 35 8388607 HT_ ?_; refine pn_ 23 36 16777215 HT_ ?_; refine pn_ 24 37 33554431 HT_ ?_; refine pn_ 25 38 67108863 HT_ ?_; refine pn_ 26 39 134217727 HT_ ?_; refine pn_ 27 40 268435455 HT_ ?_; refine pn_ 28 41 536870911 HT_ ?_; refine pn_ 29 42 1073741823 HT_ ?_; refine pn_ 30 43 2147483647 HT_ ?_; refine pn_ 31 44 4294967295 HT_ ?_; refine pn_ 32 45 8589934591 HT_ ?_; refine pn_ 33 46 17179869183 HT_ ?_; refine pu_ 34 47 34359738367 HT_ ?_
                refine done_ (done_of HT_.out (by kernel_rfl)) ?_
                try go_wp2
                go_ret
                exact ⟨by first | rfl | (simp [errW_none, errW_some] <;> rfl) | (simp [*, errW_none, errW_some] <;> rfl), by repeat (first | (with_reducible first | exact HB.out | apply below_alloc | apply pw_below_drewN | apply below_drew1) | exact HB.out)⟩
            · replace c6 := Bool.eq_false_iff.mpr c6
              subst c6
              have H1 : (some false) = some r := by rw [if_neg (show ¬ (false = true) by decide)] at H; exact H
              clear H
              have H := H1
              clear H1
              obtain rfl := Option.some.inj H
              try go_wp2
              have n0_ := Aside0.mk (below_drew1 HB.out)
              clear HB
              have HB := n0_
              clear n0_
              have p319 : 0 ≤ (x3_1 : Int) := dt_
              have q319 : x3_1 < (l0.length : Int) := dt_
              obtain ⟨ad319, e319, hx319_0, hx319_1, hx319_2, hx319_3⟩ := at_T62 HR0.out x3_1 p319 q319
              have hw319_3 := hx319_3
              have hw319_2 := hx319_2
              have hw319_1 := hx319_1
              have hw319_0 := hx319_0
              cases e319
              replace hx319_0 := cm_ HB hx319_0
              replace hx319_1 := cm_ HB hx319_1
              replace hx319_2 := cm_ HB hx319_2
              replace hx319_3 := cm_ HB hx319_3
              replace p319 := eq_true p319
              replace q319 := eq_true q319
              refine start_ (n := 35) (S := fun w' => w'.cell? (ad319.add ((x3_1).toNat * 4)) = some (.string ((rd_T62 l0 x3_1).f0)) ∧ w'.cell? ⟨(ad319.add ((x3_1).toNat * 4)).block, (ad319.add ((x3_1).toNat * 4)).off + 1, none⟩ = some (.int .i64 ((rd_T62 l0 x3_1).f1.f0)) ∧ w'.cell? ⟨(ad319.add ((x3_1).toNat * 4)).block, (ad319.add ((x3_1).toNat * 4)).off + 2, none⟩ = some (.int .i64 ((rd_T62 l0 x3_1).f1.f1)) ∧ w'.cell? ⟨(ad319.add ((x3_1).toNat * 4)).block, (ad319.add ((x3_1).toNat * 4)).off + 3, none⟩ = some (.string ((rd_T62 l0 x3_1).f1.f2))) (ds := []) (mk_ 35 0) (by kernel_rfl) rfl rfl ⟨(cl_ HB hw319_0), (cl_ HB hw319_1), (cl_ HB hw319_2), (cl_ HB hw319_3)⟩ (fun hHeld => ?_); refine with_tabW constableref01_Binds.tab6 constableref01_Binds.bits6 (fun HT_ HW_ => ?_)
              generalize wr.drew = w23 at HB hx319_0 hx319_1 hx319_2 hx319_3 hHeld ⊢
              refine pu_ 0 13 1 HT_ ?_; refine pu_ 1 14 3 HT_ ?_; refine pu_ 2 15 7 HT_ ?_; refine pu_ 3 16 15 HT_ ?_; refine tk_ 4 17 31 HT_ HW_ hHeld ?_
              refine one_ (i := 5) (N := some 18) (mk_ 35 63) rfl rfl (one_of HT_.out (by kernel_rfl)) (by decide) (fun K hK => ?_)
              refine goes_ Try.func45 (by kernel_rfl) rfl #[.string ((rd_T62 l0 x3_1).f0), .bool true] (by rfl) rfl rfl ga_ ?_
              with_reducible refine (constableref01_Word.calls k1 ((rd_T62 l0 x3_1).f0) true false _ A5.out).mono ?_
              rintro e w' ⟨rfl, ⟨nd, rfl⟩⟩
              refine ⟨_, rfl, ?_⟩
              refine hK.out _ _ ⟨(cl_ HB hw319_0), (cl_ HB hw319_1), (cl_ HB hw319_2), (cl_ HB hw319_3)⟩ (fun hHeld => ?_)
              clear hK K
              refine nm_ 18 ?_; refine pu_ 6 19 127 HT_ ?_; refine pu_ 7 20 255 HT_ ?_; refine pn_ 8 21 511 HT_ ?_; refine pn_ 9 22 1023 HT_ ?_; refine pn_ 10 23 2047 HT_ ?_; refine pn_ 11 24 4095 HT_ ?_; refine pn_ 12 25 8191 HT_ ?_; refine pn_ 13 26 16383 HT_ ?_; refine pn_ 14 27 32767 HT_ ?_; refine pu_ 15 28 65535 HT_ ?_; refine pu_ 16 29 131071 HT_ ?_; refine pn_ 17 30 262143 HT_ ?_; refine pn_ 18 31 524287 HT_ ?_; refine pn_ 19 32 1048575 HT_ ?_; refine pn_ 20 33 2097151 HT_ ?_; refine pn_ 21 34 4194303 HT_ ?_; refine pn_ 22 35 8388607 HT_ ?_; refine pn_ 23 36 16777215 HT_ ?_; refine pn_ 24 37 33554431 HT_ ?_; refine pn_ 25 38 67108863 HT_ ?_; refine pn_ 26 39 134217727 HT_ ?_; refine pn_ 27 40 268435455 HT_ ?_; refine pn_ 28 41 536870911 HT_ ?_; refine pn_ 29 42 1073741823 HT_ ?_; refine pn_ 30 43 2147483647 HT_ ?_; refine pn_ 31 44 4294967295 HT_ ?_; refine pn_ 32 45 8589934591 HT_ ?_; refine pn_ 33 46 17179869183 HT_ ?_; refine pu_ 34 47 34359738367 HT_ ?_
              refine done_ (done_of HT_.out (by kernel_rfl)) ?_
              try go_wp2
              go_ret
              exact ⟨by first | rfl | (simp [errW_none, errW_some] <;> rfl) | (simp [*, errW_none, errW_some] <;> rfl), by repeat (first | (with_reducible first | exact HB.out | apply below_alloc | apply pw_below_drewN | apply below_drew1) | exact HB.out)⟩
          · rw [if_neg c4] at H
            exact absurd H (by simp)
        · rw [if_neg c3] at H
          have c3b0 : decide (x3_1 < (l0.length : Int)) = false := decide_eq_false c3
          clear c3
          obtain rfl := Option.some.inj H
          go_wp2
          go_ret
          exact ⟨by first | rfl | (simp [errW_none, errW_some] <;> rfl) | (simp [*, errW_none, errW_some] <;> rfl), by repeat (first | (with_reducible first | exact HB.out | apply below_alloc | apply pw_below_drewN | apply below_drew1) | exact HB.out)⟩
end Go.Proofs.Ytconpnagoijacaa.P
end
section
namespace Go.Proofs.Ytconpnagoijacaa.P
open Go.RowKit Go.Proofs.YtconpnagoijacaaW.PrintWords Go.Proofs.YtconpnagoijacaaW.PrintLast Go.Proofs.YtconpnagoijacaaW.PrintMore
attribute [local go_sem] max2_int min2_int max_two min_two max_three min_three max_four min_four
set_option linter.unusedVariables false
set_option linter.unusedSimpArgs false
def constableref01_Get.l0 : Nat → List (S62) → ByteArray → Int → Option (Int × Int × ByteArray × Bool)
  | 0, _, _, _ => none
  | k + 1, x0, x1, x6 => if x6 < (x0.length : Int) then (if 0 ≤ x6 then (if ((rd_T62 x0 x6).f0).toList = x1.toList then (some ((rd_T62 x0 x6).f1.f0, (rd_T62 x0 x6).f1.f1, (rd_T62 x0 x6).f1.f2, true)) else (constableref01_Get.l0 k x0 x1 (wrap64 (x6 + 1)))) else (none)) else (some (0, 0, (⟨#[]⟩ : ByteArray), false))
def constableref01_Get.f (k : Nat) (l0 : List (S62)) (a1 : ByteArray) : Option (Int × Int × ByteArray × Bool) := constableref01_Get.l0 k l0 a1 0
theorem constableref01_Get.mono_l : ∀ k, (∀ y0 y1 y2, LeO (constableref01_Get.l0 k y0 y1 y2) (constableref01_Get.l0 (k + 1) y0 y1 y2))
  | 0 => fun _ _ _ r h => by simp [constableref01_Get.l0] at h
  | k + 1 => by
    have ih0 := constableref01_Get.mono_l k
    · intro y0 y1 y2
      unfold constableref01_Get.l0
      repeat' first
      | (with_reducible exact ih0 _ _ _)
      | (with_reducible exact LeO.refl _)
      | (with_reducible exact LeO.none _)
      | (with_reducible refine LeO.ite ?_ ?_)
      | (with_reducible refine LeO.bind ?_ (fun _ => ?_))
      | exact ih0 _ _ _
      | exact LeO.none _
      | refine LeO.ite ?_ ?_
      | refine LeO.bind ?_ (fun _ => ?_)
theorem constableref01_Get.mono : ∀ a0 a1 k, LeO (constableref01_Get.f k a0 a1) (constableref01_Get.f (k + 1) a0 a1) := by
  intro a0 a1 k
  have ih0 := constableref01_Get.mono_l k
  unfold constableref01_Get.f
  repeat' first
      | (with_reducible exact ih0 _ _ _)
      | (with_reducible exact LeO.refl _)
      | (with_reducible exact LeO.none _)
      | (with_reducible refine LeO.ite ?_ ?_)
      | (with_reducible refine LeO.bind ?_ (fun _ => ?_))
      | exact ih0 _ _ _
      | exact LeO.none _
      | refine LeO.ite ?_ ?_
      | refine LeO.bind ?_ (fun _ => ?_)
set_option maxHeartbeats 8000000 in
set_option maxRecDepth 100000 in
theorem constableref01_Get.calls (k : Nat) (A0 : Option Addr) (c0 : Nat) (l0 : List (S62)) (a1 : ByteArray) (r1 : Int) (r2 : Int) (r3 : ByteArray) (r4 : Bool) (w : World) (hr0 : Kd.C k62 w A0 l0.length l0) (hc0 : l0.length ≤ c0) (h : constableref01_Get.f k l0 a1 = some (r1, r2, r3, r4)) :
    Calls Try.prog 34 #[.slice A0 l0.length c0, .string a1] w fun e w' => e = .returned (.tuple #[.agg #[.int .i64 r1, .int .i64 r2, .string r3], .bool r4]) ∧ Below w.heap.size w w' := by
  have hu40 := Try.underlying40
  have HR0 := Aside0.mk hr0
  have HC0 := Aside0.mk hc0
  clear hr0 hc0
  have HB := Aside0.mk (Below.refl w.heap.size w)
  have H : (constableref01_Get.l0 k l0 a1 0) = some (r1, r2, r3, r4) := h
  clear h
  have H' := Aside0.mk H
  clear H
  go_enter Try.func34, Try.ntmps34
  go_wp2_with (first | ((with_reducible refine gate_dst (N := 4) rfl ?_); refine box_event ?hg (N := 4) ?hd (cs := #[.int .i64 0, .int .i64 0, .string (⟨#[]⟩ : ByteArray)]) (t := 40) ?hr ?_; (case hd => rfl); (case hg => rfl); (case hr => first | (go_simp; done) | (go_simp; rfl)); intro gb350 hg w3 hbox hb; have n0_ := bs_ (be_ HB) hb; have n1_ := Aside0.mk (hbox); have n2_ := gs_ hg (be_ HB); have n3_ := gs_ hg (be_ HB); clear HB; have HB := n0_; have BK350 := n1_; have GW350 := n2_; have GE350 := n3_; clear n0_ n1_ n2_ n3_; clear hb hbox hg))
  go_loopg [6] k (fun kq v6 w' => ∃ (x6_1 : Int) (x351000_1 : Int) (x351001_1 : Int) (x351002_1 : ByteArray), v6 = .int .i64 x6_1 ∧ Aside0 (constableref01_Get.l0 kq l0 a1 x6_1 = some (r1, r2, r3, r4)) ∧ Aside0 (kq ≤ k) ∧ Aside0 (w'.heap[gb350]? = some (.cells #[.int .i64 x351000_1, .int .i64 x351001_1, .string x351002_1] 40 (0, 0))) ∧ Aside0 (Below w.heap.size w w'))
  case atStart => exact ⟨(0), (0), (0), ((⟨#[]⟩ : ByteArray)), ra_, H', ⟨Nat.le_refl _⟩, ⟨by (with_reducible repeat (first | refine blk_drewN ?_ _ | refine blk_drew ?_ | refine blk_alloc ?_ _)); exact BK350.out⟩, ⟨by repeat (first | (with_reducible first | exact HB.out | apply below_alloc | apply pw_below_drewN | apply below_drew1 | refine below_set ?_ GE350.out) | exact HB.out)⟩⟩
  case round =>
    clear H'
    try clear p2
    try clear c3
    obtain ⟨x6_1, x351000_1, x351001_1, x351002_1, rfl, HA, HK1, BK350, HB⟩ := hrel
    cases gk with
    | zero => exact absurd HA.out (by simp [constableref01_Get.l0])
    | succ k1 =>
      have H := HA.out
      clear HA
      simp only [constableref01_Get.l0] at H
      by_cases c4 : x6_1 < (l0.length : Int)
      · rw [if_pos c4] at H
        have c4b0 : decide (x6_1 < (l0.length : Int)) = true := decide_eq_true c4
        clear c4
        by_cases c5 : 0 ≤ x6_1
        · rw [if_pos c5] at H
          have c5b0 : decide (0 ≤ x6_1) = true := decide_eq_true c5
          clear c5
          by_cases c6 : ((rd_T62 l0 x6_1).f0).toList = a1.toList
          · rw [if_pos c6] at H
            obtain ⟨c6b0, c6b1⟩ := eqB_ c6
            clear c6
            simp only [Option.some.injEq, Prod.mk.injEq] at H
            obtain ⟨rfl, rfl, rfl, rfl⟩ := H
            have p351 : 0 ≤ (x6_1 : Int) := dt_
            have q351 : x6_1 < (l0.length : Int) := dt_
            obtain ⟨ad351, e351, hx351_0, hx351_1, hx351_2, hx351_3⟩ := at_T62 HR0.out x6_1 p351 q351
            cases e351
            replace hx351_0 := cm_ HB hx351_0
            replace hx351_1 := cm_ HB hx351_1
            replace hx351_2 := cm_ HB hx351_2
            replace hx351_3 := cm_ HB hx351_3
            replace p351 := eq_true p351
            replace q351 := eq_true q351
            have p352 : 0 ≤ (x6_1 : Int) := dt_
            have q352 : x6_1 < (l0.length : Int) := dt_
            obtain ⟨ad352, e352, hx352_0, hx352_1, hx352_2, hx352_3⟩ := at_T62 HR0.out x6_1 p352 q352
            obtain rfl : ad351 = ad352 := (by injection e352)
            replace hx352_0 := cm_ HB hx352_0
            replace hx352_1 := cm_ HB hx352_1
            replace hx352_2 := cm_ HB hx352_2
            replace hx352_3 := cm_ HB hx352_3
            replace p352 := eq_true p352
            replace q352 := eq_true q352
            have hcz7_0 : wr.cell? ⟨gb350, 0, none⟩ = some (.int .i64 x351000_1) := (blk_cell BK350.out 0).trans rfl
            have hcz7_1 : wr.cell? ⟨gb350, 1, none⟩ = some (.int .i64 x351001_1) := (blk_cell BK350.out 1).trans rfl
            have hcz7_2 : wr.cell? ⟨gb350, 2, none⟩ = some (.string x351002_1) := (blk_cell BK350.out 2).trans rfl
            have hfz7_0 := blk_frozen BK350.out 0
            have hfz7_1 := blk_frozen BK350.out 1
            have hfz7_2 := blk_frozen BK350.out 2
            go_wp2
            refine bodyPost_ret (results_ct rfl _ _ gb350 40 #[.int .i64 ((rd_T62 l0 x6_1).f1.f0), .int .i64 ((rd_T62 l0 x6_1).f1.f1), .string ((rd_T62 l0 x6_1).f1.f2)] (0, 0) _ rfl (bp_ BK350) Try.underlying40 rfl (by kernel_rfl)) rfl ?_
            exact ⟨by first | rfl | (simp [errW_none, errW_some] <;> rfl) | (simp [*, errW_none, errW_some] <;> rfl), by repeat (first | (with_reducible first | exact HB.out | apply below_alloc | apply pw_below_drewN | apply below_drew1 | refine below_set ?_ GE350.out) | exact HB.out)⟩
          · rw [if_neg c6] at H
            obtain ⟨c6b0, c6b1⟩ := neB_ c6
            have H' := Aside0.mk H
            clear H
            have p351 : 0 ≤ (x6_1 : Int) := dt_
            have q351 : x6_1 < (l0.length : Int) := dt_
            obtain ⟨ad351, e351, hx351_0, hx351_1, hx351_2, hx351_3⟩ := at_T62 HR0.out x6_1 p351 q351
            cases e351
            replace hx351_0 := cm_ HB hx351_0
            replace hx351_1 := cm_ HB hx351_1
            replace hx351_2 := cm_ HB hx351_2
            replace hx351_3 := cm_ HB hx351_3
            replace p351 := eq_true p351
            replace q351 := eq_true q351
            go_wp2
            go_roundg k1
            case measure => have := HK1.out; omega
            case rel => exact ⟨(wrap64 (x6_1 + 1)), (x351000_1), (x351001_1), (x351002_1), ra_, H', ⟨by have := HK1.out; omega⟩, ⟨by (with_reducible repeat (first | refine blk_drewN ?_ _ | refine blk_drew ?_ | refine blk_alloc ?_ _)); exact BK350.out⟩, ⟨by repeat (first | (with_reducible first | exact HB.out | apply below_alloc | apply pw_below_drewN | apply below_drew1 | refine below_set ?_ GE350.out) | exact HB.out)⟩⟩
        · rw [if_neg c5] at H
          exact absurd H (by simp)
      · rw [if_neg c4] at H
        have c4b0 : decide (x6_1 < (l0.length : Int)) = false := decide_eq_false c4
        clear c4
        simp only [Option.some.injEq, Prod.mk.injEq] at H
        obtain ⟨rfl, rfl, rfl, rfl⟩ := H
        have hcz8_0 : wr.cell? ⟨gb350, 0, none⟩ = some (.int .i64 x351000_1) := (blk_cell BK350.out 0).trans rfl
        have hcz8_1 : wr.cell? ⟨gb350, 1, none⟩ = some (.int .i64 x351001_1) := (blk_cell BK350.out 1).trans rfl
        have hcz8_2 : wr.cell? ⟨gb350, 2, none⟩ = some (.string x351002_1) := (blk_cell BK350.out 2).trans rfl
        have hfz8_0 := blk_frozen BK350.out 0
        have hfz8_1 := blk_frozen BK350.out 1
        have hfz8_2 := blk_frozen BK350.out 2
        go_wp2
        refine bodyPost_ret (results_ct rfl _ _ gb350 40 #[.int .i64 0, .int .i64 0, .string (⟨#[]⟩ : ByteArray)] (0, 0) _ rfl (bp_ BK350) Try.underlying40 rfl (by kernel_rfl)) rfl ?_
        exact ⟨by first | rfl | (simp [errW_none, errW_some] <;> rfl) | (simp [*, errW_none, errW_some] <;> rfl), by repeat (first | (with_reducible first | exact HB.out | apply below_alloc | apply pw_below_drewN | apply below_drew1 | refine below_set ?_ GE350.out) | exact HB.out)⟩
end Go.Proofs.Ytconpnagoijacaa.P
end
section
namespace Go.Proofs.Ytconpnagoijacaa.P
open Go.RowKit Go.Proofs.YtconpnagoijacaaW.PrintWords Go.Proofs.YtconpnagoijacaaW.PrintLast Go.Proofs.YtconpnagoijacaaW.PrintMore
attribute [local go_sem] max2_int min2_int max_two min_two max_three min_three max_four min_four
set_option linter.unusedVariables false
set_option linter.unusedSimpArgs false
mutual
def constableref01_Do.j0 : Nat → Int → Int → Int → Bool → Option (Int × Int)
  | 0, _, _, _, _ => none
  | k + 1, x0, x1, x2, x17 => if x17 = true then (some (0, 3)) else ((constableref01_In.f x1 (-4611686018427387904) 4611686018427387904).bind fun t113 => (if t113 = true then ((constableref01_In.f x2 (-4611686018427387904) 4611686018427387904).bind fun t114 => (constableref01_Do.j1 k x0 x1 x2 (!t114))) else (constableref01_Do.j1 k x0 x1 x2 true)))
def constableref01_Do.j1 : Nat → Int → Int → Int → Bool → Option (Int × Int)
  | 0, _, _, _, _ => none
  | k + 1, x0, x1, x2, x25 => if x25 = true then (some (0, 4)) else (if x0 = 4 then (constableref01_Do.j2 k x0 x1 x2 (x0 == 4)) else (constableref01_Do.j2 k x0 x1 x2 (x0 == 3)))
def constableref01_Do.j2 : Nat → Int → Int → Int → Bool → Option (Int × Int)
  | 0, _, _, _, _ => none
  | k + 1, x0, x1, x2, x27 => if x27 = true then (if x0 = 4 then (constableref01_Do.j3 k x1 (wrap64 (-x2))) else (constableref01_Do.j3 k x1 x2)) else (if x1 = 0 then (some (wrap64 (x1 * x2), 0)) else (if x2 = 0 then (some (wrap64 (x1 * x2), 0)) else (if (mx x2 (wrap64 (-x2))) = 0 then (none) else (if (mx x1 (wrap64 (-x1))) > (wrap64 (Int.tdiv (4611686018427387904 : Int) (mx x2 (wrap64 (-x2))))) then (some (0, 4)) else (some (wrap64 (x1 * x2), 0))))))
def constableref01_Do.j3 : Nat → Int → Int → Option (Int × Int)
  | 0, _, _ => none
  | k + 1, x1, x2 => if x2 > 0 then (if x1 > (wrap64 (4611686018427387904 - x2)) then (constableref01_Do.j4 k x1 x2 true) else (if x2 < 0 then (constableref01_Do.j4 k x1 x2 (decide (x1 < (wrap64 ((-4611686018427387904) - x2))))) else (constableref01_Do.j4 k x1 x2 false))) else (if x2 < 0 then (constableref01_Do.j4 k x1 x2 (decide (x1 < (wrap64 ((-4611686018427387904) - x2))))) else (constableref01_Do.j4 k x1 x2 false))
def constableref01_Do.j4 : Nat → Int → Int → Bool → Option (Int × Int)
  | 0, _, _, _ => none
  | k + 1, x1, x2, x51 => if x51 = true then (some (0, 4)) else (some (wrap64 (x1 + x2), 0))
end
def constableref01_Do.f (k : Nat) (a0 : Int) (a1 : Int) (a2 : Int) : Option (Int × Int) := if a0 = 3 then (constableref01_Do.j0 k a0 a1 a2 false) else (if a0 = 4 then (constableref01_Do.j0 k a0 a1 a2 false) else (constableref01_Do.j0 k a0 a1 a2 (a0 != 5)))
theorem constableref01_Do.mono_l : ∀ k, (∀ y0 y1 y2 y3, LeO (constableref01_Do.j0 k y0 y1 y2 y3) (constableref01_Do.j0 (k + 1) y0 y1 y2 y3)) ∧ (∀ y0 y1 y2 y3, LeO (constableref01_Do.j1 k y0 y1 y2 y3) (constableref01_Do.j1 (k + 1) y0 y1 y2 y3)) ∧ (∀ y0 y1 y2 y3, LeO (constableref01_Do.j2 k y0 y1 y2 y3) (constableref01_Do.j2 (k + 1) y0 y1 y2 y3)) ∧ (∀ y0 y1, LeO (constableref01_Do.j3 k y0 y1) (constableref01_Do.j3 (k + 1) y0 y1)) ∧ (∀ y0 y1 y2, LeO (constableref01_Do.j4 k y0 y1 y2) (constableref01_Do.j4 (k + 1) y0 y1 y2))
  | 0 => ⟨fun _ _ _ _ r h => by simp [constableref01_Do.j0] at h, fun _ _ _ _ r h => by simp [constableref01_Do.j1] at h, fun _ _ _ _ r h => by simp [constableref01_Do.j2] at h, fun _ _ r h => by simp [constableref01_Do.j3] at h, fun _ _ _ r h => by simp [constableref01_Do.j4] at h⟩
  | k + 1 => by
    obtain ⟨ih0, ih1, ih2, ih3, ih4⟩ := constableref01_Do.mono_l k
    refine ⟨?_, ?_, ?_, ?_, ?_⟩
    · intro y0 y1 y2 y3
      unfold constableref01_Do.j0
      repeat' first
      | (with_reducible exact ih0 _ _ _ _)
      | (with_reducible exact ih1 _ _ _ _)
      | (with_reducible exact ih2 _ _ _ _)
      | (with_reducible exact ih3 _ _)
      | (with_reducible exact ih4 _ _ _)
      | (with_reducible exact LeO.refl _)
      | (with_reducible exact LeO.none _)
      | (with_reducible refine LeO.ite ?_ ?_)
      | (with_reducible refine LeO.bind ?_ (fun _ => ?_))
      | exact ih0 _ _ _ _
      | exact ih1 _ _ _ _
      | exact ih2 _ _ _ _
      | exact ih3 _ _
      | exact ih4 _ _ _
      | exact LeO.none _
      | refine LeO.ite ?_ ?_
      | refine LeO.bind ?_ (fun _ => ?_)
    · intro y0 y1 y2 y3
      unfold constableref01_Do.j1
      repeat' first
      | (with_reducible exact ih0 _ _ _ _)
      | (with_reducible exact ih1 _ _ _ _)
      | (with_reducible exact ih2 _ _ _ _)
      | (with_reducible exact ih3 _ _)
      | (with_reducible exact ih4 _ _ _)
      | (with_reducible exact LeO.refl _)
      | (with_reducible exact LeO.none _)
      | (with_reducible refine LeO.ite ?_ ?_)
      | (with_reducible refine LeO.bind ?_ (fun _ => ?_))
      | exact ih0 _ _ _ _
      | exact ih1 _ _ _ _
      | exact ih2 _ _ _ _
      | exact ih3 _ _
      | exact ih4 _ _ _
      | exact LeO.none _
      | refine LeO.ite ?_ ?_
      | refine LeO.bind ?_ (fun _ => ?_)
    · intro y0 y1 y2 y3
      unfold constableref01_Do.j2
      repeat' first
      | (with_reducible exact ih0 _ _ _ _)
      | (with_reducible exact ih1 _ _ _ _)
      | (with_reducible exact ih2 _ _ _ _)
      | (with_reducible exact ih3 _ _)
      | (with_reducible exact ih4 _ _ _)
      | (with_reducible exact LeO.refl _)
      | (with_reducible exact LeO.none _)
      | (with_reducible refine LeO.ite ?_ ?_)
      | (with_reducible refine LeO.bind ?_ (fun _ => ?_))
      | exact ih0 _ _ _ _
      | exact ih1 _ _ _ _
      | exact ih2 _ _ _ _
      | exact ih3 _ _
      | exact ih4 _ _ _
      | exact LeO.none _
      | refine LeO.ite ?_ ?_
      | refine LeO.bind ?_ (fun _ => ?_)
    · intro y0 y1
      unfold constableref01_Do.j3
      repeat' first
      | (with_reducible exact ih0 _ _ _ _)
      | (with_reducible exact ih1 _ _ _ _)
      | (with_reducible exact ih2 _ _ _ _)
      | (with_reducible exact ih3 _ _)
      | (with_reducible exact ih4 _ _ _)
      | (with_reducible exact LeO.refl _)
      | (with_reducible exact LeO.none _)
      | (with_reducible refine LeO.ite ?_ ?_)
      | (with_reducible refine LeO.bind ?_ (fun _ => ?_))
      | exact ih0 _ _ _ _
      | exact ih1 _ _ _ _
      | exact ih2 _ _ _ _
      | exact ih3 _ _
      | exact ih4 _ _ _
      | exact LeO.none _
      | refine LeO.ite ?_ ?_
      | refine LeO.bind ?_ (fun _ => ?_)
    · intro y0 y1 y2
      unfold constableref01_Do.j4
      repeat' first
      | (with_reducible exact ih0 _ _ _ _)
      | (with_reducible exact ih1 _ _ _ _)
      | (with_reducible exact ih2 _ _ _ _)
      | (with_reducible exact ih3 _ _)
      | (with_reducible exact ih4 _ _ _)
      | (with_reducible exact LeO.refl _)
      | (with_reducible exact LeO.none _)
      | (with_reducible refine LeO.ite ?_ ?_)
      | (with_reducible refine LeO.bind ?_ (fun _ => ?_))
      | exact ih0 _ _ _ _
      | exact ih1 _ _ _ _
      | exact ih2 _ _ _ _
      | exact ih3 _ _
      | exact ih4 _ _ _
      | exact LeO.none _
      | refine LeO.ite ?_ ?_
      | refine LeO.bind ?_ (fun _ => ?_)
theorem constableref01_Do.mono : ∀ a0 a1 a2 k, LeO (constableref01_Do.f k a0 a1 a2) (constableref01_Do.f (k + 1) a0 a1 a2) := by
  intro a0 a1 a2 k
  obtain ⟨ih0, ih1, ih2, ih3, ih4⟩ := constableref01_Do.mono_l k
  unfold constableref01_Do.f
  repeat' first
      | (with_reducible exact ih0 _ _ _ _)
      | (with_reducible exact ih1 _ _ _ _)
      | (with_reducible exact ih2 _ _ _ _)
      | (with_reducible exact ih3 _ _)
      | (with_reducible exact ih4 _ _ _)
      | (with_reducible exact LeO.refl _)
      | (with_reducible exact LeO.none _)
      | (with_reducible refine LeO.ite ?_ ?_)
      | (with_reducible refine LeO.bind ?_ (fun _ => ?_))
      | exact ih0 _ _ _ _
      | exact ih1 _ _ _ _
      | exact ih2 _ _ _ _
      | exact ih3 _ _
      | exact ih4 _ _ _
      | exact LeO.none _
      | refine LeO.ite ?_ ?_
      | refine LeO.bind ?_ (fun _ => ?_)
set_option maxHeartbeats 8000000 in
set_option maxRecDepth 100000 in
theorem constableref01_Do.calls (k : Nat) (a0 : Int) (a1 : Int) (a2 : Int) (r1 : Int) (r2 : Int) (w : World) (h : constableref01_Do.f k a0 a1 a2 = some (r1, r2)) :
    Calls Try.prog 14 #[.int .i64 a0, .int .i64 a1, .int .i64 a2] w fun e w' => e = .returned (.tuple #[.int .i64 r1, .int .i64 r2]) ∧ Below w.heap.size w w' := by
  have HB := Aside0.mk (Below.refl w.heap.size w)
  have H : (if a0 = 3 then (constableref01_Do.j0 k a0 a1 a2 false) else (if a0 = 4 then (constableref01_Do.j0 k a0 a1 a2 false) else (constableref01_Do.j0 k a0 a1 a2 (a0 != 5)))) = some (r1, r2) := h
  clear h
  have HC4 := Aside0.mk H
  clear H
  go_enter Try.func14, Try.ntmps14
  go_upto_region 1 with (fail)
  go_cut [17] (fun v17 wc => ∃ (kq : Nat) (x17_3 : Bool), v17 = .bool x17_3 ∧ Aside0 (constableref01_Do.j0 kq a0 a1 a2 x17_3 = some (r1, r2)) ∧ Aside0 (kq ≤ k) ∧ Aside0 (Below w.heap.size w wc))
  case first =>
    have H := HC4.out
    clear HC4
    by_cases c5 : a0 = 3
    · rw [if_pos c5] at H
      obtain ⟨c5b0, c5b1⟩ := eqB_ c5
      clear c5
      (first | rw [c5b0] | (simp only [i64_w, i32_w]; rw [c5b0]) | skip)
      have H' := Aside0.mk H
      clear H
      go_wp2
      go_meet
      case rel => exact ⟨_, (false), ra_, H', ⟨by first | omega | exact Nat.le_refl _⟩, ⟨by repeat (first | (with_reducible first | exact HB.out | apply below_alloc | apply pw_below_drewN | apply below_drew1) | exact HB.out)⟩⟩
    · rw [if_neg c5] at H
      obtain ⟨c5b0, c5b1⟩ := neB_ c5
      (first | rw [c5b0] | (simp only [i64_w, i32_w]; rw [c5b0]) | skip)
      by_cases c6 : a0 = 4
      · rw [if_pos c6] at H
        obtain ⟨c6b0, c6b1⟩ := eqB_ c6
        clear c6
        have H' := Aside0.mk H
        clear H
        go_wp2
        go_meet
        case rel => exact ⟨_, (false), ra_, H', ⟨by first | omega | exact Nat.le_refl _⟩, ⟨by repeat (first | (with_reducible first | exact HB.out | apply below_alloc | apply pw_below_drewN | apply below_drew1) | exact HB.out)⟩⟩
      · rw [if_neg c6] at H
        obtain ⟨c6b0, c6b1⟩ := neB_ c6
        have H' := Aside0.mk H
        clear H
        go_wp2
        go_meet
        case rel => exact ⟨_, ((a0 != 5)), ra_, H', ⟨by first | omega | exact Nat.le_refl _⟩, ⟨by repeat (first | (with_reducible first | exact HB.out | apply below_alloc | apply pw_below_drewN | apply below_drew1) | exact HB.out)⟩⟩
  case rest =>
    clear HC4
    try clear c1
    try clear p2
    try clear c5
    try clear c5b0
    try clear c5b1
    try clear c6
    try clear c6b0
    try clear c6b1
    obtain ⟨kq, x17_3, rfl, HA, HJ3, HB⟩ := hcut
    cases kq with
    | zero => exact absurd HA.out (by simp [constableref01_Do.j0])
    | succ kj3 =>
      have H := HA.out
      clear HA
      simp only [constableref01_Do.j0] at H
      by_cases c7 : x17_3 = true
      · subst c7
        have H1 : (some (0, 3)) = some (r1, r2) := by rw [if_pos rfl] at H; exact H
        clear H
        have H := H1
        clear H1
        simp only [Option.some.injEq, Prod.mk.injEq] at H
        obtain ⟨rfl, rfl⟩ := H
        go_wp2
        go_ret2
        exact ⟨by first | rfl | (simp [errW_none, errW_some] <;> rfl) | (simp [*, errW_none, errW_some] <;> rfl), by repeat (first | (with_reducible first | exact HB.out | apply below_alloc | apply pw_below_drewN | apply below_drew1) | exact HB.out)⟩
      · replace c7 := Bool.eq_false_iff.mpr c7
        subst c7
        have H1 : ((constableref01_In.f a1 (-4611686018427387904) 4611686018427387904).bind fun t113 => (if t113 = true then ((constableref01_In.f a2 (-4611686018427387904) 4611686018427387904).bind fun t114 => (constableref01_Do.j1 kj3 a0 a1 a2 (!t114))) else (constableref01_Do.j1 kj3 a0 a1 a2 true))) = some (r1, r2) := by rw [if_neg (show ¬ (false = true) by decide)] at H; exact H
        clear H
        have H := H1
        clear H1
        have HC8 := Aside0.mk H
        clear H
        go_upto_region 3 with (fail)
        go_cut [25] (fun v25 wc => ∃ (kq : Nat) (x25_7 : Bool), v25 = .bool x25_7 ∧ Aside0 (constableref01_Do.j1 kq a0 a1 a2 x25_7 = some (r1, r2)) ∧ Aside0 (kq ≤ kj3) ∧ Aside0 (Below w.heap.size w wc))
        case first =>
          have H := HC8.out
          clear HC8
          replace H := Option.bind_eq_some_iff.mp H
          obtain ⟨t113, A90, H⟩ := H
          replace H : (if t113 = true then ((constableref01_In.f a2 (-4611686018427387904) 4611686018427387904).bind fun t114 => (constableref01_Do.j1 kj3 a0 a1 a2 (!t114))) else (constableref01_Do.j1 kj3 a0 a1 a2 true)) = some (r1, r2) := H
          have A9 := Aside0.mk A90
          clear A90
          by_cases c10 : t113 = true
          · subst c10
            have H1 : ((constableref01_In.f a2 (-4611686018427387904) 4611686018427387904).bind fun t114 => (constableref01_Do.j1 kj3 a0 a1 a2 (!t114))) = some (r1, r2) := by rw [if_pos rfl] at H; exact H
            clear H
            have H := H1
            clear H1
            replace H := Option.bind_eq_some_iff.mp H
            obtain ⟨t114, A110, H⟩ := H
            replace H : (constableref01_Do.j1 kj3 a0 a1 a2 (!t114)) = some (r1, r2) := H
            have A11 := Aside0.mk A110
            clear A110
            have H' := Aside0.mk H
            clear H
            go_wp2_with (first | ((with_reducible refine gate_callee (f := 38) rfl ?_); refine goesL_ (some 19) rfl rfl Try.func38 (by kernel_rfl) rfl #[.int .i64 a1, .int .i64 (-4611686018427387904), .int .i64 4611686018427387904] rfl ga_ ?_; (with_reducible refine (constableref01_In.calls a1 (-4611686018427387904) 4611686018427387904 true _ A9.out).mono ?_); rintro e w' ⟨rfl, ⟨nd, rfl⟩⟩; refine ⟨_, rfl, ?_⟩) | (go_at_call 38; (with_reducible refine (constableref01_In.calls a2 (-4611686018427387904) 4611686018427387904 t114 _ A11.out).mono ?_); rintro e w' ⟨rfl, ⟨nd, rfl⟩⟩))
            go_meet
            case rel => exact ⟨_, (!t114), ra_, H', ⟨by have := HJ3.out; first | omega | exact Nat.le_refl _⟩, ⟨by repeat (first | (with_reducible first | exact HB.out | apply below_alloc | apply pw_below_drewN | apply below_drew1) | exact HB.out)⟩⟩
          · replace c10 := Bool.eq_false_iff.mpr c10
            subst c10
            have H1 : (constableref01_Do.j1 kj3 a0 a1 a2 true) = some (r1, r2) := by rw [if_neg (show ¬ (false = true) by decide)] at H; exact H
            clear H
            have H := H1
            clear H1
            have H' := Aside0.mk H
            clear H
            go_wp2_with (first | ((with_reducible refine gate_callee (f := 38) rfl ?_); refine goesL_ (some 19) rfl rfl Try.func38 (by kernel_rfl) rfl #[.int .i64 a1, .int .i64 (-4611686018427387904), .int .i64 4611686018427387904] rfl ga_ ?_; (with_reducible refine (constableref01_In.calls a1 (-4611686018427387904) 4611686018427387904 false _ A9.out).mono ?_); rintro e w' ⟨rfl, ⟨nd, rfl⟩⟩; refine ⟨_, rfl, ?_⟩))
            go_meet
            case rel => exact ⟨_, (true), ra_, H', ⟨by have := HJ3.out; first | omega | exact Nat.le_refl _⟩, ⟨by repeat (first | (with_reducible first | exact HB.out | apply below_alloc | apply pw_below_drewN | apply below_drew1) | exact HB.out)⟩⟩
        case rest =>
          clear HC8
          try clear c1
          try clear p2
          try clear c3
          try clear c5
          try clear c5b0
          try clear c5b1
          try clear c6
          try clear c6b0
          try clear c6b1
          try clear c7
          try clear c10
          try clear p2
          obtain ⟨kq, x25_7, rfl, HA, HJ7, HB⟩ := hcut
          cases kq with
          | zero => exact absurd HA.out (by simp [constableref01_Do.j1])
          | succ kj7 =>
            have H := HA.out
            clear HA
            simp only [constableref01_Do.j1] at H
            by_cases c12 : x25_7 = true
            · subst c12
              have H1 : (some (0, 4)) = some (r1, r2) := by rw [if_pos rfl] at H; exact H
              clear H
              have H := H1
              clear H1
              simp only [Option.some.injEq, Prod.mk.injEq] at H
              obtain ⟨rfl, rfl⟩ := H
              go_wp2
              go_ret2
              exact ⟨by first | rfl | (simp [errW_none, errW_some] <;> rfl) | (simp [*, errW_none, errW_some] <;> rfl), by repeat (first | (with_reducible first | exact HB.out | apply below_alloc | apply pw_below_drewN | apply below_drew1) | exact HB.out)⟩
            · replace c12 := Bool.eq_false_iff.mpr c12
              subst c12
              have H1 : (if a0 = 4 then (constableref01_Do.j2 kj7 a0 a1 a2 (a0 == 4)) else (constableref01_Do.j2 kj7 a0 a1 a2 (a0 == 3))) = some (r1, r2) := by rw [if_neg (show ¬ (false = true) by decide)] at H; exact H
              clear H
              have H := H1
              clear H1
              have HC13 := Aside0.mk H
              clear H
              go_upto_if 27 with (fail)
              go_cut [27] (fun v27 wc => ∃ (kq : Nat) (x27_12 : Bool), v27 = .bool x27_12 ∧ Aside0 (constableref01_Do.j2 kq a0 a1 a2 x27_12 = some (r1, r2)) ∧ Aside0 (kq ≤ kj7) ∧ Aside0 (Below w.heap.size w wc))
              case first =>
                have H := HC13.out
                clear HC13
                by_cases c14 : a0 = 4
                · rw [if_pos c14] at H
                  obtain ⟨c14b0, c14b1⟩ := eqB_ c14
                  clear c14
                  (first | rw [c14b0] | (simp only [i64_w, i32_w]; rw [c14b0]) | skip)
                  have H' := Aside0.mk H
                  clear H
                  go_wp2
                  go_meet
                  case rel => exact ⟨_, ((a0 == 4)), ra_, H', ⟨by have := HJ3.out; have := HJ7.out; first | omega | exact Nat.le_refl _⟩, ⟨by repeat (first | (with_reducible first | exact HB.out | apply below_alloc | apply pw_below_drewN | apply below_drew1) | exact HB.out)⟩⟩
                · rw [if_neg c14] at H
                  obtain ⟨c14b0, c14b1⟩ := neB_ c14
                  (first | rw [c14b0] | (simp only [i64_w, i32_w]; rw [c14b0]) | skip)
                  have H' := Aside0.mk H
                  clear H
                  go_wp2
                  go_meet
                  case rel => exact ⟨_, ((a0 == 3)), ra_, H', ⟨by have := HJ3.out; have := HJ7.out; first | omega | exact Nat.le_refl _⟩, ⟨by repeat (first | (with_reducible first | exact HB.out | apply below_alloc | apply pw_below_drewN | apply below_drew1) | exact HB.out)⟩⟩
              case rest =>
                clear HC13
                try clear c1
                try clear p2
                try clear c3
                try clear c5
                try clear c5b0
                try clear c5b1
                try clear c6
                try clear c6b0
                try clear c6b1
                try clear c7
                try clear c10
                try clear c12
                try clear c14
                try clear c14b0
                try clear c14b1
                try clear p2
                obtain ⟨kq, x27_12, rfl, HA, HJ12, HB⟩ := hcut
                cases kq with
                | zero => exact absurd HA.out (by simp [constableref01_Do.j2])
                | succ kj12 =>
                  have H := HA.out
                  clear HA
                  simp only [constableref01_Do.j2] at H
                  by_cases c15 : x27_12 = true
                  · subst c15
                    have H1 : (if a0 = 4 then (constableref01_Do.j3 kj12 a1 (wrap64 (-a2))) else (constableref01_Do.j3 kj12 a1 a2)) = some (r1, r2) := by rw [if_pos rfl] at H; exact H
                    clear H
                    have H := H1
                    clear H1
                    have HC16 := Aside0.mk H
                    clear H
                    go_upto_if 31 with (fail)
                    go_cut [2] (fun v2 wc => ∃ (kq : Nat) (x2_15 : Int), v2 = .int .i64 x2_15 ∧ Aside0 (constableref01_Do.j3 kq a1 x2_15 = some (r1, r2)) ∧ Aside0 (kq ≤ kj12) ∧ Aside0 (Below w.heap.size w wc))
                    case first =>
                      have H := HC16.out
                      clear HC16
                      by_cases c17 : a0 = 4
                      · rw [if_pos c17] at H
                        obtain ⟨c17b0, c17b1⟩ := eqB_ c17
                        clear c17
                        (first | rw [c17b0] | (simp only [i64_w, i32_w]; rw [c17b0]) | skip)
                        have H' := Aside0.mk H
                        clear H
                        go_wp2
                        go_meet
                        case rel => exact ⟨_, (wrap64 (-a2)), ra_, H', ⟨by have := HJ3.out; have := HJ7.out; have := HJ12.out; first | omega | exact Nat.le_refl _⟩, ⟨by repeat (first | (with_reducible first | exact HB.out | apply below_alloc | apply pw_below_drewN | apply below_drew1) | exact HB.out)⟩⟩
                      · rw [if_neg c17] at H
                        obtain ⟨c17b0, c17b1⟩ := neB_ c17
                        (first | rw [c17b0] | (simp only [i64_w, i32_w]; rw [c17b0]) | skip)
                        have H' := Aside0.mk H
                        clear H
                        go_wp2
                        go_meet
                        case rel => exact ⟨_, (a2), ra_, H', ⟨by have := HJ3.out; have := HJ7.out; have := HJ12.out; first | omega | exact Nat.le_refl _⟩, ⟨by repeat (first | (with_reducible first | exact HB.out | apply below_alloc | apply pw_below_drewN | apply below_drew1) | exact HB.out)⟩⟩
                    case rest =>
                      clear HC16
                      try clear c1
                      try clear p2
                      try clear c3
                      try clear c5
                      try clear c5b0
                      try clear c5b1
                      try clear c6
                      try clear c6b0
                      try clear c6b1
                      try clear p6
                      try clear c7
                      try clear c10
                      try clear c12
                      try clear c14
                      try clear c14b0
                      try clear c14b1
                      try clear c15
                      try clear c17
                      try clear c17b0
                      try clear c17b1
                      try clear p2
                      obtain ⟨kq, x2_15, rfl, HA, HJ15, HB⟩ := hcut
                      cases kq with
                      | zero => exact absurd HA.out (by simp [constableref01_Do.j3])
                      | succ kj15 =>
                        have H := HA.out
                        clear HA
                        simp only [constableref01_Do.j3] at H
                        have HC18 := Aside0.mk H
                        clear H
                        go_upto_region 10 with (fail)
                        go_cut [51] (fun v51 wc => ∃ (kq : Nat) (x51_17 : Bool), v51 = .bool x51_17 ∧ Aside0 (constableref01_Do.j4 kq a1 x2_15 x51_17 = some (r1, r2)) ∧ Aside0 (kq ≤ kj15) ∧ Aside0 (Below w.heap.size w wc))
                        case first =>
                          have H := HC18.out
                          clear HC18
                          by_cases c19 : x2_15 > 0
                          · rw [if_pos c19] at H
                            have c19b0 : decide (0 < x2_15) = true := decide_eq_true c19
                            clear c19
                            (first | rw [c19b0] | (simp only [i64_w, i32_w]; rw [c19b0]) | skip)
                            by_cases c20 : a1 > (wrap64 (4611686018427387904 - x2_15))
                            · rw [if_pos c20] at H
                              have c20b0 : decide ((wrap64 (4611686018427387904 - x2_15)) < a1) = true := decide_eq_true c20
                              clear c20
                              have H' := Aside0.mk H
                              clear H
                              go_wp2
                              go_meet
                              case rel => exact ⟨_, (true), ra_, H', ⟨by have := HJ3.out; have := HJ7.out; have := HJ12.out; have := HJ15.out; first | omega | exact Nat.le_refl _⟩, ⟨by repeat (first | (with_reducible first | exact HB.out | apply below_alloc | apply pw_below_drewN | apply below_drew1) | exact HB.out)⟩⟩
                            · rw [if_neg c20] at H
                              have c20b0 : decide ((wrap64 (4611686018427387904 - x2_15)) < a1) = false := decide_eq_false c20
                              clear c20
                              by_cases c21 : x2_15 < 0
                              · rw [if_pos c21] at H
                                have c21b0 : decide (x2_15 < 0) = true := decide_eq_true c21
                                clear c21
                                have H' := Aside0.mk H
                                clear H
                                go_wp2
                                go_meet
                                case rel => exact ⟨_, (decide (a1 < (wrap64 ((-4611686018427387904) - x2_15)))), ra_, H', ⟨by have := HJ3.out; have := HJ7.out; have := HJ12.out; have := HJ15.out; first | omega | exact Nat.le_refl _⟩, ⟨by repeat (first | (with_reducible first | exact HB.out | apply below_alloc | apply pw_below_drewN | apply below_drew1) | exact HB.out)⟩⟩
                              · rw [if_neg c21] at H
                                have c21b0 : decide (x2_15 < 0) = false := decide_eq_false c21
                                clear c21
                                have H' := Aside0.mk H
                                clear H
                                go_wp2
                                go_meet
                                case rel => exact ⟨_, (false), ra_, H', ⟨by have := HJ3.out; have := HJ7.out; have := HJ12.out; have := HJ15.out; first | omega | exact Nat.le_refl _⟩, ⟨by repeat (first | (with_reducible first | exact HB.out | apply below_alloc | apply pw_below_drewN | apply below_drew1) | exact HB.out)⟩⟩
                          · rw [if_neg c19] at H
                            have c19b0 : decide (0 < x2_15) = false := decide_eq_false c19
                            clear c19
                            (first | rw [c19b0] | (simp only [i64_w, i32_w]; rw [c19b0]) | skip)
                            by_cases c22 : x2_15 < 0
                            · rw [if_pos c22] at H
                              have c22b0 : decide (x2_15 < 0) = true := decide_eq_true c22
                              clear c22
                              have H' := Aside0.mk H
                              clear H
                              go_wp2
                              go_meet
                              case rel => exact ⟨_, (decide (a1 < (wrap64 ((-4611686018427387904) - x2_15)))), ra_, H', ⟨by have := HJ3.out; have := HJ7.out; have := HJ12.out; have := HJ15.out; first | omega | exact Nat.le_refl _⟩, ⟨by repeat (first | (with_reducible first | exact HB.out | apply below_alloc | apply pw_below_drewN | apply below_drew1) | exact HB.out)⟩⟩
                            · rw [if_neg c22] at H
                              have c22b0 : decide (x2_15 < 0) = false := decide_eq_false c22
                              clear c22
                              have H' := Aside0.mk H
                              clear H
                              go_wp2
                              go_meet
                              case rel => exact ⟨_, (false), ra_, H', ⟨by have := HJ3.out; have := HJ7.out; have := HJ12.out; have := HJ15.out; first | omega | exact Nat.le_refl _⟩, ⟨by repeat (first | (with_reducible first | exact HB.out | apply below_alloc | apply pw_below_drewN | apply below_drew1) | exact HB.out)⟩⟩
                        case rest =>
                          clear HC18
                          try clear c1
                          try clear c2
                          try clear p2
                          try clear c3
                          try clear c5
                          try clear c5b0
                          try clear c5b1
                          try clear c6
                          try clear c6b0
                          try clear c6b1
                          try clear p6
                          try clear c7
                          try clear c10
                          try clear c12
                          try clear c14
                          try clear c14b0
                          try clear c14b1
                          try clear c15
                          try clear c17
                          try clear c17b0
                          try clear c17b1
                          try clear c19
                          try clear c19b0
                          try clear c20
                          try clear c20b0
                          try clear c21
                          try clear c21b0
                          try clear c22
                          try clear c22b0
                          try clear p2
                          try clear p6
                          obtain ⟨kq, x51_17, rfl, HA, HJ17, HB⟩ := hcut
                          cases kq with
                          | zero => exact absurd HA.out (by simp [constableref01_Do.j4])
                          | succ kj17 =>
                            have H := HA.out
                            clear HA
                            simp only [constableref01_Do.j4] at H
                            by_cases c23 : x51_17 = true
                            · subst c23
                              have H1 : (some (0, 4)) = some (r1, r2) := by rw [if_pos rfl] at H; exact H
                              clear H
                              have H := H1
                              clear H1
                              simp only [Option.some.injEq, Prod.mk.injEq] at H
                              obtain ⟨rfl, rfl⟩ := H
                              go_wp2
                              go_ret2
                              exact ⟨by first | rfl | (simp [errW_none, errW_some] <;> rfl) | (simp [*, errW_none, errW_some] <;> rfl), by repeat (first | (with_reducible first | exact HB.out | apply below_alloc | apply pw_below_drewN | apply below_drew1) | exact HB.out)⟩
                            · replace c23 := Bool.eq_false_iff.mpr c23
                              subst c23
                              have H1 : (some (wrap64 (a1 + x2_15), 0)) = some (r1, r2) := by rw [if_neg (show ¬ (false = true) by decide)] at H; exact H
                              clear H
                              have H := H1
                              clear H1
                              simp only [Option.some.injEq, Prod.mk.injEq] at H
                              obtain ⟨rfl, rfl⟩ := H
                              go_wp2
                              go_ret2
                              exact ⟨by first | rfl | (simp [errW_none, errW_some] <;> rfl) | (simp [*, errW_none, errW_some] <;> rfl), by repeat (first | (with_reducible first | exact HB.out | apply below_alloc | apply pw_below_drewN | apply below_drew1) | exact HB.out)⟩
                  · replace c15 := Bool.eq_false_iff.mpr c15
                    subst c15
                    have H1 : (if a1 = 0 then (some (wrap64 (a1 * a2), 0)) else (if a2 = 0 then (some (wrap64 (a1 * a2), 0)) else (if (mx a2 (wrap64 (-a2))) = 0 then (none) else (if (mx a1 (wrap64 (-a1))) > (wrap64 (Int.tdiv (4611686018427387904 : Int) (mx a2 (wrap64 (-a2))))) then (some (0, 4)) else (some (wrap64 (a1 * a2), 0)))))) = some (r1, r2) := by rw [if_neg (show ¬ (false = true) by decide)] at H; exact H
                    clear H
                    have H := H1
                    clear H1
                    by_cases c24 : a1 = 0
                    · rw [if_pos c24] at H
                      obtain ⟨c24b0, c24b1⟩ := eqB_ c24
                      clear c24
                      simp only [Option.some.injEq, Prod.mk.injEq] at H
                      obtain ⟨rfl, rfl⟩ := H
                      go_wp2
                      go_ret2
                      exact ⟨by first | rfl | (simp [errW_none, errW_some] <;> rfl) | (simp [*, errW_none, errW_some] <;> rfl), by repeat (first | (with_reducible first | exact HB.out | apply below_alloc | apply pw_below_drewN | apply below_drew1) | exact HB.out)⟩
                    · rw [if_neg c24] at H
                      obtain ⟨c24b0, c24b1⟩ := neB_ c24
                      by_cases c25 : a2 = 0
                      · rw [if_pos c25] at H
                        obtain ⟨c25b0, c25b1⟩ := eqB_ c25
                        clear c25
                        simp only [Option.some.injEq, Prod.mk.injEq] at H
                        obtain ⟨rfl, rfl⟩ := H
                        go_wp2
                        go_ret2
                        exact ⟨by first | rfl | (simp [errW_none, errW_some] <;> rfl) | (simp [*, errW_none, errW_some] <;> rfl), by repeat (first | (with_reducible first | exact HB.out | apply below_alloc | apply pw_below_drewN | apply below_drew1) | exact HB.out)⟩
                      · rw [if_neg c25] at H
                        obtain ⟨c25b0, c25b1⟩ := neB_ c25
                        obtain ⟨ji26, hji26⟩ : ∃ j_ : Int, (mx a1 (wrap64 (-a1))) = j_ := ⟨_, rfl⟩
                        replace H : (if (mx a2 (wrap64 (-a2))) = 0 then (none) else (if (ji26) > (wrap64 (Int.tdiv (4611686018427387904 : Int) (mx a2 (wrap64 (-a2))))) then (some (0, 4)) else (some (wrap64 (a1 * a2), 0)))) = some (r1, r2) := by first | (rw [hji26] at H; exact H) | (simp only [hji26] at H ⊢; exact H)
                        have hji26_ : (if a1 < (wrap64 (-a1)) then (wrap64 (-a1)) else a1) = ji26 := hji26
                        obtain ⟨ji27, hji27⟩ : ∃ j_ : Int, (mx a2 (wrap64 (-a2))) = j_ := ⟨_, rfl⟩
                        replace H : (if (ji27) = 0 then (none) else (if (ji26) > (wrap64 (Int.tdiv (4611686018427387904 : Int) (ji27))) then (some (0, 4)) else (some (wrap64 (a1 * a2), 0)))) = some (r1, r2) := by first | (rw [hji27] at H; exact H) | (simp only [hji27] at H ⊢; exact H)
                        have hji27_ : (if a2 < (wrap64 (-a2)) then (wrap64 (-a2)) else a2) = ji27 := hji27
                        by_cases c28 : (ji27) = 0
                        · rw [if_pos c28] at H
                          exact absurd H (by simp)
                        · rw [if_neg c28] at H
                          obtain ⟨c28b0, c28b1⟩ := neB_ c28
                          by_cases c29 : (ji26) > (wrap64 (Int.tdiv (4611686018427387904 : Int) (ji27)))
                          · rw [if_pos c29] at H
                            have c29b0 : decide ((wrap64 (Int.tdiv (4611686018427387904 : Int) (ji27))) < (ji26)) = true := decide_eq_true c29
                            clear c29
                            simp only [Option.some.injEq, Prod.mk.injEq] at H
                            obtain ⟨rfl, rfl⟩ := H
                            go_wp2
                            go_ret2
                            exact ⟨by first | rfl | (simp [errW_none, errW_some] <;> rfl) | (simp only [← hji26, ← hji27]; first | rfl | (simp [errW_none, errW_some] <;> rfl)) | (simp [*, errW_none, errW_some] <;> rfl), by repeat (first | (with_reducible first | exact HB.out | apply below_alloc | apply pw_below_drewN | apply below_drew1) | exact HB.out)⟩
                          · rw [if_neg c29] at H
                            have c29b0 : decide ((wrap64 (Int.tdiv (4611686018427387904 : Int) (ji27))) < (ji26)) = false := decide_eq_false c29
                            clear c29
                            simp only [Option.some.injEq, Prod.mk.injEq] at H
                            obtain ⟨rfl, rfl⟩ := H
                            go_wp2
                            go_ret2
                            exact ⟨by first | rfl | (simp [errW_none, errW_some] <;> rfl) | (simp only [← hji26, ← hji27]; first | rfl | (simp [errW_none, errW_some] <;> rfl)) | (simp [*, errW_none, errW_some] <;> rfl), by repeat (first | (with_reducible first | exact HB.out | apply below_alloc | apply pw_below_drewN | apply below_drew1) | exact HB.out)⟩
end Go.Proofs.Ytconpnagoijacaa.P
end
