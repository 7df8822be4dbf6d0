/- Part 2 of the proof of ExprSums: words, contracts of functions of the program (what a call answers), and what the answers say. -/
import Derived.Test.YtconpnagoijacaaVWords
import Derived.Test.YtconpnagoijacaaVLast
import Derived.Test.YtconpnagoijacaaVApart
import Derived.Test.YtconpnagoijacaaVArr
import Derived.Test.YtconpnagoijacaaVFoot
import Derived.Test.YtconpnagoijacaaVKept
import Derived.Test.YtconpnagoijacaaVShare
import Derived.Test.YtconpnagoijacaaVZeros
import Derived.Test.YtconpnagoijacaaVN
import Derived.Test.YtconpnagoijacaaVFootNe
import Derived.Test.YtconpnagoijacaaVAt
import Derived.Test.YtconpnagoijacaaVEqStruct
import Derived.Test.YtconpnagoijacaaVTab
import Derived.Test.YtconpnagoijacaaVFour
import Derived.Test.YtconpnagoijacaaVGuard
import Derived.Test.YtconpnagoijacaaVInv
import Derived.Test.YtconpnagoijacaaVInvWords
import Derived.Test.YtconpnagoijacaaVQPut
import Derived.Test.YtconpnagoijacaaVNEv
import Derived.Test.YtconpnagoijacaaVMore
import Derived.Test.YtconpnagoijacaaVRepsOne
import Derived.Test.YtconpnagoijacaaVSized
import Derived.Test.YtconpnagoijacaaCExprSums0
section
namespace Go.Proofs.Ytconpnagoijacaa.P
open Go.RowKit Go.Proofs.YtconpnagoijacaaW.PrintWords Go.Proofs.YtconpnagoijacaaW.PrintLast Go.Proofs.YtconpnagoijacaaW.PrintMore
attribute [local go_sem] max2_int min2_int max_two min_two max_three min_three max_four min_four
set_option linter.unusedVariables false
set_option linter.unusedSimpArgs false
def expr_reckon.j0 : Nat → Int → Bool → Int → Int → ByteArray → Int → Int → ByteArray → Option (Int × Int × ByteArray × Int)
  | 0, _, _, _, _, _, _, _, _ => none
  | k + 1, x0, x17, x244000, x244001, x244002, x245000, x245001, x245002 => if x17 = true then (some (0, 0, (⟨#[]⟩ : ByteArray), 3)) else ((num_Do.f k x0 x244001 x245001).bind fun bt246 => (if bt246.2 = 0 then (some (1, bt246.1, (⟨#[]⟩ : ByteArray), 0)) else (some (0, 0, (⟨#[]⟩ : ByteArray), bt246.2))))
def expr_reckon.f (k : Nat) (a0 : Int) (a1_0 : Int) (a1_1 : Int) (a1_2 : ByteArray) (a2_0 : Int) (a2_1 : Int) (a2_2 : ByteArray) : Option (Int × Int × ByteArray × Int) := if a1_0 = 1 then (expr_reckon.j0 k a0 (a2_0 != 1) a1_0 a1_1 a1_2 a2_0 a2_1 a2_2) else (expr_reckon.j0 k a0 true a1_0 a1_1 a1_2 a2_0 a2_1 a2_2)
theorem expr_reckon.mono_l : ∀ k, (∀ y0 y1 y2 y3 y4 y5 y6 y7, LeO (expr_reckon.j0 k y0 y1 y2 y3 y4 y5 y6 y7) (expr_reckon.j0 (k + 1) y0 y1 y2 y3 y4 y5 y6 y7))
  | 0 => fun _ _ _ _ _ _ _ _ r h => by simp [expr_reckon.j0] at h
  | k + 1 => by
    have ih0 := expr_reckon.mono_l k
    · intro y0 y1 y2 y3 y4 y5 y6 y7
      unfold expr_reckon.j0
      repeat' first
      | (with_reducible exact ih0 _ _ _ _ _ _ _ _)
      | (with_reducible exact num_Do.mono _ _ _ _)
      | (with_reducible exact LeO.refl _)
      | (with_reducible exact LeO.none _)
      | (with_reducible refine LeO.ite ?_ ?_)
      | (with_reducible refine LeO.bind ?_ (fun _ => ?_))
      | exact ih0 _ _ _ _ _ _ _ _
      | exact num_Do.mono _ _ _ _
      | exact LeO.none _
      | refine LeO.ite ?_ ?_
      | refine LeO.bind ?_ (fun _ => ?_)
theorem expr_reckon.mono : ∀ a0 a1 a2 a3 a4 a5 a6 k, LeO (expr_reckon.f k a0 a1 a2 a3 a4 a5 a6) (expr_reckon.f (k + 1) a0 a1 a2 a3 a4 a5 a6) := by
  intro a0 a1 a2 a3 a4 a5 a6 k
  have ih0 := expr_reckon.mono_l k
  unfold expr_reckon.f
  repeat' first
      | (with_reducible exact ih0 _ _ _ _ _ _ _ _)
      | (with_reducible exact num_Do.mono _ _ _ _)
      | (with_reducible exact LeO.refl _)
      | (with_reducible exact LeO.none _)
      | (with_reducible refine LeO.ite ?_ ?_)
      | (with_reducible refine LeO.bind ?_ (fun _ => ?_))
      | exact ih0 _ _ _ _ _ _ _ _
      | exact num_Do.mono _ _ _ _
      | exact LeO.none _
      | refine LeO.ite ?_ ?_
      | refine LeO.bind ?_ (fun _ => ?_)
set_option maxHeartbeats 8000000 in
set_option maxRecDepth 100000 in
theorem expr_reckon.calls (k : Nat) (a0 : Int) (a1_0 : Int) (a1_1 : Int) (a1_2 : ByteArray) (a2_0 : Int) (a2_1 : Int) (a2_2 : ByteArray) (r1 : Int) (r2 : Int) (r3 : ByteArray) (r4 : Int) (w : World) (h : expr_reckon.f k a0 a1_0 a1_1 a1_2 a2_0 a2_1 a2_2 = some (r1, r2, r3, r4)) :
    Calls Try.prog 42 #[.int .i64 a0, .agg #[.int .i64 a1_0, .int .i64 a1_1, .string a1_2], .agg #[.int .i64 a2_0, .int .i64 a2_1, .string a2_2]] w fun e w' => e = .returned (.tuple #[.agg #[.int .i64 r1, .int .i64 r2, .string r3], .int .i64 r4]) ∧ Below w.heap.size w w' := by
  have hu40 := Try.underlying40
  have HB := Aside0.mk (Below.refl w.heap.size w)
  have H : (if a1_0 = 1 then (expr_reckon.j0 k a0 (a2_0 != 1) a1_0 a1_1 a1_2 a2_0 a2_1 a2_2) else (expr_reckon.j0 k a0 true a1_0 a1_1 a1_2 a2_0 a2_1 a2_2)) = some (r1, r2, r3, r4) := h
  clear h
  have HC4 := Aside0.mk H
  clear H
  go_enter Try.func42, Try.ntmps42
  go_upto_region 1 with (first | ((with_reducible refine gate_dst (N := 4) rfl ?_); refine box_event ?hg (N := 4) ?hd (cs := #[.int .i64 a1_0, .int .i64 a1_1, .string a1_2]) (t := 40) ?hr ?_; (case hd => rfl); (case hg => rfl); (case hr => first | (go_simp; done) | (go_simp; rfl)); intro gb243 hg w5 hbox hb; have n0_ := bs_ (be_ HB) hb; have n1_ := Aside0.mk (hbox); have n2_ := gs_ hg (be_ HB); have n3_ := gs_ hg (be_ HB); clear HB; have HB := n0_; have BK243 := n1_; have GW243 := n2_; have GE243 := n3_; clear n0_ n1_ n2_ n3_; clear hb hbox hg) | ((with_reducible refine gate_dst (N := 5) rfl ?_); refine box_event ?hg (N := 5) ?hd (cs := #[.int .i64 a2_0, .int .i64 a2_1, .string a2_2]) (t := 40) ?hr ?_; (case hd => rfl); (case hg => rfl); (case hr => first | (go_simp; done) | (go_simp; rfl)); intro gb244 hg w6 hbox hb; have n0_ := bb_ (bu_ BK243) hb; have n1_ := bs_ (be_ HB) hb; have n2_ := Aside0.mk (hbox); have n3_ := gs_ hg (be_ HB); have n4_ := gs_ hg (be_ HB); have n5_ := nl_ hg (bu_ BK243); have n6_ := ng_ hg (bu_ BK243); clear BK243; clear HB; have BK243 := n0_; have HB := n1_; have BK244 := n2_; have GW244 := n3_; have GE244 := n4_; have NB243_244 := n5_; have NB244_243 := n6_; clear n0_ n1_ n2_ n3_ n4_ n5_ n6_; clear hb hbox hg) | ((with_reducible refine gate_dst (N := 6) rfl ?_); refine box_event ?hg (N := 6) ?hd (cs := #[.int .i64 0, .int .i64 0, .string (⟨#[]⟩ : ByteArray)]) (t := 40) ?hr ?_; (case hd => rfl); (case hg => rfl); (case hr => first | (go_simp; done) | (go_simp; rfl)); intro gb245 hg w7 hbox hb; have n0_ := bb_ (bu_ BK243) hb; have n1_ := bb_ (bu_ BK244) hb; have n2_ := bs_ (be_ HB) hb; have n3_ := Aside0.mk (hbox); have n4_ := gs_ hg (be_ HB); have n5_ := gs_ hg (be_ HB); have n6_ := nl_ hg (bu_ BK243); have n7_ := ng_ hg (bu_ BK243); have n8_ := nl_ hg (bu_ BK244); have n9_ := ng_ hg (bu_ BK244); clear BK243; clear BK244; clear HB; have BK243 := n0_; have BK244 := n1_; have HB := n2_; have BK245 := n3_; have GW245 := n4_; have GE245 := n5_; have NB243_245 := n6_; have NB245_243 := n7_; have NB244_245 := n8_; have NB245_244 := n9_; clear n0_ n1_ n2_ n3_ n4_ n5_ n6_ n7_ n8_ n9_; clear hb hbox hg))
  (try simp only [Act.put, List.setIfInBounds_toArray, List.set_cons_zero, List.set_cons_succ])
  go_cut [17] (fun v17 wc => ∃ (kq : Nat) (x17_3 : Bool), v17 = .bool x17_3 ∧ Aside0 (expr_reckon.j0 kq a0 x17_3 a1_0 a1_1 a1_2 a2_0 a2_1 a2_2 = some (r1, r2, r3, r4)) ∧ Aside0 (kq ≤ k) ∧ Aside0 (wc.heap[gb243]? = some (.cells #[.int .i64 a1_0, .int .i64 a1_1, .string a1_2] 40 (0, 0))) ∧ Aside0 (wc.heap[gb244]? = some (.cells #[.int .i64 a2_0, .int .i64 a2_1, .string a2_2] 40 (0, 0))) ∧ Aside0 (wc.heap[gb245]? = some (.cells #[.int .i64 0, .int .i64 0, .string (⟨#[]⟩ : ByteArray)] 40 (0, 0))) ∧ Aside0 (Below w.heap.size w wc))
  case first =>
    have H := HC4.out
    clear HC4
    by_cases c8 : a1_0 = 1
    · rw [if_pos c8] at H
      obtain ⟨c8b0, c8b1⟩ := eqB_ c8
      clear c8
      (first | rw [c8b0] | (simp only [i64_w, i32_w]; rw [c8b0]) | skip)
      have H' := Aside0.mk H
      clear H
      have hnb9 := NB243_244.out
      have hnc9 := NB244_243.out
      have hnb10 := NB243_245.out
      have hnc10 := NB245_243.out
      have hcz11_0 : w7.cell? ⟨gb243, 0, none⟩ = some (.int .i64 a1_0) := (blk_cell BK243.out 0).trans rfl
      have hcz11_1 : w7.cell? ⟨gb243, 1, none⟩ = some (.int .i64 a1_1) := (blk_cell BK243.out 1).trans rfl
      have hcz11_2 : w7.cell? ⟨gb243, 2, none⟩ = some (.string a1_2) := (blk_cell BK243.out 2).trans rfl
      have hfz11_0 := blk_frozen BK243.out 0
      have hfz11_1 := blk_frozen BK243.out 1
      have hfz11_2 := blk_frozen BK243.out 2
      have hnb12 := NB244_245.out
      have hnc12 := NB245_244.out
      have hcz13_0 : w7.cell? ⟨gb244, 0, none⟩ = some (.int .i64 a2_0) := (blk_cell BK244.out 0).trans rfl
      have hcz13_1 : w7.cell? ⟨gb244, 1, none⟩ = some (.int .i64 a2_1) := (blk_cell BK244.out 1).trans rfl
      have hcz13_2 : w7.cell? ⟨gb244, 2, none⟩ = some (.string a2_2) := (blk_cell BK244.out 2).trans rfl
      have hfz13_0 := blk_frozen BK244.out 0
      have hfz13_1 := blk_frozen BK244.out 1
      have hfz13_2 := blk_frozen BK244.out 2
      go_wp2
      go_meet
      case rel => exact ⟨_, ((a2_0 != 1)), ra_, H', ⟨by first | omega | exact Nat.le_refl _⟩, ⟨by (with_reducible repeat (first | refine blk_drewN ?_ _ | refine blk_drew ?_ | refine blk_alloc ?_ _)); exact BK243.out⟩, ⟨by (with_reducible repeat (first | refine blk_drewN ?_ _ | refine blk_drew ?_ | refine blk_alloc ?_ _)); exact BK244.out⟩, ⟨by (with_reducible repeat (first | refine blk_drewN ?_ _ | refine blk_drew ?_ | refine blk_alloc ?_ _)); exact BK245.out⟩, ⟨by repeat (first | (with_reducible first | exact HB.out | apply below_alloc | apply pw_below_drewN | apply below_drew1 | refine below_set ?_ GE243.out | refine below_set ?_ GE244.out | refine below_set ?_ GE245.out) | exact HB.out)⟩⟩
    · rw [if_neg c8] at H
      obtain ⟨c8b0, c8b1⟩ := neB_ c8
      (first | rw [c8b0] | (simp only [i64_w, i32_w]; rw [c8b0]) | skip)
      have H' := Aside0.mk H
      clear H
      have hnb14 := NB243_244.out
      have hnc14 := NB244_243.out
      have hnb15 := NB243_245.out
      have hnc15 := NB245_243.out
      have hcz16_0 : w7.cell? ⟨gb243, 0, none⟩ = some (.int .i64 a1_0) := (blk_cell BK243.out 0).trans rfl
      have hcz16_1 : w7.cell? ⟨gb243, 1, none⟩ = some (.int .i64 a1_1) := (blk_cell BK243.out 1).trans rfl
      have hcz16_2 : w7.cell? ⟨gb243, 2, none⟩ = some (.string a1_2) := (blk_cell BK243.out 2).trans rfl
      have hfz16_0 := blk_frozen BK243.out 0
      have hfz16_1 := blk_frozen BK243.out 1
      have hfz16_2 := blk_frozen BK243.out 2
      go_wp2
      go_meet
      case rel => exact ⟨_, (true), ra_, H', ⟨by first | omega | exact Nat.le_refl _⟩, ⟨by (with_reducible repeat (first | refine blk_drewN ?_ _ | refine blk_drew ?_ | refine blk_alloc ?_ _)); exact BK243.out⟩, ⟨by (with_reducible repeat (first | refine blk_drewN ?_ _ | refine blk_drew ?_ | refine blk_alloc ?_ _)); exact BK244.out⟩, ⟨by (with_reducible repeat (first | refine blk_drewN ?_ _ | refine blk_drew ?_ | refine blk_alloc ?_ _)); exact BK245.out⟩, ⟨by repeat (first | (with_reducible first | exact HB.out | apply below_alloc | apply pw_below_drewN | apply below_drew1 | refine below_set ?_ GE243.out | refine below_set ?_ GE244.out | refine below_set ?_ GE245.out) | exact HB.out)⟩⟩
  case rest =>
    clear HC4
    try clear c1
    try clear p2
    try clear c4
    try clear c8
    try clear c8b0
    try clear c8b1
    try clear c9
    try clear c10
    try clear c12
    try clear c14
    try clear c15
    try clear hcz11_0
    try clear hcz11_1
    try clear hcz11_2
    try clear hcz13_0
    try clear hcz13_1
    try clear hcz13_2
    try clear hcz16_0
    try clear hcz16_1
    try clear hcz16_2
    try clear hfz11_0
    try clear hfz11_1
    try clear hfz11_2
    try clear hfz13_0
    try clear hfz13_1
    try clear hfz13_2
    try clear hfz16_0
    try clear hfz16_1
    try clear hfz16_2
    obtain ⟨kq, x17_3, rfl, HA, HJ3, BK243, BK244, BK245, HB⟩ := hcut
    cases kq with
    | zero => exact absurd HA.out (by simp [expr_reckon.j0])
    | succ kj3 =>
      have H := HA.out
      clear HA
      simp only [expr_reckon.j0] at H
      by_cases c17 : x17_3 = true
      · subst c17
        have H1 : (some (0, 0, (⟨#[]⟩ : ByteArray), 3)) = some (r1, r2, r3, r4) := by rw [if_pos rfl] at H; exact H
        clear H
        have H := H1
        clear H1
        simp only [Option.some.injEq, Prod.mk.injEq] at H
        obtain ⟨rfl, rfl, rfl, rfl⟩ := H
        have hnb18 := NB245_243.out
        have hnc18 := NB243_245.out
        have hnb19 := NB245_244.out
        have hnc19 := NB244_245.out
        have hcz20_0 : wc.cell? ⟨gb245, 0, none⟩ = some (.int .i64 0) := (blk_cell BK245.out 0).trans rfl
        have hcz20_1 : wc.cell? ⟨gb245, 1, none⟩ = some (.int .i64 0) := (blk_cell BK245.out 1).trans rfl
        have hcz20_2 : wc.cell? ⟨gb245, 2, none⟩ = some (.string (⟨#[]⟩ : ByteArray)) := (blk_cell BK245.out 2).trans rfl
        have hfz20_0 := blk_frozen BK245.out 0
        have hfz20_1 := blk_frozen BK245.out 1
        have hfz20_2 := blk_frozen BK245.out 2
        go_wp2
        refine bodyPost_ret (results_ct rfl _ _ gb245 40 #[.int .i64 0, .int .i64 0, .string (⟨#[]⟩ : ByteArray)] (0, 0) _ rfl (bp_ BK245) Try.underlying40 rfl (by kernel_rfl)) rfl ?_
        exact ⟨by first | rfl | (simp [errW_none, errW_some] <;> rfl) | (simp [*, errW_none, errW_some] <;> rfl), by repeat (first | (with_reducible first | exact HB.out | apply below_alloc | apply pw_below_drewN | apply below_drew1 | refine below_set ?_ GE243.out | refine below_set ?_ GE244.out | refine below_set ?_ GE245.out) | exact HB.out)⟩
      · replace c17 := Bool.eq_false_iff.mpr c17
        subst c17
        have H1 : ((num_Do.f kj3 a0 a1_1 a2_1).bind fun bt246 => (if bt246.2 = 0 then (some (1, bt246.1, (⟨#[]⟩ : ByteArray), 0)) else (some (0, 0, (⟨#[]⟩ : ByteArray), bt246.2)))) = some (r1, r2, r3, r4) := by rw [if_neg (show ¬ (false = true) by decide)] at H; exact H
        clear H
        have H := H1
        clear H1
        replace H := Option.bind_eq_some_iff.mp H
        obtain ⟨⟨t246, t247⟩, A210, H⟩ := H
        replace H : (if t247 = 0 then (some (1, t246, (⟨#[]⟩ : ByteArray), 0)) else (some (0, 0, (⟨#[]⟩ : ByteArray), t247))) = some (r1, r2, r3, r4) := H
        have A21 := Aside0.mk A210
        clear A210
        by_cases c22 : t247 = 0
        · rw [if_pos c22] at H
          obtain ⟨c22b0, c22b1⟩ := eqB_ c22
          clear c22
          simp only [Option.some.injEq, Prod.mk.injEq] at H
          obtain ⟨rfl, rfl, rfl, rfl⟩ := H
          have hnb23 := NB243_244.out
          have hnc23 := NB244_243.out
          have hnb24 := NB243_245.out
          have hnc24 := NB245_243.out
          have hcz25_0 : wc.cell? ⟨gb243, 0, none⟩ = some (.int .i64 a1_0) := (blk_cell BK243.out 0).trans rfl
          have hcz25_1 : wc.cell? ⟨gb243, 1, none⟩ = some (.int .i64 a1_1) := (blk_cell BK243.out 1).trans rfl
          have hcz25_2 : wc.cell? ⟨gb243, 2, none⟩ = some (.string a1_2) := (blk_cell BK243.out 2).trans rfl
          have hfz25_0 := blk_frozen BK243.out 0
          have hfz25_1 := blk_frozen BK243.out 1
          have hfz25_2 := blk_frozen BK243.out 2
          have hnb26 := NB244_245.out
          have hnc26 := NB245_244.out
          have hcz27_0 : wc.cell? ⟨gb244, 0, none⟩ = some (.int .i64 a2_0) := (blk_cell BK244.out 0).trans rfl
          have hcz27_1 : wc.cell? ⟨gb244, 1, none⟩ = some (.int .i64 a2_1) := (blk_cell BK244.out 1).trans rfl
          have hcz27_2 : wc.cell? ⟨gb244, 2, none⟩ = some (.string a2_2) := (blk_cell BK244.out 2).trans rfl
          have hfz27_0 := blk_frozen BK244.out 0
          have hfz27_1 := blk_frozen BK244.out 1
          have hfz27_2 := blk_frozen BK244.out 2
          go_wp2_with (first | ((with_reducible refine gate_callee (f := 13) rfl ?_); refine goesL_ (some 25) rfl rfl Try.func13 (by kernel_rfl) rfl #[.int .i64 a0, .int .i64 a1_1, .int .i64 a2_1] rfl ga_ ?_; (with_reducible refine (num_Do.calls kj3 a0 a1_1 a2_1 t246 t247 _ A21.out).mono ?_); rintro e w' ⟨rfl, ⟨nd, rfl⟩⟩; refine ⟨_, rfl, ?_⟩; (try (rw [drewN_self wc]; generalize hq_ : World.drewN wc _ = wc; have n0_ : Aside0 (wc.heap[gb243]? = some (.cells #[.int .i64 a1_0, .int .i64 a1_1, .string a1_2] 40 (0, 0))) := ⟨by rw [← hq_]; exact (bu_ BK243)⟩; have n1_ : Aside0 (wc.heap[gb244]? = some (.cells #[.int .i64 a2_0, .int .i64 a2_1, .string a2_2] 40 (0, 0))) := ⟨by rw [← hq_]; exact (bu_ BK244)⟩; have n2_ : Aside0 (wc.heap[gb245]? = some (.cells #[.int .i64 0, .int .i64 0, .string (⟨#[]⟩ : ByteArray)] 40 (0, 0))) := ⟨by rw [← hq_]; exact (bu_ BK245)⟩; have n3_ : Aside0 (Below w.heap.size w wc) := ⟨by rw [← hq_]; exact (be_ HB)⟩; clear BK243 BK244 BK245 HB hq_; have BK243 := n0_; have BK244 := n1_; have BK245 := n2_; have HB := n3_; clear n0_ n1_ n2_ n3_)); have hcz28_0 : wc.cell? ⟨gb245, 0, none⟩ = some (.int .i64 0) := (blk_cell BK245.out 0).trans rfl; have hcz28_1 : wc.cell? ⟨gb245, 1, none⟩ = some (.int .i64 0) := (blk_cell BK245.out 1).trans rfl; have hcz28_2 : wc.cell? ⟨gb245, 2, none⟩ = some (.string (⟨#[]⟩ : ByteArray)) := (blk_cell BK245.out 2).trans rfl; have hfz28_0 := blk_frozen BK245.out 0; have hfz28_1 := blk_frozen BK245.out 1; have hfz28_2 := blk_frozen BK245.out 2))
          refine bodyPost_ret (results_ct rfl _ _ gb245 40 #[.int .i64 1, .int .i64 t246, .string (⟨#[]⟩ : ByteArray)] (0, 0) _ rfl (bp_ BK245) Try.underlying40 rfl (by kernel_rfl)) rfl ?_
          exact ⟨by first | rfl | (simp [errW_none, errW_some] <;> rfl) | (simp [*, errW_none, errW_some] <;> rfl), by repeat (first | (with_reducible first | exact HB.out | apply below_alloc | apply pw_below_drewN | apply below_drew1 | refine below_set ?_ GE243.out | refine below_set ?_ GE244.out | refine below_set ?_ GE245.out) | exact HB.out)⟩
        · rw [if_neg c22] at H
          obtain ⟨c22b0, c22b1⟩ := neB_ c22
          simp only [Option.some.injEq, Prod.mk.injEq] at H
          obtain ⟨rfl, rfl, rfl, rfl⟩ := H
          have hnb29 := NB243_244.out
          have hnc29 := NB244_243.out
          have hnb30 := NB243_245.out
          have hnc30 := NB245_243.out
          have hcz31_0 : wc.cell? ⟨gb243, 0, none⟩ = some (.int .i64 a1_0) := (blk_cell BK243.out 0).trans rfl
          have hcz31_1 : wc.cell? ⟨gb243, 1, none⟩ = some (.int .i64 a1_1) := (blk_cell BK243.out 1).trans rfl
          have hcz31_2 : wc.cell? ⟨gb243, 2, none⟩ = some (.string a1_2) := (blk_cell BK243.out 2).trans rfl
          have hfz31_0 := blk_frozen BK243.out 0
          have hfz31_1 := blk_frozen BK243.out 1
          have hfz31_2 := blk_frozen BK243.out 2
          have hnb32 := NB244_245.out
          have hnc32 := NB245_244.out
          have hcz33_0 : wc.cell? ⟨gb244, 0, none⟩ = some (.int .i64 a2_0) := (blk_cell BK244.out 0).trans rfl
          have hcz33_1 : wc.cell? ⟨gb244, 1, none⟩ = some (.int .i64 a2_1) := (blk_cell BK244.out 1).trans rfl
          have hcz33_2 : wc.cell? ⟨gb244, 2, none⟩ = some (.string a2_2) := (blk_cell BK244.out 2).trans rfl
          have hfz33_0 := blk_frozen BK244.out 0
          have hfz33_1 := blk_frozen BK244.out 1
          have hfz33_2 := blk_frozen BK244.out 2
          go_wp2_with (first | ((with_reducible refine gate_callee (f := 13) rfl ?_); refine goesL_ (some 25) rfl rfl Try.func13 (by kernel_rfl) rfl #[.int .i64 a0, .int .i64 a1_1, .int .i64 a2_1] rfl ga_ ?_; (with_reducible refine (num_Do.calls kj3 a0 a1_1 a2_1 t246 t247 _ A21.out).mono ?_); rintro e w' ⟨rfl, ⟨nd, rfl⟩⟩; refine ⟨_, rfl, ?_⟩; (try (rw [drewN_self wc]; generalize hq_ : World.drewN wc _ = wc; have n0_ : Aside0 (wc.heap[gb243]? = some (.cells #[.int .i64 a1_0, .int .i64 a1_1, .string a1_2] 40 (0, 0))) := ⟨by rw [← hq_]; exact (bu_ BK243)⟩; have n1_ : Aside0 (wc.heap[gb244]? = some (.cells #[.int .i64 a2_0, .int .i64 a2_1, .string a2_2] 40 (0, 0))) := ⟨by rw [← hq_]; exact (bu_ BK244)⟩; have n2_ : Aside0 (wc.heap[gb245]? = some (.cells #[.int .i64 0, .int .i64 0, .string (⟨#[]⟩ : ByteArray)] 40 (0, 0))) := ⟨by rw [← hq_]; exact (bu_ BK245)⟩; have n3_ : Aside0 (Below w.heap.size w wc) := ⟨by rw [← hq_]; exact (be_ HB)⟩; clear BK243 BK244 BK245 HB hq_; have BK243 := n0_; have BK244 := n1_; have BK245 := n2_; have HB := n3_; clear n0_ n1_ n2_ n3_)); have hcz34_0 : wc.cell? ⟨gb245, 0, none⟩ = some (.int .i64 0) := (blk_cell BK245.out 0).trans rfl; have hcz34_1 : wc.cell? ⟨gb245, 1, none⟩ = some (.int .i64 0) := (blk_cell BK245.out 1).trans rfl; have hcz34_2 : wc.cell? ⟨gb245, 2, none⟩ = some (.string (⟨#[]⟩ : ByteArray)) := (blk_cell BK245.out 2).trans rfl; have hfz34_0 := blk_frozen BK245.out 0; have hfz34_1 := blk_frozen BK245.out 1; have hfz34_2 := blk_frozen BK245.out 2))
          refine bodyPost_ret (results_ct rfl _ _ gb245 40 #[.int .i64 0, .int .i64 0, .string (⟨#[]⟩ : ByteArray)] (0, 0) _ rfl (bp_ BK245) Try.underlying40 rfl (by kernel_rfl)) rfl ?_
          exact ⟨by first | rfl | (simp [errW_none, errW_some] <;> rfl) | (simp [*, errW_none, errW_some] <;> rfl), by repeat (first | (with_reducible first | exact HB.out | apply below_alloc | apply pw_below_drewN | apply below_drew1 | refine below_set ?_ GE243.out | refine below_set ?_ GE244.out | refine below_set ?_ GE245.out) | exact HB.out)⟩
end Go.Proofs.Ytconpnagoijacaa.P
end
section
namespace Go.Proofs.Ytconpnagoijacaa.P
open Go.RowKit Go.Proofs.YtconpnagoijacaaW.PrintWords Go.Proofs.YtconpnagoijacaaW.PrintLast Go.Proofs.YtconpnagoijacaaW.PrintMore
attribute [local go_sem] max2_int min2_int max_two min_two max_three min_three max_four min_four
set_option linter.unusedVariables false
set_option linter.unusedSimpArgs false
mutual
def expr_Eval.j0 : Nat → List (S52) → List (S62) → Int → Option (Int × Int × ByteArray × Int)
  | 0, _, _, _ => none
  | k + 1, x0, x1, x6 => if x6 = 0 then (expr_Eval.l0 k x1 ([] : List (S40)) x0 (x0.length : Int) 0) else (some (0, 0, (⟨#[]⟩ : ByteArray), x6))
def expr_Eval.l0 : Nat → List (S62) → List (S40) → List (S52) → Int → Int → Option (Int × Int × ByteArray × Int)
  | 0, _, _, _, _, _ => none
  | k + 1, x1, x7, x22, x23, x24 => if x24 < x23 then (if 0 ≤ x24 then (if x24 < (x22.length : Int) then ((expr_pushes.f ((rd_T52 x22 x24).f0)).bind fun t255 => (if t255 = true then ((expr_push.f k ((rd_T52 x22 x24).f0) ((rd_T52 x22 x24).f1) ((rd_T52 x22 x24).f2.f0) ((rd_T52 x22 x24).f2.f1) ((rd_T52 x22 x24).f2.f2) x1).bind fun bt256 => (if bt256.2.2.2 = 0 then (if x7.length < 4398046511104 then (expr_Eval.l0 k x1 (x7 ++ [(⟨bt256.1, bt256.2.1, bt256.2.2.1⟩ : S40)]) x22 x23 (wrap64 (x24 + 1))) else (none)) else (some (0, 0, (⟨#[]⟩ : ByteArray), bt256.2.2.2)))) else (if 0 ≤ (wrap64 ((x7.length : Int) - 2)) then (if (wrap64 ((x7.length : Int) - 2)) < (x7.length : Int) then (if 0 ≤ (wrap64 ((wrap64 ((x7.length : Int) - 2)) + 1)) then (if (wrap64 ((wrap64 ((x7.length : Int) - 2)) + 1)) < (x7.length : Int) then ((expr_reckon.f k ((rd_T52 x22 x24).f0) ((rd_T40 x7 (wrap64 ((x7.length : Int) - 2))).f0) ((rd_T40 x7 (wrap64 ((x7.length : Int) - 2))).f1) ((rd_T40 x7 (wrap64 ((x7.length : Int) - 2))).f2) ((rd_T40 x7 (wrap64 ((wrap64 ((x7.length : Int) - 2)) + 1))).f0) ((rd_T40 x7 (wrap64 ((wrap64 ((x7.length : Int) - 2)) + 1))).f1) ((rd_T40 x7 (wrap64 ((wrap64 ((x7.length : Int) - 2)) + 1))).f2)).bind fun bt265 => (if (wrap64 ((x7.length : Int) - 2)) ≤ (x7.length : Int) then ((some (x7.take ((wrap64 ((x7.length : Int) - 2)) : Int).toNat : List (S40))).bind fun y269 => (if bt265.2.2.2 = 0 then (if y269.length < 4398046511104 then (expr_Eval.l0 k x1 (y269 ++ [(⟨bt265.1, bt265.2.1, bt265.2.2.1⟩ : S40)]) x22 x23 (wrap64 (x24 + 1))) else (none)) else (some (0, 0, (⟨#[]⟩ : ByteArray), bt265.2.2.2)))) else (none))) else (none)) else (none)) else (none)) else (none)))) else (none)) else (none)) else (if 0 < (x7.length : Int) then (some ((rd_T40 x7 0).f0, (rd_T40 x7 0).f1, (rd_T40 x7 0).f2, 0)) else (none))
end
def expr_Eval.f (k : Nat) (l0 : List (S52)) (l1 : List (S62)) : Option (Int × Int × ByteArray × Int) := (expr_Check.f k l0).bind fun t249 => (if t249 = 0 then ((subst_Check.f k l1).bind fun t250 => (expr_Eval.j0 k l0 l1 t250)) else (expr_Eval.j0 k l0 l1 t249))
theorem expr_Eval.mono_l : ∀ k, (∀ y0 y1 y2, LeO (expr_Eval.j0 k y0 y1 y2) (expr_Eval.j0 (k + 1) y0 y1 y2)) ∧ (∀ y0 y1 y2 y3 y4, LeO (expr_Eval.l0 k y0 y1 y2 y3 y4) (expr_Eval.l0 (k + 1) y0 y1 y2 y3 y4))
  | 0 => ⟨fun _ _ _ r h => by simp [expr_Eval.j0] at h, fun _ _ _ _ _ r h => by simp [expr_Eval.l0] at h⟩
  | k + 1 => by
    obtain ⟨ih0, ih1⟩ := expr_Eval.mono_l k
    refine ⟨?_, ?_⟩
    · intro y0 y1 y2
      unfold expr_Eval.j0
      repeat' first
      | (with_reducible exact ih0 _ _ _)
      | (with_reducible exact ih1 _ _ _ _ _)
      | (with_reducible exact expr_Check.mono _ _)
      | (with_reducible exact expr_push.mono _ _ _ _ _ _ _)
      | (with_reducible exact expr_reckon.mono _ _ _ _ _ _ _ _)
      | (with_reducible exact subst_Check.mono _ _)
      | (with_reducible exact LeO.refl _)
      | (with_reducible exact LeO.none _)
      | (with_reducible refine LeO.ite ?_ ?_)
      | (with_reducible refine LeO.bind ?_ (fun _ => ?_))
      | exact ih0 _ _ _
      | exact ih1 _ _ _ _ _
      | exact expr_Check.mono _ _
      | exact expr_push.mono _ _ _ _ _ _ _
      | exact expr_reckon.mono _ _ _ _ _ _ _ _
      | exact subst_Check.mono _ _
      | exact LeO.none _
      | refine LeO.ite ?_ ?_
      | refine LeO.bind ?_ (fun _ => ?_)
    · intro y0 y1 y2 y3 y4
      unfold expr_Eval.l0
      repeat' first
      | (with_reducible exact ih0 _ _ _)
      | (with_reducible exact ih1 _ _ _ _ _)
      | (with_reducible exact expr_Check.mono _ _)
      | (with_reducible exact expr_push.mono _ _ _ _ _ _ _)
      | (with_reducible exact expr_reckon.mono _ _ _ _ _ _ _ _)
      | (with_reducible exact subst_Check.mono _ _)
      | (with_reducible exact LeO.refl _)
      | (with_reducible exact LeO.none _)
      | (with_reducible refine LeO.ite ?_ ?_)
      | (with_reducible refine LeO.bind ?_ (fun _ => ?_))
      | exact ih0 _ _ _
      | exact ih1 _ _ _ _ _
      | exact expr_Check.mono _ _
      | exact expr_push.mono _ _ _ _ _ _ _
      | exact expr_reckon.mono _ _ _ _ _ _ _ _
      | exact subst_Check.mono _ _
      | exact LeO.none _
      | refine LeO.ite ?_ ?_
      | refine LeO.bind ?_ (fun _ => ?_)
theorem expr_Eval.mono : ∀ a0 a1 k, LeO (expr_Eval.f k a0 a1) (expr_Eval.f (k + 1) a0 a1) := by
  intro a0 a1 k
  obtain ⟨ih0, ih1⟩ := expr_Eval.mono_l k
  unfold expr_Eval.f
  repeat' first
      | (with_reducible exact ih0 _ _ _)
      | (with_reducible exact ih1 _ _ _ _ _)
      | (with_reducible exact expr_Check.mono _ _)
      | (with_reducible exact expr_push.mono _ _ _ _ _ _ _)
      | (with_reducible exact expr_reckon.mono _ _ _ _ _ _ _ _)
      | (with_reducible exact subst_Check.mono _ _)
      | (with_reducible exact LeO.refl _)
      | (with_reducible exact LeO.none _)
      | (with_reducible refine LeO.ite ?_ ?_)
      | (with_reducible refine LeO.bind ?_ (fun _ => ?_))
      | exact ih0 _ _ _
      | exact ih1 _ _ _ _ _
      | exact expr_Check.mono _ _
      | exact expr_push.mono _ _ _ _ _ _ _
      | exact expr_reckon.mono _ _ _ _ _ _ _ _
      | exact subst_Check.mono _ _
      | exact LeO.none _
      | refine LeO.ite ?_ ?_
      | refine LeO.bind ?_ (fun _ => ?_)
def expr_Eval.T14 : Bool × List (List Nat × List Nat) := (true, [([], []), ([0], [0]), ([], []), ([], []), ([2, 3], [2, 3]), ([4], [4]), ([], []), ([], []), ([7], [7]), ([6, 8], [6, 8]), ([9], [9]), ([1, 5, 10], [1, 5, 10]), ([11], [11]), ([12], [12]), ([12], [12]), ([13, 11, 0, 1, 2, 3, 4, 5, 6, 7, 8, 9, 10, 11, 12, 13], [13]), ([14, 15, 0, 1, 2, 3, 4, 5, 6, 7, 8, 9, 10, 11, 12, 13, 14, 15], [14])])
def expr_Eval.B14 : List Nat := [0, 1, 0, 0, 12, 28, 0, 0, 128, 448, 960, 2047, 4095, 8191, 8191, 16383, 65535]
theorem expr_Eval.tab14 : rtab .any (opsOf Try.f21 14) = expr_Eval.T14 := by kernel_rfl
theorem expr_Eval.bits14 : waitsOk expr_Eval.T14.2 expr_Eval.B14 = true := by kernel_rfl
set_option maxHeartbeats 8000000 in
set_option maxRecDepth 100000 in
theorem expr_Eval.calls (k : Nat) (A0 : Option Addr) (c0 : Nat) (l0 : List (S52)) (A1 : Option Addr) (c1 : Nat) (l1 : List (S62)) (r1 : Int) (r2 : Int) (r3 : ByteArray) (r4 : Int) (w : World) (hr0 : Kd.C k52 w A0 l0.length l0) (hc0 : l0.length ≤ c0) (hr1 : Kd.C k62 w A1 l1.length l1) (hc1 : l1.length ≤ c1) (h : expr_Eval.f k l0 l1 = some (r1, r2, r3, r4)) :
    Calls Try.prog 21 #[.slice A0 l0.length c0, .slice A1 l1.length c1] w fun e w' => e = .returned (.tuple #[.agg #[.int .i64 r1, .int .i64 r2, .string r3], .int .i64 r4]) ∧ Below w.heap.size w w' := by
  have hu40 := Try.underlying40
  have hu52 := Try.underlying52
  have HR0 := Aside0.mk hr0
  have HC0 := Aside0.mk hc0
  clear hr0 hc0
  have HR1 := Aside0.mk hr1
  have HC1 := Aside0.mk hc1
  clear hr1 hc1
  have HB := Aside0.mk (Below.refl w.heap.size w)
  have H : ((expr_Check.f k l0).bind fun t249 => (if t249 = 0 then ((subst_Check.f k l1).bind fun t250 => (expr_Eval.j0 k l0 l1 t250)) else (expr_Eval.j0 k l0 l1 t249))) = some (r1, r2, r3, r4) := h
  clear h
  replace H := Option.bind_eq_some_iff.mp H
  obtain ⟨t249, A30, H⟩ := H
  replace H : (if t249 = 0 then ((subst_Check.f k l1).bind fun t250 => (expr_Eval.j0 k l0 l1 t250)) else (expr_Eval.j0 k l0 l1 t249)) = some (r1, r2, r3, r4) := H
  have A3 := Aside0.mk A30
  clear A30
  have HC4 := Aside0.mk H
  clear H
  go_enter Try.func21, Try.ntmps21
  go_upto_if 15 with (first | ((with_reducible refine gate_dst (N := 4) rfl ?_); refine box_event ?hg (N := 4) ?hd (cs := #[.int .i64 0, .int .i64 0, .string (⟨#[]⟩ : ByteArray)]) (t := 40) ?hr ?_; (case hd => rfl); (case hg => rfl); (case hr => first | (go_simp; done) | (go_simp; rfl)); intro gb248 hg w5 hbox hb; have n0_ := bs_ (be_ HB) hb; have n1_ := Aside0.mk (hbox); have n2_ := gs_ hg (be_ HB); have n3_ := gs_ hg (be_ HB); clear HB; have HB := n0_; have BK248 := n1_; have GW248 := n2_; have GE248 := n3_; clear n0_ n1_ n2_ n3_; clear hb hbox hg) | ((with_reducible refine gate_callee (f := 28) rfl ?_); refine goesL_ (some 13) rfl rfl Try.func28 (by kernel_rfl) rfl #[.slice A0 l0.length c0] rfl ga_ ?_; (with_reducible refine (expr_Check.calls k _ _ l0 t249 _ ?side1 ?side2 A3.out).mono ?_); (case side1 => repeat (first | exact (Kd.C_below HR0.out HB.out) | (with_reducible refine Kd.C_alloc ?_ _) | (with_reducible refine Kd.C_drewN ?_ _) | (with_reducible refine Kd.C_drew ?_))); (case side2 => exact HC0.out); rintro e w6 ⟨rfl, hb⟩; refine ⟨_, rfl, ?_⟩; have n0_ := bb_ (bu_ BK248) hb; have n1_ := bs_ (be_ HB) hb; clear BK248; clear HB; have BK248 := n0_; have HB := n1_; clear n0_ n1_; (try clear hb); (try clear hb2); (try clear hk); (try clear hi)))
  (try simp only [Act.put, List.setIfInBounds_toArray, List.set_cons_zero, List.set_cons_succ])
  go_cut [6] (fun v6 wc => ∃ (kq : Nat) (x6_3 : Int), v6 = .int .i64 x6_3 ∧ Aside0 (expr_Eval.j0 kq l0 l1 x6_3 = some (r1, r2, r3, r4)) ∧ Aside0 (kq ≤ k) ∧ Aside0 (wc.heap[gb248]? = some (.cells #[.int .i64 0, .int .i64 0, .string (⟨#[]⟩ : ByteArray)] 40 (0, 0))) ∧ Aside0 (Below w.heap.size w wc))
  case first =>
    have H := HC4.out
    clear HC4
    by_cases c7 : t249 = 0
    · rw [if_pos c7] at H
      obtain ⟨c7b0, c7b1⟩ := eqB_ c7
      clear c7
      (first | rw [c7b0] | (simp only [i64_w, i32_w]; rw [c7b0]) | skip)
      replace H := Option.bind_eq_some_iff.mp H
      obtain ⟨t250, A80, H⟩ := H
      replace H : (expr_Eval.j0 k l0 l1 t250) = some (r1, r2, r3, r4) := H
      have A8 := Aside0.mk A80
      clear A80
      have H' := Aside0.mk H
      clear H
      go_wp2_with (first | ((with_reducible refine gate_callee (f := 39) rfl ?_); refine goesL_ (some 17) rfl rfl Try.func39 (by kernel_rfl) rfl #[.slice A1 l1.length c1] rfl ga_ ?_; (with_reducible refine (subst_Check.calls k _ _ l1 t250 _ ?side1 ?side2 A8.out).mono ?_); (case side1 => repeat (first | exact (Kd.C_below HR1.out HB.out) | (with_reducible refine Kd.C_alloc ?_ _) | (with_reducible refine Kd.C_drewN ?_ _) | (with_reducible refine Kd.C_drew ?_))); (case side2 => exact HC1.out); rintro e w9 ⟨rfl, hb⟩; refine ⟨_, rfl, ?_⟩; have n0_ := bb_ (bu_ BK248) hb; have n1_ := bs_ (be_ HB) hb; clear BK248; clear HB; have BK248 := n0_; have HB := n1_; clear n0_ n1_; (try clear hb); (try clear hb2); (try clear hk); (try clear hi)))
      go_meet
      case rel => exact ⟨_, (t250), ra_, H', ⟨by first | omega | exact Nat.le_refl _⟩, ⟨by (with_reducible repeat (first | refine blk_drewN ?_ _ | refine blk_drew ?_ | refine blk_alloc ?_ _)); exact BK248.out⟩, ⟨by repeat (first | (with_reducible first | exact HB.out | apply below_alloc | apply pw_below_drewN | apply below_drew1 | refine below_set ?_ GE248.out) | exact HB.out)⟩⟩
    · rw [if_neg c7] at H
      obtain ⟨c7b0, c7b1⟩ := neB_ c7
      (first | rw [c7b0] | (simp only [i64_w, i32_w]; rw [c7b0]) | skip)
      have H' := Aside0.mk H
      clear H
      go_wp2
      go_meet
      case rel => exact ⟨_, (t249), ra_, H', ⟨by first | omega | exact Nat.le_refl _⟩, ⟨by (with_reducible repeat (first | refine blk_drewN ?_ _ | refine blk_drew ?_ | refine blk_alloc ?_ _)); exact BK248.out⟩, ⟨by repeat (first | (with_reducible first | exact HB.out | apply below_alloc | apply pw_below_drewN | apply below_drew1 | refine below_set ?_ GE248.out) | exact HB.out)⟩⟩
  case rest =>
    clear HC4
    try clear c1
    try clear c2
    try clear p2
    try clear c3
    try clear c7
    try clear c7b0
    try clear c7b1
    obtain ⟨kq, x6_3, rfl, HA, HJ3, BK248, HB⟩ := hcut
    cases kq with
    | zero => exact absurd HA.out (by simp [expr_Eval.j0])
    | succ kj3 =>
      have H := HA.out
      clear HA
      simp only [expr_Eval.j0] at H
      by_cases c10 : x6_3 = 0
      · rw [if_pos c10] at H
        obtain ⟨c10b0, c10b1⟩ := eqB_ c10
        clear c10
        have H' := Aside0.mk H
        clear H
        go_wp2
        go_loopg [7, 24] kj3 (fun kq v7 v24 w' => ∃ (x7_2 : List (S40)) (x24_2 : Int) (x249000_2 : Int) (x249001_2 : Int) (x249002_2 : ByteArray), v24 = .int .i64 x24_2 ∧ Aside0 (expr_Eval.l0 kq l1 x7_2 l0 (l0.length : Int) x24_2 = some (r1, r2, r3, r4)) ∧ Aside0 (kq ≤ kj3) ∧ Aside0 (Kd.R k40 40 w' w.heap.size (fun k_ => k_ ≠ gb248) v7 x7_2) ∧ Aside0 (w'.heap[gb248]? = some (.cells #[.int .i64 x249000_2, .int .i64 x249001_2, .string x249002_2] 40 (0, 0))) ∧ Aside0 (Below w.heap.size w w'))
        case atStart => exact ⟨(([] : List (S40))), (0), (0), (0), ((⟨#[]⟩ : ByteArray)), ra_, H', ⟨Nat.le_refl _⟩, ⟨by first | exact Kd.R_nil _ _ _ _ _ | exact Kd.N_nil _ _ _ _ _ | exact Kd.V_nil _ _ _ _ _ | exact Kd.Q_nil _ _ _ _ _ | exact Kd.S_nil _ _ _ _ _⟩, ⟨by (with_reducible repeat (first | refine blk_drewN ?_ _ | refine blk_drew ?_ | refine blk_alloc ?_ _)); exact BK248.out⟩, ⟨by repeat (first | (with_reducible first | exact HB.out | apply below_alloc | apply pw_below_drewN | apply below_drew1 | refine below_set ?_ GE248.out) | exact HB.out)⟩⟩
        case round =>
          clear H'
          try clear c1
          try clear c2
          try clear p2
          try clear c3
          try clear c7
          try clear c7b0
          try clear c7b1
          try clear c10
          try clear c10b0
          try clear c10b1
          try clear p2
          obtain ⟨x7_2, x24_2, x249000_2, x249001_2, x249002_2, rfl, HA, HK2, HO_7, BK248, HB⟩ := hrel
          cases gk with
          | zero => exact absurd HA.out (by simp [expr_Eval.l0])
          | succ k2 =>
            have H := HA.out
            clear HA
            simp only [expr_Eval.l0] at H
            by_cases c11 : x24_2 < (l0.length : Int)
            · rw [if_pos c11] at H
              have c11b0 : decide (x24_2 < (l0.length : Int)) = true := decide_eq_true c11
              clear c11
              by_cases c12 : 0 ≤ x24_2
              · rw [if_pos c12] at H
                have c12b0 : decide (0 ≤ x24_2) = true := decide_eq_true c12
                clear c12
                by_cases c13 : x24_2 < (l0.length : Int)
                · rw [if_pos c13] at H
                  have c13b0 : decide (x24_2 < (l0.length : Int)) = true := decide_eq_true c13
                  clear c13
                  replace H := Option.bind_eq_some_iff.mp H
                  obtain ⟨t255, A140, H⟩ := H
                  replace H : (if t255 = true then ((expr_push.f k2 ((rd_T52 l0 x24_2).f0) ((rd_T52 l0 x24_2).f1) ((rd_T52 l0 x24_2).f2.f0) ((rd_T52 l0 x24_2).f2.f1) ((rd_T52 l0 x24_2).f2.f2) l1).bind fun bt256 => (if bt256.2.2.2 = 0 then (if x7_2.length < 4398046511104 then (expr_Eval.l0 k2 l1 (x7_2 ++ [(⟨bt256.1, bt256.2.1, bt256.2.2.1⟩ : S40)]) l0 (l0.length : Int) (wrap64 (x24_2 + 1))) else (none)) else (some (0, 0, (⟨#[]⟩ : ByteArray), bt256.2.2.2)))) else (if 0 ≤ (wrap64 ((x7_2.length : Int) - 2)) then (if (wrap64 ((x7_2.length : Int) - 2)) < (x7_2.length : Int) then (if 0 ≤ (wrap64 ((wrap64 ((x7_2.length : Int) - 2)) + 1)) then (if (wrap64 ((wrap64 ((x7_2.length : Int) - 2)) + 1)) < (x7_2.length : Int) then ((expr_reckon.f k2 ((rd_T52 l0 x24_2).f0) ((rd_T40 x7_2 (wrap64 ((x7_2.length : Int) - 2))).f0) ((rd_T40 x7_2 (wrap64 ((x7_2.length : Int) - 2))).f1) ((rd_T40 x7_2 (wrap64 ((x7_2.length : Int) - 2))).f2) ((rd_T40 x7_2 (wrap64 ((wrap64 ((x7_2.length : Int) - 2)) + 1))).f0) ((rd_T40 x7_2 (wrap64 ((wrap64 ((x7_2.length : Int) - 2)) + 1))).f1) ((rd_T40 x7_2 (wrap64 ((wrap64 ((x7_2.length : Int) - 2)) + 1))).f2)).bind fun bt265 => (if (wrap64 ((x7_2.length : Int) - 2)) ≤ (x7_2.length : Int) then ((some (x7_2.take ((wrap64 ((x7_2.length : Int) - 2)) : Int).toNat : List (S40))).bind fun y269 => (if bt265.2.2.2 = 0 then (if y269.length < 4398046511104 then (expr_Eval.l0 k2 l1 (y269 ++ [(⟨bt265.1, bt265.2.1, bt265.2.2.1⟩ : S40)]) l0 (l0.length : Int) (wrap64 (x24_2 + 1))) else (none)) else (some (0, 0, (⟨#[]⟩ : ByteArray), bt265.2.2.2)))) else (none))) else (none)) else (none)) else (none)) else (none))) = some (r1, r2, r3, r4) := H
                  have A14 := Aside0.mk A140
                  clear A140
                  by_cases c15 : t255 = true
                  · subst c15
                    have H1 : ((expr_push.f k2 ((rd_T52 l0 x24_2).f0) ((rd_T52 l0 x24_2).f1) ((rd_T52 l0 x24_2).f2.f0) ((rd_T52 l0 x24_2).f2.f1) ((rd_T52 l0 x24_2).f2.f2) l1).bind fun bt256 => (if bt256.2.2.2 = 0 then (if x7_2.length < 4398046511104 then (expr_Eval.l0 k2 l1 (x7_2 ++ [(⟨bt256.1, bt256.2.1, bt256.2.2.1⟩ : S40)]) l0 (l0.length : Int) (wrap64 (x24_2 + 1))) else (none)) else (some (0, 0, (⟨#[]⟩ : ByteArray), bt256.2.2.2)))) = some (r1, r2, r3, r4) := by rw [if_pos rfl] at H; exact H
                    clear H
                    have H := H1
                    clear H1
                    replace H := Option.bind_eq_some_iff.mp H
                    obtain ⟨⟨t256, t257, t258, t259⟩, A160, H⟩ := H
                    replace H : (if t259 = 0 then (if x7_2.length < 4398046511104 then (expr_Eval.l0 k2 l1 (x7_2 ++ [(⟨t256, t257, t258⟩ : S40)]) l0 (l0.length : Int) (wrap64 (x24_2 + 1))) else (none)) else (some (0, 0, (⟨#[]⟩ : ByteArray), t259))) = some (r1, r2, r3, r4) := H
                    have A16 := Aside0.mk A160
                    clear A160
                    by_cases c17 : t259 = 0
                    · rw [if_pos c17] at H
                      obtain ⟨c17b0, c17b1⟩ := eqB_ c17
                      clear c17
                      by_cases c18 : x7_2.length < 4398046511104
                      · rw [if_pos c18] at H
                        have LMc18 := Aside0.mk c18
                        clear c18
                        obtain ⟨y260, hy260⟩ : ∃ y_ : List (S40), y_ = (x7_2 ++ [(⟨t256, t257, t258⟩ : S40)]) := ⟨_, rfl⟩
                        replace H : (expr_Eval.l0 k2 l1 y260 l0 (l0.length : Int) (wrap64 (x24_2 + 1))) = some (r1, r2, r3, r4) := by first | (rw [hy260]; with_reducible exact H) | (have H2_ := (Option.bind_some _ _).symm.trans H; rw [hy260]; with_reducible exact H2_) | (have H2_ := (Option.bind_some _ _).symm.trans H; with_reducible exact H2_) | with_reducible exact H | (rw [hy260]; exact H) | exact H
                        have Ny260 := Aside0.mk hy260
                        clear hy260
                        have H' := Aside0.mk H
                        clear H
                        have p252 : 0 ≤ (x24_2 : Int) := dt_
                        have q252 : x24_2 < (l0.length : Int) := dt_
                        obtain ⟨ad252, e252, hx252_0, hx252_1, hx252_2, hx252_3, hx252_4⟩ := at_T52 HR0.out x24_2 p252 q252
                        cases e252
                        replace hx252_0 := cm_ HB hx252_0
                        replace hx252_1 := cm_ HB hx252_1
                        replace hx252_2 := cm_ HB hx252_2
                        replace hx252_3 := cm_ HB hx252_3
                        replace hx252_4 := cm_ HB hx252_4
                        replace p252 := eq_true p252
                        replace q252 := eq_true q252
                        go_wp2_with (first | ((with_reducible refine gate_dst (N := 9) rfl ?_); refine box_event ?hg (N := 9) ?hd (cs := #[.int .i64 0, .string (⟨#[]⟩ : ByteArray), .int .i64 0, .int .i64 0, .string (⟨#[]⟩ : ByteArray)]) (t := 52) ?hr ?_; (case hd => rfl); (case hg => rfl); (case hr => first | (go_simp; done) | (go_simp; rfl)); intro gb253 hg w19 hbox hb; have n0_ := kb_ (ku_ HO_7.out) hb; have n1_ := bb_ (bu_ BK248) hb; have n2_ := bs_ (be_ HB) hb; have n3_ := Aside0.mk (hbox); have n4_ := gs_ hg (be_ HB); have n5_ := gs_ hg (be_ HB); have n6_ := nl_ hg (bu_ BK248); have n7_ := ng_ hg (bu_ BK248); clear HO_7; clear BK248; clear HB; have HO_7 := n0_; have BK248 := n1_; have HB := n2_; have BK253 := n3_; have GW253 := n4_; have GE253 := n5_; have NB248_253 := n6_; have NB253_248 := n7_; clear n0_ n1_ n2_ n3_ n4_ n5_ n6_ n7_; clear hb hbox hg; have hnb20 := NB253_248.out; have hnc20 := NB248_253.out; have hcz21_0 : w19.cell? ⟨gb253, 0, none⟩ = some (.int .i64 0) := (blk_cell BK253.out 0).trans rfl; have hcz21_1 : w19.cell? ⟨gb253, 1, none⟩ = some (.string (⟨#[]⟩ : ByteArray)) := (blk_cell BK253.out 1).trans rfl; have hcz21_2 : w19.cell? ⟨gb253, 2, none⟩ = some (.int .i64 0) := (blk_cell BK253.out 2).trans rfl; have hcz21_3 : w19.cell? ⟨gb253, 3, none⟩ = some (.int .i64 0) := (blk_cell BK253.out 3).trans rfl; have hcz21_4 : w19.cell? ⟨gb253, 4, none⟩ = some (.string (⟨#[]⟩ : ByteArray)) := (blk_cell BK253.out 4).trans rfl; have hfz21_0 := blk_frozen BK253.out 0; have hfz21_1 := blk_frozen BK253.out 1; have hfz21_2 := blk_frozen BK253.out 2; have hfz21_3 := blk_frozen BK253.out 3; have hfz21_4 := blk_frozen BK253.out 4) | ((with_reducible refine gate_dst (N := 10) rfl ?_); refine box_event ?hg (N := 10) ?hd (cs := #[.int .i64 0, .int .i64 0, .string (⟨#[]⟩ : ByteArray)]) (t := 40) ?hr ?_; (case hd => rfl); (case hg => rfl); (case hr => first | (go_simp; done) | (go_simp; rfl)); intro gb254 hg w22 hbox hb; have n0_ := Aside0.mk (Kd.R_below (Kd.R_elderB (ku_ (Kd.R_mono (Kd.R_far (p := ⟨gb253, 4, none⟩) (Kd.R_far (p := ⟨gb253, 3, none⟩) (Kd.R_far (p := ⟨gb253, 2, none⟩) (Kd.R_far (p := ⟨gb253, 1, none⟩) (Kd.R_far (p := ⟨gb253, 0, none⟩) (Kd.R_types HO_7.out BK253.out (by decide)) (fun _ hk => hk.2) (.int .i64 ((rd_T52 l0 x24_2).f0))) (fun _ hk => hk.2) (.string ((rd_T52 l0 x24_2).f1))) (fun _ hk => hk.2) (.int .i64 ((rd_T52 l0 x24_2).f2.f0))) (fun _ hk => hk.2) (.int .i64 ((rd_T52 l0 x24_2).f2.f1))) (fun _ hk => hk.2) (.string ((rd_T52 l0 x24_2).f2.f2))) (fun _ h_ => h_.1))) gb254 (Nat.le_of_eq hg.symm)) hb); have n1_ := bb_ (bu_ BK248) hb; have n2_ := Aside0.mk (blk_below (o := .cells #[.int .i64 ((rd_T52 l0 x24_2).f0), .string ((rd_T52 l0 x24_2).f1), .int .i64 ((rd_T52 l0 x24_2).f2.f0), .int .i64 ((rd_T52 l0 x24_2).f2.f1), .string ((rd_T52 l0 x24_2).f2.f2)] 52 (0, 0)) (bp_ BK253) hb); have n3_ := bs_ (be_ HB) hb; have n4_ := Aside0.mk (hbox); have n5_ := gs_ hg (be_ HB); have n6_ := gs_ hg (be_ HB); have n7_ := nl_ hg (bu_ BK248); have n8_ := ng_ hg (bu_ BK248); have n9_ := Aside0.mk ((by rw [hg]; exact Nat.ne_of_lt (blk_lt (o := .cells #[.int .i64 ((rd_T52 l0 x24_2).f0), .string ((rd_T52 l0 x24_2).f1), .int .i64 ((rd_T52 l0 x24_2).f2.f0), .int .i64 ((rd_T52 l0 x24_2).f2.f1), .string ((rd_T52 l0 x24_2).f2.f2)] 52 (0, 0)) (bp_ BK253)) : gb253 ≠ gb254)); have n10_ := Aside0.mk ((by rw [hg]; exact Nat.ne_of_gt (blk_lt (o := .cells #[.int .i64 ((rd_T52 l0 x24_2).f0), .string ((rd_T52 l0 x24_2).f1), .int .i64 ((rd_T52 l0 x24_2).f2.f0), .int .i64 ((rd_T52 l0 x24_2).f2.f1), .string ((rd_T52 l0 x24_2).f2.f2)] 52 (0, 0)) (bp_ BK253)) : gb254 ≠ gb253)); clear HO_7; clear BK248; clear BK253; clear HB; have HO_7 := n0_; have BK248 := n1_; have BK253 := n2_; have HB := n3_; have BK254 := n4_; have GW254 := n5_; have GE254 := n6_; have NB248_254 := n7_; have NB254_248 := n8_; have NB253_254 := n9_; have NB254_253 := n10_; clear n0_ n1_ n2_ n3_ n4_ n5_ n6_ n7_ n8_ n9_ n10_; clear hb hbox hg; have hnb23 := NB253_254.out; have hnc23 := NB254_253.out; have hcz24_0 : w22.cell? ⟨gb253, 0, none⟩ = some (.int .i64 ((rd_T52 l0 x24_2).f0)) := (blk_cell BK253.out 0).trans rfl; have hcz24_1 : w22.cell? ⟨gb253, 1, none⟩ = some (.string ((rd_T52 l0 x24_2).f1)) := (blk_cell BK253.out 1).trans rfl; have hcz24_2 : w22.cell? ⟨gb253, 2, none⟩ = some (.int .i64 ((rd_T52 l0 x24_2).f2.f0)) := (blk_cell BK253.out 2).trans rfl; have hcz24_3 : w22.cell? ⟨gb253, 3, none⟩ = some (.int .i64 ((rd_T52 l0 x24_2).f2.f1)) := (blk_cell BK253.out 3).trans rfl; have hcz24_4 : w22.cell? ⟨gb253, 4, none⟩ = some (.string ((rd_T52 l0 x24_2).f2.f2)) := (blk_cell BK253.out 4).trans rfl; have hfz24_0 := blk_frozen BK253.out 0; have hfz24_1 := blk_frozen BK253.out 1; have hfz24_2 := blk_frozen BK253.out 2; have hfz24_3 := blk_frozen BK253.out 3; have hfz24_4 := blk_frozen BK253.out 4) | ((with_reducible refine gate_callee (f := 40) rfl ?_); refine goesL_ (some 30) rfl rfl Try.func40 (by kernel_rfl) rfl #[.int .i64 ((rd_T52 l0 x24_2).f0)] rfl ga_ ?_; (with_reducible refine (expr_pushes.calls ((rd_T52 l0 x24_2).f0) true _ A14.out).mono ?_); rintro e w' ⟨rfl, ⟨nd, rfl⟩⟩; refine ⟨_, rfl, ?_⟩; (try (rw [drewN_self w22]; generalize hq_ : World.drewN w22 _ = w22; have n0_ : Aside0 (Kd.R k40 40 w22 w.heap.size (fun k_ => k_ ≠ gb248 ∧ k_ ≠ gb254) u7 x7_2) := ⟨by rw [← hq_]; exact (ku_ HO_7.out)⟩; have n1_ : Aside0 (w22.heap[gb248]? = some (.cells #[.int .i64 x249000_2, .int .i64 x249001_2, .string x249002_2] 40 (0, 0))) := ⟨by rw [← hq_]; exact (bu_ BK248)⟩; have n2_ : Aside0 (w22.heap[gb253]? = some (.cells #[.int .i64 ((rd_T52 l0 x24_2).f0), .string ((rd_T52 l0 x24_2).f1), .int .i64 ((rd_T52 l0 x24_2).f2.f0), .int .i64 ((rd_T52 l0 x24_2).f2.f1), .string ((rd_T52 l0 x24_2).f2.f2)] 52 (0, 0))) := ⟨by rw [← hq_]; exact (bu_ BK253)⟩; have n3_ : Aside0 (w22.heap[gb254]? = some (.cells #[.int .i64 0, .int .i64 0, .string (⟨#[]⟩ : ByteArray)] 40 (0, 0))) := ⟨by rw [← hq_]; exact (bu_ BK254)⟩; have n4_ : Aside0 (Below w.heap.size w w22) := ⟨by rw [← hq_]; exact (be_ HB)⟩; clear HO_7 BK248 BK253 BK254 HB hq_; have HO_7 := n0_; have BK248 := n1_; have BK253 := n2_; have BK254 := n3_; have HB := n4_; clear n0_ n1_ n2_ n3_ n4_)); have hcz25_0 : w22.cell? ⟨gb253, 0, none⟩ = some (.int .i64 ((rd_T52 l0 x24_2).f0)) := (blk_cell BK253.out 0).trans rfl; have hcz25_1 : w22.cell? ⟨gb253, 1, none⟩ = some (.string ((rd_T52 l0 x24_2).f1)) := (blk_cell BK253.out 1).trans rfl; have hcz25_2 : w22.cell? ⟨gb253, 2, none⟩ = some (.int .i64 ((rd_T52 l0 x24_2).f2.f0)) := (blk_cell BK253.out 2).trans rfl; have hcz25_3 : w22.cell? ⟨gb253, 3, none⟩ = some (.int .i64 ((rd_T52 l0 x24_2).f2.f1)) := (blk_cell BK253.out 3).trans rfl; have hcz25_4 : w22.cell? ⟨gb253, 4, none⟩ = some (.string ((rd_T52 l0 x24_2).f2.f2)) := (blk_cell BK253.out 4).trans rfl; have hfz25_0 := blk_frozen BK253.out 0; have hfz25_1 := blk_frozen BK253.out 1; have hfz25_2 := blk_frozen BK253.out 2; have hfz25_3 := blk_frozen BK253.out 3; have hfz25_4 := blk_frozen BK253.out 4) | ((with_reducible refine gate_callee (f := 41) rfl ?_); refine goesL_ (some 34) rfl rfl Try.func41 (by kernel_rfl) rfl #[.agg #[.int .i64 ((rd_T52 l0 x24_2).f0), .string ((rd_T52 l0 x24_2).f1), .int .i64 ((rd_T52 l0 x24_2).f2.f0), .int .i64 ((rd_T52 l0 x24_2).f2.f1), .string ((rd_T52 l0 x24_2).f2.f2)], .slice A1 l1.length c1] rfl ga_ ?_; (with_reducible refine (expr_push.calls k2 ((rd_T52 l0 x24_2).f0) ((rd_T52 l0 x24_2).f1) ((rd_T52 l0 x24_2).f2.f0) ((rd_T52 l0 x24_2).f2.f1) ((rd_T52 l0 x24_2).f2.f2) _ _ l1 t256 t257 t258 t259 _ ?side1 ?side2 A16.out).mono ?_); (case side1 => repeat (first | exact (Kd.C_below HR1.out HB.out) | (with_reducible refine Kd.C_alloc ?_ _) | (with_reducible refine Kd.C_drewN ?_ _) | (with_reducible refine Kd.C_drew ?_))); (case side2 => exact HC1.out); rintro e w26 ⟨rfl, hb⟩; refine ⟨_, rfl, ?_⟩; have n0_ := kb_ (ku_ HO_7.out) hb; have n1_ := bb_ (bu_ BK248) hb; have n2_ := bb_ (bu_ BK253) hb; have n3_ := bb_ (bu_ BK254) hb; have n4_ := bs_ (be_ HB) hb; clear HO_7; clear BK248; clear BK253; clear BK254; clear HB; have HO_7 := n0_; have BK248 := n1_; have BK253 := n2_; have BK254 := n3_; have HB := n4_; clear n0_ n1_ n2_ n3_ n4_; (try clear hb); (try clear hb2); (try clear hk); (try clear hi); have hnb27 := NB254_248.out; have hnc27 := NB248_254.out; have hcz28_0 : w26.cell? ⟨gb254, 0, none⟩ = some (.int .i64 0) := (blk_cell BK254.out 0).trans rfl; have hcz28_1 : w26.cell? ⟨gb254, 1, none⟩ = some (.int .i64 0) := (blk_cell BK254.out 1).trans rfl; have hcz28_2 : w26.cell? ⟨gb254, 2, none⟩ = some (.string (⟨#[]⟩ : ByteArray)) := (blk_cell BK254.out 2).trans rfl; have hfz28_0 := blk_frozen BK254.out 0; have hfz28_1 := blk_frozen BK254.out 1; have hfz28_2 := blk_frozen BK254.out 2) | ((with_reducible refine gate_builtin (b := .append) (xs := #[.tmp 62, .tmp 64]) rfl ?_); at_builtin; refine Kd.R_append k40 (w0 := w) w.heap.size rfl (.tmp 62) (.tmp 64) 64 40 (.agg #[(.int .i64 0), (.int .i64 0), (.string ⟨#[]⟩)]) 32 rfl Try.underlying64 info40 rfl (by decide) (by omega) u7 x7_2 (⟨t256, t257, t258⟩ : S40) [.int .i64 t256, .int .i64 t257, .string t258] (fun k_ => k_ ≠ gb248 ∧ k_ ≠ gb254) (fun _ => False) rfl (by first | (go_simp; done) | (go_simp; rfl)) ?aP (fun _ hk => hk.elim) ?aF ?aO ?aB ?aS ?aL ?_; (case aP => exact k40_mkM _ _ _ (⟨t256, t257, t258⟩ : S40)); (case aB => exact (be_ HB)); (case aF => exact (fun k_ hk => ⟨Kd.freshB (bu_ BK248) k_ hk, Kd.freshB (o := .cells #[.int .i64 t256, .int .i64 t257, .string t258] 40 (0, 0)) (bp_ BK254) k_ hk⟩)); (case aO => exact (by (with_reducible repeat (first | apply Kd.R_alloc | apply Kd.R_drewN | apply Kd.R_drew)); exact Kd.R_mono (Kd.R_far (p := ⟨gb254, 2, none⟩) (Kd.R_far (p := ⟨gb254, 1, none⟩) (Kd.R_far (p := ⟨gb254, 0, none⟩) (Kd.R_mono HO_7.out (fun k_ hk => (⟨hk, hk.2⟩ : _ ∧ k_ ≠ gb254))) (fun _ hk => hk.2) (.int .i64 t256)) (fun _ hk => hk.2) (.int .i64 t257)) (fun _ hk => hk.2) (.string t258)) (fun _ hk => ⟨hk.1.1, hk.1.2⟩))); (case aS => exact (below_size (be_ HB))); (case aL => have := LMc18.out; omega); intro v261 w29 ho hb hg hat; rw [← Ny260.out] at ho; have n0_ := Aside0.mk (blk_grown (bu_ BK248) hg (Kd.R_away HO_7.out (fun _ hk => hk.1))); have n1_ := Aside0.mk (blk_grown (bu_ BK253) hg (Kd.R_ne HO_7.out BK253.out (by decide))); have n2_ := Aside0.mk (blk_grown (o := .cells #[.int .i64 t256, .int .i64 t257, .string t258] 40 (0, 0)) (bp_ BK254) hg (Kd.R_away HO_7.out (fun _ hk => hk.2))); have n3_ := Aside0.mk (hb); have n4_ := Aside0.mk (ho); clear BK248; clear BK253; clear BK254; clear HB; clear HO_7; have BK248 := n0_; have BK253 := n1_; have BK254 := n2_; have HB := n3_; have HO262 := n4_; clear n0_ n1_ n2_ n3_ n4_; clear ho hb hg hat))
                        go_roundg k2
                        case measure => have := HJ3.out; have := HK2.out; omega
                        case rel => exact ⟨(y260), (wrap64 (x24_2 + 1)), (x249000_2), (x249001_2), (x249002_2), ra_, H', ⟨by have := HJ3.out; have := HK2.out; omega⟩, ⟨by (with_reducible repeat (first | apply Kd.R_alloc | apply Kd.R_drewN | apply Kd.R_drew)); exact Kd.R_mono HO262.out (fun _ hk => hk.1)⟩, ⟨by (with_reducible repeat (first | refine blk_drewN ?_ _ | refine blk_drew ?_ | refine blk_alloc ?_ _)); exact BK248.out⟩, ⟨by repeat (first | (with_reducible first | exact HB.out | apply below_alloc | apply pw_below_drewN | apply below_drew1 | refine below_set ?_ GE248.out | refine below_set ?_ GE253.out | refine below_set ?_ GE254.out) | exact HB.out)⟩⟩
                      · rw [if_neg c18] at H
                        exact absurd H (by simp)
                    · rw [if_neg c17] at H
                      obtain ⟨c17b0, c17b1⟩ := neB_ c17
                      simp only [Option.some.injEq, Prod.mk.injEq] at H
                      obtain ⟨rfl, rfl, rfl, rfl⟩ := H
                      have p252 : 0 ≤ (x24_2 : Int) := dt_
                      have q252 : x24_2 < (l0.length : Int) := dt_
                      obtain ⟨ad252, e252, hx252_0, hx252_1, hx252_2, hx252_3, hx252_4⟩ := at_T52 HR0.out x24_2 p252 q252
                      cases e252
                      replace hx252_0 := cm_ HB hx252_0
                      replace hx252_1 := cm_ HB hx252_1
                      replace hx252_2 := cm_ HB hx252_2
                      replace hx252_3 := cm_ HB hx252_3
                      replace hx252_4 := cm_ HB hx252_4
                      replace p252 := eq_true p252
                      replace q252 := eq_true q252
                      go_wp2_with (first | ((with_reducible refine gate_dst (N := 9) rfl ?_); refine box_event ?hg (N := 9) ?hd (cs := #[.int .i64 0, .string (⟨#[]⟩ : ByteArray), .int .i64 0, .int .i64 0, .string (⟨#[]⟩ : ByteArray)]) (t := 52) ?hr ?_; (case hd => rfl); (case hg => rfl); (case hr => first | (go_simp; done) | (go_simp; rfl)); intro gb253 hg w30 hbox hb; have n0_ := kb_ (ku_ HO_7.out) hb; have n1_ := bb_ (bu_ BK248) hb; have n2_ := bs_ (be_ HB) hb; have n3_ := Aside0.mk (hbox); have n4_ := gs_ hg (be_ HB); have n5_ := gs_ hg (be_ HB); have n6_ := nl_ hg (bu_ BK248); have n7_ := ng_ hg (bu_ BK248); clear HO_7; clear BK248; clear HB; have HO_7 := n0_; have BK248 := n1_; have HB := n2_; have BK253 := n3_; have GW253 := n4_; have GE253 := n5_; have NB248_253 := n6_; have NB253_248 := n7_; clear n0_ n1_ n2_ n3_ n4_ n5_ n6_ n7_; clear hb hbox hg; have hnb31 := NB253_248.out; have hnc31 := NB248_253.out; have hcz32_0 : w30.cell? ⟨gb253, 0, none⟩ = some (.int .i64 0) := (blk_cell BK253.out 0).trans rfl; have hcz32_1 : w30.cell? ⟨gb253, 1, none⟩ = some (.string (⟨#[]⟩ : ByteArray)) := (blk_cell BK253.out 1).trans rfl; have hcz32_2 : w30.cell? ⟨gb253, 2, none⟩ = some (.int .i64 0) := (blk_cell BK253.out 2).trans rfl; have hcz32_3 : w30.cell? ⟨gb253, 3, none⟩ = some (.int .i64 0) := (blk_cell BK253.out 3).trans rfl; have hcz32_4 : w30.cell? ⟨gb253, 4, none⟩ = some (.string (⟨#[]⟩ : ByteArray)) := (blk_cell BK253.out 4).trans rfl; have hfz32_0 := blk_frozen BK253.out 0; have hfz32_1 := blk_frozen BK253.out 1; have hfz32_2 := blk_frozen BK253.out 2; have hfz32_3 := blk_frozen BK253.out 3; have hfz32_4 := blk_frozen BK253.out 4) | ((with_reducible refine gate_dst (N := 10) rfl ?_); refine box_event ?hg (N := 10) ?hd (cs := #[.int .i64 0, .int .i64 0, .string (⟨#[]⟩ : ByteArray)]) (t := 40) ?hr ?_; (case hd => rfl); (case hg => rfl); (case hr => first | (go_simp; done) | (go_simp; rfl)); intro gb254 hg w33 hbox hb; have n0_ := Aside0.mk (Kd.R_below (Kd.R_elderB (ku_ (Kd.R_mono (Kd.R_far (p := ⟨gb253, 4, none⟩) (Kd.R_far (p := ⟨gb253, 3, none⟩) (Kd.R_far (p := ⟨gb253, 2, none⟩) (Kd.R_far (p := ⟨gb253, 1, none⟩) (Kd.R_far (p := ⟨gb253, 0, none⟩) (Kd.R_types HO_7.out BK253.out (by decide)) (fun _ hk => hk.2) (.int .i64 ((rd_T52 l0 x24_2).f0))) (fun _ hk => hk.2) (.string ((rd_T52 l0 x24_2).f1))) (fun _ hk => hk.2) (.int .i64 ((rd_T52 l0 x24_2).f2.f0))) (fun _ hk => hk.2) (.int .i64 ((rd_T52 l0 x24_2).f2.f1))) (fun _ hk => hk.2) (.string ((rd_T52 l0 x24_2).f2.f2))) (fun _ h_ => h_.1))) gb254 (Nat.le_of_eq hg.symm)) hb); have n1_ := bb_ (bu_ BK248) hb; have n2_ := Aside0.mk (blk_below (o := .cells #[.int .i64 ((rd_T52 l0 x24_2).f0), .string ((rd_T52 l0 x24_2).f1), .int .i64 ((rd_T52 l0 x24_2).f2.f0), .int .i64 ((rd_T52 l0 x24_2).f2.f1), .string ((rd_T52 l0 x24_2).f2.f2)] 52 (0, 0)) (bp_ BK253) hb); have n3_ := bs_ (be_ HB) hb; have n4_ := Aside0.mk (hbox); have n5_ := gs_ hg (be_ HB); have n6_ := gs_ hg (be_ HB); have n7_ := nl_ hg (bu_ BK248); have n8_ := ng_ hg (bu_ BK248); have n9_ := Aside0.mk ((by rw [hg]; exact Nat.ne_of_lt (blk_lt (o := .cells #[.int .i64 ((rd_T52 l0 x24_2).f0), .string ((rd_T52 l0 x24_2).f1), .int .i64 ((rd_T52 l0 x24_2).f2.f0), .int .i64 ((rd_T52 l0 x24_2).f2.f1), .string ((rd_T52 l0 x24_2).f2.f2)] 52 (0, 0)) (bp_ BK253)) : gb253 ≠ gb254)); have n10_ := Aside0.mk ((by rw [hg]; exact Nat.ne_of_gt (blk_lt (o := .cells #[.int .i64 ((rd_T52 l0 x24_2).f0), .string ((rd_T52 l0 x24_2).f1), .int .i64 ((rd_T52 l0 x24_2).f2.f0), .int .i64 ((rd_T52 l0 x24_2).f2.f1), .string ((rd_T52 l0 x24_2).f2.f2)] 52 (0, 0)) (bp_ BK253)) : gb254 ≠ gb253)); clear HO_7; clear BK248; clear BK253; clear HB; have HO_7 := n0_; have BK248 := n1_; have BK253 := n2_; have HB := n3_; have BK254 := n4_; have GW254 := n5_; have GE254 := n6_; have NB248_254 := n7_; have NB254_248 := n8_; have NB253_254 := n9_; have NB254_253 := n10_; clear n0_ n1_ n2_ n3_ n4_ n5_ n6_ n7_ n8_ n9_ n10_; clear hb hbox hg; have hnb34 := NB253_254.out; have hnc34 := NB254_253.out; have hcz35_0 : w33.cell? ⟨gb253, 0, none⟩ = some (.int .i64 ((rd_T52 l0 x24_2).f0)) := (blk_cell BK253.out 0).trans rfl; have hcz35_1 : w33.cell? ⟨gb253, 1, none⟩ = some (.string ((rd_T52 l0 x24_2).f1)) := (blk_cell BK253.out 1).trans rfl; have hcz35_2 : w33.cell? ⟨gb253, 2, none⟩ = some (.int .i64 ((rd_T52 l0 x24_2).f2.f0)) := (blk_cell BK253.out 2).trans rfl; have hcz35_3 : w33.cell? ⟨gb253, 3, none⟩ = some (.int .i64 ((rd_T52 l0 x24_2).f2.f1)) := (blk_cell BK253.out 3).trans rfl; have hcz35_4 : w33.cell? ⟨gb253, 4, none⟩ = some (.string ((rd_T52 l0 x24_2).f2.f2)) := (blk_cell BK253.out 4).trans rfl; have hfz35_0 := blk_frozen BK253.out 0; have hfz35_1 := blk_frozen BK253.out 1; have hfz35_2 := blk_frozen BK253.out 2; have hfz35_3 := blk_frozen BK253.out 3; have hfz35_4 := blk_frozen BK253.out 4) | ((with_reducible refine gate_callee (f := 40) rfl ?_); refine goesL_ (some 30) rfl rfl Try.func40 (by kernel_rfl) rfl #[.int .i64 ((rd_T52 l0 x24_2).f0)] rfl ga_ ?_; (with_reducible refine (expr_pushes.calls ((rd_T52 l0 x24_2).f0) true _ A14.out).mono ?_); rintro e w' ⟨rfl, ⟨nd, rfl⟩⟩; refine ⟨_, rfl, ?_⟩; (try (rw [drewN_self w33]; generalize hq_ : World.drewN w33 _ = w33; have n0_ : Aside0 (Kd.R k40 40 w33 w.heap.size (fun k_ => k_ ≠ gb248 ∧ k_ ≠ gb254) u7 x7_2) := ⟨by rw [← hq_]; exact (ku_ HO_7.out)⟩; have n1_ : Aside0 (w33.heap[gb248]? = some (.cells #[.int .i64 x249000_2, .int .i64 x249001_2, .string x249002_2] 40 (0, 0))) := ⟨by rw [← hq_]; exact (bu_ BK248)⟩; have n2_ : Aside0 (w33.heap[gb253]? = some (.cells #[.int .i64 ((rd_T52 l0 x24_2).f0), .string ((rd_T52 l0 x24_2).f1), .int .i64 ((rd_T52 l0 x24_2).f2.f0), .int .i64 ((rd_T52 l0 x24_2).f2.f1), .string ((rd_T52 l0 x24_2).f2.f2)] 52 (0, 0))) := ⟨by rw [← hq_]; exact (bu_ BK253)⟩; have n3_ : Aside0 (w33.heap[gb254]? = some (.cells #[.int .i64 0, .int .i64 0, .string (⟨#[]⟩ : ByteArray)] 40 (0, 0))) := ⟨by rw [← hq_]; exact (bu_ BK254)⟩; have n4_ : Aside0 (Below w.heap.size w w33) := ⟨by rw [← hq_]; exact (be_ HB)⟩; clear HO_7 BK248 BK253 BK254 HB hq_; have HO_7 := n0_; have BK248 := n1_; have BK253 := n2_; have BK254 := n3_; have HB := n4_; clear n0_ n1_ n2_ n3_ n4_)); have hcz36_0 : w33.cell? ⟨gb253, 0, none⟩ = some (.int .i64 ((rd_T52 l0 x24_2).f0)) := (blk_cell BK253.out 0).trans rfl; have hcz36_1 : w33.cell? ⟨gb253, 1, none⟩ = some (.string ((rd_T52 l0 x24_2).f1)) := (blk_cell BK253.out 1).trans rfl; have hcz36_2 : w33.cell? ⟨gb253, 2, none⟩ = some (.int .i64 ((rd_T52 l0 x24_2).f2.f0)) := (blk_cell BK253.out 2).trans rfl; have hcz36_3 : w33.cell? ⟨gb253, 3, none⟩ = some (.int .i64 ((rd_T52 l0 x24_2).f2.f1)) := (blk_cell BK253.out 3).trans rfl; have hcz36_4 : w33.cell? ⟨gb253, 4, none⟩ = some (.string ((rd_T52 l0 x24_2).f2.f2)) := (blk_cell BK253.out 4).trans rfl; have hfz36_0 := blk_frozen BK253.out 0; have hfz36_1 := blk_frozen BK253.out 1; have hfz36_2 := blk_frozen BK253.out 2; have hfz36_3 := blk_frozen BK253.out 3; have hfz36_4 := blk_frozen BK253.out 4) | ((with_reducible refine gate_callee (f := 41) rfl ?_); refine goesL_ (some 34) rfl rfl Try.func41 (by kernel_rfl) rfl #[.agg #[.int .i64 ((rd_T52 l0 x24_2).f0), .string ((rd_T52 l0 x24_2).f1), .int .i64 ((rd_T52 l0 x24_2).f2.f0), .int .i64 ((rd_T52 l0 x24_2).f2.f1), .string ((rd_T52 l0 x24_2).f2.f2)], .slice A1 l1.length c1] rfl ga_ ?_; (with_reducible refine (expr_push.calls k2 ((rd_T52 l0 x24_2).f0) ((rd_T52 l0 x24_2).f1) ((rd_T52 l0 x24_2).f2.f0) ((rd_T52 l0 x24_2).f2.f1) ((rd_T52 l0 x24_2).f2.f2) _ _ l1 t256 t257 t258 t259 _ ?side1 ?side2 A16.out).mono ?_); (case side1 => repeat (first | exact (Kd.C_below HR1.out HB.out) | (with_reducible refine Kd.C_alloc ?_ _) | (with_reducible refine Kd.C_drewN ?_ _) | (with_reducible refine Kd.C_drew ?_))); (case side2 => exact HC1.out); rintro e w37 ⟨rfl, hb⟩; refine ⟨_, rfl, ?_⟩; have n0_ := kb_ (ku_ HO_7.out) hb; have n1_ := bb_ (bu_ BK248) hb; have n2_ := bb_ (bu_ BK253) hb; have n3_ := bb_ (bu_ BK254) hb; have n4_ := bs_ (be_ HB) hb; clear HO_7; clear BK248; clear BK253; clear BK254; clear HB; have HO_7 := n0_; have BK248 := n1_; have BK253 := n2_; have BK254 := n3_; have HB := n4_; clear n0_ n1_ n2_ n3_ n4_; (try clear hb); (try clear hb2); (try clear hk); (try clear hi); have hnb38 := NB254_248.out; have hnc38 := NB248_254.out; have hcz39_0 : w37.cell? ⟨gb254, 0, none⟩ = some (.int .i64 0) := (blk_cell BK254.out 0).trans rfl; have hcz39_1 : w37.cell? ⟨gb254, 1, none⟩ = some (.int .i64 0) := (blk_cell BK254.out 1).trans rfl; have hcz39_2 : w37.cell? ⟨gb254, 2, none⟩ = some (.string (⟨#[]⟩ : ByteArray)) := (blk_cell BK254.out 2).trans rfl; have hfz39_0 := blk_frozen BK254.out 0; have hfz39_1 := blk_frozen BK254.out 1; have hfz39_2 := blk_frozen BK254.out 2; have hcz40_0 : w37.cell? ⟨gb248, 0, none⟩ = some (.int .i64 x249000_2) := (blk_cell BK248.out 0).trans rfl; have hcz40_1 : w37.cell? ⟨gb248, 1, none⟩ = some (.int .i64 x249001_2) := (blk_cell BK248.out 1).trans rfl; have hcz40_2 : w37.cell? ⟨gb248, 2, none⟩ = some (.string x249002_2) := (blk_cell BK248.out 2).trans rfl; have hfz40_0 := blk_frozen BK248.out 0; have hfz40_1 := blk_frozen BK248.out 1; have hfz40_2 := blk_frozen BK248.out 2))
                      refine bodyPost_ret (results_ct rfl _ _ gb248 40 #[.int .i64 0, .int .i64 0, .string (⟨#[]⟩ : ByteArray)] (0, 0) _ rfl (bp_ BK248) Try.underlying40 rfl (by kernel_rfl)) rfl ?_
                      exact ⟨by first | rfl | (simp [errW_none, errW_some] <;> rfl) | (simp [*, errW_none, errW_some] <;> rfl), by repeat (first | (with_reducible first | exact HB.out | apply below_alloc | apply pw_below_drewN | apply below_drew1 | refine below_set ?_ GE248.out | refine below_set ?_ GE253.out | refine below_set ?_ GE254.out) | exact HB.out)⟩
                  · replace c15 := Bool.eq_false_iff.mpr c15
                    subst c15
                    have H1 : (if 0 ≤ (wrap64 ((x7_2.length : Int) - 2)) then (if (wrap64 ((x7_2.length : Int) - 2)) < (x7_2.length : Int) then (if 0 ≤ (wrap64 ((wrap64 ((x7_2.length : Int) - 2)) + 1)) then (if (wrap64 ((wrap64 ((x7_2.length : Int) - 2)) + 1)) < (x7_2.length : Int) then ((expr_reckon.f k2 ((rd_T52 l0 x24_2).f0) ((rd_T40 x7_2 (wrap64 ((x7_2.length : Int) - 2))).f0) ((rd_T40 x7_2 (wrap64 ((x7_2.length : Int) - 2))).f1) ((rd_T40 x7_2 (wrap64 ((x7_2.length : Int) - 2))).f2) ((rd_T40 x7_2 (wrap64 ((wrap64 ((x7_2.length : Int) - 2)) + 1))).f0) ((rd_T40 x7_2 (wrap64 ((wrap64 ((x7_2.length : Int) - 2)) + 1))).f1) ((rd_T40 x7_2 (wrap64 ((wrap64 ((x7_2.length : Int) - 2)) + 1))).f2)).bind fun bt265 => (if (wrap64 ((x7_2.length : Int) - 2)) ≤ (x7_2.length : Int) then ((some (x7_2.take ((wrap64 ((x7_2.length : Int) - 2)) : Int).toNat : List (S40))).bind fun y269 => (if bt265.2.2.2 = 0 then (if y269.length < 4398046511104 then (expr_Eval.l0 k2 l1 (y269 ++ [(⟨bt265.1, bt265.2.1, bt265.2.2.1⟩ : S40)]) l0 (l0.length : Int) (wrap64 (x24_2 + 1))) else (none)) else (some (0, 0, (⟨#[]⟩ : ByteArray), bt265.2.2.2)))) else (none))) else (none)) else (none)) else (none)) else (none)) = some (r1, r2, r3, r4) := by rw [if_neg (show ¬ (false = true) by decide)] at H; exact H
                    clear H
                    have H := H1
                    clear H1
                    obtain ⟨ji41, hji41⟩ : ∃ j_ : Int, (wrap64 ((x7_2.length : Int) - 2)) = j_ := ⟨_, rfl⟩
                    replace H : (if 0 ≤ (ji41) then (if (ji41) < (x7_2.length : Int) then (if 0 ≤ (wrap64 ((ji41) + 1)) then (if (wrap64 ((ji41) + 1)) < (x7_2.length : Int) then ((expr_reckon.f k2 ((rd_T52 l0 x24_2).f0) ((rd_T40 x7_2 (ji41)).f0) ((rd_T40 x7_2 (ji41)).f1) ((rd_T40 x7_2 (ji41)).f2) ((rd_T40 x7_2 (wrap64 ((ji41) + 1))).f0) ((rd_T40 x7_2 (wrap64 ((ji41) + 1))).f1) ((rd_T40 x7_2 (wrap64 ((ji41) + 1))).f2)).bind fun bt265 => (if (ji41) ≤ (x7_2.length : Int) then ((some (x7_2.take ((ji41) : Int).toNat : List (S40))).bind fun y269 => (if bt265.2.2.2 = 0 then (if y269.length < 4398046511104 then (expr_Eval.l0 k2 l1 (y269 ++ [(⟨bt265.1, bt265.2.1, bt265.2.2.1⟩ : S40)]) l0 (l0.length : Int) (wrap64 (x24_2 + 1))) else (none)) else (some (0, 0, (⟨#[]⟩ : ByteArray), bt265.2.2.2)))) else (none))) else (none)) else (none)) else (none)) else (none)) = some (r1, r2, r3, r4) := by first | (rw [hji41] at H; exact H) | (simp only [hji41] at H ⊢; exact H)
                    (try rw [hji41] at A14)
                    have hji41w : (IntKind.i64.wrap ((x7_2.length : Int) - 2)) = ji41 := (i64_w _).trans hji41
                    by_cases c42 : 0 ≤ (ji41)
                    · rw [if_pos c42] at H
                      have c42b0 : decide (0 ≤ (ji41)) = true := decide_eq_true c42
                      clear c42
                      by_cases c43 : (ji41) < (x7_2.length : Int)
                      · rw [if_pos c43] at H
                        have c43b0 : decide ((ji41) < (x7_2.length : Int)) = true := decide_eq_true c43
                        clear c43
                        obtain ⟨ji44, hji44⟩ : ∃ j_ : Int, (wrap64 ((ji41) + 1)) = j_ := ⟨_, rfl⟩
                        replace H : (if 0 ≤ (ji44) then (if (ji44) < (x7_2.length : Int) then ((expr_reckon.f k2 ((rd_T52 l0 x24_2).f0) ((rd_T40 x7_2 (ji41)).f0) ((rd_T40 x7_2 (ji41)).f1) ((rd_T40 x7_2 (ji41)).f2) ((rd_T40 x7_2 (ji44)).f0) ((rd_T40 x7_2 (ji44)).f1) ((rd_T40 x7_2 (ji44)).f2)).bind fun bt265 => (if (ji41) ≤ (x7_2.length : Int) then ((some (x7_2.take ((ji41) : Int).toNat : List (S40))).bind fun y269 => (if bt265.2.2.2 = 0 then (if y269.length < 4398046511104 then (expr_Eval.l0 k2 l1 (y269 ++ [(⟨bt265.1, bt265.2.1, bt265.2.2.1⟩ : S40)]) l0 (l0.length : Int) (wrap64 (x24_2 + 1))) else (none)) else (some (0, 0, (⟨#[]⟩ : ByteArray), bt265.2.2.2)))) else (none))) else (none)) else (none)) = some (r1, r2, r3, r4) := by first | (rw [hji44] at H; exact H) | (simp only [hji44] at H ⊢; exact H)
                        (try rw [hji44] at A14)
                        have hji44w : (IntKind.i64.wrap ((ji41) + 1)) = ji44 := (i64_w _).trans hji44
                        by_cases c45 : 0 ≤ (ji44)
                        · rw [if_pos c45] at H
                          have c45b0 : decide (0 ≤ (ji44)) = true := decide_eq_true c45
                          clear c45
                          by_cases c46 : (ji44) < (x7_2.length : Int)
                          · rw [if_pos c46] at H
                            have c46b0 : decide ((ji44) < (x7_2.length : Int)) = true := decide_eq_true c46
                            clear c46
                            replace H := Option.bind_eq_some_iff.mp H
                            obtain ⟨⟨t265, t266, t267, t268⟩, A470, H⟩ := H
                            replace H : (if (ji41) ≤ (x7_2.length : Int) then ((some (x7_2.take ((ji41) : Int).toNat : List (S40))).bind fun y269 => (if t268 = 0 then (if y269.length < 4398046511104 then (expr_Eval.l0 k2 l1 (y269 ++ [(⟨t265, t266, t267⟩ : S40)]) l0 (l0.length : Int) (wrap64 (x24_2 + 1))) else (none)) else (some (0, 0, (⟨#[]⟩ : ByteArray), t268)))) else (none)) = some (r1, r2, r3, r4) := H
                            have A47 := Aside0.mk A470
                            clear A470
                            by_cases c48 : (ji41) ≤ (x7_2.length : Int)
                            · rw [if_pos c48] at H
                              have c48b0 := eq_true c48
                              have c48b1 : decide ((ji41) ≤ (x7_2.length : Int)) = true := decide_eq_true c48
                              clear c48
                              obtain ⟨y269, hy269⟩ : ∃ y_ : List (S40), y_ = (x7_2.take ((ji41) : Int).toNat) := ⟨_, rfl⟩
                              replace H : (if t268 = 0 then (if y269.length < 4398046511104 then (expr_Eval.l0 k2 l1 (y269 ++ [(⟨t265, t266, t267⟩ : S40)]) l0 (l0.length : Int) (wrap64 (x24_2 + 1))) else (none)) else (some (0, 0, (⟨#[]⟩ : ByteArray), t268))) = some (r1, r2, r3, r4) := by first | (rw [hy269]; with_reducible exact H) | (have H2_ := (Option.bind_some _ _).symm.trans H; rw [hy269]; with_reducible exact H2_) | (have H2_ := (Option.bind_some _ _).symm.trans H; with_reducible exact H2_) | with_reducible exact H | (rw [hy269]; exact H) | exact H
                              have Ny269 := Aside0.mk hy269
                              clear hy269
                              by_cases c49 : t268 = 0
                              · rw [if_pos c49] at H
                                obtain ⟨c49b0, c49b1⟩ := eqB_ c49
                                clear c49
                                by_cases c50 : y269.length < 4398046511104
                                · rw [if_pos c50] at H
                                  have LMc50 := Aside0.mk c50
                                  clear c50
                                  obtain ⟨y272, hy272⟩ : ∃ y_ : List (S40), y_ = (y269 ++ [(⟨t265, t266, t267⟩ : S40)]) := ⟨_, rfl⟩
                                  replace H : (expr_Eval.l0 k2 l1 y272 l0 (l0.length : Int) (wrap64 (x24_2 + 1))) = some (r1, r2, r3, r4) := by first | (rw [hy272]; with_reducible exact H) | (have H2_ := (Option.bind_some _ _).symm.trans H; rw [hy272]; with_reducible exact H2_) | (have H2_ := (Option.bind_some _ _).symm.trans H; with_reducible exact H2_) | with_reducible exact H | (rw [hy272]; exact H) | exact H
                                  have Ny272 := Aside0.mk hy272
                                  clear hy272
                                  have H' := Aside0.mk H
                                  clear H
                                  have p252 : 0 ≤ (x24_2 : Int) := dt_
                                  have q252 : x24_2 < (l0.length : Int) := dt_
                                  obtain ⟨ad252, e252, hx252_0, hx252_1, hx252_2, hx252_3, hx252_4⟩ := at_T52 HR0.out x24_2 p252 q252
                                  cases e252
                                  replace hx252_0 := cm_ HB hx252_0
                                  replace hx252_1 := cm_ HB hx252_1
                                  replace hx252_2 := cm_ HB hx252_2
                                  replace hx252_3 := cm_ HB hx252_3
                                  replace hx252_4 := cm_ HB hx252_4
                                  replace p252 := eq_true p252
                                  replace q252 := eq_true q252
                                  try go_wp2_with (first | ((with_reducible refine gate_dst (N := 9) rfl ?_); refine box_event ?hg (N := 9) ?hd (cs := #[.int .i64 0, .string (⟨#[]⟩ : ByteArray), .int .i64 0, .int .i64 0, .string (⟨#[]⟩ : ByteArray)]) (t := 52) ?hr ?_; (case hd => rfl); (case hg => rfl); (case hr => first | (go_simp; done) | (go_simp; rfl)); intro gb253 hg w51 hbox hb; have n0_ := kb_ (ku_ HO_7.out) hb; have n1_ := bb_ (bu_ BK248) hb; have n2_ := bs_ (be_ HB) hb; have n3_ := Aside0.mk (hbox); have n4_ := gs_ hg (be_ HB); have n5_ := gs_ hg (be_ HB); have n6_ := nl_ hg (bu_ BK248); have n7_ := ng_ hg (bu_ BK248); clear HO_7; clear BK248; clear HB; have HO_7 := n0_; have BK248 := n1_; have HB := n2_; have BK253 := n3_; have GW253 := n4_; have GE253 := n5_; have NB248_253 := n6_; have NB253_248 := n7_; clear n0_ n1_ n2_ n3_ n4_ n5_ n6_ n7_; clear hb hbox hg; have hnb52 := NB253_248.out; have hnc52 := NB248_253.out; have hcz53_0 : w51.cell? ⟨gb253, 0, none⟩ = some (.int .i64 0) := (blk_cell BK253.out 0).trans rfl; have hcz53_1 : w51.cell? ⟨gb253, 1, none⟩ = some (.string (⟨#[]⟩ : ByteArray)) := (blk_cell BK253.out 1).trans rfl; have hcz53_2 : w51.cell? ⟨gb253, 2, none⟩ = some (.int .i64 0) := (blk_cell BK253.out 2).trans rfl; have hcz53_3 : w51.cell? ⟨gb253, 3, none⟩ = some (.int .i64 0) := (blk_cell BK253.out 3).trans rfl; have hcz53_4 : w51.cell? ⟨gb253, 4, none⟩ = some (.string (⟨#[]⟩ : ByteArray)) := (blk_cell BK253.out 4).trans rfl; have hfz53_0 := blk_frozen BK253.out 0; have hfz53_1 := blk_frozen BK253.out 1; have hfz53_2 := blk_frozen BK253.out 2; have hfz53_3 := blk_frozen BK253.out 3; have hfz53_4 := blk_frozen BK253.out 4) | ((with_reducible refine gate_dst (N := 10) rfl ?_); refine box_event ?hg (N := 10) ?hd (cs := #[.int .i64 0, .int .i64 0, .string (⟨#[]⟩ : ByteArray)]) (t := 40) ?hr ?_; (case hd => rfl); (case hg => rfl); (case hr => first | (go_simp; done) | (go_simp; rfl)); intro gb254 hg w54 hbox hb; have n0_ := Aside0.mk (Kd.R_below (Kd.R_elderB (ku_ (Kd.R_mono (Kd.R_far (p := ⟨gb253, 4, none⟩) (Kd.R_far (p := ⟨gb253, 3, none⟩) (Kd.R_far (p := ⟨gb253, 2, none⟩) (Kd.R_far (p := ⟨gb253, 1, none⟩) (Kd.R_far (p := ⟨gb253, 0, none⟩) (Kd.R_types HO_7.out BK253.out (by decide)) (fun _ hk => hk.2) (.int .i64 ((rd_T52 l0 x24_2).f0))) (fun _ hk => hk.2) (.string ((rd_T52 l0 x24_2).f1))) (fun _ hk => hk.2) (.int .i64 ((rd_T52 l0 x24_2).f2.f0))) (fun _ hk => hk.2) (.int .i64 ((rd_T52 l0 x24_2).f2.f1))) (fun _ hk => hk.2) (.string ((rd_T52 l0 x24_2).f2.f2))) (fun _ h_ => h_.1))) gb254 (Nat.le_of_eq hg.symm)) hb); have n1_ := bb_ (bu_ BK248) hb; have n2_ := Aside0.mk (blk_below (o := .cells #[.int .i64 ((rd_T52 l0 x24_2).f0), .string ((rd_T52 l0 x24_2).f1), .int .i64 ((rd_T52 l0 x24_2).f2.f0), .int .i64 ((rd_T52 l0 x24_2).f2.f1), .string ((rd_T52 l0 x24_2).f2.f2)] 52 (0, 0)) (bp_ BK253) hb); have n3_ := bs_ (be_ HB) hb; have n4_ := Aside0.mk (hbox); have n5_ := gs_ hg (be_ HB); have n6_ := gs_ hg (be_ HB); have n7_ := nl_ hg (bu_ BK248); have n8_ := ng_ hg (bu_ BK248); have n9_ := Aside0.mk ((by rw [hg]; exact Nat.ne_of_lt (blk_lt (o := .cells #[.int .i64 ((rd_T52 l0 x24_2).f0), .string ((rd_T52 l0 x24_2).f1), .int .i64 ((rd_T52 l0 x24_2).f2.f0), .int .i64 ((rd_T52 l0 x24_2).f2.f1), .string ((rd_T52 l0 x24_2).f2.f2)] 52 (0, 0)) (bp_ BK253)) : gb253 ≠ gb254)); have n10_ := Aside0.mk ((by rw [hg]; exact Nat.ne_of_gt (blk_lt (o := .cells #[.int .i64 ((rd_T52 l0 x24_2).f0), .string ((rd_T52 l0 x24_2).f1), .int .i64 ((rd_T52 l0 x24_2).f2.f0), .int .i64 ((rd_T52 l0 x24_2).f2.f1), .string ((rd_T52 l0 x24_2).f2.f2)] 52 (0, 0)) (bp_ BK253)) : gb254 ≠ gb253)); clear HO_7; clear BK248; clear BK253; clear HB; have HO_7 := n0_; have BK248 := n1_; have BK253 := n2_; have HB := n3_; have BK254 := n4_; have GW254 := n5_; have GE254 := n6_; have NB248_254 := n7_; have NB254_248 := n8_; have NB253_254 := n9_; have NB254_253 := n10_; clear n0_ n1_ n2_ n3_ n4_ n5_ n6_ n7_ n8_ n9_ n10_; clear hb hbox hg; have hnb55 := NB253_254.out; have hnc55 := NB254_253.out; have hcz56_0 : w54.cell? ⟨gb253, 0, none⟩ = some (.int .i64 ((rd_T52 l0 x24_2).f0)) := (blk_cell BK253.out 0).trans rfl; have hcz56_1 : w54.cell? ⟨gb253, 1, none⟩ = some (.string ((rd_T52 l0 x24_2).f1)) := (blk_cell BK253.out 1).trans rfl; have hcz56_2 : w54.cell? ⟨gb253, 2, none⟩ = some (.int .i64 ((rd_T52 l0 x24_2).f2.f0)) := (blk_cell BK253.out 2).trans rfl; have hcz56_3 : w54.cell? ⟨gb253, 3, none⟩ = some (.int .i64 ((rd_T52 l0 x24_2).f2.f1)) := (blk_cell BK253.out 3).trans rfl; have hcz56_4 : w54.cell? ⟨gb253, 4, none⟩ = some (.string ((rd_T52 l0 x24_2).f2.f2)) := (blk_cell BK253.out 4).trans rfl; have hfz56_0 := blk_frozen BK253.out 0; have hfz56_1 := blk_frozen BK253.out 1; have hfz56_2 := blk_frozen BK253.out 2; have hfz56_3 := blk_frozen BK253.out 3; have hfz56_4 := blk_frozen BK253.out 4) | ((with_reducible refine gate_callee (f := 40) rfl ?_); refine goesL_ (some 30) rfl rfl Try.func40 (by kernel_rfl) rfl #[.int .i64 ((rd_T52 l0 x24_2).f0)] rfl ga_ ?_; (with_reducible refine (expr_pushes.calls ((rd_T52 l0 x24_2).f0) false _ A14.out).mono ?_); rintro e w' ⟨rfl, ⟨nd, rfl⟩⟩; refine ⟨_, rfl, ?_⟩; (try (rw [drewN_self w54]; generalize hq_ : World.drewN w54 _ = w54; have n0_ : Aside0 (Kd.R k40 40 w54 w.heap.size (fun k_ => k_ ≠ gb248 ∧ k_ ≠ gb254) u7 x7_2) := ⟨by rw [← hq_]; exact (ku_ HO_7.out)⟩; have n1_ : Aside0 (w54.heap[gb248]? = some (.cells #[.int .i64 x249000_2, .int .i64 x249001_2, .string x249002_2] 40 (0, 0))) := ⟨by rw [← hq_]; exact (bu_ BK248)⟩; have n2_ : Aside0 (w54.heap[gb253]? = some (.cells #[.int .i64 ((rd_T52 l0 x24_2).f0), .string ((rd_T52 l0 x24_2).f1), .int .i64 ((rd_T52 l0 x24_2).f2.f0), .int .i64 ((rd_T52 l0 x24_2).f2.f1), .string ((rd_T52 l0 x24_2).f2.f2)] 52 (0, 0))) := ⟨by rw [← hq_]; exact (bu_ BK253)⟩; have n3_ : Aside0 (w54.heap[gb254]? = some (.cells #[.int .i64 0, .int .i64 0, .string (⟨#[]⟩ : ByteArray)] 40 (0, 0))) := ⟨by rw [← hq_]; exact (bu_ BK254)⟩; have n4_ : Aside0 (Below w.heap.size w w54) := ⟨by rw [← hq_]; exact (be_ HB)⟩; clear HO_7 BK248 BK253 BK254 HB hq_; have HO_7 := n0_; have BK248 := n1_; have BK253 := n2_; have BK254 := n3_; have HB := n4_; clear n0_ n1_ n2_ n3_ n4_)); obtain ⟨Ao57, co57, eo57⟩ := Kd.R_slice HO_7.out; subst eo57))
                                  have n0_ := Aside0.mk (Kd.R_drew HO_7.out)
                                  have n1_ := Aside0.mk (blk_drew BK248.out)
                                  have n2_ := Aside0.mk (blk_drew BK253.out)
                                  have n3_ := Aside0.mk (blk_drew BK254.out)
                                  have n4_ := Aside0.mk (below_drew1 HB.out)
                                  clear HO_7
                                  clear BK248
                                  clear BK253
                                  clear BK254
                                  clear HB
                                  have HO_7 := n0_
                                  have BK248 := n1_
                                  have BK253 := n2_
                                  have BK254 := n3_
                                  have HB := n4_
                                  clear n0_ n1_ n2_ n3_ n4_
                                  have p263 : 0 ≤ ((ji41) : Int) := dt_
                                  have q263 : (ji41) < (x7_2.length : Int) := dt_
                                  obtain ⟨ad263, e263, hx263_0, hx263_1, hx263_2⟩ := at_T40 (Kd.R_reads' HO_7.out).2.2 (ji41) p263 q263
                                  cases e263
                                  replace p263 := eq_true p263
                                  replace q263 := eq_true q263
                                  have p264 : 0 ≤ ((ji44) : Int) := dt_
                                  have q264 : (ji44) < (x7_2.length : Int) := dt_
                                  obtain ⟨ad264, e264, hx264_0, hx264_1, hx264_2⟩ := at_T40 (Kd.R_reads' HO_7.out).2.2 (ji44) p264 q264
                                  obtain rfl : ad263 = ad264 := (by injection e264)
                                  replace p264 := eq_true p264
                                  replace q264 := eq_true q264
                                  refine start_ (n := 17) (S := fun w' => w'.cell? ⟨gb253, 0, none⟩ = some (.int .i64 ((rd_T52 l0 x24_2).f0)) ∧ w'.cell? ⟨gb253, 1, none⟩ = some (.string ((rd_T52 l0 x24_2).f1)) ∧ w'.cell? ⟨gb253, 2, none⟩ = some (.int .i64 ((rd_T52 l0 x24_2).f2.f0)) ∧ w'.cell? ⟨gb253, 3, none⟩ = some (.int .i64 ((rd_T52 l0 x24_2).f2.f1)) ∧ w'.cell? ⟨gb253, 4, none⟩ = some (.string ((rd_T52 l0 x24_2).f2.f2)) ∧ w'.cell? (ad263.add (((ji41)).toNat * 3)) = some (.int .i64 ((rd_T40 x7_2 (ji41)).f0)) ∧ w'.cell? ⟨(ad263.add (((ji41)).toNat * 3)).block, (ad263.add (((ji41)).toNat * 3)).off + 1, none⟩ = some (.int .i64 ((rd_T40 x7_2 (ji41)).f1)) ∧ w'.cell? ⟨(ad263.add (((ji41)).toNat * 3)).block, (ad263.add (((ji41)).toNat * 3)).off + 2, none⟩ = some (.string ((rd_T40 x7_2 (ji41)).f2)) ∧ w'.cell? (ad263.add (((ji44)).toNat * 3)) = some (.int .i64 ((rd_T40 x7_2 (ji44)).f0)) ∧ w'.cell? ⟨(ad263.add (((ji44)).toNat * 3)).block, (ad263.add (((ji44)).toNat * 3)).off + 1, none⟩ = some (.int .i64 ((rd_T40 x7_2 (ji44)).f1)) ∧ w'.cell? ⟨(ad263.add (((ji44)).toNat * 3)).block, (ad263.add (((ji44)).toNat * 3)).off + 2, none⟩ = some (.string ((rd_T40 x7_2 (ji44)).f2))) (ds := []) (mk_ 17 0) (by kernel_rfl) rfl rfl ⟨(blk_cell BK253.out 0).trans rfl, (blk_cell BK253.out 1).trans rfl, (blk_cell BK253.out 2).trans rfl, (blk_cell BK253.out 3).trans rfl, (blk_cell BK253.out 4).trans rfl, hx263_0, hx263_1, hx263_2, hx264_0, hx264_1, hx264_2⟩ (fun hHeld => ?_); refine with_tabW expr_Eval.tab14 expr_Eval.bits14 (fun HT_ HW_ => ?_)
                                  generalize w54.drew = w58 at HO_7 BK248 BK253 BK254 HB hx263_0 hx263_1 hx263_2 hx264_0 hx264_1 hx264_2 hHeld ⊢
                                  refine pu_ 0 41 1 HT_ ?_; refine pu_ 2 43 5 HT_ ?_; refine pu_ 3 44 13 HT_ ?_; refine pu_ 4 45 29 HT_ ?_; refine pu_ 6 47 93 HT_ ?_; refine pu_ 7 48 221 HT_ ?_; refine pu_ 8 49 477 HT_ ?_; refine pu_ 9 50 989 HT_ ?_; refine tk_ 1 42 991 HT_ HW_ hHeld ?_; refine tk_ 5 46 1023 HT_ HW_ hHeld ?_; refine tk_ 10 51 2047 HT_ HW_ hHeld ?_
                                  refine one_ (i := 11) (N := some 52) (mk_ 17 4095) rfl rfl (one_of HT_.out (by kernel_rfl)) (by decide) (fun K hK => ?_)
                                  refine goes_ Try.func42 (by kernel_rfl) rfl #[.int .i64 ((rd_T52 l0 x24_2).f0), .agg #[.int .i64 ((rd_T40 x7_2 (ji41)).f0), .int .i64 ((rd_T40 x7_2 (ji41)).f1), .string ((rd_T40 x7_2 (ji41)).f2)], .agg #[.int .i64 ((rd_T40 x7_2 (ji44)).f0), .int .i64 ((rd_T40 x7_2 (ji44)).f1), .string ((rd_T40 x7_2 (ji44)).f2)]] (by rfl) rfl rfl (by (try simp only [List.map_toArray, List.map_cons, List.map_nil]); first | done | (simp only [hji41, hji44]; rfl) | rfl | (simp only [List.length_drop, List.length_take]; rfl)) ?_
                                  with_reducible refine (expr_reckon.calls k2 ((rd_T52 l0 x24_2).f0) ((rd_T40 x7_2 (ji41)).f0) ((rd_T40 x7_2 (ji41)).f1) ((rd_T40 x7_2 (ji41)).f2) ((rd_T40 x7_2 (ji44)).f0) ((rd_T40 x7_2 (ji44)).f1) ((rd_T40 x7_2 (ji44)).f2) t265 t266 t267 t268 _ A47.out).mono ?_
                                  rintro e w59 ⟨rfl, hb⟩
                                  have HS5_ := (hb.cell (World.block_lt_of_cell? _ _ (hHeld.2.2.2.2.2.1))).trans (hHeld.2.2.2.2.2.1)
                                  have HS6_ := (hb.cell (World.block_lt_of_cell? _ _ (hHeld.2.2.2.2.2.2.1))).trans (hHeld.2.2.2.2.2.2.1)
                                  have HS7_ := (hb.cell (World.block_lt_of_cell? _ _ (hHeld.2.2.2.2.2.2.2.1))).trans (hHeld.2.2.2.2.2.2.2.1)
                                  have HS8_ := (hb.cell (World.block_lt_of_cell? _ _ (hHeld.2.2.2.2.2.2.2.2.1))).trans (hHeld.2.2.2.2.2.2.2.2.1)
                                  have HS9_ := (hb.cell (World.block_lt_of_cell? _ _ (hHeld.2.2.2.2.2.2.2.2.2.1))).trans (hHeld.2.2.2.2.2.2.2.2.2.1)
                                  have HS10_ := (hb.cell (World.block_lt_of_cell? _ _ (hHeld.2.2.2.2.2.2.2.2.2.2))).trans (hHeld.2.2.2.2.2.2.2.2.2.2)
                                  refine ⟨_, rfl, ?_⟩
                                  have n0_ := kb_ (ku_ HO_7.out) hb
                                  have n1_ := bb_ (bu_ BK248) hb
                                  have n2_ := bb_ (bu_ BK253) hb
                                  have n3_ := bb_ (bu_ BK254) hb
                                  have n4_ := bs_ (be_ HB) hb
                                  clear HO_7
                                  clear BK248
                                  clear BK253
                                  clear BK254
                                  clear HB
                                  have HO_7 := n0_
                                  have BK248 := n1_
                                  have BK253 := n2_
                                  have BK254 := n3_
                                  have HB := n4_
                                  clear n0_ n1_ n2_ n3_ n4_
                                  (try clear hb)
                                  (try clear hb2)
                                  (try clear hk)
                                  (try clear hi)
                                  refine hK.out _ _ ⟨(blk_cell BK253.out 0).trans rfl, (blk_cell BK253.out 1).trans rfl, (blk_cell BK253.out 2).trans rfl, (blk_cell BK253.out 3).trans rfl, (blk_cell BK253.out 4).trans rfl, HS5_, HS6_, HS7_, HS8_, HS9_, HS10_⟩ (fun hHeld => ?_)
                                  clear hK K
                                  refine nm_ 52 ?_; refine pu_ 12 40 8191 HT_ ?_; refine pu_ 13 53 16383 HT_ ?_; refine pu_ 14 54 32767 HT_ ?_
                                  refine one_ (i := 15) (N := none) (mk_ 17 65535) rfl rfl (one_of HT_.out (by kernel_rfl)) (by decide) (fun K hK => ?_)
                                  have hs60 : w59.cell? ⟨gb254, 0, none⟩ = some (.int .i64 0) := (blk_cell BK254.out 0).trans rfl
                                  have hfs60 := blk_frozen BK254.out 0
                                  have hns60_0 := NB248_254.out
                                  have hns60_1 := NB253_254.out
                                  have hms60_0 := NB254_248.out
                                  have hms60_1 := NB254_253.out
                                  have hs61 : w59.cell? ⟨gb254, 1, none⟩ = some (.int .i64 0) := (blk_cell BK254.out 1).trans rfl
                                  have hfs61 := blk_frozen BK254.out 1
                                  have hns61_0 := NB248_254.out
                                  have hns61_1 := NB253_254.out
                                  have hms61_0 := NB254_248.out
                                  have hms61_1 := NB254_253.out
                                  have hs62 : w59.cell? ⟨gb254, 2, none⟩ = some (.string (⟨#[]⟩ : ByteArray)) := (blk_cell BK254.out 2).trans rfl
                                  have hfs62 := blk_frozen BK254.out 2
                                  have hns62_0 := NB248_254.out
                                  have hns62_1 := NB253_254.out
                                  have hms62_0 := NB254_248.out
                                  have hms62_1 := NB254_253.out
                                  refine skip_ (w1 := ?_) (by rfl) rfl ?_ ?_
                                  rotate_left
                                  · go_simp
                                    rfl
                                  refine hK.out _ _ ⟨((cell_far (p := ⟨gb254, _, none⟩) NB253_254.out _).trans (((cell_far (p := ⟨gb254, _, none⟩) NB253_254.out _).trans (((cell_far (p := ⟨gb254, _, none⟩) NB253_254.out _).trans (hHeld.1)))))), ((cell_far (p := ⟨gb254, _, none⟩) NB253_254.out _).trans (((cell_far (p := ⟨gb254, _, none⟩) NB253_254.out _).trans (((cell_far (p := ⟨gb254, _, none⟩) NB253_254.out _).trans (hHeld.2.1)))))), ((cell_far (p := ⟨gb254, _, none⟩) NB253_254.out _).trans (((cell_far (p := ⟨gb254, _, none⟩) NB253_254.out _).trans (((cell_far (p := ⟨gb254, _, none⟩) NB253_254.out _).trans (hHeld.2.2.1)))))), ((cell_far (p := ⟨gb254, _, none⟩) NB253_254.out _).trans (((cell_far (p := ⟨gb254, _, none⟩) NB253_254.out _).trans (((cell_far (p := ⟨gb254, _, none⟩) NB253_254.out _).trans (hHeld.2.2.2.1)))))), ((cell_far (p := ⟨gb254, _, none⟩) NB253_254.out _).trans (((cell_far (p := ⟨gb254, _, none⟩) NB253_254.out _).trans (((cell_far (p := ⟨gb254, _, none⟩) NB253_254.out _).trans (hHeld.2.2.2.2.1)))))), ((cell_far (p := ⟨gb254, _, none⟩) (by first | exact Kd.own_blk (Kd.R_away HO_7.out (fun _ hk => hk.2)) | (rw [add_block]; exact Kd.own_blk (Kd.R_away HO_7.out (fun _ hk => hk.2))) | (show (Addr.add _ _).block ≠ _; rw [add_block]; exact Kd.own_blk (Kd.R_away HO_7.out (fun _ hk => hk.2))) | (dsimp only; exact Kd.own_blk (Kd.R_away HO_7.out (fun _ hk => hk.2)))) _).trans (((cell_far (p := ⟨gb254, _, none⟩) (by first | exact Kd.own_blk (Kd.R_away HO_7.out (fun _ hk => hk.2)) | (rw [add_block]; exact Kd.own_blk (Kd.R_away HO_7.out (fun _ hk => hk.2))) | (show (Addr.add _ _).block ≠ _; rw [add_block]; exact Kd.own_blk (Kd.R_away HO_7.out (fun _ hk => hk.2))) | (dsimp only; exact Kd.own_blk (Kd.R_away HO_7.out (fun _ hk => hk.2)))) _).trans (((cell_far (p := ⟨gb254, _, none⟩) (by first | exact Kd.own_blk (Kd.R_away HO_7.out (fun _ hk => hk.2)) | (rw [add_block]; exact Kd.own_blk (Kd.R_away HO_7.out (fun _ hk => hk.2))) | (show (Addr.add _ _).block ≠ _; rw [add_block]; exact Kd.own_blk (Kd.R_away HO_7.out (fun _ hk => hk.2))) | (dsimp only; exact Kd.own_blk (Kd.R_away HO_7.out (fun _ hk => hk.2)))) _).trans (hHeld.2.2.2.2.2.1)))))), ((cell_far (p := ⟨gb254, _, none⟩) (by first | exact Kd.own_blk (Kd.R_away HO_7.out (fun _ hk => hk.2)) | (rw [add_block]; exact Kd.own_blk (Kd.R_away HO_7.out (fun _ hk => hk.2))) | (show (Addr.add _ _).block ≠ _; rw [add_block]; exact Kd.own_blk (Kd.R_away HO_7.out (fun _ hk => hk.2))) | (dsimp only; exact Kd.own_blk (Kd.R_away HO_7.out (fun _ hk => hk.2)))) _).trans (((cell_far (p := ⟨gb254, _, none⟩) (by first | exact Kd.own_blk (Kd.R_away HO_7.out (fun _ hk => hk.2)) | (rw [add_block]; exact Kd.own_blk (Kd.R_away HO_7.out (fun _ hk => hk.2))) | (show (Addr.add _ _).block ≠ _; rw [add_block]; exact Kd.own_blk (Kd.R_away HO_7.out (fun _ hk => hk.2))) | (dsimp only; exact Kd.own_blk (Kd.R_away HO_7.out (fun _ hk => hk.2)))) _).trans (((cell_far (p := ⟨gb254, _, none⟩) (by first | exact Kd.own_blk (Kd.R_away HO_7.out (fun _ hk => hk.2)) | (rw [add_block]; exact Kd.own_blk (Kd.R_away HO_7.out (fun _ hk => hk.2))) | (show (Addr.add _ _).block ≠ _; rw [add_block]; exact Kd.own_blk (Kd.R_away HO_7.out (fun _ hk => hk.2))) | (dsimp only; exact Kd.own_blk (Kd.R_away HO_7.out (fun _ hk => hk.2)))) _).trans (hHeld.2.2.2.2.2.2.1)))))), ((cell_far (p := ⟨gb254, _, none⟩) (by first | exact Kd.own_blk (Kd.R_away HO_7.out (fun _ hk => hk.2)) | (rw [add_block]; exact Kd.own_blk (Kd.R_away HO_7.out (fun _ hk => hk.2))) | (show (Addr.add _ _).block ≠ _; rw [add_block]; exact Kd.own_blk (Kd.R_away HO_7.out (fun _ hk => hk.2))) | (dsimp only; exact Kd.own_blk (Kd.R_away HO_7.out (fun _ hk => hk.2)))) _).trans (((cell_far (p := ⟨gb254, _, none⟩) (by first | exact Kd.own_blk (Kd.R_away HO_7.out (fun _ hk => hk.2)) | (rw [add_block]; exact Kd.own_blk (Kd.R_away HO_7.out (fun _ hk => hk.2))) | (show (Addr.add _ _).block ≠ _; rw [add_block]; exact Kd.own_blk (Kd.R_away HO_7.out (fun _ hk => hk.2))) | (dsimp only; exact Kd.own_blk (Kd.R_away HO_7.out (fun _ hk => hk.2)))) _).trans (((cell_far (p := ⟨gb254, _, none⟩) (by first | exact Kd.own_blk (Kd.R_away HO_7.out (fun _ hk => hk.2)) | (rw [add_block]; exact Kd.own_blk (Kd.R_away HO_7.out (fun _ hk => hk.2))) | (show (Addr.add _ _).block ≠ _; rw [add_block]; exact Kd.own_blk (Kd.R_away HO_7.out (fun _ hk => hk.2))) | (dsimp only; exact Kd.own_blk (Kd.R_away HO_7.out (fun _ hk => hk.2)))) _).trans (hHeld.2.2.2.2.2.2.2.1)))))), ((cell_far (p := ⟨gb254, _, none⟩) (by first | exact Kd.own_blk (Kd.R_away HO_7.out (fun _ hk => hk.2)) | (rw [add_block]; exact Kd.own_blk (Kd.R_away HO_7.out (fun _ hk => hk.2))) | (show (Addr.add _ _).block ≠ _; rw [add_block]; exact Kd.own_blk (Kd.R_away HO_7.out (fun _ hk => hk.2))) | (dsimp only; exact Kd.own_blk (Kd.R_away HO_7.out (fun _ hk => hk.2)))) _).trans (((cell_far (p := ⟨gb254, _, none⟩) (by first | exact Kd.own_blk (Kd.R_away HO_7.out (fun _ hk => hk.2)) | (rw [add_block]; exact Kd.own_blk (Kd.R_away HO_7.out (fun _ hk => hk.2))) | (show (Addr.add _ _).block ≠ _; rw [add_block]; exact Kd.own_blk (Kd.R_away HO_7.out (fun _ hk => hk.2))) | (dsimp only; exact Kd.own_blk (Kd.R_away HO_7.out (fun _ hk => hk.2)))) _).trans (((cell_far (p := ⟨gb254, _, none⟩) (by first | exact Kd.own_blk (Kd.R_away HO_7.out (fun _ hk => hk.2)) | (rw [add_block]; exact Kd.own_blk (Kd.R_away HO_7.out (fun _ hk => hk.2))) | (show (Addr.add _ _).block ≠ _; rw [add_block]; exact Kd.own_blk (Kd.R_away HO_7.out (fun _ hk => hk.2))) | (dsimp only; exact Kd.own_blk (Kd.R_away HO_7.out (fun _ hk => hk.2)))) _).trans (hHeld.2.2.2.2.2.2.2.2.1)))))), ((cell_far (p := ⟨gb254, _, none⟩) (by first | exact Kd.own_blk (Kd.R_away HO_7.out (fun _ hk => hk.2)) | (rw [add_block]; exact Kd.own_blk (Kd.R_away HO_7.out (fun _ hk => hk.2))) | (show (Addr.add _ _).block ≠ _; rw [add_block]; exact Kd.own_blk (Kd.R_away HO_7.out (fun _ hk => hk.2))) | (dsimp only; exact Kd.own_blk (Kd.R_away HO_7.out (fun _ hk => hk.2)))) _).trans (((cell_far (p := ⟨gb254, _, none⟩) (by first | exact Kd.own_blk (Kd.R_away HO_7.out (fun _ hk => hk.2)) | (rw [add_block]; exact Kd.own_blk (Kd.R_away HO_7.out (fun _ hk => hk.2))) | (show (Addr.add _ _).block ≠ _; rw [add_block]; exact Kd.own_blk (Kd.R_away HO_7.out (fun _ hk => hk.2))) | (dsimp only; exact Kd.own_blk (Kd.R_away HO_7.out (fun _ hk => hk.2)))) _).trans (((cell_far (p := ⟨gb254, _, none⟩) (by first | exact Kd.own_blk (Kd.R_away HO_7.out (fun _ hk => hk.2)) | (rw [add_block]; exact Kd.own_blk (Kd.R_away HO_7.out (fun _ hk => hk.2))) | (show (Addr.add _ _).block ≠ _; rw [add_block]; exact Kd.own_blk (Kd.R_away HO_7.out (fun _ hk => hk.2))) | (dsimp only; exact Kd.own_blk (Kd.R_away HO_7.out (fun _ hk => hk.2)))) _).trans (hHeld.2.2.2.2.2.2.2.2.2.1)))))), ((cell_far (p := ⟨gb254, _, none⟩) (by first | exact Kd.own_blk (Kd.R_away HO_7.out (fun _ hk => hk.2)) | (rw [add_block]; exact Kd.own_blk (Kd.R_away HO_7.out (fun _ hk => hk.2))) | (show (Addr.add _ _).block ≠ _; rw [add_block]; exact Kd.own_blk (Kd.R_away HO_7.out (fun _ hk => hk.2))) | (dsimp only; exact Kd.own_blk (Kd.R_away HO_7.out (fun _ hk => hk.2)))) _).trans (((cell_far (p := ⟨gb254, _, none⟩) (by first | exact Kd.own_blk (Kd.R_away HO_7.out (fun _ hk => hk.2)) | (rw [add_block]; exact Kd.own_blk (Kd.R_away HO_7.out (fun _ hk => hk.2))) | (show (Addr.add _ _).block ≠ _; rw [add_block]; exact Kd.own_blk (Kd.R_away HO_7.out (fun _ hk => hk.2))) | (dsimp only; exact Kd.own_blk (Kd.R_away HO_7.out (fun _ hk => hk.2)))) _).trans (((cell_far (p := ⟨gb254, _, none⟩) (by first | exact Kd.own_blk (Kd.R_away HO_7.out (fun _ hk => hk.2)) | (rw [add_block]; exact Kd.own_blk (Kd.R_away HO_7.out (fun _ hk => hk.2))) | (show (Addr.add _ _).block ≠ _; rw [add_block]; exact Kd.own_blk (Kd.R_away HO_7.out (fun _ hk => hk.2))) | (dsimp only; exact Kd.own_blk (Kd.R_away HO_7.out (fun _ hk => hk.2)))) _).trans (hHeld.2.2.2.2.2.2.2.2.2.2))))))⟩ (fun hHeld => ?_)
                                  clear hK K
                                  refine pu_ 16 6 131071 HT_ ?_
                                  refine done_ (done_of HT_.out (by kernel_rfl)) ?_
                                  have n0_ : Aside0 (Kd.R k40 40 (((w59.setCell ⟨gb254, 0, none⟩ (.int .i64 t265)).setCell ⟨gb254, 1, none⟩ (.int .i64 t266)).setCell ⟨gb254, 2, none⟩ (.string t267)) w.heap.size (fun k_ => k_ ≠ gb248 ∧ k_ ≠ gb254) (.slice (some ad263) x7_2.length co57) x7_2) := ⟨by (with_reducible repeat (first | apply Kd.R_alloc | apply Kd.R_drewN | apply Kd.R_drew)); exact Kd.R_mono (Kd.R_far (p := ⟨gb254, 2, none⟩) (Kd.R_far (p := ⟨gb254, 1, none⟩) (Kd.R_far (p := ⟨gb254, 0, none⟩) (Kd.R_mono HO_7.out (fun k_ hk => (⟨hk, hk.2⟩ : _ ∧ k_ ≠ gb254))) (fun _ hk => hk.2) (.int .i64 t265)) (fun _ hk => hk.2) (.int .i64 t266)) (fun _ hk => hk.2) (.string t267)) (fun _ hk => ⟨hk.1.1, hk.1.2⟩)⟩
                                  have n1_ : Aside0 ((((w59.setCell ⟨gb254, 0, none⟩ (.int .i64 t265)).setCell ⟨gb254, 1, none⟩ (.int .i64 t266)).setCell ⟨gb254, 2, none⟩ (.string t267)).heap[gb248]? = some (.cells #[.int .i64 x249000_2, .int .i64 x249001_2, .string x249002_2] 40 (0, 0))) := ⟨by (with_reducible repeat (first | refine blk_drewN ?_ _ | refine blk_drew ?_ | refine blk_alloc ?_ _)); refine blk_far ?_ NB248_254.out _; (with_reducible repeat (first | refine blk_drewN ?_ _ | refine blk_drew ?_ | refine blk_alloc ?_ _)); refine blk_far ?_ NB248_254.out _; (with_reducible repeat (first | refine blk_drewN ?_ _ | refine blk_drew ?_ | refine blk_alloc ?_ _)); refine blk_far ?_ NB248_254.out _; (with_reducible repeat (first | refine blk_drewN ?_ _ | refine blk_drew ?_ | refine blk_alloc ?_ _)); exact BK248.out⟩
                                  have n2_ : Aside0 ((((w59.setCell ⟨gb254, 0, none⟩ (.int .i64 t265)).setCell ⟨gb254, 1, none⟩ (.int .i64 t266)).setCell ⟨gb254, 2, none⟩ (.string t267)).heap[gb253]? = some (.cells #[.int .i64 ((rd_T52 l0 x24_2).f0), .string ((rd_T52 l0 x24_2).f1), .int .i64 ((rd_T52 l0 x24_2).f2.f0), .int .i64 ((rd_T52 l0 x24_2).f2.f1), .string ((rd_T52 l0 x24_2).f2.f2)] 52 (0, 0))) := ⟨by (with_reducible repeat (first | refine blk_drewN ?_ _ | refine blk_drew ?_ | refine blk_alloc ?_ _)); refine blk_far ?_ NB253_254.out _; (with_reducible repeat (first | refine blk_drewN ?_ _ | refine blk_drew ?_ | refine blk_alloc ?_ _)); refine blk_far ?_ NB253_254.out _; (with_reducible repeat (first | refine blk_drewN ?_ _ | refine blk_drew ?_ | refine blk_alloc ?_ _)); refine blk_far ?_ NB253_254.out _; (with_reducible repeat (first | refine blk_drewN ?_ _ | refine blk_drew ?_ | refine blk_alloc ?_ _)); exact BK253.out⟩
                                  have n3_ : Aside0 ((((w59.setCell ⟨gb254, 0, none⟩ (.int .i64 t265)).setCell ⟨gb254, 1, none⟩ (.int .i64 t266)).setCell ⟨gb254, 2, none⟩ (.string t267)).heap[gb254]? = some (.cells #[.int .i64 t265, .int .i64 t266, .string t267] 40 (0, 0))) := ⟨by (with_reducible repeat (first | refine blk_drewN ?_ _ | refine blk_drew ?_ | refine blk_alloc ?_ _)); refine blk_put (cs := #[.int .i64 t265, .int .i64 t266, .string (⟨#[]⟩ : ByteArray)]) ?_ 2 _ rfl; (with_reducible repeat (first | refine blk_drewN ?_ _ | refine blk_drew ?_ | refine blk_alloc ?_ _)); refine blk_put (cs := #[.int .i64 t265, .int .i64 0, .string (⟨#[]⟩ : ByteArray)]) ?_ 1 _ rfl; (with_reducible repeat (first | refine blk_drewN ?_ _ | refine blk_drew ?_ | refine blk_alloc ?_ _)); refine blk_put (cs := #[.int .i64 0, .int .i64 0, .string (⟨#[]⟩ : ByteArray)]) ?_ 0 _ rfl; (with_reducible repeat (first | refine blk_drewN ?_ _ | refine blk_drew ?_ | refine blk_alloc ?_ _)); exact BK254.out⟩
                                  have n4_ : Aside0 (Below w.heap.size w (((w59.setCell ⟨gb254, 0, none⟩ (.int .i64 t265)).setCell ⟨gb254, 1, none⟩ (.int .i64 t266)).setCell ⟨gb254, 2, none⟩ (.string t267))) := ⟨by repeat (first | (with_reducible first | exact HB.out | apply below_alloc | apply pw_below_drewN | apply below_drew1 | refine below_set ?_ GE248.out | refine below_set ?_ GE253.out | refine below_set ?_ GE254.out) | exact HB.out)⟩
                                  (try clear HO_7)
                                  (try clear BK248)
                                  (try clear BK253)
                                  (try clear BK254)
                                  (try clear HB)
                                  generalize (((w59.setCell ⟨gb254, 0, none⟩ (.int .i64 t265)).setCell ⟨gb254, 1, none⟩ (.int .i64 t266)).setCell ⟨gb254, 2, none⟩ (.string t267)) = w63 at n0_ n1_ n2_ n3_ n4_ ⊢
                                  have HO_7 := n0_
                                  have BK248 := n1_
                                  have BK253 := n2_
                                  have BK254 := n3_
                                  have HB := n4_
                                  clear n0_ n1_ n2_ n3_ n4_
                                  have q64 : ((ji41) : Int) ≤ ((x7_2.length : Int) : Int) := dt_
                                  obtain ⟨i064, hi064, _, hsz64, _⟩ := info_parts info40
                                  have hcut64 := cut_to (P := Try.prog) 64 40 .i64 Try.underlying64 hi064 (some ad263) x7_2.length co57 (ji41) dt_ q64 (Kd.R_reads' HO_7.out).2.1
                                  have hr64 := Kd.R_take (m := ((ji41) : Int).toNat) HO_7.out (by omega)
                                  have hy64 : y269.length = ((ji41) : Int).toNat := (by rw [Ny269.out, List.length_take]; omega)
                                  rw [← Ny269.out] at hr64
                                  rw [← hy64] at hr64 hcut64
                                  clear hy64 hi064 hsz64 HO_7
                                  have HO271 := Aside0.mk hr64
                                  clear hr64
                                  replace q64 := eq_true q64
                                  have hnb65 := NB254_248.out
                                  have hnc65 := NB248_254.out
                                  have hcz66_0 : w63.cell? ⟨gb254, 0, none⟩ = some (.int .i64 t265) := (blk_cell BK254.out 0).trans rfl
                                  have hcz66_1 : w63.cell? ⟨gb254, 1, none⟩ = some (.int .i64 t266) := (blk_cell BK254.out 1).trans rfl
                                  have hcz66_2 : w63.cell? ⟨gb254, 2, none⟩ = some (.string t267) := (blk_cell BK254.out 2).trans rfl
                                  have hfz66_0 := blk_frozen BK254.out 0
                                  have hfz66_1 := blk_frozen BK254.out 1
                                  have hfz66_2 := blk_frozen BK254.out 2
                                  try go_wp2_with (first | ((with_reducible refine gate_builtin (b := .append) (xs := #[.tmp 62, .tmp 64]) rfl ?_); at_builtin; refine Kd.R_append k40 (w0 := w) w.heap.size rfl (.tmp 62) (.tmp 64) 64 40 (.agg #[(.int .i64 0), (.int .i64 0), (.string ⟨#[]⟩)]) 32 rfl Try.underlying64 info40 rfl (by decide) (by omega) (.slice (some ad263) y269.length co57) y269 (⟨t265, t266, t267⟩ : S40) [.int .i64 t265, .int .i64 t266, .string t267] (fun k_ => k_ ≠ gb248 ∧ k_ ≠ gb254) (fun _ => False) rfl rfl ?aP (fun _ hk => hk.elim) ?aF ?aO ?aB ?aS ?aL ?_; (case aP => exact k40_mkM _ _ _ (⟨t265, t266, t267⟩ : S40)); (case aB => exact (be_ HB)); (case aF => exact (fun k_ hk => ⟨Kd.freshB (bu_ BK248) k_ hk, Kd.freshB (bu_ BK254) k_ hk⟩)); (case aO => exact (ku_ HO271.out)); (case aS => exact (below_size (be_ HB))); (case aL => have := LMc50.out; omega); intro v273 w67 ho hb hg hat; rw [← Ny272.out] at ho; have n0_ := Aside0.mk (blk_grown (bu_ BK248) hg (Kd.R_away HO271.out (fun _ hk => hk.1))); have n1_ := Aside0.mk (blk_grown (bu_ BK253) hg (Kd.R_ne HO271.out BK253.out (by decide))); have n2_ := Aside0.mk (blk_grown (bu_ BK254) hg (Kd.R_away HO271.out (fun _ hk => hk.2))); have n3_ := Aside0.mk (hb); have n4_ := Aside0.mk (ho); clear BK248; clear BK253; clear BK254; clear HB; clear HO271; have BK248 := n0_; have BK253 := n1_; have BK254 := n2_; have HB := n3_; have HO274 := n4_; clear n0_ n1_ n2_ n3_ n4_; clear ho hb hg hat))
                                  go_roundg k2
                                  case measure => have := HJ3.out; have := HK2.out; omega
                                  case rel => exact ⟨(y272), (wrap64 (x24_2 + 1)), (x249000_2), (x249001_2), (x249002_2), ra_, H', ⟨by have := HJ3.out; have := HK2.out; omega⟩, ⟨by (with_reducible repeat (first | apply Kd.R_alloc | apply Kd.R_drewN | apply Kd.R_drew)); exact Kd.R_mono HO274.out (fun _ hk => hk.1)⟩, ⟨by (with_reducible repeat (first | refine blk_drewN ?_ _ | refine blk_drew ?_ | refine blk_alloc ?_ _)); exact BK248.out⟩, ⟨by repeat (first | (with_reducible first | exact HB.out | apply below_alloc | apply pw_below_drewN | apply below_drew1 | refine below_set ?_ GE248.out | refine below_set ?_ GE253.out | refine below_set ?_ GE254.out) | exact HB.out)⟩⟩
                                · rw [if_neg c50] at H
                                  exact absurd H (by simp)
                              · rw [if_neg c49] at H
                                obtain ⟨c49b0, c49b1⟩ := neB_ c49
                                simp only [Option.some.injEq, Prod.mk.injEq] at H
                                obtain ⟨rfl, rfl, rfl, rfl⟩ := H
                                have p252 : 0 ≤ (x24_2 : Int) := dt_
                                have q252 : x24_2 < (l0.length : Int) := dt_
                                obtain ⟨ad252, e252, hx252_0, hx252_1, hx252_2, hx252_3, hx252_4⟩ := at_T52 HR0.out x24_2 p252 q252
                                cases e252
                                replace hx252_0 := cm_ HB hx252_0
                                replace hx252_1 := cm_ HB hx252_1
                                replace hx252_2 := cm_ HB hx252_2
                                replace hx252_3 := cm_ HB hx252_3
                                replace hx252_4 := cm_ HB hx252_4
                                replace p252 := eq_true p252
                                replace q252 := eq_true q252
                                try go_wp2_with (first | ((with_reducible refine gate_dst (N := 9) rfl ?_); refine box_event ?hg (N := 9) ?hd (cs := #[.int .i64 0, .string (⟨#[]⟩ : ByteArray), .int .i64 0, .int .i64 0, .string (⟨#[]⟩ : ByteArray)]) (t := 52) ?hr ?_; (case hd => rfl); (case hg => rfl); (case hr => first | (go_simp; done) | (go_simp; rfl)); intro gb253 hg w68 hbox hb; have n0_ := kb_ (ku_ HO_7.out) hb; have n1_ := bb_ (bu_ BK248) hb; have n2_ := bs_ (be_ HB) hb; have n3_ := Aside0.mk (hbox); have n4_ := gs_ hg (be_ HB); have n5_ := gs_ hg (be_ HB); have n6_ := nl_ hg (bu_ BK248); have n7_ := ng_ hg (bu_ BK248); clear HO_7; clear BK248; clear HB; have HO_7 := n0_; have BK248 := n1_; have HB := n2_; have BK253 := n3_; have GW253 := n4_; have GE253 := n5_; have NB248_253 := n6_; have NB253_248 := n7_; clear n0_ n1_ n2_ n3_ n4_ n5_ n6_ n7_; clear hb hbox hg; have hnb69 := NB253_248.out; have hnc69 := NB248_253.out; have hcz70_0 : w68.cell? ⟨gb253, 0, none⟩ = some (.int .i64 0) := (blk_cell BK253.out 0).trans rfl; have hcz70_1 : w68.cell? ⟨gb253, 1, none⟩ = some (.string (⟨#[]⟩ : ByteArray)) := (blk_cell BK253.out 1).trans rfl; have hcz70_2 : w68.cell? ⟨gb253, 2, none⟩ = some (.int .i64 0) := (blk_cell BK253.out 2).trans rfl; have hcz70_3 : w68.cell? ⟨gb253, 3, none⟩ = some (.int .i64 0) := (blk_cell BK253.out 3).trans rfl; have hcz70_4 : w68.cell? ⟨gb253, 4, none⟩ = some (.string (⟨#[]⟩ : ByteArray)) := (blk_cell BK253.out 4).trans rfl; have hfz70_0 := blk_frozen BK253.out 0; have hfz70_1 := blk_frozen BK253.out 1; have hfz70_2 := blk_frozen BK253.out 2; have hfz70_3 := blk_frozen BK253.out 3; have hfz70_4 := blk_frozen BK253.out 4) | ((with_reducible refine gate_dst (N := 10) rfl ?_); refine box_event ?hg (N := 10) ?hd (cs := #[.int .i64 0, .int .i64 0, .string (⟨#[]⟩ : ByteArray)]) (t := 40) ?hr ?_; (case hd => rfl); (case hg => rfl); (case hr => first | (go_simp; done) | (go_simp; rfl)); intro gb254 hg w71 hbox hb; have n0_ := Aside0.mk (Kd.R_below (Kd.R_elderB (ku_ (Kd.R_mono (Kd.R_far (p := ⟨gb253, 4, none⟩) (Kd.R_far (p := ⟨gb253, 3, none⟩) (Kd.R_far (p := ⟨gb253, 2, none⟩) (Kd.R_far (p := ⟨gb253, 1, none⟩) (Kd.R_far (p := ⟨gb253, 0, none⟩) (Kd.R_types HO_7.out BK253.out (by decide)) (fun _ hk => hk.2) (.int .i64 ((rd_T52 l0 x24_2).f0))) (fun _ hk => hk.2) (.string ((rd_T52 l0 x24_2).f1))) (fun _ hk => hk.2) (.int .i64 ((rd_T52 l0 x24_2).f2.f0))) (fun _ hk => hk.2) (.int .i64 ((rd_T52 l0 x24_2).f2.f1))) (fun _ hk => hk.2) (.string ((rd_T52 l0 x24_2).f2.f2))) (fun _ h_ => h_.1))) gb254 (Nat.le_of_eq hg.symm)) hb); have n1_ := bb_ (bu_ BK248) hb; have n2_ := Aside0.mk (blk_below (o := .cells #[.int .i64 ((rd_T52 l0 x24_2).f0), .string ((rd_T52 l0 x24_2).f1), .int .i64 ((rd_T52 l0 x24_2).f2.f0), .int .i64 ((rd_T52 l0 x24_2).f2.f1), .string ((rd_T52 l0 x24_2).f2.f2)] 52 (0, 0)) (bp_ BK253) hb); have n3_ := bs_ (be_ HB) hb; have n4_ := Aside0.mk (hbox); have n5_ := gs_ hg (be_ HB); have n6_ := gs_ hg (be_ HB); have n7_ := nl_ hg (bu_ BK248); have n8_ := ng_ hg (bu_ BK248); have n9_ := Aside0.mk ((by rw [hg]; exact Nat.ne_of_lt (blk_lt (o := .cells #[.int .i64 ((rd_T52 l0 x24_2).f0), .string ((rd_T52 l0 x24_2).f1), .int .i64 ((rd_T52 l0 x24_2).f2.f0), .int .i64 ((rd_T52 l0 x24_2).f2.f1), .string ((rd_T52 l0 x24_2).f2.f2)] 52 (0, 0)) (bp_ BK253)) : gb253 ≠ gb254)); have n10_ := Aside0.mk ((by rw [hg]; exact Nat.ne_of_gt (blk_lt (o := .cells #[.int .i64 ((rd_T52 l0 x24_2).f0), .string ((rd_T52 l0 x24_2).f1), .int .i64 ((rd_T52 l0 x24_2).f2.f0), .int .i64 ((rd_T52 l0 x24_2).f2.f1), .string ((rd_T52 l0 x24_2).f2.f2)] 52 (0, 0)) (bp_ BK253)) : gb254 ≠ gb253)); clear HO_7; clear BK248; clear BK253; clear HB; have HO_7 := n0_; have BK248 := n1_; have BK253 := n2_; have HB := n3_; have BK254 := n4_; have GW254 := n5_; have GE254 := n6_; have NB248_254 := n7_; have NB254_248 := n8_; have NB253_254 := n9_; have NB254_253 := n10_; clear n0_ n1_ n2_ n3_ n4_ n5_ n6_ n7_ n8_ n9_ n10_; clear hb hbox hg; have hnb72 := NB253_254.out; have hnc72 := NB254_253.out; have hcz73_0 : w71.cell? ⟨gb253, 0, none⟩ = some (.int .i64 ((rd_T52 l0 x24_2).f0)) := (blk_cell BK253.out 0).trans rfl; have hcz73_1 : w71.cell? ⟨gb253, 1, none⟩ = some (.string ((rd_T52 l0 x24_2).f1)) := (blk_cell BK253.out 1).trans rfl; have hcz73_2 : w71.cell? ⟨gb253, 2, none⟩ = some (.int .i64 ((rd_T52 l0 x24_2).f2.f0)) := (blk_cell BK253.out 2).trans rfl; have hcz73_3 : w71.cell? ⟨gb253, 3, none⟩ = some (.int .i64 ((rd_T52 l0 x24_2).f2.f1)) := (blk_cell BK253.out 3).trans rfl; have hcz73_4 : w71.cell? ⟨gb253, 4, none⟩ = some (.string ((rd_T52 l0 x24_2).f2.f2)) := (blk_cell BK253.out 4).trans rfl; have hfz73_0 := blk_frozen BK253.out 0; have hfz73_1 := blk_frozen BK253.out 1; have hfz73_2 := blk_frozen BK253.out 2; have hfz73_3 := blk_frozen BK253.out 3; have hfz73_4 := blk_frozen BK253.out 4) | ((with_reducible refine gate_callee (f := 40) rfl ?_); refine goesL_ (some 30) rfl rfl Try.func40 (by kernel_rfl) rfl #[.int .i64 ((rd_T52 l0 x24_2).f0)] rfl ga_ ?_; (with_reducible refine (expr_pushes.calls ((rd_T52 l0 x24_2).f0) false _ A14.out).mono ?_); rintro e w' ⟨rfl, ⟨nd, rfl⟩⟩; refine ⟨_, rfl, ?_⟩; (try (rw [drewN_self w71]; generalize hq_ : World.drewN w71 _ = w71; have n0_ : Aside0 (Kd.R k40 40 w71 w.heap.size (fun k_ => k_ ≠ gb248 ∧ k_ ≠ gb254) u7 x7_2) := ⟨by rw [← hq_]; exact (ku_ HO_7.out)⟩; have n1_ : Aside0 (w71.heap[gb248]? = some (.cells #[.int .i64 x249000_2, .int .i64 x249001_2, .string x249002_2] 40 (0, 0))) := ⟨by rw [← hq_]; exact (bu_ BK248)⟩; have n2_ : Aside0 (w71.heap[gb253]? = some (.cells #[.int .i64 ((rd_T52 l0 x24_2).f0), .string ((rd_T52 l0 x24_2).f1), .int .i64 ((rd_T52 l0 x24_2).f2.f0), .int .i64 ((rd_T52 l0 x24_2).f2.f1), .string ((rd_T52 l0 x24_2).f2.f2)] 52 (0, 0))) := ⟨by rw [← hq_]; exact (bu_ BK253)⟩; have n3_ : Aside0 (w71.heap[gb254]? = some (.cells #[.int .i64 0, .int .i64 0, .string (⟨#[]⟩ : ByteArray)] 40 (0, 0))) := ⟨by rw [← hq_]; exact (bu_ BK254)⟩; have n4_ : Aside0 (Below w.heap.size w w71) := ⟨by rw [← hq_]; exact (be_ HB)⟩; clear HO_7 BK248 BK253 BK254 HB hq_; have HO_7 := n0_; have BK248 := n1_; have BK253 := n2_; have BK254 := n3_; have HB := n4_; clear n0_ n1_ n2_ n3_ n4_)); obtain ⟨Ao74, co74, eo74⟩ := Kd.R_slice HO_7.out; subst eo74))
                                have n0_ := Aside0.mk (Kd.R_drew HO_7.out)
                                have n1_ := Aside0.mk (blk_drew BK248.out)
                                have n2_ := Aside0.mk (blk_drew BK253.out)
                                have n3_ := Aside0.mk (blk_drew BK254.out)
                                have n4_ := Aside0.mk (below_drew1 HB.out)
                                clear HO_7
                                clear BK248
                                clear BK253
                                clear BK254
                                clear HB
                                have HO_7 := n0_
                                have BK248 := n1_
                                have BK253 := n2_
                                have BK254 := n3_
                                have HB := n4_
                                clear n0_ n1_ n2_ n3_ n4_
                                have p263 : 0 ≤ ((ji41) : Int) := dt_
                                have q263 : (ji41) < (x7_2.length : Int) := dt_
                                obtain ⟨ad263, e263, hx263_0, hx263_1, hx263_2⟩ := at_T40 (Kd.R_reads' HO_7.out).2.2 (ji41) p263 q263
                                cases e263
                                replace p263 := eq_true p263
                                replace q263 := eq_true q263
                                have p264 : 0 ≤ ((ji44) : Int) := dt_
                                have q264 : (ji44) < (x7_2.length : Int) := dt_
                                obtain ⟨ad264, e264, hx264_0, hx264_1, hx264_2⟩ := at_T40 (Kd.R_reads' HO_7.out).2.2 (ji44) p264 q264
                                obtain rfl : ad263 = ad264 := (by injection e264)
                                replace p264 := eq_true p264
                                replace q264 := eq_true q264
                                refine start_ (n := 17) (S := fun w' => w'.cell? ⟨gb253, 0, none⟩ = some (.int .i64 ((rd_T52 l0 x24_2).f0)) ∧ w'.cell? ⟨gb253, 1, none⟩ = some (.string ((rd_T52 l0 x24_2).f1)) ∧ w'.cell? ⟨gb253, 2, none⟩ = some (.int .i64 ((rd_T52 l0 x24_2).f2.f0)) ∧ w'.cell? ⟨gb253, 3, none⟩ = some (.int .i64 ((rd_T52 l0 x24_2).f2.f1)) ∧ w'.cell? ⟨gb253, 4, none⟩ = some (.string ((rd_T52 l0 x24_2).f2.f2)) ∧ w'.cell? (ad263.add (((ji41)).toNat * 3)) = some (.int .i64 ((rd_T40 x7_2 (ji41)).f0)) ∧ w'.cell? ⟨(ad263.add (((ji41)).toNat * 3)).block, (ad263.add (((ji41)).toNat * 3)).off + 1, none⟩ = some (.int .i64 ((rd_T40 x7_2 (ji41)).f1)) ∧ w'.cell? ⟨(ad263.add (((ji41)).toNat * 3)).block, (ad263.add (((ji41)).toNat * 3)).off + 2, none⟩ = some (.string ((rd_T40 x7_2 (ji41)).f2)) ∧ w'.cell? (ad263.add (((ji44)).toNat * 3)) = some (.int .i64 ((rd_T40 x7_2 (ji44)).f0)) ∧ w'.cell? ⟨(ad263.add (((ji44)).toNat * 3)).block, (ad263.add (((ji44)).toNat * 3)).off + 1, none⟩ = some (.int .i64 ((rd_T40 x7_2 (ji44)).f1)) ∧ w'.cell? ⟨(ad263.add (((ji44)).toNat * 3)).block, (ad263.add (((ji44)).toNat * 3)).off + 2, none⟩ = some (.string ((rd_T40 x7_2 (ji44)).f2))) (ds := []) (mk_ 17 0) (by kernel_rfl) rfl rfl ⟨(blk_cell BK253.out 0).trans rfl, (blk_cell BK253.out 1).trans rfl, (blk_cell BK253.out 2).trans rfl, (blk_cell BK253.out 3).trans rfl, (blk_cell BK253.out 4).trans rfl, hx263_0, hx263_1, hx263_2, hx264_0, hx264_1, hx264_2⟩ (fun hHeld => ?_); refine with_tabW expr_Eval.tab14 expr_Eval.bits14 (fun HT_ HW_ => ?_)
                                generalize w71.drew = w75 at HO_7 BK248 BK253 BK254 HB hx263_0 hx263_1 hx263_2 hx264_0 hx264_1 hx264_2 hHeld ⊢
                                refine pu_ 0 41 1 HT_ ?_; refine pu_ 2 43 5 HT_ ?_; refine pu_ 3 44 13 HT_ ?_; refine pu_ 4 45 29 HT_ ?_; refine pu_ 6 47 93 HT_ ?_; refine pu_ 7 48 221 HT_ ?_; refine pu_ 8 49 477 HT_ ?_; refine pu_ 9 50 989 HT_ ?_; refine tk_ 1 42 991 HT_ HW_ hHeld ?_; refine tk_ 5 46 1023 HT_ HW_ hHeld ?_; refine tk_ 10 51 2047 HT_ HW_ hHeld ?_
                                refine one_ (i := 11) (N := some 52) (mk_ 17 4095) rfl rfl (one_of HT_.out (by kernel_rfl)) (by decide) (fun K hK => ?_)
                                refine goes_ Try.func42 (by kernel_rfl) rfl #[.int .i64 ((rd_T52 l0 x24_2).f0), .agg #[.int .i64 ((rd_T40 x7_2 (ji41)).f0), .int .i64 ((rd_T40 x7_2 (ji41)).f1), .string ((rd_T40 x7_2 (ji41)).f2)], .agg #[.int .i64 ((rd_T40 x7_2 (ji44)).f0), .int .i64 ((rd_T40 x7_2 (ji44)).f1), .string ((rd_T40 x7_2 (ji44)).f2)]] (by rfl) rfl rfl (by (try simp only [List.map_toArray, List.map_cons, List.map_nil]); first | done | (simp only [hji41, hji44]; rfl) | rfl | (simp only [List.length_drop, List.length_take]; rfl)) ?_
                                with_reducible refine (expr_reckon.calls k2 ((rd_T52 l0 x24_2).f0) ((rd_T40 x7_2 (ji41)).f0) ((rd_T40 x7_2 (ji41)).f1) ((rd_T40 x7_2 (ji41)).f2) ((rd_T40 x7_2 (ji44)).f0) ((rd_T40 x7_2 (ji44)).f1) ((rd_T40 x7_2 (ji44)).f2) t265 t266 t267 t268 _ A47.out).mono ?_
                                rintro e w76 ⟨rfl, hb⟩
                                have HS5_ := (hb.cell (World.block_lt_of_cell? _ _ (hHeld.2.2.2.2.2.1))).trans (hHeld.2.2.2.2.2.1)
                                have HS6_ := (hb.cell (World.block_lt_of_cell? _ _ (hHeld.2.2.2.2.2.2.1))).trans (hHeld.2.2.2.2.2.2.1)
                                have HS7_ := (hb.cell (World.block_lt_of_cell? _ _ (hHeld.2.2.2.2.2.2.2.1))).trans (hHeld.2.2.2.2.2.2.2.1)
                                have HS8_ := (hb.cell (World.block_lt_of_cell? _ _ (hHeld.2.2.2.2.2.2.2.2.1))).trans (hHeld.2.2.2.2.2.2.2.2.1)
                                have HS9_ := (hb.cell (World.block_lt_of_cell? _ _ (hHeld.2.2.2.2.2.2.2.2.2.1))).trans (hHeld.2.2.2.2.2.2.2.2.2.1)
                                have HS10_ := (hb.cell (World.block_lt_of_cell? _ _ (hHeld.2.2.2.2.2.2.2.2.2.2))).trans (hHeld.2.2.2.2.2.2.2.2.2.2)
                                refine ⟨_, rfl, ?_⟩
                                have n0_ := kb_ (ku_ HO_7.out) hb
                                have n1_ := bb_ (bu_ BK248) hb
                                have n2_ := bb_ (bu_ BK253) hb
                                have n3_ := bb_ (bu_ BK254) hb
                                have n4_ := bs_ (be_ HB) hb
                                clear HO_7
                                clear BK248
                                clear BK253
                                clear BK254
                                clear HB
                                have HO_7 := n0_
                                have BK248 := n1_
                                have BK253 := n2_
                                have BK254 := n3_
                                have HB := n4_
                                clear n0_ n1_ n2_ n3_ n4_
                                (try clear hb)
                                (try clear hb2)
                                (try clear hk)
                                (try clear hi)
                                refine hK.out _ _ ⟨(blk_cell BK253.out 0).trans rfl, (blk_cell BK253.out 1).trans rfl, (blk_cell BK253.out 2).trans rfl, (blk_cell BK253.out 3).trans rfl, (blk_cell BK253.out 4).trans rfl, HS5_, HS6_, HS7_, HS8_, HS9_, HS10_⟩ (fun hHeld => ?_)
                                clear hK K
                                refine nm_ 52 ?_; refine pu_ 12 40 8191 HT_ ?_; refine pu_ 13 53 16383 HT_ ?_; refine pu_ 14 54 32767 HT_ ?_
                                refine one_ (i := 15) (N := none) (mk_ 17 65535) rfl rfl (one_of HT_.out (by kernel_rfl)) (by decide) (fun K hK => ?_)
                                have hs77 : w76.cell? ⟨gb254, 0, none⟩ = some (.int .i64 0) := (blk_cell BK254.out 0).trans rfl
                                have hfs77 := blk_frozen BK254.out 0
                                have hns77_0 := NB248_254.out
                                have hns77_1 := NB253_254.out
                                have hms77_0 := NB254_248.out
                                have hms77_1 := NB254_253.out
                                have hs78 : w76.cell? ⟨gb254, 1, none⟩ = some (.int .i64 0) := (blk_cell BK254.out 1).trans rfl
                                have hfs78 := blk_frozen BK254.out 1
                                have hns78_0 := NB248_254.out
                                have hns78_1 := NB253_254.out
                                have hms78_0 := NB254_248.out
                                have hms78_1 := NB254_253.out
                                have hs79 : w76.cell? ⟨gb254, 2, none⟩ = some (.string (⟨#[]⟩ : ByteArray)) := (blk_cell BK254.out 2).trans rfl
                                have hfs79 := blk_frozen BK254.out 2
                                have hns79_0 := NB248_254.out
                                have hns79_1 := NB253_254.out
                                have hms79_0 := NB254_248.out
                                have hms79_1 := NB254_253.out
                                refine skip_ (w1 := ?_) (by rfl) rfl ?_ ?_
                                rotate_left
                                · go_simp
                                  rfl
                                refine hK.out _ _ ⟨((cell_far (p := ⟨gb254, _, none⟩) NB253_254.out _).trans (((cell_far (p := ⟨gb254, _, none⟩) NB253_254.out _).trans (((cell_far (p := ⟨gb254, _, none⟩) NB253_254.out _).trans (hHeld.1)))))), ((cell_far (p := ⟨gb254, _, none⟩) NB253_254.out _).trans (((cell_far (p := ⟨gb254, _, none⟩) NB253_254.out _).trans (((cell_far (p := ⟨gb254, _, none⟩) NB253_254.out _).trans (hHeld.2.1)))))), ((cell_far (p := ⟨gb254, _, none⟩) NB253_254.out _).trans (((cell_far (p := ⟨gb254, _, none⟩) NB253_254.out _).trans (((cell_far (p := ⟨gb254, _, none⟩) NB253_254.out _).trans (hHeld.2.2.1)))))), ((cell_far (p := ⟨gb254, _, none⟩) NB253_254.out _).trans (((cell_far (p := ⟨gb254, _, none⟩) NB253_254.out _).trans (((cell_far (p := ⟨gb254, _, none⟩) NB253_254.out _).trans (hHeld.2.2.2.1)))))), ((cell_far (p := ⟨gb254, _, none⟩) NB253_254.out _).trans (((cell_far (p := ⟨gb254, _, none⟩) NB253_254.out _).trans (((cell_far (p := ⟨gb254, _, none⟩) NB253_254.out _).trans (hHeld.2.2.2.2.1)))))), ((cell_far (p := ⟨gb254, _, none⟩) (by first | exact Kd.own_blk (Kd.R_away HO_7.out (fun _ hk => hk.2)) | (rw [add_block]; exact Kd.own_blk (Kd.R_away HO_7.out (fun _ hk => hk.2))) | (show (Addr.add _ _).block ≠ _; rw [add_block]; exact Kd.own_blk (Kd.R_away HO_7.out (fun _ hk => hk.2))) | (dsimp only; exact Kd.own_blk (Kd.R_away HO_7.out (fun _ hk => hk.2)))) _).trans (((cell_far (p := ⟨gb254, _, none⟩) (by first | exact Kd.own_blk (Kd.R_away HO_7.out (fun _ hk => hk.2)) | (rw [add_block]; exact Kd.own_blk (Kd.R_away HO_7.out (fun _ hk => hk.2))) | (show (Addr.add _ _).block ≠ _; rw [add_block]; exact Kd.own_blk (Kd.R_away HO_7.out (fun _ hk => hk.2))) | (dsimp only; exact Kd.own_blk (Kd.R_away HO_7.out (fun _ hk => hk.2)))) _).trans (((cell_far (p := ⟨gb254, _, none⟩) (by first | exact Kd.own_blk (Kd.R_away HO_7.out (fun _ hk => hk.2)) | (rw [add_block]; exact Kd.own_blk (Kd.R_away HO_7.out (fun _ hk => hk.2))) | (show (Addr.add _ _).block ≠ _; rw [add_block]; exact Kd.own_blk (Kd.R_away HO_7.out (fun _ hk => hk.2))) | (dsimp only; exact Kd.own_blk (Kd.R_away HO_7.out (fun _ hk => hk.2)))) _).trans (hHeld.2.2.2.2.2.1)))))), ((cell_far (p := ⟨gb254, _, none⟩) (by first | exact Kd.own_blk (Kd.R_away HO_7.out (fun _ hk => hk.2)) | (rw [add_block]; exact Kd.own_blk (Kd.R_away HO_7.out (fun _ hk => hk.2))) | (show (Addr.add _ _).block ≠ _; rw [add_block]; exact Kd.own_blk (Kd.R_away HO_7.out (fun _ hk => hk.2))) | (dsimp only; exact Kd.own_blk (Kd.R_away HO_7.out (fun _ hk => hk.2)))) _).trans (((cell_far (p := ⟨gb254, _, none⟩) (by first | exact Kd.own_blk (Kd.R_away HO_7.out (fun _ hk => hk.2)) | (rw [add_block]; exact Kd.own_blk (Kd.R_away HO_7.out (fun _ hk => hk.2))) | (show (Addr.add _ _).block ≠ _; rw [add_block]; exact Kd.own_blk (Kd.R_away HO_7.out (fun _ hk => hk.2))) | (dsimp only; exact Kd.own_blk (Kd.R_away HO_7.out (fun _ hk => hk.2)))) _).trans (((cell_far (p := ⟨gb254, _, none⟩) (by first | exact Kd.own_blk (Kd.R_away HO_7.out (fun _ hk => hk.2)) | (rw [add_block]; exact Kd.own_blk (Kd.R_away HO_7.out (fun _ hk => hk.2))) | (show (Addr.add _ _).block ≠ _; rw [add_block]; exact Kd.own_blk (Kd.R_away HO_7.out (fun _ hk => hk.2))) | (dsimp only; exact Kd.own_blk (Kd.R_away HO_7.out (fun _ hk => hk.2)))) _).trans (hHeld.2.2.2.2.2.2.1)))))), ((cell_far (p := ⟨gb254, _, none⟩) (by first | exact Kd.own_blk (Kd.R_away HO_7.out (fun _ hk => hk.2)) | (rw [add_block]; exact Kd.own_blk (Kd.R_away HO_7.out (fun _ hk => hk.2))) | (show (Addr.add _ _).block ≠ _; rw [add_block]; exact Kd.own_blk (Kd.R_away HO_7.out (fun _ hk => hk.2))) | (dsimp only; exact Kd.own_blk (Kd.R_away HO_7.out (fun _ hk => hk.2)))) _).trans (((cell_far (p := ⟨gb254, _, none⟩) (by first | exact Kd.own_blk (Kd.R_away HO_7.out (fun _ hk => hk.2)) | (rw [add_block]; exact Kd.own_blk (Kd.R_away HO_7.out (fun _ hk => hk.2))) | (show (Addr.add _ _).block ≠ _; rw [add_block]; exact Kd.own_blk (Kd.R_away HO_7.out (fun _ hk => hk.2))) | (dsimp only; exact Kd.own_blk (Kd.R_away HO_7.out (fun _ hk => hk.2)))) _).trans (((cell_far (p := ⟨gb254, _, none⟩) (by first | exact Kd.own_blk (Kd.R_away HO_7.out (fun _ hk => hk.2)) | (rw [add_block]; exact Kd.own_blk (Kd.R_away HO_7.out (fun _ hk => hk.2))) | (show (Addr.add _ _).block ≠ _; rw [add_block]; exact Kd.own_blk (Kd.R_away HO_7.out (fun _ hk => hk.2))) | (dsimp only; exact Kd.own_blk (Kd.R_away HO_7.out (fun _ hk => hk.2)))) _).trans (hHeld.2.2.2.2.2.2.2.1)))))), ((cell_far (p := ⟨gb254, _, none⟩) (by first | exact Kd.own_blk (Kd.R_away HO_7.out (fun _ hk => hk.2)) | (rw [add_block]; exact Kd.own_blk (Kd.R_away HO_7.out (fun _ hk => hk.2))) | (show (Addr.add _ _).block ≠ _; rw [add_block]; exact Kd.own_blk (Kd.R_away HO_7.out (fun _ hk => hk.2))) | (dsimp only; exact Kd.own_blk (Kd.R_away HO_7.out (fun _ hk => hk.2)))) _).trans (((cell_far (p := ⟨gb254, _, none⟩) (by first | exact Kd.own_blk (Kd.R_away HO_7.out (fun _ hk => hk.2)) | (rw [add_block]; exact Kd.own_blk (Kd.R_away HO_7.out (fun _ hk => hk.2))) | (show (Addr.add _ _).block ≠ _; rw [add_block]; exact Kd.own_blk (Kd.R_away HO_7.out (fun _ hk => hk.2))) | (dsimp only; exact Kd.own_blk (Kd.R_away HO_7.out (fun _ hk => hk.2)))) _).trans (((cell_far (p := ⟨gb254, _, none⟩) (by first | exact Kd.own_blk (Kd.R_away HO_7.out (fun _ hk => hk.2)) | (rw [add_block]; exact Kd.own_blk (Kd.R_away HO_7.out (fun _ hk => hk.2))) | (show (Addr.add _ _).block ≠ _; rw [add_block]; exact Kd.own_blk (Kd.R_away HO_7.out (fun _ hk => hk.2))) | (dsimp only; exact Kd.own_blk (Kd.R_away HO_7.out (fun _ hk => hk.2)))) _).trans (hHeld.2.2.2.2.2.2.2.2.1)))))), ((cell_far (p := ⟨gb254, _, none⟩) (by first | exact Kd.own_blk (Kd.R_away HO_7.out (fun _ hk => hk.2)) | (rw [add_block]; exact Kd.own_blk (Kd.R_away HO_7.out (fun _ hk => hk.2))) | (show (Addr.add _ _).block ≠ _; rw [add_block]; exact Kd.own_blk (Kd.R_away HO_7.out (fun _ hk => hk.2))) | (dsimp only; exact Kd.own_blk (Kd.R_away HO_7.out (fun _ hk => hk.2)))) _).trans (((cell_far (p := ⟨gb254, _, none⟩) (by first | exact Kd.own_blk (Kd.R_away HO_7.out (fun _ hk => hk.2)) | (rw [add_block]; exact Kd.own_blk (Kd.R_away HO_7.out (fun _ hk => hk.2))) | (show (Addr.add _ _).block ≠ _; rw [add_block]; exact Kd.own_blk (Kd.R_away HO_7.out (fun _ hk => hk.2))) | (dsimp only; exact Kd.own_blk (Kd.R_away HO_7.out (fun _ hk => hk.2)))) _).trans (((cell_far (p := ⟨gb254, _, none⟩) (by first | exact Kd.own_blk (Kd.R_away HO_7.out (fun _ hk => hk.2)) | (rw [add_block]; exact Kd.own_blk (Kd.R_away HO_7.out (fun _ hk => hk.2))) | (show (Addr.add _ _).block ≠ _; rw [add_block]; exact Kd.own_blk (Kd.R_away HO_7.out (fun _ hk => hk.2))) | (dsimp only; exact Kd.own_blk (Kd.R_away HO_7.out (fun _ hk => hk.2)))) _).trans (hHeld.2.2.2.2.2.2.2.2.2.1)))))), ((cell_far (p := ⟨gb254, _, none⟩) (by first | exact Kd.own_blk (Kd.R_away HO_7.out (fun _ hk => hk.2)) | (rw [add_block]; exact Kd.own_blk (Kd.R_away HO_7.out (fun _ hk => hk.2))) | (show (Addr.add _ _).block ≠ _; rw [add_block]; exact Kd.own_blk (Kd.R_away HO_7.out (fun _ hk => hk.2))) | (dsimp only; exact Kd.own_blk (Kd.R_away HO_7.out (fun _ hk => hk.2)))) _).trans (((cell_far (p := ⟨gb254, _, none⟩) (by first | exact Kd.own_blk (Kd.R_away HO_7.out (fun _ hk => hk.2)) | (rw [add_block]; exact Kd.own_blk (Kd.R_away HO_7.out (fun _ hk => hk.2))) | (show (Addr.add _ _).block ≠ _; rw [add_block]; exact Kd.own_blk (Kd.R_away HO_7.out (fun _ hk => hk.2))) | (dsimp only; exact Kd.own_blk (Kd.R_away HO_7.out (fun _ hk => hk.2)))) _).trans (((cell_far (p := ⟨gb254, _, none⟩) (by first | exact Kd.own_blk (Kd.R_away HO_7.out (fun _ hk => hk.2)) | (rw [add_block]; exact Kd.own_blk (Kd.R_away HO_7.out (fun _ hk => hk.2))) | (show (Addr.add _ _).block ≠ _; rw [add_block]; exact Kd.own_blk (Kd.R_away HO_7.out (fun _ hk => hk.2))) | (dsimp only; exact Kd.own_blk (Kd.R_away HO_7.out (fun _ hk => hk.2)))) _).trans (hHeld.2.2.2.2.2.2.2.2.2.2))))))⟩ (fun hHeld => ?_)
                                clear hK K
                                refine pu_ 16 6 131071 HT_ ?_
                                refine done_ (done_of HT_.out (by kernel_rfl)) ?_
                                have n0_ : Aside0 (Kd.R k40 40 (((w76.setCell ⟨gb254, 0, none⟩ (.int .i64 t265)).setCell ⟨gb254, 1, none⟩ (.int .i64 t266)).setCell ⟨gb254, 2, none⟩ (.string t267)) w.heap.size (fun k_ => k_ ≠ gb248 ∧ k_ ≠ gb254) (.slice (some ad263) x7_2.length co74) x7_2) := ⟨by (with_reducible repeat (first | apply Kd.R_alloc | apply Kd.R_drewN | apply Kd.R_drew)); exact Kd.R_mono (Kd.R_far (p := ⟨gb254, 2, none⟩) (Kd.R_far (p := ⟨gb254, 1, none⟩) (Kd.R_far (p := ⟨gb254, 0, none⟩) (Kd.R_mono HO_7.out (fun k_ hk => (⟨hk, hk.2⟩ : _ ∧ k_ ≠ gb254))) (fun _ hk => hk.2) (.int .i64 t265)) (fun _ hk => hk.2) (.int .i64 t266)) (fun _ hk => hk.2) (.string t267)) (fun _ hk => ⟨hk.1.1, hk.1.2⟩)⟩
                                have n1_ : Aside0 ((((w76.setCell ⟨gb254, 0, none⟩ (.int .i64 t265)).setCell ⟨gb254, 1, none⟩ (.int .i64 t266)).setCell ⟨gb254, 2, none⟩ (.string t267)).heap[gb248]? = some (.cells #[.int .i64 x249000_2, .int .i64 x249001_2, .string x249002_2] 40 (0, 0))) := ⟨by (with_reducible repeat (first | refine blk_drewN ?_ _ | refine blk_drew ?_ | refine blk_alloc ?_ _)); refine blk_far ?_ NB248_254.out _; (with_reducible repeat (first | refine blk_drewN ?_ _ | refine blk_drew ?_ | refine blk_alloc ?_ _)); refine blk_far ?_ NB248_254.out _; (with_reducible repeat (first | refine blk_drewN ?_ _ | refine blk_drew ?_ | refine blk_alloc ?_ _)); refine blk_far ?_ NB248_254.out _; (with_reducible repeat (first | refine blk_drewN ?_ _ | refine blk_drew ?_ | refine blk_alloc ?_ _)); exact BK248.out⟩
                                have n2_ : Aside0 ((((w76.setCell ⟨gb254, 0, none⟩ (.int .i64 t265)).setCell ⟨gb254, 1, none⟩ (.int .i64 t266)).setCell ⟨gb254, 2, none⟩ (.string t267)).heap[gb253]? = some (.cells #[.int .i64 ((rd_T52 l0 x24_2).f0), .string ((rd_T52 l0 x24_2).f1), .int .i64 ((rd_T52 l0 x24_2).f2.f0), .int .i64 ((rd_T52 l0 x24_2).f2.f1), .string ((rd_T52 l0 x24_2).f2.f2)] 52 (0, 0))) := ⟨by (with_reducible repeat (first | refine blk_drewN ?_ _ | refine blk_drew ?_ | refine blk_alloc ?_ _)); refine blk_far ?_ NB253_254.out _; (with_reducible repeat (first | refine blk_drewN ?_ _ | refine blk_drew ?_ | refine blk_alloc ?_ _)); refine blk_far ?_ NB253_254.out _; (with_reducible repeat (first | refine blk_drewN ?_ _ | refine blk_drew ?_ | refine blk_alloc ?_ _)); refine blk_far ?_ NB253_254.out _; (with_reducible repeat (first | refine blk_drewN ?_ _ | refine blk_drew ?_ | refine blk_alloc ?_ _)); exact BK253.out⟩
                                have n3_ : Aside0 ((((w76.setCell ⟨gb254, 0, none⟩ (.int .i64 t265)).setCell ⟨gb254, 1, none⟩ (.int .i64 t266)).setCell ⟨gb254, 2, none⟩ (.string t267)).heap[gb254]? = some (.cells #[.int .i64 t265, .int .i64 t266, .string t267] 40 (0, 0))) := ⟨by (with_reducible repeat (first | refine blk_drewN ?_ _ | refine blk_drew ?_ | refine blk_alloc ?_ _)); refine blk_put (cs := #[.int .i64 t265, .int .i64 t266, .string (⟨#[]⟩ : ByteArray)]) ?_ 2 _ rfl; (with_reducible repeat (first | refine blk_drewN ?_ _ | refine blk_drew ?_ | refine blk_alloc ?_ _)); refine blk_put (cs := #[.int .i64 t265, .int .i64 0, .string (⟨#[]⟩ : ByteArray)]) ?_ 1 _ rfl; (with_reducible repeat (first | refine blk_drewN ?_ _ | refine blk_drew ?_ | refine blk_alloc ?_ _)); refine blk_put (cs := #[.int .i64 0, .int .i64 0, .string (⟨#[]⟩ : ByteArray)]) ?_ 0 _ rfl; (with_reducible repeat (first | refine blk_drewN ?_ _ | refine blk_drew ?_ | refine blk_alloc ?_ _)); exact BK254.out⟩
                                have n4_ : Aside0 (Below w.heap.size w (((w76.setCell ⟨gb254, 0, none⟩ (.int .i64 t265)).setCell ⟨gb254, 1, none⟩ (.int .i64 t266)).setCell ⟨gb254, 2, none⟩ (.string t267))) := ⟨by repeat (first | (with_reducible first | exact HB.out | apply below_alloc | apply pw_below_drewN | apply below_drew1 | refine below_set ?_ GE248.out | refine below_set ?_ GE253.out | refine below_set ?_ GE254.out) | exact HB.out)⟩
                                (try clear HO_7)
                                (try clear BK248)
                                (try clear BK253)
                                (try clear BK254)
                                (try clear HB)
                                generalize (((w76.setCell ⟨gb254, 0, none⟩ (.int .i64 t265)).setCell ⟨gb254, 1, none⟩ (.int .i64 t266)).setCell ⟨gb254, 2, none⟩ (.string t267)) = w80 at n0_ n1_ n2_ n3_ n4_ ⊢
                                have HO_7 := n0_
                                have BK248 := n1_
                                have BK253 := n2_
                                have BK254 := n3_
                                have HB := n4_
                                clear n0_ n1_ n2_ n3_ n4_
                                have q81 : ((ji41) : Int) ≤ ((x7_2.length : Int) : Int) := dt_
                                obtain ⟨i081, hi081, _, hsz81, _⟩ := info_parts info40
                                have hcut81 := cut_to (P := Try.prog) 64 40 .i64 Try.underlying64 hi081 (some ad263) x7_2.length co74 (ji41) dt_ q81 (Kd.R_reads' HO_7.out).2.1
                                have hr81 := Kd.R_take (m := ((ji41) : Int).toNat) HO_7.out (by omega)
                                have hy81 : y269.length = ((ji41) : Int).toNat := (by rw [Ny269.out, List.length_take]; omega)
                                rw [← Ny269.out] at hr81
                                rw [← hy81] at hr81 hcut81
                                clear hy81 hi081 hsz81 HO_7
                                have HO271 := Aside0.mk hr81
                                clear hr81
                                replace q81 := eq_true q81
                                have hnb82 := NB248_254.out
                                have hnc82 := NB254_248.out
                                have hcz83_0 : w80.cell? ⟨gb248, 0, none⟩ = some (.int .i64 x249000_2) := (blk_cell BK248.out 0).trans rfl
                                have hcz83_1 : w80.cell? ⟨gb248, 1, none⟩ = some (.int .i64 x249001_2) := (blk_cell BK248.out 1).trans rfl
                                have hcz83_2 : w80.cell? ⟨gb248, 2, none⟩ = some (.string x249002_2) := (blk_cell BK248.out 2).trans rfl
                                have hfz83_0 := blk_frozen BK248.out 0
                                have hfz83_1 := blk_frozen BK248.out 1
                                have hfz83_2 := blk_frozen BK248.out 2
                                try go_wp2
                                refine bodyPost_ret (results_ct rfl _ _ gb248 40 #[.int .i64 0, .int .i64 0, .string (⟨#[]⟩ : ByteArray)] (0, 0) _ rfl (bp_ BK248) Try.underlying40 rfl (by kernel_rfl)) rfl ?_
                                exact ⟨by first | rfl | (simp [errW_none, errW_some] <;> rfl) | (simp only [← hji41, ← hji44]; first | rfl | (simp [errW_none, errW_some] <;> rfl)) | (simp [*, errW_none, errW_some] <;> rfl), by repeat (first | (with_reducible first | exact HB.out | apply below_alloc | apply pw_below_drewN | apply below_drew1 | refine below_set ?_ GE248.out | refine below_set ?_ GE253.out | refine below_set ?_ GE254.out) | exact HB.out)⟩
                            · rw [if_neg c48] at H
                              exact absurd H (by simp)
                          · rw [if_neg c46] at H
                            exact absurd H (by simp)
                        · rw [if_neg c45] at H
                          exact absurd H (by simp)
                      · rw [if_neg c43] at H
                        exact absurd H (by simp)
                    · rw [if_neg c42] at H
                      exact absurd H (by simp)
                · rw [if_neg c13] at H
                  exact absurd H (by simp)
              · rw [if_neg c12] at H
                exact absurd H (by simp)
            · rw [if_neg c11] at H
              have c11b0 : decide (x24_2 < (l0.length : Int)) = false := decide_eq_false c11
              clear c11
              by_cases c84 : 0 < (x7_2.length : Int)
              · rw [if_pos c84] at H
                have c84b0 : decide (0 < (x7_2.length : Int)) = true := decide_eq_true c84
                have c84b1 : decide (0 < x7_2.length) = true := decide_eq_true (by omega)
                clear c84
                simp only [Option.some.injEq, Prod.mk.injEq] at H
                obtain ⟨rfl, rfl, rfl, rfl⟩ := H
                obtain ⟨Ao85, co85, eo85⟩ := Kd.R_slice HO_7.out
                subst eo85
                have p251 : 0 ≤ (0 : Int) := (by omega)
                have q251 : 0 < (x7_2.length : Int) := dt_
                obtain ⟨ad251, e251, hx251_0, hx251_1, hx251_2⟩ := at_T40 (Kd.R_reads' HO_7.out).2.2 0 p251 q251
                cases e251
                have qi251 : (0 < x7_2.length) = True := eq_true (by omega)
                (try rw [show ((0 : Int)).toNat = 0 from rfl] at hx251_0)
                (try rw [show 0 * 3 = 0 from rfl] at hx251_0)
                (try rw [Addr.add_zero'] at hx251_0)
                (try rw [show ((0 : Int)).toNat = 0 from rfl] at hx251_1)
                (try rw [show 0 * 3 = 0 from rfl] at hx251_1)
                (try rw [Addr.add_zero'] at hx251_1)
                (try rw [show ((0 : Int)).toNat = 0 from rfl] at hx251_2)
                (try rw [show 0 * 3 = 0 from rfl] at hx251_2)
                (try rw [Addr.add_zero'] at hx251_2)
                replace p251 := eq_true p251
                replace q251 := eq_true q251
                have hcz86_0 : wr.cell? ⟨gb248, 0, none⟩ = some (.int .i64 x249000_2) := (blk_cell BK248.out 0).trans rfl
                have hcz86_1 : wr.cell? ⟨gb248, 1, none⟩ = some (.int .i64 x249001_2) := (blk_cell BK248.out 1).trans rfl
                have hcz86_2 : wr.cell? ⟨gb248, 2, none⟩ = some (.string x249002_2) := (blk_cell BK248.out 2).trans rfl
                have hfz86_0 := blk_frozen BK248.out 0
                have hfz86_1 := blk_frozen BK248.out 1
                have hfz86_2 := blk_frozen BK248.out 2
                go_wp2
                refine bodyPost_ret (results_ct rfl _ _ gb248 40 #[.int .i64 ((rd_T40 x7_2 0).f0), .int .i64 ((rd_T40 x7_2 0).f1), .string ((rd_T40 x7_2 0).f2)] (0, 0) _ rfl (bp_ BK248) Try.underlying40 rfl (by kernel_rfl)) rfl ?_
                exact ⟨by first | rfl | (simp [errW_none, errW_some] <;> rfl) | (simp [*, errW_none, errW_some] <;> rfl), by repeat (first | (with_reducible first | exact HB.out | apply below_alloc | apply pw_below_drewN | apply below_drew1 | refine below_set ?_ GE248.out) | exact HB.out)⟩
              · rw [if_neg c84] at H
                exact absurd H (by simp)
      · rw [if_neg c10] at H
        obtain ⟨c10b0, c10b1⟩ := neB_ c10
        simp only [Option.some.injEq, Prod.mk.injEq] at H
        obtain ⟨rfl, rfl, rfl, rfl⟩ := H
        have hcz87_0 : wc.cell? ⟨gb248, 0, none⟩ = some (.int .i64 0) := (blk_cell BK248.out 0).trans rfl
        have hcz87_1 : wc.cell? ⟨gb248, 1, none⟩ = some (.int .i64 0) := (blk_cell BK248.out 1).trans rfl
        have hcz87_2 : wc.cell? ⟨gb248, 2, none⟩ = some (.string (⟨#[]⟩ : ByteArray)) := (blk_cell BK248.out 2).trans rfl
        have hfz87_0 := blk_frozen BK248.out 0
        have hfz87_1 := blk_frozen BK248.out 1
        have hfz87_2 := blk_frozen BK248.out 2
        go_wp2
        refine bodyPost_ret (results_ct rfl _ _ gb248 40 #[.int .i64 0, .int .i64 0, .string (⟨#[]⟩ : ByteArray)] (0, 0) _ rfl (bp_ BK248) Try.underlying40 rfl (by kernel_rfl)) rfl ?_
        exact ⟨by first | rfl | (simp [errW_none, errW_some] <;> rfl) | (simp [*, errW_none, errW_some] <;> rfl), by repeat (first | (with_reducible first | exact HB.out | apply below_alloc | apply pw_below_drewN | apply below_drew1 | refine below_set ?_ GE248.out) | exact HB.out)⟩
end Go.Proofs.Ytconpnagoijacaa.P
end
section
namespace Go.Proofs.Ytconpnagoijacaa.P
open Go.RowKit Go.Proofs.YtconpnagoijacaaW.PrintWords Go.Proofs.YtconpnagoijacaaW.PrintLast Go.Proofs.YtconpnagoijacaaW.PrintMore
attribute [local go_sem] max2_int min2_int max_two min_two max_three min_three max_four min_four
set_option linter.unusedVariables false
set_option linter.unusedSimpArgs false
def slices_Index_string_string.l0 : Nat → List ByteArray → ByteArray → Int → Int → Option (Int)
  | 0, _, _, _, _ => none
  | k + 1, x0, x1, x7, x8 => if x8 < x7 then (if 0 ≤ x8 then (if x8 < (x0.length : Int) then (if x1.toList = (rdOf ByteArray.empty x0 x8).toList then (some x8) else (slices_Index_string_string.l0 k x0 x1 x7 (wrap64 (x8 + 1)))) else (none)) else (none)) else (some (-1))
def slices_Index_string_string.f (k : Nat) (l0 : List ByteArray) (a1 : ByteArray) : Option (Int) := slices_Index_string_string.l0 k l0 a1 (l0.length : Int) 0
theorem slices_Index_string_string.mono_l : ∀ k, (∀ y0 y1 y2 y3, LeO (slices_Index_string_string.l0 k y0 y1 y2 y3) (slices_Index_string_string.l0 (k + 1) y0 y1 y2 y3))
  | 0 => fun _ _ _ _ r h => by simp [slices_Index_string_string.l0] at h
  | k + 1 => by
    have ih0 := slices_Index_string_string.mono_l k
    · intro y0 y1 y2 y3
      unfold slices_Index_string_string.l0
      repeat' first
      | (with_reducible exact ih0 _ _ _ _)
      | (with_reducible exact LeO.refl _)
      | (with_reducible exact LeO.none _)
      | (with_reducible refine LeO.ite ?_ ?_)
      | (with_reducible refine LeO.bind ?_ (fun _ => ?_))
      | exact ih0 _ _ _ _
      | exact LeO.none _
      | refine LeO.ite ?_ ?_
      | refine LeO.bind ?_ (fun _ => ?_)
theorem slices_Index_string_string.mono : ∀ a0 a1 k, LeO (slices_Index_string_string.f k a0 a1) (slices_Index_string_string.f (k + 1) a0 a1) := by
  intro a0 a1 k
  have ih0 := slices_Index_string_string.mono_l k
  unfold slices_Index_string_string.f
  repeat' first
      | (with_reducible exact ih0 _ _ _ _)
      | (with_reducible exact LeO.refl _)
      | (with_reducible exact LeO.none _)
      | (with_reducible refine LeO.ite ?_ ?_)
      | (with_reducible refine LeO.bind ?_ (fun _ => ?_))
      | exact ih0 _ _ _ _
      | exact LeO.none _
      | refine LeO.ite ?_ ?_
      | refine LeO.bind ?_ (fun _ => ?_)
set_option maxHeartbeats 8000000 in
set_option maxRecDepth 100000 in
theorem slices_Index_string_string.calls (k : Nat) (A0 : Option Addr) (c0 : Nat) (l0 : List ByteArray) (a1 : ByteArray) (r : Int) (w : World) (hr0 : Kd.C Kd.string w A0 l0.length l0) (hc0 : l0.length ≤ c0) (h : slices_Index_string_string.f k l0 a1 = some r) :
    Calls Try.prog 53 #[.slice A0 l0.length c0, .string a1] w fun e w' => e = .returned (.int .i64 r) ∧ Drawn0 w w' := by
  have HR0 := Aside0.mk hr0
  have HC0 := Aside0.mk hc0
  clear hr0 hc0
  have H : (slices_Index_string_string.l0 k l0 a1 (l0.length : Int) 0) = some r := h
  clear h
  have H' := Aside0.mk H
  clear H
  go_enter Try.func53, Try.ntmps53
  go_wp2
  go_loopg [8] k (fun kq v8 w' => ∃ (x8_1 : Int), v8 = .int .i64 x8_1 ∧ Aside0 (slices_Index_string_string.l0 kq l0 a1 (l0.length : Int) x8_1 = some r) ∧ Aside0 (kq ≤ k) ∧ Drawn0 w w')
  case atStart => exact ⟨(0), ra_, H', ⟨Nat.le_refl _⟩, dz_⟩
  case round =>
    clear H'
    try clear p2
    obtain ⟨x8_1, rfl, HA, HK1, ⟨m1, rfl⟩⟩ := hrel
    cases gk with
    | zero => exact absurd HA.out (by simp [slices_Index_string_string.l0])
    | succ k1 =>
      have H := HA.out
      clear HA
      simp only [slices_Index_string_string.l0] at H
      by_cases c3 : x8_1 < (l0.length : Int)
      · rw [if_pos c3] at H
        have c3b0 : decide (x8_1 < (l0.length : Int)) = true := decide_eq_true c3
        clear c3
        by_cases c4 : 0 ≤ x8_1
        · rw [if_pos c4] at H
          have c4b0 : decide (0 ≤ x8_1) = true := decide_eq_true c4
          clear c4
          by_cases c5 : x8_1 < (l0.length : Int)
          · rw [if_pos c5] at H
            have c5b0 : decide (x8_1 < (l0.length : Int)) = true := decide_eq_true c5
            clear c5
            by_cases c6 : a1.toList = (rdOf ByteArray.empty l0 x8_1).toList
            · rw [if_pos c6] at H
              obtain ⟨c6b0, c6b1⟩ := eqB_ c6
              clear c6
              obtain rfl := Option.some.inj H
              have p277 : 0 ≤ (x8_1 : Int) := dt_
              have q277 : x8_1 < (l0.length : Int) := dt_
              obtain ⟨ad277, e277, hx277_0⟩ := Kd.at_string HR0.out x8_1 p277 q277
              cases e277
              replace p277 := eq_true p277
              replace q277 := eq_true q277
              go_wp2
              go_ret
              exact rz_
            · rw [if_neg c6] at H
              obtain ⟨c6b0, c6b1⟩ := neB_ c6
              have H' := Aside0.mk H
              clear H
              have p277 : 0 ≤ (x8_1 : Int) := dt_
              have q277 : x8_1 < (l0.length : Int) := dt_
              obtain ⟨ad277, e277, hx277_0⟩ := Kd.at_string HR0.out x8_1 p277 q277
              cases e277
              replace p277 := eq_true p277
              replace q277 := eq_true q277
              go_wp2
              go_roundg k1
              case measure => have := HK1.out; omega
              case rel => exact ⟨(wrap64 (x8_1 + 1)), ra_, H', ⟨by have := HK1.out; omega⟩, dz_⟩
          · rw [if_neg c5] at H
            exact absurd H (by simp)
        · rw [if_neg c4] at H
          exact absurd H (by simp)
      · rw [if_neg c3] at H
        have c3b0 : decide (x8_1 < (l0.length : Int)) = false := decide_eq_false c3
        clear c3
        obtain rfl := Option.some.inj H
        go_wp2
        go_ret
        exact rz_
end Go.Proofs.Ytconpnagoijacaa.P
end
section
namespace Go.Proofs.Ytconpnagoijacaa.P
open Go.RowKit Go.Proofs.YtconpnagoijacaaW.PrintWords Go.Proofs.YtconpnagoijacaaW.PrintLast Go.Proofs.YtconpnagoijacaaW.PrintMore
attribute [local go_sem] max2_int min2_int max_two min_two max_three min_three max_four min_four
set_option linter.unusedVariables false
set_option linter.unusedSimpArgs false
def slices_Contains_string_string.f (k : Nat) (l0 : List ByteArray) (a1 : ByteArray) : Option (Bool) := (slices_Index_string_string.f k l0 a1).bind fun t278 => (some (decide (t278 ≥ 0)))
theorem slices_Contains_string_string.mono : ∀ a0 a1 k, LeO (slices_Contains_string_string.f k a0 a1) (slices_Contains_string_string.f (k + 1) a0 a1) := by
  intro a0 a1 k
  unfold slices_Contains_string_string.f
  repeat' first
      | (with_reducible exact slices_Index_string_string.mono _ _ _)
      | (with_reducible exact LeO.refl _)
      | (with_reducible exact LeO.none _)
      | (with_reducible refine LeO.ite ?_ ?_)
      | (with_reducible refine LeO.bind ?_ (fun _ => ?_))
      | exact slices_Index_string_string.mono _ _ _
      | exact LeO.none _
      | refine LeO.ite ?_ ?_
      | refine LeO.bind ?_ (fun _ => ?_)
set_option maxHeartbeats 8000000 in
set_option maxRecDepth 100000 in
theorem slices_Contains_string_string.calls (k : Nat) (A0 : Option Addr) (c0 : Nat) (l0 : List ByteArray) (a1 : ByteArray) (r : Bool) (w : World) (hr0 : Kd.C Kd.string w A0 l0.length l0) (hc0 : l0.length ≤ c0) (h : slices_Contains_string_string.f k l0 a1 = some r) :
    Calls Try.prog 43 #[.slice A0 l0.length c0, .string a1] w fun e w' => e = .returned (.bool r) ∧ Drawn0 w w' := by
  have HR0 := Aside0.mk hr0
  have HC0 := Aside0.mk hc0
  clear hr0 hc0
  have H : ((slices_Index_string_string.f k l0 a1).bind fun t278 => (some (decide (t278 ≥ 0)))) = some r := h
  clear h
  replace H := Option.bind_eq_some_iff.mp H
  obtain ⟨t278, A30, H⟩ := H
  replace H : (some (decide (t278 ≥ 0))) = some r := H
  have A3 := Aside0.mk A30
  clear A30
  obtain rfl := Option.some.inj H
  go_enter Try.func43, Try.ntmps43
  go_wp2_with (first | ((with_reducible refine gate_callee (f := 53) rfl ?_); refine goesL_ (some 7) rfl rfl Try.func53 (by kernel_rfl) rfl #[.slice A0 l0.length c0, .string a1] rfl ga_ ?_; (with_reducible refine (slices_Index_string_string.calls k _ _ l0 a1 t278 _ ?side1 ?side2 A3.out).mono ?_); (case side1 => repeat (first | exact HR0.out | (with_reducible refine Kd.C_alloc ?_ _) | (with_reducible refine Kd.C_drewN ?_ _) | (with_reducible refine Kd.C_drew ?_))); (case side2 => exact HC0.out); rintro e w' ⟨rfl, ⟨nd, rfl⟩⟩; refine ⟨_, rfl, ?_⟩))
  go_ret
  exact rz_
end Go.Proofs.Ytconpnagoijacaa.P
end
section
namespace Go.Proofs.Ytconpnagoijacaa.P
open Go.RowKit Go.Proofs.YtconpnagoijacaaW.PrintWords Go.Proofs.YtconpnagoijacaaW.PrintLast Go.Proofs.YtconpnagoijacaaW.PrintMore
attribute [local go_sem] max2_int min2_int max_two min_two max_three min_three max_four min_four
set_option linter.unusedVariables false
set_option linter.unusedSimpArgs false
def expr_Vars.l0 : Nat → List ByteArray → List (S52) → Int → Int → Option (List ByteArray)
  | 0, _, _, _, _ => none
  | k + 1, x3, x6, x7, x8 => if x8 < x7 then (if 0 ≤ x8 then (if x8 < (x6.length : Int) then (if ((rd_T52 x6 x8).f1).toList = ([] : List UInt8) then (expr_Vars.l0 k x3 x6 x7 (wrap64 (x8 + 1))) else ((slices_Contains_string_string.f k x3 ((rd_T52 x6 x8).f1)).bind fun t281 => (if t281 = true then (expr_Vars.l0 k x3 x6 x7 (wrap64 (x8 + 1))) else (if x3.length < 8796093022208 then (expr_Vars.l0 k (x3 ++ [(rd_T52 x6 x8).f1]) x6 x7 (wrap64 (x8 + 1))) else (none))))) else (none)) else (none)) else (some x3)
def expr_Vars.f (k : Nat) (l0 : List (S52)) : Option (List ByteArray) := expr_Vars.l0 k ([] : List ByteArray) l0 (l0.length : Int) 0
theorem expr_Vars.mono_l : ∀ k, (∀ y0 y1 y2 y3, LeO (expr_Vars.l0 k y0 y1 y2 y3) (expr_Vars.l0 (k + 1) y0 y1 y2 y3))
  | 0 => fun _ _ _ _ r h => by simp [expr_Vars.l0] at h
  | k + 1 => by
    have ih0 := expr_Vars.mono_l k
    · intro y0 y1 y2 y3
      unfold expr_Vars.l0
      repeat' first
      | (with_reducible exact ih0 _ _ _ _)
      | (with_reducible exact slices_Contains_string_string.mono _ _ _)
      | (with_reducible exact LeO.refl _)
      | (with_reducible exact LeO.none _)
      | (with_reducible refine LeO.ite ?_ ?_)
      | (with_reducible refine LeO.bind ?_ (fun _ => ?_))
      | exact ih0 _ _ _ _
      | exact slices_Contains_string_string.mono _ _ _
      | exact LeO.none _
      | refine LeO.ite ?_ ?_
      | refine LeO.bind ?_ (fun _ => ?_)
theorem expr_Vars.mono : ∀ a0 k, LeO (expr_Vars.f k a0) (expr_Vars.f (k + 1) a0) := by
  intro a0 k
  have ih0 := expr_Vars.mono_l k
  unfold expr_Vars.f
  repeat' first
      | (with_reducible exact ih0 _ _ _ _)
      | (with_reducible exact slices_Contains_string_string.mono _ _ _)
      | (with_reducible exact LeO.refl _)
      | (with_reducible exact LeO.none _)
      | (with_reducible refine LeO.ite ?_ ?_)
      | (with_reducible refine LeO.bind ?_ (fun _ => ?_))
      | exact ih0 _ _ _ _
      | exact slices_Contains_string_string.mono _ _ _
      | exact LeO.none _
      | refine LeO.ite ?_ ?_
      | refine LeO.bind ?_ (fun _ => ?_)
set_option maxHeartbeats 8000000 in
set_option maxRecDepth 100000 in
theorem expr_Vars.calls (k : Nat) (A0 : Option Addr) (c0 : Nat) (l0 : List (S52)) (r : List ByteArray) (w : World) (hr0 : Kd.C k52 w A0 l0.length l0) (hc0 : l0.length ≤ c0) (h : expr_Vars.f k l0 = some r) :
    Calls Try.prog 23 #[.slice A0 l0.length c0] w fun e w' => ∃ v0_ : Value, e = .returned (v0_) ∧ Kd.R Kd.string 9 w' w.heap.size (fun _ => True) v0_ r ∧ Below w.heap.size w w' := by
  have hu52 := Try.underlying52
  have HR0 := Aside0.mk hr0
  have HC0 := Aside0.mk hc0
  clear hr0 hc0
  have HB := Aside0.mk (Below.refl w.heap.size w)
  have H : (expr_Vars.l0 k ([] : List ByteArray) l0 (l0.length : Int) 0) = some r := h
  clear h
  have H' := Aside0.mk H
  clear H
  go_enter Try.func23, Try.ntmps23
  go_wp2
  go_loopg [3, 8] k (fun kq v3 v8 w' => ∃ (x3_1 : List ByteArray) (x8_1 : Int), v8 = .int .i64 x8_1 ∧ Aside0 (expr_Vars.l0 kq x3_1 l0 (l0.length : Int) x8_1 = some r) ∧ Aside0 (kq ≤ k) ∧ Aside0 (Kd.R Kd.string 9 w' w.heap.size (fun _ => True) v3 x3_1) ∧ Aside0 (Below w.heap.size w w'))
  case atStart => exact ⟨(([] : List ByteArray)), (0), ra_, H', ⟨Nat.le_refl _⟩, ⟨by first | exact Kd.R_nil _ _ _ _ _ | exact Kd.N_nil _ _ _ _ _ | exact Kd.V_nil _ _ _ _ _ | exact Kd.Q_nil _ _ _ _ _ | exact Kd.S_nil _ _ _ _ _⟩, ⟨by repeat (first | (with_reducible first | exact HB.out | apply below_alloc | apply pw_below_drewN | apply below_drew1) | exact HB.out)⟩⟩
  case round =>
    clear H'
    obtain ⟨x3_1, x8_1, rfl, HA, HK1, HO_3, HB⟩ := hrel
    cases gk with
    | zero => exact absurd HA.out (by simp [expr_Vars.l0])
    | succ k1 =>
      have H := HA.out
      clear HA
      simp only [expr_Vars.l0] at H
      by_cases c2 : x8_1 < (l0.length : Int)
      · rw [if_pos c2] at H
        have c2b0 : decide (x8_1 < (l0.length : Int)) = true := decide_eq_true c2
        clear c2
        by_cases c3 : 0 ≤ x8_1
        · rw [if_pos c3] at H
          have c3b0 : decide (0 ≤ x8_1) = true := decide_eq_true c3
          clear c3
          by_cases c4 : x8_1 < (l0.length : Int)
          · rw [if_pos c4] at H
            have c4b0 : decide (x8_1 < (l0.length : Int)) = true := decide_eq_true c4
            clear c4
            by_cases c5 : ((rd_T52 l0 x8_1).f1).toList = ([] : List UInt8)
            · rw [if_pos c5] at H
              obtain ⟨c5b0, c5b1⟩ := eqB_ c5
              clear c5
              have H' := Aside0.mk H
              clear H
              have p279 : 0 ≤ (x8_1 : Int) := dt_
              have q279 : x8_1 < (l0.length : Int) := dt_
              obtain ⟨ad279, e279, hx279_0, hx279_1, hx279_2, hx279_3, hx279_4⟩ := at_T52 HR0.out x8_1 p279 q279
              cases e279
              replace hx279_0 := cm_ HB hx279_0
              replace hx279_1 := cm_ HB hx279_1
              replace hx279_2 := cm_ HB hx279_2
              replace hx279_3 := cm_ HB hx279_3
              replace hx279_4 := cm_ HB hx279_4
              replace p279 := eq_true p279
              replace q279 := eq_true q279
              go_wp2_with (first | ((with_reducible refine gate_dst (N := 5) rfl ?_); refine box_event ?hg (N := 5) ?hd (cs := #[.int .i64 0, .string (⟨#[]⟩ : ByteArray), .int .i64 0, .int .i64 0, .string (⟨#[]⟩ : ByteArray)]) (t := 52) ?hr ?_; (case hd => rfl); (case hg => rfl); (case hr => first | (go_simp; done) | (go_simp; rfl)); intro gb280 hg w6 hbox hb; have n0_ := kb_ (ku_ HO_3.out) hb; have n1_ := bs_ (be_ HB) hb; have n2_ := Aside0.mk (hbox); have n3_ := gs_ hg (be_ HB); have n4_ := gs_ hg (be_ HB); clear HO_3; clear HB; have HO_3 := n0_; have HB := n1_; have BK280 := n2_; have GW280 := n3_; have GE280 := n4_; clear n0_ n1_ n2_ n3_ n4_; clear hb hbox hg; have hcz7_0 : w6.cell? ⟨gb280, 0, none⟩ = some (.int .i64 0) := (blk_cell BK280.out 0).trans rfl; have hcz7_1 : w6.cell? ⟨gb280, 1, none⟩ = some (.string (⟨#[]⟩ : ByteArray)) := (blk_cell BK280.out 1).trans rfl; have hcz7_2 : w6.cell? ⟨gb280, 2, none⟩ = some (.int .i64 0) := (blk_cell BK280.out 2).trans rfl; have hcz7_3 : w6.cell? ⟨gb280, 3, none⟩ = some (.int .i64 0) := (blk_cell BK280.out 3).trans rfl; have hcz7_4 : w6.cell? ⟨gb280, 4, none⟩ = some (.string (⟨#[]⟩ : ByteArray)) := (blk_cell BK280.out 4).trans rfl; have hfz7_0 := blk_frozen BK280.out 0; have hfz7_1 := blk_frozen BK280.out 1; have hfz7_2 := blk_frozen BK280.out 2; have hfz7_3 := blk_frozen BK280.out 3; have hfz7_4 := blk_frozen BK280.out 4))
              go_roundg k1
              case measure => have := HK1.out; omega
              case rel => exact ⟨(x3_1), (wrap64 (x8_1 + 1)), ra_, H', ⟨by have := HK1.out; omega⟩, ⟨by (with_reducible repeat (first | apply Kd.R_alloc | apply Kd.R_drewN | apply Kd.R_drew)); exact Kd.R_mono (Kd.R_far (p := ⟨gb280, 4, none⟩) (Kd.R_far (p := ⟨gb280, 3, none⟩) (Kd.R_far (p := ⟨gb280, 2, none⟩) (Kd.R_far (p := ⟨gb280, 1, none⟩) (Kd.R_far (p := ⟨gb280, 0, none⟩) (Kd.R_types HO_3.out BK280.out (by decide)) (fun _ hk => hk.2) (.int .i64 ((rd_T52 l0 x8_1).f0))) (fun _ hk => hk.2) (.string ((rd_T52 l0 x8_1).f1))) (fun _ hk => hk.2) (.int .i64 ((rd_T52 l0 x8_1).f2.f0))) (fun _ hk => hk.2) (.int .i64 ((rd_T52 l0 x8_1).f2.f1))) (fun _ hk => hk.2) (.string ((rd_T52 l0 x8_1).f2.f2))) (fun _ hk => trivial)⟩, ⟨by repeat (first | (with_reducible first | exact HB.out | apply below_alloc | apply pw_below_drewN | apply below_drew1 | refine below_set ?_ GE280.out) | exact HB.out)⟩⟩
            · rw [if_neg c5] at H
              obtain ⟨c5b0, c5b1⟩ := neB_ c5
              replace H := Option.bind_eq_some_iff.mp H
              obtain ⟨t281, A80, H⟩ := H
              replace H : (if t281 = true then (expr_Vars.l0 k1 x3_1 l0 (l0.length : Int) (wrap64 (x8_1 + 1))) else (if x3_1.length < 8796093022208 then (expr_Vars.l0 k1 (x3_1 ++ [(rd_T52 l0 x8_1).f1]) l0 (l0.length : Int) (wrap64 (x8_1 + 1))) else (none))) = some r := H
              have A8 := Aside0.mk A80
              clear A80
              by_cases c9 : t281 = true
              · subst c9
                have H1 : (expr_Vars.l0 k1 x3_1 l0 (l0.length : Int) (wrap64 (x8_1 + 1))) = some r := by rw [if_pos rfl] at H; exact H
                clear H
                have H := H1
                clear H1
                have H' := Aside0.mk H
                clear H
                have p279 : 0 ≤ (x8_1 : Int) := dt_
                have q279 : x8_1 < (l0.length : Int) := dt_
                obtain ⟨ad279, e279, hx279_0, hx279_1, hx279_2, hx279_3, hx279_4⟩ := at_T52 HR0.out x8_1 p279 q279
                cases e279
                replace hx279_0 := cm_ HB hx279_0
                replace hx279_1 := cm_ HB hx279_1
                replace hx279_2 := cm_ HB hx279_2
                replace hx279_3 := cm_ HB hx279_3
                replace hx279_4 := cm_ HB hx279_4
                replace p279 := eq_true p279
                replace q279 := eq_true q279
                go_wp2_with (first | ((with_reducible refine gate_dst (N := 5) rfl ?_); refine box_event ?hg (N := 5) ?hd (cs := #[.int .i64 0, .string (⟨#[]⟩ : ByteArray), .int .i64 0, .int .i64 0, .string (⟨#[]⟩ : ByteArray)]) (t := 52) ?hr ?_; (case hd => rfl); (case hg => rfl); (case hr => first | (go_simp; done) | (go_simp; rfl)); intro gb280 hg w10 hbox hb; have n0_ := kb_ (ku_ HO_3.out) hb; have n1_ := bs_ (be_ HB) hb; have n2_ := Aside0.mk (hbox); have n3_ := gs_ hg (be_ HB); have n4_ := gs_ hg (be_ HB); clear HO_3; clear HB; have HO_3 := n0_; have HB := n1_; have BK280 := n2_; have GW280 := n3_; have GE280 := n4_; clear n0_ n1_ n2_ n3_ n4_; clear hb hbox hg; have hcz11_0 : w10.cell? ⟨gb280, 0, none⟩ = some (.int .i64 0) := (blk_cell BK280.out 0).trans rfl; have hcz11_1 : w10.cell? ⟨gb280, 1, none⟩ = some (.string (⟨#[]⟩ : ByteArray)) := (blk_cell BK280.out 1).trans rfl; have hcz11_2 : w10.cell? ⟨gb280, 2, none⟩ = some (.int .i64 0) := (blk_cell BK280.out 2).trans rfl; have hcz11_3 : w10.cell? ⟨gb280, 3, none⟩ = some (.int .i64 0) := (blk_cell BK280.out 3).trans rfl; have hcz11_4 : w10.cell? ⟨gb280, 4, none⟩ = some (.string (⟨#[]⟩ : ByteArray)) := (blk_cell BK280.out 4).trans rfl; have hfz11_0 := blk_frozen BK280.out 0; have hfz11_1 := blk_frozen BK280.out 1; have hfz11_2 := blk_frozen BK280.out 2; have hfz11_3 := blk_frozen BK280.out 3; have hfz11_4 := blk_frozen BK280.out 4; obtain ⟨Ao12, co12, eo12⟩ := Kd.R_slice HO_3.out; subst eo12) | (go_at_call 43; (with_reducible refine (slices_Contains_string_string.calls k1 _ _ x3_1 ((rd_T52 l0 x8_1).f1) true _ ?side1 ?side2 A8.out).mono ?_); (case side1 => refine (Kd.R_reads' (e := 9) (base := w.heap.size) (ok := fun k_ => True) (n := x3_1.length) (c := co12) ?_).2.2; exact (ku_ (Kd.R_mono (Kd.R_far (p := ⟨gb280, 4, none⟩) (Kd.R_far (p := ⟨gb280, 3, none⟩) (Kd.R_far (p := ⟨gb280, 2, none⟩) (Kd.R_far (p := ⟨gb280, 1, none⟩) (Kd.R_far (p := ⟨gb280, 0, none⟩) (Kd.R_types HO_3.out BK280.out (by decide)) (fun _ hk => hk.2) (.int .i64 ((rd_T52 l0 x8_1).f0))) (fun _ hk => hk.2) (.string ((rd_T52 l0 x8_1).f1))) (fun _ hk => hk.2) (.int .i64 ((rd_T52 l0 x8_1).f2.f0))) (fun _ hk => hk.2) (.int .i64 ((rd_T52 l0 x8_1).f2.f1))) (fun _ hk => hk.2) (.string ((rd_T52 l0 x8_1).f2.f2))) (fun _ h_ => h_.1)))); (case side2 => exact (Kd.R_reads' HO_3.out).2.1); rintro e w' ⟨rfl, ⟨nd, rfl⟩⟩))
                go_roundg k1
                case measure => have := HK1.out; omega
                case rel => exact ⟨(x3_1), (wrap64 (x8_1 + 1)), ra_, H', ⟨by have := HK1.out; omega⟩, ⟨by (with_reducible repeat (first | apply Kd.R_alloc | apply Kd.R_drewN | apply Kd.R_drew)); exact Kd.R_mono (Kd.R_far (p := ⟨gb280, 4, none⟩) (Kd.R_far (p := ⟨gb280, 3, none⟩) (Kd.R_far (p := ⟨gb280, 2, none⟩) (Kd.R_far (p := ⟨gb280, 1, none⟩) (Kd.R_far (p := ⟨gb280, 0, none⟩) (Kd.R_types HO_3.out BK280.out (by decide)) (fun _ hk => hk.2) (.int .i64 ((rd_T52 l0 x8_1).f0))) (fun _ hk => hk.2) (.string ((rd_T52 l0 x8_1).f1))) (fun _ hk => hk.2) (.int .i64 ((rd_T52 l0 x8_1).f2.f0))) (fun _ hk => hk.2) (.int .i64 ((rd_T52 l0 x8_1).f2.f1))) (fun _ hk => hk.2) (.string ((rd_T52 l0 x8_1).f2.f2))) (fun _ hk => trivial)⟩, ⟨by repeat (first | (with_reducible first | exact HB.out | apply below_alloc | apply pw_below_drewN | apply below_drew1 | refine below_set ?_ GE280.out) | exact HB.out)⟩⟩
              · replace c9 := Bool.eq_false_iff.mpr c9
                subst c9
                have H1 : (if x3_1.length < 8796093022208 then (expr_Vars.l0 k1 (x3_1 ++ [(rd_T52 l0 x8_1).f1]) l0 (l0.length : Int) (wrap64 (x8_1 + 1))) else (none)) = some r := by rw [if_neg (show ¬ (false = true) by decide)] at H; exact H
                clear H
                have H := H1
                clear H1
                by_cases c13 : x3_1.length < 8796093022208
                · rw [if_pos c13] at H
                  have LMc13 := Aside0.mk c13
                  clear c13
                  obtain ⟨y282, hy282⟩ : ∃ y_ : List ByteArray, y_ = (x3_1 ++ [(rd_T52 l0 x8_1).f1]) := ⟨_, rfl⟩
                  replace H : (expr_Vars.l0 k1 y282 l0 (l0.length : Int) (wrap64 (x8_1 + 1))) = some r := by first | (rw [hy282]; with_reducible exact H) | (have H2_ := (Option.bind_some _ _).symm.trans H; rw [hy282]; with_reducible exact H2_) | (have H2_ := (Option.bind_some _ _).symm.trans H; with_reducible exact H2_) | with_reducible exact H | (rw [hy282]; exact H) | exact H
                  have Ny282 := Aside0.mk hy282
                  clear hy282
                  have H' := Aside0.mk H
                  clear H
                  have p279 : 0 ≤ (x8_1 : Int) := dt_
                  have q279 : x8_1 < (l0.length : Int) := dt_
                  obtain ⟨ad279, e279, hx279_0, hx279_1, hx279_2, hx279_3, hx279_4⟩ := at_T52 HR0.out x8_1 p279 q279
                  cases e279
                  replace hx279_0 := cm_ HB hx279_0
                  replace hx279_1 := cm_ HB hx279_1
                  replace hx279_2 := cm_ HB hx279_2
                  replace hx279_3 := cm_ HB hx279_3
                  replace hx279_4 := cm_ HB hx279_4
                  replace p279 := eq_true p279
                  replace q279 := eq_true q279
                  go_wp2_with (first | ((with_reducible refine gate_dst (N := 5) rfl ?_); refine box_event ?hg (N := 5) ?hd (cs := #[.int .i64 0, .string (⟨#[]⟩ : ByteArray), .int .i64 0, .int .i64 0, .string (⟨#[]⟩ : ByteArray)]) (t := 52) ?hr ?_; (case hd => rfl); (case hg => rfl); (case hr => first | (go_simp; done) | (go_simp; rfl)); intro gb280 hg w14 hbox hb; have n0_ := kb_ (ku_ HO_3.out) hb; have n1_ := bs_ (be_ HB) hb; have n2_ := Aside0.mk (hbox); have n3_ := gs_ hg (be_ HB); have n4_ := gs_ hg (be_ HB); clear HO_3; clear HB; have HO_3 := n0_; have HB := n1_; have BK280 := n2_; have GW280 := n3_; have GE280 := n4_; clear n0_ n1_ n2_ n3_ n4_; clear hb hbox hg; have hcz15_0 : w14.cell? ⟨gb280, 0, none⟩ = some (.int .i64 0) := (blk_cell BK280.out 0).trans rfl; have hcz15_1 : w14.cell? ⟨gb280, 1, none⟩ = some (.string (⟨#[]⟩ : ByteArray)) := (blk_cell BK280.out 1).trans rfl; have hcz15_2 : w14.cell? ⟨gb280, 2, none⟩ = some (.int .i64 0) := (blk_cell BK280.out 2).trans rfl; have hcz15_3 : w14.cell? ⟨gb280, 3, none⟩ = some (.int .i64 0) := (blk_cell BK280.out 3).trans rfl; have hcz15_4 : w14.cell? ⟨gb280, 4, none⟩ = some (.string (⟨#[]⟩ : ByteArray)) := (blk_cell BK280.out 4).trans rfl; have hfz15_0 := blk_frozen BK280.out 0; have hfz15_1 := blk_frozen BK280.out 1; have hfz15_2 := blk_frozen BK280.out 2; have hfz15_3 := blk_frozen BK280.out 3; have hfz15_4 := blk_frozen BK280.out 4; obtain ⟨Ao16, co16, eo16⟩ := Kd.R_slice HO_3.out; subst eo16) | (go_at_call 43; (with_reducible refine (slices_Contains_string_string.calls k1 _ _ x3_1 ((rd_T52 l0 x8_1).f1) false _ ?side1 ?side2 A8.out).mono ?_); (case side1 => refine (Kd.R_reads' (e := 9) (base := w.heap.size) (ok := fun k_ => True) (n := x3_1.length) (c := co16) ?_).2.2; exact (ku_ (Kd.R_mono (Kd.R_far (p := ⟨gb280, 4, none⟩) (Kd.R_far (p := ⟨gb280, 3, none⟩) (Kd.R_far (p := ⟨gb280, 2, none⟩) (Kd.R_far (p := ⟨gb280, 1, none⟩) (Kd.R_far (p := ⟨gb280, 0, none⟩) (Kd.R_types HO_3.out BK280.out (by decide)) (fun _ hk => hk.2) (.int .i64 ((rd_T52 l0 x8_1).f0))) (fun _ hk => hk.2) (.string ((rd_T52 l0 x8_1).f1))) (fun _ hk => hk.2) (.int .i64 ((rd_T52 l0 x8_1).f2.f0))) (fun _ hk => hk.2) (.int .i64 ((rd_T52 l0 x8_1).f2.f1))) (fun _ hk => hk.2) (.string ((rd_T52 l0 x8_1).f2.f2))) (fun _ h_ => h_.1)))); (case side2 => exact (Kd.R_reads' HO_3.out).2.1); rintro e w' ⟨rfl, ⟨nd, rfl⟩⟩) | ((with_reducible refine gate_builtin (b := .append) (xs := #[.tmp 22, .tmp 25]) rfl ?_); at_builtin; refine Kd.R_append Kd.string (w0 := w) w.heap.size rfl (.tmp 22) (.tmp 25) 44 9 (.string ⟨#[]⟩) 16 rfl Try.underlying44 info9 rfl (by decide) (by omega) (.slice Ao16 x3_1.length co16) x3_1 ((rd_T52 l0 x8_1).f1) [.string ((rd_T52 l0 x8_1).f1)] (fun _ => True) (fun _ => False) rfl (by first | (go_simp; done) | (go_simp; rfl)) ?aP (fun _ hk => hk.elim) ?aF ?aO ?aB ?aS ?aL ?_; (case aP => exact rfl); (case aB => exact (be_ HB)); (case aF => exact (fun _ _ => trivial)); (case aO => exact (by (with_reducible repeat (first | apply Kd.R_alloc | apply Kd.R_drewN | apply Kd.R_drew)); exact Kd.R_mono (Kd.R_far (p := ⟨gb280, 4, none⟩) (Kd.R_far (p := ⟨gb280, 3, none⟩) (Kd.R_far (p := ⟨gb280, 2, none⟩) (Kd.R_far (p := ⟨gb280, 1, none⟩) (Kd.R_far (p := ⟨gb280, 0, none⟩) (Kd.R_types HO_3.out BK280.out (by decide)) (fun _ hk => hk.2) (.int .i64 ((rd_T52 l0 x8_1).f0))) (fun _ hk => hk.2) (.string ((rd_T52 l0 x8_1).f1))) (fun _ hk => hk.2) (.int .i64 ((rd_T52 l0 x8_1).f2.f0))) (fun _ hk => hk.2) (.int .i64 ((rd_T52 l0 x8_1).f2.f1))) (fun _ hk => hk.2) (.string ((rd_T52 l0 x8_1).f2.f2))) (fun _ hk => trivial))); (case aS => exact (below_size (be_ HB))); (case aL => have := LMc13.out; omega); intro v283 w17 ho hb hg hat; rw [← Ny282.out] at ho; have n0_ := Aside0.mk (blk_grown (o := .cells #[.int .i64 ((rd_T52 l0 x8_1).f0), .string ((rd_T52 l0 x8_1).f1), .int .i64 ((rd_T52 l0 x8_1).f2.f0), .int .i64 ((rd_T52 l0 x8_1).f2.f1), .string ((rd_T52 l0 x8_1).f2.f2)] 52 (0, 0)) (bp_ BK280) hg (Kd.R_ne HO_3.out BK280.out (by decide))); have n1_ := Aside0.mk (hb); have n2_ := Aside0.mk (ho); clear BK280; clear HB; clear HO_3; have BK280 := n0_; have HB := n1_; have HO284 := n2_; clear n0_ n1_ n2_; clear ho hb hg hat))
                  go_roundg k1
                  case measure => have := HK1.out; omega
                  case rel => exact ⟨(y282), (wrap64 (x8_1 + 1)), ra_, H', ⟨by have := HK1.out; omega⟩, ⟨by (with_reducible repeat (first | apply Kd.R_alloc | apply Kd.R_drewN | apply Kd.R_drew)); exact HO284.out⟩, ⟨by repeat (first | (with_reducible first | exact HB.out | apply below_alloc | apply pw_below_drewN | apply below_drew1 | refine below_set ?_ GE280.out) | exact HB.out)⟩⟩
                · rw [if_neg c13] at H
                  exact absurd H (by simp)
          · rw [if_neg c4] at H
            exact absurd H (by simp)
        · rw [if_neg c3] at H
          exact absurd H (by simp)
      · rw [if_neg c2] at H
        have c2b0 : decide (x8_1 < (l0.length : Int)) = false := decide_eq_false c2
        clear c2
        obtain rfl := Option.some.inj H
        go_wp2
        go_ret
        exact ⟨_, by first | rfl | (simp [errW_none, errW_some] <;> rfl) | (simp [*, errW_none, errW_some] <;> rfl), by (with_reducible repeat (first | apply Kd.R_alloc | apply Kd.R_drewN | apply Kd.R_drew)); exact HO_3.out, by repeat (first | (with_reducible first | exact HB.out | apply below_alloc | apply pw_below_drewN | apply below_drew1) | exact HB.out)⟩
end Go.Proofs.Ytconpnagoijacaa.P
end
section
namespace Go.Proofs.Ytconpnagoijacaa.P
open Go.RowKit Go.Proofs.YtconpnagoijacaaW.PrintWords Go.Proofs.YtconpnagoijacaaW.PrintLast Go.Proofs.YtconpnagoijacaaW.PrintMore
attribute [local go_sem] max2_int min2_int max_two min_two max_three min_three max_four min_four
set_option linter.unusedVariables false
set_option linter.unusedSimpArgs false
mutual
def expr_Part.j0 : Nat → List (S52) → Int → Bool → Option (Int)
  | 0, _, _, _ => none
  | k + 1, x0, x1, x19 => if x19 = true then (some (-1)) else (expr_Part.l0 k x0 1 x1)
def expr_Part.l0 : Nat → List (S52) → Int → Int → Option (Int)
  | 0, _, _, _ => none
  | k + 1, x0, x5, x6 => if 0 ≤ x6 then (if x6 < (x0.length : Int) then ((expr_pushes.f ((rd_T52 x0 x6).f0)).bind fun t316 => (if t316 = true then (if (wrap64 (x5 - 1)) = 0 then (some x6) else (expr_Part.l0 k x0 (wrap64 (x5 - 1)) (wrap64 (x6 - 1)))) else (if (wrap64 (x5 + 1)) = 0 then (some x6) else (expr_Part.l0 k x0 (wrap64 (x5 + 1)) (wrap64 (x6 - 1)))))) else (none)) else (none)
end
def expr_Part.f (k : Nat) (l0 : List (S52)) (a1 : Int) : Option (Int) := (expr_Check.f k l0).bind fun t314 => (if t314 = 0 then (if a1 < 0 then (expr_Part.j0 k l0 a1 true) else (expr_Part.j0 k l0 a1 (decide (a1 ≥ (l0.length : Int))))) else (expr_Part.j0 k l0 a1 true))
theorem expr_Part.mono_l : ∀ k, (∀ y0 y1 y2, LeO (expr_Part.j0 k y0 y1 y2) (expr_Part.j0 (k + 1) y0 y1 y2)) ∧ (∀ y0 y1 y2, LeO (expr_Part.l0 k y0 y1 y2) (expr_Part.l0 (k + 1) y0 y1 y2))
  | 0 => ⟨fun _ _ _ r h => by simp [expr_Part.j0] at h, fun _ _ _ r h => by simp [expr_Part.l0] at h⟩
  | k + 1 => by
    obtain ⟨ih0, ih1⟩ := expr_Part.mono_l k
    refine ⟨?_, ?_⟩
    · intro y0 y1 y2
      unfold expr_Part.j0
      repeat' first
      | (with_reducible exact ih0 _ _ _)
      | (with_reducible exact ih1 _ _ _)
      | (with_reducible exact expr_Check.mono _ _)
      | (with_reducible exact LeO.refl _)
      | (with_reducible exact LeO.none _)
      | (with_reducible refine LeO.ite ?_ ?_)
      | (with_reducible refine LeO.bind ?_ (fun _ => ?_))
      | exact ih0 _ _ _
      | exact ih1 _ _ _
      | exact expr_Check.mono _ _
      | exact LeO.none _
      | refine LeO.ite ?_ ?_
      | refine LeO.bind ?_ (fun _ => ?_)
    · intro y0 y1 y2
      unfold expr_Part.l0
      repeat' first
      | (with_reducible exact ih0 _ _ _)
      | (with_reducible exact ih1 _ _ _)
      | (with_reducible exact expr_Check.mono _ _)
      | (with_reducible exact LeO.refl _)
      | (with_reducible exact LeO.none _)
      | (with_reducible refine LeO.ite ?_ ?_)
      | (with_reducible refine LeO.bind ?_ (fun _ => ?_))
      | exact ih0 _ _ _
      | exact ih1 _ _ _
      | exact expr_Check.mono _ _
      | exact LeO.none _
      | refine LeO.ite ?_ ?_
      | refine LeO.bind ?_ (fun _ => ?_)
theorem expr_Part.mono : ∀ a0 a1 k, LeO (expr_Part.f k a0 a1) (expr_Part.f (k + 1) a0 a1) := by
  intro a0 a1 k
  obtain ⟨ih0, ih1⟩ := expr_Part.mono_l k
  unfold expr_Part.f
  repeat' first
      | (with_reducible exact ih0 _ _ _)
      | (with_reducible exact ih1 _ _ _)
      | (with_reducible exact expr_Check.mono _ _)
      | (with_reducible exact LeO.refl _)
      | (with_reducible exact LeO.none _)
      | (with_reducible refine LeO.ite ?_ ?_)
      | (with_reducible refine LeO.bind ?_ (fun _ => ?_))
      | exact ih0 _ _ _
      | exact ih1 _ _ _
      | exact expr_Check.mono _ _
      | exact LeO.none _
      | refine LeO.ite ?_ ?_
      | refine LeO.bind ?_ (fun _ => ?_)
set_option maxHeartbeats 8000000 in
set_option maxRecDepth 100000 in
theorem expr_Part.calls (k : Nat) (A0 : Option Addr) (c0 : Nat) (l0 : List (S52)) (a1 : Int) (r : Int) (w : World) (hr0 : Kd.C k52 w A0 l0.length l0) (hc0 : l0.length ≤ c0) (h : expr_Part.f k l0 a1 = some r) :
    Calls Try.prog 30 #[.slice A0 l0.length c0, .int .i64 a1] w fun e w' => e = .returned (.int .i64 r) ∧ Below w.heap.size w w' := by
  have HR0 := Aside0.mk hr0
  have HC0 := Aside0.mk hc0
  clear hr0 hc0
  have HB := Aside0.mk (Below.refl w.heap.size w)
  have H : ((expr_Check.f k l0).bind fun t314 => (if t314 = 0 then (if a1 < 0 then (expr_Part.j0 k l0 a1 true) else (expr_Part.j0 k l0 a1 (decide (a1 ≥ (l0.length : Int))))) else (expr_Part.j0 k l0 a1 true))) = some r := h
  clear h
  have HC3 := Aside0.mk H
  clear H
  go_enter Try.func30, Try.ntmps30
  go_upto_region 1 with (fail)
  go_cut [19] (fun v19 wc => ∃ (kq : Nat) (x19_2 : Bool), v19 = .bool x19_2 ∧ Aside0 (expr_Part.j0 kq l0 a1 x19_2 = some r) ∧ Aside0 (kq ≤ k) ∧ Aside0 (Below w.heap.size w wc))
  case first =>
    have H := HC3.out
    clear HC3
    replace H := Option.bind_eq_some_iff.mp H
    obtain ⟨t314, A40, H⟩ := H
    replace H : (if t314 = 0 then (if a1 < 0 then (expr_Part.j0 k l0 a1 true) else (expr_Part.j0 k l0 a1 (decide (a1 ≥ (l0.length : Int))))) else (expr_Part.j0 k l0 a1 true)) = some r := H
    have A4 := Aside0.mk A40
    clear A40
    by_cases c5 : t314 = 0
    · rw [if_pos c5] at H
      obtain ⟨c5b0, c5b1⟩ := eqB_ c5
      clear c5
      (first | rw [c5b0] | (simp only [i64_w, i32_w]; rw [c5b0]) | skip)
      by_cases c6 : a1 < 0
      · rw [if_pos c6] at H
        have c6b0 : decide (a1 < 0) = true := decide_eq_true c6
        clear c6
        have H' := Aside0.mk H
        clear H
        go_wp2_with (first | ((with_reducible refine gate_callee (f := 28) rfl ?_); refine goesL_ (some 8) rfl rfl Try.func28 (by kernel_rfl) rfl #[.slice A0 l0.length c0] rfl ga_ ?_; (with_reducible refine (expr_Check.calls k _ _ l0 t314 _ ?side1 ?side2 A4.out).mono ?_); (case side1 => repeat (first | exact (Kd.C_below HR0.out HB.out) | (with_reducible refine Kd.C_alloc ?_ _) | (with_reducible refine Kd.C_drewN ?_ _) | (with_reducible refine Kd.C_drew ?_))); (case side2 => exact HC0.out); rintro e w7 ⟨rfl, hb⟩; refine ⟨_, rfl, ?_⟩; have n0_ := bs_ (be_ HB) hb; clear HB; have HB := n0_; clear n0_; (try clear hb); (try clear hb2); (try clear hk); (try clear hi)))
        go_meet
        case rel => exact ⟨_, (true), ra_, H', ⟨by first | omega | exact Nat.le_refl _⟩, ⟨by repeat (first | (with_reducible first | exact HB.out | apply below_alloc | apply pw_below_drewN | apply below_drew1) | exact HB.out)⟩⟩
      · rw [if_neg c6] at H
        have c6b0 : decide (a1 < 0) = false := decide_eq_false c6
        clear c6
        have H' := Aside0.mk H
        clear H
        go_wp2_with (first | ((with_reducible refine gate_callee (f := 28) rfl ?_); refine goesL_ (some 8) rfl rfl Try.func28 (by kernel_rfl) rfl #[.slice A0 l0.length c0] rfl ga_ ?_; (with_reducible refine (expr_Check.calls k _ _ l0 t314 _ ?side1 ?side2 A4.out).mono ?_); (case side1 => repeat (first | exact (Kd.C_below HR0.out HB.out) | (with_reducible refine Kd.C_alloc ?_ _) | (with_reducible refine Kd.C_drewN ?_ _) | (with_reducible refine Kd.C_drew ?_))); (case side2 => exact HC0.out); rintro e w8 ⟨rfl, hb⟩; refine ⟨_, rfl, ?_⟩; have n0_ := bs_ (be_ HB) hb; clear HB; have HB := n0_; clear n0_; (try clear hb); (try clear hb2); (try clear hk); (try clear hi)))
        go_meet
        case rel => exact ⟨_, (decide (a1 ≥ (l0.length : Int))), ra_, H', ⟨by first | omega | exact Nat.le_refl _⟩, ⟨by repeat (first | (with_reducible first | exact HB.out | apply below_alloc | apply pw_below_drewN | apply below_drew1) | exact HB.out)⟩⟩
    · rw [if_neg c5] at H
      obtain ⟨c5b0, c5b1⟩ := neB_ c5
      (first | rw [c5b0] | (simp only [i64_w, i32_w]; rw [c5b0]) | skip)
      have H' := Aside0.mk H
      clear H
      go_wp2_with (first | ((with_reducible refine gate_callee (f := 28) rfl ?_); refine goesL_ (some 8) rfl rfl Try.func28 (by kernel_rfl) rfl #[.slice A0 l0.length c0] rfl ga_ ?_; (with_reducible refine (expr_Check.calls k _ _ l0 t314 _ ?side1 ?side2 A4.out).mono ?_); (case side1 => repeat (first | exact (Kd.C_below HR0.out HB.out) | (with_reducible refine Kd.C_alloc ?_ _) | (with_reducible refine Kd.C_drewN ?_ _) | (with_reducible refine Kd.C_drew ?_))); (case side2 => exact HC0.out); rintro e w9 ⟨rfl, hb⟩; refine ⟨_, rfl, ?_⟩; have n0_ := bs_ (be_ HB) hb; clear HB; have HB := n0_; clear n0_; (try clear hb); (try clear hb2); (try clear hk); (try clear hi)))
      go_meet
      case rel => exact ⟨_, (true), ra_, H', ⟨by first | omega | exact Nat.le_refl _⟩, ⟨by repeat (first | (with_reducible first | exact HB.out | apply below_alloc | apply pw_below_drewN | apply below_drew1) | exact HB.out)⟩⟩
  case rest =>
    clear HC3
    try clear c2
    try clear p2
    try clear c3
    try clear c5
    try clear c5b0
    try clear c5b1
    try clear c6
    try clear c6b0
    obtain ⟨kq, x19_2, rfl, HA, HJ2, HB⟩ := hcut
    cases kq with
    | zero => exact absurd HA.out (by simp [expr_Part.j0])
    | succ kj2 =>
      have H := HA.out
      clear HA
      simp only [expr_Part.j0] at H
      by_cases c10 : x19_2 = true
      · subst c10
        have H1 : (some (-1)) = some r := by rw [if_pos rfl] at H; exact H
        clear H
        have H := H1
        clear H1
        obtain rfl := Option.some.inj H
        go_wp2
        go_ret
        exact ⟨by first | rfl | (simp [errW_none, errW_some] <;> rfl) | (simp [*, errW_none, errW_some] <;> rfl), by repeat (first | (with_reducible first | exact HB.out | apply below_alloc | apply pw_below_drewN | apply below_drew1) | exact HB.out)⟩
      · replace c10 := Bool.eq_false_iff.mpr c10
        subst c10
        have H1 : (expr_Part.l0 kj2 l0 1 a1) = some r := by rw [if_neg (show ¬ (false = true) by decide)] at H; exact H
        clear H
        have H := H1
        clear H1
        have H' := Aside0.mk H
        clear H
        go_wp2
        go_loopg [5, 6] kj2 (fun kq v5 v6 w' => ∃ (x5_2 : Int) (x6_2 : Int), v5 = .int .i64 x5_2 ∧ v6 = .int .i64 x6_2 ∧ Aside0 (expr_Part.l0 kq l0 x5_2 x6_2 = some r) ∧ Aside0 (kq ≤ kj2) ∧ Aside0 (Below w.heap.size w w'))
        case atStart => exact ⟨(1), (a1), ra_, ra_, H', ⟨Nat.le_refl _⟩, ⟨by repeat (first | (with_reducible first | exact HB.out | apply below_alloc | apply pw_below_drewN | apply below_drew1) | exact HB.out)⟩⟩
        case round =>
          clear H'
          try clear c1
          try clear c2
          try clear p2
          try clear c3
          try clear c5
          try clear c5b0
          try clear c5b1
          try clear c6
          try clear c6b0
          try clear c10
          try clear p2
          obtain ⟨x5_2, x6_2, rfl, rfl, HA, HK2, HB⟩ := hrel
          cases gk with
          | zero => exact absurd HA.out (by simp [expr_Part.l0])
          | succ k2 =>
            have H := HA.out
            clear HA
            simp only [expr_Part.l0] at H
            by_cases c11 : 0 ≤ x6_2
            · rw [if_pos c11] at H
              have c11b0 : decide (0 ≤ x6_2) = true := decide_eq_true c11
              clear c11
              by_cases c12 : x6_2 < (l0.length : Int)
              · rw [if_pos c12] at H
                have c12b0 : decide (x6_2 < (l0.length : Int)) = true := decide_eq_true c12
                clear c12
                replace H := Option.bind_eq_some_iff.mp H
                obtain ⟨t316, A130, H⟩ := H
                replace H : (if t316 = true then (if (wrap64 (x5_2 - 1)) = 0 then (some x6_2) else (expr_Part.l0 k2 l0 (wrap64 (x5_2 - 1)) (wrap64 (x6_2 - 1)))) else (if (wrap64 (x5_2 + 1)) = 0 then (some x6_2) else (expr_Part.l0 k2 l0 (wrap64 (x5_2 + 1)) (wrap64 (x6_2 - 1))))) = some r := H
                have A13 := Aside0.mk A130
                clear A130
                by_cases c14 : t316 = true
                · subst c14
                  have H1 : (if (wrap64 (x5_2 - 1)) = 0 then (some x6_2) else (expr_Part.l0 k2 l0 (wrap64 (x5_2 - 1)) (wrap64 (x6_2 - 1)))) = some r := by rw [if_pos rfl] at H; exact H
                  clear H
                  have H := H1
                  clear H1
                  by_cases c15 : (wrap64 (x5_2 - 1)) = 0
                  · rw [if_pos c15] at H
                    obtain ⟨c15b0, c15b1⟩ := eqB_ c15
                    clear c15
                    obtain rfl := Option.some.inj H
                    have p315 : 0 ≤ (x6_2 : Int) := dt_
                    have q315 : x6_2 < (l0.length : Int) := dt_
                    obtain ⟨ad315, e315, hx315_0, hx315_1, hx315_2, hx315_3, hx315_4⟩ := at_T52 HR0.out x6_2 p315 q315
                    cases e315
                    replace hx315_0 := cm_ HB hx315_0
                    replace hx315_1 := cm_ HB hx315_1
                    replace hx315_2 := cm_ HB hx315_2
                    replace hx315_3 := cm_ HB hx315_3
                    replace hx315_4 := cm_ HB hx315_4
                    replace p315 := eq_true p315
                    replace q315 := eq_true q315
                    go_wp2_with (first | ((with_reducible refine gate_callee (f := 40) rfl ?_); refine goesL_ (some 28) rfl rfl Try.func40 (by kernel_rfl) rfl #[.int .i64 ((rd_T52 l0 x6_2).f0)] rfl ga_ ?_; (with_reducible refine (expr_pushes.calls ((rd_T52 l0 x6_2).f0) true _ A13.out).mono ?_); rintro e w' ⟨rfl, ⟨nd, rfl⟩⟩; refine ⟨_, rfl, ?_⟩))
                    go_ret
                    exact ⟨by first | rfl | (simp [errW_none, errW_some] <;> rfl) | (simp [*, errW_none, errW_some] <;> rfl), by repeat (first | (with_reducible first | exact HB.out | apply below_alloc | apply pw_below_drewN | apply below_drew1) | exact HB.out)⟩
                  · rw [if_neg c15] at H
                    obtain ⟨c15b0, c15b1⟩ := neB_ c15
                    have H' := Aside0.mk H
                    clear H
                    have p315 : 0 ≤ (x6_2 : Int) := dt_
                    have q315 : x6_2 < (l0.length : Int) := dt_
                    obtain ⟨ad315, e315, hx315_0, hx315_1, hx315_2, hx315_3, hx315_4⟩ := at_T52 HR0.out x6_2 p315 q315
                    cases e315
                    replace hx315_0 := cm_ HB hx315_0
                    replace hx315_1 := cm_ HB hx315_1
                    replace hx315_2 := cm_ HB hx315_2
                    replace hx315_3 := cm_ HB hx315_3
                    replace hx315_4 := cm_ HB hx315_4
                    replace p315 := eq_true p315
                    replace q315 := eq_true q315
                    go_wp2_with (first | ((with_reducible refine gate_callee (f := 40) rfl ?_); refine goesL_ (some 28) rfl rfl Try.func40 (by kernel_rfl) rfl #[.int .i64 ((rd_T52 l0 x6_2).f0)] rfl ga_ ?_; (with_reducible refine (expr_pushes.calls ((rd_T52 l0 x6_2).f0) true _ A13.out).mono ?_); rintro e w' ⟨rfl, ⟨nd, rfl⟩⟩; refine ⟨_, rfl, ?_⟩))
                    go_roundg k2
                    case measure => have := HJ2.out; have := HK2.out; omega
                    case rel => exact ⟨(wrap64 (x5_2 - 1)), (wrap64 (x6_2 - 1)), ra_, ra_, H', ⟨by have := HJ2.out; have := HK2.out; omega⟩, ⟨by repeat (first | (with_reducible first | exact HB.out | apply below_alloc | apply pw_below_drewN | apply below_drew1) | exact HB.out)⟩⟩
                · replace c14 := Bool.eq_false_iff.mpr c14
                  subst c14
                  have H1 : (if (wrap64 (x5_2 + 1)) = 0 then (some x6_2) else (expr_Part.l0 k2 l0 (wrap64 (x5_2 + 1)) (wrap64 (x6_2 - 1)))) = some r := by rw [if_neg (show ¬ (false = true) by decide)] at H; exact H
                  clear H
                  have H := H1
                  clear H1
                  by_cases c16 : (wrap64 (x5_2 + 1)) = 0
                  · rw [if_pos c16] at H
                    obtain ⟨c16b0, c16b1⟩ := eqB_ c16
                    clear c16
                    obtain rfl := Option.some.inj H
                    have p315 : 0 ≤ (x6_2 : Int) := dt_
                    have q315 : x6_2 < (l0.length : Int) := dt_
                    obtain ⟨ad315, e315, hx315_0, hx315_1, hx315_2, hx315_3, hx315_4⟩ := at_T52 HR0.out x6_2 p315 q315
                    cases e315
                    replace hx315_0 := cm_ HB hx315_0
                    replace hx315_1 := cm_ HB hx315_1
                    replace hx315_2 := cm_ HB hx315_2
                    replace hx315_3 := cm_ HB hx315_3
                    replace hx315_4 := cm_ HB hx315_4
                    replace p315 := eq_true p315
                    replace q315 := eq_true q315
                    go_wp2_with (first | ((with_reducible refine gate_callee (f := 40) rfl ?_); refine goesL_ (some 28) rfl rfl Try.func40 (by kernel_rfl) rfl #[.int .i64 ((rd_T52 l0 x6_2).f0)] rfl ga_ ?_; (with_reducible refine (expr_pushes.calls ((rd_T52 l0 x6_2).f0) false _ A13.out).mono ?_); rintro e w' ⟨rfl, ⟨nd, rfl⟩⟩; refine ⟨_, rfl, ?_⟩))
                    go_ret
                    exact ⟨by first | rfl | (simp [errW_none, errW_some] <;> rfl) | (simp [*, errW_none, errW_some] <;> rfl), by repeat (first | (with_reducible first | exact HB.out | apply below_alloc | apply pw_below_drewN | apply below_drew1) | exact HB.out)⟩
                  · rw [if_neg c16] at H
                    obtain ⟨c16b0, c16b1⟩ := neB_ c16
                    have H' := Aside0.mk H
                    clear H
                    have p315 : 0 ≤ (x6_2 : Int) := dt_
                    have q315 : x6_2 < (l0.length : Int) := dt_
                    obtain ⟨ad315, e315, hx315_0, hx315_1, hx315_2, hx315_3, hx315_4⟩ := at_T52 HR0.out x6_2 p315 q315
                    cases e315
                    replace hx315_0 := cm_ HB hx315_0
                    replace hx315_1 := cm_ HB hx315_1
                    replace hx315_2 := cm_ HB hx315_2
                    replace hx315_3 := cm_ HB hx315_3
                    replace hx315_4 := cm_ HB hx315_4
                    replace p315 := eq_true p315
                    replace q315 := eq_true q315
                    go_wp2_with (first | ((with_reducible refine gate_callee (f := 40) rfl ?_); refine goesL_ (some 28) rfl rfl Try.func40 (by kernel_rfl) rfl #[.int .i64 ((rd_T52 l0 x6_2).f0)] rfl ga_ ?_; (with_reducible refine (expr_pushes.calls ((rd_T52 l0 x6_2).f0) false _ A13.out).mono ?_); rintro e w' ⟨rfl, ⟨nd, rfl⟩⟩; refine ⟨_, rfl, ?_⟩))
                    go_roundg k2
                    case measure => have := HJ2.out; have := HK2.out; omega
                    case rel => exact ⟨(wrap64 (x5_2 + 1)), (wrap64 (x6_2 - 1)), ra_, ra_, H', ⟨by have := HJ2.out; have := HK2.out; omega⟩, ⟨by repeat (first | (with_reducible first | exact HB.out | apply below_alloc | apply pw_below_drewN | apply below_drew1) | exact HB.out)⟩⟩
              · rw [if_neg c12] at H
                exact absurd H (by simp)
            · rw [if_neg c11] at H
              exact absurd H (by simp)
end Go.Proofs.Ytconpnagoijacaa.P
end
section
namespace Go.Proofs.Ytconpnagoijacaa.P
open Go.RowKit Go.Proofs.YtconpnagoijacaaW.PrintWords Go.Proofs.YtconpnagoijacaaW.PrintLast Go.Proofs.YtconpnagoijacaaW.PrintMore
attribute [local go_sem] max2_int min2_int max_two min_two max_three min_three max_four min_four
set_option linter.unusedVariables false
set_option linter.unusedSimpArgs false
def constablelaw07_wakes.f (k : Nat)  : Option (Bool) := (some (([(⟨1, (⟨#[88]⟩ : ByteArray), (⟨0, 0, (⟨#[]⟩ : ByteArray)⟩ : S40)⟩ : S52), (⟨2, (⟨#[]⟩ : ByteArray), (⟨1, 2, (⟨#[]⟩ : ByteArray)⟩ : S40)⟩ : S52), (⟨5, (⟨#[]⟩ : ByteArray), (⟨0, 0, (⟨#[]⟩ : ByteArray)⟩ : S40)⟩ : S52)] : List (S52)) : List (S52))).bind fun y328 => ((expr_Eval.f k y328 (([(⟨(⟨#[88]⟩ : ByteArray), (⟨1, 3, (⟨#[]⟩ : ByteArray)⟩ : S40)⟩ : S62)] : List (S62)))).bind fun bt334 => ((expr_Eval.f k y328 ([] : List (S62))).bind fun bt339 => (if bt334.2.2.2 = 0 then (if bt334.2.1 = 6 then (if bt339.2.2.2 = 5 then ((expr_Vars.f k y328).bind fun t344 => (if (t344.length : Int) = 1 then ((expr_Part.f k y328 2).bind fun t347 => (if t347 = 0 then ((expr_Part.f k y328 1).bind fun t348 => (if t348 = 1 then ((expr_Check.f k ([] : List (S52))).bind fun t349 => (some (t349 == 1))) else (some false))) else (some false))) else (some false))) else (some false)) else (some false)) else (some false))))
theorem constablelaw07_wakes.mono : ∀ k, LeO (constablelaw07_wakes.f k ) (constablelaw07_wakes.f (k + 1) ) := by
  intro  k
  unfold constablelaw07_wakes.f
  repeat' first
      | (with_reducible exact expr_Check.mono _ _)
      | (with_reducible exact expr_Eval.mono _ _ _)
      | (with_reducible exact expr_Part.mono _ _ _)
      | (with_reducible exact expr_Vars.mono _ _)
      | (with_reducible exact LeO.refl _)
      | (with_reducible exact LeO.none _)
      | (with_reducible refine LeO.ite ?_ ?_)
      | (with_reducible refine LeO.bind ?_ (fun _ => ?_))
      | exact expr_Check.mono _ _
      | exact expr_Eval.mono _ _ _
      | exact expr_Part.mono _ _ _
      | exact expr_Vars.mono _ _
      | exact LeO.none _
      | refine LeO.ite ?_ ?_
      | refine LeO.bind ?_ (fun _ => ?_)
set_option maxHeartbeats 8000000 in
set_option maxRecDepth 100000 in
theorem constablelaw07_wakes.calls (k : Nat)  (r : Bool) (w : World) (h : constablelaw07_wakes.f k  = some r) (hr_ : r = true) :
    Calls Try.prog 32 #[] w fun e w' => e = .returned (.bool r) ∧ Below w.heap.size w w' := by
  have hu40 := Try.underlying40
  have hu52 := Try.underlying52
  have hu62 := Try.underlying62
  have HB := Aside0.mk (Below.refl w.heap.size w)
  have H : ((some (([(⟨1, (⟨#[88]⟩ : ByteArray), (⟨0, 0, (⟨#[]⟩ : ByteArray)⟩ : S40)⟩ : S52), (⟨2, (⟨#[]⟩ : ByteArray), (⟨1, 2, (⟨#[]⟩ : ByteArray)⟩ : S40)⟩ : S52), (⟨5, (⟨#[]⟩ : ByteArray), (⟨0, 0, (⟨#[]⟩ : ByteArray)⟩ : S40)⟩ : S52)] : List (S52)) : List (S52))).bind fun y328 => ((expr_Eval.f k y328 (([(⟨(⟨#[88]⟩ : ByteArray), (⟨1, 3, (⟨#[]⟩ : ByteArray)⟩ : S40)⟩ : S62)] : List (S62)))).bind fun bt334 => ((expr_Eval.f k y328 ([] : List (S62))).bind fun bt339 => (if bt334.2.2.2 = 0 then (if bt334.2.1 = 6 then (if bt339.2.2.2 = 5 then ((expr_Vars.f k y328).bind fun t344 => (if (t344.length : Int) = 1 then ((expr_Part.f k y328 2).bind fun t347 => (if t347 = 0 then ((expr_Part.f k y328 1).bind fun t348 => (if t348 = 1 then ((expr_Check.f k ([] : List (S52))).bind fun t349 => (some (t349 == 1))) else (some false))) else (some false))) else (some false))) else (some false)) else (some false)) else (some false))))) = some r := h
  clear h
  have HR_ := Aside0.mk hr_
  clear hr_
  obtain ⟨y328, hy328⟩ : ∃ y_ : List (S52), y_ = (([(⟨1, (⟨#[88]⟩ : ByteArray), (⟨0, 0, (⟨#[]⟩ : ByteArray)⟩ : S40)⟩ : S52), (⟨2, (⟨#[]⟩ : ByteArray), (⟨1, 2, (⟨#[]⟩ : ByteArray)⟩ : S40)⟩ : S52), (⟨5, (⟨#[]⟩ : ByteArray), (⟨0, 0, (⟨#[]⟩ : ByteArray)⟩ : S40)⟩ : S52)] : List (S52))) := ⟨_, rfl⟩
  replace H : ((expr_Eval.f k y328 (([(⟨(⟨#[88]⟩ : ByteArray), (⟨1, 3, (⟨#[]⟩ : ByteArray)⟩ : S40)⟩ : S62)] : List (S62)))).bind fun bt334 => ((expr_Eval.f k y328 ([] : List (S62))).bind fun bt339 => (if bt334.2.2.2 = 0 then (if bt334.2.1 = 6 then (if bt339.2.2.2 = 5 then ((expr_Vars.f k y328).bind fun t344 => (if (t344.length : Int) = 1 then ((expr_Part.f k y328 2).bind fun t347 => (if t347 = 0 then ((expr_Part.f k y328 1).bind fun t348 => (if t348 = 1 then ((expr_Check.f k ([] : List (S52))).bind fun t349 => (some (t349 == 1))) else (some false))) else (some false))) else (some false))) else (some false)) else (some false)) else (some false)))) = some r := by first | (rw [hy328]; with_reducible exact H) | (have H2_ := (Option.bind_some _ _).symm.trans H; rw [hy328]; with_reducible exact H2_) | (have H2_ := (Option.bind_some _ _).symm.trans H; with_reducible exact H2_) | with_reducible exact H | (rw [hy328]; exact H) | exact H
  have Ny328 := Aside0.mk hy328
  clear hy328
  obtain ⟨y331, hy331⟩ : ∃ y_ : List (S62), y_ = (([(⟨(⟨#[88]⟩ : ByteArray), (⟨1, 3, (⟨#[]⟩ : ByteArray)⟩ : S40)⟩ : S62)] : List (S62))) := ⟨_, rfl⟩
  replace H : ((expr_Eval.f k y328 y331).bind fun bt334 => ((expr_Eval.f k y328 ([] : List (S62))).bind fun bt339 => (if bt334.2.2.2 = 0 then (if bt334.2.1 = 6 then (if bt339.2.2.2 = 5 then ((expr_Vars.f k y328).bind fun t344 => (if (t344.length : Int) = 1 then ((expr_Part.f k y328 2).bind fun t347 => (if t347 = 0 then ((expr_Part.f k y328 1).bind fun t348 => (if t348 = 1 then ((expr_Check.f k ([] : List (S52))).bind fun t349 => (some (t349 == 1))) else (some false))) else (some false))) else (some false))) else (some false)) else (some false)) else (some false)))) = some r := by first | (rw [hy331]; with_reducible exact H) | (have H2_ := (Option.bind_some _ _).symm.trans H; rw [hy331]; with_reducible exact H2_) | (have H2_ := (Option.bind_some _ _).symm.trans H; with_reducible exact H2_) | with_reducible exact H | (rw [hy331]; exact H) | exact H
  have Ny331 := Aside0.mk hy331
  clear hy331
  replace H := Option.bind_eq_some_iff.mp H
  obtain ⟨⟨t334, t335, t336, t337⟩, A10, H⟩ := H
  replace H : ((expr_Eval.f k y328 ([] : List (S62))).bind fun bt339 => (if t337 = 0 then (if t335 = 6 then (if bt339.2.2.2 = 5 then ((expr_Vars.f k y328).bind fun t344 => (if (t344.length : Int) = 1 then ((expr_Part.f k y328 2).bind fun t347 => (if t347 = 0 then ((expr_Part.f k y328 1).bind fun t348 => (if t348 = 1 then ((expr_Check.f k ([] : List (S52))).bind fun t349 => (some (t349 == 1))) else (some false))) else (some false))) else (some false))) else (some false)) else (some false)) else (some false))) = some r := H
  have A1 := Aside0.mk A10
  clear A10
  replace H := Option.bind_eq_some_iff.mp H
  obtain ⟨⟨t339, t340, t341, t342⟩, A20, H⟩ := H
  replace H : (if t337 = 0 then (if t335 = 6 then (if t342 = 5 then ((expr_Vars.f k y328).bind fun t344 => (if (t344.length : Int) = 1 then ((expr_Part.f k y328 2).bind fun t347 => (if t347 = 0 then ((expr_Part.f k y328 1).bind fun t348 => (if t348 = 1 then ((expr_Check.f k ([] : List (S52))).bind fun t349 => (some (t349 == 1))) else (some false))) else (some false))) else (some false))) else (some false)) else (some false)) else (some false)) = some r := H
  have A2 := Aside0.mk A20
  clear A20
  by_cases c3 : t337 = 0
  · rw [if_pos c3] at H
    obtain ⟨c3b0, c3b1⟩ := eqB_ c3
    clear c3
    by_cases c4 : t335 = 6
    · rw [if_pos c4] at H
      obtain ⟨c4b0, c4b1⟩ := eqB_ c4
      clear c4
      by_cases c5 : t342 = 5
      · rw [if_pos c5] at H
        obtain ⟨c5b0, c5b1⟩ := eqB_ c5
        clear c5
        replace H := Option.bind_eq_some_iff.mp H
        obtain ⟨t344, A60, H⟩ := H
        replace H : (if (t344.length : Int) = 1 then ((expr_Part.f k y328 2).bind fun t347 => (if t347 = 0 then ((expr_Part.f k y328 1).bind fun t348 => (if t348 = 1 then ((expr_Check.f k ([] : List (S52))).bind fun t349 => (some (t349 == 1))) else (some false))) else (some false))) else (some false)) = some r := H
        have A6 := Aside0.mk A60
        clear A60
        by_cases c7 : (t344.length : Int) = 1
        · rw [if_pos c7] at H
          obtain ⟨c7b0, c7b1⟩ := eqB_ c7
          clear c7
          replace H := Option.bind_eq_some_iff.mp H
          obtain ⟨t347, A80, H⟩ := H
          replace H : (if t347 = 0 then ((expr_Part.f k y328 1).bind fun t348 => (if t348 = 1 then ((expr_Check.f k ([] : List (S52))).bind fun t349 => (some (t349 == 1))) else (some false))) else (some false)) = some r := H
          have A8 := Aside0.mk A80
          clear A80
          by_cases c9 : t347 = 0
          · rw [if_pos c9] at H
            obtain ⟨c9b0, c9b1⟩ := eqB_ c9
            clear c9
            replace H := Option.bind_eq_some_iff.mp H
            obtain ⟨t348, A100, H⟩ := H
            replace H : (if t348 = 1 then ((expr_Check.f k ([] : List (S52))).bind fun t349 => (some (t349 == 1))) else (some false)) = some r := H
            have A10 := Aside0.mk A100
            clear A100
            by_cases c11 : t348 = 1
            · rw [if_pos c11] at H
              obtain ⟨c11b0, c11b1⟩ := eqB_ c11
              clear c11
              replace H := Option.bind_eq_some_iff.mp H
              obtain ⟨t349, A120, H⟩ := H
              replace H : (some (t349 == 1)) = some r := H
              have A12 := Aside0.mk A120
              clear A120
              obtain rfl := Option.some.inj H
              go_enter Try.func32, Try.ntmps32
              go_wp2_with (first | ((with_reducible refine gate_dst (N := 1) rfl ?_); (try (refine gate_guard (by rfl) ?_; dsimp only)); refine box_event ?hg (N := 1) ?hd (cs := #[.int .i64 0, .int .i64 0, .string (⟨#[]⟩ : ByteArray)]) (t := 40) ?hr ?_; (case hd => rfl); (case hg => rfl); (case hr => first | (go_simp; done) | (go_simp; rfl)); intro gb326 hg w13 hbox hb; have n0_ := bs_ (be_ HB) hb; have n1_ := Aside0.mk (hbox); have n2_ := gs_ hg (be_ HB); have n3_ := gs_ hg (be_ HB); clear HB; have HB := n0_; have BK326 := n1_; have GW326 := n2_; have GE326 := n3_; clear n0_ n1_ n2_ n3_; clear hb hbox hg) | ((with_reducible refine gate_dst (N := 2) rfl ?_); (try (refine gate_guard (by rfl) ?_; dsimp only)); refine box_event ?hg (N := 2) ?hd (cs := #[.int .i64 0, .int .i64 0, .string (⟨#[]⟩ : ByteArray)]) (t := 40) ?hr ?_; (case hd => rfl); (case hg => rfl); (case hr => first | (go_simp; done) | (go_simp; rfl)); intro gb327 hg w14 hbox hb; have n0_ := bb_ (bu_ BK326) hb; have n1_ := bs_ (be_ HB) hb; have n2_ := Aside0.mk (hbox); have n3_ := gs_ hg (be_ HB); have n4_ := gs_ hg (be_ HB); have n5_ := nl_ hg (bu_ BK326); have n6_ := ng_ hg (bu_ BK326); clear BK326; clear HB; have BK326 := n0_; have HB := n1_; have BK327 := n2_; have GW327 := n3_; have GE327 := n4_; have NB326_327 := n5_; have NB327_326 := n6_; clear n0_ n1_ n2_ n3_ n4_ n5_ n6_; clear hb hbox hg; have hnb15 := NB326_327.out; have hnc15 := NB327_326.out; have hcz16_0 : w14.cell? ⟨gb326, 0, none⟩ = some (.int .i64 0) := (blk_cell BK326.out 0).trans rfl; have hcz16_1 : w14.cell? ⟨gb326, 1, none⟩ = some (.int .i64 0) := (blk_cell BK326.out 1).trans rfl; have hcz16_2 : w14.cell? ⟨gb326, 2, none⟩ = some (.string (⟨#[]⟩ : ByteArray)) := (blk_cell BK326.out 2).trans rfl; have hfz16_0 := blk_frozen BK326.out 0; have hfz16_1 := blk_frozen BK326.out 1; have hfz16_2 := blk_frozen BK326.out 2; have hcz17_0 : w14.cell? ⟨gb327, 0, none⟩ = some (.int .i64 0) := (blk_cell BK327.out 0).trans rfl; have hcz17_1 : w14.cell? ⟨gb327, 1, none⟩ = some (.int .i64 0) := (blk_cell BK327.out 1).trans rfl; have hcz17_2 : w14.cell? ⟨gb327, 2, none⟩ = some (.string (⟨#[]⟩ : ByteArray)) := (blk_cell BK327.out 2).trans rfl; have hfz17_0 := blk_frozen BK327.out 0; have hfz17_1 := blk_frozen BK327.out 1; have hfz17_2 := blk_frozen BK327.out 2) | ((with_reducible refine gate_dst (N := 14) rfl ?_); (try (refine gate_guard (by rfl) ?_; dsimp only)); refine Kd.R_lit k52 _ 52 ?hg (N := 14) ?hd (xs := ([(⟨1, (⟨#[88]⟩ : ByteArray), (⟨0, 0, (⟨#[]⟩ : ByteArray)⟩ : S40)⟩ : S52), (⟨2, (⟨#[]⟩ : ByteArray), (⟨1, 2, (⟨#[]⟩ : ByteArray)⟩ : S40)⟩ : S52), (⟨5, (⟨#[]⟩ : ByteArray), (⟨0, 0, (⟨#[]⟩ : ByteArray)⟩ : S40)⟩ : S52)] : List (S52))) (inner := [.int .i64 1, .string (⟨#[88]⟩ : ByteArray), .int .i64 0, .int .i64 0, .string (⟨#[]⟩ : ByteArray), .int .i64 2, .string (⟨#[]⟩ : ByteArray), .int .i64 1, .int .i64 2, .string (⟨#[]⟩ : ByteArray), .int .i64 5, .string (⟨#[]⟩ : ByteArray), .int .i64 0, .int .i64 0, .string (⟨#[]⟩ : ByteArray)]) (ok := fun _ => True) (okp := fun _ => True) ?hr ?hp (fun _ hk => hk) trivial (Below.refl _ _) (Nat.le_refl _) (by simp) ?_; (case hd => rfl); (case hg => rfl); (case hr => first | (go_simp; done) | (go_simp; rfl)); (case hp => exact (Reps.c5 (show Kd.M k52 _ _ _ (⟨1, (⟨#[88]⟩ : ByteArray), (⟨0, 0, (⟨#[]⟩ : ByteArray)⟩ : S40)⟩ : S52) [.int .i64 1, .string (⟨#[88]⟩ : ByteArray), .int .i64 0, .int .i64 0, .string (⟨#[]⟩ : ByteArray)] from (k52_mkM _ _ _ (⟨1, (⟨#[88]⟩ : ByteArray), (⟨0, 0, (⟨#[]⟩ : ByteArray)⟩ : S40)⟩ : S52) )) (Reps.c5 (show Kd.M k52 _ _ _ (⟨2, (⟨#[]⟩ : ByteArray), (⟨1, 2, (⟨#[]⟩ : ByteArray)⟩ : S40)⟩ : S52) [.int .i64 2, .string (⟨#[]⟩ : ByteArray), .int .i64 1, .int .i64 2, .string (⟨#[]⟩ : ByteArray)] from (k52_mkM _ _ _ (⟨2, (⟨#[]⟩ : ByteArray), (⟨1, 2, (⟨#[]⟩ : ByteArray)⟩ : S40)⟩ : S52) )) (Reps.c5 (show Kd.M k52 _ _ _ (⟨5, (⟨#[]⟩ : ByteArray), (⟨0, 0, (⟨#[]⟩ : ByteArray)⟩ : S40)⟩ : S52) [.int .i64 5, .string (⟨#[]⟩ : ByteArray), .int .i64 0, .int .i64 0, .string (⟨#[]⟩ : ByteArray)] from (k52_mkM _ _ _ (⟨5, (⟨#[]⟩ : ByteArray), (⟨0, 0, (⟨#[]⟩ : ByteArray)⟩ : S40)⟩ : S52) )) (Reps.none _ _))))); intro v329 w18 ho19 hb hg_ hnew_; clear hg_ hnew_; (first | rw [← Ny328.out] at ho19 | (simp only [Int.reduceToNat] at ho19; rw [← Ny328.out] at ho19)); have n0_ := Aside0.mk (Kd.R_lower ho19 (below_size (be_ HB))); have n1_ := Aside0.mk (blk_below (o := .cells #[.int .i64 1, .int .i64 2, .string (⟨#[]⟩ : ByteArray)] 40 (0, 0)) (bp_ BK326) hb); have n2_ := Aside0.mk (blk_below (o := .cells #[.int .i64 1, .int .i64 3, .string (⟨#[]⟩ : ByteArray)] 40 (0, 0)) (bp_ BK327) hb); have n3_ := bs_ (be_ HB) hb; clear BK326; clear BK327; clear HB; have HO330 := n0_; have BK326 := n1_; have BK327 := n2_; have HB := n3_; clear n0_ n1_ n2_ n3_; clear hb ho19; have hcz20_0 : w18.cell? ⟨gb327, 0, none⟩ = some (.int .i64 1) := (blk_cell BK327.out 0).trans rfl; have hcz20_1 : w18.cell? ⟨gb327, 1, none⟩ = some (.int .i64 3) := (blk_cell BK327.out 1).trans rfl; have hcz20_2 : w18.cell? ⟨gb327, 2, none⟩ = some (.string (⟨#[]⟩ : ByteArray)) := (blk_cell BK327.out 2).trans rfl; have hfz20_0 := blk_frozen BK327.out 0; have hfz20_1 := blk_frozen BK327.out 1; have hfz20_2 := blk_frozen BK327.out 2) | ((with_reducible refine gate_dst (N := 19) rfl ?_); (try (refine gate_guard (by rfl) ?_; dsimp only)); refine Kd.R_lit k62 _ 62 ?hg (N := 19) ?hd (xs := ([(⟨(⟨#[88]⟩ : ByteArray), (⟨1, 3, (⟨#[]⟩ : ByteArray)⟩ : S40)⟩ : S62)] : List (S62))) (inner := [.string (⟨#[88]⟩ : ByteArray), .int .i64 1, .int .i64 3, .string (⟨#[]⟩ : ByteArray)]) (ok := fun _ => True) (okp := fun _ => True) ?hr ?hp (fun _ hk => hk) trivial (Below.refl _ _) (Nat.le_refl _) (by simp) ?_; (case hd => rfl); (case hg => rfl); (case hr => first | (go_simp; done) | (go_simp; rfl)); (case hp => exact (Reps.c4 (show Kd.M k62 _ _ _ (⟨(⟨#[88]⟩ : ByteArray), (⟨1, 3, (⟨#[]⟩ : ByteArray)⟩ : S40)⟩ : S62) [.string (⟨#[88]⟩ : ByteArray), .int .i64 1, .int .i64 3, .string (⟨#[]⟩ : ByteArray)] from (k62_mkM _ _ _ (⟨(⟨#[88]⟩ : ByteArray), (⟨1, 3, (⟨#[]⟩ : ByteArray)⟩ : S40)⟩ : S62) )) (Reps.none _ _))); intro v332 w21 ho22 hb hg_ hnew_; clear hg_ hnew_; (first | rw [← Ny331.out] at ho22 | (simp only [Int.reduceToNat] at ho22; rw [← Ny331.out] at ho22)); have n0_ := kb_ (ku_ HO330.out) hb; have n1_ := Aside0.mk (Kd.R_lower ho22 (below_size (be_ HB))); have n2_ := bb_ (bu_ BK326) hb; have n3_ := bb_ (bu_ BK327) hb; have n4_ := bs_ (be_ HB) hb; clear HO330; clear BK326; clear BK327; clear HB; have HO330 := n0_; have HO333 := n1_; have BK326 := n2_; have BK327 := n3_; have HB := n4_; clear n0_ n1_ n2_ n3_ n4_; clear hb ho22; obtain ⟨Ao23, co23, eo23⟩ := Kd.R_slice HO330.out; subst eo23; obtain ⟨Ao24, co24, eo24⟩ := Kd.R_slice HO333.out; subst eo24) | ((with_reducible refine gate_callee (f := 21) rfl ?_); refine goesL_ (some 20) rfl rfl Try.func21 (by kernel_rfl) rfl #[.slice Ao23 y328.length co23, .slice Ao24 y331.length co24] rfl ga_ ?_; (with_reducible refine (expr_Eval.calls k _ _ y328 _ _ y331 t334 t335 t336 t337 _ ?side1 ?side2 ?side3 ?side4 A1.out).mono ?_); (case side1 => repeat (first | exact (Kd.R_reads' HO330.out).2.2 | (with_reducible refine Kd.C_alloc ?_ _) | (with_reducible refine Kd.C_drewN ?_ _) | (with_reducible refine Kd.C_drew ?_))); (case side2 => exact (Kd.R_reads' HO330.out).2.1); (case side3 => repeat (first | exact (Kd.R_reads' HO333.out).2.2 | (with_reducible refine Kd.C_alloc ?_ _) | (with_reducible refine Kd.C_drewN ?_ _) | (with_reducible refine Kd.C_drew ?_))); (case side4 => exact (Kd.R_reads' HO333.out).2.1); rintro e w25 ⟨rfl, hb⟩; refine ⟨_, rfl, ?_⟩; have n0_ := kb_ (ku_ HO330.out) hb; have n1_ := kb_ (ku_ HO333.out) hb; have n2_ := bb_ (bu_ BK326) hb; have n3_ := bb_ (bu_ BK327) hb; have n4_ := bs_ (be_ HB) hb; clear HO330; clear HO333; clear BK326; clear BK327; clear HB; have HO330 := n0_; have HO333 := n1_; have BK326 := n2_; have BK327 := n3_; have HB := n4_; clear n0_ n1_ n2_ n3_ n4_; (try clear hb); (try clear hb2); (try clear hk); (try clear hi)) | ((with_reducible refine gate_dst (N := 4) rfl ?_); (try (refine gate_guard (by rfl) ?_; dsimp only)); refine box_event ?hg (N := 4) ?hd (cs := #[.int .i64 0, .int .i64 0, .string (⟨#[]⟩ : ByteArray)]) (t := 40) ?hr ?_; (case hd => rfl); (case hg => rfl); (case hr => first | (go_simp; done) | (go_simp; rfl)); intro gb338 hg w26 hbox hb; have n0_ := kb_ (ku_ HO330.out) hb; have n1_ := kb_ (ku_ HO333.out) hb; have n2_ := bb_ (bu_ BK326) hb; have n3_ := bb_ (bu_ BK327) hb; have n4_ := bs_ (be_ HB) hb; have n5_ := Aside0.mk (hbox); have n6_ := gs_ hg (be_ HB); have n7_ := gs_ hg (be_ HB); have n8_ := nl_ hg (bu_ BK326); have n9_ := ng_ hg (bu_ BK326); have n10_ := nl_ hg (bu_ BK327); have n11_ := ng_ hg (bu_ BK327); clear HO330; clear HO333; clear BK326; clear BK327; clear HB; have HO330 := n0_; have HO333 := n1_; have BK326 := n2_; have BK327 := n3_; have HB := n4_; have BK338 := n5_; have GW338 := n6_; have GE338 := n7_; have NB326_338 := n8_; have NB338_326 := n9_; have NB327_338 := n10_; have NB338_327 := n11_; clear n0_ n1_ n2_ n3_ n4_ n5_ n6_ n7_ n8_ n9_ n10_ n11_; clear hb hbox hg; have hnb27 := NB338_326.out; have hnc27 := NB326_338.out; have hnb28 := NB338_327.out; have hnc28 := NB327_338.out; have hcz29_0 : w26.cell? ⟨gb338, 0, none⟩ = some (.int .i64 0) := (blk_cell BK338.out 0).trans rfl; have hcz29_1 : w26.cell? ⟨gb338, 1, none⟩ = some (.int .i64 0) := (blk_cell BK338.out 1).trans rfl; have hcz29_2 : w26.cell? ⟨gb338, 2, none⟩ = some (.string (⟨#[]⟩ : ByteArray)) := (blk_cell BK338.out 2).trans rfl; have hfz29_0 := blk_frozen BK338.out 0; have hfz29_1 := blk_frozen BK338.out 1; have hfz29_2 := blk_frozen BK338.out 2) | ((with_reducible refine gate_callee (f := 21) rfl ?_); refine goesL_ (some 25) rfl rfl Try.func21 (by kernel_rfl) rfl #[.slice Ao23 y328.length co23, .slice none 0 0] rfl ga_ ?_; (refine (expr_Eval.calls k _ _ y328 _ _ ([] : List (S62)) t339 t340 t341 t342 _ ?side1 ?side2 ?side3 ?side4 A2.out).mono ?_); (case side1 => refine (Kd.R_reads' (e := 52) (base := w.heap.size) (ok := fun k_ => True) (n := y328.length) (c := co23) ?_).2.2; exact (ku_ (Kd.R_mono (Kd.R_far (p := ⟨gb338, 2, none⟩) (Kd.R_far (p := ⟨gb338, 1, none⟩) (Kd.R_far (p := ⟨gb338, 0, none⟩) (Kd.R_types HO330.out BK338.out (by decide)) (fun _ hk => hk.2) (.int .i64 t334)) (fun _ hk => hk.2) (.int .i64 t335)) (fun _ hk => hk.2) (.string t336)) (fun _ h_ => h_.1)))); (case side2 => exact (Kd.R_reads' HO330.out).2.1); (case side3 => exact Kd.C_nil _ _); (case side4 => exact Nat.le_refl _); rintro e w30 ⟨rfl, hb⟩; refine ⟨_, rfl, ?_⟩; have n0_ := Aside0.mk (Kd.R_below (ku_ (Kd.R_mono (Kd.R_far (p := ⟨gb338, 2, none⟩) (Kd.R_far (p := ⟨gb338, 1, none⟩) (Kd.R_far (p := ⟨gb338, 0, none⟩) (Kd.R_types HO330.out BK338.out (by decide)) (fun _ hk => hk.2) (.int .i64 t334)) (fun _ hk => hk.2) (.int .i64 t335)) (fun _ hk => hk.2) (.string t336)) (fun _ h_ => h_.1))) hb); have n1_ := Aside0.mk (Kd.R_below (ku_ (Kd.R_mono (Kd.R_far (p := ⟨gb338, 2, none⟩) (Kd.R_far (p := ⟨gb338, 1, none⟩) (Kd.R_far (p := ⟨gb338, 0, none⟩) (Kd.R_types HO333.out BK338.out (by decide)) (fun _ hk => hk.2) (.int .i64 t334)) (fun _ hk => hk.2) (.int .i64 t335)) (fun _ hk => hk.2) (.string t336)) (fun _ h_ => h_.1))) hb); have n2_ := bb_ (bu_ BK326) hb; have n3_ := bb_ (bu_ BK327) hb; have n4_ := Aside0.mk (blk_below (o := .cells #[.int .i64 t334, .int .i64 t335, .string t336] 40 (0, 0)) (bp_ BK338) hb); have n5_ := bs_ (be_ HB) hb; clear HO330; clear HO333; clear BK326; clear BK327; clear BK338; clear HB; have HO330 := n0_; have HO333 := n1_; have BK326 := n2_; have BK327 := n3_; have BK338 := n4_; have HB := n5_; clear n0_ n1_ n2_ n3_ n4_ n5_; (try clear hb); (try clear hb2); (try clear hk); (try clear hi)) | ((with_reducible refine gate_dst (N := 6) rfl ?_); (try (refine gate_guard (by rfl) ?_; dsimp only)); refine box_event ?hg (N := 6) ?hd (cs := #[.int .i64 0, .int .i64 0, .string (⟨#[]⟩ : ByteArray)]) (t := 40) ?hr ?_; (case hd => rfl); (case hg => rfl); (case hr => first | (go_simp; done) | (go_simp; rfl)); intro gb343 hg w31 hbox hb; have n0_ := kb_ (ku_ HO330.out) hb; have n1_ := kb_ (ku_ HO333.out) hb; have n2_ := bb_ (bu_ BK326) hb; have n3_ := bb_ (bu_ BK327) hb; have n4_ := bb_ (bu_ BK338) hb; have n5_ := bs_ (be_ HB) hb; have n6_ := Aside0.mk (hbox); have n7_ := gs_ hg (be_ HB); have n8_ := gs_ hg (be_ HB); have n9_ := nl_ hg (bu_ BK326); have n10_ := ng_ hg (bu_ BK326); have n11_ := nl_ hg (bu_ BK327); have n12_ := ng_ hg (bu_ BK327); have n13_ := nl_ hg (bu_ BK338); have n14_ := ng_ hg (bu_ BK338); clear HO330; clear HO333; clear BK326; clear BK327; clear BK338; clear HB; have HO330 := n0_; have HO333 := n1_; have BK326 := n2_; have BK327 := n3_; have BK338 := n4_; have HB := n5_; have BK343 := n6_; have GW343 := n7_; have GE343 := n8_; have NB326_343 := n9_; have NB343_326 := n10_; have NB327_343 := n11_; have NB343_327 := n12_; have NB338_343 := n13_; have NB343_338 := n14_; clear n0_ n1_ n2_ n3_ n4_ n5_ n6_ n7_ n8_ n9_ n10_ n11_ n12_ n13_ n14_; clear hb hbox hg; have hnb32 := NB343_326.out; have hnc32 := NB326_343.out; have hnb33 := NB343_327.out; have hnc33 := NB327_343.out; have hnb34 := NB343_338.out; have hnc34 := NB338_343.out; have hcz35_0 : w31.cell? ⟨gb343, 0, none⟩ = some (.int .i64 0) := (blk_cell BK343.out 0).trans rfl; have hcz35_1 : w31.cell? ⟨gb343, 1, none⟩ = some (.int .i64 0) := (blk_cell BK343.out 1).trans rfl; have hcz35_2 : w31.cell? ⟨gb343, 2, none⟩ = some (.string (⟨#[]⟩ : ByteArray)) := (blk_cell BK343.out 2).trans rfl; have hfz35_0 := blk_frozen BK343.out 0; have hfz35_1 := blk_frozen BK343.out 1; have hfz35_2 := blk_frozen BK343.out 2; have hcz36_0 : w31.cell? ⟨gb338, 0, none⟩ = some (.int .i64 t334) := (blk_cell BK338.out 0).trans rfl; have hcz36_1 : w31.cell? ⟨gb338, 1, none⟩ = some (.int .i64 t335) := (blk_cell BK338.out 1).trans rfl; have hcz36_2 : w31.cell? ⟨gb338, 2, none⟩ = some (.string t336) := (blk_cell BK338.out 2).trans rfl; have hfz36_0 := blk_frozen BK338.out 0; have hfz36_1 := blk_frozen BK338.out 1; have hfz36_2 := blk_frozen BK338.out 2) | (go_at_call 23; (with_reducible refine (expr_Vars.calls k _ _ y328 t344 _ ?side1 ?side2 A6.out).mono ?_); (case side1 => refine (Kd.R_reads' (e := 52) (base := w.heap.size) (ok := fun k_ => True) (n := y328.length) (c := co23) ?_).2.2; exact (ku_ (Kd.R_mono (Kd.R_far (p := ⟨gb343, 2, none⟩) (Kd.R_far (p := ⟨gb343, 1, none⟩) (Kd.R_far (p := ⟨gb343, 0, none⟩) (Kd.R_types HO330.out BK343.out (by decide)) (fun _ hk => hk.2) (.int .i64 t339)) (fun _ hk => hk.2) (.int .i64 t340)) (fun _ hk => hk.2) (.string t341)) (fun _ h_ => h_.1)))); (case side2 => exact (Kd.R_reads' HO330.out).2.1); rintro e w37 ⟨v345, rfl, ho0, hb⟩; have n0_ := Aside0.mk (Kd.R_below (ku_ (Kd.R_mono (Kd.R_far (p := ⟨gb343, 2, none⟩) (Kd.R_far (p := ⟨gb343, 1, none⟩) (Kd.R_far (p := ⟨gb343, 0, none⟩) (Kd.R_types HO330.out BK343.out (by decide)) (fun _ hk => hk.2) (.int .i64 t339)) (fun _ hk => hk.2) (.int .i64 t340)) (fun _ hk => hk.2) (.string t341)) (fun _ h_ => h_.1))) hb); have n1_ := Aside0.mk (Kd.R_below (ku_ (Kd.R_mono (Kd.R_far (p := ⟨gb343, 2, none⟩) (Kd.R_far (p := ⟨gb343, 1, none⟩) (Kd.R_far (p := ⟨gb343, 0, none⟩) (Kd.R_types HO333.out BK343.out (by decide)) (fun _ hk => hk.2) (.int .i64 t339)) (fun _ hk => hk.2) (.int .i64 t340)) (fun _ hk => hk.2) (.string t341)) (fun _ h_ => h_.1))) hb); have n2_ := Aside0.mk (Kd.R_lower ho0 (below_size (be_ HB))); have n3_ := bb_ (bu_ BK326) hb; have n4_ := bb_ (bu_ BK327) hb; have n5_ := bb_ (bu_ BK338) hb; have n6_ := Aside0.mk (blk_below (o := .cells #[.int .i64 t339, .int .i64 t340, .string t341] 40 (0, 0)) (bp_ BK343) hb); have n7_ := bs_ (be_ HB) hb; clear HO330; clear HO333; clear BK326; clear BK327; clear BK338; clear BK343; clear HB; have HO330 := n0_; have HO333 := n1_; have HO346 := n2_; have BK326 := n3_; have BK327 := n4_; have BK338 := n5_; have BK343 := n6_; have HB := n7_; clear n0_ n1_ n2_ n3_ n4_ n5_ n6_ n7_; (try clear hb); (try clear hb2); (try clear hk); (try clear hi); (try clear ho0); obtain ⟨Ao38, co38, eo38⟩ := Kd.R_slice HO346.out; subst eo38) | (go_at_call 30; (with_reducible refine (expr_Part.calls k _ _ y328 2 t347 _ ?side1 ?side2 A8.out).mono ?_); (case side1 => repeat (first | exact (Kd.R_reads' HO330.out).2.2 | (with_reducible refine Kd.C_alloc ?_ _) | (with_reducible refine Kd.C_drewN ?_ _) | (with_reducible refine Kd.C_drew ?_))); (case side2 => exact (Kd.R_reads' HO330.out).2.1); rintro e w39 ⟨rfl, hb⟩; have n0_ := kb_ (ku_ HO330.out) hb; have n1_ := kb_ (ku_ HO333.out) hb; have n2_ := kb_ (ku_ HO346.out) hb; have n3_ := bb_ (bu_ BK326) hb; have n4_ := bb_ (bu_ BK327) hb; have n5_ := bb_ (bu_ BK338) hb; have n6_ := bb_ (bu_ BK343) hb; have n7_ := bs_ (be_ HB) hb; clear HO330; clear HO333; clear HO346; clear BK326; clear BK327; clear BK338; clear BK343; clear HB; have HO330 := n0_; have HO333 := n1_; have HO346 := n2_; have BK326 := n3_; have BK327 := n4_; have BK338 := n5_; have BK343 := n6_; have HB := n7_; clear n0_ n1_ n2_ n3_ n4_ n5_ n6_ n7_; (try clear hb); (try clear hb2); (try clear hk); (try clear hi)) | (go_at_call 30; (with_reducible refine (expr_Part.calls k _ _ y328 1 t348 _ ?side1 ?side2 A10.out).mono ?_); (case side1 => repeat (first | exact (Kd.R_reads' HO330.out).2.2 | (with_reducible refine Kd.C_alloc ?_ _) | (with_reducible refine Kd.C_drewN ?_ _) | (with_reducible refine Kd.C_drew ?_))); (case side2 => exact (Kd.R_reads' HO330.out).2.1); rintro e w40 ⟨rfl, hb⟩; have n0_ := kb_ (ku_ HO330.out) hb; have n1_ := kb_ (ku_ HO333.out) hb; have n2_ := kb_ (ku_ HO346.out) hb; have n3_ := bb_ (bu_ BK326) hb; have n4_ := bb_ (bu_ BK327) hb; have n5_ := bb_ (bu_ BK338) hb; have n6_ := bb_ (bu_ BK343) hb; have n7_ := bs_ (be_ HB) hb; clear HO330; clear HO333; clear HO346; clear BK326; clear BK327; clear BK338; clear BK343; clear HB; have HO330 := n0_; have HO333 := n1_; have HO346 := n2_; have BK326 := n3_; have BK327 := n4_; have BK338 := n5_; have BK343 := n6_; have HB := n7_; clear n0_ n1_ n2_ n3_ n4_ n5_ n6_ n7_; (try clear hb); (try clear hb2); (try clear hk); (try clear hi)) | (go_at_call 28; (refine (expr_Check.calls k _ _ ([] : List (S52)) t349 _ ?side1 ?side2 A12.out).mono ?_); (case side1 => exact Kd.C_nil _ _); (case side2 => exact Nat.le_refl _); rintro e w41 ⟨rfl, hb⟩; have n0_ := kb_ (ku_ HO330.out) hb; have n1_ := kb_ (ku_ HO333.out) hb; have n2_ := kb_ (ku_ HO346.out) hb; have n3_ := bb_ (bu_ BK326) hb; have n4_ := bb_ (bu_ BK327) hb; have n5_ := bb_ (bu_ BK338) hb; have n6_ := bb_ (bu_ BK343) hb; have n7_ := bs_ (be_ HB) hb; clear HO330; clear HO333; clear HO346; clear BK326; clear BK327; clear BK338; clear BK343; clear HB; have HO330 := n0_; have HO333 := n1_; have HO346 := n2_; have BK326 := n3_; have BK327 := n4_; have BK338 := n5_; have BK343 := n6_; have HB := n7_; clear n0_ n1_ n2_ n3_ n4_ n5_ n6_ n7_; (try clear hb); (try clear hb2); (try clear hk); (try clear hi)))
              go_ret
              exact ⟨by first | rfl | (simp [errW_none, errW_some] <;> rfl) | (simp [*, errW_none, errW_some] <;> rfl), by repeat (first | (with_reducible first | exact HB.out | apply below_alloc | apply pw_below_drewN | apply below_drew1 | refine below_set ?_ GE326.out | refine below_set ?_ GE327.out | refine below_set ?_ GE338.out | refine below_set ?_ GE343.out) | exact HB.out)⟩
            · rw [if_neg c11] at H
              obtain ⟨c11b0, c11b1⟩ := neB_ c11
              exact absurd ((Option.some.inj H).trans HR_.out) (by decide)
          · rw [if_neg c9] at H
            obtain ⟨c9b0, c9b1⟩ := neB_ c9
            exact absurd ((Option.some.inj H).trans HR_.out) (by decide)
        · rw [if_neg c7] at H
          obtain ⟨c7b0, c7b1⟩ := neB_ c7
          exact absurd ((Option.some.inj H).trans HR_.out) (by decide)
      · rw [if_neg c5] at H
        obtain ⟨c5b0, c5b1⟩ := neB_ c5
        exact absurd ((Option.some.inj H).trans HR_.out) (by decide)
    · rw [if_neg c4] at H
      obtain ⟨c4b0, c4b1⟩ := neB_ c4
      exact absurd ((Option.some.inj H).trans HR_.out) (by decide)
  · rw [if_neg c3] at H
    obtain ⟨c3b0, c3b1⟩ := neB_ c3
    exact absurd ((Option.some.inj H).trans HR_.out) (by decide)
end Go.Proofs.Ytconpnagoijacaa.P
end
