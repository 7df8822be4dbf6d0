/- Part 3 of the proof of ExprPut: words, contracts of functions of the program (what a call answers), and what the answers say. -/
import Derived.Test.YtconpnagoijacaaVWords
import Derived.Test.YtconpnagoijacaaVLast
import Derived.Test.YtconpnagoijacaaVApart
import Derived.Test.YtconpnagoijacaaVArr
import Derived.Test.YtconpnagoijacaaVFoot
import Derived.Test.YtconpnagoijacaaVKept
import Derived.Test.YtconpnagoijacaaVShare
import Derived.Test.YtconpnagoijacaaVZeros
import Derived.Test.YtconpnagoijacaaVN
import Derived.Test.YtconpnagoijacaaVFootNe
import Derived.Test.YtconpnagoijacaaVAt
import Derived.Test.YtconpnagoijacaaVEqStruct
import Derived.Test.YtconpnagoijacaaVTab
import Derived.Test.YtconpnagoijacaaVFour
import Derived.Test.YtconpnagoijacaaVGuard
import Derived.Test.YtconpnagoijacaaVInv
import Derived.Test.YtconpnagoijacaaVInvWords
import Derived.Test.YtconpnagoijacaaVQPut
import Derived.Test.YtconpnagoijacaaVNEv
import Derived.Test.YtconpnagoijacaaVMore
import Derived.Test.YtconpnagoijacaaVRepsOne
import Derived.Test.YtconpnagoijacaaVSized
import Derived.Test.YtconpnagoijacaaCExprPut0
import Derived.Test.YtconpnagoijacaaCExprPut1
section
namespace Go.Proofs.Ytconpnagoijacaa.P
open Go.RowKit Go.Proofs.YtconpnagoijacaaW.PrintWords Go.Proofs.YtconpnagoijacaaW.PrintLast Go.Proofs.YtconpnagoijacaaW.PrintMore
attribute [local go_sem] max2_int min2_int max_two min_two max_three min_three max_four min_four
set_option linter.unusedVariables false
set_option linter.unusedSimpArgs false
attribute [local go_sem high] eqA40
mutual
def constableref01_Expr.l0 : Nat → List (S52) → Int → Int → Option (Bool)
  | 0, _, _, _ => none
  | k + 1, x0, x3, x4 => if x4 < (x0.length : Int) then (if 0 ≤ x4 then (if ((rd_T52 x0 x4).f0) = 1 then ((constableref01_Word.f k ((rd_T52 x0 x4).f1) true).bind fun t311 => (if t311 = true then (if (!(((rd_T52 x0 x4).f2.f0) == 0) || (!(((rd_T52 x0 x4).f2.f1) == 0) || (!((((rd_T52 x0 x4).f2.f2).toList) == ([] : List UInt8))))) = true then (some false) else (constableref01_Expr.l0 k x0 (wrap64 (x3 + 1)) (wrap64 (x4 + 1)))) else (some false))) else (if ((rd_T52 x0 x4).f0) = 2 then (if (((rd_T52 x0 x4).f1).size : Int) > 0 then (some false) else ((constableref01_Value.f k ((rd_T52 x0 x4).f2.f0) ((rd_T52 x0 x4).f2.f1) ((rd_T52 x0 x4).f2.f2)).bind fun t312 => (if t312 = true then (constableref01_Expr.l0 k x0 (wrap64 (x3 + 1)) (wrap64 (x4 + 1))) else (some false)))) else (if ((rd_T52 x0 x4).f0) = 3 then (constableref01_Expr.j1 k x0 x3 x4 (((rd_T52 x0 x4).f0) == 3) ((rd_T52 x0 x4).f0) ((rd_T52 x0 x4).f1) ((rd_T52 x0 x4).f2.f0) ((rd_T52 x0 x4).f2.f1) ((rd_T52 x0 x4).f2.f2)) else (if ((rd_T52 x0 x4).f0) = 4 then (constableref01_Expr.j1 k x0 x3 x4 (((rd_T52 x0 x4).f0) == 4) ((rd_T52 x0 x4).f0) ((rd_T52 x0 x4).f1) ((rd_T52 x0 x4).f2.f0) ((rd_T52 x0 x4).f2.f1) ((rd_T52 x0 x4).f2.f2)) else (constableref01_Expr.j1 k x0 x3 x4 (((rd_T52 x0 x4).f0) == 5) ((rd_T52 x0 x4).f0) ((rd_T52 x0 x4).f1) ((rd_T52 x0 x4).f2.f0) ((rd_T52 x0 x4).f2.f1) ((rd_T52 x0 x4).f2.f2)))))) else (none)) else (some (x3 == 1))
def constableref01_Expr.j1 : Nat → List (S52) → Int → Int → Bool → Int → ByteArray → Int → Int → ByteArray → Option (Bool)
  | 0, _, _, _, _, _, _, _, _, _ => none
  | k + 1, x0, x3, x4, x50, x311000, x311001, x311002, x311003, x311004 => if x50 = true then (if (x311001.size : Int) > 0 then (some false) else (if (!(x311002 == 0) || (!(x311003 == 0) || (!(x311004.toList == ([] : List UInt8))))) = true then (some false) else (if x3 < 2 then (some false) else (constableref01_Expr.l0 k x0 (wrap64 (x3 - 1)) (wrap64 (x4 + 1)))))) else (some false)
end
def constableref01_Expr.f (k : Nat) (l0 : List (S52)) : Option (Bool) := (constableref01_In.f (l0.length : Int) 1 15).bind fun t308 => (if t308 = true then (constableref01_Expr.l0 k l0 0 0) else (some false))
theorem constableref01_Expr.mono_l : ∀ k, (∀ y0 y1 y2, LeO (constableref01_Expr.l0 k y0 y1 y2) (constableref01_Expr.l0 (k + 1) y0 y1 y2)) ∧ (∀ y0 y1 y2 y3 y4 y5 y6 y7 y8, LeO (constableref01_Expr.j1 k y0 y1 y2 y3 y4 y5 y6 y7 y8) (constableref01_Expr.j1 (k + 1) y0 y1 y2 y3 y4 y5 y6 y7 y8))
  | 0 => ⟨fun _ _ _ r h => by simp [constableref01_Expr.l0] at h, fun _ _ _ _ _ _ _ _ _ r h => by simp [constableref01_Expr.j1] at h⟩
  | k + 1 => by
    obtain ⟨ih0, ih1⟩ := constableref01_Expr.mono_l k
    refine ⟨?_, ?_⟩
    · intro y0 y1 y2
      unfold constableref01_Expr.l0
      repeat' first
      | (with_reducible exact ih0 _ _ _)
      | (with_reducible exact ih1 _ _ _ _ _ _ _ _ _)
      | (with_reducible exact constableref01_Value.mono _ _ _ _)
      | (with_reducible exact constableref01_Word.mono _ _ _)
      | (with_reducible exact LeO.refl _)
      | (with_reducible exact LeO.none _)
      | (with_reducible refine LeO.ite ?_ ?_)
      | (with_reducible refine LeO.bind ?_ (fun _ => ?_))
      | exact ih0 _ _ _
      | exact ih1 _ _ _ _ _ _ _ _ _
      | exact constableref01_Value.mono _ _ _ _
      | exact constableref01_Word.mono _ _ _
      | exact LeO.none _
      | refine LeO.ite ?_ ?_
      | refine LeO.bind ?_ (fun _ => ?_)
    · intro y0 y1 y2 y3 y4 y5 y6 y7 y8
      unfold constableref01_Expr.j1
      repeat' first
      | (with_reducible exact ih0 _ _ _)
      | (with_reducible exact ih1 _ _ _ _ _ _ _ _ _)
      | (with_reducible exact constableref01_Value.mono _ _ _ _)
      | (with_reducible exact constableref01_Word.mono _ _ _)
      | (with_reducible exact LeO.refl _)
      | (with_reducible exact LeO.none _)
      | (with_reducible refine LeO.ite ?_ ?_)
      | (with_reducible refine LeO.bind ?_ (fun _ => ?_))
      | exact ih0 _ _ _
      | exact ih1 _ _ _ _ _ _ _ _ _
      | exact constableref01_Value.mono _ _ _ _
      | exact constableref01_Word.mono _ _ _
      | exact LeO.none _
      | refine LeO.ite ?_ ?_
      | refine LeO.bind ?_ (fun _ => ?_)
theorem constableref01_Expr.mono : ∀ a0 k, LeO (constableref01_Expr.f k a0) (constableref01_Expr.f (k + 1) a0) := by
  intro a0 k
  obtain ⟨ih0, ih1⟩ := constableref01_Expr.mono_l k
  unfold constableref01_Expr.f
  repeat' first
      | (with_reducible exact ih0 _ _ _)
      | (with_reducible exact ih1 _ _ _ _ _ _ _ _ _)
      | (with_reducible exact constableref01_Value.mono _ _ _ _)
      | (with_reducible exact constableref01_Word.mono _ _ _)
      | (with_reducible exact LeO.refl _)
      | (with_reducible exact LeO.none _)
      | (with_reducible refine LeO.ite ?_ ?_)
      | (with_reducible refine LeO.bind ?_ (fun _ => ?_))
      | exact ih0 _ _ _
      | exact ih1 _ _ _ _ _ _ _ _ _
      | exact constableref01_Value.mono _ _ _ _
      | exact constableref01_Word.mono _ _ _
      | exact LeO.none _
      | refine LeO.ite ?_ ?_
      | refine LeO.bind ?_ (fun _ => ?_)
set_option maxHeartbeats 8000000 in
set_option maxRecDepth 100000 in
theorem constableref01_Expr.calls (k : Nat) (A0 : Option Addr) (c0 : Nat) (l0 : List (S52)) (r : Bool) (w : World) (hr0 : Kd.C k52 w A0 l0.length l0) (hc0 : l0.length ≤ c0) (h : constableref01_Expr.f k l0 = some r) :
    Calls Try.prog 27 #[.slice A0 l0.length c0] w fun e w' => e = .returned (.bool r) ∧ Below w.heap.size w w' := by
  have hu52 := Try.underlying52
  have hu40 := Try.underlying40
  have HR0 := Aside0.mk hr0
  have HC0 := Aside0.mk hc0
  clear hr0 hc0
  have HB := Aside0.mk (Below.refl w.heap.size w)
  have H : ((constableref01_In.f (l0.length : Int) 1 15).bind fun t308 => (if t308 = true then (constableref01_Expr.l0 k l0 0 0) else (some false))) = some r := h
  clear h
  replace H := Option.bind_eq_some_iff.mp H
  obtain ⟨t308, A20, H⟩ := H
  replace H : (if t308 = true then (constableref01_Expr.l0 k l0 0 0) else (some false)) = some r := H
  have A2 := Aside0.mk A20
  clear A20
  by_cases c3 : t308 = true
  · subst c3
    have H1 : (constableref01_Expr.l0 k l0 0 0) = some r := by rw [if_pos rfl] at H; exact H
    clear H
    have H := H1
    clear H1
    have H' := Aside0.mk H
    clear H
    go_enter Try.func27, Try.ntmps27
    go_wp2_with (first | ((with_reducible refine gate_callee (f := 38) rfl ?_); refine goesL_ (some 8) rfl rfl Try.func38 (by kernel_rfl) rfl #[.int .i64 (l0.length : Int), .int .i64 1, .int .i64 15] rfl ga_ ?_; (with_reducible refine (constableref01_In.calls (l0.length : Int) 1 15 true _ A2.out).mono ?_); rintro e w' ⟨rfl, ⟨nd, rfl⟩⟩; refine ⟨_, rfl, ?_⟩))
    go_loopg [3, 4] k (fun kq v3 v4 w' => ∃ (x3_1 : Int) (x4_1 : Int), v3 = .int .i64 x3_1 ∧ v4 = .int .i64 x4_1 ∧ Aside0 (constableref01_Expr.l0 kq l0 x3_1 x4_1 = some r) ∧ Aside0 (kq ≤ k) ∧ Aside0 (Below w.heap.size w w'))
    case atStart => exact ⟨(0), (0), ra_, ra_, H', ⟨Nat.le_refl _⟩, ⟨by repeat (first | (with_reducible first | exact HB.out | apply below_alloc | apply pw_below_drewN | apply below_drew1) | exact HB.out)⟩⟩
    case round =>
      clear H'
      try clear c2
      try clear p2
      try clear c3
      obtain ⟨x3_1, x4_1, rfl, rfl, HA, HK1, HB⟩ := hrel
      cases gk with
      | zero => exact absurd HA.out (by simp [constableref01_Expr.l0])
      | succ k1 =>
        have H := HA.out
        clear HA
        simp only [constableref01_Expr.l0] at H
        by_cases c4 : x4_1 < (l0.length : Int)
        · rw [if_pos c4] at H
          have c4b0 : decide (x4_1 < (l0.length : Int)) = true := decide_eq_true c4
          clear c4
          by_cases c5 : 0 ≤ x4_1
          · rw [if_pos c5] at H
            have c5b0 : decide (0 ≤ x4_1) = true := decide_eq_true c5
            clear c5
            by_cases c6 : ((rd_T52 l0 x4_1).f0) = 1
            · rw [if_pos c6] at H
              obtain ⟨c6b0, c6b1⟩ := eqB_ c6
              clear c6
              replace H := Option.bind_eq_some_iff.mp H
              obtain ⟨t311, A70, H⟩ := H
              replace H : (if t311 = true then (if (!(((rd_T52 l0 x4_1).f2.f0) == 0) || (!(((rd_T52 l0 x4_1).f2.f1) == 0) || (!((((rd_T52 l0 x4_1).f2.f2).toList) == ([] : List UInt8))))) = true then (some false) else (constableref01_Expr.l0 k1 l0 (wrap64 (x3_1 + 1)) (wrap64 (x4_1 + 1)))) else (some false)) = some r := H
              have A7 := Aside0.mk A70
              clear A70
              by_cases c8 : t311 = true
              · subst c8
                have H1 : (if (!(((rd_T52 l0 x4_1).f2.f0) == 0) || (!(((rd_T52 l0 x4_1).f2.f1) == 0) || (!((((rd_T52 l0 x4_1).f2.f2).toList) == ([] : List UInt8))))) = true then (some false) else (constableref01_Expr.l0 k1 l0 (wrap64 (x3_1 + 1)) (wrap64 (x4_1 + 1)))) = some r := by rw [if_pos rfl] at H; exact H
                clear H
                have H := H1
                clear H1
                by_cases c9 : (!(((rd_T52 l0 x4_1).f2.f0) == 0) || (!(((rd_T52 l0 x4_1).f2.f1) == 0) || (!((((rd_T52 l0 x4_1).f2.f2).toList) == ([] : List UInt8))))) = true
                · rw [if_pos c9] at H
                  have c9b0 : (!(((rd_T52 l0 x4_1).f2.f0) == 0) || (!(((rd_T52 l0 x4_1).f2.f1) == 0) || (!((((rd_T52 l0 x4_1).f2.f2).toList) == ([] : List UInt8))))) = true := c9
                  (try (have c9b1 : (!(((rd_T52 l0 x4_1).f2.f0) == 0) || (!(((rd_T52 l0 x4_1).f2.f1) == 0) || (!((((rd_T52 l0 x4_1).f2.f2).toList).isEmpty)))) = true := by first | simpa using c9 | (simp at c9 ⊢; exact c9)))
                  clear c9
                  obtain rfl := Option.some.inj H
                  have p309 : 0 ≤ (x4_1 : Int) := dt_
                  have q309 : x4_1 < (l0.length : Int) := dt_
                  obtain ⟨ad309, e309, hx309_0, hx309_1, hx309_2, hx309_3, hx309_4⟩ := at_T52 HR0.out x4_1 p309 q309
                  cases e309
                  replace hx309_0 := cm_ HB hx309_0
                  replace hx309_1 := cm_ HB hx309_1
                  replace hx309_2 := cm_ HB hx309_2
                  replace hx309_3 := cm_ HB hx309_3
                  replace hx309_4 := cm_ HB hx309_4
                  replace p309 := eq_true p309
                  replace q309 := eq_true q309
                  go_wp2_with (first | ((with_reducible refine gate_dst (N := 5) rfl ?_); refine box_event ?hg (N := 5) ?hd (cs := #[.int .i64 0, .string (⟨#[]⟩ : ByteArray), .int .i64 0, .int .i64 0, .string (⟨#[]⟩ : ByteArray)]) (t := 52) ?hr ?_; (case hd => rfl); (case hg => rfl); (case hr => first | (go_simp; done) | (go_simp; rfl)); intro gb310 hg w10 hbox hb; have n0_ := bs_ (be_ HB) hb; have n1_ := Aside0.mk (hbox); have n2_ := gs_ hg (be_ HB); have n3_ := gs_ hg (be_ HB); clear HB; have HB := n0_; have BK310 := n1_; have GW310 := n2_; have GE310 := n3_; clear n0_ n1_ n2_ n3_; clear hb hbox hg; have hcz11_0 : w10.cell? ⟨gb310, 0, none⟩ = some (.int .i64 0) := (blk_cell BK310.out 0).trans rfl; have hcz11_1 : w10.cell? ⟨gb310, 1, none⟩ = some (.string (⟨#[]⟩ : ByteArray)) := (blk_cell BK310.out 1).trans rfl; have hcz11_2 : w10.cell? ⟨gb310, 2, none⟩ = some (.int .i64 0) := (blk_cell BK310.out 2).trans rfl; have hcz11_3 : w10.cell? ⟨gb310, 3, none⟩ = some (.int .i64 0) := (blk_cell BK310.out 3).trans rfl; have hcz11_4 : w10.cell? ⟨gb310, 4, none⟩ = some (.string (⟨#[]⟩ : ByteArray)) := (blk_cell BK310.out 4).trans rfl; have hfz11_0 := blk_frozen BK310.out 0; have hfz11_1 := blk_frozen BK310.out 1; have hfz11_2 := blk_frozen BK310.out 2; have hfz11_3 := blk_frozen BK310.out 3; have hfz11_4 := blk_frozen BK310.out 4) | ((with_reducible refine gate_callee (f := 45) rfl ?_); refine goesL_ (some 26) rfl rfl Try.func45 (by kernel_rfl) rfl #[.string ((rd_T52 l0 x4_1).f1), .bool true] rfl ga_ ?_; (with_reducible refine (constableref01_Word.calls k1 ((rd_T52 l0 x4_1).f1) true true _ A7.out).mono ?_); rintro e w' ⟨rfl, ⟨nd, rfl⟩⟩; refine ⟨_, rfl, ?_⟩))
                  go_ret
                  exact ⟨by first | rfl | (simp [errW_none, errW_some] <;> rfl) | (simp [*, errW_none, errW_some] <;> rfl), by repeat (first | (with_reducible first | exact HB.out | apply below_alloc | apply pw_below_drewN | apply below_drew1 | refine below_set ?_ GE310.out) | exact HB.out)⟩
                · rw [if_neg c9] at H
                  have c9b0 : (!(((rd_T52 l0 x4_1).f2.f0) == 0) || (!(((rd_T52 l0 x4_1).f2.f1) == 0) || (!((((rd_T52 l0 x4_1).f2.f2).toList) == ([] : List UInt8))))) = false := by simpa using c9
                  (try (have c9b1 : (!(((rd_T52 l0 x4_1).f2.f0) == 0) || (!(((rd_T52 l0 x4_1).f2.f1) == 0) || (!((((rd_T52 l0 x4_1).f2.f2).toList).isEmpty)))) = false := by first | simpa using c9 | (simp at c9 ⊢; exact c9)))
                  clear c9
                  have H' := Aside0.mk H
                  clear H
                  have p309 : 0 ≤ (x4_1 : Int) := dt_
                  have q309 : x4_1 < (l0.length : Int) := dt_
                  obtain ⟨ad309, e309, hx309_0, hx309_1, hx309_2, hx309_3, hx309_4⟩ := at_T52 HR0.out x4_1 p309 q309
                  cases e309
                  replace hx309_0 := cm_ HB hx309_0
                  replace hx309_1 := cm_ HB hx309_1
                  replace hx309_2 := cm_ HB hx309_2
                  replace hx309_3 := cm_ HB hx309_3
                  replace hx309_4 := cm_ HB hx309_4
                  replace p309 := eq_true p309
                  replace q309 := eq_true q309
                  go_wp2_with (first | ((with_reducible refine gate_dst (N := 5) rfl ?_); refine box_event ?hg (N := 5) ?hd (cs := #[.int .i64 0, .string (⟨#[]⟩ : ByteArray), .int .i64 0, .int .i64 0, .string (⟨#[]⟩ : ByteArray)]) (t := 52) ?hr ?_; (case hd => rfl); (case hg => rfl); (case hr => first | (go_simp; done) | (go_simp; rfl)); intro gb310 hg w12 hbox hb; have n0_ := bs_ (be_ HB) hb; have n1_ := Aside0.mk (hbox); have n2_ := gs_ hg (be_ HB); have n3_ := gs_ hg (be_ HB); clear HB; have HB := n0_; have BK310 := n1_; have GW310 := n2_; have GE310 := n3_; clear n0_ n1_ n2_ n3_; clear hb hbox hg; have hcz13_0 : w12.cell? ⟨gb310, 0, none⟩ = some (.int .i64 0) := (blk_cell BK310.out 0).trans rfl; have hcz13_1 : w12.cell? ⟨gb310, 1, none⟩ = some (.string (⟨#[]⟩ : ByteArray)) := (blk_cell BK310.out 1).trans rfl; have hcz13_2 : w12.cell? ⟨gb310, 2, none⟩ = some (.int .i64 0) := (blk_cell BK310.out 2).trans rfl; have hcz13_3 : w12.cell? ⟨gb310, 3, none⟩ = some (.int .i64 0) := (blk_cell BK310.out 3).trans rfl; have hcz13_4 : w12.cell? ⟨gb310, 4, none⟩ = some (.string (⟨#[]⟩ : ByteArray)) := (blk_cell BK310.out 4).trans rfl; have hfz13_0 := blk_frozen BK310.out 0; have hfz13_1 := blk_frozen BK310.out 1; have hfz13_2 := blk_frozen BK310.out 2; have hfz13_3 := blk_frozen BK310.out 3; have hfz13_4 := blk_frozen BK310.out 4) | ((with_reducible refine gate_callee (f := 45) rfl ?_); refine goesL_ (some 26) rfl rfl Try.func45 (by kernel_rfl) rfl #[.string ((rd_T52 l0 x4_1).f1), .bool true] rfl ga_ ?_; (with_reducible refine (constableref01_Word.calls k1 ((rd_T52 l0 x4_1).f1) true true _ A7.out).mono ?_); rintro e w' ⟨rfl, ⟨nd, rfl⟩⟩; refine ⟨_, rfl, ?_⟩))
                  go_roundg k1
                  case measure => have := HK1.out; omega
                  case rel => exact ⟨(wrap64 (x3_1 + 1)), (wrap64 (x4_1 + 1)), ra_, ra_, H', ⟨by have := HK1.out; omega⟩, ⟨by repeat (first | (with_reducible first | exact HB.out | apply below_alloc | apply pw_below_drewN | apply below_drew1 | refine below_set ?_ GE310.out) | exact HB.out)⟩⟩
              · replace c8 := Bool.eq_false_iff.mpr c8
                subst c8
                have H1 : (some false) = some r := by rw [if_neg (show ¬ (false = true) by decide)] at H; exact H
                clear H
                have H := H1
                clear H1
                obtain rfl := Option.some.inj H
                have p309 : 0 ≤ (x4_1 : Int) := dt_
                have q309 : x4_1 < (l0.length : Int) := dt_
                obtain ⟨ad309, e309, hx309_0, hx309_1, hx309_2, hx309_3, hx309_4⟩ := at_T52 HR0.out x4_1 p309 q309
                cases e309
                replace hx309_0 := cm_ HB hx309_0
                replace hx309_1 := cm_ HB hx309_1
                replace hx309_2 := cm_ HB hx309_2
                replace hx309_3 := cm_ HB hx309_3
                replace hx309_4 := cm_ HB hx309_4
                replace p309 := eq_true p309
                replace q309 := eq_true q309
                go_wp2_with (first | ((with_reducible refine gate_dst (N := 5) rfl ?_); refine box_event ?hg (N := 5) ?hd (cs := #[.int .i64 0, .string (⟨#[]⟩ : ByteArray), .int .i64 0, .int .i64 0, .string (⟨#[]⟩ : ByteArray)]) (t := 52) ?hr ?_; (case hd => rfl); (case hg => rfl); (case hr => first | (go_simp; done) | (go_simp; rfl)); intro gb310 hg w14 hbox hb; have n0_ := bs_ (be_ HB) hb; have n1_ := Aside0.mk (hbox); have n2_ := gs_ hg (be_ HB); have n3_ := gs_ hg (be_ HB); clear HB; have HB := n0_; have BK310 := n1_; have GW310 := n2_; have GE310 := n3_; clear n0_ n1_ n2_ n3_; clear hb hbox hg; have hcz15_0 : w14.cell? ⟨gb310, 0, none⟩ = some (.int .i64 0) := (blk_cell BK310.out 0).trans rfl; have hcz15_1 : w14.cell? ⟨gb310, 1, none⟩ = some (.string (⟨#[]⟩ : ByteArray)) := (blk_cell BK310.out 1).trans rfl; have hcz15_2 : w14.cell? ⟨gb310, 2, none⟩ = some (.int .i64 0) := (blk_cell BK310.out 2).trans rfl; have hcz15_3 : w14.cell? ⟨gb310, 3, none⟩ = some (.int .i64 0) := (blk_cell BK310.out 3).trans rfl; have hcz15_4 : w14.cell? ⟨gb310, 4, none⟩ = some (.string (⟨#[]⟩ : ByteArray)) := (blk_cell BK310.out 4).trans rfl; have hfz15_0 := blk_frozen BK310.out 0; have hfz15_1 := blk_frozen BK310.out 1; have hfz15_2 := blk_frozen BK310.out 2; have hfz15_3 := blk_frozen BK310.out 3; have hfz15_4 := blk_frozen BK310.out 4) | ((with_reducible refine gate_callee (f := 45) rfl ?_); refine goesL_ (some 26) rfl rfl Try.func45 (by kernel_rfl) rfl #[.string ((rd_T52 l0 x4_1).f1), .bool true] rfl ga_ ?_; (with_reducible refine (constableref01_Word.calls k1 ((rd_T52 l0 x4_1).f1) true false _ A7.out).mono ?_); rintro e w' ⟨rfl, ⟨nd, rfl⟩⟩; refine ⟨_, rfl, ?_⟩))
                go_ret
                exact ⟨by first | rfl | (simp [errW_none, errW_some] <;> rfl) | (simp [*, errW_none, errW_some] <;> rfl), by repeat (first | (with_reducible first | exact HB.out | apply below_alloc | apply pw_below_drewN | apply below_drew1 | refine below_set ?_ GE310.out) | exact HB.out)⟩
            · rw [if_neg c6] at H
              obtain ⟨c6b0, c6b1⟩ := neB_ c6
              by_cases c16 : ((rd_T52 l0 x4_1).f0) = 2
              · rw [if_pos c16] at H
                obtain ⟨c16b0, c16b1⟩ := eqB_ c16
                clear c16
                by_cases c17 : (((rd_T52 l0 x4_1).f1).size : Int) > 0
                · rw [if_pos c17] at H
                  have c17b0 : decide (0 < (((rd_T52 l0 x4_1).f1).size : Int)) = true := decide_eq_true c17
                  have c17b1 : decide (0 < ((rd_T52 l0 x4_1).f1).size) = true := decide_eq_true (by omega)
                  clear c17
                  obtain rfl := Option.some.inj H
                  have p309 : 0 ≤ (x4_1 : Int) := dt_
                  have q309 : x4_1 < (l0.length : Int) := dt_
                  obtain ⟨ad309, e309, hx309_0, hx309_1, hx309_2, hx309_3, hx309_4⟩ := at_T52 HR0.out x4_1 p309 q309
                  cases e309
                  replace hx309_0 := cm_ HB hx309_0
                  replace hx309_1 := cm_ HB hx309_1
                  replace hx309_2 := cm_ HB hx309_2
                  replace hx309_3 := cm_ HB hx309_3
                  replace hx309_4 := cm_ HB hx309_4
                  replace p309 := eq_true p309
                  replace q309 := eq_true q309
                  go_wp2_with (first | ((with_reducible refine gate_dst (N := 5) rfl ?_); refine box_event ?hg (N := 5) ?hd (cs := #[.int .i64 0, .string (⟨#[]⟩ : ByteArray), .int .i64 0, .int .i64 0, .string (⟨#[]⟩ : ByteArray)]) (t := 52) ?hr ?_; (case hd => rfl); (case hg => rfl); (case hr => first | (go_simp; done) | (go_simp; rfl)); intro gb310 hg w18 hbox hb; have n0_ := bs_ (be_ HB) hb; have n1_ := Aside0.mk (hbox); have n2_ := gs_ hg (be_ HB); have n3_ := gs_ hg (be_ HB); clear HB; have HB := n0_; have BK310 := n1_; have GW310 := n2_; have GE310 := n3_; clear n0_ n1_ n2_ n3_; clear hb hbox hg; have hcz19_0 : w18.cell? ⟨gb310, 0, none⟩ = some (.int .i64 0) := (blk_cell BK310.out 0).trans rfl; have hcz19_1 : w18.cell? ⟨gb310, 1, none⟩ = some (.string (⟨#[]⟩ : ByteArray)) := (blk_cell BK310.out 1).trans rfl; have hcz19_2 : w18.cell? ⟨gb310, 2, none⟩ = some (.int .i64 0) := (blk_cell BK310.out 2).trans rfl; have hcz19_3 : w18.cell? ⟨gb310, 3, none⟩ = some (.int .i64 0) := (blk_cell BK310.out 3).trans rfl; have hcz19_4 : w18.cell? ⟨gb310, 4, none⟩ = some (.string (⟨#[]⟩ : ByteArray)) := (blk_cell BK310.out 4).trans rfl; have hfz19_0 := blk_frozen BK310.out 0; have hfz19_1 := blk_frozen BK310.out 1; have hfz19_2 := blk_frozen BK310.out 2; have hfz19_3 := blk_frozen BK310.out 3; have hfz19_4 := blk_frozen BK310.out 4))
                  go_ret
                  exact ⟨by first | rfl | (simp [errW_none, errW_some] <;> rfl) | (simp [*, errW_none, errW_some] <;> rfl), by repeat (first | (with_reducible first | exact HB.out | apply below_alloc | apply pw_below_drewN | apply below_drew1 | refine below_set ?_ GE310.out) | exact HB.out)⟩
                · rw [if_neg c17] at H
                  have c17b0 : decide (0 < (((rd_T52 l0 x4_1).f1).size : Int)) = false := decide_eq_false c17
                  have c17b1 : decide (0 < ((rd_T52 l0 x4_1).f1).size) = false := decide_eq_false (by omega)
                  clear c17
                  replace H := Option.bind_eq_some_iff.mp H
                  obtain ⟨t312, A200, H⟩ := H
                  replace H : (if t312 = true then (constableref01_Expr.l0 k1 l0 (wrap64 (x3_1 + 1)) (wrap64 (x4_1 + 1))) else (some false)) = some r := H
                  have A20 := Aside0.mk A200
                  clear A200
                  by_cases c21 : t312 = true
                  · subst c21
                    have H1 : (constableref01_Expr.l0 k1 l0 (wrap64 (x3_1 + 1)) (wrap64 (x4_1 + 1))) = some r := by rw [if_pos rfl] at H; exact H
                    clear H
                    have H := H1
                    clear H1
                    have H' := Aside0.mk H
                    clear H
                    have p309 : 0 ≤ (x4_1 : Int) := dt_
                    have q309 : x4_1 < (l0.length : Int) := dt_
                    obtain ⟨ad309, e309, hx309_0, hx309_1, hx309_2, hx309_3, hx309_4⟩ := at_T52 HR0.out x4_1 p309 q309
                    cases e309
                    replace hx309_0 := cm_ HB hx309_0
                    replace hx309_1 := cm_ HB hx309_1
                    replace hx309_2 := cm_ HB hx309_2
                    replace hx309_3 := cm_ HB hx309_3
                    replace hx309_4 := cm_ HB hx309_4
                    replace p309 := eq_true p309
                    replace q309 := eq_true q309
                    go_wp2_with (first | ((with_reducible refine gate_dst (N := 5) rfl ?_); refine box_event ?hg (N := 5) ?hd (cs := #[.int .i64 0, .string (⟨#[]⟩ : ByteArray), .int .i64 0, .int .i64 0, .string (⟨#[]⟩ : ByteArray)]) (t := 52) ?hr ?_; (case hd => rfl); (case hg => rfl); (case hr => first | (go_simp; done) | (go_simp; rfl)); intro gb310 hg w22 hbox hb; have n0_ := bs_ (be_ HB) hb; have n1_ := Aside0.mk (hbox); have n2_ := gs_ hg (be_ HB); have n3_ := gs_ hg (be_ HB); clear HB; have HB := n0_; have BK310 := n1_; have GW310 := n2_; have GE310 := n3_; clear n0_ n1_ n2_ n3_; clear hb hbox hg; have hcz23_0 : w22.cell? ⟨gb310, 0, none⟩ = some (.int .i64 0) := (blk_cell BK310.out 0).trans rfl; have hcz23_1 : w22.cell? ⟨gb310, 1, none⟩ = some (.string (⟨#[]⟩ : ByteArray)) := (blk_cell BK310.out 1).trans rfl; have hcz23_2 : w22.cell? ⟨gb310, 2, none⟩ = some (.int .i64 0) := (blk_cell BK310.out 2).trans rfl; have hcz23_3 : w22.cell? ⟨gb310, 3, none⟩ = some (.int .i64 0) := (blk_cell BK310.out 3).trans rfl; have hcz23_4 : w22.cell? ⟨gb310, 4, none⟩ = some (.string (⟨#[]⟩ : ByteArray)) := (blk_cell BK310.out 4).trans rfl; have hfz23_0 := blk_frozen BK310.out 0; have hfz23_1 := blk_frozen BK310.out 1; have hfz23_2 := blk_frozen BK310.out 2; have hfz23_3 := blk_frozen BK310.out 3; have hfz23_4 := blk_frozen BK310.out 4) | (go_at_call 46; (with_reducible refine (constableref01_Value.calls k1 ((rd_T52 l0 x4_1).f2.f0) ((rd_T52 l0 x4_1).f2.f1) ((rd_T52 l0 x4_1).f2.f2) true _ A20.out).mono ?_); rintro e w24 ⟨rfl, hb⟩; have n0_ := Aside0.mk (blk_below (o := .cells #[.int .i64 ((rd_T52 l0 x4_1).f0), .string ((rd_T52 l0 x4_1).f1), .int .i64 ((rd_T52 l0 x4_1).f2.f0), .int .i64 ((rd_T52 l0 x4_1).f2.f1), .string ((rd_T52 l0 x4_1).f2.f2)] 52 (0, 0)) (bp_ BK310) hb); have n1_ := bs_ (be_ HB) hb; clear BK310; clear HB; have BK310 := n0_; have HB := n1_; clear n0_ n1_; (try clear hb); (try clear hb2); (try clear hk); (try clear hi)))
                    go_roundg k1
                    case measure => have := HK1.out; omega
                    case rel => exact ⟨(wrap64 (x3_1 + 1)), (wrap64 (x4_1 + 1)), ra_, ra_, H', ⟨by have := HK1.out; omega⟩, ⟨by repeat (first | (with_reducible first | exact HB.out | apply below_alloc | apply pw_below_drewN | apply below_drew1 | refine below_set ?_ GE310.out) | exact HB.out)⟩⟩
                  · replace c21 := Bool.eq_false_iff.mpr c21
                    subst c21
                    have H1 : (some false) = some r := by rw [if_neg (show ¬ (false = true) by decide)] at H; exact H
                    clear H
                    have H := H1
                    clear H1
                    obtain rfl := Option.some.inj H
                    have p309 : 0 ≤ (x4_1 : Int) := dt_
                    have q309 : x4_1 < (l0.length : Int) := dt_
                    obtain ⟨ad309, e309, hx309_0, hx309_1, hx309_2, hx309_3, hx309_4⟩ := at_T52 HR0.out x4_1 p309 q309
                    cases e309
                    replace hx309_0 := cm_ HB hx309_0
                    replace hx309_1 := cm_ HB hx309_1
                    replace hx309_2 := cm_ HB hx309_2
                    replace hx309_3 := cm_ HB hx309_3
                    replace hx309_4 := cm_ HB hx309_4
                    replace p309 := eq_true p309
                    replace q309 := eq_true q309
                    go_wp2_with (first | ((with_reducible refine gate_dst (N := 5) rfl ?_); refine box_event ?hg (N := 5) ?hd (cs := #[.int .i64 0, .string (⟨#[]⟩ : ByteArray), .int .i64 0, .int .i64 0, .string (⟨#[]⟩ : ByteArray)]) (t := 52) ?hr ?_; (case hd => rfl); (case hg => rfl); (case hr => first | (go_simp; done) | (go_simp; rfl)); intro gb310 hg w25 hbox hb; have n0_ := bs_ (be_ HB) hb; have n1_ := Aside0.mk (hbox); have n2_ := gs_ hg (be_ HB); have n3_ := gs_ hg (be_ HB); clear HB; have HB := n0_; have BK310 := n1_; have GW310 := n2_; have GE310 := n3_; clear n0_ n1_ n2_ n3_; clear hb hbox hg; have hcz26_0 : w25.cell? ⟨gb310, 0, none⟩ = some (.int .i64 0) := (blk_cell BK310.out 0).trans rfl; have hcz26_1 : w25.cell? ⟨gb310, 1, none⟩ = some (.string (⟨#[]⟩ : ByteArray)) := (blk_cell BK310.out 1).trans rfl; have hcz26_2 : w25.cell? ⟨gb310, 2, none⟩ = some (.int .i64 0) := (blk_cell BK310.out 2).trans rfl; have hcz26_3 : w25.cell? ⟨gb310, 3, none⟩ = some (.int .i64 0) := (blk_cell BK310.out 3).trans rfl; have hcz26_4 : w25.cell? ⟨gb310, 4, none⟩ = some (.string (⟨#[]⟩ : ByteArray)) := (blk_cell BK310.out 4).trans rfl; have hfz26_0 := blk_frozen BK310.out 0; have hfz26_1 := blk_frozen BK310.out 1; have hfz26_2 := blk_frozen BK310.out 2; have hfz26_3 := blk_frozen BK310.out 3; have hfz26_4 := blk_frozen BK310.out 4) | (go_at_call 46; (with_reducible refine (constableref01_Value.calls k1 ((rd_T52 l0 x4_1).f2.f0) ((rd_T52 l0 x4_1).f2.f1) ((rd_T52 l0 x4_1).f2.f2) false _ A20.out).mono ?_); rintro e w27 ⟨rfl, hb⟩; have n0_ := Aside0.mk (blk_below (o := .cells #[.int .i64 ((rd_T52 l0 x4_1).f0), .string ((rd_T52 l0 x4_1).f1), .int .i64 ((rd_T52 l0 x4_1).f2.f0), .int .i64 ((rd_T52 l0 x4_1).f2.f1), .string ((rd_T52 l0 x4_1).f2.f2)] 52 (0, 0)) (bp_ BK310) hb); have n1_ := bs_ (be_ HB) hb; clear BK310; clear HB; have BK310 := n0_; have HB := n1_; clear n0_ n1_; (try clear hb); (try clear hb2); (try clear hk); (try clear hi)))
                    go_ret
                    exact ⟨by first | rfl | (simp [errW_none, errW_some] <;> rfl) | (simp [*, errW_none, errW_some] <;> rfl), by repeat (first | (with_reducible first | exact HB.out | apply below_alloc | apply pw_below_drewN | apply below_drew1 | refine below_set ?_ GE310.out) | exact HB.out)⟩
              · rw [if_neg c16] at H
                obtain ⟨c16b0, c16b1⟩ := neB_ c16
                have HC28 := Aside0.mk H
                clear H
                have p309 : 0 ≤ (x4_1 : Int) := dt_
                have q309 : x4_1 < (l0.length : Int) := dt_
                obtain ⟨ad309, e309, hx309_0, hx309_1, hx309_2, hx309_3, hx309_4⟩ := at_T52 HR0.out x4_1 p309 q309
                cases e309
                replace hx309_0 := cm_ HB hx309_0
                replace hx309_1 := cm_ HB hx309_1
                replace hx309_2 := cm_ HB hx309_2
                replace hx309_3 := cm_ HB hx309_3
                replace hx309_4 := cm_ HB hx309_4
                replace p309 := eq_true p309
                replace q309 := eq_true q309
                go_upto_if 50 with (first | ((with_reducible refine gate_dst (N := 5) rfl ?_); refine box_event ?hg (N := 5) ?hd (cs := #[.int .i64 0, .string (⟨#[]⟩ : ByteArray), .int .i64 0, .int .i64 0, .string (⟨#[]⟩ : ByteArray)]) (t := 52) ?hr ?_; (case hd => rfl); (case hg => rfl); (case hr => first | (go_simp; done) | (go_simp; rfl)); intro gb310 hg w29 hbox hb; have n0_ := bs_ (be_ HB) hb; have n1_ := Aside0.mk (hbox); have n2_ := gs_ hg (be_ HB); have n3_ := gs_ hg (be_ HB); clear HB; have HB := n0_; have BK310 := n1_; have GW310 := n2_; have GE310 := n3_; clear n0_ n1_ n2_ n3_; clear hb hbox hg; have hcz30_0 : w29.cell? ⟨gb310, 0, none⟩ = some (.int .i64 0) := (blk_cell BK310.out 0).trans rfl; have hcz30_1 : w29.cell? ⟨gb310, 1, none⟩ = some (.string (⟨#[]⟩ : ByteArray)) := (blk_cell BK310.out 1).trans rfl; have hcz30_2 : w29.cell? ⟨gb310, 2, none⟩ = some (.int .i64 0) := (blk_cell BK310.out 2).trans rfl; have hcz30_3 : w29.cell? ⟨gb310, 3, none⟩ = some (.int .i64 0) := (blk_cell BK310.out 3).trans rfl; have hcz30_4 : w29.cell? ⟨gb310, 4, none⟩ = some (.string (⟨#[]⟩ : ByteArray)) := (blk_cell BK310.out 4).trans rfl; have hfz30_0 := blk_frozen BK310.out 0; have hfz30_1 := blk_frozen BK310.out 1; have hfz30_2 := blk_frozen BK310.out 2; have hfz30_3 := blk_frozen BK310.out 3; have hfz30_4 := blk_frozen BK310.out 4))
                (try simp only [Act.put, List.setIfInBounds_toArray, List.set_cons_zero, List.set_cons_succ])
                go_cut [50] (fun v50 wc => ∃ (kq : Nat) (x50_27 : Bool), v50 = .bool x50_27 ∧ Aside0 (constableref01_Expr.j1 kq l0 x3_1 x4_1 x50_27 ((rd_T52 l0 x4_1).f0) ((rd_T52 l0 x4_1).f1) ((rd_T52 l0 x4_1).f2.f0) ((rd_T52 l0 x4_1).f2.f1) ((rd_T52 l0 x4_1).f2.f2) = some r) ∧ Aside0 (kq ≤ k1) ∧ Aside0 (wc.heap[gb310]? = some (.cells #[.int .i64 ((rd_T52 l0 x4_1).f0), .string ((rd_T52 l0 x4_1).f1), .int .i64 ((rd_T52 l0 x4_1).f2.f0), .int .i64 ((rd_T52 l0 x4_1).f2.f1), .string ((rd_T52 l0 x4_1).f2.f2)] 52 (0, 0))) ∧ Aside0 (Below w.heap.size w wc))
                case first =>
                  have H := HC28.out
                  clear HC28
                  by_cases c31 : ((rd_T52 l0 x4_1).f0) = 3
                  · rw [if_pos c31] at H
                    obtain ⟨c31b0, c31b1⟩ := eqB_ c31
                    clear c31
                    (first | rw [c31b0] | (simp only [i64_w, i32_w]; rw [c31b0]) | skip)
                    have H' := Aside0.mk H
                    clear H
                    go_wp2
                    go_meet
                    case rel => exact ⟨_, ((((rd_T52 l0 x4_1).f0) == 3)), ra_, H', ⟨by have := HK1.out; first | omega | exact Nat.le_refl _⟩, ⟨by (with_reducible repeat (first | refine blk_drewN ?_ _ | refine blk_drew ?_ | refine blk_alloc ?_ _)); refine blk_put (cs := #[.int .i64 ((rd_T52 l0 x4_1).f0), .string ((rd_T52 l0 x4_1).f1), .int .i64 ((rd_T52 l0 x4_1).f2.f0), .int .i64 ((rd_T52 l0 x4_1).f2.f1), .string (⟨#[]⟩ : ByteArray)]) ?_ 4 _ rfl; (with_reducible repeat (first | refine blk_drewN ?_ _ | refine blk_drew ?_ | refine blk_alloc ?_ _)); refine blk_put (cs := #[.int .i64 ((rd_T52 l0 x4_1).f0), .string ((rd_T52 l0 x4_1).f1), .int .i64 ((rd_T52 l0 x4_1).f2.f0), .int .i64 0, .string (⟨#[]⟩ : ByteArray)]) ?_ 3 _ rfl; (with_reducible repeat (first | refine blk_drewN ?_ _ | refine blk_drew ?_ | refine blk_alloc ?_ _)); refine blk_put (cs := #[.int .i64 ((rd_T52 l0 x4_1).f0), .string ((rd_T52 l0 x4_1).f1), .int .i64 0, .int .i64 0, .string (⟨#[]⟩ : ByteArray)]) ?_ 2 _ rfl; (with_reducible repeat (first | refine blk_drewN ?_ _ | refine blk_drew ?_ | refine blk_alloc ?_ _)); refine blk_put (cs := #[.int .i64 ((rd_T52 l0 x4_1).f0), .string (⟨#[]⟩ : ByteArray), .int .i64 0, .int .i64 0, .string (⟨#[]⟩ : ByteArray)]) ?_ 1 _ rfl; (with_reducible repeat (first | refine blk_drewN ?_ _ | refine blk_drew ?_ | refine blk_alloc ?_ _)); refine blk_put (cs := #[.int .i64 0, .string (⟨#[]⟩ : ByteArray), .int .i64 0, .int .i64 0, .string (⟨#[]⟩ : ByteArray)]) ?_ 0 _ rfl; (with_reducible repeat (first | refine blk_drewN ?_ _ | refine blk_drew ?_ | refine blk_alloc ?_ _)); exact BK310.out⟩, ⟨by repeat (first | (with_reducible first | exact HB.out | apply below_alloc | apply pw_below_drewN | apply below_drew1 | refine below_set ?_ GE310.out) | exact HB.out)⟩⟩
                  · rw [if_neg c31] at H
                    obtain ⟨c31b0, c31b1⟩ := neB_ c31
                    (first | rw [c31b0] | (simp only [i64_w, i32_w]; rw [c31b0]) | skip)
                    by_cases c32 : ((rd_T52 l0 x4_1).f0) = 4
                    · rw [if_pos c32] at H
                      obtain ⟨c32b0, c32b1⟩ := eqB_ c32
                      clear c32
                      have H' := Aside0.mk H
                      clear H
                      go_wp2
                      go_meet
                      case rel => exact ⟨_, ((((rd_T52 l0 x4_1).f0) == 4)), ra_, H', ⟨by have := HK1.out; first | omega | exact Nat.le_refl _⟩, ⟨by (with_reducible repeat (first | refine blk_drewN ?_ _ | refine blk_drew ?_ | refine blk_alloc ?_ _)); refine blk_put (cs := #[.int .i64 ((rd_T52 l0 x4_1).f0), .string ((rd_T52 l0 x4_1).f1), .int .i64 ((rd_T52 l0 x4_1).f2.f0), .int .i64 ((rd_T52 l0 x4_1).f2.f1), .string (⟨#[]⟩ : ByteArray)]) ?_ 4 _ rfl; (with_reducible repeat (first | refine blk_drewN ?_ _ | refine blk_drew ?_ | refine blk_alloc ?_ _)); refine blk_put (cs := #[.int .i64 ((rd_T52 l0 x4_1).f0), .string ((rd_T52 l0 x4_1).f1), .int .i64 ((rd_T52 l0 x4_1).f2.f0), .int .i64 0, .string (⟨#[]⟩ : ByteArray)]) ?_ 3 _ rfl; (with_reducible repeat (first | refine blk_drewN ?_ _ | refine blk_drew ?_ | refine blk_alloc ?_ _)); refine blk_put (cs := #[.int .i64 ((rd_T52 l0 x4_1).f0), .string ((rd_T52 l0 x4_1).f1), .int .i64 0, .int .i64 0, .string (⟨#[]⟩ : ByteArray)]) ?_ 2 _ rfl; (with_reducible repeat (first | refine blk_drewN ?_ _ | refine blk_drew ?_ | refine blk_alloc ?_ _)); refine blk_put (cs := #[.int .i64 ((rd_T52 l0 x4_1).f0), .string (⟨#[]⟩ : ByteArray), .int .i64 0, .int .i64 0, .string (⟨#[]⟩ : ByteArray)]) ?_ 1 _ rfl; (with_reducible repeat (first | refine blk_drewN ?_ _ | refine blk_drew ?_ | refine blk_alloc ?_ _)); refine blk_put (cs := #[.int .i64 0, .string (⟨#[]⟩ : ByteArray), .int .i64 0, .int .i64 0, .string (⟨#[]⟩ : ByteArray)]) ?_ 0 _ rfl; (with_reducible repeat (first | refine blk_drewN ?_ _ | refine blk_drew ?_ | refine blk_alloc ?_ _)); exact BK310.out⟩, ⟨by repeat (first | (with_reducible first | exact HB.out | apply below_alloc | apply pw_below_drewN | apply below_drew1 | refine below_set ?_ GE310.out) | exact HB.out)⟩⟩
                    · rw [if_neg c32] at H
                      obtain ⟨c32b0, c32b1⟩ := neB_ c32
                      have H' := Aside0.mk H
                      clear H
                      go_wp2
                      go_meet
                      case rel => exact ⟨_, ((((rd_T52 l0 x4_1).f0) == 5)), ra_, H', ⟨by have := HK1.out; first | omega | exact Nat.le_refl _⟩, ⟨by (with_reducible repeat (first | refine blk_drewN ?_ _ | refine blk_drew ?_ | refine blk_alloc ?_ _)); refine blk_put (cs := #[.int .i64 ((rd_T52 l0 x4_1).f0), .string ((rd_T52 l0 x4_1).f1), .int .i64 ((rd_T52 l0 x4_1).f2.f0), .int .i64 ((rd_T52 l0 x4_1).f2.f1), .string (⟨#[]⟩ : ByteArray)]) ?_ 4 _ rfl; (with_reducible repeat (first | refine blk_drewN ?_ _ | refine blk_drew ?_ | refine blk_alloc ?_ _)); refine blk_put (cs := #[.int .i64 ((rd_T52 l0 x4_1).f0), .string ((rd_T52 l0 x4_1).f1), .int .i64 ((rd_T52 l0 x4_1).f2.f0), .int .i64 0, .string (⟨#[]⟩ : ByteArray)]) ?_ 3 _ rfl; (with_reducible repeat (first | refine blk_drewN ?_ _ | refine blk_drew ?_ | refine blk_alloc ?_ _)); refine blk_put (cs := #[.int .i64 ((rd_T52 l0 x4_1).f0), .string ((rd_T52 l0 x4_1).f1), .int .i64 0, .int .i64 0, .string (⟨#[]⟩ : ByteArray)]) ?_ 2 _ rfl; (with_reducible repeat (first | refine blk_drewN ?_ _ | refine blk_drew ?_ | refine blk_alloc ?_ _)); refine blk_put (cs := #[.int .i64 ((rd_T52 l0 x4_1).f0), .string (⟨#[]⟩ : ByteArray), .int .i64 0, .int .i64 0, .string (⟨#[]⟩ : ByteArray)]) ?_ 1 _ rfl; (with_reducible repeat (first | refine blk_drewN ?_ _ | refine blk_drew ?_ | refine blk_alloc ?_ _)); refine blk_put (cs := #[.int .i64 0, .string (⟨#[]⟩ : ByteArray), .int .i64 0, .int .i64 0, .string (⟨#[]⟩ : ByteArray)]) ?_ 0 _ rfl; (with_reducible repeat (first | refine blk_drewN ?_ _ | refine blk_drew ?_ | refine blk_alloc ?_ _)); exact BK310.out⟩, ⟨by repeat (first | (with_reducible first | exact HB.out | apply below_alloc | apply pw_below_drewN | apply below_drew1 | refine below_set ?_ GE310.out) | exact HB.out)⟩⟩
                case rest =>
                  clear HC28
                  try clear c1
                  try clear c2
                  try clear p2
                  try clear c3
                  try clear p3
                  try clear q3
                  try clear hx3
                  try clear c4
                  try clear c4b0
                  try clear c5
                  try clear c5b0
                  try clear c6
                  try clear c6b0
                  try clear c6b1
                  try clear p6
                  try clear c8
                  try clear c9
                  try clear c9b0
                  try clear c9b1
                  try clear c16
                  try clear c16b0
                  try clear c16b1
                  try clear c17
                  try clear c17b0
                  try clear c17b1
                  try clear c21
                  try clear c27
                  try clear p30
                  try clear q30
                  try clear hx30
                  try clear c31
                  try clear c31b0
                  try clear c31b1
                  try clear c32
                  try clear c32b0
                  try clear c32b1
                  try clear hcz11_0
                  try clear hcz11_1
                  try clear hcz11_2
                  try clear hcz11_3
                  try clear hcz11_4
                  try clear hcz13_0
                  try clear hcz13_1
                  try clear hcz13_2
                  try clear hcz13_3
                  try clear hcz13_4
                  try clear hcz15_0
                  try clear hcz15_1
                  try clear hcz15_2
                  try clear hcz15_3
                  try clear hcz15_4
                  try clear hcz19_0
                  try clear hcz19_1
                  try clear hcz19_2
                  try clear hcz19_3
                  try clear hcz19_4
                  try clear hcz23_0
                  try clear hcz23_1
                  try clear hcz23_2
                  try clear hcz23_3
                  try clear hcz23_4
                  try clear hcz26_0
                  try clear hcz26_1
                  try clear hcz26_2
                  try clear hcz26_3
                  try clear hcz26_4
                  try clear hcz30_0
                  try clear hcz30_1
                  try clear hcz30_2
                  try clear hcz30_3
                  try clear hcz30_4
                  try clear hfz11_0
                  try clear hfz11_1
                  try clear hfz11_2
                  try clear hfz11_3
                  try clear hfz11_4
                  try clear hfz13_0
                  try clear hfz13_1
                  try clear hfz13_2
                  try clear hfz13_3
                  try clear hfz13_4
                  try clear hfz15_0
                  try clear hfz15_1
                  try clear hfz15_2
                  try clear hfz15_3
                  try clear hfz15_4
                  try clear hfz19_0
                  try clear hfz19_1
                  try clear hfz19_2
                  try clear hfz19_3
                  try clear hfz19_4
                  try clear hfz23_0
                  try clear hfz23_1
                  try clear hfz23_2
                  try clear hfz23_3
                  try clear hfz23_4
                  try clear hfz26_0
                  try clear hfz26_1
                  try clear hfz26_2
                  try clear hfz26_3
                  try clear hfz26_4
                  try clear hfz30_0
                  try clear hfz30_1
                  try clear hfz30_2
                  try clear hfz30_3
                  try clear hfz30_4
                  try clear hx309_0
                  try clear hx309_1
                  try clear hx309_2
                  try clear hx309_3
                  try clear hx309_4
                  try clear p2
                  try clear p309
                  try clear q309
                  obtain ⟨kq, x50_27, rfl, HA, HJ27, BK310, HB⟩ := hcut
                  cases kq with
                  | zero => exact absurd HA.out (by simp [constableref01_Expr.j1])
                  | succ kj27 =>
                    have H := HA.out
                    clear HA
                    simp only [constableref01_Expr.j1] at H
                    by_cases c33 : x50_27 = true
                    · subst c33
                      have H1 : (if (((rd_T52 l0 x4_1).f1).size : Int) > 0 then (some false) else (if (!(((rd_T52 l0 x4_1).f2.f0) == 0) || (!(((rd_T52 l0 x4_1).f2.f1) == 0) || (!(((rd_T52 l0 x4_1).f2.f2).toList == ([] : List UInt8))))) = true then (some false) else (if x3_1 < 2 then (some false) else (constableref01_Expr.l0 kj27 l0 (wrap64 (x3_1 - 1)) (wrap64 (x4_1 + 1)))))) = some r := by rw [if_pos rfl] at H; exact H
                      clear H
                      have H := H1
                      clear H1
                      by_cases c34 : (((rd_T52 l0 x4_1).f1).size : Int) > 0
                      · rw [if_pos c34] at H
                        have c34b0 : decide (0 < (((rd_T52 l0 x4_1).f1).size : Int)) = true := decide_eq_true c34
                        have c34b1 : decide (0 < ((rd_T52 l0 x4_1).f1).size) = true := decide_eq_true (by omega)
                        clear c34
                        obtain rfl := Option.some.inj H
                        have hcz35_0 : wc.cell? ⟨gb310, 0, none⟩ = some (.int .i64 ((rd_T52 l0 x4_1).f0)) := (blk_cell BK310.out 0).trans rfl
                        have hcz35_1 : wc.cell? ⟨gb310, 1, none⟩ = some (.string ((rd_T52 l0 x4_1).f1)) := (blk_cell BK310.out 1).trans rfl
                        have hcz35_2 : wc.cell? ⟨gb310, 2, none⟩ = some (.int .i64 ((rd_T52 l0 x4_1).f2.f0)) := (blk_cell BK310.out 2).trans rfl
                        have hcz35_3 : wc.cell? ⟨gb310, 3, none⟩ = some (.int .i64 ((rd_T52 l0 x4_1).f2.f1)) := (blk_cell BK310.out 3).trans rfl
                        have hcz35_4 : wc.cell? ⟨gb310, 4, none⟩ = some (.string ((rd_T52 l0 x4_1).f2.f2)) := (blk_cell BK310.out 4).trans rfl
                        have hfz35_0 := blk_frozen BK310.out 0
                        have hfz35_1 := blk_frozen BK310.out 1
                        have hfz35_2 := blk_frozen BK310.out 2
                        have hfz35_3 := blk_frozen BK310.out 3
                        have hfz35_4 := blk_frozen BK310.out 4
                        go_wp2
                        go_ret
                        exact ⟨by first | rfl | (simp [errW_none, errW_some] <;> rfl) | (simp [*, errW_none, errW_some] <;> rfl), by repeat (first | (with_reducible first | exact HB.out | apply below_alloc | apply pw_below_drewN | apply below_drew1 | refine below_set ?_ GE310.out) | exact HB.out)⟩
                      · rw [if_neg c34] at H
                        have c34b0 : decide (0 < (((rd_T52 l0 x4_1).f1).size : Int)) = false := decide_eq_false c34
                        have c34b1 : decide (0 < ((rd_T52 l0 x4_1).f1).size) = false := decide_eq_false (by omega)
                        clear c34
                        by_cases c36 : (!(((rd_T52 l0 x4_1).f2.f0) == 0) || (!(((rd_T52 l0 x4_1).f2.f1) == 0) || (!(((rd_T52 l0 x4_1).f2.f2).toList == ([] : List UInt8))))) = true
                        · rw [if_pos c36] at H
                          have c36b0 : (!(((rd_T52 l0 x4_1).f2.f0) == 0) || (!(((rd_T52 l0 x4_1).f2.f1) == 0) || (!(((rd_T52 l0 x4_1).f2.f2).toList == ([] : List UInt8))))) = true := c36
                          (try (have c36b1 : (!(((rd_T52 l0 x4_1).f2.f0) == 0) || (!(((rd_T52 l0 x4_1).f2.f1) == 0) || (!(((rd_T52 l0 x4_1).f2.f2).toList.isEmpty)))) = true := by first | simpa using c36 | (simp at c36 ⊢; exact c36)))
                          clear c36
                          obtain rfl := Option.some.inj H
                          have hcz37_0 : wc.cell? ⟨gb310, 0, none⟩ = some (.int .i64 ((rd_T52 l0 x4_1).f0)) := (blk_cell BK310.out 0).trans rfl
                          have hcz37_1 : wc.cell? ⟨gb310, 1, none⟩ = some (.string ((rd_T52 l0 x4_1).f1)) := (blk_cell BK310.out 1).trans rfl
                          have hcz37_2 : wc.cell? ⟨gb310, 2, none⟩ = some (.int .i64 ((rd_T52 l0 x4_1).f2.f0)) := (blk_cell BK310.out 2).trans rfl
                          have hcz37_3 : wc.cell? ⟨gb310, 3, none⟩ = some (.int .i64 ((rd_T52 l0 x4_1).f2.f1)) := (blk_cell BK310.out 3).trans rfl
                          have hcz37_4 : wc.cell? ⟨gb310, 4, none⟩ = some (.string ((rd_T52 l0 x4_1).f2.f2)) := (blk_cell BK310.out 4).trans rfl
                          have hfz37_0 := blk_frozen BK310.out 0
                          have hfz37_1 := blk_frozen BK310.out 1
                          have hfz37_2 := blk_frozen BK310.out 2
                          have hfz37_3 := blk_frozen BK310.out 3
                          have hfz37_4 := blk_frozen BK310.out 4
                          go_wp2
                          go_ret
                          exact ⟨by first | rfl | (simp [errW_none, errW_some] <;> rfl) | (simp [*, errW_none, errW_some] <;> rfl), by repeat (first | (with_reducible first | exact HB.out | apply below_alloc | apply pw_below_drewN | apply below_drew1 | refine below_set ?_ GE310.out) | exact HB.out)⟩
                        · rw [if_neg c36] at H
                          have c36b0 : (!(((rd_T52 l0 x4_1).f2.f0) == 0) || (!(((rd_T52 l0 x4_1).f2.f1) == 0) || (!(((rd_T52 l0 x4_1).f2.f2).toList == ([] : List UInt8))))) = false := by simpa using c36
                          (try (have c36b1 : (!(((rd_T52 l0 x4_1).f2.f0) == 0) || (!(((rd_T52 l0 x4_1).f2.f1) == 0) || (!(((rd_T52 l0 x4_1).f2.f2).toList.isEmpty)))) = false := by first | simpa using c36 | (simp at c36 ⊢; exact c36)))
                          clear c36
                          by_cases c38 : x3_1 < 2
                          · rw [if_pos c38] at H
                            have c38b0 : decide (x3_1 < 2) = true := decide_eq_true c38
                            clear c38
                            obtain rfl := Option.some.inj H
                            have hcz39_0 : wc.cell? ⟨gb310, 0, none⟩ = some (.int .i64 ((rd_T52 l0 x4_1).f0)) := (blk_cell BK310.out 0).trans rfl
                            have hcz39_1 : wc.cell? ⟨gb310, 1, none⟩ = some (.string ((rd_T52 l0 x4_1).f1)) := (blk_cell BK310.out 1).trans rfl
                            have hcz39_2 : wc.cell? ⟨gb310, 2, none⟩ = some (.int .i64 ((rd_T52 l0 x4_1).f2.f0)) := (blk_cell BK310.out 2).trans rfl
                            have hcz39_3 : wc.cell? ⟨gb310, 3, none⟩ = some (.int .i64 ((rd_T52 l0 x4_1).f2.f1)) := (blk_cell BK310.out 3).trans rfl
                            have hcz39_4 : wc.cell? ⟨gb310, 4, none⟩ = some (.string ((rd_T52 l0 x4_1).f2.f2)) := (blk_cell BK310.out 4).trans rfl
                            have hfz39_0 := blk_frozen BK310.out 0
                            have hfz39_1 := blk_frozen BK310.out 1
                            have hfz39_2 := blk_frozen BK310.out 2
                            have hfz39_3 := blk_frozen BK310.out 3
                            have hfz39_4 := blk_frozen BK310.out 4
                            go_wp2
                            go_ret
                            exact ⟨by first | rfl | (simp [errW_none, errW_some] <;> rfl) | (simp [*, errW_none, errW_some] <;> rfl), by repeat (first | (with_reducible first | exact HB.out | apply below_alloc | apply pw_below_drewN | apply below_drew1 | refine below_set ?_ GE310.out) | exact HB.out)⟩
                          · rw [if_neg c38] at H
                            have c38b0 : decide (x3_1 < 2) = false := decide_eq_false c38
                            clear c38
                            have H' := Aside0.mk H
                            clear H
                            have hcz40_0 : wc.cell? ⟨gb310, 0, none⟩ = some (.int .i64 ((rd_T52 l0 x4_1).f0)) := (blk_cell BK310.out 0).trans rfl
                            have hcz40_1 : wc.cell? ⟨gb310, 1, none⟩ = some (.string ((rd_T52 l0 x4_1).f1)) := (blk_cell BK310.out 1).trans rfl
                            have hcz40_2 : wc.cell? ⟨gb310, 2, none⟩ = some (.int .i64 ((rd_T52 l0 x4_1).f2.f0)) := (blk_cell BK310.out 2).trans rfl
                            have hcz40_3 : wc.cell? ⟨gb310, 3, none⟩ = some (.int .i64 ((rd_T52 l0 x4_1).f2.f1)) := (blk_cell BK310.out 3).trans rfl
                            have hcz40_4 : wc.cell? ⟨gb310, 4, none⟩ = some (.string ((rd_T52 l0 x4_1).f2.f2)) := (blk_cell BK310.out 4).trans rfl
                            have hfz40_0 := blk_frozen BK310.out 0
                            have hfz40_1 := blk_frozen BK310.out 1
                            have hfz40_2 := blk_frozen BK310.out 2
                            have hfz40_3 := blk_frozen BK310.out 3
                            have hfz40_4 := blk_frozen BK310.out 4
                            go_wp2
                            go_roundg kj27
                            case measure => have := HK1.out; have := HJ27.out; omega
                            case rel => exact ⟨(wrap64 (x3_1 - 1)), (wrap64 (x4_1 + 1)), ra_, ra_, H', ⟨by have := HK1.out; have := HJ27.out; omega⟩, ⟨by repeat (first | (with_reducible first | exact HB.out | apply below_alloc | apply pw_below_drewN | apply below_drew1 | refine below_set ?_ GE310.out) | exact HB.out)⟩⟩
                    · replace c33 := Bool.eq_false_iff.mpr c33
                      subst c33
                      have H1 : (some false) = some r := by rw [if_neg (show ¬ (false = true) by decide)] at H; exact H
                      clear H
                      have H := H1
                      clear H1
                      obtain rfl := Option.some.inj H
                      go_wp2
                      go_ret
                      exact ⟨by first | rfl | (simp [errW_none, errW_some] <;> rfl) | (simp [*, errW_none, errW_some] <;> rfl), by repeat (first | (with_reducible first | exact HB.out | apply below_alloc | apply pw_below_drewN | apply below_drew1 | refine below_set ?_ GE310.out) | exact HB.out)⟩
          · rw [if_neg c5] at H
            exact absurd H (by simp)
        · rw [if_neg c4] at H
          have c4b0 : decide (x4_1 < (l0.length : Int)) = false := decide_eq_false c4
          clear c4
          obtain rfl := Option.some.inj H
          go_wp2
          go_ret
          exact ⟨by first | rfl | (simp [errW_none, errW_some] <;> rfl) | (simp [*, errW_none, errW_some] <;> rfl), by repeat (first | (with_reducible first | exact HB.out | apply below_alloc | apply pw_below_drewN | apply below_drew1) | exact HB.out)⟩
  · replace c3 := Bool.eq_false_iff.mpr c3
    subst c3
    have H1 : (some false) = some r := by rw [if_neg (show ¬ (false = true) by decide)] at H; exact H
    clear H
    have H := H1
    clear H1
    obtain rfl := Option.some.inj H
    go_enter Try.func27, Try.ntmps27
    go_wp2_with (first | ((with_reducible refine gate_callee (f := 38) rfl ?_); refine goesL_ (some 8) rfl rfl Try.func38 (by kernel_rfl) rfl #[.int .i64 (l0.length : Int), .int .i64 1, .int .i64 15] rfl ga_ ?_; (with_reducible refine (constableref01_In.calls (l0.length : Int) 1 15 false _ A2.out).mono ?_); rintro e w' ⟨rfl, ⟨nd, rfl⟩⟩; refine ⟨_, rfl, ?_⟩))
    go_ret
    exact ⟨by first | rfl | (simp [errW_none, errW_some] <;> rfl) | (simp [*, errW_none, errW_some] <;> rfl), by repeat (first | (with_reducible first | exact HB.out | apply below_alloc | apply pw_below_drewN | apply below_drew1) | exact HB.out)⟩
end Go.Proofs.Ytconpnagoijacaa.P
end
section
namespace Go.Proofs.Ytconpnagoijacaa.P
open Go.RowKit Go.Proofs.YtconpnagoijacaaW.PrintWords Go.Proofs.YtconpnagoijacaaW.PrintLast Go.Proofs.YtconpnagoijacaaW.PrintMore
attribute [local go_sem] max2_int min2_int max_two min_two max_three min_three max_four min_four
set_option linter.unusedVariables false
set_option linter.unusedSimpArgs false
def constableref01_order.f (a0 : Int) (a1 : Int) : Option (Int) := if a0 < a1 then (some (-1)) else (if a0 > a1 then (some 1) else (some 0))
set_option maxHeartbeats 8000000 in
set_option maxRecDepth 100000 in
theorem constableref01_order.calls (a0 : Int) (a1 : Int) (r : Int) (w : World) (h : constableref01_order.f a0 a1 = some r) :
    Calls Try.prog 59 #[.int .i64 a0, .int .i64 a1] w fun e w' => e = .returned (.int .i64 r) ∧ Drawn0 w w' := by
  have H : (if a0 < a1 then (some (-1)) else (if a0 > a1 then (some 1) else (some 0))) = some r := h
  clear h
  by_cases c3 : a0 < a1
  · rw [if_pos c3] at H
    have c3b0 : decide (a0 < a1) = true := decide_eq_true c3
    clear c3
    obtain rfl := Option.some.inj H
    go_enter Try.func59, Try.ntmps59
    go_wp2
    go_ret
    exact rz_
  · rw [if_neg c3] at H
    have c3b0 : decide (a0 < a1) = false := decide_eq_false c3
    clear c3
    by_cases c4 : a0 > a1
    · rw [if_pos c4] at H
      have c4b0 : decide (a1 < a0) = true := decide_eq_true c4
      clear c4
      obtain rfl := Option.some.inj H
      go_enter Try.func59, Try.ntmps59
      go_wp2
      go_ret
      exact rz_
    · rw [if_neg c4] at H
      have c4b0 : decide (a1 < a0) = false := decide_eq_false c4
      clear c4
      obtain rfl := Option.some.inj H
      go_enter Try.func59, Try.ntmps59
      go_wp2
      go_ret
      exact rz_
end Go.Proofs.Ytconpnagoijacaa.P
end
section
namespace Go.Proofs.Ytconpnagoijacaa.P
open Go.RowKit Go.Proofs.YtconpnagoijacaaW.PrintWords Go.Proofs.YtconpnagoijacaaW.PrintLast Go.Proofs.YtconpnagoijacaaW.PrintMore
attribute [local go_sem] max2_int min2_int max_two min_two max_three min_three max_four min_four
set_option linter.unusedVariables false
set_option linter.unusedSimpArgs false
mutual
def constableref01_Strings.l0 : Nat → ByteArray → ByteArray → Int → Option (Int)
  | 0, _, _, _ => none
  | k + 1, x0, x1, x5 => if x5 < (x0.size : Int) then (constableref01_Strings.j1 k x0 x1 x5 (decide (x5 < (x1.size : Int)))) else (constableref01_Strings.j1 k x0 x1 x5 false)
def constableref01_Strings.j1 : Nat → ByteArray → ByteArray → Int → Bool → Option (Int)
  | 0, _, _, _, _ => none
  | k + 1, x0, x1, x5, x15 => if x15 = true then (if 0 ≤ x5 then (if x5 < (x0.size : Int) then (if x5 < (x1.size : Int) then (if (bt x0 x5) = (bt x1 x5) then (constableref01_Strings.l0 k x0 x1 (wrap64 (x5 + 1))) else ((constableref01_order.f (wrap64 (bt x0 x5)) (wrap64 (bt x1 x5))).bind fun t317 => (some t317))) else (none)) else (none)) else (none)) else ((constableref01_order.f (x0.size : Int) (x1.size : Int)).bind fun t318 => (some t318))
end
def constableref01_Strings.f (k : Nat) (a0 : ByteArray) (a1 : ByteArray) : Option (Int) := constableref01_Strings.l0 k a0 a1 0
theorem constableref01_Strings.mono_l : ∀ k, (∀ y0 y1 y2, LeO (constableref01_Strings.l0 k y0 y1 y2) (constableref01_Strings.l0 (k + 1) y0 y1 y2)) ∧ (∀ y0 y1 y2 y3, LeO (constableref01_Strings.j1 k y0 y1 y2 y3) (constableref01_Strings.j1 (k + 1) y0 y1 y2 y3))
  | 0 => ⟨fun _ _ _ r h => by simp [constableref01_Strings.l0] at h, fun _ _ _ _ r h => by simp [constableref01_Strings.j1] at h⟩
  | k + 1 => by
    obtain ⟨ih0, ih1⟩ := constableref01_Strings.mono_l k
    refine ⟨?_, ?_⟩
    · intro y0 y1 y2
      unfold constableref01_Strings.l0
      repeat' first
      | (with_reducible exact ih0 _ _ _)
      | (with_reducible exact ih1 _ _ _ _)
      | (with_reducible exact LeO.refl _)
      | (with_reducible exact LeO.none _)
      | (with_reducible refine LeO.ite ?_ ?_)
      | (with_reducible refine LeO.bind ?_ (fun _ => ?_))
      | exact ih0 _ _ _
      | exact ih1 _ _ _ _
      | exact LeO.none _
      | refine LeO.ite ?_ ?_
      | refine LeO.bind ?_ (fun _ => ?_)
    · intro y0 y1 y2 y3
      unfold constableref01_Strings.j1
      repeat' first
      | (with_reducible exact ih0 _ _ _)
      | (with_reducible exact ih1 _ _ _ _)
      | (with_reducible exact LeO.refl _)
      | (with_reducible exact LeO.none _)
      | (with_reducible refine LeO.ite ?_ ?_)
      | (with_reducible refine LeO.bind ?_ (fun _ => ?_))
      | exact ih0 _ _ _
      | exact ih1 _ _ _ _
      | exact LeO.none _
      | refine LeO.ite ?_ ?_
      | refine LeO.bind ?_ (fun _ => ?_)
theorem constableref01_Strings.mono : ∀ a0 a1 k, LeO (constableref01_Strings.f k a0 a1) (constableref01_Strings.f (k + 1) a0 a1) := by
  intro a0 a1 k
  obtain ⟨ih0, ih1⟩ := constableref01_Strings.mono_l k
  unfold constableref01_Strings.f
  repeat' first
      | (with_reducible exact ih0 _ _ _)
      | (with_reducible exact ih1 _ _ _ _)
      | (with_reducible exact LeO.refl _)
      | (with_reducible exact LeO.none _)
      | (with_reducible refine LeO.ite ?_ ?_)
      | (with_reducible refine LeO.bind ?_ (fun _ => ?_))
      | exact ih0 _ _ _
      | exact ih1 _ _ _ _
      | exact LeO.none _
      | refine LeO.ite ?_ ?_
      | refine LeO.bind ?_ (fun _ => ?_)
set_option maxHeartbeats 8000000 in
set_option maxRecDepth 100000 in
theorem constableref01_Strings.calls (k : Nat) (a0 : ByteArray) (a1 : ByteArray) (r : Int) (w : World) (h : constableref01_Strings.f k a0 a1 = some r) :
    Calls Try.prog 48 #[.string a0, .string a1] w fun e w' => e = .returned (.int .i64 r) ∧ Drawn0 w w' := by
  have H : (constableref01_Strings.l0 k a0 a1 0) = some r := h
  clear h
  have H' := Aside0.mk H
  clear H
  go_enter Try.func48, Try.ntmps48
  go_wp2
  repeat (go_quiet (fail); try go_wp2)
  go_loopg [5] k (fun kq v5 w' => ∃ (x5_1 : Int), v5 = .int .i64 x5_1 ∧ Aside0 (constableref01_Strings.l0 kq a0 a1 x5_1 = some r) ∧ Aside0 (kq ≤ k) ∧ Drawn0 w w')
  case atStart => exact ⟨(0), ra_, H', ⟨Nat.le_refl _⟩, dz_⟩
  case round =>
    clear H'
    try clear p2
    obtain ⟨x5_1, rfl, HA, HK1, ⟨m1, rfl⟩⟩ := hrel
    cases gk with
    | zero => exact absurd HA.out (by simp [constableref01_Strings.l0])
    | succ k1 =>
      have H := HA.out
      clear HA
      simp only [constableref01_Strings.l0] at H
      have HC3 := Aside0.mk H
      clear H
      go_upto_region 2 with (fail)
      repeat (go_quiet (fail); go_upto_region 2 with (fail))
      go_cut [15] (fun v15 wc => ∃ (kq : Nat) (x15_2 : Bool), v15 = .bool x15_2 ∧ Aside0 (constableref01_Strings.j1 kq a0 a1 x5_1 x15_2 = some r) ∧ Aside0 (kq ≤ k1) ∧ Drawn0 w wc)
      case first =>
        have H := HC3.out
        clear HC3
        by_cases c4 : x5_1 < (a0.size : Int)
        · rw [if_pos c4] at H
          have c4b0 : decide (x5_1 < (a0.size : Int)) = true := decide_eq_true c4
          clear c4
          (first | rw [c4b0] | (simp only [i64_w, i32_w]; rw [c4b0]) | skip)
          have H' := Aside0.mk H
          clear H
          go_wp2
          repeat (go_quiet (fail); try go_wp2)
          go_meet
          case rel => exact ⟨_, (decide (x5_1 < (a1.size : Int))), ra_, H', ⟨by have := HK1.out; first | omega | exact Nat.le_refl _⟩, dz_⟩
        · rw [if_neg c4] at H
          have c4b0 : decide (x5_1 < (a0.size : Int)) = false := decide_eq_false c4
          clear c4
          (first | rw [c4b0] | (simp only [i64_w, i32_w]; rw [c4b0]) | skip)
          have H' := Aside0.mk H
          clear H
          go_wp2
          repeat (go_quiet (fail); try go_wp2)
          go_meet
          case rel => exact ⟨_, (false), ra_, H', ⟨by have := HK1.out; first | omega | exact Nat.le_refl _⟩, dz_⟩
      case rest =>
        clear HC3
        try clear p2
        try clear c4
        try clear c4b0
        try clear p2
        obtain ⟨kq, x15_2, rfl, HA, HJ2, ⟨mc2, rfl⟩⟩ := hcut
        cases kq with
        | zero => exact absurd HA.out (by simp [constableref01_Strings.j1])
        | succ kj2 =>
          have H := HA.out
          clear HA
          simp only [constableref01_Strings.j1] at H
          by_cases c5 : x15_2 = true
          · subst c5
            have H1 : (if 0 ≤ x5_1 then (if x5_1 < (a0.size : Int) then (if x5_1 < (a1.size : Int) then (if (bt a0 x5_1) = (bt a1 x5_1) then (constableref01_Strings.l0 kj2 a0 a1 (wrap64 (x5_1 + 1))) else ((constableref01_order.f (wrap64 (bt a0 x5_1)) (wrap64 (bt a1 x5_1))).bind fun t317 => (some t317))) else (none)) else (none)) else (none)) = some r := by rw [if_pos rfl] at H; exact H
            clear H
            have H := H1
            clear H1
            by_cases c6 : 0 ≤ x5_1
            · rw [if_pos c6] at H
              have c6b0 : decide (0 ≤ x5_1) = true := decide_eq_true c6
              clear c6
              by_cases c7 : x5_1 < (a0.size : Int)
              · rw [if_pos c7] at H
                have c7b0 : decide (x5_1 < (a0.size : Int)) = true := decide_eq_true c7
                clear c7
                by_cases c9 : x5_1 < (a1.size : Int)
                · rw [if_pos c9] at H
                  have c9b0 : decide (x5_1 < (a1.size : Int)) = true := decide_eq_true c9
                  clear c9
                  by_cases c11 : (bt a0 x5_1) = (bt a1 x5_1)
                  · rw [if_pos c11] at H
                    obtain ⟨c11b0, c11b1⟩ := eqB_ c11
                    clear c11
                    have H' := Aside0.mk H
                    clear H
                    have p8 : 0 ≤ (x5_1 : Int) := dt_
                    have q8 : x5_1 < (a0.size : Int) := dt_
                    have hx8 := bt_at a0 x5_1
                    replace p8 := eq_true p8
                    replace q8 := eq_true q8
                    have p10 : 0 ≤ (x5_1 : Int) := dt_
                    have q10 : x5_1 < (a1.size : Int) := dt_
                    have hx10 := bt_at a1 x5_1
                    replace p10 := eq_true p10
                    replace q10 := eq_true q10
                    go_wp2
                    repeat (go_quiet (fail); try go_wp2)
                    go_roundg kj2
                    case measure => have := HK1.out; have := HJ2.out; omega
                    case rel => exact ⟨(wrap64 (x5_1 + 1)), ra_, H', ⟨by have := HK1.out; have := HJ2.out; omega⟩, dz_⟩
                  · rw [if_neg c11] at H
                    obtain ⟨c11b0, c11b1⟩ := neB_ c11
                    replace H := Option.bind_eq_some_iff.mp H
                    obtain ⟨t317, A140, H⟩ := H
                    replace H : (some t317) = some r := H
                    have A14 := Aside0.mk A140
                    clear A140
                    obtain rfl := Option.some.inj H
                    have p8 : 0 ≤ (x5_1 : Int) := dt_
                    have q8 : x5_1 < (a0.size : Int) := dt_
                    have hx8 := bt_at a0 x5_1
                    replace p8 := eq_true p8
                    replace q8 := eq_true q8
                    have p10 : 0 ≤ (x5_1 : Int) := dt_
                    have q10 : x5_1 < (a1.size : Int) := dt_
                    have hx10 := bt_at a1 x5_1
                    replace p10 := eq_true p10
                    replace q10 := eq_true q10
                    have p12 : 0 ≤ (x5_1 : Int) := dt_
                    have q12 : x5_1 < (a0.size : Int) := dt_
                    have hx12 := bt_at a0 x5_1
                    replace p12 := eq_true p12
                    replace q12 := eq_true q12
                    have p13 : 0 ≤ (x5_1 : Int) := dt_
                    have q13 : x5_1 < (a1.size : Int) := dt_
                    have hx13 := bt_at a1 x5_1
                    replace p13 := eq_true p13
                    replace q13 := eq_true q13
                    go_wp2_with (first | (go_at_call 59; (with_reducible refine (constableref01_order.calls (wrap64 (bt a0 x5_1)) (wrap64 (bt a1 x5_1)) t317 _ A14.out).mono ?_); rintro e w' ⟨rfl, ⟨nd, rfl⟩⟩; (try first | exact ⟨rfl, _, World.drewN_drewN _ _ _⟩ | exact ⟨rfl, _, Eq.trans (World.drewN_drewN _ _ _) (congrArg (World.drewN _) (Nat.add_assoc _ _ _))⟩)))
                    repeat (go_quiet (first | (go_at_call 59; (with_reducible refine (constableref01_order.calls (wrap64 (bt a0 x5_1)) (wrap64 (bt a1 x5_1)) t317 _ A14.out).mono ?_); rintro e w' ⟨rfl, ⟨nd, rfl⟩⟩; (try first | exact ⟨rfl, _, World.drewN_drewN _ _ _⟩ | exact ⟨rfl, _, Eq.trans (World.drewN_drewN _ _ _) (congrArg (World.drewN _) (Nat.add_assoc _ _ _))⟩))); try go_wp2_with (first | (go_at_call 59; (with_reducible refine (constableref01_order.calls (wrap64 (bt a0 x5_1)) (wrap64 (bt a1 x5_1)) t317 _ A14.out).mono ?_); rintro e w' ⟨rfl, ⟨nd, rfl⟩⟩; (try first | exact ⟨rfl, _, World.drewN_drewN _ _ _⟩ | exact ⟨rfl, _, Eq.trans (World.drewN_drewN _ _ _) (congrArg (World.drewN _) (Nat.add_assoc _ _ _))⟩))))
                    go_ret
                    exact rz_
                · rw [if_neg c9] at H
                  exact absurd H (by simp)
              · rw [if_neg c7] at H
                exact absurd H (by simp)
            · rw [if_neg c6] at H
              exact absurd H (by simp)
          · replace c5 := Bool.eq_false_iff.mpr c5
            subst c5
            have H1 : ((constableref01_order.f (a0.size : Int) (a1.size : Int)).bind fun t318 => (some t318)) = some r := by rw [if_neg (show ¬ (false = true) by decide)] at H; exact H
            clear H
            have H := H1
            clear H1
            replace H := Option.bind_eq_some_iff.mp H
            obtain ⟨t318, A150, H⟩ := H
            replace H : (some t318) = some r := H
            have A15 := Aside0.mk A150
            clear A150
            obtain rfl := Option.some.inj H
            go_wp2_with (first | (go_at_call 59; (with_reducible refine (constableref01_order.calls (a0.size : Int) (a1.size : Int) t318 _ A15.out).mono ?_); rintro e w' ⟨rfl, ⟨nd, rfl⟩⟩; (try first | exact ⟨rfl, _, World.drewN_drewN _ _ _⟩ | exact ⟨rfl, _, Eq.trans (World.drewN_drewN _ _ _) (congrArg (World.drewN _) (Nat.add_assoc _ _ _))⟩)))
            repeat (go_quiet (first | (go_at_call 59; (with_reducible refine (constableref01_order.calls (a0.size : Int) (a1.size : Int) t318 _ A15.out).mono ?_); rintro e w' ⟨rfl, ⟨nd, rfl⟩⟩; (try first | exact ⟨rfl, _, World.drewN_drewN _ _ _⟩ | exact ⟨rfl, _, Eq.trans (World.drewN_drewN _ _ _) (congrArg (World.drewN _) (Nat.add_assoc _ _ _))⟩))); try go_wp2_with (first | (go_at_call 59; (with_reducible refine (constableref01_order.calls (a0.size : Int) (a1.size : Int) t318 _ A15.out).mono ?_); rintro e w' ⟨rfl, ⟨nd, rfl⟩⟩; (try first | exact ⟨rfl, _, World.drewN_drewN _ _ _⟩ | exact ⟨rfl, _, Eq.trans (World.drewN_drewN _ _ _) (congrArg (World.drewN _) (Nat.add_assoc _ _ _))⟩))))
            go_ret
            exact rz_
end Go.Proofs.Ytconpnagoijacaa.P
end
section
namespace Go.Proofs.Ytconpnagoijacaa.P
open Go.RowKit Go.Proofs.YtconpnagoijacaaW.PrintWords Go.Proofs.YtconpnagoijacaaW.PrintLast Go.Proofs.YtconpnagoijacaaW.PrintMore
attribute [local go_sem] max2_int min2_int max_two min_two max_three min_three max_four min_four
set_option linter.unusedVariables false
set_option linter.unusedSimpArgs false
def constableref01_Binds.l0 : Nat → List (S62) → Int → Option (Bool)
  | 0, _, _ => none
  | k + 1, x0, x3 => if x3 < (x0.length : Int) then (if 0 ≤ x3 then ((constableref01_Word.f k ((rd_T62 x0 x3).f0) true).bind fun t320 => (if t320 = true then ((constableref01_Value.f k ((rd_T62 x0 x3).f1.f0) ((rd_T62 x0 x3).f1.f1) ((rd_T62 x0 x3).f1.f2)).bind fun t322 => (if t322 = true then (if x3 > 0 then (if 0 ≤ (wrap64 (x3 - 1)) then (if (wrap64 (x3 - 1)) < (x0.length : Int) then ((constableref01_Strings.f k ((rd_T62 x0 (wrap64 (x3 - 1))).f0) ((rd_T62 x0 x3).f0)).bind fun t325 => (if t325 ≥ 0 then (some false) else (constableref01_Binds.l0 k x0 (wrap64 (x3 + 1))))) else (none)) else (none)) else (constableref01_Binds.l0 k x0 (wrap64 (x3 + 1)))) else (some false))) else (some false))) else (none)) else (some true)
def constableref01_Binds.f (k : Nat) (l0 : List (S62)) : Option (Bool) := if (l0.length : Int) > 100 then (some false) else (constableref01_Binds.l0 k l0 0)
theorem constableref01_Binds.mono_l : ∀ k, (∀ y0 y1, LeO (constableref01_Binds.l0 k y0 y1) (constableref01_Binds.l0 (k + 1) y0 y1))
  | 0 => fun _ _ r h => by simp [constableref01_Binds.l0] at h
  | k + 1 => by
    have ih0 := constableref01_Binds.mono_l k
    · intro y0 y1
      unfold constableref01_Binds.l0
      repeat' first
      | (with_reducible exact ih0 _ _)
      | (with_reducible exact constableref01_Strings.mono _ _ _)
      | (with_reducible exact constableref01_Value.mono _ _ _ _)
      | (with_reducible exact constableref01_Word.mono _ _ _)
      | (with_reducible exact LeO.refl _)
      | (with_reducible exact LeO.none _)
      | (with_reducible refine LeO.ite ?_ ?_)
      | (with_reducible refine LeO.bind ?_ (fun _ => ?_))
      | exact ih0 _ _
      | exact constableref01_Strings.mono _ _ _
      | exact constableref01_Value.mono _ _ _ _
      | exact constableref01_Word.mono _ _ _
      | exact LeO.none _
      | refine LeO.ite ?_ ?_
      | refine LeO.bind ?_ (fun _ => ?_)
theorem constableref01_Binds.mono : ∀ a0 k, LeO (constableref01_Binds.f k a0) (constableref01_Binds.f (k + 1) a0) := by
  intro a0 k
  have ih0 := constableref01_Binds.mono_l k
  unfold constableref01_Binds.f
  repeat' first
      | (with_reducible exact ih0 _ _)
      | (with_reducible exact constableref01_Strings.mono _ _ _)
      | (with_reducible exact constableref01_Value.mono _ _ _ _)
      | (with_reducible exact constableref01_Word.mono _ _ _)
      | (with_reducible exact LeO.refl _)
      | (with_reducible exact LeO.none _)
      | (with_reducible refine LeO.ite ?_ ?_)
      | (with_reducible refine LeO.bind ?_ (fun _ => ?_))
      | exact ih0 _ _
      | exact constableref01_Strings.mono _ _ _
      | exact constableref01_Value.mono _ _ _ _
      | exact constableref01_Word.mono _ _ _
      | exact LeO.none _
      | refine LeO.ite ?_ ?_
      | refine LeO.bind ?_ (fun _ => ?_)
def constableref01_Binds.T6 : Bool × List (List Nat × List Nat) := (true, [([], []), ([], []), ([0, 1], [0, 1]), ([2], [2]), ([3], [3]), ([4], [4]), ([5], [5]), ([6, 5], [6]), ([7], [7]), ([7], [7]), ([8, 9, 7], [7, 8, 9]), ([10, 7], [7, 10]), ([11, 7], [7, 11]), ([12, 7, 7], [7, 12]), ([13, 7], [7, 13]), ([7, 14], [7, 14]), ([15, 13], [15]), ([16], [16]), ([17, 16], [16, 17]), ([18, 16, 16], [16, 18]), ([19], [19]), ([19], [19]), ([21, 19], [19, 21]), ([20, 22, 19], [19, 20, 22]), ([23, 19], [19, 23]), ([24, 19], [19, 24]), ([19], [19]), ([19], [19]), ([26, 27, 19], [19, 26, 27]), ([28, 19], [19, 28]), ([29, 19], [19, 29]), ([25, 30, 19, 19], [19, 25, 30]), ([31, 19], [19, 31]), ([19, 32, 16], [16, 19, 32]), ([16, 33], [16, 33])])
def constableref01_Binds.B6 : List Nat := [0, 0, 3, 7, 15, 31, 63, 127, 255, 255, 1023, 2047, 4095, 8191, 16383, 32767, 65535, 131071, 262143, 524287, 1048575, 1048575, 3145727, 8388607, 16777215, 33554431, 1048575, 1048575, 202375167, 470810623, 1007681535, 2147483647, 4294967295, 8589934591, 17179869183]
theorem constableref01_Binds.tab6 : rtab .any (opsOf Try.f31 6) = constableref01_Binds.T6 := by kernel_rfl
theorem constableref01_Binds.bits6 : waitsOk constableref01_Binds.T6.2 constableref01_Binds.B6 = true := by kernel_rfl
set_option maxHeartbeats 8000000 in
set_option maxRecDepth 100000 in
theorem constableref01_Binds.calls (k : Nat) (A0 : Option Addr) (c0 : Nat) (l0 : List (S62)) (r : Bool) (w : World) (hr0 : Kd.C k62 w A0 l0.length l0) (hc0 : l0.length ≤ c0) (h : constableref01_Binds.f k l0 = some r) :
    Calls Try.prog 31 #[.slice A0 l0.length c0] w fun e w' => e = .returned (.bool r) ∧ Below w.heap.size w w' := by
  have hu40 := Try.underlying40
  have HR0 := Aside0.mk hr0
  have HC0 := Aside0.mk hc0
  clear hr0 hc0
  have HB := Aside0.mk (Below.refl w.heap.size w)
  have H : (if (l0.length : Int) > 100 then (some false) else (constableref01_Binds.l0 k l0 0)) = some r := h
  clear h
  by_cases c2 : (l0.length : Int) > 100
  · rw [if_pos c2] at H
    have c2b0 : decide (100 < (l0.length : Int)) = true := decide_eq_true c2
    have c2b1 : decide (100 < l0.length) = true := decide_eq_true (by omega)
    clear c2
    obtain rfl := Option.some.inj H
    go_enter Try.func31, Try.ntmps31
    go_wp2
    go_ret
    exact ⟨by first | rfl | (simp [errW_none, errW_some] <;> rfl) | (simp [*, errW_none, errW_some] <;> rfl), by repeat (first | (with_reducible first | exact HB.out | apply below_alloc | apply pw_below_drewN | apply below_drew1) | exact HB.out)⟩
  · rw [if_neg c2] at H
    have c2b0 : decide (100 < (l0.length : Int)) = false := decide_eq_false c2
    have c2b1 : decide (100 < l0.length) = false := decide_eq_false (by omega)
    clear c2
    have H' := Aside0.mk H
    clear H
    go_enter Try.func31, Try.ntmps31
    go_wp2
    go_loopg [3] k (fun kq v3 w' => ∃ (x3_1 : Int), v3 = .int .i64 x3_1 ∧ Aside0 (constableref01_Binds.l0 kq l0 x3_1 = some r) ∧ Aside0 (kq ≤ k) ∧ Aside0 (Below w.heap.size w w'))
    case atStart => exact ⟨(0), ra_, H', ⟨Nat.le_refl _⟩, ⟨by repeat (first | (with_reducible first | exact HB.out | apply below_alloc | apply pw_below_drewN | apply below_drew1) | exact HB.out)⟩⟩
    case round =>
      clear H'
      try clear c2
      try clear c2b0
      try clear c2b1
      try clear p2
      obtain ⟨x3_1, rfl, HA, HK1, HB⟩ := hrel
      cases gk with
      | zero => exact absurd HA.out (by simp [constableref01_Binds.l0])
      | succ k1 =>
        have H := HA.out
        clear HA
        simp only [constableref01_Binds.l0] at H
        by_cases c3 : x3_1 < (l0.length : Int)
        · rw [if_pos c3] at H
          have c3b0 : decide (x3_1 < (l0.length : Int)) = true := decide_eq_true c3
          clear c3
          by_cases c4 : 0 ≤ x3_1
          · rw [if_pos c4] at H
            have c4b0 : decide (0 ≤ x3_1) = true := decide_eq_true c4
            clear c4
            replace H := Option.bind_eq_some_iff.mp H
            obtain ⟨t320, A50, H⟩ := H
            replace H : (if t320 = true then ((constableref01_Value.f k1 ((rd_T62 l0 x3_1).f1.f0) ((rd_T62 l0 x3_1).f1.f1) ((rd_T62 l0 x3_1).f1.f2)).bind fun t322 => (if t322 = true then (if x3_1 > 0 then (if 0 ≤ (wrap64 (x3_1 - 1)) then (if (wrap64 (x3_1 - 1)) < (l0.length : Int) then ((constableref01_Strings.f k1 ((rd_T62 l0 (wrap64 (x3_1 - 1))).f0) ((rd_T62 l0 x3_1).f0)).bind fun t325 => (if t325 ≥ 0 then (some false) else (constableref01_Binds.l0 k1 l0 (wrap64 (x3_1 + 1))))) else (none)) else (none)) else (constableref01_Binds.l0 k1 l0 (wrap64 (x3_1 + 1)))) else (some false))) else (some false)) = some r := H
            have A5 := Aside0.mk A50
            clear A50
            by_cases c6 : t320 = true
            · subst c6
              have H1 : ((constableref01_Value.f k1 ((rd_T62 l0 x3_1).f1.f0) ((rd_T62 l0 x3_1).f1.f1) ((rd_T62 l0 x3_1).f1.f2)).bind fun t322 => (if t322 = true then (if x3_1 > 0 then (if 0 ≤ (wrap64 (x3_1 - 1)) then (if (wrap64 (x3_1 - 1)) < (l0.length : Int) then ((constableref01_Strings.f k1 ((rd_T62 l0 (wrap64 (x3_1 - 1))).f0) ((rd_T62 l0 x3_1).f0)).bind fun t325 => (if t325 ≥ 0 then (some false) else (constableref01_Binds.l0 k1 l0 (wrap64 (x3_1 + 1))))) else (none)) else (none)) else (constableref01_Binds.l0 k1 l0 (wrap64 (x3_1 + 1)))) else (some false))) = some r := by rw [if_pos rfl] at H; exact H
              clear H
              have H := H1
              clear H1
              replace H := Option.bind_eq_some_iff.mp H
              obtain ⟨t322, A70, H⟩ := H
              replace H : (if t322 = true then (if x3_1 > 0 then (if 0 ≤ (wrap64 (x3_1 - 1)) then (if (wrap64 (x3_1 - 1)) < (l0.length : Int) then ((constableref01_Strings.f k1 ((rd_T62 l0 (wrap64 (x3_1 - 1))).f0) ((rd_T62 l0 x3_1).f0)).bind fun t325 => (if t325 ≥ 0 then (some false) else (constableref01_Binds.l0 k1 l0 (wrap64 (x3_1 + 1))))) else (none)) else (none)) else (constableref01_Binds.l0 k1 l0 (wrap64 (x3_1 + 1)))) else (some false)) = some r := H
              have A7 := Aside0.mk A70
              clear A70
              by_cases c8 : t322 = true
              · subst c8
                have H1 : (if x3_1 > 0 then (if 0 ≤ (wrap64 (x3_1 - 1)) then (if (wrap64 (x3_1 - 1)) < (l0.length : Int) then ((constableref01_Strings.f k1 ((rd_T62 l0 (wrap64 (x3_1 - 1))).f0) ((rd_T62 l0 x3_1).f0)).bind fun t325 => (if t325 ≥ 0 then (some false) else (constableref01_Binds.l0 k1 l0 (wrap64 (x3_1 + 1))))) else (none)) else (none)) else (constableref01_Binds.l0 k1 l0 (wrap64 (x3_1 + 1)))) = some r := by rw [if_pos rfl] at H; exact H
                clear H
                have H := H1
                clear H1
                by_cases c9 : x3_1 > 0
                · rw [if_pos c9] at H
                  have c9b0 : decide (0 < x3_1) = true := decide_eq_true c9
                  clear c9
                  obtain ⟨ji10, hji10⟩ : ∃ j_ : Int, (wrap64 (x3_1 - 1)) = j_ := ⟨_, rfl⟩
                  replace H : (if 0 ≤ (ji10) then (if (ji10) < (l0.length : Int) then ((constableref01_Strings.f k1 ((rd_T62 l0 (ji10)).f0) ((rd_T62 l0 x3_1).f0)).bind fun t325 => (if t325 ≥ 0 then (some false) else (constableref01_Binds.l0 k1 l0 (wrap64 (x3_1 + 1))))) else (none)) else (none)) = some r := by first | (rw [hji10] at H; exact H) | (simp only [hji10] at H ⊢; exact H)
                  (try rw [hji10] at A5)
                  (try rw [hji10] at A7)
                  have hji10w : (IntKind.i64.wrap (x3_1 - 1)) = ji10 := (i64_w _).trans hji10
                  by_cases c11 : 0 ≤ (ji10)
                  · rw [if_pos c11] at H
                    have c11b0 : decide (0 ≤ (ji10)) = true := decide_eq_true c11
                    clear c11
                    by_cases c12 : (ji10) < (l0.length : Int)
                    · rw [if_pos c12] at H
                      have c12b0 : decide ((ji10) < (l0.length : Int)) = true := decide_eq_true c12
                      clear c12
                      replace H := Option.bind_eq_some_iff.mp H
                      obtain ⟨t325, A130, H⟩ := H
                      replace H : (if t325 ≥ 0 then (some false) else (constableref01_Binds.l0 k1 l0 (wrap64 (x3_1 + 1)))) = some r := H
                      have A13 := Aside0.mk A130
                      clear A130
                      by_cases c14 : t325 ≥ 0
                      · rw [if_pos c14] at H
                        have c14b0 : decide (0 ≤ t325) = true := decide_eq_true c14
                        clear c14
                        obtain rfl := Option.some.inj H
                        try go_wp2
                        have n0_ := Aside0.mk (below_drew1 HB.out)
                        clear HB
                        have HB := n0_
                        clear n0_
                        have p319 : 0 ≤ (x3_1 : Int) := dt_
                        have q319 : x3_1 < (l0.length : Int) := dt_
                        obtain ⟨ad319, e319, hx319_0, hx319_1, hx319_2, hx319_3⟩ := at_T62 HR0.out x3_1 p319 q319
                        have hw319_3 := hx319_3
                        have hw319_2 := hx319_2
                        have hw319_1 := hx319_1
                        have hw319_0 := hx319_0
                        cases e319
                        replace hx319_0 := cm_ HB hx319_0
                        replace hx319_1 := cm_ HB hx319_1
                        replace hx319_2 := cm_ HB hx319_2
                        replace hx319_3 := cm_ HB hx319_3
                        replace p319 := eq_true p319
                        replace q319 := eq_true q319
                        have p321 : 0 ≤ (x3_1 : Int) := dt_
                        have q321 : x3_1 < (l0.length : Int) := dt_
                        obtain ⟨ad321, e321, hx321_0, hx321_1, hx321_2, hx321_3⟩ := at_T62 HR0.out x3_1 p321 q321
                        have hw321_3 := hx321_3
                        have hw321_2 := hx321_2
                        have hw321_1 := hx321_1
                        have hw321_0 := hx321_0
                        obtain rfl : ad319 = ad321 := (by injection e321)
                        replace hx321_0 := cm_ HB hx321_0
                        replace hx321_1 := cm_ HB hx321_1
                        replace hx321_2 := cm_ HB hx321_2
                        replace hx321_3 := cm_ HB hx321_3
                        replace p321 := eq_true p321
                        replace q321 := eq_true q321
                        have p323 : 0 ≤ ((ji10) : Int) := dt_
                        have q323 : (ji10) < (l0.length : Int) := dt_
                        obtain ⟨ad323, e323, hx323_0, hx323_1, hx323_2, hx323_3⟩ := at_T62 HR0.out (ji10) p323 q323
                        have hw323_3 := hx323_3
                        have hw323_2 := hx323_2
                        have hw323_1 := hx323_1
                        have hw323_0 := hx323_0
                        obtain rfl : ad319 = ad323 := (by injection e323)
                        replace hx323_0 := cm_ HB hx323_0
                        replace hx323_1 := cm_ HB hx323_1
                        replace hx323_2 := cm_ HB hx323_2
                        replace hx323_3 := cm_ HB hx323_3
                        replace p323 := eq_true p323
                        replace q323 := eq_true q323
                        have p324 : 0 ≤ (x3_1 : Int) := dt_
                        have q324 : x3_1 < (l0.length : Int) := dt_
                        obtain ⟨ad324, e324, hx324_0, hx324_1, hx324_2, hx324_3⟩ := at_T62 HR0.out x3_1 p324 q324
                        have hw324_3 := hx324_3
                        have hw324_2 := hx324_2
                        have hw324_1 := hx324_1
                        have hw324_0 := hx324_0
                        obtain rfl : ad319 = ad324 := (by injection e324)
                        replace hx324_0 := cm_ HB hx324_0
                        replace hx324_1 := cm_ HB hx324_1
                        replace hx324_2 := cm_ HB hx324_2
                        replace hx324_3 := cm_ HB hx324_3
                        replace p324 := eq_true p324
                        replace q324 := eq_true q324
                        refine start_ (n := 35) (S := fun w' => w'.cell? (ad319.add ((x3_1).toNat * 4)) = some (.string ((rd_T62 l0 x3_1).f0)) ∧ w'.cell? ⟨(ad319.add ((x3_1).toNat * 4)).block, (ad319.add ((x3_1).toNat * 4)).off + 1, none⟩ = some (.int .i64 ((rd_T62 l0 x3_1).f1.f0)) ∧ w'.cell? ⟨(ad319.add ((x3_1).toNat * 4)).block, (ad319.add ((x3_1).toNat * 4)).off + 2, none⟩ = some (.int .i64 ((rd_T62 l0 x3_1).f1.f1)) ∧ w'.cell? ⟨(ad319.add ((x3_1).toNat * 4)).block, (ad319.add ((x3_1).toNat * 4)).off + 3, none⟩ = some (.string ((rd_T62 l0 x3_1).f1.f2)) ∧ w'.cell? (ad319.add ((x3_1).toNat * 4)) = some (.string ((rd_T62 l0 x3_1).f0)) ∧ w'.cell? ⟨(ad319.add ((x3_1).toNat * 4)).block, (ad319.add ((x3_1).toNat * 4)).off + 1, none⟩ = some (.int .i64 ((rd_T62 l0 x3_1).f1.f0)) ∧ w'.cell? ⟨(ad319.add ((x3_1).toNat * 4)).block, (ad319.add ((x3_1).toNat * 4)).off + 2, none⟩ = some (.int .i64 ((rd_T62 l0 x3_1).f1.f1)) ∧ w'.cell? ⟨(ad319.add ((x3_1).toNat * 4)).block, (ad319.add ((x3_1).toNat * 4)).off + 3, none⟩ = some (.string ((rd_T62 l0 x3_1).f1.f2)) ∧ w'.cell? (ad319.add (((ji10)).toNat * 4)) = some (.string ((rd_T62 l0 (ji10)).f0)) ∧ w'.cell? ⟨(ad319.add (((ji10)).toNat * 4)).block, (ad319.add (((ji10)).toNat * 4)).off + 1, none⟩ = some (.int .i64 ((rd_T62 l0 (ji10)).f1.f0)) ∧ w'.cell? ⟨(ad319.add (((ji10)).toNat * 4)).block, (ad319.add (((ji10)).toNat * 4)).off + 2, none⟩ = some (.int .i64 ((rd_T62 l0 (ji10)).f1.f1)) ∧ w'.cell? ⟨(ad319.add (((ji10)).toNat * 4)).block, (ad319.add (((ji10)).toNat * 4)).off + 3, none⟩ = some (.string ((rd_T62 l0 (ji10)).f1.f2)) ∧ w'.cell? (ad319.add ((x3_1).toNat * 4)) = some (.string ((rd_T62 l0 x3_1).f0)) ∧ w'.cell? ⟨(ad319.add ((x3_1).toNat * 4)).block, (ad319.add ((x3_1).toNat * 4)).off + 1, none⟩ = some (.int .i64 ((rd_T62 l0 x3_1).f1.f0)) ∧ w'.cell? ⟨(ad319.add ((x3_1).toNat * 4)).block, (ad319.add ((x3_1).toNat * 4)).off + 2, none⟩ = some (.int .i64 ((rd_T62 l0 x3_1).f1.f1)) ∧ w'.cell? ⟨(ad319.add ((x3_1).toNat * 4)).block, (ad319.add ((x3_1).toNat * 4)).off + 3, none⟩ = some (.string ((rd_T62 l0 x3_1).f1.f2))) (ds := []) (mk_ 35 0) (by kernel_rfl) rfl rfl ⟨(cl_ HB hw319_0), (cl_ HB hw319_1), (cl_ HB hw319_2), (cl_ HB hw319_3), (cl_ HB hw321_0), (cl_ HB hw321_1), (cl_ HB hw321_2), (cl_ HB hw321_3), (cl_ HB hw323_0), (cl_ HB hw323_1), (cl_ HB hw323_2), (cl_ HB hw323_3), (cl_ HB hw324_0), (cl_ HB hw324_1), (cl_ HB hw324_2), (cl_ HB hw324_3)⟩ (fun hHeld => ?_); refine with_tabW constableref01_Binds.tab6 constableref01_Binds.bits6 (fun HT_ HW_ => ?_)
                        generalize wr.drew = w15 at HB hx319_0 hx319_1 hx319_2 hx319_3 hx321_0 hx321_1 hx321_2 hx321_3 hx323_0 hx323_1 hx323_2 hx323_3 hx324_0 hx324_1 hx324_2 hx324_3 hHeld ⊢
                        refine pu_ 0 13 1 HT_ ?_; refine pu_ 1 14 3 HT_ ?_; refine pu_ 2 15 7 HT_ ?_; refine pu_ 3 16 15 HT_ ?_; refine tk_ 4 17 31 HT_ HW_ hHeld ?_
                        refine one_ (i := 5) (N := some 18) (mk_ 35 63) rfl rfl (one_of HT_.out (by kernel_rfl)) (by decide) (fun K hK => ?_)
                        refine goes_ Try.func45 (by kernel_rfl) rfl #[.string ((rd_T62 l0 x3_1).f0), .bool true] (by rfl) rfl rfl ga_ ?_
                        with_reducible refine (constableref01_Word.calls k1 ((rd_T62 l0 x3_1).f0) true true _ A5.out).mono ?_
                        rintro e w' ⟨rfl, ⟨nd, rfl⟩⟩
                        refine ⟨_, rfl, ?_⟩
                        refine hK.out _ _ ⟨(cl_ HB hw319_0), (cl_ HB hw319_1), (cl_ HB hw319_2), (cl_ HB hw319_3), (cl_ HB hw321_0), (cl_ HB hw321_1), (cl_ HB hw321_2), (cl_ HB hw321_3), (cl_ HB hw323_0), (cl_ HB hw323_1), (cl_ HB hw323_2), (cl_ HB hw323_3), (cl_ HB hw324_0), (cl_ HB hw324_1), (cl_ HB hw324_2), (cl_ HB hw324_3)⟩ (fun hHeld => ?_)
                        clear hK K
                        refine nm_ 18 ?_; refine pu_ 6 19 127 HT_ ?_; refine pu_ 7 20 255 HT_ ?_; refine pu_ 8 21 511 HT_ ?_; refine pu_ 9 22 1023 HT_ ?_; refine pu_ 10 23 2047 HT_ ?_; refine pu_ 11 24 4095 HT_ ?_; refine tk_ 12 25 8191 HT_ HW_ hHeld ?_
                        refine one_ (i := 13) (N := some 26) (mk_ 35 16383) rfl rfl (one_of HT_.out (by kernel_rfl)) (by decide) (fun K hK => ?_)
                        refine goes_ Try.func46 (by kernel_rfl) rfl #[.agg #[.int .i64 ((rd_T62 l0 x3_1).f1.f0), .int .i64 ((rd_T62 l0 x3_1).f1.f1), .string ((rd_T62 l0 x3_1).f1.f2)]] (by rfl) rfl rfl ga_ ?_
                        with_reducible refine (constableref01_Value.calls k1 ((rd_T62 l0 x3_1).f1.f0) ((rd_T62 l0 x3_1).f1.f1) ((rd_T62 l0 x3_1).f1.f2) true _ A7.out).mono ?_
                        rintro e w16 ⟨rfl, hb⟩
                        refine ⟨_, rfl, ?_⟩
                        have n0_ := bs_ (be_ HB) hb
                        clear HB
                        have HB := n0_
                        clear n0_
                        (try clear hb)
                        (try clear hb2)
                        (try clear hk)
                        (try clear hi)
                        refine hK.out _ _ ⟨(cl_ HB hw319_0), (cl_ HB hw319_1), (cl_ HB hw319_2), (cl_ HB hw319_3), (cl_ HB hw321_0), (cl_ HB hw321_1), (cl_ HB hw321_2), (cl_ HB hw321_3), (cl_ HB hw323_0), (cl_ HB hw323_1), (cl_ HB hw323_2), (cl_ HB hw323_3), (cl_ HB hw324_0), (cl_ HB hw324_1), (cl_ HB hw324_2), (cl_ HB hw324_3)⟩ (fun hHeld => ?_)
                        clear hK K
                        refine nm_ 26 ?_; refine pu_ 14 27 32767 HT_ ?_; refine pu_ 15 28 65535 HT_ ?_; refine pu_ 16 29 131071 HT_ ?_; refine pu_ 17 30 262143 HT_ ?_; refine pu_ 18 31 524287 HT_ ?_; refine pu_ 19 32 1048575 HT_ ?_; refine pu_ 20 33 2097151 HT_ ?_; refine pu_ 21 34 4194303 HT_ ?_; refine pu_ 22 35 8388607 HT_ ?_; refine pu_ 23 36 16777215 HT_ ?_; refine pu_ 24 37 33554431 HT_ ?_; refine pu_ 26 39 100663295 HT_ ?_; refine pu_ 27 40 234881023 HT_ ?_; refine pu_ 28 41 503316479 HT_ ?_; refine pu_ 29 42 1040187391 HT_ ?_; refine tk_ 25 38 1073741823 HT_ HW_ hHeld ?_; refine tk_ 30 43 2147483647 HT_ HW_ hHeld ?_
                        refine one_ (i := 31) (N := some 44) (mk_ 35 4294967295) rfl rfl (one_of HT_.out (by kernel_rfl)) (by decide) (fun K hK => ?_)
                        refine goes_ Try.func48 (by kernel_rfl) rfl #[.string ((rd_T62 l0 (ji10)).f0), .string ((rd_T62 l0 x3_1).f0)] (by rfl) rfl rfl (by (try simp only [List.map_toArray, List.map_cons, List.map_nil]); first | done | (simp only [hji10]; rfl) | rfl | (simp only [List.length_drop, List.length_take]; rfl)) ?_
                        with_reducible refine (constableref01_Strings.calls k1 ((rd_T62 l0 (ji10)).f0) ((rd_T62 l0 x3_1).f0) t325 _ A13.out).mono ?_
                        rintro e w' ⟨rfl, ⟨nd, rfl⟩⟩
                        refine ⟨_, rfl, ?_⟩
                        refine hK.out _ _ ⟨(cl_ HB hw319_0), (cl_ HB hw319_1), (cl_ HB hw319_2), (cl_ HB hw319_3), (cl_ HB hw321_0), (cl_ HB hw321_1), (cl_ HB hw321_2), (cl_ HB hw321_3), (cl_ HB hw323_0), (cl_ HB hw323_1), (cl_ HB hw323_2), (cl_ HB hw323_3), (cl_ HB hw324_0), (cl_ HB hw324_1), (cl_ HB hw324_2), (cl_ HB hw324_3)⟩ (fun hHeld => ?_)
                        clear hK K
                        refine nm_ 44 ?_; refine pu_ 32 45 8589934591 HT_ ?_; refine pu_ 33 46 17179869183 HT_ ?_; refine pu_ 34 47 34359738367 HT_ ?_
                        refine done_ (done_of HT_.out (by kernel_rfl)) ?_
                        try go_wp2
                        go_ret
                        exact ⟨by first | rfl | (simp [errW_none, errW_some] <;> rfl) | (simp only [← hji10]; first | rfl | (simp [errW_none, errW_some] <;> rfl)) | (simp [*, errW_none, errW_some] <;> rfl), by repeat (first | (with_reducible first | exact HB.out | apply below_alloc | apply pw_below_drewN | apply below_drew1) | exact HB.out)⟩
                      · rw [if_neg c14] at H
                        have c14b0 : decide (0 ≤ t325) = false := decide_eq_false c14
                        clear c14
                        have H' := Aside0.mk H
                        clear H
                        try go_wp2
                        have n0_ := Aside0.mk (below_drew1 HB.out)
                        clear HB
                        have HB := n0_
                        clear n0_
                        have p319 : 0 ≤ (x3_1 : Int) := dt_
                        have q319 : x3_1 < (l0.length : Int) := dt_
                        obtain ⟨ad319, e319, hx319_0, hx319_1, hx319_2, hx319_3⟩ := at_T62 HR0.out x3_1 p319 q319
                        have hw319_3 := hx319_3
                        have hw319_2 := hx319_2
                        have hw319_1 := hx319_1
                        have hw319_0 := hx319_0
                        cases e319
                        replace hx319_0 := cm_ HB hx319_0
                        replace hx319_1 := cm_ HB hx319_1
                        replace hx319_2 := cm_ HB hx319_2
                        replace hx319_3 := cm_ HB hx319_3
                        replace p319 := eq_true p319
                        replace q319 := eq_true q319
                        have p321 : 0 ≤ (x3_1 : Int) := dt_
                        have q321 : x3_1 < (l0.length : Int) := dt_
                        obtain ⟨ad321, e321, hx321_0, hx321_1, hx321_2, hx321_3⟩ := at_T62 HR0.out x3_1 p321 q321
                        have hw321_3 := hx321_3
                        have hw321_2 := hx321_2
                        have hw321_1 := hx321_1
                        have hw321_0 := hx321_0
                        obtain rfl : ad319 = ad321 := (by injection e321)
                        replace hx321_0 := cm_ HB hx321_0
                        replace hx321_1 := cm_ HB hx321_1
                        replace hx321_2 := cm_ HB hx321_2
                        replace hx321_3 := cm_ HB hx321_3
                        replace p321 := eq_true p321
                        replace q321 := eq_true q321
                        have p323 : 0 ≤ ((ji10) : Int) := dt_
                        have q323 : (ji10) < (l0.length : Int) := dt_
                        obtain ⟨ad323, e323, hx323_0, hx323_1, hx323_2, hx323_3⟩ := at_T62 HR0.out (ji10) p323 q323
                        have hw323_3 := hx323_3
                        have hw323_2 := hx323_2
                        have hw323_1 := hx323_1
                        have hw323_0 := hx323_0
                        obtain rfl : ad319 = ad323 := (by injection e323)
                        replace hx323_0 := cm_ HB hx323_0
                        replace hx323_1 := cm_ HB hx323_1
                        replace hx323_2 := cm_ HB hx323_2
                        replace hx323_3 := cm_ HB hx323_3
                        replace p323 := eq_true p323
                        replace q323 := eq_true q323
                        have p324 : 0 ≤ (x3_1 : Int) := dt_
                        have q324 : x3_1 < (l0.length : Int) := dt_
                        obtain ⟨ad324, e324, hx324_0, hx324_1, hx324_2, hx324_3⟩ := at_T62 HR0.out x3_1 p324 q324
                        have hw324_3 := hx324_3
                        have hw324_2 := hx324_2
                        have hw324_1 := hx324_1
                        have hw324_0 := hx324_0
                        obtain rfl : ad319 = ad324 := (by injection e324)
                        replace hx324_0 := cm_ HB hx324_0
                        replace hx324_1 := cm_ HB hx324_1
                        replace hx324_2 := cm_ HB hx324_2
                        replace hx324_3 := cm_ HB hx324_3
                        replace p324 := eq_true p324
                        replace q324 := eq_true q324
                        refine start_ (n := 35) (S := fun w' => w'.cell? (ad319.add ((x3_1).toNat * 4)) = some (.string ((rd_T62 l0 x3_1).f0)) ∧ w'.cell? ⟨(ad319.add ((x3_1).toNat * 4)).block, (ad319.add ((x3_1).toNat * 4)).off + 1, none⟩ = some (.int .i64 ((rd_T62 l0 x3_1).f1.f0)) ∧ w'.cell? ⟨(ad319.add ((x3_1).toNat * 4)).block, (ad319.add ((x3_1).toNat * 4)).off + 2, none⟩ = some (.int .i64 ((rd_T62 l0 x3_1).f1.f1)) ∧ w'.cell? ⟨(ad319.add ((x3_1).toNat * 4)).block, (ad319.add ((x3_1).toNat * 4)).off + 3, none⟩ = some (.string ((rd_T62 l0 x3_1).f1.f2)) ∧ w'.cell? (ad319.add ((x3_1).toNat * 4)) = some (.string ((rd_T62 l0 x3_1).f0)) ∧ w'.cell? ⟨(ad319.add ((x3_1).toNat * 4)).block, (ad319.add ((x3_1).toNat * 4)).off + 1, none⟩ = some (.int .i64 ((rd_T62 l0 x3_1).f1.f0)) ∧ w'.cell? ⟨(ad319.add ((x3_1).toNat * 4)).block, (ad319.add ((x3_1).toNat * 4)).off + 2, none⟩ = some (.int .i64 ((rd_T62 l0 x3_1).f1.f1)) ∧ w'.cell? ⟨(ad319.add ((x3_1).toNat * 4)).block, (ad319.add ((x3_1).toNat * 4)).off + 3, none⟩ = some (.string ((rd_T62 l0 x3_1).f1.f2)) ∧ w'.cell? (ad319.add (((ji10)).toNat * 4)) = some (.string ((rd_T62 l0 (ji10)).f0)) ∧ w'.cell? ⟨(ad319.add (((ji10)).toNat * 4)).block, (ad319.add (((ji10)).toNat * 4)).off + 1, none⟩ = some (.int .i64 ((rd_T62 l0 (ji10)).f1.f0)) ∧ w'.cell? ⟨(ad319.add (((ji10)).toNat * 4)).block, (ad319.add (((ji10)).toNat * 4)).off + 2, none⟩ = some (.int .i64 ((rd_T62 l0 (ji10)).f1.f1)) ∧ w'.cell? ⟨(ad319.add (((ji10)).toNat * 4)).block, (ad319.add (((ji10)).toNat * 4)).off + 3, none⟩ = some (.string ((rd_T62 l0 (ji10)).f1.f2)) ∧ w'.cell? (ad319.add ((x3_1).toNat * 4)) = some (.string ((rd_T62 l0 x3_1).f0)) ∧ w'.cell? ⟨(ad319.add ((x3_1).toNat * 4)).block, (ad319.add ((x3_1).toNat * 4)).off + 1, none⟩ = some (.int .i64 ((rd_T62 l0 x3_1).f1.f0)) ∧ w'.cell? ⟨(ad319.add ((x3_1).toNat * 4)).block, (ad319.add ((x3_1).toNat * 4)).off + 2, none⟩ = some (.int .i64 ((rd_T62 l0 x3_1).f1.f1)) ∧ w'.cell? ⟨(ad319.add ((x3_1).toNat * 4)).block, (ad319.add ((x3_1).toNat * 4)).off + 3, none⟩ = some (.string ((rd_T62 l0 x3_1).f1.f2))) (ds := []) (mk_ 35 0) (by kernel_rfl) rfl rfl ⟨(cl_ HB hw319_0), (cl_ HB hw319_1), (cl_ HB hw319_2), (cl_ HB hw319_3), (cl_ HB hw321_0), (cl_ HB hw321_1), (cl_ HB hw321_2), (cl_ HB hw321_3), (cl_ HB hw323_0), (cl_ HB hw323_1), (cl_ HB hw323_2), (cl_ HB hw323_3), (cl_ HB hw324_0), (cl_ HB hw324_1), (cl_ HB hw324_2), (cl_ HB hw324_3)⟩ (fun hHeld => ?_); refine with_tabW constableref01_Binds.tab6 constableref01_Binds.bits6 (fun HT_ HW_ => ?_)
                        generalize wr.drew = w17 at HB hx319_0 hx319_1 hx319_2 hx319_3 hx321_0 hx321_1 hx321_2 hx321_3 hx323_0 hx323_1 hx323_2 hx323_3 hx324_0 hx324_1 hx324_2 hx324_3 hHeld ⊢
                        refine pu_ 0 13 1 HT_ ?_; refine pu_ 1 14 3 HT_ ?_; refine pu_ 2 15 7 HT_ ?_; refine pu_ 3 16 15 HT_ ?_; refine tk_ 4 17 31 HT_ HW_ hHeld ?_
                        refine one_ (i := 5) (N := some 18) (mk_ 35 63) rfl rfl (one_of HT_.out (by kernel_rfl)) (by decide) (fun K hK => ?_)
                        refine goes_ Try.func45 (by kernel_rfl) rfl #[.string ((rd_T62 l0 x3_1).f0), .bool true] (by rfl) rfl rfl ga_ ?_
                        with_reducible refine (constableref01_Word.calls k1 ((rd_T62 l0 x3_1).f0) true true _ A5.out).mono ?_
                        rintro e w' ⟨rfl, ⟨nd, rfl⟩⟩
                        refine ⟨_, rfl, ?_⟩
                        refine hK.out _ _ ⟨(cl_ HB hw319_0), (cl_ HB hw319_1), (cl_ HB hw319_2), (cl_ HB hw319_3), (cl_ HB hw321_0), (cl_ HB hw321_1), (cl_ HB hw321_2), (cl_ HB hw321_3), (cl_ HB hw323_0), (cl_ HB hw323_1), (cl_ HB hw323_2), (cl_ HB hw323_3), (cl_ HB hw324_0), (cl_ HB hw324_1), (cl_ HB hw324_2), (cl_ HB hw324_3)⟩ (fun hHeld => ?_)
                        clear hK K
                        refine nm_ 18 ?_; refine pu_ 6 19 127 HT_ ?_; refine pu_ 7 20 255 HT_ ?_; refine pu_ 8 21 511 HT_ ?_; refine pu_ 9 22 1023 HT_ ?_; refine pu_ 10 23 2047 HT_ ?_; refine pu_ 11 24 4095 HT_ ?_; refine tk_ 12 25 8191 HT_ HW_ hHeld ?_
                        refine one_ (i := 13) (N := some 26) (mk_ 35 16383) rfl rfl (one_of HT_.out (by kernel_rfl)) (by decide) (fun K hK => ?_)
                        refine goes_ Try.func46 (by kernel_rfl) rfl #[.agg #[.int .i64 ((rd_T62 l0 x3_1).f1.f0), .int .i64 ((rd_T62 l0 x3_1).f1.f1), .string ((rd_T62 l0 x3_1).f1.f2)]] (by rfl) rfl rfl ga_ ?_
                        with_reducible refine (constableref01_Value.calls k1 ((rd_T62 l0 x3_1).f1.f0) ((rd_T62 l0 x3_1).f1.f1) ((rd_T62 l0 x3_1).f1.f2) true _ A7.out).mono ?_
                        rintro e w18 ⟨rfl, hb⟩
                        refine ⟨_, rfl, ?_⟩
                        have n0_ := bs_ (be_ HB) hb
                        clear HB
                        have HB := n0_
                        clear n0_
                        (try clear hb)
                        (try clear hb2)
                        (try clear hk)
                        (try clear hi)
                        refine hK.out _ _ ⟨(cl_ HB hw319_0), (cl_ HB hw319_1), (cl_ HB hw319_2), (cl_ HB hw319_3), (cl_ HB hw321_0), (cl_ HB hw321_1), (cl_ HB hw321_2), (cl_ HB hw321_3), (cl_ HB hw323_0), (cl_ HB hw323_1), (cl_ HB hw323_2), (cl_ HB hw323_3), (cl_ HB hw324_0), (cl_ HB hw324_1), (cl_ HB hw324_2), (cl_ HB hw324_3)⟩ (fun hHeld => ?_)
                        clear hK K
                        refine nm_ 26 ?_; refine pu_ 14 27 32767 HT_ ?_; refine pu_ 15 28 65535 HT_ ?_; refine pu_ 16 29 131071 HT_ ?_; refine pu_ 17 30 262143 HT_ ?_; refine pu_ 18 31 524287 HT_ ?_; refine pu_ 19 32 1048575 HT_ ?_; refine pu_ 20 33 2097151 HT_ ?_; refine pu_ 21 34 4194303 HT_ ?_; refine pu_ 22 35 8388607 HT_ ?_; refine pu_ 23 36 16777215 HT_ ?_; refine pu_ 24 37 33554431 HT_ ?_; refine pu_ 26 39 100663295 HT_ ?_; refine pu_ 27 40 234881023 HT_ ?_; refine pu_ 28 41 503316479 HT_ ?_; refine pu_ 29 42 1040187391 HT_ ?_; refine tk_ 25 38 1073741823 HT_ HW_ hHeld ?_; refine tk_ 30 43 2147483647 HT_ HW_ hHeld ?_
                        refine one_ (i := 31) (N := some 44) (mk_ 35 4294967295) rfl rfl (one_of HT_.out (by kernel_rfl)) (by decide) (fun K hK => ?_)
                        refine goes_ Try.func48 (by kernel_rfl) rfl #[.string ((rd_T62 l0 (ji10)).f0), .string ((rd_T62 l0 x3_1).f0)] (by rfl) rfl rfl (by (try simp only [List.map_toArray, List.map_cons, List.map_nil]); first | done | (simp only [hji10]; rfl) | rfl | (simp only [List.length_drop, List.length_take]; rfl)) ?_
                        with_reducible refine (constableref01_Strings.calls k1 ((rd_T62 l0 (ji10)).f0) ((rd_T62 l0 x3_1).f0) t325 _ A13.out).mono ?_
                        rintro e w' ⟨rfl, ⟨nd, rfl⟩⟩
                        refine ⟨_, rfl, ?_⟩
                        refine hK.out _ _ ⟨(cl_ HB hw319_0), (cl_ HB hw319_1), (cl_ HB hw319_2), (cl_ HB hw319_3), (cl_ HB hw321_0), (cl_ HB hw321_1), (cl_ HB hw321_2), (cl_ HB hw321_3), (cl_ HB hw323_0), (cl_ HB hw323_1), (cl_ HB hw323_2), (cl_ HB hw323_3), (cl_ HB hw324_0), (cl_ HB hw324_1), (cl_ HB hw324_2), (cl_ HB hw324_3)⟩ (fun hHeld => ?_)
                        clear hK K
                        refine nm_ 44 ?_; refine pu_ 32 45 8589934591 HT_ ?_; refine pu_ 33 46 17179869183 HT_ ?_; refine pu_ 34 47 34359738367 HT_ ?_
                        refine done_ (done_of HT_.out (by kernel_rfl)) ?_
                        try go_wp2
                        go_roundg k1
                        case measure => have := HK1.out; omega
                        case rel => exact ⟨(wrap64 (x3_1 + 1)), ra_, H', ⟨by have := HK1.out; omega⟩, ⟨by repeat (first | (with_reducible first | exact HB.out | apply below_alloc | apply pw_below_drewN | apply below_drew1) | exact HB.out)⟩⟩
                    · rw [if_neg c12] at H
                      exact absurd H (by simp)
                  · rw [if_neg c11] at H
                    exact absurd H (by simp)
                · rw [if_neg c9] at H
                  have c9b0 : decide (0 < x3_1) = false := decide_eq_false c9
                  clear c9
                  have H' := Aside0.mk H
                  clear H
                  try go_wp2
                  have n0_ := Aside0.mk (below_drew1 HB.out)
                  clear HB
                  have HB := n0_
                  clear n0_
                  have p319 : 0 ≤ (x3_1 : Int) := dt_
                  have q319 : x3_1 < (l0.length : Int) := dt_
                  obtain ⟨ad319, e319, hx319_0, hx319_1, hx319_2, hx319_3⟩ := at_T62 HR0.out x3_1 p319 q319
                  have hw319_3 := hx319_3
                  have hw319_2 := hx319_2
                  have hw319_1 := hx319_1
                  have hw319_0 := hx319_0
                  cases e319
                  replace hx319_0 := cm_ HB hx319_0
                  replace hx319_1 := cm_ HB hx319_1
                  replace hx319_2 := cm_ HB hx319_2
                  replace hx319_3 := cm_ HB hx319_3
                  replace p319 := eq_true p319
                  replace q319 := eq_true q319
                  have p321 : 0 ≤ (x3_1 : Int) := dt_
                  have q321 : x3_1 < (l0.length : Int) := dt_
                  obtain ⟨ad321, e321, hx321_0, hx321_1, hx321_2, hx321_3⟩ := at_T62 HR0.out x3_1 p321 q321
                  have hw321_3 := hx321_3
                  have hw321_2 := hx321_2
                  have hw321_1 := hx321_1
                  have hw321_0 := hx321_0
                  obtain rfl : ad319 = ad321 := (by injection e321)
                  replace hx321_0 := cm_ HB hx321_0
                  replace hx321_1 := cm_ HB hx321_1
                  replace hx321_2 := cm_ HB hx321_2
                  replace hx321_3 := cm_ HB hx321_3
                  replace p321 := eq_true p321
                  replace q321 := eq_true q321
                  refine start_ (n := 35) (S := fun w' => w'.cell? (ad319.add ((x3_1).toNat * 4)) = some (.string ((rd_T62 l0 x3_1).f0)) ∧ w'.cell? ⟨(ad319.add ((x3_1).toNat * 4)).block, (ad319.add ((x3_1).toNat * 4)).off + 1, none⟩ = some (.int .i64 ((rd_T62 l0 x3_1).f1.f0)) ∧ w'.cell? ⟨(ad319.add ((x3_1).toNat * 4)).block, (ad319.add ((x3_1).toNat * 4)).off + 2, none⟩ = some (.int .i64 ((rd_T62 l0 x3_1).f1.f1)) ∧ w'.cell? ⟨(ad319.add ((x3_1).toNat * 4)).block, (ad319.add ((x3_1).toNat * 4)).off + 3, none⟩ = some (.string ((rd_T62 l0 x3_1).f1.f2)) ∧ w'.cell? (ad319.add ((x3_1).toNat * 4)) = some (.string ((rd_T62 l0 x3_1).f0)) ∧ w'.cell? ⟨(ad319.add ((x3_1).toNat * 4)).block, (ad319.add ((x3_1).toNat * 4)).off + 1, none⟩ = some (.int .i64 ((rd_T62 l0 x3_1).f1.f0)) ∧ w'.cell? ⟨(ad319.add ((x3_1).toNat * 4)).block, (ad319.add ((x3_1).toNat * 4)).off + 2, none⟩ = some (.int .i64 ((rd_T62 l0 x3_1).f1.f1)) ∧ w'.cell? ⟨(ad319.add ((x3_1).toNat * 4)).block, (ad319.add ((x3_1).toNat * 4)).off + 3, none⟩ = some (.string ((rd_T62 l0 x3_1).f1.f2))) (ds := []) (mk_ 35 0) (by kernel_rfl) rfl rfl ⟨(cl_ HB hw319_0), (cl_ HB hw319_1), (cl_ HB hw319_2), (cl_ HB hw319_3), (cl_ HB hw321_0), (cl_ HB hw321_1), (cl_ HB hw321_2), (cl_ HB hw321_3)⟩ (fun hHeld => ?_); refine with_tabW constableref01_Binds.tab6 constableref01_Binds.bits6 (fun HT_ HW_ => ?_)
                  generalize wr.drew = w19 at HB hx319_0 hx319_1 hx319_2 hx319_3 hx321_0 hx321_1 hx321_2 hx321_3 hHeld ⊢
                  refine pu_ 0 13 1 HT_ ?_; refine pu_ 1 14 3 HT_ ?_; refine pu_ 2 15 7 HT_ ?_; refine pu_ 3 16 15 HT_ ?_; refine tk_ 4 17 31 HT_ HW_ hHeld ?_
                  refine one_ (i := 5) (N := some 18) (mk_ 35 63) rfl rfl (one_of HT_.out (by kernel_rfl)) (by decide) (fun K hK => ?_)
                  refine goes_ Try.func45 (by kernel_rfl) rfl #[.string ((rd_T62 l0 x3_1).f0), .bool true] (by rfl) rfl rfl ga_ ?_
                  with_reducible refine (constableref01_Word.calls k1 ((rd_T62 l0 x3_1).f0) true true _ A5.out).mono ?_
                  rintro e w' ⟨rfl, ⟨nd, rfl⟩⟩
                  refine ⟨_, rfl, ?_⟩
                  refine hK.out _ _ ⟨(cl_ HB hw319_0), (cl_ HB hw319_1), (cl_ HB hw319_2), (cl_ HB hw319_3), (cl_ HB hw321_0), (cl_ HB hw321_1), (cl_ HB hw321_2), (cl_ HB hw321_3)⟩ (fun hHeld => ?_)
                  clear hK K
                  refine nm_ 18 ?_; refine pu_ 6 19 127 HT_ ?_; refine pu_ 7 20 255 HT_ ?_; refine pu_ 8 21 511 HT_ ?_; refine pu_ 9 22 1023 HT_ ?_; refine pu_ 10 23 2047 HT_ ?_; refine pu_ 11 24 4095 HT_ ?_; refine tk_ 12 25 8191 HT_ HW_ hHeld ?_
                  refine one_ (i := 13) (N := some 26) (mk_ 35 16383) rfl rfl (one_of HT_.out (by kernel_rfl)) (by decide) (fun K hK => ?_)
                  refine goes_ Try.func46 (by kernel_rfl) rfl #[.agg #[.int .i64 ((rd_T62 l0 x3_1).f1.f0), .int .i64 ((rd_T62 l0 x3_1).f1.f1), .string ((rd_T62 l0 x3_1).f1.f2)]] (by rfl) rfl rfl ga_ ?_
                  with_reducible refine (constableref01_Value.calls k1 ((rd_T62 l0 x3_1).f1.f0) ((rd_T62 l0 x3_1).f1.f1) ((rd_T62 l0 x3_1).f1.f2) true _ A7.out).mono ?_
                  rintro e w20 ⟨rfl, hb⟩
                  refine ⟨_, rfl, ?_⟩
                  have n0_ := bs_ (be_ HB) hb
                  clear HB
                  have HB := n0_
                  clear n0_
                  (try clear hb)
                  (try clear hb2)
                  (try clear hk)
                  (try clear hi)
                  refine hK.out _ _ ⟨(cl_ HB hw319_0), (cl_ HB hw319_1), (cl_ HB hw319_2), (cl_ HB hw319_3), (cl_ HB hw321_0), (cl_ HB hw321_1), (cl_ HB hw321_2), (cl_ HB hw321_3)⟩ (fun hHeld => ?_)
                  clear hK K
                  refine nm_ 26 ?_; refine pu_ 14 27 32767 HT_ ?_; refine pu_ 15 28 65535 HT_ ?_; refine pu_ 16 29 131071 HT_ ?_; refine pu_ 17 30 262143 HT_ ?_; refine pu_ 18 31 524287 HT_ ?_; refine pu_ 19 32 1048575 HT_ ?_; refine pn_ 20 33 2097151 HT_ ?_; refine pn_ 21 34 4194303 HT_ ?_; refine pn_ 22 35 8388607 HT_ ?_; refine pn_ 23 36 16777215 HT_ ?_; refine pn_ 24 37 33554431 HT_ ?_; refine pn_ 25 38 67108863 HT_ ?_; refine pn_ 26 39 134217727 HT_ ?_; refine pn_ 27 40 268435455 HT_ ?_; refine pn_ 28 41 536870911 HT_ ?_; refine pn_ 29 42 1073741823 HT_ ?_; refine pn_ 30 43 2147483647 HT_ ?_; refine pn_ 31 44 4294967295 HT_ ?_; refine pn_ 32 45 8589934591 HT_ ?_; refine pu_ 33 46 17179869183 HT_ ?_; refine pu_ 34 47 34359738367 HT_ ?_
                  refine done_ (done_of HT_.out (by kernel_rfl)) ?_
                  try go_wp2
                  go_roundg k1
                  case measure => have := HK1.out; omega
                  case rel => exact ⟨(wrap64 (x3_1 + 1)), ra_, H', ⟨by have := HK1.out; omega⟩, ⟨by repeat (first | (with_reducible first | exact HB.out | apply below_alloc | apply pw_below_drewN | apply below_drew1) | exact HB.out)⟩⟩
              · replace c8 := Bool.eq_false_iff.mpr c8
                subst c8
                have H1 : (some false) = some r := by rw [if_neg (show ¬ (false = true) by decide)] at H; exact H
                clear H
                have H := H1
                clear H1
                obtain rfl := Option.some.inj H
                try go_wp2
                have n0_ := Aside0.mk (below_drew1 HB.out)
                clear HB
                have HB := n0_
                clear n0_
                have p319 : 0 ≤ (x3_1 : Int) := dt_
                have q319 : x3_1 < (l0.length : Int) := dt_
                obtain ⟨ad319, e319, hx319_0, hx319_1, hx319_2, hx319_3⟩ := at_T62 HR0.out x3_1 p319 q319
                have hw319_3 := hx319_3
                have hw319_2 := hx319_2
                have hw319_1 := hx319_1
                have hw319_0 := hx319_0
                cases e319
                replace hx319_0 := cm_ HB hx319_0
                replace hx319_1 := cm_ HB hx319_1
                replace hx319_2 := cm_ HB hx319_2
                replace hx319_3 := cm_ HB hx319_3
                replace p319 := eq_true p319
                replace q319 := eq_true q319
                have p321 : 0 ≤ (x3_1 : Int) := dt_
                have q321 : x3_1 < (l0.length : Int) := dt_
                obtain ⟨ad321, e321, hx321_0, hx321_1, hx321_2, hx321_3⟩ := at_T62 HR0.out x3_1 p321 q321
                have hw321_3 := hx321_3
                have hw321_2 := hx321_2
                have hw321_1 := hx321_1
                have hw321_0 := hx321_0
                obtain rfl : ad319 = ad321 := (by injection e321)
                replace hx321_0 := cm_ HB hx321_0
                replace hx321_1 := cm_ HB hx321_1
                replace hx321_2 := cm_ HB hx321_2
                replace hx321_3 := cm_ HB hx321_3
                replace p321 := eq_true p321
                replace q321 := eq_true q321
                refine start_ (n := 35) (S := fun w' => w'.cell? (ad319.add ((x3_1).toNat * 4)) = some (.string ((rd_T62 l0 x3_1).f0)) ∧ w'.cell? ⟨(ad319.add ((x3_1).toNat * 4)).block, (ad319.add ((x3_1).toNat * 4)).off + 1, none⟩ = some (.int .i64 ((rd_T62 l0 x3_1).f1.f0)) ∧ w'.cell? ⟨(ad319.add ((x3_1).toNat * 4)).block, (ad319.add ((x3_1).toNat * 4)).off + 2, none⟩ = some (.int .i64 ((rd_T62 l0 x3_1).f1.f1)) ∧ w'.cell? ⟨(ad319.add ((x3_1).toNat * 4)).block, (ad319.add ((x3_1).toNat * 4)).off + 3, none⟩ = some (.string ((rd_T62 l0 x3_1).f1.f2)) ∧ w'.cell? (ad319.add ((x3_1).toNat * 4)) = some (.string ((rd_T62 l0 x3_1).f0)) ∧ w'.cell? ⟨(ad319.add ((x3_1).toNat * 4)).block, (ad319.add ((x3_1).toNat * 4)).off + 1, none⟩ = some (.int .i64 ((rd_T62 l0 x3_1).f1.f0)) ∧ w'.cell? ⟨(ad319.add ((x3_1).toNat * 4)).block, (ad319.add ((x3_1).toNat * 4)).off + 2, none⟩ = some (.int .i64 ((rd_T62 l0 x3_1).f1.f1)) ∧ w'.cell? ⟨(ad319.add ((x3_1).toNat * 4)).block, (ad319.add ((x3_1).toNat * 4)).off + 3, none⟩ = some (.string ((rd_T62 l0 x3_1).f1.f2))) (ds := []) (mk_ 35 0) (by kernel_rfl) rfl rfl ⟨(cl_ HB hw319_0), (cl_ HB hw319_1), (cl_ HB hw319_2), (cl_ HB hw319_3), (cl_ HB hw321_0), (cl_ HB hw321_1), (cl_ HB hw321_2), (cl_ HB hw321_3)⟩ (fun hHeld => ?_); refine with_tabW constableref01_Binds.tab6 constableref01_Binds.bits6 (fun HT_ HW_ => ?_)
                generalize wr.drew = w21 at HB hx319_0 hx319_1 hx319_2 hx319_3 hx321_0 hx321_1 hx321_2 hx321_3 hHeld ⊢
                refine pu_ 0 13 1 HT_ ?_; refine pu_ 1 14 3 HT_ ?_; refine pu_ 2 15 7 HT_ ?_; refine pu_ 3 16 15 HT_ ?_; refine tk_ 4 17 31 HT_ HW_ hHeld ?_
                refine one_ (i := 5) (N := some 18) (mk_ 35 63) rfl rfl (one_of HT_.out (by kernel_rfl)) (by decide) (fun K hK => ?_)
                refine goes_ Try.func45 (by kernel_rfl) rfl #[.string ((rd_T62 l0 x3_1).f0), .bool true] (by rfl) rfl rfl ga_ ?_
                with_reducible refine (constableref01_Word.calls k1 ((rd_T62 l0 x3_1).f0) true true _ A5.out).mono ?_
                rintro e w' ⟨rfl, ⟨nd, rfl⟩⟩
                refine ⟨_, rfl, ?_⟩
                refine hK.out _ _ ⟨(cl_ HB hw319_0), (cl_ HB hw319_1), (cl_ HB hw319_2), (cl_ HB hw319_3), (cl_ HB hw321_0), (cl_ HB hw321_1), (cl_ HB hw321_2), (cl_ HB hw321_3)⟩ (fun hHeld => ?_)
                clear hK K
                refine nm_ 18 ?_; refine pu_ 6 19 127 HT_ ?_; refine pu_ 7 20 255 HT_ ?_; refine pu_ 8 21 511 HT_ ?_; refine pu_ 9 22 1023 HT_ ?_; refine pu_ 10 23 2047 HT_ ?_; refine pu_ 11 24 4095 HT_ ?_; refine tk_ 12 25 8191 HT_ HW_ hHeld ?_
                refine one_ (i := 13) (N := some 26) (mk_ 35 16383) rfl rfl (one_of HT_.out (by kernel_rfl)) (by decide) (fun K hK => ?_)
                refine goes_ Try.func46 (by kernel_rfl) rfl #[.agg #[.int .i64 ((rd_T62 l0 x3_1).f1.f0), .int .i64 ((rd_T62 l0 x3_1).f1.f1), .string ((rd_T62 l0 x3_1).f1.f2)]] (by rfl) rfl rfl ga_ ?_
                with_reducible refine (constableref01_Value.calls k1 ((rd_T62 l0 x3_1).f1.f0) ((rd_T62 l0 x3_1).f1.f1) ((rd_T62 l0 x3_1).f1.f2) false _ A7.out).mono ?_
                rintro e w22 ⟨rfl, hb⟩
                refine ⟨_, rfl, ?_⟩
                have n0_ := bs_ (be_ HB) hb
                clear HB
                have HB := n0_
                clear n0_
                (try clear hb)
                (try clear hb2)
                (try clear hk)
                (try clear hi)
                refine hK.out _ _ ⟨(cl_ HB hw319_0), (cl_ HB hw319_1), (cl_ HB hw319_2), (cl_ HB hw319_3), (cl_ HB hw321_0), (cl_ HB hw321_1), (cl_ HB hw321_2), (cl_ HB hw321_3)⟩ (fun hHeld => ?_)
                clear hK K
                refine nm_ 26 ?_; refine pu_ 14 27 32767 HT_ ?_; refine pu_ 15 28 65535 HT_ ?_; refine pu_ 16 29 131071 HT_ ?_; refine pn_ 17 30 262143 HT_ ?_; refine pn_ 18 31 524287 HT_ ?_; refine pn_ 19 32 1048575 HT_ ?_; refine pn_ 20 33 2097151 HT_ ?_; refine pn_ 21 34 4194303 HT_ ?_; refine pn_ 22 35 8388607 HT_ ?_; refine pn_ 23 36 16777215 HT_ ?_; refine pn_ 24 37 33554431 HT_ ?_; refine pn_ 25 38 67108863 HT_ ?_; refine pn_ 26 39 134217727 HT_ ?_; refine pn_ 27 40 268435455 HT_ ?_; refine pn_ 28 41 536870911 HT_ ?_; refine pn_ 29 42 1073741823 HT_ ?_; refine pn_ 30 43 2147483647 HT_ ?_; refine pn_ 31 44 4294967295 HT_ ?_; refine pn_ 32 45 8589934591 HT_ ?_; refine pn_ 33 46 17179869183 HT_ ?_; refine pu_ 34 47 34359738367 HT_ ?_
                refine done_ (done_of HT_.out (by kernel_rfl)) ?_
                try go_wp2
                go_ret
                exact ⟨by first | rfl | (simp [errW_none, errW_some] <;> rfl) | (simp [*, errW_none, errW_some] <;> rfl), by repeat (first | (with_reducible first | exact HB.out | apply below_alloc | apply pw_below_drewN | apply below_drew1) | exact HB.out)⟩
            · replace c6 := Bool.eq_false_iff.mpr c6
              subst c6
              have H1 : (some false) = some r := by rw [if_neg (show ¬ (false = true) by decide)] at H; exact H
              clear H
              have H := H1
              clear H1
              obtain rfl := Option.some.inj H
              try go_wp2
              have n0_ := Aside0.mk (below_drew1 HB.out)
              clear HB
              have HB := n0_
              clear n0_
              have p319 : 0 ≤ (x3_1 : Int) := dt_
              have q319 : x3_1 < (l0.length : Int) := dt_
              obtain ⟨ad319, e319, hx319_0, hx319_1, hx319_2, hx319_3⟩ := at_T62 HR0.out x3_1 p319 q319
              have hw319_3 := hx319_3
              have hw319_2 := hx319_2
              have hw319_1 := hx319_1
              have hw319_0 := hx319_0
              cases e319
              replace hx319_0 := cm_ HB hx319_0
              replace hx319_1 := cm_ HB hx319_1
              replace hx319_2 := cm_ HB hx319_2
              replace hx319_3 := cm_ HB hx319_3
              replace p319 := eq_true p319
              replace q319 := eq_true q319
              refine start_ (n := 35) (S := fun w' => w'.cell? (ad319.add ((x3_1).toNat * 4)) = some (.string ((rd_T62 l0 x3_1).f0)) ∧ w'.cell? ⟨(ad319.add ((x3_1).toNat * 4)).block, (ad319.add ((x3_1).toNat * 4)).off + 1, none⟩ = some (.int .i64 ((rd_T62 l0 x3_1).f1.f0)) ∧ w'.cell? ⟨(ad319.add ((x3_1).toNat * 4)).block, (ad319.add ((x3_1).toNat * 4)).off + 2, none⟩ = some (.int .i64 ((rd_T62 l0 x3_1).f1.f1)) ∧ w'.cell? ⟨(ad319.add ((x3_1).toNat * 4)).block, (ad319.add ((x3_1).toNat * 4)).off + 3, none⟩ = some (.string ((rd_T62 l0 x3_1).f1.f2))) (ds := []) (mk_ 35 0) (by kernel_rfl) rfl rfl ⟨(cl_ HB hw319_0), (cl_ HB hw319_1), (cl_ HB hw319_2), (cl_ HB hw319_3)⟩ (fun hHeld => ?_); refine with_tabW constableref01_Binds.tab6 constableref01_Binds.bits6 (fun HT_ HW_ => ?_)
              generalize wr.drew = w23 at HB hx319_0 hx319_1 hx319_2 hx319_3 hHeld ⊢
              refine pu_ 0 13 1 HT_ ?_; refine pu_ 1 14 3 HT_ ?_; refine pu_ 2 15 7 HT_ ?_; refine pu_ 3 16 15 HT_ ?_; refine tk_ 4 17 31 HT_ HW_ hHeld ?_
              refine one_ (i := 5) (N := some 18) (mk_ 35 63) rfl rfl (one_of HT_.out (by kernel_rfl)) (by decide) (fun K hK => ?_)
              refine goes_ Try.func45 (by kernel_rfl) rfl #[.string ((rd_T62 l0 x3_1).f0), .bool true] (by rfl) rfl rfl ga_ ?_
              with_reducible refine (constableref01_Word.calls k1 ((rd_T62 l0 x3_1).f0) true false _ A5.out).mono ?_
              rintro e w' ⟨rfl, ⟨nd, rfl⟩⟩
              refine ⟨_, rfl, ?_⟩
              refine hK.out _ _ ⟨(cl_ HB hw319_0), (cl_ HB hw319_1), (cl_ HB hw319_2), (cl_ HB hw319_3)⟩ (fun hHeld => ?_)
              clear hK K
              refine nm_ 18 ?_; refine pu_ 6 19 127 HT_ ?_; refine pu_ 7 20 255 HT_ ?_; refine pn_ 8 21 511 HT_ ?_; refine pn_ 9 22 1023 HT_ ?_; refine pn_ 10 23 2047 HT_ ?_; refine pn_ 11 24 4095 HT_ ?_; refine pn_ 12 25 8191 HT_ ?_; refine pn_ 13 26 16383 HT_ ?_; refine pn_ 14 27 32767 HT_ ?_; refine pu_ 15 28 65535 HT_ ?_; refine pu_ 16 29 131071 HT_ ?_; refine pn_ 17 30 262143 HT_ ?_; refine pn_ 18 31 524287 HT_ ?_; refine pn_ 19 32 1048575 HT_ ?_; refine pn_ 20 33 2097151 HT_ ?_; refine pn_ 21 34 4194303 HT_ ?_; refine pn_ 22 35 8388607 HT_ ?_; refine pn_ 23 36 16777215 HT_ ?_; refine pn_ 24 37 33554431 HT_ ?_; refine pn_ 25 38 67108863 HT_ ?_; refine pn_ 26 39 134217727 HT_ ?_; refine pn_ 27 40 268435455 HT_ ?_; refine pn_ 28 41 536870911 HT_ ?_; refine pn_ 29 42 1073741823 HT_ ?_; refine pn_ 30 43 2147483647 HT_ ?_; refine pn_ 31 44 4294967295 HT_ ?_; refine pn_ 32 45 8589934591 HT_ ?_; refine pn_ 33 46 17179869183 HT_ ?_; refine pu_ 34 47 34359738367 HT_ ?_
              refine done_ (done_of HT_.out (by kernel_rfl)) ?_
              try go_wp2
              go_ret
              exact ⟨by first | rfl | (simp [errW_none, errW_some] <;> rfl) | (simp [*, errW_none, errW_some] <;> rfl), by repeat (first | (with_reducible first | exact HB.out | apply below_alloc | apply pw_below_drewN | apply below_drew1) | exact HB.out)⟩
          · rw [if_neg c4] at H
            exact absurd H (by simp)
        · rw [if_neg c3] at H
          have c3b0 : decide (x3_1 < (l0.length : Int)) = false := decide_eq_false c3
          clear c3
          obtain rfl := Option.some.inj H
          go_wp2
          go_ret
          exact ⟨by first | rfl | (simp [errW_none, errW_some] <;> rfl) | (simp [*, errW_none, errW_some] <;> rfl), by repeat (first | (with_reducible first | exact HB.out | apply below_alloc | apply pw_below_drewN | apply below_drew1) | exact HB.out)⟩
end Go.Proofs.Ytconpnagoijacaa.P
end
section
namespace Go.Proofs.Ytconpnagoijacaa.P
open Go.RowKit Go.Proofs.YtconpnagoijacaaW.PrintWords Go.Proofs.YtconpnagoijacaaW.PrintLast Go.Proofs.YtconpnagoijacaaW.PrintMore
attribute [local go_sem] max2_int min2_int max_two min_two max_three min_three max_four min_four
set_option linter.unusedVariables false
set_option linter.unusedSimpArgs false
mutual
def expr_Part.j0 : Nat → List (S52) → Int → Bool → Option (Int)
  | 0, _, _, _ => none
  | k + 1, x0, x1, x19 => if x19 = true then (some (-1)) else (expr_Part.l0 k x0 1 x1)
def expr_Part.l0 : Nat → List (S52) → Int → Int → Option (Int)
  | 0, _, _, _ => none
  | k + 1, x0, x5, x6 => if 0 ≤ x6 then (if x6 < (x0.length : Int) then ((expr_pushes.f ((rd_T52 x0 x6).f0)).bind fun t316 => (if t316 = true then (if (wrap64 (x5 - 1)) = 0 then (some x6) else (expr_Part.l0 k x0 (wrap64 (x5 - 1)) (wrap64 (x6 - 1)))) else (if (wrap64 (x5 + 1)) = 0 then (some x6) else (expr_Part.l0 k x0 (wrap64 (x5 + 1)) (wrap64 (x6 - 1)))))) else (none)) else (none)
end
def expr_Part.f (k : Nat) (l0 : List (S52)) (a1 : Int) : Option (Int) := (expr_Check.f k l0).bind fun t314 => (if t314 = 0 then (if a1 < 0 then (expr_Part.j0 k l0 a1 true) else (expr_Part.j0 k l0 a1 (decide (a1 ≥ (l0.length : Int))))) else (expr_Part.j0 k l0 a1 true))
theorem expr_Part.mono_l : ∀ k, (∀ y0 y1 y2, LeO (expr_Part.j0 k y0 y1 y2) (expr_Part.j0 (k + 1) y0 y1 y2)) ∧ (∀ y0 y1 y2, LeO (expr_Part.l0 k y0 y1 y2) (expr_Part.l0 (k + 1) y0 y1 y2))
  | 0 => ⟨fun _ _ _ r h => by simp [expr_Part.j0] at h, fun _ _ _ r h => by simp [expr_Part.l0] at h⟩
  | k + 1 => by
    obtain ⟨ih0, ih1⟩ := expr_Part.mono_l k
    refine ⟨?_, ?_⟩
    · intro y0 y1 y2
      unfold expr_Part.j0
      repeat' first
      | (with_reducible exact ih0 _ _ _)
      | (with_reducible exact ih1 _ _ _)
      | (with_reducible exact expr_Check.mono _ _)
      | (with_reducible exact LeO.refl _)
      | (with_reducible exact LeO.none _)
      | (with_reducible refine LeO.ite ?_ ?_)
      | (with_reducible refine LeO.bind ?_ (fun _ => ?_))
      | exact ih0 _ _ _
      | exact ih1 _ _ _
      | exact expr_Check.mono _ _
      | exact LeO.none _
      | refine LeO.ite ?_ ?_
      | refine LeO.bind ?_ (fun _ => ?_)
    · intro y0 y1 y2
      unfold expr_Part.l0
      repeat' first
      | (with_reducible exact ih0 _ _ _)
      | (with_reducible exact ih1 _ _ _)
      | (with_reducible exact expr_Check.mono _ _)
      | (with_reducible exact LeO.refl _)
      | (with_reducible exact LeO.none _)
      | (with_reducible refine LeO.ite ?_ ?_)
      | (with_reducible refine LeO.bind ?_ (fun _ => ?_))
      | exact ih0 _ _ _
      | exact ih1 _ _ _
      | exact expr_Check.mono _ _
      | exact LeO.none _
      | refine LeO.ite ?_ ?_
      | refine LeO.bind ?_ (fun _ => ?_)
theorem expr_Part.mono : ∀ a0 a1 k, LeO (expr_Part.f k a0 a1) (expr_Part.f (k + 1) a0 a1) := by
  intro a0 a1 k
  obtain ⟨ih0, ih1⟩ := expr_Part.mono_l k
  unfold expr_Part.f
  repeat' first
      | (with_reducible exact ih0 _ _ _)
      | (with_reducible exact ih1 _ _ _)
      | (with_reducible exact expr_Check.mono _ _)
      | (with_reducible exact LeO.refl _)
      | (with_reducible exact LeO.none _)
      | (with_reducible refine LeO.ite ?_ ?_)
      | (with_reducible refine LeO.bind ?_ (fun _ => ?_))
      | exact ih0 _ _ _
      | exact ih1 _ _ _
      | exact expr_Check.mono _ _
      | exact LeO.none _
      | refine LeO.ite ?_ ?_
      | refine LeO.bind ?_ (fun _ => ?_)
set_option maxHeartbeats 8000000 in
set_option maxRecDepth 100000 in
theorem expr_Part.calls (k : Nat) (A0 : Option Addr) (c0 : Nat) (l0 : List (S52)) (a1 : Int) (r : Int) (w : World) (hr0 : Kd.C k52 w A0 l0.length l0) (hc0 : l0.length ≤ c0) (h : expr_Part.f k l0 a1 = some r) :
    Calls Try.prog 30 #[.slice A0 l0.length c0, .int .i64 a1] w fun e w' => e = .returned (.int .i64 r) ∧ Below w.heap.size w w' := by
  have HR0 := Aside0.mk hr0
  have HC0 := Aside0.mk hc0
  clear hr0 hc0
  have HB := Aside0.mk (Below.refl w.heap.size w)
  have H : ((expr_Check.f k l0).bind fun t314 => (if t314 = 0 then (if a1 < 0 then (expr_Part.j0 k l0 a1 true) else (expr_Part.j0 k l0 a1 (decide (a1 ≥ (l0.length : Int))))) else (expr_Part.j0 k l0 a1 true))) = some r := h
  clear h
  have HC3 := Aside0.mk H
  clear H
  go_enter Try.func30, Try.ntmps30
  go_upto_region 1 with (fail)
  go_cut [19] (fun v19 wc => ∃ (kq : Nat) (x19_2 : Bool), v19 = .bool x19_2 ∧ Aside0 (expr_Part.j0 kq l0 a1 x19_2 = some r) ∧ Aside0 (kq ≤ k) ∧ Aside0 (Below w.heap.size w wc))
  case first =>
    have H := HC3.out
    clear HC3
    replace H := Option.bind_eq_some_iff.mp H
    obtain ⟨t314, A40, H⟩ := H
    replace H : (if t314 = 0 then (if a1 < 0 then (expr_Part.j0 k l0 a1 true) else (expr_Part.j0 k l0 a1 (decide (a1 ≥ (l0.length : Int))))) else (expr_Part.j0 k l0 a1 true)) = some r := H
    have A4 := Aside0.mk A40
    clear A40
    by_cases c5 : t314 = 0
    · rw [if_pos c5] at H
      obtain ⟨c5b0, c5b1⟩ := eqB_ c5
      clear c5
      (first | rw [c5b0] | (simp only [i64_w, i32_w]; rw [c5b0]) | skip)
      by_cases c6 : a1 < 0
      · rw [if_pos c6] at H
        have c6b0 : decide (a1 < 0) = true := decide_eq_true c6
        clear c6
        have H' := Aside0.mk H
        clear H
        go_wp2_with (first | ((with_reducible refine gate_callee (f := 28) rfl ?_); refine goesL_ (some 8) rfl rfl Try.func28 (by kernel_rfl) rfl #[.slice A0 l0.length c0] rfl ga_ ?_; (with_reducible refine (expr_Check.calls k _ _ l0 t314 _ ?side1 ?side2 A4.out).mono ?_); (case side1 => repeat (first | exact (Kd.C_below HR0.out HB.out) | (with_reducible refine Kd.C_alloc ?_ _) | (with_reducible refine Kd.C_drewN ?_ _) | (with_reducible refine Kd.C_drew ?_))); (case side2 => exact HC0.out); rintro e w7 ⟨rfl, hb⟩; refine ⟨_, rfl, ?_⟩; have n0_ := bs_ (be_ HB) hb; clear HB; have HB := n0_; clear n0_; (try clear hb); (try clear hb2); (try clear hk); (try clear hi)))
        go_meet
        case rel => exact ⟨_, (true), ra_, H', ⟨by first | omega | exact Nat.le_refl _⟩, ⟨by repeat (first | (with_reducible first | exact HB.out | apply below_alloc | apply pw_below_drewN | apply below_drew1) | exact HB.out)⟩⟩
      · rw [if_neg c6] at H
        have c6b0 : decide (a1 < 0) = false := decide_eq_false c6
        clear c6
        have H' := Aside0.mk H
        clear H
        go_wp2_with (first | ((with_reducible refine gate_callee (f := 28) rfl ?_); refine goesL_ (some 8) rfl rfl Try.func28 (by kernel_rfl) rfl #[.slice A0 l0.length c0] rfl ga_ ?_; (with_reducible refine (expr_Check.calls k _ _ l0 t314 _ ?side1 ?side2 A4.out).mono ?_); (case side1 => repeat (first | exact (Kd.C_below HR0.out HB.out) | (with_reducible refine Kd.C_alloc ?_ _) | (with_reducible refine Kd.C_drewN ?_ _) | (with_reducible refine Kd.C_drew ?_))); (case side2 => exact HC0.out); rintro e w8 ⟨rfl, hb⟩; refine ⟨_, rfl, ?_⟩; have n0_ := bs_ (be_ HB) hb; clear HB; have HB := n0_; clear n0_; (try clear hb); (try clear hb2); (try clear hk); (try clear hi)))
        go_meet
        case rel => exact ⟨_, (decide (a1 ≥ (l0.length : Int))), ra_, H', ⟨by first | omega | exact Nat.le_refl _⟩, ⟨by repeat (first | (with_reducible first | exact HB.out | apply below_alloc | apply pw_below_drewN | apply below_drew1) | exact HB.out)⟩⟩
    · rw [if_neg c5] at H
      obtain ⟨c5b0, c5b1⟩ := neB_ c5
      (first | rw [c5b0] | (simp only [i64_w, i32_w]; rw [c5b0]) | skip)
      have H' := Aside0.mk H
      clear H
      go_wp2_with (first | ((with_reducible refine gate_callee (f := 28) rfl ?_); refine goesL_ (some 8) rfl rfl Try.func28 (by kernel_rfl) rfl #[.slice A0 l0.length c0] rfl ga_ ?_; (with_reducible refine (expr_Check.calls k _ _ l0 t314 _ ?side1 ?side2 A4.out).mono ?_); (case side1 => repeat (first | exact (Kd.C_below HR0.out HB.out) | (with_reducible refine Kd.C_alloc ?_ _) | (with_reducible refine Kd.C_drewN ?_ _) | (with_reducible refine Kd.C_drew ?_))); (case side2 => exact HC0.out); rintro e w9 ⟨rfl, hb⟩; refine ⟨_, rfl, ?_⟩; have n0_ := bs_ (be_ HB) hb; clear HB; have HB := n0_; clear n0_; (try clear hb); (try clear hb2); (try clear hk); (try clear hi)))
      go_meet
      case rel => exact ⟨_, (true), ra_, H', ⟨by first | omega | exact Nat.le_refl _⟩, ⟨by repeat (first | (with_reducible first | exact HB.out | apply below_alloc | apply pw_below_drewN | apply below_drew1) | exact HB.out)⟩⟩
  case rest =>
    clear HC3
    try clear c2
    try clear p2
    try clear c3
    try clear c5
    try clear c5b0
    try clear c5b1
    try clear c6
    try clear c6b0
    obtain ⟨kq, x19_2, rfl, HA, HJ2, HB⟩ := hcut
    cases kq with
    | zero => exact absurd HA.out (by simp [expr_Part.j0])
    | succ kj2 =>
      have H := HA.out
      clear HA
      simp only [expr_Part.j0] at H
      by_cases c10 : x19_2 = true
      · subst c10
        have H1 : (some (-1)) = some r := by rw [if_pos rfl] at H; exact H
        clear H
        have H := H1
        clear H1
        obtain rfl := Option.some.inj H
        go_wp2
        go_ret
        exact ⟨by first | rfl | (simp [errW_none, errW_some] <;> rfl) | (simp [*, errW_none, errW_some] <;> rfl), by repeat (first | (with_reducible first | exact HB.out | apply below_alloc | apply pw_below_drewN | apply below_drew1) | exact HB.out)⟩
      · replace c10 := Bool.eq_false_iff.mpr c10
        subst c10
        have H1 : (expr_Part.l0 kj2 l0 1 a1) = some r := by rw [if_neg (show ¬ (false = true) by decide)] at H; exact H
        clear H
        have H := H1
        clear H1
        have H' := Aside0.mk H
        clear H
        go_wp2
        go_loopg [5, 6] kj2 (fun kq v5 v6 w' => ∃ (x5_2 : Int) (x6_2 : Int), v5 = .int .i64 x5_2 ∧ v6 = .int .i64 x6_2 ∧ Aside0 (expr_Part.l0 kq l0 x5_2 x6_2 = some r) ∧ Aside0 (kq ≤ kj2) ∧ Aside0 (Below w.heap.size w w'))
        case atStart => exact ⟨(1), (a1), ra_, ra_, H', ⟨Nat.le_refl _⟩, ⟨by repeat (first | (with_reducible first | exact HB.out | apply below_alloc | apply pw_below_drewN | apply below_drew1) | exact HB.out)⟩⟩
        case round =>
          clear H'
          try clear c1
          try clear c2
          try clear p2
          try clear c3
          try clear c5
          try clear c5b0
          try clear c5b1
          try clear c6
          try clear c6b0
          try clear c10
          try clear p2
          obtain ⟨x5_2, x6_2, rfl, rfl, HA, HK2, HB⟩ := hrel
          cases gk with
          | zero => exact absurd HA.out (by simp [expr_Part.l0])
          | succ k2 =>
            have H := HA.out
            clear HA
            simp only [expr_Part.l0] at H
            by_cases c11 : 0 ≤ x6_2
            · rw [if_pos c11] at H
              have c11b0 : decide (0 ≤ x6_2) = true := decide_eq_true c11
              clear c11
              by_cases c12 : x6_2 < (l0.length : Int)
              · rw [if_pos c12] at H
                have c12b0 : decide (x6_2 < (l0.length : Int)) = true := decide_eq_true c12
                clear c12
                replace H := Option.bind_eq_some_iff.mp H
                obtain ⟨t316, A130, H⟩ := H
                replace H : (if t316 = true then (if (wrap64 (x5_2 - 1)) = 0 then (some x6_2) else (expr_Part.l0 k2 l0 (wrap64 (x5_2 - 1)) (wrap64 (x6_2 - 1)))) else (if (wrap64 (x5_2 + 1)) = 0 then (some x6_2) else (expr_Part.l0 k2 l0 (wrap64 (x5_2 + 1)) (wrap64 (x6_2 - 1))))) = some r := H
                have A13 := Aside0.mk A130
                clear A130
                by_cases c14 : t316 = true
                · subst c14
                  have H1 : (if (wrap64 (x5_2 - 1)) = 0 then (some x6_2) else (expr_Part.l0 k2 l0 (wrap64 (x5_2 - 1)) (wrap64 (x6_2 - 1)))) = some r := by rw [if_pos rfl] at H; exact H
                  clear H
                  have H := H1
                  clear H1
                  by_cases c15 : (wrap64 (x5_2 - 1)) = 0
                  · rw [if_pos c15] at H
                    obtain ⟨c15b0, c15b1⟩ := eqB_ c15
                    clear c15
                    obtain rfl := Option.some.inj H
                    have p315 : 0 ≤ (x6_2 : Int) := dt_
                    have q315 : x6_2 < (l0.length : Int) := dt_
                    obtain ⟨ad315, e315, hx315_0, hx315_1, hx315_2, hx315_3, hx315_4⟩ := at_T52 HR0.out x6_2 p315 q315
                    cases e315
                    replace hx315_0 := cm_ HB hx315_0
                    replace hx315_1 := cm_ HB hx315_1
                    replace hx315_2 := cm_ HB hx315_2
                    replace hx315_3 := cm_ HB hx315_3
                    replace hx315_4 := cm_ HB hx315_4
                    replace p315 := eq_true p315
                    replace q315 := eq_true q315
                    go_wp2_with (first | ((with_reducible refine gate_callee (f := 40) rfl ?_); refine goesL_ (some 28) rfl rfl Try.func40 (by kernel_rfl) rfl #[.int .i64 ((rd_T52 l0 x6_2).f0)] rfl ga_ ?_; (with_reducible refine (expr_pushes.calls ((rd_T52 l0 x6_2).f0) true _ A13.out).mono ?_); rintro e w' ⟨rfl, ⟨nd, rfl⟩⟩; refine ⟨_, rfl, ?_⟩))
                    go_ret
                    exact ⟨by first | rfl | (simp [errW_none, errW_some] <;> rfl) | (simp [*, errW_none, errW_some] <;> rfl), by repeat (first | (with_reducible first | exact HB.out | apply below_alloc | apply pw_below_drewN | apply below_drew1) | exact HB.out)⟩
                  · rw [if_neg c15] at H
                    obtain ⟨c15b0, c15b1⟩ := neB_ c15
                    have H' := Aside0.mk H
                    clear H
                    have p315 : 0 ≤ (x6_2 : Int) := dt_
                    have q315 : x6_2 < (l0.length : Int) := dt_
                    obtain ⟨ad315, e315, hx315_0, hx315_1, hx315_2, hx315_3, hx315_4⟩ := at_T52 HR0.out x6_2 p315 q315
                    cases e315
                    replace hx315_0 := cm_ HB hx315_0
                    replace hx315_1 := cm_ HB hx315_1
                    replace hx315_2 := cm_ HB hx315_2
                    replace hx315_3 := cm_ HB hx315_3
                    replace hx315_4 := cm_ HB hx315_4
                    replace p315 := eq_true p315
                    replace q315 := eq_true q315
                    go_wp2_with (first | ((with_reducible refine gate_callee (f := 40) rfl ?_); refine goesL_ (some 28) rfl rfl Try.func40 (by kernel_rfl) rfl #[.int .i64 ((rd_T52 l0 x6_2).f0)] rfl ga_ ?_; (with_reducible refine (expr_pushes.calls ((rd_T52 l0 x6_2).f0) true _ A13.out).mono ?_); rintro e w' ⟨rfl, ⟨nd, rfl⟩⟩; refine ⟨_, rfl, ?_⟩))
                    go_roundg k2
                    case measure => have := HJ2.out; have := HK2.out; omega
                    case rel => exact ⟨(wrap64 (x5_2 - 1)), (wrap64 (x6_2 - 1)), ra_, ra_, H', ⟨by have := HJ2.out; have := HK2.out; omega⟩, ⟨by repeat (first | (with_reducible first | exact HB.out | apply below_alloc | apply pw_below_drewN | apply below_drew1) | exact HB.out)⟩⟩
                · replace c14 := Bool.eq_false_iff.mpr c14
                  subst c14
                  have H1 : (if (wrap64 (x5_2 + 1)) = 0 then (some x6_2) else (expr_Part.l0 k2 l0 (wrap64 (x5_2 + 1)) (wrap64 (x6_2 - 1)))) = some r := by rw [if_neg (show ¬ (false = true) by decide)] at H; exact H
                  clear H
                  have H := H1
                  clear H1
                  by_cases c16 : (wrap64 (x5_2 + 1)) = 0
                  · rw [if_pos c16] at H
                    obtain ⟨c16b0, c16b1⟩ := eqB_ c16
                    clear c16
                    obtain rfl := Option.some.inj H
                    have p315 : 0 ≤ (x6_2 : Int) := dt_
                    have q315 : x6_2 < (l0.length : Int) := dt_
                    obtain ⟨ad315, e315, hx315_0, hx315_1, hx315_2, hx315_3, hx315_4⟩ := at_T52 HR0.out x6_2 p315 q315
                    cases e315
                    replace hx315_0 := cm_ HB hx315_0
                    replace hx315_1 := cm_ HB hx315_1
                    replace hx315_2 := cm_ HB hx315_2
                    replace hx315_3 := cm_ HB hx315_3
                    replace hx315_4 := cm_ HB hx315_4
                    replace p315 := eq_true p315
                    replace q315 := eq_true q315
                    go_wp2_with (first | ((with_reducible refine gate_callee (f := 40) rfl ?_); refine goesL_ (some 28) rfl rfl Try.func40 (by kernel_rfl) rfl #[.int .i64 ((rd_T52 l0 x6_2).f0)] rfl ga_ ?_; (with_reducible refine (expr_pushes.calls ((rd_T52 l0 x6_2).f0) false _ A13.out).mono ?_); rintro e w' ⟨rfl, ⟨nd, rfl⟩⟩; refine ⟨_, rfl, ?_⟩))
                    go_ret
                    exact ⟨by first | rfl | (simp [errW_none, errW_some] <;> rfl) | (simp [*, errW_none, errW_some] <;> rfl), by repeat (first | (with_reducible first | exact HB.out | apply below_alloc | apply pw_below_drewN | apply below_drew1) | exact HB.out)⟩
                  · rw [if_neg c16] at H
                    obtain ⟨c16b0, c16b1⟩ := neB_ c16
                    have H' := Aside0.mk H
                    clear H
                    have p315 : 0 ≤ (x6_2 : Int) := dt_
                    have q315 : x6_2 < (l0.length : Int) := dt_
                    obtain ⟨ad315, e315, hx315_0, hx315_1, hx315_2, hx315_3, hx315_4⟩ := at_T52 HR0.out x6_2 p315 q315
                    cases e315
                    replace hx315_0 := cm_ HB hx315_0
                    replace hx315_1 := cm_ HB hx315_1
                    replace hx315_2 := cm_ HB hx315_2
                    replace hx315_3 := cm_ HB hx315_3
                    replace hx315_4 := cm_ HB hx315_4
                    replace p315 := eq_true p315
                    replace q315 := eq_true q315
                    go_wp2_with (first | ((with_reducible refine gate_callee (f := 40) rfl ?_); refine goesL_ (some 28) rfl rfl Try.func40 (by kernel_rfl) rfl #[.int .i64 ((rd_T52 l0 x6_2).f0)] rfl ga_ ?_; (with_reducible refine (expr_pushes.calls ((rd_T52 l0 x6_2).f0) false _ A13.out).mono ?_); rintro e w' ⟨rfl, ⟨nd, rfl⟩⟩; refine ⟨_, rfl, ?_⟩))
                    go_roundg k2
                    case measure => have := HJ2.out; have := HK2.out; omega
                    case rel => exact ⟨(wrap64 (x5_2 + 1)), (wrap64 (x6_2 - 1)), ra_, ra_, H', ⟨by have := HJ2.out; have := HK2.out; omega⟩, ⟨by repeat (first | (with_reducible first | exact HB.out | apply below_alloc | apply pw_below_drewN | apply below_drew1) | exact HB.out)⟩⟩
              · rw [if_neg c12] at H
                exact absurd H (by simp)
            · rw [if_neg c11] at H
              exact absurd H (by simp)
end Go.Proofs.Ytconpnagoijacaa.P
end
section
namespace Go.Proofs.Ytconpnagoijacaa.P
open Go.RowKit Go.Proofs.YtconpnagoijacaaW.PrintWords Go.Proofs.YtconpnagoijacaaW.PrintLast Go.Proofs.YtconpnagoijacaaW.PrintMore
attribute [local go_sem] max2_int min2_int max_two min_two max_three min_three max_four min_four
set_option linter.unusedVariables false
set_option linter.unusedSimpArgs false
def constablelaw07_wakes.f (k : Nat)  : Option (Bool) := (some (([(⟨1, (⟨#[88]⟩ : ByteArray), (⟨0, 0, (⟨#[]⟩ : ByteArray)⟩ : S40)⟩ : S52), (⟨2, (⟨#[]⟩ : ByteArray), (⟨1, 2, (⟨#[]⟩ : ByteArray)⟩ : S40)⟩ : S52), (⟨5, (⟨#[]⟩ : ByteArray), (⟨0, 0, (⟨#[]⟩ : ByteArray)⟩ : S40)⟩ : S52)] : List (S52)) : List (S52))).bind fun y328 => ((expr_Eval.f k y328 (([(⟨(⟨#[88]⟩ : ByteArray), (⟨1, 3, (⟨#[]⟩ : ByteArray)⟩ : S40)⟩ : S62)] : List (S62)))).bind fun bt334 => ((expr_Eval.f k y328 ([] : List (S62))).bind fun bt339 => (if bt334.2.2.2 = 0 then (if bt334.2.1 = 6 then (if bt339.2.2.2 = 5 then ((expr_Vars.f k y328).bind fun t344 => (if (t344.length : Int) = 1 then ((expr_Part.f k y328 2).bind fun t347 => (if t347 = 0 then ((expr_Part.f k y328 1).bind fun t348 => (if t348 = 1 then ((expr_Check.f k ([] : List (S52))).bind fun t349 => (some (t349 == 1))) else (some false))) else (some false))) else (some false))) else (some false)) else (some false)) else (some false))))
theorem constablelaw07_wakes.mono : ∀ k, LeO (constablelaw07_wakes.f k ) (constablelaw07_wakes.f (k + 1) ) := by
  intro  k
  unfold constablelaw07_wakes.f
  repeat' first
      | (with_reducible exact expr_Check.mono _ _)
      | (with_reducible exact expr_Eval.mono _ _ _)
      | (with_reducible exact expr_Part.mono _ _ _)
      | (with_reducible exact expr_Vars.mono _ _)
      | (with_reducible exact LeO.refl _)
      | (with_reducible exact LeO.none _)
      | (with_reducible refine LeO.ite ?_ ?_)
      | (with_reducible refine LeO.bind ?_ (fun _ => ?_))
      | exact expr_Check.mono _ _
      | exact expr_Eval.mono _ _ _
      | exact expr_Part.mono _ _ _
      | exact expr_Vars.mono _ _
      | exact LeO.none _
      | refine LeO.ite ?_ ?_
      | refine LeO.bind ?_ (fun _ => ?_)
set_option maxHeartbeats 8000000 in
set_option maxRecDepth 100000 in
theorem constablelaw07_wakes.calls (k : Nat)  (r : Bool) (w : World) (h : constablelaw07_wakes.f k  = some r) (hr_ : r = true) :
    Calls Try.prog 32 #[] w fun e w' => e = .returned (.bool r) ∧ Below w.heap.size w w' := by
  have hu40 := Try.underlying40
  have hu52 := Try.underlying52
  have hu62 := Try.underlying62
  have HB := Aside0.mk (Below.refl w.heap.size w)
  have H : ((some (([(⟨1, (⟨#[88]⟩ : ByteArray), (⟨0, 0, (⟨#[]⟩ : ByteArray)⟩ : S40)⟩ : S52), (⟨2, (⟨#[]⟩ : ByteArray), (⟨1, 2, (⟨#[]⟩ : ByteArray)⟩ : S40)⟩ : S52), (⟨5, (⟨#[]⟩ : ByteArray), (⟨0, 0, (⟨#[]⟩ : ByteArray)⟩ : S40)⟩ : S52)] : List (S52)) : List (S52))).bind fun y328 => ((expr_Eval.f k y328 (([(⟨(⟨#[88]⟩ : ByteArray), (⟨1, 3, (⟨#[]⟩ : ByteArray)⟩ : S40)⟩ : S62)] : List (S62)))).bind fun bt334 => ((expr_Eval.f k y328 ([] : List (S62))).bind fun bt339 => (if bt334.2.2.2 = 0 then (if bt334.2.1 = 6 then (if bt339.2.2.2 = 5 then ((expr_Vars.f k y328).bind fun t344 => (if (t344.length : Int) = 1 then ((expr_Part.f k y328 2).bind fun t347 => (if t347 = 0 then ((expr_Part.f k y328 1).bind fun t348 => (if t348 = 1 then ((expr_Check.f k ([] : List (S52))).bind fun t349 => (some (t349 == 1))) else (some false))) else (some false))) else (some false))) else (some false)) else (some false)) else (some false))))) = some r := h
  clear h
  have HR_ := Aside0.mk hr_
  clear hr_
  obtain ⟨y328, hy328⟩ : ∃ y_ : List (S52), y_ = (([(⟨1, (⟨#[88]⟩ : ByteArray), (⟨0, 0, (⟨#[]⟩ : ByteArray)⟩ : S40)⟩ : S52), (⟨2, (⟨#[]⟩ : ByteArray), (⟨1, 2, (⟨#[]⟩ : ByteArray)⟩ : S40)⟩ : S52), (⟨5, (⟨#[]⟩ : ByteArray), (⟨0, 0, (⟨#[]⟩ : ByteArray)⟩ : S40)⟩ : S52)] : List (S52))) := ⟨_, rfl⟩
  replace H : ((expr_Eval.f k y328 (([(⟨(⟨#[88]⟩ : ByteArray), (⟨1, 3, (⟨#[]⟩ : ByteArray)⟩ : S40)⟩ : S62)] : List (S62)))).bind fun bt334 => ((expr_Eval.f k y328 ([] : List (S62))).bind fun bt339 => (if bt334.2.2.2 = 0 then (if bt334.2.1 = 6 then (if bt339.2.2.2 = 5 then ((expr_Vars.f k y328).bind fun t344 => (if (t344.length : Int) = 1 then ((expr_Part.f k y328 2).bind fun t347 => (if t347 = 0 then ((expr_Part.f k y328 1).bind fun t348 => (if t348 = 1 then ((expr_Check.f k ([] : List (S52))).bind fun t349 => (some (t349 == 1))) else (some false))) else (some false))) else (some false))) else (some false)) else (some false)) else (some false)))) = some r := by first | (rw [hy328]; with_reducible exact H) | (have H2_ := (Option.bind_some _ _).symm.trans H; rw [hy328]; with_reducible exact H2_) | (have H2_ := (Option.bind_some _ _).symm.trans H; with_reducible exact H2_) | with_reducible exact H | (rw [hy328]; exact H) | exact H
  have Ny328 := Aside0.mk hy328
  clear hy328
  obtain ⟨y331, hy331⟩ : ∃ y_ : List (S62), y_ = (([(⟨(⟨#[88]⟩ : ByteArray), (⟨1, 3, (⟨#[]⟩ : ByteArray)⟩ : S40)⟩ : S62)] : List (S62))) := ⟨_, rfl⟩
  replace H : ((expr_Eval.f k y328 y331).bind fun bt334 => ((expr_Eval.f k y328 ([] : List (S62))).bind fun bt339 => (if bt334.2.2.2 = 0 then (if bt334.2.1 = 6 then (if bt339.2.2.2 = 5 then ((expr_Vars.f k y328).bind fun t344 => (if (t344.length : Int) = 1 then ((expr_Part.f k y328 2).bind fun t347 => (if t347 = 0 then ((expr_Part.f k y328 1).bind fun t348 => (if t348 = 1 then ((expr_Check.f k ([] : List (S52))).bind fun t349 => (some (t349 == 1))) else (some false))) else (some false))) else (some false))) else (some false)) else (some false)) else (some false)))) = some r := by first | (rw [hy331]; with_reducible exact H) | (have H2_ := (Option.bind_some _ _).symm.trans H; rw [hy331]; with_reducible exact H2_) | (have H2_ := (Option.bind_some _ _).symm.trans H; with_reducible exact H2_) | with_reducible exact H | (rw [hy331]; exact H) | exact H
  have Ny331 := Aside0.mk hy331
  clear hy331
  replace H := Option.bind_eq_some_iff.mp H
  obtain ⟨⟨t334, t335, t336, t337⟩, A10, H⟩ := H
  replace H : ((expr_Eval.f k y328 ([] : List (S62))).bind fun bt339 => (if t337 = 0 then (if t335 = 6 then (if bt339.2.2.2 = 5 then ((expr_Vars.f k y328).bind fun t344 => (if (t344.length : Int) = 1 then ((expr_Part.f k y328 2).bind fun t347 => (if t347 = 0 then ((expr_Part.f k y328 1).bind fun t348 => (if t348 = 1 then ((expr_Check.f k ([] : List (S52))).bind fun t349 => (some (t349 == 1))) else (some false))) else (some false))) else (some false))) else (some false)) else (some false)) else (some false))) = some r := H
  have A1 := Aside0.mk A10
  clear A10
  replace H := Option.bind_eq_some_iff.mp H
  obtain ⟨⟨t339, t340, t341, t342⟩, A20, H⟩ := H
  replace H : (if t337 = 0 then (if t335 = 6 then (if t342 = 5 then ((expr_Vars.f k y328).bind fun t344 => (if (t344.length : Int) = 1 then ((expr_Part.f k y328 2).bind fun t347 => (if t347 = 0 then ((expr_Part.f k y328 1).bind fun t348 => (if t348 = 1 then ((expr_Check.f k ([] : List (S52))).bind fun t349 => (some (t349 == 1))) else (some false))) else (some false))) else (some false))) else (some false)) else (some false)) else (some false)) = some r := H
  have A2 := Aside0.mk A20
  clear A20
  by_cases c3 : t337 = 0
  · rw [if_pos c3] at H
    obtain ⟨c3b0, c3b1⟩ := eqB_ c3
    clear c3
    by_cases c4 : t335 = 6
    · rw [if_pos c4] at H
      obtain ⟨c4b0, c4b1⟩ := eqB_ c4
      clear c4
      by_cases c5 : t342 = 5
      · rw [if_pos c5] at H
        obtain ⟨c5b0, c5b1⟩ := eqB_ c5
        clear c5
        replace H := Option.bind_eq_some_iff.mp H
        obtain ⟨t344, A60, H⟩ := H
        replace H : (if (t344.length : Int) = 1 then ((expr_Part.f k y328 2).bind fun t347 => (if t347 = 0 then ((expr_Part.f k y328 1).bind fun t348 => (if t348 = 1 then ((expr_Check.f k ([] : List (S52))).bind fun t349 => (some (t349 == 1))) else (some false))) else (some false))) else (some false)) = some r := H
        have A6 := Aside0.mk A60
        clear A60
        by_cases c7 : (t344.length : Int) = 1
        · rw [if_pos c7] at H
          obtain ⟨c7b0, c7b1⟩ := eqB_ c7
          clear c7
          replace H := Option.bind_eq_some_iff.mp H
          obtain ⟨t347, A80, H⟩ := H
          replace H : (if t347 = 0 then ((expr_Part.f k y328 1).bind fun t348 => (if t348 = 1 then ((expr_Check.f k ([] : List (S52))).bind fun t349 => (some (t349 == 1))) else (some false))) else (some false)) = some r := H
          have A8 := Aside0.mk A80
          clear A80
          by_cases c9 : t347 = 0
          · rw [if_pos c9] at H
            obtain ⟨c9b0, c9b1⟩ := eqB_ c9
            clear c9
            replace H := Option.bind_eq_some_iff.mp H
            obtain ⟨t348, A100, H⟩ := H
            replace H : (if t348 = 1 then ((expr_Check.f k ([] : List (S52))).bind fun t349 => (some (t349 == 1))) else (some false)) = some r := H
            have A10 := Aside0.mk A100
            clear A100
            by_cases c11 : t348 = 1
            · rw [if_pos c11] at H
              obtain ⟨c11b0, c11b1⟩ := eqB_ c11
              clear c11
              replace H := Option.bind_eq_some_iff.mp H
              obtain ⟨t349, A120, H⟩ := H
              replace H : (some (t349 == 1)) = some r := H
              have A12 := Aside0.mk A120
              clear A120
              obtain rfl := Option.some.inj H
              go_enter Try.func32, Try.ntmps32
              go_wp2_with (first | ((with_reducible refine gate_dst (N := 1) rfl ?_); (try (refine gate_guard (by rfl) ?_; dsimp only)); refine box_event ?hg (N := 1) ?hd (cs := #[.int .i64 0, .int .i64 0, .string (⟨#[]⟩ : ByteArray)]) (t := 40) ?hr ?_; (case hd => rfl); (case hg => rfl); (case hr => first | (go_simp; done) | (go_simp; rfl)); intro gb326 hg w13 hbox hb; have n0_ := bs_ (be_ HB) hb; have n1_ := Aside0.mk (hbox); have n2_ := gs_ hg (be_ HB); have n3_ := gs_ hg (be_ HB); clear HB; have HB := n0_; have BK326 := n1_; have GW326 := n2_; have GE326 := n3_; clear n0_ n1_ n2_ n3_; clear hb hbox hg) | ((with_reducible refine gate_dst (N := 2) rfl ?_); (try (refine gate_guard (by rfl) ?_; dsimp only)); refine box_event ?hg (N := 2) ?hd (cs := #[.int .i64 0, .int .i64 0, .string (⟨#[]⟩ : ByteArray)]) (t := 40) ?hr ?_; (case hd => rfl); (case hg => rfl); (case hr => first | (go_simp; done) | (go_simp; rfl)); intro gb327 hg w14 hbox hb; have n0_ := bb_ (bu_ BK326) hb; have n1_ := bs_ (be_ HB) hb; have n2_ := Aside0.mk (hbox); have n3_ := gs_ hg (be_ HB); have n4_ := gs_ hg (be_ HB); have n5_ := nl_ hg (bu_ BK326); have n6_ := ng_ hg (bu_ BK326); clear BK326; clear HB; have BK326 := n0_; have HB := n1_; have BK327 := n2_; have GW327 := n3_; have GE327 := n4_; have NB326_327 := n5_; have NB327_326 := n6_; clear n0_ n1_ n2_ n3_ n4_ n5_ n6_; clear hb hbox hg; have hnb15 := NB326_327.out; have hnc15 := NB327_326.out; have hcz16_0 : w14.cell? ⟨gb326, 0, none⟩ = some (.int .i64 0) := (blk_cell BK326.out 0).trans rfl; have hcz16_1 : w14.cell? ⟨gb326, 1, none⟩ = some (.int .i64 0) := (blk_cell BK326.out 1).trans rfl; have hcz16_2 : w14.cell? ⟨gb326, 2, none⟩ = some (.string (⟨#[]⟩ : ByteArray)) := (blk_cell BK326.out 2).trans rfl; have hfz16_0 := blk_frozen BK326.out 0; have hfz16_1 := blk_frozen BK326.out 1; have hfz16_2 := blk_frozen BK326.out 2; have hcz17_0 : w14.cell? ⟨gb327, 0, none⟩ = some (.int .i64 0) := (blk_cell BK327.out 0).trans rfl; have hcz17_1 : w14.cell? ⟨gb327, 1, none⟩ = some (.int .i64 0) := (blk_cell BK327.out 1).trans rfl; have hcz17_2 : w14.cell? ⟨gb327, 2, none⟩ = some (.string (⟨#[]⟩ : ByteArray)) := (blk_cell BK327.out 2).trans rfl; have hfz17_0 := blk_frozen BK327.out 0; have hfz17_1 := blk_frozen BK327.out 1; have hfz17_2 := blk_frozen BK327.out 2) | ((with_reducible refine gate_dst (N := 14) rfl ?_); (try (refine gate_guard (by rfl) ?_; dsimp only)); refine Kd.R_lit k52 _ 52 ?hg (N := 14) ?hd (xs := ([(⟨1, (⟨#[88]⟩ : ByteArray), (⟨0, 0, (⟨#[]⟩ : ByteArray)⟩ : S40)⟩ : S52), (⟨2, (⟨#[]⟩ : ByteArray), (⟨1, 2, (⟨#[]⟩ : ByteArray)⟩ : S40)⟩ : S52), (⟨5, (⟨#[]⟩ : ByteArray), (⟨0, 0, (⟨#[]⟩ : ByteArray)⟩ : S40)⟩ : S52)] : List (S52))) (inner := [.int .i64 1, .string (⟨#[88]⟩ : ByteArray), .int .i64 0, .int .i64 0, .string (⟨#[]⟩ : ByteArray), .int .i64 2, .string (⟨#[]⟩ : ByteArray), .int .i64 1, .int .i64 2, .string (⟨#[]⟩ : ByteArray), .int .i64 5, .string (⟨#[]⟩ : ByteArray), .int .i64 0, .int .i64 0, .string (⟨#[]⟩ : ByteArray)]) (ok := fun _ => True) (okp := fun _ => True) ?hr ?hp (fun _ hk => hk) trivial (Below.refl _ _) (Nat.le_refl _) (by simp) ?_; (case hd => rfl); (case hg => rfl); (case hr => first | (go_simp; done) | (go_simp; rfl)); (case hp => exact (Reps.c5 (show Kd.M k52 _ _ _ (⟨1, (⟨#[88]⟩ : ByteArray), (⟨0, 0, (⟨#[]⟩ : ByteArray)⟩ : S40)⟩ : S52) [.int .i64 1, .string (⟨#[88]⟩ : ByteArray), .int .i64 0, .int .i64 0, .string (⟨#[]⟩ : ByteArray)] from (k52_mkM _ _ _ (⟨1, (⟨#[88]⟩ : ByteArray), (⟨0, 0, (⟨#[]⟩ : ByteArray)⟩ : S40)⟩ : S52) )) (Reps.c5 (show Kd.M k52 _ _ _ (⟨2, (⟨#[]⟩ : ByteArray), (⟨1, 2, (⟨#[]⟩ : ByteArray)⟩ : S40)⟩ : S52) [.int .i64 2, .string (⟨#[]⟩ : ByteArray), .int .i64 1, .int .i64 2, .string (⟨#[]⟩ : ByteArray)] from (k52_mkM _ _ _ (⟨2, (⟨#[]⟩ : ByteArray), (⟨1, 2, (⟨#[]⟩ : ByteArray)⟩ : S40)⟩ : S52) )) (Reps.c5 (show Kd.M k52 _ _ _ (⟨5, (⟨#[]⟩ : ByteArray), (⟨0, 0, (⟨#[]⟩ : ByteArray)⟩ : S40)⟩ : S52) [.int .i64 5, .string (⟨#[]⟩ : ByteArray), .int .i64 0, .int .i64 0, .string (⟨#[]⟩ : ByteArray)] from (k52_mkM _ _ _ (⟨5, (⟨#[]⟩ : ByteArray), (⟨0, 0, (⟨#[]⟩ : ByteArray)⟩ : S40)⟩ : S52) )) (Reps.none _ _))))); intro v329 w18 ho19 hb hg_ hnew_; clear hg_ hnew_; (first | rw [← Ny328.out] at ho19 | (simp only [Int.reduceToNat] at ho19; rw [← Ny328.out] at ho19)); have n0_ := Aside0.mk (Kd.R_lower ho19 (below_size (be_ HB))); have n1_ := Aside0.mk (blk_below (o := .cells #[.int .i64 1, .int .i64 2, .string (⟨#[]⟩ : ByteArray)] 40 (0, 0)) (bp_ BK326) hb); have n2_ := Aside0.mk (blk_below (o := .cells #[.int .i64 1, .int .i64 3, .string (⟨#[]⟩ : ByteArray)] 40 (0, 0)) (bp_ BK327) hb); have n3_ := bs_ (be_ HB) hb; clear BK326; clear BK327; clear HB; have HO330 := n0_; have BK326 := n1_; have BK327 := n2_; have HB := n3_; clear n0_ n1_ n2_ n3_; clear hb ho19; have hcz20_0 : w18.cell? ⟨gb327, 0, none⟩ = some (.int .i64 1) := (blk_cell BK327.out 0).trans rfl; have hcz20_1 : w18.cell? ⟨gb327, 1, none⟩ = some (.int .i64 3) := (blk_cell BK327.out 1).trans rfl; have hcz20_2 : w18.cell? ⟨gb327, 2, none⟩ = some (.string (⟨#[]⟩ : ByteArray)) := (blk_cell BK327.out 2).trans rfl; have hfz20_0 := blk_frozen BK327.out 0; have hfz20_1 := blk_frozen BK327.out 1; have hfz20_2 := blk_frozen BK327.out 2) | ((with_reducible refine gate_dst (N := 19) rfl ?_); (try (refine gate_guard (by rfl) ?_; dsimp only)); refine Kd.R_lit k62 _ 62 ?hg (N := 19) ?hd (xs := ([(⟨(⟨#[88]⟩ : ByteArray), (⟨1, 3, (⟨#[]⟩ : ByteArray)⟩ : S40)⟩ : S62)] : List (S62))) (inner := [.string (⟨#[88]⟩ : ByteArray), .int .i64 1, .int .i64 3, .string (⟨#[]⟩ : ByteArray)]) (ok := fun _ => True) (okp := fun _ => True) ?hr ?hp (fun _ hk => hk) trivial (Below.refl _ _) (Nat.le_refl _) (by simp) ?_; (case hd => rfl); (case hg => rfl); (case hr => first | (go_simp; done) | (go_simp; rfl)); (case hp => exact (Reps.c4 (show Kd.M k62 _ _ _ (⟨(⟨#[88]⟩ : ByteArray), (⟨1, 3, (⟨#[]⟩ : ByteArray)⟩ : S40)⟩ : S62) [.string (⟨#[88]⟩ : ByteArray), .int .i64 1, .int .i64 3, .string (⟨#[]⟩ : ByteArray)] from (k62_mkM _ _ _ (⟨(⟨#[88]⟩ : ByteArray), (⟨1, 3, (⟨#[]⟩ : ByteArray)⟩ : S40)⟩ : S62) )) (Reps.none _ _))); intro v332 w21 ho22 hb hg_ hnew_; clear hg_ hnew_; (first | rw [← Ny331.out] at ho22 | (simp only [Int.reduceToNat] at ho22; rw [← Ny331.out] at ho22)); have n0_ := kb_ (ku_ HO330.out) hb; have n1_ := Aside0.mk (Kd.R_lower ho22 (below_size (be_ HB))); have n2_ := bb_ (bu_ BK326) hb; have n3_ := bb_ (bu_ BK327) hb; have n4_ := bs_ (be_ HB) hb; clear HO330; clear BK326; clear BK327; clear HB; have HO330 := n0_; have HO333 := n1_; have BK326 := n2_; have BK327 := n3_; have HB := n4_; clear n0_ n1_ n2_ n3_ n4_; clear hb ho22; obtain ⟨Ao23, co23, eo23⟩ := Kd.R_slice HO330.out; subst eo23; obtain ⟨Ao24, co24, eo24⟩ := Kd.R_slice HO333.out; subst eo24) | ((with_reducible refine gate_callee (f := 21) rfl ?_); refine goesL_ (some 20) rfl rfl Try.func21 (by kernel_rfl) rfl #[.slice Ao23 y328.length co23, .slice Ao24 y331.length co24] rfl ga_ ?_; (with_reducible refine (expr_Eval.calls k _ _ y328 _ _ y331 t334 t335 t336 t337 _ ?side1 ?side2 ?side3 ?side4 A1.out).mono ?_); (case side1 => repeat (first | exact (Kd.R_reads' HO330.out).2.2 | (with_reducible refine Kd.C_alloc ?_ _) | (with_reducible refine Kd.C_drewN ?_ _) | (with_reducible refine Kd.C_drew ?_))); (case side2 => exact (Kd.R_reads' HO330.out).2.1); (case side3 => repeat (first | exact (Kd.R_reads' HO333.out).2.2 | (with_reducible refine Kd.C_alloc ?_ _) | (with_reducible refine Kd.C_drewN ?_ _) | (with_reducible refine Kd.C_drew ?_))); (case side4 => exact (Kd.R_reads' HO333.out).2.1); rintro e w25 ⟨rfl, hb⟩; refine ⟨_, rfl, ?_⟩; have n0_ := kb_ (ku_ HO330.out) hb; have n1_ := kb_ (ku_ HO333.out) hb; have n2_ := bb_ (bu_ BK326) hb; have n3_ := bb_ (bu_ BK327) hb; have n4_ := bs_ (be_ HB) hb; clear HO330; clear HO333; clear BK326; clear BK327; clear HB; have HO330 := n0_; have HO333 := n1_; have BK326 := n2_; have BK327 := n3_; have HB := n4_; clear n0_ n1_ n2_ n3_ n4_; (try clear hb); (try clear hb2); (try clear hk); (try clear hi)) | ((with_reducible refine gate_dst (N := 4) rfl ?_); (try (refine gate_guard (by rfl) ?_; dsimp only)); refine box_event ?hg (N := 4) ?hd (cs := #[.int .i64 0, .int .i64 0, .string (⟨#[]⟩ : ByteArray)]) (t := 40) ?hr ?_; (case hd => rfl); (case hg => rfl); (case hr => first | (go_simp; done) | (go_simp; rfl)); intro gb338 hg w26 hbox hb; have n0_ := kb_ (ku_ HO330.out) hb; have n1_ := kb_ (ku_ HO333.out) hb; have n2_ := bb_ (bu_ BK326) hb; have n3_ := bb_ (bu_ BK327) hb; have n4_ := bs_ (be_ HB) hb; have n5_ := Aside0.mk (hbox); have n6_ := gs_ hg (be_ HB); have n7_ := gs_ hg (be_ HB); have n8_ := nl_ hg (bu_ BK326); have n9_ := ng_ hg (bu_ BK326); have n10_ := nl_ hg (bu_ BK327); have n11_ := ng_ hg (bu_ BK327); clear HO330; clear HO333; clear BK326; clear BK327; clear HB; have HO330 := n0_; have HO333 := n1_; have BK326 := n2_; have BK327 := n3_; have HB := n4_; have BK338 := n5_; have GW338 := n6_; have GE338 := n7_; have NB326_338 := n8_; have NB338_326 := n9_; have NB327_338 := n10_; have NB338_327 := n11_; clear n0_ n1_ n2_ n3_ n4_ n5_ n6_ n7_ n8_ n9_ n10_ n11_; clear hb hbox hg; have hnb27 := NB338_326.out; have hnc27 := NB326_338.out; have hnb28 := NB338_327.out; have hnc28 := NB327_338.out; have hcz29_0 : w26.cell? ⟨gb338, 0, none⟩ = some (.int .i64 0) := (blk_cell BK338.out 0).trans rfl; have hcz29_1 : w26.cell? ⟨gb338, 1, none⟩ = some (.int .i64 0) := (blk_cell BK338.out 1).trans rfl; have hcz29_2 : w26.cell? ⟨gb338, 2, none⟩ = some (.string (⟨#[]⟩ : ByteArray)) := (blk_cell BK338.out 2).trans rfl; have hfz29_0 := blk_frozen BK338.out 0; have hfz29_1 := blk_frozen BK338.out 1; have hfz29_2 := blk_frozen BK338.out 2) | ((with_reducible refine gate_callee (f := 21) rfl ?_); refine goesL_ (some 25) rfl rfl Try.func21 (by kernel_rfl) rfl #[.slice Ao23 y328.length co23, .slice none 0 0] rfl ga_ ?_; (refine (expr_Eval.calls k _ _ y328 _ _ ([] : List (S62)) t339 t340 t341 t342 _ ?side1 ?side2 ?side3 ?side4 A2.out).mono ?_); (case side1 => refine (Kd.R_reads' (e := 52) (base := w.heap.size) (ok := fun k_ => True) (n := y328.length) (c := co23) ?_).2.2; exact (ku_ (Kd.R_mono (Kd.R_far (p := ⟨gb338, 2, none⟩) (Kd.R_far (p := ⟨gb338, 1, none⟩) (Kd.R_far (p := ⟨gb338, 0, none⟩) (Kd.R_types HO330.out BK338.out (by decide)) (fun _ hk => hk.2) (.int .i64 t334)) (fun _ hk => hk.2) (.int .i64 t335)) (fun _ hk => hk.2) (.string t336)) (fun _ h_ => h_.1)))); (case side2 => exact (Kd.R_reads' HO330.out).2.1); (case side3 => exact Kd.C_nil _ _); (case side4 => exact Nat.le_refl _); rintro e w30 ⟨rfl, hb⟩; refine ⟨_, rfl, ?_⟩; have n0_ := Aside0.mk (Kd.R_below (ku_ (Kd.R_mono (Kd.R_far (p := ⟨gb338, 2, none⟩) (Kd.R_far (p := ⟨gb338, 1, none⟩) (Kd.R_far (p := ⟨gb338, 0, none⟩) (Kd.R_types HO330.out BK338.out (by decide)) (fun _ hk => hk.2) (.int .i64 t334)) (fun _ hk => hk.2) (.int .i64 t335)) (fun _ hk => hk.2) (.string t336)) (fun _ h_ => h_.1))) hb); have n1_ := Aside0.mk (Kd.R_below (ku_ (Kd.R_mono (Kd.R_far (p := ⟨gb338, 2, none⟩) (Kd.R_far (p := ⟨gb338, 1, none⟩) (Kd.R_far (p := ⟨gb338, 0, none⟩) (Kd.R_types HO333.out BK338.out (by decide)) (fun _ hk => hk.2) (.int .i64 t334)) (fun _ hk => hk.2) (.int .i64 t335)) (fun _ hk => hk.2) (.string t336)) (fun _ h_ => h_.1))) hb); have n2_ := bb_ (bu_ BK326) hb; have n3_ := bb_ (bu_ BK327) hb; have n4_ := Aside0.mk (blk_below (o := .cells #[.int .i64 t334, .int .i64 t335, .string t336] 40 (0, 0)) (bp_ BK338) hb); have n5_ := bs_ (be_ HB) hb; clear HO330; clear HO333; clear BK326; clear BK327; clear BK338; clear HB; have HO330 := n0_; have HO333 := n1_; have BK326 := n2_; have BK327 := n3_; have BK338 := n4_; have HB := n5_; clear n0_ n1_ n2_ n3_ n4_ n5_; (try clear hb); (try clear hb2); (try clear hk); (try clear hi)) | ((with_reducible refine gate_dst (N := 6) rfl ?_); (try (refine gate_guard (by rfl) ?_; dsimp only)); refine box_event ?hg (N := 6) ?hd (cs := #[.int .i64 0, .int .i64 0, .string (⟨#[]⟩ : ByteArray)]) (t := 40) ?hr ?_; (case hd => rfl); (case hg => rfl); (case hr => first | (go_simp; done) | (go_simp; rfl)); intro gb343 hg w31 hbox hb; have n0_ := kb_ (ku_ HO330.out) hb; have n1_ := kb_ (ku_ HO333.out) hb; have n2_ := bb_ (bu_ BK326) hb; have n3_ := bb_ (bu_ BK327) hb; have n4_ := bb_ (bu_ BK338) hb; have n5_ := bs_ (be_ HB) hb; have n6_ := Aside0.mk (hbox); have n7_ := gs_ hg (be_ HB); have n8_ := gs_ hg (be_ HB); have n9_ := nl_ hg (bu_ BK326); have n10_ := ng_ hg (bu_ BK326); have n11_ := nl_ hg (bu_ BK327); have n12_ := ng_ hg (bu_ BK327); have n13_ := nl_ hg (bu_ BK338); have n14_ := ng_ hg (bu_ BK338); clear HO330; clear HO333; clear BK326; clear BK327; clear BK338; clear HB; have HO330 := n0_; have HO333 := n1_; have BK326 := n2_; have BK327 := n3_; have BK338 := n4_; have HB := n5_; have BK343 := n6_; have GW343 := n7_; have GE343 := n8_; have NB326_343 := n9_; have NB343_326 := n10_; have NB327_343 := n11_; have NB343_327 := n12_; have NB338_343 := n13_; have NB343_338 := n14_; clear n0_ n1_ n2_ n3_ n4_ n5_ n6_ n7_ n8_ n9_ n10_ n11_ n12_ n13_ n14_; clear hb hbox hg; have hnb32 := NB343_326.out; have hnc32 := NB326_343.out; have hnb33 := NB343_327.out; have hnc33 := NB327_343.out; have hnb34 := NB343_338.out; have hnc34 := NB338_343.out; have hcz35_0 : w31.cell? ⟨gb343, 0, none⟩ = some (.int .i64 0) := (blk_cell BK343.out 0).trans rfl; have hcz35_1 : w31.cell? ⟨gb343, 1, none⟩ = some (.int .i64 0) := (blk_cell BK343.out 1).trans rfl; have hcz35_2 : w31.cell? ⟨gb343, 2, none⟩ = some (.string (⟨#[]⟩ : ByteArray)) := (blk_cell BK343.out 2).trans rfl; have hfz35_0 := blk_frozen BK343.out 0; have hfz35_1 := blk_frozen BK343.out 1; have hfz35_2 := blk_frozen BK343.out 2; have hcz36_0 : w31.cell? ⟨gb338, 0, none⟩ = some (.int .i64 t334) := (blk_cell BK338.out 0).trans rfl; have hcz36_1 : w31.cell? ⟨gb338, 1, none⟩ = some (.int .i64 t335) := (blk_cell BK338.out 1).trans rfl; have hcz36_2 : w31.cell? ⟨gb338, 2, none⟩ = some (.string t336) := (blk_cell BK338.out 2).trans rfl; have hfz36_0 := blk_frozen BK338.out 0; have hfz36_1 := blk_frozen BK338.out 1; have hfz36_2 := blk_frozen BK338.out 2) | (go_at_call 23; (with_reducible refine (expr_Vars.calls k _ _ y328 t344 _ ?side1 ?side2 A6.out).mono ?_); (case side1 => refine (Kd.R_reads' (e := 52) (base := w.heap.size) (ok := fun k_ => True) (n := y328.length) (c := co23) ?_).2.2; exact (ku_ (Kd.R_mono (Kd.R_far (p := ⟨gb343, 2, none⟩) (Kd.R_far (p := ⟨gb343, 1, none⟩) (Kd.R_far (p := ⟨gb343, 0, none⟩) (Kd.R_types HO330.out BK343.out (by decide)) (fun _ hk => hk.2) (.int .i64 t339)) (fun _ hk => hk.2) (.int .i64 t340)) (fun _ hk => hk.2) (.string t341)) (fun _ h_ => h_.1)))); (case side2 => exact (Kd.R_reads' HO330.out).2.1); rintro e w37 ⟨v345, rfl, ho0, hb⟩; have n0_ := Aside0.mk (Kd.R_below (ku_ (Kd.R_mono (Kd.R_far (p := ⟨gb343, 2, none⟩) (Kd.R_far (p := ⟨gb343, 1, none⟩) (Kd.R_far (p := ⟨gb343, 0, none⟩) (Kd.R_types HO330.out BK343.out (by decide)) (fun _ hk => hk.2) (.int .i64 t339)) (fun _ hk => hk.2) (.int .i64 t340)) (fun _ hk => hk.2) (.string t341)) (fun _ h_ => h_.1))) hb); have n1_ := Aside0.mk (Kd.R_below (ku_ (Kd.R_mono (Kd.R_far (p := ⟨gb343, 2, none⟩) (Kd.R_far (p := ⟨gb343, 1, none⟩) (Kd.R_far (p := ⟨gb343, 0, none⟩) (Kd.R_types HO333.out BK343.out (by decide)) (fun _ hk => hk.2) (.int .i64 t339)) (fun _ hk => hk.2) (.int .i64 t340)) (fun _ hk => hk.2) (.string t341)) (fun _ h_ => h_.1))) hb); have n2_ := Aside0.mk (Kd.R_lower ho0 (below_size (be_ HB))); have n3_ := bb_ (bu_ BK326) hb; have n4_ := bb_ (bu_ BK327) hb; have n5_ := bb_ (bu_ BK338) hb; have n6_ := Aside0.mk (blk_below (o := .cells #[.int .i64 t339, .int .i64 t340, .string t341] 40 (0, 0)) (bp_ BK343) hb); have n7_ := bs_ (be_ HB) hb; clear HO330; clear HO333; clear BK326; clear BK327; clear BK338; clear BK343; clear HB; have HO330 := n0_; have HO333 := n1_; have HO346 := n2_; have BK326 := n3_; have BK327 := n4_; have BK338 := n5_; have BK343 := n6_; have HB := n7_; clear n0_ n1_ n2_ n3_ n4_ n5_ n6_ n7_; (try clear hb); (try clear hb2); (try clear hk); (try clear hi); (try clear ho0); obtain ⟨Ao38, co38, eo38⟩ := Kd.R_slice HO346.out; subst eo38) | (go_at_call 30; (with_reducible refine (expr_Part.calls k _ _ y328 2 t347 _ ?side1 ?side2 A8.out).mono ?_); (case side1 => repeat (first | exact (Kd.R_reads' HO330.out).2.2 | (with_reducible refine Kd.C_alloc ?_ _) | (with_reducible refine Kd.C_drewN ?_ _) | (with_reducible refine Kd.C_drew ?_))); (case side2 => exact (Kd.R_reads' HO330.out).2.1); rintro e w39 ⟨rfl, hb⟩; have n0_ := kb_ (ku_ HO330.out) hb; have n1_ := kb_ (ku_ HO333.out) hb; have n2_ := kb_ (ku_ HO346.out) hb; have n3_ := bb_ (bu_ BK326) hb; have n4_ := bb_ (bu_ BK327) hb; have n5_ := bb_ (bu_ BK338) hb; have n6_ := bb_ (bu_ BK343) hb; have n7_ := bs_ (be_ HB) hb; clear HO330; clear HO333; clear HO346; clear BK326; clear BK327; clear BK338; clear BK343; clear HB; have HO330 := n0_; have HO333 := n1_; have HO346 := n2_; have BK326 := n3_; have BK327 := n4_; have BK338 := n5_; have BK343 := n6_; have HB := n7_; clear n0_ n1_ n2_ n3_ n4_ n5_ n6_ n7_; (try clear hb); (try clear hb2); (try clear hk); (try clear hi)) | (go_at_call 30; (with_reducible refine (expr_Part.calls k _ _ y328 1 t348 _ ?side1 ?side2 A10.out).mono ?_); (case side1 => repeat (first | exact (Kd.R_reads' HO330.out).2.2 | (with_reducible refine Kd.C_alloc ?_ _) | (with_reducible refine Kd.C_drewN ?_ _) | (with_reducible refine Kd.C_drew ?_))); (case side2 => exact (Kd.R_reads' HO330.out).2.1); rintro e w40 ⟨rfl, hb⟩; have n0_ := kb_ (ku_ HO330.out) hb; have n1_ := kb_ (ku_ HO333.out) hb; have n2_ := kb_ (ku_ HO346.out) hb; have n3_ := bb_ (bu_ BK326) hb; have n4_ := bb_ (bu_ BK327) hb; have n5_ := bb_ (bu_ BK338) hb; have n6_ := bb_ (bu_ BK343) hb; have n7_ := bs_ (be_ HB) hb; clear HO330; clear HO333; clear HO346; clear BK326; clear BK327; clear BK338; clear BK343; clear HB; have HO330 := n0_; have HO333 := n1_; have HO346 := n2_; have BK326 := n3_; have BK327 := n4_; have BK338 := n5_; have BK343 := n6_; have HB := n7_; clear n0_ n1_ n2_ n3_ n4_ n5_ n6_ n7_; (try clear hb); (try clear hb2); (try clear hk); (try clear hi)) | (go_at_call 28; (refine (expr_Check.calls k _ _ ([] : List (S52)) t349 _ ?side1 ?side2 A12.out).mono ?_); (case side1 => exact Kd.C_nil _ _); (case side2 => exact Nat.le_refl _); rintro e w41 ⟨rfl, hb⟩; have n0_ := kb_ (ku_ HO330.out) hb; have n1_ := kb_ (ku_ HO333.out) hb; have n2_ := kb_ (ku_ HO346.out) hb; have n3_ := bb_ (bu_ BK326) hb; have n4_ := bb_ (bu_ BK327) hb; have n5_ := bb_ (bu_ BK338) hb; have n6_ := bb_ (bu_ BK343) hb; have n7_ := bs_ (be_ HB) hb; clear HO330; clear HO333; clear HO346; clear BK326; clear BK327; clear BK338; clear BK343; clear HB; have HO330 := n0_; have HO333 := n1_; have HO346 := n2_; have BK326 := n3_; have BK327 := n4_; have BK338 := n5_; have BK343 := n6_; have HB := n7_; clear n0_ n1_ n2_ n3_ n4_ n5_ n6_ n7_; (try clear hb); (try clear hb2); (try clear hk); (try clear hi)))
              go_ret
              exact ⟨by first | rfl | (simp [errW_none, errW_some] <;> rfl) | (simp [*, errW_none, errW_some] <;> rfl), by repeat (first | (with_reducible first | exact HB.out | apply below_alloc | apply pw_below_drewN | apply below_drew1 | refine below_set ?_ GE326.out | refine below_set ?_ GE327.out | refine below_set ?_ GE338.out | refine below_set ?_ GE343.out) | exact HB.out)⟩
            · rw [if_neg c11] at H
              obtain ⟨c11b0, c11b1⟩ := neB_ c11
              exact absurd ((Option.some.inj H).trans HR_.out) (by decide)
          · rw [if_neg c9] at H
            obtain ⟨c9b0, c9b1⟩ := neB_ c9
            exact absurd ((Option.some.inj H).trans HR_.out) (by decide)
        · rw [if_neg c7] at H
          obtain ⟨c7b0, c7b1⟩ := neB_ c7
          exact absurd ((Option.some.inj H).trans HR_.out) (by decide)
      · rw [if_neg c5] at H
        obtain ⟨c5b0, c5b1⟩ := neB_ c5
        exact absurd ((Option.some.inj H).trans HR_.out) (by decide)
    · rw [if_neg c4] at H
      obtain ⟨c4b0, c4b1⟩ := neB_ c4
      exact absurd ((Option.some.inj H).trans HR_.out) (by decide)
  · rw [if_neg c3] at H
    obtain ⟨c3b0, c3b1⟩ := neB_ c3
    exact absurd ((Option.some.inj H).trans HR_.out) (by decide)
end Go.Proofs.Ytconpnagoijacaa.P
end
section
namespace Go.Proofs.Ytconpnagoijacaa.P
open Go.RowKit Go.Proofs.YtconpnagoijacaaW.PrintWords Go.Proofs.YtconpnagoijacaaW.PrintLast Go.Proofs.YtconpnagoijacaaW.PrintMore
attribute [local go_sem] max2_int min2_int max_two min_two max_three min_three max_four min_four
set_option linter.unusedVariables false
set_option linter.unusedSimpArgs false
def constableref01_Get.l0 : Nat → List (S62) → ByteArray → Int → Option (Int × Int × ByteArray × Bool)
  | 0, _, _, _ => none
  | k + 1, x0, x1, x6 => if x6 < (x0.length : Int) then (if 0 ≤ x6 then (if ((rd_T62 x0 x6).f0).toList = x1.toList then (some ((rd_T62 x0 x6).f1.f0, (rd_T62 x0 x6).f1.f1, (rd_T62 x0 x6).f1.f2, true)) else (constableref01_Get.l0 k x0 x1 (wrap64 (x6 + 1)))) else (none)) else (some (0, 0, (⟨#[]⟩ : ByteArray), false))
def constableref01_Get.f (k : Nat) (l0 : List (S62)) (a1 : ByteArray) : Option (Int × Int × ByteArray × Bool) := constableref01_Get.l0 k l0 a1 0
theorem constableref01_Get.mono_l : ∀ k, (∀ y0 y1 y2, LeO (constableref01_Get.l0 k y0 y1 y2) (constableref01_Get.l0 (k + 1) y0 y1 y2))
  | 0 => fun _ _ _ r h => by simp [constableref01_Get.l0] at h
  | k + 1 => by
    have ih0 := constableref01_Get.mono_l k
    · intro y0 y1 y2
      unfold constableref01_Get.l0
      repeat' first
      | (with_reducible exact ih0 _ _ _)
      | (with_reducible exact LeO.refl _)
      | (with_reducible exact LeO.none _)
      | (with_reducible refine LeO.ite ?_ ?_)
      | (with_reducible refine LeO.bind ?_ (fun _ => ?_))
      | exact ih0 _ _ _
      | exact LeO.none _
      | refine LeO.ite ?_ ?_
      | refine LeO.bind ?_ (fun _ => ?_)
theorem constableref01_Get.mono : ∀ a0 a1 k, LeO (constableref01_Get.f k a0 a1) (constableref01_Get.f (k + 1) a0 a1) := by
  intro a0 a1 k
  have ih0 := constableref01_Get.mono_l k
  unfold constableref01_Get.f
  repeat' first
      | (with_reducible exact ih0 _ _ _)
      | (with_reducible exact LeO.refl _)
      | (with_reducible exact LeO.none _)
      | (with_reducible refine LeO.ite ?_ ?_)
      | (with_reducible refine LeO.bind ?_ (fun _ => ?_))
      | exact ih0 _ _ _
      | exact LeO.none _
      | refine LeO.ite ?_ ?_
      | refine LeO.bind ?_ (fun _ => ?_)
set_option maxHeartbeats 8000000 in
set_option maxRecDepth 100000 in
theorem constableref01_Get.calls (k : Nat) (A0 : Option Addr) (c0 : Nat) (l0 : List (S62)) (a1 : ByteArray) (r1 : Int) (r2 : Int) (r3 : ByteArray) (r4 : Bool) (w : World) (hr0 : Kd.C k62 w A0 l0.length l0) (hc0 : l0.length ≤ c0) (h : constableref01_Get.f k l0 a1 = some (r1, r2, r3, r4)) :
    Calls Try.prog 34 #[.slice A0 l0.length c0, .string a1] w fun e w' => e = .returned (.tuple #[.agg #[.int .i64 r1, .int .i64 r2, .string r3], .bool r4]) ∧ Below w.heap.size w w' := by
  have hu40 := Try.underlying40
  have HR0 := Aside0.mk hr0
  have HC0 := Aside0.mk hc0
  clear hr0 hc0
  have HB := Aside0.mk (Below.refl w.heap.size w)
  have H : (constableref01_Get.l0 k l0 a1 0) = some (r1, r2, r3, r4) := h
  clear h
  have H' := Aside0.mk H
  clear H
  go_enter Try.func34, Try.ntmps34
  go_wp2_with (first | ((with_reducible refine gate_dst (N := 4) rfl ?_); refine box_event ?hg (N := 4) ?hd (cs := #[.int .i64 0, .int .i64 0, .string (⟨#[]⟩ : ByteArray)]) (t := 40) ?hr ?_; (case hd => rfl); (case hg => rfl); (case hr => first | (go_simp; done) | (go_simp; rfl)); intro gb350 hg w3 hbox hb; have n0_ := bs_ (be_ HB) hb; have n1_ := Aside0.mk (hbox); have n2_ := gs_ hg (be_ HB); have n3_ := gs_ hg (be_ HB); clear HB; have HB := n0_; have BK350 := n1_; have GW350 := n2_; have GE350 := n3_; clear n0_ n1_ n2_ n3_; clear hb hbox hg))
  go_loopg [6] k (fun kq v6 w' => ∃ (x6_1 : Int) (x351000_1 : Int) (x351001_1 : Int) (x351002_1 : ByteArray), v6 = .int .i64 x6_1 ∧ Aside0 (constableref01_Get.l0 kq l0 a1 x6_1 = some (r1, r2, r3, r4)) ∧ Aside0 (kq ≤ k) ∧ Aside0 (w'.heap[gb350]? = some (.cells #[.int .i64 x351000_1, .int .i64 x351001_1, .string x351002_1] 40 (0, 0))) ∧ Aside0 (Below w.heap.size w w'))
  case atStart => exact ⟨(0), (0), (0), ((⟨#[]⟩ : ByteArray)), ra_, H', ⟨Nat.le_refl _⟩, ⟨by (with_reducible repeat (first | refine blk_drewN ?_ _ | refine blk_drew ?_ | refine blk_alloc ?_ _)); exact BK350.out⟩, ⟨by repeat (first | (with_reducible first | exact HB.out | apply below_alloc | apply pw_below_drewN | apply below_drew1 | refine below_set ?_ GE350.out) | exact HB.out)⟩⟩
  case round =>
    clear H'
    try clear p2
    try clear c3
    obtain ⟨x6_1, x351000_1, x351001_1, x351002_1, rfl, HA, HK1, BK350, HB⟩ := hrel
    cases gk with
    | zero => exact absurd HA.out (by simp [constableref01_Get.l0])
    | succ k1 =>
      have H := HA.out
      clear HA
      simp only [constableref01_Get.l0] at H
      by_cases c4 : x6_1 < (l0.length : Int)
      · rw [if_pos c4] at H
        have c4b0 : decide (x6_1 < (l0.length : Int)) = true := decide_eq_true c4
        clear c4
        by_cases c5 : 0 ≤ x6_1
        · rw [if_pos c5] at H
          have c5b0 : decide (0 ≤ x6_1) = true := decide_eq_true c5
          clear c5
          by_cases c6 : ((rd_T62 l0 x6_1).f0).toList = a1.toList
          · rw [if_pos c6] at H
            obtain ⟨c6b0, c6b1⟩ := eqB_ c6
            clear c6
            simp only [Option.some.injEq, Prod.mk.injEq] at H
            obtain ⟨rfl, rfl, rfl, rfl⟩ := H
            have p351 : 0 ≤ (x6_1 : Int) := dt_
            have q351 : x6_1 < (l0.length : Int) := dt_
            obtain ⟨ad351, e351, hx351_0, hx351_1, hx351_2, hx351_3⟩ := at_T62 HR0.out x6_1 p351 q351
            cases e351
            replace hx351_0 := cm_ HB hx351_0
            replace hx351_1 := cm_ HB hx351_1
            replace hx351_2 := cm_ HB hx351_2
            replace hx351_3 := cm_ HB hx351_3
            replace p351 := eq_true p351
            replace q351 := eq_true q351
            have p352 : 0 ≤ (x6_1 : Int) := dt_
            have q352 : x6_1 < (l0.length : Int) := dt_
            obtain ⟨ad352, e352, hx352_0, hx352_1, hx352_2, hx352_3⟩ := at_T62 HR0.out x6_1 p352 q352
            obtain rfl : ad351 = ad352 := (by injection e352)
            replace hx352_0 := cm_ HB hx352_0
            replace hx352_1 := cm_ HB hx352_1
            replace hx352_2 := cm_ HB hx352_2
            replace hx352_3 := cm_ HB hx352_3
            replace p352 := eq_true p352
            replace q352 := eq_true q352
            have hcz7_0 : wr.cell? ⟨gb350, 0, none⟩ = some (.int .i64 x351000_1) := (blk_cell BK350.out 0).trans rfl
            have hcz7_1 : wr.cell? ⟨gb350, 1, none⟩ = some (.int .i64 x351001_1) := (blk_cell BK350.out 1).trans rfl
            have hcz7_2 : wr.cell? ⟨gb350, 2, none⟩ = some (.string x351002_1) := (blk_cell BK350.out 2).trans rfl
            have hfz7_0 := blk_frozen BK350.out 0
            have hfz7_1 := blk_frozen BK350.out 1
            have hfz7_2 := blk_frozen BK350.out 2
            go_wp2
            refine bodyPost_ret (results_ct rfl _ _ gb350 40 #[.int .i64 ((rd_T62 l0 x6_1).f1.f0), .int .i64 ((rd_T62 l0 x6_1).f1.f1), .string ((rd_T62 l0 x6_1).f1.f2)] (0, 0) _ rfl (bp_ BK350) Try.underlying40 rfl (by kernel_rfl)) rfl ?_
            exact ⟨by first | rfl | (simp [errW_none, errW_some] <;> rfl) | (simp [*, errW_none, errW_some] <;> rfl), by repeat (first | (with_reducible first | exact HB.out | apply below_alloc | apply pw_below_drewN | apply below_drew1 | refine below_set ?_ GE350.out) | exact HB.out)⟩
          · rw [if_neg c6] at H
            obtain ⟨c6b0, c6b1⟩ := neB_ c6
            have H' := Aside0.mk H
            clear H
            have p351 : 0 ≤ (x6_1 : Int) := dt_
            have q351 : x6_1 < (l0.length : Int) := dt_
            obtain ⟨ad351, e351, hx351_0, hx351_1, hx351_2, hx351_3⟩ := at_T62 HR0.out x6_1 p351 q351
            cases e351
            replace hx351_0 := cm_ HB hx351_0
            replace hx351_1 := cm_ HB hx351_1
            replace hx351_2 := cm_ HB hx351_2
            replace hx351_3 := cm_ HB hx351_3
            replace p351 := eq_true p351
            replace q351 := eq_true q351
            go_wp2
            go_roundg k1
            case measure => have := HK1.out; omega
            case rel => exact ⟨(wrap64 (x6_1 + 1)), (x351000_1), (x351001_1), (x351002_1), ra_, H', ⟨by have := HK1.out; omega⟩, ⟨by (with_reducible repeat (first | refine blk_drewN ?_ _ | refine blk_drew ?_ | refine blk_alloc ?_ _)); exact BK350.out⟩, ⟨by repeat (first | (with_reducible first | exact HB.out | apply below_alloc | apply pw_below_drewN | apply below_drew1 | refine below_set ?_ GE350.out) | exact HB.out)⟩⟩
        · rw [if_neg c5] at H
          exact absurd H (by simp)
      · rw [if_neg c4] at H
        have c4b0 : decide (x6_1 < (l0.length : Int)) = false := decide_eq_false c4
        clear c4
        simp only [Option.some.injEq, Prod.mk.injEq] at H
        obtain ⟨rfl, rfl, rfl, rfl⟩ := H
        have hcz8_0 : wr.cell? ⟨gb350, 0, none⟩ = some (.int .i64 x351000_1) := (blk_cell BK350.out 0).trans rfl
        have hcz8_1 : wr.cell? ⟨gb350, 1, none⟩ = some (.int .i64 x351001_1) := (blk_cell BK350.out 1).trans rfl
        have hcz8_2 : wr.cell? ⟨gb350, 2, none⟩ = some (.string x351002_1) := (blk_cell BK350.out 2).trans rfl
        have hfz8_0 := blk_frozen BK350.out 0
        have hfz8_1 := blk_frozen BK350.out 1
        have hfz8_2 := blk_frozen BK350.out 2
        go_wp2
        refine bodyPost_ret (results_ct rfl _ _ gb350 40 #[.int .i64 0, .int .i64 0, .string (⟨#[]⟩ : ByteArray)] (0, 0) _ rfl (bp_ BK350) Try.underlying40 rfl (by kernel_rfl)) rfl ?_
        exact ⟨by first | rfl | (simp [errW_none, errW_some] <;> rfl) | (simp [*, errW_none, errW_some] <;> rfl), by repeat (first | (with_reducible first | exact HB.out | apply below_alloc | apply pw_below_drewN | apply below_drew1 | refine below_set ?_ GE350.out) | exact HB.out)⟩
end Go.Proofs.Ytconpnagoijacaa.P
end
section
namespace Go.Proofs.Ytconpnagoijacaa.P
open Go.RowKit Go.Proofs.YtconpnagoijacaaW.PrintWords Go.Proofs.YtconpnagoijacaaW.PrintLast Go.Proofs.YtconpnagoijacaaW.PrintMore
attribute [local go_sem] max2_int min2_int max_two min_two max_three min_three max_four min_four
set_option linter.unusedVariables false
set_option linter.unusedSimpArgs false
attribute [local go_sem high] eqA40
mutual
def constablelaw07_ExprPut.j0 : Nat → List (S52) → List (S62) → Bool → Option (Bool)
  | 0, _, _, _ => none
  | k + 1, x0, x1, x29 => if x29 = true then (some true) else ((constablekeep_TwinOps.f x0).bind fun t461 => (constablelaw07_ExprPut.l0 k x0 x1 t461 true 0))
def constablelaw07_ExprPut.l0 : Nat → List (S52) → List (S62) → List (S52) → Bool → Int → Option (Bool)
  | 0, _, _, _, _, _ => none
  | k + 1, x0, x1, x5, x6, x7 => if x7 < (x5.length : Int) then (if 0 ≤ x7 then (if ((rd_T52 x5 x7).f0) = 1 then ((constableref01_Get.f k x1 ((rd_T52 x5 x7).f1)).bind fun bt466 => (if x6 = true then (if bt466.2.2.2 = true then (constablelaw07_ExprPut.l0 k x0 x1 (x5.set (x7 : Int).toNat (⟨2, (⟨#[]⟩ : ByteArray), (⟨bt466.1, bt466.2.1, bt466.2.2.1⟩ : S40)⟩ : S52)) bt466.2.2.2 (wrap64 (x7 + 1))) else (constablelaw07_ExprPut.l0 k x0 x1 x5 bt466.2.2.2 (wrap64 (x7 + 1)))) else (if bt466.2.2.2 = true then (constablelaw07_ExprPut.l0 k x0 x1 (x5.set (x7 : Int).toNat (⟨2, (⟨#[]⟩ : ByteArray), (⟨bt466.1, bt466.2.1, bt466.2.2.1⟩ : S40)⟩ : S52)) false (wrap64 (x7 + 1))) else (constablelaw07_ExprPut.l0 k x0 x1 x5 false (wrap64 (x7 + 1)))))) else (constablelaw07_ExprPut.l0 k x0 x1 x5 x6 (wrap64 (x7 + 1)))) else (none)) else ((expr_Eval.f k x0 x1).bind fun bt473 => ((expr_Eval.f k x5 ([] : List (S62))).bind fun bt478 => (if x6 = true then (if bt473.2.2.2 = bt478.2.2.2 then (if (bt473.1 == bt478.1 && (bt473.2.1 == bt478.2.1 && (bt473.2.2.1.toList == bt478.2.2.1.toList))) = true then ((expr_Vars.f k x5).bind fun t483 => (if (t483.length : Int) = 0 then ((constablelaw07_wakes.f k).bind fun t486 => (some t486)) else (some false))) else (some false)) else (some false)) else (if bt473.2.2.2 = 0 then (some false) else (if bt478.2.2.2 = 0 then (some false) else ((constablelaw07_wakes.f k).bind fun t487 => (some t487)))))))
end
def constablelaw07_ExprPut.f (k : Nat) (l0 : List (S52)) (l1 : List (S62)) : Option (Bool) := (constablelaw07_Heavy.f k l0).bind fun t457 => (if t457 = true then (constablelaw07_ExprPut.j0 k l0 l1 true) else ((constablelaw05_Heavy.f k l1).bind fun t458 => (if t458 = true then (constablelaw07_ExprPut.j0 k l0 l1 true) else ((constableref01_Expr.f k l0).bind fun t459 => (if t459 = true then ((constableref01_Binds.f k l1).bind fun t460 => (constablelaw07_ExprPut.j0 k l0 l1 (!t460))) else (constablelaw07_ExprPut.j0 k l0 l1 true))))))
theorem constablelaw07_ExprPut.mono_l : ∀ k, (∀ y0 y1 y2, LeO (constablelaw07_ExprPut.j0 k y0 y1 y2) (constablelaw07_ExprPut.j0 (k + 1) y0 y1 y2)) ∧ (∀ y0 y1 y2 y3 y4, LeO (constablelaw07_ExprPut.l0 k y0 y1 y2 y3 y4) (constablelaw07_ExprPut.l0 (k + 1) y0 y1 y2 y3 y4))
  | 0 => ⟨fun _ _ _ r h => by simp [constablelaw07_ExprPut.j0] at h, fun _ _ _ _ _ r h => by simp [constablelaw07_ExprPut.l0] at h⟩
  | k + 1 => by
    obtain ⟨ih0, ih1⟩ := constablelaw07_ExprPut.mono_l k
    refine ⟨?_, ?_⟩
    · intro y0 y1 y2
      unfold constablelaw07_ExprPut.j0
      repeat' first
      | (with_reducible exact ih0 _ _ _)
      | (with_reducible exact ih1 _ _ _ _ _)
      | (with_reducible exact constablelaw05_Heavy.mono _ _)
      | (with_reducible exact constablelaw07_Heavy.mono _ _)
      | (with_reducible exact constablelaw07_wakes.mono _)
      | (with_reducible exact constableref01_Binds.mono _ _)
      | (with_reducible exact constableref01_Expr.mono _ _)
      | (with_reducible exact constableref01_Get.mono _ _ _)
      | (with_reducible exact expr_Eval.mono _ _ _)
      | (with_reducible exact expr_Vars.mono _ _)
      | (with_reducible exact LeO.refl _)
      | (with_reducible exact LeO.none _)
      | (with_reducible refine LeO.ite ?_ ?_)
      | (with_reducible refine LeO.bind ?_ (fun _ => ?_))
      | exact ih0 _ _ _
      | exact ih1 _ _ _ _ _
      | exact constablelaw05_Heavy.mono _ _
      | exact constablelaw07_Heavy.mono _ _
      | exact constablelaw07_wakes.mono _
      | exact constableref01_Binds.mono _ _
      | exact constableref01_Expr.mono _ _
      | exact constableref01_Get.mono _ _ _
      | exact expr_Eval.mono _ _ _
      | exact expr_Vars.mono _ _
      | exact LeO.none _
      | refine LeO.ite ?_ ?_
      | refine LeO.bind ?_ (fun _ => ?_)
    · intro y0 y1 y2 y3 y4
      unfold constablelaw07_ExprPut.l0
      repeat' first
      | (with_reducible exact ih0 _ _ _)
      | (with_reducible exact ih1 _ _ _ _ _)
      | (with_reducible exact constablelaw05_Heavy.mono _ _)
      | (with_reducible exact constablelaw07_Heavy.mono _ _)
      | (with_reducible exact constablelaw07_wakes.mono _)
      | (with_reducible exact constableref01_Binds.mono _ _)
      | (with_reducible exact constableref01_Expr.mono _ _)
      | (with_reducible exact constableref01_Get.mono _ _ _)
      | (with_reducible exact expr_Eval.mono _ _ _)
      | (with_reducible exact expr_Vars.mono _ _)
      | (with_reducible exact LeO.refl _)
      | (with_reducible exact LeO.none _)
      | (with_reducible refine LeO.ite ?_ ?_)
      | (with_reducible refine LeO.bind ?_ (fun _ => ?_))
      | exact ih0 _ _ _
      | exact ih1 _ _ _ _ _
      | exact constablelaw05_Heavy.mono _ _
      | exact constablelaw07_Heavy.mono _ _
      | exact constablelaw07_wakes.mono _
      | exact constableref01_Binds.mono _ _
      | exact constableref01_Expr.mono _ _
      | exact constableref01_Get.mono _ _ _
      | exact expr_Eval.mono _ _ _
      | exact expr_Vars.mono _ _
      | exact LeO.none _
      | refine LeO.ite ?_ ?_
      | refine LeO.bind ?_ (fun _ => ?_)
theorem constablelaw07_ExprPut.mono : ∀ a0 a1 k, LeO (constablelaw07_ExprPut.f k a0 a1) (constablelaw07_ExprPut.f (k + 1) a0 a1) := by
  intro a0 a1 k
  obtain ⟨ih0, ih1⟩ := constablelaw07_ExprPut.mono_l k
  unfold constablelaw07_ExprPut.f
  repeat' first
      | (with_reducible exact ih0 _ _ _)
      | (with_reducible exact ih1 _ _ _ _ _)
      | (with_reducible exact constablelaw05_Heavy.mono _ _)
      | (with_reducible exact constablelaw07_Heavy.mono _ _)
      | (with_reducible exact constablelaw07_wakes.mono _)
      | (with_reducible exact constableref01_Binds.mono _ _)
      | (with_reducible exact constableref01_Expr.mono _ _)
      | (with_reducible exact constableref01_Get.mono _ _ _)
      | (with_reducible exact expr_Eval.mono _ _ _)
      | (with_reducible exact expr_Vars.mono _ _)
      | (with_reducible exact LeO.refl _)
      | (with_reducible exact LeO.none _)
      | (with_reducible refine LeO.ite ?_ ?_)
      | (with_reducible refine LeO.bind ?_ (fun _ => ?_))
      | exact ih0 _ _ _
      | exact ih1 _ _ _ _ _
      | exact constablelaw05_Heavy.mono _ _
      | exact constablelaw07_Heavy.mono _ _
      | exact constablelaw07_wakes.mono _
      | exact constableref01_Binds.mono _ _
      | exact constableref01_Expr.mono _ _
      | exact constableref01_Get.mono _ _ _
      | exact expr_Eval.mono _ _ _
      | exact expr_Vars.mono _ _
      | exact LeO.none _
      | refine LeO.ite ?_ ?_
      | refine LeO.bind ?_ (fun _ => ?_)
set_option maxHeartbeats 8000000 in
set_option maxRecDepth 100000 in
theorem constablelaw07_ExprPut.calls (k : Nat) (A0 : Option Addr) (c0 : Nat) (l0 : List (S52)) (A1 : Option Addr) (c1 : Nat) (l1 : List (S62)) (r : Bool) (w : World) (hr0 : Kd.C k52 w A0 l0.length l0) (hc0 : l0.length ≤ c0) (hr1 : Kd.C k62 w A1 l1.length l1) (hc1 : l1.length ≤ c1) (h : constablelaw07_ExprPut.f k l0 l1 = some r) (hr_ : r = true) :
    Calls Try.prog 9 #[.slice A0 l0.length c0, .slice A1 l1.length c1] w fun e w' => e = .returned (.bool r) ∧ Below w.heap.size w w' := by
  have hu40 := Try.underlying40
  have hu52 := Try.underlying52
  have HR0 := Aside0.mk hr0
  have HC0 := Aside0.mk hc0
  clear hr0 hc0
  have HR1 := Aside0.mk hr1
  have HC1 := Aside0.mk hc1
  clear hr1 hc1
  have HB := Aside0.mk (Below.refl w.heap.size w)
  have H : ((constablelaw07_Heavy.f k l0).bind fun t457 => (if t457 = true then (constablelaw07_ExprPut.j0 k l0 l1 true) else ((constablelaw05_Heavy.f k l1).bind fun t458 => (if t458 = true then (constablelaw07_ExprPut.j0 k l0 l1 true) else ((constableref01_Expr.f k l0).bind fun t459 => (if t459 = true then ((constableref01_Binds.f k l1).bind fun t460 => (constablelaw07_ExprPut.j0 k l0 l1 (!t460))) else (constablelaw07_ExprPut.j0 k l0 l1 true))))))) = some r := h
  clear h
  have HR_ := Aside0.mk hr_
  clear hr_
  have HC3 := Aside0.mk H
  clear H
  go_enter Try.func9, Try.ntmps9
  go_upto_region 1 with (fail)
  go_cut [29] (fun v29 wc => ∃ (kq : Nat) (x29_2 : Bool), v29 = .bool x29_2 ∧ Aside0 (constablelaw07_ExprPut.j0 kq l0 l1 x29_2 = some r) ∧ Aside0 (kq ≤ k) ∧ Aside0 (Below w.heap.size w wc))
  case first =>
    have H := HC3.out
    clear HC3
    replace H := Option.bind_eq_some_iff.mp H
    obtain ⟨t457, A40, H⟩ := H
    replace H : (if t457 = true then (constablelaw07_ExprPut.j0 k l0 l1 true) else ((constablelaw05_Heavy.f k l1).bind fun t458 => (if t458 = true then (constablelaw07_ExprPut.j0 k l0 l1 true) else ((constableref01_Expr.f k l0).bind fun t459 => (if t459 = true then ((constableref01_Binds.f k l1).bind fun t460 => (constablelaw07_ExprPut.j0 k l0 l1 (!t460))) else (constablelaw07_ExprPut.j0 k l0 l1 true)))))) = some r := H
    have A4 := Aside0.mk A40
    clear A40
    by_cases c5 : t457 = true
    · subst c5
      have H1 : (constablelaw07_ExprPut.j0 k l0 l1 true) = some r := by rw [if_pos rfl] at H; exact H
      clear H
      have H := H1
      clear H1
      have H' := Aside0.mk H
      clear H
      go_wp2_with (first | ((with_reducible refine gate_callee (f := 17) rfl ?_); refine goesL_ (some 15) rfl rfl Try.func17 (by kernel_rfl) rfl #[.slice A0 l0.length c0] rfl ga_ ?_; (with_reducible refine (constablelaw07_Heavy.calls k _ _ l0 true _ ?side1 ?side2 A4.out).mono ?_); (case side1 => repeat (first | exact (Kd.C_below HR0.out HB.out) | (with_reducible refine Kd.C_alloc ?_ _) | (with_reducible refine Kd.C_drewN ?_ _) | (with_reducible refine Kd.C_drew ?_))); (case side2 => exact HC0.out); rintro e w' ⟨rfl, ⟨nd, rfl⟩⟩; refine ⟨_, rfl, ?_⟩))
      go_meet
      case rel => exact ⟨_, (true), ra_, H', ⟨by first | omega | exact Nat.le_refl _⟩, ⟨by repeat (first | (with_reducible first | exact HB.out | apply below_alloc | apply pw_below_drewN | apply below_drew1) | exact HB.out)⟩⟩
    · replace c5 := Bool.eq_false_iff.mpr c5
      subst c5
      have H1 : ((constablelaw05_Heavy.f k l1).bind fun t458 => (if t458 = true then (constablelaw07_ExprPut.j0 k l0 l1 true) else ((constableref01_Expr.f k l0).bind fun t459 => (if t459 = true then ((constableref01_Binds.f k l1).bind fun t460 => (constablelaw07_ExprPut.j0 k l0 l1 (!t460))) else (constablelaw07_ExprPut.j0 k l0 l1 true))))) = some r := by rw [if_neg (show ¬ (false = true) by decide)] at H; exact H
      clear H
      have H := H1
      clear H1
      replace H := Option.bind_eq_some_iff.mp H
      obtain ⟨t458, A60, H⟩ := H
      replace H : (if t458 = true then (constablelaw07_ExprPut.j0 k l0 l1 true) else ((constableref01_Expr.f k l0).bind fun t459 => (if t459 = true then ((constableref01_Binds.f k l1).bind fun t460 => (constablelaw07_ExprPut.j0 k l0 l1 (!t460))) else (constablelaw07_ExprPut.j0 k l0 l1 true)))) = some r := H
      have A6 := Aside0.mk A60
      clear A60
      by_cases c7 : t458 = true
      · subst c7
        have H1 : (constablelaw07_ExprPut.j0 k l0 l1 true) = some r := by rw [if_pos rfl] at H; exact H
        clear H
        have H := H1
        clear H1
        have H' := Aside0.mk H
        clear H
        go_wp2_with (first | ((with_reducible refine gate_callee (f := 17) rfl ?_); refine goesL_ (some 15) rfl rfl Try.func17 (by kernel_rfl) rfl #[.slice A0 l0.length c0] rfl ga_ ?_; (with_reducible refine (constablelaw07_Heavy.calls k _ _ l0 false _ ?side1 ?side2 A4.out).mono ?_); (case side1 => repeat (first | exact (Kd.C_below HR0.out HB.out) | (with_reducible refine Kd.C_alloc ?_ _) | (with_reducible refine Kd.C_drewN ?_ _) | (with_reducible refine Kd.C_drew ?_))); (case side2 => exact HC0.out); rintro e w' ⟨rfl, ⟨nd, rfl⟩⟩; refine ⟨_, rfl, ?_⟩) | (go_at_call 18; (with_reducible refine (constablelaw05_Heavy.calls k _ _ l1 true _ ?side1 ?side2 A6.out).mono ?_); (case side1 => repeat (first | exact (Kd.C_below HR1.out (be_ HB)) | (with_reducible refine Kd.C_alloc ?_ _) | (with_reducible refine Kd.C_drewN ?_ _) | (with_reducible refine Kd.C_drew ?_))); (case side2 => exact HC1.out); rintro e w' ⟨rfl, ⟨nd, rfl⟩⟩))
        go_meet
        case rel => exact ⟨_, (true), ra_, H', ⟨by first | omega | exact Nat.le_refl _⟩, ⟨by repeat (first | (with_reducible first | exact HB.out | apply below_alloc | apply pw_below_drewN | apply below_drew1) | exact HB.out)⟩⟩
      · replace c7 := Bool.eq_false_iff.mpr c7
        subst c7
        have H1 : ((constableref01_Expr.f k l0).bind fun t459 => (if t459 = true then ((constableref01_Binds.f k l1).bind fun t460 => (constablelaw07_ExprPut.j0 k l0 l1 (!t460))) else (constablelaw07_ExprPut.j0 k l0 l1 true))) = some r := by rw [if_neg (show ¬ (false = true) by decide)] at H; exact H
        clear H
        have H := H1
        clear H1
        replace H := Option.bind_eq_some_iff.mp H
        obtain ⟨t459, A80, H⟩ := H
        replace H : (if t459 = true then ((constableref01_Binds.f k l1).bind fun t460 => (constablelaw07_ExprPut.j0 k l0 l1 (!t460))) else (constablelaw07_ExprPut.j0 k l0 l1 true)) = some r := H
        have A8 := Aside0.mk A80
        clear A80
        by_cases c9 : t459 = true
        · subst c9
          have H1 : ((constableref01_Binds.f k l1).bind fun t460 => (constablelaw07_ExprPut.j0 k l0 l1 (!t460))) = some r := by rw [if_pos rfl] at H; exact H
          clear H
          have H := H1
          clear H1
          replace H := Option.bind_eq_some_iff.mp H
          obtain ⟨t460, A100, H⟩ := H
          replace H : (constablelaw07_ExprPut.j0 k l0 l1 (!t460)) = some r := H
          have A10 := Aside0.mk A100
          clear A100
          have H' := Aside0.mk H
          clear H
          go_wp2_with (first | ((with_reducible refine gate_callee (f := 17) rfl ?_); refine goesL_ (some 15) rfl rfl Try.func17 (by kernel_rfl) rfl #[.slice A0 l0.length c0] rfl ga_ ?_; (with_reducible refine (constablelaw07_Heavy.calls k _ _ l0 false _ ?side1 ?side2 A4.out).mono ?_); (case side1 => repeat (first | exact (Kd.C_below HR0.out HB.out) | (with_reducible refine Kd.C_alloc ?_ _) | (with_reducible refine Kd.C_drewN ?_ _) | (with_reducible refine Kd.C_drew ?_))); (case side2 => exact HC0.out); rintro e w' ⟨rfl, ⟨nd, rfl⟩⟩; refine ⟨_, rfl, ?_⟩) | (go_at_call 18; (with_reducible refine (constablelaw05_Heavy.calls k _ _ l1 false _ ?side1 ?side2 A6.out).mono ?_); (case side1 => repeat (first | exact (Kd.C_below HR1.out (be_ HB)) | (with_reducible refine Kd.C_alloc ?_ _) | (with_reducible refine Kd.C_drewN ?_ _) | (with_reducible refine Kd.C_drew ?_))); (case side2 => exact HC1.out); rintro e w' ⟨rfl, ⟨nd, rfl⟩⟩) | (go_at_call 27; (with_reducible refine (constableref01_Expr.calls k _ _ l0 true _ ?side1 ?side2 A8.out).mono ?_); (case side1 => repeat (first | exact (Kd.C_below HR0.out (be_ HB)) | (with_reducible refine Kd.C_alloc ?_ _) | (with_reducible refine Kd.C_drewN ?_ _) | (with_reducible refine Kd.C_drew ?_))); (case side2 => exact HC0.out); rintro e w11 ⟨rfl, hb⟩; have n0_ := bs_ (be_ HB) hb; clear HB; have HB := n0_; clear n0_; (try clear hb); (try clear hb2); (try clear hk); (try clear hi)) | (go_at_call 31; (with_reducible refine (constableref01_Binds.calls k _ _ l1 t460 _ ?side1 ?side2 A10.out).mono ?_); (case side1 => repeat (first | exact (Kd.C_below HR1.out HB.out) | (with_reducible refine Kd.C_alloc ?_ _) | (with_reducible refine Kd.C_drewN ?_ _) | (with_reducible refine Kd.C_drew ?_))); (case side2 => exact HC1.out); rintro e w12 ⟨rfl, hb⟩; have n0_ := bs_ (be_ HB) hb; clear HB; have HB := n0_; clear n0_; (try clear hb); (try clear hb2); (try clear hk); (try clear hi)))
          go_meet
          case rel => exact ⟨_, (!t460), ra_, H', ⟨by first | omega | exact Nat.le_refl _⟩, ⟨by repeat (first | (with_reducible first | exact HB.out | apply below_alloc | apply pw_below_drewN | apply below_drew1) | exact HB.out)⟩⟩
        · replace c9 := Bool.eq_false_iff.mpr c9
          subst c9
          have H1 : (constablelaw07_ExprPut.j0 k l0 l1 true) = some r := by rw [if_neg (show ¬ (false = true) by decide)] at H; exact H
          clear H
          have H := H1
          clear H1
          have H' := Aside0.mk H
          clear H
          go_wp2_with (first | ((with_reducible refine gate_callee (f := 17) rfl ?_); refine goesL_ (some 15) rfl rfl Try.func17 (by kernel_rfl) rfl #[.slice A0 l0.length c0] rfl ga_ ?_; (with_reducible refine (constablelaw07_Heavy.calls k _ _ l0 false _ ?side1 ?side2 A4.out).mono ?_); (case side1 => repeat (first | exact (Kd.C_below HR0.out HB.out) | (with_reducible refine Kd.C_alloc ?_ _) | (with_reducible refine Kd.C_drewN ?_ _) | (with_reducible refine Kd.C_drew ?_))); (case side2 => exact HC0.out); rintro e w' ⟨rfl, ⟨nd, rfl⟩⟩; refine ⟨_, rfl, ?_⟩) | (go_at_call 18; (with_reducible refine (constablelaw05_Heavy.calls k _ _ l1 false _ ?side1 ?side2 A6.out).mono ?_); (case side1 => repeat (first | exact (Kd.C_below HR1.out (be_ HB)) | (with_reducible refine Kd.C_alloc ?_ _) | (with_reducible refine Kd.C_drewN ?_ _) | (with_reducible refine Kd.C_drew ?_))); (case side2 => exact HC1.out); rintro e w' ⟨rfl, ⟨nd, rfl⟩⟩) | (go_at_call 27; (with_reducible refine (constableref01_Expr.calls k _ _ l0 false _ ?side1 ?side2 A8.out).mono ?_); (case side1 => repeat (first | exact (Kd.C_below HR0.out (be_ HB)) | (with_reducible refine Kd.C_alloc ?_ _) | (with_reducible refine Kd.C_drewN ?_ _) | (with_reducible refine Kd.C_drew ?_))); (case side2 => exact HC0.out); rintro e w13 ⟨rfl, hb⟩; have n0_ := bs_ (be_ HB) hb; clear HB; have HB := n0_; clear n0_; (try clear hb); (try clear hb2); (try clear hk); (try clear hi)))
          go_meet
          case rel => exact ⟨_, (true), ra_, H', ⟨by first | omega | exact Nat.le_refl _⟩, ⟨by repeat (first | (with_reducible first | exact HB.out | apply below_alloc | apply pw_below_drewN | apply below_drew1) | exact HB.out)⟩⟩
  case rest =>
    clear HC3
    try clear c1
    try clear p2
    try clear c5
    try clear c7
    try clear c9
    obtain ⟨kq, x29_2, rfl, HA, HJ2, HB⟩ := hcut
    cases kq with
    | zero => exact absurd HA.out (by simp [constablelaw07_ExprPut.j0])
    | succ kj2 =>
      have H := HA.out
      clear HA
      simp only [constablelaw07_ExprPut.j0] at H
      by_cases c14 : x29_2 = true
      · subst c14
        have H1 : (some true) = some r := by rw [if_pos rfl] at H; exact H
        clear H
        have H := H1
        clear H1
        obtain rfl := Option.some.inj H
        go_wp2
        go_ret
        exact ⟨by first | rfl | (simp [errW_none, errW_some] <;> rfl) | (simp [*, errW_none, errW_some] <;> rfl), by repeat (first | (with_reducible first | exact HB.out | apply below_alloc | apply pw_below_drewN | apply below_drew1) | exact HB.out)⟩
      · replace c14 := Bool.eq_false_iff.mpr c14
        subst c14
        have H1 : ((constablekeep_TwinOps.f l0).bind fun t461 => (constablelaw07_ExprPut.l0 kj2 l0 l1 t461 true 0)) = some r := by rw [if_neg (show ¬ (false = true) by decide)] at H; exact H
        clear H
        have H := H1
        clear H1
        replace H := Option.bind_eq_some_iff.mp H
        obtain ⟨t461, A150, H⟩ := H
        replace H : (constablelaw07_ExprPut.l0 kj2 l0 l1 t461 true 0) = some r := H
        have A15 := Aside0.mk A150
        clear A150
        have H' := Aside0.mk H
        clear H
        go_wp2_with (first | ((with_reducible refine gate_callee (f := 19) rfl ?_); refine goesL_ (some 31) rfl rfl Try.func19 (by kernel_rfl) rfl #[.slice A0 l0.length c0] rfl ga_ ?_; (with_reducible refine (constablekeep_TwinOps.calls _ _ l0 t461 _ ?side1 ?side2 A15.out).mono ?_); (case side1 => repeat (first | exact (Kd.C_below HR0.out HB.out) | (with_reducible refine Kd.C_alloc ?_ _) | (with_reducible refine Kd.C_drewN ?_ _) | (with_reducible refine Kd.C_drew ?_))); (case side2 => exact HC0.out); rintro e w16 ⟨v462, rfl, ho0, hb⟩; refine ⟨_, rfl, ?_⟩; have n0_ := Aside0.mk (Kd.R_lower ho0 (below_size (be_ HB))); have n1_ := bs_ (be_ HB) hb; clear HB; have HO463 := n0_; have HB := n1_; clear n0_ n1_; (try clear hb); (try clear hb2); (try clear hk); (try clear hi); (try clear ho0)))
        go_loopg [6, 7] kj2 (fun kq v6 v7 w' => ∃ (x5_2 : List (S52)) (x6_2 : Bool) (x7_2 : Int), v6 = .bool x6_2 ∧ v7 = .int .i64 x7_2 ∧ Aside0 (constablelaw07_ExprPut.l0 kq l0 l1 x5_2 x6_2 x7_2 = some r) ∧ Aside0 (kq ≤ kj2) ∧ Aside0 (Kd.R k52 52 w' w.heap.size (fun _ => True) v462 x5_2) ∧ Aside0 (Below w.heap.size w w'))
        case atStart => exact ⟨(t461), (true), (0), ra_, ra_, H', ⟨Nat.le_refl _⟩, ⟨by (with_reducible repeat (first | apply Kd.R_alloc | apply Kd.R_drewN | apply Kd.R_drew)); exact HO463.out⟩, ⟨by repeat (first | (with_reducible first | exact HB.out | apply below_alloc | apply pw_below_drewN | apply below_drew1) | exact HB.out)⟩⟩
        case round =>
          clear H'
          try clear c1
          try clear p2
          try clear c5
          try clear c7
          try clear c9
          try clear c14
          try clear p2
          obtain ⟨x5_2, x6_2, x7_2, rfl, rfl, HA, HK2, HO_5, HB⟩ := hrel
          cases gk with
          | zero => exact absurd HA.out (by simp [constablelaw07_ExprPut.l0])
          | succ k2 =>
            have H := HA.out
            clear HA
            simp only [constablelaw07_ExprPut.l0] at H
            by_cases c17 : x7_2 < (x5_2.length : Int)
            · rw [if_pos c17] at H
              have c17b0 : decide (x7_2 < (x5_2.length : Int)) = true := decide_eq_true c17
              clear c17
              by_cases c18 : 0 ≤ x7_2
              · rw [if_pos c18] at H
                have c18b0 : decide (0 ≤ x7_2) = true := decide_eq_true c18
                clear c18
                by_cases c19 : ((rd_T52 x5_2 x7_2).f0) = 1
                · rw [if_pos c19] at H
                  obtain ⟨c19b0, c19b1⟩ := eqB_ c19
                  clear c19
                  replace H := Option.bind_eq_some_iff.mp H
                  obtain ⟨⟨t466, t467, t468, t469⟩, A200, H⟩ := H
                  replace H : (if x6_2 = true then (if t469 = true then (constablelaw07_ExprPut.l0 k2 l0 l1 (x5_2.set (x7_2 : Int).toNat (⟨2, (⟨#[]⟩ : ByteArray), (⟨t466, t467, t468⟩ : S40)⟩ : S52)) t469 (wrap64 (x7_2 + 1))) else (constablelaw07_ExprPut.l0 k2 l0 l1 x5_2 t469 (wrap64 (x7_2 + 1)))) else (if t469 = true then (constablelaw07_ExprPut.l0 k2 l0 l1 (x5_2.set (x7_2 : Int).toNat (⟨2, (⟨#[]⟩ : ByteArray), (⟨t466, t467, t468⟩ : S40)⟩ : S52)) false (wrap64 (x7_2 + 1))) else (constablelaw07_ExprPut.l0 k2 l0 l1 x5_2 false (wrap64 (x7_2 + 1))))) = some r := H
                  have A20 := Aside0.mk A200
                  clear A200
                  by_cases c21 : x6_2 = true
                  · subst c21
                    have H1 : (if t469 = true then (constablelaw07_ExprPut.l0 k2 l0 l1 (x5_2.set (x7_2 : Int).toNat (⟨2, (⟨#[]⟩ : ByteArray), (⟨t466, t467, t468⟩ : S40)⟩ : S52)) t469 (wrap64 (x7_2 + 1))) else (constablelaw07_ExprPut.l0 k2 l0 l1 x5_2 t469 (wrap64 (x7_2 + 1)))) = some r := by rw [if_pos rfl] at H; exact H
                    clear H
                    have H := H1
                    clear H1
                    by_cases c22 : t469 = true
                    · subst c22
                      have H1 : (constablelaw07_ExprPut.l0 k2 l0 l1 (x5_2.set (x7_2 : Int).toNat (⟨2, (⟨#[]⟩ : ByteArray), (⟨t466, t467, t468⟩ : S40)⟩ : S52)) true (wrap64 (x7_2 + 1))) = some r := by rw [if_pos rfl] at H; exact H
                      clear H
                      have H := H1
                      clear H1
                      obtain ⟨y471, hy471⟩ : ∃ y_ : List (S52), y_ = (x5_2.set (x7_2 : Int).toNat (⟨2, (⟨#[]⟩ : ByteArray), (⟨t466, t467, t468⟩ : S40)⟩ : S52)) := ⟨_, rfl⟩
                      replace H : (constablelaw07_ExprPut.l0 k2 l0 l1 y471 true (wrap64 (x7_2 + 1))) = some r := by first | (rw [hy471]; with_reducible exact H) | (have H2_ := (Option.bind_some _ _).symm.trans H; rw [hy471]; with_reducible exact H2_) | (have H2_ := (Option.bind_some _ _).symm.trans H; with_reducible exact H2_) | with_reducible exact H | (rw [hy471]; exact H) | exact H
                      have Ny471 := Aside0.mk hy471
                      clear hy471
                      have H' := Aside0.mk H
                      clear H
                      obtain ⟨Ao24, co24, eo24⟩ := Kd.R_slice HO_5.out
                      subst eo24
                      have p464 : 0 ≤ (x7_2 : Int) := dt_
                      have q464 : x7_2 < (x5_2.length : Int) := dt_
                      obtain ⟨ad464, e464, hx464_0, hx464_1, hx464_2, hx464_3, hx464_4⟩ := at_T52 (Kd.R_reads' HO_5.out).2.2 x7_2 p464 q464
                      cases e464
                      replace p464 := eq_true p464
                      replace q464 := eq_true q464
                      have p465 : 0 ≤ (x7_2 : Int) := dt_
                      have q465 : x7_2 < (x5_2.length : Int) := dt_
                      obtain ⟨ad465, e465, hx465_0, hx465_1, hx465_2, hx465_3, hx465_4⟩ := at_T52 (Kd.R_reads' HO_5.out).2.2 x7_2 p465 q465
                      obtain rfl : ad464 = ad465 := (by injection e465)
                      replace p465 := eq_true p465
                      replace q465 := eq_true q465
                      go_wp2_with (first | ((with_reducible refine gate_callee (f := 34) rfl ?_); refine goesL_ (some 51) rfl rfl Try.func34 (by kernel_rfl) rfl #[.slice A1 l1.length c1, .string ((rd_T52 x5_2 x7_2).f1)] rfl ga_ ?_; (with_reducible refine (constableref01_Get.calls k2 _ _ l1 ((rd_T52 x5_2 x7_2).f1) t466 t467 t468 true _ ?side1 ?side2 A20.out).mono ?_); (case side1 => repeat (first | exact (Kd.C_below HR1.out HB.out) | (with_reducible refine Kd.C_alloc ?_ _) | (with_reducible refine Kd.C_drewN ?_ _) | (with_reducible refine Kd.C_drew ?_))); (case side2 => exact HC1.out); rintro e w25 ⟨rfl, hb⟩; refine ⟨_, rfl, ?_⟩; have n0_ := kb_ (ku_ HO_5.out) hb; have n1_ := bs_ (be_ HB) hb; clear HO_5; clear HB; have HO_5 := n0_; have HB := n1_; clear n0_ n1_; (try clear hb); (try clear hb2); (try clear hk); (try clear hi)) | ((with_reducible refine gate_dst (N := 8) rfl ?_); (try (refine gate_guard (by rfl) ?_; dsimp only)); refine box_event ?hg (N := 8) ?hd (cs := #[.int .i64 0, .int .i64 0, .string (⟨#[]⟩ : ByteArray)]) (t := 40) ?hr ?_; (case hd => rfl); (case hg => rfl); (case hr => first | (go_simp; done) | (go_simp; rfl)); intro gb470 hg w26 hbox hb; have n0_ := kb_ (ku_ HO_5.out) hb; have n1_ := bs_ (be_ HB) hb; have n2_ := Aside0.mk (hbox); have n3_ := gs_ hg (be_ HB); have n4_ := gs_ hg (be_ HB); clear HO_5; clear HB; have HO_5 := n0_; have HB := n1_; have BK470 := n2_; have GW470 := n3_; have GE470 := n4_; clear n0_ n1_ n2_ n3_ n4_; clear hb hbox hg; have hcz27_0 : w26.cell? ⟨gb470, 0, none⟩ = some (.int .i64 0) := (blk_cell BK470.out 0).trans rfl; have hcz27_1 : w26.cell? ⟨gb470, 1, none⟩ = some (.int .i64 0) := (blk_cell BK470.out 1).trans rfl; have hcz27_2 : w26.cell? ⟨gb470, 2, none⟩ = some (.string (⟨#[]⟩ : ByteArray)) := (blk_cell BK470.out 2).trans rfl; have hfz27_0 := blk_frozen BK470.out 0; have hfz27_1 := blk_frozen BK470.out 1; have hfz27_2 := blk_frozen BK470.out 2) | ((with_reducible refine gate_store (t := 40) (p := 8) rfl ?_); refine store_event (t := 40) (p := 8) (v := ?vo_w28) (w1 := (((w26.setCell ⟨gb470, 0, none⟩ (.int .i64 t466)).setCell ⟨gb470, 1, none⟩ (.int .i64 t467)).setCell ⟨gb470, 2, none⟩ (.string t468))) ?hg ?ho ?hn ?hr ?_; (case ho => rfl); (case hg => rfl); (case hn => rfl); (case hr => first | (go_simp; done) | (go_simp; rfl)); intro w28 hw; have n0_ : Aside0 (Kd.R k52 52 w28 w.heap.size (fun _ => True) (.slice (some ad464) x5_2.length co24) x5_2) := ⟨(by rw [hw]; exact (by (with_reducible repeat (first | apply Kd.R_alloc | apply Kd.R_drewN | apply Kd.R_drew)); exact Kd.R_mono (Kd.R_far (p := ⟨gb470, 2, none⟩) (Kd.R_far (p := ⟨gb470, 1, none⟩) (Kd.R_far (p := ⟨gb470, 0, none⟩) (Kd.R_types HO_5.out BK470.out (by decide)) (fun _ hk => hk.2) (.int .i64 t466)) (fun _ hk => hk.2) (.int .i64 t467)) (fun _ hk => hk.2) (.string t468)) (fun _ hk => trivial)))⟩; have n1_ : Aside0 (w28.heap[gb470]? = some (.cells #[.int .i64 t466, .int .i64 t467, .string t468] 40 (0, 0))) := ⟨(by rw [hw]; exact (bp_ BK470))⟩; have n2_ : Aside0 (Below w.heap.size w w28) := ⟨(by rw [hw]; exact (be_ HB))⟩; clear hw; clear HO_5; clear BK470; clear HB; have HO_5 := n0_; have BK470 := n1_; have HB := n2_; clear n0_ n1_ n2_; have hcz29_0 : w28.cell? ⟨gb470, 0, none⟩ = some (.int .i64 t466) := (blk_cell BK470.out 0).trans rfl; have hcz29_1 : w28.cell? ⟨gb470, 1, none⟩ = some (.int .i64 t467) := (blk_cell BK470.out 1).trans rfl; have hcz29_2 : w28.cell? ⟨gb470, 2, none⟩ = some (.string t468) := (blk_cell BK470.out 2).trans rfl; have hfz29_0 := blk_frozen BK470.out 0; have hfz29_1 := blk_frozen BK470.out 1; have hfz29_2 := blk_frozen BK470.out 2; have p23 : 0 ≤ (x7_2 : Int) := dt_; have q23 : (x7_2 : Int) < ((x5_2.length : Int) : Int) := dt_; obtain ⟨go23, co23, eo23, gb23, gl23, cl23, HG23⟩ := Kd.R_form HO_5.out (by omega); (first | cases eo23 | (injection eo23 with ea_ en_ ec_; (first | subst ea_ | (injection ea_ with ea_; subst ea_)); subst ec_; clear en_)); have GB23 := Aside0.mk gb23; have GG23 := Aside0.mk HG23; clear gb23 gl23 HG23; (first | simp only [add_plain] at hx464_0 | skip); (first | simp only [add_plain] at hx464_1 | skip); (first | simp only [add_plain] at hx464_2 | skip); (first | simp only [add_plain] at hx464_3 | skip); (first | simp only [add_plain] at hx464_4 | skip); (first | simp only [add_plain] at hx465_0 | skip); (first | simp only [add_plain] at hx465_1 | skip); (first | simp only [add_plain] at hx465_2 | skip); (first | simp only [add_plain] at hx465_3 | skip); (first | simp only [add_plain] at hx465_4 | skip); obtain ⟨ce23, hcl23, hM23, hcc23, hfr23⟩ := Kd.R_elem HO_5.out z52 (x7_2 : Int) p23 q23; obtain rfl := k52_openM hM23; have hx23_0 : w28.cell? ⟨go23, (x7_2 : Int).toNat * 5, none⟩ = some (.int .i64 ((rd_T52 x5_2 x7_2).f0)) := hcc23 0 _ rfl; have hx23_1 : w28.cell? ⟨go23, (x7_2 : Int).toNat * 5 + 1, none⟩ = some (.string ((rd_T52 x5_2 x7_2).f1)) := hcc23 1 _ rfl; have hx23_2 : w28.cell? ⟨go23, (x7_2 : Int).toNat * 5 + 2, none⟩ = some (.int .i64 ((rd_T52 x5_2 x7_2).f2.f0)) := hcc23 2 _ rfl; have hx23_3 : w28.cell? ⟨go23, (x7_2 : Int).toNat * 5 + 3, none⟩ = some (.int .i64 ((rd_T52 x5_2 x7_2).f2.f1)) := hcc23 3 _ rfl; have hx23_4 : w28.cell? ⟨go23, (x7_2 : Int).toNat * 5 + 4, none⟩ = some (.string ((rd_T52 x5_2 x7_2).f2.f2)) := hcc23 4 _ rfl; have hf23_0 : w28.frozen? ⟨go23, (x7_2 : Int).toNat * 5, none⟩ = false := hfr23 0; have hf23_1 : w28.frozen? ⟨go23, (x7_2 : Int).toNat * 5 + 1, none⟩ = false := hfr23 1; have hf23_2 : w28.frozen? ⟨go23, (x7_2 : Int).toNat * 5 + 2, none⟩ = false := hfr23 2; have hf23_3 : w28.frozen? ⟨go23, (x7_2 : Int).toNat * 5 + 3, none⟩ = false := hfr23 3; have hf23_4 : w28.frozen? ⟨go23, (x7_2 : Int).toNat * 5 + 4, none⟩ = false := hfr23 4; clear hcl23 hcc23 hfr23 hM23; replace p23 := eq_true p23; replace q23 := eq_true q23; have HX30 := Aside0.mk (show Kd.R k52 52 w28 w.heap.size (fun _ => True) (.slice (some ⟨go23, 0, none⟩) x5_2.length co24) x5_2 from (ku_ HO_5.out)); obtain ⟨ce30, hcl30, hM30, hcc30, hfr30⟩ := Kd.R_elem HX30.out z52 (x7_2 : Int) dt_ (by have h_ : (x7_2 : Int) < ((x5_2.length : Int) : Int) := dt_; first | exact h_ | (have e_ := (Kd.R_reads' HO_5.out).1; omega) | simpa using h_); obtain rfl := k52_openM hM30; have HP30 := Kd.R_seg HX30.out (x7_2 : Int) dt_ (by have h_ : (x7_2 : Int) < ((x5_2.length : Int) : Int) := dt_; first | exact h_ | (have e_ := (Kd.R_reads' HO_5.out).1; omega) | simpa using h_) (seg := [.int .i64 2, .string (⟨#[]⟩ : ByteArray), .int .i64 t466, .int .i64 t467, .string t468]) (j := 0) hcl30 hcc30 (show 5 ≤ 5 from by decide) (x' := (⟨2, (⟨#[]⟩ : ByteArray), (⟨t466, t467, t468⟩ : S40)⟩ : S52)) (k52_mkM _ _ _ (⟨2, (⟨#[]⟩ : ByteArray), (⟨t466, t467, t468⟩ : S40)⟩ : S52) ) (fun _ hk => hk); have hx30_0 := hcc30 0 _ rfl; (try simp only [show (k52).sz = 5 from rfl, Nat.mul_one, Nat.add_zero] at hx30_0); have hf30_0 := hfr30 0; (try simp only [show (k52).sz = 5 from rfl, Nat.mul_one, Nat.add_zero] at hf30_0); have hx30_1 := hcc30 1 _ rfl; (try simp only [show (k52).sz = 5 from rfl, Nat.mul_one, Nat.add_zero] at hx30_1); have hf30_1 := hfr30 1; (try simp only [show (k52).sz = 5 from rfl, Nat.mul_one, Nat.add_zero] at hf30_1); have hx30_2 := hcc30 2 _ rfl; (try simp only [show (k52).sz = 5 from rfl, Nat.mul_one, Nat.add_zero] at hx30_2); have hf30_2 := hfr30 2; (try simp only [show (k52).sz = 5 from rfl, Nat.mul_one, Nat.add_zero] at hf30_2); have hx30_3 := hcc30 3 _ rfl; (try simp only [show (k52).sz = 5 from rfl, Nat.mul_one, Nat.add_zero] at hx30_3); have hf30_3 := hfr30 3; (try simp only [show (k52).sz = 5 from rfl, Nat.mul_one, Nat.add_zero] at hf30_3); have hx30_4 := hcc30 4 _ rfl; (try simp only [show (k52).sz = 5 from rfl, Nat.mul_one, Nat.add_zero] at hx30_4); have hf30_4 := hfr30 4; (try simp only [show (k52).sz = 5 from rfl, Nat.mul_one, Nat.add_zero] at hf30_4); clear hcl30 hcc30 hfr30 hM30) | ((with_reducible refine gate_store (t := 52) (p := 63) rfl ?_); refine store_event (t := 52) (p := 63) (v := ?vo_w31) (w1 := (((((w28.setCell ⟨go23, (x7_2 : Int).toNat * 5, none⟩ (.int .i64 2)).setCell ⟨go23, (x7_2 : Int).toNat * 5 + 1, none⟩ (.string (⟨#[]⟩ : ByteArray))).setCell ⟨go23, (x7_2 : Int).toNat * 5 + 2, none⟩ (.int .i64 t466)).setCell ⟨go23, (x7_2 : Int).toNat * 5 + 3, none⟩ (.int .i64 t467)).setCell ⟨go23, (x7_2 : Int).toNat * 5 + 4, none⟩ (.string t468))) ?hg ?ho ?hn ?hr ?_; (case ho => rfl); (case hg => rfl); (case hn => rfl); (case hr => first | (go_simp; done) | (go_simp; rfl)); intro w31 hw; have hg : w28.grownBy w31 (some go23) := (by rw [hw]; exact HP30.2); have hp_ : Kd.R k52 52 w31 w.heap.size (fun _ => True) (.slice (some ⟨go23, 0, none⟩) x5_2.length co24) y471 := (by rw [hw, Ny471.out]; exact HP30.1); clear HP30; have n0_ := Aside0.mk (hp_); have n1_ := Aside0.mk (blk_grown (bu_ BK470) hg (Kd.R_ne HO_5.out BK470.out (by decide))); have n2_ := Aside0.mk ((by rw [hw]; exact below_set (below_set (below_set (below_set (below_set (HB.out) GB23.out) GB23.out) GB23.out) GB23.out) GB23.out : Below w.heap.size w w31)); clear HO_5; clear BK470; clear HB; have HO_5 := n0_; have BK470 := n1_; have HB := n2_; clear n0_ n1_ n2_; clear hg hw hp_))
                      go_roundg k2
                      case measure => have := HJ2.out; have := HK2.out; omega
                      case rel => exact ⟨(y471), (true), (wrap64 (x7_2 + 1)), ra_, ra_, H', ⟨by have := HJ2.out; have := HK2.out; omega⟩, ⟨by (with_reducible repeat (first | apply Kd.R_alloc | apply Kd.R_drewN | apply Kd.R_drew)); exact HO_5.out⟩, ⟨by repeat (first | (with_reducible first | exact HB.out | apply below_alloc | apply pw_below_drewN | apply below_drew1 | refine below_set ?_ GE470.out) | exact HB.out)⟩⟩
                    · replace c22 := Bool.eq_false_iff.mpr c22
                      subst c22
                      have H1 : (constablelaw07_ExprPut.l0 k2 l0 l1 x5_2 false (wrap64 (x7_2 + 1))) = some r := by rw [if_neg (show ¬ (false = true) by decide)] at H; exact H
                      clear H
                      have H := H1
                      clear H1
                      have H' := Aside0.mk H
                      clear H
                      obtain ⟨Ao32, co32, eo32⟩ := Kd.R_slice HO_5.out
                      subst eo32
                      have p464 : 0 ≤ (x7_2 : Int) := dt_
                      have q464 : x7_2 < (x5_2.length : Int) := dt_
                      obtain ⟨ad464, e464, hx464_0, hx464_1, hx464_2, hx464_3, hx464_4⟩ := at_T52 (Kd.R_reads' HO_5.out).2.2 x7_2 p464 q464
                      cases e464
                      replace p464 := eq_true p464
                      replace q464 := eq_true q464
                      have p465 : 0 ≤ (x7_2 : Int) := dt_
                      have q465 : x7_2 < (x5_2.length : Int) := dt_
                      obtain ⟨ad465, e465, hx465_0, hx465_1, hx465_2, hx465_3, hx465_4⟩ := at_T52 (Kd.R_reads' HO_5.out).2.2 x7_2 p465 q465
                      obtain rfl : ad464 = ad465 := (by injection e465)
                      replace p465 := eq_true p465
                      replace q465 := eq_true q465
                      go_wp2_with (first | ((with_reducible refine gate_callee (f := 34) rfl ?_); refine goesL_ (some 51) rfl rfl Try.func34 (by kernel_rfl) rfl #[.slice A1 l1.length c1, .string ((rd_T52 x5_2 x7_2).f1)] rfl ga_ ?_; (with_reducible refine (constableref01_Get.calls k2 _ _ l1 ((rd_T52 x5_2 x7_2).f1) t466 t467 t468 false _ ?side1 ?side2 A20.out).mono ?_); (case side1 => repeat (first | exact (Kd.C_below HR1.out HB.out) | (with_reducible refine Kd.C_alloc ?_ _) | (with_reducible refine Kd.C_drewN ?_ _) | (with_reducible refine Kd.C_drew ?_))); (case side2 => exact HC1.out); rintro e w33 ⟨rfl, hb⟩; refine ⟨_, rfl, ?_⟩; have n0_ := kb_ (ku_ HO_5.out) hb; have n1_ := bs_ (be_ HB) hb; clear HO_5; clear HB; have HO_5 := n0_; have HB := n1_; clear n0_ n1_; (try clear hb); (try clear hb2); (try clear hk); (try clear hi)) | ((with_reducible refine gate_dst (N := 8) rfl ?_); (try (refine gate_guard (by rfl) ?_; dsimp only)); refine box_event ?hg (N := 8) ?hd (cs := #[.int .i64 0, .int .i64 0, .string (⟨#[]⟩ : ByteArray)]) (t := 40) ?hr ?_; (case hd => rfl); (case hg => rfl); (case hr => first | (go_simp; done) | (go_simp; rfl)); intro gb470 hg w34 hbox hb; have n0_ := kb_ (ku_ HO_5.out) hb; have n1_ := bs_ (be_ HB) hb; have n2_ := Aside0.mk (hbox); have n3_ := gs_ hg (be_ HB); have n4_ := gs_ hg (be_ HB); clear HO_5; clear HB; have HO_5 := n0_; have HB := n1_; have BK470 := n2_; have GW470 := n3_; have GE470 := n4_; clear n0_ n1_ n2_ n3_ n4_; clear hb hbox hg; have hcz35_0 : w34.cell? ⟨gb470, 0, none⟩ = some (.int .i64 0) := (blk_cell BK470.out 0).trans rfl; have hcz35_1 : w34.cell? ⟨gb470, 1, none⟩ = some (.int .i64 0) := (blk_cell BK470.out 1).trans rfl; have hcz35_2 : w34.cell? ⟨gb470, 2, none⟩ = some (.string (⟨#[]⟩ : ByteArray)) := (blk_cell BK470.out 2).trans rfl; have hfz35_0 := blk_frozen BK470.out 0; have hfz35_1 := blk_frozen BK470.out 1; have hfz35_2 := blk_frozen BK470.out 2))
                      go_roundg k2
                      case measure => have := HJ2.out; have := HK2.out; omega
                      case rel => exact ⟨(x5_2), (false), (wrap64 (x7_2 + 1)), ra_, ra_, H', ⟨by have := HJ2.out; have := HK2.out; omega⟩, ⟨by (with_reducible repeat (first | apply Kd.R_alloc | apply Kd.R_drewN | apply Kd.R_drew)); exact Kd.R_mono (Kd.R_far (p := ⟨gb470, 2, none⟩) (Kd.R_far (p := ⟨gb470, 1, none⟩) (Kd.R_far (p := ⟨gb470, 0, none⟩) (Kd.R_types HO_5.out BK470.out (by decide)) (fun _ hk => hk.2) (.int .i64 t466)) (fun _ hk => hk.2) (.int .i64 t467)) (fun _ hk => hk.2) (.string t468)) (fun _ hk => trivial)⟩, ⟨by repeat (first | (with_reducible first | exact HB.out | apply below_alloc | apply pw_below_drewN | apply below_drew1 | refine below_set ?_ GE470.out) | exact HB.out)⟩⟩
                  · replace c21 := Bool.eq_false_iff.mpr c21
                    subst c21
                    have H1 : (if t469 = true then (constablelaw07_ExprPut.l0 k2 l0 l1 (x5_2.set (x7_2 : Int).toNat (⟨2, (⟨#[]⟩ : ByteArray), (⟨t466, t467, t468⟩ : S40)⟩ : S52)) false (wrap64 (x7_2 + 1))) else (constablelaw07_ExprPut.l0 k2 l0 l1 x5_2 false (wrap64 (x7_2 + 1)))) = some r := by rw [if_neg (show ¬ (false = true) by decide)] at H; exact H
                    clear H
                    have H := H1
                    clear H1
                    by_cases c36 : t469 = true
                    · subst c36
                      have H1 : (constablelaw07_ExprPut.l0 k2 l0 l1 (x5_2.set (x7_2 : Int).toNat (⟨2, (⟨#[]⟩ : ByteArray), (⟨t466, t467, t468⟩ : S40)⟩ : S52)) false (wrap64 (x7_2 + 1))) = some r := by rw [if_pos rfl] at H; exact H
                      clear H
                      have H := H1
                      clear H1
                      obtain ⟨y472, hy472⟩ : ∃ y_ : List (S52), y_ = (x5_2.set (x7_2 : Int).toNat (⟨2, (⟨#[]⟩ : ByteArray), (⟨t466, t467, t468⟩ : S40)⟩ : S52)) := ⟨_, rfl⟩
                      replace H : (constablelaw07_ExprPut.l0 k2 l0 l1 y472 false (wrap64 (x7_2 + 1))) = some r := by first | (rw [hy472]; with_reducible exact H) | (have H2_ := (Option.bind_some _ _).symm.trans H; rw [hy472]; with_reducible exact H2_) | (have H2_ := (Option.bind_some _ _).symm.trans H; with_reducible exact H2_) | with_reducible exact H | (rw [hy472]; exact H) | exact H
                      have Ny472 := Aside0.mk hy472
                      clear hy472
                      have H' := Aside0.mk H
                      clear H
                      obtain ⟨Ao38, co38, eo38⟩ := Kd.R_slice HO_5.out
                      subst eo38
                      have p464 : 0 ≤ (x7_2 : Int) := dt_
                      have q464 : x7_2 < (x5_2.length : Int) := dt_
                      obtain ⟨ad464, e464, hx464_0, hx464_1, hx464_2, hx464_3, hx464_4⟩ := at_T52 (Kd.R_reads' HO_5.out).2.2 x7_2 p464 q464
                      cases e464
                      replace p464 := eq_true p464
                      replace q464 := eq_true q464
                      have p465 : 0 ≤ (x7_2 : Int) := dt_
                      have q465 : x7_2 < (x5_2.length : Int) := dt_
                      obtain ⟨ad465, e465, hx465_0, hx465_1, hx465_2, hx465_3, hx465_4⟩ := at_T52 (Kd.R_reads' HO_5.out).2.2 x7_2 p465 q465
                      obtain rfl : ad464 = ad465 := (by injection e465)
                      replace p465 := eq_true p465
                      replace q465 := eq_true q465
                      go_wp2_with (first | ((with_reducible refine gate_callee (f := 34) rfl ?_); refine goesL_ (some 51) rfl rfl Try.func34 (by kernel_rfl) rfl #[.slice A1 l1.length c1, .string ((rd_T52 x5_2 x7_2).f1)] rfl ga_ ?_; (with_reducible refine (constableref01_Get.calls k2 _ _ l1 ((rd_T52 x5_2 x7_2).f1) t466 t467 t468 true _ ?side1 ?side2 A20.out).mono ?_); (case side1 => repeat (first | exact (Kd.C_below HR1.out HB.out) | (with_reducible refine Kd.C_alloc ?_ _) | (with_reducible refine Kd.C_drewN ?_ _) | (with_reducible refine Kd.C_drew ?_))); (case side2 => exact HC1.out); rintro e w39 ⟨rfl, hb⟩; refine ⟨_, rfl, ?_⟩; have n0_ := kb_ (ku_ HO_5.out) hb; have n1_ := bs_ (be_ HB) hb; clear HO_5; clear HB; have HO_5 := n0_; have HB := n1_; clear n0_ n1_; (try clear hb); (try clear hb2); (try clear hk); (try clear hi)) | ((with_reducible refine gate_dst (N := 8) rfl ?_); (try (refine gate_guard (by rfl) ?_; dsimp only)); refine box_event ?hg (N := 8) ?hd (cs := #[.int .i64 0, .int .i64 0, .string (⟨#[]⟩ : ByteArray)]) (t := 40) ?hr ?_; (case hd => rfl); (case hg => rfl); (case hr => first | (go_simp; done) | (go_simp; rfl)); intro gb470 hg w40 hbox hb; have n0_ := kb_ (ku_ HO_5.out) hb; have n1_ := bs_ (be_ HB) hb; have n2_ := Aside0.mk (hbox); have n3_ := gs_ hg (be_ HB); have n4_ := gs_ hg (be_ HB); clear HO_5; clear HB; have HO_5 := n0_; have HB := n1_; have BK470 := n2_; have GW470 := n3_; have GE470 := n4_; clear n0_ n1_ n2_ n3_ n4_; clear hb hbox hg; have hcz41_0 : w40.cell? ⟨gb470, 0, none⟩ = some (.int .i64 0) := (blk_cell BK470.out 0).trans rfl; have hcz41_1 : w40.cell? ⟨gb470, 1, none⟩ = some (.int .i64 0) := (blk_cell BK470.out 1).trans rfl; have hcz41_2 : w40.cell? ⟨gb470, 2, none⟩ = some (.string (⟨#[]⟩ : ByteArray)) := (blk_cell BK470.out 2).trans rfl; have hfz41_0 := blk_frozen BK470.out 0; have hfz41_1 := blk_frozen BK470.out 1; have hfz41_2 := blk_frozen BK470.out 2) | ((with_reducible refine gate_store (t := 40) (p := 8) rfl ?_); refine store_event (t := 40) (p := 8) (v := ?vo_w42) (w1 := (((w40.setCell ⟨gb470, 0, none⟩ (.int .i64 t466)).setCell ⟨gb470, 1, none⟩ (.int .i64 t467)).setCell ⟨gb470, 2, none⟩ (.string t468))) ?hg ?ho ?hn ?hr ?_; (case ho => rfl); (case hg => rfl); (case hn => rfl); (case hr => first | (go_simp; done) | (go_simp; rfl)); intro w42 hw; have n0_ : Aside0 (Kd.R k52 52 w42 w.heap.size (fun _ => True) (.slice (some ad464) x5_2.length co38) x5_2) := ⟨(by rw [hw]; exact (by (with_reducible repeat (first | apply Kd.R_alloc | apply Kd.R_drewN | apply Kd.R_drew)); exact Kd.R_mono (Kd.R_far (p := ⟨gb470, 2, none⟩) (Kd.R_far (p := ⟨gb470, 1, none⟩) (Kd.R_far (p := ⟨gb470, 0, none⟩) (Kd.R_types HO_5.out BK470.out (by decide)) (fun _ hk => hk.2) (.int .i64 t466)) (fun _ hk => hk.2) (.int .i64 t467)) (fun _ hk => hk.2) (.string t468)) (fun _ hk => trivial)))⟩; have n1_ : Aside0 (w42.heap[gb470]? = some (.cells #[.int .i64 t466, .int .i64 t467, .string t468] 40 (0, 0))) := ⟨(by rw [hw]; exact (bp_ BK470))⟩; have n2_ : Aside0 (Below w.heap.size w w42) := ⟨(by rw [hw]; exact (be_ HB))⟩; clear hw; clear HO_5; clear BK470; clear HB; have HO_5 := n0_; have BK470 := n1_; have HB := n2_; clear n0_ n1_ n2_; have hcz43_0 : w42.cell? ⟨gb470, 0, none⟩ = some (.int .i64 t466) := (blk_cell BK470.out 0).trans rfl; have hcz43_1 : w42.cell? ⟨gb470, 1, none⟩ = some (.int .i64 t467) := (blk_cell BK470.out 1).trans rfl; have hcz43_2 : w42.cell? ⟨gb470, 2, none⟩ = some (.string t468) := (blk_cell BK470.out 2).trans rfl; have hfz43_0 := blk_frozen BK470.out 0; have hfz43_1 := blk_frozen BK470.out 1; have hfz43_2 := blk_frozen BK470.out 2; have p37 : 0 ≤ (x7_2 : Int) := dt_; have q37 : (x7_2 : Int) < ((x5_2.length : Int) : Int) := dt_; obtain ⟨go37, co37, eo37, gb37, gl37, cl37, HG37⟩ := Kd.R_form HO_5.out (by omega); (first | cases eo37 | (injection eo37 with ea_ en_ ec_; (first | subst ea_ | (injection ea_ with ea_; subst ea_)); subst ec_; clear en_)); have GB37 := Aside0.mk gb37; have GG37 := Aside0.mk HG37; clear gb37 gl37 HG37; (first | simp only [add_plain] at hx464_0 | skip); (first | simp only [add_plain] at hx464_1 | skip); (first | simp only [add_plain] at hx464_2 | skip); (first | simp only [add_plain] at hx464_3 | skip); (first | simp only [add_plain] at hx464_4 | skip); (first | simp only [add_plain] at hx465_0 | skip); (first | simp only [add_plain] at hx465_1 | skip); (first | simp only [add_plain] at hx465_2 | skip); (first | simp only [add_plain] at hx465_3 | skip); (first | simp only [add_plain] at hx465_4 | skip); obtain ⟨ce37, hcl37, hM37, hcc37, hfr37⟩ := Kd.R_elem HO_5.out z52 (x7_2 : Int) p37 q37; obtain rfl := k52_openM hM37; have hx37_0 : w42.cell? ⟨go37, (x7_2 : Int).toNat * 5, none⟩ = some (.int .i64 ((rd_T52 x5_2 x7_2).f0)) := hcc37 0 _ rfl; have hx37_1 : w42.cell? ⟨go37, (x7_2 : Int).toNat * 5 + 1, none⟩ = some (.string ((rd_T52 x5_2 x7_2).f1)) := hcc37 1 _ rfl; have hx37_2 : w42.cell? ⟨go37, (x7_2 : Int).toNat * 5 + 2, none⟩ = some (.int .i64 ((rd_T52 x5_2 x7_2).f2.f0)) := hcc37 2 _ rfl; have hx37_3 : w42.cell? ⟨go37, (x7_2 : Int).toNat * 5 + 3, none⟩ = some (.int .i64 ((rd_T52 x5_2 x7_2).f2.f1)) := hcc37 3 _ rfl; have hx37_4 : w42.cell? ⟨go37, (x7_2 : Int).toNat * 5 + 4, none⟩ = some (.string ((rd_T52 x5_2 x7_2).f2.f2)) := hcc37 4 _ rfl; have hf37_0 : w42.frozen? ⟨go37, (x7_2 : Int).toNat * 5, none⟩ = false := hfr37 0; have hf37_1 : w42.frozen? ⟨go37, (x7_2 : Int).toNat * 5 + 1, none⟩ = false := hfr37 1; have hf37_2 : w42.frozen? ⟨go37, (x7_2 : Int).toNat * 5 + 2, none⟩ = false := hfr37 2; have hf37_3 : w42.frozen? ⟨go37, (x7_2 : Int).toNat * 5 + 3, none⟩ = false := hfr37 3; have hf37_4 : w42.frozen? ⟨go37, (x7_2 : Int).toNat * 5 + 4, none⟩ = false := hfr37 4; clear hcl37 hcc37 hfr37 hM37; replace p37 := eq_true p37; replace q37 := eq_true q37; have HX44 := Aside0.mk (show Kd.R k52 52 w42 w.heap.size (fun _ => True) (.slice (some ⟨go37, 0, none⟩) x5_2.length co38) x5_2 from (ku_ HO_5.out)); obtain ⟨ce44, hcl44, hM44, hcc44, hfr44⟩ := Kd.R_elem HX44.out z52 (x7_2 : Int) dt_ (by have h_ : (x7_2 : Int) < ((x5_2.length : Int) : Int) := dt_; first | exact h_ | (have e_ := (Kd.R_reads' HO_5.out).1; omega) | simpa using h_); obtain rfl := k52_openM hM44; have HP44 := Kd.R_seg HX44.out (x7_2 : Int) dt_ (by have h_ : (x7_2 : Int) < ((x5_2.length : Int) : Int) := dt_; first | exact h_ | (have e_ := (Kd.R_reads' HO_5.out).1; omega) | simpa using h_) (seg := [.int .i64 2, .string (⟨#[]⟩ : ByteArray), .int .i64 t466, .int .i64 t467, .string t468]) (j := 0) hcl44 hcc44 (show 5 ≤ 5 from by decide) (x' := (⟨2, (⟨#[]⟩ : ByteArray), (⟨t466, t467, t468⟩ : S40)⟩ : S52)) (k52_mkM _ _ _ (⟨2, (⟨#[]⟩ : ByteArray), (⟨t466, t467, t468⟩ : S40)⟩ : S52) ) (fun _ hk => hk); have hx44_0 := hcc44 0 _ rfl; (try simp only [show (k52).sz = 5 from rfl, Nat.mul_one, Nat.add_zero] at hx44_0); have hf44_0 := hfr44 0; (try simp only [show (k52).sz = 5 from rfl, Nat.mul_one, Nat.add_zero] at hf44_0); have hx44_1 := hcc44 1 _ rfl; (try simp only [show (k52).sz = 5 from rfl, Nat.mul_one, Nat.add_zero] at hx44_1); have hf44_1 := hfr44 1; (try simp only [show (k52).sz = 5 from rfl, Nat.mul_one, Nat.add_zero] at hf44_1); have hx44_2 := hcc44 2 _ rfl; (try simp only [show (k52).sz = 5 from rfl, Nat.mul_one, Nat.add_zero] at hx44_2); have hf44_2 := hfr44 2; (try simp only [show (k52).sz = 5 from rfl, Nat.mul_one, Nat.add_zero] at hf44_2); have hx44_3 := hcc44 3 _ rfl; (try simp only [show (k52).sz = 5 from rfl, Nat.mul_one, Nat.add_zero] at hx44_3); have hf44_3 := hfr44 3; (try simp only [show (k52).sz = 5 from rfl, Nat.mul_one, Nat.add_zero] at hf44_3); have hx44_4 := hcc44 4 _ rfl; (try simp only [show (k52).sz = 5 from rfl, Nat.mul_one, Nat.add_zero] at hx44_4); have hf44_4 := hfr44 4; (try simp only [show (k52).sz = 5 from rfl, Nat.mul_one, Nat.add_zero] at hf44_4); clear hcl44 hcc44 hfr44 hM44) | ((with_reducible refine gate_store (t := 52) (p := 63) rfl ?_); refine store_event (t := 52) (p := 63) (v := ?vo_w45) (w1 := (((((w42.setCell ⟨go37, (x7_2 : Int).toNat * 5, none⟩ (.int .i64 2)).setCell ⟨go37, (x7_2 : Int).toNat * 5 + 1, none⟩ (.string (⟨#[]⟩ : ByteArray))).setCell ⟨go37, (x7_2 : Int).toNat * 5 + 2, none⟩ (.int .i64 t466)).setCell ⟨go37, (x7_2 : Int).toNat * 5 + 3, none⟩ (.int .i64 t467)).setCell ⟨go37, (x7_2 : Int).toNat * 5 + 4, none⟩ (.string t468))) ?hg ?ho ?hn ?hr ?_; (case ho => rfl); (case hg => rfl); (case hn => rfl); (case hr => first | (go_simp; done) | (go_simp; rfl)); intro w45 hw; have hg : w42.grownBy w45 (some go37) := (by rw [hw]; exact HP44.2); have hp_ : Kd.R k52 52 w45 w.heap.size (fun _ => True) (.slice (some ⟨go37, 0, none⟩) x5_2.length co38) y472 := (by rw [hw, Ny472.out]; exact HP44.1); clear HP44; have n0_ := Aside0.mk (hp_); have n1_ := Aside0.mk (blk_grown (bu_ BK470) hg (Kd.R_ne HO_5.out BK470.out (by decide))); have n2_ := Aside0.mk ((by rw [hw]; exact below_set (below_set (below_set (below_set (below_set (HB.out) GB37.out) GB37.out) GB37.out) GB37.out) GB37.out : Below w.heap.size w w45)); clear HO_5; clear BK470; clear HB; have HO_5 := n0_; have BK470 := n1_; have HB := n2_; clear n0_ n1_ n2_; clear hg hw hp_))
                      go_roundg k2
                      case measure => have := HJ2.out; have := HK2.out; omega
                      case rel => exact ⟨(y472), (false), (wrap64 (x7_2 + 1)), ra_, ra_, H', ⟨by have := HJ2.out; have := HK2.out; omega⟩, ⟨by (with_reducible repeat (first | apply Kd.R_alloc | apply Kd.R_drewN | apply Kd.R_drew)); exact HO_5.out⟩, ⟨by repeat (first | (with_reducible first | exact HB.out | apply below_alloc | apply pw_below_drewN | apply below_drew1 | refine below_set ?_ GE470.out) | exact HB.out)⟩⟩
                    · replace c36 := Bool.eq_false_iff.mpr c36
                      subst c36
                      have H1 : (constablelaw07_ExprPut.l0 k2 l0 l1 x5_2 false (wrap64 (x7_2 + 1))) = some r := by rw [if_neg (show ¬ (false = true) by decide)] at H; exact H
                      clear H
                      have H := H1
                      clear H1
                      have H' := Aside0.mk H
                      clear H
                      obtain ⟨Ao46, co46, eo46⟩ := Kd.R_slice HO_5.out
                      subst eo46
                      have p464 : 0 ≤ (x7_2 : Int) := dt_
                      have q464 : x7_2 < (x5_2.length : Int) := dt_
                      obtain ⟨ad464, e464, hx464_0, hx464_1, hx464_2, hx464_3, hx464_4⟩ := at_T52 (Kd.R_reads' HO_5.out).2.2 x7_2 p464 q464
                      cases e464
                      replace p464 := eq_true p464
                      replace q464 := eq_true q464
                      have p465 : 0 ≤ (x7_2 : Int) := dt_
                      have q465 : x7_2 < (x5_2.length : Int) := dt_
                      obtain ⟨ad465, e465, hx465_0, hx465_1, hx465_2, hx465_3, hx465_4⟩ := at_T52 (Kd.R_reads' HO_5.out).2.2 x7_2 p465 q465
                      obtain rfl : ad464 = ad465 := (by injection e465)
                      replace p465 := eq_true p465
                      replace q465 := eq_true q465
                      go_wp2_with (first | ((with_reducible refine gate_callee (f := 34) rfl ?_); refine goesL_ (some 51) rfl rfl Try.func34 (by kernel_rfl) rfl #[.slice A1 l1.length c1, .string ((rd_T52 x5_2 x7_2).f1)] rfl ga_ ?_; (with_reducible refine (constableref01_Get.calls k2 _ _ l1 ((rd_T52 x5_2 x7_2).f1) t466 t467 t468 false _ ?side1 ?side2 A20.out).mono ?_); (case side1 => repeat (first | exact (Kd.C_below HR1.out HB.out) | (with_reducible refine Kd.C_alloc ?_ _) | (with_reducible refine Kd.C_drewN ?_ _) | (with_reducible refine Kd.C_drew ?_))); (case side2 => exact HC1.out); rintro e w47 ⟨rfl, hb⟩; refine ⟨_, rfl, ?_⟩; have n0_ := kb_ (ku_ HO_5.out) hb; have n1_ := bs_ (be_ HB) hb; clear HO_5; clear HB; have HO_5 := n0_; have HB := n1_; clear n0_ n1_; (try clear hb); (try clear hb2); (try clear hk); (try clear hi)) | ((with_reducible refine gate_dst (N := 8) rfl ?_); (try (refine gate_guard (by rfl) ?_; dsimp only)); refine box_event ?hg (N := 8) ?hd (cs := #[.int .i64 0, .int .i64 0, .string (⟨#[]⟩ : ByteArray)]) (t := 40) ?hr ?_; (case hd => rfl); (case hg => rfl); (case hr => first | (go_simp; done) | (go_simp; rfl)); intro gb470 hg w48 hbox hb; have n0_ := kb_ (ku_ HO_5.out) hb; have n1_ := bs_ (be_ HB) hb; have n2_ := Aside0.mk (hbox); have n3_ := gs_ hg (be_ HB); have n4_ := gs_ hg (be_ HB); clear HO_5; clear HB; have HO_5 := n0_; have HB := n1_; have BK470 := n2_; have GW470 := n3_; have GE470 := n4_; clear n0_ n1_ n2_ n3_ n4_; clear hb hbox hg; have hcz49_0 : w48.cell? ⟨gb470, 0, none⟩ = some (.int .i64 0) := (blk_cell BK470.out 0).trans rfl; have hcz49_1 : w48.cell? ⟨gb470, 1, none⟩ = some (.int .i64 0) := (blk_cell BK470.out 1).trans rfl; have hcz49_2 : w48.cell? ⟨gb470, 2, none⟩ = some (.string (⟨#[]⟩ : ByteArray)) := (blk_cell BK470.out 2).trans rfl; have hfz49_0 := blk_frozen BK470.out 0; have hfz49_1 := blk_frozen BK470.out 1; have hfz49_2 := blk_frozen BK470.out 2))
                      go_roundg k2
                      case measure => have := HJ2.out; have := HK2.out; omega
                      case rel => exact ⟨(x5_2), (false), (wrap64 (x7_2 + 1)), ra_, ra_, H', ⟨by have := HJ2.out; have := HK2.out; omega⟩, ⟨by (with_reducible repeat (first | apply Kd.R_alloc | apply Kd.R_drewN | apply Kd.R_drew)); exact Kd.R_mono (Kd.R_far (p := ⟨gb470, 2, none⟩) (Kd.R_far (p := ⟨gb470, 1, none⟩) (Kd.R_far (p := ⟨gb470, 0, none⟩) (Kd.R_types HO_5.out BK470.out (by decide)) (fun _ hk => hk.2) (.int .i64 t466)) (fun _ hk => hk.2) (.int .i64 t467)) (fun _ hk => hk.2) (.string t468)) (fun _ hk => trivial)⟩, ⟨by repeat (first | (with_reducible first | exact HB.out | apply below_alloc | apply pw_below_drewN | apply below_drew1 | refine below_set ?_ GE470.out) | exact HB.out)⟩⟩
                · rw [if_neg c19] at H
                  obtain ⟨c19b0, c19b1⟩ := neB_ c19
                  have H' := Aside0.mk H
                  clear H
                  obtain ⟨Ao50, co50, eo50⟩ := Kd.R_slice HO_5.out
                  subst eo50
                  have p464 : 0 ≤ (x7_2 : Int) := dt_
                  have q464 : x7_2 < (x5_2.length : Int) := dt_
                  obtain ⟨ad464, e464, hx464_0, hx464_1, hx464_2, hx464_3, hx464_4⟩ := at_T52 (Kd.R_reads' HO_5.out).2.2 x7_2 p464 q464
                  cases e464
                  replace p464 := eq_true p464
                  replace q464 := eq_true q464
                  go_wp2
                  go_roundg k2
                  case measure => have := HJ2.out; have := HK2.out; omega
                  case rel => exact ⟨(x5_2), (x6_2), (wrap64 (x7_2 + 1)), ra_, ra_, H', ⟨by have := HJ2.out; have := HK2.out; omega⟩, ⟨by (with_reducible repeat (first | apply Kd.R_alloc | apply Kd.R_drewN | apply Kd.R_drew)); exact HO_5.out⟩, ⟨by repeat (first | (with_reducible first | exact HB.out | apply below_alloc | apply pw_below_drewN | apply below_drew1) | exact HB.out)⟩⟩
              · rw [if_neg c18] at H
                exact absurd H (by simp)
            · rw [if_neg c17] at H
              have c17b0 : decide (x7_2 < (x5_2.length : Int)) = false := decide_eq_false c17
              clear c17
              replace H := Option.bind_eq_some_iff.mp H
              obtain ⟨⟨t473, t474, t475, t476⟩, A510, H⟩ := H
              replace H : ((expr_Eval.f k2 x5_2 ([] : List (S62))).bind fun bt478 => (if x6_2 = true then (if t476 = bt478.2.2.2 then (if (t473 == bt478.1 && (t474 == bt478.2.1 && (t475.toList == bt478.2.2.1.toList))) = true then ((expr_Vars.f k2 x5_2).bind fun t483 => (if (t483.length : Int) = 0 then ((constablelaw07_wakes.f k2).bind fun t486 => (some t486)) else (some false))) else (some false)) else (some false)) else (if t476 = 0 then (some false) else (if bt478.2.2.2 = 0 then (some false) else ((constablelaw07_wakes.f k2).bind fun t487 => (some t487)))))) = some r := H
              have A51 := Aside0.mk A510
              clear A510
              replace H := Option.bind_eq_some_iff.mp H
              obtain ⟨⟨t478, t479, t480, t481⟩, A520, H⟩ := H
              replace H : (if x6_2 = true then (if t476 = t481 then (if (t473 == t478 && (t474 == t479 && (t475.toList == t480.toList))) = true then ((expr_Vars.f k2 x5_2).bind fun t483 => (if (t483.length : Int) = 0 then ((constablelaw07_wakes.f k2).bind fun t486 => (some t486)) else (some false))) else (some false)) else (some false)) else (if t476 = 0 then (some false) else (if t481 = 0 then (some false) else ((constablelaw07_wakes.f k2).bind fun t487 => (some t487))))) = some r := H
              have A52 := Aside0.mk A520
              clear A520
              by_cases c53 : x6_2 = true
              · subst c53
                have H1 : (if t476 = t481 then (if (t473 == t478 && (t474 == t479 && (t475.toList == t480.toList))) = true then ((expr_Vars.f k2 x5_2).bind fun t483 => (if (t483.length : Int) = 0 then ((constablelaw07_wakes.f k2).bind fun t486 => (some t486)) else (some false))) else (some false)) else (some false)) = some r := by rw [if_pos rfl] at H; exact H
                clear H
                have H := H1
                clear H1
                by_cases c54 : t476 = t481
                · rw [if_pos c54] at H
                  obtain ⟨c54b0, c54b1⟩ := eqB_ c54
                  clear c54
                  by_cases c55 : (t473 == t478 && (t474 == t479 && (t475.toList == t480.toList))) = true
                  · rw [if_pos c55] at H
                    have c55b0 : (t473 == t478 && (t474 == t479 && (t475.toList == t480.toList))) = true := c55
                    (try (have c55b1 : decide (t473 = t478 && (t474 == t479 && (t475.toList == t480.toList))) = true := by simpa using c55))
                    (try (have c55b2 : (t473 == t478 && (t474 == t479 && (t475.toList == t480.toList))) = true := by simpa using c55))
                    clear c55
                    replace H := Option.bind_eq_some_iff.mp H
                    obtain ⟨t483, A560, H⟩ := H
                    replace H : (if (t483.length : Int) = 0 then ((constablelaw07_wakes.f k2).bind fun t486 => (some t486)) else (some false)) = some r := H
                    have A56 := Aside0.mk A560
                    clear A560
                    by_cases c57 : (t483.length : Int) = 0
                    · rw [if_pos c57] at H
                      obtain ⟨c57b0, c57b1⟩ := eqB_ c57
                      clear c57
                      replace H := Option.bind_eq_some_iff.mp H
                      obtain ⟨t486, A580, H⟩ := H
                      replace H : (some t486) = some r := H
                      have A58 := Aside0.mk A580
                      clear A580
                      obtain rfl := Option.some.inj H
                      obtain ⟨Ao59, co59, eo59⟩ := Kd.R_slice HO_5.out
                      subst eo59
                      go_wp2_with (first | ((with_reducible refine gate_callee (f := 21) rfl ?_); refine goesL_ (some 67) rfl rfl Try.func21 (by kernel_rfl) rfl #[.slice A0 l0.length c0, .slice A1 l1.length c1] rfl ga_ ?_; (with_reducible refine (expr_Eval.calls k2 _ _ l0 _ _ l1 t473 t474 t475 t476 _ ?side1 ?side2 ?side3 ?side4 A51.out).mono ?_); (case side1 => repeat (first | exact (Kd.C_below HR0.out HB.out) | (with_reducible refine Kd.C_alloc ?_ _) | (with_reducible refine Kd.C_drewN ?_ _) | (with_reducible refine Kd.C_drew ?_))); (case side2 => exact HC0.out); (case side3 => repeat (first | exact (Kd.C_below HR1.out HB.out) | (with_reducible refine Kd.C_alloc ?_ _) | (with_reducible refine Kd.C_drewN ?_ _) | (with_reducible refine Kd.C_drew ?_))); (case side4 => exact HC1.out); rintro e w60 ⟨rfl, hb⟩; refine ⟨_, rfl, ?_⟩; have n0_ := kb_ (ku_ HO_5.out) hb; have n1_ := bs_ (be_ HB) hb; clear HO_5; clear HB; have HO_5 := n0_; have HB := n1_; clear n0_ n1_; (try clear hb); (try clear hb2); (try clear hk); (try clear hi)) | ((with_reducible refine gate_dst (N := 10) rfl ?_); (try (refine gate_guard (by rfl) ?_; dsimp only)); refine box_event ?hg (N := 10) ?hd (cs := #[.int .i64 0, .int .i64 0, .string (⟨#[]⟩ : ByteArray)]) (t := 40) ?hr ?_; (case hd => rfl); (case hg => rfl); (case hr => first | (go_simp; done) | (go_simp; rfl)); intro gb477 hg w61 hbox hb; have n0_ := kb_ (ku_ HO_5.out) hb; have n1_ := bs_ (be_ HB) hb; have n2_ := Aside0.mk (hbox); have n3_ := gs_ hg (be_ HB); have n4_ := gs_ hg (be_ HB); clear HO_5; clear HB; have HO_5 := n0_; have HB := n1_; have BK477 := n2_; have GW477 := n3_; have GE477 := n4_; clear n0_ n1_ n2_ n3_ n4_; clear hb hbox hg; have hcz62_0 : w61.cell? ⟨gb477, 0, none⟩ = some (.int .i64 0) := (blk_cell BK477.out 0).trans rfl; have hcz62_1 : w61.cell? ⟨gb477, 1, none⟩ = some (.int .i64 0) := (blk_cell BK477.out 1).trans rfl; have hcz62_2 : w61.cell? ⟨gb477, 2, none⟩ = some (.string (⟨#[]⟩ : ByteArray)) := (blk_cell BK477.out 2).trans rfl; have hfz62_0 := blk_frozen BK477.out 0; have hfz62_1 := blk_frozen BK477.out 1; have hfz62_2 := blk_frozen BK477.out 2) | ((with_reducible refine gate_callee (f := 21) rfl ?_); refine goesL_ (some 72) rfl rfl Try.func21 (by kernel_rfl) rfl #[.slice Ao59 x5_2.length co59, .slice none 0 0] rfl ga_ ?_; (refine (expr_Eval.calls k2 _ _ x5_2 _ _ ([] : List (S62)) t478 t479 t480 t481 _ ?side1 ?side2 ?side3 ?side4 A52.out).mono ?_); (case side1 => refine (Kd.R_reads' (e := 52) (base := w.heap.size) (ok := fun k_ => True) (n := x5_2.length) (c := co59) ?_).2.2; exact (ku_ (Kd.R_mono (Kd.R_far (p := ⟨gb477, 2, none⟩) (Kd.R_far (p := ⟨gb477, 1, none⟩) (Kd.R_far (p := ⟨gb477, 0, none⟩) (Kd.R_types HO_5.out BK477.out (by decide)) (fun _ hk => hk.2) (.int .i64 t473)) (fun _ hk => hk.2) (.int .i64 t474)) (fun _ hk => hk.2) (.string t475)) (fun _ h_ => h_.1)))); (case side2 => exact (Kd.R_reads' HO_5.out).2.1); (case side3 => exact Kd.C_nil _ _); (case side4 => exact Nat.le_refl _); rintro e w63 ⟨rfl, hb⟩; refine ⟨_, rfl, ?_⟩; have n0_ := Aside0.mk (Kd.R_below (ku_ (Kd.R_mono (Kd.R_far (p := ⟨gb477, 2, none⟩) (Kd.R_far (p := ⟨gb477, 1, none⟩) (Kd.R_far (p := ⟨gb477, 0, none⟩) (Kd.R_types HO_5.out BK477.out (by decide)) (fun _ hk => hk.2) (.int .i64 t473)) (fun _ hk => hk.2) (.int .i64 t474)) (fun _ hk => hk.2) (.string t475)) (fun _ h_ => h_.1))) hb); have n1_ := Aside0.mk (blk_below (o := .cells #[.int .i64 t473, .int .i64 t474, .string t475] 40 (0, 0)) (bp_ BK477) hb); have n2_ := bs_ (be_ HB) hb; clear HO_5; clear BK477; clear HB; have HO_5 := n0_; have BK477 := n1_; have HB := n2_; clear n0_ n1_ n2_; (try clear hb); (try clear hb2); (try clear hk); (try clear hi)) | ((with_reducible refine gate_dst (N := 12) rfl ?_); (try (refine gate_guard (by rfl) ?_; dsimp only)); refine box_event ?hg (N := 12) ?hd (cs := #[.int .i64 0, .int .i64 0, .string (⟨#[]⟩ : ByteArray)]) (t := 40) ?hr ?_; (case hd => rfl); (case hg => rfl); (case hr => first | (go_simp; done) | (go_simp; rfl)); intro gb482 hg w64 hbox hb; have n0_ := kb_ (ku_ HO_5.out) hb; have n1_ := bb_ (bu_ BK477) hb; have n2_ := bs_ (be_ HB) hb; have n3_ := Aside0.mk (hbox); have n4_ := gs_ hg (be_ HB); have n5_ := gs_ hg (be_ HB); have n6_ := nl_ hg (bu_ BK477); have n7_ := ng_ hg (bu_ BK477); clear HO_5; clear BK477; clear HB; have HO_5 := n0_; have BK477 := n1_; have HB := n2_; have BK482 := n3_; have GW482 := n4_; have GE482 := n5_; have NB477_482 := n6_; have NB482_477 := n7_; clear n0_ n1_ n2_ n3_ n4_ n5_ n6_ n7_; clear hb hbox hg; have hnb65 := NB482_477.out; have hnc65 := NB477_482.out; have hcz66_0 : w64.cell? ⟨gb482, 0, none⟩ = some (.int .i64 0) := (blk_cell BK482.out 0).trans rfl; have hcz66_1 : w64.cell? ⟨gb482, 1, none⟩ = some (.int .i64 0) := (blk_cell BK482.out 1).trans rfl; have hcz66_2 : w64.cell? ⟨gb482, 2, none⟩ = some (.string (⟨#[]⟩ : ByteArray)) := (blk_cell BK482.out 2).trans rfl; have hfz66_0 := blk_frozen BK482.out 0; have hfz66_1 := blk_frozen BK482.out 1; have hfz66_2 := blk_frozen BK482.out 2; have hcz67_0 : w64.cell? ⟨gb477, 0, none⟩ = some (.int .i64 t473) := (blk_cell BK477.out 0).trans rfl; have hcz67_1 : w64.cell? ⟨gb477, 1, none⟩ = some (.int .i64 t474) := (blk_cell BK477.out 1).trans rfl; have hcz67_2 : w64.cell? ⟨gb477, 2, none⟩ = some (.string t475) := (blk_cell BK477.out 2).trans rfl; have hfz67_0 := blk_frozen BK477.out 0; have hfz67_1 := blk_frozen BK477.out 1; have hfz67_2 := blk_frozen BK477.out 2) | (go_at_call 23; (with_reducible refine (expr_Vars.calls k2 _ _ x5_2 t483 _ ?side1 ?side2 A56.out).mono ?_); (case side1 => refine (Kd.R_reads' (e := 52) (base := w.heap.size) (ok := fun k_ => True) (n := x5_2.length) (c := co59) ?_).2.2; exact (ku_ (Kd.R_mono (Kd.R_far (p := ⟨gb482, 2, none⟩) (Kd.R_far (p := ⟨gb482, 1, none⟩) (Kd.R_far (p := ⟨gb482, 0, none⟩) (Kd.R_types HO_5.out BK482.out (by decide)) (fun _ hk => hk.2) (.int .i64 t478)) (fun _ hk => hk.2) (.int .i64 t479)) (fun _ hk => hk.2) (.string t480)) (fun _ h_ => h_.1)))); (case side2 => exact (Kd.R_reads' HO_5.out).2.1); rintro e w68 ⟨v484, rfl, ho0, hb⟩; have n0_ := Aside0.mk (Kd.R_below (ku_ (Kd.R_mono (Kd.R_far (p := ⟨gb482, 2, none⟩) (Kd.R_far (p := ⟨gb482, 1, none⟩) (Kd.R_far (p := ⟨gb482, 0, none⟩) (Kd.R_types HO_5.out BK482.out (by decide)) (fun _ hk => hk.2) (.int .i64 t478)) (fun _ hk => hk.2) (.int .i64 t479)) (fun _ hk => hk.2) (.string t480)) (fun _ h_ => h_.1))) hb); have n1_ := Aside0.mk (Kd.R_lower ho0 (below_size (be_ HB))); have n2_ := bb_ (bu_ BK477) hb; have n3_ := Aside0.mk (blk_below (o := .cells #[.int .i64 t478, .int .i64 t479, .string t480] 40 (0, 0)) (bp_ BK482) hb); have n4_ := bs_ (be_ HB) hb; clear HO_5; clear BK477; clear BK482; clear HB; have HO_5 := n0_; have HO485 := n1_; have BK477 := n2_; have BK482 := n3_; have HB := n4_; clear n0_ n1_ n2_ n3_ n4_; (try clear hb); (try clear hb2); (try clear hk); (try clear hi); (try clear ho0); obtain ⟨Ao69, co69, eo69⟩ := Kd.R_slice HO485.out; subst eo69) | (go_at_call 32; (with_reducible refine (constablelaw07_wakes.calls k2  t486 _ A58.out HR_.out).mono ?_); rintro e w70 ⟨rfl, hb⟩; have n0_ := kb_ (ku_ HO_5.out) hb; have n1_ := kb_ (ku_ HO485.out) hb; have n2_ := bb_ (bu_ BK477) hb; have n3_ := bb_ (bu_ BK482) hb; have n4_ := bs_ (be_ HB) hb; clear HO_5; clear HO485; clear BK477; clear BK482; clear HB; have HO_5 := n0_; have HO485 := n1_; have BK477 := n2_; have BK482 := n3_; have HB := n4_; clear n0_ n1_ n2_ n3_ n4_; (try clear hb); (try clear hb2); (try clear hk); (try clear hi)))
                      go_ret
                      exact ⟨by first | rfl | (simp [errW_none, errW_some] <;> rfl) | (simp [*, errW_none, errW_some] <;> rfl), by repeat (first | (with_reducible first | exact HB.out | apply below_alloc | apply pw_below_drewN | apply below_drew1 | refine below_set ?_ GE477.out | refine below_set ?_ GE482.out) | exact HB.out)⟩
                    · rw [if_neg c57] at H
                      obtain ⟨c57b0, c57b1⟩ := neB_ c57
                      have c57b2 : ¬ (t483 = []) := fun h_ => c57 (by rw [h_]; rfl)
                      exact absurd ((Option.some.inj H).trans HR_.out) (by decide)
                  · rw [if_neg c55] at H
                    have c55b0 : (t473 == t478 && (t474 == t479 && (t475.toList == t480.toList))) = false := by simpa using c55
                    (try (have c55b1 : decide (t473 = t478 && (t474 == t479 && (t475.toList == t480.toList))) = false := by simpa using c55))
                    (try (have c55b2 : (t473 == t478 && (t474 == t479 && (t475.toList == t480.toList))) = false := by simpa using c55))
                    (try (have c55b3 : ¬ (t473 = t478 && (t474 == t479 && (t475.toList == t480.toList))) := by simpa using c55))
                    clear c55
                    exact absurd ((Option.some.inj H).trans HR_.out) (by decide)
                · rw [if_neg c54] at H
                  obtain ⟨c54b0, c54b1⟩ := neB_ c54
                  exact absurd ((Option.some.inj H).trans HR_.out) (by decide)
              · replace c53 := Bool.eq_false_iff.mpr c53
                subst c53
                have H1 : (if t476 = 0 then (some false) else (if t481 = 0 then (some false) else ((constablelaw07_wakes.f k2).bind fun t487 => (some t487)))) = some r := by rw [if_neg (show ¬ (false = true) by decide)] at H; exact H
                clear H
                have H := H1
                clear H1
                by_cases c71 : t476 = 0
                · rw [if_pos c71] at H
                  obtain ⟨c71b0, c71b1⟩ := eqB_ c71
                  clear c71
                  exact absurd ((Option.some.inj H).trans HR_.out) (by decide)
                · rw [if_neg c71] at H
                  obtain ⟨c71b0, c71b1⟩ := neB_ c71
                  by_cases c72 : t481 = 0
                  · rw [if_pos c72] at H
                    obtain ⟨c72b0, c72b1⟩ := eqB_ c72
                    clear c72
                    exact absurd ((Option.some.inj H).trans HR_.out) (by decide)
                  · rw [if_neg c72] at H
                    obtain ⟨c72b0, c72b1⟩ := neB_ c72
                    replace H := Option.bind_eq_some_iff.mp H
                    obtain ⟨t487, A730, H⟩ := H
                    replace H : (some t487) = some r := H
                    have A73 := Aside0.mk A730
                    clear A730
                    obtain rfl := Option.some.inj H
                    obtain ⟨Ao74, co74, eo74⟩ := Kd.R_slice HO_5.out
                    subst eo74
                    go_wp2_with (first | ((with_reducible refine gate_callee (f := 21) rfl ?_); refine goesL_ (some 67) rfl rfl Try.func21 (by kernel_rfl) rfl #[.slice A0 l0.length c0, .slice A1 l1.length c1] rfl ga_ ?_; (with_reducible refine (expr_Eval.calls k2 _ _ l0 _ _ l1 t473 t474 t475 t476 _ ?side1 ?side2 ?side3 ?side4 A51.out).mono ?_); (case side1 => repeat (first | exact (Kd.C_below HR0.out HB.out) | (with_reducible refine Kd.C_alloc ?_ _) | (with_reducible refine Kd.C_drewN ?_ _) | (with_reducible refine Kd.C_drew ?_))); (case side2 => exact HC0.out); (case side3 => repeat (first | exact (Kd.C_below HR1.out HB.out) | (with_reducible refine Kd.C_alloc ?_ _) | (with_reducible refine Kd.C_drewN ?_ _) | (with_reducible refine Kd.C_drew ?_))); (case side4 => exact HC1.out); rintro e w75 ⟨rfl, hb⟩; refine ⟨_, rfl, ?_⟩; have n0_ := kb_ (ku_ HO_5.out) hb; have n1_ := bs_ (be_ HB) hb; clear HO_5; clear HB; have HO_5 := n0_; have HB := n1_; clear n0_ n1_; (try clear hb); (try clear hb2); (try clear hk); (try clear hi)) | ((with_reducible refine gate_dst (N := 10) rfl ?_); (try (refine gate_guard (by rfl) ?_; dsimp only)); refine box_event ?hg (N := 10) ?hd (cs := #[.int .i64 0, .int .i64 0, .string (⟨#[]⟩ : ByteArray)]) (t := 40) ?hr ?_; (case hd => rfl); (case hg => rfl); (case hr => first | (go_simp; done) | (go_simp; rfl)); intro gb477 hg w76 hbox hb; have n0_ := kb_ (ku_ HO_5.out) hb; have n1_ := bs_ (be_ HB) hb; have n2_ := Aside0.mk (hbox); have n3_ := gs_ hg (be_ HB); have n4_ := gs_ hg (be_ HB); clear HO_5; clear HB; have HO_5 := n0_; have HB := n1_; have BK477 := n2_; have GW477 := n3_; have GE477 := n4_; clear n0_ n1_ n2_ n3_ n4_; clear hb hbox hg; have hcz77_0 : w76.cell? ⟨gb477, 0, none⟩ = some (.int .i64 0) := (blk_cell BK477.out 0).trans rfl; have hcz77_1 : w76.cell? ⟨gb477, 1, none⟩ = some (.int .i64 0) := (blk_cell BK477.out 1).trans rfl; have hcz77_2 : w76.cell? ⟨gb477, 2, none⟩ = some (.string (⟨#[]⟩ : ByteArray)) := (blk_cell BK477.out 2).trans rfl; have hfz77_0 := blk_frozen BK477.out 0; have hfz77_1 := blk_frozen BK477.out 1; have hfz77_2 := blk_frozen BK477.out 2) | ((with_reducible refine gate_callee (f := 21) rfl ?_); refine goesL_ (some 72) rfl rfl Try.func21 (by kernel_rfl) rfl #[.slice Ao74 x5_2.length co74, .slice none 0 0] rfl ga_ ?_; (refine (expr_Eval.calls k2 _ _ x5_2 _ _ ([] : List (S62)) t478 t479 t480 t481 _ ?side1 ?side2 ?side3 ?side4 A52.out).mono ?_); (case side1 => refine (Kd.R_reads' (e := 52) (base := w.heap.size) (ok := fun k_ => True) (n := x5_2.length) (c := co74) ?_).2.2; exact (ku_ (Kd.R_mono (Kd.R_far (p := ⟨gb477, 2, none⟩) (Kd.R_far (p := ⟨gb477, 1, none⟩) (Kd.R_far (p := ⟨gb477, 0, none⟩) (Kd.R_types HO_5.out BK477.out (by decide)) (fun _ hk => hk.2) (.int .i64 t473)) (fun _ hk => hk.2) (.int .i64 t474)) (fun _ hk => hk.2) (.string t475)) (fun _ h_ => h_.1)))); (case side2 => exact (Kd.R_reads' HO_5.out).2.1); (case side3 => exact Kd.C_nil _ _); (case side4 => exact Nat.le_refl _); rintro e w78 ⟨rfl, hb⟩; refine ⟨_, rfl, ?_⟩; have n0_ := Aside0.mk (Kd.R_below (ku_ (Kd.R_mono (Kd.R_far (p := ⟨gb477, 2, none⟩) (Kd.R_far (p := ⟨gb477, 1, none⟩) (Kd.R_far (p := ⟨gb477, 0, none⟩) (Kd.R_types HO_5.out BK477.out (by decide)) (fun _ hk => hk.2) (.int .i64 t473)) (fun _ hk => hk.2) (.int .i64 t474)) (fun _ hk => hk.2) (.string t475)) (fun _ h_ => h_.1))) hb); have n1_ := Aside0.mk (blk_below (o := .cells #[.int .i64 t473, .int .i64 t474, .string t475] 40 (0, 0)) (bp_ BK477) hb); have n2_ := bs_ (be_ HB) hb; clear HO_5; clear BK477; clear HB; have HO_5 := n0_; have BK477 := n1_; have HB := n2_; clear n0_ n1_ n2_; (try clear hb); (try clear hb2); (try clear hk); (try clear hi)) | ((with_reducible refine gate_dst (N := 12) rfl ?_); (try (refine gate_guard (by rfl) ?_; dsimp only)); refine box_event ?hg (N := 12) ?hd (cs := #[.int .i64 0, .int .i64 0, .string (⟨#[]⟩ : ByteArray)]) (t := 40) ?hr ?_; (case hd => rfl); (case hg => rfl); (case hr => first | (go_simp; done) | (go_simp; rfl)); intro gb482 hg w79 hbox hb; have n0_ := kb_ (ku_ HO_5.out) hb; have n1_ := bb_ (bu_ BK477) hb; have n2_ := bs_ (be_ HB) hb; have n3_ := Aside0.mk (hbox); have n4_ := gs_ hg (be_ HB); have n5_ := gs_ hg (be_ HB); have n6_ := nl_ hg (bu_ BK477); have n7_ := ng_ hg (bu_ BK477); clear HO_5; clear BK477; clear HB; have HO_5 := n0_; have BK477 := n1_; have HB := n2_; have BK482 := n3_; have GW482 := n4_; have GE482 := n5_; have NB477_482 := n6_; have NB482_477 := n7_; clear n0_ n1_ n2_ n3_ n4_ n5_ n6_ n7_; clear hb hbox hg; have hnb80 := NB482_477.out; have hnc80 := NB477_482.out; have hcz81_0 : w79.cell? ⟨gb482, 0, none⟩ = some (.int .i64 0) := (blk_cell BK482.out 0).trans rfl; have hcz81_1 : w79.cell? ⟨gb482, 1, none⟩ = some (.int .i64 0) := (blk_cell BK482.out 1).trans rfl; have hcz81_2 : w79.cell? ⟨gb482, 2, none⟩ = some (.string (⟨#[]⟩ : ByteArray)) := (blk_cell BK482.out 2).trans rfl; have hfz81_0 := blk_frozen BK482.out 0; have hfz81_1 := blk_frozen BK482.out 1; have hfz81_2 := blk_frozen BK482.out 2) | (go_at_call 32; (with_reducible refine (constablelaw07_wakes.calls k2  t487 _ A73.out HR_.out).mono ?_); rintro e w82 ⟨rfl, hb⟩; have n0_ := Aside0.mk (Kd.R_below (ku_ (Kd.R_mono (Kd.R_far (p := ⟨gb482, 2, none⟩) (Kd.R_far (p := ⟨gb482, 1, none⟩) (Kd.R_far (p := ⟨gb482, 0, none⟩) (Kd.R_types HO_5.out BK482.out (by decide)) (fun _ hk => hk.2) (.int .i64 t478)) (fun _ hk => hk.2) (.int .i64 t479)) (fun _ hk => hk.2) (.string t480)) (fun _ h_ => h_.1))) hb); have n1_ := bb_ (bu_ BK477) hb; have n2_ := Aside0.mk (blk_below (o := .cells #[.int .i64 t478, .int .i64 t479, .string t480] 40 (0, 0)) (bp_ BK482) hb); have n3_ := bs_ (be_ HB) hb; clear HO_5; clear BK477; clear BK482; clear HB; have HO_5 := n0_; have BK477 := n1_; have BK482 := n2_; have HB := n3_; clear n0_ n1_ n2_ n3_; (try clear hb); (try clear hb2); (try clear hk); (try clear hi)))
                    go_ret
                    exact ⟨by first | rfl | (simp [errW_none, errW_some] <;> rfl) | (simp [*, errW_none, errW_some] <;> rfl), by repeat (first | (with_reducible first | exact HB.out | apply below_alloc | apply pw_below_drewN | apply below_drew1 | refine below_set ?_ GE477.out | refine below_set ?_ GE482.out) | exact HB.out)⟩
end Go.Proofs.Ytconpnagoijacaa.P
end
