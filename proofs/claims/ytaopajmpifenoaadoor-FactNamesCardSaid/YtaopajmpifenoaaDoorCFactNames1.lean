/- Part 2 of the proof of FactNames: words, contracts of functions of the program (what a call answers), and what the answers say. -/
import Derived.ChangeArms
import Derived.DataElems
import Derived.DataReads
import Derived.SizedLaws
import Derived.ChangeSlices
import Derived.RowKit
import Derived.WideShapes
import Derived.ChangeShapes
import Derived.KernelRfl
import Derived.Test.YtaopajmpifenoaaDoorRows
import Derived.LaidMore
import Derived.Stop.LaidErr
import Derived.Lib.LaidTab
import Derived.MakeChecks
import Derived.LaidLaws
import Derived.Test.YtaopajmpifenoaaDoorVWords
import Derived.Test.YtaopajmpifenoaaDoorVLast
import Derived.Test.YtaopajmpifenoaaDoorVApart
import Derived.Test.YtaopajmpifenoaaDoorVArr
import Derived.Test.YtaopajmpifenoaaDoorVFoot
import Derived.Test.YtaopajmpifenoaaDoorVKept
import Derived.Test.YtaopajmpifenoaaDoorVShare
import Derived.Test.YtaopajmpifenoaaDoorVZeros
import Derived.Test.YtaopajmpifenoaaDoorVN
import Derived.Test.YtaopajmpifenoaaDoorVFootNe
import Derived.Test.YtaopajmpifenoaaDoorVAt
import Derived.Test.YtaopajmpifenoaaDoorVEqStruct
import Derived.Test.YtaopajmpifenoaaDoorVTab
import Derived.Test.YtaopajmpifenoaaDoorVFour
import Derived.Test.YtaopajmpifenoaaDoorVGuard
import Derived.Test.YtaopajmpifenoaaDoorVInv
import Derived.Test.YtaopajmpifenoaaDoorVInvWords
import Derived.Test.YtaopajmpifenoaaDoorVQPut
import Derived.Test.YtaopajmpifenoaaDoorVNEv
import Derived.Test.YtaopajmpifenoaaDoorVMore
import Derived.Test.YtaopajmpifenoaaDoorVRepsOne
import Derived.Test.YtaopajmpifenoaaDoorVSized
import Derived.Test.YtaopajmpifenoaaDoorCFactNames0
section
namespace Go.Proofs.YtaopajmpifenoaaDoor.P
open Go.RowKit Go.Proofs.YtaopajmpifenoaaDoorW.PrintWords Go.Proofs.YtaopajmpifenoaaDoorW.PrintLast Go.Proofs.YtaopajmpifenoaaDoorW.PrintMore
attribute [local go_sem] max2_int min2_int max_two min_two max_three min_three max_four min_four
set_option linter.unusedVariables false
set_option linter.unusedSimpArgs false
def api_Fact.l0 : Nat → List (S24) → List (S24) → List (S24) → Int → Int → Option (Int)
  | 0, _, _, _, _, _ => none
  | k + 1, x0, x1, x11, x12, x13 => if x13 < x12 then (if 0 ≤ x13 then (if x13 < (x11.length : Int) then (if x13 ≥ (x1.length : Int) then (some 1) else (if x13 < (x1.length : Int) then ((fact_Compare.f k ((rd_T24 x11 x13).f0) ((rd_T24 x11 x13).f1) ((rd_T24 x1 x13).f0) ((rd_T24 x1 x13).f1)).bind fun t228 => (if t228 = 0 then (api_Fact.l0 k x0 x1 x11 x12 (wrap64 (x13 + 1))) else (some t228))) else (none))) else (none)) else (none)) else (if (x0.length : Int) < (x1.length : Int) then (some (-1)) else (some 0))
def api_Fact.f (k : Nat) (l0 : List (S24)) (l1 : List (S24))  : Option (Int) := api_Fact.l0 k l0 l1 l0 (l0.length : Int) 0
theorem api_Fact.mono_l : ∀ k, (∀ y0 y1 y2 y3 y4, LeO (api_Fact.l0 k y0 y1 y2 y3 y4) (api_Fact.l0 (k + 1) y0 y1 y2 y3 y4))
  | 0 => fun _ _ _ _ _ r h => by simp [api_Fact.l0] at h
  | k + 1 => by
    have ih0 := api_Fact.mono_l k
    · intro y0 y1 y2 y3 y4
      unfold api_Fact.l0
      repeat' first
      | (with_reducible exact ih0 _ _ _ _ _)
      | (with_reducible exact fact_Compare.mono _ _ _ _ _)
      | (with_reducible exact LeO.refl _)
      | (with_reducible exact LeO.none _)
      | (with_reducible refine LeO.ite ?_ ?_)
      | (with_reducible refine LeO.bind ?_ (fun _ => ?_))
      | exact ih0 _ _ _ _ _
      | exact fact_Compare.mono _ _ _ _ _
      | exact LeO.none _
      | refine LeO.ite ?_ ?_
      | refine LeO.bind ?_ (fun _ => ?_)
theorem api_Fact.mono : ∀ a0 a1 k, LeO (api_Fact.f k a0 a1) (api_Fact.f (k + 1) a0 a1) := by
  intro a0 a1 k
  have ih0 := api_Fact.mono_l k
  unfold api_Fact.f
  repeat' first
      | (with_reducible exact ih0 _ _ _ _ _)
      | (with_reducible exact fact_Compare.mono _ _ _ _ _)
      | (with_reducible exact LeO.refl _)
      | (with_reducible exact LeO.none _)
      | (with_reducible refine LeO.ite ?_ ?_)
      | (with_reducible refine LeO.bind ?_ (fun _ => ?_))
      | exact ih0 _ _ _ _ _
      | exact fact_Compare.mono _ _ _ _ _
      | exact LeO.none _
      | refine LeO.ite ?_ ?_
      | refine LeO.bind ?_ (fun _ => ?_)
set_option maxHeartbeats 8000000 in
set_option maxRecDepth 100000 in
theorem api_Fact.calls (k : Nat) (A0 : Option Addr) (c0 : Nat) (l0 : List (S24)) (A1 : Option Addr) (c1 : Nat) (l1 : List (S24))  (r : Int) (w : World) (hr0 : Kd.C k24 w A0 l0.length l0) (hc0 : l0.length ≤ c0) (hr1 : Kd.C k24 w A1 l1.length l1) (hc1 : l1.length ≤ c1) (h : api_Fact.f k l0 l1 = some r) :
    Calls Tryd.prog 45 #[.slice A0 l0.length c0, .slice A1 l1.length c1, .func (.func 17) #[] #[]] w fun e w' => e = .returned (.int .i64 r) ∧ Below w.heap.size w w' := by
  have hu24 := Tryd.underlying24
  have HR0 := Aside0.mk hr0
  have HC0 := Aside0.mk hc0
  clear hr0 hc0
  have HR1 := Aside0.mk hr1
  have HC1 := Aside0.mk hc1
  clear hr1 hc1
  have HB := Aside0.mk (Below.refl w.heap.size w)
  have H : (api_Fact.l0 k l0 l1 l0 (l0.length : Int) 0) = some r := h
  clear h
  have H' := Aside0.mk H
  clear H
  go_enter Tryd.func45, Tryd.ntmps45
  go_wp2
  go_loopg [13] k (fun kq v13 w' => ∃ (x13_1 : Int), v13 = .int .i64 x13_1 ∧ Aside0 (api_Fact.l0 kq l0 l1 l0 (l0.length : Int) x13_1 = some r) ∧ Aside0 (kq ≤ k) ∧ Aside0 (Below w.heap.size w w'))
  case atStart => exact ⟨(0), ra_, H', ⟨Nat.le_refl _⟩, ⟨by repeat (first | (with_reducible first | exact HB.out | apply below_alloc | apply pw_below_drewN | apply below_drew1) | exact HB.out)⟩⟩
  case round =>
    clear H'
    try clear c1
    try clear p2
    obtain ⟨x13_1, rfl, HA, HK1, HB⟩ := hrel
    cases gk with
    | zero => exact absurd HA.out (by simp [api_Fact.l0])
    | succ k1 =>
      have H := HA.out
      clear HA
      simp only [api_Fact.l0] at H
      by_cases c4 : x13_1 < (l0.length : Int)
      · rw [if_pos c4] at H
        have c4b0 : decide (x13_1 < (l0.length : Int)) = true := decide_eq_true c4
        clear c4
        by_cases c5 : 0 ≤ x13_1
        · rw [if_pos c5] at H
          have c5b0 : decide (0 ≤ x13_1) = true := decide_eq_true c5
          clear c5
          by_cases c6 : x13_1 < (l0.length : Int)
          · rw [if_pos c6] at H
            have c6b0 : decide (x13_1 < (l0.length : Int)) = true := decide_eq_true c6
            clear c6
            by_cases c7 : x13_1 ≥ (l1.length : Int)
            · rw [if_pos c7] at H
              have c7b0 : decide ((l1.length : Int) ≤ x13_1) = true := decide_eq_true c7
              clear c7
              obtain rfl := Option.some.inj H
              have p224 : 0 ≤ (x13_1 : Int) := dt_
              have q224 : x13_1 < (l0.length : Int) := dt_
              obtain ⟨ad224, A224_1, c224_1, e224, hx224_0, hx224_1, hl224_1, hi224_1⟩ := at_T24 HR0.out x13_1 p224 q224
              cases e224
              replace hx224_0 := cm_ HB hx224_0
              replace hx224_1 := cm_ HB hx224_1
              have HR224_1 := Aside0.mk hi224_1
              have HC224_1 := Aside0.mk hl224_1
              clear hi224_1 hl224_1
              replace p224 := eq_true p224
              replace q224 := eq_true q224
              go_wp2_with (first | ((with_reducible refine gate_dst (N := 8) rfl ?_); refine box_event ?hg (N := 8) ?hd (cs := #[.string (⟨#[]⟩ : ByteArray), .slice none 0 0]) (t := 24) ?hr ?_; (case hd => rfl); (case hg => rfl); (case hr => first | (go_simp; done) | (go_simp; rfl)); intro gb225 hg w8 hbox hb; have n0_ := bs_ (be_ HB) hb; have n1_ := Aside0.mk (hbox); have n2_ := gs_ hg (be_ HB); have n3_ := gs_ hg (be_ HB); clear HB; have HB := n0_; have BK225 := n1_; have GW225 := n2_; have GE225 := n3_; clear n0_ n1_ n2_ n3_; clear hb hbox hg; have hcz9_0 : w8.cell? ⟨gb225, 0, none⟩ = some (.string (⟨#[]⟩ : ByteArray)) := (blk_cell BK225.out 0).trans rfl; have hcz9_1 : w8.cell? ⟨gb225, 1, none⟩ = some (.slice none 0 0) := (blk_cell BK225.out 1).trans rfl; have hfz9_0 := blk_frozen BK225.out 0; have hfz9_1 := blk_frozen BK225.out 1))
              go_ret
              exact ⟨by first | rfl | (simp [errW_none, errW_some] <;> rfl) | (simp [*, errW_none, errW_some] <;> rfl), by repeat (first | (with_reducible first | exact HB.out | apply below_alloc | apply pw_below_drewN | apply below_drew1 | refine below_set ?_ GE225.out) | exact HB.out)⟩
            · rw [if_neg c7] at H
              have c7b0 : decide ((l1.length : Int) ≤ x13_1) = false := decide_eq_false c7
              clear c7
              by_cases c10 : x13_1 < (l1.length : Int)
              · rw [if_pos c10] at H
                have c10b0 : decide (x13_1 < (l1.length : Int)) = true := decide_eq_true c10
                clear c10
                replace H := Option.bind_eq_some_iff.mp H
                obtain ⟨t228, A110, H⟩ := H
                replace H : (if t228 = 0 then (api_Fact.l0 k1 l0 l1 l0 (l0.length : Int) (wrap64 (x13_1 + 1))) else (some t228)) = some r := H
                have A11 := Aside0.mk A110
                clear A110
                by_cases c12 : t228 = 0
                · rw [if_pos c12] at H
                  obtain ⟨c12b0, c12b1⟩ := eqB_ c12
                  clear c12
                  have H' := Aside0.mk H
                  clear H
                  have p224 : 0 ≤ (x13_1 : Int) := dt_
                  have q224 : x13_1 < (l0.length : Int) := dt_
                  obtain ⟨ad224, A224_1, c224_1, e224, hx224_0, hx224_1, hl224_1, hi224_1⟩ := at_T24 HR0.out x13_1 p224 q224
                  cases e224
                  replace hx224_0 := cm_ HB hx224_0
                  replace hx224_1 := cm_ HB hx224_1
                  have HR224_1 := Aside0.mk hi224_1
                  have HC224_1 := Aside0.mk hl224_1
                  clear hi224_1 hl224_1
                  replace p224 := eq_true p224
                  replace q224 := eq_true q224
                  go_wp2_with (first | ((with_reducible refine gate_dst (N := 8) rfl ?_); refine box_event ?hg (N := 8) ?hd (cs := #[.string (⟨#[]⟩ : ByteArray), .slice none 0 0]) (t := 24) ?hr ?_; (case hd => rfl); (case hg => rfl); (case hr => first | (go_simp; done) | (go_simp; rfl)); intro gb225 hg w13 hbox hb; have n0_ := bs_ (be_ HB) hb; have n1_ := Aside0.mk (hbox); have n2_ := gs_ hg (be_ HB); have n3_ := gs_ hg (be_ HB); clear HB; have HB := n0_; have BK225 := n1_; have GW225 := n2_; have GE225 := n3_; clear n0_ n1_ n2_ n3_; clear hb hbox hg; have hcz14_0 : w13.cell? ⟨gb225, 0, none⟩ = some (.string (⟨#[]⟩ : ByteArray)) := (blk_cell BK225.out 0).trans rfl; have hcz14_1 : w13.cell? ⟨gb225, 1, none⟩ = some (.slice none 0 0) := (blk_cell BK225.out 1).trans rfl; have hfz14_0 := blk_frozen BK225.out 0; have hfz14_1 := blk_frozen BK225.out 1; have p226 : 0 ≤ (x13_1 : Int) := dt_; have q226 : x13_1 < (l1.length : Int) := dt_; obtain ⟨ad226, A226_1, c226_1, e226, hx226_0, hx226_1, hl226_1, hi226_1⟩ := at_T24 HR1.out x13_1 p226 q226; cases e226; have hn226_0 : ad226.block ≠ gb225 := Nat.ne_of_lt (Nat.lt_of_lt_of_le (by have := World.block_lt_of_cell? _ _ hx226_0; first | rwa [add_block] at this | exact this) GW225.out); have hn226_1 : ad226.block ≠ gb225 := Nat.ne_of_lt (Nat.lt_of_lt_of_le (by have := World.block_lt_of_cell? _ _ hx226_0; first | rwa [add_block] at this | exact this) GW225.out); replace hx226_0 := cm_ HB hx226_0; replace hx226_1 := cm_ HB hx226_1; have HR226_1 := Aside0.mk hi226_1; have HC226_1 := Aside0.mk hl226_1; clear hi226_1 hl226_1; replace hx226_0 := (cell_far (p := ⟨gb225, 0, none⟩) (by first | (rw [add_block]; exact hn226_0) | (show (Addr.add _ _).block ≠ _; rw [add_block]; exact hn226_0) | exact hn226_0) (.string ((rd_T24 l0 x13_1).f0))).trans hx226_0; replace hx226_1 := (cell_far (p := ⟨gb225, 0, none⟩) (by first | (rw [add_block]; exact hn226_0) | (show (Addr.add _ _).block ≠ _; rw [add_block]; exact hn226_0) | exact hn226_0) (.string ((rd_T24 l0 x13_1).f0))).trans hx226_1; replace hx226_0 := (cell_far (p := ⟨gb225, 1, none⟩) (by first | (rw [add_block]; exact hn226_1) | (show (Addr.add _ _).block ≠ _; rw [add_block]; exact hn226_1) | exact hn226_1) (.slice A224_1 ((rd_T24 l0 x13_1).f1).length c224_1)).trans hx226_0; replace hx226_1 := (cell_far (p := ⟨gb225, 1, none⟩) (by first | (rw [add_block]; exact hn226_1) | (show (Addr.add _ _).block ≠ _; rw [add_block]; exact hn226_1) | exact hn226_1) (.slice A224_1 ((rd_T24 l0 x13_1).f1).length c224_1)).trans hx226_1; clear hn226_0; clear hn226_1; replace p226 := eq_true p226; replace q226 := eq_true q226) | ((with_reducible refine gate_dst (N := 9) rfl ?_); refine box_event ?hg (N := 9) ?hd (cs := #[.string (⟨#[]⟩ : ByteArray), .slice none 0 0]) (t := 24) ?hr ?_; (case hd => rfl); (case hg => rfl); (case hr => first | (go_simp; done) | (go_simp; rfl)); intro gb227 hg w15 hbox hb; have n0_ := Aside0.mk (blk_below (o := .cells #[.string ((rd_T24 l0 x13_1).f0), .slice A224_1 ((rd_T24 l0 x13_1).f1).length c224_1] 24 (0, 0)) (bp_ BK225) hb); have n1_ := bs_ (be_ HB) hb; have n2_ := Aside0.mk (hbox); have n3_ := gs_ hg (be_ HB); have n4_ := gs_ hg (be_ HB); have n5_ := Aside0.mk ((by rw [hg]; exact Nat.ne_of_lt (blk_lt (o := .cells #[.string ((rd_T24 l0 x13_1).f0), .slice A224_1 ((rd_T24 l0 x13_1).f1).length c224_1] 24 (0, 0)) (bp_ BK225)) : gb225 ≠ gb227)); have n6_ := Aside0.mk ((by rw [hg]; exact Nat.ne_of_gt (blk_lt (o := .cells #[.string ((rd_T24 l0 x13_1).f0), .slice A224_1 ((rd_T24 l0 x13_1).f1).length c224_1] 24 (0, 0)) (bp_ BK225)) : gb227 ≠ gb225)); clear BK225; clear HB; have BK225 := n0_; have HB := n1_; have BK227 := n2_; have GW227 := n3_; have GE227 := n4_; have NB225_227 := n5_; have NB227_225 := n6_; clear n0_ n1_ n2_ n3_ n4_ n5_ n6_; (try clear hcz14_0 hcz14_1 hfz14_0 hfz14_1); clear hb hbox hg; have hnb16 := NB227_225.out; have hnc16 := NB225_227.out; have hcz17_0 : w15.cell? ⟨gb227, 0, none⟩ = some (.string (⟨#[]⟩ : ByteArray)) := (blk_cell BK227.out 0).trans rfl; have hcz17_1 : w15.cell? ⟨gb227, 1, none⟩ = some (.slice none 0 0) := (blk_cell BK227.out 1).trans rfl; have hfz17_0 := blk_frozen BK227.out 0; have hfz17_1 := blk_frozen BK227.out 1; have hcz18_0 : w15.cell? ⟨gb225, 0, none⟩ = some (.string ((rd_T24 l0 x13_1).f0)) := (blk_cell BK225.out 0).trans rfl; have hcz18_1 : w15.cell? ⟨gb225, 1, none⟩ = some (.slice A224_1 ((rd_T24 l0 x13_1).f1).length c224_1) := (blk_cell BK225.out 1).trans rfl; have hfz18_0 := blk_frozen BK225.out 0; have hfz18_1 := blk_frozen BK225.out 1) | (go_at_call 17; (with_reducible refine (fact_Compare.calls k1 ((rd_T24 l0 x13_1).f0) _ _ ((rd_T24 l0 x13_1).f1) ((rd_T24 l1 x13_1).f0) _ _ ((rd_T24 l1 x13_1).f1) t228 _ ?side1 ?side2 ?side3 ?side4 A11.out).mono ?_); (case side1 => exact Kd.C_below HR224_1.out (be_ HB)); (case side2 => exact HC224_1.out); (case side3 => exact Kd.C_below HR226_1.out (be_ HB)); (case side4 => exact HC226_1.out); rintro e w19 ⟨rfl, hb⟩; have n0_ := bb_ (bu_ BK225) hb; have n1_ := Aside0.mk (blk_below (o := .cells #[.string ((rd_T24 l1 x13_1).f0), .slice A226_1 ((rd_T24 l1 x13_1).f1).length c226_1] 24 (0, 0)) (bp_ BK227) hb); have n2_ := bs_ (be_ HB) hb; clear BK225; clear BK227; clear HB; have BK225 := n0_; have BK227 := n1_; have HB := n2_; clear n0_ n1_ n2_; (try clear hcz17_0 hcz17_1 hfz17_0 hfz17_1 hcz18_0 hcz18_1 hfz18_0 hfz18_1); (try clear hb); (try clear hb2); (try clear hk); (try clear hi)))
                  go_roundg k1
                  case measure => have := HK1.out; omega
                  case rel => exact ⟨(wrap64 (x13_1 + 1)), ra_, H', ⟨by have := HK1.out; omega⟩, ⟨by repeat (first | (with_reducible first | exact HB.out | apply below_alloc | apply pw_below_drewN | apply below_drew1 | refine below_set ?_ GE225.out | refine below_set ?_ GE227.out) | exact HB.out)⟩⟩
                · rw [if_neg c12] at H
                  obtain ⟨c12b0, c12b1⟩ := neB_ c12
                  obtain rfl := Option.some.inj H
                  have p224 : 0 ≤ (x13_1 : Int) := dt_
                  have q224 : x13_1 < (l0.length : Int) := dt_
                  obtain ⟨ad224, A224_1, c224_1, e224, hx224_0, hx224_1, hl224_1, hi224_1⟩ := at_T24 HR0.out x13_1 p224 q224
                  cases e224
                  replace hx224_0 := cm_ HB hx224_0
                  replace hx224_1 := cm_ HB hx224_1
                  have HR224_1 := Aside0.mk hi224_1
                  have HC224_1 := Aside0.mk hl224_1
                  clear hi224_1 hl224_1
                  replace p224 := eq_true p224
                  replace q224 := eq_true q224
                  go_wp2_with (first | ((with_reducible refine gate_dst (N := 8) rfl ?_); refine box_event ?hg (N := 8) ?hd (cs := #[.string (⟨#[]⟩ : ByteArray), .slice none 0 0]) (t := 24) ?hr ?_; (case hd => rfl); (case hg => rfl); (case hr => first | (go_simp; done) | (go_simp; rfl)); intro gb225 hg w20 hbox hb; have n0_ := bs_ (be_ HB) hb; have n1_ := Aside0.mk (hbox); have n2_ := gs_ hg (be_ HB); have n3_ := gs_ hg (be_ HB); clear HB; have HB := n0_; have BK225 := n1_; have GW225 := n2_; have GE225 := n3_; clear n0_ n1_ n2_ n3_; clear hb hbox hg; have hcz21_0 : w20.cell? ⟨gb225, 0, none⟩ = some (.string (⟨#[]⟩ : ByteArray)) := (blk_cell BK225.out 0).trans rfl; have hcz21_1 : w20.cell? ⟨gb225, 1, none⟩ = some (.slice none 0 0) := (blk_cell BK225.out 1).trans rfl; have hfz21_0 := blk_frozen BK225.out 0; have hfz21_1 := blk_frozen BK225.out 1; have p226 : 0 ≤ (x13_1 : Int) := dt_; have q226 : x13_1 < (l1.length : Int) := dt_; obtain ⟨ad226, A226_1, c226_1, e226, hx226_0, hx226_1, hl226_1, hi226_1⟩ := at_T24 HR1.out x13_1 p226 q226; cases e226; have hn226_0 : ad226.block ≠ gb225 := Nat.ne_of_lt (Nat.lt_of_lt_of_le (by have := World.block_lt_of_cell? _ _ hx226_0; first | rwa [add_block] at this | exact this) GW225.out); have hn226_1 : ad226.block ≠ gb225 := Nat.ne_of_lt (Nat.lt_of_lt_of_le (by have := World.block_lt_of_cell? _ _ hx226_0; first | rwa [add_block] at this | exact this) GW225.out); replace hx226_0 := cm_ HB hx226_0; replace hx226_1 := cm_ HB hx226_1; have HR226_1 := Aside0.mk hi226_1; have HC226_1 := Aside0.mk hl226_1; clear hi226_1 hl226_1; replace hx226_0 := (cell_far (p := ⟨gb225, 0, none⟩) (by first | (rw [add_block]; exact hn226_0) | (show (Addr.add _ _).block ≠ _; rw [add_block]; exact hn226_0) | exact hn226_0) (.string ((rd_T24 l0 x13_1).f0))).trans hx226_0; replace hx226_1 := (cell_far (p := ⟨gb225, 0, none⟩) (by first | (rw [add_block]; exact hn226_0) | (show (Addr.add _ _).block ≠ _; rw [add_block]; exact hn226_0) | exact hn226_0) (.string ((rd_T24 l0 x13_1).f0))).trans hx226_1; replace hx226_0 := (cell_far (p := ⟨gb225, 1, none⟩) (by first | (rw [add_block]; exact hn226_1) | (show (Addr.add _ _).block ≠ _; rw [add_block]; exact hn226_1) | exact hn226_1) (.slice A224_1 ((rd_T24 l0 x13_1).f1).length c224_1)).trans hx226_0; replace hx226_1 := (cell_far (p := ⟨gb225, 1, none⟩) (by first | (rw [add_block]; exact hn226_1) | (show (Addr.add _ _).block ≠ _; rw [add_block]; exact hn226_1) | exact hn226_1) (.slice A224_1 ((rd_T24 l0 x13_1).f1).length c224_1)).trans hx226_1; clear hn226_0; clear hn226_1; replace p226 := eq_true p226; replace q226 := eq_true q226) | ((with_reducible refine gate_dst (N := 9) rfl ?_); refine box_event ?hg (N := 9) ?hd (cs := #[.string (⟨#[]⟩ : ByteArray), .slice none 0 0]) (t := 24) ?hr ?_; (case hd => rfl); (case hg => rfl); (case hr => first | (go_simp; done) | (go_simp; rfl)); intro gb227 hg w22 hbox hb; have n0_ := Aside0.mk (blk_below (o := .cells #[.string ((rd_T24 l0 x13_1).f0), .slice A224_1 ((rd_T24 l0 x13_1).f1).length c224_1] 24 (0, 0)) (bp_ BK225) hb); have n1_ := bs_ (be_ HB) hb; have n2_ := Aside0.mk (hbox); have n3_ := gs_ hg (be_ HB); have n4_ := gs_ hg (be_ HB); have n5_ := Aside0.mk ((by rw [hg]; exact Nat.ne_of_lt (blk_lt (o := .cells #[.string ((rd_T24 l0 x13_1).f0), .slice A224_1 ((rd_T24 l0 x13_1).f1).length c224_1] 24 (0, 0)) (bp_ BK225)) : gb225 ≠ gb227)); have n6_ := Aside0.mk ((by rw [hg]; exact Nat.ne_of_gt (blk_lt (o := .cells #[.string ((rd_T24 l0 x13_1).f0), .slice A224_1 ((rd_T24 l0 x13_1).f1).length c224_1] 24 (0, 0)) (bp_ BK225)) : gb227 ≠ gb225)); clear BK225; clear HB; have BK225 := n0_; have HB := n1_; have BK227 := n2_; have GW227 := n3_; have GE227 := n4_; have NB225_227 := n5_; have NB227_225 := n6_; clear n0_ n1_ n2_ n3_ n4_ n5_ n6_; (try clear hcz21_0 hcz21_1 hfz21_0 hfz21_1); clear hb hbox hg; have hnb23 := NB227_225.out; have hnc23 := NB225_227.out; have hcz24_0 : w22.cell? ⟨gb227, 0, none⟩ = some (.string (⟨#[]⟩ : ByteArray)) := (blk_cell BK227.out 0).trans rfl; have hcz24_1 : w22.cell? ⟨gb227, 1, none⟩ = some (.slice none 0 0) := (blk_cell BK227.out 1).trans rfl; have hfz24_0 := blk_frozen BK227.out 0; have hfz24_1 := blk_frozen BK227.out 1; have hcz25_0 : w22.cell? ⟨gb225, 0, none⟩ = some (.string ((rd_T24 l0 x13_1).f0)) := (blk_cell BK225.out 0).trans rfl; have hcz25_1 : w22.cell? ⟨gb225, 1, none⟩ = some (.slice A224_1 ((rd_T24 l0 x13_1).f1).length c224_1) := (blk_cell BK225.out 1).trans rfl; have hfz25_0 := blk_frozen BK225.out 0; have hfz25_1 := blk_frozen BK225.out 1) | (go_at_call 17; (with_reducible refine (fact_Compare.calls k1 ((rd_T24 l0 x13_1).f0) _ _ ((rd_T24 l0 x13_1).f1) ((rd_T24 l1 x13_1).f0) _ _ ((rd_T24 l1 x13_1).f1) t228 _ ?side1 ?side2 ?side3 ?side4 A11.out).mono ?_); (case side1 => exact Kd.C_below HR224_1.out (be_ HB)); (case side2 => exact HC224_1.out); (case side3 => exact Kd.C_below HR226_1.out (be_ HB)); (case side4 => exact HC226_1.out); rintro e w26 ⟨rfl, hb⟩; have n0_ := bb_ (bu_ BK225) hb; have n1_ := Aside0.mk (blk_below (o := .cells #[.string ((rd_T24 l1 x13_1).f0), .slice A226_1 ((rd_T24 l1 x13_1).f1).length c226_1] 24 (0, 0)) (bp_ BK227) hb); have n2_ := bs_ (be_ HB) hb; clear BK225; clear BK227; clear HB; have BK225 := n0_; have BK227 := n1_; have HB := n2_; clear n0_ n1_ n2_; (try clear hcz24_0 hcz24_1 hfz24_0 hfz24_1 hcz25_0 hcz25_1 hfz25_0 hfz25_1); (try clear hb); (try clear hb2); (try clear hk); (try clear hi)))
                  go_ret
                  exact ⟨by first | rfl | (simp [errW_none, errW_some] <;> rfl) | (simp [*, errW_none, errW_some] <;> rfl), by repeat (first | (with_reducible first | exact HB.out | apply below_alloc | apply pw_below_drewN | apply below_drew1 | refine below_set ?_ GE225.out | refine below_set ?_ GE227.out) | exact HB.out)⟩
              · rw [if_neg c10] at H
                exact absurd H (by simp)
          · rw [if_neg c6] at H
            exact absurd H (by simp)
        · rw [if_neg c5] at H
          exact absurd H (by simp)
      · rw [if_neg c4] at H
        have c4b0 : decide (x13_1 < (l0.length : Int)) = false := decide_eq_false c4
        clear c4
        by_cases c27 : (l0.length : Int) < (l1.length : Int)
        · rw [if_pos c27] at H
          have c27b0 : decide ((l0.length : Int) < (l1.length : Int)) = true := decide_eq_true c27
          have c27b1 : decide (l0.length < l1.length) = true := decide_eq_true (Int.ofNat_lt.mp c27)
          clear c27
          obtain rfl := Option.some.inj H
          go_wp2
          go_ret
          exact ⟨by first | rfl | (simp [errW_none, errW_some] <;> rfl) | (simp [*, errW_none, errW_some] <;> rfl), by repeat (first | (with_reducible first | exact HB.out | apply below_alloc | apply pw_below_drewN | apply below_drew1) | exact HB.out)⟩
        · rw [if_neg c27] at H
          have c27b0 : decide ((l0.length : Int) < (l1.length : Int)) = false := decide_eq_false c27
          have c27b1 : decide (l0.length < l1.length) = false := decide_eq_false (fun h => c27 (Int.ofNat_lt.mpr h))
          clear c27
          obtain rfl := Option.some.inj H
          go_wp2
          go_ret
          exact ⟨by first | rfl | (simp [errW_none, errW_some] <;> rfl) | (simp [*, errW_none, errW_some] <;> rfl), by repeat (first | (with_reducible first | exact HB.out | apply below_alloc | apply pw_below_drewN | apply below_drew1) | exact HB.out)⟩
end Go.Proofs.YtaopajmpifenoaaDoor.P
end
section
namespace Go.Proofs.YtaopajmpifenoaaDoor.P
open Go.RowKit Go.Proofs.YtaopajmpifenoaaDoorW.PrintWords Go.Proofs.YtaopajmpifenoaaDoorW.PrintLast Go.Proofs.YtaopajmpifenoaaDoorW.PrintMore
attribute [local go_sem] max2_int min2_int max_two min_two max_three min_three max_four min_four
set_option linter.unusedVariables false
set_option linter.unusedSimpArgs false
def fact_Lists.f (k : Nat) (l0 : List (S24)) (l1 : List (S24)) : Option (Int) := (api_Fact.f k l0 l1).bind fun t229 => (some t229)
theorem fact_Lists.mono : ∀ a0 a1 k, LeO (fact_Lists.f k a0 a1) (fact_Lists.f (k + 1) a0 a1) := by
  intro a0 a1 k
  unfold fact_Lists.f
  repeat' first
      | (with_reducible exact api_Fact.mono _ _ _)
      | (with_reducible exact LeO.refl _)
      | (with_reducible exact LeO.none _)
      | (with_reducible refine LeO.ite ?_ ?_)
      | (with_reducible refine LeO.bind ?_ (fun _ => ?_))
      | exact api_Fact.mono _ _ _
      | exact LeO.none _
      | refine LeO.ite ?_ ?_
      | refine LeO.bind ?_ (fun _ => ?_)
set_option maxHeartbeats 8000000 in
set_option maxRecDepth 100000 in
theorem fact_Lists.calls (k : Nat) (A0 : Option Addr) (c0 : Nat) (l0 : List (S24)) (A1 : Option Addr) (c1 : Nat) (l1 : List (S24)) (r : Int) (w : World) (hr0 : Kd.C k24 w A0 l0.length l0) (hc0 : l0.length ≤ c0) (hr1 : Kd.C k24 w A1 l1.length l1) (hc1 : l1.length ≤ c1) (h : fact_Lists.f k l0 l1 = some r) :
    Calls Tryd.prog 19 #[.slice A0 l0.length c0, .slice A1 l1.length c1] w fun e w' => e = .returned (.int .i64 r) ∧ Below w.heap.size w w' := by
  have HR0 := Aside0.mk hr0
  have HC0 := Aside0.mk hc0
  clear hr0 hc0
  have HR1 := Aside0.mk hr1
  have HC1 := Aside0.mk hc1
  clear hr1 hc1
  have HB := Aside0.mk (Below.refl w.heap.size w)
  have H : ((api_Fact.f k l0 l1).bind fun t229 => (some t229)) = some r := h
  clear h
  replace H := Option.bind_eq_some_iff.mp H
  obtain ⟨t229, A30, H⟩ := H
  replace H : (some t229) = some r := H
  have A3 := Aside0.mk A30
  clear A30
  obtain rfl := Option.some.inj H
  go_enter Tryd.func19, Tryd.ntmps19
  go_wp2_with (first | ((with_reducible refine gate_callee (f := 45) rfl ?_); refine goesL_ (some 7) rfl rfl Tryd.func45 (by kernel_rfl) rfl #[.slice A0 l0.length c0, .slice A1 l1.length c1, .func (.func 17) #[] #[]] rfl ga_ ?_; (with_reducible refine (api_Fact.calls k _ _ l0 _ _ l1  t229 _ ?side1 ?side2 ?side3 ?side4 A3.out).mono ?_); (case side1 => repeat (first | exact HR0.out | (with_reducible refine Kd.C_alloc ?_ _) | (with_reducible refine Kd.C_drewN ?_ _) | (with_reducible refine Kd.C_drew ?_))); (case side2 => exact HC0.out); (case side3 => repeat (first | exact HR1.out | (with_reducible refine Kd.C_alloc ?_ _) | (with_reducible refine Kd.C_drewN ?_ _) | (with_reducible refine Kd.C_drew ?_))); (case side4 => exact HC1.out); rintro e w4 ⟨rfl, hb⟩; refine ⟨_, rfl, ?_⟩; have n0_ := bs_ (be_ HB) hb; clear HB; have HB := n0_; clear n0_; (try clear hb); (try clear hb2); (try clear hk); (try clear hi)))
  go_ret
  exact ⟨by first | rfl | (simp [errW_none, errW_some] <;> rfl) | (simp [*, errW_none, errW_some] <;> rfl), by repeat (first | (with_reducible first | exact HB.out | apply below_alloc | apply pw_below_drewN | apply below_drew1) | exact HB.out)⟩
end Go.Proofs.YtaopajmpifenoaaDoor.P
end
section
namespace Go.Proofs.YtaopajmpifenoaaDoor.P
open Go.RowKit Go.Proofs.YtaopajmpifenoaaDoorW.PrintWords Go.Proofs.YtaopajmpifenoaaDoorW.PrintLast Go.Proofs.YtaopajmpifenoaaDoorW.PrintMore
attribute [local go_sem] max2_int min2_int max_two min_two max_three min_three max_four min_four
set_option linter.unusedVariables false
set_option linter.unusedSimpArgs false
def constablelaw03_wakes.f (k : Nat)  : Option (Bool) := (fact_Text.f k (⟨#[112]⟩ : ByteArray) (([(⟨1, 1, (⟨#[]⟩ : ByteArray)⟩ : S44), (⟨2, 0, (⟨#[97]⟩ : ByteArray)⟩ : S44)] : List (S44)))).bind fun bt249 => (if bt249.2 = 0 then (if bt249.1.toList = ([112, 40, 49, 44, 32, 97, 41] : List UInt8) then ((fact_Name.f k (⟨#[110, 111, 116]⟩ : ByteArray)).bind fun t251 => (if t251 = true then (some false) else ((fact_Name.f k (⟨#[112]⟩ : ByteArray)).bind fun t252 => (if t252 = true then ((fact_Compare.f k (⟨#[97]⟩ : ByteArray) ([] : List (S44)) (⟨#[98]⟩ : ByteArray) ([] : List (S44))).bind fun t253 => (if t253 = (-1) then ((fact_Lists.f k ([] : List (S24)) (([(⟨(⟨#[]⟩ : ByteArray), ([] : List (S44))⟩ : S24)] : List (S24)))).bind fun t257 => (if t257 = (-1) then ((fact_Check.f k (⟨#[]⟩ : ByteArray) ([] : List (S44))).bind fun t258 => (some (t258 == 1))) else (some false))) else (some false))) else (some false))))) else (some false)) else (some false))
theorem constablelaw03_wakes.mono : ∀ k, LeO (constablelaw03_wakes.f k ) (constablelaw03_wakes.f (k + 1) ) := by
  intro  k
  unfold constablelaw03_wakes.f
  repeat' first
      | (with_reducible exact fact_Check.mono _ _ _)
      | (with_reducible exact fact_Compare.mono _ _ _ _ _)
      | (with_reducible exact fact_Lists.mono _ _ _)
      | (with_reducible exact fact_Name.mono _ _)
      | (with_reducible exact fact_Text.mono _ _ _)
      | (with_reducible exact LeO.refl _)
      | (with_reducible exact LeO.none _)
      | (with_reducible refine LeO.ite ?_ ?_)
      | (with_reducible refine LeO.bind ?_ (fun _ => ?_))
      | exact fact_Check.mono _ _ _
      | exact fact_Compare.mono _ _ _ _ _
      | exact fact_Lists.mono _ _ _
      | exact fact_Name.mono _ _
      | exact fact_Text.mono _ _ _
      | exact LeO.none _
      | refine LeO.ite ?_ ?_
      | refine LeO.bind ?_ (fun _ => ?_)
set_option maxHeartbeats 8000000 in
set_option maxRecDepth 100000 in
theorem constablelaw03_wakes.calls (k : Nat)  (r : Bool) (w : World) (h : constablelaw03_wakes.f k  = some r) (hr_ : r = true) (hl_ : LaidT w) :
    Calls Tryd.prog 24 #[] w fun e w' => e = .returned (.bool r) ∧ Below w.heap.size w w' := by
  have hu44 := Tryd.underlying44
  have hu24 := Tryd.underlying24
  have HB := Aside0.mk (Below.refl w.heap.size w)
  have H : ((fact_Text.f k (⟨#[112]⟩ : ByteArray) (([(⟨1, 1, (⟨#[]⟩ : ByteArray)⟩ : S44), (⟨2, 0, (⟨#[97]⟩ : ByteArray)⟩ : S44)] : List (S44)))).bind fun bt249 => (if bt249.2 = 0 then (if bt249.1.toList = ([112, 40, 49, 44, 32, 97, 41] : List UInt8) then ((fact_Name.f k (⟨#[110, 111, 116]⟩ : ByteArray)).bind fun t251 => (if t251 = true then (some false) else ((fact_Name.f k (⟨#[112]⟩ : ByteArray)).bind fun t252 => (if t252 = true then ((fact_Compare.f k (⟨#[97]⟩ : ByteArray) ([] : List (S44)) (⟨#[98]⟩ : ByteArray) ([] : List (S44))).bind fun t253 => (if t253 = (-1) then ((fact_Lists.f k ([] : List (S24)) (([(⟨(⟨#[]⟩ : ByteArray), ([] : List (S44))⟩ : S24)] : List (S24)))).bind fun t257 => (if t257 = (-1) then ((fact_Check.f k (⟨#[]⟩ : ByteArray) ([] : List (S44))).bind fun t258 => (some (t258 == 1))) else (some false))) else (some false))) else (some false))))) else (some false)) else (some false))) = some r := h
  clear h
  have HL_ := Aside0.mk hl_
  clear hl_
  have HR_ := Aside0.mk hr_
  clear hr_
  obtain ⟨y246, hy246⟩ : ∃ y_ : List (S44), y_ = (([(⟨1, 1, (⟨#[]⟩ : ByteArray)⟩ : S44), (⟨2, 0, (⟨#[97]⟩ : ByteArray)⟩ : S44)] : List (S44))) := ⟨_, rfl⟩
  replace H : ((fact_Text.f k (⟨#[112]⟩ : ByteArray) y246).bind fun bt249 => (if bt249.2 = 0 then (if bt249.1.toList = ([112, 40, 49, 44, 32, 97, 41] : List UInt8) then ((fact_Name.f k (⟨#[110, 111, 116]⟩ : ByteArray)).bind fun t251 => (if t251 = true then (some false) else ((fact_Name.f k (⟨#[112]⟩ : ByteArray)).bind fun t252 => (if t252 = true then ((fact_Compare.f k (⟨#[97]⟩ : ByteArray) ([] : List (S44)) (⟨#[98]⟩ : ByteArray) ([] : List (S44))).bind fun t253 => (if t253 = (-1) then ((fact_Lists.f k ([] : List (S24)) (([(⟨(⟨#[]⟩ : ByteArray), ([] : List (S44))⟩ : S24)] : List (S24)))).bind fun t257 => (if t257 = (-1) then ((fact_Check.f k (⟨#[]⟩ : ByteArray) ([] : List (S44))).bind fun t258 => (some (t258 == 1))) else (some false))) else (some false))) else (some false))))) else (some false)) else (some false))) = some r := by first | (rw [hy246]; with_reducible exact H) | (have H2_ := (Option.bind_some _ _).symm.trans H; rw [hy246]; with_reducible exact H2_) | (have H2_ := (Option.bind_some _ _).symm.trans H; with_reducible exact H2_) | with_reducible exact H | (rw [hy246]; exact H) | exact H
  have Ny246 := Aside0.mk hy246
  clear hy246
  replace H := Option.bind_eq_some_iff.mp H
  obtain ⟨⟨t249, t250⟩, A10, H⟩ := H
  replace H : (if t250 = 0 then (if t249.toList = ([112, 40, 49, 44, 32, 97, 41] : List UInt8) then ((fact_Name.f k (⟨#[110, 111, 116]⟩ : ByteArray)).bind fun t251 => (if t251 = true then (some false) else ((fact_Name.f k (⟨#[112]⟩ : ByteArray)).bind fun t252 => (if t252 = true then ((fact_Compare.f k (⟨#[97]⟩ : ByteArray) ([] : List (S44)) (⟨#[98]⟩ : ByteArray) ([] : List (S44))).bind fun t253 => (if t253 = (-1) then ((fact_Lists.f k ([] : List (S24)) (([(⟨(⟨#[]⟩ : ByteArray), ([] : List (S44))⟩ : S24)] : List (S24)))).bind fun t257 => (if t257 = (-1) then ((fact_Check.f k (⟨#[]⟩ : ByteArray) ([] : List (S44))).bind fun t258 => (some (t258 == 1))) else (some false))) else (some false))) else (some false))))) else (some false)) else (some false)) = some r := H
  have A1 := Aside0.mk A10
  clear A10
  by_cases c2 : t250 = 0
  · rw [if_pos c2] at H
    obtain ⟨c2b0, c2b1⟩ := eqB_ c2
    clear c2
    by_cases c3 : t249.toList = ([112, 40, 49, 44, 32, 97, 41] : List UInt8)
    · rw [if_pos c3] at H
      obtain ⟨c3b0, c3b1⟩ := eqB_ c3
      clear c3
      replace H := Option.bind_eq_some_iff.mp H
      obtain ⟨t251, A40, H⟩ := H
      replace H : (if t251 = true then (some false) else ((fact_Name.f k (⟨#[112]⟩ : ByteArray)).bind fun t252 => (if t252 = true then ((fact_Compare.f k (⟨#[97]⟩ : ByteArray) ([] : List (S44)) (⟨#[98]⟩ : ByteArray) ([] : List (S44))).bind fun t253 => (if t253 = (-1) then ((fact_Lists.f k ([] : List (S24)) (([(⟨(⟨#[]⟩ : ByteArray), ([] : List (S44))⟩ : S24)] : List (S24)))).bind fun t257 => (if t257 = (-1) then ((fact_Check.f k (⟨#[]⟩ : ByteArray) ([] : List (S44))).bind fun t258 => (some (t258 == 1))) else (some false))) else (some false))) else (some false)))) = some r := H
      have A4 := Aside0.mk A40
      clear A40
      by_cases c5 : t251 = true
      · subst c5
        have H1 : (some false) = some r := by rw [if_pos rfl] at H; exact H
        clear H
        have H := H1
        clear H1
        exact absurd ((Option.some.inj H).trans HR_.out) (by decide)
      · replace c5 := Bool.eq_false_iff.mpr c5
        subst c5
        have H1 : ((fact_Name.f k (⟨#[112]⟩ : ByteArray)).bind fun t252 => (if t252 = true then ((fact_Compare.f k (⟨#[97]⟩ : ByteArray) ([] : List (S44)) (⟨#[98]⟩ : ByteArray) ([] : List (S44))).bind fun t253 => (if t253 = (-1) then ((fact_Lists.f k ([] : List (S24)) (([(⟨(⟨#[]⟩ : ByteArray), ([] : List (S44))⟩ : S24)] : List (S24)))).bind fun t257 => (if t257 = (-1) then ((fact_Check.f k (⟨#[]⟩ : ByteArray) ([] : List (S44))).bind fun t258 => (some (t258 == 1))) else (some false))) else (some false))) else (some false))) = some r := by rw [if_neg (show ¬ (false = true) by decide)] at H; exact H
        clear H
        have H := H1
        clear H1
        replace H := Option.bind_eq_some_iff.mp H
        obtain ⟨t252, A60, H⟩ := H
        replace H : (if t252 = true then ((fact_Compare.f k (⟨#[97]⟩ : ByteArray) ([] : List (S44)) (⟨#[98]⟩ : ByteArray) ([] : List (S44))).bind fun t253 => (if t253 = (-1) then ((fact_Lists.f k ([] : List (S24)) (([(⟨(⟨#[]⟩ : ByteArray), ([] : List (S44))⟩ : S24)] : List (S24)))).bind fun t257 => (if t257 = (-1) then ((fact_Check.f k (⟨#[]⟩ : ByteArray) ([] : List (S44))).bind fun t258 => (some (t258 == 1))) else (some false))) else (some false))) else (some false)) = some r := H
        have A6 := Aside0.mk A60
        clear A60
        by_cases c7 : t252 = true
        · subst c7
          have H1 : ((fact_Compare.f k (⟨#[97]⟩ : ByteArray) ([] : List (S44)) (⟨#[98]⟩ : ByteArray) ([] : List (S44))).bind fun t253 => (if t253 = (-1) then ((fact_Lists.f k ([] : List (S24)) (([(⟨(⟨#[]⟩ : ByteArray), ([] : List (S44))⟩ : S24)] : List (S24)))).bind fun t257 => (if t257 = (-1) then ((fact_Check.f k (⟨#[]⟩ : ByteArray) ([] : List (S44))).bind fun t258 => (some (t258 == 1))) else (some false))) else (some false))) = some r := by rw [if_pos rfl] at H; exact H
          clear H
          have H := H1
          clear H1
          replace H := Option.bind_eq_some_iff.mp H
          obtain ⟨t253, A80, H⟩ := H
          replace H : (if t253 = (-1) then ((fact_Lists.f k ([] : List (S24)) (([(⟨(⟨#[]⟩ : ByteArray), ([] : List (S44))⟩ : S24)] : List (S24)))).bind fun t257 => (if t257 = (-1) then ((fact_Check.f k (⟨#[]⟩ : ByteArray) ([] : List (S44))).bind fun t258 => (some (t258 == 1))) else (some false))) else (some false)) = some r := H
          have A8 := Aside0.mk A80
          clear A80
          by_cases c9 : t253 = (-1)
          · rw [if_pos c9] at H
            obtain ⟨c9b0, c9b1⟩ := eqB_ c9
            clear c9
            obtain ⟨y254, hy254⟩ : ∃ y_ : List (S24), y_ = (([(⟨(⟨#[]⟩ : ByteArray), ([] : List (S44))⟩ : S24)] : List (S24))) := ⟨_, rfl⟩
            replace H : ((fact_Lists.f k ([] : List (S24)) y254).bind fun t257 => (if t257 = (-1) then ((fact_Check.f k (⟨#[]⟩ : ByteArray) ([] : List (S44))).bind fun t258 => (some (t258 == 1))) else (some false))) = some r := by first | (rw [hy254]; with_reducible exact H) | (have H2_ := (Option.bind_some _ _).symm.trans H; rw [hy254]; with_reducible exact H2_) | (have H2_ := (Option.bind_some _ _).symm.trans H; with_reducible exact H2_) | with_reducible exact H | (rw [hy254]; exact H) | exact H
            have Ny254 := Aside0.mk hy254
            clear hy254
            replace H := Option.bind_eq_some_iff.mp H
            obtain ⟨t257, A100, H⟩ := H
            replace H : (if t257 = (-1) then ((fact_Check.f k (⟨#[]⟩ : ByteArray) ([] : List (S44))).bind fun t258 => (some (t258 == 1))) else (some false)) = some r := H
            have A10 := Aside0.mk A100
            clear A100
            by_cases c11 : t257 = (-1)
            · rw [if_pos c11] at H
              obtain ⟨c11b0, c11b1⟩ := eqB_ c11
              clear c11
              replace H := Option.bind_eq_some_iff.mp H
              obtain ⟨t258, A120, H⟩ := H
              replace H : (some (t258 == 1)) = some r := H
              have A12 := Aside0.mk A120
              clear A120
              obtain rfl := Option.some.inj H
              go_enter Tryd.func24, Tryd.ntmps24
              go_wp2_with (first | ((with_reducible refine gate_dst (N := 6) rfl ?_); (try (refine gate_guard (by rfl) ?_; dsimp only)); refine Kd.R_lit k44 _ 44 ?hg (N := 6) ?hd (xs := ([(⟨1, 1, (⟨#[]⟩ : ByteArray)⟩ : S44), (⟨2, 0, (⟨#[97]⟩ : ByteArray)⟩ : S44)] : List (S44))) (inner := [.int .i64 1, .int .i64 1, .string (⟨#[]⟩ : ByteArray), .int .i64 2, .int .i64 0, .string (⟨#[97]⟩ : ByteArray)]) (ok := fun _ => True) (okp := fun _ => True) ?hr ?hp (fun _ hk => hk) trivial (Below.refl _ _) (Nat.le_refl _) (by simp) ?_; (case hd => rfl); (case hg => rfl); (case hr => first | (go_simp; done) | (go_simp; rfl)); (case hp => exact (Reps.c3 (show Kd.M k44 _ _ _ (⟨1, 1, (⟨#[]⟩ : ByteArray)⟩ : S44) [.int .i64 1, .int .i64 1, .string (⟨#[]⟩ : ByteArray)] from (k44_mkM _ _ _ (⟨1, 1, (⟨#[]⟩ : ByteArray)⟩ : S44) )) (Reps.c3 (show Kd.M k44 _ _ _ (⟨2, 0, (⟨#[97]⟩ : ByteArray)⟩ : S44) [.int .i64 2, .int .i64 0, .string (⟨#[97]⟩ : ByteArray)] from (k44_mkM _ _ _ (⟨2, 0, (⟨#[97]⟩ : ByteArray)⟩ : S44) )) (Reps.none _ _)))); intro v247 w13 ho14 hb hg_ hnew_; clear hg_ hnew_; (first | rw [← Ny246.out] at ho14 | (simp only [Int.reduceToNat] at ho14; rw [← Ny246.out] at ho14)); have n0_ := Aside0.mk (Kd.R_lower ho14 (below_size (be_ HB))); have n1_ := bs_ (be_ HB) hb; clear HB; have HO248 := n0_; have HB := n1_; clear n0_ n1_; clear hb ho14; obtain ⟨Ao15, co15, eo15⟩ := Kd.R_slice HO248.out; subst eo15) | ((with_reducible refine gate_callee (f := 14) rfl ?_); refine goesL_ (some 8) rfl rfl Tryd.func14 (by kernel_rfl) rfl #[.agg #[.string (⟨#[112]⟩ : ByteArray), .slice Ao15 y246.length co15]] rfl ga_ ?_; (with_reducible refine (fact_Text.calls k (⟨#[112]⟩ : ByteArray) _ _ y246 t249 t250 _ ?side1 ?side2 A1.out (tt_ HL_ (be_ HB))).mono ?_); (case side1 => repeat (first | exact (Kd.R_reads' HO248.out).2.2 | (with_reducible refine Kd.C_alloc ?_ _) | (with_reducible refine Kd.C_drewN ?_ _) | (with_reducible refine Kd.C_drew ?_))); (case side2 => exact (Kd.R_reads' HO248.out).2.1); rintro e w16 ⟨rfl, hb⟩; refine ⟨_, rfl, ?_⟩; have n0_ := kb_ (ku_ HO248.out) hb; have n1_ := bs_ (be_ HB) hb; clear HO248; clear HB; have HO248 := n0_; have HB := n1_; clear n0_ n1_; (try clear hb); (try clear hb2); (try clear hk); (try clear hi)) | (go_at_call 15; (with_reducible refine (fact_Name.calls k (⟨#[110, 111, 116]⟩ : ByteArray) false _ A4.out).mono ?_); rintro e w17 ⟨rfl, hb⟩; have n0_ := kb_ (ku_ HO248.out) hb; have n1_ := bs_ (be_ HB) hb; clear HO248; clear HB; have HO248 := n0_; have HB := n1_; clear n0_ n1_; (try clear hb); (try clear hb2); (try clear hk); (try clear hi)) | (go_at_call 15; (with_reducible refine (fact_Name.calls k (⟨#[112]⟩ : ByteArray) true _ A6.out).mono ?_); rintro e w18 ⟨rfl, hb⟩; have n0_ := kb_ (ku_ HO248.out) hb; have n1_ := bs_ (be_ HB) hb; clear HO248; clear HB; have HO248 := n0_; have HB := n1_; clear n0_ n1_; (try clear hb); (try clear hb2); (try clear hk); (try clear hi)) | (go_at_call 17; (refine (fact_Compare.calls k (⟨#[97]⟩ : ByteArray) none 0 ([] : List (S44)) (⟨#[98]⟩ : ByteArray) none 0 ([] : List (S44)) t253 _ ?side1 ?side2 ?side3 ?side4 A8.out).mono ?_); (case side1 => exact Kd.C_nil _ _); (case side2 => exact Nat.le_refl _); (case side3 => exact Kd.C_nil _ _); (case side4 => exact Nat.le_refl _); rintro e w19 ⟨rfl, hb⟩; have n0_ := kb_ (ku_ HO248.out) hb; have n1_ := bs_ (be_ HB) hb; clear HO248; clear HB; have HO248 := n0_; have HB := n1_; clear n0_ n1_; (try clear hb); (try clear hb2); (try clear hk); (try clear hi); (try clear A8)) | ((with_reducible refine gate_dst (N := 32) rfl ?_); (try (refine gate_guard (by rfl) ?_; dsimp only)); refine Kd.S_lit k24 _ 24 ?hg (N := 32) ?hd (xs := ([(⟨(⟨#[]⟩ : ByteArray), ([] : List (S44))⟩ : S24)] : List (S24))) (inner := [.string (⟨#[]⟩ : ByteArray), .slice none 0 0]) (ok := fun _ => True) (okp := fun _ => True) ?hr ?hp (fun _ hk => hk) trivial (Below.refl _ _) (Nat.le_refl _) (by simp) ?_; (case hd => rfl); (case hg => rfl); (case hr => first | (go_simp; done) | (go_simp; rfl)); (case hp => exact (Reps.c2 (show Kd.M k24 _ _ _ (⟨(⟨#[]⟩ : ByteArray), ([] : List (S44))⟩ : S24) [.string (⟨#[]⟩ : ByteArray), .slice none 0 0] from (k24_mkM _ _ _ (⟨(⟨#[]⟩ : ByteArray), ([] : List (S44))⟩ : S24) (Kd.R_nil _ _ _ _ _))) (Reps.none _ _))); intro v255 w20 ho21 hb hg_ hnew_; clear hg_ hnew_; (first | rw [← Ny254.out] at ho21 | (simp only [Int.reduceToNat] at ho21; rw [← Ny254.out] at ho21)); have n0_ := kb_ (ku_ HO248.out) hb; have n1_ := Aside0.mk (Kd.S_lower (Kd.S_new' ho21 (Kd.R_lt (ku_ HO248.out))) (below_size (be_ HB))); have n2_ := bs_ (be_ HB) hb; clear HO248; clear HB; have HO248 := n0_; have HO256 := n1_; have HB := n2_; clear n0_ n1_ n2_; clear hb ho21; obtain ⟨Ao22, co22, eo22⟩ := Kd.S_slice HO256.out; subst eo22) | (go_at_call 19; (refine (fact_Lists.calls k none 0 ([] : List (S24)) _ _ y254 t257 _ ?side1 ?side2 ?side3 ?side4 A10.out).mono ?_); (case side1 => exact Kd.C_nil _ _); (case side2 => exact Nat.le_refl _); (case side3 => repeat (first | exact (Kd.S_reads' HO256.out).2.2 | (with_reducible refine Kd.C_alloc ?_ _) | (with_reducible refine Kd.C_drewN ?_ _) | (with_reducible refine Kd.C_drew ?_))); (case side4 => exact (Kd.S_reads' HO256.out).2.1); rintro e w23 ⟨rfl, hb⟩; have n0_ := kb_ (ku_ HO248.out) hb; have n1_ := Aside0.mk (Kd.S_below (by (with_reducible repeat (first | apply Kd.S_alloc | apply Kd.S_drewN | apply Kd.S_drew)); exact HO256.out) hb); have n2_ := bs_ (be_ HB) hb; clear HO248; clear HO256; clear HB; have HO248 := n0_; have HO256 := n1_; have HB := n2_; clear n0_ n1_ n2_; (try clear hb); (try clear hb2); (try clear hk); (try clear hi); (try clear A10)) | (go_at_call 23; (refine (fact_Check.calls k (⟨#[]⟩ : ByteArray) none 0 ([] : List (S44)) t258 _ ?side1 ?side2 A12.out).mono ?_); (case side1 => exact Kd.C_nil _ _); (case side2 => exact Nat.le_refl _); rintro e w24 ⟨rfl, hb⟩; have n0_ := kb_ (ku_ HO248.out) hb; have n1_ := Aside0.mk (Kd.S_below (by (with_reducible repeat (first | apply Kd.S_alloc | apply Kd.S_drewN | apply Kd.S_drew)); exact HO256.out) hb); have n2_ := bs_ (be_ HB) hb; clear HO248; clear HO256; clear HB; have HO248 := n0_; have HO256 := n1_; have HB := n2_; clear n0_ n1_ n2_; (try clear hb); (try clear hb2); (try clear hk); (try clear hi); (try clear A12)))
              go_ret
              exact ⟨by first | rfl | (simp [errW_none, errW_some] <;> rfl) | (simp [*, errW_none, errW_some] <;> rfl), by repeat (first | (with_reducible first | exact HB.out | apply below_alloc | apply pw_below_drewN | apply below_drew1) | exact HB.out)⟩
            · rw [if_neg c11] at H
              obtain ⟨c11b0, c11b1⟩ := neB_ c11
              exact absurd ((Option.some.inj H).trans HR_.out) (by decide)
          · rw [if_neg c9] at H
            obtain ⟨c9b0, c9b1⟩ := neB_ c9
            exact absurd ((Option.some.inj H).trans HR_.out) (by decide)
        · replace c7 := Bool.eq_false_iff.mpr c7
          subst c7
          have H1 : (some false) = some r := by rw [if_neg (show ¬ (false = true) by decide)] at H; exact H
          clear H
          have H := H1
          clear H1
          exact absurd ((Option.some.inj H).trans HR_.out) (by decide)
    · rw [if_neg c3] at H
      obtain ⟨c3b0, c3b1⟩ := neB_ c3
      exact absurd ((Option.some.inj H).trans HR_.out) (by decide)
  · rw [if_neg c2] at H
    obtain ⟨c2b0, c2b1⟩ := neB_ c2
    exact absurd ((Option.some.inj H).trans HR_.out) (by decide)
end Go.Proofs.YtaopajmpifenoaaDoor.P
end
section
namespace Go.Proofs.YtaopajmpifenoaaDoor.P
open Go.RowKit Go.Proofs.YtaopajmpifenoaaDoorW.PrintWords Go.Proofs.YtaopajmpifenoaaDoorW.PrintLast Go.Proofs.YtaopajmpifenoaaDoorW.PrintMore
attribute [local go_sem] max2_int min2_int max_two min_two max_three min_three max_four min_four
set_option linter.unusedVariables false
set_option linter.unusedSimpArgs false
def constablelaw03_FactNames.f (k : Nat) (a0 : Int) : Option (Bool) := (some (([(⟨#[97]⟩ : ByteArray), (⟨#[97, 66, 95, 57]⟩ : ByteArray), (⟨#[102, 97, 99, 116, 115]⟩ : ByteArray), (⟨#[100, 114, 111, 112, 115]⟩ : ByteArray), (⟨#[110, 95, 111, 116]⟩ : ByteArray), (⟨#[97, 98, 99, 100, 101, 102, 103, 104, 105, 106, 107, 108, 109, 110, 111, 112, 113, 114, 115, 116, 117, 118, 119, 120]⟩ : ByteArray)] : List ByteArray) : List ByteArray)).bind fun y310 => ((some (([(⟨#[]⟩ : ByteArray), (⟨#[65]⟩ : ByteArray), (⟨#[95, 97]⟩ : ByteArray), (⟨#[57]⟩ : ByteArray), (⟨#[97, 45, 98]⟩ : ByteArray), (⟨#[102, 97, 99, 116]⟩ : ByteArray), (⟨#[114, 117, 108, 101]⟩ : ByteArray), (⟨#[112, 97, 116, 116, 101, 114, 110]⟩ : ByteArray), (⟨#[110, 111, 116]⟩ : ByteArray), (⟨#[97, 110, 100]⟩ : ByteArray), (⟨#[111, 114]⟩ : ByteArray), (⟨#[98, 101, 102, 111, 114, 101]⟩ : ByteArray), (⟨#[111, 110, 99, 101]⟩ : ByteArray), (⟨#[97, 108, 119, 97, 121, 115]⟩ : ByteArray), (⟨#[115, 105, 110, 99, 101]⟩ : ByteArray), (⟨#[100, 114, 111, 112]⟩ : ByteArray), (⟨#[97, 98, 99, 100, 101, 102, 103, 104, 105, 106, 107, 108, 109, 110, 111, 112, 113, 114, 115, 116, 117, 118, 119, 120, 121]⟩ : ByteArray)] : List ByteArray) : List ByteArray)).bind fun y313 => (if 0 ≤ (wrap64 (Int.tmod (IntKind.u64.wrap (a0)) 6)) then (if (wrap64 (Int.tmod (IntKind.u64.wrap (a0)) 6)) < (y310.length : Int) then (if 0 ≤ (wrap64 (Int.tmod (IntKind.u64.wrap (a0)) 17)) then (if (wrap64 (Int.tmod (IntKind.u64.wrap (a0)) 17)) < (y313.length : Int) then ((fact_Name.f k (rdOf ByteArray.empty y310 (wrap64 (Int.tmod (IntKind.u64.wrap (a0)) 6)))).bind fun t319 => (if t319 = true then ((fact_Name.f k (rdOf ByteArray.empty y313 (wrap64 (Int.tmod (IntKind.u64.wrap (a0)) 17)))).bind fun t320 => (if t320 = true then (some false) else ((fact_Check.f k (rdOf ByteArray.empty y310 (wrap64 (Int.tmod (IntKind.u64.wrap (a0)) 6))) (([(⟨1, 0, (⟨#[]⟩ : ByteArray)⟩ : S44), (⟨1, 0, (⟨#[]⟩ : ByteArray)⟩ : S44), (⟨1, 0, (⟨#[]⟩ : ByteArray)⟩ : S44), (⟨1, 0, (⟨#[]⟩ : ByteArray)⟩ : S44), (⟨1, 0, (⟨#[]⟩ : ByteArray)⟩ : S44)] : List (S44)))).bind fun t324 => (if t324 = 0 then ((fact_Check.f k (rdOf ByteArray.empty y310 (wrap64 (Int.tmod (IntKind.u64.wrap (a0)) 6))) (([(⟨1, 0, (⟨#[]⟩ : ByteArray)⟩ : S44), (⟨1, 0, (⟨#[]⟩ : ByteArray)⟩ : S44), (⟨1, 0, (⟨#[]⟩ : ByteArray)⟩ : S44), (⟨1, 0, (⟨#[]⟩ : ByteArray)⟩ : S44), (⟨1, 0, (⟨#[]⟩ : ByteArray)⟩ : S44), (⟨1, 0, (⟨#[]⟩ : ByteArray)⟩ : S44)] : List (S44)))).bind fun t328 => (if t328 = 1 then ((fact_Check.f k (rdOf ByteArray.empty y313 (wrap64 (Int.tmod (IntKind.u64.wrap (a0)) 17))) ([] : List (S44))).bind fun t329 => (if t329 = 1 then ((constablelaw03_wakes.f k).bind fun t330 => (some t330)) else (some false))) else (some false))) else (some false))))) else (some false))) else (none)) else (none)) else (none)) else (none)))
theorem constablelaw03_FactNames.mono : ∀ a0 k, LeO (constablelaw03_FactNames.f k a0) (constablelaw03_FactNames.f (k + 1) a0) := by
  intro a0 k
  unfold constablelaw03_FactNames.f
  repeat' first
      | (with_reducible exact constablelaw03_wakes.mono _)
      | (with_reducible exact fact_Check.mono _ _ _)
      | (with_reducible exact fact_Name.mono _ _)
      | (with_reducible exact LeO.refl _)
      | (with_reducible exact LeO.none _)
      | (with_reducible refine LeO.ite ?_ ?_)
      | (with_reducible refine LeO.bind ?_ (fun _ => ?_))
      | exact constablelaw03_wakes.mono _
      | exact fact_Check.mono _ _ _
      | exact fact_Name.mono _ _
      | exact LeO.none _
      | refine LeO.ite ?_ ?_
      | refine LeO.bind ?_ (fun _ => ?_)
set_option maxHeartbeats 8000000 in
set_option maxRecDepth 100000 in
theorem constablelaw03_FactNames.calls (k : Nat) (a0 : Int) (r : Bool) (w : World) (h : constablelaw03_FactNames.f k a0 = some r) (hr_ : r = true) (hl_ : LaidT w) :
    Calls Tryd.prog 5 #[.int .i64 a0] w fun e w' => e = .returned (.bool r) ∧ Below w.heap.size w w' := by
  have hu44 := Tryd.underlying44
  have hu24 := Tryd.underlying24
  have HB := Aside0.mk (Below.refl w.heap.size w)
  have H : ((some (([(⟨#[97]⟩ : ByteArray), (⟨#[97, 66, 95, 57]⟩ : ByteArray), (⟨#[102, 97, 99, 116, 115]⟩ : ByteArray), (⟨#[100, 114, 111, 112, 115]⟩ : ByteArray), (⟨#[110, 95, 111, 116]⟩ : ByteArray), (⟨#[97, 98, 99, 100, 101, 102, 103, 104, 105, 106, 107, 108, 109, 110, 111, 112, 113, 114, 115, 116, 117, 118, 119, 120]⟩ : ByteArray)] : List ByteArray) : List ByteArray)).bind fun y310 => ((some (([(⟨#[]⟩ : ByteArray), (⟨#[65]⟩ : ByteArray), (⟨#[95, 97]⟩ : ByteArray), (⟨#[57]⟩ : ByteArray), (⟨#[97, 45, 98]⟩ : ByteArray), (⟨#[102, 97, 99, 116]⟩ : ByteArray), (⟨#[114, 117, 108, 101]⟩ : ByteArray), (⟨#[112, 97, 116, 116, 101, 114, 110]⟩ : ByteArray), (⟨#[110, 111, 116]⟩ : ByteArray), (⟨#[97, 110, 100]⟩ : ByteArray), (⟨#[111, 114]⟩ : ByteArray), (⟨#[98, 101, 102, 111, 114, 101]⟩ : ByteArray), (⟨#[111, 110, 99, 101]⟩ : ByteArray), (⟨#[97, 108, 119, 97, 121, 115]⟩ : ByteArray), (⟨#[115, 105, 110, 99, 101]⟩ : ByteArray), (⟨#[100, 114, 111, 112]⟩ : ByteArray), (⟨#[97, 98, 99, 100, 101, 102, 103, 104, 105, 106, 107, 108, 109, 110, 111, 112, 113, 114, 115, 116, 117, 118, 119, 120, 121]⟩ : ByteArray)] : List ByteArray) : List ByteArray)).bind fun y313 => (if 0 ≤ (wrap64 (Int.tmod (IntKind.u64.wrap (a0)) 6)) then (if (wrap64 (Int.tmod (IntKind.u64.wrap (a0)) 6)) < (y310.length : Int) then (if 0 ≤ (wrap64 (Int.tmod (IntKind.u64.wrap (a0)) 17)) then (if (wrap64 (Int.tmod (IntKind.u64.wrap (a0)) 17)) < (y313.length : Int) then ((fact_Name.f k (rdOf ByteArray.empty y310 (wrap64 (Int.tmod (IntKind.u64.wrap (a0)) 6)))).bind fun t319 => (if t319 = true then ((fact_Name.f k (rdOf ByteArray.empty y313 (wrap64 (Int.tmod (IntKind.u64.wrap (a0)) 17)))).bind fun t320 => (if t320 = true then (some false) else ((fact_Check.f k (rdOf ByteArray.empty y310 (wrap64 (Int.tmod (IntKind.u64.wrap (a0)) 6))) (([(⟨1, 0, (⟨#[]⟩ : ByteArray)⟩ : S44), (⟨1, 0, (⟨#[]⟩ : ByteArray)⟩ : S44), (⟨1, 0, (⟨#[]⟩ : ByteArray)⟩ : S44), (⟨1, 0, (⟨#[]⟩ : ByteArray)⟩ : S44), (⟨1, 0, (⟨#[]⟩ : ByteArray)⟩ : S44)] : List (S44)))).bind fun t324 => (if t324 = 0 then ((fact_Check.f k (rdOf ByteArray.empty y310 (wrap64 (Int.tmod (IntKind.u64.wrap (a0)) 6))) (([(⟨1, 0, (⟨#[]⟩ : ByteArray)⟩ : S44), (⟨1, 0, (⟨#[]⟩ : ByteArray)⟩ : S44), (⟨1, 0, (⟨#[]⟩ : ByteArray)⟩ : S44), (⟨1, 0, (⟨#[]⟩ : ByteArray)⟩ : S44), (⟨1, 0, (⟨#[]⟩ : ByteArray)⟩ : S44), (⟨1, 0, (⟨#[]⟩ : ByteArray)⟩ : S44)] : List (S44)))).bind fun t328 => (if t328 = 1 then ((fact_Check.f k (rdOf ByteArray.empty y313 (wrap64 (Int.tmod (IntKind.u64.wrap (a0)) 17))) ([] : List (S44))).bind fun t329 => (if t329 = 1 then ((constablelaw03_wakes.f k).bind fun t330 => (some t330)) else (some false))) else (some false))) else (some false))))) else (some false))) else (none)) else (none)) else (none)) else (none)))) = some r := h
  clear h
  have HL_ := Aside0.mk hl_
  clear hl_
  have HR_ := Aside0.mk hr_
  clear hr_
  obtain ⟨y310, hy310⟩ : ∃ y_ : List ByteArray, y_ = (([(⟨#[97]⟩ : ByteArray), (⟨#[97, 66, 95, 57]⟩ : ByteArray), (⟨#[102, 97, 99, 116, 115]⟩ : ByteArray), (⟨#[100, 114, 111, 112, 115]⟩ : ByteArray), (⟨#[110, 95, 111, 116]⟩ : ByteArray), (⟨#[97, 98, 99, 100, 101, 102, 103, 104, 105, 106, 107, 108, 109, 110, 111, 112, 113, 114, 115, 116, 117, 118, 119, 120]⟩ : ByteArray)] : List ByteArray)) := ⟨_, rfl⟩
  replace H : ((some (([(⟨#[]⟩ : ByteArray), (⟨#[65]⟩ : ByteArray), (⟨#[95, 97]⟩ : ByteArray), (⟨#[57]⟩ : ByteArray), (⟨#[97, 45, 98]⟩ : ByteArray), (⟨#[102, 97, 99, 116]⟩ : ByteArray), (⟨#[114, 117, 108, 101]⟩ : ByteArray), (⟨#[112, 97, 116, 116, 101, 114, 110]⟩ : ByteArray), (⟨#[110, 111, 116]⟩ : ByteArray), (⟨#[97, 110, 100]⟩ : ByteArray), (⟨#[111, 114]⟩ : ByteArray), (⟨#[98, 101, 102, 111, 114, 101]⟩ : ByteArray), (⟨#[111, 110, 99, 101]⟩ : ByteArray), (⟨#[97, 108, 119, 97, 121, 115]⟩ : ByteArray), (⟨#[115, 105, 110, 99, 101]⟩ : ByteArray), (⟨#[100, 114, 111, 112]⟩ : ByteArray), (⟨#[97, 98, 99, 100, 101, 102, 103, 104, 105, 106, 107, 108, 109, 110, 111, 112, 113, 114, 115, 116, 117, 118, 119, 120, 121]⟩ : ByteArray)] : List ByteArray) : List ByteArray)).bind fun y313 => (if 0 ≤ (wrap64 (Int.tmod (IntKind.u64.wrap (a0)) 6)) then (if (wrap64 (Int.tmod (IntKind.u64.wrap (a0)) 6)) < (y310.length : Int) then (if 0 ≤ (wrap64 (Int.tmod (IntKind.u64.wrap (a0)) 17)) then (if (wrap64 (Int.tmod (IntKind.u64.wrap (a0)) 17)) < (y313.length : Int) then ((fact_Name.f k (rdOf ByteArray.empty y310 (wrap64 (Int.tmod (IntKind.u64.wrap (a0)) 6)))).bind fun t319 => (if t319 = true then ((fact_Name.f k (rdOf ByteArray.empty y313 (wrap64 (Int.tmod (IntKind.u64.wrap (a0)) 17)))).bind fun t320 => (if t320 = true then (some false) else ((fact_Check.f k (rdOf ByteArray.empty y310 (wrap64 (Int.tmod (IntKind.u64.wrap (a0)) 6))) (([(⟨1, 0, (⟨#[]⟩ : ByteArray)⟩ : S44), (⟨1, 0, (⟨#[]⟩ : ByteArray)⟩ : S44), (⟨1, 0, (⟨#[]⟩ : ByteArray)⟩ : S44), (⟨1, 0, (⟨#[]⟩ : ByteArray)⟩ : S44), (⟨1, 0, (⟨#[]⟩ : ByteArray)⟩ : S44)] : List (S44)))).bind fun t324 => (if t324 = 0 then ((fact_Check.f k (rdOf ByteArray.empty y310 (wrap64 (Int.tmod (IntKind.u64.wrap (a0)) 6))) (([(⟨1, 0, (⟨#[]⟩ : ByteArray)⟩ : S44), (⟨1, 0, (⟨#[]⟩ : ByteArray)⟩ : S44), (⟨1, 0, (⟨#[]⟩ : ByteArray)⟩ : S44), (⟨1, 0, (⟨#[]⟩ : ByteArray)⟩ : S44), (⟨1, 0, (⟨#[]⟩ : ByteArray)⟩ : S44), (⟨1, 0, (⟨#[]⟩ : ByteArray)⟩ : S44)] : List (S44)))).bind fun t328 => (if t328 = 1 then ((fact_Check.f k (rdOf ByteArray.empty y313 (wrap64 (Int.tmod (IntKind.u64.wrap (a0)) 17))) ([] : List (S44))).bind fun t329 => (if t329 = 1 then ((constablelaw03_wakes.f k).bind fun t330 => (some t330)) else (some false))) else (some false))) else (some false))))) else (some false))) else (none)) else (none)) else (none)) else (none))) = some r := by first | (rw [hy310]; with_reducible exact H) | (have H2_ := (Option.bind_some _ _).symm.trans H; rw [hy310]; with_reducible exact H2_) | (have H2_ := (Option.bind_some _ _).symm.trans H; with_reducible exact H2_) | with_reducible exact H | (rw [hy310]; exact H) | exact H
  have Ny310 := Aside0.mk hy310
  clear hy310
  obtain ⟨y313, hy313⟩ : ∃ y_ : List ByteArray, y_ = (([(⟨#[]⟩ : ByteArray), (⟨#[65]⟩ : ByteArray), (⟨#[95, 97]⟩ : ByteArray), (⟨#[57]⟩ : ByteArray), (⟨#[97, 45, 98]⟩ : ByteArray), (⟨#[102, 97, 99, 116]⟩ : ByteArray), (⟨#[114, 117, 108, 101]⟩ : ByteArray), (⟨#[112, 97, 116, 116, 101, 114, 110]⟩ : ByteArray), (⟨#[110, 111, 116]⟩ : ByteArray), (⟨#[97, 110, 100]⟩ : ByteArray), (⟨#[111, 114]⟩ : ByteArray), (⟨#[98, 101, 102, 111, 114, 101]⟩ : ByteArray), (⟨#[111, 110, 99, 101]⟩ : ByteArray), (⟨#[97, 108, 119, 97, 121, 115]⟩ : ByteArray), (⟨#[115, 105, 110, 99, 101]⟩ : ByteArray), (⟨#[100, 114, 111, 112]⟩ : ByteArray), (⟨#[97, 98, 99, 100, 101, 102, 103, 104, 105, 106, 107, 108, 109, 110, 111, 112, 113, 114, 115, 116, 117, 118, 119, 120, 121]⟩ : ByteArray)] : List ByteArray)) := ⟨_, rfl⟩
  replace H : (if 0 ≤ (wrap64 (Int.tmod (IntKind.u64.wrap (a0)) 6)) then (if (wrap64 (Int.tmod (IntKind.u64.wrap (a0)) 6)) < (y310.length : Int) then (if 0 ≤ (wrap64 (Int.tmod (IntKind.u64.wrap (a0)) 17)) then (if (wrap64 (Int.tmod (IntKind.u64.wrap (a0)) 17)) < (y313.length : Int) then ((fact_Name.f k (rdOf ByteArray.empty y310 (wrap64 (Int.tmod (IntKind.u64.wrap (a0)) 6)))).bind fun t319 => (if t319 = true then ((fact_Name.f k (rdOf ByteArray.empty y313 (wrap64 (Int.tmod (IntKind.u64.wrap (a0)) 17)))).bind fun t320 => (if t320 = true then (some false) else ((fact_Check.f k (rdOf ByteArray.empty y310 (wrap64 (Int.tmod (IntKind.u64.wrap (a0)) 6))) (([(⟨1, 0, (⟨#[]⟩ : ByteArray)⟩ : S44), (⟨1, 0, (⟨#[]⟩ : ByteArray)⟩ : S44), (⟨1, 0, (⟨#[]⟩ : ByteArray)⟩ : S44), (⟨1, 0, (⟨#[]⟩ : ByteArray)⟩ : S44), (⟨1, 0, (⟨#[]⟩ : ByteArray)⟩ : S44)] : List (S44)))).bind fun t324 => (if t324 = 0 then ((fact_Check.f k (rdOf ByteArray.empty y310 (wrap64 (Int.tmod (IntKind.u64.wrap (a0)) 6))) (([(⟨1, 0, (⟨#[]⟩ : ByteArray)⟩ : S44), (⟨1, 0, (⟨#[]⟩ : ByteArray)⟩ : S44), (⟨1, 0, (⟨#[]⟩ : ByteArray)⟩ : S44), (⟨1, 0, (⟨#[]⟩ : ByteArray)⟩ : S44), (⟨1, 0, (⟨#[]⟩ : ByteArray)⟩ : S44), (⟨1, 0, (⟨#[]⟩ : ByteArray)⟩ : S44)] : List (S44)))).bind fun t328 => (if t328 = 1 then ((fact_Check.f k (rdOf ByteArray.empty y313 (wrap64 (Int.tmod (IntKind.u64.wrap (a0)) 17))) ([] : List (S44))).bind fun t329 => (if t329 = 1 then ((constablelaw03_wakes.f k).bind fun t330 => (some t330)) else (some false))) else (some false))) else (some false))))) else (some false))) else (none)) else (none)) else (none)) else (none)) = some r := by first | (rw [hy313]; with_reducible exact H) | (have H2_ := (Option.bind_some _ _).symm.trans H; rw [hy313]; with_reducible exact H2_) | (have H2_ := (Option.bind_some _ _).symm.trans H; with_reducible exact H2_) | with_reducible exact H | (rw [hy313]; exact H) | exact H
  have Ny313 := Aside0.mk hy313
  clear hy313
  obtain ⟨ji2, hji2⟩ : ∃ j_ : Int, (wrap64 (Int.tmod (IntKind.u64.wrap (a0)) 6)) = j_ := ⟨_, rfl⟩
  replace H : (if 0 ≤ (ji2) then (if (ji2) < (y310.length : Int) then (if 0 ≤ (wrap64 (Int.tmod (IntKind.u64.wrap (a0)) 17)) then (if (wrap64 (Int.tmod (IntKind.u64.wrap (a0)) 17)) < (y313.length : Int) then ((fact_Name.f k (rdOf ByteArray.empty y310 (ji2))).bind fun t319 => (if t319 = true then ((fact_Name.f k (rdOf ByteArray.empty y313 (wrap64 (Int.tmod (IntKind.u64.wrap (a0)) 17)))).bind fun t320 => (if t320 = true then (some false) else ((fact_Check.f k (rdOf ByteArray.empty y310 (ji2)) (([(⟨1, 0, (⟨#[]⟩ : ByteArray)⟩ : S44), (⟨1, 0, (⟨#[]⟩ : ByteArray)⟩ : S44), (⟨1, 0, (⟨#[]⟩ : ByteArray)⟩ : S44), (⟨1, 0, (⟨#[]⟩ : ByteArray)⟩ : S44), (⟨1, 0, (⟨#[]⟩ : ByteArray)⟩ : S44)] : List (S44)))).bind fun t324 => (if t324 = 0 then ((fact_Check.f k (rdOf ByteArray.empty y310 (ji2)) (([(⟨1, 0, (⟨#[]⟩ : ByteArray)⟩ : S44), (⟨1, 0, (⟨#[]⟩ : ByteArray)⟩ : S44), (⟨1, 0, (⟨#[]⟩ : ByteArray)⟩ : S44), (⟨1, 0, (⟨#[]⟩ : ByteArray)⟩ : S44), (⟨1, 0, (⟨#[]⟩ : ByteArray)⟩ : S44), (⟨1, 0, (⟨#[]⟩ : ByteArray)⟩ : S44)] : List (S44)))).bind fun t328 => (if t328 = 1 then ((fact_Check.f k (rdOf ByteArray.empty y313 (wrap64 (Int.tmod (IntKind.u64.wrap (a0)) 17))) ([] : List (S44))).bind fun t329 => (if t329 = 1 then ((constablelaw03_wakes.f k).bind fun t330 => (some t330)) else (some false))) else (some false))) else (some false))))) else (some false))) else (none)) else (none)) else (none)) else (none)) = some r := by first | (rw [hji2] at H; exact H) | (simp only [hji2] at H ⊢; exact H)
  have hji2w : (IntKind.i64.wrap (Int.tmod (IntKind.u64.wrap (a0)) 6)) = ji2 := (i64_w _).trans hji2
  by_cases c3 : 0 ≤ (ji2)
  · rw [if_pos c3] at H
    have c3b0 : decide (0 ≤ (ji2)) = true := decide_eq_true c3
    clear c3
    by_cases c4 : (ji2) < (y310.length : Int)
    · rw [if_pos c4] at H
      have c4b0 : decide ((ji2) < (y310.length : Int)) = true := decide_eq_true c4
      clear c4
      obtain ⟨ji5, hji5⟩ : ∃ j_ : Int, (wrap64 (Int.tmod (IntKind.u64.wrap (a0)) 17)) = j_ := ⟨_, rfl⟩
      replace H : (if 0 ≤ (ji5) then (if (ji5) < (y313.length : Int) then ((fact_Name.f k (rdOf ByteArray.empty y310 (ji2))).bind fun t319 => (if t319 = true then ((fact_Name.f k (rdOf ByteArray.empty y313 (ji5))).bind fun t320 => (if t320 = true then (some false) else ((fact_Check.f k (rdOf ByteArray.empty y310 (ji2)) (([(⟨1, 0, (⟨#[]⟩ : ByteArray)⟩ : S44), (⟨1, 0, (⟨#[]⟩ : ByteArray)⟩ : S44), (⟨1, 0, (⟨#[]⟩ : ByteArray)⟩ : S44), (⟨1, 0, (⟨#[]⟩ : ByteArray)⟩ : S44), (⟨1, 0, (⟨#[]⟩ : ByteArray)⟩ : S44)] : List (S44)))).bind fun t324 => (if t324 = 0 then ((fact_Check.f k (rdOf ByteArray.empty y310 (ji2)) (([(⟨1, 0, (⟨#[]⟩ : ByteArray)⟩ : S44), (⟨1, 0, (⟨#[]⟩ : ByteArray)⟩ : S44), (⟨1, 0, (⟨#[]⟩ : ByteArray)⟩ : S44), (⟨1, 0, (⟨#[]⟩ : ByteArray)⟩ : S44), (⟨1, 0, (⟨#[]⟩ : ByteArray)⟩ : S44), (⟨1, 0, (⟨#[]⟩ : ByteArray)⟩ : S44)] : List (S44)))).bind fun t328 => (if t328 = 1 then ((fact_Check.f k (rdOf ByteArray.empty y313 (ji5)) ([] : List (S44))).bind fun t329 => (if t329 = 1 then ((constablelaw03_wakes.f k).bind fun t330 => (some t330)) else (some false))) else (some false))) else (some false))))) else (some false))) else (none)) else (none)) = some r := by first | (rw [hji5] at H; exact H) | (simp only [hji5] at H ⊢; exact H)
      have hji5w : (IntKind.i64.wrap (Int.tmod (IntKind.u64.wrap (a0)) 17)) = ji5 := (i64_w _).trans hji5
      by_cases c6 : 0 ≤ (ji5)
      · rw [if_pos c6] at H
        have c6b0 : decide (0 ≤ (ji5)) = true := decide_eq_true c6
        clear c6
        by_cases c7 : (ji5) < (y313.length : Int)
        · rw [if_pos c7] at H
          have c7b0 : decide ((ji5) < (y313.length : Int)) = true := decide_eq_true c7
          clear c7
          replace H := Option.bind_eq_some_iff.mp H
          obtain ⟨t319, A80, H⟩ := H
          replace H : (if t319 = true then ((fact_Name.f k (rdOf ByteArray.empty y313 (ji5))).bind fun t320 => (if t320 = true then (some false) else ((fact_Check.f k (rdOf ByteArray.empty y310 (ji2)) (([(⟨1, 0, (⟨#[]⟩ : ByteArray)⟩ : S44), (⟨1, 0, (⟨#[]⟩ : ByteArray)⟩ : S44), (⟨1, 0, (⟨#[]⟩ : ByteArray)⟩ : S44), (⟨1, 0, (⟨#[]⟩ : ByteArray)⟩ : S44), (⟨1, 0, (⟨#[]⟩ : ByteArray)⟩ : S44)] : List (S44)))).bind fun t324 => (if t324 = 0 then ((fact_Check.f k (rdOf ByteArray.empty y310 (ji2)) (([(⟨1, 0, (⟨#[]⟩ : ByteArray)⟩ : S44), (⟨1, 0, (⟨#[]⟩ : ByteArray)⟩ : S44), (⟨1, 0, (⟨#[]⟩ : ByteArray)⟩ : S44), (⟨1, 0, (⟨#[]⟩ : ByteArray)⟩ : S44), (⟨1, 0, (⟨#[]⟩ : ByteArray)⟩ : S44), (⟨1, 0, (⟨#[]⟩ : ByteArray)⟩ : S44)] : List (S44)))).bind fun t328 => (if t328 = 1 then ((fact_Check.f k (rdOf ByteArray.empty y313 (ji5)) ([] : List (S44))).bind fun t329 => (if t329 = 1 then ((constablelaw03_wakes.f k).bind fun t330 => (some t330)) else (some false))) else (some false))) else (some false))))) else (some false)) = some r := H
          have A8 := Aside0.mk A80
          clear A80
          by_cases c9 : t319 = true
          · subst c9
            have H1 : ((fact_Name.f k (rdOf ByteArray.empty y313 (ji5))).bind fun t320 => (if t320 = true then (some false) else ((fact_Check.f k (rdOf ByteArray.empty y310 (ji2)) (([(⟨1, 0, (⟨#[]⟩ : ByteArray)⟩ : S44), (⟨1, 0, (⟨#[]⟩ : ByteArray)⟩ : S44), (⟨1, 0, (⟨#[]⟩ : ByteArray)⟩ : S44), (⟨1, 0, (⟨#[]⟩ : ByteArray)⟩ : S44), (⟨1, 0, (⟨#[]⟩ : ByteArray)⟩ : S44)] : List (S44)))).bind fun t324 => (if t324 = 0 then ((fact_Check.f k (rdOf ByteArray.empty y310 (ji2)) (([(⟨1, 0, (⟨#[]⟩ : ByteArray)⟩ : S44), (⟨1, 0, (⟨#[]⟩ : ByteArray)⟩ : S44), (⟨1, 0, (⟨#[]⟩ : ByteArray)⟩ : S44), (⟨1, 0, (⟨#[]⟩ : ByteArray)⟩ : S44), (⟨1, 0, (⟨#[]⟩ : ByteArray)⟩ : S44), (⟨1, 0, (⟨#[]⟩ : ByteArray)⟩ : S44)] : List (S44)))).bind fun t328 => (if t328 = 1 then ((fact_Check.f k (rdOf ByteArray.empty y313 (ji5)) ([] : List (S44))).bind fun t329 => (if t329 = 1 then ((constablelaw03_wakes.f k).bind fun t330 => (some t330)) else (some false))) else (some false))) else (some false))))) = some r := by rw [if_pos rfl] at H; exact H
            clear H
            have H := H1
            clear H1
            replace H := Option.bind_eq_some_iff.mp H
            obtain ⟨t320, A100, H⟩ := H
            replace H : (if t320 = true then (some false) else ((fact_Check.f k (rdOf ByteArray.empty y310 (ji2)) (([(⟨1, 0, (⟨#[]⟩ : ByteArray)⟩ : S44), (⟨1, 0, (⟨#[]⟩ : ByteArray)⟩ : S44), (⟨1, 0, (⟨#[]⟩ : ByteArray)⟩ : S44), (⟨1, 0, (⟨#[]⟩ : ByteArray)⟩ : S44), (⟨1, 0, (⟨#[]⟩ : ByteArray)⟩ : S44)] : List (S44)))).bind fun t324 => (if t324 = 0 then ((fact_Check.f k (rdOf ByteArray.empty y310 (ji2)) (([(⟨1, 0, (⟨#[]⟩ : ByteArray)⟩ : S44), (⟨1, 0, (⟨#[]⟩ : ByteArray)⟩ : S44), (⟨1, 0, (⟨#[]⟩ : ByteArray)⟩ : S44), (⟨1, 0, (⟨#[]⟩ : ByteArray)⟩ : S44), (⟨1, 0, (⟨#[]⟩ : ByteArray)⟩ : S44), (⟨1, 0, (⟨#[]⟩ : ByteArray)⟩ : S44)] : List (S44)))).bind fun t328 => (if t328 = 1 then ((fact_Check.f k (rdOf ByteArray.empty y313 (ji5)) ([] : List (S44))).bind fun t329 => (if t329 = 1 then ((constablelaw03_wakes.f k).bind fun t330 => (some t330)) else (some false))) else (some false))) else (some false)))) = some r := H
            have A10 := Aside0.mk A100
            clear A100
            by_cases c11 : t320 = true
            · subst c11
              have H1 : (some false) = some r := by rw [if_pos rfl] at H; exact H
              clear H
              have H := H1
              clear H1
              exact absurd ((Option.some.inj H).trans HR_.out) (by decide)
            · replace c11 := Bool.eq_false_iff.mpr c11
              subst c11
              have H1 : ((fact_Check.f k (rdOf ByteArray.empty y310 (ji2)) (([(⟨1, 0, (⟨#[]⟩ : ByteArray)⟩ : S44), (⟨1, 0, (⟨#[]⟩ : ByteArray)⟩ : S44), (⟨1, 0, (⟨#[]⟩ : ByteArray)⟩ : S44), (⟨1, 0, (⟨#[]⟩ : ByteArray)⟩ : S44), (⟨1, 0, (⟨#[]⟩ : ByteArray)⟩ : S44)] : List (S44)))).bind fun t324 => (if t324 = 0 then ((fact_Check.f k (rdOf ByteArray.empty y310 (ji2)) (([(⟨1, 0, (⟨#[]⟩ : ByteArray)⟩ : S44), (⟨1, 0, (⟨#[]⟩ : ByteArray)⟩ : S44), (⟨1, 0, (⟨#[]⟩ : ByteArray)⟩ : S44), (⟨1, 0, (⟨#[]⟩ : ByteArray)⟩ : S44), (⟨1, 0, (⟨#[]⟩ : ByteArray)⟩ : S44), (⟨1, 0, (⟨#[]⟩ : ByteArray)⟩ : S44)] : List (S44)))).bind fun t328 => (if t328 = 1 then ((fact_Check.f k (rdOf ByteArray.empty y313 (ji5)) ([] : List (S44))).bind fun t329 => (if t329 = 1 then ((constablelaw03_wakes.f k).bind fun t330 => (some t330)) else (some false))) else (some false))) else (some false))) = some r := by rw [if_neg (show ¬ (false = true) by decide)] at H; exact H
              clear H
              have H := H1
              clear H1
              obtain ⟨y321, hy321⟩ : ∃ y_ : List (S44), y_ = (([(⟨1, 0, (⟨#[]⟩ : ByteArray)⟩ : S44), (⟨1, 0, (⟨#[]⟩ : ByteArray)⟩ : S44), (⟨1, 0, (⟨#[]⟩ : ByteArray)⟩ : S44), (⟨1, 0, (⟨#[]⟩ : ByteArray)⟩ : S44), (⟨1, 0, (⟨#[]⟩ : ByteArray)⟩ : S44)] : List (S44))) := ⟨_, rfl⟩
              replace H : ((fact_Check.f k (rdOf ByteArray.empty y310 (ji2)) y321).bind fun t324 => (if t324 = 0 then ((fact_Check.f k (rdOf ByteArray.empty y310 (ji2)) (([(⟨1, 0, (⟨#[]⟩ : ByteArray)⟩ : S44), (⟨1, 0, (⟨#[]⟩ : ByteArray)⟩ : S44), (⟨1, 0, (⟨#[]⟩ : ByteArray)⟩ : S44), (⟨1, 0, (⟨#[]⟩ : ByteArray)⟩ : S44), (⟨1, 0, (⟨#[]⟩ : ByteArray)⟩ : S44), (⟨1, 0, (⟨#[]⟩ : ByteArray)⟩ : S44)] : List (S44)))).bind fun t328 => (if t328 = 1 then ((fact_Check.f k (rdOf ByteArray.empty y313 (ji5)) ([] : List (S44))).bind fun t329 => (if t329 = 1 then ((constablelaw03_wakes.f k).bind fun t330 => (some t330)) else (some false))) else (some false))) else (some false))) = some r := by first | (rw [hy321]; with_reducible exact H) | (have H2_ := (Option.bind_some _ _).symm.trans H; rw [hy321]; with_reducible exact H2_) | (have H2_ := (Option.bind_some _ _).symm.trans H; with_reducible exact H2_) | with_reducible exact H | (rw [hy321]; exact H) | exact H
              have Ny321 := Aside0.mk hy321
              clear hy321
              replace H := Option.bind_eq_some_iff.mp H
              obtain ⟨t324, A120, H⟩ := H
              replace H : (if t324 = 0 then ((fact_Check.f k (rdOf ByteArray.empty y310 (ji2)) (([(⟨1, 0, (⟨#[]⟩ : ByteArray)⟩ : S44), (⟨1, 0, (⟨#[]⟩ : ByteArray)⟩ : S44), (⟨1, 0, (⟨#[]⟩ : ByteArray)⟩ : S44), (⟨1, 0, (⟨#[]⟩ : ByteArray)⟩ : S44), (⟨1, 0, (⟨#[]⟩ : ByteArray)⟩ : S44), (⟨1, 0, (⟨#[]⟩ : ByteArray)⟩ : S44)] : List (S44)))).bind fun t328 => (if t328 = 1 then ((fact_Check.f k (rdOf ByteArray.empty y313 (ji5)) ([] : List (S44))).bind fun t329 => (if t329 = 1 then ((constablelaw03_wakes.f k).bind fun t330 => (some t330)) else (some false))) else (some false))) else (some false)) = some r := H
              have A12 := Aside0.mk A120
              clear A120
              by_cases c13 : t324 = 0
              · rw [if_pos c13] at H
                obtain ⟨c13b0, c13b1⟩ := eqB_ c13
                clear c13
                obtain ⟨y325, hy325⟩ : ∃ y_ : List (S44), y_ = (([(⟨1, 0, (⟨#[]⟩ : ByteArray)⟩ : S44), (⟨1, 0, (⟨#[]⟩ : ByteArray)⟩ : S44), (⟨1, 0, (⟨#[]⟩ : ByteArray)⟩ : S44), (⟨1, 0, (⟨#[]⟩ : ByteArray)⟩ : S44), (⟨1, 0, (⟨#[]⟩ : ByteArray)⟩ : S44), (⟨1, 0, (⟨#[]⟩ : ByteArray)⟩ : S44)] : List (S44))) := ⟨_, rfl⟩
                replace H : ((fact_Check.f k (rdOf ByteArray.empty y310 (ji2)) y325).bind fun t328 => (if t328 = 1 then ((fact_Check.f k (rdOf ByteArray.empty y313 (ji5)) ([] : List (S44))).bind fun t329 => (if t329 = 1 then ((constablelaw03_wakes.f k).bind fun t330 => (some t330)) else (some false))) else (some false))) = some r := by first | (rw [hy325]; with_reducible exact H) | (have H2_ := (Option.bind_some _ _).symm.trans H; rw [hy325]; with_reducible exact H2_) | (have H2_ := (Option.bind_some _ _).symm.trans H; with_reducible exact H2_) | with_reducible exact H | (rw [hy325]; exact H) | exact H
                have Ny325 := Aside0.mk hy325
                clear hy325
                replace H := Option.bind_eq_some_iff.mp H
                obtain ⟨t328, A140, H⟩ := H
                replace H : (if t328 = 1 then ((fact_Check.f k (rdOf ByteArray.empty y313 (ji5)) ([] : List (S44))).bind fun t329 => (if t329 = 1 then ((constablelaw03_wakes.f k).bind fun t330 => (some t330)) else (some false))) else (some false)) = some r := H
                have A14 := Aside0.mk A140
                clear A140
                by_cases c15 : t328 = 1
                · rw [if_pos c15] at H
                  obtain ⟨c15b0, c15b1⟩ := eqB_ c15
                  clear c15
                  replace H := Option.bind_eq_some_iff.mp H
                  obtain ⟨t329, A160, H⟩ := H
                  replace H : (if t329 = 1 then ((constablelaw03_wakes.f k).bind fun t330 => (some t330)) else (some false)) = some r := H
                  have A16 := Aside0.mk A160
                  clear A160
                  by_cases c17 : t329 = 1
                  · rw [if_pos c17] at H
                    obtain ⟨c17b0, c17b1⟩ := eqB_ c17
                    clear c17
                    replace H := Option.bind_eq_some_iff.mp H
                    obtain ⟨t330, A180, H⟩ := H
                    replace H : (some t330) = some r := H
                    have A18 := Aside0.mk A180
                    clear A180
                    obtain rfl := Option.some.inj H
                    go_enter Tryd.func5, Tryd.ntmps5
                    go_wp2_with (first | ((with_reducible refine gate_dst (N := 8) rfl ?_); (try (refine gate_guard (by rfl) ?_; dsimp only)); refine Kd.R_lit Kd.string _ 9 ?hg (N := 8) ?hd (xs := ([(⟨#[97]⟩ : ByteArray), (⟨#[97, 66, 95, 57]⟩ : ByteArray), (⟨#[102, 97, 99, 116, 115]⟩ : ByteArray), (⟨#[100, 114, 111, 112, 115]⟩ : ByteArray), (⟨#[110, 95, 111, 116]⟩ : ByteArray), (⟨#[97, 98, 99, 100, 101, 102, 103, 104, 105, 106, 107, 108, 109, 110, 111, 112, 113, 114, 115, 116, 117, 118, 119, 120]⟩ : ByteArray)] : List ByteArray)) (inner := [.string (⟨#[97]⟩ : ByteArray), .string (⟨#[97, 66, 95, 57]⟩ : ByteArray), .string (⟨#[102, 97, 99, 116, 115]⟩ : ByteArray), .string (⟨#[100, 114, 111, 112, 115]⟩ : ByteArray), .string (⟨#[110, 95, 111, 116]⟩ : ByteArray), .string (⟨#[97, 98, 99, 100, 101, 102, 103, 104, 105, 106, 107, 108, 109, 110, 111, 112, 113, 114, 115, 116, 117, 118, 119, 120]⟩ : ByteArray)]) (ok := fun _ => True) (okp := fun _ => True) ?hr ?hp (fun _ hk => hk) trivial (Below.refl _ _) (Nat.le_refl _) (by simp) ?_; (case hd => rfl); (case hg => rfl); (case hr => first | (go_simp; done) | (go_simp; rfl)); (case hp => exact (Reps.one (show Kd.M Kd.string _ _ _ (⟨#[97]⟩ : ByteArray) [.string (⟨#[97]⟩ : ByteArray)] from rfl) (Reps.one (show Kd.M Kd.string _ _ _ (⟨#[97, 66, 95, 57]⟩ : ByteArray) [.string (⟨#[97, 66, 95, 57]⟩ : ByteArray)] from rfl) (Reps.one (show Kd.M Kd.string _ _ _ (⟨#[102, 97, 99, 116, 115]⟩ : ByteArray) [.string (⟨#[102, 97, 99, 116, 115]⟩ : ByteArray)] from rfl) (Reps.one (show Kd.M Kd.string _ _ _ (⟨#[100, 114, 111, 112, 115]⟩ : ByteArray) [.string (⟨#[100, 114, 111, 112, 115]⟩ : ByteArray)] from rfl) (Reps.one (show Kd.M Kd.string _ _ _ (⟨#[110, 95, 111, 116]⟩ : ByteArray) [.string (⟨#[110, 95, 111, 116]⟩ : ByteArray)] from rfl) (Reps.one (show Kd.M Kd.string _ _ _ (⟨#[97, 98, 99, 100, 101, 102, 103, 104, 105, 106, 107, 108, 109, 110, 111, 112, 113, 114, 115, 116, 117, 118, 119, 120]⟩ : ByteArray) [.string (⟨#[97, 98, 99, 100, 101, 102, 103, 104, 105, 106, 107, 108, 109, 110, 111, 112, 113, 114, 115, 116, 117, 118, 119, 120]⟩ : ByteArray)] from rfl) (Reps.none _ _)))))))); intro v311 w19 ho20 hb hg_ hnew_; clear hg_ hnew_; (first | rw [← Ny310.out] at ho20 | (simp only [Int.reduceToNat] at ho20; rw [← Ny310.out] at ho20)); have n0_ := Aside0.mk (Kd.R_lower ho20 (below_size (be_ HB))); have n1_ := bs_ (be_ HB) hb; clear HB; have HO312 := n0_; have HB := n1_; clear n0_ n1_; clear hb ho20) | ((with_reducible refine gate_dst (N := 9) rfl ?_); (try (refine gate_guard (by rfl) ?_; dsimp only)); refine Kd.R_lit Kd.string _ 9 ?hg (N := 9) ?hd (xs := ([(⟨#[]⟩ : ByteArray), (⟨#[65]⟩ : ByteArray), (⟨#[95, 97]⟩ : ByteArray), (⟨#[57]⟩ : ByteArray), (⟨#[97, 45, 98]⟩ : ByteArray), (⟨#[102, 97, 99, 116]⟩ : ByteArray), (⟨#[114, 117, 108, 101]⟩ : ByteArray), (⟨#[112, 97, 116, 116, 101, 114, 110]⟩ : ByteArray), (⟨#[110, 111, 116]⟩ : ByteArray), (⟨#[97, 110, 100]⟩ : ByteArray), (⟨#[111, 114]⟩ : ByteArray), (⟨#[98, 101, 102, 111, 114, 101]⟩ : ByteArray), (⟨#[111, 110, 99, 101]⟩ : ByteArray), (⟨#[97, 108, 119, 97, 121, 115]⟩ : ByteArray), (⟨#[115, 105, 110, 99, 101]⟩ : ByteArray), (⟨#[100, 114, 111, 112]⟩ : ByteArray), (⟨#[97, 98, 99, 100, 101, 102, 103, 104, 105, 106, 107, 108, 109, 110, 111, 112, 113, 114, 115, 116, 117, 118, 119, 120, 121]⟩ : ByteArray)] : List ByteArray)) (inner := [.string (⟨#[]⟩ : ByteArray), .string (⟨#[65]⟩ : ByteArray), .string (⟨#[95, 97]⟩ : ByteArray), .string (⟨#[57]⟩ : ByteArray), .string (⟨#[97, 45, 98]⟩ : ByteArray), .string (⟨#[102, 97, 99, 116]⟩ : ByteArray), .string (⟨#[114, 117, 108, 101]⟩ : ByteArray), .string (⟨#[112, 97, 116, 116, 101, 114, 110]⟩ : ByteArray), .string (⟨#[110, 111, 116]⟩ : ByteArray), .string (⟨#[97, 110, 100]⟩ : ByteArray), .string (⟨#[111, 114]⟩ : ByteArray), .string (⟨#[98, 101, 102, 111, 114, 101]⟩ : ByteArray), .string (⟨#[111, 110, 99, 101]⟩ : ByteArray), .string (⟨#[97, 108, 119, 97, 121, 115]⟩ : ByteArray), .string (⟨#[115, 105, 110, 99, 101]⟩ : ByteArray), .string (⟨#[100, 114, 111, 112]⟩ : ByteArray), .string (⟨#[97, 98, 99, 100, 101, 102, 103, 104, 105, 106, 107, 108, 109, 110, 111, 112, 113, 114, 115, 116, 117, 118, 119, 120, 121]⟩ : ByteArray)]) (ok := fun _ => True) (okp := fun _ => True) ?hr ?hp (fun _ hk => hk) trivial (Below.refl _ _) (Nat.le_refl _) (by simp) ?_; (case hd => rfl); (case hg => rfl); (case hr => first | (go_simp; done) | (go_simp; rfl)); (case hp => exact (Reps.one (show Kd.M Kd.string _ _ _ (⟨#[]⟩ : ByteArray) [.string (⟨#[]⟩ : ByteArray)] from rfl) (Reps.one (show Kd.M Kd.string _ _ _ (⟨#[65]⟩ : ByteArray) [.string (⟨#[65]⟩ : ByteArray)] from rfl) (Reps.one (show Kd.M Kd.string _ _ _ (⟨#[95, 97]⟩ : ByteArray) [.string (⟨#[95, 97]⟩ : ByteArray)] from rfl) (Reps.one (show Kd.M Kd.string _ _ _ (⟨#[57]⟩ : ByteArray) [.string (⟨#[57]⟩ : ByteArray)] from rfl) (Reps.one (show Kd.M Kd.string _ _ _ (⟨#[97, 45, 98]⟩ : ByteArray) [.string (⟨#[97, 45, 98]⟩ : ByteArray)] from rfl) (Reps.one (show Kd.M Kd.string _ _ _ (⟨#[102, 97, 99, 116]⟩ : ByteArray) [.string (⟨#[102, 97, 99, 116]⟩ : ByteArray)] from rfl) (Reps.one (show Kd.M Kd.string _ _ _ (⟨#[114, 117, 108, 101]⟩ : ByteArray) [.string (⟨#[114, 117, 108, 101]⟩ : ByteArray)] from rfl) (Reps.one (show Kd.M Kd.string _ _ _ (⟨#[112, 97, 116, 116, 101, 114, 110]⟩ : ByteArray) [.string (⟨#[112, 97, 116, 116, 101, 114, 110]⟩ : ByteArray)] from rfl) (Reps.one (show Kd.M Kd.string _ _ _ (⟨#[110, 111, 116]⟩ : ByteArray) [.string (⟨#[110, 111, 116]⟩ : ByteArray)] from rfl) (Reps.one (show Kd.M Kd.string _ _ _ (⟨#[97, 110, 100]⟩ : ByteArray) [.string (⟨#[97, 110, 100]⟩ : ByteArray)] from rfl) (Reps.one (show Kd.M Kd.string _ _ _ (⟨#[111, 114]⟩ : ByteArray) [.string (⟨#[111, 114]⟩ : ByteArray)] from rfl) (Reps.one (show Kd.M Kd.string _ _ _ (⟨#[98, 101, 102, 111, 114, 101]⟩ : ByteArray) [.string (⟨#[98, 101, 102, 111, 114, 101]⟩ : ByteArray)] from rfl) (Reps.one (show Kd.M Kd.string _ _ _ (⟨#[111, 110, 99, 101]⟩ : ByteArray) [.string (⟨#[111, 110, 99, 101]⟩ : ByteArray)] from rfl) (Reps.one (show Kd.M Kd.string _ _ _ (⟨#[97, 108, 119, 97, 121, 115]⟩ : ByteArray) [.string (⟨#[97, 108, 119, 97, 121, 115]⟩ : ByteArray)] from rfl) (Reps.one (show Kd.M Kd.string _ _ _ (⟨#[115, 105, 110, 99, 101]⟩ : ByteArray) [.string (⟨#[115, 105, 110, 99, 101]⟩ : ByteArray)] from rfl) (Reps.one (show Kd.M Kd.string _ _ _ (⟨#[100, 114, 111, 112]⟩ : ByteArray) [.string (⟨#[100, 114, 111, 112]⟩ : ByteArray)] from rfl) (Reps.one (show Kd.M Kd.string _ _ _ (⟨#[97, 98, 99, 100, 101, 102, 103, 104, 105, 106, 107, 108, 109, 110, 111, 112, 113, 114, 115, 116, 117, 118, 119, 120, 121]⟩ : ByteArray) [.string (⟨#[97, 98, 99, 100, 101, 102, 103, 104, 105, 106, 107, 108, 109, 110, 111, 112, 113, 114, 115, 116, 117, 118, 119, 120, 121]⟩ : ByteArray)] from rfl) (Reps.none _ _))))))))))))))))))); intro v314 w21 ho22 hb hg_ hnew_; clear hg_ hnew_; (first | rw [← Ny313.out] at ho22 | (simp only [Int.reduceToNat] at ho22; rw [← Ny313.out] at ho22)); have n0_ := Aside0.mk (Kd.R_elder' (ku_ HO312.out) (Kd.R_base ho22) hb); have n1_ := Aside0.mk (Kd.R_lower (Kd.R_new' ho22 (Kd.R_lt (ku_ HO312.out))) (below_size (be_ HB))); have n2_ := bs_ (be_ HB) hb; clear HO312; clear HB; have HO312 := n0_; have HO315 := n1_; have HB := n2_; clear n0_ n1_ n2_; clear hb ho22; obtain ⟨Ao23, co23, eo23⟩ := Kd.R_slice HO312.out; subst eo23; have p316 : 0 ≤ ((ji2) : Int) := dt_; have q316 : (ji2) < (y310.length : Int) := dt_; obtain ⟨ad316, e316, hx316_0⟩ := Kd.at_string (Kd.R_reads' HO312.out).2.2 (ji2) p316 q316; cases e316; replace p316 := eq_true p316; replace q316 := eq_true q316; obtain ⟨Ao24, co24, eo24⟩ := Kd.R_slice HO315.out; subst eo24; have p317 : 0 ≤ ((ji5) : Int) := dt_; have q317 : (ji5) < (y313.length : Int) := dt_; obtain ⟨ad317, e317, hx317_0⟩ := Kd.at_string (Kd.R_reads' HO315.out).2.2 (ji5) p317 q317; cases e317; replace p317 := eq_true p317; replace q317 := eq_true q317) | ((with_reducible refine gate_dst (N := 7) rfl ?_); (try (refine gate_guard (by rfl) ?_; dsimp only)); refine box_event ?hg (N := 7) ?hd (cs := #[.int .i64 0, .int .i64 0, .string (⟨#[]⟩ : ByteArray)]) (t := 44) ?hr ?_; (case hd => rfl); (case hg => rfl); (case hr => first | (go_simp; done) | (go_simp; rfl)); intro gb318 hg w25 hbox hb; have n0_ := kb_ (ku_ HO312.out) hb; have n1_ := kb_ (ku_ HO315.out) hb; have n2_ := bs_ (be_ HB) hb; have n3_ := Aside0.mk (hbox); have n4_ := gs_ hg (be_ HB); have n5_ := gs_ hg (be_ HB); clear HO312; clear HO315; clear HB; have HO312 := n0_; have HO315 := n1_; have HB := n2_; have BK318 := n3_; have GW318 := n4_; have GE318 := n5_; clear n0_ n1_ n2_ n3_ n4_ n5_; clear hb hbox hg; have hcz26_0 : w25.cell? ⟨gb318, 0, none⟩ = some (.int .i64 0) := (blk_cell BK318.out 0).trans rfl; have hcz26_1 : w25.cell? ⟨gb318, 1, none⟩ = some (.int .i64 0) := (blk_cell BK318.out 1).trans rfl; have hcz26_2 : w25.cell? ⟨gb318, 2, none⟩ = some (.string (⟨#[]⟩ : ByteArray)) := (blk_cell BK318.out 2).trans rfl; have hfz26_0 := blk_frozen BK318.out 0; have hfz26_1 := blk_frozen BK318.out 1; have hfz26_2 := blk_frozen BK318.out 2) | (go_at_call 15; (with_reducible refine (fact_Name.calls k (rdOf ByteArray.empty y310 (ji2)) true _ A8.out).mono ?_); rintro e w27 ⟨rfl, hb⟩; have n0_ := Aside0.mk (Kd.R_below (ku_ (Kd.R_mono (Kd.R_far (p := ⟨gb318, 2, none⟩) (Kd.R_far (p := ⟨gb318, 1, none⟩) (Kd.R_far (p := ⟨gb318, 0, none⟩) (Kd.R_types HO312.out BK318.out (by decide)) (fun _ hk => hk.2) (.int .i64 1)) (fun _ hk => hk.2) (.int .i64 0)) (fun _ hk => hk.2) (.string (⟨#[]⟩ : ByteArray))) (fun _ h_ => h_.1))) hb); have n1_ := Aside0.mk (Kd.R_below (ku_ (Kd.R_mono (Kd.R_far (p := ⟨gb318, 2, none⟩) (Kd.R_far (p := ⟨gb318, 1, none⟩) (Kd.R_far (p := ⟨gb318, 0, none⟩) (Kd.R_types HO315.out BK318.out (by decide)) (fun _ hk => hk.2) (.int .i64 1)) (fun _ hk => hk.2) (.int .i64 0)) (fun _ hk => hk.2) (.string (⟨#[]⟩ : ByteArray))) (fun _ h_ => h_.1))) hb); have n2_ := Aside0.mk (blk_below (o := .cells #[.int .i64 1, .int .i64 0, .string (⟨#[]⟩ : ByteArray)] 44 (0, 0)) (bp_ BK318) hb); have n3_ := bs_ (be_ HB) hb; clear HO312; clear HO315; clear BK318; clear HB; have HO312 := n0_; have HO315 := n1_; have BK318 := n2_; have HB := n3_; clear n0_ n1_ n2_ n3_; (try clear hcz26_0 hcz26_1 hcz26_2 hfz26_0 hfz26_1 hfz26_2); (try clear hb); (try clear hb2); (try clear hk); (try clear hi)) | (go_at_call 15; (with_reducible refine (fact_Name.calls k (rdOf ByteArray.empty y313 (ji5)) false _ A10.out).mono ?_); rintro e w28 ⟨rfl, hb⟩; have n0_ := kb_ (ku_ HO312.out) hb; have n1_ := kb_ (ku_ HO315.out) hb; have n2_ := bb_ (bu_ BK318) hb; have n3_ := bs_ (be_ HB) hb; clear HO312; clear HO315; clear BK318; clear HB; have HO312 := n0_; have HO315 := n1_; have BK318 := n2_; have HB := n3_; clear n0_ n1_ n2_ n3_; (try clear hb); (try clear hb2); (try clear hk); (try clear hi); have hcz29_0 : w28.cell? ⟨gb318, 0, none⟩ = some (.int .i64 1) := (blk_cell BK318.out 0).trans rfl; have hcz29_1 : w28.cell? ⟨gb318, 1, none⟩ = some (.int .i64 0) := (blk_cell BK318.out 1).trans rfl; have hcz29_2 : w28.cell? ⟨gb318, 2, none⟩ = some (.string (⟨#[]⟩ : ByteArray)) := (blk_cell BK318.out 2).trans rfl; have hfz29_0 := blk_frozen BK318.out 0; have hfz29_1 := blk_frozen BK318.out 1; have hfz29_2 := blk_frozen BK318.out 2) | ((with_reducible refine gate_dst (N := 39) rfl ?_); (try (refine gate_guard (by rfl) ?_; dsimp only)); refine Kd.R_lit k44 _ 44 ?hg (N := 39) ?hd (xs := ([(⟨1, 0, (⟨#[]⟩ : ByteArray)⟩ : S44), (⟨1, 0, (⟨#[]⟩ : ByteArray)⟩ : S44), (⟨1, 0, (⟨#[]⟩ : ByteArray)⟩ : S44), (⟨1, 0, (⟨#[]⟩ : ByteArray)⟩ : S44), (⟨1, 0, (⟨#[]⟩ : ByteArray)⟩ : S44)] : List (S44))) (inner := [.int .i64 1, .int .i64 0, .string (⟨#[]⟩ : ByteArray), .int .i64 1, .int .i64 0, .string (⟨#[]⟩ : ByteArray), .int .i64 1, .int .i64 0, .string (⟨#[]⟩ : ByteArray), .int .i64 1, .int .i64 0, .string (⟨#[]⟩ : ByteArray), .int .i64 1, .int .i64 0, .string (⟨#[]⟩ : ByteArray)]) (ok := fun _ => True) (okp := fun _ => True) ?hr ?hp (fun _ hk => hk) trivial (Below.refl _ _) (Nat.le_refl _) (by simp) ?_; (case hd => rfl); (case hg => rfl); (case hr => first | (go_simp; done) | (go_simp; rfl)); (case hp => exact (Reps.c3 (show Kd.M k44 _ _ _ (⟨1, 0, (⟨#[]⟩ : ByteArray)⟩ : S44) [.int .i64 1, .int .i64 0, .string (⟨#[]⟩ : ByteArray)] from (k44_mkM _ _ _ (⟨1, 0, (⟨#[]⟩ : ByteArray)⟩ : S44) )) (Reps.c3 (show Kd.M k44 _ _ _ (⟨1, 0, (⟨#[]⟩ : ByteArray)⟩ : S44) [.int .i64 1, .int .i64 0, .string (⟨#[]⟩ : ByteArray)] from (k44_mkM _ _ _ (⟨1, 0, (⟨#[]⟩ : ByteArray)⟩ : S44) )) (Reps.c3 (show Kd.M k44 _ _ _ (⟨1, 0, (⟨#[]⟩ : ByteArray)⟩ : S44) [.int .i64 1, .int .i64 0, .string (⟨#[]⟩ : ByteArray)] from (k44_mkM _ _ _ (⟨1, 0, (⟨#[]⟩ : ByteArray)⟩ : S44) )) (Reps.c3 (show Kd.M k44 _ _ _ (⟨1, 0, (⟨#[]⟩ : ByteArray)⟩ : S44) [.int .i64 1, .int .i64 0, .string (⟨#[]⟩ : ByteArray)] from (k44_mkM _ _ _ (⟨1, 0, (⟨#[]⟩ : ByteArray)⟩ : S44) )) (Reps.c3 (show Kd.M k44 _ _ _ (⟨1, 0, (⟨#[]⟩ : ByteArray)⟩ : S44) [.int .i64 1, .int .i64 0, .string (⟨#[]⟩ : ByteArray)] from (k44_mkM _ _ _ (⟨1, 0, (⟨#[]⟩ : ByteArray)⟩ : S44) )) (Reps.none _ _))))))); intro v322 w30 ho31 hb hg_ hnew_; clear hg_ hnew_; (first | rw [← Ny321.out] at ho31 | (simp only [Int.reduceToNat] at ho31; rw [← Ny321.out] at ho31)); have n0_ := kb_ (ku_ HO312.out) hb; have n1_ := kb_ (ku_ HO315.out) hb; have n2_ := Aside0.mk (Kd.R_lower (Kd.R_newB ho31 (bu_ BK318)) (below_size (be_ HB))); have n3_ := bb_ (bu_ BK318) hb; have n4_ := bs_ (be_ HB) hb; clear HO312; clear HO315; clear BK318; clear HB; have HO312 := n0_; have HO315 := n1_; have HO323 := n2_; have BK318 := n3_; have HB := n4_; clear n0_ n1_ n2_ n3_ n4_; (try clear hcz29_0 hcz29_1 hcz29_2 hfz29_0 hfz29_1 hfz29_2); clear hb ho31; obtain ⟨Ao32, co32, eo32⟩ := Kd.R_slice HO323.out; subst eo32) | (go_at_call 23; (with_reducible refine (fact_Check.calls k (rdOf ByteArray.empty y310 (ji2)) _ _ y321 t324 _ ?side1 ?side2 A12.out).mono ?_); (case side1 => repeat (first | exact (Kd.R_reads' HO323.out).2.2 | (with_reducible refine Kd.C_alloc ?_ _) | (with_reducible refine Kd.C_drewN ?_ _) | (with_reducible refine Kd.C_drew ?_))); (case side2 => exact (Kd.R_reads' HO323.out).2.1); rintro e w33 ⟨rfl, hb⟩; have n0_ := kb_ (ku_ HO312.out) hb; have n1_ := kb_ (ku_ HO315.out) hb; have n2_ := kb_ (ku_ HO323.out) hb; have n3_ := bb_ (bu_ BK318) hb; have n4_ := bs_ (be_ HB) hb; clear HO312; clear HO315; clear HO323; clear BK318; clear HB; have HO312 := n0_; have HO315 := n1_; have HO323 := n2_; have BK318 := n3_; have HB := n4_; clear n0_ n1_ n2_ n3_ n4_; (try clear hb); (try clear hb2); (try clear hk); (try clear hi); have hcz34_0 : w33.cell? ⟨gb318, 0, none⟩ = some (.int .i64 1) := (blk_cell BK318.out 0).trans rfl; have hcz34_1 : w33.cell? ⟨gb318, 1, none⟩ = some (.int .i64 0) := (blk_cell BK318.out 1).trans rfl; have hcz34_2 : w33.cell? ⟨gb318, 2, none⟩ = some (.string (⟨#[]⟩ : ByteArray)) := (blk_cell BK318.out 2).trans rfl; have hfz34_0 := blk_frozen BK318.out 0; have hfz34_1 := blk_frozen BK318.out 1; have hfz34_2 := blk_frozen BK318.out 2) | ((with_reducible refine gate_dst (N := 52) rfl ?_); (try (refine gate_guard (by rfl) ?_; dsimp only)); refine Kd.R_lit k44 _ 44 ?hg (N := 52) ?hd (xs := ([(⟨1, 0, (⟨#[]⟩ : ByteArray)⟩ : S44), (⟨1, 0, (⟨#[]⟩ : ByteArray)⟩ : S44), (⟨1, 0, (⟨#[]⟩ : ByteArray)⟩ : S44), (⟨1, 0, (⟨#[]⟩ : ByteArray)⟩ : S44), (⟨1, 0, (⟨#[]⟩ : ByteArray)⟩ : S44), (⟨1, 0, (⟨#[]⟩ : ByteArray)⟩ : S44)] : List (S44))) (inner := [.int .i64 1, .int .i64 0, .string (⟨#[]⟩ : ByteArray), .int .i64 1, .int .i64 0, .string (⟨#[]⟩ : ByteArray), .int .i64 1, .int .i64 0, .string (⟨#[]⟩ : ByteArray), .int .i64 1, .int .i64 0, .string (⟨#[]⟩ : ByteArray), .int .i64 1, .int .i64 0, .string (⟨#[]⟩ : ByteArray), .int .i64 1, .int .i64 0, .string (⟨#[]⟩ : ByteArray)]) (ok := fun _ => True) (okp := fun _ => True) ?hr ?hp (fun _ hk => hk) trivial (Below.refl _ _) (Nat.le_refl _) (by simp) ?_; (case hd => rfl); (case hg => rfl); (case hr => first | (go_simp; done) | (go_simp; rfl)); (case hp => exact (Reps.c3 (show Kd.M k44 _ _ _ (⟨1, 0, (⟨#[]⟩ : ByteArray)⟩ : S44) [.int .i64 1, .int .i64 0, .string (⟨#[]⟩ : ByteArray)] from (k44_mkM _ _ _ (⟨1, 0, (⟨#[]⟩ : ByteArray)⟩ : S44) )) (Reps.c3 (show Kd.M k44 _ _ _ (⟨1, 0, (⟨#[]⟩ : ByteArray)⟩ : S44) [.int .i64 1, .int .i64 0, .string (⟨#[]⟩ : ByteArray)] from (k44_mkM _ _ _ (⟨1, 0, (⟨#[]⟩ : ByteArray)⟩ : S44) )) (Reps.c3 (show Kd.M k44 _ _ _ (⟨1, 0, (⟨#[]⟩ : ByteArray)⟩ : S44) [.int .i64 1, .int .i64 0, .string (⟨#[]⟩ : ByteArray)] from (k44_mkM _ _ _ (⟨1, 0, (⟨#[]⟩ : ByteArray)⟩ : S44) )) (Reps.c3 (show Kd.M k44 _ _ _ (⟨1, 0, (⟨#[]⟩ : ByteArray)⟩ : S44) [.int .i64 1, .int .i64 0, .string (⟨#[]⟩ : ByteArray)] from (k44_mkM _ _ _ (⟨1, 0, (⟨#[]⟩ : ByteArray)⟩ : S44) )) (Reps.c3 (show Kd.M k44 _ _ _ (⟨1, 0, (⟨#[]⟩ : ByteArray)⟩ : S44) [.int .i64 1, .int .i64 0, .string (⟨#[]⟩ : ByteArray)] from (k44_mkM _ _ _ (⟨1, 0, (⟨#[]⟩ : ByteArray)⟩ : S44) )) (Reps.c3 (show Kd.M k44 _ _ _ (⟨1, 0, (⟨#[]⟩ : ByteArray)⟩ : S44) [.int .i64 1, .int .i64 0, .string (⟨#[]⟩ : ByteArray)] from (k44_mkM _ _ _ (⟨1, 0, (⟨#[]⟩ : ByteArray)⟩ : S44) )) (Reps.none _ _)))))))); intro v326 w35 ho36 hb hg_ hnew_; clear hg_ hnew_; (first | rw [← Ny325.out] at ho36 | (simp only [Int.reduceToNat] at ho36; rw [← Ny325.out] at ho36)); have n0_ := kb_ (ku_ HO312.out) hb; have n1_ := kb_ (ku_ HO315.out) hb; have n2_ := Aside0.mk (Kd.R_elder' (ku_ HO323.out) (Kd.R_base ho36) hb); have n3_ := Aside0.mk (Kd.R_lower (Kd.R_newB (Kd.R_new' ho36 (Kd.R_lt (ku_ HO323.out))) (bu_ BK318)) (below_size (be_ HB))); have n4_ := bb_ (bu_ BK318) hb; have n5_ := bs_ (be_ HB) hb; clear HO312; clear HO315; clear HO323; clear BK318; clear HB; have HO312 := n0_; have HO315 := n1_; have HO323 := n2_; have HO327 := n3_; have BK318 := n4_; have HB := n5_; clear n0_ n1_ n2_ n3_ n4_ n5_; (try clear hcz34_0 hcz34_1 hcz34_2 hfz34_0 hfz34_1 hfz34_2); clear hb ho36; obtain ⟨Ao37, co37, eo37⟩ := Kd.R_slice HO327.out; subst eo37) | (go_at_call 23; (with_reducible refine (fact_Check.calls k (rdOf ByteArray.empty y310 (ji2)) _ _ y325 t328 _ ?side1 ?side2 A14.out).mono ?_); (case side1 => repeat (first | exact (Kd.R_reads' HO327.out).2.2 | (with_reducible refine Kd.C_alloc ?_ _) | (with_reducible refine Kd.C_drewN ?_ _) | (with_reducible refine Kd.C_drew ?_))); (case side2 => exact (Kd.R_reads' HO327.out).2.1); rintro e w38 ⟨rfl, hb⟩; have n0_ := kb_ (ku_ HO312.out) hb; have n1_ := kb_ (ku_ HO315.out) hb; have n2_ := kb_ (ku_ HO323.out) hb; have n3_ := kb_ (ku_ HO327.out) hb; have n4_ := bb_ (bu_ BK318) hb; have n5_ := bs_ (be_ HB) hb; clear HO312; clear HO315; clear HO323; clear HO327; clear BK318; clear HB; have HO312 := n0_; have HO315 := n1_; have HO323 := n2_; have HO327 := n3_; have BK318 := n4_; have HB := n5_; clear n0_ n1_ n2_ n3_ n4_ n5_; (try clear hb); (try clear hb2); (try clear hk); (try clear hi)) | (go_at_call 23; (refine (fact_Check.calls k (rdOf ByteArray.empty y313 (ji5)) none 0 ([] : List (S44)) t329 _ ?side1 ?side2 A16.out).mono ?_); (case side1 => exact Kd.C_nil _ _); (case side2 => exact Nat.le_refl _); rintro e w39 ⟨rfl, hb⟩; have n0_ := kb_ (ku_ HO312.out) hb; have n1_ := kb_ (ku_ HO315.out) hb; have n2_ := kb_ (ku_ HO323.out) hb; have n3_ := kb_ (ku_ HO327.out) hb; have n4_ := bb_ (bu_ BK318) hb; have n5_ := bs_ (be_ HB) hb; clear HO312; clear HO315; clear HO323; clear HO327; clear BK318; clear HB; have HO312 := n0_; have HO315 := n1_; have HO323 := n2_; have HO327 := n3_; have BK318 := n4_; have HB := n5_; clear n0_ n1_ n2_ n3_ n4_ n5_; (try clear hb); (try clear hb2); (try clear hk); (try clear hi); (try clear A16)) | (go_at_call 24; (with_reducible refine (constablelaw03_wakes.calls k  t330 _ A18.out HR_.out (tt_ HL_ (be_ HB))).mono ?_); rintro e w40 ⟨rfl, hb⟩; have n0_ := kb_ (ku_ HO312.out) hb; have n1_ := kb_ (ku_ HO315.out) hb; have n2_ := kb_ (ku_ HO323.out) hb; have n3_ := kb_ (ku_ HO327.out) hb; have n4_ := bb_ (bu_ BK318) hb; have n5_ := bs_ (be_ HB) hb; clear HO312; clear HO315; clear HO323; clear HO327; clear BK318; clear HB; have HO312 := n0_; have HO315 := n1_; have HO323 := n2_; have HO327 := n3_; have BK318 := n4_; have HB := n5_; clear n0_ n1_ n2_ n3_ n4_ n5_; (try clear hb); (try clear hb2); (try clear hk); (try clear hi)))
                    repeat (go_quiet (first | ((with_reducible refine gate_dst (N := 8) rfl ?_); (try (refine gate_guard (by rfl) ?_; dsimp only)); refine Kd.R_lit Kd.string _ 9 ?hg (N := 8) ?hd (xs := ([(⟨#[97]⟩ : ByteArray), (⟨#[97, 66, 95, 57]⟩ : ByteArray), (⟨#[102, 97, 99, 116, 115]⟩ : ByteArray), (⟨#[100, 114, 111, 112, 115]⟩ : ByteArray), (⟨#[110, 95, 111, 116]⟩ : ByteArray), (⟨#[97, 98, 99, 100, 101, 102, 103, 104, 105, 106, 107, 108, 109, 110, 111, 112, 113, 114, 115, 116, 117, 118, 119, 120]⟩ : ByteArray)] : List ByteArray)) (inner := [.string (⟨#[97]⟩ : ByteArray), .string (⟨#[97, 66, 95, 57]⟩ : ByteArray), .string (⟨#[102, 97, 99, 116, 115]⟩ : ByteArray), .string (⟨#[100, 114, 111, 112, 115]⟩ : ByteArray), .string (⟨#[110, 95, 111, 116]⟩ : ByteArray), .string (⟨#[97, 98, 99, 100, 101, 102, 103, 104, 105, 106, 107, 108, 109, 110, 111, 112, 113, 114, 115, 116, 117, 118, 119, 120]⟩ : ByteArray)]) (ok := fun _ => True) (okp := fun _ => True) ?hr ?hp (fun _ hk => hk) trivial (Below.refl _ _) (Nat.le_refl _) (by simp) ?_; (case hd => rfl); (case hg => rfl); (case hr => first | (go_simp; done) | (go_simp; rfl)); (case hp => exact (Reps.one (show Kd.M Kd.string _ _ _ (⟨#[97]⟩ : ByteArray) [.string (⟨#[97]⟩ : ByteArray)] from rfl) (Reps.one (show Kd.M Kd.string _ _ _ (⟨#[97, 66, 95, 57]⟩ : ByteArray) [.string (⟨#[97, 66, 95, 57]⟩ : ByteArray)] from rfl) (Reps.one (show Kd.M Kd.string _ _ _ (⟨#[102, 97, 99, 116, 115]⟩ : ByteArray) [.string (⟨#[102, 97, 99, 116, 115]⟩ : ByteArray)] from rfl) (Reps.one (show Kd.M Kd.string _ _ _ (⟨#[100, 114, 111, 112, 115]⟩ : ByteArray) [.string (⟨#[100, 114, 111, 112, 115]⟩ : ByteArray)] from rfl) (Reps.one (show Kd.M Kd.string _ _ _ (⟨#[110, 95, 111, 116]⟩ : ByteArray) [.string (⟨#[110, 95, 111, 116]⟩ : ByteArray)] from rfl) (Reps.one (show Kd.M Kd.string _ _ _ (⟨#[97, 98, 99, 100, 101, 102, 103, 104, 105, 106, 107, 108, 109, 110, 111, 112, 113, 114, 115, 116, 117, 118, 119, 120]⟩ : ByteArray) [.string (⟨#[97, 98, 99, 100, 101, 102, 103, 104, 105, 106, 107, 108, 109, 110, 111, 112, 113, 114, 115, 116, 117, 118, 119, 120]⟩ : ByteArray)] from rfl) (Reps.none _ _)))))))); intro v311 w19 ho20 hb hg_ hnew_; clear hg_ hnew_; (first | rw [← Ny310.out] at ho20 | (simp only [Int.reduceToNat] at ho20; rw [← Ny310.out] at ho20)); have n0_ := Aside0.mk (Kd.R_lower ho20 (below_size (be_ HB))); have n1_ := bs_ (be_ HB) hb; clear HB; have HO312 := n0_; have HB := n1_; clear n0_ n1_; clear hb ho20) | ((with_reducible refine gate_dst (N := 9) rfl ?_); (try (refine gate_guard (by rfl) ?_; dsimp only)); refine Kd.R_lit Kd.string _ 9 ?hg (N := 9) ?hd (xs := ([(⟨#[]⟩ : ByteArray), (⟨#[65]⟩ : ByteArray), (⟨#[95, 97]⟩ : ByteArray), (⟨#[57]⟩ : ByteArray), (⟨#[97, 45, 98]⟩ : ByteArray), (⟨#[102, 97, 99, 116]⟩ : ByteArray), (⟨#[114, 117, 108, 101]⟩ : ByteArray), (⟨#[112, 97, 116, 116, 101, 114, 110]⟩ : ByteArray), (⟨#[110, 111, 116]⟩ : ByteArray), (⟨#[97, 110, 100]⟩ : ByteArray), (⟨#[111, 114]⟩ : ByteArray), (⟨#[98, 101, 102, 111, 114, 101]⟩ : ByteArray), (⟨#[111, 110, 99, 101]⟩ : ByteArray), (⟨#[97, 108, 119, 97, 121, 115]⟩ : ByteArray), (⟨#[115, 105, 110, 99, 101]⟩ : ByteArray), (⟨#[100, 114, 111, 112]⟩ : ByteArray), (⟨#[97, 98, 99, 100, 101, 102, 103, 104, 105, 106, 107, 108, 109, 110, 111, 112, 113, 114, 115, 116, 117, 118, 119, 120, 121]⟩ : ByteArray)] : List ByteArray)) (inner := [.string (⟨#[]⟩ : ByteArray), .string (⟨#[65]⟩ : ByteArray), .string (⟨#[95, 97]⟩ : ByteArray), .string (⟨#[57]⟩ : ByteArray), .string (⟨#[97, 45, 98]⟩ : ByteArray), .string (⟨#[102, 97, 99, 116]⟩ : ByteArray), .string (⟨#[114, 117, 108, 101]⟩ : ByteArray), .string (⟨#[112, 97, 116, 116, 101, 114, 110]⟩ : ByteArray), .string (⟨#[110, 111, 116]⟩ : ByteArray), .string (⟨#[97, 110, 100]⟩ : ByteArray), .string (⟨#[111, 114]⟩ : ByteArray), .string (⟨#[98, 101, 102, 111, 114, 101]⟩ : ByteArray), .string (⟨#[111, 110, 99, 101]⟩ : ByteArray), .string (⟨#[97, 108, 119, 97, 121, 115]⟩ : ByteArray), .string (⟨#[115, 105, 110, 99, 101]⟩ : ByteArray), .string (⟨#[100, 114, 111, 112]⟩ : ByteArray), .string (⟨#[97, 98, 99, 100, 101, 102, 103, 104, 105, 106, 107, 108, 109, 110, 111, 112, 113, 114, 115, 116, 117, 118, 119, 120, 121]⟩ : ByteArray)]) (ok := fun _ => True) (okp := fun _ => True) ?hr ?hp (fun _ hk => hk) trivial (Below.refl _ _) (Nat.le_refl _) (by simp) ?_; (case hd => rfl); (case hg => rfl); (case hr => first | (go_simp; done) | (go_simp; rfl)); (case hp => exact (Reps.one (show Kd.M Kd.string _ _ _ (⟨#[]⟩ : ByteArray) [.string (⟨#[]⟩ : ByteArray)] from rfl) (Reps.one (show Kd.M Kd.string _ _ _ (⟨#[65]⟩ : ByteArray) [.string (⟨#[65]⟩ : ByteArray)] from rfl) (Reps.one (show Kd.M Kd.string _ _ _ (⟨#[95, 97]⟩ : ByteArray) [.string (⟨#[95, 97]⟩ : ByteArray)] from rfl) (Reps.one (show Kd.M Kd.string _ _ _ (⟨#[57]⟩ : ByteArray) [.string (⟨#[57]⟩ : ByteArray)] from rfl) (Reps.one (show Kd.M Kd.string _ _ _ (⟨#[97, 45, 98]⟩ : ByteArray) [.string (⟨#[97, 45, 98]⟩ : ByteArray)] from rfl) (Reps.one (show Kd.M Kd.string _ _ _ (⟨#[102, 97, 99, 116]⟩ : ByteArray) [.string (⟨#[102, 97, 99, 116]⟩ : ByteArray)] from rfl) (Reps.one (show Kd.M Kd.string _ _ _ (⟨#[114, 117, 108, 101]⟩ : ByteArray) [.string (⟨#[114, 117, 108, 101]⟩ : ByteArray)] from rfl) (Reps.one (show Kd.M Kd.string _ _ _ (⟨#[112, 97, 116, 116, 101, 114, 110]⟩ : ByteArray) [.string (⟨#[112, 97, 116, 116, 101, 114, 110]⟩ : ByteArray)] from rfl) (Reps.one (show Kd.M Kd.string _ _ _ (⟨#[110, 111, 116]⟩ : ByteArray) [.string (⟨#[110, 111, 116]⟩ : ByteArray)] from rfl) (Reps.one (show Kd.M Kd.string _ _ _ (⟨#[97, 110, 100]⟩ : ByteArray) [.string (⟨#[97, 110, 100]⟩ : ByteArray)] from rfl) (Reps.one (show Kd.M Kd.string _ _ _ (⟨#[111, 114]⟩ : ByteArray) [.string (⟨#[111, 114]⟩ : ByteArray)] from rfl) (Reps.one (show Kd.M Kd.string _ _ _ (⟨#[98, 101, 102, 111, 114, 101]⟩ : ByteArray) [.string (⟨#[98, 101, 102, 111, 114, 101]⟩ : ByteArray)] from rfl) (Reps.one (show Kd.M Kd.string _ _ _ (⟨#[111, 110, 99, 101]⟩ : ByteArray) [.string (⟨#[111, 110, 99, 101]⟩ : ByteArray)] from rfl) (Reps.one (show Kd.M Kd.string _ _ _ (⟨#[97, 108, 119, 97, 121, 115]⟩ : ByteArray) [.string (⟨#[97, 108, 119, 97, 121, 115]⟩ : ByteArray)] from rfl) (Reps.one (show Kd.M Kd.string _ _ _ (⟨#[115, 105, 110, 99, 101]⟩ : ByteArray) [.string (⟨#[115, 105, 110, 99, 101]⟩ : ByteArray)] from rfl) (Reps.one (show Kd.M Kd.string _ _ _ (⟨#[100, 114, 111, 112]⟩ : ByteArray) [.string (⟨#[100, 114, 111, 112]⟩ : ByteArray)] from rfl) (Reps.one (show Kd.M Kd.string _ _ _ (⟨#[97, 98, 99, 100, 101, 102, 103, 104, 105, 106, 107, 108, 109, 110, 111, 112, 113, 114, 115, 116, 117, 118, 119, 120, 121]⟩ : ByteArray) [.string (⟨#[97, 98, 99, 100, 101, 102, 103, 104, 105, 106, 107, 108, 109, 110, 111, 112, 113, 114, 115, 116, 117, 118, 119, 120, 121]⟩ : ByteArray)] from rfl) (Reps.none _ _))))))))))))))))))); intro v314 w21 ho22 hb hg_ hnew_; clear hg_ hnew_; (first | rw [← Ny313.out] at ho22 | (simp only [Int.reduceToNat] at ho22; rw [← Ny313.out] at ho22)); have n0_ := Aside0.mk (Kd.R_elder' (ku_ HO312.out) (Kd.R_base ho22) hb); have n1_ := Aside0.mk (Kd.R_lower (Kd.R_new' ho22 (Kd.R_lt (ku_ HO312.out))) (below_size (be_ HB))); have n2_ := bs_ (be_ HB) hb; clear HO312; clear HB; have HO312 := n0_; have HO315 := n1_; have HB := n2_; clear n0_ n1_ n2_; clear hb ho22; obtain ⟨Ao23, co23, eo23⟩ := Kd.R_slice HO312.out; subst eo23; have p316 : 0 ≤ ((ji2) : Int) := dt_; have q316 : (ji2) < (y310.length : Int) := dt_; obtain ⟨ad316, e316, hx316_0⟩ := Kd.at_string (Kd.R_reads' HO312.out).2.2 (ji2) p316 q316; cases e316; replace p316 := eq_true p316; replace q316 := eq_true q316; obtain ⟨Ao24, co24, eo24⟩ := Kd.R_slice HO315.out; subst eo24; have p317 : 0 ≤ ((ji5) : Int) := dt_; have q317 : (ji5) < (y313.length : Int) := dt_; obtain ⟨ad317, e317, hx317_0⟩ := Kd.at_string (Kd.R_reads' HO315.out).2.2 (ji5) p317 q317; cases e317; replace p317 := eq_true p317; replace q317 := eq_true q317) | ((with_reducible refine gate_dst (N := 7) rfl ?_); (try (refine gate_guard (by rfl) ?_; dsimp only)); refine box_event ?hg (N := 7) ?hd (cs := #[.int .i64 0, .int .i64 0, .string (⟨#[]⟩ : ByteArray)]) (t := 44) ?hr ?_; (case hd => rfl); (case hg => rfl); (case hr => first | (go_simp; done) | (go_simp; rfl)); intro gb318 hg w25 hbox hb; have n0_ := kb_ (ku_ HO312.out) hb; have n1_ := kb_ (ku_ HO315.out) hb; have n2_ := bs_ (be_ HB) hb; have n3_ := Aside0.mk (hbox); have n4_ := gs_ hg (be_ HB); have n5_ := gs_ hg (be_ HB); clear HO312; clear HO315; clear HB; have HO312 := n0_; have HO315 := n1_; have HB := n2_; have BK318 := n3_; have GW318 := n4_; have GE318 := n5_; clear n0_ n1_ n2_ n3_ n4_ n5_; clear hb hbox hg; have hcz26_0 : w25.cell? ⟨gb318, 0, none⟩ = some (.int .i64 0) := (blk_cell BK318.out 0).trans rfl; have hcz26_1 : w25.cell? ⟨gb318, 1, none⟩ = some (.int .i64 0) := (blk_cell BK318.out 1).trans rfl; have hcz26_2 : w25.cell? ⟨gb318, 2, none⟩ = some (.string (⟨#[]⟩ : ByteArray)) := (blk_cell BK318.out 2).trans rfl; have hfz26_0 := blk_frozen BK318.out 0; have hfz26_1 := blk_frozen BK318.out 1; have hfz26_2 := blk_frozen BK318.out 2) | (go_at_call 15; (with_reducible refine (fact_Name.calls k (rdOf ByteArray.empty y310 (ji2)) true _ A8.out).mono ?_); rintro e w27 ⟨rfl, hb⟩; have n0_ := Aside0.mk (Kd.R_below (ku_ (Kd.R_mono (Kd.R_far (p := ⟨gb318, 2, none⟩) (Kd.R_far (p := ⟨gb318, 1, none⟩) (Kd.R_far (p := ⟨gb318, 0, none⟩) (Kd.R_types HO312.out BK318.out (by decide)) (fun _ hk => hk.2) (.int .i64 1)) (fun _ hk => hk.2) (.int .i64 0)) (fun _ hk => hk.2) (.string (⟨#[]⟩ : ByteArray))) (fun _ h_ => h_.1))) hb); have n1_ := Aside0.mk (Kd.R_below (ku_ (Kd.R_mono (Kd.R_far (p := ⟨gb318, 2, none⟩) (Kd.R_far (p := ⟨gb318, 1, none⟩) (Kd.R_far (p := ⟨gb318, 0, none⟩) (Kd.R_types HO315.out BK318.out (by decide)) (fun _ hk => hk.2) (.int .i64 1)) (fun _ hk => hk.2) (.int .i64 0)) (fun _ hk => hk.2) (.string (⟨#[]⟩ : ByteArray))) (fun _ h_ => h_.1))) hb); have n2_ := Aside0.mk (blk_below (o := .cells #[.int .i64 1, .int .i64 0, .string (⟨#[]⟩ : ByteArray)] 44 (0, 0)) (bp_ BK318) hb); have n3_ := bs_ (be_ HB) hb; clear HO312; clear HO315; clear BK318; clear HB; have HO312 := n0_; have HO315 := n1_; have BK318 := n2_; have HB := n3_; clear n0_ n1_ n2_ n3_; (try clear hb); (try clear hb2); (try clear hk); (try clear hi)) | (go_at_call 15; (with_reducible refine (fact_Name.calls k (rdOf ByteArray.empty y313 (ji5)) false _ A10.out).mono ?_); rintro e w28 ⟨rfl, hb⟩; have n0_ := kb_ (ku_ HO312.out) hb; have n1_ := kb_ (ku_ HO315.out) hb; have n2_ := bb_ (bu_ BK318) hb; have n3_ := bs_ (be_ HB) hb; clear HO312; clear HO315; clear BK318; clear HB; have HO312 := n0_; have HO315 := n1_; have BK318 := n2_; have HB := n3_; clear n0_ n1_ n2_ n3_; (try clear hb); (try clear hb2); (try clear hk); (try clear hi); have hcz29_0 : w28.cell? ⟨gb318, 0, none⟩ = some (.int .i64 1) := (blk_cell BK318.out 0).trans rfl; have hcz29_1 : w28.cell? ⟨gb318, 1, none⟩ = some (.int .i64 0) := (blk_cell BK318.out 1).trans rfl; have hcz29_2 : w28.cell? ⟨gb318, 2, none⟩ = some (.string (⟨#[]⟩ : ByteArray)) := (blk_cell BK318.out 2).trans rfl; have hfz29_0 := blk_frozen BK318.out 0; have hfz29_1 := blk_frozen BK318.out 1; have hfz29_2 := blk_frozen BK318.out 2) | ((with_reducible refine gate_dst (N := 39) rfl ?_); (try (refine gate_guard (by rfl) ?_; dsimp only)); refine Kd.R_lit k44 _ 44 ?hg (N := 39) ?hd (xs := ([(⟨1, 0, (⟨#[]⟩ : ByteArray)⟩ : S44), (⟨1, 0, (⟨#[]⟩ : ByteArray)⟩ : S44), (⟨1, 0, (⟨#[]⟩ : ByteArray)⟩ : S44), (⟨1, 0, (⟨#[]⟩ : ByteArray)⟩ : S44), (⟨1, 0, (⟨#[]⟩ : ByteArray)⟩ : S44)] : List (S44))) (inner := [.int .i64 1, .int .i64 0, .string (⟨#[]⟩ : ByteArray), .int .i64 1, .int .i64 0, .string (⟨#[]⟩ : ByteArray), .int .i64 1, .int .i64 0, .string (⟨#[]⟩ : ByteArray), .int .i64 1, .int .i64 0, .string (⟨#[]⟩ : ByteArray), .int .i64 1, .int .i64 0, .string (⟨#[]⟩ : ByteArray)]) (ok := fun _ => True) (okp := fun _ => True) ?hr ?hp (fun _ hk => hk) trivial (Below.refl _ _) (Nat.le_refl _) (by simp) ?_; (case hd => rfl); (case hg => rfl); (case hr => first | (go_simp; done) | (go_simp; rfl)); (case hp => exact (Reps.c3 (show Kd.M k44 _ _ _ (⟨1, 0, (⟨#[]⟩ : ByteArray)⟩ : S44) [.int .i64 1, .int .i64 0, .string (⟨#[]⟩ : ByteArray)] from (k44_mkM _ _ _ (⟨1, 0, (⟨#[]⟩ : ByteArray)⟩ : S44) )) (Reps.c3 (show Kd.M k44 _ _ _ (⟨1, 0, (⟨#[]⟩ : ByteArray)⟩ : S44) [.int .i64 1, .int .i64 0, .string (⟨#[]⟩ : ByteArray)] from (k44_mkM _ _ _ (⟨1, 0, (⟨#[]⟩ : ByteArray)⟩ : S44) )) (Reps.c3 (show Kd.M k44 _ _ _ (⟨1, 0, (⟨#[]⟩ : ByteArray)⟩ : S44) [.int .i64 1, .int .i64 0, .string (⟨#[]⟩ : ByteArray)] from (k44_mkM _ _ _ (⟨1, 0, (⟨#[]⟩ : ByteArray)⟩ : S44) )) (Reps.c3 (show Kd.M k44 _ _ _ (⟨1, 0, (⟨#[]⟩ : ByteArray)⟩ : S44) [.int .i64 1, .int .i64 0, .string (⟨#[]⟩ : ByteArray)] from (k44_mkM _ _ _ (⟨1, 0, (⟨#[]⟩ : ByteArray)⟩ : S44) )) (Reps.c3 (show Kd.M k44 _ _ _ (⟨1, 0, (⟨#[]⟩ : ByteArray)⟩ : S44) [.int .i64 1, .int .i64 0, .string (⟨#[]⟩ : ByteArray)] from (k44_mkM _ _ _ (⟨1, 0, (⟨#[]⟩ : ByteArray)⟩ : S44) )) (Reps.none _ _))))))); intro v322 w30 ho31 hb hg_ hnew_; clear hg_ hnew_; (first | rw [← Ny321.out] at ho31 | (simp only [Int.reduceToNat] at ho31; rw [← Ny321.out] at ho31)); have n0_ := kb_ (ku_ HO312.out) hb; have n1_ := kb_ (ku_ HO315.out) hb; have n2_ := Aside0.mk (Kd.R_lower (Kd.R_newB ho31 (bu_ BK318)) (below_size (be_ HB))); have n3_ := bb_ (bu_ BK318) hb; have n4_ := bs_ (be_ HB) hb; clear HO312; clear HO315; clear BK318; clear HB; have HO312 := n0_; have HO315 := n1_; have HO323 := n2_; have BK318 := n3_; have HB := n4_; clear n0_ n1_ n2_ n3_ n4_; clear hb ho31; obtain ⟨Ao32, co32, eo32⟩ := Kd.R_slice HO323.out; subst eo32) | (go_at_call 23; (with_reducible refine (fact_Check.calls k (rdOf ByteArray.empty y310 (ji2)) _ _ y321 t324 _ ?side1 ?side2 A12.out).mono ?_); (case side1 => repeat (first | exact (Kd.R_reads' HO323.out).2.2 | (with_reducible refine Kd.C_alloc ?_ _) | (with_reducible refine Kd.C_drewN ?_ _) | (with_reducible refine Kd.C_drew ?_))); (case side2 => exact (Kd.R_reads' HO323.out).2.1); rintro e w33 ⟨rfl, hb⟩; have n0_ := kb_ (ku_ HO312.out) hb; have n1_ := kb_ (ku_ HO315.out) hb; have n2_ := kb_ (ku_ HO323.out) hb; have n3_ := bb_ (bu_ BK318) hb; have n4_ := bs_ (be_ HB) hb; clear HO312; clear HO315; clear HO323; clear BK318; clear HB; have HO312 := n0_; have HO315 := n1_; have HO323 := n2_; have BK318 := n3_; have HB := n4_; clear n0_ n1_ n2_ n3_ n4_; (try clear hb); (try clear hb2); (try clear hk); (try clear hi); have hcz34_0 : w33.cell? ⟨gb318, 0, none⟩ = some (.int .i64 1) := (blk_cell BK318.out 0).trans rfl; have hcz34_1 : w33.cell? ⟨gb318, 1, none⟩ = some (.int .i64 0) := (blk_cell BK318.out 1).trans rfl; have hcz34_2 : w33.cell? ⟨gb318, 2, none⟩ = some (.string (⟨#[]⟩ : ByteArray)) := (blk_cell BK318.out 2).trans rfl; have hfz34_0 := blk_frozen BK318.out 0; have hfz34_1 := blk_frozen BK318.out 1; have hfz34_2 := blk_frozen BK318.out 2) | ((with_reducible refine gate_dst (N := 52) rfl ?_); (try (refine gate_guard (by rfl) ?_; dsimp only)); refine Kd.R_lit k44 _ 44 ?hg (N := 52) ?hd (xs := ([(⟨1, 0, (⟨#[]⟩ : ByteArray)⟩ : S44), (⟨1, 0, (⟨#[]⟩ : ByteArray)⟩ : S44), (⟨1, 0, (⟨#[]⟩ : ByteArray)⟩ : S44), (⟨1, 0, (⟨#[]⟩ : ByteArray)⟩ : S44), (⟨1, 0, (⟨#[]⟩ : ByteArray)⟩ : S44), (⟨1, 0, (⟨#[]⟩ : ByteArray)⟩ : S44)] : List (S44))) (inner := [.int .i64 1, .int .i64 0, .string (⟨#[]⟩ : ByteArray), .int .i64 1, .int .i64 0, .string (⟨#[]⟩ : ByteArray), .int .i64 1, .int .i64 0, .string (⟨#[]⟩ : ByteArray), .int .i64 1, .int .i64 0, .string (⟨#[]⟩ : ByteArray), .int .i64 1, .int .i64 0, .string (⟨#[]⟩ : ByteArray), .int .i64 1, .int .i64 0, .string (⟨#[]⟩ : ByteArray)]) (ok := fun _ => True) (okp := fun _ => True) ?hr ?hp (fun _ hk => hk) trivial (Below.refl _ _) (Nat.le_refl _) (by simp) ?_; (case hd => rfl); (case hg => rfl); (case hr => first | (go_simp; done) | (go_simp; rfl)); (case hp => exact (Reps.c3 (show Kd.M k44 _ _ _ (⟨1, 0, (⟨#[]⟩ : ByteArray)⟩ : S44) [.int .i64 1, .int .i64 0, .string (⟨#[]⟩ : ByteArray)] from (k44_mkM _ _ _ (⟨1, 0, (⟨#[]⟩ : ByteArray)⟩ : S44) )) (Reps.c3 (show Kd.M k44 _ _ _ (⟨1, 0, (⟨#[]⟩ : ByteArray)⟩ : S44) [.int .i64 1, .int .i64 0, .string (⟨#[]⟩ : ByteArray)] from (k44_mkM _ _ _ (⟨1, 0, (⟨#[]⟩ : ByteArray)⟩ : S44) )) (Reps.c3 (show Kd.M k44 _ _ _ (⟨1, 0, (⟨#[]⟩ : ByteArray)⟩ : S44) [.int .i64 1, .int .i64 0, .string (⟨#[]⟩ : ByteArray)] from (k44_mkM _ _ _ (⟨1, 0, (⟨#[]⟩ : ByteArray)⟩ : S44) )) (Reps.c3 (show Kd.M k44 _ _ _ (⟨1, 0, (⟨#[]⟩ : ByteArray)⟩ : S44) [.int .i64 1, .int .i64 0, .string (⟨#[]⟩ : ByteArray)] from (k44_mkM _ _ _ (⟨1, 0, (⟨#[]⟩ : ByteArray)⟩ : S44) )) (Reps.c3 (show Kd.M k44 _ _ _ (⟨1, 0, (⟨#[]⟩ : ByteArray)⟩ : S44) [.int .i64 1, .int .i64 0, .string (⟨#[]⟩ : ByteArray)] from (k44_mkM _ _ _ (⟨1, 0, (⟨#[]⟩ : ByteArray)⟩ : S44) )) (Reps.c3 (show Kd.M k44 _ _ _ (⟨1, 0, (⟨#[]⟩ : ByteArray)⟩ : S44) [.int .i64 1, .int .i64 0, .string (⟨#[]⟩ : ByteArray)] from (k44_mkM _ _ _ (⟨1, 0, (⟨#[]⟩ : ByteArray)⟩ : S44) )) (Reps.none _ _)))))))); intro v326 w35 ho36 hb hg_ hnew_; clear hg_ hnew_; (first | rw [← Ny325.out] at ho36 | (simp only [Int.reduceToNat] at ho36; rw [← Ny325.out] at ho36)); have n0_ := kb_ (ku_ HO312.out) hb; have n1_ := kb_ (ku_ HO315.out) hb; have n2_ := Aside0.mk (Kd.R_elder' (ku_ HO323.out) (Kd.R_base ho36) hb); have n3_ := Aside0.mk (Kd.R_lower (Kd.R_newB (Kd.R_new' ho36 (Kd.R_lt (ku_ HO323.out))) (bu_ BK318)) (below_size (be_ HB))); have n4_ := bb_ (bu_ BK318) hb; have n5_ := bs_ (be_ HB) hb; clear HO312; clear HO315; clear HO323; clear BK318; clear HB; have HO312 := n0_; have HO315 := n1_; have HO323 := n2_; have HO327 := n3_; have BK318 := n4_; have HB := n5_; clear n0_ n1_ n2_ n3_ n4_ n5_; clear hb ho36; obtain ⟨Ao37, co37, eo37⟩ := Kd.R_slice HO327.out; subst eo37) | (go_at_call 23; (with_reducible refine (fact_Check.calls k (rdOf ByteArray.empty y310 (ji2)) _ _ y325 t328 _ ?side1 ?side2 A14.out).mono ?_); (case side1 => repeat (first | exact (Kd.R_reads' HO327.out).2.2 | (with_reducible refine Kd.C_alloc ?_ _) | (with_reducible refine Kd.C_drewN ?_ _) | (with_reducible refine Kd.C_drew ?_))); (case side2 => exact (Kd.R_reads' HO327.out).2.1); rintro e w38 ⟨rfl, hb⟩; have n0_ := kb_ (ku_ HO312.out) hb; have n1_ := kb_ (ku_ HO315.out) hb; have n2_ := kb_ (ku_ HO323.out) hb; have n3_ := kb_ (ku_ HO327.out) hb; have n4_ := bb_ (bu_ BK318) hb; have n5_ := bs_ (be_ HB) hb; clear HO312; clear HO315; clear HO323; clear HO327; clear BK318; clear HB; have HO312 := n0_; have HO315 := n1_; have HO323 := n2_; have HO327 := n3_; have BK318 := n4_; have HB := n5_; clear n0_ n1_ n2_ n3_ n4_ n5_; (try clear hb); (try clear hb2); (try clear hk); (try clear hi)) | (go_at_call 23; (refine (fact_Check.calls k (rdOf ByteArray.empty y313 (ji5)) none 0 ([] : List (S44)) t329 _ ?side1 ?side2 A16.out).mono ?_); (case side1 => exact Kd.C_nil _ _); (case side2 => exact Nat.le_refl _); rintro e w39 ⟨rfl, hb⟩; have n0_ := kb_ (ku_ HO312.out) hb; have n1_ := kb_ (ku_ HO315.out) hb; have n2_ := kb_ (ku_ HO323.out) hb; have n3_ := kb_ (ku_ HO327.out) hb; have n4_ := bb_ (bu_ BK318) hb; have n5_ := bs_ (be_ HB) hb; clear HO312; clear HO315; clear HO323; clear HO327; clear BK318; clear HB; have HO312 := n0_; have HO315 := n1_; have HO323 := n2_; have HO327 := n3_; have BK318 := n4_; have HB := n5_; clear n0_ n1_ n2_ n3_ n4_ n5_; (try clear hb); (try clear hb2); (try clear hk); (try clear hi)) | (go_at_call 24; (with_reducible refine (constablelaw03_wakes.calls k  t330 _ A18.out HR_.out (tt_ HL_ (be_ HB))).mono ?_); rintro e w40 ⟨rfl, hb⟩; have n0_ := kb_ (ku_ HO312.out) hb; have n1_ := kb_ (ku_ HO315.out) hb; have n2_ := kb_ (ku_ HO323.out) hb; have n3_ := kb_ (ku_ HO327.out) hb; have n4_ := bb_ (bu_ BK318) hb; have n5_ := bs_ (be_ HB) hb; clear HO312; clear HO315; clear HO323; clear HO327; clear BK318; clear HB; have HO312 := n0_; have HO315 := n1_; have HO323 := n2_; have HO327 := n3_; have BK318 := n4_; have HB := n5_; clear n0_ n1_ n2_ n3_ n4_ n5_; (try clear hb); (try clear hb2); (try clear hk); (try clear hi))); try go_wp2_with (first | ((with_reducible refine gate_dst (N := 8) rfl ?_); (try (refine gate_guard (by rfl) ?_; dsimp only)); refine Kd.R_lit Kd.string _ 9 ?hg (N := 8) ?hd (xs := ([(⟨#[97]⟩ : ByteArray), (⟨#[97, 66, 95, 57]⟩ : ByteArray), (⟨#[102, 97, 99, 116, 115]⟩ : ByteArray), (⟨#[100, 114, 111, 112, 115]⟩ : ByteArray), (⟨#[110, 95, 111, 116]⟩ : ByteArray), (⟨#[97, 98, 99, 100, 101, 102, 103, 104, 105, 106, 107, 108, 109, 110, 111, 112, 113, 114, 115, 116, 117, 118, 119, 120]⟩ : ByteArray)] : List ByteArray)) (inner := [.string (⟨#[97]⟩ : ByteArray), .string (⟨#[97, 66, 95, 57]⟩ : ByteArray), .string (⟨#[102, 97, 99, 116, 115]⟩ : ByteArray), .string (⟨#[100, 114, 111, 112, 115]⟩ : ByteArray), .string (⟨#[110, 95, 111, 116]⟩ : ByteArray), .string (⟨#[97, 98, 99, 100, 101, 102, 103, 104, 105, 106, 107, 108, 109, 110, 111, 112, 113, 114, 115, 116, 117, 118, 119, 120]⟩ : ByteArray)]) (ok := fun _ => True) (okp := fun _ => True) ?hr ?hp (fun _ hk => hk) trivial (Below.refl _ _) (Nat.le_refl _) (by simp) ?_; (case hd => rfl); (case hg => rfl); (case hr => first | (go_simp; done) | (go_simp; rfl)); (case hp => exact (Reps.one (show Kd.M Kd.string _ _ _ (⟨#[97]⟩ : ByteArray) [.string (⟨#[97]⟩ : ByteArray)] from rfl) (Reps.one (show Kd.M Kd.string _ _ _ (⟨#[97, 66, 95, 57]⟩ : ByteArray) [.string (⟨#[97, 66, 95, 57]⟩ : ByteArray)] from rfl) (Reps.one (show Kd.M Kd.string _ _ _ (⟨#[102, 97, 99, 116, 115]⟩ : ByteArray) [.string (⟨#[102, 97, 99, 116, 115]⟩ : ByteArray)] from rfl) (Reps.one (show Kd.M Kd.string _ _ _ (⟨#[100, 114, 111, 112, 115]⟩ : ByteArray) [.string (⟨#[100, 114, 111, 112, 115]⟩ : ByteArray)] from rfl) (Reps.one (show Kd.M Kd.string _ _ _ (⟨#[110, 95, 111, 116]⟩ : ByteArray) [.string (⟨#[110, 95, 111, 116]⟩ : ByteArray)] from rfl) (Reps.one (show Kd.M Kd.string _ _ _ (⟨#[97, 98, 99, 100, 101, 102, 103, 104, 105, 106, 107, 108, 109, 110, 111, 112, 113, 114, 115, 116, 117, 118, 119, 120]⟩ : ByteArray) [.string (⟨#[97, 98, 99, 100, 101, 102, 103, 104, 105, 106, 107, 108, 109, 110, 111, 112, 113, 114, 115, 116, 117, 118, 119, 120]⟩ : ByteArray)] from rfl) (Reps.none _ _)))))))); intro v311 w19 ho20 hb hg_ hnew_; clear hg_ hnew_; (first | rw [← Ny310.out] at ho20 | (simp only [Int.reduceToNat] at ho20; rw [← Ny310.out] at ho20)); have n0_ := Aside0.mk (Kd.R_lower ho20 (below_size (be_ HB))); have n1_ := bs_ (be_ HB) hb; clear HB; have HO312 := n0_; have HB := n1_; clear n0_ n1_; clear hb ho20) | ((with_reducible refine gate_dst (N := 9) rfl ?_); (try (refine gate_guard (by rfl) ?_; dsimp only)); refine Kd.R_lit Kd.string _ 9 ?hg (N := 9) ?hd (xs := ([(⟨#[]⟩ : ByteArray), (⟨#[65]⟩ : ByteArray), (⟨#[95, 97]⟩ : ByteArray), (⟨#[57]⟩ : ByteArray), (⟨#[97, 45, 98]⟩ : ByteArray), (⟨#[102, 97, 99, 116]⟩ : ByteArray), (⟨#[114, 117, 108, 101]⟩ : ByteArray), (⟨#[112, 97, 116, 116, 101, 114, 110]⟩ : ByteArray), (⟨#[110, 111, 116]⟩ : ByteArray), (⟨#[97, 110, 100]⟩ : ByteArray), (⟨#[111, 114]⟩ : ByteArray), (⟨#[98, 101, 102, 111, 114, 101]⟩ : ByteArray), (⟨#[111, 110, 99, 101]⟩ : ByteArray), (⟨#[97, 108, 119, 97, 121, 115]⟩ : ByteArray), (⟨#[115, 105, 110, 99, 101]⟩ : ByteArray), (⟨#[100, 114, 111, 112]⟩ : ByteArray), (⟨#[97, 98, 99, 100, 101, 102, 103, 104, 105, 106, 107, 108, 109, 110, 111, 112, 113, 114, 115, 116, 117, 118, 119, 120, 121]⟩ : ByteArray)] : List ByteArray)) (inner := [.string (⟨#[]⟩ : ByteArray), .string (⟨#[65]⟩ : ByteArray), .string (⟨#[95, 97]⟩ : ByteArray), .string (⟨#[57]⟩ : ByteArray), .string (⟨#[97, 45, 98]⟩ : ByteArray), .string (⟨#[102, 97, 99, 116]⟩ : ByteArray), .string (⟨#[114, 117, 108, 101]⟩ : ByteArray), .string (⟨#[112, 97, 116, 116, 101, 114, 110]⟩ : ByteArray), .string (⟨#[110, 111, 116]⟩ : ByteArray), .string (⟨#[97, 110, 100]⟩ : ByteArray), .string (⟨#[111, 114]⟩ : ByteArray), .string (⟨#[98, 101, 102, 111, 114, 101]⟩ : ByteArray), .string (⟨#[111, 110, 99, 101]⟩ : ByteArray), .string (⟨#[97, 108, 119, 97, 121, 115]⟩ : ByteArray), .string (⟨#[115, 105, 110, 99, 101]⟩ : ByteArray), .string (⟨#[100, 114, 111, 112]⟩ : ByteArray), .string (⟨#[97, 98, 99, 100, 101, 102, 103, 104, 105, 106, 107, 108, 109, 110, 111, 112, 113, 114, 115, 116, 117, 118, 119, 120, 121]⟩ : ByteArray)]) (ok := fun _ => True) (okp := fun _ => True) ?hr ?hp (fun _ hk => hk) trivial (Below.refl _ _) (Nat.le_refl _) (by simp) ?_; (case hd => rfl); (case hg => rfl); (case hr => first | (go_simp; done) | (go_simp; rfl)); (case hp => exact (Reps.one (show Kd.M Kd.string _ _ _ (⟨#[]⟩ : ByteArray) [.string (⟨#[]⟩ : ByteArray)] from rfl) (Reps.one (show Kd.M Kd.string _ _ _ (⟨#[65]⟩ : ByteArray) [.string (⟨#[65]⟩ : ByteArray)] from rfl) (Reps.one (show Kd.M Kd.string _ _ _ (⟨#[95, 97]⟩ : ByteArray) [.string (⟨#[95, 97]⟩ : ByteArray)] from rfl) (Reps.one (show Kd.M Kd.string _ _ _ (⟨#[57]⟩ : ByteArray) [.string (⟨#[57]⟩ : ByteArray)] from rfl) (Reps.one (show Kd.M Kd.string _ _ _ (⟨#[97, 45, 98]⟩ : ByteArray) [.string (⟨#[97, 45, 98]⟩ : ByteArray)] from rfl) (Reps.one (show Kd.M Kd.string _ _ _ (⟨#[102, 97, 99, 116]⟩ : ByteArray) [.string (⟨#[102, 97, 99, 116]⟩ : ByteArray)] from rfl) (Reps.one (show Kd.M Kd.string _ _ _ (⟨#[114, 117, 108, 101]⟩ : ByteArray) [.string (⟨#[114, 117, 108, 101]⟩ : ByteArray)] from rfl) (Reps.one (show Kd.M Kd.string _ _ _ (⟨#[112, 97, 116, 116, 101, 114, 110]⟩ : ByteArray) [.string (⟨#[112, 97, 116, 116, 101, 114, 110]⟩ : ByteArray)] from rfl) (Reps.one (show Kd.M Kd.string _ _ _ (⟨#[110, 111, 116]⟩ : ByteArray) [.string (⟨#[110, 111, 116]⟩ : ByteArray)] from rfl) (Reps.one (show Kd.M Kd.string _ _ _ (⟨#[97, 110, 100]⟩ : ByteArray) [.string (⟨#[97, 110, 100]⟩ : ByteArray)] from rfl) (Reps.one (show Kd.M Kd.string _ _ _ (⟨#[111, 114]⟩ : ByteArray) [.string (⟨#[111, 114]⟩ : ByteArray)] from rfl) (Reps.one (show Kd.M Kd.string _ _ _ (⟨#[98, 101, 102, 111, 114, 101]⟩ : ByteArray) [.string (⟨#[98, 101, 102, 111, 114, 101]⟩ : ByteArray)] from rfl) (Reps.one (show Kd.M Kd.string _ _ _ (⟨#[111, 110, 99, 101]⟩ : ByteArray) [.string (⟨#[111, 110, 99, 101]⟩ : ByteArray)] from rfl) (Reps.one (show Kd.M Kd.string _ _ _ (⟨#[97, 108, 119, 97, 121, 115]⟩ : ByteArray) [.string (⟨#[97, 108, 119, 97, 121, 115]⟩ : ByteArray)] from rfl) (Reps.one (show Kd.M Kd.string _ _ _ (⟨#[115, 105, 110, 99, 101]⟩ : ByteArray) [.string (⟨#[115, 105, 110, 99, 101]⟩ : ByteArray)] from rfl) (Reps.one (show Kd.M Kd.string _ _ _ (⟨#[100, 114, 111, 112]⟩ : ByteArray) [.string (⟨#[100, 114, 111, 112]⟩ : ByteArray)] from rfl) (Reps.one (show Kd.M Kd.string _ _ _ (⟨#[97, 98, 99, 100, 101, 102, 103, 104, 105, 106, 107, 108, 109, 110, 111, 112, 113, 114, 115, 116, 117, 118, 119, 120, 121]⟩ : ByteArray) [.string (⟨#[97, 98, 99, 100, 101, 102, 103, 104, 105, 106, 107, 108, 109, 110, 111, 112, 113, 114, 115, 116, 117, 118, 119, 120, 121]⟩ : ByteArray)] from rfl) (Reps.none _ _))))))))))))))))))); intro v314 w21 ho22 hb hg_ hnew_; clear hg_ hnew_; (first | rw [← Ny313.out] at ho22 | (simp only [Int.reduceToNat] at ho22; rw [← Ny313.out] at ho22)); have n0_ := Aside0.mk (Kd.R_elder' (ku_ HO312.out) (Kd.R_base ho22) hb); have n1_ := Aside0.mk (Kd.R_lower (Kd.R_new' ho22 (Kd.R_lt (ku_ HO312.out))) (below_size (be_ HB))); have n2_ := bs_ (be_ HB) hb; clear HO312; clear HB; have HO312 := n0_; have HO315 := n1_; have HB := n2_; clear n0_ n1_ n2_; clear hb ho22; obtain ⟨Ao23, co23, eo23⟩ := Kd.R_slice HO312.out; subst eo23; have p316 : 0 ≤ ((ji2) : Int) := dt_; have q316 : (ji2) < (y310.length : Int) := dt_; obtain ⟨ad316, e316, hx316_0⟩ := Kd.at_string (Kd.R_reads' HO312.out).2.2 (ji2) p316 q316; cases e316; replace p316 := eq_true p316; replace q316 := eq_true q316; obtain ⟨Ao24, co24, eo24⟩ := Kd.R_slice HO315.out; subst eo24; have p317 : 0 ≤ ((ji5) : Int) := dt_; have q317 : (ji5) < (y313.length : Int) := dt_; obtain ⟨ad317, e317, hx317_0⟩ := Kd.at_string (Kd.R_reads' HO315.out).2.2 (ji5) p317 q317; cases e317; replace p317 := eq_true p317; replace q317 := eq_true q317) | ((with_reducible refine gate_dst (N := 7) rfl ?_); (try (refine gate_guard (by rfl) ?_; dsimp only)); refine box_event ?hg (N := 7) ?hd (cs := #[.int .i64 0, .int .i64 0, .string (⟨#[]⟩ : ByteArray)]) (t := 44) ?hr ?_; (case hd => rfl); (case hg => rfl); (case hr => first | (go_simp; done) | (go_simp; rfl)); intro gb318 hg w25 hbox hb; have n0_ := kb_ (ku_ HO312.out) hb; have n1_ := kb_ (ku_ HO315.out) hb; have n2_ := bs_ (be_ HB) hb; have n3_ := Aside0.mk (hbox); have n4_ := gs_ hg (be_ HB); have n5_ := gs_ hg (be_ HB); clear HO312; clear HO315; clear HB; have HO312 := n0_; have HO315 := n1_; have HB := n2_; have BK318 := n3_; have GW318 := n4_; have GE318 := n5_; clear n0_ n1_ n2_ n3_ n4_ n5_; clear hb hbox hg; have hcz26_0 : w25.cell? ⟨gb318, 0, none⟩ = some (.int .i64 0) := (blk_cell BK318.out 0).trans rfl; have hcz26_1 : w25.cell? ⟨gb318, 1, none⟩ = some (.int .i64 0) := (blk_cell BK318.out 1).trans rfl; have hcz26_2 : w25.cell? ⟨gb318, 2, none⟩ = some (.string (⟨#[]⟩ : ByteArray)) := (blk_cell BK318.out 2).trans rfl; have hfz26_0 := blk_frozen BK318.out 0; have hfz26_1 := blk_frozen BK318.out 1; have hfz26_2 := blk_frozen BK318.out 2) | (go_at_call 15; (with_reducible refine (fact_Name.calls k (rdOf ByteArray.empty y310 (ji2)) true _ A8.out).mono ?_); rintro e w27 ⟨rfl, hb⟩; have n0_ := Aside0.mk (Kd.R_below (ku_ (Kd.R_mono (Kd.R_far (p := ⟨gb318, 2, none⟩) (Kd.R_far (p := ⟨gb318, 1, none⟩) (Kd.R_far (p := ⟨gb318, 0, none⟩) (Kd.R_types HO312.out BK318.out (by decide)) (fun _ hk => hk.2) (.int .i64 1)) (fun _ hk => hk.2) (.int .i64 0)) (fun _ hk => hk.2) (.string (⟨#[]⟩ : ByteArray))) (fun _ h_ => h_.1))) hb); have n1_ := Aside0.mk (Kd.R_below (ku_ (Kd.R_mono (Kd.R_far (p := ⟨gb318, 2, none⟩) (Kd.R_far (p := ⟨gb318, 1, none⟩) (Kd.R_far (p := ⟨gb318, 0, none⟩) (Kd.R_types HO315.out BK318.out (by decide)) (fun _ hk => hk.2) (.int .i64 1)) (fun _ hk => hk.2) (.int .i64 0)) (fun _ hk => hk.2) (.string (⟨#[]⟩ : ByteArray))) (fun _ h_ => h_.1))) hb); have n2_ := Aside0.mk (blk_below (o := .cells #[.int .i64 1, .int .i64 0, .string (⟨#[]⟩ : ByteArray)] 44 (0, 0)) (bp_ BK318) hb); have n3_ := bs_ (be_ HB) hb; clear HO312; clear HO315; clear BK318; clear HB; have HO312 := n0_; have HO315 := n1_; have BK318 := n2_; have HB := n3_; clear n0_ n1_ n2_ n3_; (try clear hb); (try clear hb2); (try clear hk); (try clear hi)) | (go_at_call 15; (with_reducible refine (fact_Name.calls k (rdOf ByteArray.empty y313 (ji5)) false _ A10.out).mono ?_); rintro e w28 ⟨rfl, hb⟩; have n0_ := kb_ (ku_ HO312.out) hb; have n1_ := kb_ (ku_ HO315.out) hb; have n2_ := bb_ (bu_ BK318) hb; have n3_ := bs_ (be_ HB) hb; clear HO312; clear HO315; clear BK318; clear HB; have HO312 := n0_; have HO315 := n1_; have BK318 := n2_; have HB := n3_; clear n0_ n1_ n2_ n3_; (try clear hb); (try clear hb2); (try clear hk); (try clear hi); have hcz29_0 : w28.cell? ⟨gb318, 0, none⟩ = some (.int .i64 1) := (blk_cell BK318.out 0).trans rfl; have hcz29_1 : w28.cell? ⟨gb318, 1, none⟩ = some (.int .i64 0) := (blk_cell BK318.out 1).trans rfl; have hcz29_2 : w28.cell? ⟨gb318, 2, none⟩ = some (.string (⟨#[]⟩ : ByteArray)) := (blk_cell BK318.out 2).trans rfl; have hfz29_0 := blk_frozen BK318.out 0; have hfz29_1 := blk_frozen BK318.out 1; have hfz29_2 := blk_frozen BK318.out 2) | ((with_reducible refine gate_dst (N := 39) rfl ?_); (try (refine gate_guard (by rfl) ?_; dsimp only)); refine Kd.R_lit k44 _ 44 ?hg (N := 39) ?hd (xs := ([(⟨1, 0, (⟨#[]⟩ : ByteArray)⟩ : S44), (⟨1, 0, (⟨#[]⟩ : ByteArray)⟩ : S44), (⟨1, 0, (⟨#[]⟩ : ByteArray)⟩ : S44), (⟨1, 0, (⟨#[]⟩ : ByteArray)⟩ : S44), (⟨1, 0, (⟨#[]⟩ : ByteArray)⟩ : S44)] : List (S44))) (inner := [.int .i64 1, .int .i64 0, .string (⟨#[]⟩ : ByteArray), .int .i64 1, .int .i64 0, .string (⟨#[]⟩ : ByteArray), .int .i64 1, .int .i64 0, .string (⟨#[]⟩ : ByteArray), .int .i64 1, .int .i64 0, .string (⟨#[]⟩ : ByteArray), .int .i64 1, .int .i64 0, .string (⟨#[]⟩ : ByteArray)]) (ok := fun _ => True) (okp := fun _ => True) ?hr ?hp (fun _ hk => hk) trivial (Below.refl _ _) (Nat.le_refl _) (by simp) ?_; (case hd => rfl); (case hg => rfl); (case hr => first | (go_simp; done) | (go_simp; rfl)); (case hp => exact (Reps.c3 (show Kd.M k44 _ _ _ (⟨1, 0, (⟨#[]⟩ : ByteArray)⟩ : S44) [.int .i64 1, .int .i64 0, .string (⟨#[]⟩ : ByteArray)] from (k44_mkM _ _ _ (⟨1, 0, (⟨#[]⟩ : ByteArray)⟩ : S44) )) (Reps.c3 (show Kd.M k44 _ _ _ (⟨1, 0, (⟨#[]⟩ : ByteArray)⟩ : S44) [.int .i64 1, .int .i64 0, .string (⟨#[]⟩ : ByteArray)] from (k44_mkM _ _ _ (⟨1, 0, (⟨#[]⟩ : ByteArray)⟩ : S44) )) (Reps.c3 (show Kd.M k44 _ _ _ (⟨1, 0, (⟨#[]⟩ : ByteArray)⟩ : S44) [.int .i64 1, .int .i64 0, .string (⟨#[]⟩ : ByteArray)] from (k44_mkM _ _ _ (⟨1, 0, (⟨#[]⟩ : ByteArray)⟩ : S44) )) (Reps.c3 (show Kd.M k44 _ _ _ (⟨1, 0, (⟨#[]⟩ : ByteArray)⟩ : S44) [.int .i64 1, .int .i64 0, .string (⟨#[]⟩ : ByteArray)] from (k44_mkM _ _ _ (⟨1, 0, (⟨#[]⟩ : ByteArray)⟩ : S44) )) (Reps.c3 (show Kd.M k44 _ _ _ (⟨1, 0, (⟨#[]⟩ : ByteArray)⟩ : S44) [.int .i64 1, .int .i64 0, .string (⟨#[]⟩ : ByteArray)] from (k44_mkM _ _ _ (⟨1, 0, (⟨#[]⟩ : ByteArray)⟩ : S44) )) (Reps.none _ _))))))); intro v322 w30 ho31 hb hg_ hnew_; clear hg_ hnew_; (first | rw [← Ny321.out] at ho31 | (simp only [Int.reduceToNat] at ho31; rw [← Ny321.out] at ho31)); have n0_ := kb_ (ku_ HO312.out) hb; have n1_ := kb_ (ku_ HO315.out) hb; have n2_ := Aside0.mk (Kd.R_lower (Kd.R_newB ho31 (bu_ BK318)) (below_size (be_ HB))); have n3_ := bb_ (bu_ BK318) hb; have n4_ := bs_ (be_ HB) hb; clear HO312; clear HO315; clear BK318; clear HB; have HO312 := n0_; have HO315 := n1_; have HO323 := n2_; have BK318 := n3_; have HB := n4_; clear n0_ n1_ n2_ n3_ n4_; clear hb ho31; obtain ⟨Ao32, co32, eo32⟩ := Kd.R_slice HO323.out; subst eo32) | (go_at_call 23; (with_reducible refine (fact_Check.calls k (rdOf ByteArray.empty y310 (ji2)) _ _ y321 t324 _ ?side1 ?side2 A12.out).mono ?_); (case side1 => repeat (first | exact (Kd.R_reads' HO323.out).2.2 | (with_reducible refine Kd.C_alloc ?_ _) | (with_reducible refine Kd.C_drewN ?_ _) | (with_reducible refine Kd.C_drew ?_))); (case side2 => exact (Kd.R_reads' HO323.out).2.1); rintro e w33 ⟨rfl, hb⟩; have n0_ := kb_ (ku_ HO312.out) hb; have n1_ := kb_ (ku_ HO315.out) hb; have n2_ := kb_ (ku_ HO323.out) hb; have n3_ := bb_ (bu_ BK318) hb; have n4_ := bs_ (be_ HB) hb; clear HO312; clear HO315; clear HO323; clear BK318; clear HB; have HO312 := n0_; have HO315 := n1_; have HO323 := n2_; have BK318 := n3_; have HB := n4_; clear n0_ n1_ n2_ n3_ n4_; (try clear hb); (try clear hb2); (try clear hk); (try clear hi); have hcz34_0 : w33.cell? ⟨gb318, 0, none⟩ = some (.int .i64 1) := (blk_cell BK318.out 0).trans rfl; have hcz34_1 : w33.cell? ⟨gb318, 1, none⟩ = some (.int .i64 0) := (blk_cell BK318.out 1).trans rfl; have hcz34_2 : w33.cell? ⟨gb318, 2, none⟩ = some (.string (⟨#[]⟩ : ByteArray)) := (blk_cell BK318.out 2).trans rfl; have hfz34_0 := blk_frozen BK318.out 0; have hfz34_1 := blk_frozen BK318.out 1; have hfz34_2 := blk_frozen BK318.out 2) | ((with_reducible refine gate_dst (N := 52) rfl ?_); (try (refine gate_guard (by rfl) ?_; dsimp only)); refine Kd.R_lit k44 _ 44 ?hg (N := 52) ?hd (xs := ([(⟨1, 0, (⟨#[]⟩ : ByteArray)⟩ : S44), (⟨1, 0, (⟨#[]⟩ : ByteArray)⟩ : S44), (⟨1, 0, (⟨#[]⟩ : ByteArray)⟩ : S44), (⟨1, 0, (⟨#[]⟩ : ByteArray)⟩ : S44), (⟨1, 0, (⟨#[]⟩ : ByteArray)⟩ : S44), (⟨1, 0, (⟨#[]⟩ : ByteArray)⟩ : S44)] : List (S44))) (inner := [.int .i64 1, .int .i64 0, .string (⟨#[]⟩ : ByteArray), .int .i64 1, .int .i64 0, .string (⟨#[]⟩ : ByteArray), .int .i64 1, .int .i64 0, .string (⟨#[]⟩ : ByteArray), .int .i64 1, .int .i64 0, .string (⟨#[]⟩ : ByteArray), .int .i64 1, .int .i64 0, .string (⟨#[]⟩ : ByteArray), .int .i64 1, .int .i64 0, .string (⟨#[]⟩ : ByteArray)]) (ok := fun _ => True) (okp := fun _ => True) ?hr ?hp (fun _ hk => hk) trivial (Below.refl _ _) (Nat.le_refl _) (by simp) ?_; (case hd => rfl); (case hg => rfl); (case hr => first | (go_simp; done) | (go_simp; rfl)); (case hp => exact (Reps.c3 (show Kd.M k44 _ _ _ (⟨1, 0, (⟨#[]⟩ : ByteArray)⟩ : S44) [.int .i64 1, .int .i64 0, .string (⟨#[]⟩ : ByteArray)] from (k44_mkM _ _ _ (⟨1, 0, (⟨#[]⟩ : ByteArray)⟩ : S44) )) (Reps.c3 (show Kd.M k44 _ _ _ (⟨1, 0, (⟨#[]⟩ : ByteArray)⟩ : S44) [.int .i64 1, .int .i64 0, .string (⟨#[]⟩ : ByteArray)] from (k44_mkM _ _ _ (⟨1, 0, (⟨#[]⟩ : ByteArray)⟩ : S44) )) (Reps.c3 (show Kd.M k44 _ _ _ (⟨1, 0, (⟨#[]⟩ : ByteArray)⟩ : S44) [.int .i64 1, .int .i64 0, .string (⟨#[]⟩ : ByteArray)] from (k44_mkM _ _ _ (⟨1, 0, (⟨#[]⟩ : ByteArray)⟩ : S44) )) (Reps.c3 (show Kd.M k44 _ _ _ (⟨1, 0, (⟨#[]⟩ : ByteArray)⟩ : S44) [.int .i64 1, .int .i64 0, .string (⟨#[]⟩ : ByteArray)] from (k44_mkM _ _ _ (⟨1, 0, (⟨#[]⟩ : ByteArray)⟩ : S44) )) (Reps.c3 (show Kd.M k44 _ _ _ (⟨1, 0, (⟨#[]⟩ : ByteArray)⟩ : S44) [.int .i64 1, .int .i64 0, .string (⟨#[]⟩ : ByteArray)] from (k44_mkM _ _ _ (⟨1, 0, (⟨#[]⟩ : ByteArray)⟩ : S44) )) (Reps.c3 (show Kd.M k44 _ _ _ (⟨1, 0, (⟨#[]⟩ : ByteArray)⟩ : S44) [.int .i64 1, .int .i64 0, .string (⟨#[]⟩ : ByteArray)] from (k44_mkM _ _ _ (⟨1, 0, (⟨#[]⟩ : ByteArray)⟩ : S44) )) (Reps.none _ _)))))))); intro v326 w35 ho36 hb hg_ hnew_; clear hg_ hnew_; (first | rw [← Ny325.out] at ho36 | (simp only [Int.reduceToNat] at ho36; rw [← Ny325.out] at ho36)); have n0_ := kb_ (ku_ HO312.out) hb; have n1_ := kb_ (ku_ HO315.out) hb; have n2_ := Aside0.mk (Kd.R_elder' (ku_ HO323.out) (Kd.R_base ho36) hb); have n3_ := Aside0.mk (Kd.R_lower (Kd.R_newB (Kd.R_new' ho36 (Kd.R_lt (ku_ HO323.out))) (bu_ BK318)) (below_size (be_ HB))); have n4_ := bb_ (bu_ BK318) hb; have n5_ := bs_ (be_ HB) hb; clear HO312; clear HO315; clear HO323; clear BK318; clear HB; have HO312 := n0_; have HO315 := n1_; have HO323 := n2_; have HO327 := n3_; have BK318 := n4_; have HB := n5_; clear n0_ n1_ n2_ n3_ n4_ n5_; clear hb ho36; obtain ⟨Ao37, co37, eo37⟩ := Kd.R_slice HO327.out; subst eo37) | (go_at_call 23; (with_reducible refine (fact_Check.calls k (rdOf ByteArray.empty y310 (ji2)) _ _ y325 t328 _ ?side1 ?side2 A14.out).mono ?_); (case side1 => repeat (first | exact (Kd.R_reads' HO327.out).2.2 | (with_reducible refine Kd.C_alloc ?_ _) | (with_reducible refine Kd.C_drewN ?_ _) | (with_reducible refine Kd.C_drew ?_))); (case side2 => exact (Kd.R_reads' HO327.out).2.1); rintro e w38 ⟨rfl, hb⟩; have n0_ := kb_ (ku_ HO312.out) hb; have n1_ := kb_ (ku_ HO315.out) hb; have n2_ := kb_ (ku_ HO323.out) hb; have n3_ := kb_ (ku_ HO327.out) hb; have n4_ := bb_ (bu_ BK318) hb; have n5_ := bs_ (be_ HB) hb; clear HO312; clear HO315; clear HO323; clear HO327; clear BK318; clear HB; have HO312 := n0_; have HO315 := n1_; have HO323 := n2_; have HO327 := n3_; have BK318 := n4_; have HB := n5_; clear n0_ n1_ n2_ n3_ n4_ n5_; (try clear hb); (try clear hb2); (try clear hk); (try clear hi)) | (go_at_call 23; (refine (fact_Check.calls k (rdOf ByteArray.empty y313 (ji5)) none 0 ([] : List (S44)) t329 _ ?side1 ?side2 A16.out).mono ?_); (case side1 => exact Kd.C_nil _ _); (case side2 => exact Nat.le_refl _); rintro e w39 ⟨rfl, hb⟩; have n0_ := kb_ (ku_ HO312.out) hb; have n1_ := kb_ (ku_ HO315.out) hb; have n2_ := kb_ (ku_ HO323.out) hb; have n3_ := kb_ (ku_ HO327.out) hb; have n4_ := bb_ (bu_ BK318) hb; have n5_ := bs_ (be_ HB) hb; clear HO312; clear HO315; clear HO323; clear HO327; clear BK318; clear HB; have HO312 := n0_; have HO315 := n1_; have HO323 := n2_; have HO327 := n3_; have BK318 := n4_; have HB := n5_; clear n0_ n1_ n2_ n3_ n4_ n5_; (try clear hb); (try clear hb2); (try clear hk); (try clear hi)) | (go_at_call 24; (with_reducible refine (constablelaw03_wakes.calls k  t330 _ A18.out HR_.out (tt_ HL_ (be_ HB))).mono ?_); rintro e w40 ⟨rfl, hb⟩; have n0_ := kb_ (ku_ HO312.out) hb; have n1_ := kb_ (ku_ HO315.out) hb; have n2_ := kb_ (ku_ HO323.out) hb; have n3_ := kb_ (ku_ HO327.out) hb; have n4_ := bb_ (bu_ BK318) hb; have n5_ := bs_ (be_ HB) hb; clear HO312; clear HO315; clear HO323; clear HO327; clear BK318; clear HB; have HO312 := n0_; have HO315 := n1_; have HO323 := n2_; have HO327 := n3_; have BK318 := n4_; have HB := n5_; clear n0_ n1_ n2_ n3_ n4_ n5_; (try clear hb); (try clear hb2); (try clear hk); (try clear hi))))
                    go_ret
                    exact ⟨by first | rfl | (simp [errW_none, errW_some] <;> rfl) | (simp only [← hji2, ← hji5]; first | rfl | (simp [errW_none, errW_some] <;> rfl)) | (simp [*, errW_none, errW_some] <;> rfl), by repeat (first | (with_reducible first | exact HB.out | apply below_alloc | apply pw_below_drewN | apply below_drew1 | refine below_set ?_ GE318.out) | exact HB.out)⟩
                  · rw [if_neg c17] at H
                    obtain ⟨c17b0, c17b1⟩ := neB_ c17
                    exact absurd ((Option.some.inj H).trans HR_.out) (by decide)
                · rw [if_neg c15] at H
                  obtain ⟨c15b0, c15b1⟩ := neB_ c15
                  exact absurd ((Option.some.inj H).trans HR_.out) (by decide)
              · rw [if_neg c13] at H
                obtain ⟨c13b0, c13b1⟩ := neB_ c13
                exact absurd ((Option.some.inj H).trans HR_.out) (by decide)
          · replace c9 := Bool.eq_false_iff.mpr c9
            subst c9
            have H1 : (some false) = some r := by rw [if_neg (show ¬ (false = true) by decide)] at H; exact H
            clear H
            have H := H1
            clear H1
            exact absurd ((Option.some.inj H).trans HR_.out) (by decide)
        · rw [if_neg c7] at H
          exact absurd H (by simp)
      · rw [if_neg c6] at H
        exact absurd H (by simp)
    · rw [if_neg c4] at H
      exact absurd H (by simp)
  · rw [if_neg c3] at H
    exact absurd H (by simp)
def constablelaw03_FactNames.Pure : Prop := ∀ (a0 : Int), (Lit.int .i64 a0).wf = true → ∃ k, constablelaw03_FactNames.f k a0 = some true
end Go.Proofs.YtaopajmpifenoaaDoor.P
end
section
namespace Go.Proofs.YtaopajmpifenoaaDoor.P
open Go.RowKit Go.Proofs.YtaopajmpifenoaaDoorW.PrintWords Go.Proofs.YtaopajmpifenoaaDoorW.PrintLast Go.Proofs.YtaopajmpifenoaaDoorW.PrintMore
theorem evPos {α : Type} {c : Prop} [Decidable c] {f g : Nat → Option α} {r : α} (h : c) (k : Ev f r) : Ev (fun n => if c then f n else g n) r := Ev.congr (fun _ => if_pos h) k
theorem evNeg {α : Type} {c : Prop} [Decidable c] {f g : Nat → Option α} {r : α} (h : ¬ c) (k : Ev g r) : Ev (fun n => if c then f n else g n) r := Ev.congr (fun _ => if_neg h) k
theorem evSome {α : Type} {a r : α} (h : a = r) : Ev (fun _ => some a) r := ⟨0, fun _ _ => by rw [h]⟩
theorem evShift {α : Type} {g : Nat → Option α} {r : α} (k : Ev (fun n => g (n + 1)) r) : Ev g r := Ev.step (fun _ => rfl) k
theorem evBind0 {α β : Type} {g : Option α} {f : Nat → α → Option β} {a : α} {r : β} (h : g = some a) (k : Ev (fun n => f n a) r) : Ev (fun n => g.bind (f n)) r := by subst h; exact k
theorem evCond {α : Type} {b : Bool} {f g : Nat → Option α} {r : α} (h1 : b = true → Ev f r) (h2 : b = false → Ev g r) : Ev (fun n => if b = true then f n else g n) r := by
  cases b with
  | true => exact evPos rfl (h1 rfl)
  | false => exact evNeg (by decide) (h2 rfl)
theorem evIf {α : Type} {c : Prop} [Decidable c] {f g : Nat → Option α} {r : α} (h1 : c → Ev f r) (h2 : ¬ c → Ev g r) : Ev (fun n => if c then f n else g n) r := by
  by_cases h : c
  · exact evPos h (h1 h)
  · exact evNeg h (h2 h)
end Go.Proofs.YtaopajmpifenoaaDoor.P
end
section
namespace Go.Proofs.YtaopajmpifenoaaDoor.P
open Go.RowKit Go.Proofs.YtaopajmpifenoaaDoorW.PrintWords Go.Proofs.YtaopajmpifenoaaDoorW.PrintLast Go.Proofs.YtaopajmpifenoaaDoorW.PrintMore
structure Opens {α : Type} (d : Kd α) (P : Program) (t : TypeId) (ok : α → Prop) : Prop where
  cells : P.cellsOf t = d.sz
  opens : ∀ {H : Type} {enc : TypeId × Value → H} {w : World} {base : Nat} {spare : Nat → Bool} {held : Bool} {fuel : Nat} {cs : List Value} {x : DataW H × List MemPlace},
    DataW.trod enc P w base spare held fuel t cs = some x → ∃ v, d.K w v cs ∧ ok v
theorem Opens.mono {α : Type} {d : Kd α} {P : Program} {t : TypeId} {ok ok' : α → Prop} (h : Opens d P t ok) (hm : ∀ v, ok v → ok' v) : Opens d P t ok' :=
  ⟨h.cells, fun hx => by obtain ⟨v, h1, h2⟩ := h.opens hx; exact ⟨v, h1, hm v h2⟩⟩
theorem Opens.int {k : IntKind} {P : Program} {t : TypeId} (hu : P.underlying t = some (.int k)) (hc : P.cellsOf t = 1) : Opens (Kd.int k) P t (fun n => (Lit.int k n).wf = true) :=
  ⟨hc, fun hx => by obtain ⟨m, rfl, rfl, hw⟩ := DataW.trod_int hu hx; exact ⟨m, rfl, hw⟩⟩
theorem Opens.string {P : Program} {t : TypeId} (hu : P.underlying t = some .string) (hc : P.cellsOf t = 1) : Opens Kd.string P t (fun s => s.size ≤ maxLen) :=
  ⟨hc, fun hx => by obtain ⟨s, rfl, _, hw⟩ := DataW.trod_string hu hx; exact ⟨s, rfl, hw⟩⟩
theorem Opens.bool {P : Program} {t : TypeId} (hu : P.underlying t = some .bool) (hc : P.cellsOf t = 1) : Opens Kd.bool P t (fun _ => True) :=
  ⟨hc, fun hx => by obtain ⟨b, rfl, _⟩ := DataW.trod_bool hu hx; exact ⟨b, rfl, trivial⟩⟩
theorem Opens.iso {α β : Type} {d : Kd α} {P : Program} {t : TypeId} {ok : α → Prop} {f : β → α} (g : α → β) (hg : ∀ a, f (g a) = a) (h : Opens d P t ok) : Opens (Kd.iso d f) P t (fun b => ok (f b)) :=
  ⟨h.cells, fun hx => by
    obtain ⟨v, h1, h2⟩ := h.opens hx
    refine ⟨g v, ?_, ?_⟩
    · show d.K _ (f (g v)) _
      rw [hg]; exact h1
    · show ok (f (g v))
      rw [hg]; exact h2⟩
structure OpensFs {α : Type} (d : Kd α) (P : Program) (fs : List Field) (off : Nat) (ok : α → Prop) : Prop where
  opens : ∀ {H : Type} {enc : TypeId × Value → H} {w : World} {base : Nat} {spare : Nat → Bool} {held : Bool} {fuel : Nat} {cs : List Value},
    off + d.sz = cs.length → (∀ (i : Nat) (f : Field), fs[i]? = some f → ∃ x, DataW.trod enc P w base spare held fuel f.type ((cs.drop f.offset).take (P.cellsOf f.type)) = some x) → ∃ v, d.K w v (cs.drop off) ∧ ok v
theorem OpensFs.one {α : Type} {d : Kd α} {P : Program} {f : Field} {off : Nat} {ok : α → Prop} (ho : f.offset = off) (h : Opens d P f.type ok) : OpensFs d P [f] off ok := by
  refine ⟨?_⟩
  intro H enc w base spare held fuel cs hl hx
  obtain ⟨x, hx⟩ := hx 0 f rfl
  rw [ho, h.cells, List.take_of_length_le (by simp; omega)] at hx
  exact h.opens hx
theorem OpensFs.cons {α β : Type} {d : Kd α} {d' : Kd β} {P : Program} {f : Field} {fs : List Field} {off : Nat} {ok : α → Prop} {ok' : β → Prop} {ok2 : α × β → Prop} (ho : f.offset = off) (h : Opens d P f.type ok) (h' : OpensFs d' P fs (off + d.sz) ok') (hk : ∀ v, ok v.1 → ok' v.2 → ok2 v) :
    OpensFs (Kd.pair d d') P (f :: fs) off ok2 := by
  refine ⟨?_⟩
  intro H enc w base spare held fuel cs hl hx
  obtain ⟨x, hx0⟩ := hx 0 f rfl
  rw [ho, h.cells] at hx0
  obtain ⟨v, hv, ov⟩ := h.opens hx0
  have hl' : off + (d.sz + d'.sz) = cs.length := hl
  obtain ⟨u, hu, ou⟩ := h'.opens (cs := cs) (by omega) (fun i g hg => hx (i + 1) g hg)
  refine ⟨(v, u), ⟨(cs.drop off).take d.sz, cs.drop (off + d.sz), ?_, hv, hu⟩, hk (v, u) ov ou⟩
  rw [← List.drop_drop, List.take_append_drop]
theorem Opens.struct {α : Type} {d : Kd α} {P : Program} {t : TypeId} {fs : Array Field} {ok : α → Prop} (hu : P.underlying t = some (.struct fs)) (hc : P.cellsOf t = d.sz) (h : OpensFs d P fs.toList 0 ok) : Opens d P t ok := by
  refine ⟨hc, ?_⟩
  intro H enc w base spare held fuel cs x hx
  obtain ⟨xs, n, rfl, _, hl, hxl, hf⟩ := DataW.trod_struct hu hx
  have := h.opens (cs := cs) (enc := enc) (w := w) (base := base) (spare := spare) (held := held) (fuel := n) (by omega) (by
    intro i f hi
    have hi' : fs[i]? = some f := by simpa using hi
    have hlt : i < xs.length := by
      rw [hxl]
      exact (Array.getElem?_eq_some_iff.1 hi').1
    exact ⟨xs[i], by rw [hf i f hi', List.getElem?_eq_getElem hlt]⟩)
  simpa using this
theorem list_of {α : Type} {Q : Nat → α → Prop} : ∀ n : Nat, (∀ i, i < n → ∃ v, Q i v) → ∃ l : List α, l.length = n ∧ ∀ i v, l[i]? = some v → Q i v := by
  intro n
  induction n with
  | zero => intro _; exact ⟨[], rfl, fun i v h => by simp at h⟩
  | succ n ih =>
    intro h
    obtain ⟨l, hl, hq⟩ := ih (fun i hi => h i (by omega))
    obtain ⟨v, hv⟩ := h n (by omega)
    refine ⟨l ++ [v], by simp [hl], ?_⟩
    intro i u hu
    by_cases hi : i < l.length
    · rw [List.getElem?_append_left hi] at hu
      exact hq i u hu
    · rw [List.getElem?_append_right (by omega)] at hu
      have h0 : i - l.length = 0 := by
        by_cases h0 : i - l.length = 0
        · exact h0
        · rw [List.getElem?_eq_none (by simp; omega)] at hu; cases hu
      rw [h0] at hu
      simp at hu
      subst hu
      have : i = n := by omega
      subst this
      exact hv
theorem Opens.row {α : Type} {d : Kd α} {P : Program} {t e : TypeId} {ok : α → Prop} (h : Opens d P e ok) (hu : P.underlying t = some (.slice e))
    {H : Type} {enc : TypeId × Value → H} {w : World} {base : Nat} {spare : Nat → Bool} {held : Bool} {fuel : Nat} {A : Option Addr} {len cap : Nat} {x : DataW H × List MemPlace}
    (hx : DataW.trod enc P w base spare held fuel t [.slice A len cap] = some x) : ∃ l, l.length = len ∧ d.C w A len l ∧ len ≤ cap ∧ cap ≤ maxLen ∧ ∀ v ∈ l, ok v := by
  rcases DataW.trod_slice hu hx with ⟨hcs, _⟩ | ⟨a, len', cap', elems, rest, n, rfl, hcs, _, hb, hl, hm, hlen, hel, _⟩
  · simp only [List.cons.injEq, Value.slice.injEq, and_true] at hcs
    obtain ⟨rfl, rfl, rfl⟩ := hcs
    exact ⟨[], rfl, ⟨rfl, by omega, fun h => by omega⟩, Nat.le_refl _, by unfold maxLen; omega, fun v hv => by simp at hv⟩
  · simp only [List.cons.injEq, Value.slice.injEq, and_true] at hcs
    obtain ⟨rfl, rfl, rfl⟩ := hcs
    obtain ⟨l, hll, hq⟩ := list_of (Q := fun i v => ∃ cs, w.cells? base (a.add (i * P.cellsOf e)) (P.cellsOf e) = some cs ∧ d.K w v cs ∧ ok v) len (by
      intro i hi
      have h1 := hel i hi
      rw [List.getElem?_eq_getElem (by omega), Option.bind_eq_some_iff] at h1
      obtain ⟨cs, h2, h3⟩ := h1
      obtain ⟨v, h4, h5⟩ := h.opens h3
      exact ⟨v, cs, h2, h4, h5⟩)
    refine ⟨l, hll, ⟨hll, by unfold maxLen at hm; omega, fun _ => ⟨a, rfl, ?_⟩⟩, hl, hm, ?_⟩
    · intro j p hp
      obtain ⟨cs, h2, h4, _⟩ := hq j p hp
      obtain ⟨_, h6, h7⟩ := World.cells?_some h2
      refine ⟨cs, by rw [h6, h.cells], h4, ?_⟩
      intro i u hi
      have hlt : i < P.cellsOf e := by rw [← h6]; exact (List.getElem?_eq_some_iff.1 hi).1
      have h8 := h7 i hlt
      rw [Addr.add_add, h.cells, hi] at h8
      exact h8
    · intro v hv
      obtain ⟨i, hi⟩ := List.getElem?_of_mem hv
      obtain ⟨_, _, _, h5⟩ := hq i v hi
      exact h5
theorem Opens.slice {α : Type} {d : Kd α} {P : Program} {t e : TypeId} {ok : α → Prop} (h : Opens d P e ok) (hu : P.underlying t = some (.slice e)) (hc : P.cellsOf t = 1) : Opens (Kd.slice e d) P t (fun l => l.length ≤ maxLen ∧ ∀ v ∈ l, ok v) := by
  refine ⟨hc, ?_⟩
  intro H enc w base spare held fuel cs x hx
  have hx0 := hx
  rcases DataW.trod_slice hu hx with ⟨hcs, _⟩ | ⟨a, len', cap', elems, rest, n, rfl, hcs, _⟩ <;> subst hcs
  all_goals
    obtain ⟨l, h1, h2, h3, h4, h5⟩ := h.row hu hx0
    have h6 := Nat.le_trans h3 h4
    rw [← h1] at h2 h3 h6 ⊢
    exact ⟨l, ⟨_, _, rfl, h3, h2⟩, h6, h5⟩
theorem Opens.arg {α : Type} {d : Kd α} {P : Program} {t e : TypeId} {ok : α → Prop} (h : Opens d P e ok) (hu : P.underlying t = some (.slice e)) {B : Nat} (hB : P.bytesOf e = B)
    {H : Type} {enc : TypeId × Value → H} {w : World} {base : Nat} {spare : Nat → Bool} {held : Bool} {a : Option Addr} {len cap : Nat} {x : DataW H} {ps : List MemPlace} {ts : List TypeId} {ds : List (DataW H)} {j : Nat}
    (hsz : (DataW.weightsEach P ts ds).all (· ≤ reachBytes) = true) (ht : ts[j]? = some t) (hd : ds[j]? = some x)
    (hx : DataW.Trod enc P w base spare held t (.slice a len cap) x ps) : ∃ l, l.length = len ∧ d.C w a len l ∧ len ≤ cap ∧ (len ≤ maxLen ∧ len * B ≤ 140737488351232) ∧ ∀ v ∈ l, ok v := by
  obtain ⟨fuel, hf⟩ := hx
  have hf' : DataW.trod enc P w base spare held fuel t [.slice a len cap] = some (x, ps) := hf
  obtain ⟨l, h1, h2, h3, h4, h5⟩ := h.row hu hf'
  refine ⟨l, h1, h2, h3, ⟨Nat.le_trans h3 h4, ?_⟩, h5⟩
  rcases DataW.trod_slice hu hf' with ⟨hcs, _⟩ | ⟨a', len', cap', elems, rest, n, _, hcs, hxx, _, hl, _, hlen, _⟩
  · simp only [List.cons.injEq, Value.slice.injEq, and_true] at hcs
    obtain ⟨_, rfl, _⟩ := hcs
    omega
  · simp only [List.cons.injEq, Value.slice.injEq, and_true] at hcs
    obtain ⟨_, rfl, _⟩ := hcs
    obtain ⟨rfl, _⟩ := Prod.mk.inj hxx
    have z := sized_slice hsz ht hd hu
    rw [hB] at z
    have : len ≤ (elems.map (·.1)).length + (rest.map (·.1)).length := by simp; omega
    exact Nat.le_trans (Nat.mul_le_mul_right _ this) z
theorem Opens.agg {α : Type} {d : Kd α} {P : Program} {t : TypeId} {ok : α → Prop} (h : Opens d P t ok) {fs : Array Field} (hu : P.underlying t = some (.struct fs))
    {H : Type} {enc : TypeId × Value → H} {w : World} {r : Reach} {base b0 : Nat} {spare : Nat → Bool} {held : Bool} {v : Value} {x : DataW H} {ps : List MemPlace}
    (hv : Value.okWide P w r b0 t v) (hx : DataW.Trod enc P w base spare held t v x ps) : ∃ u cs, v = .agg ⟨cs⟩ ∧ d.K w u cs ∧ ok u := by
  obtain ⟨cs, rfl, _⟩ := Go.WideShapes.okWide_struct hu hv
  obtain ⟨fuel, hf⟩ := hx
  obtain ⟨u, h1, h2⟩ := h.opens hf
  exact ⟨u, cs.toList, rfl, h1, h2⟩
end Go.Proofs.YtaopajmpifenoaaDoor.P
end
section
namespace Go.Proofs.YtaopajmpifenoaaDoor.P
open Go.RowKit Go.Proofs.YtaopajmpifenoaaDoorW.PrintWords Go.Proofs.YtaopajmpifenoaaDoorW.PrintLast Go.Proofs.YtaopajmpifenoaaDoorW.PrintMore
theorem o3 : Opens (Kd.int .i64) Tryd.prog 3 (fun x => (Lit.int .i64 x).wf = true) := Opens.int Tryd.underlying3 (by kernel_rfl)
theorem o9 : Opens Kd.string Tryd.prog 9 (fun x => x.size ≤ maxLen) := Opens.string Tryd.underlying9 (by kernel_rfl)
def ok44 (x : S44) : Prop := (Lit.int .i64 x.f0).wf = true ∧ (Lit.int .i64 x.f1).wf = true ∧ x.f2.size ≤ maxLen
theorem o44 : Opens k44 Tryd.prog 44 ok44 := by
  have h1 := Opens.struct (d := (Kd.pair (Kd.int .i64) (Kd.pair (Kd.int .i64) Kd.string))) (ok := fun a => (Lit.int .i64 a.1).wf = true ∧ (Lit.int .i64 a.2.1).wf = true ∧ a.2.2.size ≤ maxLen) Tryd.underlying44 (by kernel_rfl) (OpensFs.cons (ok2 := fun a : (Int) × (Int) × (ByteArray) => (Lit.int .i64 a.1).wf = true ∧ (Lit.int .i64 a.2.1).wf = true ∧ a.2.2.size ≤ maxLen) (ok' := fun a : (Int) × (ByteArray) => (Lit.int .i64 a.1).wf = true ∧ a.2.size ≤ maxLen) (by rfl) o3 (OpensFs.cons (ok2 := fun a : (Int) × (ByteArray) => (Lit.int .i64 a.1).wf = true ∧ a.2.size ≤ maxLen) (ok' := fun a : (ByteArray) => a.size ≤ maxLen) (by rfl) o3 (OpensFs.one (by rfl) o9) (fun v h1 h2 => ⟨h1, h2⟩)) (fun v h1 h2 => ⟨h1, h2⟩))
  exact Opens.mono (Opens.iso (fun a => ⟨a.1, a.2.1, a.2.2⟩) (fun _ => rfl) h1) (fun _ h => h)
theorem kc44 {w : World} {v : S44} {cs : List Value} (h : k44.K w v cs) : cs = [.int .i64 v.f0, .int .i64 v.f1, .string v.f2] := by
  have h0 : ((Kd.pair (Kd.int .i64) (Kd.pair (Kd.int .i64) Kd.string))).K w (v.f0, v.f1, v.f2) cs := h
  obtain ⟨c0, d0, rfl, g0, h1⟩ := h0
  obtain rfl := g0
  obtain ⟨c1, d1, rfl, g1, h2⟩ := h1
  obtain rfl := g1
  obtain rfl := h2
  exact rfl
theorem o22 : Opens (Kd.slice 44 k44) Tryd.prog 22 (fun x => (x.length ≤ maxLen ∧ ∀ v ∈ x, ok44 v)) := Opens.slice o44 Tryd.underlying22 (by kernel_rfl)
def ok24 (x : S24) : Prop := x.f0.size ≤ maxLen ∧ (x.f1.length ≤ maxLen ∧ ∀ v ∈ x.f1, ok44 v)
theorem o24 : Opens k24 Tryd.prog 24 ok24 := by
  have h1 := Opens.struct (d := (Kd.pair Kd.string (Kd.slice 44 k44))) (ok := fun a => a.1.size ≤ maxLen ∧ (a.2.length ≤ maxLen ∧ ∀ v ∈ a.2, ok44 v)) Tryd.underlying24 (by kernel_rfl) (OpensFs.cons (ok2 := fun a : (ByteArray) × (List (S44)) => a.1.size ≤ maxLen ∧ (a.2.length ≤ maxLen ∧ ∀ v ∈ a.2, ok44 v)) (ok' := fun a : (List (S44)) => (a.length ≤ maxLen ∧ ∀ v ∈ a, ok44 v)) (by rfl) o9 (OpensFs.one (by rfl) o22) (fun v h1 h2 => ⟨h1, h2⟩))
  exact Opens.mono (Opens.iso (fun a => ⟨a.1, a.2⟩) (fun _ => rfl) h1) (fun _ h => h)
theorem kc24 {w : World} {v : S24} {cs : List Value} (h : k24.K w v cs) : ∃ A0 c0, cs = [.string v.f0, .slice A0 v.f1.length c0] ∧ v.f1.length ≤ c0 ∧ Kd.C k44 w A0 v.f1.length v.f1 := by
  have h0 : ((Kd.pair Kd.string (Kd.slice 44 k44))).K w (v.f0, v.f1) cs := h
  obtain ⟨c0, d0, rfl, g0, h1⟩ := h0
  obtain rfl := g0
  obtain ⟨B1, e1, rfl, l1, r1⟩ := h1
  exact ⟨B1, e1, rfl, l1, r1⟩
end Go.Proofs.YtaopajmpifenoaaDoor.P
end
section
namespace Go.Proofs.YtaopajmpifenoaaDoor.Pure
open Go.RowKit Go.Proofs.YtaopajmpifenoaaDoor.P Go.Proofs.YtaopajmpifenoaaDoorW.PrintWords Go.Proofs.YtaopajmpifenoaaDoorW.PrintLast Go.Proofs.YtaopajmpifenoaaDoorW.PrintMore
theorem choice (a : Int) (m : Nat) (hm : 0 < m) (hs : m < 1000) : ∃ n : Fin m, wrap64 (Int.tmod (IntKind.u64.wrap a) m) = ((n.val : Nat) : Int) := by
  rw [IntKind.wrap_u64, Int.tmod_eq_emod_of_nonneg (by omega)]
  have h1 := Int.emod_nonneg (a % 18446744073709551616) (show (m : Int) ≠ 0 by omega)
  have h2 := Int.emod_lt_of_pos (a % 18446744073709551616) (show 0 < (m : Int) by omega)
  generalize a % 18446744073709551616 % (m : Int) = x at *
  exact ⟨⟨x.toNat, by omega⟩, by unfold wrap64; simp only; omega⟩
theorem FactNames (a : Int) (_w0 : (Lit.int .i64 a).wf = true) : ∃ k, constablelaw03_FactNames.f k a = some true := by
  refine ⟨60, ?_⟩
  obtain ⟨n, e1⟩ := choice a 6 (by decide) (by decide)
  obtain ⟨m, e2⟩ := choice a 17 (by decide) (by decide)
  unfold constablelaw03_FactNames.f
  simp only [show (6 : Int) = ((6 : Nat) : Int) from rfl, show (17 : Int) = ((17 : Nat) : Int) from rfl, e1, e2]
  clear e1 e2
  revert n m
  decide +kernel
end Go.Proofs.YtaopajmpifenoaaDoor.Pure
end
section
namespace Go.Proofs.YtaopajmpifenoaaDoor.P
open Go.RowKit Go.Lib
theorem pow_datum : (Rows.laid_internal_strconv_uint64pow10 : DataW Unit) = Lib.tabData .u64 Lib.pow10Tab := by kernel_rfl
theorem laidT_of {r : List (String × DataW Unit)} {W : World} (h : laidMet Tryd.prog (("internal/strconv.uint64pow10", Rows.laid_internal_strconv_uint64pow10) :: r) W) : LaidT W := by
  rw [pow_datum] at h
  exact tabIs_of_head (g := 3) (by kernel_rfl) (by kernel_rfl) Tryd.underlying115 Tryd.underlying103 (by kernel_rfl) (by kernel_rfl) h
theorem star_es : "*" ++ "errors.errorString" = "*errors.errorString" := by decide
theorem row_es (u : TypeId) (h : Tryd.prog.typeName? 3 u = some "*errors.errorString") : u = 120 :=
  typeName_ptr_named (nm := "errors.errorString") (by rw [star_es]; kernel_rfl) (by kernel_rfl) (by decide) u (by rw [star_es]; exact h)
theorem globRan_of {r : List (String × DataW Unit)} {W : World} (h : laidMet Tryd.prog (("strconv.ErrRange", Rows.laid_strconv_ErrRange) :: r) W) : ∃ tp p, W.var? Tryd.prog "strconv.ErrRange" = some #[.iface tp p] := by
  obtain ⟨a, s, hv, _⟩ := laid_sentinel (g := 2) h (by kernel_rfl) (by kernel_rfl) Tryd.underlying72 row_es Tryd.underlying120 Tryd.underlying122 rfl rfl Tryd.underlying9 (by kernel_rfl) (by kernel_rfl)
  exact ⟨_, _, hv⟩
theorem globSyn_of {r : List (String × DataW Unit)} {W : World} (h : laidMet Tryd.prog (("strconv.ErrSyntax", Rows.laid_strconv_ErrSyntax) :: r) W) : ∃ tp p, W.var? Tryd.prog "strconv.ErrSyntax" = some #[.iface tp p] := by
  obtain ⟨a, s, hv, _⟩ := laid_sentinel (g := 1) h (by kernel_rfl) (by kernel_rfl) Tryd.underlying72 row_es Tryd.underlying120 Tryd.underlying122 rfl rfl Tryd.underlying9 (by kernel_rfl) (by kernel_rfl)
  exact ⟨_, _, hv⟩
end Go.Proofs.YtaopajmpifenoaaDoor.P
end
