/- Part 2 of the proof of FactOrder: words, contracts of functions of the program (what a call answers), and what the answers say. -/
import Derived.Test.YtaopajmpifenoaaDoorVWords
import Derived.Test.YtaopajmpifenoaaDoorVLast
import Derived.Test.YtaopajmpifenoaaDoorVApart
import Derived.Test.YtaopajmpifenoaaDoorVArr
import Derived.Test.YtaopajmpifenoaaDoorVFoot
import Derived.Test.YtaopajmpifenoaaDoorVKept
import Derived.Test.YtaopajmpifenoaaDoorVShare
import Derived.Test.YtaopajmpifenoaaDoorVZeros
import Derived.Test.YtaopajmpifenoaaDoorVN
import Derived.Test.YtaopajmpifenoaaDoorVFootNe
import Derived.Test.YtaopajmpifenoaaDoorVAt
import Derived.Test.YtaopajmpifenoaaDoorVEqStruct
import Derived.Test.YtaopajmpifenoaaDoorVTab
import Derived.Test.YtaopajmpifenoaaDoorVFour
import Derived.Test.YtaopajmpifenoaaDoorVGuard
import Derived.Test.YtaopajmpifenoaaDoorVInv
import Derived.Test.YtaopajmpifenoaaDoorVInvWords
import Derived.Test.YtaopajmpifenoaaDoorVQPut
import Derived.Test.YtaopajmpifenoaaDoorVNEv
import Derived.Test.YtaopajmpifenoaaDoorVMore
import Derived.Test.YtaopajmpifenoaaDoorVRepsOne
import Derived.Test.YtaopajmpifenoaaDoorVSized
import Derived.Test.YtaopajmpifenoaaDoorCFactOrder0
section
namespace Go.Proofs.YtaopajmpifenoaaDoor.P
open Go.RowKit Go.Proofs.YtaopajmpifenoaaDoorW.PrintWords Go.Proofs.YtaopajmpifenoaaDoorW.PrintLast Go.Proofs.YtaopajmpifenoaaDoorW.PrintMore
attribute [local go_sem] max2_int min2_int max_two min_two max_three min_three max_four min_four
set_option linter.unusedVariables false
set_option linter.unusedSimpArgs false
attribute [local go_sem high] eqA44
mutual
def constablekeep_Fact.j0 : Nat → Bool → ByteArray → List (S44) → ByteArray → List (S44) → Option (Bool)
 | 0, _, _, _, _, _ => none
 | k + 1, x19, x235000, x235001, x236000, x236001 => if x19 = true then (some false) else (constablekeep_Fact.l0 k 0 x235000 x235001 x236000 x236001)
def constablekeep_Fact.l0 : Nat → Int → ByteArray → List (S44) → ByteArray → List (S44) → Option (Bool)
 | 0, _, _, _, _, _ => none
 | k + 1, x5, x235000, x235001, x236000, x236001 => if x5 < (x235001.length : Int) then (if 0 ≤ x5 then (if x5 < (x236001.length : Int) then (if (!(((rd_T44 x235001 x5).f0) == ((rd_T44 x236001 x5).f0)) || (!(((rd_T44 x235001 x5).f1) == ((rd_T44 x236001 x5).f1)) || (!((((rd_T44 x235001 x5).f2).toList) == (((rd_T44 x236001 x5).f2).toList))))) = true then (some false) else (constablekeep_Fact.l0 k (wrap64 (x5 + 1)) x235000 x235001 x236000 x236001)) else (none)) else (none)) else (some true)
end
def constablekeep_Fact.f (k : Nat) (a0_0 : ByteArray) (l0_1 : List (S44)) (a1_0 : ByteArray) (l1_1 : List (S44)) : Option (Bool) := if a0_0.toList = a1_0.toList then (constablekeep_Fact.j0 k ((l0_1.length : Int) != (l1_1.length : Int)) a0_0 l0_1 a1_0 l1_1) else (constablekeep_Fact.j0 k true a0_0 l0_1 a1_0 l1_1)
theorem constablekeep_Fact.mono_l : ∀ k, (∀ y0 y1 y2 y3 y4, LeO (constablekeep_Fact.j0 k y0 y1 y2 y3 y4) (constablekeep_Fact.j0 (k + 1) y0 y1 y2 y3 y4)) ∧ (∀ y0 y1 y2 y3 y4, LeO (constablekeep_Fact.l0 k y0 y1 y2 y3 y4) (constablekeep_Fact.l0 (k + 1) y0 y1 y2 y3 y4))
 | 0 => ⟨fun _ _ _ _ _ r h => by simp [constablekeep_Fact.j0] at h, fun _ _ _ _ _ r h => by simp [constablekeep_Fact.l0] at h⟩
 | k + 1 => by
  obtain ⟨ih0, ih1⟩ := constablekeep_Fact.mono_l k
  refine ⟨?_, ?_⟩
  ·intro y0 y1 y2 y3 y4
   unfold constablekeep_Fact.j0
   repeat' first
   | (with_reducible exact ih0 _ _ _ _ _)
   | (with_reducible exact ih1 _ _ _ _ _)
   | (with_reducible exact LeO.refl _)
   | (with_reducible exact LeO.none _)
   | (with_reducible refine LeO.ite ?_ ?_)
   | (with_reducible refine LeO.bind ?_ (fun _ => ?_))
   | exact ih0 _ _ _ _ _
   | exact ih1 _ _ _ _ _
   | exact LeO.none _
   | refine LeO.ite ?_ ?_
   | refine LeO.bind ?_ (fun _ => ?_)
  ·intro y0 y1 y2 y3 y4
   unfold constablekeep_Fact.l0
   repeat' first
   | (with_reducible exact ih0 _ _ _ _ _)
   | (with_reducible exact ih1 _ _ _ _ _)
   | (with_reducible exact LeO.refl _)
   | (with_reducible exact LeO.none _)
   | (with_reducible refine LeO.ite ?_ ?_)
   | (with_reducible refine LeO.bind ?_ (fun _ => ?_))
   | exact ih0 _ _ _ _ _
   | exact ih1 _ _ _ _ _
   | exact LeO.none _
   | refine LeO.ite ?_ ?_
   | refine LeO.bind ?_ (fun _ => ?_)
theorem constablekeep_Fact.mono : ∀ a0 a1 a2 a3 k, LeO (constablekeep_Fact.f k a0 a1 a2 a3) (constablekeep_Fact.f (k + 1) a0 a1 a2 a3) := by
 intro a0 a1 a2 a3 k
 obtain ⟨ih0, ih1⟩ := constablekeep_Fact.mono_l k
 unfold constablekeep_Fact.f
 repeat' first
   | (with_reducible exact ih0 _ _ _ _ _)
   | (with_reducible exact ih1 _ _ _ _ _)
   | (with_reducible exact LeO.refl _)
   | (with_reducible exact LeO.none _)
   | (with_reducible refine LeO.ite ?_ ?_)
   | (with_reducible refine LeO.bind ?_ (fun _ => ?_))
   | exact ih0 _ _ _ _ _
   | exact ih1 _ _ _ _ _
   | exact LeO.none _
   | refine LeO.ite ?_ ?_
   | refine LeO.bind ?_ (fun _ => ?_)
set_option maxHeartbeats 8000000 in
set_option maxRecDepth 100000 in
theorem constablekeep_Fact.calls (k : Nat) (a0_0 : ByteArray) (A0_1 : Option Addr) (c0_1 : Nat) (l0_1 : List (S44)) (a1_0 : ByteArray) (A1_1 : Option Addr) (c1_1 : Nat) (l1_1 : List (S44)) (r : Bool) (w : World) (hr0_1 : Kd.C k44 w A0_1 l0_1.length l0_1) (hc0_1 : l0_1.length ≤ c0_1) (hr1_1 : Kd.C k44 w A1_1 l1_1.length l1_1) (hc1_1 : l1_1.length ≤ c1_1) (h : constablekeep_Fact.f k a0_0 l0_1 a1_0 l1_1 = some r) :
  Calls Tryd.prog 21 #[.agg #[.string a0_0, .slice A0_1 l0_1.length c0_1], .agg #[.string a1_0, .slice A1_1 l1_1.length c1_1]] w fun e w' => e = .returned (.bool r) ∧ Below w.heap.size w w' := by
 have hu24 := Tryd.underlying24
 have hu44 := Tryd.underlying44
 have HR0_1 := Aside0.mk hr0_1
 have HC0_1 := Aside0.mk hc0_1
 clear hr0_1 hc0_1
 have HR1_1 := Aside0.mk hr1_1
 have HC1_1 := Aside0.mk hc1_1
 clear hr1_1 hc1_1
 have HB := Aside0.mk (Below.refl w.heap.size w)
 have H : (if a0_0.toList = a1_0.toList then (constablekeep_Fact.j0 k ((l0_1.length : Int) != (l1_1.length : Int)) a0_0 l0_1 a1_0 l1_1) else (constablekeep_Fact.j0 k true a0_0 l0_1 a1_0 l1_1)) = some r := h
 clear h
 have HC3 := Aside0.mk H
 clear H
 go_enter Tryd.func21, Tryd.ntmps21
 go_upto_region 1 with (first | ((with_reducible refine gate_dst (N := 2) rfl ?_); (try (refine gate_guard (by rfl) ?_; dsimp only)); refine box_event ?hg (N := 2) ?hd (cs := #[.string a0_0, .slice A0_1 l0_1.length c0_1]) (t := 24) ?hr ?_; (case hd => rfl); (case hg => rfl); (case hr => first | (go_simp; done) | (go_simp; rfl)); intro gb234 hg w4 hbox hb; have BK234 := Aside0.mk (hbox); have GW234 := gs_ hg (be_ HB); have GE234 := gs_ hg (be_ HB); replace HB := bs_ (be_ HB) hb; clear hb hbox hg) | ((with_reducible refine gate_dst (N := 3) rfl ?_); (try (refine gate_guard (by rfl) ?_; dsimp only)); refine box_event ?hg (N := 3) ?hd (cs := #[.string a1_0, .slice A1_1 l1_1.length c1_1]) (t := 24) ?hr ?_; (case hd => rfl); (case hg => rfl); (case hr => first | (go_simp; done) | (go_simp; rfl)); intro gb235 hg w5 hbox hb; have BK235 := Aside0.mk (hbox); have GW235 := gs_ hg (be_ HB); have GE235 := gs_ hg (be_ HB); replace HB := bs_ (be_ HB) hb; have NB234_235 := nl_ hg (bu_ BK234); have NB235_234 := ng_ hg (bu_ BK234); replace BK234 := bb_ (bu_ BK234) hb; clear hb hbox hg))
 repeat (go_quiet (first | ((with_reducible refine gate_dst (N := 2) rfl ?_); (try (refine gate_guard (by rfl) ?_; dsimp only)); refine box_event ?hg (N := 2) ?hd (cs := #[.string a0_0, .slice A0_1 l0_1.length c0_1]) (t := 24) ?hr ?_; (case hd => rfl); (case hg => rfl); (case hr => first | (go_simp; done) | (go_simp; rfl)); intro gb234 hg w4 hbox hb; have BK234 := Aside0.mk (hbox); have GW234 := gs_ hg (be_ HB); have GE234 := gs_ hg (be_ HB); replace HB := bs_ (be_ HB) hb; clear hb hbox hg) | ((with_reducible refine gate_dst (N := 3) rfl ?_); (try (refine gate_guard (by rfl) ?_; dsimp only)); refine box_event ?hg (N := 3) ?hd (cs := #[.string a1_0, .slice A1_1 l1_1.length c1_1]) (t := 24) ?hr ?_; (case hd => rfl); (case hg => rfl); (case hr => first | (go_simp; done) | (go_simp; rfl)); intro gb235 hg w5 hbox hb; have BK235 := Aside0.mk (hbox); have GW235 := gs_ hg (be_ HB); have GE235 := gs_ hg (be_ HB); replace HB := bs_ (be_ HB) hb; have NB234_235 := nl_ hg (bu_ BK234); have NB235_234 := ng_ hg (bu_ BK234); replace BK234 := bb_ (bu_ BK234) hb; clear hb hbox hg)); go_upto_region 1 with (first | ((with_reducible refine gate_dst (N := 2) rfl ?_); (try (refine gate_guard (by rfl) ?_; dsimp only)); refine box_event ?hg (N := 2) ?hd (cs := #[.string a0_0, .slice A0_1 l0_1.length c0_1]) (t := 24) ?hr ?_; (case hd => rfl); (case hg => rfl); (case hr => first | (go_simp; done) | (go_simp; rfl)); intro gb234 hg w4 hbox hb; have BK234 := Aside0.mk (hbox); have GW234 := gs_ hg (be_ HB); have GE234 := gs_ hg (be_ HB); replace HB := bs_ (be_ HB) hb; clear hb hbox hg) | ((with_reducible refine gate_dst (N := 3) rfl ?_); (try (refine gate_guard (by rfl) ?_; dsimp only)); refine box_event ?hg (N := 3) ?hd (cs := #[.string a1_0, .slice A1_1 l1_1.length c1_1]) (t := 24) ?hr ?_; (case hd => rfl); (case hg => rfl); (case hr => first | (go_simp; done) | (go_simp; rfl)); intro gb235 hg w5 hbox hb; have BK235 := Aside0.mk (hbox); have GW235 := gs_ hg (be_ HB); have GE235 := gs_ hg (be_ HB); replace HB := bs_ (be_ HB) hb; have NB234_235 := nl_ hg (bu_ BK234); have NB235_234 := ng_ hg (bu_ BK234); replace BK234 := bb_ (bu_ BK234) hb; clear hb hbox hg)))
 (try simp only [Act.put, List.setIfInBounds_toArray, List.set_cons_zero, List.set_cons_succ])
 go_cut [19] (fun v19 wc => ∃ (kq : Nat) (x19_2 : Bool), v19 = .bool x19_2 ∧ Aside0 (constablekeep_Fact.j0 kq x19_2 a0_0 l0_1 a1_0 l1_1 = some r) ∧ Aside0 (kq ≤ k) ∧ Aside0 (wc.heap[gb234]? = some (.cells #[.string a0_0, (.slice A0_1 l0_1.length c0_1)] 24 (0, 0))) ∧ Aside0 (wc.heap[gb235]? = some (.cells #[.string a1_0, (.slice A1_1 l1_1.length c1_1)] 24 (0, 0))) ∧ Aside0 (Below w.heap.size w wc))
 case first =>
  have H := HC3.out
  clear HC3
  by_cases c6 : a0_0.toList = a1_0.toList
  ·rw [if_pos c6] at H
   obtain ⟨c6b0, c6b1⟩ := eqB_ c6
   clear c6
   (first | rw [c6b0] | (simp only [i64_w, i32_w]; rw [c6b0]) | skip)
   have H' := Aside0.mk H
   clear H
   have hnb7 := NB234_235.out
   have hnc7 := NB235_234.out
   have hcz8_0 : w5.cell? ⟨gb234, 0, none⟩ = some (.string a0_0) := (blk_cell BK234.out 0).trans rfl
   have hcz8_1 : w5.cell? ⟨gb234, 1, none⟩ = some (.slice A0_1 l0_1.length c0_1) := (blk_cell BK234.out 1).trans rfl
   have hfz8_0 := blk_frozen BK234.out 0
   have hfz8_1 := blk_frozen BK234.out 1
   have hcz9_0 : w5.cell? ⟨gb235, 0, none⟩ = some (.string a1_0) := (blk_cell BK235.out 0).trans rfl
   have hcz9_1 : w5.cell? ⟨gb235, 1, none⟩ = some (.slice A1_1 l1_1.length c1_1) := (blk_cell BK235.out 1).trans rfl
   have hfz9_0 := blk_frozen BK235.out 0
   have hfz9_1 := blk_frozen BK235.out 1
   go_wp2
   repeat (go_quiet (fail); try go_wp2)
   go_meet
   case rel => exact ⟨_, (((l0_1.length : Int) != (l1_1.length : Int))), ra_, H', le_, bu2_ BK234, bu2_ BK235, be2_ HB⟩
  ·rw [if_neg c6] at H
   obtain ⟨c6b0, c6b1⟩ := neB_ c6
   (first | rw [c6b0] | (simp only [i64_w, i32_w]; rw [c6b0]) | skip)
   have H' := Aside0.mk H
   clear H
   have hnb10 := NB234_235.out
   have hnc10 := NB235_234.out
   have hcz11_0 : w5.cell? ⟨gb234, 0, none⟩ = some (.string a0_0) := (blk_cell BK234.out 0).trans rfl
   have hcz11_1 : w5.cell? ⟨gb234, 1, none⟩ = some (.slice A0_1 l0_1.length c0_1) := (blk_cell BK234.out 1).trans rfl
   have hfz11_0 := blk_frozen BK234.out 0
   have hfz11_1 := blk_frozen BK234.out 1
   have hcz12_0 : w5.cell? ⟨gb235, 0, none⟩ = some (.string a1_0) := (blk_cell BK235.out 0).trans rfl
   have hcz12_1 : w5.cell? ⟨gb235, 1, none⟩ = some (.slice A1_1 l1_1.length c1_1) := (blk_cell BK235.out 1).trans rfl
   have hfz12_0 := blk_frozen BK235.out 0
   have hfz12_1 := blk_frozen BK235.out 1
   go_wp2
   repeat (go_quiet (fail); try go_wp2)
   go_meet
   case rel => exact ⟨_, (true), ra_, H', le_, bu2_ BK234, bu2_ BK235, be2_ HB⟩
 case rest =>
  clear HC3
  try clear c1; try clear c2; try clear p2; try clear c6; try clear c6b0; try clear c6b1; try clear c7; try clear c10; try clear hcz11_0; try clear hcz11_1; try clear hcz12_0; try clear hcz12_1; try clear hcz8_0; try clear hcz8_1; try clear hcz9_0; try clear hcz9_1; try clear hfz11_0; try clear hfz11_1; try clear hfz12_0; try clear hfz12_1; try clear hfz8_0; try clear hfz8_1; try clear hfz9_0; try clear hfz9_1
  obtain ⟨kq, x19_2, rfl, HA, HJ2, BK234, BK235, HB⟩ := hcut
  cases kq with
  | zero => exact absurd HA.out (by simp [constablekeep_Fact.j0])
  | succ kj2 =>
   have H := HA.out
   clear HA
   simp only [constablekeep_Fact.j0] at H
   by_cases c13 : x19_2 = true
   ·subst c13
    rw [if_pos rfl] at H
    obtain rfl := Option.some.inj H
    go_wp2
    repeat (go_quiet (fail); try go_wp2)
    go_ret
    exact ⟨re_, be_ HB⟩
   ·replace c13 := Bool.eq_false_iff.mpr c13
    subst c13
    rw [if_neg (show ¬ (false = true) by decide)] at H
    have H' := Aside0.mk H
    clear H
    go_wp2
    repeat (go_quiet (fail); try go_wp2)
    go_loopg [5] kj2 (fun kq v5 w' => ∃ (x5_2 : Int), v5 = .int .i64 x5_2 ∧ Aside0 (constablekeep_Fact.l0 kq x5_2 a0_0 l0_1 a1_0 l1_1 = some r) ∧ Aside0 (kq ≤ kj2) ∧ Aside0 (w'.heap[gb234]? = some (.cells #[.string a0_0, (.slice A0_1 l0_1.length c0_1)] 24 (0, 0))) ∧ Aside0 (w'.heap[gb235]? = some (.cells #[.string a1_0, (.slice A1_1 l1_1.length c1_1)] 24 (0, 0))) ∧ Aside0 (Below w.heap.size w w'))
    case atStart => exact ⟨(0), ra_, H', ⟨Nat.le_refl _⟩, bu2_ BK234, bu2_ BK235, be2_ HB⟩
    case round =>
     clear H'
     try clear c1; try clear c2; try clear p2; try clear c6; try clear c6b0; try clear c6b1; try clear c7; try clear c10; try clear c13; try clear hcz11_0; try clear hcz11_1; try clear hcz12_0; try clear hcz12_1; try clear hcz8_0; try clear hcz8_1; try clear hcz9_0; try clear hcz9_1; try clear hfz11_0; try clear hfz11_1; try clear hfz12_0; try clear hfz12_1; try clear hfz8_0; try clear hfz8_1; try clear hfz9_0; try clear hfz9_1; try clear p2
     obtain ⟨x5_2, rfl, HA, HK2, BK234, BK235, HB⟩ := hrel
     cases gk with
     | zero => exact absurd HA.out (by simp [constablekeep_Fact.l0])
     | succ k2 =>
      have H := HA.out
      clear HA
      simp only [constablekeep_Fact.l0] at H
      by_cases c14 : x5_2 < (l0_1.length : Int)
      ·rw [if_pos c14] at H
       have c14b0 : decide (x5_2 < (l0_1.length : Int)) = true := decide_eq_true c14
       clear c14
       by_cases c15 : 0 ≤ x5_2
       ·rw [if_pos c15] at H
        have c15b0 : decide (0 ≤ x5_2) = true := decide_eq_true c15
        clear c15
        by_cases c16 : x5_2 < (l1_1.length : Int)
        ·rw [if_pos c16] at H
         have c16b0 : decide (x5_2 < (l1_1.length : Int)) = true := decide_eq_true c16
         clear c16
         by_cases c17 : (!(((rd_T44 l0_1 x5_2).f0) == ((rd_T44 l1_1 x5_2).f0)) || (!(((rd_T44 l0_1 x5_2).f1) == ((rd_T44 l1_1 x5_2).f1)) || (!((((rd_T44 l0_1 x5_2).f2).toList) == (((rd_T44 l1_1 x5_2).f2).toList))))) = true
         ·rw [if_pos c17] at H
          have c17b0 : (!(((rd_T44 l0_1 x5_2).f0) == ((rd_T44 l1_1 x5_2).f0)) || (!(((rd_T44 l0_1 x5_2).f1) == ((rd_T44 l1_1 x5_2).f1)) || (!((((rd_T44 l0_1 x5_2).f2).toList) == (((rd_T44 l1_1 x5_2).f2).toList))))) = true := c17
          clear c17
          obtain rfl := Option.some.inj H
          have hnb18 := NB234_235.out
          have hnc18 := NB235_234.out
          have hcz19_0 : wr.cell? ⟨gb234, 0, none⟩ = some (.string a0_0) := (blk_cell BK234.out 0).trans rfl
          have hcz19_1 : wr.cell? ⟨gb234, 1, none⟩ = some (.slice A0_1 l0_1.length c0_1) := (blk_cell BK234.out 1).trans rfl
          have hfz19_0 := blk_frozen BK234.out 0
          have hfz19_1 := blk_frozen BK234.out 1
          have p236 : 0 ≤ (x5_2 : Int) := dt_
          have q236 : x5_2 < (l0_1.length : Int) := dt_
          obtain ⟨ad236, e236, hx236_0, hx236_1, hx236_2⟩ := at_T44 HR0_1.out x5_2 p236 q236
          cases e236
          replace hx236_0 := cm_ HB hx236_0
          replace hx236_1 := cm_ HB hx236_1
          replace hx236_2 := cm_ HB hx236_2
          replace p236 := eq_true p236
          replace q236 := eq_true q236
          have hcz20_0 : wr.cell? ⟨gb235, 0, none⟩ = some (.string a1_0) := (blk_cell BK235.out 0).trans rfl
          have hcz20_1 : wr.cell? ⟨gb235, 1, none⟩ = some (.slice A1_1 l1_1.length c1_1) := (blk_cell BK235.out 1).trans rfl
          have hfz20_0 := blk_frozen BK235.out 0
          have hfz20_1 := blk_frozen BK235.out 1
          have p237 : 0 ≤ (x5_2 : Int) := dt_
          have q237 : x5_2 < (l1_1.length : Int) := dt_
          obtain ⟨ad237, e237, hx237_0, hx237_1, hx237_2⟩ := at_T44 HR1_1.out x5_2 p237 q237
          cases e237
          replace hx237_0 := cm_ HB hx237_0
          replace hx237_1 := cm_ HB hx237_1
          replace hx237_2 := cm_ HB hx237_2
          replace p237 := eq_true p237
          replace q237 := eq_true q237
          go_wp2
          repeat (go_quiet (fail); try go_wp2)
          go_ret
          exact ⟨re_, be_ HB⟩
         ·rw [if_neg c17] at H
          have c17b0 := Bool.eq_false_iff.2 c17
          clear c17
          have H' := Aside0.mk H
          clear H
          have hnb21 := NB234_235.out
          have hnc21 := NB235_234.out
          have hcz22_0 : wr.cell? ⟨gb234, 0, none⟩ = some (.string a0_0) := (blk_cell BK234.out 0).trans rfl
          have hcz22_1 : wr.cell? ⟨gb234, 1, none⟩ = some (.slice A0_1 l0_1.length c0_1) := (blk_cell BK234.out 1).trans rfl
          have hfz22_0 := blk_frozen BK234.out 0
          have hfz22_1 := blk_frozen BK234.out 1
          have p236 : 0 ≤ (x5_2 : Int) := dt_
          have q236 : x5_2 < (l0_1.length : Int) := dt_
          obtain ⟨ad236, e236, hx236_0, hx236_1, hx236_2⟩ := at_T44 HR0_1.out x5_2 p236 q236
          cases e236
          replace hx236_0 := cm_ HB hx236_0
          replace hx236_1 := cm_ HB hx236_1
          replace hx236_2 := cm_ HB hx236_2
          replace p236 := eq_true p236
          replace q236 := eq_true q236
          have hcz23_0 : wr.cell? ⟨gb235, 0, none⟩ = some (.string a1_0) := (blk_cell BK235.out 0).trans rfl
          have hcz23_1 : wr.cell? ⟨gb235, 1, none⟩ = some (.slice A1_1 l1_1.length c1_1) := (blk_cell BK235.out 1).trans rfl
          have hfz23_0 := blk_frozen BK235.out 0
          have hfz23_1 := blk_frozen BK235.out 1
          have p237 : 0 ≤ (x5_2 : Int) := dt_
          have q237 : x5_2 < (l1_1.length : Int) := dt_
          obtain ⟨ad237, e237, hx237_0, hx237_1, hx237_2⟩ := at_T44 HR1_1.out x5_2 p237 q237
          cases e237
          replace hx237_0 := cm_ HB hx237_0
          replace hx237_1 := cm_ HB hx237_1
          replace hx237_2 := cm_ HB hx237_2
          replace p237 := eq_true p237
          replace q237 := eq_true q237
          go_wp2
          repeat (go_quiet (fail); try go_wp2)
          go_roundg k2
          case measure => have := HJ2.out; have := HK2.out; omega
          case rel => exact ⟨(wrap64 (x5_2 + 1)), ra_, H', ⟨by have := HJ2.out; have := HK2.out; omega⟩, bu2_ BK234, bu2_ BK235, be2_ HB⟩
        ·rw [if_neg c16] at H
         exact absurd H (by simp)
       ·rw [if_neg c15] at H
        exact absurd H (by simp)
      ·rw [if_neg c14] at H
       have c14b0 : decide (x5_2 < (l0_1.length : Int)) = false := decide_eq_false c14
       clear c14
       obtain rfl := Option.some.inj H
       have hnb24 := NB234_235.out
       have hnc24 := NB235_234.out
       have hcz25_0 : wr.cell? ⟨gb234, 0, none⟩ = some (.string a0_0) := (blk_cell BK234.out 0).trans rfl
       have hcz25_1 : wr.cell? ⟨gb234, 1, none⟩ = some (.slice A0_1 l0_1.length c0_1) := (blk_cell BK234.out 1).trans rfl
       have hfz25_0 := blk_frozen BK234.out 0
       have hfz25_1 := blk_frozen BK234.out 1
       go_wp2
       repeat (go_quiet (fail); try go_wp2)
       go_ret
       exact ⟨re_, be_ HB⟩
end Go.Proofs.YtaopajmpifenoaaDoor.P
end
section
namespace Go.Proofs.YtaopajmpifenoaaDoor.P
open Go.RowKit Go.Proofs.YtaopajmpifenoaaDoorW.PrintWords Go.Proofs.YtaopajmpifenoaaDoorW.PrintLast Go.Proofs.YtaopajmpifenoaaDoorW.PrintMore
attribute [local go_sem] max2_int min2_int max_two min_two max_three min_three max_four min_four
set_option linter.unusedVariables false
set_option linter.unusedSimpArgs false
def constablelaw03_wakes.f (k : Nat)  : Option (Bool) := (fact_Text.f k (⟨#[112]⟩ : ByteArray) (([(⟨1, 1, (⟨#[]⟩ : ByteArray)⟩ : S44), (⟨2, 0, (⟨#[97]⟩ : ByteArray)⟩ : S44)] : List (S44)))).bind fun bt249 => (if bt249.2 = 0 then (if bt249.1.toList = ([112, 40, 49, 44, 32, 97, 41] : List UInt8) then ((fact_Name.f k (⟨#[110, 111, 116]⟩ : ByteArray)).bind fun t251 => (if t251 = true then (some false) else ((fact_Name.f k (⟨#[112]⟩ : ByteArray)).bind fun t252 => (if t252 = true then ((fact_Compare.f k (⟨#[97]⟩ : ByteArray) ([] : List (S44)) (⟨#[98]⟩ : ByteArray) ([] : List (S44))).bind fun t253 => (if t253 = (-1) then ((fact_Lists.f k ([] : List (S24)) (([(⟨(⟨#[]⟩ : ByteArray), ([] : List (S44))⟩ : S24)] : List (S24)))).bind fun t257 => (if t257 = (-1) then ((fact_Check.f k (⟨#[]⟩ : ByteArray) ([] : List (S44))).bind fun t258 => (some (t258 == 1))) else (some false))) else (some false))) else (some false))))) else (some false)) else (some false))
theorem constablelaw03_wakes.mono : ∀ k, LeO (constablelaw03_wakes.f k ) (constablelaw03_wakes.f (k + 1) ) := by
 intro  k
 unfold constablelaw03_wakes.f
 repeat' first
   | (with_reducible exact fact_Check.mono ..)
   | (with_reducible exact fact_Compare.mono ..)
   | (with_reducible exact fact_Lists.mono ..)
   | (with_reducible exact fact_Name.mono ..)
   | (with_reducible exact fact_Text.mono ..)
   | (with_reducible exact LeO.refl _)
   | (with_reducible exact LeO.none _)
   | (with_reducible refine LeO.ite ?_ ?_)
   | (with_reducible refine LeO.bind ?_ (fun _ => ?_))
   | exact fact_Check.mono ..
   | exact fact_Compare.mono ..
   | exact fact_Lists.mono ..
   | exact fact_Name.mono ..
   | exact fact_Text.mono ..
   | exact LeO.none _
   | refine LeO.ite ?_ ?_
   | refine LeO.bind ?_ (fun _ => ?_)
set_option maxHeartbeats 8000000 in
set_option maxRecDepth 100000 in
theorem constablelaw03_wakes.calls (k : Nat)  (r : Bool) (w : World) (h : constablelaw03_wakes.f k  = some r) (hr_ : r = true) (hl_ : LaidT w) :
  Calls Tryd.prog 24 #[] w fun e w' => e = .returned (.bool r) ∧ Below w.heap.size w w' := by
 have hu44 := Tryd.underlying44
 have hu24 := Tryd.underlying24
 have HB := Aside0.mk (Below.refl w.heap.size w)
 have H : ((fact_Text.f k (⟨#[112]⟩ : ByteArray) (([(⟨1, 1, (⟨#[]⟩ : ByteArray)⟩ : S44), (⟨2, 0, (⟨#[97]⟩ : ByteArray)⟩ : S44)] : List (S44)))).bind fun bt249 => (if bt249.2 = 0 then (if bt249.1.toList = ([112, 40, 49, 44, 32, 97, 41] : List UInt8) then ((fact_Name.f k (⟨#[110, 111, 116]⟩ : ByteArray)).bind fun t251 => (if t251 = true then (some false) else ((fact_Name.f k (⟨#[112]⟩ : ByteArray)).bind fun t252 => (if t252 = true then ((fact_Compare.f k (⟨#[97]⟩ : ByteArray) ([] : List (S44)) (⟨#[98]⟩ : ByteArray) ([] : List (S44))).bind fun t253 => (if t253 = (-1) then ((fact_Lists.f k ([] : List (S24)) (([(⟨(⟨#[]⟩ : ByteArray), ([] : List (S44))⟩ : S24)] : List (S24)))).bind fun t257 => (if t257 = (-1) then ((fact_Check.f k (⟨#[]⟩ : ByteArray) ([] : List (S44))).bind fun t258 => (some (t258 == 1))) else (some false))) else (some false))) else (some false))))) else (some false)) else (some false))) = some r := h
 clear h
 have HL_ := Aside0.mk hl_
 clear hl_
 have HR_ := Aside0.mk hr_
 clear hr_
 obtain ⟨y246, hy246⟩ : ∃ y_ : List (S44), y_ = (([(⟨1, 1, (⟨#[]⟩ : ByteArray)⟩ : S44), (⟨2, 0, (⟨#[97]⟩ : ByteArray)⟩ : S44)] : List (S44))) := ⟨_, rfl⟩
 replace H : ((fact_Text.f k (⟨#[112]⟩ : ByteArray) y246).bind fun bt249 => (if bt249.2 = 0 then (if bt249.1.toList = ([112, 40, 49, 44, 32, 97, 41] : List UInt8) then ((fact_Name.f k (⟨#[110, 111, 116]⟩ : ByteArray)).bind fun t251 => (if t251 = true then (some false) else ((fact_Name.f k (⟨#[112]⟩ : ByteArray)).bind fun t252 => (if t252 = true then ((fact_Compare.f k (⟨#[97]⟩ : ByteArray) ([] : List (S44)) (⟨#[98]⟩ : ByteArray) ([] : List (S44))).bind fun t253 => (if t253 = (-1) then ((fact_Lists.f k ([] : List (S24)) (([(⟨(⟨#[]⟩ : ByteArray), ([] : List (S44))⟩ : S24)] : List (S24)))).bind fun t257 => (if t257 = (-1) then ((fact_Check.f k (⟨#[]⟩ : ByteArray) ([] : List (S44))).bind fun t258 => (some (t258 == 1))) else (some false))) else (some false))) else (some false))))) else (some false)) else (some false))) = some r := by first | (rw [hy246]; with_reducible exact H) | (have H2_ := (Option.bind_some _ _).symm.trans H; rw [hy246]; with_reducible exact H2_) | (have H2_ := (Option.bind_some _ _).symm.trans H; with_reducible exact H2_) | with_reducible exact H | (rw [hy246]; exact H) | exact H
 have Ny246 := Aside0.mk hy246
 clear hy246
 replace H := Option.bind_eq_some_iff.mp H
 obtain ⟨⟨t249, t250⟩, A10, H⟩ := H
 try dsimp only at H
 have A1 := Aside0.mk A10
 clear A10
 by_cases c2 : t250 = 0
 ·rw [if_pos c2] at H
  obtain ⟨c2b0, c2b1⟩ := eqB_ c2
  clear c2
  by_cases c3 : t249.toList = ([112, 40, 49, 44, 32, 97, 41] : List UInt8)
  ·rw [if_pos c3] at H
   obtain ⟨c3b0, c3b1⟩ := eqB_ c3
   clear c3
   replace H := Option.bind_eq_some_iff.mp H
   obtain ⟨t251, A40, H⟩ := H
   try dsimp only at H
   have A4 := Aside0.mk A40
   clear A40
   by_cases c5 : t251 = true
   ·subst c5
    rw [if_pos rfl] at H
    exact absurd ((Option.some.inj H).trans HR_.out) (by decide)
   ·replace c5 := Bool.eq_false_iff.mpr c5
    subst c5
    rw [if_neg (show ¬ (false = true) by decide)] at H
    replace H := Option.bind_eq_some_iff.mp H
    obtain ⟨t252, A60, H⟩ := H
    try dsimp only at H
    have A6 := Aside0.mk A60
    clear A60
    by_cases c7 : t252 = true
    ·subst c7
     rw [if_pos rfl] at H
     replace H := Option.bind_eq_some_iff.mp H
     obtain ⟨t253, A80, H⟩ := H
     try dsimp only at H
     have A8 := Aside0.mk A80
     clear A80
     by_cases c9 : t253 = (-1)
     ·rw [if_pos c9] at H
      obtain ⟨c9b0, c9b1⟩ := eqB_ c9
      clear c9
      obtain ⟨y254, hy254⟩ : ∃ y_ : List (S24), y_ = (([(⟨(⟨#[]⟩ : ByteArray), ([] : List (S44))⟩ : S24)] : List (S24))) := ⟨_, rfl⟩
      replace H : ((fact_Lists.f k ([] : List (S24)) y254).bind fun t257 => (if t257 = (-1) then ((fact_Check.f k (⟨#[]⟩ : ByteArray) ([] : List (S44))).bind fun t258 => (some (t258 == 1))) else (some false))) = some r := by first | (rw [hy254]; with_reducible exact H) | (have H2_ := (Option.bind_some _ _).symm.trans H; rw [hy254]; with_reducible exact H2_) | (have H2_ := (Option.bind_some _ _).symm.trans H; with_reducible exact H2_) | with_reducible exact H | (rw [hy254]; exact H) | exact H
      have Ny254 := Aside0.mk hy254
      clear hy254
      replace H := Option.bind_eq_some_iff.mp H
      obtain ⟨t257, A100, H⟩ := H
      try dsimp only at H
      have A10 := Aside0.mk A100
      clear A100
      by_cases c11 : t257 = (-1)
      ·rw [if_pos c11] at H
       obtain ⟨c11b0, c11b1⟩ := eqB_ c11
       clear c11
       replace H := Option.bind_eq_some_iff.mp H
       obtain ⟨t258, A120, H⟩ := H
       try dsimp only at H
       have A12 := Aside0.mk A120
       clear A120
       obtain rfl := Option.some.inj H
       go_enter Tryd.func24, Tryd.ntmps24
       go_wp2_with (first | ((with_reducible refine gate_dst (N := 6) rfl ?_); (try (refine gate_guard (by rfl) ?_; dsimp only)); refine Kd.R_lit k44 _ 44 ?hg (N := 6) ?hd (xs := ([(⟨1, 1, (⟨#[]⟩ : ByteArray)⟩ : S44), (⟨2, 0, (⟨#[97]⟩ : ByteArray)⟩ : S44)] : List (S44))) (inner := [.int .i64 1, .int .i64 1, .string (⟨#[]⟩ : ByteArray), .int .i64 2, .int .i64 0, .string (⟨#[97]⟩ : ByteArray)]) (ok := fun _ => True) (okp := fun _ => True) ?hr ?hp (fun _ hk => hk) trivial (Below.refl _ _) (Nat.le_refl _) (by simp) ?_; (case hd => rfl); (case hg => rfl); (case hr => first | (go_simp; done) | (go_simp; rfl)); (case hp => exact (Reps.c3 (show Kd.M k44 _ _ _ (⟨1, 1, (⟨#[]⟩ : ByteArray)⟩ : S44) [.int .i64 1, .int .i64 1, .string (⟨#[]⟩ : ByteArray)] from (k44_mkM _ _ _ (⟨1, 1, (⟨#[]⟩ : ByteArray)⟩ : S44) )) (Reps.c3 (show Kd.M k44 _ _ _ (⟨2, 0, (⟨#[97]⟩ : ByteArray)⟩ : S44) [.int .i64 2, .int .i64 0, .string (⟨#[97]⟩ : ByteArray)] from (k44_mkM _ _ _ (⟨2, 0, (⟨#[97]⟩ : ByteArray)⟩ : S44) )) (Reps.none _ _)))); intro v247 w13 ho14 hb hg_ hnew_; clear hg_ hnew_; (first | rw [← Ny246.out] at ho14 | (simp only [Int.reduceToNat] at ho14; rw [← Ny246.out] at ho14)); have HO248 := Aside0.mk (Kd.R_lower ho14 (below_size (be_ HB))); replace HB := bs_ (be_ HB) hb; clear hb ho14; obtain ⟨Ao15, co15, eo15⟩ := Kd.R_slice HO248.out; subst eo15) | ((with_reducible refine gate_callee (f := 14) rfl ?_); refine goesL_ (some 8) rfl rfl Tryd.func14 (by kernel_rfl) rfl #[.agg #[.string (⟨#[112]⟩ : ByteArray), .slice Ao15 y246.length co15]] rfl ga_ ?_; (with_reducible refine (fact_Text.calls k (⟨#[112]⟩ : ByteArray) _ _ y246 t249 t250 _ ?side1 ?side2 A1.out (tt_ HL_ (be_ HB))).mono ?_); (case side1 => exact kd_ ((Kd.R_reads' HO248.out).2.2)); (case side2 => exact (Kd.R_reads' HO248.out).2.1); rintro e w16 ⟨rfl, hb⟩; refine ⟨_, rfl, ?_⟩; replace HO248 := kb_ (ku_ HO248.out) hb; replace HB := bs_ (be_ HB) hb; (try clear hb); (try clear hb2); (try clear hk); (try clear hi)) | (go_at_call 15; (with_reducible refine (fact_Name.calls k (⟨#[110, 111, 116]⟩ : ByteArray) false _ A4.out).mono ?_); rintro e w17 ⟨rfl, hb⟩; replace HO248 := kb_ (ku_ HO248.out) hb; replace HB := bs_ (be_ HB) hb; (try clear hb); (try clear hb2); (try clear hk); (try clear hi)) | (go_at_call 15; (with_reducible refine (fact_Name.calls k (⟨#[112]⟩ : ByteArray) true _ A6.out).mono ?_); rintro e w18 ⟨rfl, hb⟩; replace HO248 := kb_ (ku_ HO248.out) hb; replace HB := bs_ (be_ HB) hb; (try clear hb); (try clear hb2); (try clear hk); (try clear hi)) | (go_at_call 17; (refine (fact_Compare.calls k (⟨#[97]⟩ : ByteArray) none 0 ([] : List (S44)) (⟨#[98]⟩ : ByteArray) none 0 ([] : List (S44)) t253 _ ?side1 ?side2 ?side3 ?side4 A8.out).mono ?_); (case side1 => exact Kd.C_nil _ _); (case side2 => exact Nat.le_refl _); (case side3 => exact Kd.C_nil _ _); (case side4 => exact Nat.le_refl _); rintro e w19 ⟨rfl, hb⟩; replace HO248 := kb_ (ku_ HO248.out) hb; replace HB := bs_ (be_ HB) hb; (try clear hb); (try clear hb2); (try clear hk); (try clear hi); (try clear A8)) | ((with_reducible refine gate_dst (N := 32) rfl ?_); (try (refine gate_guard (by rfl) ?_; dsimp only)); refine Kd.S_lit k24 _ 24 ?hg (N := 32) ?hd (xs := ([(⟨(⟨#[]⟩ : ByteArray), ([] : List (S44))⟩ : S24)] : List (S24))) (inner := [.string (⟨#[]⟩ : ByteArray), .slice none 0 0]) (ok := fun _ => True) (okp := fun _ => True) ?hr ?hp (fun _ hk => hk) trivial (Below.refl _ _) (Nat.le_refl _) (by simp) ?_; (case hd => rfl); (case hg => rfl); (case hr => first | (go_simp; done) | (go_simp; rfl)); (case hp => exact (Reps.c2 (show Kd.M k24 _ _ _ (⟨(⟨#[]⟩ : ByteArray), ([] : List (S44))⟩ : S24) [.string (⟨#[]⟩ : ByteArray), .slice none 0 0] from (k24_mkM _ _ _ (⟨(⟨#[]⟩ : ByteArray), ([] : List (S44))⟩ : S24) (Kd.R_nil _ _ _ _ _))) (Reps.none _ _))); intro v255 w20 ho21 hb hg_ hnew_; clear hg_ hnew_; (first | rw [← Ny254.out] at ho21 | (simp only [Int.reduceToNat] at ho21; rw [← Ny254.out] at ho21)); have HO256 := Aside0.mk (Kd.S_lower (Kd.S_new' ho21 (Kd.R_lt (ku_ HO248.out))) (below_size (be_ HB))); replace HO248 := kb_ (ku_ HO248.out) hb; replace HB := bs_ (be_ HB) hb; clear hb ho21; obtain ⟨Ao22, co22, eo22⟩ := Kd.S_slice HO256.out; subst eo22) | (go_at_call 19; (refine (fact_Lists.calls k none 0 ([] : List (S24)) _ _ y254 t257 _ ?side1 ?side2 ?side3 ?side4 A10.out).mono ?_); (case side1 => exact Kd.C_nil _ _); (case side2 => exact Nat.le_refl _); (case side3 => exact kd_ ((Kd.S_reads' HO256.out).2.2)); (case side4 => exact (Kd.S_reads' HO256.out).2.1); rintro e w23 ⟨rfl, hb⟩; replace HO248 := kb_ (ku_ HO248.out) hb; replace HO256 := bS_ HO256 hb; replace HB := bs_ (be_ HB) hb; (try clear hb); (try clear hb2); (try clear hk); (try clear hi); (try clear A10)) | (go_at_call 23; (refine (fact_Check.calls k (⟨#[]⟩ : ByteArray) none 0 ([] : List (S44)) t258 _ ?side1 ?side2 A12.out).mono ?_); (case side1 => exact Kd.C_nil _ _); (case side2 => exact Nat.le_refl _); rintro e w24 ⟨rfl, hb⟩; replace HO248 := kb_ (ku_ HO248.out) hb; replace HO256 := bS_ HO256 hb; replace HB := bs_ (be_ HB) hb; (try clear hb); (try clear hb2); (try clear hk); (try clear hi); (try clear A12)))
       go_ret
       exact ⟨re_, be_ HB⟩
      ·rw [if_neg c11] at H
       obtain ⟨c11b0, c11b1⟩ := neB_ c11
       exact absurd ((Option.some.inj H).trans HR_.out) (by decide)
     ·rw [if_neg c9] at H
      obtain ⟨c9b0, c9b1⟩ := neB_ c9
      exact absurd ((Option.some.inj H).trans HR_.out) (by decide)
    ·replace c7 := Bool.eq_false_iff.mpr c7
     subst c7
     rw [if_neg (show ¬ (false = true) by decide)] at H
     exact absurd ((Option.some.inj H).trans HR_.out) (by decide)
  ·rw [if_neg c3] at H
   obtain ⟨c3b0, c3b1⟩ := neB_ c3
   exact absurd ((Option.some.inj H).trans HR_.out) (by decide)
 ·rw [if_neg c2] at H
  obtain ⟨c2b0, c2b1⟩ := neB_ c2
  exact absurd ((Option.some.inj H).trans HR_.out) (by decide)
end Go.Proofs.YtaopajmpifenoaaDoor.P
end
section
namespace Go.Proofs.YtaopajmpifenoaaDoor.P
open Go.RowKit Go.Proofs.YtaopajmpifenoaaDoorW.PrintWords Go.Proofs.YtaopajmpifenoaaDoorW.PrintLast Go.Proofs.YtaopajmpifenoaaDoorW.PrintMore
attribute [local go_sem] max2_int min2_int max_two min_two max_three min_three max_four min_four
set_option linter.unusedVariables false
set_option linter.unusedSimpArgs false
mutual
def constablelaw03_FactOrder.j0 : Nat → Bool → ByteArray → List (S44) → ByteArray → List (S44) → ByteArray → List (S44) → Option (Bool)
 | 0, _, _, _, _, _, _, _ => none
 | k + 1, x25, x300000, x300001, x301000, x301001, x302000, x302001 => if x25 = true then (some true) else ((fact_Compare.f k x300000 x300001 x301000 x301001).bind fun t305 => ((fact_Compare.f k x301000 x301001 x302000 x302001).bind fun t306 => ((fact_Compare.f k x300000 x300001 x302000 x302001).bind fun t307 => ((fact_Compare.f k x301000 x301001 x300000 x300001).bind fun t308 => (if t305 = (wrap64 (-t308)) then ((constablekeep_Fact.f k x300000 x300001 x301000 x301001).bind fun t309 => (if ((t305 == 0) != t309) = true then (constablelaw03_FactOrder.j1 k t305 true x300000 x300001 x301000 x301001 x302000 x302001) else (if t305 > 0 then (if t305 ≥ 0 then (constablelaw03_FactOrder.j1 k t305 (!true) x300000 x300001 x301000 x301001 x302000 x302001) else (if t306 > 0 then (constablelaw03_FactOrder.j1 k t305 (!true) x300000 x300001 x301000 x301001 x302000 x302001) else (constablelaw03_FactOrder.j1 k t305 (!(decide (t307 < 0))) x300000 x300001 x301000 x301001 x302000 x302001))) else (if t306 > 0 then (if t305 ≥ 0 then (constablelaw03_FactOrder.j1 k t305 (!true) x300000 x300001 x301000 x301001 x302000 x302001) else (constablelaw03_FactOrder.j1 k t305 (!true) x300000 x300001 x301000 x301001 x302000 x302001)) else (if t307 ≤ 0 then (if t305 ≥ 0 then (constablelaw03_FactOrder.j1 k t305 (!true) x300000 x300001 x301000 x301001 x302000 x302001) else (constablelaw03_FactOrder.j1 k t305 (!(decide (t307 < 0))) x300000 x300001 x301000 x301001 x302000 x302001)) else (constablelaw03_FactOrder.j1 k t305 (!false) x300000 x300001 x301000 x301001 x302000 x302001)))))) else (constablelaw03_FactOrder.j1 k t305 true x300000 x300001 x301000 x301001 x302000 x302001))))))
def constablelaw03_FactOrder.j1 : Nat → Int → Bool → ByteArray → List (S44) → ByteArray → List (S44) → ByteArray → List (S44) → Option (Bool)
 | 0, _, _, _, _, _, _, _, _ => none
 | k + 1, x7, x73, x300000, x300001, x301000, x301001, x302000, x302001 => if x73 = true then (some false) else ((fact_Lists.f k (([(⟨x300000, x300001⟩ : S24)] : List (S24))) (([(⟨x301000, x301001⟩ : S24)] : List (S24)))).bind fun t316 => ((fact_Lists.f k (([(⟨x302000, x302001⟩ : S24), (⟨x300000, x300001⟩ : S24)] : List (S24))) (([(⟨x302000, x302001⟩ : S24), (⟨x301000, x301001⟩ : S24)] : List (S24)))).bind fun t323 => (if t316 = x7 then (if t323 = x7 then ((fact_Lists.f k (([(⟨x300000, x300001⟩ : S24)] : List (S24))) (([(⟨x300000, x300001⟩ : S24), (⟨x301000, x301001⟩ : S24)] : List (S24)))).bind fun t330 => (constablelaw03_FactOrder.j2 k (t330 != (-1)) x300000 x300001 x301000 x301001)) else (constablelaw03_FactOrder.j2 k true x300000 x300001 x301000 x301001)) else (constablelaw03_FactOrder.j2 k true x300000 x300001 x301000 x301001))))
def constablelaw03_FactOrder.j2 : Nat → Bool → ByteArray → List (S44) → ByteArray → List (S44) → Option (Bool)
 | 0, _, _, _, _, _ => none
 | k + 1, x102, x300000, x300001, x301000, x301001 => if x102 = true then (some false) else ((fact_Text.f k x300000 x300001).bind fun bt331 => ((fact_Text.f k x301000 x301001).bind fun bt333 => (if bt331.2 = 0 then (if bt333.2 = 0 then ((constablekeep_Fact.f k x300000 x300001 x301000 x301001).bind fun t335 => (if ((bt331.1.toList == bt333.1.toList) == t335) = true then ((constablelaw03_wakes.f k).bind fun t336 => (some t336)) else (some false))) else ((constablelaw03_wakes.f k).bind fun t337 => (some t337))) else ((constablelaw03_wakes.f k).bind fun t338 => (some t338)))))
end
def constablelaw03_FactOrder.f (k : Nat) (a0_0 : ByteArray) (l0_1 : List (S44)) (a1_0 : ByteArray) (l1_1 : List (S44)) (a2_0 : ByteArray) (l2_1 : List (S44)) : Option (Bool) := (constablelaw03_Heavy.f k a0_0 l0_1).bind fun t302 => (if t302 = true then (constablelaw03_FactOrder.j0 k true a0_0 l0_1 a1_0 l1_1 a2_0 l2_1) else ((constablelaw03_Heavy.f k a1_0 l1_1).bind fun t303 => (if t303 = true then (constablelaw03_FactOrder.j0 k true a0_0 l0_1 a1_0 l1_1 a2_0 l2_1) else ((constablelaw03_Heavy.f k a2_0 l2_1).bind fun t304 => (constablelaw03_FactOrder.j0 k t304 a0_0 l0_1 a1_0 l1_1 a2_0 l2_1)))))
theorem constablelaw03_FactOrder.mono_l : ∀ k, (∀ y0 y1 y2 y3 y4 y5 y6, LeO (constablelaw03_FactOrder.j0 k y0 y1 y2 y3 y4 y5 y6) (constablelaw03_FactOrder.j0 (k + 1) y0 y1 y2 y3 y4 y5 y6)) ∧ (∀ y0 y1 y2 y3 y4 y5 y6 y7, LeO (constablelaw03_FactOrder.j1 k y0 y1 y2 y3 y4 y5 y6 y7) (constablelaw03_FactOrder.j1 (k + 1) y0 y1 y2 y3 y4 y5 y6 y7)) ∧ (∀ y0 y1 y2 y3 y4, LeO (constablelaw03_FactOrder.j2 k y0 y1 y2 y3 y4) (constablelaw03_FactOrder.j2 (k + 1) y0 y1 y2 y3 y4))
 | 0 => ⟨fun _ _ _ _ _ _ _ r h => by simp [constablelaw03_FactOrder.j0] at h, fun _ _ _ _ _ _ _ _ r h => by simp [constablelaw03_FactOrder.j1] at h, fun _ _ _ _ _ r h => by simp [constablelaw03_FactOrder.j2] at h⟩
 | k + 1 => by
  obtain ⟨ih0, ih1, ih2⟩ := constablelaw03_FactOrder.mono_l k
  refine ⟨?_, ?_, ?_⟩
  ·intro y0 y1 y2 y3 y4 y5 y6
   unfold constablelaw03_FactOrder.j0
   repeat' first
   | (with_reducible exact ih0 _ _ _ _ _ _ _)
   | (with_reducible exact ih1 _ _ _ _ _ _ _ _)
   | (with_reducible exact ih2 _ _ _ _ _)
   | (with_reducible exact constablekeep_Fact.mono ..)
   | (with_reducible exact constablelaw03_Heavy.mono ..)
   | (with_reducible exact constablelaw03_wakes.mono ..)
   | (with_reducible exact fact_Compare.mono ..)
   | (with_reducible exact fact_Lists.mono ..)
   | (with_reducible exact fact_Text.mono ..)
   | (with_reducible exact LeO.refl _)
   | (with_reducible exact LeO.none _)
   | (with_reducible refine LeO.ite ?_ ?_)
   | (with_reducible refine LeO.bind ?_ (fun _ => ?_))
   | exact ih0 _ _ _ _ _ _ _
   | exact ih1 _ _ _ _ _ _ _ _
   | exact ih2 _ _ _ _ _
   | exact constablekeep_Fact.mono ..
   | exact constablelaw03_Heavy.mono ..
   | exact constablelaw03_wakes.mono ..
   | exact fact_Compare.mono ..
   | exact fact_Lists.mono ..
   | exact fact_Text.mono ..
   | exact LeO.none _
   | refine LeO.ite ?_ ?_
   | refine LeO.bind ?_ (fun _ => ?_)
  ·intro y0 y1 y2 y3 y4 y5 y6 y7
   unfold constablelaw03_FactOrder.j1
   repeat' first
   | (with_reducible exact ih0 _ _ _ _ _ _ _)
   | (with_reducible exact ih1 _ _ _ _ _ _ _ _)
   | (with_reducible exact ih2 _ _ _ _ _)
   | (with_reducible exact constablekeep_Fact.mono ..)
   | (with_reducible exact constablelaw03_Heavy.mono ..)
   | (with_reducible exact constablelaw03_wakes.mono ..)
   | (with_reducible exact fact_Compare.mono ..)
   | (with_reducible exact fact_Lists.mono ..)
   | (with_reducible exact fact_Text.mono ..)
   | (with_reducible exact LeO.refl _)
   | (with_reducible exact LeO.none _)
   | (with_reducible refine LeO.ite ?_ ?_)
   | (with_reducible refine LeO.bind ?_ (fun _ => ?_))
   | exact ih0 _ _ _ _ _ _ _
   | exact ih1 _ _ _ _ _ _ _ _
   | exact ih2 _ _ _ _ _
   | exact constablekeep_Fact.mono ..
   | exact constablelaw03_Heavy.mono ..
   | exact constablelaw03_wakes.mono ..
   | exact fact_Compare.mono ..
   | exact fact_Lists.mono ..
   | exact fact_Text.mono ..
   | exact LeO.none _
   | refine LeO.ite ?_ ?_
   | refine LeO.bind ?_ (fun _ => ?_)
  ·intro y0 y1 y2 y3 y4
   unfold constablelaw03_FactOrder.j2
   repeat' first
   | (with_reducible exact ih0 _ _ _ _ _ _ _)
   | (with_reducible exact ih1 _ _ _ _ _ _ _ _)
   | (with_reducible exact ih2 _ _ _ _ _)
   | (with_reducible exact constablekeep_Fact.mono ..)
   | (with_reducible exact constablelaw03_Heavy.mono ..)
   | (with_reducible exact constablelaw03_wakes.mono ..)
   | (with_reducible exact fact_Compare.mono ..)
   | (with_reducible exact fact_Lists.mono ..)
   | (with_reducible exact fact_Text.mono ..)
   | (with_reducible exact LeO.refl _)
   | (with_reducible exact LeO.none _)
   | (with_reducible refine LeO.ite ?_ ?_)
   | (with_reducible refine LeO.bind ?_ (fun _ => ?_))
   | exact ih0 _ _ _ _ _ _ _
   | exact ih1 _ _ _ _ _ _ _ _
   | exact ih2 _ _ _ _ _
   | exact constablekeep_Fact.mono ..
   | exact constablelaw03_Heavy.mono ..
   | exact constablelaw03_wakes.mono ..
   | exact fact_Compare.mono ..
   | exact fact_Lists.mono ..
   | exact fact_Text.mono ..
   | exact LeO.none _
   | refine LeO.ite ?_ ?_
   | refine LeO.bind ?_ (fun _ => ?_)
theorem constablelaw03_FactOrder.mono : ∀ a0 a1 a2 a3 a4 a5 k, LeO (constablelaw03_FactOrder.f k a0 a1 a2 a3 a4 a5) (constablelaw03_FactOrder.f (k + 1) a0 a1 a2 a3 a4 a5) := by
 intro a0 a1 a2 a3 a4 a5 k
 obtain ⟨ih0, ih1, ih2⟩ := constablelaw03_FactOrder.mono_l k
 unfold constablelaw03_FactOrder.f
 repeat' first
   | (with_reducible exact ih0 _ _ _ _ _ _ _)
   | (with_reducible exact ih1 _ _ _ _ _ _ _ _)
   | (with_reducible exact ih2 _ _ _ _ _)
   | (with_reducible exact constablekeep_Fact.mono ..)
   | (with_reducible exact constablelaw03_Heavy.mono ..)
   | (with_reducible exact constablelaw03_wakes.mono ..)
   | (with_reducible exact fact_Compare.mono ..)
   | (with_reducible exact fact_Lists.mono ..)
   | (with_reducible exact fact_Text.mono ..)
   | (with_reducible exact LeO.refl _)
   | (with_reducible exact LeO.none _)
   | (with_reducible refine LeO.ite ?_ ?_)
   | (with_reducible refine LeO.bind ?_ (fun _ => ?_))
   | exact ih0 _ _ _ _ _ _ _
   | exact ih1 _ _ _ _ _ _ _ _
   | exact ih2 _ _ _ _ _
   | exact constablekeep_Fact.mono ..
   | exact constablelaw03_Heavy.mono ..
   | exact constablelaw03_wakes.mono ..
   | exact fact_Compare.mono ..
   | exact fact_Lists.mono ..
   | exact fact_Text.mono ..
   | exact LeO.none _
   | refine LeO.ite ?_ ?_
   | refine LeO.bind ?_ (fun _ => ?_)
def constablelaw03_FactOrder.T3 : Bool × List (List Nat × List Nat) := (true, [([], []), ([], []), ([0, 1], [0, 1]), ([], []), ([], []), ([3, 4, 2], [3, 4]), ([], []), ([], []), ([6, 7, 5], [6, 7]), ([2, 8, 0, 1, 2], [2]), ([5, 9, 0, 1, 2, 3, 4, 5, 9], [5]), ([8, 10, 0, 1, 2, 3, 4, 5, 6, 7, 8, 9, 10], [8])])
def constablelaw03_FactOrder.B3 : List Nat := [0, 0, 3, 0, 0, 31, 0, 0, 255, 511, 1023, 2047]
theorem constablelaw03_FactOrder.tab3 : rtab .any (opsOf Tryd.f4 3) = constablelaw03_FactOrder.T3 := by kernel_rfl
theorem constablelaw03_FactOrder.bits3 : waitsOk constablelaw03_FactOrder.T3.2 constablelaw03_FactOrder.B3 = true := by kernel_rfl
set_option maxHeartbeats 8000000 in
set_option maxRecDepth 100000 in
theorem constablelaw03_FactOrder.calls (k : Nat) (a0_0 : ByteArray) (P0_1_ : Nat → Prop) (A0_1 : Option Addr) (c0_1 : Nat) (l0_1 : List (S44)) (a1_0 : ByteArray) (P1_1_ : Nat → Prop) (A1_1 : Option Addr) (c1_1 : Nat) (l1_1 : List (S44)) (a2_0 : ByteArray) (P2_1_ : Nat → Prop) (A2_1 : Option Addr) (c2_1 : Nat) (l2_1 : List (S44)) (r : Bool) (w : World) (hs0_1 : Kd.V k44 44 w w.heap.size (fun k_ => P0_1_ k_) (.slice A0_1 l0_1.length c0_1) l0_1) (hs1_1 : Kd.V k44 44 w w.heap.size (fun k_ => P1_1_ k_) (.slice A1_1 l1_1.length c1_1) l1_1) (hs2_1 : Kd.V k44 44 w w.heap.size (fun k_ => P2_1_ k_) (.slice A2_1 l2_1.length c2_1) l2_1) (h : constablelaw03_FactOrder.f k a0_0 l0_1 a1_0 l1_1 a2_0 l2_1 = some r) (hr_ : r = true) (hl_ : LaidT w) :
  Calls Tryd.prog 4 #[.agg #[.string a0_0, .slice A0_1 l0_1.length c0_1], .agg #[.string a1_0, .slice A1_1 l1_1.length c1_1], .agg #[.string a2_0, .slice A2_1 l2_1.length c2_1]] w fun e w' => e = .returned (.bool r) ∧ Below w.heap.size w w' := by
 have hu24 := Tryd.underlying24
 have HO0_1 := Aside0.mk (show Kd.V k44 44 w w.heap.size (fun k_ => ((P0_1_ k_ ∨ P1_1_ k_ ∨ P2_1_ k_) ∨ w.heap.size ≤ k_)) (.slice A0_1 l0_1.length c0_1) l0_1 from Kd.V_mono hs0_1 (fun k_ hk => .inl (.inl hk)))
 have HO1_1 := Aside0.mk (show Kd.V k44 44 w w.heap.size (fun k_ => ((P0_1_ k_ ∨ P1_1_ k_ ∨ P2_1_ k_) ∨ w.heap.size ≤ k_)) (.slice A1_1 l1_1.length c1_1) l1_1 from Kd.V_mono hs1_1 (fun k_ hk => .inl (.inr (.inl hk))))
 have HO2_1 := Aside0.mk (show Kd.V k44 44 w w.heap.size (fun k_ => ((P0_1_ k_ ∨ P1_1_ k_ ∨ P2_1_ k_) ∨ w.heap.size ≤ k_)) (.slice A2_1 l2_1.length c2_1) l2_1 from Kd.V_mono hs2_1 (fun k_ hk => .inl (.inr (.inr hk))))
 have HB := Aside0.mk (Below.refl w.heap.size w)
 have H : ((constablelaw03_Heavy.f k a0_0 l0_1).bind fun t302 => (if t302 = true then (constablelaw03_FactOrder.j0 k true a0_0 l0_1 a1_0 l1_1 a2_0 l2_1) else ((constablelaw03_Heavy.f k a1_0 l1_1).bind fun t303 => (if t303 = true then (constablelaw03_FactOrder.j0 k true a0_0 l0_1 a1_0 l1_1 a2_0 l2_1) else ((constablelaw03_Heavy.f k a2_0 l2_1).bind fun t304 => (constablelaw03_FactOrder.j0 k t304 a0_0 l0_1 a1_0 l1_1 a2_0 l2_1)))))) = some r := h
 clear h
 have HL_ := Aside0.mk hl_
 clear hl_
 have HR_ := Aside0.mk hr_
 clear hr_
 have HC4 := Aside0.mk H
 clear H
 go_enter Tryd.func4, Tryd.ntmps4
 go_upto_region 1 with (first | ((with_reducible refine gate_dst (N := 3) rfl ?_); (try (refine gate_guard (by rfl) ?_; dsimp only)); refine box_event ?hg (N := 3) ?hd (cs := #[.string a0_0, .slice A0_1 l0_1.length c0_1]) (t := 24) ?hr ?_; (case hd => rfl); (case hg => rfl); (case hr => first | (go_simp; done) | (go_simp; rfl)); intro gb299 hg w5 hbox hb; replace HO0_1 := Aside0.mk (Kd.V_below (Kd.V_elderB (kV_ HO0_1) gb299 (Nat.le_of_eq hg.symm)) hb); replace HO1_1 := Aside0.mk (Kd.V_below (Kd.V_elderB (kV_ HO1_1) gb299 (Nat.le_of_eq hg.symm)) hb); replace HO2_1 := Aside0.mk (Kd.V_below (Kd.V_elderB (kV_ HO2_1) gb299 (Nat.le_of_eq hg.symm)) hb); have BK299 := Aside0.mk (hbox); have GW299 := gs_ hg (be_ HB); have GE299 := gs_ hg (be_ HB); replace HB := bs_ (be_ HB) hb; clear hb hbox hg) | ((with_reducible refine gate_dst (N := 4) rfl ?_); (try (refine gate_guard (by rfl) ?_; dsimp only)); refine box_event ?hg (N := 4) ?hd (cs := #[.string a1_0, .slice A1_1 l1_1.length c1_1]) (t := 24) ?hr ?_; (case hd => rfl); (case hg => rfl); (case hr => first | (go_simp; done) | (go_simp; rfl)); intro gb300 hg w6 hbox hb; replace HO0_1 := Aside0.mk (Kd.V_below (Kd.V_elderB (kV_ HO0_1) gb300 (Nat.le_of_eq hg.symm)) hb); replace HO1_1 := Aside0.mk (Kd.V_below (Kd.V_elderB (kV_ HO1_1) gb300 (Nat.le_of_eq hg.symm)) hb); replace HO2_1 := Aside0.mk (Kd.V_below (Kd.V_elderB (kV_ HO2_1) gb300 (Nat.le_of_eq hg.symm)) hb); have BK300 := Aside0.mk (hbox); have GW300 := gs_ hg (be_ HB); have GE300 := gs_ hg (be_ HB); replace HB := bs_ (be_ HB) hb; have NB299_300 := nl_ hg (bu_ BK299); have NB300_299 := ng_ hg (bu_ BK299); replace BK299 := bb_ (bu_ BK299) hb; clear hb hbox hg) | ((with_reducible refine gate_dst (N := 5) rfl ?_); (try (refine gate_guard (by rfl) ?_; dsimp only)); refine box_event ?hg (N := 5) ?hd (cs := #[.string a2_0, .slice A2_1 l2_1.length c2_1]) (t := 24) ?hr ?_; (case hd => rfl); (case hg => rfl); (case hr => first | (go_simp; done) | (go_simp; rfl)); intro gb301 hg w7 hbox hb; replace HO0_1 := Aside0.mk (Kd.V_below (Kd.V_elderB (kV_ HO0_1) gb301 (Nat.le_of_eq hg.symm)) hb); replace HO1_1 := Aside0.mk (Kd.V_below (Kd.V_elderB (kV_ HO1_1) gb301 (Nat.le_of_eq hg.symm)) hb); replace HO2_1 := Aside0.mk (Kd.V_below (Kd.V_elderB (kV_ HO2_1) gb301 (Nat.le_of_eq hg.symm)) hb); have BK301 := Aside0.mk (hbox); have GW301 := gs_ hg (be_ HB); have GE301 := gs_ hg (be_ HB); replace HB := bs_ (be_ HB) hb; have NB299_301 := nl_ hg (bu_ BK299); have NB301_299 := ng_ hg (bu_ BK299); replace BK299 := bb_ (bu_ BK299) hb; have NB300_301 := nl_ hg (bu_ BK300); have NB301_300 := ng_ hg (bu_ BK300); replace BK300 := bb_ (bu_ BK300) hb; clear hb hbox hg))
 (try simp only [Act.put, List.setIfInBounds_toArray, List.set_cons_zero, List.set_cons_succ])
 go_cut [25] (fun v25 wc => ∃ (kq : Nat) (x25_3 : Bool), v25 = .bool x25_3 ∧ Aside0 (constablelaw03_FactOrder.j0 kq x25_3 a0_0 l0_1 a1_0 l1_1 a2_0 l2_1 = some r) ∧ Aside0 (kq ≤ k) ∧ Aside0 (Kd.V k44 44 wc w.heap.size (fun k_ => ((P0_1_ k_ ∨ P1_1_ k_ ∨ P2_1_ k_) ∨ w.heap.size ≤ k_) ∧ k_ ≠ gb299 ∧ k_ ≠ gb300 ∧ k_ ≠ gb301) (.slice A0_1 l0_1.length c0_1) l0_1) ∧ Aside0 (Kd.V k44 44 wc w.heap.size (fun k_ => ((P0_1_ k_ ∨ P1_1_ k_ ∨ P2_1_ k_) ∨ w.heap.size ≤ k_) ∧ k_ ≠ gb299 ∧ k_ ≠ gb300 ∧ k_ ≠ gb301) (.slice A1_1 l1_1.length c1_1) l1_1) ∧ Aside0 (Kd.V k44 44 wc w.heap.size (fun k_ => ((P0_1_ k_ ∨ P1_1_ k_ ∨ P2_1_ k_) ∨ w.heap.size ≤ k_) ∧ k_ ≠ gb299 ∧ k_ ≠ gb300 ∧ k_ ≠ gb301) (.slice A2_1 l2_1.length c2_1) l2_1) ∧ Aside0 (wc.heap[gb299]? = some (.cells #[.string a0_0, (.slice A0_1 l0_1.length c0_1)] 24 (0, 0))) ∧ Aside0 (wc.heap[gb300]? = some (.cells #[.string a1_0, (.slice A1_1 l1_1.length c1_1)] 24 (0, 0))) ∧ Aside0 (wc.heap[gb301]? = some (.cells #[.string a2_0, (.slice A2_1 l2_1.length c2_1)] 24 (0, 0))) ∧ Aside0 (Below w.heap.size w wc))
 case first =>
  have H := HC4.out
  clear HC4
  replace H := Option.bind_eq_some_iff.mp H
  obtain ⟨t302, A80, H⟩ := H
  try dsimp only at H
  have A8 := Aside0.mk A80
  clear A80
  by_cases c9 : t302 = true
  ·subst c9
   rw [if_pos rfl] at H
   have H' := Aside0.mk H
   clear H
   have hnb10 := NB299_300.out
   have hnc10 := NB300_299.out
   have hnb11 := NB299_301.out
   have hnc11 := NB301_299.out
   have hcz12_0 : w7.cell? ⟨gb299, 0, none⟩ = some (.string a0_0) := (blk_cell BK299.out 0).trans rfl
   have hcz12_1 : w7.cell? ⟨gb299, 1, none⟩ = some (.slice A0_1 l0_1.length c0_1) := (blk_cell BK299.out 1).trans rfl
   have hfz12_0 := blk_frozen BK299.out 0
   have hfz12_1 := blk_frozen BK299.out 1
   go_wp2_with (first | ((with_reducible refine gate_callee (f := 11) rfl ?_); refine goesL_ (some 17) rfl rfl Tryd.func11 (by kernel_rfl) rfl #[.agg #[.string a0_0, .slice A0_1 l0_1.length c0_1]] rfl ga_ ?_; (with_reducible refine (constablelaw03_Heavy.calls k a0_0 _ _ l0_1 true _ ?side1 ?side2 A8.out).mono ?_); (case side1 => exact kd_ ((Kd.V_reads' HO0_1.out).2.2)); (case side2 => exact (Kd.V_reads' HO0_1.out).2.1); rintro e w13 ⟨rfl, hb⟩; refine ⟨_, rfl, ?_⟩; replace HO0_1 := bV_ HO0_1 hb; replace HO1_1 := bV_ HO1_1 hb; replace HO2_1 := bV_ HO2_1 hb; replace BK299 := bb_ (bu_ BK299) hb; replace BK300 := bb_ (bu_ BK300) hb; replace BK301 := bb_ (bu_ BK301) hb; replace HB := bs_ (be_ HB) hb; (try clear hb); (try clear hb2); (try clear hk); (try clear hi)))
   go_meet
   case rel => exact ⟨_, (true), ra_, H', le_, mV_ (Kd.V_mono HO0_1.out (fun _ hk => ⟨hk.1.1.1, ⟨hk.1.1.2, ⟨hk.1.2, hk.2⟩⟩⟩)), mV_ (Kd.V_mono HO1_1.out (fun _ hk => ⟨hk.1.1.1, ⟨hk.1.1.2, ⟨hk.1.2, hk.2⟩⟩⟩)), mV_ (Kd.V_mono HO2_1.out (fun _ hk => ⟨hk.1.1.1, ⟨hk.1.1.2, ⟨hk.1.2, hk.2⟩⟩⟩)), bu2_ BK299, bu2_ BK300, bu2_ BK301, be2_ HB⟩
  ·replace c9 := Bool.eq_false_iff.mpr c9
   subst c9
   rw [if_neg (show ¬ (false = true) by decide)] at H
   replace H := Option.bind_eq_some_iff.mp H
   obtain ⟨t303, A140, H⟩ := H
   try dsimp only at H
   have A14 := Aside0.mk A140
   clear A140
   by_cases c15 : t303 = true
   ·subst c15
    rw [if_pos rfl] at H
    have H' := Aside0.mk H
    clear H
    have hnb16 := NB299_300.out
    have hnc16 := NB300_299.out
    have hnb17 := NB299_301.out
    have hnc17 := NB301_299.out
    have hcz18_0 : w7.cell? ⟨gb299, 0, none⟩ = some (.string a0_0) := (blk_cell BK299.out 0).trans rfl
    have hcz18_1 : w7.cell? ⟨gb299, 1, none⟩ = some (.slice A0_1 l0_1.length c0_1) := (blk_cell BK299.out 1).trans rfl
    have hfz18_0 := blk_frozen BK299.out 0
    have hfz18_1 := blk_frozen BK299.out 1
    go_wp2_with (first | ((with_reducible refine gate_callee (f := 11) rfl ?_); refine goesL_ (some 17) rfl rfl Tryd.func11 (by kernel_rfl) rfl #[.agg #[.string a0_0, .slice A0_1 l0_1.length c0_1]] rfl ga_ ?_; (with_reducible refine (constablelaw03_Heavy.calls k a0_0 _ _ l0_1 false _ ?side1 ?side2 A8.out).mono ?_); (case side1 => exact kd_ ((Kd.V_reads' HO0_1.out).2.2)); (case side2 => exact (Kd.V_reads' HO0_1.out).2.1); rintro e w19 ⟨rfl, hb⟩; refine ⟨_, rfl, ?_⟩; replace HO0_1 := bV_ HO0_1 hb; replace HO1_1 := bV_ HO1_1 hb; replace HO2_1 := bV_ HO2_1 hb; replace BK299 := bb_ (bu_ BK299) hb; replace BK300 := bb_ (bu_ BK300) hb; replace BK301 := bb_ (bu_ BK301) hb; replace HB := bs_ (be_ HB) hb; (try clear hb); (try clear hb2); (try clear hk); (try clear hi); have hnb20 := NB300_301.out; have hnc20 := NB301_300.out; have hcz21_0 : w19.cell? ⟨gb300, 0, none⟩ = some (.string a1_0) := (blk_cell BK300.out 0).trans rfl; have hcz21_1 : w19.cell? ⟨gb300, 1, none⟩ = some (.slice A1_1 l1_1.length c1_1) := (blk_cell BK300.out 1).trans rfl; have hfz21_0 := blk_frozen BK300.out 0; have hfz21_1 := blk_frozen BK300.out 1) | (go_at_call 11; (with_reducible refine (constablelaw03_Heavy.calls k a1_0 _ _ l1_1 true _ ?side1 ?side2 A14.out).mono ?_); (case side1 => exact kd_ ((Kd.V_reads' HO1_1.out).2.2)); (case side2 => exact (Kd.V_reads' HO1_1.out).2.1); rintro e w22 ⟨rfl, hb⟩; replace HO0_1 := bV_ HO0_1 hb; replace HO1_1 := bV_ HO1_1 hb; replace HO2_1 := bV_ HO2_1 hb; replace BK299 := bb_ (bu_ BK299) hb; replace BK300 := bb_ (bu_ BK300) hb; replace BK301 := bb_ (bu_ BK301) hb; replace HB := bs_ (be_ HB) hb; (try clear hb); (try clear hb2); (try clear hk); (try clear hi)))
    go_meet
    case rel => exact ⟨_, (true), ra_, H', le_, mV_ (Kd.V_mono HO0_1.out (fun _ hk => ⟨hk.1.1.1, ⟨hk.1.1.2, ⟨hk.1.2, hk.2⟩⟩⟩)), mV_ (Kd.V_mono HO1_1.out (fun _ hk => ⟨hk.1.1.1, ⟨hk.1.1.2, ⟨hk.1.2, hk.2⟩⟩⟩)), mV_ (Kd.V_mono HO2_1.out (fun _ hk => ⟨hk.1.1.1, ⟨hk.1.1.2, ⟨hk.1.2, hk.2⟩⟩⟩)), bu2_ BK299, bu2_ BK300, bu2_ BK301, be2_ HB⟩
   ·replace c15 := Bool.eq_false_iff.mpr c15
    subst c15
    rw [if_neg (show ¬ (false = true) by decide)] at H
    replace H := Option.bind_eq_some_iff.mp H
    obtain ⟨t304, A230, H⟩ := H
    try dsimp only at H
    have A23 := Aside0.mk A230
    clear A230
    have H' := Aside0.mk H
    clear H
    have hnb24 := NB299_300.out
    have hnc24 := NB300_299.out
    have hnb25 := NB299_301.out
    have hnc25 := NB301_299.out
    have hcz26_0 : w7.cell? ⟨gb299, 0, none⟩ = some (.string a0_0) := (blk_cell BK299.out 0).trans rfl
    have hcz26_1 : w7.cell? ⟨gb299, 1, none⟩ = some (.slice A0_1 l0_1.length c0_1) := (blk_cell BK299.out 1).trans rfl
    have hfz26_0 := blk_frozen BK299.out 0
    have hfz26_1 := blk_frozen BK299.out 1
    go_wp2_with (first | ((with_reducible refine gate_callee (f := 11) rfl ?_); refine goesL_ (some 17) rfl rfl Tryd.func11 (by kernel_rfl) rfl #[.agg #[.string a0_0, .slice A0_1 l0_1.length c0_1]] rfl ga_ ?_; (with_reducible refine (constablelaw03_Heavy.calls k a0_0 _ _ l0_1 false _ ?side1 ?side2 A8.out).mono ?_); (case side1 => exact kd_ ((Kd.V_reads' HO0_1.out).2.2)); (case side2 => exact (Kd.V_reads' HO0_1.out).2.1); rintro e w27 ⟨rfl, hb⟩; refine ⟨_, rfl, ?_⟩; replace HO0_1 := bV_ HO0_1 hb; replace HO1_1 := bV_ HO1_1 hb; replace HO2_1 := bV_ HO2_1 hb; replace BK299 := bb_ (bu_ BK299) hb; replace BK300 := bb_ (bu_ BK300) hb; replace BK301 := bb_ (bu_ BK301) hb; replace HB := bs_ (be_ HB) hb; (try clear hb); (try clear hb2); (try clear hk); (try clear hi); have hnb28 := NB300_301.out; have hnc28 := NB301_300.out; have hcz29_0 : w27.cell? ⟨gb300, 0, none⟩ = some (.string a1_0) := (blk_cell BK300.out 0).trans rfl; have hcz29_1 : w27.cell? ⟨gb300, 1, none⟩ = some (.slice A1_1 l1_1.length c1_1) := (blk_cell BK300.out 1).trans rfl; have hfz29_0 := blk_frozen BK300.out 0; have hfz29_1 := blk_frozen BK300.out 1) | (go_at_call 11; (with_reducible refine (constablelaw03_Heavy.calls k a1_0 _ _ l1_1 false _ ?side1 ?side2 A14.out).mono ?_); (case side1 => exact kd_ ((Kd.V_reads' HO1_1.out).2.2)); (case side2 => exact (Kd.V_reads' HO1_1.out).2.1); rintro e w30 ⟨rfl, hb⟩; replace HO0_1 := bV_ HO0_1 hb; replace HO1_1 := bV_ HO1_1 hb; replace HO2_1 := bV_ HO2_1 hb; replace BK299 := bb_ (bu_ BK299) hb; replace BK300 := bb_ (bu_ BK300) hb; replace BK301 := bb_ (bu_ BK301) hb; replace HB := bs_ (be_ HB) hb; (try clear hb); (try clear hb2); (try clear hk); (try clear hi); have hcz31_0 : w30.cell? ⟨gb301, 0, none⟩ = some (.string a2_0) := (blk_cell BK301.out 0).trans rfl; have hcz31_1 : w30.cell? ⟨gb301, 1, none⟩ = some (.slice A2_1 l2_1.length c2_1) := (blk_cell BK301.out 1).trans rfl; have hfz31_0 := blk_frozen BK301.out 0; have hfz31_1 := blk_frozen BK301.out 1) | (go_at_call 11; (with_reducible refine (constablelaw03_Heavy.calls k a2_0 _ _ l2_1 t304 _ ?side1 ?side2 A23.out).mono ?_); (case side1 => exact kd_ ((Kd.V_reads' HO2_1.out).2.2)); (case side2 => exact (Kd.V_reads' HO2_1.out).2.1); rintro e w32 ⟨rfl, hb⟩; replace HO0_1 := bV_ HO0_1 hb; replace HO1_1 := bV_ HO1_1 hb; replace HO2_1 := bV_ HO2_1 hb; replace BK299 := bb_ (bu_ BK299) hb; replace BK300 := bb_ (bu_ BK300) hb; replace BK301 := bb_ (bu_ BK301) hb; replace HB := bs_ (be_ HB) hb; (try clear hb); (try clear hb2); (try clear hk); (try clear hi)))
    go_meet
    case rel => exact ⟨_, (t304), ra_, H', le_, mV_ (Kd.V_mono HO0_1.out (fun _ hk => ⟨hk.1.1.1, ⟨hk.1.1.2, ⟨hk.1.2, hk.2⟩⟩⟩)), mV_ (Kd.V_mono HO1_1.out (fun _ hk => ⟨hk.1.1.1, ⟨hk.1.1.2, ⟨hk.1.2, hk.2⟩⟩⟩)), mV_ (Kd.V_mono HO2_1.out (fun _ hk => ⟨hk.1.1.1, ⟨hk.1.1.2, ⟨hk.1.2, hk.2⟩⟩⟩)), bu2_ BK299, bu2_ BK300, bu2_ BK301, be2_ HB⟩
 case rest =>
  clear HC4
  try clear c1; try clear c2; try clear p2; try clear c4; try clear c9; try clear c10; try clear c11; try clear c15; try clear c16; try clear c17; try clear c20; try clear c24; try clear c25; try clear c28; try clear hcz12_0; try clear hcz12_1; try clear hcz18_0; try clear hcz18_1; try clear hcz21_0; try clear hcz21_1; try clear hcz26_0; try clear hcz26_1; try clear hcz29_0; try clear hcz29_1; try clear hcz31_0; try clear hcz31_1; try clear hfz12_0; try clear hfz12_1; try clear hfz18_0; try clear hfz18_1; try clear hfz21_0; try clear hfz21_1; try clear hfz26_0; try clear hfz26_1; try clear hfz29_0; try clear hfz29_1; try clear hfz31_0; try clear hfz31_1
  obtain ⟨kq, x25_3, rfl, HA, HJ3, HO_300001, HO_301001, HO_302001, BK299, BK300, BK301, HB⟩ := hcut
  cases kq with
  | zero => exact absurd HA.out (by simp [constablelaw03_FactOrder.j0])
  | succ kj3 =>
   have H := HA.out
   clear HA
   simp only [constablelaw03_FactOrder.j0] at H
   by_cases c33 : x25_3 = true
   ·subst c33
    rw [if_pos rfl] at H
    obtain rfl := Option.some.inj H
    go_wp2
    go_ret
    exact ⟨re_, be_ HB⟩
   ·replace c33 := Bool.eq_false_iff.mpr c33
    subst c33
    rw [if_neg (show ¬ (false = true) by decide)] at H
    replace H := Option.bind_eq_some_iff.mp H
    obtain ⟨t305, A340, H⟩ := H
    try dsimp only at H
    have A34 := Aside0.mk A340
    clear A340
    replace H := Option.bind_eq_some_iff.mp H
    obtain ⟨t306, A350, H⟩ := H
    try dsimp only at H
    have A35 := Aside0.mk A350
    clear A350
    replace H := Option.bind_eq_some_iff.mp H
    obtain ⟨t307, A360, H⟩ := H
    try dsimp only at H
    have A36 := Aside0.mk A360
    clear A360
    have HC37 := Aside0.mk H
    clear H
    try go_wp2
    have n0_ := Aside0.mk (Kd.V_drew HO_300001.out)
    have n1_ := Aside0.mk (Kd.V_drew HO_301001.out)
    have n2_ := Aside0.mk (Kd.V_drew HO_302001.out)
    have n3_ := Aside0.mk (blk_drew BK299.out)
    have n4_ := Aside0.mk (blk_drew BK300.out)
    have n5_ := Aside0.mk (blk_drew BK301.out)
    have n6_ := Aside0.mk (below_drew1 HB.out)
    clear HO_300001
    clear HO_301001
    clear HO_302001
    clear BK299
    clear BK300
    clear BK301
    clear HB
    have HO_300001 := n0_
    have HO_301001 := n1_
    have HO_302001 := n2_
    have BK299 := n3_
    have BK300 := n4_
    have BK301 := n5_
    have HB := n6_
    clear n0_ n1_ n2_ n3_ n4_ n5_ n6_
    refine start_ (n := 12) (S := fun w' => w'.cell? ⟨gb299, 0, none⟩ = some (.string a0_0) ∧ w'.cell? ⟨gb299, 1, none⟩ = some (.slice A0_1 l0_1.length c0_1) ∧ w'.cell? ⟨gb300, 0, none⟩ = some (.string a1_0) ∧ w'.cell? ⟨gb300, 1, none⟩ = some (.slice A1_1 l1_1.length c1_1) ∧ w'.cell? ⟨gb301, 0, none⟩ = some (.string a2_0) ∧ w'.cell? ⟨gb301, 1, none⟩ = some (.slice A2_1 l2_1.length c2_1)) (ds := []) (mk_ 12 0) (by kernel_rfl) rfl rfl ⟨(blk_cell BK299.out 0).trans rfl, (blk_cell BK299.out 1).trans rfl, (blk_cell BK300.out 0).trans rfl, (blk_cell BK300.out 1).trans rfl, (blk_cell BK301.out 0).trans rfl, (blk_cell BK301.out 1).trans rfl⟩ (fun hHeld => ?_); refine with_tabW constablelaw03_FactOrder.tab3 constablelaw03_FactOrder.bits3 (fun HT_ HW_ => ?_)
    generalize wc.drew = w38 at HO_300001 HO_301001 HO_302001 BK299 BK300 BK301 HB hHeld ⊢
    refine tk_ 0 26 1 HT_ HW_ hHeld ?_; refine tk_ 1 27 3 HT_ HW_ hHeld ?_; refine tk_ 3 29 11 HT_ HW_ hHeld ?_; refine tk_ 4 30 27 HT_ HW_ hHeld ?_; refine tk_ 6 32 91 HT_ HW_ hHeld ?_; refine tk_ 7 33 219 HT_ HW_ hHeld ?_
    refine one_ (i := 2) (N := some 28) (mk_ 12 223) rfl rfl (one_of HT_.out (by kernel_rfl)) (by decide) (fun K hK => ?_)
    refine goes_ Tryd.func17 (by kernel_rfl) rfl #[.agg #[.string a0_0, .slice A0_1 l0_1.length c0_1], .agg #[.string a1_0, .slice A1_1 l1_1.length c1_1]] (by rfl) rfl rfl ga_ ?_
    with_reducible refine (fact_Compare.calls kj3 a0_0 _ _ l0_1 a1_0 _ _ l1_1 t305 _ ?side1 ?side2 ?side3 ?side4 A34.out).mono ?_
    (case side1 => exact kd_ ((Kd.V_reads' HO_300001.out).2.2))
    (case side2 => exact (Kd.V_reads' HO_300001.out).2.1)
    (case side3 => exact kd_ ((Kd.V_reads' HO_301001.out).2.2))
    (case side4 => exact (Kd.V_reads' HO_301001.out).2.1)
    rintro e w39 ⟨rfl, hb⟩
    refine ⟨_, rfl, ?_⟩
    have n0_ := bV_ HO_300001 hb
    have n1_ := bV_ HO_301001 hb
    have n2_ := bV_ HO_302001 hb
    have n3_ := bb_ (bu_ BK299) hb
    have n4_ := bb_ (bu_ BK300) hb
    have n5_ := bb_ (bu_ BK301) hb
    have n6_ := bs_ (be_ HB) hb
    clear HO_300001
    clear HO_301001
    clear HO_302001
    clear BK299
    clear BK300
    clear BK301
    clear HB
    have HO_300001 := n0_
    have HO_301001 := n1_
    have HO_302001 := n2_
    have BK299 := n3_
    have BK300 := n4_
    have BK301 := n5_
    have HB := n6_
    clear n0_ n1_ n2_ n3_ n4_ n5_ n6_
    (try clear hb)
    (try clear hb2)
    (try clear hk)
    (try clear hi)
    refine hK.out _ _ ⟨(blk_cell BK299.out 0).trans rfl, (blk_cell BK299.out 1).trans rfl, (blk_cell BK300.out 0).trans rfl, (blk_cell BK300.out 1).trans rfl, (blk_cell BK301.out 0).trans rfl, (blk_cell BK301.out 1).trans rfl⟩ (fun hHeld => ?_)
    clear hK K
    refine nm_ 28 ?_
    refine one_ (i := 5) (N := some 31) (mk_ 12 255) rfl rfl (one_of HT_.out (by kernel_rfl)) (by decide) (fun K hK => ?_)
    refine goes_ Tryd.func17 (by kernel_rfl) rfl #[.agg #[.string a1_0, .slice A1_1 l1_1.length c1_1], .agg #[.string a2_0, .slice A2_1 l2_1.length c2_1]] (by rfl) rfl rfl ga_ ?_
    with_reducible refine (fact_Compare.calls kj3 a1_0 _ _ l1_1 a2_0 _ _ l2_1 t306 _ ?side1 ?side2 ?side3 ?side4 A35.out).mono ?_
    (case side1 => exact kd_ ((Kd.V_reads' HO_301001.out).2.2))
    (case side2 => exact (Kd.V_reads' HO_301001.out).2.1)
    (case side3 => exact kd_ ((Kd.V_reads' HO_302001.out).2.2))
    (case side4 => exact (Kd.V_reads' HO_302001.out).2.1)
    rintro e w40 ⟨rfl, hb⟩
    refine ⟨_, rfl, ?_⟩
    have n0_ := bV_ HO_300001 hb
    have n1_ := bV_ HO_301001 hb
    have n2_ := bV_ HO_302001 hb
    have n3_ := bb_ (bu_ BK299) hb
    have n4_ := bb_ (bu_ BK300) hb
    have n5_ := bb_ (bu_ BK301) hb
    have n6_ := bs_ (be_ HB) hb
    clear HO_300001
    clear HO_301001
    clear HO_302001
    clear BK299
    clear BK300
    clear BK301
    clear HB
    have HO_300001 := n0_
    have HO_301001 := n1_
    have HO_302001 := n2_
    have BK299 := n3_
    have BK300 := n4_
    have BK301 := n5_
    have HB := n6_
    clear n0_ n1_ n2_ n3_ n4_ n5_ n6_
    (try clear hb)
    (try clear hb2)
    (try clear hk)
    (try clear hi)
    refine hK.out _ _ ⟨(blk_cell BK299.out 0).trans rfl, (blk_cell BK299.out 1).trans rfl, (blk_cell BK300.out 0).trans rfl, (blk_cell BK300.out 1).trans rfl, (blk_cell BK301.out 0).trans rfl, (blk_cell BK301.out 1).trans rfl⟩ (fun hHeld => ?_)
    clear hK K
    refine nm_ 31 ?_
    refine one_ (i := 8) (N := some 34) (mk_ 12 511) rfl rfl (one_of HT_.out (by kernel_rfl)) (by decide) (fun K hK => ?_)
    refine goes_ Tryd.func17 (by kernel_rfl) rfl #[.agg #[.string a0_0, .slice A0_1 l0_1.length c0_1], .agg #[.string a2_0, .slice A2_1 l2_1.length c2_1]] (by rfl) rfl rfl ga_ ?_
    with_reducible refine (fact_Compare.calls kj3 a0_0 _ _ l0_1 a2_0 _ _ l2_1 t307 _ ?side1 ?side2 ?side3 ?side4 A36.out).mono ?_
    (case side1 => exact kd_ ((Kd.V_reads' HO_300001.out).2.2))
    (case side2 => exact (Kd.V_reads' HO_300001.out).2.1)
    (case side3 => exact kd_ ((Kd.V_reads' HO_302001.out).2.2))
    (case side4 => exact (Kd.V_reads' HO_302001.out).2.1)
    rintro e w41 ⟨rfl, hb⟩
    refine ⟨_, rfl, ?_⟩
    have n0_ := bV_ HO_300001 hb
    have n1_ := bV_ HO_301001 hb
    have n2_ := bV_ HO_302001 hb
    have n3_ := bb_ (bu_ BK299) hb
    have n4_ := bb_ (bu_ BK300) hb
    have n5_ := bb_ (bu_ BK301) hb
    have n6_ := bs_ (be_ HB) hb
    clear HO_300001
    clear HO_301001
    clear HO_302001
    clear BK299
    clear BK300
    clear BK301
    clear HB
    have HO_300001 := n0_
    have HO_301001 := n1_
    have HO_302001 := n2_
    have BK299 := n3_
    have BK300 := n4_
    have BK301 := n5_
    have HB := n6_
    clear n0_ n1_ n2_ n3_ n4_ n5_ n6_
    (try clear hb)
    (try clear hb2)
    (try clear hk)
    (try clear hi)
    refine hK.out _ _ ⟨(blk_cell BK299.out 0).trans rfl, (blk_cell BK299.out 1).trans rfl, (blk_cell BK300.out 0).trans rfl, (blk_cell BK300.out 1).trans rfl, (blk_cell BK301.out 0).trans rfl, (blk_cell BK301.out 1).trans rfl⟩ (fun hHeld => ?_)
    clear hK K
    refine nm_ 34 ?_; refine pu_ 9 7 1023 HT_ ?_; refine pu_ 10 8 2047 HT_ ?_; refine pu_ 11 9 4095 HT_ ?_
    refine done_ (done_of HT_.out (by kernel_rfl)) ?_
    go_upto_region 4 with (fail)
    go_cut [73] (fun v73 wc => ∃ (kq : Nat) (x73_36 : Bool), v73 = .bool x73_36 ∧ Aside0 (constablelaw03_FactOrder.j1 kq t305 x73_36 a0_0 l0_1 a1_0 l1_1 a2_0 l2_1 = some r) ∧ Aside0 (kq ≤ kj3) ∧ Aside0 (Kd.V k44 44 wc w.heap.size (fun k_ => ((P0_1_ k_ ∨ P1_1_ k_ ∨ P2_1_ k_) ∨ w.heap.size ≤ k_) ∧ k_ ≠ gb299 ∧ k_ ≠ gb300 ∧ k_ ≠ gb301) (.slice A0_1 l0_1.length c0_1) l0_1) ∧ Aside0 (Kd.V k44 44 wc w.heap.size (fun k_ => ((P0_1_ k_ ∨ P1_1_ k_ ∨ P2_1_ k_) ∨ w.heap.size ≤ k_) ∧ k_ ≠ gb299 ∧ k_ ≠ gb300 ∧ k_ ≠ gb301) (.slice A1_1 l1_1.length c1_1) l1_1) ∧ Aside0 (Kd.V k44 44 wc w.heap.size (fun k_ => ((P0_1_ k_ ∨ P1_1_ k_ ∨ P2_1_ k_) ∨ w.heap.size ≤ k_) ∧ k_ ≠ gb299 ∧ k_ ≠ gb300 ∧ k_ ≠ gb301) (.slice A2_1 l2_1.length c2_1) l2_1) ∧ Aside0 (wc.heap[gb299]? = some (.cells #[.string a0_0, (.slice A0_1 l0_1.length c0_1)] 24 (0, 0))) ∧ Aside0 (wc.heap[gb300]? = some (.cells #[.string a1_0, (.slice A1_1 l1_1.length c1_1)] 24 (0, 0))) ∧ Aside0 (wc.heap[gb301]? = some (.cells #[.string a2_0, (.slice A2_1 l2_1.length c2_1)] 24 (0, 0))) ∧ Aside0 (Below w.heap.size w wc))
    case first =>
     have H := HC37.out
     clear HC37
     replace H := Option.bind_eq_some_iff.mp H
     obtain ⟨t308, A420, H⟩ := H
     try dsimp only at H
     have A42 := Aside0.mk A420
     clear A420
     by_cases c43 : t305 = (wrap64 (-t308))
     ·rw [if_pos c43] at H
      obtain ⟨c43b0, c43b1⟩ := eqB_ c43
      clear c43
      (first | rw [c43b0] | (simp only [i64_w, i32_w]; rw [c43b0]) | skip)
      replace H := Option.bind_eq_some_iff.mp H
      obtain ⟨t309, A440, H⟩ := H
      try dsimp only at H
      have A44 := Aside0.mk A440
      clear A440
      by_cases c45 : ((t305 == 0) != t309) = true
      ·rw [if_pos c45] at H
       have c45b0 : ((t305 == 0) != t309) = true := c45
       (try (have c45b1 : decide ((t305 == 0) = t309) = false := by simpa using c45))
       (try (have c45b2 : ((t305 == 0) == t309) = false := by simpa using c45))
       (try (have c45b3 : ¬ ((t305 == 0) = t309) := by simpa using c45))
       clear c45
       have H' := Aside0.mk H
       clear H
       have hnb46 := NB300_299.out
       have hnc46 := NB299_300.out
       have hnb47 := NB300_301.out
       have hnc47 := NB301_300.out
       have hcz48_0 : w41.cell? ⟨gb300, 0, none⟩ = some (.string a1_0) := (blk_cell BK300.out 0).trans rfl
       have hcz48_1 : w41.cell? ⟨gb300, 1, none⟩ = some (.slice A1_1 l1_1.length c1_1) := (blk_cell BK300.out 1).trans rfl
       have hfz48_0 := blk_frozen BK300.out 0
       have hfz48_1 := blk_frozen BK300.out 1
       have hnb49 := NB299_301.out
       have hnc49 := NB301_299.out
       have hcz50_0 : w41.cell? ⟨gb299, 0, none⟩ = some (.string a0_0) := (blk_cell BK299.out 0).trans rfl
       have hcz50_1 : w41.cell? ⟨gb299, 1, none⟩ = some (.slice A0_1 l0_1.length c0_1) := (blk_cell BK299.out 1).trans rfl
       have hfz50_0 := blk_frozen BK299.out 0
       have hfz50_1 := blk_frozen BK299.out 1
       go_wp2_with (first | ((with_reducible refine gate_callee (f := 17) rfl ?_); refine goesL_ (some 38) rfl rfl Tryd.func17 (by kernel_rfl) rfl #[.agg #[.string a1_0, .slice A1_1 l1_1.length c1_1], .agg #[.string a0_0, .slice A0_1 l0_1.length c0_1]] rfl ga_ ?_; (with_reducible refine (fact_Compare.calls kj3 a1_0 _ _ l1_1 a0_0 _ _ l0_1 t308 _ ?side1 ?side2 ?side3 ?side4 A42.out).mono ?_); (case side1 => exact kd_ ((Kd.V_reads' HO_301001.out).2.2)); (case side2 => exact (Kd.V_reads' HO_301001.out).2.1); (case side3 => exact kd_ ((Kd.V_reads' HO_300001.out).2.2)); (case side4 => exact (Kd.V_reads' HO_300001.out).2.1); rintro e w51 ⟨rfl, hb⟩; refine ⟨_, rfl, ?_⟩; replace HO_300001 := bV_ HO_300001 hb; replace HO_301001 := bV_ HO_301001 hb; replace HO_302001 := bV_ HO_302001 hb; replace BK299 := bb_ (bu_ BK299) hb; replace BK300 := bb_ (bu_ BK300) hb; replace BK301 := bb_ (bu_ BK301) hb; replace HB := bs_ (be_ HB) hb; (try clear hb); (try clear hb2); (try clear hk); (try clear hi); have hcz52_0 : w51.cell? ⟨gb299, 0, none⟩ = some (.string a0_0) := (blk_cell BK299.out 0).trans rfl; have hcz52_1 : w51.cell? ⟨gb299, 1, none⟩ = some (.slice A0_1 l0_1.length c0_1) := (blk_cell BK299.out 1).trans rfl; have hfz52_0 := blk_frozen BK299.out 0; have hfz52_1 := blk_frozen BK299.out 1; have hcz53_0 : w51.cell? ⟨gb300, 0, none⟩ = some (.string a1_0) := (blk_cell BK300.out 0).trans rfl; have hcz53_1 : w51.cell? ⟨gb300, 1, none⟩ = some (.slice A1_1 l1_1.length c1_1) := (blk_cell BK300.out 1).trans rfl; have hfz53_0 := blk_frozen BK300.out 0; have hfz53_1 := blk_frozen BK300.out 1) | (go_at_call 21; (with_reducible refine (constablekeep_Fact.calls kj3 a0_0 _ _ l0_1 a1_0 _ _ l1_1 t309 _ ?side1 ?side2 ?side3 ?side4 A44.out).mono ?_); (case side1 => exact kd_ ((Kd.V_reads' HO_300001.out).2.2)); (case side2 => exact (Kd.V_reads' HO_300001.out).2.1); (case side3 => exact kd_ ((Kd.V_reads' HO_301001.out).2.2)); (case side4 => exact (Kd.V_reads' HO_301001.out).2.1); rintro e w54 ⟨rfl, hb⟩; replace HO_300001 := bV_ HO_300001 hb; replace HO_301001 := bV_ HO_301001 hb; replace HO_302001 := bV_ HO_302001 hb; replace BK299 := bb_ (bu_ BK299) hb; replace BK300 := bb_ (bu_ BK300) hb; replace BK301 := bb_ (bu_ BK301) hb; replace HB := bs_ (be_ HB) hb; (try clear hb); (try clear hb2); (try clear hk); (try clear hi)))
       go_meet
       case rel => exact ⟨_, (true), ra_, H', ⟨by have := HJ3.out; first | omega | exact Nat.le_refl _⟩, mV_ (HO_300001.out), mV_ (HO_301001.out), mV_ (HO_302001.out), bu2_ BK299, bu2_ BK300, bu2_ BK301, be2_ HB⟩
      ·rw [if_neg c45] at H
       have c45b0 := Bool.eq_false_iff.2 c45
       (try (have c45b1 : decide ((t305 == 0) = t309) = true := by simpa using c45))
       (try (have c45b2 : ((t305 == 0) == t309) = true := by simpa using c45))
       clear c45
       by_cases c55 : t305 > 0
       ·rw [if_pos c55] at H
        have c55b0 : decide (0 < t305) = true := decide_eq_true c55
        clear c55
        by_cases c56 : t305 ≥ 0
        ·rw [if_pos c56] at H
         have c56b0 : decide (0 ≤ t305) = true := decide_eq_true c56
         clear c56
         have H' := Aside0.mk H
         clear H
         have hnb57 := NB300_299.out
         have hnc57 := NB299_300.out
         have hnb58 := NB300_301.out
         have hnc58 := NB301_300.out
         have hcz59_0 : w41.cell? ⟨gb300, 0, none⟩ = some (.string a1_0) := (blk_cell BK300.out 0).trans rfl
         have hcz59_1 : w41.cell? ⟨gb300, 1, none⟩ = some (.slice A1_1 l1_1.length c1_1) := (blk_cell BK300.out 1).trans rfl
         have hfz59_0 := blk_frozen BK300.out 0
         have hfz59_1 := blk_frozen BK300.out 1
         have hnb60 := NB299_301.out
         have hnc60 := NB301_299.out
         have hcz61_0 : w41.cell? ⟨gb299, 0, none⟩ = some (.string a0_0) := (blk_cell BK299.out 0).trans rfl
         have hcz61_1 : w41.cell? ⟨gb299, 1, none⟩ = some (.slice A0_1 l0_1.length c0_1) := (blk_cell BK299.out 1).trans rfl
         have hfz61_0 := blk_frozen BK299.out 0
         have hfz61_1 := blk_frozen BK299.out 1
         go_wp2_with (first | ((with_reducible refine gate_callee (f := 17) rfl ?_); refine goesL_ (some 38) rfl rfl Tryd.func17 (by kernel_rfl) rfl #[.agg #[.string a1_0, .slice A1_1 l1_1.length c1_1], .agg #[.string a0_0, .slice A0_1 l0_1.length c0_1]] rfl ga_ ?_; (with_reducible refine (fact_Compare.calls kj3 a1_0 _ _ l1_1 a0_0 _ _ l0_1 t308 _ ?side1 ?side2 ?side3 ?side4 A42.out).mono ?_); (case side1 => exact kd_ ((Kd.V_reads' HO_301001.out).2.2)); (case side2 => exact (Kd.V_reads' HO_301001.out).2.1); (case side3 => exact kd_ ((Kd.V_reads' HO_300001.out).2.2)); (case side4 => exact (Kd.V_reads' HO_300001.out).2.1); rintro e w62 ⟨rfl, hb⟩; refine ⟨_, rfl, ?_⟩; replace HO_300001 := bV_ HO_300001 hb; replace HO_301001 := bV_ HO_301001 hb; replace HO_302001 := bV_ HO_302001 hb; replace BK299 := bb_ (bu_ BK299) hb; replace BK300 := bb_ (bu_ BK300) hb; replace BK301 := bb_ (bu_ BK301) hb; replace HB := bs_ (be_ HB) hb; (try clear hb); (try clear hb2); (try clear hk); (try clear hi); have hcz63_0 : w62.cell? ⟨gb299, 0, none⟩ = some (.string a0_0) := (blk_cell BK299.out 0).trans rfl; have hcz63_1 : w62.cell? ⟨gb299, 1, none⟩ = some (.slice A0_1 l0_1.length c0_1) := (blk_cell BK299.out 1).trans rfl; have hfz63_0 := blk_frozen BK299.out 0; have hfz63_1 := blk_frozen BK299.out 1; have hcz64_0 : w62.cell? ⟨gb300, 0, none⟩ = some (.string a1_0) := (blk_cell BK300.out 0).trans rfl; have hcz64_1 : w62.cell? ⟨gb300, 1, none⟩ = some (.slice A1_1 l1_1.length c1_1) := (blk_cell BK300.out 1).trans rfl; have hfz64_0 := blk_frozen BK300.out 0; have hfz64_1 := blk_frozen BK300.out 1) | (go_at_call 21; (with_reducible refine (constablekeep_Fact.calls kj3 a0_0 _ _ l0_1 a1_0 _ _ l1_1 t309 _ ?side1 ?side2 ?side3 ?side4 A44.out).mono ?_); (case side1 => exact kd_ ((Kd.V_reads' HO_300001.out).2.2)); (case side2 => exact (Kd.V_reads' HO_300001.out).2.1); (case side3 => exact kd_ ((Kd.V_reads' HO_301001.out).2.2)); (case side4 => exact (Kd.V_reads' HO_301001.out).2.1); rintro e w65 ⟨rfl, hb⟩; replace HO_300001 := bV_ HO_300001 hb; replace HO_301001 := bV_ HO_301001 hb; replace HO_302001 := bV_ HO_302001 hb; replace BK299 := bb_ (bu_ BK299) hb; replace BK300 := bb_ (bu_ BK300) hb; replace BK301 := bb_ (bu_ BK301) hb; replace HB := bs_ (be_ HB) hb; (try clear hb); (try clear hb2); (try clear hk); (try clear hi)))
         go_meet
         case rel => exact ⟨_, (!true), ra_, H', ⟨by have := HJ3.out; first | omega | exact Nat.le_refl _⟩, mV_ (HO_300001.out), mV_ (HO_301001.out), mV_ (HO_302001.out), bu2_ BK299, bu2_ BK300, bu2_ BK301, be2_ HB⟩
        ·rw [if_neg c56] at H
         have c56b0 : decide (0 ≤ t305) = false := decide_eq_false c56
         clear c56
         by_cases c66 : t306 > 0
         ·rw [if_pos c66] at H
          have c66b0 : decide (0 < t306) = true := decide_eq_true c66
          clear c66
          have H' := Aside0.mk H
          clear H
          have hnb67 := NB300_299.out
          have hnc67 := NB299_300.out
          have hnb68 := NB300_301.out
          have hnc68 := NB301_300.out
          have hcz69_0 : w41.cell? ⟨gb300, 0, none⟩ = some (.string a1_0) := (blk_cell BK300.out 0).trans rfl
          have hcz69_1 : w41.cell? ⟨gb300, 1, none⟩ = some (.slice A1_1 l1_1.length c1_1) := (blk_cell BK300.out 1).trans rfl
          have hfz69_0 := blk_frozen BK300.out 0
          have hfz69_1 := blk_frozen BK300.out 1
          have hnb70 := NB299_301.out
          have hnc70 := NB301_299.out
          have hcz71_0 : w41.cell? ⟨gb299, 0, none⟩ = some (.string a0_0) := (blk_cell BK299.out 0).trans rfl
          have hcz71_1 : w41.cell? ⟨gb299, 1, none⟩ = some (.slice A0_1 l0_1.length c0_1) := (blk_cell BK299.out 1).trans rfl
          have hfz71_0 := blk_frozen BK299.out 0
          have hfz71_1 := blk_frozen BK299.out 1
          go_wp2_with (first | ((with_reducible refine gate_callee (f := 17) rfl ?_); refine goesL_ (some 38) rfl rfl Tryd.func17 (by kernel_rfl) rfl #[.agg #[.string a1_0, .slice A1_1 l1_1.length c1_1], .agg #[.string a0_0, .slice A0_1 l0_1.length c0_1]] rfl ga_ ?_; (with_reducible refine (fact_Compare.calls kj3 a1_0 _ _ l1_1 a0_0 _ _ l0_1 t308 _ ?side1 ?side2 ?side3 ?side4 A42.out).mono ?_); (case side1 => exact kd_ ((Kd.V_reads' HO_301001.out).2.2)); (case side2 => exact (Kd.V_reads' HO_301001.out).2.1); (case side3 => exact kd_ ((Kd.V_reads' HO_300001.out).2.2)); (case side4 => exact (Kd.V_reads' HO_300001.out).2.1); rintro e w72 ⟨rfl, hb⟩; refine ⟨_, rfl, ?_⟩; replace HO_300001 := bV_ HO_300001 hb; replace HO_301001 := bV_ HO_301001 hb; replace HO_302001 := bV_ HO_302001 hb; replace BK299 := bb_ (bu_ BK299) hb; replace BK300 := bb_ (bu_ BK300) hb; replace BK301 := bb_ (bu_ BK301) hb; replace HB := bs_ (be_ HB) hb; (try clear hb); (try clear hb2); (try clear hk); (try clear hi); have hcz73_0 : w72.cell? ⟨gb299, 0, none⟩ = some (.string a0_0) := (blk_cell BK299.out 0).trans rfl; have hcz73_1 : w72.cell? ⟨gb299, 1, none⟩ = some (.slice A0_1 l0_1.length c0_1) := (blk_cell BK299.out 1).trans rfl; have hfz73_0 := blk_frozen BK299.out 0; have hfz73_1 := blk_frozen BK299.out 1; have hcz74_0 : w72.cell? ⟨gb300, 0, none⟩ = some (.string a1_0) := (blk_cell BK300.out 0).trans rfl; have hcz74_1 : w72.cell? ⟨gb300, 1, none⟩ = some (.slice A1_1 l1_1.length c1_1) := (blk_cell BK300.out 1).trans rfl; have hfz74_0 := blk_frozen BK300.out 0; have hfz74_1 := blk_frozen BK300.out 1) | (go_at_call 21; (with_reducible refine (constablekeep_Fact.calls kj3 a0_0 _ _ l0_1 a1_0 _ _ l1_1 t309 _ ?side1 ?side2 ?side3 ?side4 A44.out).mono ?_); (case side1 => exact kd_ ((Kd.V_reads' HO_300001.out).2.2)); (case side2 => exact (Kd.V_reads' HO_300001.out).2.1); (case side3 => exact kd_ ((Kd.V_reads' HO_301001.out).2.2)); (case side4 => exact (Kd.V_reads' HO_301001.out).2.1); rintro e w75 ⟨rfl, hb⟩; replace HO_300001 := bV_ HO_300001 hb; replace HO_301001 := bV_ HO_301001 hb; replace HO_302001 := bV_ HO_302001 hb; replace BK299 := bb_ (bu_ BK299) hb; replace BK300 := bb_ (bu_ BK300) hb; replace BK301 := bb_ (bu_ BK301) hb; replace HB := bs_ (be_ HB) hb; (try clear hb); (try clear hb2); (try clear hk); (try clear hi)))
          go_meet
          case rel => exact ⟨_, (!true), ra_, H', ⟨by have := HJ3.out; first | omega | exact Nat.le_refl _⟩, mV_ (HO_300001.out), mV_ (HO_301001.out), mV_ (HO_302001.out), bu2_ BK299, bu2_ BK300, bu2_ BK301, be2_ HB⟩
         ·rw [if_neg c66] at H
          have c66b0 : decide (0 < t306) = false := decide_eq_false c66
          clear c66
          have H' := Aside0.mk H
          clear H
          have hnb76 := NB300_299.out
          have hnc76 := NB299_300.out
          have hnb77 := NB300_301.out
          have hnc77 := NB301_300.out
          have hcz78_0 : w41.cell? ⟨gb300, 0, none⟩ = some (.string a1_0) := (blk_cell BK300.out 0).trans rfl
          have hcz78_1 : w41.cell? ⟨gb300, 1, none⟩ = some (.slice A1_1 l1_1.length c1_1) := (blk_cell BK300.out 1).trans rfl
          have hfz78_0 := blk_frozen BK300.out 0
          have hfz78_1 := blk_frozen BK300.out 1
          have hnb79 := NB299_301.out
          have hnc79 := NB301_299.out
          have hcz80_0 : w41.cell? ⟨gb299, 0, none⟩ = some (.string a0_0) := (blk_cell BK299.out 0).trans rfl
          have hcz80_1 : w41.cell? ⟨gb299, 1, none⟩ = some (.slice A0_1 l0_1.length c0_1) := (blk_cell BK299.out 1).trans rfl
          have hfz80_0 := blk_frozen BK299.out 0
          have hfz80_1 := blk_frozen BK299.out 1
          go_wp2_with (first | ((with_reducible refine gate_callee (f := 17) rfl ?_); refine goesL_ (some 38) rfl rfl Tryd.func17 (by kernel_rfl) rfl #[.agg #[.string a1_0, .slice A1_1 l1_1.length c1_1], .agg #[.string a0_0, .slice A0_1 l0_1.length c0_1]] rfl ga_ ?_; (with_reducible refine (fact_Compare.calls kj3 a1_0 _ _ l1_1 a0_0 _ _ l0_1 t308 _ ?side1 ?side2 ?side3 ?side4 A42.out).mono ?_); (case side1 => exact kd_ ((Kd.V_reads' HO_301001.out).2.2)); (case side2 => exact (Kd.V_reads' HO_301001.out).2.1); (case side3 => exact kd_ ((Kd.V_reads' HO_300001.out).2.2)); (case side4 => exact (Kd.V_reads' HO_300001.out).2.1); rintro e w81 ⟨rfl, hb⟩; refine ⟨_, rfl, ?_⟩; replace HO_300001 := bV_ HO_300001 hb; replace HO_301001 := bV_ HO_301001 hb; replace HO_302001 := bV_ HO_302001 hb; replace BK299 := bb_ (bu_ BK299) hb; replace BK300 := bb_ (bu_ BK300) hb; replace BK301 := bb_ (bu_ BK301) hb; replace HB := bs_ (be_ HB) hb; (try clear hb); (try clear hb2); (try clear hk); (try clear hi); have hcz82_0 : w81.cell? ⟨gb299, 0, none⟩ = some (.string a0_0) := (blk_cell BK299.out 0).trans rfl; have hcz82_1 : w81.cell? ⟨gb299, 1, none⟩ = some (.slice A0_1 l0_1.length c0_1) := (blk_cell BK299.out 1).trans rfl; have hfz82_0 := blk_frozen BK299.out 0; have hfz82_1 := blk_frozen BK299.out 1; have hcz83_0 : w81.cell? ⟨gb300, 0, none⟩ = some (.string a1_0) := (blk_cell BK300.out 0).trans rfl; have hcz83_1 : w81.cell? ⟨gb300, 1, none⟩ = some (.slice A1_1 l1_1.length c1_1) := (blk_cell BK300.out 1).trans rfl; have hfz83_0 := blk_frozen BK300.out 0; have hfz83_1 := blk_frozen BK300.out 1) | (go_at_call 21; (with_reducible refine (constablekeep_Fact.calls kj3 a0_0 _ _ l0_1 a1_0 _ _ l1_1 t309 _ ?side1 ?side2 ?side3 ?side4 A44.out).mono ?_); (case side1 => exact kd_ ((Kd.V_reads' HO_300001.out).2.2)); (case side2 => exact (Kd.V_reads' HO_300001.out).2.1); (case side3 => exact kd_ ((Kd.V_reads' HO_301001.out).2.2)); (case side4 => exact (Kd.V_reads' HO_301001.out).2.1); rintro e w84 ⟨rfl, hb⟩; replace HO_300001 := bV_ HO_300001 hb; replace HO_301001 := bV_ HO_301001 hb; replace HO_302001 := bV_ HO_302001 hb; replace BK299 := bb_ (bu_ BK299) hb; replace BK300 := bb_ (bu_ BK300) hb; replace BK301 := bb_ (bu_ BK301) hb; replace HB := bs_ (be_ HB) hb; (try clear hb); (try clear hb2); (try clear hk); (try clear hi)))
          go_meet
          case rel => exact ⟨_, (!(decide (t307 < 0))), ra_, H', ⟨by have := HJ3.out; first | omega | exact Nat.le_refl _⟩, mV_ (HO_300001.out), mV_ (HO_301001.out), mV_ (HO_302001.out), bu2_ BK299, bu2_ BK300, bu2_ BK301, be2_ HB⟩
       ·rw [if_neg c55] at H
        have c55b0 : decide (0 < t305) = false := decide_eq_false c55
        clear c55
        by_cases c85 : t306 > 0
        ·rw [if_pos c85] at H
         have c85b0 : decide (0 < t306) = true := decide_eq_true c85
         clear c85
         by_cases c86 : t305 ≥ 0
         ·rw [if_pos c86] at H
          have c86b0 : decide (0 ≤ t305) = true := decide_eq_true c86
          clear c86
          have H' := Aside0.mk H
          clear H
          have hnb87 := NB300_299.out
          have hnc87 := NB299_300.out
          have hnb88 := NB300_301.out
          have hnc88 := NB301_300.out
          have hcz89_0 : w41.cell? ⟨gb300, 0, none⟩ = some (.string a1_0) := (blk_cell BK300.out 0).trans rfl
          have hcz89_1 : w41.cell? ⟨gb300, 1, none⟩ = some (.slice A1_1 l1_1.length c1_1) := (blk_cell BK300.out 1).trans rfl
          have hfz89_0 := blk_frozen BK300.out 0
          have hfz89_1 := blk_frozen BK300.out 1
          have hnb90 := NB299_301.out
          have hnc90 := NB301_299.out
          have hcz91_0 : w41.cell? ⟨gb299, 0, none⟩ = some (.string a0_0) := (blk_cell BK299.out 0).trans rfl
          have hcz91_1 : w41.cell? ⟨gb299, 1, none⟩ = some (.slice A0_1 l0_1.length c0_1) := (blk_cell BK299.out 1).trans rfl
          have hfz91_0 := blk_frozen BK299.out 0
          have hfz91_1 := blk_frozen BK299.out 1
          go_wp2_with (first | ((with_reducible refine gate_callee (f := 17) rfl ?_); refine goesL_ (some 38) rfl rfl Tryd.func17 (by kernel_rfl) rfl #[.agg #[.string a1_0, .slice A1_1 l1_1.length c1_1], .agg #[.string a0_0, .slice A0_1 l0_1.length c0_1]] rfl ga_ ?_; (with_reducible refine (fact_Compare.calls kj3 a1_0 _ _ l1_1 a0_0 _ _ l0_1 t308 _ ?side1 ?side2 ?side3 ?side4 A42.out).mono ?_); (case side1 => exact kd_ ((Kd.V_reads' HO_301001.out).2.2)); (case side2 => exact (Kd.V_reads' HO_301001.out).2.1); (case side3 => exact kd_ ((Kd.V_reads' HO_300001.out).2.2)); (case side4 => exact (Kd.V_reads' HO_300001.out).2.1); rintro e w92 ⟨rfl, hb⟩; refine ⟨_, rfl, ?_⟩; replace HO_300001 := bV_ HO_300001 hb; replace HO_301001 := bV_ HO_301001 hb; replace HO_302001 := bV_ HO_302001 hb; replace BK299 := bb_ (bu_ BK299) hb; replace BK300 := bb_ (bu_ BK300) hb; replace BK301 := bb_ (bu_ BK301) hb; replace HB := bs_ (be_ HB) hb; (try clear hb); (try clear hb2); (try clear hk); (try clear hi); have hcz93_0 : w92.cell? ⟨gb299, 0, none⟩ = some (.string a0_0) := (blk_cell BK299.out 0).trans rfl; have hcz93_1 : w92.cell? ⟨gb299, 1, none⟩ = some (.slice A0_1 l0_1.length c0_1) := (blk_cell BK299.out 1).trans rfl; have hfz93_0 := blk_frozen BK299.out 0; have hfz93_1 := blk_frozen BK299.out 1; have hcz94_0 : w92.cell? ⟨gb300, 0, none⟩ = some (.string a1_0) := (blk_cell BK300.out 0).trans rfl; have hcz94_1 : w92.cell? ⟨gb300, 1, none⟩ = some (.slice A1_1 l1_1.length c1_1) := (blk_cell BK300.out 1).trans rfl; have hfz94_0 := blk_frozen BK300.out 0; have hfz94_1 := blk_frozen BK300.out 1) | (go_at_call 21; (with_reducible refine (constablekeep_Fact.calls kj3 a0_0 _ _ l0_1 a1_0 _ _ l1_1 t309 _ ?side1 ?side2 ?side3 ?side4 A44.out).mono ?_); (case side1 => exact kd_ ((Kd.V_reads' HO_300001.out).2.2)); (case side2 => exact (Kd.V_reads' HO_300001.out).2.1); (case side3 => exact kd_ ((Kd.V_reads' HO_301001.out).2.2)); (case side4 => exact (Kd.V_reads' HO_301001.out).2.1); rintro e w95 ⟨rfl, hb⟩; replace HO_300001 := bV_ HO_300001 hb; replace HO_301001 := bV_ HO_301001 hb; replace HO_302001 := bV_ HO_302001 hb; replace BK299 := bb_ (bu_ BK299) hb; replace BK300 := bb_ (bu_ BK300) hb; replace BK301 := bb_ (bu_ BK301) hb; replace HB := bs_ (be_ HB) hb; (try clear hb); (try clear hb2); (try clear hk); (try clear hi)))
          go_meet
          case rel => exact ⟨_, (!true), ra_, H', ⟨by have := HJ3.out; first | omega | exact Nat.le_refl _⟩, mV_ (HO_300001.out), mV_ (HO_301001.out), mV_ (HO_302001.out), bu2_ BK299, bu2_ BK300, bu2_ BK301, be2_ HB⟩
         ·rw [if_neg c86] at H
          have c86b0 : decide (0 ≤ t305) = false := decide_eq_false c86
          clear c86
          have H' := Aside0.mk H
          clear H
          have hnb96 := NB300_299.out
          have hnc96 := NB299_300.out
          have hnb97 := NB300_301.out
          have hnc97 := NB301_300.out
          have hcz98_0 : w41.cell? ⟨gb300, 0, none⟩ = some (.string a1_0) := (blk_cell BK300.out 0).trans rfl
          have hcz98_1 : w41.cell? ⟨gb300, 1, none⟩ = some (.slice A1_1 l1_1.length c1_1) := (blk_cell BK300.out 1).trans rfl
          have hfz98_0 := blk_frozen BK300.out 0
          have hfz98_1 := blk_frozen BK300.out 1
          have hnb99 := NB299_301.out
          have hnc99 := NB301_299.out
          have hcz100_0 : w41.cell? ⟨gb299, 0, none⟩ = some (.string a0_0) := (blk_cell BK299.out 0).trans rfl
          have hcz100_1 : w41.cell? ⟨gb299, 1, none⟩ = some (.slice A0_1 l0_1.length c0_1) := (blk_cell BK299.out 1).trans rfl
          have hfz100_0 := blk_frozen BK299.out 0
          have hfz100_1 := blk_frozen BK299.out 1
          go_wp2_with (first | ((with_reducible refine gate_callee (f := 17) rfl ?_); refine goesL_ (some 38) rfl rfl Tryd.func17 (by kernel_rfl) rfl #[.agg #[.string a1_0, .slice A1_1 l1_1.length c1_1], .agg #[.string a0_0, .slice A0_1 l0_1.length c0_1]] rfl ga_ ?_; (with_reducible refine (fact_Compare.calls kj3 a1_0 _ _ l1_1 a0_0 _ _ l0_1 t308 _ ?side1 ?side2 ?side3 ?side4 A42.out).mono ?_); (case side1 => exact kd_ ((Kd.V_reads' HO_301001.out).2.2)); (case side2 => exact (Kd.V_reads' HO_301001.out).2.1); (case side3 => exact kd_ ((Kd.V_reads' HO_300001.out).2.2)); (case side4 => exact (Kd.V_reads' HO_300001.out).2.1); rintro e w101 ⟨rfl, hb⟩; refine ⟨_, rfl, ?_⟩; replace HO_300001 := bV_ HO_300001 hb; replace HO_301001 := bV_ HO_301001 hb; replace HO_302001 := bV_ HO_302001 hb; replace BK299 := bb_ (bu_ BK299) hb; replace BK300 := bb_ (bu_ BK300) hb; replace BK301 := bb_ (bu_ BK301) hb; replace HB := bs_ (be_ HB) hb; (try clear hb); (try clear hb2); (try clear hk); (try clear hi); have hcz102_0 : w101.cell? ⟨gb299, 0, none⟩ = some (.string a0_0) := (blk_cell BK299.out 0).trans rfl; have hcz102_1 : w101.cell? ⟨gb299, 1, none⟩ = some (.slice A0_1 l0_1.length c0_1) := (blk_cell BK299.out 1).trans rfl; have hfz102_0 := blk_frozen BK299.out 0; have hfz102_1 := blk_frozen BK299.out 1; have hcz103_0 : w101.cell? ⟨gb300, 0, none⟩ = some (.string a1_0) := (blk_cell BK300.out 0).trans rfl; have hcz103_1 : w101.cell? ⟨gb300, 1, none⟩ = some (.slice A1_1 l1_1.length c1_1) := (blk_cell BK300.out 1).trans rfl; have hfz103_0 := blk_frozen BK300.out 0; have hfz103_1 := blk_frozen BK300.out 1) | (go_at_call 21; (with_reducible refine (constablekeep_Fact.calls kj3 a0_0 _ _ l0_1 a1_0 _ _ l1_1 t309 _ ?side1 ?side2 ?side3 ?side4 A44.out).mono ?_); (case side1 => exact kd_ ((Kd.V_reads' HO_300001.out).2.2)); (case side2 => exact (Kd.V_reads' HO_300001.out).2.1); (case side3 => exact kd_ ((Kd.V_reads' HO_301001.out).2.2)); (case side4 => exact (Kd.V_reads' HO_301001.out).2.1); rintro e w104 ⟨rfl, hb⟩; replace HO_300001 := bV_ HO_300001 hb; replace HO_301001 := bV_ HO_301001 hb; replace HO_302001 := bV_ HO_302001 hb; replace BK299 := bb_ (bu_ BK299) hb; replace BK300 := bb_ (bu_ BK300) hb; replace BK301 := bb_ (bu_ BK301) hb; replace HB := bs_ (be_ HB) hb; (try clear hb); (try clear hb2); (try clear hk); (try clear hi)))
          go_meet
          case rel => exact ⟨_, (!true), ra_, H', ⟨by have := HJ3.out; first | omega | exact Nat.le_refl _⟩, mV_ (HO_300001.out), mV_ (HO_301001.out), mV_ (HO_302001.out), bu2_ BK299, bu2_ BK300, bu2_ BK301, be2_ HB⟩
        ·rw [if_neg c85] at H
         have c85b0 : decide (0 < t306) = false := decide_eq_false c85
         clear c85
         by_cases c105 : t307 ≤ 0
         ·rw [if_pos c105] at H
          have c105b0 : decide (t307 ≤ 0) = true := decide_eq_true c105
          clear c105
          by_cases c106 : t305 ≥ 0
          ·rw [if_pos c106] at H
           have c106b0 : decide (0 ≤ t305) = true := decide_eq_true c106
           clear c106
           have H' := Aside0.mk H
           clear H
           have hnb107 := NB300_299.out
           have hnc107 := NB299_300.out
           have hnb108 := NB300_301.out
           have hnc108 := NB301_300.out
           have hcz109_0 : w41.cell? ⟨gb300, 0, none⟩ = some (.string a1_0) := (blk_cell BK300.out 0).trans rfl
           have hcz109_1 : w41.cell? ⟨gb300, 1, none⟩ = some (.slice A1_1 l1_1.length c1_1) := (blk_cell BK300.out 1).trans rfl
           have hfz109_0 := blk_frozen BK300.out 0
           have hfz109_1 := blk_frozen BK300.out 1
           have hnb110 := NB299_301.out
           have hnc110 := NB301_299.out
           have hcz111_0 : w41.cell? ⟨gb299, 0, none⟩ = some (.string a0_0) := (blk_cell BK299.out 0).trans rfl
           have hcz111_1 : w41.cell? ⟨gb299, 1, none⟩ = some (.slice A0_1 l0_1.length c0_1) := (blk_cell BK299.out 1).trans rfl
           have hfz111_0 := blk_frozen BK299.out 0
           have hfz111_1 := blk_frozen BK299.out 1
           go_wp2_with (first | ((with_reducible refine gate_callee (f := 17) rfl ?_); refine goesL_ (some 38) rfl rfl Tryd.func17 (by kernel_rfl) rfl #[.agg #[.string a1_0, .slice A1_1 l1_1.length c1_1], .agg #[.string a0_0, .slice A0_1 l0_1.length c0_1]] rfl ga_ ?_; (with_reducible refine (fact_Compare.calls kj3 a1_0 _ _ l1_1 a0_0 _ _ l0_1 t308 _ ?side1 ?side2 ?side3 ?side4 A42.out).mono ?_); (case side1 => exact kd_ ((Kd.V_reads' HO_301001.out).2.2)); (case side2 => exact (Kd.V_reads' HO_301001.out).2.1); (case side3 => exact kd_ ((Kd.V_reads' HO_300001.out).2.2)); (case side4 => exact (Kd.V_reads' HO_300001.out).2.1); rintro e w112 ⟨rfl, hb⟩; refine ⟨_, rfl, ?_⟩; replace HO_300001 := bV_ HO_300001 hb; replace HO_301001 := bV_ HO_301001 hb; replace HO_302001 := bV_ HO_302001 hb; replace BK299 := bb_ (bu_ BK299) hb; replace BK300 := bb_ (bu_ BK300) hb; replace BK301 := bb_ (bu_ BK301) hb; replace HB := bs_ (be_ HB) hb; (try clear hb); (try clear hb2); (try clear hk); (try clear hi); have hcz113_0 : w112.cell? ⟨gb299, 0, none⟩ = some (.string a0_0) := (blk_cell BK299.out 0).trans rfl; have hcz113_1 : w112.cell? ⟨gb299, 1, none⟩ = some (.slice A0_1 l0_1.length c0_1) := (blk_cell BK299.out 1).trans rfl; have hfz113_0 := blk_frozen BK299.out 0; have hfz113_1 := blk_frozen BK299.out 1; have hcz114_0 : w112.cell? ⟨gb300, 0, none⟩ = some (.string a1_0) := (blk_cell BK300.out 0).trans rfl; have hcz114_1 : w112.cell? ⟨gb300, 1, none⟩ = some (.slice A1_1 l1_1.length c1_1) := (blk_cell BK300.out 1).trans rfl; have hfz114_0 := blk_frozen BK300.out 0; have hfz114_1 := blk_frozen BK300.out 1) | (go_at_call 21; (with_reducible refine (constablekeep_Fact.calls kj3 a0_0 _ _ l0_1 a1_0 _ _ l1_1 t309 _ ?side1 ?side2 ?side3 ?side4 A44.out).mono ?_); (case side1 => exact kd_ ((Kd.V_reads' HO_300001.out).2.2)); (case side2 => exact (Kd.V_reads' HO_300001.out).2.1); (case side3 => exact kd_ ((Kd.V_reads' HO_301001.out).2.2)); (case side4 => exact (Kd.V_reads' HO_301001.out).2.1); rintro e w115 ⟨rfl, hb⟩; replace HO_300001 := bV_ HO_300001 hb; replace HO_301001 := bV_ HO_301001 hb; replace HO_302001 := bV_ HO_302001 hb; replace BK299 := bb_ (bu_ BK299) hb; replace BK300 := bb_ (bu_ BK300) hb; replace BK301 := bb_ (bu_ BK301) hb; replace HB := bs_ (be_ HB) hb; (try clear hb); (try clear hb2); (try clear hk); (try clear hi)))
           go_meet
           case rel => exact ⟨_, (!true), ra_, H', ⟨by have := HJ3.out; first | omega | exact Nat.le_refl _⟩, mV_ (HO_300001.out), mV_ (HO_301001.out), mV_ (HO_302001.out), bu2_ BK299, bu2_ BK300, bu2_ BK301, be2_ HB⟩
          ·rw [if_neg c106] at H
           have c106b0 : decide (0 ≤ t305) = false := decide_eq_false c106
           clear c106
           have H' := Aside0.mk H
           clear H
           have hnb116 := NB300_299.out
           have hnc116 := NB299_300.out
           have hnb117 := NB300_301.out
           have hnc117 := NB301_300.out
           have hcz118_0 : w41.cell? ⟨gb300, 0, none⟩ = some (.string a1_0) := (blk_cell BK300.out 0).trans rfl
           have hcz118_1 : w41.cell? ⟨gb300, 1, none⟩ = some (.slice A1_1 l1_1.length c1_1) := (blk_cell BK300.out 1).trans rfl
           have hfz118_0 := blk_frozen BK300.out 0
           have hfz118_1 := blk_frozen BK300.out 1
           have hnb119 := NB299_301.out
           have hnc119 := NB301_299.out
           have hcz120_0 : w41.cell? ⟨gb299, 0, none⟩ = some (.string a0_0) := (blk_cell BK299.out 0).trans rfl
           have hcz120_1 : w41.cell? ⟨gb299, 1, none⟩ = some (.slice A0_1 l0_1.length c0_1) := (blk_cell BK299.out 1).trans rfl
           have hfz120_0 := blk_frozen BK299.out 0
           have hfz120_1 := blk_frozen BK299.out 1
           go_wp2_with (first | ((with_reducible refine gate_callee (f := 17) rfl ?_); refine goesL_ (some 38) rfl rfl Tryd.func17 (by kernel_rfl) rfl #[.agg #[.string a1_0, .slice A1_1 l1_1.length c1_1], .agg #[.string a0_0, .slice A0_1 l0_1.length c0_1]] rfl ga_ ?_; (with_reducible refine (fact_Compare.calls kj3 a1_0 _ _ l1_1 a0_0 _ _ l0_1 t308 _ ?side1 ?side2 ?side3 ?side4 A42.out).mono ?_); (case side1 => exact kd_ ((Kd.V_reads' HO_301001.out).2.2)); (case side2 => exact (Kd.V_reads' HO_301001.out).2.1); (case side3 => exact kd_ ((Kd.V_reads' HO_300001.out).2.2)); (case side4 => exact (Kd.V_reads' HO_300001.out).2.1); rintro e w121 ⟨rfl, hb⟩; refine ⟨_, rfl, ?_⟩; replace HO_300001 := bV_ HO_300001 hb; replace HO_301001 := bV_ HO_301001 hb; replace HO_302001 := bV_ HO_302001 hb; replace BK299 := bb_ (bu_ BK299) hb; replace BK300 := bb_ (bu_ BK300) hb; replace BK301 := bb_ (bu_ BK301) hb; replace HB := bs_ (be_ HB) hb; (try clear hb); (try clear hb2); (try clear hk); (try clear hi); have hcz122_0 : w121.cell? ⟨gb299, 0, none⟩ = some (.string a0_0) := (blk_cell BK299.out 0).trans rfl; have hcz122_1 : w121.cell? ⟨gb299, 1, none⟩ = some (.slice A0_1 l0_1.length c0_1) := (blk_cell BK299.out 1).trans rfl; have hfz122_0 := blk_frozen BK299.out 0; have hfz122_1 := blk_frozen BK299.out 1; have hcz123_0 : w121.cell? ⟨gb300, 0, none⟩ = some (.string a1_0) := (blk_cell BK300.out 0).trans rfl; have hcz123_1 : w121.cell? ⟨gb300, 1, none⟩ = some (.slice A1_1 l1_1.length c1_1) := (blk_cell BK300.out 1).trans rfl; have hfz123_0 := blk_frozen BK300.out 0; have hfz123_1 := blk_frozen BK300.out 1) | (go_at_call 21; (with_reducible refine (constablekeep_Fact.calls kj3 a0_0 _ _ l0_1 a1_0 _ _ l1_1 t309 _ ?side1 ?side2 ?side3 ?side4 A44.out).mono ?_); (case side1 => exact kd_ ((Kd.V_reads' HO_300001.out).2.2)); (case side2 => exact (Kd.V_reads' HO_300001.out).2.1); (case side3 => exact kd_ ((Kd.V_reads' HO_301001.out).2.2)); (case side4 => exact (Kd.V_reads' HO_301001.out).2.1); rintro e w124 ⟨rfl, hb⟩; replace HO_300001 := bV_ HO_300001 hb; replace HO_301001 := bV_ HO_301001 hb; replace HO_302001 := bV_ HO_302001 hb; replace BK299 := bb_ (bu_ BK299) hb; replace BK300 := bb_ (bu_ BK300) hb; replace BK301 := bb_ (bu_ BK301) hb; replace HB := bs_ (be_ HB) hb; (try clear hb); (try clear hb2); (try clear hk); (try clear hi)))
           go_meet
           case rel => exact ⟨_, (!(decide (t307 < 0))), ra_, H', ⟨by have := HJ3.out; first | omega | exact Nat.le_refl _⟩, mV_ (HO_300001.out), mV_ (HO_301001.out), mV_ (HO_302001.out), bu2_ BK299, bu2_ BK300, bu2_ BK301, be2_ HB⟩
         ·rw [if_neg c105] at H
          have c105b0 : decide (t307 ≤ 0) = false := decide_eq_false c105
          clear c105
          have H' := Aside0.mk H
          clear H
          have hnb125 := NB300_299.out
          have hnc125 := NB299_300.out
          have hnb126 := NB300_301.out
          have hnc126 := NB301_300.out
          have hcz127_0 : w41.cell? ⟨gb300, 0, none⟩ = some (.string a1_0) := (blk_cell BK300.out 0).trans rfl
          have hcz127_1 : w41.cell? ⟨gb300, 1, none⟩ = some (.slice A1_1 l1_1.length c1_1) := (blk_cell BK300.out 1).trans rfl
          have hfz127_0 := blk_frozen BK300.out 0
          have hfz127_1 := blk_frozen BK300.out 1
          have hnb128 := NB299_301.out
          have hnc128 := NB301_299.out
          have hcz129_0 : w41.cell? ⟨gb299, 0, none⟩ = some (.string a0_0) := (blk_cell BK299.out 0).trans rfl
          have hcz129_1 : w41.cell? ⟨gb299, 1, none⟩ = some (.slice A0_1 l0_1.length c0_1) := (blk_cell BK299.out 1).trans rfl
          have hfz129_0 := blk_frozen BK299.out 0
          have hfz129_1 := blk_frozen BK299.out 1
          go_wp2_with (first | ((with_reducible refine gate_callee (f := 17) rfl ?_); refine goesL_ (some 38) rfl rfl Tryd.func17 (by kernel_rfl) rfl #[.agg #[.string a1_0, .slice A1_1 l1_1.length c1_1], .agg #[.string a0_0, .slice A0_1 l0_1.length c0_1]] rfl ga_ ?_; (with_reducible refine (fact_Compare.calls kj3 a1_0 _ _ l1_1 a0_0 _ _ l0_1 t308 _ ?side1 ?side2 ?side3 ?side4 A42.out).mono ?_); (case side1 => exact kd_ ((Kd.V_reads' HO_301001.out).2.2)); (case side2 => exact (Kd.V_reads' HO_301001.out).2.1); (case side3 => exact kd_ ((Kd.V_reads' HO_300001.out).2.2)); (case side4 => exact (Kd.V_reads' HO_300001.out).2.1); rintro e w130 ⟨rfl, hb⟩; refine ⟨_, rfl, ?_⟩; replace HO_300001 := bV_ HO_300001 hb; replace HO_301001 := bV_ HO_301001 hb; replace HO_302001 := bV_ HO_302001 hb; replace BK299 := bb_ (bu_ BK299) hb; replace BK300 := bb_ (bu_ BK300) hb; replace BK301 := bb_ (bu_ BK301) hb; replace HB := bs_ (be_ HB) hb; (try clear hb); (try clear hb2); (try clear hk); (try clear hi); have hcz131_0 : w130.cell? ⟨gb299, 0, none⟩ = some (.string a0_0) := (blk_cell BK299.out 0).trans rfl; have hcz131_1 : w130.cell? ⟨gb299, 1, none⟩ = some (.slice A0_1 l0_1.length c0_1) := (blk_cell BK299.out 1).trans rfl; have hfz131_0 := blk_frozen BK299.out 0; have hfz131_1 := blk_frozen BK299.out 1; have hcz132_0 : w130.cell? ⟨gb300, 0, none⟩ = some (.string a1_0) := (blk_cell BK300.out 0).trans rfl; have hcz132_1 : w130.cell? ⟨gb300, 1, none⟩ = some (.slice A1_1 l1_1.length c1_1) := (blk_cell BK300.out 1).trans rfl; have hfz132_0 := blk_frozen BK300.out 0; have hfz132_1 := blk_frozen BK300.out 1) | (go_at_call 21; (with_reducible refine (constablekeep_Fact.calls kj3 a0_0 _ _ l0_1 a1_0 _ _ l1_1 t309 _ ?side1 ?side2 ?side3 ?side4 A44.out).mono ?_); (case side1 => exact kd_ ((Kd.V_reads' HO_300001.out).2.2)); (case side2 => exact (Kd.V_reads' HO_300001.out).2.1); (case side3 => exact kd_ ((Kd.V_reads' HO_301001.out).2.2)); (case side4 => exact (Kd.V_reads' HO_301001.out).2.1); rintro e w133 ⟨rfl, hb⟩; replace HO_300001 := bV_ HO_300001 hb; replace HO_301001 := bV_ HO_301001 hb; replace HO_302001 := bV_ HO_302001 hb; replace BK299 := bb_ (bu_ BK299) hb; replace BK300 := bb_ (bu_ BK300) hb; replace BK301 := bb_ (bu_ BK301) hb; replace HB := bs_ (be_ HB) hb; (try clear hb); (try clear hb2); (try clear hk); (try clear hi)))
          go_meet
          case rel => exact ⟨_, (!false), ra_, H', ⟨by have := HJ3.out; first | omega | exact Nat.le_refl _⟩, mV_ (HO_300001.out), mV_ (HO_301001.out), mV_ (HO_302001.out), bu2_ BK299, bu2_ BK300, bu2_ BK301, be2_ HB⟩
     ·rw [if_neg c43] at H
      obtain ⟨c43b0, c43b1⟩ := neB_ c43
      (first | rw [c43b0] | (simp only [i64_w, i32_w]; rw [c43b0]) | skip)
      have H' := Aside0.mk H
      clear H
      have hnb134 := NB300_299.out
      have hnc134 := NB299_300.out
      have hnb135 := NB300_301.out
      have hnc135 := NB301_300.out
      have hcz136_0 : w41.cell? ⟨gb300, 0, none⟩ = some (.string a1_0) := (blk_cell BK300.out 0).trans rfl
      have hcz136_1 : w41.cell? ⟨gb300, 1, none⟩ = some (.slice A1_1 l1_1.length c1_1) := (blk_cell BK300.out 1).trans rfl
      have hfz136_0 := blk_frozen BK300.out 0
      have hfz136_1 := blk_frozen BK300.out 1
      have hnb137 := NB299_301.out
      have hnc137 := NB301_299.out
      have hcz138_0 : w41.cell? ⟨gb299, 0, none⟩ = some (.string a0_0) := (blk_cell BK299.out 0).trans rfl
      have hcz138_1 : w41.cell? ⟨gb299, 1, none⟩ = some (.slice A0_1 l0_1.length c0_1) := (blk_cell BK299.out 1).trans rfl
      have hfz138_0 := blk_frozen BK299.out 0
      have hfz138_1 := blk_frozen BK299.out 1
      go_wp2_with (first | ((with_reducible refine gate_callee (f := 17) rfl ?_); refine goesL_ (some 38) rfl rfl Tryd.func17 (by kernel_rfl) rfl #[.agg #[.string a1_0, .slice A1_1 l1_1.length c1_1], .agg #[.string a0_0, .slice A0_1 l0_1.length c0_1]] rfl ga_ ?_; (with_reducible refine (fact_Compare.calls kj3 a1_0 _ _ l1_1 a0_0 _ _ l0_1 t308 _ ?side1 ?side2 ?side3 ?side4 A42.out).mono ?_); (case side1 => exact kd_ ((Kd.V_reads' HO_301001.out).2.2)); (case side2 => exact (Kd.V_reads' HO_301001.out).2.1); (case side3 => exact kd_ ((Kd.V_reads' HO_300001.out).2.2)); (case side4 => exact (Kd.V_reads' HO_300001.out).2.1); rintro e w139 ⟨rfl, hb⟩; refine ⟨_, rfl, ?_⟩; replace HO_300001 := bV_ HO_300001 hb; replace HO_301001 := bV_ HO_301001 hb; replace HO_302001 := bV_ HO_302001 hb; replace BK299 := bb_ (bu_ BK299) hb; replace BK300 := bb_ (bu_ BK300) hb; replace BK301 := bb_ (bu_ BK301) hb; replace HB := bs_ (be_ HB) hb; (try clear hb); (try clear hb2); (try clear hk); (try clear hi)))
      go_meet
      case rel => exact ⟨_, (true), ra_, H', ⟨by have := HJ3.out; first | omega | exact Nat.le_refl _⟩, mV_ (HO_300001.out), mV_ (HO_301001.out), mV_ (HO_302001.out), bu2_ BK299, bu2_ BK300, bu2_ BK301, be2_ HB⟩
    case rest =>
     clear HC37
     try clear c1; try clear c2; try clear p2; try clear c3; try clear c4; try clear c5; try clear c6; try clear p6; try clear c7; try clear c8; try clear c9; try clear c10; try clear c11; try clear c12; try clear c13; try clear c15; try clear c16; try clear c17; try clear c20; try clear c24; try clear c25; try clear c28; try clear c33; try clear c43; try clear c43b0; try clear c43b1; try clear c45; try clear c45b0; try clear c45b1; try clear c45b2; try clear c46; try clear c47; try clear c49; try clear c55; try clear c55b0; try clear c56; try clear c56b0; try clear c57; try clear c58; try clear c60; try clear p64; try clear c66; try clear c66b0; try clear c67; try clear c68; try clear c70; try clear c76; try clear c77; try clear c79; try clear c85; try clear c85b0; try clear c86; try clear c86b0; try clear c87; try clear c88; try clear c90; try clear c96; try clear c97; try clear c99; try clear c105; try clear c105b0; try clear c106; try clear c106b0; try clear c107; try clear c108; try clear c110; try clear c116; try clear c117; try clear c119; try clear c125; try clear c126; try clear c128; try clear c134; try clear c135; try clear c137; try clear hcz100_0; try clear hcz100_1; try clear hcz102_0; try clear hcz102_1; try clear hcz103_0; try clear hcz103_1; try clear hcz109_0; try clear hcz109_1; try clear hcz111_0; try clear hcz111_1; try clear hcz113_0; try clear hcz113_1; try clear hcz114_0; try clear hcz114_1; try clear hcz118_0; try clear hcz118_1; try clear hcz120_0; try clear hcz120_1; try clear hcz122_0; try clear hcz122_1; try clear hcz123_0; try clear hcz123_1; try clear hcz127_0; try clear hcz127_1; try clear hcz129_0; try clear hcz129_1; try clear hcz12_0; try clear hcz12_1; try clear hcz131_0; try clear hcz131_1; try clear hcz132_0; try clear hcz132_1; try clear hcz136_0; try clear hcz136_1; try clear hcz138_0; try clear hcz138_1; try clear hcz18_0; try clear hcz18_1; try clear hcz21_0; try clear hcz21_1; try clear hcz26_0; try clear hcz26_1; try clear hcz29_0; try clear hcz29_1; try clear hcz31_0; try clear hcz31_1; try clear hcz48_0; try clear hcz48_1; try clear hcz50_0; try clear hcz50_1; try clear hcz52_0; try clear hcz52_1; try clear hcz53_0; try clear hcz53_1; try clear hcz59_0; try clear hcz59_1; try clear hcz61_0; try clear hcz61_1; try clear hcz63_0; try clear hcz63_1; try clear hcz64_0; try clear hcz64_1; try clear hcz69_0; try clear hcz69_1; try clear hcz71_0; try clear hcz71_1; try clear hcz73_0; try clear hcz73_1; try clear hcz74_0; try clear hcz74_1; try clear hcz78_0; try clear hcz78_1; try clear hcz80_0; try clear hcz80_1; try clear hcz82_0; try clear hcz82_1; try clear hcz83_0; try clear hcz83_1; try clear hcz89_0; try clear hcz89_1; try clear hcz91_0; try clear hcz91_1; try clear hcz93_0; try clear hcz93_1; try clear hcz94_0; try clear hcz94_1; try clear hcz98_0; try clear hcz98_1; try clear hfz100_0; try clear hfz100_1; try clear hfz102_0; try clear hfz102_1; try clear hfz103_0; try clear hfz103_1; try clear hfz109_0; try clear hfz109_1; try clear hfz111_0; try clear hfz111_1; try clear hfz113_0; try clear hfz113_1; try clear hfz114_0; try clear hfz114_1; try clear hfz118_0; try clear hfz118_1; try clear hfz120_0; try clear hfz120_1; try clear hfz122_0; try clear hfz122_1; try clear hfz123_0; try clear hfz123_1; try clear hfz127_0; try clear hfz127_1; try clear hfz129_0; try clear hfz129_1; try clear hfz12_0; try clear hfz12_1; try clear hfz131_0; try clear hfz131_1; try clear hfz132_0; try clear hfz132_1; try clear hfz136_0; try clear hfz136_1; try clear hfz138_0; try clear hfz138_1; try clear hfz18_0; try clear hfz18_1; try clear hfz21_0; try clear hfz21_1; try clear hfz26_0; try clear hfz26_1; try clear hfz29_0; try clear hfz29_1; try clear hfz31_0; try clear hfz31_1; try clear hfz48_0; try clear hfz48_1; try clear hfz50_0; try clear hfz50_1; try clear hfz52_0; try clear hfz52_1; try clear hfz53_0; try clear hfz53_1; try clear hfz59_0; try clear hfz59_1; try clear hfz61_0; try clear hfz61_1; try clear hfz63_0; try clear hfz63_1; try clear hfz64_0; try clear hfz64_1; try clear hfz69_0; try clear hfz69_1; try clear hfz71_0; try clear hfz71_1; try clear hfz73_0; try clear hfz73_1; try clear hfz74_0; try clear hfz74_1; try clear hfz78_0; try clear hfz78_1; try clear hfz80_0; try clear hfz80_1; try clear hfz82_0; try clear hfz82_1; try clear hfz83_0; try clear hfz83_1; try clear hfz89_0; try clear hfz89_1; try clear hfz91_0; try clear hfz91_1; try clear hfz93_0; try clear hfz93_1; try clear hfz94_0; try clear hfz94_1; try clear hfz98_0; try clear hfz98_1; try clear p2
     obtain ⟨kq, x73_36, rfl, HA, HJ36, HO_300001, HO_301001, HO_302001, BK299, BK300, BK301, HB⟩ := hcut
     cases kq with
     | zero => exact absurd HA.out (by simp [constablelaw03_FactOrder.j1])
     | succ kj36 =>
      have H := HA.out
      clear HA
      simp only [constablelaw03_FactOrder.j1] at H
      by_cases c140 : x73_36 = true
      ·subst c140
       rw [if_pos rfl] at H
       exact absurd ((Option.some.inj H).trans HR_.out) (by decide)
      ·replace c140 := Bool.eq_false_iff.mpr c140
       subst c140
       rw [if_neg (show ¬ (false = true) by decide)] at H
       obtain ⟨y310, hy310⟩ : ∃ y_ : List (S24), y_ = (([(⟨a0_0, l0_1⟩ : S24)] : List (S24))) := ⟨_, rfl⟩
       replace H : ((fact_Lists.f kj36 y310 (([(⟨a1_0, l1_1⟩ : S24)] : List (S24)))).bind fun t316 => ((fact_Lists.f kj36 (([(⟨a2_0, l2_1⟩ : S24), (⟨a0_0, l0_1⟩ : S24)] : List (S24))) (([(⟨a2_0, l2_1⟩ : S24), (⟨a1_0, l1_1⟩ : S24)] : List (S24)))).bind fun t323 => (if t316 = t305 then (if t323 = t305 then ((fact_Lists.f kj36 (([(⟨a0_0, l0_1⟩ : S24)] : List (S24))) (([(⟨a0_0, l0_1⟩ : S24), (⟨a1_0, l1_1⟩ : S24)] : List (S24)))).bind fun t330 => (constablelaw03_FactOrder.j2 kj36 (t330 != (-1)) a0_0 l0_1 a1_0 l1_1)) else (constablelaw03_FactOrder.j2 kj36 true a0_0 l0_1 a1_0 l1_1)) else (constablelaw03_FactOrder.j2 kj36 true a0_0 l0_1 a1_0 l1_1)))) = some r := by first | (rw [hy310]; with_reducible exact H) | (have H2_ := (Option.bind_some _ _).symm.trans H; rw [hy310]; with_reducible exact H2_) | (have H2_ := (Option.bind_some _ _).symm.trans H; with_reducible exact H2_) | with_reducible exact H | (rw [hy310]; exact H) | exact H
       have Ny310 := Aside0.mk hy310
       clear hy310
       obtain ⟨y313, hy313⟩ : ∃ y_ : List (S24), y_ = (([(⟨a1_0, l1_1⟩ : S24)] : List (S24))) := ⟨_, rfl⟩
       replace H : ((fact_Lists.f kj36 y310 y313).bind fun t316 => ((fact_Lists.f kj36 (([(⟨a2_0, l2_1⟩ : S24), (⟨a0_0, l0_1⟩ : S24)] : List (S24))) (([(⟨a2_0, l2_1⟩ : S24), (⟨a1_0, l1_1⟩ : S24)] : List (S24)))).bind fun t323 => (if t316 = t305 then (if t323 = t305 then ((fact_Lists.f kj36 (([(⟨a0_0, l0_1⟩ : S24)] : List (S24))) (([(⟨a0_0, l0_1⟩ : S24), (⟨a1_0, l1_1⟩ : S24)] : List (S24)))).bind fun t330 => (constablelaw03_FactOrder.j2 kj36 (t330 != (-1)) a0_0 l0_1 a1_0 l1_1)) else (constablelaw03_FactOrder.j2 kj36 true a0_0 l0_1 a1_0 l1_1)) else (constablelaw03_FactOrder.j2 kj36 true a0_0 l0_1 a1_0 l1_1)))) = some r := by first | (rw [hy313]; with_reducible exact H) | (have H2_ := (Option.bind_some _ _).symm.trans H; rw [hy313]; with_reducible exact H2_) | (have H2_ := (Option.bind_some _ _).symm.trans H; with_reducible exact H2_) | with_reducible exact H | (rw [hy313]; exact H) | exact H
       have Ny313 := Aside0.mk hy313
       clear hy313
       replace H := Option.bind_eq_some_iff.mp H
       obtain ⟨t316, A1410, H⟩ := H
       try dsimp only at H
       have A141 := Aside0.mk A1410
       clear A1410
       obtain ⟨y317, hy317⟩ : ∃ y_ : List (S24), y_ = (([(⟨a2_0, l2_1⟩ : S24), (⟨a0_0, l0_1⟩ : S24)] : List (S24))) := ⟨_, rfl⟩
       replace H : ((fact_Lists.f kj36 y317 (([(⟨a2_0, l2_1⟩ : S24), (⟨a1_0, l1_1⟩ : S24)] : List (S24)))).bind fun t323 => (if t316 = t305 then (if t323 = t305 then ((fact_Lists.f kj36 (([(⟨a0_0, l0_1⟩ : S24)] : List (S24))) (([(⟨a0_0, l0_1⟩ : S24), (⟨a1_0, l1_1⟩ : S24)] : List (S24)))).bind fun t330 => (constablelaw03_FactOrder.j2 kj36 (t330 != (-1)) a0_0 l0_1 a1_0 l1_1)) else (constablelaw03_FactOrder.j2 kj36 true a0_0 l0_1 a1_0 l1_1)) else (constablelaw03_FactOrder.j2 kj36 true a0_0 l0_1 a1_0 l1_1))) = some r := by first | (rw [hy317]; with_reducible exact H) | (have H2_ := (Option.bind_some _ _).symm.trans H; rw [hy317]; with_reducible exact H2_) | (have H2_ := (Option.bind_some _ _).symm.trans H; with_reducible exact H2_) | with_reducible exact H | (rw [hy317]; exact H) | exact H
       have Ny317 := Aside0.mk hy317
       clear hy317
       obtain ⟨y320, hy320⟩ : ∃ y_ : List (S24), y_ = (([(⟨a2_0, l2_1⟩ : S24), (⟨a1_0, l1_1⟩ : S24)] : List (S24))) := ⟨_, rfl⟩
       replace H : ((fact_Lists.f kj36 y317 y320).bind fun t323 => (if t316 = t305 then (if t323 = t305 then ((fact_Lists.f kj36 (([(⟨a0_0, l0_1⟩ : S24)] : List (S24))) (([(⟨a0_0, l0_1⟩ : S24), (⟨a1_0, l1_1⟩ : S24)] : List (S24)))).bind fun t330 => (constablelaw03_FactOrder.j2 kj36 (t330 != (-1)) a0_0 l0_1 a1_0 l1_1)) else (constablelaw03_FactOrder.j2 kj36 true a0_0 l0_1 a1_0 l1_1)) else (constablelaw03_FactOrder.j2 kj36 true a0_0 l0_1 a1_0 l1_1))) = some r := by first | (rw [hy320]; with_reducible exact H) | (have H2_ := (Option.bind_some _ _).symm.trans H; rw [hy320]; with_reducible exact H2_) | (have H2_ := (Option.bind_some _ _).symm.trans H; with_reducible exact H2_) | with_reducible exact H | (rw [hy320]; exact H) | exact H
       have Ny320 := Aside0.mk hy320
       clear hy320
       replace H := Option.bind_eq_some_iff.mp H
       obtain ⟨t323, A1420, H⟩ := H
       try dsimp only at H
       have A142 := Aside0.mk A1420
       clear A1420
       have HC143 := Aside0.mk H
       clear H
       have hnb144 := NB299_300.out
       have hnc144 := NB300_299.out
       have hnb145 := NB299_301.out
       have hnc145 := NB301_299.out
       have hcz146_0 : wc.cell? ⟨gb299, 0, none⟩ = some (.string a0_0) := (blk_cell BK299.out 0).trans rfl
       have hcz146_1 : wc.cell? ⟨gb299, 1, none⟩ = some (.slice A0_1 l0_1.length c0_1) := (blk_cell BK299.out 1).trans rfl
       have hfz146_0 := blk_frozen BK299.out 0
       have hfz146_1 := blk_frozen BK299.out 1
       go_upto_region 8 with (first | ((with_reducible refine gate_dst (N := 75) rfl ?_); (try (refine gate_guard (by rfl) ?_; dsimp only)); refine Kd.N_lit k24 _ 24 ?hg (N' := 75) ?hd (xs := ([(⟨a0_0, l0_1⟩ : S24)] : List (S24))) (inner := [.string a0_0, .slice A0_1 l0_1.length c0_1]) (ok := (fun k_ => ((P0_1_ k_ ∨ P1_1_ k_ ∨ P2_1_ k_) ∨ w.heap.size ≤ k_) ∧ k_ ≠ gb299 ∧ k_ ≠ gb300 ∧ k_ ≠ gb301)) (okp := (fun k_ => ((P0_1_ k_ ∨ P1_1_ k_ ∨ P2_1_ k_) ∨ w.heap.size ≤ k_) ∧ k_ ≠ gb299 ∧ k_ ≠ gb300 ∧ k_ ≠ gb301)) ?hr ?hp (fun _ hk => hk) ((show ∀ k_, wc.heap.size ≤ k_ → (fun k_ => ((P0_1_ k_ ∨ P1_1_ k_ ∨ P2_1_ k_) ∨ w.heap.size ≤ k_) ∧ k_ ≠ gb299 ∧ k_ ≠ gb300 ∧ k_ ≠ gb301) k_ from fun k_ hk => ⟨(.inr (Nat.le_trans (below_size (be_ HB)) hk)), Kd.freshB (bu_ BK299) k_ hk, Kd.freshB (bu_ BK300) k_ hk, Kd.freshB (bu_ BK301) k_ hk⟩) _ (Nat.le_refl _)) (Below.refl _ _) (Nat.le_refl _) (by simp) ?_; (case hd => rfl); (case hg => rfl); (case hr => first | (go_simp; done) | (go_simp; rfl)); (case hp => exact (Reps.c2 (show Kd.FK k24 _ _ (⟨a0_0, l0_1⟩ : S24) [.string a0_0, .slice A0_1 l0_1.length c0_1] from (k24_mkF _ _ (⟨a0_0, l0_1⟩ : S24) (Kd.V_reads' (Kd.V_mono (ok' := (fun k_ => ((P0_1_ k_ ∨ P1_1_ k_ ∨ P2_1_ k_) ∨ w.heap.size ≤ k_) ∧ k_ ≠ gb299 ∧ k_ ≠ gb300 ∧ k_ ≠ gb301)) (HO_300001.out) (fun k_ hk => ⟨hk.1, ⟨hk.2.1, ⟨hk.2.2.1, hk.2.2.2⟩⟩⟩))).2.1 (Kd.V_F (Kd.V_mono (ok' := (fun k_ => ((P0_1_ k_ ∨ P1_1_ k_ ∨ P2_1_ k_) ∨ w.heap.size ≤ k_) ∧ k_ ≠ gb299 ∧ k_ ≠ gb300 ∧ k_ ≠ gb301)) (HO_300001.out) (fun k_ hk => ⟨hk.1, ⟨hk.2.1, ⟨hk.2.2.1, hk.2.2.2⟩⟩⟩))))) (Reps.none _ _))); intro v311 w147 ho148 hb hg_ hnew_; clear hg_ hnew_; (first | rw [← Ny310.out] at ho148 | (simp only [Int.reduceToNat] at ho148; rw [← Ny310.out] at ho148)); replace HO_300001 := Aside0.mk (Kd.V_elder' (kV_ HO_300001) (by first | exact Kd.N_base ho148 | exact Kd.S_base ho148 | exact Kd.R_base ho148) hb); replace HO_301001 := Aside0.mk (Kd.V_elder' (kV_ HO_301001) (by first | exact Kd.N_base ho148 | exact Kd.S_base ho148 | exact Kd.R_base ho148) hb); replace HO_302001 := Aside0.mk (Kd.V_elder' (kV_ HO_302001) (by first | exact Kd.N_base ho148 | exact Kd.S_base ho148 | exact Kd.R_base ho148) hb); have HO312 := Aside0.mk (Kd.N_lower ho148 (below_size (be_ HB))); replace BK299 := bb_ (bu_ BK299) hb; replace BK300 := bb_ (bu_ BK300) hb; replace BK301 := bb_ (bu_ BK301) hb; replace HB := bs_ (be_ HB) hb; clear hb ho148; have hnb149 := NB300_301.out; have hnc149 := NB301_300.out; have hcz150_0 : w147.cell? ⟨gb300, 0, none⟩ = some (.string a1_0) := (blk_cell BK300.out 0).trans rfl; have hcz150_1 : w147.cell? ⟨gb300, 1, none⟩ = some (.slice A1_1 l1_1.length c1_1) := (blk_cell BK300.out 1).trans rfl; have hfz150_0 := blk_frozen BK300.out 0; have hfz150_1 := blk_frozen BK300.out 1) | ((with_reducible refine gate_dst (N := 77) rfl ?_); (try (refine gate_guard (by rfl) ?_; dsimp only)); refine Kd.N_lit k24 _ 24 ?hg (N' := 77) ?hd (xs := ([(⟨a1_0, l1_1⟩ : S24)] : List (S24))) (inner := [.string a1_0, .slice A1_1 l1_1.length c1_1]) (ok := (fun k_ => ((P0_1_ k_ ∨ P1_1_ k_ ∨ P2_1_ k_) ∨ w.heap.size ≤ k_) ∧ some k_ ≠ (v311 : Value).ownBlock ∧ k_ ≠ gb299 ∧ k_ ≠ gb300 ∧ k_ ≠ gb301)) (okp := (fun k_ => ((P0_1_ k_ ∨ P1_1_ k_ ∨ P2_1_ k_) ∨ w.heap.size ≤ k_) ∧ some k_ ≠ (v311 : Value).ownBlock ∧ k_ ≠ gb299 ∧ k_ ≠ gb300 ∧ k_ ≠ gb301)) ?hr ?hp (fun _ hk => hk) ((show ∀ k_, w147.heap.size ≤ k_ → (fun k_ => ((P0_1_ k_ ∨ P1_1_ k_ ∨ P2_1_ k_) ∨ w.heap.size ≤ k_) ∧ some k_ ≠ (v311 : Value).ownBlock ∧ k_ ≠ gb299 ∧ k_ ≠ gb300 ∧ k_ ≠ gb301) k_ from fun k_ hk => ⟨(.inr (Nat.le_trans (below_size (be_ HB)) hk)), Kd.fresh' (Kd.N_lt (kN_ HO312)) k_ hk, Kd.freshB (bu_ BK299) k_ hk, Kd.freshB (bu_ BK300) k_ hk, Kd.freshB (bu_ BK301) k_ hk⟩) _ (Nat.le_refl _)) (Below.refl _ _) (Nat.le_refl _) (by simp) ?_; (case hd => rfl); (case hg => rfl); (case hr => first | (go_simp; done) | (go_simp; rfl)); (case hp => exact (Reps.c2 (show Kd.FK k24 _ _ (⟨a1_0, l1_1⟩ : S24) [.string a1_0, .slice A1_1 l1_1.length c1_1] from (k24_mkF _ _ (⟨a1_0, l1_1⟩ : S24) (Kd.V_reads' (Kd.V_mono (ok' := (fun k_ => ((P0_1_ k_ ∨ P1_1_ k_ ∨ P2_1_ k_) ∨ w.heap.size ≤ k_) ∧ some k_ ≠ (v311 : Value).ownBlock ∧ k_ ≠ gb299 ∧ k_ ≠ gb300 ∧ k_ ≠ gb301)) (HO_301001.out) (fun k_ hk => ⟨hk.1.1, ⟨hk.2, ⟨hk.1.2.1, ⟨hk.1.2.2.1, hk.1.2.2.2⟩⟩⟩⟩))).2.1 (Kd.V_F (Kd.V_mono (ok' := (fun k_ => ((P0_1_ k_ ∨ P1_1_ k_ ∨ P2_1_ k_) ∨ w.heap.size ≤ k_) ∧ some k_ ≠ (v311 : Value).ownBlock ∧ k_ ≠ gb299 ∧ k_ ≠ gb300 ∧ k_ ≠ gb301)) (HO_301001.out) (fun k_ hk => ⟨hk.1.1, ⟨hk.2, ⟨hk.1.2.1, ⟨hk.1.2.2.1, hk.1.2.2.2⟩⟩⟩⟩))))) (Reps.none _ _))); intro v314 w151 ho152 hb hg_ hnew_; clear hg_ hnew_; (first | rw [← Ny313.out] at ho152 | (simp only [Int.reduceToNat] at ho152; rw [← Ny313.out] at ho152)); replace HO_300001 := Aside0.mk (Kd.V_elder' (kV_ HO_300001) (by first | exact Kd.N_base ho152 | exact Kd.S_base ho152 | exact Kd.R_base ho152) hb); replace HO_301001 := Aside0.mk (Kd.V_elder' (kV_ HO_301001) (by first | exact Kd.N_base ho152 | exact Kd.S_base ho152 | exact Kd.R_base ho152) hb); replace HO_302001 := Aside0.mk (Kd.V_elder' (kV_ HO_302001) (by first | exact Kd.N_base ho152 | exact Kd.S_base ho152 | exact Kd.R_base ho152) hb); replace HO312 := Aside0.mk (Kd.N_elder' (kN_ HO312) (by first | exact Kd.N_base ho152 | exact Kd.S_base ho152 | exact Kd.R_base ho152) hb); have HO315 := Aside0.mk (Kd.N_lower ho152 (below_size (be_ HB))); replace BK299 := bb_ (bu_ BK299) hb; replace BK300 := bb_ (bu_ BK300) hb; replace BK301 := bb_ (bu_ BK301) hb; replace HB := bs_ (be_ HB) hb; clear hb ho152; obtain ⟨Ao153, co153, eo153⟩ := Kd.N_slice HO312.out; subst eo153; obtain ⟨Ao154, co154, eo154⟩ := Kd.N_slice HO315.out; subst eo154) | ((with_reducible refine gate_callee (f := 19) rfl ?_); refine goesL_ (some 78) rfl rfl Tryd.func19 (by kernel_rfl) rfl #[.slice Ao153 y310.length co153, .slice Ao154 y313.length co154] rfl ga_ ?_; (with_reducible refine (fact_Lists.calls kj36 _ _ y310 _ _ y313 t316 _ ?side1 ?side2 ?side3 ?side4 A141.out).mono ?_); (case side1 => exact kd_ ((Kd.N_reads' HO312.out).2.2)); (case side2 => exact (Kd.N_reads' HO312.out).2.1); (case side3 => exact kd_ ((Kd.N_reads' HO315.out).2.2)); (case side4 => exact (Kd.N_reads' HO315.out).2.1); rintro e w155 ⟨rfl, hb⟩; refine ⟨_, rfl, ?_⟩; replace HO_300001 := bV_ HO_300001 hb; replace HO_301001 := bV_ HO_301001 hb; replace HO_302001 := bV_ HO_302001 hb; replace HO312 := bN_ HO312 hb; replace HO315 := bN_ HO315 hb; replace BK299 := bb_ (bu_ BK299) hb; replace BK300 := bb_ (bu_ BK300) hb; replace BK301 := bb_ (bu_ BK301) hb; replace HB := bs_ (be_ HB) hb; (try clear hb); (try clear hb2); (try clear hk); (try clear hi); have hcz156_0 : w155.cell? ⟨gb301, 0, none⟩ = some (.string a2_0) := (blk_cell BK301.out 0).trans rfl; have hcz156_1 : w155.cell? ⟨gb301, 1, none⟩ = some (.slice A2_1 l2_1.length c2_1) := (blk_cell BK301.out 1).trans rfl; have hfz156_0 := blk_frozen BK301.out 0; have hfz156_1 := blk_frozen BK301.out 1; have hcz157_0 : w155.cell? ⟨gb299, 0, none⟩ = some (.string a0_0) := (blk_cell BK299.out 0).trans rfl; have hcz157_1 : w155.cell? ⟨gb299, 1, none⟩ = some (.slice A0_1 l0_1.length c0_1) := (blk_cell BK299.out 1).trans rfl; have hfz157_0 := blk_frozen BK299.out 0; have hfz157_1 := blk_frozen BK299.out 1) | ((with_reducible refine gate_dst (N := 81) rfl ?_); (try (refine gate_guard (by rfl) ?_; dsimp only)); refine Kd.N_lit k24 _ 24 ?hg (N' := 81) ?hd (xs := ([(⟨a2_0, l2_1⟩ : S24), (⟨a0_0, l0_1⟩ : S24)] : List (S24))) (inner := [.string a2_0, .slice A2_1 l2_1.length c2_1, .string a0_0, .slice A0_1 l0_1.length c0_1]) (ok := (fun k_ => ((P0_1_ k_ ∨ P1_1_ k_ ∨ P2_1_ k_) ∨ w.heap.size ≤ k_) ∧ some k_ ≠ (.slice Ao153 y310.length co153 : Value).ownBlock ∧ some k_ ≠ (.slice Ao154 y313.length co154 : Value).ownBlock ∧ k_ ≠ gb299 ∧ k_ ≠ gb300 ∧ k_ ≠ gb301)) (okp := (fun k_ => ((P0_1_ k_ ∨ P1_1_ k_ ∨ P2_1_ k_) ∨ w.heap.size ≤ k_) ∧ some k_ ≠ (.slice Ao153 y310.length co153 : Value).ownBlock ∧ some k_ ≠ (.slice Ao154 y313.length co154 : Value).ownBlock ∧ k_ ≠ gb299 ∧ k_ ≠ gb300 ∧ k_ ≠ gb301)) ?hr ?hp (fun _ hk => hk) ((show ∀ k_, w155.heap.size ≤ k_ → (fun k_ => ((P0_1_ k_ ∨ P1_1_ k_ ∨ P2_1_ k_) ∨ w.heap.size ≤ k_) ∧ some k_ ≠ (.slice Ao153 y310.length co153 : Value).ownBlock ∧ some k_ ≠ (.slice Ao154 y313.length co154 : Value).ownBlock ∧ k_ ≠ gb299 ∧ k_ ≠ gb300 ∧ k_ ≠ gb301) k_ from fun k_ hk => ⟨(.inr (Nat.le_trans (below_size (be_ HB)) hk)), Kd.fresh' (Kd.N_lt (kN_ HO312)) k_ hk, Kd.fresh' (Kd.N_lt (kN_ HO315)) k_ hk, Kd.freshB (bu_ BK299) k_ hk, Kd.freshB (bu_ BK300) k_ hk, Kd.freshB (bu_ BK301) k_ hk⟩) _ (Nat.le_refl _)) (Below.refl _ _) (Nat.le_refl _) (by simp) ?_; (case hd => rfl); (case hg => rfl); (case hr => first | (go_simp; done) | (go_simp; rfl)); (case hp => exact (Reps.c2 (show Kd.FK k24 _ _ (⟨a2_0, l2_1⟩ : S24) [.string a2_0, .slice A2_1 l2_1.length c2_1] from (k24_mkF _ _ (⟨a2_0, l2_1⟩ : S24) (Kd.V_reads' (Kd.V_mono (ok' := (fun k_ => ((P0_1_ k_ ∨ P1_1_ k_ ∨ P2_1_ k_) ∨ w.heap.size ≤ k_) ∧ some k_ ≠ (.slice Ao153 y310.length co153 : Value).ownBlock ∧ some k_ ≠ (.slice Ao154 y313.length co154 : Value).ownBlock ∧ k_ ≠ gb299 ∧ k_ ≠ gb300 ∧ k_ ≠ gb301)) (HO_302001.out) (fun k_ hk => ⟨hk.1.1.1, ⟨hk.1.2, ⟨hk.2, ⟨hk.1.1.2.1, ⟨hk.1.1.2.2.1, hk.1.1.2.2.2⟩⟩⟩⟩⟩))).2.1 (Kd.V_F (Kd.V_mono (ok' := (fun k_ => ((P0_1_ k_ ∨ P1_1_ k_ ∨ P2_1_ k_) ∨ w.heap.size ≤ k_) ∧ some k_ ≠ (.slice Ao153 y310.length co153 : Value).ownBlock ∧ some k_ ≠ (.slice Ao154 y313.length co154 : Value).ownBlock ∧ k_ ≠ gb299 ∧ k_ ≠ gb300 ∧ k_ ≠ gb301)) (HO_302001.out) (fun k_ hk => ⟨hk.1.1.1, ⟨hk.1.2, ⟨hk.2, ⟨hk.1.1.2.1, ⟨hk.1.1.2.2.1, hk.1.1.2.2.2⟩⟩⟩⟩⟩))))) (Reps.c2 (show Kd.FK k24 _ _ (⟨a0_0, l0_1⟩ : S24) [.string a0_0, .slice A0_1 l0_1.length c0_1] from (k24_mkF _ _ (⟨a0_0, l0_1⟩ : S24) (Kd.V_reads' (Kd.V_mono (ok' := (fun k_ => ((P0_1_ k_ ∨ P1_1_ k_ ∨ P2_1_ k_) ∨ w.heap.size ≤ k_) ∧ some k_ ≠ (.slice Ao153 y310.length co153 : Value).ownBlock ∧ some k_ ≠ (.slice Ao154 y313.length co154 : Value).ownBlock ∧ k_ ≠ gb299 ∧ k_ ≠ gb300 ∧ k_ ≠ gb301)) (HO_300001.out) (fun k_ hk => ⟨hk.1.1.1, ⟨hk.1.2, ⟨hk.2, ⟨hk.1.1.2.1, ⟨hk.1.1.2.2.1, hk.1.1.2.2.2⟩⟩⟩⟩⟩))).2.1 (Kd.V_F (Kd.V_mono (ok' := (fun k_ => ((P0_1_ k_ ∨ P1_1_ k_ ∨ P2_1_ k_) ∨ w.heap.size ≤ k_) ∧ some k_ ≠ (.slice Ao153 y310.length co153 : Value).ownBlock ∧ some k_ ≠ (.slice Ao154 y313.length co154 : Value).ownBlock ∧ k_ ≠ gb299 ∧ k_ ≠ gb300 ∧ k_ ≠ gb301)) (HO_300001.out) (fun k_ hk => ⟨hk.1.1.1, ⟨hk.1.2, ⟨hk.2, ⟨hk.1.1.2.1, ⟨hk.1.1.2.2.1, hk.1.1.2.2.2⟩⟩⟩⟩⟩))))) (Reps.none _ _)))); intro v318 w158 ho159 hb hg_ hnew_; clear hg_ hnew_; (first | rw [← Ny317.out] at ho159 | (simp only [Int.reduceToNat] at ho159; rw [← Ny317.out] at ho159)); replace HO_300001 := Aside0.mk (Kd.V_elder' (kV_ HO_300001) (by first | exact Kd.N_base ho159 | exact Kd.S_base ho159 | exact Kd.R_base ho159) hb); replace HO_301001 := Aside0.mk (Kd.V_elder' (kV_ HO_301001) (by first | exact Kd.N_base ho159 | exact Kd.S_base ho159 | exact Kd.R_base ho159) hb); replace HO_302001 := Aside0.mk (Kd.V_elder' (kV_ HO_302001) (by first | exact Kd.N_base ho159 | exact Kd.S_base ho159 | exact Kd.R_base ho159) hb); replace HO312 := Aside0.mk (Kd.N_elder' (kN_ HO312) (by first | exact Kd.N_base ho159 | exact Kd.S_base ho159 | exact Kd.R_base ho159) hb); replace HO315 := Aside0.mk (Kd.N_elder' (kN_ HO315) (by first | exact Kd.N_base ho159 | exact Kd.S_base ho159 | exact Kd.R_base ho159) hb); have HO319 := Aside0.mk (Kd.N_lower ho159 (below_size (be_ HB))); replace BK299 := bb_ (bu_ BK299) hb; replace BK300 := bb_ (bu_ BK300) hb; replace BK301 := bb_ (bu_ BK301) hb; replace HB := bs_ (be_ HB) hb; clear hb ho159; have hcz160_0 : w158.cell? ⟨gb301, 0, none⟩ = some (.string a2_0) := (blk_cell BK301.out 0).trans rfl; have hcz160_1 : w158.cell? ⟨gb301, 1, none⟩ = some (.slice A2_1 l2_1.length c2_1) := (blk_cell BK301.out 1).trans rfl; have hfz160_0 := blk_frozen BK301.out 0; have hfz160_1 := blk_frozen BK301.out 1; have hcz161_0 : w158.cell? ⟨gb300, 0, none⟩ = some (.string a1_0) := (blk_cell BK300.out 0).trans rfl; have hcz161_1 : w158.cell? ⟨gb300, 1, none⟩ = some (.slice A1_1 l1_1.length c1_1) := (blk_cell BK300.out 1).trans rfl; have hfz161_0 := blk_frozen BK300.out 0; have hfz161_1 := blk_frozen BK300.out 1) | ((with_reducible refine gate_dst (N := 84) rfl ?_); (try (refine gate_guard (by rfl) ?_; dsimp only)); refine Kd.N_lit k24 _ 24 ?hg (N' := 84) ?hd (xs := ([(⟨a2_0, l2_1⟩ : S24), (⟨a1_0, l1_1⟩ : S24)] : List (S24))) (inner := [.string a2_0, .slice A2_1 l2_1.length c2_1, .string a1_0, .slice A1_1 l1_1.length c1_1]) (ok := (fun k_ => ((P0_1_ k_ ∨ P1_1_ k_ ∨ P2_1_ k_) ∨ w.heap.size ≤ k_) ∧ some k_ ≠ (.slice Ao153 y310.length co153 : Value).ownBlock ∧ some k_ ≠ (.slice Ao154 y313.length co154 : Value).ownBlock ∧ some k_ ≠ (v318 : Value).ownBlock ∧ k_ ≠ gb299 ∧ k_ ≠ gb300 ∧ k_ ≠ gb301)) (okp := (fun k_ => ((P0_1_ k_ ∨ P1_1_ k_ ∨ P2_1_ k_) ∨ w.heap.size ≤ k_) ∧ some k_ ≠ (.slice Ao153 y310.length co153 : Value).ownBlock ∧ some k_ ≠ (.slice Ao154 y313.length co154 : Value).ownBlock ∧ some k_ ≠ (v318 : Value).ownBlock ∧ k_ ≠ gb299 ∧ k_ ≠ gb300 ∧ k_ ≠ gb301)) ?hr ?hp (fun _ hk => hk) ((show ∀ k_, w158.heap.size ≤ k_ → (fun k_ => ((P0_1_ k_ ∨ P1_1_ k_ ∨ P2_1_ k_) ∨ w.heap.size ≤ k_) ∧ some k_ ≠ (.slice Ao153 y310.length co153 : Value).ownBlock ∧ some k_ ≠ (.slice Ao154 y313.length co154 : Value).ownBlock ∧ some k_ ≠ (v318 : Value).ownBlock ∧ k_ ≠ gb299 ∧ k_ ≠ gb300 ∧ k_ ≠ gb301) k_ from fun k_ hk => ⟨(.inr (Nat.le_trans (below_size (be_ HB)) hk)), Kd.fresh' (Kd.N_lt (kN_ HO312)) k_ hk, Kd.fresh' (Kd.N_lt (kN_ HO315)) k_ hk, Kd.fresh' (Kd.N_lt (kN_ HO319)) k_ hk, Kd.freshB (bu_ BK299) k_ hk, Kd.freshB (bu_ BK300) k_ hk, Kd.freshB (bu_ BK301) k_ hk⟩) _ (Nat.le_refl _)) (Below.refl _ _) (Nat.le_refl _) (by simp) ?_; (case hd => rfl); (case hg => rfl); (case hr => first | (go_simp; done) | (go_simp; rfl)); (case hp => exact (Reps.c2 (show Kd.FK k24 _ _ (⟨a2_0, l2_1⟩ : S24) [.string a2_0, .slice A2_1 l2_1.length c2_1] from (k24_mkF _ _ (⟨a2_0, l2_1⟩ : S24) (Kd.V_reads' (Kd.V_mono (ok' := (fun k_ => ((P0_1_ k_ ∨ P1_1_ k_ ∨ P2_1_ k_) ∨ w.heap.size ≤ k_) ∧ some k_ ≠ (.slice Ao153 y310.length co153 : Value).ownBlock ∧ some k_ ≠ (.slice Ao154 y313.length co154 : Value).ownBlock ∧ some k_ ≠ (v318 : Value).ownBlock ∧ k_ ≠ gb299 ∧ k_ ≠ gb300 ∧ k_ ≠ gb301)) (HO_302001.out) (fun k_ hk => ⟨hk.1.1.1.1, ⟨hk.1.1.2, ⟨hk.1.2, ⟨hk.2, ⟨hk.1.1.1.2.1, ⟨hk.1.1.1.2.2.1, hk.1.1.1.2.2.2⟩⟩⟩⟩⟩⟩))).2.1 (Kd.V_F (Kd.V_mono (ok' := (fun k_ => ((P0_1_ k_ ∨ P1_1_ k_ ∨ P2_1_ k_) ∨ w.heap.size ≤ k_) ∧ some k_ ≠ (.slice Ao153 y310.length co153 : Value).ownBlock ∧ some k_ ≠ (.slice Ao154 y313.length co154 : Value).ownBlock ∧ some k_ ≠ (v318 : Value).ownBlock ∧ k_ ≠ gb299 ∧ k_ ≠ gb300 ∧ k_ ≠ gb301)) (HO_302001.out) (fun k_ hk => ⟨hk.1.1.1.1, ⟨hk.1.1.2, ⟨hk.1.2, ⟨hk.2, ⟨hk.1.1.1.2.1, ⟨hk.1.1.1.2.2.1, hk.1.1.1.2.2.2⟩⟩⟩⟩⟩⟩))))) (Reps.c2 (show Kd.FK k24 _ _ (⟨a1_0, l1_1⟩ : S24) [.string a1_0, .slice A1_1 l1_1.length c1_1] from (k24_mkF _ _ (⟨a1_0, l1_1⟩ : S24) (Kd.V_reads' (Kd.V_mono (ok' := (fun k_ => ((P0_1_ k_ ∨ P1_1_ k_ ∨ P2_1_ k_) ∨ w.heap.size ≤ k_) ∧ some k_ ≠ (.slice Ao153 y310.length co153 : Value).ownBlock ∧ some k_ ≠ (.slice Ao154 y313.length co154 : Value).ownBlock ∧ some k_ ≠ (v318 : Value).ownBlock ∧ k_ ≠ gb299 ∧ k_ ≠ gb300 ∧ k_ ≠ gb301)) (HO_301001.out) (fun k_ hk => ⟨hk.1.1.1.1, ⟨hk.1.1.2, ⟨hk.1.2, ⟨hk.2, ⟨hk.1.1.1.2.1, ⟨hk.1.1.1.2.2.1, hk.1.1.1.2.2.2⟩⟩⟩⟩⟩⟩))).2.1 (Kd.V_F (Kd.V_mono (ok' := (fun k_ => ((P0_1_ k_ ∨ P1_1_ k_ ∨ P2_1_ k_) ∨ w.heap.size ≤ k_) ∧ some k_ ≠ (.slice Ao153 y310.length co153 : Value).ownBlock ∧ some k_ ≠ (.slice Ao154 y313.length co154 : Value).ownBlock ∧ some k_ ≠ (v318 : Value).ownBlock ∧ k_ ≠ gb299 ∧ k_ ≠ gb300 ∧ k_ ≠ gb301)) (HO_301001.out) (fun k_ hk => ⟨hk.1.1.1.1, ⟨hk.1.1.2, ⟨hk.1.2, ⟨hk.2, ⟨hk.1.1.1.2.1, ⟨hk.1.1.1.2.2.1, hk.1.1.1.2.2.2⟩⟩⟩⟩⟩⟩))))) (Reps.none _ _)))); intro v321 w162 ho163 hb hg_ hnew_; clear hg_ hnew_; (first | rw [← Ny320.out] at ho163 | (simp only [Int.reduceToNat] at ho163; rw [← Ny320.out] at ho163)); replace HO_300001 := Aside0.mk (Kd.V_elder' (kV_ HO_300001) (by first | exact Kd.N_base ho163 | exact Kd.S_base ho163 | exact Kd.R_base ho163) hb); replace HO_301001 := Aside0.mk (Kd.V_elder' (kV_ HO_301001) (by first | exact Kd.N_base ho163 | exact Kd.S_base ho163 | exact Kd.R_base ho163) hb); replace HO_302001 := Aside0.mk (Kd.V_elder' (kV_ HO_302001) (by first | exact Kd.N_base ho163 | exact Kd.S_base ho163 | exact Kd.R_base ho163) hb); replace HO312 := Aside0.mk (Kd.N_elder' (kN_ HO312) (by first | exact Kd.N_base ho163 | exact Kd.S_base ho163 | exact Kd.R_base ho163) hb); replace HO315 := Aside0.mk (Kd.N_elder' (kN_ HO315) (by first | exact Kd.N_base ho163 | exact Kd.S_base ho163 | exact Kd.R_base ho163) hb); replace HO319 := Aside0.mk (Kd.N_elder' (kN_ HO319) (by first | exact Kd.N_base ho163 | exact Kd.S_base ho163 | exact Kd.R_base ho163) hb); have HO322 := Aside0.mk (Kd.N_lower ho163 (below_size (be_ HB))); replace BK299 := bb_ (bu_ BK299) hb; replace BK300 := bb_ (bu_ BK300) hb; replace BK301 := bb_ (bu_ BK301) hb; replace HB := bs_ (be_ HB) hb; clear hb ho163; obtain ⟨Ao164, co164, eo164⟩ := Kd.N_slice HO319.out; subst eo164; obtain ⟨Ao165, co165, eo165⟩ := Kd.N_slice HO322.out; subst eo165) | ((with_reducible refine gate_callee (f := 19) rfl ?_); refine goesL_ (some 85) rfl rfl Tryd.func19 (by kernel_rfl) rfl #[.slice Ao164 y317.length co164, .slice Ao165 y320.length co165] rfl ga_ ?_; (with_reducible refine (fact_Lists.calls kj36 _ _ y317 _ _ y320 t323 _ ?side1 ?side2 ?side3 ?side4 A142.out).mono ?_); (case side1 => exact kd_ ((Kd.N_reads' HO319.out).2.2)); (case side2 => exact (Kd.N_reads' HO319.out).2.1); (case side3 => exact kd_ ((Kd.N_reads' HO322.out).2.2)); (case side4 => exact (Kd.N_reads' HO322.out).2.1); rintro e w166 ⟨rfl, hb⟩; refine ⟨_, rfl, ?_⟩; replace HO_300001 := bV_ HO_300001 hb; replace HO_301001 := bV_ HO_301001 hb; replace HO_302001 := bV_ HO_302001 hb; replace HO312 := bN_ HO312 hb; replace HO315 := bN_ HO315 hb; replace HO319 := bN_ HO319 hb; replace HO322 := bN_ HO322 hb; replace BK299 := bb_ (bu_ BK299) hb; replace BK300 := bb_ (bu_ BK300) hb; replace BK301 := bb_ (bu_ BK301) hb; replace HB := bs_ (be_ HB) hb; (try clear hb); (try clear hb2); (try clear hk); (try clear hi)))
       (try simp only [Act.put, List.setIfInBounds_toArray, List.set_cons_zero, List.set_cons_succ])
       go_cut [102] (fun v102 wc => ∃ (kq : Nat) (x102_142 : Bool), v102 = .bool x102_142 ∧ Aside0 (constablelaw03_FactOrder.j2 kq x102_142 a0_0 l0_1 a1_0 l1_1 = some r) ∧ Aside0 (kq ≤ kj36) ∧ Aside0 (Kd.V k44 44 wc w.heap.size (fun k_ => ((P0_1_ k_ ∨ P1_1_ k_ ∨ P2_1_ k_) ∨ w.heap.size ≤ k_) ∧ k_ ≠ gb299 ∧ k_ ≠ gb300 ∧ k_ ≠ gb301) (.slice A0_1 l0_1.length c0_1) l0_1) ∧ Aside0 (Kd.V k44 44 wc w.heap.size (fun k_ => ((P0_1_ k_ ∨ P1_1_ k_ ∨ P2_1_ k_) ∨ w.heap.size ≤ k_) ∧ k_ ≠ gb299 ∧ k_ ≠ gb300 ∧ k_ ≠ gb301) (.slice A1_1 l1_1.length c1_1) l1_1) ∧ Aside0 (Kd.V k44 44 wc w.heap.size (fun k_ => ((P0_1_ k_ ∨ P1_1_ k_ ∨ P2_1_ k_) ∨ w.heap.size ≤ k_) ∧ k_ ≠ gb299 ∧ k_ ≠ gb300 ∧ k_ ≠ gb301) (.slice A2_1 l2_1.length c2_1) l2_1) ∧ Aside0 (wc.heap[gb299]? = some (.cells #[.string a0_0, (.slice A0_1 l0_1.length c0_1)] 24 (0, 0))) ∧ Aside0 (wc.heap[gb300]? = some (.cells #[.string a1_0, (.slice A1_1 l1_1.length c1_1)] 24 (0, 0))) ∧ Aside0 (wc.heap[gb301]? = some (.cells #[.string a2_0, (.slice A2_1 l2_1.length c2_1)] 24 (0, 0))) ∧ Aside0 (Below w.heap.size w wc))
       case first =>
        have H := HC143.out
        clear HC143
        by_cases c167 : t316 = t305
        ·rw [if_pos c167] at H
         obtain ⟨c167b0, c167b1⟩ := eqB_ c167
         clear c167
         (first | rw [c167b0] | (simp only [i64_w, i32_w]; rw [c167b0]) | skip)
         by_cases c168 : t323 = t305
         ·rw [if_pos c168] at H
          obtain ⟨c168b0, c168b1⟩ := eqB_ c168
          clear c168
          obtain ⟨y324, hy324⟩ : ∃ y_ : List (S24), y_ = (([(⟨a0_0, l0_1⟩ : S24)] : List (S24))) := ⟨_, rfl⟩
          replace H : ((fact_Lists.f kj36 y324 (([(⟨a0_0, l0_1⟩ : S24), (⟨a1_0, l1_1⟩ : S24)] : List (S24)))).bind fun t330 => (constablelaw03_FactOrder.j2 kj36 (t330 != (-1)) a0_0 l0_1 a1_0 l1_1)) = some r := by first | (rw [hy324]; with_reducible exact H) | (have H2_ := (Option.bind_some _ _).symm.trans H; rw [hy324]; with_reducible exact H2_) | (have H2_ := (Option.bind_some _ _).symm.trans H; with_reducible exact H2_) | with_reducible exact H | (rw [hy324]; exact H) | exact H
          have Ny324 := Aside0.mk hy324
          clear hy324
          obtain ⟨y327, hy327⟩ : ∃ y_ : List (S24), y_ = (([(⟨a0_0, l0_1⟩ : S24), (⟨a1_0, l1_1⟩ : S24)] : List (S24))) := ⟨_, rfl⟩
          replace H : ((fact_Lists.f kj36 y324 y327).bind fun t330 => (constablelaw03_FactOrder.j2 kj36 (t330 != (-1)) a0_0 l0_1 a1_0 l1_1)) = some r := by first | (rw [hy327]; with_reducible exact H) | (have H2_ := (Option.bind_some _ _).symm.trans H; rw [hy327]; with_reducible exact H2_) | (have H2_ := (Option.bind_some _ _).symm.trans H; with_reducible exact H2_) | with_reducible exact H | (rw [hy327]; exact H) | exact H
          have Ny327 := Aside0.mk hy327
          clear hy327
          replace H := Option.bind_eq_some_iff.mp H
          obtain ⟨t330, A1690, H⟩ := H
          try dsimp only at H
          have A169 := Aside0.mk A1690
          clear A1690
          have H' := Aside0.mk H
          clear H
          have hnb170 := NB299_300.out
          have hnc170 := NB300_299.out
          have hnb171 := NB299_301.out
          have hnc171 := NB301_299.out
          have hcz172_0 : w166.cell? ⟨gb299, 0, none⟩ = some (.string a0_0) := (blk_cell BK299.out 0).trans rfl
          have hcz172_1 : w166.cell? ⟨gb299, 1, none⟩ = some (.slice A0_1 l0_1.length c0_1) := (blk_cell BK299.out 1).trans rfl
          have hfz172_0 := blk_frozen BK299.out 0
          have hfz172_1 := blk_frozen BK299.out 1
          go_wp2_with (first | ((with_reducible refine gate_dst (N := 96) rfl ?_); (try (refine gate_guard (by rfl) ?_; dsimp only)); refine Kd.N_lit k24 _ 24 ?hg (N' := 96) ?hd (xs := ([(⟨a0_0, l0_1⟩ : S24)] : List (S24))) (inner := [.string a0_0, .slice A0_1 l0_1.length c0_1]) (ok := (fun k_ => ((P0_1_ k_ ∨ P1_1_ k_ ∨ P2_1_ k_) ∨ w.heap.size ≤ k_) ∧ some k_ ≠ (.slice Ao153 y310.length co153 : Value).ownBlock ∧ some k_ ≠ (.slice Ao154 y313.length co154 : Value).ownBlock ∧ some k_ ≠ (.slice Ao164 y317.length co164 : Value).ownBlock ∧ some k_ ≠ (.slice Ao165 y320.length co165 : Value).ownBlock ∧ k_ ≠ gb299 ∧ k_ ≠ gb300 ∧ k_ ≠ gb301)) (okp := (fun k_ => ((P0_1_ k_ ∨ P1_1_ k_ ∨ P2_1_ k_) ∨ w.heap.size ≤ k_) ∧ some k_ ≠ (.slice Ao153 y310.length co153 : Value).ownBlock ∧ some k_ ≠ (.slice Ao154 y313.length co154 : Value).ownBlock ∧ some k_ ≠ (.slice Ao164 y317.length co164 : Value).ownBlock ∧ some k_ ≠ (.slice Ao165 y320.length co165 : Value).ownBlock ∧ k_ ≠ gb299 ∧ k_ ≠ gb300 ∧ k_ ≠ gb301)) ?hr ?hp (fun _ hk => hk) ((show ∀ k_, w166.heap.size ≤ k_ → (fun k_ => ((P0_1_ k_ ∨ P1_1_ k_ ∨ P2_1_ k_) ∨ w.heap.size ≤ k_) ∧ some k_ ≠ (.slice Ao153 y310.length co153 : Value).ownBlock ∧ some k_ ≠ (.slice Ao154 y313.length co154 : Value).ownBlock ∧ some k_ ≠ (.slice Ao164 y317.length co164 : Value).ownBlock ∧ some k_ ≠ (.slice Ao165 y320.length co165 : Value).ownBlock ∧ k_ ≠ gb299 ∧ k_ ≠ gb300 ∧ k_ ≠ gb301) k_ from fun k_ hk => ⟨(.inr (Nat.le_trans (below_size (be_ HB)) hk)), Kd.fresh' (Kd.N_lt (kN_ HO312)) k_ hk, Kd.fresh' (Kd.N_lt (kN_ HO315)) k_ hk, Kd.fresh' (Kd.N_lt (kN_ HO319)) k_ hk, Kd.fresh' (Kd.N_lt (kN_ HO322)) k_ hk, Kd.freshB (bu_ BK299) k_ hk, Kd.freshB (bu_ BK300) k_ hk, Kd.freshB (bu_ BK301) k_ hk⟩) _ (Nat.le_refl _)) (Below.refl _ _) (Nat.le_refl _) (by simp) ?_; (case hd => rfl); (case hg => rfl); (case hr => first | (go_simp; done) | (go_simp; rfl)); (case hp => exact (Reps.c2 (show Kd.FK k24 _ _ (⟨a0_0, l0_1⟩ : S24) [.string a0_0, .slice A0_1 l0_1.length c0_1] from (k24_mkF _ _ (⟨a0_0, l0_1⟩ : S24) (Kd.V_reads' (Kd.V_mono (ok' := (fun k_ => ((P0_1_ k_ ∨ P1_1_ k_ ∨ P2_1_ k_) ∨ w.heap.size ≤ k_) ∧ some k_ ≠ (.slice Ao153 y310.length co153 : Value).ownBlock ∧ some k_ ≠ (.slice Ao154 y313.length co154 : Value).ownBlock ∧ some k_ ≠ (.slice Ao164 y317.length co164 : Value).ownBlock ∧ some k_ ≠ (.slice Ao165 y320.length co165 : Value).ownBlock ∧ k_ ≠ gb299 ∧ k_ ≠ gb300 ∧ k_ ≠ gb301)) (HO_300001.out) (fun k_ hk => ⟨hk.1.1.1.1.1, ⟨hk.1.1.1.2, ⟨hk.1.1.2, ⟨hk.1.2, ⟨hk.2, ⟨hk.1.1.1.1.2.1, ⟨hk.1.1.1.1.2.2.1, hk.1.1.1.1.2.2.2⟩⟩⟩⟩⟩⟩⟩))).2.1 (Kd.V_F (Kd.V_mono (ok' := (fun k_ => ((P0_1_ k_ ∨ P1_1_ k_ ∨ P2_1_ k_) ∨ w.heap.size ≤ k_) ∧ some k_ ≠ (.slice Ao153 y310.length co153 : Value).ownBlock ∧ some k_ ≠ (.slice Ao154 y313.length co154 : Value).ownBlock ∧ some k_ ≠ (.slice Ao164 y317.length co164 : Value).ownBlock ∧ some k_ ≠ (.slice Ao165 y320.length co165 : Value).ownBlock ∧ k_ ≠ gb299 ∧ k_ ≠ gb300 ∧ k_ ≠ gb301)) (HO_300001.out) (fun k_ hk => ⟨hk.1.1.1.1.1, ⟨hk.1.1.1.2, ⟨hk.1.1.2, ⟨hk.1.2, ⟨hk.2, ⟨hk.1.1.1.1.2.1, ⟨hk.1.1.1.1.2.2.1, hk.1.1.1.1.2.2.2⟩⟩⟩⟩⟩⟩⟩))))) (Reps.none _ _))); intro v325 w173 ho174 hb hg_ hnew_; clear hg_ hnew_; (first | rw [← Ny324.out] at ho174 | (simp only [Int.reduceToNat] at ho174; rw [← Ny324.out] at ho174)); replace HO_300001 := Aside0.mk (Kd.V_elder' (kV_ HO_300001) (by first | exact Kd.N_base ho174 | exact Kd.S_base ho174 | exact Kd.R_base ho174) hb); replace HO_301001 := Aside0.mk (Kd.V_elder' (kV_ HO_301001) (by first | exact Kd.N_base ho174 | exact Kd.S_base ho174 | exact Kd.R_base ho174) hb); replace HO_302001 := Aside0.mk (Kd.V_elder' (kV_ HO_302001) (by first | exact Kd.N_base ho174 | exact Kd.S_base ho174 | exact Kd.R_base ho174) hb); replace HO312 := Aside0.mk (Kd.N_elder' (kN_ HO312) (by first | exact Kd.N_base ho174 | exact Kd.S_base ho174 | exact Kd.R_base ho174) hb); replace HO315 := Aside0.mk (Kd.N_elder' (kN_ HO315) (by first | exact Kd.N_base ho174 | exact Kd.S_base ho174 | exact Kd.R_base ho174) hb); replace HO319 := Aside0.mk (Kd.N_elder' (kN_ HO319) (by first | exact Kd.N_base ho174 | exact Kd.S_base ho174 | exact Kd.R_base ho174) hb); replace HO322 := Aside0.mk (Kd.N_elder' (kN_ HO322) (by first | exact Kd.N_base ho174 | exact Kd.S_base ho174 | exact Kd.R_base ho174) hb); have HO326 := Aside0.mk (Kd.N_lower ho174 (below_size (be_ HB))); replace BK299 := bb_ (bu_ BK299) hb; replace BK300 := bb_ (bu_ BK300) hb; replace BK301 := bb_ (bu_ BK301) hb; replace HB := bs_ (be_ HB) hb; clear hb ho174; have hcz175_0 : w173.cell? ⟨gb299, 0, none⟩ = some (.string a0_0) := (blk_cell BK299.out 0).trans rfl; have hcz175_1 : w173.cell? ⟨gb299, 1, none⟩ = some (.slice A0_1 l0_1.length c0_1) := (blk_cell BK299.out 1).trans rfl; have hfz175_0 := blk_frozen BK299.out 0; have hfz175_1 := blk_frozen BK299.out 1; have hnb176 := NB300_301.out; have hnc176 := NB301_300.out; have hcz177_0 : w173.cell? ⟨gb300, 0, none⟩ = some (.string a1_0) := (blk_cell BK300.out 0).trans rfl; have hcz177_1 : w173.cell? ⟨gb300, 1, none⟩ = some (.slice A1_1 l1_1.length c1_1) := (blk_cell BK300.out 1).trans rfl; have hfz177_0 := blk_frozen BK300.out 0; have hfz177_1 := blk_frozen BK300.out 1) | ((with_reducible refine gate_dst (N := 99) rfl ?_); (try (refine gate_guard (by rfl) ?_; dsimp only)); refine Kd.N_lit k24 _ 24 ?hg (N' := 99) ?hd (xs := ([(⟨a0_0, l0_1⟩ : S24), (⟨a1_0, l1_1⟩ : S24)] : List (S24))) (inner := [.string a0_0, .slice A0_1 l0_1.length c0_1, .string a1_0, .slice A1_1 l1_1.length c1_1]) (ok := (fun k_ => ((P0_1_ k_ ∨ P1_1_ k_ ∨ P2_1_ k_) ∨ w.heap.size ≤ k_) ∧ some k_ ≠ (.slice Ao153 y310.length co153 : Value).ownBlock ∧ some k_ ≠ (.slice Ao154 y313.length co154 : Value).ownBlock ∧ some k_ ≠ (.slice Ao164 y317.length co164 : Value).ownBlock ∧ some k_ ≠ (.slice Ao165 y320.length co165 : Value).ownBlock ∧ some k_ ≠ (v325 : Value).ownBlock ∧ k_ ≠ gb299 ∧ k_ ≠ gb300 ∧ k_ ≠ gb301)) (okp := (fun k_ => ((P0_1_ k_ ∨ P1_1_ k_ ∨ P2_1_ k_) ∨ w.heap.size ≤ k_) ∧ some k_ ≠ (.slice Ao153 y310.length co153 : Value).ownBlock ∧ some k_ ≠ (.slice Ao154 y313.length co154 : Value).ownBlock ∧ some k_ ≠ (.slice Ao164 y317.length co164 : Value).ownBlock ∧ some k_ ≠ (.slice Ao165 y320.length co165 : Value).ownBlock ∧ some k_ ≠ (v325 : Value).ownBlock ∧ k_ ≠ gb299 ∧ k_ ≠ gb300 ∧ k_ ≠ gb301)) ?hr ?hp (fun _ hk => hk) ((show ∀ k_, w173.heap.size ≤ k_ → (fun k_ => ((P0_1_ k_ ∨ P1_1_ k_ ∨ P2_1_ k_) ∨ w.heap.size ≤ k_) ∧ some k_ ≠ (.slice Ao153 y310.length co153 : Value).ownBlock ∧ some k_ ≠ (.slice Ao154 y313.length co154 : Value).ownBlock ∧ some k_ ≠ (.slice Ao164 y317.length co164 : Value).ownBlock ∧ some k_ ≠ (.slice Ao165 y320.length co165 : Value).ownBlock ∧ some k_ ≠ (v325 : Value).ownBlock ∧ k_ ≠ gb299 ∧ k_ ≠ gb300 ∧ k_ ≠ gb301) k_ from fun k_ hk => ⟨(.inr (Nat.le_trans (below_size (be_ HB)) hk)), Kd.fresh' (Kd.N_lt (kN_ HO312)) k_ hk, Kd.fresh' (Kd.N_lt (kN_ HO315)) k_ hk, Kd.fresh' (Kd.N_lt (kN_ HO319)) k_ hk, Kd.fresh' (Kd.N_lt (kN_ HO322)) k_ hk, Kd.fresh' (Kd.N_lt (kN_ HO326)) k_ hk, Kd.freshB (bu_ BK299) k_ hk, Kd.freshB (bu_ BK300) k_ hk, Kd.freshB (bu_ BK301) k_ hk⟩) _ (Nat.le_refl _)) (Below.refl _ _) (Nat.le_refl _) (by simp) ?_; (case hd => rfl); (case hg => rfl); (case hr => first | (go_simp; done) | (go_simp; rfl)); (case hp => exact (Reps.c2 (show Kd.FK k24 _ _ (⟨a0_0, l0_1⟩ : S24) [.string a0_0, .slice A0_1 l0_1.length c0_1] from (k24_mkF _ _ (⟨a0_0, l0_1⟩ : S24) (Kd.V_reads' (Kd.V_mono (ok' := (fun k_ => ((P0_1_ k_ ∨ P1_1_ k_ ∨ P2_1_ k_) ∨ w.heap.size ≤ k_) ∧ some k_ ≠ (.slice Ao153 y310.length co153 : Value).ownBlock ∧ some k_ ≠ (.slice Ao154 y313.length co154 : Value).ownBlock ∧ some k_ ≠ (.slice Ao164 y317.length co164 : Value).ownBlock ∧ some k_ ≠ (.slice Ao165 y320.length co165 : Value).ownBlock ∧ some k_ ≠ (v325 : Value).ownBlock ∧ k_ ≠ gb299 ∧ k_ ≠ gb300 ∧ k_ ≠ gb301)) (HO_300001.out) (fun k_ hk => ⟨hk.1.1.1.1.1.1, ⟨hk.1.1.1.1.2, ⟨hk.1.1.1.2, ⟨hk.1.1.2, ⟨hk.1.2, ⟨hk.2, ⟨hk.1.1.1.1.1.2.1, ⟨hk.1.1.1.1.1.2.2.1, hk.1.1.1.1.1.2.2.2⟩⟩⟩⟩⟩⟩⟩⟩))).2.1 (Kd.V_F (Kd.V_mono (ok' := (fun k_ => ((P0_1_ k_ ∨ P1_1_ k_ ∨ P2_1_ k_) ∨ w.heap.size ≤ k_) ∧ some k_ ≠ (.slice Ao153 y310.length co153 : Value).ownBlock ∧ some k_ ≠ (.slice Ao154 y313.length co154 : Value).ownBlock ∧ some k_ ≠ (.slice Ao164 y317.length co164 : Value).ownBlock ∧ some k_ ≠ (.slice Ao165 y320.length co165 : Value).ownBlock ∧ some k_ ≠ (v325 : Value).ownBlock ∧ k_ ≠ gb299 ∧ k_ ≠ gb300 ∧ k_ ≠ gb301)) (HO_300001.out) (fun k_ hk => ⟨hk.1.1.1.1.1.1, ⟨hk.1.1.1.1.2, ⟨hk.1.1.1.2, ⟨hk.1.1.2, ⟨hk.1.2, ⟨hk.2, ⟨hk.1.1.1.1.1.2.1, ⟨hk.1.1.1.1.1.2.2.1, hk.1.1.1.1.1.2.2.2⟩⟩⟩⟩⟩⟩⟩⟩))))) (Reps.c2 (show Kd.FK k24 _ _ (⟨a1_0, l1_1⟩ : S24) [.string a1_0, .slice A1_1 l1_1.length c1_1] from (k24_mkF _ _ (⟨a1_0, l1_1⟩ : S24) (Kd.V_reads' (Kd.V_mono (ok' := (fun k_ => ((P0_1_ k_ ∨ P1_1_ k_ ∨ P2_1_ k_) ∨ w.heap.size ≤ k_) ∧ some k_ ≠ (.slice Ao153 y310.length co153 : Value).ownBlock ∧ some k_ ≠ (.slice Ao154 y313.length co154 : Value).ownBlock ∧ some k_ ≠ (.slice Ao164 y317.length co164 : Value).ownBlock ∧ some k_ ≠ (.slice Ao165 y320.length co165 : Value).ownBlock ∧ some k_ ≠ (v325 : Value).ownBlock ∧ k_ ≠ gb299 ∧ k_ ≠ gb300 ∧ k_ ≠ gb301)) (HO_301001.out) (fun k_ hk => ⟨hk.1.1.1.1.1.1, ⟨hk.1.1.1.1.2, ⟨hk.1.1.1.2, ⟨hk.1.1.2, ⟨hk.1.2, ⟨hk.2, ⟨hk.1.1.1.1.1.2.1, ⟨hk.1.1.1.1.1.2.2.1, hk.1.1.1.1.1.2.2.2⟩⟩⟩⟩⟩⟩⟩⟩))).2.1 (Kd.V_F (Kd.V_mono (ok' := (fun k_ => ((P0_1_ k_ ∨ P1_1_ k_ ∨ P2_1_ k_) ∨ w.heap.size ≤ k_) ∧ some k_ ≠ (.slice Ao153 y310.length co153 : Value).ownBlock ∧ some k_ ≠ (.slice Ao154 y313.length co154 : Value).ownBlock ∧ some k_ ≠ (.slice Ao164 y317.length co164 : Value).ownBlock ∧ some k_ ≠ (.slice Ao165 y320.length co165 : Value).ownBlock ∧ some k_ ≠ (v325 : Value).ownBlock ∧ k_ ≠ gb299 ∧ k_ ≠ gb300 ∧ k_ ≠ gb301)) (HO_301001.out) (fun k_ hk => ⟨hk.1.1.1.1.1.1, ⟨hk.1.1.1.1.2, ⟨hk.1.1.1.2, ⟨hk.1.1.2, ⟨hk.1.2, ⟨hk.2, ⟨hk.1.1.1.1.1.2.1, ⟨hk.1.1.1.1.1.2.2.1, hk.1.1.1.1.1.2.2.2⟩⟩⟩⟩⟩⟩⟩⟩))))) (Reps.none _ _)))); intro v328 w178 ho179 hb hg_ hnew_; clear hg_ hnew_; (first | rw [← Ny327.out] at ho179 | (simp only [Int.reduceToNat] at ho179; rw [← Ny327.out] at ho179)); replace HO_300001 := Aside0.mk (Kd.V_elder' (kV_ HO_300001) (by first | exact Kd.N_base ho179 | exact Kd.S_base ho179 | exact Kd.R_base ho179) hb); replace HO_301001 := Aside0.mk (Kd.V_elder' (kV_ HO_301001) (by first | exact Kd.N_base ho179 | exact Kd.S_base ho179 | exact Kd.R_base ho179) hb); replace HO_302001 := Aside0.mk (Kd.V_elder' (kV_ HO_302001) (by first | exact Kd.N_base ho179 | exact Kd.S_base ho179 | exact Kd.R_base ho179) hb); replace HO312 := Aside0.mk (Kd.N_elder' (kN_ HO312) (by first | exact Kd.N_base ho179 | exact Kd.S_base ho179 | exact Kd.R_base ho179) hb); replace HO315 := Aside0.mk (Kd.N_elder' (kN_ HO315) (by first | exact Kd.N_base ho179 | exact Kd.S_base ho179 | exact Kd.R_base ho179) hb); replace HO319 := Aside0.mk (Kd.N_elder' (kN_ HO319) (by first | exact Kd.N_base ho179 | exact Kd.S_base ho179 | exact Kd.R_base ho179) hb); replace HO322 := Aside0.mk (Kd.N_elder' (kN_ HO322) (by first | exact Kd.N_base ho179 | exact Kd.S_base ho179 | exact Kd.R_base ho179) hb); replace HO326 := Aside0.mk (Kd.N_elder' (kN_ HO326) (by first | exact Kd.N_base ho179 | exact Kd.S_base ho179 | exact Kd.R_base ho179) hb); have HO329 := Aside0.mk (Kd.N_lower ho179 (below_size (be_ HB))); replace BK299 := bb_ (bu_ BK299) hb; replace BK300 := bb_ (bu_ BK300) hb; replace BK301 := bb_ (bu_ BK301) hb; replace HB := bs_ (be_ HB) hb; clear hb ho179; obtain ⟨Ao180, co180, eo180⟩ := Kd.N_slice HO326.out; subst eo180; obtain ⟨Ao181, co181, eo181⟩ := Kd.N_slice HO329.out; subst eo181) | (go_at_call 19; (with_reducible refine (fact_Lists.calls kj36 _ _ y324 _ _ y327 t330 _ ?side1 ?side2 ?side3 ?side4 A169.out).mono ?_); (case side1 => exact kd_ ((Kd.N_reads' HO326.out).2.2)); (case side2 => exact (Kd.N_reads' HO326.out).2.1); (case side3 => exact kd_ ((Kd.N_reads' HO329.out).2.2)); (case side4 => exact (Kd.N_reads' HO329.out).2.1); rintro e w182 ⟨rfl, hb⟩; replace HO_300001 := bV_ HO_300001 hb; replace HO_301001 := bV_ HO_301001 hb; replace HO_302001 := bV_ HO_302001 hb; replace HO312 := bN_ HO312 hb; replace HO315 := bN_ HO315 hb; replace HO319 := bN_ HO319 hb; replace HO322 := bN_ HO322 hb; replace HO326 := bN_ HO326 hb; replace HO329 := bN_ HO329 hb; replace BK299 := bb_ (bu_ BK299) hb; replace BK300 := bb_ (bu_ BK300) hb; replace BK301 := bb_ (bu_ BK301) hb; replace HB := bs_ (be_ HB) hb; (try clear hb); (try clear hb2); (try clear hk); (try clear hi)))
          go_meet
          case rel => exact ⟨_, ((t330 != (-1))), ra_, H', ⟨by have := HJ3.out; have := HJ36.out; first | omega | exact Nat.le_refl _⟩, mV_ (Kd.V_mono HO_300001.out (fun _ hk => ⟨hk.1.1.1.1.1.1.1, ⟨hk.1.1.1.1.1.1.2.1, ⟨hk.1.1.1.1.1.1.2.2.1, hk.1.1.1.1.1.1.2.2.2⟩⟩⟩)), mV_ (Kd.V_mono HO_301001.out (fun _ hk => ⟨hk.1.1.1.1.1.1.1, ⟨hk.1.1.1.1.1.1.2.1, ⟨hk.1.1.1.1.1.1.2.2.1, hk.1.1.1.1.1.1.2.2.2⟩⟩⟩)), mV_ (Kd.V_mono HO_302001.out (fun _ hk => ⟨hk.1.1.1.1.1.1.1, ⟨hk.1.1.1.1.1.1.2.1, ⟨hk.1.1.1.1.1.1.2.2.1, hk.1.1.1.1.1.1.2.2.2⟩⟩⟩)), bu2_ BK299, bu2_ BK300, bu2_ BK301, be2_ HB⟩
         ·rw [if_neg c168] at H
          obtain ⟨c168b0, c168b1⟩ := neB_ c168
          have H' := Aside0.mk H
          clear H
          go_wp2
          go_meet
          case rel => exact ⟨_, (true), ra_, H', ⟨by have := HJ3.out; have := HJ36.out; first | omega | exact Nat.le_refl _⟩, mV_ (Kd.V_mono HO_300001.out (fun _ hk => ⟨hk.1.1.1.1.1, ⟨hk.1.1.1.1.2.1, ⟨hk.1.1.1.1.2.2.1, hk.1.1.1.1.2.2.2⟩⟩⟩)), mV_ (Kd.V_mono HO_301001.out (fun _ hk => ⟨hk.1.1.1.1.1, ⟨hk.1.1.1.1.2.1, ⟨hk.1.1.1.1.2.2.1, hk.1.1.1.1.2.2.2⟩⟩⟩)), mV_ (Kd.V_mono HO_302001.out (fun _ hk => ⟨hk.1.1.1.1.1, ⟨hk.1.1.1.1.2.1, ⟨hk.1.1.1.1.2.2.1, hk.1.1.1.1.2.2.2⟩⟩⟩)), bu2_ BK299, bu2_ BK300, bu2_ BK301, be2_ HB⟩
        ·rw [if_neg c167] at H
         obtain ⟨c167b0, c167b1⟩ := neB_ c167
         (first | rw [c167b0] | (simp only [i64_w, i32_w]; rw [c167b0]) | skip)
         have H' := Aside0.mk H
         clear H
         go_wp2
         go_meet
         case rel => exact ⟨_, (true), ra_, H', ⟨by have := HJ3.out; have := HJ36.out; first | omega | exact Nat.le_refl _⟩, mV_ (Kd.V_mono HO_300001.out (fun _ hk => ⟨hk.1.1.1.1.1, ⟨hk.1.1.1.1.2.1, ⟨hk.1.1.1.1.2.2.1, hk.1.1.1.1.2.2.2⟩⟩⟩)), mV_ (Kd.V_mono HO_301001.out (fun _ hk => ⟨hk.1.1.1.1.1, ⟨hk.1.1.1.1.2.1, ⟨hk.1.1.1.1.2.2.1, hk.1.1.1.1.2.2.2⟩⟩⟩)), mV_ (Kd.V_mono HO_302001.out (fun _ hk => ⟨hk.1.1.1.1.1, ⟨hk.1.1.1.1.2.1, ⟨hk.1.1.1.1.2.2.1, hk.1.1.1.1.2.2.2⟩⟩⟩)), bu2_ BK299, bu2_ BK300, bu2_ BK301, be2_ HB⟩
       case rest =>
        clear HC143
        try clear c1; try clear c2; try clear p2; try clear c3; try clear c4; try clear c5; try clear c6; try clear p6; try clear c7; try clear c8; try clear c9; try clear c10; try clear c11; try clear c12; try clear c13; try clear c14; try clear c15; try clear c16; try clear c17; try clear c19; try clear c20; try clear c24; try clear c25; try clear c28; try clear c33; try clear c43; try clear c43b0; try clear c43b1; try clear c45; try clear c45b0; try clear c45b1; try clear c45b2; try clear c46; try clear c47; try clear c49; try clear c55; try clear c55b0; try clear c56; try clear c56b0; try clear c57; try clear c58; try clear c60; try clear p64; try clear c66; try clear c66b0; try clear c67; try clear c68; try clear c70; try clear c76; try clear c77; try clear c79; try clear c85; try clear c85b0; try clear c86; try clear c86b0; try clear c87; try clear c88; try clear c90; try clear c96; try clear c97; try clear c99; try clear c105; try clear c105b0; try clear c106; try clear c106b0; try clear c107; try clear c108; try clear c110; try clear c116; try clear c117; try clear c119; try clear c125; try clear c126; try clear c128; try clear c134; try clear c135; try clear c137; try clear c140; try clear c144; try clear c145; try clear c149; try clear c167; try clear c167b0; try clear c167b1; try clear c168; try clear c168b0; try clear c168b1; try clear c170; try clear c171; try clear c176; try clear hcz100_0; try clear hcz100_1; try clear hcz102_0; try clear hcz102_1; try clear hcz103_0; try clear hcz103_1; try clear hcz109_0; try clear hcz109_1; try clear hcz111_0; try clear hcz111_1; try clear hcz113_0; try clear hcz113_1; try clear hcz114_0; try clear hcz114_1; try clear hcz118_0; try clear hcz118_1; try clear hcz120_0; try clear hcz120_1; try clear hcz122_0; try clear hcz122_1; try clear hcz123_0; try clear hcz123_1; try clear hcz127_0; try clear hcz127_1; try clear hcz129_0; try clear hcz129_1; try clear hcz12_0; try clear hcz12_1; try clear hcz131_0; try clear hcz131_1; try clear hcz132_0; try clear hcz132_1; try clear hcz136_0; try clear hcz136_1; try clear hcz138_0; try clear hcz138_1; try clear hcz146_0; try clear hcz146_1; try clear hcz150_0; try clear hcz150_1; try clear hcz156_0; try clear hcz156_1; try clear hcz157_0; try clear hcz157_1; try clear hcz160_0; try clear hcz160_1; try clear hcz161_0; try clear hcz161_1; try clear hcz172_0; try clear hcz172_1; try clear hcz175_0; try clear hcz175_1; try clear hcz177_0; try clear hcz177_1; try clear hcz18_0; try clear hcz18_1; try clear hcz21_0; try clear hcz21_1; try clear hcz26_0; try clear hcz26_1; try clear hcz29_0; try clear hcz29_1; try clear hcz31_0; try clear hcz31_1; try clear hcz48_0; try clear hcz48_1; try clear hcz50_0; try clear hcz50_1; try clear hcz52_0; try clear hcz52_1; try clear hcz53_0; try clear hcz53_1; try clear hcz59_0; try clear hcz59_1; try clear hcz61_0; try clear hcz61_1; try clear hcz63_0; try clear hcz63_1; try clear hcz64_0; try clear hcz64_1; try clear hcz69_0; try clear hcz69_1; try clear hcz71_0; try clear hcz71_1; try clear hcz73_0; try clear hcz73_1; try clear hcz74_0; try clear hcz74_1; try clear hcz78_0; try clear hcz78_1; try clear hcz80_0; try clear hcz80_1; try clear hcz82_0; try clear hcz82_1; try clear hcz83_0; try clear hcz83_1; try clear hcz89_0; try clear hcz89_1; try clear hcz91_0; try clear hcz91_1; try clear hcz93_0; try clear hcz93_1; try clear hcz94_0; try clear hcz94_1; try clear hcz98_0; try clear hcz98_1; try clear hfz100_0; try clear hfz100_1; try clear hfz102_0; try clear hfz102_1; try clear hfz103_0; try clear hfz103_1; try clear hfz109_0; try clear hfz109_1; try clear hfz111_0; try clear hfz111_1; try clear hfz113_0; try clear hfz113_1; try clear hfz114_0; try clear hfz114_1; try clear hfz118_0; try clear hfz118_1; try clear hfz120_0; try clear hfz120_1; try clear hfz122_0; try clear hfz122_1; try clear hfz123_0; try clear hfz123_1; try clear hfz127_0; try clear hfz127_1; try clear hfz129_0; try clear hfz129_1; try clear hfz12_0; try clear hfz12_1; try clear hfz131_0; try clear hfz131_1; try clear hfz132_0; try clear hfz132_1; try clear hfz136_0; try clear hfz136_1; try clear hfz138_0; try clear hfz138_1; try clear hfz146_0; try clear hfz146_1; try clear hfz150_0; try clear hfz150_1; try clear hfz156_0; try clear hfz156_1; try clear hfz157_0; try clear hfz157_1; try clear hfz160_0; try clear hfz160_1; try clear hfz161_0; try clear hfz161_1; try clear hfz172_0; try clear hfz172_1; try clear hfz175_0; try clear hfz175_1; try clear hfz177_0; try clear hfz177_1; try clear hfz18_0; try clear hfz18_1; try clear hfz21_0; try clear hfz21_1; try clear hfz26_0; try clear hfz26_1; try clear hfz29_0; try clear hfz29_1; try clear hfz31_0; try clear hfz31_1; try clear hfz48_0; try clear hfz48_1; try clear hfz50_0; try clear hfz50_1; try clear hfz52_0; try clear hfz52_1; try clear hfz53_0; try clear hfz53_1; try clear hfz59_0; try clear hfz59_1; try clear hfz61_0; try clear hfz61_1; try clear hfz63_0; try clear hfz63_1; try clear hfz64_0; try clear hfz64_1; try clear hfz69_0; try clear hfz69_1; try clear hfz71_0; try clear hfz71_1; try clear hfz73_0; try clear hfz73_1; try clear hfz74_0; try clear hfz74_1; try clear hfz78_0; try clear hfz78_1; try clear hfz80_0; try clear hfz80_1; try clear hfz82_0; try clear hfz82_1; try clear hfz83_0; try clear hfz83_1; try clear hfz89_0; try clear hfz89_1; try clear hfz91_0; try clear hfz91_1; try clear hfz93_0; try clear hfz93_1; try clear hfz94_0; try clear hfz94_1; try clear hfz98_0; try clear hfz98_1; try clear p2; try clear p6; try clear p64
        obtain ⟨kq, x102_142, rfl, HA, HJ142, HO_300001, HO_301001, HO_302001, BK299, BK300, BK301, HB⟩ := hcut
        cases kq with
        | zero => exact absurd HA.out (by simp [constablelaw03_FactOrder.j2])
        | succ kj142 =>
         have H := HA.out
         clear HA
         simp only [constablelaw03_FactOrder.j2] at H
         by_cases c183 : x102_142 = true
         ·subst c183
          rw [if_pos rfl] at H
          exact absurd ((Option.some.inj H).trans HR_.out) (by decide)
         ·replace c183 := Bool.eq_false_iff.mpr c183
          subst c183
          rw [if_neg (show ¬ (false = true) by decide)] at H
          replace H := Option.bind_eq_some_iff.mp H
          obtain ⟨⟨t331, t332⟩, A1840, H⟩ := H
          try dsimp only at H
          have A184 := Aside0.mk A1840
          clear A1840
          replace H := Option.bind_eq_some_iff.mp H
          obtain ⟨⟨t333, t334⟩, A1850, H⟩ := H
          try dsimp only at H
          have A185 := Aside0.mk A1850
          clear A1850
          by_cases c186 : t332 = 0
          ·rw [if_pos c186] at H
           obtain ⟨c186b0, c186b1⟩ := eqB_ c186
           clear c186
           by_cases c187 : t334 = 0
           ·rw [if_pos c187] at H
            obtain ⟨c187b0, c187b1⟩ := eqB_ c187
            clear c187
            replace H := Option.bind_eq_some_iff.mp H
            obtain ⟨t335, A1880, H⟩ := H
            try dsimp only at H
            have A188 := Aside0.mk A1880
            clear A1880
            by_cases c189 : ((t331.toList == t333.toList) == t335) = true
            ·rw [if_pos c189] at H
             have c189b0 : ((t331.toList == t333.toList) == t335) = true := c189
             (try (have c189b1 : decide ((t331.toList == t333.toList) = t335) = true := by simpa using c189))
             (try (have c189b2 : ((t331.toList == t333.toList) == t335) = true := by simpa using c189))
             clear c189
             replace H := Option.bind_eq_some_iff.mp H
             obtain ⟨t336, A1900, H⟩ := H
             try dsimp only at H
             have A190 := Aside0.mk A1900
             clear A1900
             obtain rfl := Option.some.inj H
             have hnb191 := NB299_300.out
             have hnc191 := NB300_299.out
             have hnb192 := NB299_301.out
             have hnc192 := NB301_299.out
             have hcz193_0 : wc.cell? ⟨gb299, 0, none⟩ = some (.string a0_0) := (blk_cell BK299.out 0).trans rfl
             have hcz193_1 : wc.cell? ⟨gb299, 1, none⟩ = some (.slice A0_1 l0_1.length c0_1) := (blk_cell BK299.out 1).trans rfl
             have hfz193_0 := blk_frozen BK299.out 0
             have hfz193_1 := blk_frozen BK299.out 1
             go_wp2_with (first | ((with_reducible refine gate_callee (f := 14) rfl ?_); refine goesL_ (some 105) rfl rfl Tryd.func14 (by kernel_rfl) rfl #[.agg #[.string a0_0, .slice A0_1 l0_1.length c0_1]] rfl ga_ ?_; (with_reducible refine (fact_Text.calls kj142 a0_0 _ _ l0_1 t331 t332 _ ?side1 ?side2 A184.out (tt_ HL_ (be_ HB))).mono ?_); (case side1 => exact kd_ ((Kd.V_reads' HO_300001.out).2.2)); (case side2 => exact (Kd.V_reads' HO_300001.out).2.1); rintro e w194 ⟨rfl, hb⟩; refine ⟨_, rfl, ?_⟩; replace HO_300001 := bV_ HO_300001 hb; replace HO_301001 := bV_ HO_301001 hb; replace HO_302001 := bV_ HO_302001 hb; replace BK299 := bb_ (bu_ BK299) hb; replace BK300 := bb_ (bu_ BK300) hb; replace BK301 := bb_ (bu_ BK301) hb; replace HB := bs_ (be_ HB) hb; (try clear hb); (try clear hb2); (try clear hk); (try clear hi); have hnb195 := NB300_301.out; have hnc195 := NB301_300.out; have hcz196_0 : w194.cell? ⟨gb300, 0, none⟩ = some (.string a1_0) := (blk_cell BK300.out 0).trans rfl; have hcz196_1 : w194.cell? ⟨gb300, 1, none⟩ = some (.slice A1_1 l1_1.length c1_1) := (blk_cell BK300.out 1).trans rfl; have hfz196_0 := blk_frozen BK300.out 0; have hfz196_1 := blk_frozen BK300.out 1) | ((with_reducible refine gate_callee (f := 14) rfl ?_); refine goesL_ (some 110) rfl rfl Tryd.func14 (by kernel_rfl) rfl #[.agg #[.string a1_0, .slice A1_1 l1_1.length c1_1]] rfl ga_ ?_; (with_reducible refine (fact_Text.calls kj142 a1_0 _ _ l1_1 t333 t334 _ ?side1 ?side2 A185.out (tt_ HL_ (be_ HB))).mono ?_); (case side1 => exact kd_ ((Kd.V_reads' HO_301001.out).2.2)); (case side2 => exact (Kd.V_reads' HO_301001.out).2.1); rintro e w197 ⟨rfl, hb⟩; refine ⟨_, rfl, ?_⟩; replace HO_300001 := bV_ HO_300001 hb; replace HO_301001 := bV_ HO_301001 hb; replace HO_302001 := bV_ HO_302001 hb; replace BK299 := bb_ (bu_ BK299) hb; replace BK300 := bb_ (bu_ BK300) hb; replace BK301 := bb_ (bu_ BK301) hb; replace HB := bs_ (be_ HB) hb; (try clear hb); (try clear hb2); (try clear hk); (try clear hi); have hcz198_0 : w197.cell? ⟨gb299, 0, none⟩ = some (.string a0_0) := (blk_cell BK299.out 0).trans rfl; have hcz198_1 : w197.cell? ⟨gb299, 1, none⟩ = some (.slice A0_1 l0_1.length c0_1) := (blk_cell BK299.out 1).trans rfl; have hfz198_0 := blk_frozen BK299.out 0; have hfz198_1 := blk_frozen BK299.out 1; have hcz199_0 : w197.cell? ⟨gb300, 0, none⟩ = some (.string a1_0) := (blk_cell BK300.out 0).trans rfl; have hcz199_1 : w197.cell? ⟨gb300, 1, none⟩ = some (.slice A1_1 l1_1.length c1_1) := (blk_cell BK300.out 1).trans rfl; have hfz199_0 := blk_frozen BK300.out 0; have hfz199_1 := blk_frozen BK300.out 1) | (go_at_call 21; (with_reducible refine (constablekeep_Fact.calls kj142 a0_0 _ _ l0_1 a1_0 _ _ l1_1 t335 _ ?side1 ?side2 ?side3 ?side4 A188.out).mono ?_); (case side1 => exact kd_ ((Kd.V_reads' HO_300001.out).2.2)); (case side2 => exact (Kd.V_reads' HO_300001.out).2.1); (case side3 => exact kd_ ((Kd.V_reads' HO_301001.out).2.2)); (case side4 => exact (Kd.V_reads' HO_301001.out).2.1); rintro e w200 ⟨rfl, hb⟩; replace HO_300001 := bV_ HO_300001 hb; replace HO_301001 := bV_ HO_301001 hb; replace HO_302001 := bV_ HO_302001 hb; replace BK299 := bb_ (bu_ BK299) hb; replace BK300 := bb_ (bu_ BK300) hb; replace BK301 := bb_ (bu_ BK301) hb; replace HB := bs_ (be_ HB) hb; (try clear hb); (try clear hb2); (try clear hk); (try clear hi)) | (go_at_call 24; (with_reducible refine (constablelaw03_wakes.calls kj142  t336 _ A190.out HR_.out (tt_ HL_ (be_ HB))).mono ?_); rintro e w201 ⟨rfl, hb⟩; replace HO_300001 := bV_ HO_300001 hb; replace HO_301001 := bV_ HO_301001 hb; replace HO_302001 := bV_ HO_302001 hb; replace BK299 := bb_ (bu_ BK299) hb; replace BK300 := bb_ (bu_ BK300) hb; replace BK301 := bb_ (bu_ BK301) hb; replace HB := bs_ (be_ HB) hb; (try clear hb); (try clear hb2); (try clear hk); (try clear hi)))
             go_ret
             exact ⟨re_, be_ HB⟩
            ·rw [if_neg c189] at H
             have c189b0 := Bool.eq_false_iff.2 c189
             (try (have c189b1 : decide ((t331.toList == t333.toList) = t335) = false := by simpa using c189))
             (try (have c189b2 : ((t331.toList == t333.toList) == t335) = false := by simpa using c189))
             (try (have c189b3 : ¬ ((t331.toList == t333.toList) = t335) := by simpa using c189))
             clear c189
             exact absurd ((Option.some.inj H).trans HR_.out) (by decide)
           ·rw [if_neg c187] at H
            obtain ⟨c187b0, c187b1⟩ := neB_ c187
            replace H := Option.bind_eq_some_iff.mp H
            obtain ⟨t337, A2020, H⟩ := H
            try dsimp only at H
            have A202 := Aside0.mk A2020
            clear A2020
            obtain rfl := Option.some.inj H
            have hnb203 := NB299_300.out
            have hnc203 := NB300_299.out
            have hnb204 := NB299_301.out
            have hnc204 := NB301_299.out
            have hcz205_0 : wc.cell? ⟨gb299, 0, none⟩ = some (.string a0_0) := (blk_cell BK299.out 0).trans rfl
            have hcz205_1 : wc.cell? ⟨gb299, 1, none⟩ = some (.slice A0_1 l0_1.length c0_1) := (blk_cell BK299.out 1).trans rfl
            have hfz205_0 := blk_frozen BK299.out 0
            have hfz205_1 := blk_frozen BK299.out 1
            go_wp2_with (first | ((with_reducible refine gate_callee (f := 14) rfl ?_); refine goesL_ (some 105) rfl rfl Tryd.func14 (by kernel_rfl) rfl #[.agg #[.string a0_0, .slice A0_1 l0_1.length c0_1]] rfl ga_ ?_; (with_reducible refine (fact_Text.calls kj142 a0_0 _ _ l0_1 t331 t332 _ ?side1 ?side2 A184.out (tt_ HL_ (be_ HB))).mono ?_); (case side1 => exact kd_ ((Kd.V_reads' HO_300001.out).2.2)); (case side2 => exact (Kd.V_reads' HO_300001.out).2.1); rintro e w206 ⟨rfl, hb⟩; refine ⟨_, rfl, ?_⟩; replace HO_300001 := bV_ HO_300001 hb; replace HO_301001 := bV_ HO_301001 hb; replace HO_302001 := bV_ HO_302001 hb; replace BK299 := bb_ (bu_ BK299) hb; replace BK300 := bb_ (bu_ BK300) hb; replace BK301 := bb_ (bu_ BK301) hb; replace HB := bs_ (be_ HB) hb; (try clear hb); (try clear hb2); (try clear hk); (try clear hi); have hnb207 := NB300_301.out; have hnc207 := NB301_300.out; have hcz208_0 : w206.cell? ⟨gb300, 0, none⟩ = some (.string a1_0) := (blk_cell BK300.out 0).trans rfl; have hcz208_1 : w206.cell? ⟨gb300, 1, none⟩ = some (.slice A1_1 l1_1.length c1_1) := (blk_cell BK300.out 1).trans rfl; have hfz208_0 := blk_frozen BK300.out 0; have hfz208_1 := blk_frozen BK300.out 1) | ((with_reducible refine gate_callee (f := 14) rfl ?_); refine goesL_ (some 110) rfl rfl Tryd.func14 (by kernel_rfl) rfl #[.agg #[.string a1_0, .slice A1_1 l1_1.length c1_1]] rfl ga_ ?_; (with_reducible refine (fact_Text.calls kj142 a1_0 _ _ l1_1 t333 t334 _ ?side1 ?side2 A185.out (tt_ HL_ (be_ HB))).mono ?_); (case side1 => exact kd_ ((Kd.V_reads' HO_301001.out).2.2)); (case side2 => exact (Kd.V_reads' HO_301001.out).2.1); rintro e w209 ⟨rfl, hb⟩; refine ⟨_, rfl, ?_⟩; replace HO_300001 := bV_ HO_300001 hb; replace HO_301001 := bV_ HO_301001 hb; replace HO_302001 := bV_ HO_302001 hb; replace BK299 := bb_ (bu_ BK299) hb; replace BK300 := bb_ (bu_ BK300) hb; replace BK301 := bb_ (bu_ BK301) hb; replace HB := bs_ (be_ HB) hb; (try clear hb); (try clear hb2); (try clear hk); (try clear hi)) | (go_at_call 24; (with_reducible refine (constablelaw03_wakes.calls kj142  t337 _ A202.out HR_.out (tt_ HL_ (be_ HB))).mono ?_); rintro e w210 ⟨rfl, hb⟩; replace HO_300001 := bV_ HO_300001 hb; replace HO_301001 := bV_ HO_301001 hb; replace HO_302001 := bV_ HO_302001 hb; replace BK299 := bb_ (bu_ BK299) hb; replace BK300 := bb_ (bu_ BK300) hb; replace BK301 := bb_ (bu_ BK301) hb; replace HB := bs_ (be_ HB) hb; (try clear hb); (try clear hb2); (try clear hk); (try clear hi)))
            go_ret
            exact ⟨re_, be_ HB⟩
          ·rw [if_neg c186] at H
           obtain ⟨c186b0, c186b1⟩ := neB_ c186
           replace H := Option.bind_eq_some_iff.mp H
           obtain ⟨t338, A2110, H⟩ := H
           try dsimp only at H
           have A211 := Aside0.mk A2110
           clear A2110
           obtain rfl := Option.some.inj H
           have hnb212 := NB299_300.out
           have hnc212 := NB300_299.out
           have hnb213 := NB299_301.out
           have hnc213 := NB301_299.out
           have hcz214_0 : wc.cell? ⟨gb299, 0, none⟩ = some (.string a0_0) := (blk_cell BK299.out 0).trans rfl
           have hcz214_1 : wc.cell? ⟨gb299, 1, none⟩ = some (.slice A0_1 l0_1.length c0_1) := (blk_cell BK299.out 1).trans rfl
           have hfz214_0 := blk_frozen BK299.out 0
           have hfz214_1 := blk_frozen BK299.out 1
           go_wp2_with (first | ((with_reducible refine gate_callee (f := 14) rfl ?_); refine goesL_ (some 105) rfl rfl Tryd.func14 (by kernel_rfl) rfl #[.agg #[.string a0_0, .slice A0_1 l0_1.length c0_1]] rfl ga_ ?_; (with_reducible refine (fact_Text.calls kj142 a0_0 _ _ l0_1 t331 t332 _ ?side1 ?side2 A184.out (tt_ HL_ (be_ HB))).mono ?_); (case side1 => exact kd_ ((Kd.V_reads' HO_300001.out).2.2)); (case side2 => exact (Kd.V_reads' HO_300001.out).2.1); rintro e w215 ⟨rfl, hb⟩; refine ⟨_, rfl, ?_⟩; replace HO_300001 := bV_ HO_300001 hb; replace HO_301001 := bV_ HO_301001 hb; replace HO_302001 := bV_ HO_302001 hb; replace BK299 := bb_ (bu_ BK299) hb; replace BK300 := bb_ (bu_ BK300) hb; replace BK301 := bb_ (bu_ BK301) hb; replace HB := bs_ (be_ HB) hb; (try clear hb); (try clear hb2); (try clear hk); (try clear hi); have hnb216 := NB300_301.out; have hnc216 := NB301_300.out; have hcz217_0 : w215.cell? ⟨gb300, 0, none⟩ = some (.string a1_0) := (blk_cell BK300.out 0).trans rfl; have hcz217_1 : w215.cell? ⟨gb300, 1, none⟩ = some (.slice A1_1 l1_1.length c1_1) := (blk_cell BK300.out 1).trans rfl; have hfz217_0 := blk_frozen BK300.out 0; have hfz217_1 := blk_frozen BK300.out 1) | ((with_reducible refine gate_callee (f := 14) rfl ?_); refine goesL_ (some 110) rfl rfl Tryd.func14 (by kernel_rfl) rfl #[.agg #[.string a1_0, .slice A1_1 l1_1.length c1_1]] rfl ga_ ?_; (with_reducible refine (fact_Text.calls kj142 a1_0 _ _ l1_1 t333 t334 _ ?side1 ?side2 A185.out (tt_ HL_ (be_ HB))).mono ?_); (case side1 => exact kd_ ((Kd.V_reads' HO_301001.out).2.2)); (case side2 => exact (Kd.V_reads' HO_301001.out).2.1); rintro e w218 ⟨rfl, hb⟩; refine ⟨_, rfl, ?_⟩; replace HO_300001 := bV_ HO_300001 hb; replace HO_301001 := bV_ HO_301001 hb; replace HO_302001 := bV_ HO_302001 hb; replace BK299 := bb_ (bu_ BK299) hb; replace BK300 := bb_ (bu_ BK300) hb; replace BK301 := bb_ (bu_ BK301) hb; replace HB := bs_ (be_ HB) hb; (try clear hb); (try clear hb2); (try clear hk); (try clear hi)) | (go_at_call 24; (with_reducible refine (constablelaw03_wakes.calls kj142  t338 _ A211.out HR_.out (tt_ HL_ (be_ HB))).mono ?_); rintro e w219 ⟨rfl, hb⟩; replace HO_300001 := bV_ HO_300001 hb; replace HO_301001 := bV_ HO_301001 hb; replace HO_302001 := bV_ HO_302001 hb; replace BK299 := bb_ (bu_ BK299) hb; replace BK300 := bb_ (bu_ BK300) hb; replace BK301 := bb_ (bu_ BK301) hb; replace HB := bs_ (be_ HB) hb; (try clear hb); (try clear hb2); (try clear hk); (try clear hi)))
           go_ret
           exact ⟨re_, be_ HB⟩
end Go.Proofs.YtaopajmpifenoaaDoor.P
end
section
namespace Go.Proofs.YtaopajmpifenoaaDoor.P
open Go.RowKit Go.Proofs.YtaopajmpifenoaaDoorW.PrintWords Go.Proofs.YtaopajmpifenoaaDoorW.PrintLast Go.Proofs.YtaopajmpifenoaaDoorW.PrintMore
attribute [local go_sem] max2_int min2_int max_two min_two max_three min_three max_four min_four
set_option linter.unusedVariables false
set_option linter.unusedSimpArgs false
def constableref01_words.f  : Option (List ByteArray) := some (([(⟨#[102, 97, 99, 116]⟩ : ByteArray), (⟨#[114, 117, 108, 101]⟩ : ByteArray), (⟨#[112, 97, 116, 116, 101, 114, 110]⟩ : ByteArray), (⟨#[110, 111, 116]⟩ : ByteArray), (⟨#[97, 110, 100]⟩ : ByteArray), (⟨#[111, 114]⟩ : ByteArray), (⟨#[98, 101, 102, 111, 114, 101]⟩ : ByteArray), (⟨#[111, 110, 99, 101]⟩ : ByteArray), (⟨#[97, 108, 119, 97, 121, 115]⟩ : ByteArray), (⟨#[115, 105, 110, 99, 101]⟩ : ByteArray), (⟨#[100, 114, 111, 112]⟩ : ByteArray)] : List ByteArray))
set_option maxHeartbeats 8000000 in
set_option maxRecDepth 100000 in
theorem constableref01_words.calls  (r : List ByteArray) (w : World) (h : constableref01_words.f  = some r) :
  Calls Tryd.prog 38 #[] w fun e w' => ∃ v0_ : Value, e = .returned (v0_) ∧ Kd.R Kd.string 9 w' w.heap.size (fun _ => True) v0_ r ∧ Below w.heap.size w w' := by
 have HB := Aside0.mk (Below.refl w.heap.size w)
 have H : (some (([(⟨#[102, 97, 99, 116]⟩ : ByteArray), (⟨#[114, 117, 108, 101]⟩ : ByteArray), (⟨#[112, 97, 116, 116, 101, 114, 110]⟩ : ByteArray), (⟨#[110, 111, 116]⟩ : ByteArray), (⟨#[97, 110, 100]⟩ : ByteArray), (⟨#[111, 114]⟩ : ByteArray), (⟨#[98, 101, 102, 111, 114, 101]⟩ : ByteArray), (⟨#[111, 110, 99, 101]⟩ : ByteArray), (⟨#[97, 108, 119, 97, 121, 115]⟩ : ByteArray), (⟨#[115, 105, 110, 99, 101]⟩ : ByteArray), (⟨#[100, 114, 111, 112]⟩ : ByteArray)] : List ByteArray))) = some r := h
 clear h
 obtain ⟨y176, hy176⟩ : ∃ y_ : List ByteArray, y_ = (([(⟨#[102, 97, 99, 116]⟩ : ByteArray), (⟨#[114, 117, 108, 101]⟩ : ByteArray), (⟨#[112, 97, 116, 116, 101, 114, 110]⟩ : ByteArray), (⟨#[110, 111, 116]⟩ : ByteArray), (⟨#[97, 110, 100]⟩ : ByteArray), (⟨#[111, 114]⟩ : ByteArray), (⟨#[98, 101, 102, 111, 114, 101]⟩ : ByteArray), (⟨#[111, 110, 99, 101]⟩ : ByteArray), (⟨#[97, 108, 119, 97, 121, 115]⟩ : ByteArray), (⟨#[115, 105, 110, 99, 101]⟩ : ByteArray), (⟨#[100, 114, 111, 112]⟩ : ByteArray)] : List ByteArray)) := ⟨_, rfl⟩
 replace H : (some y176) = some r := by first | (rw [hy176]; with_reducible exact H) | (have H2_ := (Option.bind_some _ _).symm.trans H; rw [hy176]; with_reducible exact H2_) | (have H2_ := (Option.bind_some _ _).symm.trans H; with_reducible exact H2_) | with_reducible exact H | (rw [hy176]; exact H) | exact H
 have Ny176 := Aside0.mk hy176
 clear hy176
 obtain rfl := Option.some.inj H
 go_enter Tryd.func38, Tryd.ntmps38
 go_wp2_with (first | ((with_reducible refine gate_dst (N := 1) rfl ?_); refine Kd.R_lit Kd.string _ 9 ?hg (N := 1) ?hd (xs := ([(⟨#[102, 97, 99, 116]⟩ : ByteArray), (⟨#[114, 117, 108, 101]⟩ : ByteArray), (⟨#[112, 97, 116, 116, 101, 114, 110]⟩ : ByteArray), (⟨#[110, 111, 116]⟩ : ByteArray), (⟨#[97, 110, 100]⟩ : ByteArray), (⟨#[111, 114]⟩ : ByteArray), (⟨#[98, 101, 102, 111, 114, 101]⟩ : ByteArray), (⟨#[111, 110, 99, 101]⟩ : ByteArray), (⟨#[97, 108, 119, 97, 121, 115]⟩ : ByteArray), (⟨#[115, 105, 110, 99, 101]⟩ : ByteArray), (⟨#[100, 114, 111, 112]⟩ : ByteArray)] : List ByteArray)) (inner := [.string (⟨#[102, 97, 99, 116]⟩ : ByteArray), .string (⟨#[114, 117, 108, 101]⟩ : ByteArray), .string (⟨#[112, 97, 116, 116, 101, 114, 110]⟩ : ByteArray), .string (⟨#[110, 111, 116]⟩ : ByteArray), .string (⟨#[97, 110, 100]⟩ : ByteArray), .string (⟨#[111, 114]⟩ : ByteArray), .string (⟨#[98, 101, 102, 111, 114, 101]⟩ : ByteArray), .string (⟨#[111, 110, 99, 101]⟩ : ByteArray), .string (⟨#[97, 108, 119, 97, 121, 115]⟩ : ByteArray), .string (⟨#[115, 105, 110, 99, 101]⟩ : ByteArray), .string (⟨#[100, 114, 111, 112]⟩ : ByteArray)]) (ok := fun _ => True) (okp := fun _ => True) ?hr ?hp (fun _ hk => hk) trivial (Below.refl _ _) (Nat.le_refl _) (by simp) ?_; (case hd => rfl); (case hg => rfl); (case hr => first | (go_simp; done) | (go_simp; rfl)); (case hp => exact (Reps.one (show Kd.M Kd.string _ _ _ (⟨#[102, 97, 99, 116]⟩ : ByteArray) [.string (⟨#[102, 97, 99, 116]⟩ : ByteArray)] from rfl) (Reps.one (show Kd.M Kd.string _ _ _ (⟨#[114, 117, 108, 101]⟩ : ByteArray) [.string (⟨#[114, 117, 108, 101]⟩ : ByteArray)] from rfl) (Reps.one (show Kd.M Kd.string _ _ _ (⟨#[112, 97, 116, 116, 101, 114, 110]⟩ : ByteArray) [.string (⟨#[112, 97, 116, 116, 101, 114, 110]⟩ : ByteArray)] from rfl) (Reps.one (show Kd.M Kd.string _ _ _ (⟨#[110, 111, 116]⟩ : ByteArray) [.string (⟨#[110, 111, 116]⟩ : ByteArray)] from rfl) (Reps.one (show Kd.M Kd.string _ _ _ (⟨#[97, 110, 100]⟩ : ByteArray) [.string (⟨#[97, 110, 100]⟩ : ByteArray)] from rfl) (Reps.one (show Kd.M Kd.string _ _ _ (⟨#[111, 114]⟩ : ByteArray) [.string (⟨#[111, 114]⟩ : ByteArray)] from rfl) (Reps.one (show Kd.M Kd.string _ _ _ (⟨#[98, 101, 102, 111, 114, 101]⟩ : ByteArray) [.string (⟨#[98, 101, 102, 111, 114, 101]⟩ : ByteArray)] from rfl) (Reps.one (show Kd.M Kd.string _ _ _ (⟨#[111, 110, 99, 101]⟩ : ByteArray) [.string (⟨#[111, 110, 99, 101]⟩ : ByteArray)] from rfl) (Reps.one (show Kd.M Kd.string _ _ _ (⟨#[97, 108, 119, 97, 121, 115]⟩ : ByteArray) [.string (⟨#[97, 108, 119, 97, 121, 115]⟩ : ByteArray)] from rfl) (Reps.one (show Kd.M Kd.string _ _ _ (⟨#[115, 105, 110, 99, 101]⟩ : ByteArray) [.string (⟨#[115, 105, 110, 99, 101]⟩ : ByteArray)] from rfl) (Reps.one (show Kd.M Kd.string _ _ _ (⟨#[100, 114, 111, 112]⟩ : ByteArray) [.string (⟨#[100, 114, 111, 112]⟩ : ByteArray)] from rfl) (Reps.none _ _))))))))))))); intro v177 w1 ho2 hb hg_ hnew_; clear hg_ hnew_; (first | rw [← Ny176.out] at ho2 | (simp only [Int.reduceToNat] at ho2; rw [← Ny176.out] at ho2)); have HO178 := Aside0.mk (Kd.R_lower ho2 (below_size (be_ HB))); replace HB := bs_ (be_ HB) hb; clear hb ho2))
 go_ret
 exact ⟨_, by first | rfl | (simp [errW_none, errW_some] <;> rfl) | (simp [*, errW_none, errW_some] <;> rfl), by (with_reducible repeat (first | apply Kd.R_alloc | apply Kd.R_drewN | apply Kd.R_drew)); exact HO178.out, by repeat (first | (with_reducible first | exact HB.out | apply below_alloc | apply pw_below_drewN | apply below_drew1) | exact HB.out)⟩
end Go.Proofs.YtaopajmpifenoaaDoor.P
end
section
namespace Go.Proofs.YtaopajmpifenoaaDoor.P
open Go.RowKit Go.Proofs.YtaopajmpifenoaaDoorW.PrintWords Go.Proofs.YtaopajmpifenoaaDoorW.PrintLast Go.Proofs.YtaopajmpifenoaaDoorW.PrintMore
attribute [local go_sem] max2_int min2_int max_two min_two max_three min_three max_four min_four
set_option linter.unusedVariables false
set_option linter.unusedSimpArgs false
def constableref01_In.f (a0 : Int) (a1 : Int) (a2 : Int) : Option (Bool) := if a0 ≥ a1 then (some (decide (a0 ≤ a2))) else (some false)
set_option maxHeartbeats 8000000 in
set_option maxRecDepth 100000 in
theorem constableref01_In.calls (a0 : Int) (a1 : Int) (a2 : Int) (r : Bool) (w : World) (h : constableref01_In.f a0 a1 a2 = some r) :
  Calls Tryd.prog 55 #[.int .i64 a0, .int .i64 a1, .int .i64 a2] w fun e w' => e = .returned (.bool r) ∧ Drawn0 w w' := by
 have H : (if a0 ≥ a1 then (some (decide (a0 ≤ a2))) else (some false)) = some r := h
 clear h
 by_cases c4 : a0 ≥ a1
 ·rw [if_pos c4] at H
  have c4b0 : decide (a1 ≤ a0) = true := decide_eq_true c4
  clear c4
  obtain rfl := Option.some.inj H
  go_enter Tryd.func55, Tryd.ntmps55
  go_wp2
  go_ret
  exact rz_
 ·rw [if_neg c4] at H
  have c4b0 : decide (a1 ≤ a0) = false := decide_eq_false c4
  clear c4
  obtain rfl := Option.some.inj H
  go_enter Tryd.func55, Tryd.ntmps55
  go_wp2
  go_ret
  exact rz_
end Go.Proofs.YtaopajmpifenoaaDoor.P
end
section
namespace Go.Proofs.YtaopajmpifenoaaDoor.P
open Go.RowKit Go.Proofs.YtaopajmpifenoaaDoorW.PrintWords Go.Proofs.YtaopajmpifenoaaDoorW.PrintLast Go.Proofs.YtaopajmpifenoaaDoorW.PrintMore
attribute [local go_sem] max2_int min2_int max_two min_two max_three min_three max_four min_four
set_option linter.unusedVariables false
set_option linter.unusedSimpArgs false
def constableref01_Upper.f (a0 : Int) : Option (Bool) := if a0 ≥ 65 then (some (decide (a0 ≤ 90))) else (some false)
set_option maxHeartbeats 8000000 in
set_option maxRecDepth 100000 in
theorem constableref01_Upper.calls (a0 : Int) (r : Bool) (w : World) (h : constableref01_Upper.f a0 = some r) :
  Calls Tryd.prog 63 #[.int .u8 a0] w fun e w' => e = .returned (.bool r) ∧ Drawn0 w w' := by
 have H : (if a0 ≥ 65 then (some (decide (a0 ≤ 90))) else (some false)) = some r := h
 clear h
 by_cases c2 : a0 ≥ 65
 ·rw [if_pos c2] at H
  have c2b0 : decide (65 ≤ a0) = true := decide_eq_true c2
  clear c2
  obtain rfl := Option.some.inj H
  go_enter Tryd.func63, Tryd.ntmps63
  go_wp2
  go_ret
  exact rz_
 ·rw [if_neg c2] at H
  have c2b0 : decide (65 ≤ a0) = false := decide_eq_false c2
  clear c2
  obtain rfl := Option.some.inj H
  go_enter Tryd.func63, Tryd.ntmps63
  go_wp2
  go_ret
  exact rz_
end Go.Proofs.YtaopajmpifenoaaDoor.P
end
section
namespace Go.Proofs.YtaopajmpifenoaaDoor.P
open Go.RowKit Go.Proofs.YtaopajmpifenoaaDoorW.PrintWords Go.Proofs.YtaopajmpifenoaaDoorW.PrintLast Go.Proofs.YtaopajmpifenoaaDoorW.PrintMore
attribute [local go_sem] max2_int min2_int max_two min_two max_three min_three max_four min_four
set_option linter.unusedVariables false
set_option linter.unusedSimpArgs false
def constableref01_Lower.f (a0 : Int) : Option (Bool) := if a0 ≥ 97 then (some (decide (a0 ≤ 122))) else (some false)
set_option maxHeartbeats 8000000 in
set_option maxRecDepth 100000 in
theorem constableref01_Lower.calls (a0 : Int) (r : Bool) (w : World) (h : constableref01_Lower.f a0 = some r) :
  Calls Tryd.prog 64 #[.int .u8 a0] w fun e w' => e = .returned (.bool r) ∧ Drawn0 w w' := by
 have H : (if a0 ≥ 97 then (some (decide (a0 ≤ 122))) else (some false)) = some r := h
 clear h
 by_cases c2 : a0 ≥ 97
 ·rw [if_pos c2] at H
  have c2b0 : decide (97 ≤ a0) = true := decide_eq_true c2
  clear c2
  obtain rfl := Option.some.inj H
  go_enter Tryd.func64, Tryd.ntmps64
  go_wp2
  go_ret
  exact rz_
 ·rw [if_neg c2] at H
  have c2b0 : decide (97 ≤ a0) = false := decide_eq_false c2
  clear c2
  obtain rfl := Option.some.inj H
  go_enter Tryd.func64, Tryd.ntmps64
  go_wp2
  go_ret
  exact rz_
end Go.Proofs.YtaopajmpifenoaaDoor.P
end
section
namespace Go.Proofs.YtaopajmpifenoaaDoor.P
open Go.RowKit Go.Proofs.YtaopajmpifenoaaDoorW.PrintWords Go.Proofs.YtaopajmpifenoaaDoorW.PrintLast Go.Proofs.YtaopajmpifenoaaDoorW.PrintMore
attribute [local go_sem] max2_int min2_int max_two min_two max_three min_three max_four min_four
set_option linter.unusedVariables false
set_option linter.unusedSimpArgs false
def constableref01_Digit.f (a0 : Int) : Option (Bool) := if a0 ≥ 48 then (some (decide (a0 ≤ 57))) else (some false)
set_option maxHeartbeats 8000000 in
set_option maxRecDepth 100000 in
theorem constableref01_Digit.calls (a0 : Int) (r : Bool) (w : World) (h : constableref01_Digit.f a0 = some r) :
  Calls Tryd.prog 72 #[.int .u8 a0] w fun e w' => e = .returned (.bool r) ∧ Drawn0 w w' := by
 have H : (if a0 ≥ 48 then (some (decide (a0 ≤ 57))) else (some false)) = some r := h
 clear h
 by_cases c2 : a0 ≥ 48
 ·rw [if_pos c2] at H
  have c2b0 : decide (48 ≤ a0) = true := decide_eq_true c2
  clear c2
  obtain rfl := Option.some.inj H
  go_enter Tryd.func72, Tryd.ntmps72
  go_wp2
  go_ret
  exact rz_
 ·rw [if_neg c2] at H
  have c2b0 : decide (48 ≤ a0) = false := decide_eq_false c2
  clear c2
  obtain rfl := Option.some.inj H
  go_enter Tryd.func72, Tryd.ntmps72
  go_wp2
  go_ret
  exact rz_
end Go.Proofs.YtaopajmpifenoaaDoor.P
end
section
namespace Go.Proofs.YtaopajmpifenoaaDoor.P
open Go.RowKit Go.Proofs.YtaopajmpifenoaaDoorW.PrintWords Go.Proofs.YtaopajmpifenoaaDoorW.PrintLast Go.Proofs.YtaopajmpifenoaaDoorW.PrintMore
attribute [local go_sem] max2_int min2_int max_two min_two max_three min_three max_four min_four
set_option linter.unusedVariables false
set_option linter.unusedSimpArgs false
def constableref01_inner.f (a0 : Int) : Option (Bool) := (constableref01_Lower.f a0).bind fun t169 => (if t169 = true then (some true) else ((constableref01_Upper.f a0).bind fun t170 => (if t170 = true then (some true) else ((constableref01_Digit.f a0).bind fun t171 => (if t171 = true then (some true) else (some (a0 == 95)))))))
set_option maxHeartbeats 8000000 in
set_option maxRecDepth 100000 in
theorem constableref01_inner.calls (a0 : Int) (r : Bool) (w : World) (h : constableref01_inner.f a0 = some r) :
  Calls Tryd.prog 65 #[.int .u8 a0] w fun e w' => e = .returned (.bool r) ∧ Drawn0 w w' := by
 have H : ((constableref01_Lower.f a0).bind fun t169 => (if t169 = true then (some true) else ((constableref01_Upper.f a0).bind fun t170 => (if t170 = true then (some true) else ((constableref01_Digit.f a0).bind fun t171 => (if t171 = true then (some true) else (some (a0 == 95)))))))) = some r := h
 clear h
 replace H := Option.bind_eq_some_iff.mp H
 obtain ⟨t169, A20, H⟩ := H
 try dsimp only at H
 have A2 := Aside0.mk A20
 clear A20
 by_cases c3 : t169 = true
 ·subst c3
  rw [if_pos rfl] at H
  obtain rfl := Option.some.inj H
  go_enter Tryd.func65, Tryd.ntmps65
  go_wp2_with (first | ((with_reducible refine gate_callee (f := 64) rfl ?_); refine goesL_ (some 4) rfl rfl Tryd.func64 (by kernel_rfl) rfl #[.int .u8 a0] rfl ga_ ?_; (with_reducible refine (constableref01_Lower.calls a0 true _ A2.out).mono ?_); rintro e w' ⟨rfl, ⟨nd, rfl⟩⟩; refine ⟨_, rfl, ?_⟩))
  go_ret
  exact rz_
 ·replace c3 := Bool.eq_false_iff.mpr c3
  subst c3
  rw [if_neg (show ¬ (false = true) by decide)] at H
  replace H := Option.bind_eq_some_iff.mp H
  obtain ⟨t170, A40, H⟩ := H
  try dsimp only at H
  have A4 := Aside0.mk A40
  clear A40
  by_cases c5 : t170 = true
  ·subst c5
   rw [if_pos rfl] at H
   obtain rfl := Option.some.inj H
   go_enter Tryd.func65, Tryd.ntmps65
   go_wp2_with (first | ((with_reducible refine gate_callee (f := 64) rfl ?_); refine goesL_ (some 4) rfl rfl Tryd.func64 (by kernel_rfl) rfl #[.int .u8 a0] rfl ga_ ?_; (with_reducible refine (constableref01_Lower.calls a0 false _ A2.out).mono ?_); rintro e w' ⟨rfl, ⟨nd, rfl⟩⟩; refine ⟨_, rfl, ?_⟩) | (go_at_call 63; (with_reducible refine (constableref01_Upper.calls a0 true _ A4.out).mono ?_); rintro e w' ⟨rfl, ⟨nd, rfl⟩⟩))
   go_ret
   exact rz_
  ·replace c5 := Bool.eq_false_iff.mpr c5
   subst c5
   rw [if_neg (show ¬ (false = true) by decide)] at H
   replace H := Option.bind_eq_some_iff.mp H
   obtain ⟨t171, A60, H⟩ := H
   try dsimp only at H
   have A6 := Aside0.mk A60
   clear A60
   by_cases c7 : t171 = true
   ·subst c7
    rw [if_pos rfl] at H
    obtain rfl := Option.some.inj H
    go_enter Tryd.func65, Tryd.ntmps65
    go_wp2_with (first | ((with_reducible refine gate_callee (f := 64) rfl ?_); refine goesL_ (some 4) rfl rfl Tryd.func64 (by kernel_rfl) rfl #[.int .u8 a0] rfl ga_ ?_; (with_reducible refine (constableref01_Lower.calls a0 false _ A2.out).mono ?_); rintro e w' ⟨rfl, ⟨nd, rfl⟩⟩; refine ⟨_, rfl, ?_⟩) | (go_at_call 63; (with_reducible refine (constableref01_Upper.calls a0 false _ A4.out).mono ?_); rintro e w' ⟨rfl, ⟨nd, rfl⟩⟩) | (go_at_call 72; (with_reducible refine (constableref01_Digit.calls a0 true _ A6.out).mono ?_); rintro e w' ⟨rfl, ⟨nd, rfl⟩⟩))
    go_ret
    exact rz_
   ·replace c7 := Bool.eq_false_iff.mpr c7
    subst c7
    rw [if_neg (show ¬ (false = true) by decide)] at H
    obtain rfl := Option.some.inj H
    go_enter Tryd.func65, Tryd.ntmps65
    go_wp2_with (first | ((with_reducible refine gate_callee (f := 64) rfl ?_); refine goesL_ (some 4) rfl rfl Tryd.func64 (by kernel_rfl) rfl #[.int .u8 a0] rfl ga_ ?_; (with_reducible refine (constableref01_Lower.calls a0 false _ A2.out).mono ?_); rintro e w' ⟨rfl, ⟨nd, rfl⟩⟩; refine ⟨_, rfl, ?_⟩) | (go_at_call 63; (with_reducible refine (constableref01_Upper.calls a0 false _ A4.out).mono ?_); rintro e w' ⟨rfl, ⟨nd, rfl⟩⟩) | (go_at_call 72; (with_reducible refine (constableref01_Digit.calls a0 false _ A6.out).mono ?_); rintro e w' ⟨rfl, ⟨nd, rfl⟩⟩))
    go_ret
    exact rz_
end Go.Proofs.YtaopajmpifenoaaDoor.P
end
section
namespace Go.Proofs.YtaopajmpifenoaaDoor.P
open Go.RowKit Go.Proofs.YtaopajmpifenoaaDoorW.PrintWords Go.Proofs.YtaopajmpifenoaaDoorW.PrintLast Go.Proofs.YtaopajmpifenoaaDoorW.PrintMore
attribute [local go_sem] max2_int min2_int max_two min_two max_three min_three max_four min_four
set_option linter.unusedVariables false
set_option linter.unusedSimpArgs false
mutual
def constableref01_Word.j0 : Nat → ByteArray → Bool → Option (Bool)
 | 0, _, _ => none
 | k + 1, x0, x26 => if x26 = true then (some false) else (constableref01_Word.l0 k x0 0)
def constableref01_Word.l0 : Nat → ByteArray → Int → Option (Bool)
 | 0, _, _ => none
 | k + 1, x0, x5 => if x5 < (x0.size : Int) then (if 0 ≤ x5 then ((constableref01_inner.f (bt x0 x5)).bind fun t175 => (if t175 = true then (constableref01_Word.l0 k x0 (wrap64 (x5 + 1))) else (some false))) else (none)) else (some true)
end
def constableref01_Word.f (k : Nat) (a0 : ByteArray) (a1 : Bool) : Option (Bool) := (constableref01_In.f (a0.size : Int) 1 24).bind fun t172 => (if t172 = true then (if 0 < (a0.size : Int) then ((constableref01_Upper.f (bt a0 0)).bind fun t173 => (if (a1 != t173) = true then (constableref01_Word.j0 k a0 true) else (if a1 = true then (constableref01_Word.j0 k a0 false) else ((constableref01_Lower.f (bt a0 0)).bind fun t174 => (constableref01_Word.j0 k a0 (!t174)))))) else (none)) else (constableref01_Word.j0 k a0 true))
theorem constableref01_Word.mono_l : ∀ k, (∀ y0 y1, LeO (constableref01_Word.j0 k y0 y1) (constableref01_Word.j0 (k + 1) y0 y1)) ∧ (∀ y0 y1, LeO (constableref01_Word.l0 k y0 y1) (constableref01_Word.l0 (k + 1) y0 y1))
 | 0 => ⟨fun _ _ r h => by simp [constableref01_Word.j0] at h, fun _ _ r h => by simp [constableref01_Word.l0] at h⟩
 | k + 1 => by
  obtain ⟨ih0, ih1⟩ := constableref01_Word.mono_l k
  refine ⟨?_, ?_⟩
  ·intro y0 y1
   unfold constableref01_Word.j0
   repeat' first
   | (with_reducible exact ih0 _ _)
   | (with_reducible exact ih1 _ _)
   | (with_reducible exact LeO.refl _)
   | (with_reducible exact LeO.none _)
   | (with_reducible refine LeO.ite ?_ ?_)
   | (with_reducible refine LeO.bind ?_ (fun _ => ?_))
   | exact ih0 _ _
   | exact ih1 _ _
   | exact LeO.none _
   | refine LeO.ite ?_ ?_
   | refine LeO.bind ?_ (fun _ => ?_)
  ·intro y0 y1
   unfold constableref01_Word.l0
   repeat' first
   | (with_reducible exact ih0 _ _)
   | (with_reducible exact ih1 _ _)
   | (with_reducible exact LeO.refl _)
   | (with_reducible exact LeO.none _)
   | (with_reducible refine LeO.ite ?_ ?_)
   | (with_reducible refine LeO.bind ?_ (fun _ => ?_))
   | exact ih0 _ _
   | exact ih1 _ _
   | exact LeO.none _
   | refine LeO.ite ?_ ?_
   | refine LeO.bind ?_ (fun _ => ?_)
theorem constableref01_Word.mono : ∀ a0 a1 k, LeO (constableref01_Word.f k a0 a1) (constableref01_Word.f (k + 1) a0 a1) := by
 intro a0 a1 k
 obtain ⟨ih0, ih1⟩ := constableref01_Word.mono_l k
 unfold constableref01_Word.f
 repeat' first
   | (with_reducible exact ih0 _ _)
   | (with_reducible exact ih1 _ _)
   | (with_reducible exact LeO.refl _)
   | (with_reducible exact LeO.none _)
   | (with_reducible refine LeO.ite ?_ ?_)
   | (with_reducible refine LeO.bind ?_ (fun _ => ?_))
   | exact ih0 _ _
   | exact ih1 _ _
   | exact LeO.none _
   | refine LeO.ite ?_ ?_
   | refine LeO.bind ?_ (fun _ => ?_)
set_option maxHeartbeats 8000000 in
set_option maxRecDepth 100000 in
theorem constableref01_Word.calls (k : Nat) (a0 : ByteArray) (a1 : Bool) (r : Bool) (w : World) (h : constableref01_Word.f k a0 a1 = some r) :
  Calls Tryd.prog 37 #[.string a0, .bool a1] w fun e w' => e = .returned (.bool r) ∧ Drawn0 w w' := by
 have H : ((constableref01_In.f (a0.size : Int) 1 24).bind fun t172 => (if t172 = true then (if 0 < (a0.size : Int) then ((constableref01_Upper.f (bt a0 0)).bind fun t173 => (if (a1 != t173) = true then (constableref01_Word.j0 k a0 true) else (if a1 = true then (constableref01_Word.j0 k a0 false) else ((constableref01_Lower.f (bt a0 0)).bind fun t174 => (constableref01_Word.j0 k a0 (!t174)))))) else (none)) else (constableref01_Word.j0 k a0 true))) = some r := h
 clear h
 have HC3 := Aside0.mk H
 clear H
 go_enter Tryd.func37, Tryd.ntmps37
 go_upto_region 1 with (fail)
 go_cut [26] (fun v26 wc => ∃ (kq : Nat) (x26_2 : Bool), v26 = .bool x26_2 ∧ Aside0 (constableref01_Word.j0 kq a0 x26_2 = some r) ∧ Aside0 (kq ≤ k) ∧ Drawn0 w wc)
 case first =>
  have H := HC3.out
  clear HC3
  replace H := Option.bind_eq_some_iff.mp H
  obtain ⟨t172, A40, H⟩ := H
  try dsimp only at H
  have A4 := Aside0.mk A40
  clear A40
  by_cases c5 : t172 = true
  ·subst c5
   rw [if_pos rfl] at H
   by_cases c6 : 0 < (a0.size : Int)
   ·rw [if_pos c6] at H
    have c6b0 : decide (0 < (a0.size : Int)) = true := decide_eq_true c6
    have c6b1 : decide (0 < a0.size) = true := decide_eq_true (by omega)
    clear c6
    (first | rw [c6b0] | (simp only [i64_w, i32_w]; rw [c6b0]) | skip)
    replace H := Option.bind_eq_some_iff.mp H
    obtain ⟨t173, A80, H⟩ := H
    try dsimp only at H
    have A8 := Aside0.mk A80
    clear A80
    by_cases c9 : (a1 != t173) = true
    ·rw [if_pos c9] at H
     have c9b0 : (a1 != t173) = true := c9
     (try (have c9b1 : decide (a1 = t173) = false := by simpa using c9))
     (try (have c9b2 : (a1 == t173) = false := by simpa using c9))
     (try (have c9b3 : ¬ (a1 = t173) := by simpa using c9))
     clear c9
     have H' := Aside0.mk H
     clear H
     go_wp2_with (first | ((with_reducible refine gate_callee (f := 55) rfl ?_); refine goesL_ (some 8) rfl rfl Tryd.func55 (by kernel_rfl) rfl #[.int .i64 (a0.size : Int), .int .i64 1, .int .i64 24] rfl ga_ ?_; (with_reducible refine (constableref01_In.calls (a0.size : Int) 1 24 true _ A4.out).mono ?_); rintro e w' ⟨rfl, ⟨nd, rfl⟩⟩; refine ⟨_, rfl, ?_⟩; have p7 : 0 ≤ (0 : Int) := (by omega); have q7 : 0 < a0.size := (by have : (0 : Int) < (a0.size : Int) := dt_; omega); have hx7 : ∀ h : 0 < a0.size, ((a0[0]'h).toNat : Int) = bt a0 0 := bt_at a0 0; clear p7; have qi7 : (0 < (a0.size : Int)) = True := eq_true dt_; replace q7 := eq_true q7) | (go_at_call 63; (with_reducible refine (constableref01_Upper.calls (bt a0 0) t173 _ A8.out).mono ?_); rintro e w' ⟨rfl, ⟨nd, rfl⟩⟩))
     go_meet
     case rel => exact ⟨_, (true), ra_, H', le_, dz_⟩
    ·rw [if_neg c9] at H
     have c9b0 := Bool.eq_false_iff.2 c9
     (try (have c9b1 : decide (a1 = t173) = true := by simpa using c9))
     (try (have c9b2 : (a1 == t173) = true := by simpa using c9))
     clear c9
     by_cases c10 : a1 = true
     ·subst c10
      rw [if_pos rfl] at H
      have H' := Aside0.mk H
      clear H
      go_wp2_with (first | ((with_reducible refine gate_callee (f := 55) rfl ?_); refine goesL_ (some 8) rfl rfl Tryd.func55 (by kernel_rfl) rfl #[.int .i64 (a0.size : Int), .int .i64 1, .int .i64 24] rfl ga_ ?_; (with_reducible refine (constableref01_In.calls (a0.size : Int) 1 24 true _ A4.out).mono ?_); rintro e w' ⟨rfl, ⟨nd, rfl⟩⟩; refine ⟨_, rfl, ?_⟩; have p7 : 0 ≤ (0 : Int) := (by omega); have q7 : 0 < a0.size := (by have : (0 : Int) < (a0.size : Int) := dt_; omega); have hx7 : ∀ h : 0 < a0.size, ((a0[0]'h).toNat : Int) = bt a0 0 := bt_at a0 0; clear p7; have qi7 : (0 < (a0.size : Int)) = True := eq_true dt_; replace q7 := eq_true q7) | (go_at_call 63; (with_reducible refine (constableref01_Upper.calls (bt a0 0) t173 _ A8.out).mono ?_); rintro e w' ⟨rfl, ⟨nd, rfl⟩⟩))
      go_meet
      case rel => exact ⟨_, (false), ra_, H', le_, dz_⟩
     ·replace c10 := Bool.eq_false_iff.mpr c10
      subst c10
      rw [if_neg (show ¬ (false = true) by decide)] at H
      replace H := Option.bind_eq_some_iff.mp H
      obtain ⟨t174, A120, H⟩ := H
      try dsimp only at H
      have A12 := Aside0.mk A120
      clear A120
      have H' := Aside0.mk H
      clear H
      go_wp2_with (first | ((with_reducible refine gate_callee (f := 55) rfl ?_); refine goesL_ (some 8) rfl rfl Tryd.func55 (by kernel_rfl) rfl #[.int .i64 (a0.size : Int), .int .i64 1, .int .i64 24] rfl ga_ ?_; (with_reducible refine (constableref01_In.calls (a0.size : Int) 1 24 true _ A4.out).mono ?_); rintro e w' ⟨rfl, ⟨nd, rfl⟩⟩; refine ⟨_, rfl, ?_⟩; have p7 : 0 ≤ (0 : Int) := (by omega); have q7 : 0 < a0.size := (by have : (0 : Int) < (a0.size : Int) := dt_; omega); have hx7 : ∀ h : 0 < a0.size, ((a0[0]'h).toNat : Int) = bt a0 0 := bt_at a0 0; clear p7; have qi7 : (0 < (a0.size : Int)) = True := eq_true dt_; replace q7 := eq_true q7) | (go_at_call 63; (with_reducible refine (constableref01_Upper.calls (bt a0 0) t173 _ A8.out).mono ?_); rintro e w' ⟨rfl, ⟨nd, rfl⟩⟩; have p11 : 0 ≤ (0 : Int) := (by omega); have q11 : 0 < a0.size := (by have : (0 : Int) < (a0.size : Int) := dt_; omega); have hx11 : ∀ h : 0 < a0.size, ((a0[0]'h).toNat : Int) = bt a0 0 := bt_at a0 0; clear p11; have qi11 : (0 < (a0.size : Int)) = True := eq_true dt_; replace q11 := eq_true q11) | (go_at_call 64; (with_reducible refine (constableref01_Lower.calls (bt a0 0) t174 _ A12.out).mono ?_); rintro e w' ⟨rfl, ⟨nd, rfl⟩⟩))
      go_meet
      case rel => exact ⟨_, (!t174), ra_, H', le_, dz_⟩
   ·rw [if_neg c6] at H
    exact absurd H (by simp)
  ·replace c5 := Bool.eq_false_iff.mpr c5
   subst c5
   rw [if_neg (show ¬ (false = true) by decide)] at H
   have H' := Aside0.mk H
   clear H
   go_wp2_with (first | ((with_reducible refine gate_callee (f := 55) rfl ?_); refine goesL_ (some 8) rfl rfl Tryd.func55 (by kernel_rfl) rfl #[.int .i64 (a0.size : Int), .int .i64 1, .int .i64 24] rfl ga_ ?_; (with_reducible refine (constableref01_In.calls (a0.size : Int) 1 24 false _ A4.out).mono ?_); rintro e w' ⟨rfl, ⟨nd, rfl⟩⟩; refine ⟨_, rfl, ?_⟩))
   go_meet
   case rel => exact ⟨_, (true), ra_, H', le_, dz_⟩
 case rest =>
  clear HC3
  try clear c1; try clear p1; try clear q1; try clear hx1; try clear qi1; try clear p2; try clear c3; try clear c5; try clear c6; try clear c6b0; try clear c6b1; try clear p7; try clear q7; try clear hx7; try clear qi7; try clear c9; try clear c9b0; try clear c9b1; try clear c9b2; try clear c10; try clear p11; try clear q11; try clear hx11; try clear qi11; try clear p11; try clear p7; try clear q11; try clear q7
  obtain ⟨kq, x26_2, rfl, HA, HJ2, ⟨mc2, rfl⟩⟩ := hcut
  cases kq with
  | zero => exact absurd HA.out (by simp [constableref01_Word.j0])
  | succ kj2 =>
   have H := HA.out
   clear HA
   simp only [constableref01_Word.j0] at H
   by_cases c13 : x26_2 = true
   ·subst c13
    rw [if_pos rfl] at H
    obtain rfl := Option.some.inj H
    go_wp2
    go_ret
    exact rz_
   ·replace c13 := Bool.eq_false_iff.mpr c13
    subst c13
    rw [if_neg (show ¬ (false = true) by decide)] at H
    have H' := Aside0.mk H
    clear H
    go_wp2
    go_loopg [5] kj2 (fun kq v5 w' => ∃ (x5_2 : Int), v5 = .int .i64 x5_2 ∧ Aside0 (constableref01_Word.l0 kq a0 x5_2 = some r) ∧ Aside0 (kq ≤ kj2) ∧ Drawn0 w w')
    case atStart => exact ⟨(0), ra_, H', ⟨Nat.le_refl _⟩, dz_⟩
    case round =>
     clear H'
     try clear c1; try clear p1; try clear q1; try clear hx1; try clear qi1; try clear c2; try clear p2; try clear c3; try clear c5; try clear c6; try clear c6b0; try clear c6b1; try clear p7; try clear q7; try clear hx7; try clear qi7; try clear c9; try clear c9b0; try clear c9b1; try clear c9b2; try clear c10; try clear p11; try clear q11; try clear hx11; try clear qi11; try clear c13; try clear p1; try clear p11; try clear p2; try clear p7; try clear q1; try clear q11; try clear q7
     obtain ⟨x5_2, rfl, HA, HK2, ⟨m2, rfl⟩⟩ := hrel
     cases gk with
     | zero => exact absurd HA.out (by simp [constableref01_Word.l0])
     | succ k2 =>
      have H := HA.out
      clear HA
      simp only [constableref01_Word.l0] at H
      by_cases c14 : x5_2 < (a0.size : Int)
      ·rw [if_pos c14] at H
       have c14b0 : decide (x5_2 < (a0.size : Int)) = true := decide_eq_true c14
       clear c14
       by_cases c15 : 0 ≤ x5_2
       ·rw [if_pos c15] at H
        have c15b0 : decide (0 ≤ x5_2) = true := decide_eq_true c15
        clear c15
        replace H := Option.bind_eq_some_iff.mp H
        obtain ⟨t175, A170, H⟩ := H
        try dsimp only at H
        have A17 := Aside0.mk A170
        clear A170
        by_cases c18 : t175 = true
        ·subst c18
         rw [if_pos rfl] at H
         have H' := Aside0.mk H
         clear H
         have p16 : 0 ≤ (x5_2 : Int) := dt_
         have q16 : x5_2 < (a0.size : Int) := dt_
         have hx16 := bt_at a0 x5_2
         replace p16 := eq_true p16
         replace q16 := eq_true q16
         go_wp2_with (first | ((with_reducible refine gate_callee (f := 65) rfl ?_); refine goesL_ (some 36) rfl rfl Tryd.func65 (by kernel_rfl) rfl #[.int .u8 (bt a0 x5_2)] rfl ga_ ?_; (with_reducible refine (constableref01_inner.calls (bt a0 x5_2) true _ A17.out).mono ?_); rintro e w' ⟨rfl, ⟨nd, rfl⟩⟩; refine ⟨_, rfl, ?_⟩))
         go_roundg k2
         case measure => have := HJ2.out; have := HK2.out; omega
         case rel => exact ⟨(wrap64 (x5_2 + 1)), ra_, H', ⟨by have := HJ2.out; have := HK2.out; omega⟩, dz_⟩
        ·replace c18 := Bool.eq_false_iff.mpr c18
         subst c18
         rw [if_neg (show ¬ (false = true) by decide)] at H
         obtain rfl := Option.some.inj H
         have p16 : 0 ≤ (x5_2 : Int) := dt_
         have q16 : x5_2 < (a0.size : Int) := dt_
         have hx16 := bt_at a0 x5_2
         replace p16 := eq_true p16
         replace q16 := eq_true q16
         go_wp2_with (first | ((with_reducible refine gate_callee (f := 65) rfl ?_); refine goesL_ (some 36) rfl rfl Tryd.func65 (by kernel_rfl) rfl #[.int .u8 (bt a0 x5_2)] rfl ga_ ?_; (with_reducible refine (constableref01_inner.calls (bt a0 x5_2) false _ A17.out).mono ?_); rintro e w' ⟨rfl, ⟨nd, rfl⟩⟩; refine ⟨_, rfl, ?_⟩))
         go_ret
         exact rz_
       ·rw [if_neg c15] at H
        exact absurd H (by simp)
      ·rw [if_neg c14] at H
       have c14b0 : decide (x5_2 < (a0.size : Int)) = false := decide_eq_false c14
       clear c14
       obtain rfl := Option.some.inj H
       go_wp2
       go_ret
       exact rz_
end Go.Proofs.YtaopajmpifenoaaDoor.P
end
section
namespace Go.Proofs.YtaopajmpifenoaaDoor.P
open Go.RowKit Go.Proofs.YtaopajmpifenoaaDoorW.PrintWords Go.Proofs.YtaopajmpifenoaaDoorW.PrintLast Go.Proofs.YtaopajmpifenoaaDoorW.PrintMore
attribute [local go_sem] max2_int min2_int max_two min_two max_three min_three max_four min_four
set_option linter.unusedVariables false
set_option linter.unusedSimpArgs false
def constableref01_Name.l0 : Nat → ByteArray → List ByteArray → Int → Option (Bool)
 | 0, _, _, _ => none
 | k + 1, x0, x3, x4 => if x4 < (x3.length : Int) then (if 0 ≤ x4 then (if (rdOf ByteArray.empty x3 x4).toList = x0.toList then (some false) else (constableref01_Name.l0 k x0 x3 (wrap64 (x4 + 1)))) else (none)) else (some true)
def constableref01_Name.f (k : Nat) (a0 : ByteArray) : Option (Bool) := (constableref01_Word.f k a0 false).bind fun t179 => (if t179 = true then ((constableref01_words.f).bind fun t180 => (constableref01_Name.l0 k a0 t180 0)) else (some false))
theorem constableref01_Name.mono_l : ∀ k, (∀ y0 y1 y2, LeO (constableref01_Name.l0 k y0 y1 y2) (constableref01_Name.l0 (k + 1) y0 y1 y2))
 | 0 => fun _ _ _ r h => by simp [constableref01_Name.l0] at h
 | k + 1 => by
  have ih0 := constableref01_Name.mono_l k
  ·intro y0 y1 y2
   unfold constableref01_Name.l0
   repeat' first
   | (with_reducible exact ih0 _ _ _)
   | (with_reducible exact constableref01_Word.mono ..)
   | (with_reducible exact LeO.refl _)
   | (with_reducible exact LeO.none _)
   | (with_reducible refine LeO.ite ?_ ?_)
   | (with_reducible refine LeO.bind ?_ (fun _ => ?_))
   | exact ih0 _ _ _
   | exact constableref01_Word.mono ..
   | exact LeO.none _
   | refine LeO.ite ?_ ?_
   | refine LeO.bind ?_ (fun _ => ?_)
theorem constableref01_Name.mono : ∀ a0 k, LeO (constableref01_Name.f k a0) (constableref01_Name.f (k + 1) a0) := by
 intro a0 k
 have ih0 := constableref01_Name.mono_l k
 unfold constableref01_Name.f
 repeat' first
   | (with_reducible exact ih0 _ _ _)
   | (with_reducible exact constableref01_Word.mono ..)
   | (with_reducible exact LeO.refl _)
   | (with_reducible exact LeO.none _)
   | (with_reducible refine LeO.ite ?_ ?_)
   | (with_reducible refine LeO.bind ?_ (fun _ => ?_))
   | exact ih0 _ _ _
   | exact constableref01_Word.mono ..
   | exact LeO.none _
   | refine LeO.ite ?_ ?_
   | refine LeO.bind ?_ (fun _ => ?_)
set_option maxHeartbeats 8000000 in
set_option maxRecDepth 100000 in
theorem constableref01_Name.calls (k : Nat) (a0 : ByteArray) (r : Bool) (w : World) (h : constableref01_Name.f k a0 = some r) :
  Calls Tryd.prog 16 #[.string a0] w fun e w' => e = .returned (.bool r) ∧ Below w.heap.size w w' := by
 have HB := Aside0.mk (Below.refl w.heap.size w)
 have H : ((constableref01_Word.f k a0 false).bind fun t179 => (if t179 = true then ((constableref01_words.f).bind fun t180 => (constableref01_Name.l0 k a0 t180 0)) else (some false))) = some r := h
 clear h
 replace H := Option.bind_eq_some_iff.mp H
 obtain ⟨t179, A20, H⟩ := H
 try dsimp only at H
 have A2 := Aside0.mk A20
 clear A20
 by_cases c3 : t179 = true
 ·subst c3
  rw [if_pos rfl] at H
  replace H := Option.bind_eq_some_iff.mp H
  obtain ⟨t180, A40, H⟩ := H
  try dsimp only at H
  have A4 := Aside0.mk A40
  clear A40
  have H' := Aside0.mk H
  clear H
  go_enter Tryd.func16, Tryd.ntmps16
  go_wp2_with (first | ((with_reducible refine gate_callee (f := 37) rfl ?_); refine goesL_ (some 6) rfl rfl Tryd.func37 (by kernel_rfl) rfl #[.string a0, .bool false] rfl ga_ ?_; (with_reducible refine (constableref01_Word.calls k a0 false true _ A2.out).mono ?_); rintro e w' ⟨rfl, ⟨nd, rfl⟩⟩; refine ⟨_, rfl, ?_⟩) | ((with_reducible refine gate_callee (f := 38) rfl ?_); refine goesL_ (some 8) rfl rfl Tryd.func38 (by kernel_rfl) rfl #[] rfl ga_ ?_; (with_reducible refine (constableref01_words.calls  t180 _ A4.out).mono ?_); rintro e w5 ⟨v181, rfl, ho0, hb⟩; refine ⟨_, rfl, ?_⟩; have HO182 := Aside0.mk (Kd.R_lower ho0 (below_size (be_ HB))); replace HB := bs_ (be_ HB) hb; (try clear hb); (try clear hb2); (try clear hk); (try clear hi); (try clear ho0)))
  go_loopg [4] k (fun kq v4 w' => ∃ (x4_1 : Int), v4 = .int .i64 x4_1 ∧ Aside0 (constableref01_Name.l0 kq a0 t180 x4_1 = some r) ∧ Aside0 (kq ≤ k) ∧ Aside0 (Kd.R Kd.string 9 w' w.heap.size (fun _ => True) v181 t180) ∧ Aside0 (Below w.heap.size w w'))
  case atStart => exact ⟨(0), ra_, H', ⟨Nat.le_refl _⟩, mR_ (HO182.out), be2_ HB⟩
  case round =>
   clear H'
   try clear c1; try clear p2; try clear c3
   obtain ⟨x4_1, rfl, HA, HK1, HO_3, HB⟩ := hrel
   cases gk with
   | zero => exact absurd HA.out (by simp [constableref01_Name.l0])
   | succ k1 =>
    have H := HA.out
    clear HA
    simp only [constableref01_Name.l0] at H
    by_cases c6 : x4_1 < (t180.length : Int)
    ·rw [if_pos c6] at H
     have c6b0 : decide (x4_1 < (t180.length : Int)) = true := decide_eq_true c6
     clear c6
     by_cases c7 : 0 ≤ x4_1
     ·rw [if_pos c7] at H
      have c7b0 : decide (0 ≤ x4_1) = true := decide_eq_true c7
      clear c7
      by_cases c8 : (rdOf ByteArray.empty t180 x4_1).toList = a0.toList
      ·rw [if_pos c8] at H
       obtain ⟨c8b0, c8b1⟩ := eqB_ c8
       clear c8
       obtain rfl := Option.some.inj H
       obtain ⟨Ao9, co9, eo9⟩ := Kd.R_slice HO_3.out
       subst eo9
       have p183 : 0 ≤ (x4_1 : Int) := dt_
       have q183 : x4_1 < (t180.length : Int) := dt_
       obtain ⟨ad183, e183, hx183_0⟩ := Kd.at_string (Kd.R_reads' HO_3.out).2.2 x4_1 p183 q183
       cases e183
       replace p183 := eq_true p183
       replace q183 := eq_true q183
       go_wp2
       go_ret
       exact ⟨re_, be_ HB⟩
      ·rw [if_neg c8] at H
       obtain ⟨c8b0, c8b1⟩ := neB_ c8
       have H' := Aside0.mk H
       clear H
       obtain ⟨Ao10, co10, eo10⟩ := Kd.R_slice HO_3.out
       subst eo10
       have p183 : 0 ≤ (x4_1 : Int) := dt_
       have q183 : x4_1 < (t180.length : Int) := dt_
       obtain ⟨ad183, e183, hx183_0⟩ := Kd.at_string (Kd.R_reads' HO_3.out).2.2 x4_1 p183 q183
       cases e183
       replace p183 := eq_true p183
       replace q183 := eq_true q183
       go_wp2
       go_roundg k1
       case measure => have := HK1.out; omega
       case rel => exact ⟨(wrap64 (x4_1 + 1)), ra_, H', ⟨by have := HK1.out; omega⟩, mR_ (HO_3.out), be2_ HB⟩
     ·rw [if_neg c7] at H
      exact absurd H (by simp)
    ·rw [if_neg c6] at H
     have c6b0 : decide (x4_1 < (t180.length : Int)) = false := decide_eq_false c6
     clear c6
     obtain rfl := Option.some.inj H
     obtain ⟨Ao11, co11, eo11⟩ := Kd.R_slice HO_3.out
     subst eo11
     go_wp2
     go_ret
     exact ⟨re_, be_ HB⟩
 ·replace c3 := Bool.eq_false_iff.mpr c3
  subst c3
  rw [if_neg (show ¬ (false = true) by decide)] at H
  obtain rfl := Option.some.inj H
  go_enter Tryd.func16, Tryd.ntmps16
  go_wp2_with (first | ((with_reducible refine gate_callee (f := 37) rfl ?_); refine goesL_ (some 6) rfl rfl Tryd.func37 (by kernel_rfl) rfl #[.string a0, .bool false] rfl ga_ ?_; (with_reducible refine (constableref01_Word.calls k a0 false false _ A2.out).mono ?_); rintro e w' ⟨rfl, ⟨nd, rfl⟩⟩; refine ⟨_, rfl, ?_⟩))
  go_ret
  exact ⟨re_, be_ HB⟩
end Go.Proofs.YtaopajmpifenoaaDoor.P
end
section
namespace Go.Proofs.YtaopajmpifenoaaDoor.P
open Go.RowKit Go.Proofs.YtaopajmpifenoaaDoorW.PrintWords Go.Proofs.YtaopajmpifenoaaDoorW.PrintLast Go.Proofs.YtaopajmpifenoaaDoorW.PrintMore
attribute [local go_sem] max2_int min2_int max_two min_two max_three min_three max_four min_four
set_option linter.unusedVariables false
set_option linter.unusedSimpArgs false
mutual
def constableref01_Value.j0 : Nat → Bool → Int → Int → ByteArray → Option (Bool)
 | 0, _, _, _, _ => none
 | k + 1, x37, x239000, x239001, x239002 => if x37 = true then (some false) else (constableref01_Value.l0 k 0 x239000 x239001 x239002)
def constableref01_Value.l0 : Nat → Int → Int → Int → ByteArray → Option (Bool)
 | 0, _, _, _, _ => none
 | k + 1, x3, x239000, x239001, x239002 => if x3 < (x239002.size : Int) then (if 0 ≤ x3 then ((constableref01_In.f (wrap64 (bt x239002 x3)) 32 126).bind fun t241 => (if t241 = true then (constableref01_Value.l0 k (wrap64 (x3 + 1)) x239000 x239001 x239002) else (some false))) else (none)) else (some true)
end
def constableref01_Value.f (k : Nat) (a0_0 : Int) (a0_1 : Int) (a0_2 : ByteArray) : Option (Bool) := if a0_0 = 1 then ((constableref01_In.f a0_1 (-4611686018427387904) 4611686018427387904).bind fun t239 => (if t239 = true then (some ((a0_2.size : Int) == 0)) else (some false))) else (if a0_0 = 2 then (if a0_1 = 0 then ((constableref01_Word.f k a0_2 false).bind fun t240 => (some t240)) else (some false)) else (if a0_0 = 3 then (if a0_1 = 0 then (constableref01_Value.j0 k (decide ((a0_2.size : Int) > 60)) a0_0 a0_1 a0_2) else (constableref01_Value.j0 k true a0_0 a0_1 a0_2)) else (some false)))
theorem constableref01_Value.mono_l : ∀ k, (∀ y0 y1 y2 y3, LeO (constableref01_Value.j0 k y0 y1 y2 y3) (constableref01_Value.j0 (k + 1) y0 y1 y2 y3)) ∧ (∀ y0 y1 y2 y3, LeO (constableref01_Value.l0 k y0 y1 y2 y3) (constableref01_Value.l0 (k + 1) y0 y1 y2 y3))
 | 0 => ⟨fun _ _ _ _ r h => by simp [constableref01_Value.j0] at h, fun _ _ _ _ r h => by simp [constableref01_Value.l0] at h⟩
 | k + 1 => by
  obtain ⟨ih0, ih1⟩ := constableref01_Value.mono_l k
  refine ⟨?_, ?_⟩
  ·intro y0 y1 y2 y3
   unfold constableref01_Value.j0
   repeat' first
   | (with_reducible exact ih0 _ _ _ _)
   | (with_reducible exact ih1 _ _ _ _)
   | (with_reducible exact constableref01_Word.mono ..)
   | (with_reducible exact LeO.refl _)
   | (with_reducible exact LeO.none _)
   | (with_reducible refine LeO.ite ?_ ?_)
   | (with_reducible refine LeO.bind ?_ (fun _ => ?_))
   | exact ih0 _ _ _ _
   | exact ih1 _ _ _ _
   | exact constableref01_Word.mono ..
   | exact LeO.none _
   | refine LeO.ite ?_ ?_
   | refine LeO.bind ?_ (fun _ => ?_)
  ·intro y0 y1 y2 y3
   unfold constableref01_Value.l0
   repeat' first
   | (with_reducible exact ih0 _ _ _ _)
   | (with_reducible exact ih1 _ _ _ _)
   | (with_reducible exact constableref01_Word.mono ..)
   | (with_reducible exact LeO.refl _)
   | (with_reducible exact LeO.none _)
   | (with_reducible refine LeO.ite ?_ ?_)
   | (with_reducible refine LeO.bind ?_ (fun _ => ?_))
   | exact ih0 _ _ _ _
   | exact ih1 _ _ _ _
   | exact constableref01_Word.mono ..
   | exact LeO.none _
   | refine LeO.ite ?_ ?_
   | refine LeO.bind ?_ (fun _ => ?_)
theorem constableref01_Value.mono : ∀ a0 a1 a2 k, LeO (constableref01_Value.f k a0 a1 a2) (constableref01_Value.f (k + 1) a0 a1 a2) := by
 intro a0 a1 a2 k
 obtain ⟨ih0, ih1⟩ := constableref01_Value.mono_l k
 unfold constableref01_Value.f
 repeat' first
   | (with_reducible exact ih0 _ _ _ _)
   | (with_reducible exact ih1 _ _ _ _)
   | (with_reducible exact constableref01_Word.mono ..)
   | (with_reducible exact LeO.refl _)
   | (with_reducible exact LeO.none _)
   | (with_reducible refine LeO.ite ?_ ?_)
   | (with_reducible refine LeO.bind ?_ (fun _ => ?_))
   | exact ih0 _ _ _ _
   | exact ih1 _ _ _ _
   | exact constableref01_Word.mono ..
   | exact LeO.none _
   | refine LeO.ite ?_ ?_
   | refine LeO.bind ?_ (fun _ => ?_)
set_option maxHeartbeats 8000000 in
set_option maxRecDepth 100000 in
theorem constableref01_Value.calls (k : Nat) (a0_0 : Int) (a0_1 : Int) (a0_2 : ByteArray) (r : Bool) (w : World) (h : constableref01_Value.f k a0_0 a0_1 a0_2 = some r) :
  Calls Tryd.prog 31 #[.agg #[.int .i64 a0_0, .int .i64 a0_1, .string a0_2]] w fun e w' => e = .returned (.bool r) ∧ Below w.heap.size w w' := by
 have hu44 := Tryd.underlying44
 have HB := Aside0.mk (Below.refl w.heap.size w)
 have H : (if a0_0 = 1 then ((constableref01_In.f a0_1 (-4611686018427387904) 4611686018427387904).bind fun t239 => (if t239 = true then (some ((a0_2.size : Int) == 0)) else (some false))) else (if a0_0 = 2 then (if a0_1 = 0 then ((constableref01_Word.f k a0_2 false).bind fun t240 => (some t240)) else (some false)) else (if a0_0 = 3 then (if a0_1 = 0 then (constableref01_Value.j0 k (decide ((a0_2.size : Int) > 60)) a0_0 a0_1 a0_2) else (constableref01_Value.j0 k true a0_0 a0_1 a0_2)) else (some false)))) = some r := h
 clear h
 by_cases c2 : a0_0 = 1
 ·rw [if_pos c2] at H
  obtain ⟨c2b0, c2b1⟩ := eqB_ c2
  clear c2
  replace H := Option.bind_eq_some_iff.mp H
  obtain ⟨t239, A30, H⟩ := H
  try dsimp only at H
  have A3 := Aside0.mk A30
  clear A30
  by_cases c4 : t239 = true
  ·subst c4
   rw [if_pos rfl] at H
   obtain rfl := Option.some.inj H
   go_enter Tryd.func31, Tryd.ntmps31
   go_wp2_with (first | ((with_reducible refine gate_dst (N := 1) rfl ?_); (try (refine gate_guard (by rfl) ?_; dsimp only)); refine box_event ?hg (N := 1) ?hd (cs := #[.int .i64 a0_0, .int .i64 a0_1, .string a0_2]) (t := 44) ?hr ?_; (case hd => rfl); (case hg => rfl); (case hr => first | (go_simp; done) | (go_simp; rfl)); intro gb238 hg w5 hbox hb; have BK238 := Aside0.mk (hbox); have GW238 := gs_ hg (be_ HB); have GE238 := gs_ hg (be_ HB); replace HB := bs_ (be_ HB) hb; clear hb hbox hg; have hcz6_0 : w5.cell? ⟨gb238, 0, none⟩ = some (.int .i64 a0_0) := (blk_cell BK238.out 0).trans rfl; have hcz6_1 : w5.cell? ⟨gb238, 1, none⟩ = some (.int .i64 a0_1) := (blk_cell BK238.out 1).trans rfl; have hcz6_2 : w5.cell? ⟨gb238, 2, none⟩ = some (.string a0_2) := (blk_cell BK238.out 2).trans rfl; have hfz6_0 := blk_frozen BK238.out 0; have hfz6_1 := blk_frozen BK238.out 1; have hfz6_2 := blk_frozen BK238.out 2) | ((with_reducible refine gate_callee (f := 55) rfl ?_); refine goesL_ (some 10) rfl rfl Tryd.func55 (by kernel_rfl) rfl #[.int .i64 a0_1, .int .i64 (-4611686018427387904), .int .i64 4611686018427387904] rfl ga_ ?_; (with_reducible refine (constableref01_In.calls a0_1 (-4611686018427387904) 4611686018427387904 true _ A3.out).mono ?_); rintro e w' ⟨rfl, ⟨nd, rfl⟩⟩; refine ⟨_, rfl, ?_⟩))
   go_ret
   exact ⟨re_, be_ HB⟩
  ·replace c4 := Bool.eq_false_iff.mpr c4
   subst c4
   rw [if_neg (show ¬ (false = true) by decide)] at H
   obtain rfl := Option.some.inj H
   go_enter Tryd.func31, Tryd.ntmps31
   go_wp2_with (first | ((with_reducible refine gate_dst (N := 1) rfl ?_); (try (refine gate_guard (by rfl) ?_; dsimp only)); refine box_event ?hg (N := 1) ?hd (cs := #[.int .i64 a0_0, .int .i64 a0_1, .string a0_2]) (t := 44) ?hr ?_; (case hd => rfl); (case hg => rfl); (case hr => first | (go_simp; done) | (go_simp; rfl)); intro gb238 hg w7 hbox hb; have BK238 := Aside0.mk (hbox); have GW238 := gs_ hg (be_ HB); have GE238 := gs_ hg (be_ HB); replace HB := bs_ (be_ HB) hb; clear hb hbox hg; have hcz8_0 : w7.cell? ⟨gb238, 0, none⟩ = some (.int .i64 a0_0) := (blk_cell BK238.out 0).trans rfl; have hcz8_1 : w7.cell? ⟨gb238, 1, none⟩ = some (.int .i64 a0_1) := (blk_cell BK238.out 1).trans rfl; have hcz8_2 : w7.cell? ⟨gb238, 2, none⟩ = some (.string a0_2) := (blk_cell BK238.out 2).trans rfl; have hfz8_0 := blk_frozen BK238.out 0; have hfz8_1 := blk_frozen BK238.out 1; have hfz8_2 := blk_frozen BK238.out 2) | ((with_reducible refine gate_callee (f := 55) rfl ?_); refine goesL_ (some 10) rfl rfl Tryd.func55 (by kernel_rfl) rfl #[.int .i64 a0_1, .int .i64 (-4611686018427387904), .int .i64 4611686018427387904] rfl ga_ ?_; (with_reducible refine (constableref01_In.calls a0_1 (-4611686018427387904) 4611686018427387904 false _ A3.out).mono ?_); rintro e w' ⟨rfl, ⟨nd, rfl⟩⟩; refine ⟨_, rfl, ?_⟩))
   go_ret
   exact ⟨re_, be_ HB⟩
 ·rw [if_neg c2] at H
  obtain ⟨c2b0, c2b1⟩ := neB_ c2
  by_cases c9 : a0_0 = 2
  ·rw [if_pos c9] at H
   obtain ⟨c9b0, c9b1⟩ := eqB_ c9
   clear c9
   by_cases c10 : a0_1 = 0
   ·rw [if_pos c10] at H
    obtain ⟨c10b0, c10b1⟩ := eqB_ c10
    clear c10
    replace H := Option.bind_eq_some_iff.mp H
    obtain ⟨t240, A110, H⟩ := H
    try dsimp only at H
    have A11 := Aside0.mk A110
    clear A110
    obtain rfl := Option.some.inj H
    go_enter Tryd.func31, Tryd.ntmps31
    go_wp2_with (first | ((with_reducible refine gate_dst (N := 1) rfl ?_); (try (refine gate_guard (by rfl) ?_; dsimp only)); refine box_event ?hg (N := 1) ?hd (cs := #[.int .i64 a0_0, .int .i64 a0_1, .string a0_2]) (t := 44) ?hr ?_; (case hd => rfl); (case hg => rfl); (case hr => first | (go_simp; done) | (go_simp; rfl)); intro gb238 hg w12 hbox hb; have BK238 := Aside0.mk (hbox); have GW238 := gs_ hg (be_ HB); have GE238 := gs_ hg (be_ HB); replace HB := bs_ (be_ HB) hb; clear hb hbox hg; have hcz13_0 : w12.cell? ⟨gb238, 0, none⟩ = some (.int .i64 a0_0) := (blk_cell BK238.out 0).trans rfl; have hcz13_1 : w12.cell? ⟨gb238, 1, none⟩ = some (.int .i64 a0_1) := (blk_cell BK238.out 1).trans rfl; have hcz13_2 : w12.cell? ⟨gb238, 2, none⟩ = some (.string a0_2) := (blk_cell BK238.out 2).trans rfl; have hfz13_0 := blk_frozen BK238.out 0; have hfz13_1 := blk_frozen BK238.out 1; have hfz13_2 := blk_frozen BK238.out 2) | (go_at_call 37; (with_reducible refine (constableref01_Word.calls k a0_2 false t240 _ A11.out).mono ?_); rintro e w' ⟨rfl, ⟨nd, rfl⟩⟩))
    go_ret
    exact ⟨re_, be_ HB⟩
   ·rw [if_neg c10] at H
    obtain ⟨c10b0, c10b1⟩ := neB_ c10
    obtain rfl := Option.some.inj H
    go_enter Tryd.func31, Tryd.ntmps31
    go_wp2_with (first | ((with_reducible refine gate_dst (N := 1) rfl ?_); (try (refine gate_guard (by rfl) ?_; dsimp only)); refine box_event ?hg (N := 1) ?hd (cs := #[.int .i64 a0_0, .int .i64 a0_1, .string a0_2]) (t := 44) ?hr ?_; (case hd => rfl); (case hg => rfl); (case hr => first | (go_simp; done) | (go_simp; rfl)); intro gb238 hg w14 hbox hb; have BK238 := Aside0.mk (hbox); have GW238 := gs_ hg (be_ HB); have GE238 := gs_ hg (be_ HB); replace HB := bs_ (be_ HB) hb; clear hb hbox hg; have hcz15_0 : w14.cell? ⟨gb238, 0, none⟩ = some (.int .i64 a0_0) := (blk_cell BK238.out 0).trans rfl; have hcz15_1 : w14.cell? ⟨gb238, 1, none⟩ = some (.int .i64 a0_1) := (blk_cell BK238.out 1).trans rfl; have hcz15_2 : w14.cell? ⟨gb238, 2, none⟩ = some (.string a0_2) := (blk_cell BK238.out 2).trans rfl; have hfz15_0 := blk_frozen BK238.out 0; have hfz15_1 := blk_frozen BK238.out 1; have hfz15_2 := blk_frozen BK238.out 2))
    go_ret
    exact ⟨re_, be_ HB⟩
  ·rw [if_neg c9] at H
   obtain ⟨c9b0, c9b1⟩ := neB_ c9
   by_cases c16 : a0_0 = 3
   ·rw [if_pos c16] at H
    obtain ⟨c16b0, c16b1⟩ := eqB_ c16
    clear c16
    have HC17 := Aside0.mk H
    clear H
    go_enter Tryd.func31, Tryd.ntmps31
    go_upto_region 7 with (first | ((with_reducible refine gate_dst (N := 1) rfl ?_); (try (refine gate_guard (by rfl) ?_; dsimp only)); refine box_event ?hg (N := 1) ?hd (cs := #[.int .i64 a0_0, .int .i64 a0_1, .string a0_2]) (t := 44) ?hr ?_; (case hd => rfl); (case hg => rfl); (case hr => first | (go_simp; done) | (go_simp; rfl)); intro gb238 hg w18 hbox hb; have BK238 := Aside0.mk (hbox); have GW238 := gs_ hg (be_ HB); have GE238 := gs_ hg (be_ HB); replace HB := bs_ (be_ HB) hb; clear hb hbox hg; have hcz19_0 : w18.cell? ⟨gb238, 0, none⟩ = some (.int .i64 a0_0) := (blk_cell BK238.out 0).trans rfl; have hcz19_1 : w18.cell? ⟨gb238, 1, none⟩ = some (.int .i64 a0_1) := (blk_cell BK238.out 1).trans rfl; have hcz19_2 : w18.cell? ⟨gb238, 2, none⟩ = some (.string a0_2) := (blk_cell BK238.out 2).trans rfl; have hfz19_0 := blk_frozen BK238.out 0; have hfz19_1 := blk_frozen BK238.out 1; have hfz19_2 := blk_frozen BK238.out 2))
    (try simp only [Act.put, List.setIfInBounds_toArray, List.set_cons_zero, List.set_cons_succ])
    go_cut [37] (fun v37 wc => ∃ (kq : Nat) (x37_16 : Bool), v37 = .bool x37_16 ∧ Aside0 (constableref01_Value.j0 kq x37_16 a0_0 a0_1 a0_2 = some r) ∧ Aside0 (kq ≤ k) ∧ Aside0 (wc.heap[gb238]? = some (.cells #[.int .i64 a0_0, .int .i64 a0_1, .string a0_2] 44 (0, 0))) ∧ Aside0 (Below w.heap.size w wc))
    case first =>
     have H := HC17.out
     clear HC17
     by_cases c20 : a0_1 = 0
     ·rw [if_pos c20] at H
      obtain ⟨c20b0, c20b1⟩ := eqB_ c20
      clear c20
      (first | rw [c20b0] | (simp only [i64_w, i32_w]; rw [c20b0]) | skip)
      have H' := Aside0.mk H
      clear H
      have hcz21_0 : w18.cell? ⟨gb238, 0, none⟩ = some (.int .i64 a0_0) := (blk_cell BK238.out 0).trans rfl
      have hcz21_1 : w18.cell? ⟨gb238, 1, none⟩ = some (.int .i64 a0_1) := (blk_cell BK238.out 1).trans rfl
      have hcz21_2 : w18.cell? ⟨gb238, 2, none⟩ = some (.string a0_2) := (blk_cell BK238.out 2).trans rfl
      have hfz21_0 := blk_frozen BK238.out 0
      have hfz21_1 := blk_frozen BK238.out 1
      have hfz21_2 := blk_frozen BK238.out 2
      go_wp2
      go_meet
      case rel => exact ⟨_, (decide ((a0_2.size : Int) > 60)), ra_, H', le_, bu2_ BK238, be2_ HB⟩
     ·rw [if_neg c20] at H
      obtain ⟨c20b0, c20b1⟩ := neB_ c20
      (first | rw [c20b0] | (simp only [i64_w, i32_w]; rw [c20b0]) | skip)
      have H' := Aside0.mk H
      clear H
      have hcz22_0 : w18.cell? ⟨gb238, 0, none⟩ = some (.int .i64 a0_0) := (blk_cell BK238.out 0).trans rfl
      have hcz22_1 : w18.cell? ⟨gb238, 1, none⟩ = some (.int .i64 a0_1) := (blk_cell BK238.out 1).trans rfl
      have hcz22_2 : w18.cell? ⟨gb238, 2, none⟩ = some (.string a0_2) := (blk_cell BK238.out 2).trans rfl
      have hfz22_0 := blk_frozen BK238.out 0
      have hfz22_1 := blk_frozen BK238.out 1
      have hfz22_2 := blk_frozen BK238.out 2
      go_wp2
      go_meet
      case rel => exact ⟨_, (true), ra_, H', le_, bu2_ BK238, be2_ HB⟩
    case rest =>
     clear HC17
     try clear c1; try clear c2; try clear c2b0; try clear c2b1; try clear p2; try clear c3; try clear c4; try clear c5; try clear c9; try clear c9b0; try clear c9b1; try clear c10; try clear c10b0; try clear c10b1; try clear c16; try clear c16b0; try clear c16b1; try clear c20; try clear c20b0; try clear c20b1; try clear hcz13_0; try clear hcz13_1; try clear hcz13_2; try clear hcz15_0; try clear hcz15_1; try clear hcz15_2; try clear hcz19_0; try clear hcz19_1; try clear hcz19_2; try clear hcz21_0; try clear hcz21_1; try clear hcz21_2; try clear hcz22_0; try clear hcz22_1; try clear hcz22_2; try clear hcz6_0; try clear hcz6_1; try clear hcz6_2; try clear hcz8_0; try clear hcz8_1; try clear hcz8_2; try clear hfz13_0; try clear hfz13_1; try clear hfz13_2; try clear hfz15_0; try clear hfz15_1; try clear hfz15_2; try clear hfz19_0; try clear hfz19_1; try clear hfz19_2; try clear hfz21_0; try clear hfz21_1; try clear hfz21_2; try clear hfz22_0; try clear hfz22_1; try clear hfz22_2; try clear hfz6_0; try clear hfz6_1; try clear hfz6_2; try clear hfz8_0; try clear hfz8_1; try clear hfz8_2
     obtain ⟨kq, x37_16, rfl, HA, HJ16, BK238, HB⟩ := hcut
     cases kq with
     | zero => exact absurd HA.out (by simp [constableref01_Value.j0])
     | succ kj16 =>
      have H := HA.out
      clear HA
      simp only [constableref01_Value.j0] at H
      by_cases c23 : x37_16 = true
      ·subst c23
       rw [if_pos rfl] at H
       obtain rfl := Option.some.inj H
       go_wp2
       go_ret
       exact ⟨re_, be_ HB⟩
      ·replace c23 := Bool.eq_false_iff.mpr c23
       subst c23
       rw [if_neg (show ¬ (false = true) by decide)] at H
       have H' := Aside0.mk H
       clear H
       go_wp2
       go_loopg [3] kj16 (fun kq v3 w' => ∃ (x3_2 : Int), v3 = .int .i64 x3_2 ∧ Aside0 (constableref01_Value.l0 kq x3_2 a0_0 a0_1 a0_2 = some r) ∧ Aside0 (kq ≤ kj16) ∧ Aside0 (w'.heap[gb238]? = some (.cells #[.int .i64 a0_0, .int .i64 a0_1, .string a0_2] 44 (0, 0))) ∧ Aside0 (Below w.heap.size w w'))
       case atStart => exact ⟨(0), ra_, H', ⟨Nat.le_refl _⟩, bu2_ BK238, be2_ HB⟩
       case round =>
        clear H'
        try clear c1; try clear c2; try clear c2b0; try clear c2b1; try clear p2; try clear c3; try clear c4; try clear c5; try clear c9; try clear c9b0; try clear c9b1; try clear c10; try clear c10b0; try clear c10b1; try clear c16; try clear c16b0; try clear c16b1; try clear c20; try clear c20b0; try clear c20b1; try clear c23; try clear hcz13_0; try clear hcz13_1; try clear hcz13_2; try clear hcz15_0; try clear hcz15_1; try clear hcz15_2; try clear hcz19_0; try clear hcz19_1; try clear hcz19_2; try clear hcz21_0; try clear hcz21_1; try clear hcz21_2; try clear hcz22_0; try clear hcz22_1; try clear hcz22_2; try clear hcz6_0; try clear hcz6_1; try clear hcz6_2; try clear hcz8_0; try clear hcz8_1; try clear hcz8_2; try clear hfz13_0; try clear hfz13_1; try clear hfz13_2; try clear hfz15_0; try clear hfz15_1; try clear hfz15_2; try clear hfz19_0; try clear hfz19_1; try clear hfz19_2; try clear hfz21_0; try clear hfz21_1; try clear hfz21_2; try clear hfz22_0; try clear hfz22_1; try clear hfz22_2; try clear hfz6_0; try clear hfz6_1; try clear hfz6_2; try clear hfz8_0; try clear hfz8_1; try clear hfz8_2; try clear p2
        obtain ⟨x3_2, rfl, HA, HK2, BK238, HB⟩ := hrel
        cases gk with
        | zero => exact absurd HA.out (by simp [constableref01_Value.l0])
        | succ k2 =>
         have H := HA.out
         clear HA
         simp only [constableref01_Value.l0] at H
         by_cases c24 : x3_2 < (a0_2.size : Int)
         ·rw [if_pos c24] at H
          have c24b0 : decide (x3_2 < (a0_2.size : Int)) = true := decide_eq_true c24
          clear c24
          by_cases c25 : 0 ≤ x3_2
          ·rw [if_pos c25] at H
           have c25b0 : decide (0 ≤ x3_2) = true := decide_eq_true c25
           clear c25
           replace H := Option.bind_eq_some_iff.mp H
           obtain ⟨t241, A270, H⟩ := H
           try dsimp only at H
           have A27 := Aside0.mk A270
           clear A270
           by_cases c28 : t241 = true
           ·subst c28
            rw [if_pos rfl] at H
            have H' := Aside0.mk H
            clear H
            have hcz29_0 : wr.cell? ⟨gb238, 0, none⟩ = some (.int .i64 a0_0) := (blk_cell BK238.out 0).trans rfl
            have hcz29_1 : wr.cell? ⟨gb238, 1, none⟩ = some (.int .i64 a0_1) := (blk_cell BK238.out 1).trans rfl
            have hcz29_2 : wr.cell? ⟨gb238, 2, none⟩ = some (.string a0_2) := (blk_cell BK238.out 2).trans rfl
            have hfz29_0 := blk_frozen BK238.out 0
            have hfz29_1 := blk_frozen BK238.out 1
            have hfz29_2 := blk_frozen BK238.out 2
            have p26 : 0 ≤ (x3_2 : Int) := dt_
            have q26 : x3_2 < (a0_2.size : Int) := dt_
            have hx26 := bt_at a0_2 x3_2
            replace p26 := eq_true p26
            replace q26 := eq_true q26
            go_wp2_with (first | ((with_reducible refine gate_callee (f := 55) rfl ?_); refine goesL_ (some 50) rfl rfl Tryd.func55 (by kernel_rfl) rfl #[.int .i64 (wrap64 (bt a0_2 x3_2)), .int .i64 32, .int .i64 126] rfl ga_ ?_; (with_reducible refine (constableref01_In.calls (wrap64 (bt a0_2 x3_2)) 32 126 true _ A27.out).mono ?_); rintro e w' ⟨rfl, ⟨nd, rfl⟩⟩; refine ⟨_, rfl, ?_⟩))
            go_roundg k2
            case measure => have := HJ16.out; have := HK2.out; omega
            case rel => exact ⟨(wrap64 (x3_2 + 1)), ra_, H', ⟨by have := HJ16.out; have := HK2.out; omega⟩, bu2_ BK238, be2_ HB⟩
           ·replace c28 := Bool.eq_false_iff.mpr c28
            subst c28
            rw [if_neg (show ¬ (false = true) by decide)] at H
            obtain rfl := Option.some.inj H
            have hcz30_0 : wr.cell? ⟨gb238, 0, none⟩ = some (.int .i64 a0_0) := (blk_cell BK238.out 0).trans rfl
            have hcz30_1 : wr.cell? ⟨gb238, 1, none⟩ = some (.int .i64 a0_1) := (blk_cell BK238.out 1).trans rfl
            have hcz30_2 : wr.cell? ⟨gb238, 2, none⟩ = some (.string a0_2) := (blk_cell BK238.out 2).trans rfl
            have hfz30_0 := blk_frozen BK238.out 0
            have hfz30_1 := blk_frozen BK238.out 1
            have hfz30_2 := blk_frozen BK238.out 2
            have p26 : 0 ≤ (x3_2 : Int) := dt_
            have q26 : x3_2 < (a0_2.size : Int) := dt_
            have hx26 := bt_at a0_2 x3_2
            replace p26 := eq_true p26
            replace q26 := eq_true q26
            go_wp2_with (first | ((with_reducible refine gate_callee (f := 55) rfl ?_); refine goesL_ (some 50) rfl rfl Tryd.func55 (by kernel_rfl) rfl #[.int .i64 (wrap64 (bt a0_2 x3_2)), .int .i64 32, .int .i64 126] rfl ga_ ?_; (with_reducible refine (constableref01_In.calls (wrap64 (bt a0_2 x3_2)) 32 126 false _ A27.out).mono ?_); rintro e w' ⟨rfl, ⟨nd, rfl⟩⟩; refine ⟨_, rfl, ?_⟩))
            go_ret
            exact ⟨re_, be_ HB⟩
          ·rw [if_neg c25] at H
           exact absurd H (by simp)
         ·rw [if_neg c24] at H
          have c24b0 : decide (x3_2 < (a0_2.size : Int)) = false := decide_eq_false c24
          clear c24
          obtain rfl := Option.some.inj H
          have hcz31_0 : wr.cell? ⟨gb238, 0, none⟩ = some (.int .i64 a0_0) := (blk_cell BK238.out 0).trans rfl
          have hcz31_1 : wr.cell? ⟨gb238, 1, none⟩ = some (.int .i64 a0_1) := (blk_cell BK238.out 1).trans rfl
          have hcz31_2 : wr.cell? ⟨gb238, 2, none⟩ = some (.string a0_2) := (blk_cell BK238.out 2).trans rfl
          have hfz31_0 := blk_frozen BK238.out 0
          have hfz31_1 := blk_frozen BK238.out 1
          have hfz31_2 := blk_frozen BK238.out 2
          go_wp2
          go_ret
          exact ⟨re_, be_ HB⟩
   ·rw [if_neg c16] at H
    obtain ⟨c16b0, c16b1⟩ := neB_ c16
    obtain rfl := Option.some.inj H
    go_enter Tryd.func31, Tryd.ntmps31
    go_wp2_with (first | ((with_reducible refine gate_dst (N := 1) rfl ?_); (try (refine gate_guard (by rfl) ?_; dsimp only)); refine box_event ?hg (N := 1) ?hd (cs := #[.int .i64 a0_0, .int .i64 a0_1, .string a0_2]) (t := 44) ?hr ?_; (case hd => rfl); (case hg => rfl); (case hr => first | (go_simp; done) | (go_simp; rfl)); intro gb238 hg w32 hbox hb; have BK238 := Aside0.mk (hbox); have GW238 := gs_ hg (be_ HB); have GE238 := gs_ hg (be_ HB); replace HB := bs_ (be_ HB) hb; clear hb hbox hg; have hcz33_0 : w32.cell? ⟨gb238, 0, none⟩ = some (.int .i64 a0_0) := (blk_cell BK238.out 0).trans rfl; have hcz33_1 : w32.cell? ⟨gb238, 1, none⟩ = some (.int .i64 a0_1) := (blk_cell BK238.out 1).trans rfl; have hcz33_2 : w32.cell? ⟨gb238, 2, none⟩ = some (.string a0_2) := (blk_cell BK238.out 2).trans rfl; have hfz33_0 := blk_frozen BK238.out 0; have hfz33_1 := blk_frozen BK238.out 1; have hfz33_2 := blk_frozen BK238.out 2))
    go_ret
    exact ⟨re_, be_ HB⟩
end Go.Proofs.YtaopajmpifenoaaDoor.P
end
section
namespace Go.Proofs.YtaopajmpifenoaaDoor.P
open Go.RowKit Go.Proofs.YtaopajmpifenoaaDoorW.PrintWords Go.Proofs.YtaopajmpifenoaaDoorW.PrintLast Go.Proofs.YtaopajmpifenoaaDoorW.PrintMore
attribute [local go_sem] max2_int min2_int max_two min_two max_three min_three max_four min_four
set_option linter.unusedVariables false
set_option linter.unusedSimpArgs false
mutual
def constableref01_Fact.j0 : Nat → Bool → ByteArray → List (S44) → Option (Bool)
 | 0, _, _, _ => none
 | k + 1, x13, x243000, x243001 => if x13 = true then (some false) else (constableref01_Fact.l0 k 0 x243000 x243001)
def constableref01_Fact.l0 : Nat → Int → ByteArray → List (S44) → Option (Bool)
 | 0, _, _, _ => none
 | k + 1, x3, x243000, x243001 => if x3 < (x243001.length : Int) then (if 0 ≤ x3 then ((constableref01_Value.f k ((rd_T44 x243001 x3).f0) ((rd_T44 x243001 x3).f1) ((rd_T44 x243001 x3).f2)).bind fun t245 => (if t245 = true then (constableref01_Fact.l0 k (wrap64 (x3 + 1)) x243000 x243001) else (some false))) else (none)) else (some true)
end
def constableref01_Fact.f (k : Nat) (a0_0 : ByteArray) (l0_1 : List (S44)) : Option (Bool) := (constableref01_Name.f k a0_0).bind fun t243 => (if t243 = true then (constableref01_Fact.j0 k (decide ((l0_1.length : Int) > 5)) a0_0 l0_1) else (constableref01_Fact.j0 k true a0_0 l0_1))
theorem constableref01_Fact.mono_l : ∀ k, (∀ y0 y1 y2, LeO (constableref01_Fact.j0 k y0 y1 y2) (constableref01_Fact.j0 (k + 1) y0 y1 y2)) ∧ (∀ y0 y1 y2, LeO (constableref01_Fact.l0 k y0 y1 y2) (constableref01_Fact.l0 (k + 1) y0 y1 y2))
 | 0 => ⟨fun _ _ _ r h => by simp [constableref01_Fact.j0] at h, fun _ _ _ r h => by simp [constableref01_Fact.l0] at h⟩
 | k + 1 => by
  obtain ⟨ih0, ih1⟩ := constableref01_Fact.mono_l k
  refine ⟨?_, ?_⟩
  ·intro y0 y1 y2
   unfold constableref01_Fact.j0
   repeat' first
   | (with_reducible exact ih0 _ _ _)
   | (with_reducible exact ih1 _ _ _)
   | (with_reducible exact constableref01_Name.mono ..)
   | (with_reducible exact constableref01_Value.mono ..)
   | (with_reducible exact LeO.refl _)
   | (with_reducible exact LeO.none _)
   | (with_reducible refine LeO.ite ?_ ?_)
   | (with_reducible refine LeO.bind ?_ (fun _ => ?_))
   | exact ih0 _ _ _
   | exact ih1 _ _ _
   | exact constableref01_Name.mono ..
   | exact constableref01_Value.mono ..
   | exact LeO.none _
   | refine LeO.ite ?_ ?_
   | refine LeO.bind ?_ (fun _ => ?_)
  ·intro y0 y1 y2
   unfold constableref01_Fact.l0
   repeat' first
   | (with_reducible exact ih0 _ _ _)
   | (with_reducible exact ih1 _ _ _)
   | (with_reducible exact constableref01_Name.mono ..)
   | (with_reducible exact constableref01_Value.mono ..)
   | (with_reducible exact LeO.refl _)
   | (with_reducible exact LeO.none _)
   | (with_reducible refine LeO.ite ?_ ?_)
   | (with_reducible refine LeO.bind ?_ (fun _ => ?_))
   | exact ih0 _ _ _
   | exact ih1 _ _ _
   | exact constableref01_Name.mono ..
   | exact constableref01_Value.mono ..
   | exact LeO.none _
   | refine LeO.ite ?_ ?_
   | refine LeO.bind ?_ (fun _ => ?_)
theorem constableref01_Fact.mono : ∀ a0 a1 k, LeO (constableref01_Fact.f k a0 a1) (constableref01_Fact.f (k + 1) a0 a1) := by
 intro a0 a1 k
 obtain ⟨ih0, ih1⟩ := constableref01_Fact.mono_l k
 unfold constableref01_Fact.f
 repeat' first
   | (with_reducible exact ih0 _ _ _)
   | (with_reducible exact ih1 _ _ _)
   | (with_reducible exact constableref01_Name.mono ..)
   | (with_reducible exact constableref01_Value.mono ..)
   | (with_reducible exact LeO.refl _)
   | (with_reducible exact LeO.none _)
   | (with_reducible refine LeO.ite ?_ ?_)
   | (with_reducible refine LeO.bind ?_ (fun _ => ?_))
   | exact ih0 _ _ _
   | exact ih1 _ _ _
   | exact constableref01_Name.mono ..
   | exact constableref01_Value.mono ..
   | exact LeO.none _
   | refine LeO.ite ?_ ?_
   | refine LeO.bind ?_ (fun _ => ?_)
set_option maxHeartbeats 8000000 in
set_option maxRecDepth 100000 in
theorem constableref01_Fact.calls (k : Nat) (a0_0 : ByteArray) (A0_1 : Option Addr) (c0_1 : Nat) (l0_1 : List (S44)) (r : Bool) (w : World) (hr0_1 : Kd.C k44 w A0_1 l0_1.length l0_1) (hc0_1 : l0_1.length ≤ c0_1) (h : constableref01_Fact.f k a0_0 l0_1 = some r) :
  Calls Tryd.prog 22 #[.agg #[.string a0_0, .slice A0_1 l0_1.length c0_1]] w fun e w' => e = .returned (.bool r) ∧ Below w.heap.size w w' := by
 have hu24 := Tryd.underlying24
 have hu44 := Tryd.underlying44
 have HR0_1 := Aside0.mk hr0_1
 have HC0_1 := Aside0.mk hc0_1
 clear hr0_1 hc0_1
 have HB := Aside0.mk (Below.refl w.heap.size w)
 have H : ((constableref01_Name.f k a0_0).bind fun t243 => (if t243 = true then (constableref01_Fact.j0 k (decide ((l0_1.length : Int) > 5)) a0_0 l0_1) else (constableref01_Fact.j0 k true a0_0 l0_1))) = some r := h
 clear h
 have HC2 := Aside0.mk H
 clear H
 go_enter Tryd.func22, Tryd.ntmps22
 go_upto_region 1 with (first | ((with_reducible refine gate_dst (N := 1) rfl ?_); (try (refine gate_guard (by rfl) ?_; dsimp only)); refine box_event ?hg (N := 1) ?hd (cs := #[.string a0_0, .slice A0_1 l0_1.length c0_1]) (t := 24) ?hr ?_; (case hd => rfl); (case hg => rfl); (case hr => first | (go_simp; done) | (go_simp; rfl)); intro gb242 hg w3 hbox hb; have BK242 := Aside0.mk (hbox); have GW242 := gs_ hg (be_ HB); have GE242 := gs_ hg (be_ HB); replace HB := bs_ (be_ HB) hb; clear hb hbox hg))
 (try simp only [Act.put, List.setIfInBounds_toArray, List.set_cons_zero, List.set_cons_succ])
 go_cut [13] (fun v13 wc => ∃ (kq : Nat) (x13_1 : Bool), v13 = .bool x13_1 ∧ Aside0 (constableref01_Fact.j0 kq x13_1 a0_0 l0_1 = some r) ∧ Aside0 (kq ≤ k) ∧ Aside0 (wc.heap[gb242]? = some (.cells #[.string a0_0, (.slice A0_1 l0_1.length c0_1)] 24 (0, 0))) ∧ Aside0 (Below w.heap.size w wc))
 case first =>
  have H := HC2.out
  clear HC2
  replace H := Option.bind_eq_some_iff.mp H
  obtain ⟨t243, A40, H⟩ := H
  try dsimp only at H
  have A4 := Aside0.mk A40
  clear A40
  by_cases c5 : t243 = true
  ·subst c5
   rw [if_pos rfl] at H
   have H' := Aside0.mk H
   clear H
   have hcz6_0 : w3.cell? ⟨gb242, 0, none⟩ = some (.string a0_0) := (blk_cell BK242.out 0).trans rfl
   have hcz6_1 : w3.cell? ⟨gb242, 1, none⟩ = some (.slice A0_1 l0_1.length c0_1) := (blk_cell BK242.out 1).trans rfl
   have hfz6_0 := blk_frozen BK242.out 0
   have hfz6_1 := blk_frozen BK242.out 1
   go_wp2_with (first | ((with_reducible refine gate_callee (f := 16) rfl ?_); refine goesL_ (some 6) rfl rfl Tryd.func16 (by kernel_rfl) rfl #[.string a0_0] rfl ga_ ?_; (with_reducible refine (constableref01_Name.calls k a0_0 true _ A4.out).mono ?_); rintro e w7 ⟨rfl, hb⟩; refine ⟨_, rfl, ?_⟩; replace BK242 := bb_ (bu_ BK242) hb; replace HB := bs_ (be_ HB) hb; (try clear hb); (try clear hb2); (try clear hk); (try clear hi); have hcz8_0 : w7.cell? ⟨gb242, 0, none⟩ = some (.string a0_0) := (blk_cell BK242.out 0).trans rfl; have hcz8_1 : w7.cell? ⟨gb242, 1, none⟩ = some (.slice A0_1 l0_1.length c0_1) := (blk_cell BK242.out 1).trans rfl; have hfz8_0 := blk_frozen BK242.out 0; have hfz8_1 := blk_frozen BK242.out 1))
   go_meet
   case rel => exact ⟨_, (decide ((l0_1.length : Int) > 5)), ra_, H', le_, bu2_ BK242, be2_ HB⟩
  ·replace c5 := Bool.eq_false_iff.mpr c5
   subst c5
   rw [if_neg (show ¬ (false = true) by decide)] at H
   have H' := Aside0.mk H
   clear H
   have hcz9_0 : w3.cell? ⟨gb242, 0, none⟩ = some (.string a0_0) := (blk_cell BK242.out 0).trans rfl
   have hcz9_1 : w3.cell? ⟨gb242, 1, none⟩ = some (.slice A0_1 l0_1.length c0_1) := (blk_cell BK242.out 1).trans rfl
   have hfz9_0 := blk_frozen BK242.out 0
   have hfz9_1 := blk_frozen BK242.out 1
   go_wp2_with (first | ((with_reducible refine gate_callee (f := 16) rfl ?_); refine goesL_ (some 6) rfl rfl Tryd.func16 (by kernel_rfl) rfl #[.string a0_0] rfl ga_ ?_; (with_reducible refine (constableref01_Name.calls k a0_0 false _ A4.out).mono ?_); rintro e w10 ⟨rfl, hb⟩; refine ⟨_, rfl, ?_⟩; replace BK242 := bb_ (bu_ BK242) hb; replace HB := bs_ (be_ HB) hb; (try clear hb); (try clear hb2); (try clear hk); (try clear hi)))
   go_meet
   case rel => exact ⟨_, (true), ra_, H', le_, bu2_ BK242, be2_ HB⟩
 case rest =>
  clear HC2
  try clear c1; try clear c2; try clear p2; try clear c5; try clear hcz6_0; try clear hcz6_1; try clear hcz8_0; try clear hcz8_1; try clear hcz9_0; try clear hcz9_1; try clear hfz6_0; try clear hfz6_1; try clear hfz8_0; try clear hfz8_1; try clear hfz9_0; try clear hfz9_1
  obtain ⟨kq, x13_1, rfl, HA, HJ1, BK242, HB⟩ := hcut
  cases kq with
  | zero => exact absurd HA.out (by simp [constableref01_Fact.j0])
  | succ kj1 =>
   have H := HA.out
   clear HA
   simp only [constableref01_Fact.j0] at H
   by_cases c11 : x13_1 = true
   ·subst c11
    rw [if_pos rfl] at H
    obtain rfl := Option.some.inj H
    go_wp2
    go_ret
    exact ⟨re_, be_ HB⟩
   ·replace c11 := Bool.eq_false_iff.mpr c11
    subst c11
    rw [if_neg (show ¬ (false = true) by decide)] at H
    have H' := Aside0.mk H
    clear H
    go_wp2
    go_loopg [3] kj1 (fun kq v3 w' => ∃ (x3_2 : Int), v3 = .int .i64 x3_2 ∧ Aside0 (constableref01_Fact.l0 kq x3_2 a0_0 l0_1 = some r) ∧ Aside0 (kq ≤ kj1) ∧ Aside0 (w'.heap[gb242]? = some (.cells #[.string a0_0, (.slice A0_1 l0_1.length c0_1)] 24 (0, 0))) ∧ Aside0 (Below w.heap.size w w'))
    case atStart => exact ⟨(0), ra_, H', ⟨Nat.le_refl _⟩, bu2_ BK242, be2_ HB⟩
    case round =>
     clear H'
     try clear c1; try clear c2; try clear p2; try clear c5; try clear c11; try clear hcz6_0; try clear hcz6_1; try clear hcz8_0; try clear hcz8_1; try clear hcz9_0; try clear hcz9_1; try clear hfz6_0; try clear hfz6_1; try clear hfz8_0; try clear hfz8_1; try clear hfz9_0; try clear hfz9_1; try clear p2
     obtain ⟨x3_2, rfl, HA, HK2, BK242, HB⟩ := hrel
     cases gk with
     | zero => exact absurd HA.out (by simp [constableref01_Fact.l0])
     | succ k2 =>
      have H := HA.out
      clear HA
      simp only [constableref01_Fact.l0] at H
      by_cases c12 : x3_2 < (l0_1.length : Int)
      ·rw [if_pos c12] at H
       have c12b0 : decide (x3_2 < (l0_1.length : Int)) = true := decide_eq_true c12
       clear c12
       by_cases c13 : 0 ≤ x3_2
       ·rw [if_pos c13] at H
        have c13b0 : decide (0 ≤ x3_2) = true := decide_eq_true c13
        clear c13
        replace H := Option.bind_eq_some_iff.mp H
        obtain ⟨t245, A140, H⟩ := H
        try dsimp only at H
        have A14 := Aside0.mk A140
        clear A140
        by_cases c15 : t245 = true
        ·subst c15
         rw [if_pos rfl] at H
         have H' := Aside0.mk H
         clear H
         have hcz16_0 : wr.cell? ⟨gb242, 0, none⟩ = some (.string a0_0) := (blk_cell BK242.out 0).trans rfl
         have hcz16_1 : wr.cell? ⟨gb242, 1, none⟩ = some (.slice A0_1 l0_1.length c0_1) := (blk_cell BK242.out 1).trans rfl
         have hfz16_0 := blk_frozen BK242.out 0
         have hfz16_1 := blk_frozen BK242.out 1
         have p244 : 0 ≤ (x3_2 : Int) := dt_
         have q244 : x3_2 < (l0_1.length : Int) := dt_
         obtain ⟨ad244, e244, hx244_0, hx244_1, hx244_2⟩ := at_T44 HR0_1.out x3_2 p244 q244
         cases e244
         replace hx244_0 := cm_ HB hx244_0
         replace hx244_1 := cm_ HB hx244_1
         replace hx244_2 := cm_ HB hx244_2
         replace p244 := eq_true p244
         replace q244 := eq_true q244
         go_wp2_with (first | ((with_reducible refine gate_callee (f := 31) rfl ?_); refine goesL_ (some 26) rfl rfl Tryd.func31 (by kernel_rfl) rfl #[.agg #[.int .i64 ((rd_T44 l0_1 x3_2).f0), .int .i64 ((rd_T44 l0_1 x3_2).f1), .string ((rd_T44 l0_1 x3_2).f2)]] rfl ga_ ?_; (with_reducible refine (constableref01_Value.calls k2 ((rd_T44 l0_1 x3_2).f0) ((rd_T44 l0_1 x3_2).f1) ((rd_T44 l0_1 x3_2).f2) true _ A14.out).mono ?_); rintro e w17 ⟨rfl, hb⟩; refine ⟨_, rfl, ?_⟩; replace BK242 := bb_ (bu_ BK242) hb; replace HB := bs_ (be_ HB) hb; (try clear hb); (try clear hb2); (try clear hk); (try clear hi)))
         go_roundg k2
         case measure => have := HJ1.out; have := HK2.out; omega
         case rel => exact ⟨(wrap64 (x3_2 + 1)), ra_, H', ⟨by have := HJ1.out; have := HK2.out; omega⟩, bu2_ BK242, be2_ HB⟩
        ·replace c15 := Bool.eq_false_iff.mpr c15
         subst c15
         rw [if_neg (show ¬ (false = true) by decide)] at H
         obtain rfl := Option.some.inj H
         have hcz18_0 : wr.cell? ⟨gb242, 0, none⟩ = some (.string a0_0) := (blk_cell BK242.out 0).trans rfl
         have hcz18_1 : wr.cell? ⟨gb242, 1, none⟩ = some (.slice A0_1 l0_1.length c0_1) := (blk_cell BK242.out 1).trans rfl
         have hfz18_0 := blk_frozen BK242.out 0
         have hfz18_1 := blk_frozen BK242.out 1
         have p244 : 0 ≤ (x3_2 : Int) := dt_
         have q244 : x3_2 < (l0_1.length : Int) := dt_
         obtain ⟨ad244, e244, hx244_0, hx244_1, hx244_2⟩ := at_T44 HR0_1.out x3_2 p244 q244
         cases e244
         replace hx244_0 := cm_ HB hx244_0
         replace hx244_1 := cm_ HB hx244_1
         replace hx244_2 := cm_ HB hx244_2
         replace p244 := eq_true p244
         replace q244 := eq_true q244
         go_wp2_with (first | ((with_reducible refine gate_callee (f := 31) rfl ?_); refine goesL_ (some 26) rfl rfl Tryd.func31 (by kernel_rfl) rfl #[.agg #[.int .i64 ((rd_T44 l0_1 x3_2).f0), .int .i64 ((rd_T44 l0_1 x3_2).f1), .string ((rd_T44 l0_1 x3_2).f2)]] rfl ga_ ?_; (with_reducible refine (constableref01_Value.calls k2 ((rd_T44 l0_1 x3_2).f0) ((rd_T44 l0_1 x3_2).f1) ((rd_T44 l0_1 x3_2).f2) false _ A14.out).mono ?_); rintro e w19 ⟨rfl, hb⟩; refine ⟨_, rfl, ?_⟩; replace BK242 := bb_ (bu_ BK242) hb; replace HB := bs_ (be_ HB) hb; (try clear hb); (try clear hb2); (try clear hk); (try clear hi)))
         go_ret
         exact ⟨re_, be_ HB⟩
       ·rw [if_neg c13] at H
        exact absurd H (by simp)
      ·rw [if_neg c12] at H
       have c12b0 : decide (x3_2 < (l0_1.length : Int)) = false := decide_eq_false c12
       clear c12
       obtain rfl := Option.some.inj H
       have hcz20_0 : wr.cell? ⟨gb242, 0, none⟩ = some (.string a0_0) := (blk_cell BK242.out 0).trans rfl
       have hcz20_1 : wr.cell? ⟨gb242, 1, none⟩ = some (.slice A0_1 l0_1.length c0_1) := (blk_cell BK242.out 1).trans rfl
       have hfz20_0 := blk_frozen BK242.out 0
       have hfz20_1 := blk_frozen BK242.out 1
       go_wp2
       go_ret
       exact ⟨re_, be_ HB⟩
end Go.Proofs.YtaopajmpifenoaaDoor.P
end
section
namespace Go.Proofs.YtaopajmpifenoaaDoor.P
open Go.RowKit Go.Proofs.YtaopajmpifenoaaDoorW.PrintWords Go.Proofs.YtaopajmpifenoaaDoorW.PrintLast Go.Proofs.YtaopajmpifenoaaDoorW.PrintMore
attribute [local go_sem] max2_int min2_int max_two min_two max_three min_three max_four min_four
set_option linter.unusedVariables false
set_option linter.unusedSimpArgs false
def constableref01_order.f (a0 : Int) (a1 : Int) : Option (Int) := if a0 < a1 then (some (-1)) else (if a0 > a1 then (some 1) else (some 0))
set_option maxHeartbeats 8000000 in
set_option maxRecDepth 100000 in
theorem constableref01_order.calls (a0 : Int) (a1 : Int) (r : Int) (w : World) (h : constableref01_order.f a0 a1 = some r) :
  Calls Tryd.prog 44 #[.int .i64 a0, .int .i64 a1] w fun e w' => e = .returned (.int .i64 r) ∧ Drawn0 w w' := by
 have H : (if a0 < a1 then (some (-1)) else (if a0 > a1 then (some 1) else (some 0))) = some r := h
 clear h
 by_cases c3 : a0 < a1
 ·rw [if_pos c3] at H
  have c3b0 : decide (a0 < a1) = true := decide_eq_true c3
  clear c3
  obtain rfl := Option.some.inj H
  go_enter Tryd.func44, Tryd.ntmps44
  go_wp2
  go_ret
  exact rz_
 ·rw [if_neg c3] at H
  have c3b0 : decide (a0 < a1) = false := decide_eq_false c3
  clear c3
  by_cases c4 : a0 > a1
  ·rw [if_pos c4] at H
   have c4b0 : decide (a1 < a0) = true := decide_eq_true c4
   clear c4
   obtain rfl := Option.some.inj H
   go_enter Tryd.func44, Tryd.ntmps44
   go_wp2
   go_ret
   exact rz_
  ·rw [if_neg c4] at H
   have c4b0 : decide (a1 < a0) = false := decide_eq_false c4
   clear c4
   obtain rfl := Option.some.inj H
   go_enter Tryd.func44, Tryd.ntmps44
   go_wp2
   go_ret
   exact rz_
end Go.Proofs.YtaopajmpifenoaaDoor.P
end
section
namespace Go.Proofs.YtaopajmpifenoaaDoor.P
open Go.RowKit Go.Proofs.YtaopajmpifenoaaDoorW.PrintWords Go.Proofs.YtaopajmpifenoaaDoorW.PrintLast Go.Proofs.YtaopajmpifenoaaDoorW.PrintMore
attribute [local go_sem] max2_int min2_int max_two min_two max_three min_three max_four min_four
set_option linter.unusedVariables false
set_option linter.unusedSimpArgs false
mutual
def constableref01_Strings.l0 : Nat → ByteArray → ByteArray → Int → Option (Int)
 | 0, _, _, _ => none
 | k + 1, x0, x1, x5 => if x5 < (x0.size : Int) then (constableref01_Strings.j1 k x0 x1 x5 (decide (x5 < (x1.size : Int)))) else (constableref01_Strings.j1 k x0 x1 x5 false)
def constableref01_Strings.j1 : Nat → ByteArray → ByteArray → Int → Bool → Option (Int)
 | 0, _, _, _, _ => none
 | k + 1, x0, x1, x5, x15 => if x15 = true then (if 0 ≤ x5 then (if x5 < (x0.size : Int) then (if x5 < (x1.size : Int) then (if (bt x0 x5) = (bt x1 x5) then (constableref01_Strings.l0 k x0 x1 (wrap64 (x5 + 1))) else ((constableref01_order.f (wrap64 (bt x0 x5)) (wrap64 (bt x1 x5))).bind fun t210 => (some t210))) else (none)) else (none)) else (none)) else ((constableref01_order.f (x0.size : Int) (x1.size : Int)).bind fun t211 => (some t211))
end
def constableref01_Strings.f (k : Nat) (a0 : ByteArray) (a1 : ByteArray) : Option (Int) := constableref01_Strings.l0 k a0 a1 0
theorem constableref01_Strings.mono_l : ∀ k, (∀ y0 y1 y2, LeO (constableref01_Strings.l0 k y0 y1 y2) (constableref01_Strings.l0 (k + 1) y0 y1 y2)) ∧ (∀ y0 y1 y2 y3, LeO (constableref01_Strings.j1 k y0 y1 y2 y3) (constableref01_Strings.j1 (k + 1) y0 y1 y2 y3))
 | 0 => ⟨fun _ _ _ r h => by simp [constableref01_Strings.l0] at h, fun _ _ _ _ r h => by simp [constableref01_Strings.j1] at h⟩
 | k + 1 => by
  obtain ⟨ih0, ih1⟩ := constableref01_Strings.mono_l k
  refine ⟨?_, ?_⟩
  ·intro y0 y1 y2
   unfold constableref01_Strings.l0
   repeat' first
   | (with_reducible exact ih0 _ _ _)
   | (with_reducible exact ih1 _ _ _ _)
   | (with_reducible exact LeO.refl _)
   | (with_reducible exact LeO.none _)
   | (with_reducible refine LeO.ite ?_ ?_)
   | (with_reducible refine LeO.bind ?_ (fun _ => ?_))
   | exact ih0 _ _ _
   | exact ih1 _ _ _ _
   | exact LeO.none _
   | refine LeO.ite ?_ ?_
   | refine LeO.bind ?_ (fun _ => ?_)
  ·intro y0 y1 y2 y3
   unfold constableref01_Strings.j1
   repeat' first
   | (with_reducible exact ih0 _ _ _)
   | (with_reducible exact ih1 _ _ _ _)
   | (with_reducible exact LeO.refl _)
   | (with_reducible exact LeO.none _)
   | (with_reducible refine LeO.ite ?_ ?_)
   | (with_reducible refine LeO.bind ?_ (fun _ => ?_))
   | exact ih0 _ _ _
   | exact ih1 _ _ _ _
   | exact LeO.none _
   | refine LeO.ite ?_ ?_
   | refine LeO.bind ?_ (fun _ => ?_)
theorem constableref01_Strings.mono : ∀ a0 a1 k, LeO (constableref01_Strings.f k a0 a1) (constableref01_Strings.f (k + 1) a0 a1) := by
 intro a0 a1 k
 obtain ⟨ih0, ih1⟩ := constableref01_Strings.mono_l k
 unfold constableref01_Strings.f
 repeat' first
   | (with_reducible exact ih0 _ _ _)
   | (with_reducible exact ih1 _ _ _ _)
   | (with_reducible exact LeO.refl _)
   | (with_reducible exact LeO.none _)
   | (with_reducible refine LeO.ite ?_ ?_)
   | (with_reducible refine LeO.bind ?_ (fun _ => ?_))
   | exact ih0 _ _ _
   | exact ih1 _ _ _ _
   | exact LeO.none _
   | refine LeO.ite ?_ ?_
   | refine LeO.bind ?_ (fun _ => ?_)
set_option maxHeartbeats 8000000 in
set_option maxRecDepth 100000 in
theorem constableref01_Strings.calls (k : Nat) (a0 : ByteArray) (a1 : ByteArray) (r : Int) (w : World) (h : constableref01_Strings.f k a0 a1 = some r) :
  Calls Tryd.prog 43 #[.string a0, .string a1] w fun e w' => e = .returned (.int .i64 r) ∧ Drawn0 w w' := by
 have H : (constableref01_Strings.l0 k a0 a1 0) = some r := h
 clear h
 have H' := Aside0.mk H
 clear H
 go_enter Tryd.func43, Tryd.ntmps43
 go_wp2
 repeat (go_quiet (fail); try go_wp2)
 go_loopg [5] k (fun kq v5 w' => ∃ (x5_1 : Int), v5 = .int .i64 x5_1 ∧ Aside0 (constableref01_Strings.l0 kq a0 a1 x5_1 = some r) ∧ Aside0 (kq ≤ k) ∧ Drawn0 w w')
 case atStart => exact ⟨(0), ra_, H', ⟨Nat.le_refl _⟩, dz_⟩
 case round =>
  clear H'
  try clear p2
  obtain ⟨x5_1, rfl, HA, HK1, ⟨m1, rfl⟩⟩ := hrel
  cases gk with
  | zero => exact absurd HA.out (by simp [constableref01_Strings.l0])
  | succ k1 =>
   have H := HA.out
   clear HA
   simp only [constableref01_Strings.l0] at H
   have HC3 := Aside0.mk H
   clear H
   go_upto_region 2 with (fail)
   repeat (go_quiet (fail); go_upto_region 2 with (fail))
   go_cut [15] (fun v15 wc => ∃ (kq : Nat) (x15_2 : Bool), v15 = .bool x15_2 ∧ Aside0 (constableref01_Strings.j1 kq a0 a1 x5_1 x15_2 = some r) ∧ Aside0 (kq ≤ k1) ∧ Drawn0 w wc)
   case first =>
    have H := HC3.out
    clear HC3
    by_cases c4 : x5_1 < (a0.size : Int)
    ·rw [if_pos c4] at H
     have c4b0 : decide (x5_1 < (a0.size : Int)) = true := decide_eq_true c4
     clear c4
     (first | rw [c4b0] | (simp only [i64_w, i32_w]; rw [c4b0]) | skip)
     have H' := Aside0.mk H
     clear H
     go_wp2
     repeat (go_quiet (fail); try go_wp2)
     go_meet
     case rel => exact ⟨_, (decide (x5_1 < (a1.size : Int))), ra_, H', ⟨by have := HK1.out; first | omega | exact Nat.le_refl _⟩, dz_⟩
    ·rw [if_neg c4] at H
     have c4b0 : decide (x5_1 < (a0.size : Int)) = false := decide_eq_false c4
     clear c4
     (first | rw [c4b0] | (simp only [i64_w, i32_w]; rw [c4b0]) | skip)
     have H' := Aside0.mk H
     clear H
     go_wp2
     repeat (go_quiet (fail); try go_wp2)
     go_meet
     case rel => exact ⟨_, (false), ra_, H', ⟨by have := HK1.out; first | omega | exact Nat.le_refl _⟩, dz_⟩
   case rest =>
    clear HC3
    try clear p2; try clear c4; try clear c4b0; try clear p2
    obtain ⟨kq, x15_2, rfl, HA, HJ2, ⟨mc2, rfl⟩⟩ := hcut
    cases kq with
    | zero => exact absurd HA.out (by simp [constableref01_Strings.j1])
    | succ kj2 =>
     have H := HA.out
     clear HA
     simp only [constableref01_Strings.j1] at H
     by_cases c5 : x15_2 = true
     ·subst c5
      rw [if_pos rfl] at H
      by_cases c6 : 0 ≤ x5_1
      ·rw [if_pos c6] at H
       have c6b0 : decide (0 ≤ x5_1) = true := decide_eq_true c6
       clear c6
       by_cases c7 : x5_1 < (a0.size : Int)
       ·rw [if_pos c7] at H
        have c7b0 : decide (x5_1 < (a0.size : Int)) = true := decide_eq_true c7
        clear c7
        by_cases c9 : x5_1 < (a1.size : Int)
        ·rw [if_pos c9] at H
         have c9b0 : decide (x5_1 < (a1.size : Int)) = true := decide_eq_true c9
         clear c9
         by_cases c11 : (bt a0 x5_1) = (bt a1 x5_1)
         ·rw [if_pos c11] at H
          obtain ⟨c11b0, c11b1⟩ := eqB_ c11
          clear c11
          have H' := Aside0.mk H
          clear H
          have p8 : 0 ≤ (x5_1 : Int) := dt_
          have q8 : x5_1 < (a0.size : Int) := dt_
          have hx8 := bt_at a0 x5_1
          replace p8 := eq_true p8
          replace q8 := eq_true q8
          have p10 : 0 ≤ (x5_1 : Int) := dt_
          have q10 : x5_1 < (a1.size : Int) := dt_
          have hx10 := bt_at a1 x5_1
          replace p10 := eq_true p10
          replace q10 := eq_true q10
          go_wp2
          repeat (go_quiet (fail); try go_wp2)
          go_roundg kj2
          case measure => have := HK1.out; have := HJ2.out; omega
          case rel => exact ⟨(wrap64 (x5_1 + 1)), ra_, H', ⟨by have := HK1.out; have := HJ2.out; omega⟩, dz_⟩
         ·rw [if_neg c11] at H
          obtain ⟨c11b0, c11b1⟩ := neB_ c11
          replace H := Option.bind_eq_some_iff.mp H
          obtain ⟨t210, A140, H⟩ := H
          try dsimp only at H
          have A14 := Aside0.mk A140
          clear A140
          obtain rfl := Option.some.inj H
          have p8 : 0 ≤ (x5_1 : Int) := dt_
          have q8 : x5_1 < (a0.size : Int) := dt_
          have hx8 := bt_at a0 x5_1
          replace p8 := eq_true p8
          replace q8 := eq_true q8
          have p10 : 0 ≤ (x5_1 : Int) := dt_
          have q10 : x5_1 < (a1.size : Int) := dt_
          have hx10 := bt_at a1 x5_1
          replace p10 := eq_true p10
          replace q10 := eq_true q10
          have p12 : 0 ≤ (x5_1 : Int) := dt_
          have q12 : x5_1 < (a0.size : Int) := dt_
          have hx12 := bt_at a0 x5_1
          replace p12 := eq_true p12
          replace q12 := eq_true q12
          have p13 : 0 ≤ (x5_1 : Int) := dt_
          have q13 : x5_1 < (a1.size : Int) := dt_
          have hx13 := bt_at a1 x5_1
          replace p13 := eq_true p13
          replace q13 := eq_true q13
          go_wp2_with (first | (go_at_call 44; (with_reducible refine (constableref01_order.calls (wrap64 (bt a0 x5_1)) (wrap64 (bt a1 x5_1)) t210 _ A14.out).mono ?_); rintro e w' ⟨rfl, ⟨nd, rfl⟩⟩; (try first | exact ⟨rfl, _, World.drewN_drewN _ _ _⟩ | exact ⟨rfl, _, Eq.trans (World.drewN_drewN _ _ _) (congrArg (World.drewN _) (Nat.add_assoc _ _ _))⟩)))
          repeat (go_quiet (first | (go_at_call 44; (with_reducible refine (constableref01_order.calls (wrap64 (bt a0 x5_1)) (wrap64 (bt a1 x5_1)) t210 _ A14.out).mono ?_); rintro e w' ⟨rfl, ⟨nd, rfl⟩⟩; (try first | exact ⟨rfl, _, World.drewN_drewN _ _ _⟩ | exact ⟨rfl, _, Eq.trans (World.drewN_drewN _ _ _) (congrArg (World.drewN _) (Nat.add_assoc _ _ _))⟩))); try go_wp2_with (first | (go_at_call 44; (with_reducible refine (constableref01_order.calls (wrap64 (bt a0 x5_1)) (wrap64 (bt a1 x5_1)) t210 _ A14.out).mono ?_); rintro e w' ⟨rfl, ⟨nd, rfl⟩⟩; (try first | exact ⟨rfl, _, World.drewN_drewN _ _ _⟩ | exact ⟨rfl, _, Eq.trans (World.drewN_drewN _ _ _) (congrArg (World.drewN _) (Nat.add_assoc _ _ _))⟩))))
          go_ret
          exact rz_
        ·rw [if_neg c9] at H
         exact absurd H (by simp)
       ·rw [if_neg c7] at H
        exact absurd H (by simp)
      ·rw [if_neg c6] at H
       exact absurd H (by simp)
     ·replace c5 := Bool.eq_false_iff.mpr c5
      subst c5
      rw [if_neg (show ¬ (false = true) by decide)] at H
      replace H := Option.bind_eq_some_iff.mp H
      obtain ⟨t211, A150, H⟩ := H
      try dsimp only at H
      have A15 := Aside0.mk A150
      clear A150
      obtain rfl := Option.some.inj H
      go_wp2_with (first | (go_at_call 44; (with_reducible refine (constableref01_order.calls (a0.size : Int) (a1.size : Int) t211 _ A15.out).mono ?_); rintro e w' ⟨rfl, ⟨nd, rfl⟩⟩; (try first | exact ⟨rfl, _, World.drewN_drewN _ _ _⟩ | exact ⟨rfl, _, Eq.trans (World.drewN_drewN _ _ _) (congrArg (World.drewN _) (Nat.add_assoc _ _ _))⟩)))
      repeat (go_quiet (first | (go_at_call 44; (with_reducible refine (constableref01_order.calls (a0.size : Int) (a1.size : Int) t211 _ A15.out).mono ?_); rintro e w' ⟨rfl, ⟨nd, rfl⟩⟩; (try first | exact ⟨rfl, _, World.drewN_drewN _ _ _⟩ | exact ⟨rfl, _, Eq.trans (World.drewN_drewN _ _ _) (congrArg (World.drewN _) (Nat.add_assoc _ _ _))⟩))); try go_wp2_with (first | (go_at_call 44; (with_reducible refine (constableref01_order.calls (a0.size : Int) (a1.size : Int) t211 _ A15.out).mono ?_); rintro e w' ⟨rfl, ⟨nd, rfl⟩⟩; (try first | exact ⟨rfl, _, World.drewN_drewN _ _ _⟩ | exact ⟨rfl, _, Eq.trans (World.drewN_drewN _ _ _) (congrArg (World.drewN _) (Nat.add_assoc _ _ _))⟩))))
      go_ret
      exact rz_
end Go.Proofs.YtaopajmpifenoaaDoor.P
end
section
namespace Go.Proofs.YtaopajmpifenoaaDoor.P
open Go.RowKit Go.Proofs.YtaopajmpifenoaaDoorW.PrintWords Go.Proofs.YtaopajmpifenoaaDoorW.PrintLast Go.Proofs.YtaopajmpifenoaaDoorW.PrintMore
attribute [local go_sem] max2_int min2_int max_two min_two max_three min_three max_four min_four
set_option linter.unusedVariables false
set_option linter.unusedSimpArgs false
def constableref01_Values.f (k : Nat) (a0_0 : Int) (a0_1 : Int) (a0_2 : ByteArray) (a1_0 : Int) (a1_1 : Int) (a1_2 : ByteArray) : Option (Int) := (constableref01_order.f a0_0 a1_0).bind fun t214 => (if t214 = 0 then ((constableref01_order.f a0_1 a1_1).bind fun t215 => (if t215 = 0 then ((constableref01_Strings.f k a0_2 a1_2).bind fun t216 => (some t216)) else (some t215))) else (some t214))
theorem constableref01_Values.mono : ∀ a0 a1 a2 a3 a4 a5 k, LeO (constableref01_Values.f k a0 a1 a2 a3 a4 a5) (constableref01_Values.f (k + 1) a0 a1 a2 a3 a4 a5) := by
 intro a0 a1 a2 a3 a4 a5 k
 unfold constableref01_Values.f
 repeat' first
   | (with_reducible exact constableref01_Strings.mono ..)
   | (with_reducible exact LeO.refl _)
   | (with_reducible exact LeO.none _)
   | (with_reducible refine LeO.ite ?_ ?_)
   | (with_reducible refine LeO.bind ?_ (fun _ => ?_))
   | exact constableref01_Strings.mono ..
   | exact LeO.none _
   | refine LeO.ite ?_ ?_
   | refine LeO.bind ?_ (fun _ => ?_)
set_option maxHeartbeats 8000000 in
set_option maxRecDepth 100000 in
theorem constableref01_Values.calls (k : Nat) (a0_0 : Int) (a0_1 : Int) (a0_2 : ByteArray) (a1_0 : Int) (a1_1 : Int) (a1_2 : ByteArray) (r : Int) (w : World) (h : constableref01_Values.f k a0_0 a0_1 a0_2 a1_0 a1_1 a1_2 = some r) :
  Calls Tryd.prog 30 #[.agg #[.int .i64 a0_0, .int .i64 a0_1, .string a0_2], .agg #[.int .i64 a1_0, .int .i64 a1_1, .string a1_2]] w fun e w' => e = .returned (.int .i64 r) ∧ Below w.heap.size w w' := by
 have hu44 := Tryd.underlying44
 have HB := Aside0.mk (Below.refl w.heap.size w)
 have H : ((constableref01_order.f a0_0 a1_0).bind fun t214 => (if t214 = 0 then ((constableref01_order.f a0_1 a1_1).bind fun t215 => (if t215 = 0 then ((constableref01_Strings.f k a0_2 a1_2).bind fun t216 => (some t216)) else (some t215))) else (some t214))) = some r := h
 clear h
 replace H := Option.bind_eq_some_iff.mp H
 obtain ⟨t214, A30, H⟩ := H
 try dsimp only at H
 have A3 := Aside0.mk A30
 clear A30
 by_cases c4 : t214 = 0
 ·rw [if_pos c4] at H
  obtain ⟨c4b0, c4b1⟩ := eqB_ c4
  clear c4
  replace H := Option.bind_eq_some_iff.mp H
  obtain ⟨t215, A50, H⟩ := H
  try dsimp only at H
  have A5 := Aside0.mk A50
  clear A50
  by_cases c6 : t215 = 0
  ·rw [if_pos c6] at H
   obtain ⟨c6b0, c6b1⟩ := eqB_ c6
   clear c6
   replace H := Option.bind_eq_some_iff.mp H
   obtain ⟨t216, A70, H⟩ := H
   try dsimp only at H
   have A7 := Aside0.mk A70
   clear A70
   obtain rfl := Option.some.inj H
   go_enter Tryd.func30, Tryd.ntmps30
   go_wp2_with (first | ((with_reducible refine gate_dst (N := 2) rfl ?_); refine box_event ?hg (N := 2) ?hd (cs := #[.int .i64 a0_0, .int .i64 a0_1, .string a0_2]) (t := 44) ?hr ?_; (case hd => rfl); (case hg => rfl); (case hr => first | (go_simp; done) | (go_simp; rfl)); intro gb212 hg w8 hbox hb; have BK212 := Aside0.mk (hbox); have GW212 := gs_ hg (be_ HB); have GE212 := gs_ hg (be_ HB); replace HB := bs_ (be_ HB) hb; clear hb hbox hg) | ((with_reducible refine gate_dst (N := 3) rfl ?_); refine box_event ?hg (N := 3) ?hd (cs := #[.int .i64 a1_0, .int .i64 a1_1, .string a1_2]) (t := 44) ?hr ?_; (case hd => rfl); (case hg => rfl); (case hr => first | (go_simp; done) | (go_simp; rfl)); intro gb213 hg w9 hbox hb; have BK213 := Aside0.mk (hbox); have GW213 := gs_ hg (be_ HB); have GE213 := gs_ hg (be_ HB); replace HB := bs_ (be_ HB) hb; have NB212_213 := nl_ hg (bu_ BK212); have NB213_212 := ng_ hg (bu_ BK212); replace BK212 := bb_ (bu_ BK212) hb; clear hb hbox hg; have hnb10 := NB212_213.out; have hnc10 := NB213_212.out; have hcz11_0 : w9.cell? ⟨gb212, 0, none⟩ = some (.int .i64 a0_0) := (blk_cell BK212.out 0).trans rfl; have hcz11_1 : w9.cell? ⟨gb212, 1, none⟩ = some (.int .i64 a0_1) := (blk_cell BK212.out 1).trans rfl; have hcz11_2 : w9.cell? ⟨gb212, 2, none⟩ = some (.string a0_2) := (blk_cell BK212.out 2).trans rfl; have hfz11_0 := blk_frozen BK212.out 0; have hfz11_1 := blk_frozen BK212.out 1; have hfz11_2 := blk_frozen BK212.out 2; have hcz12_0 : w9.cell? ⟨gb213, 0, none⟩ = some (.int .i64 a1_0) := (blk_cell BK213.out 0).trans rfl; have hcz12_1 : w9.cell? ⟨gb213, 1, none⟩ = some (.int .i64 a1_1) := (blk_cell BK213.out 1).trans rfl; have hcz12_2 : w9.cell? ⟨gb213, 2, none⟩ = some (.string a1_2) := (blk_cell BK213.out 2).trans rfl; have hfz12_0 := blk_frozen BK213.out 0; have hfz12_1 := blk_frozen BK213.out 1; have hfz12_2 := blk_frozen BK213.out 2) | ((with_reducible refine gate_callee (f := 44) rfl ?_); refine goesL_ (some 11) rfl rfl Tryd.func44 (by kernel_rfl) rfl #[.int .i64 a0_0, .int .i64 a1_0] rfl ga_ ?_; (with_reducible refine (constableref01_order.calls a0_0 a1_0 t214 _ A3.out).mono ?_); rintro e w' ⟨rfl, ⟨nd, rfl⟩⟩; refine ⟨_, rfl, ?_⟩) | ((with_reducible refine gate_callee (f := 44) rfl ?_); refine goesL_ (some 19) rfl rfl Tryd.func44 (by kernel_rfl) rfl #[.int .i64 a0_1, .int .i64 a1_1] rfl ga_ ?_; (with_reducible refine (constableref01_order.calls a0_1 a1_1 t215 _ A5.out).mono ?_); rintro e w' ⟨rfl, ⟨nd, rfl⟩⟩; refine ⟨_, rfl, ?_⟩) | ((with_reducible refine gate_callee (f := 43) rfl ?_); refine goesL_ (some 27) rfl rfl Tryd.func43 (by kernel_rfl) rfl #[.string a0_2, .string a1_2] rfl ga_ ?_; (with_reducible refine (constableref01_Strings.calls k a0_2 a1_2 t216 _ A7.out).mono ?_); rintro e w' ⟨rfl, ⟨nd, rfl⟩⟩; refine ⟨_, rfl, ?_⟩))
   go_ret
   exact ⟨re_, be_ HB⟩
  ·rw [if_neg c6] at H
   obtain ⟨c6b0, c6b1⟩ := neB_ c6
   obtain rfl := Option.some.inj H
   go_enter Tryd.func30, Tryd.ntmps30
   go_wp2_with (first | ((with_reducible refine gate_dst (N := 2) rfl ?_); refine box_event ?hg (N := 2) ?hd (cs := #[.int .i64 a0_0, .int .i64 a0_1, .string a0_2]) (t := 44) ?hr ?_; (case hd => rfl); (case hg => rfl); (case hr => first | (go_simp; done) | (go_simp; rfl)); intro gb212 hg w13 hbox hb; have BK212 := Aside0.mk (hbox); have GW212 := gs_ hg (be_ HB); have GE212 := gs_ hg (be_ HB); replace HB := bs_ (be_ HB) hb; clear hb hbox hg) | ((with_reducible refine gate_dst (N := 3) rfl ?_); refine box_event ?hg (N := 3) ?hd (cs := #[.int .i64 a1_0, .int .i64 a1_1, .string a1_2]) (t := 44) ?hr ?_; (case hd => rfl); (case hg => rfl); (case hr => first | (go_simp; done) | (go_simp; rfl)); intro gb213 hg w14 hbox hb; have BK213 := Aside0.mk (hbox); have GW213 := gs_ hg (be_ HB); have GE213 := gs_ hg (be_ HB); replace HB := bs_ (be_ HB) hb; have NB212_213 := nl_ hg (bu_ BK212); have NB213_212 := ng_ hg (bu_ BK212); replace BK212 := bb_ (bu_ BK212) hb; clear hb hbox hg; have hnb15 := NB212_213.out; have hnc15 := NB213_212.out; have hcz16_0 : w14.cell? ⟨gb212, 0, none⟩ = some (.int .i64 a0_0) := (blk_cell BK212.out 0).trans rfl; have hcz16_1 : w14.cell? ⟨gb212, 1, none⟩ = some (.int .i64 a0_1) := (blk_cell BK212.out 1).trans rfl; have hcz16_2 : w14.cell? ⟨gb212, 2, none⟩ = some (.string a0_2) := (blk_cell BK212.out 2).trans rfl; have hfz16_0 := blk_frozen BK212.out 0; have hfz16_1 := blk_frozen BK212.out 1; have hfz16_2 := blk_frozen BK212.out 2; have hcz17_0 : w14.cell? ⟨gb213, 0, none⟩ = some (.int .i64 a1_0) := (blk_cell BK213.out 0).trans rfl; have hcz17_1 : w14.cell? ⟨gb213, 1, none⟩ = some (.int .i64 a1_1) := (blk_cell BK213.out 1).trans rfl; have hcz17_2 : w14.cell? ⟨gb213, 2, none⟩ = some (.string a1_2) := (blk_cell BK213.out 2).trans rfl; have hfz17_0 := blk_frozen BK213.out 0; have hfz17_1 := blk_frozen BK213.out 1; have hfz17_2 := blk_frozen BK213.out 2) | ((with_reducible refine gate_callee (f := 44) rfl ?_); refine goesL_ (some 11) rfl rfl Tryd.func44 (by kernel_rfl) rfl #[.int .i64 a0_0, .int .i64 a1_0] rfl ga_ ?_; (with_reducible refine (constableref01_order.calls a0_0 a1_0 t214 _ A3.out).mono ?_); rintro e w' ⟨rfl, ⟨nd, rfl⟩⟩; refine ⟨_, rfl, ?_⟩) | ((with_reducible refine gate_callee (f := 44) rfl ?_); refine goesL_ (some 19) rfl rfl Tryd.func44 (by kernel_rfl) rfl #[.int .i64 a0_1, .int .i64 a1_1] rfl ga_ ?_; (with_reducible refine (constableref01_order.calls a0_1 a1_1 t215 _ A5.out).mono ?_); rintro e w' ⟨rfl, ⟨nd, rfl⟩⟩; refine ⟨_, rfl, ?_⟩))
   go_ret
   exact ⟨re_, be_ HB⟩
 ·rw [if_neg c4] at H
  obtain ⟨c4b0, c4b1⟩ := neB_ c4
  obtain rfl := Option.some.inj H
  go_enter Tryd.func30, Tryd.ntmps30
  go_wp2_with (first | ((with_reducible refine gate_dst (N := 2) rfl ?_); refine box_event ?hg (N := 2) ?hd (cs := #[.int .i64 a0_0, .int .i64 a0_1, .string a0_2]) (t := 44) ?hr ?_; (case hd => rfl); (case hg => rfl); (case hr => first | (go_simp; done) | (go_simp; rfl)); intro gb212 hg w18 hbox hb; have BK212 := Aside0.mk (hbox); have GW212 := gs_ hg (be_ HB); have GE212 := gs_ hg (be_ HB); replace HB := bs_ (be_ HB) hb; clear hb hbox hg) | ((with_reducible refine gate_dst (N := 3) rfl ?_); refine box_event ?hg (N := 3) ?hd (cs := #[.int .i64 a1_0, .int .i64 a1_1, .string a1_2]) (t := 44) ?hr ?_; (case hd => rfl); (case hg => rfl); (case hr => first | (go_simp; done) | (go_simp; rfl)); intro gb213 hg w19 hbox hb; have BK213 := Aside0.mk (hbox); have GW213 := gs_ hg (be_ HB); have GE213 := gs_ hg (be_ HB); replace HB := bs_ (be_ HB) hb; have NB212_213 := nl_ hg (bu_ BK212); have NB213_212 := ng_ hg (bu_ BK212); replace BK212 := bb_ (bu_ BK212) hb; clear hb hbox hg; have hnb20 := NB212_213.out; have hnc20 := NB213_212.out; have hcz21_0 : w19.cell? ⟨gb212, 0, none⟩ = some (.int .i64 a0_0) := (blk_cell BK212.out 0).trans rfl; have hcz21_1 : w19.cell? ⟨gb212, 1, none⟩ = some (.int .i64 a0_1) := (blk_cell BK212.out 1).trans rfl; have hcz21_2 : w19.cell? ⟨gb212, 2, none⟩ = some (.string a0_2) := (blk_cell BK212.out 2).trans rfl; have hfz21_0 := blk_frozen BK212.out 0; have hfz21_1 := blk_frozen BK212.out 1; have hfz21_2 := blk_frozen BK212.out 2; have hcz22_0 : w19.cell? ⟨gb213, 0, none⟩ = some (.int .i64 a1_0) := (blk_cell BK213.out 0).trans rfl; have hcz22_1 : w19.cell? ⟨gb213, 1, none⟩ = some (.int .i64 a1_1) := (blk_cell BK213.out 1).trans rfl; have hcz22_2 : w19.cell? ⟨gb213, 2, none⟩ = some (.string a1_2) := (blk_cell BK213.out 2).trans rfl; have hfz22_0 := blk_frozen BK213.out 0; have hfz22_1 := blk_frozen BK213.out 1; have hfz22_2 := blk_frozen BK213.out 2) | ((with_reducible refine gate_callee (f := 44) rfl ?_); refine goesL_ (some 11) rfl rfl Tryd.func44 (by kernel_rfl) rfl #[.int .i64 a0_0, .int .i64 a1_0] rfl ga_ ?_; (with_reducible refine (constableref01_order.calls a0_0 a1_0 t214 _ A3.out).mono ?_); rintro e w' ⟨rfl, ⟨nd, rfl⟩⟩; refine ⟨_, rfl, ?_⟩))
  go_ret
  exact ⟨re_, be_ HB⟩
end Go.Proofs.YtaopajmpifenoaaDoor.P
end
