/- Part 3 of the proof of FactExact: words, contracts of functions of the program (what a call answers), and what the answers say. -/
import Derived.Lib.Bytes
import Derived.Laws.BitsLemmas
import Derived.Laws.Bits64
import Derived.Lib.ItoaNum
import Derived.Lib.LazyBuf
import Derived.Test.YtaopajmpifenoaaDoorVWords
import Derived.Test.YtaopajmpifenoaaDoorVLast
import Derived.Test.YtaopajmpifenoaaDoorVApart
import Derived.Test.YtaopajmpifenoaaDoorVArr
import Derived.Test.YtaopajmpifenoaaDoorVFoot
import Derived.Test.YtaopajmpifenoaaDoorVKept
import Derived.Test.YtaopajmpifenoaaDoorVShare
import Derived.Test.YtaopajmpifenoaaDoorVZeros
import Derived.Test.YtaopajmpifenoaaDoorVN
import Derived.Test.YtaopajmpifenoaaDoorVFootNe
import Derived.Test.YtaopajmpifenoaaDoorVAt
import Derived.Test.YtaopajmpifenoaaDoorVEqStruct
import Derived.Test.YtaopajmpifenoaaDoorVTab
import Derived.Test.YtaopajmpifenoaaDoorVFour
import Derived.Test.YtaopajmpifenoaaDoorVGuard
import Derived.Test.YtaopajmpifenoaaDoorVInv
import Derived.Test.YtaopajmpifenoaaDoorVInvWords
import Derived.Test.YtaopajmpifenoaaDoorVQPut
import Derived.Test.YtaopajmpifenoaaDoorVNEv
import Derived.Test.YtaopajmpifenoaaDoorVMore
import Derived.Test.YtaopajmpifenoaaDoorVRepsOne
import Derived.Test.YtaopajmpifenoaaDoorVSized
import Derived.Test.YtaopajmpifenoaaDoorCFactExact0
import Derived.Test.YtaopajmpifenoaaDoorCFactExact1
section
namespace Go.Proofs.YtaopajmpifenoaaDoor.P
open Go.RowKit Go.Proofs.YtaopajmpifenoaaDoorW.PrintWords Go.Proofs.YtaopajmpifenoaaDoorW.PrintLast Go.Proofs.YtaopajmpifenoaaDoorW.PrintMore
attribute [local go_sem] max2_int min2_int max_two min_two max_three min_three max_four min_four
set_option linter.unusedVariables false
set_option linter.unusedSimpArgs false
def constableref01_ValueText.l0 : Nat → ByteArray → Int → Int → Int → ByteArray → Option (ByteArray)
  | 0, _, _, _, _, _ => none
  | k + 1, x3, x4, x267000, x267001, x267002 => if x4 < (x267002.size : Int) then (if 0 ≤ x4 then (if (bt x267002 x4) = 34 then (if x3.size + 1 ≤ 9223372036854775807 then (if x4 ≤ (wrap64 (x4 + 1)) then (if (wrap64 (x4 + 1)) ≤ (x267002.size : Int) then (if (x3 ++ (⟨#[92]⟩ : ByteArray)).size + (x267002.extract (x4 : Int).toNat ((wrap64 (x4 + 1)) : Int).toNat).size ≤ 9223372036854775807 then (constableref01_ValueText.l0 k ((x3 ++ (⟨#[92]⟩ : ByteArray)) ++ (x267002.extract (x4 : Int).toNat ((wrap64 (x4 + 1)) : Int).toNat)) (wrap64 (x4 + 1)) x267000 x267001 x267002) else (none)) else (none)) else (none)) else (none)) else (if (bt x267002 x4) = 92 then (if x3.size + 1 ≤ 9223372036854775807 then (if x4 ≤ (wrap64 (x4 + 1)) then (if (wrap64 (x4 + 1)) ≤ (x267002.size : Int) then (if (x3 ++ (⟨#[92]⟩ : ByteArray)).size + (x267002.extract (x4 : Int).toNat ((wrap64 (x4 + 1)) : Int).toNat).size ≤ 9223372036854775807 then (constableref01_ValueText.l0 k ((x3 ++ (⟨#[92]⟩ : ByteArray)) ++ (x267002.extract (x4 : Int).toNat ((wrap64 (x4 + 1)) : Int).toNat)) (wrap64 (x4 + 1)) x267000 x267001 x267002) else (none)) else (none)) else (none)) else (none)) else (if x4 ≤ (wrap64 (x4 + 1)) then (if (wrap64 (x4 + 1)) ≤ (x267002.size : Int) then (if x3.size + (x267002.extract (x4 : Int).toNat ((wrap64 (x4 + 1)) : Int).toNat).size ≤ 9223372036854775807 then (constableref01_ValueText.l0 k (x3 ++ (x267002.extract (x4 : Int).toNat ((wrap64 (x4 + 1)) : Int).toNat)) (wrap64 (x4 + 1)) x267000 x267001 x267002) else (none)) else (none)) else (none)))) else (none)) else (if x3.size + 1 ≤ 9223372036854775807 then (some (x3 ++ (⟨#[34]⟩ : ByteArray))) else (none))
def constableref01_ValueText.f (k : Nat) (a0_0 : Int) (a0_1 : Int) (a0_2 : ByteArray) : Option (ByteArray) := if a0_0 = 1 then ((constableref01_Digits.f k a0_1).bind fun t267 => (some t267)) else (if a0_0 = 2 then (some a0_2) else (constableref01_ValueText.l0 k (⟨#[34]⟩ : ByteArray) 0 a0_0 a0_1 a0_2))
theorem constableref01_ValueText.mono_l : ∀ k, (∀ y0 y1 y2 y3 y4, LeO (constableref01_ValueText.l0 k y0 y1 y2 y3 y4) (constableref01_ValueText.l0 (k + 1) y0 y1 y2 y3 y4))
  | 0 => fun _ _ _ _ _ r h => by simp [constableref01_ValueText.l0] at h
  | k + 1 => by
    have ih0 := constableref01_ValueText.mono_l k
    · intro y0 y1 y2 y3 y4
      unfold constableref01_ValueText.l0
      repeat' first
      | (with_reducible exact ih0 _ _ _ _ _)
      | (with_reducible exact constableref01_Digits.mono _ _)
      | (with_reducible exact LeO.refl _)
      | (with_reducible exact LeO.none _)
      | (with_reducible refine LeO.ite ?_ ?_)
      | (with_reducible refine LeO.bind ?_ (fun _ => ?_))
      | exact ih0 _ _ _ _ _
      | exact constableref01_Digits.mono _ _
      | exact LeO.none _
      | refine LeO.ite ?_ ?_
      | refine LeO.bind ?_ (fun _ => ?_)
theorem constableref01_ValueText.mono : ∀ a0 a1 a2 k, LeO (constableref01_ValueText.f k a0 a1 a2) (constableref01_ValueText.f (k + 1) a0 a1 a2) := by
  intro a0 a1 a2 k
  have ih0 := constableref01_ValueText.mono_l k
  unfold constableref01_ValueText.f
  repeat' first
      | (with_reducible exact ih0 _ _ _ _ _)
      | (with_reducible exact constableref01_Digits.mono _ _)
      | (with_reducible exact LeO.refl _)
      | (with_reducible exact LeO.none _)
      | (with_reducible refine LeO.ite ?_ ?_)
      | (with_reducible refine LeO.bind ?_ (fun _ => ?_))
      | exact ih0 _ _ _ _ _
      | exact constableref01_Digits.mono _ _
      | exact LeO.none _
      | refine LeO.ite ?_ ?_
      | refine LeO.bind ?_ (fun _ => ?_)
set_option maxHeartbeats 8000000 in
set_option maxRecDepth 100000 in
theorem constableref01_ValueText.calls (k : Nat) (a0_0 : Int) (a0_1 : Int) (a0_2 : ByteArray) (r : ByteArray) (w : World) (h : constableref01_ValueText.f k a0_0 a0_1 a0_2 = some r) :
    Calls Tryd.prog 34 #[.agg #[.int .i64 a0_0, .int .i64 a0_1, .string a0_2]] w fun e w' => e = .returned (.string r) ∧ Below w.heap.size w w' := by
  have hu44 := Tryd.underlying44
  have HB := Aside0.mk (Below.refl w.heap.size w)
  have H : (if a0_0 = 1 then ((constableref01_Digits.f k a0_1).bind fun t267 => (some t267)) else (if a0_0 = 2 then (some a0_2) else (constableref01_ValueText.l0 k (⟨#[34]⟩ : ByteArray) 0 a0_0 a0_1 a0_2))) = some r := h
  clear h
  by_cases c2 : a0_0 = 1
  · rw [if_pos c2] at H
    obtain ⟨c2b0, c2b1⟩ := eqB_ c2
    clear c2
    replace H := Option.bind_eq_some_iff.mp H
    obtain ⟨t267, A30, H⟩ := H
    replace H : (some t267) = some r := H
    have A3 := Aside0.mk A30
    clear A30
    obtain rfl := Option.some.inj H
    go_enter Tryd.func34, Tryd.ntmps34
    go_wp2_with (first | ((with_reducible refine gate_dst (N := 1) rfl ?_); refine box_event ?hg (N := 1) ?hd (cs := #[.int .i64 a0_0, .int .i64 a0_1, .string a0_2]) (t := 44) ?hr ?_; (case hd => rfl); (case hg => rfl); (case hr => first | (go_simp; done) | (go_simp; rfl)); intro gb266 hg w4 hbox hb; have n0_ := bs_ (be_ HB) hb; have n1_ := Aside0.mk (hbox); have n2_ := gs_ hg (be_ HB); have n3_ := gs_ hg (be_ HB); clear HB; have HB := n0_; have BK266 := n1_; have GW266 := n2_; have GE266 := n3_; clear n0_ n1_ n2_ n3_; clear hb hbox hg; have hcz5_0 : w4.cell? ⟨gb266, 0, none⟩ = some (.int .i64 a0_0) := (blk_cell BK266.out 0).trans rfl; have hcz5_1 : w4.cell? ⟨gb266, 1, none⟩ = some (.int .i64 a0_1) := (blk_cell BK266.out 1).trans rfl; have hcz5_2 : w4.cell? ⟨gb266, 2, none⟩ = some (.string a0_2) := (blk_cell BK266.out 2).trans rfl; have hfz5_0 := blk_frozen BK266.out 0; have hfz5_1 := blk_frozen BK266.out 1; have hfz5_2 := blk_frozen BK266.out 2) | ((with_reducible refine gate_callee (f := 58) rfl ?_); refine goesL_ (some 11) rfl rfl Tryd.func58 (by kernel_rfl) rfl #[.int .i64 a0_1] rfl ga_ ?_; (with_reducible refine (constableref01_Digits.calls k a0_1 t267 _ A3.out).mono ?_); rintro e w6 ⟨rfl, hb⟩; refine ⟨_, rfl, ?_⟩; have n0_ := bb_ (bu_ BK266) hb; have n1_ := bs_ (be_ HB) hb; clear BK266; clear HB; have BK266 := n0_; have HB := n1_; clear n0_ n1_; (try clear hcz5_0 hcz5_1 hcz5_2 hfz5_0 hfz5_1 hfz5_2); (try clear hb); (try clear hb2); (try clear hk); (try clear hi)))
    go_ret
    exact ⟨by first | rfl | (simp [errW_none, errW_some] <;> rfl) | (simp [*, errW_none, errW_some] <;> rfl), by repeat (first | (with_reducible first | exact HB.out | apply below_alloc | apply pw_below_drewN | apply below_drew1 | refine below_set ?_ GE266.out) | exact HB.out)⟩
  · rw [if_neg c2] at H
    obtain ⟨c2b0, c2b1⟩ := neB_ c2
    by_cases c7 : a0_0 = 2
    · rw [if_pos c7] at H
      obtain ⟨c7b0, c7b1⟩ := eqB_ c7
      clear c7
      obtain rfl := Option.some.inj H
      go_enter Tryd.func34, Tryd.ntmps34
      go_wp2_with (first | ((with_reducible refine gate_dst (N := 1) rfl ?_); refine box_event ?hg (N := 1) ?hd (cs := #[.int .i64 a0_0, .int .i64 a0_1, .string a0_2]) (t := 44) ?hr ?_; (case hd => rfl); (case hg => rfl); (case hr => first | (go_simp; done) | (go_simp; rfl)); intro gb266 hg w8 hbox hb; have n0_ := bs_ (be_ HB) hb; have n1_ := Aside0.mk (hbox); have n2_ := gs_ hg (be_ HB); have n3_ := gs_ hg (be_ HB); clear HB; have HB := n0_; have BK266 := n1_; have GW266 := n2_; have GE266 := n3_; clear n0_ n1_ n2_ n3_; clear hb hbox hg; have hcz9_0 : w8.cell? ⟨gb266, 0, none⟩ = some (.int .i64 a0_0) := (blk_cell BK266.out 0).trans rfl; have hcz9_1 : w8.cell? ⟨gb266, 1, none⟩ = some (.int .i64 a0_1) := (blk_cell BK266.out 1).trans rfl; have hcz9_2 : w8.cell? ⟨gb266, 2, none⟩ = some (.string a0_2) := (blk_cell BK266.out 2).trans rfl; have hfz9_0 := blk_frozen BK266.out 0; have hfz9_1 := blk_frozen BK266.out 1; have hfz9_2 := blk_frozen BK266.out 2))
      go_ret
      exact ⟨by first | rfl | (simp [errW_none, errW_some] <;> rfl) | (simp [*, errW_none, errW_some] <;> rfl), by repeat (first | (with_reducible first | exact HB.out | apply below_alloc | apply pw_below_drewN | apply below_drew1 | refine below_set ?_ GE266.out) | exact HB.out)⟩
    · rw [if_neg c7] at H
      obtain ⟨c7b0, c7b1⟩ := neB_ c7
      have H' := Aside0.mk H
      clear H
      go_enter Tryd.func34, Tryd.ntmps34
      go_wp2_with (first | ((with_reducible refine gate_dst (N := 1) rfl ?_); refine box_event ?hg (N := 1) ?hd (cs := #[.int .i64 a0_0, .int .i64 a0_1, .string a0_2]) (t := 44) ?hr ?_; (case hd => rfl); (case hg => rfl); (case hr => first | (go_simp; done) | (go_simp; rfl)); intro gb266 hg w10 hbox hb; have n0_ := bs_ (be_ HB) hb; have n1_ := Aside0.mk (hbox); have n2_ := gs_ hg (be_ HB); have n3_ := gs_ hg (be_ HB); clear HB; have HB := n0_; have BK266 := n1_; have GW266 := n2_; have GE266 := n3_; clear n0_ n1_ n2_ n3_; clear hb hbox hg; have hcz11_0 : w10.cell? ⟨gb266, 0, none⟩ = some (.int .i64 a0_0) := (blk_cell BK266.out 0).trans rfl; have hcz11_1 : w10.cell? ⟨gb266, 1, none⟩ = some (.int .i64 a0_1) := (blk_cell BK266.out 1).trans rfl; have hcz11_2 : w10.cell? ⟨gb266, 2, none⟩ = some (.string a0_2) := (blk_cell BK266.out 2).trans rfl; have hfz11_0 := blk_frozen BK266.out 0; have hfz11_1 := blk_frozen BK266.out 1; have hfz11_2 := blk_frozen BK266.out 2))
      go_loopg [3, 4] k (fun kq v3 v4 w' => ∃ (x3_1 : ByteArray) (x4_1 : Int), v3 = .string x3_1 ∧ v4 = .int .i64 x4_1 ∧ Aside0 (constableref01_ValueText.l0 kq x3_1 x4_1 a0_0 a0_1 a0_2 = some r) ∧ Aside0 (kq ≤ k) ∧ Aside0 (w'.heap[gb266]? = some (.cells #[.int .i64 a0_0, .int .i64 a0_1, .string a0_2] 44 (0, 0))) ∧ Aside0 (Below w.heap.size w w'))
      case atStart => exact ⟨((⟨#[34]⟩ : ByteArray)), (0), ra_, ra_, H', ⟨Nat.le_refl _⟩, ⟨by (with_reducible repeat (first | refine blk_drewN ?_ _ | refine blk_drew ?_ | refine blk_alloc ?_ _)); exact BK266.out⟩, ⟨by repeat (first | (with_reducible first | exact HB.out | apply below_alloc | apply pw_below_drewN | apply below_drew1 | refine below_set ?_ GE266.out) | exact HB.out)⟩⟩
      case round =>
        clear H'
        try clear c2
        try clear c2b0
        try clear c2b1
        try clear p2
        try clear c3
        try clear c5
        try clear c7
        try clear c7b0
        try clear c7b1
        try clear hcz11_0
        try clear hcz11_1
        try clear hcz11_2
        try clear hcz5_0
        try clear hcz5_1
        try clear hcz5_2
        try clear hcz9_0
        try clear hcz9_1
        try clear hcz9_2
        try clear hfz11_0
        try clear hfz11_1
        try clear hfz11_2
        try clear hfz5_0
        try clear hfz5_1
        try clear hfz5_2
        try clear hfz9_0
        try clear hfz9_1
        try clear hfz9_2
        obtain ⟨x3_1, x4_1, rfl, rfl, HA, HK1, BK266, HB⟩ := hrel
        cases gk with
        | zero => exact absurd HA.out (by simp [constableref01_ValueText.l0])
        | succ k1 =>
          have H := HA.out
          clear HA
          simp only [constableref01_ValueText.l0] at H
          by_cases c12 : x4_1 < (a0_2.size : Int)
          · rw [if_pos c12] at H
            have c12b0 : decide (x4_1 < (a0_2.size : Int)) = true := decide_eq_true c12
            clear c12
            by_cases c13 : 0 ≤ x4_1
            · rw [if_pos c13] at H
              have c13b0 : decide (0 ≤ x4_1) = true := decide_eq_true c13
              clear c13
              by_cases c15 : (bt a0_2 x4_1) = 34
              · rw [if_pos c15] at H
                obtain ⟨c15b0, c15b1⟩ := eqB_ c15
                clear c15
                by_cases c16 : x3_1.size + 1 ≤ 9223372036854775807
                · rw [if_pos c16] at H
                  have c16b0 := eq_true c16
                  have c16b1 : decide (x3_1.size + 1 ≤ 9223372036854775807) = true := decide_eq_true c16
                  try have c16b2 : (9223372036854775807 < x3_1.size + 1) = False := eq_false (Nat.not_lt.2 c16)
                  have c17b0 := eq_true (of_decide_eq_true (by first | (with_reducible assumption) | assumption) : 0 ≤ x4_1)
                  by_cases c18 : x4_1 ≤ (wrap64 (x4_1 + 1))
                  · rw [if_pos c18] at H
                    have c18b0 := eq_true c18
                    have c18b1 : decide (x4_1 ≤ (wrap64 (x4_1 + 1))) = true := decide_eq_true c18
                    by_cases c19 : (wrap64 (x4_1 + 1)) ≤ (a0_2.size : Int)
                    · rw [if_pos c19] at H
                      have c19b0 := eq_true c19
                      have c19b1 : decide ((wrap64 (x4_1 + 1)) ≤ (a0_2.size : Int)) = true := decide_eq_true c19
                      by_cases c20 : (x3_1 ++ (⟨#[92]⟩ : ByteArray)).size + (a0_2.extract (x4_1 : Int).toNat ((wrap64 (x4_1 + 1)) : Int).toNat).size ≤ 9223372036854775807
                      · rw [if_pos c20] at H
                        have c20b0 := eq_true c20
                        try (have c20n : x3_1.size + 1 + a0_2.extract (x4_1 : Int).toNat ((wrap64 (x4_1 + 1)) : Int).toNat.size ≤ 9223372036854775807 := (by have h_ := c20; simp only [ByteArray.size_append] at h_; exact h_); have c20m := eq_false (Nat.not_lt.2 c20n))
                        have c20b1 : decide ((x3_1 ++ (⟨#[92]⟩ : ByteArray)).size + (a0_2.extract (x4_1 : Int).toNat ((wrap64 (x4_1 + 1)) : Int).toNat).size ≤ 9223372036854775807) = true := decide_eq_true c20
                        try have c20b2 : (9223372036854775807 < (x3_1 ++ (⟨#[92]⟩ : ByteArray)).size + (a0_2.extract (x4_1 : Int).toNat ((wrap64 (x4_1 + 1)) : Int).toNat).size) = False := eq_false (Nat.not_lt.2 c20)
                        have H' := Aside0.mk H
                        clear H
                        have hcz21_0 : wr.cell? ⟨gb266, 0, none⟩ = some (.int .i64 a0_0) := (blk_cell BK266.out 0).trans rfl
                        have hcz21_1 : wr.cell? ⟨gb266, 1, none⟩ = some (.int .i64 a0_1) := (blk_cell BK266.out 1).trans rfl
                        have hcz21_2 : wr.cell? ⟨gb266, 2, none⟩ = some (.string a0_2) := (blk_cell BK266.out 2).trans rfl
                        have hfz21_0 := blk_frozen BK266.out 0
                        have hfz21_1 := blk_frozen BK266.out 1
                        have hfz21_2 := blk_frozen BK266.out 2
                        have p14 : 0 ≤ (x4_1 : Int) := dt_
                        have q14 : x4_1 < (a0_2.size : Int) := dt_
                        have hx14 := bt_at a0_2 x4_1
                        replace p14 := eq_true p14
                        replace q14 := eq_true q14
                        go_wp2
                        go_roundg k1
                        case measure => have := HK1.out; omega
                        case rel => exact ⟨((x3_1 ++ (⟨#[92]⟩ : ByteArray)) ++ (a0_2.extract (x4_1 : Int).toNat ((wrap64 (x4_1 + 1)) : Int).toNat)), (wrap64 (x4_1 + 1)), ra_, ra_, H', ⟨by have := HK1.out; omega⟩, ⟨by (with_reducible repeat (first | refine blk_drewN ?_ _ | refine blk_drew ?_ | refine blk_alloc ?_ _)); exact BK266.out⟩, ⟨by repeat (first | (with_reducible first | exact HB.out | apply below_alloc | apply pw_below_drewN | apply below_drew1 | refine below_set ?_ GE266.out) | exact HB.out)⟩⟩
                      · rw [if_neg c20] at H
                        exact absurd H (by simp)
                    · rw [if_neg c19] at H
                      exact absurd H (by simp)
                  · rw [if_neg c18] at H
                    exact absurd H (by simp)
                · rw [if_neg c16] at H
                  exact absurd H (by simp)
              · rw [if_neg c15] at H
                obtain ⟨c15b0, c15b1⟩ := neB_ c15
                by_cases c23 : (bt a0_2 x4_1) = 92
                · rw [if_pos c23] at H
                  obtain ⟨c23b0, c23b1⟩ := eqB_ c23
                  clear c23
                  by_cases c24 : x3_1.size + 1 ≤ 9223372036854775807
                  · rw [if_pos c24] at H
                    have c24b0 := eq_true c24
                    have c24b1 : decide (x3_1.size + 1 ≤ 9223372036854775807) = true := decide_eq_true c24
                    try have c24b2 : (9223372036854775807 < x3_1.size + 1) = False := eq_false (Nat.not_lt.2 c24)
                    have c25b0 := eq_true (of_decide_eq_true (by first | (with_reducible assumption) | assumption) : 0 ≤ x4_1)
                    by_cases c26 : x4_1 ≤ (wrap64 (x4_1 + 1))
                    · rw [if_pos c26] at H
                      have c26b0 := eq_true c26
                      have c26b1 : decide (x4_1 ≤ (wrap64 (x4_1 + 1))) = true := decide_eq_true c26
                      by_cases c27 : (wrap64 (x4_1 + 1)) ≤ (a0_2.size : Int)
                      · rw [if_pos c27] at H
                        have c27b0 := eq_true c27
                        have c27b1 : decide ((wrap64 (x4_1 + 1)) ≤ (a0_2.size : Int)) = true := decide_eq_true c27
                        by_cases c28 : (x3_1 ++ (⟨#[92]⟩ : ByteArray)).size + (a0_2.extract (x4_1 : Int).toNat ((wrap64 (x4_1 + 1)) : Int).toNat).size ≤ 9223372036854775807
                        · rw [if_pos c28] at H
                          have c28b0 := eq_true c28
                          try (have c28n : x3_1.size + 1 + a0_2.extract (x4_1 : Int).toNat ((wrap64 (x4_1 + 1)) : Int).toNat.size ≤ 9223372036854775807 := (by have h_ := c28; simp only [ByteArray.size_append] at h_; exact h_); have c28m := eq_false (Nat.not_lt.2 c28n))
                          have c28b1 : decide ((x3_1 ++ (⟨#[92]⟩ : ByteArray)).size + (a0_2.extract (x4_1 : Int).toNat ((wrap64 (x4_1 + 1)) : Int).toNat).size ≤ 9223372036854775807) = true := decide_eq_true c28
                          try have c28b2 : (9223372036854775807 < (x3_1 ++ (⟨#[92]⟩ : ByteArray)).size + (a0_2.extract (x4_1 : Int).toNat ((wrap64 (x4_1 + 1)) : Int).toNat).size) = False := eq_false (Nat.not_lt.2 c28)
                          have H' := Aside0.mk H
                          clear H
                          have hcz29_0 : wr.cell? ⟨gb266, 0, none⟩ = some (.int .i64 a0_0) := (blk_cell BK266.out 0).trans rfl
                          have hcz29_1 : wr.cell? ⟨gb266, 1, none⟩ = some (.int .i64 a0_1) := (blk_cell BK266.out 1).trans rfl
                          have hcz29_2 : wr.cell? ⟨gb266, 2, none⟩ = some (.string a0_2) := (blk_cell BK266.out 2).trans rfl
                          have hfz29_0 := blk_frozen BK266.out 0
                          have hfz29_1 := blk_frozen BK266.out 1
                          have hfz29_2 := blk_frozen BK266.out 2
                          have p14 : 0 ≤ (x4_1 : Int) := dt_
                          have q14 : x4_1 < (a0_2.size : Int) := dt_
                          have hx14 := bt_at a0_2 x4_1
                          replace p14 := eq_true p14
                          replace q14 := eq_true q14
                          have p22 : 0 ≤ (x4_1 : Int) := dt_
                          have q22 : x4_1 < (a0_2.size : Int) := dt_
                          have hx22 := bt_at a0_2 x4_1
                          replace p22 := eq_true p22
                          replace q22 := eq_true q22
                          go_wp2
                          go_roundg k1
                          case measure => have := HK1.out; omega
                          case rel => exact ⟨((x3_1 ++ (⟨#[92]⟩ : ByteArray)) ++ (a0_2.extract (x4_1 : Int).toNat ((wrap64 (x4_1 + 1)) : Int).toNat)), (wrap64 (x4_1 + 1)), ra_, ra_, H', ⟨by have := HK1.out; omega⟩, ⟨by (with_reducible repeat (first | refine blk_drewN ?_ _ | refine blk_drew ?_ | refine blk_alloc ?_ _)); exact BK266.out⟩, ⟨by repeat (first | (with_reducible first | exact HB.out | apply below_alloc | apply pw_below_drewN | apply below_drew1 | refine below_set ?_ GE266.out) | exact HB.out)⟩⟩
                        · rw [if_neg c28] at H
                          exact absurd H (by simp)
                      · rw [if_neg c27] at H
                        exact absurd H (by simp)
                    · rw [if_neg c26] at H
                      exact absurd H (by simp)
                  · rw [if_neg c24] at H
                    exact absurd H (by simp)
                · rw [if_neg c23] at H
                  obtain ⟨c23b0, c23b1⟩ := neB_ c23
                  have c30b0 := eq_true (of_decide_eq_true (by first | (with_reducible assumption) | assumption) : 0 ≤ x4_1)
                  by_cases c31 : x4_1 ≤ (wrap64 (x4_1 + 1))
                  · rw [if_pos c31] at H
                    have c31b0 := eq_true c31
                    have c31b1 : decide (x4_1 ≤ (wrap64 (x4_1 + 1))) = true := decide_eq_true c31
                    by_cases c32 : (wrap64 (x4_1 + 1)) ≤ (a0_2.size : Int)
                    · rw [if_pos c32] at H
                      have c32b0 := eq_true c32
                      have c32b1 : decide ((wrap64 (x4_1 + 1)) ≤ (a0_2.size : Int)) = true := decide_eq_true c32
                      by_cases c33 : x3_1.size + (a0_2.extract (x4_1 : Int).toNat ((wrap64 (x4_1 + 1)) : Int).toNat).size ≤ 9223372036854775807
                      · rw [if_pos c33] at H
                        have c33b0 := eq_true c33
                        have c33b1 : decide (x3_1.size + (a0_2.extract (x4_1 : Int).toNat ((wrap64 (x4_1 + 1)) : Int).toNat).size ≤ 9223372036854775807) = true := decide_eq_true c33
                        try have c33b2 : (9223372036854775807 < x3_1.size + (a0_2.extract (x4_1 : Int).toNat ((wrap64 (x4_1 + 1)) : Int).toNat).size) = False := eq_false (Nat.not_lt.2 c33)
                        have H' := Aside0.mk H
                        clear H
                        have hcz34_0 : wr.cell? ⟨gb266, 0, none⟩ = some (.int .i64 a0_0) := (blk_cell BK266.out 0).trans rfl
                        have hcz34_1 : wr.cell? ⟨gb266, 1, none⟩ = some (.int .i64 a0_1) := (blk_cell BK266.out 1).trans rfl
                        have hcz34_2 : wr.cell? ⟨gb266, 2, none⟩ = some (.string a0_2) := (blk_cell BK266.out 2).trans rfl
                        have hfz34_0 := blk_frozen BK266.out 0
                        have hfz34_1 := blk_frozen BK266.out 1
                        have hfz34_2 := blk_frozen BK266.out 2
                        have p14 : 0 ≤ (x4_1 : Int) := dt_
                        have q14 : x4_1 < (a0_2.size : Int) := dt_
                        have hx14 := bt_at a0_2 x4_1
                        replace p14 := eq_true p14
                        replace q14 := eq_true q14
                        have p22 : 0 ≤ (x4_1 : Int) := dt_
                        have q22 : x4_1 < (a0_2.size : Int) := dt_
                        have hx22 := bt_at a0_2 x4_1
                        replace p22 := eq_true p22
                        replace q22 := eq_true q22
                        go_wp2
                        go_roundg k1
                        case measure => have := HK1.out; omega
                        case rel => exact ⟨(x3_1 ++ (a0_2.extract (x4_1 : Int).toNat ((wrap64 (x4_1 + 1)) : Int).toNat)), (wrap64 (x4_1 + 1)), ra_, ra_, H', ⟨by have := HK1.out; omega⟩, ⟨by (with_reducible repeat (first | refine blk_drewN ?_ _ | refine blk_drew ?_ | refine blk_alloc ?_ _)); exact BK266.out⟩, ⟨by repeat (first | (with_reducible first | exact HB.out | apply below_alloc | apply pw_below_drewN | apply below_drew1 | refine below_set ?_ GE266.out) | exact HB.out)⟩⟩
                      · rw [if_neg c33] at H
                        exact absurd H (by simp)
                    · rw [if_neg c32] at H
                      exact absurd H (by simp)
                  · rw [if_neg c31] at H
                    exact absurd H (by simp)
            · rw [if_neg c13] at H
              exact absurd H (by simp)
          · rw [if_neg c12] at H
            have c12b0 : decide (x4_1 < (a0_2.size : Int)) = false := decide_eq_false c12
            clear c12
            by_cases c35 : x3_1.size + 1 ≤ 9223372036854775807
            · rw [if_pos c35] at H
              have c35b0 := eq_true c35
              have c35b1 : decide (x3_1.size + 1 ≤ 9223372036854775807) = true := decide_eq_true c35
              try have c35b2 : (9223372036854775807 < x3_1.size + 1) = False := eq_false (Nat.not_lt.2 c35)
              obtain rfl := Option.some.inj H
              have hcz36_0 : wr.cell? ⟨gb266, 0, none⟩ = some (.int .i64 a0_0) := (blk_cell BK266.out 0).trans rfl
              have hcz36_1 : wr.cell? ⟨gb266, 1, none⟩ = some (.int .i64 a0_1) := (blk_cell BK266.out 1).trans rfl
              have hcz36_2 : wr.cell? ⟨gb266, 2, none⟩ = some (.string a0_2) := (blk_cell BK266.out 2).trans rfl
              have hfz36_0 := blk_frozen BK266.out 0
              have hfz36_1 := blk_frozen BK266.out 1
              have hfz36_2 := blk_frozen BK266.out 2
              go_wp2
              go_ret
              exact ⟨by first | rfl | (simp [errW_none, errW_some] <;> rfl) | (simp [*, errW_none, errW_some] <;> rfl), by repeat (first | (with_reducible first | exact HB.out | apply below_alloc | apply pw_below_drewN | apply below_drew1 | refine below_set ?_ GE266.out) | exact HB.out)⟩
            · rw [if_neg c35] at H
              exact absurd H (by simp)
end Go.Proofs.YtaopajmpifenoaaDoor.P
end
section
namespace Go.Proofs.YtaopajmpifenoaaDoor.P
open Go.RowKit Go.Proofs.YtaopajmpifenoaaDoorW.PrintWords Go.Proofs.YtaopajmpifenoaaDoorW.PrintLast Go.Proofs.YtaopajmpifenoaaDoorW.PrintMore
attribute [local go_sem] max2_int min2_int max_two min_two max_three min_three max_four min_four
set_option linter.unusedVariables false
set_option linter.unusedSimpArgs false
def constableref01_FactText.l0 : Nat → ByteArray → Int → ByteArray → List (S44) → Option (ByteArray)
  | 0, _, _, _, _ => none
  | k + 1, x3, x4, x269000, x269001 => if x4 < (x269001.length : Int) then (if x4 = 0 then (if x3.size + 1 ≤ 9223372036854775807 then (if 0 ≤ x4 then ((constableref01_ValueText.f k ((rd_T44 x269001 x4).f0) ((rd_T44 x269001 x4).f1) ((rd_T44 x269001 x4).f2)).bind fun t270 => (if (x3 ++ (⟨#[40]⟩ : ByteArray)).size + t270.size ≤ 9223372036854775807 then (constableref01_FactText.l0 k ((x3 ++ (⟨#[40]⟩ : ByteArray)) ++ t270) (wrap64 (x4 + 1)) x269000 x269001) else (none))) else (none)) else (none)) else (if x3.size + 2 ≤ 9223372036854775807 then (if 0 ≤ x4 then ((constableref01_ValueText.f k ((rd_T44 x269001 x4).f0) ((rd_T44 x269001 x4).f1) ((rd_T44 x269001 x4).f2)).bind fun t272 => (if (x3 ++ (⟨#[44, 32]⟩ : ByteArray)).size + t272.size ≤ 9223372036854775807 then (constableref01_FactText.l0 k ((x3 ++ (⟨#[44, 32]⟩ : ByteArray)) ++ t272) (wrap64 (x4 + 1)) x269000 x269001) else (none))) else (none)) else (none))) else (if (x269001.length : Int) > 0 then (if x3.size + 1 ≤ 9223372036854775807 then (some (x3 ++ (⟨#[41]⟩ : ByteArray))) else (none)) else (some x3))
def constableref01_FactText.f (k : Nat) (a0_0 : ByteArray) (l0_1 : List (S44)) : Option (ByteArray) := constableref01_FactText.l0 k a0_0 0 a0_0 l0_1
theorem constableref01_FactText.mono_l : ∀ k, (∀ y0 y1 y2 y3, LeO (constableref01_FactText.l0 k y0 y1 y2 y3) (constableref01_FactText.l0 (k + 1) y0 y1 y2 y3))
  | 0 => fun _ _ _ _ r h => by simp [constableref01_FactText.l0] at h
  | k + 1 => by
    have ih0 := constableref01_FactText.mono_l k
    · intro y0 y1 y2 y3
      unfold constableref01_FactText.l0
      repeat' first
      | (with_reducible exact ih0 _ _ _ _)
      | (with_reducible exact constableref01_ValueText.mono _ _ _ _)
      | (with_reducible exact LeO.refl _)
      | (with_reducible exact LeO.none _)
      | (with_reducible refine LeO.ite ?_ ?_)
      | (with_reducible refine LeO.bind ?_ (fun _ => ?_))
      | exact ih0 _ _ _ _
      | exact constableref01_ValueText.mono _ _ _ _
      | exact LeO.none _
      | refine LeO.ite ?_ ?_
      | refine LeO.bind ?_ (fun _ => ?_)
theorem constableref01_FactText.mono : ∀ a0 a1 k, LeO (constableref01_FactText.f k a0 a1) (constableref01_FactText.f (k + 1) a0 a1) := by
  intro a0 a1 k
  have ih0 := constableref01_FactText.mono_l k
  unfold constableref01_FactText.f
  repeat' first
      | (with_reducible exact ih0 _ _ _ _)
      | (with_reducible exact constableref01_ValueText.mono _ _ _ _)
      | (with_reducible exact LeO.refl _)
      | (with_reducible exact LeO.none _)
      | (with_reducible refine LeO.ite ?_ ?_)
      | (with_reducible refine LeO.bind ?_ (fun _ => ?_))
      | exact ih0 _ _ _ _
      | exact constableref01_ValueText.mono _ _ _ _
      | exact LeO.none _
      | refine LeO.ite ?_ ?_
      | refine LeO.bind ?_ (fun _ => ?_)
set_option maxHeartbeats 8000000 in
set_option maxRecDepth 100000 in
theorem constableref01_FactText.calls (k : Nat) (a0_0 : ByteArray) (A0_1 : Option Addr) (c0_1 : Nat) (l0_1 : List (S44)) (r : ByteArray) (w : World) (hr0_1 : Kd.C k44 w A0_1 l0_1.length l0_1) (hc0_1 : l0_1.length ≤ c0_1) (h : constableref01_FactText.f k a0_0 l0_1 = some r) :
    Calls Tryd.prog 25 #[.agg #[.string a0_0, .slice A0_1 l0_1.length c0_1]] w fun e w' => e = .returned (.string r) ∧ Below w.heap.size w w' := by
  have hu24 := Tryd.underlying24
  have hu44 := Tryd.underlying44
  have HR0_1 := Aside0.mk hr0_1
  have HC0_1 := Aside0.mk hc0_1
  clear hr0_1 hc0_1
  have HB := Aside0.mk (Below.refl w.heap.size w)
  have H : (constableref01_FactText.l0 k a0_0 0 a0_0 l0_1) = some r := h
  clear h
  have H' := Aside0.mk H
  clear H
  go_enter Tryd.func25, Tryd.ntmps25
  go_wp2_with (first | ((with_reducible refine gate_dst (N := 1) rfl ?_); refine box_event ?hg (N := 1) ?hd (cs := #[.string a0_0, .slice A0_1 l0_1.length c0_1]) (t := 24) ?hr ?_; (case hd => rfl); (case hg => rfl); (case hr => first | (go_simp; done) | (go_simp; rfl)); intro gb268 hg w2 hbox hb; have n0_ := bs_ (be_ HB) hb; have n1_ := Aside0.mk (hbox); have n2_ := gs_ hg (be_ HB); have n3_ := gs_ hg (be_ HB); clear HB; have HB := n0_; have BK268 := n1_; have GW268 := n2_; have GE268 := n3_; clear n0_ n1_ n2_ n3_; clear hb hbox hg; have hcz3_0 : w2.cell? ⟨gb268, 0, none⟩ = some (.string a0_0) := (blk_cell BK268.out 0).trans rfl; have hcz3_1 : w2.cell? ⟨gb268, 1, none⟩ = some (.slice A0_1 l0_1.length c0_1) := (blk_cell BK268.out 1).trans rfl; have hfz3_0 := blk_frozen BK268.out 0; have hfz3_1 := blk_frozen BK268.out 1))
  go_loopg [3, 4] k (fun kq v3 v4 w' => ∃ (x3_1 : ByteArray) (x4_1 : Int), v3 = .string x3_1 ∧ v4 = .int .i64 x4_1 ∧ Aside0 (constableref01_FactText.l0 kq x3_1 x4_1 a0_0 l0_1 = some r) ∧ Aside0 (kq ≤ k) ∧ Aside0 (w'.heap[gb268]? = some (.cells #[.string a0_0, (.slice A0_1 l0_1.length c0_1)] 24 (0, 0))) ∧ Aside0 (Below w.heap.size w w'))
  case atStart => exact ⟨(a0_0), (0), ra_, ra_, H', ⟨Nat.le_refl _⟩, ⟨by (with_reducible repeat (first | refine blk_drewN ?_ _ | refine blk_drew ?_ | refine blk_alloc ?_ _)); exact BK268.out⟩, ⟨by repeat (first | (with_reducible first | exact HB.out | apply below_alloc | apply pw_below_drewN | apply below_drew1 | refine below_set ?_ GE268.out) | exact HB.out)⟩⟩
  case round =>
    clear H'
    try clear c2
    try clear p2
    try clear hcz3_0
    try clear hcz3_1
    try clear hfz3_0
    try clear hfz3_1
    obtain ⟨x3_1, x4_1, rfl, rfl, HA, HK1, BK268, HB⟩ := hrel
    cases gk with
    | zero => exact absurd HA.out (by simp [constableref01_FactText.l0])
    | succ k1 =>
      have H := HA.out
      clear HA
      simp only [constableref01_FactText.l0] at H
      by_cases c4 : x4_1 < (l0_1.length : Int)
      · rw [if_pos c4] at H
        have c4b0 : decide (x4_1 < (l0_1.length : Int)) = true := decide_eq_true c4
        clear c4
        by_cases c5 : x4_1 = 0
        · rw [if_pos c5] at H
          obtain ⟨c5b0, c5b1⟩ := eqB_ c5
          clear c5
          by_cases c6 : x3_1.size + 1 ≤ 9223372036854775807
          · rw [if_pos c6] at H
            have c6b0 := eq_true c6
            have c6b1 : decide (x3_1.size + 1 ≤ 9223372036854775807) = true := decide_eq_true c6
            try have c6b2 : (9223372036854775807 < x3_1.size + 1) = False := eq_false (Nat.not_lt.2 c6)
            by_cases c7 : 0 ≤ x4_1
            · rw [if_pos c7] at H
              have c7b0 : decide (0 ≤ x4_1) = true := decide_eq_true c7
              clear c7
              replace H := Option.bind_eq_some_iff.mp H
              obtain ⟨t270, A80, H⟩ := H
              replace H : (if (x3_1 ++ (⟨#[40]⟩ : ByteArray)).size + t270.size ≤ 9223372036854775807 then (constableref01_FactText.l0 k1 ((x3_1 ++ (⟨#[40]⟩ : ByteArray)) ++ t270) (wrap64 (x4_1 + 1)) a0_0 l0_1) else (none)) = some r := H
              have A8 := Aside0.mk A80
              clear A80
              by_cases c9 : (x3_1 ++ (⟨#[40]⟩ : ByteArray)).size + t270.size ≤ 9223372036854775807
              · rw [if_pos c9] at H
                have c9b0 := eq_true c9
                try (have c9n : x3_1.size + 1 + t270.size ≤ 9223372036854775807 := (by have h_ := c9; simp only [ByteArray.size_append] at h_; exact h_); have c9m := eq_false (Nat.not_lt.2 c9n))
                have c9b1 : decide ((x3_1 ++ (⟨#[40]⟩ : ByteArray)).size + t270.size ≤ 9223372036854775807) = true := decide_eq_true c9
                try have c9b2 : (9223372036854775807 < (x3_1 ++ (⟨#[40]⟩ : ByteArray)).size + t270.size) = False := eq_false (Nat.not_lt.2 c9)
                have H' := Aside0.mk H
                clear H
                have hcz10_0 : wr.cell? ⟨gb268, 0, none⟩ = some (.string a0_0) := (blk_cell BK268.out 0).trans rfl
                have hcz10_1 : wr.cell? ⟨gb268, 1, none⟩ = some (.slice A0_1 l0_1.length c0_1) := (blk_cell BK268.out 1).trans rfl
                have hfz10_0 := blk_frozen BK268.out 0
                have hfz10_1 := blk_frozen BK268.out 1
                have p269 : 0 ≤ (x4_1 : Int) := dt_
                have q269 : x4_1 < (l0_1.length : Int) := dt_
                obtain ⟨ad269, e269, hx269_0, hx269_1, hx269_2⟩ := at_T44 HR0_1.out x4_1 p269 q269
                cases e269
                replace hx269_0 := cm_ HB hx269_0
                replace hx269_1 := cm_ HB hx269_1
                replace hx269_2 := cm_ HB hx269_2
                replace p269 := eq_true p269
                replace q269 := eq_true q269
                go_wp2_with (first | ((with_reducible refine gate_callee (f := 34) rfl ?_); refine goesL_ (some 26) rfl rfl Tryd.func34 (by kernel_rfl) rfl #[.agg #[.int .i64 ((rd_T44 l0_1 x4_1).f0), .int .i64 ((rd_T44 l0_1 x4_1).f1), .string ((rd_T44 l0_1 x4_1).f2)]] rfl ga_ ?_; (with_reducible refine (constableref01_ValueText.calls k1 ((rd_T44 l0_1 x4_1).f0) ((rd_T44 l0_1 x4_1).f1) ((rd_T44 l0_1 x4_1).f2) t270 _ A8.out).mono ?_); rintro e w11 ⟨rfl, hb⟩; refine ⟨_, rfl, ?_⟩; have n0_ := bb_ (bu_ BK268) hb; have n1_ := bs_ (be_ HB) hb; clear BK268; clear HB; have BK268 := n0_; have HB := n1_; clear n0_ n1_; (try clear hb); (try clear hb2); (try clear hk); (try clear hi)))
                go_roundg k1
                case measure => have := HK1.out; omega
                case rel => exact ⟨((x3_1 ++ (⟨#[40]⟩ : ByteArray)) ++ t270), (wrap64 (x4_1 + 1)), ra_, ra_, H', ⟨by have := HK1.out; omega⟩, ⟨by (with_reducible repeat (first | refine blk_drewN ?_ _ | refine blk_drew ?_ | refine blk_alloc ?_ _)); exact BK268.out⟩, ⟨by repeat (first | (with_reducible first | exact HB.out | apply below_alloc | apply pw_below_drewN | apply below_drew1 | refine below_set ?_ GE268.out) | exact HB.out)⟩⟩
              · rw [if_neg c9] at H
                exact absurd H (by simp)
            · rw [if_neg c7] at H
              exact absurd H (by simp)
          · rw [if_neg c6] at H
            exact absurd H (by simp)
        · rw [if_neg c5] at H
          obtain ⟨c5b0, c5b1⟩ := neB_ c5
          by_cases c12 : x3_1.size + 2 ≤ 9223372036854775807
          · rw [if_pos c12] at H
            have c12b0 := eq_true c12
            have c12b1 : decide (x3_1.size + 2 ≤ 9223372036854775807) = true := decide_eq_true c12
            try have c12b2 : (9223372036854775807 < x3_1.size + 2) = False := eq_false (Nat.not_lt.2 c12)
            by_cases c13 : 0 ≤ x4_1
            · rw [if_pos c13] at H
              have c13b0 : decide (0 ≤ x4_1) = true := decide_eq_true c13
              clear c13
              replace H := Option.bind_eq_some_iff.mp H
              obtain ⟨t272, A140, H⟩ := H
              replace H : (if (x3_1 ++ (⟨#[44, 32]⟩ : ByteArray)).size + t272.size ≤ 9223372036854775807 then (constableref01_FactText.l0 k1 ((x3_1 ++ (⟨#[44, 32]⟩ : ByteArray)) ++ t272) (wrap64 (x4_1 + 1)) a0_0 l0_1) else (none)) = some r := H
              have A14 := Aside0.mk A140
              clear A140
              by_cases c15 : (x3_1 ++ (⟨#[44, 32]⟩ : ByteArray)).size + t272.size ≤ 9223372036854775807
              · rw [if_pos c15] at H
                have c15b0 := eq_true c15
                try (have c15n : x3_1.size + 2 + t272.size ≤ 9223372036854775807 := (by have h_ := c15; simp only [ByteArray.size_append] at h_; exact h_); have c15m := eq_false (Nat.not_lt.2 c15n))
                have c15b1 : decide ((x3_1 ++ (⟨#[44, 32]⟩ : ByteArray)).size + t272.size ≤ 9223372036854775807) = true := decide_eq_true c15
                try have c15b2 : (9223372036854775807 < (x3_1 ++ (⟨#[44, 32]⟩ : ByteArray)).size + t272.size) = False := eq_false (Nat.not_lt.2 c15)
                have H' := Aside0.mk H
                clear H
                have hcz16_0 : wr.cell? ⟨gb268, 0, none⟩ = some (.string a0_0) := (blk_cell BK268.out 0).trans rfl
                have hcz16_1 : wr.cell? ⟨gb268, 1, none⟩ = some (.slice A0_1 l0_1.length c0_1) := (blk_cell BK268.out 1).trans rfl
                have hfz16_0 := blk_frozen BK268.out 0
                have hfz16_1 := blk_frozen BK268.out 1
                have p271 : 0 ≤ (x4_1 : Int) := dt_
                have q271 : x4_1 < (l0_1.length : Int) := dt_
                obtain ⟨ad271, e271, hx271_0, hx271_1, hx271_2⟩ := at_T44 HR0_1.out x4_1 p271 q271
                cases e271
                replace hx271_0 := cm_ HB hx271_0
                replace hx271_1 := cm_ HB hx271_1
                replace hx271_2 := cm_ HB hx271_2
                replace p271 := eq_true p271
                replace q271 := eq_true q271
                go_wp2_with (first | ((with_reducible refine gate_callee (f := 34) rfl ?_); refine goesL_ (some 26) rfl rfl Tryd.func34 (by kernel_rfl) rfl #[.agg #[.int .i64 ((rd_T44 l0_1 x4_1).f0), .int .i64 ((rd_T44 l0_1 x4_1).f1), .string ((rd_T44 l0_1 x4_1).f2)]] rfl ga_ ?_; (with_reducible refine (constableref01_ValueText.calls k1 ((rd_T44 l0_1 x4_1).f0) ((rd_T44 l0_1 x4_1).f1) ((rd_T44 l0_1 x4_1).f2) t272 _ A14.out).mono ?_); rintro e w17 ⟨rfl, hb⟩; refine ⟨_, rfl, ?_⟩; have n0_ := bb_ (bu_ BK268) hb; have n1_ := bs_ (be_ HB) hb; clear BK268; clear HB; have BK268 := n0_; have HB := n1_; clear n0_ n1_; (try clear hb); (try clear hb2); (try clear hk); (try clear hi)))
                go_roundg k1
                case measure => have := HK1.out; omega
                case rel => exact ⟨((x3_1 ++ (⟨#[44, 32]⟩ : ByteArray)) ++ t272), (wrap64 (x4_1 + 1)), ra_, ra_, H', ⟨by have := HK1.out; omega⟩, ⟨by (with_reducible repeat (first | refine blk_drewN ?_ _ | refine blk_drew ?_ | refine blk_alloc ?_ _)); exact BK268.out⟩, ⟨by repeat (first | (with_reducible first | exact HB.out | apply below_alloc | apply pw_below_drewN | apply below_drew1 | refine below_set ?_ GE268.out) | exact HB.out)⟩⟩
              · rw [if_neg c15] at H
                exact absurd H (by simp)
            · rw [if_neg c13] at H
              exact absurd H (by simp)
          · rw [if_neg c12] at H
            exact absurd H (by simp)
      · rw [if_neg c4] at H
        have c4b0 : decide (x4_1 < (l0_1.length : Int)) = false := decide_eq_false c4
        clear c4
        by_cases c18 : (l0_1.length : Int) > 0
        · rw [if_pos c18] at H
          have c18b0 : decide (0 < (l0_1.length : Int)) = true := decide_eq_true c18
          have c18b1 : decide (0 < l0_1.length) = true := decide_eq_true (by omega)
          clear c18
          by_cases c19 : x3_1.size + 1 ≤ 9223372036854775807
          · rw [if_pos c19] at H
            have c19b0 := eq_true c19
            have c19b1 : decide (x3_1.size + 1 ≤ 9223372036854775807) = true := decide_eq_true c19
            try have c19b2 : (9223372036854775807 < x3_1.size + 1) = False := eq_false (Nat.not_lt.2 c19)
            obtain rfl := Option.some.inj H
            have hcz20_0 : wr.cell? ⟨gb268, 0, none⟩ = some (.string a0_0) := (blk_cell BK268.out 0).trans rfl
            have hcz20_1 : wr.cell? ⟨gb268, 1, none⟩ = some (.slice A0_1 l0_1.length c0_1) := (blk_cell BK268.out 1).trans rfl
            have hfz20_0 := blk_frozen BK268.out 0
            have hfz20_1 := blk_frozen BK268.out 1
            go_wp2
            go_ret
            exact ⟨by first | rfl | (simp [errW_none, errW_some] <;> rfl) | (simp [*, errW_none, errW_some] <;> rfl), by repeat (first | (with_reducible first | exact HB.out | apply below_alloc | apply pw_below_drewN | apply below_drew1 | refine below_set ?_ GE268.out) | exact HB.out)⟩
          · rw [if_neg c19] at H
            exact absurd H (by simp)
        · rw [if_neg c18] at H
          have c18b0 : decide (0 < (l0_1.length : Int)) = false := decide_eq_false c18
          have c18b1 : decide (0 < l0_1.length) = false := decide_eq_false (by omega)
          clear c18
          obtain rfl := Option.some.inj H
          have hcz21_0 : wr.cell? ⟨gb268, 0, none⟩ = some (.string a0_0) := (blk_cell BK268.out 0).trans rfl
          have hcz21_1 : wr.cell? ⟨gb268, 1, none⟩ = some (.slice A0_1 l0_1.length c0_1) := (blk_cell BK268.out 1).trans rfl
          have hfz21_0 := blk_frozen BK268.out 0
          have hfz21_1 := blk_frozen BK268.out 1
          go_wp2
          go_ret
          exact ⟨by first | rfl | (simp [errW_none, errW_some] <;> rfl) | (simp [*, errW_none, errW_some] <;> rfl), by repeat (first | (with_reducible first | exact HB.out | apply below_alloc | apply pw_below_drewN | apply below_drew1 | refine below_set ?_ GE268.out) | exact HB.out)⟩
end Go.Proofs.YtaopajmpifenoaaDoor.P
end
section
namespace Go.Proofs.YtaopajmpifenoaaDoor.P
open Go.RowKit Go.Proofs.YtaopajmpifenoaaDoorW.PrintWords Go.Proofs.YtaopajmpifenoaaDoorW.PrintLast Go.Proofs.YtaopajmpifenoaaDoorW.PrintMore
attribute [local go_sem] max2_int min2_int max_two min_two max_three min_three max_four min_four
set_option linter.unusedVariables false
set_option linter.unusedSimpArgs false
mutual
def constablelaw03_FactExact.j0 : Nat → List (S24) → List (S24) → ByteArray → Bool → ByteArray → List (S44) → ByteArray → List (S44) → Option (Bool)
  | 0, _, _, _, _, _, _, _, _ => none
  | k + 1, x2, x3, x4, x32, x274000, x274001, x275000, x275001 => if x32 = true then (some true) else ((constablekeep_TwinFact.f x274000 x274001).bind fun bt279 => ((fact_Text.f k bt279.1 bt279.2).bind fun bt284 => ((fact_Name.f k x4).bind fun t286 => ((constableref01_Name.f k x4).bind fun t287 => (if (t286 != t287) = true then (constablelaw03_FactExact.j1 k bt284.1 bt284.2 true x274000 x274001 bt279.1 bt279.2) else ((fact_Compare.f k bt279.1 bt279.2 x275000 x275001).bind fun t288 => ((constableref01_Facts.f k x274000 x274001 x275000 x275001).bind fun t289 => (if t288 = t289 then ((fact_Lists.f k x2 x3).bind fun t290 => ((constableref01_Lists.f k x2 x3).bind fun t291 => (if t290 = t291 then ((constablekeep_Fact.f k bt279.1 bt279.2 x274000 x274001).bind fun t292 => (constablelaw03_FactExact.j1 k bt284.1 bt284.2 (!t292) x274000 x274001 bt279.1 bt279.2)) else (constablelaw03_FactExact.j1 k bt284.1 bt284.2 true x274000 x274001 bt279.1 bt279.2)))) else (constablelaw03_FactExact.j1 k bt284.1 bt284.2 true x274000 x274001 bt279.1 bt279.2)))))))))
def constablelaw03_FactExact.j1 : Nat → ByteArray → Int → Bool → ByteArray → List (S44) → ByteArray → List (S44) → Option (Bool)
  | 0, _, _, _, _, _, _, _ => none
  | k + 1, x12, x13, x68, x274000, x274001, x284000, x284001 => if x68 = true then (some false) else ((constableref01_Fact.f k x274000 x274001).bind fun t293 => (if t293 = true then ((fact_Check.f k x284000 x284001).bind fun t294 => (if t294 = 0 then (if x13 = 0 then ((constableref01_FactText.f k x274000 x274001).bind fun t295 => (if x12.toList = t295.toList then ((constablelaw03_wakes.f k).bind fun t296 => (some t296)) else (some false))) else (some false)) else (some false))) else ((fact_Check.f k x284000 x284001).bind fun t297 => (if t297 = 1 then (if x13 = 1 then (if x12.toList = ([] : List UInt8) then ((constablelaw03_wakes.f k).bind fun t298 => (some t298)) else (some false)) else (some false)) else (some false)))))
end
def constablelaw03_FactExact.f (k : Nat) (a0_0 : ByteArray) (l0_1 : List (S44)) (a1_0 : ByteArray) (l1_1 : List (S44)) (l2 : List (S24)) (l3 : List (S24)) (a4 : ByteArray) : Option (Bool) := (constablelaw03_Heavy.f k a0_0 l0_1).bind fun t275 => (if t275 = true then (constablelaw03_FactExact.j0 k l2 l3 a4 true a0_0 l0_1 a1_0 l1_1) else ((constablelaw03_Heavy.f k a1_0 l1_1).bind fun t276 => (if t276 = true then (constablelaw03_FactExact.j0 k l2 l3 a4 true a0_0 l0_1 a1_0 l1_1) else ((constablelaw03_Many.f k l2).bind fun t277 => (if t277 = true then (constablelaw03_FactExact.j0 k l2 l3 a4 true a0_0 l0_1 a1_0 l1_1) else ((constablelaw03_Many.f k l3).bind fun t278 => (if t278 = true then (constablelaw03_FactExact.j0 k l2 l3 a4 true a0_0 l0_1 a1_0 l1_1) else (constablelaw03_FactExact.j0 k l2 l3 a4 (decide ((a4.size : Int) > 200)) a0_0 l0_1 a1_0 l1_1))))))))
theorem constablelaw03_FactExact.mono_l : ∀ k, (∀ y0 y1 y2 y3 y4 y5 y6 y7, LeO (constablelaw03_FactExact.j0 k y0 y1 y2 y3 y4 y5 y6 y7) (constablelaw03_FactExact.j0 (k + 1) y0 y1 y2 y3 y4 y5 y6 y7)) ∧ (∀ y0 y1 y2 y3 y4 y5 y6, LeO (constablelaw03_FactExact.j1 k y0 y1 y2 y3 y4 y5 y6) (constablelaw03_FactExact.j1 (k + 1) y0 y1 y2 y3 y4 y5 y6))
  | 0 => ⟨fun _ _ _ _ _ _ _ _ r h => by simp [constablelaw03_FactExact.j0] at h, fun _ _ _ _ _ _ _ r h => by simp [constablelaw03_FactExact.j1] at h⟩
  | k + 1 => by
    obtain ⟨ih0, ih1⟩ := constablelaw03_FactExact.mono_l k
    refine ⟨?_, ?_⟩
    · intro y0 y1 y2 y3 y4 y5 y6 y7
      unfold constablelaw03_FactExact.j0
      repeat' first
      | (with_reducible exact ih0 _ _ _ _ _ _ _ _)
      | (with_reducible exact ih1 _ _ _ _ _ _ _)
      | (with_reducible exact constablekeep_Fact.mono _ _ _ _ _)
      | (with_reducible exact constablelaw03_Heavy.mono _ _ _)
      | (with_reducible exact constablelaw03_Many.mono _ _)
      | (with_reducible exact constablelaw03_wakes.mono _)
      | (with_reducible exact constableref01_Fact.mono _ _ _)
      | (with_reducible exact constableref01_FactText.mono _ _ _)
      | (with_reducible exact constableref01_Facts.mono _ _ _ _ _)
      | (with_reducible exact constableref01_Lists.mono _ _ _)
      | (with_reducible exact constableref01_Name.mono _ _)
      | (with_reducible exact fact_Check.mono _ _ _)
      | (with_reducible exact fact_Compare.mono _ _ _ _ _)
      | (with_reducible exact fact_Lists.mono _ _ _)
      | (with_reducible exact fact_Name.mono _ _)
      | (with_reducible exact fact_Text.mono _ _ _)
      | (with_reducible exact LeO.refl _)
      | (with_reducible exact LeO.none _)
      | (with_reducible refine LeO.ite ?_ ?_)
      | (with_reducible refine LeO.bind ?_ (fun _ => ?_))
      | exact ih0 _ _ _ _ _ _ _ _
      | exact ih1 _ _ _ _ _ _ _
      | exact constablekeep_Fact.mono _ _ _ _ _
      | exact constablelaw03_Heavy.mono _ _ _
      | exact constablelaw03_Many.mono _ _
      | exact constablelaw03_wakes.mono _
      | exact constableref01_Fact.mono _ _ _
      | exact constableref01_FactText.mono _ _ _
      | exact constableref01_Facts.mono _ _ _ _ _
      | exact constableref01_Lists.mono _ _ _
      | exact constableref01_Name.mono _ _
      | exact fact_Check.mono _ _ _
      | exact fact_Compare.mono _ _ _ _ _
      | exact fact_Lists.mono _ _ _
      | exact fact_Name.mono _ _
      | exact fact_Text.mono _ _ _
      | exact LeO.none _
      | refine LeO.ite ?_ ?_
      | refine LeO.bind ?_ (fun _ => ?_)
    · intro y0 y1 y2 y3 y4 y5 y6
      unfold constablelaw03_FactExact.j1
      repeat' first
      | (with_reducible exact ih0 _ _ _ _ _ _ _ _)
      | (with_reducible exact ih1 _ _ _ _ _ _ _)
      | (with_reducible exact constablekeep_Fact.mono _ _ _ _ _)
      | (with_reducible exact constablelaw03_Heavy.mono _ _ _)
      | (with_reducible exact constablelaw03_Many.mono _ _)
      | (with_reducible exact constablelaw03_wakes.mono _)
      | (with_reducible exact constableref01_Fact.mono _ _ _)
      | (with_reducible exact constableref01_FactText.mono _ _ _)
      | (with_reducible exact constableref01_Facts.mono _ _ _ _ _)
      | (with_reducible exact constableref01_Lists.mono _ _ _)
      | (with_reducible exact constableref01_Name.mono _ _)
      | (with_reducible exact fact_Check.mono _ _ _)
      | (with_reducible exact fact_Compare.mono _ _ _ _ _)
      | (with_reducible exact fact_Lists.mono _ _ _)
      | (with_reducible exact fact_Name.mono _ _)
      | (with_reducible exact fact_Text.mono _ _ _)
      | (with_reducible exact LeO.refl _)
      | (with_reducible exact LeO.none _)
      | (with_reducible refine LeO.ite ?_ ?_)
      | (with_reducible refine LeO.bind ?_ (fun _ => ?_))
      | exact ih0 _ _ _ _ _ _ _ _
      | exact ih1 _ _ _ _ _ _ _
      | exact constablekeep_Fact.mono _ _ _ _ _
      | exact constablelaw03_Heavy.mono _ _ _
      | exact constablelaw03_Many.mono _ _
      | exact constablelaw03_wakes.mono _
      | exact constableref01_Fact.mono _ _ _
      | exact constableref01_FactText.mono _ _ _
      | exact constableref01_Facts.mono _ _ _ _ _
      | exact constableref01_Lists.mono _ _ _
      | exact constableref01_Name.mono _ _
      | exact fact_Check.mono _ _ _
      | exact fact_Compare.mono _ _ _ _ _
      | exact fact_Lists.mono _ _ _
      | exact fact_Name.mono _ _
      | exact fact_Text.mono _ _ _
      | exact LeO.none _
      | refine LeO.ite ?_ ?_
      | refine LeO.bind ?_ (fun _ => ?_)
theorem constablelaw03_FactExact.mono : ∀ a0 a1 a2 a3 a4 a5 a6 k, LeO (constablelaw03_FactExact.f k a0 a1 a2 a3 a4 a5 a6) (constablelaw03_FactExact.f (k + 1) a0 a1 a2 a3 a4 a5 a6) := by
  intro a0 a1 a2 a3 a4 a5 a6 k
  obtain ⟨ih0, ih1⟩ := constablelaw03_FactExact.mono_l k
  unfold constablelaw03_FactExact.f
  repeat' first
      | (with_reducible exact ih0 _ _ _ _ _ _ _ _)
      | (with_reducible exact ih1 _ _ _ _ _ _ _)
      | (with_reducible exact constablekeep_Fact.mono _ _ _ _ _)
      | (with_reducible exact constablelaw03_Heavy.mono _ _ _)
      | (with_reducible exact constablelaw03_Many.mono _ _)
      | (with_reducible exact constablelaw03_wakes.mono _)
      | (with_reducible exact constableref01_Fact.mono _ _ _)
      | (with_reducible exact constableref01_FactText.mono _ _ _)
      | (with_reducible exact constableref01_Facts.mono _ _ _ _ _)
      | (with_reducible exact constableref01_Lists.mono _ _ _)
      | (with_reducible exact constableref01_Name.mono _ _)
      | (with_reducible exact fact_Check.mono _ _ _)
      | (with_reducible exact fact_Compare.mono _ _ _ _ _)
      | (with_reducible exact fact_Lists.mono _ _ _)
      | (with_reducible exact fact_Name.mono _ _)
      | (with_reducible exact fact_Text.mono _ _ _)
      | (with_reducible exact LeO.refl _)
      | (with_reducible exact LeO.none _)
      | (with_reducible refine LeO.ite ?_ ?_)
      | (with_reducible refine LeO.bind ?_ (fun _ => ?_))
      | exact ih0 _ _ _ _ _ _ _ _
      | exact ih1 _ _ _ _ _ _ _
      | exact constablekeep_Fact.mono _ _ _ _ _
      | exact constablelaw03_Heavy.mono _ _ _
      | exact constablelaw03_Many.mono _ _
      | exact constablelaw03_wakes.mono _
      | exact constableref01_Fact.mono _ _ _
      | exact constableref01_FactText.mono _ _ _
      | exact constableref01_Facts.mono _ _ _ _ _
      | exact constableref01_Lists.mono _ _ _
      | exact constableref01_Name.mono _ _
      | exact fact_Check.mono _ _ _
      | exact fact_Compare.mono _ _ _ _ _
      | exact fact_Lists.mono _ _ _
      | exact fact_Name.mono _ _
      | exact fact_Text.mono _ _ _
      | exact LeO.none _
      | refine LeO.ite ?_ ?_
      | refine LeO.bind ?_ (fun _ => ?_)
def constablelaw03_FactExact.T5 : Bool × List (List Nat × List Nat) := (true, [([], []), ([0], [0]), ([], []), ([2, 1], [2]), ([1, 3], [1, 3]), ([4, 3], [4]), ([5], [5]), ([5], [5]), ([6, 7, 5, 5], [5, 6, 7]), ([5], [5]), ([5], [5]), ([9, 10, 8, 5], [5, 9, 10]), ([8, 11, 5], [5, 8, 11]), ([5, 12], [5, 12]), ([13, 11], [13]), ([14], [14]), ([14], [14]), ([15, 16, 14, 14], [14, 15, 16]), ([14], [14]), ([14], [14]), ([18, 19, 17, 14], [14, 18, 19]), ([17, 20, 14], [14, 17, 20]), ([14, 21], [14, 21]), ([22, 20], [22]), ([23], [23]), ([23], [23]), ([24, 25, 23, 23], [23, 24, 25]), ([26, 23], [23, 26]), ([23, 27], [23, 27])])
def constablelaw03_FactExact.B5 : List Nat := [0, 1, 0, 7, 15, 31, 63, 63, 255, 63, 63, 2047, 4095, 8191, 16383, 32767, 32767, 131071, 32767, 32767, 1048575, 2097151, 4194303, 8388607, 16777215, 16777215, 67108863, 134217727, 268435455]
theorem constablelaw03_FactExact.tab5 : rtab .any (opsOf Tryd.f3 5) = constablelaw03_FactExact.T5 := by kernel_rfl
theorem constablelaw03_FactExact.bits5 : waitsOk constablelaw03_FactExact.T5.2 constablelaw03_FactExact.B5 = true := by kernel_rfl
set_option maxHeartbeats 8000000 in
set_option maxRecDepth 100000 in
theorem constablelaw03_FactExact.calls (k : Nat) (a0_0 : ByteArray) (A0_1 : Option Addr) (c0_1 : Nat) (l0_1 : List (S44)) (a1_0 : ByteArray) (A1_1 : Option Addr) (c1_1 : Nat) (l1_1 : List (S44)) (A2 : Option Addr) (c2 : Nat) (l2 : List (S24)) (A3 : Option Addr) (c3 : Nat) (l3 : List (S24)) (a4 : ByteArray) (r : Bool) (w : World) (hr0_1 : Kd.C k44 w A0_1 l0_1.length l0_1) (hc0_1 : l0_1.length ≤ c0_1) (hr1_1 : Kd.C k44 w A1_1 l1_1.length l1_1) (hc1_1 : l1_1.length ≤ c1_1) (hr2 : Kd.C k24 w A2 l2.length l2) (hc2 : l2.length ≤ c2) (hr3 : Kd.C k24 w A3 l3.length l3) (hc3 : l3.length ≤ c3) (h : constablelaw03_FactExact.f k a0_0 l0_1 a1_0 l1_1 l2 l3 a4 = some r) (hr_ : r = true) (hl_ : LaidT w) :
    Calls Tryd.prog 3 #[.agg #[.string a0_0, .slice A0_1 l0_1.length c0_1], .agg #[.string a1_0, .slice A1_1 l1_1.length c1_1], .slice A2 l2.length c2, .slice A3 l3.length c3, .string a4] w fun e w' => e = .returned (.bool r) ∧ Below w.heap.size w w' := by
  have hu24 := Tryd.underlying24
  have HR0_1 := Aside0.mk hr0_1
  have HC0_1 := Aside0.mk hc0_1
  clear hr0_1 hc0_1
  have HR1_1 := Aside0.mk hr1_1
  have HC1_1 := Aside0.mk hc1_1
  clear hr1_1 hc1_1
  have HR2 := Aside0.mk hr2
  have HC2 := Aside0.mk hc2
  clear hr2 hc2
  have HR3 := Aside0.mk hr3
  have HC3 := Aside0.mk hc3
  clear hr3 hc3
  have HB := Aside0.mk (Below.refl w.heap.size w)
  have H : ((constablelaw03_Heavy.f k a0_0 l0_1).bind fun t275 => (if t275 = true then (constablelaw03_FactExact.j0 k l2 l3 a4 true a0_0 l0_1 a1_0 l1_1) else ((constablelaw03_Heavy.f k a1_0 l1_1).bind fun t276 => (if t276 = true then (constablelaw03_FactExact.j0 k l2 l3 a4 true a0_0 l0_1 a1_0 l1_1) else ((constablelaw03_Many.f k l2).bind fun t277 => (if t277 = true then (constablelaw03_FactExact.j0 k l2 l3 a4 true a0_0 l0_1 a1_0 l1_1) else ((constablelaw03_Many.f k l3).bind fun t278 => (if t278 = true then (constablelaw03_FactExact.j0 k l2 l3 a4 true a0_0 l0_1 a1_0 l1_1) else (constablelaw03_FactExact.j0 k l2 l3 a4 (decide ((a4.size : Int) > 200)) a0_0 l0_1 a1_0 l1_1))))))))) = some r := h
  clear h
  have HL_ := Aside0.mk hl_
  clear hl_
  have HR_ := Aside0.mk hr_
  clear hr_
  have HC6 := Aside0.mk H
  clear H
  go_enter Tryd.func3, Tryd.ntmps3
  go_upto_region 1 with (first | ((with_reducible refine gate_dst (N := 5) rfl ?_); (try (refine gate_guard (by rfl) ?_; dsimp only)); refine box_event ?hg (N := 5) ?hd (cs := #[.string a0_0, .slice A0_1 l0_1.length c0_1]) (t := 24) ?hr ?_; (case hd => rfl); (case hg => rfl); (case hr => first | (go_simp; done) | (go_simp; rfl)); intro gb273 hg w7 hbox hb; have n0_ := bs_ (be_ HB) hb; have n1_ := Aside0.mk (hbox); have n2_ := gs_ hg (be_ HB); have n3_ := gs_ hg (be_ HB); clear HB; have HB := n0_; have BK273 := n1_; have GW273 := n2_; have GE273 := n3_; clear n0_ n1_ n2_ n3_; clear hb hbox hg) | ((with_reducible refine gate_dst (N := 6) rfl ?_); (try (refine gate_guard (by rfl) ?_; dsimp only)); refine box_event ?hg (N := 6) ?hd (cs := #[.string a1_0, .slice A1_1 l1_1.length c1_1]) (t := 24) ?hr ?_; (case hd => rfl); (case hg => rfl); (case hr => first | (go_simp; done) | (go_simp; rfl)); intro gb274 hg w8 hbox hb; have n0_ := bb_ (bu_ BK273) hb; have n1_ := bs_ (be_ HB) hb; have n2_ := Aside0.mk (hbox); have n3_ := gs_ hg (be_ HB); have n4_ := gs_ hg (be_ HB); have n5_ := nl_ hg (bu_ BK273); have n6_ := ng_ hg (bu_ BK273); clear BK273; clear HB; have BK273 := n0_; have HB := n1_; have BK274 := n2_; have GW274 := n3_; have GE274 := n4_; have NB273_274 := n5_; have NB274_273 := n6_; clear n0_ n1_ n2_ n3_ n4_ n5_ n6_; clear hb hbox hg))
  (try simp only [Act.put, List.setIfInBounds_toArray, List.set_cons_zero, List.set_cons_succ])
  go_cut [32] (fun v32 wc => ∃ (kq : Nat) (x32_5 : Bool), v32 = .bool x32_5 ∧ Aside0 (constablelaw03_FactExact.j0 kq l2 l3 a4 x32_5 a0_0 l0_1 a1_0 l1_1 = some r) ∧ Aside0 (kq ≤ k) ∧ Aside0 (wc.heap[gb273]? = some (.cells #[.string a0_0, (.slice A0_1 l0_1.length c0_1)] 24 (0, 0))) ∧ Aside0 (wc.heap[gb274]? = some (.cells #[.string a1_0, (.slice A1_1 l1_1.length c1_1)] 24 (0, 0))) ∧ Aside0 (Below w.heap.size w wc))
  case first =>
    have H := HC6.out
    clear HC6
    replace H := Option.bind_eq_some_iff.mp H
    obtain ⟨t275, A90, H⟩ := H
    replace H : (if t275 = true then (constablelaw03_FactExact.j0 k l2 l3 a4 true a0_0 l0_1 a1_0 l1_1) else ((constablelaw03_Heavy.f k a1_0 l1_1).bind fun t276 => (if t276 = true then (constablelaw03_FactExact.j0 k l2 l3 a4 true a0_0 l0_1 a1_0 l1_1) else ((constablelaw03_Many.f k l2).bind fun t277 => (if t277 = true then (constablelaw03_FactExact.j0 k l2 l3 a4 true a0_0 l0_1 a1_0 l1_1) else ((constablelaw03_Many.f k l3).bind fun t278 => (if t278 = true then (constablelaw03_FactExact.j0 k l2 l3 a4 true a0_0 l0_1 a1_0 l1_1) else (constablelaw03_FactExact.j0 k l2 l3 a4 (decide ((a4.size : Int) > 200)) a0_0 l0_1 a1_0 l1_1)))))))) = some r := H
    have A9 := Aside0.mk A90
    clear A90
    by_cases c10 : t275 = true
    · subst c10
      have H1 : (constablelaw03_FactExact.j0 k l2 l3 a4 true a0_0 l0_1 a1_0 l1_1) = some r := by rw [if_pos rfl] at H; exact H
      clear H
      have H := H1
      clear H1
      have H' := Aside0.mk H
      clear H
      have hnb11 := NB273_274.out
      have hnc11 := NB274_273.out
      have hcz12_0 : w8.cell? ⟨gb273, 0, none⟩ = some (.string a0_0) := (blk_cell BK273.out 0).trans rfl
      have hcz12_1 : w8.cell? ⟨gb273, 1, none⟩ = some (.slice A0_1 l0_1.length c0_1) := (blk_cell BK273.out 1).trans rfl
      have hfz12_0 := blk_frozen BK273.out 0
      have hfz12_1 := blk_frozen BK273.out 1
      go_wp2_with (first | ((with_reducible refine gate_callee (f := 11) rfl ?_); refine goesL_ (some 15) rfl rfl Tryd.func11 (by kernel_rfl) rfl #[.agg #[.string a0_0, .slice A0_1 l0_1.length c0_1]] rfl ga_ ?_; (with_reducible refine (constablelaw03_Heavy.calls k a0_0 _ _ l0_1 true _ ?side1 ?side2 A9.out).mono ?_); (case side1 => repeat (first | exact (Kd.C_below HR0_1.out HB.out) | (with_reducible refine Kd.C_alloc ?_ _) | (with_reducible refine Kd.C_drewN ?_ _) | (with_reducible refine Kd.C_drew ?_))); (case side2 => exact HC0_1.out); rintro e w13 ⟨rfl, hb⟩; refine ⟨_, rfl, ?_⟩; have n0_ := bb_ (bu_ BK273) hb; have n1_ := bb_ (bu_ BK274) hb; have n2_ := bs_ (be_ HB) hb; clear BK273; clear BK274; clear HB; have BK273 := n0_; have BK274 := n1_; have HB := n2_; clear n0_ n1_ n2_; (try clear hb); (try clear hb2); (try clear hk); (try clear hi)))
      go_meet
      case rel => exact ⟨_, (true), ra_, H', ⟨by first | omega | exact Nat.le_refl _⟩, ⟨by (with_reducible repeat (first | refine blk_drewN ?_ _ | refine blk_drew ?_ | refine blk_alloc ?_ _)); exact BK273.out⟩, ⟨by (with_reducible repeat (first | refine blk_drewN ?_ _ | refine blk_drew ?_ | refine blk_alloc ?_ _)); exact BK274.out⟩, ⟨by repeat (first | (with_reducible first | exact HB.out | apply below_alloc | apply pw_below_drewN | apply below_drew1 | refine below_set ?_ GE273.out | refine below_set ?_ GE274.out) | exact HB.out)⟩⟩
    · replace c10 := Bool.eq_false_iff.mpr c10
      subst c10
      have H1 : ((constablelaw03_Heavy.f k a1_0 l1_1).bind fun t276 => (if t276 = true then (constablelaw03_FactExact.j0 k l2 l3 a4 true a0_0 l0_1 a1_0 l1_1) else ((constablelaw03_Many.f k l2).bind fun t277 => (if t277 = true then (constablelaw03_FactExact.j0 k l2 l3 a4 true a0_0 l0_1 a1_0 l1_1) else ((constablelaw03_Many.f k l3).bind fun t278 => (if t278 = true then (constablelaw03_FactExact.j0 k l2 l3 a4 true a0_0 l0_1 a1_0 l1_1) else (constablelaw03_FactExact.j0 k l2 l3 a4 (decide ((a4.size : Int) > 200)) a0_0 l0_1 a1_0 l1_1))))))) = some r := by rw [if_neg (show ¬ (false = true) by decide)] at H; exact H
      clear H
      have H := H1
      clear H1
      replace H := Option.bind_eq_some_iff.mp H
      obtain ⟨t276, A140, H⟩ := H
      replace H : (if t276 = true then (constablelaw03_FactExact.j0 k l2 l3 a4 true a0_0 l0_1 a1_0 l1_1) else ((constablelaw03_Many.f k l2).bind fun t277 => (if t277 = true then (constablelaw03_FactExact.j0 k l2 l3 a4 true a0_0 l0_1 a1_0 l1_1) else ((constablelaw03_Many.f k l3).bind fun t278 => (if t278 = true then (constablelaw03_FactExact.j0 k l2 l3 a4 true a0_0 l0_1 a1_0 l1_1) else (constablelaw03_FactExact.j0 k l2 l3 a4 (decide ((a4.size : Int) > 200)) a0_0 l0_1 a1_0 l1_1)))))) = some r := H
      have A14 := Aside0.mk A140
      clear A140
      by_cases c15 : t276 = true
      · subst c15
        have H1 : (constablelaw03_FactExact.j0 k l2 l3 a4 true a0_0 l0_1 a1_0 l1_1) = some r := by rw [if_pos rfl] at H; exact H
        clear H
        have H := H1
        clear H1
        have H' := Aside0.mk H
        clear H
        have hnb16 := NB273_274.out
        have hnc16 := NB274_273.out
        have hcz17_0 : w8.cell? ⟨gb273, 0, none⟩ = some (.string a0_0) := (blk_cell BK273.out 0).trans rfl
        have hcz17_1 : w8.cell? ⟨gb273, 1, none⟩ = some (.slice A0_1 l0_1.length c0_1) := (blk_cell BK273.out 1).trans rfl
        have hfz17_0 := blk_frozen BK273.out 0
        have hfz17_1 := blk_frozen BK273.out 1
        go_wp2_with (first | ((with_reducible refine gate_callee (f := 11) rfl ?_); refine goesL_ (some 15) rfl rfl Tryd.func11 (by kernel_rfl) rfl #[.agg #[.string a0_0, .slice A0_1 l0_1.length c0_1]] rfl ga_ ?_; (with_reducible refine (constablelaw03_Heavy.calls k a0_0 _ _ l0_1 false _ ?side1 ?side2 A9.out).mono ?_); (case side1 => repeat (first | exact (Kd.C_below HR0_1.out HB.out) | (with_reducible refine Kd.C_alloc ?_ _) | (with_reducible refine Kd.C_drewN ?_ _) | (with_reducible refine Kd.C_drew ?_))); (case side2 => exact HC0_1.out); rintro e w18 ⟨rfl, hb⟩; refine ⟨_, rfl, ?_⟩; have n0_ := bb_ (bu_ BK273) hb; have n1_ := bb_ (bu_ BK274) hb; have n2_ := bs_ (be_ HB) hb; clear BK273; clear BK274; clear HB; have BK273 := n0_; have BK274 := n1_; have HB := n2_; clear n0_ n1_ n2_; (try clear hb); (try clear hb2); (try clear hk); (try clear hi); have hcz19_0 : w18.cell? ⟨gb274, 0, none⟩ = some (.string a1_0) := (blk_cell BK274.out 0).trans rfl; have hcz19_1 : w18.cell? ⟨gb274, 1, none⟩ = some (.slice A1_1 l1_1.length c1_1) := (blk_cell BK274.out 1).trans rfl; have hfz19_0 := blk_frozen BK274.out 0; have hfz19_1 := blk_frozen BK274.out 1) | (go_at_call 11; (with_reducible refine (constablelaw03_Heavy.calls k a1_0 _ _ l1_1 true _ ?side1 ?side2 A14.out).mono ?_); (case side1 => repeat (first | exact (Kd.C_below HR1_1.out HB.out) | (with_reducible refine Kd.C_alloc ?_ _) | (with_reducible refine Kd.C_drewN ?_ _) | (with_reducible refine Kd.C_drew ?_))); (case side2 => exact HC1_1.out); rintro e w20 ⟨rfl, hb⟩; have n0_ := bb_ (bu_ BK273) hb; have n1_ := bb_ (bu_ BK274) hb; have n2_ := bs_ (be_ HB) hb; clear BK273; clear BK274; clear HB; have BK273 := n0_; have BK274 := n1_; have HB := n2_; clear n0_ n1_ n2_; (try clear hcz19_0 hcz19_1 hfz19_0 hfz19_1); (try clear hb); (try clear hb2); (try clear hk); (try clear hi)))
        go_meet
        case rel => exact ⟨_, (true), ra_, H', ⟨by first | omega | exact Nat.le_refl _⟩, ⟨by (with_reducible repeat (first | refine blk_drewN ?_ _ | refine blk_drew ?_ | refine blk_alloc ?_ _)); exact BK273.out⟩, ⟨by (with_reducible repeat (first | refine blk_drewN ?_ _ | refine blk_drew ?_ | refine blk_alloc ?_ _)); exact BK274.out⟩, ⟨by repeat (first | (with_reducible first | exact HB.out | apply below_alloc | apply pw_below_drewN | apply below_drew1 | refine below_set ?_ GE273.out | refine below_set ?_ GE274.out) | exact HB.out)⟩⟩
      · replace c15 := Bool.eq_false_iff.mpr c15
        subst c15
        have H1 : ((constablelaw03_Many.f k l2).bind fun t277 => (if t277 = true then (constablelaw03_FactExact.j0 k l2 l3 a4 true a0_0 l0_1 a1_0 l1_1) else ((constablelaw03_Many.f k l3).bind fun t278 => (if t278 = true then (constablelaw03_FactExact.j0 k l2 l3 a4 true a0_0 l0_1 a1_0 l1_1) else (constablelaw03_FactExact.j0 k l2 l3 a4 (decide ((a4.size : Int) > 200)) a0_0 l0_1 a1_0 l1_1))))) = some r := by rw [if_neg (show ¬ (false = true) by decide)] at H; exact H
        clear H
        have H := H1
        clear H1
        replace H := Option.bind_eq_some_iff.mp H
        obtain ⟨t277, A210, H⟩ := H
        replace H : (if t277 = true then (constablelaw03_FactExact.j0 k l2 l3 a4 true a0_0 l0_1 a1_0 l1_1) else ((constablelaw03_Many.f k l3).bind fun t278 => (if t278 = true then (constablelaw03_FactExact.j0 k l2 l3 a4 true a0_0 l0_1 a1_0 l1_1) else (constablelaw03_FactExact.j0 k l2 l3 a4 (decide ((a4.size : Int) > 200)) a0_0 l0_1 a1_0 l1_1)))) = some r := H
        have A21 := Aside0.mk A210
        clear A210
        by_cases c22 : t277 = true
        · subst c22
          have H1 : (constablelaw03_FactExact.j0 k l2 l3 a4 true a0_0 l0_1 a1_0 l1_1) = some r := by rw [if_pos rfl] at H; exact H
          clear H
          have H := H1
          clear H1
          have H' := Aside0.mk H
          clear H
          have hnb23 := NB273_274.out
          have hnc23 := NB274_273.out
          have hcz24_0 : w8.cell? ⟨gb273, 0, none⟩ = some (.string a0_0) := (blk_cell BK273.out 0).trans rfl
          have hcz24_1 : w8.cell? ⟨gb273, 1, none⟩ = some (.slice A0_1 l0_1.length c0_1) := (blk_cell BK273.out 1).trans rfl
          have hfz24_0 := blk_frozen BK273.out 0
          have hfz24_1 := blk_frozen BK273.out 1
          go_wp2_with (first | ((with_reducible refine gate_callee (f := 11) rfl ?_); refine goesL_ (some 15) rfl rfl Tryd.func11 (by kernel_rfl) rfl #[.agg #[.string a0_0, .slice A0_1 l0_1.length c0_1]] rfl ga_ ?_; (with_reducible refine (constablelaw03_Heavy.calls k a0_0 _ _ l0_1 false _ ?side1 ?side2 A9.out).mono ?_); (case side1 => repeat (first | exact (Kd.C_below HR0_1.out HB.out) | (with_reducible refine Kd.C_alloc ?_ _) | (with_reducible refine Kd.C_drewN ?_ _) | (with_reducible refine Kd.C_drew ?_))); (case side2 => exact HC0_1.out); rintro e w25 ⟨rfl, hb⟩; refine ⟨_, rfl, ?_⟩; have n0_ := bb_ (bu_ BK273) hb; have n1_ := bb_ (bu_ BK274) hb; have n2_ := bs_ (be_ HB) hb; clear BK273; clear BK274; clear HB; have BK273 := n0_; have BK274 := n1_; have HB := n2_; clear n0_ n1_ n2_; (try clear hb); (try clear hb2); (try clear hk); (try clear hi); have hcz26_0 : w25.cell? ⟨gb274, 0, none⟩ = some (.string a1_0) := (blk_cell BK274.out 0).trans rfl; have hcz26_1 : w25.cell? ⟨gb274, 1, none⟩ = some (.slice A1_1 l1_1.length c1_1) := (blk_cell BK274.out 1).trans rfl; have hfz26_0 := blk_frozen BK274.out 0; have hfz26_1 := blk_frozen BK274.out 1) | (go_at_call 11; (with_reducible refine (constablelaw03_Heavy.calls k a1_0 _ _ l1_1 false _ ?side1 ?side2 A14.out).mono ?_); (case side1 => repeat (first | exact (Kd.C_below HR1_1.out HB.out) | (with_reducible refine Kd.C_alloc ?_ _) | (with_reducible refine Kd.C_drewN ?_ _) | (with_reducible refine Kd.C_drew ?_))); (case side2 => exact HC1_1.out); rintro e w27 ⟨rfl, hb⟩; have n0_ := bb_ (bu_ BK273) hb; have n1_ := bb_ (bu_ BK274) hb; have n2_ := bs_ (be_ HB) hb; clear BK273; clear BK274; clear HB; have BK273 := n0_; have BK274 := n1_; have HB := n2_; clear n0_ n1_ n2_; (try clear hcz26_0 hcz26_1 hfz26_0 hfz26_1); (try clear hb); (try clear hb2); (try clear hk); (try clear hi)) | (go_at_call 12; (with_reducible refine (constablelaw03_Many.calls k _ _ l2 true _ ?side1 ?side2 A21.out).mono ?_); (case side1 => repeat (first | exact (Kd.C_below HR2.out HB.out) | (with_reducible refine Kd.C_alloc ?_ _) | (with_reducible refine Kd.C_drewN ?_ _) | (with_reducible refine Kd.C_drew ?_))); (case side2 => exact HC2.out); rintro e w28 ⟨rfl, hb⟩; have n0_ := bb_ (bu_ BK273) hb; have n1_ := bb_ (bu_ BK274) hb; have n2_ := bs_ (be_ HB) hb; clear BK273; clear BK274; clear HB; have BK273 := n0_; have BK274 := n1_; have HB := n2_; clear n0_ n1_ n2_; (try clear hb); (try clear hb2); (try clear hk); (try clear hi)))
          go_meet
          case rel => exact ⟨_, (true), ra_, H', ⟨by first | omega | exact Nat.le_refl _⟩, ⟨by (with_reducible repeat (first | refine blk_drewN ?_ _ | refine blk_drew ?_ | refine blk_alloc ?_ _)); exact BK273.out⟩, ⟨by (with_reducible repeat (first | refine blk_drewN ?_ _ | refine blk_drew ?_ | refine blk_alloc ?_ _)); exact BK274.out⟩, ⟨by repeat (first | (with_reducible first | exact HB.out | apply below_alloc | apply pw_below_drewN | apply below_drew1 | refine below_set ?_ GE273.out | refine below_set ?_ GE274.out) | exact HB.out)⟩⟩
        · replace c22 := Bool.eq_false_iff.mpr c22
          subst c22
          have H1 : ((constablelaw03_Many.f k l3).bind fun t278 => (if t278 = true then (constablelaw03_FactExact.j0 k l2 l3 a4 true a0_0 l0_1 a1_0 l1_1) else (constablelaw03_FactExact.j0 k l2 l3 a4 (decide ((a4.size : Int) > 200)) a0_0 l0_1 a1_0 l1_1))) = some r := by rw [if_neg (show ¬ (false = true) by decide)] at H; exact H
          clear H
          have H := H1
          clear H1
          replace H := Option.bind_eq_some_iff.mp H
          obtain ⟨t278, A290, H⟩ := H
          replace H : (if t278 = true then (constablelaw03_FactExact.j0 k l2 l3 a4 true a0_0 l0_1 a1_0 l1_1) else (constablelaw03_FactExact.j0 k l2 l3 a4 (decide ((a4.size : Int) > 200)) a0_0 l0_1 a1_0 l1_1)) = some r := H
          have A29 := Aside0.mk A290
          clear A290
          by_cases c30 : t278 = true
          · subst c30
            have H1 : (constablelaw03_FactExact.j0 k l2 l3 a4 true a0_0 l0_1 a1_0 l1_1) = some r := by rw [if_pos rfl] at H; exact H
            clear H
            have H := H1
            clear H1
            have H' := Aside0.mk H
            clear H
            have hnb31 := NB273_274.out
            have hnc31 := NB274_273.out
            have hcz32_0 : w8.cell? ⟨gb273, 0, none⟩ = some (.string a0_0) := (blk_cell BK273.out 0).trans rfl
            have hcz32_1 : w8.cell? ⟨gb273, 1, none⟩ = some (.slice A0_1 l0_1.length c0_1) := (blk_cell BK273.out 1).trans rfl
            have hfz32_0 := blk_frozen BK273.out 0
            have hfz32_1 := blk_frozen BK273.out 1
            go_wp2_with (first | ((with_reducible refine gate_callee (f := 11) rfl ?_); refine goesL_ (some 15) rfl rfl Tryd.func11 (by kernel_rfl) rfl #[.agg #[.string a0_0, .slice A0_1 l0_1.length c0_1]] rfl ga_ ?_; (with_reducible refine (constablelaw03_Heavy.calls k a0_0 _ _ l0_1 false _ ?side1 ?side2 A9.out).mono ?_); (case side1 => repeat (first | exact (Kd.C_below HR0_1.out HB.out) | (with_reducible refine Kd.C_alloc ?_ _) | (with_reducible refine Kd.C_drewN ?_ _) | (with_reducible refine Kd.C_drew ?_))); (case side2 => exact HC0_1.out); rintro e w33 ⟨rfl, hb⟩; refine ⟨_, rfl, ?_⟩; have n0_ := bb_ (bu_ BK273) hb; have n1_ := bb_ (bu_ BK274) hb; have n2_ := bs_ (be_ HB) hb; clear BK273; clear BK274; clear HB; have BK273 := n0_; have BK274 := n1_; have HB := n2_; clear n0_ n1_ n2_; (try clear hb); (try clear hb2); (try clear hk); (try clear hi); have hcz34_0 : w33.cell? ⟨gb274, 0, none⟩ = some (.string a1_0) := (blk_cell BK274.out 0).trans rfl; have hcz34_1 : w33.cell? ⟨gb274, 1, none⟩ = some (.slice A1_1 l1_1.length c1_1) := (blk_cell BK274.out 1).trans rfl; have hfz34_0 := blk_frozen BK274.out 0; have hfz34_1 := blk_frozen BK274.out 1) | (go_at_call 11; (with_reducible refine (constablelaw03_Heavy.calls k a1_0 _ _ l1_1 false _ ?side1 ?side2 A14.out).mono ?_); (case side1 => repeat (first | exact (Kd.C_below HR1_1.out HB.out) | (with_reducible refine Kd.C_alloc ?_ _) | (with_reducible refine Kd.C_drewN ?_ _) | (with_reducible refine Kd.C_drew ?_))); (case side2 => exact HC1_1.out); rintro e w35 ⟨rfl, hb⟩; have n0_ := bb_ (bu_ BK273) hb; have n1_ := bb_ (bu_ BK274) hb; have n2_ := bs_ (be_ HB) hb; clear BK273; clear BK274; clear HB; have BK273 := n0_; have BK274 := n1_; have HB := n2_; clear n0_ n1_ n2_; (try clear hcz34_0 hcz34_1 hfz34_0 hfz34_1); (try clear hb); (try clear hb2); (try clear hk); (try clear hi)) | (go_at_call 12; (with_reducible refine (constablelaw03_Many.calls k _ _ l2 false _ ?side1 ?side2 A21.out).mono ?_); (case side1 => repeat (first | exact (Kd.C_below HR2.out HB.out) | (with_reducible refine Kd.C_alloc ?_ _) | (with_reducible refine Kd.C_drewN ?_ _) | (with_reducible refine Kd.C_drew ?_))); (case side2 => exact HC2.out); rintro e w36 ⟨rfl, hb⟩; have n0_ := bb_ (bu_ BK273) hb; have n1_ := bb_ (bu_ BK274) hb; have n2_ := bs_ (be_ HB) hb; clear BK273; clear BK274; clear HB; have BK273 := n0_; have BK274 := n1_; have HB := n2_; clear n0_ n1_ n2_; (try clear hb); (try clear hb2); (try clear hk); (try clear hi)) | (go_at_call 12; (with_reducible refine (constablelaw03_Many.calls k _ _ l3 true _ ?side1 ?side2 A29.out).mono ?_); (case side1 => repeat (first | exact (Kd.C_below HR3.out HB.out) | (with_reducible refine Kd.C_alloc ?_ _) | (with_reducible refine Kd.C_drewN ?_ _) | (with_reducible refine Kd.C_drew ?_))); (case side2 => exact HC3.out); rintro e w37 ⟨rfl, hb⟩; have n0_ := bb_ (bu_ BK273) hb; have n1_ := bb_ (bu_ BK274) hb; have n2_ := bs_ (be_ HB) hb; clear BK273; clear BK274; clear HB; have BK273 := n0_; have BK274 := n1_; have HB := n2_; clear n0_ n1_ n2_; (try clear hb); (try clear hb2); (try clear hk); (try clear hi)))
            go_meet
            case rel => exact ⟨_, (true), ra_, H', ⟨by first | omega | exact Nat.le_refl _⟩, ⟨by (with_reducible repeat (first | refine blk_drewN ?_ _ | refine blk_drew ?_ | refine blk_alloc ?_ _)); exact BK273.out⟩, ⟨by (with_reducible repeat (first | refine blk_drewN ?_ _ | refine blk_drew ?_ | refine blk_alloc ?_ _)); exact BK274.out⟩, ⟨by repeat (first | (with_reducible first | exact HB.out | apply below_alloc | apply pw_below_drewN | apply below_drew1 | refine below_set ?_ GE273.out | refine below_set ?_ GE274.out) | exact HB.out)⟩⟩
          · replace c30 := Bool.eq_false_iff.mpr c30
            subst c30
            have H1 : (constablelaw03_FactExact.j0 k l2 l3 a4 (decide ((a4.size : Int) > 200)) a0_0 l0_1 a1_0 l1_1) = some r := by rw [if_neg (show ¬ (false = true) by decide)] at H; exact H
            clear H
            have H := H1
            clear H1
            have H' := Aside0.mk H
            clear H
            have hnb38 := NB273_274.out
            have hnc38 := NB274_273.out
            have hcz39_0 : w8.cell? ⟨gb273, 0, none⟩ = some (.string a0_0) := (blk_cell BK273.out 0).trans rfl
            have hcz39_1 : w8.cell? ⟨gb273, 1, none⟩ = some (.slice A0_1 l0_1.length c0_1) := (blk_cell BK273.out 1).trans rfl
            have hfz39_0 := blk_frozen BK273.out 0
            have hfz39_1 := blk_frozen BK273.out 1
            go_wp2_with (first | ((with_reducible refine gate_callee (f := 11) rfl ?_); refine goesL_ (some 15) rfl rfl Tryd.func11 (by kernel_rfl) rfl #[.agg #[.string a0_0, .slice A0_1 l0_1.length c0_1]] rfl ga_ ?_; (with_reducible refine (constablelaw03_Heavy.calls k a0_0 _ _ l0_1 false _ ?side1 ?side2 A9.out).mono ?_); (case side1 => repeat (first | exact (Kd.C_below HR0_1.out HB.out) | (with_reducible refine Kd.C_alloc ?_ _) | (with_reducible refine Kd.C_drewN ?_ _) | (with_reducible refine Kd.C_drew ?_))); (case side2 => exact HC0_1.out); rintro e w40 ⟨rfl, hb⟩; refine ⟨_, rfl, ?_⟩; have n0_ := bb_ (bu_ BK273) hb; have n1_ := bb_ (bu_ BK274) hb; have n2_ := bs_ (be_ HB) hb; clear BK273; clear BK274; clear HB; have BK273 := n0_; have BK274 := n1_; have HB := n2_; clear n0_ n1_ n2_; (try clear hb); (try clear hb2); (try clear hk); (try clear hi); have hcz41_0 : w40.cell? ⟨gb274, 0, none⟩ = some (.string a1_0) := (blk_cell BK274.out 0).trans rfl; have hcz41_1 : w40.cell? ⟨gb274, 1, none⟩ = some (.slice A1_1 l1_1.length c1_1) := (blk_cell BK274.out 1).trans rfl; have hfz41_0 := blk_frozen BK274.out 0; have hfz41_1 := blk_frozen BK274.out 1) | (go_at_call 11; (with_reducible refine (constablelaw03_Heavy.calls k a1_0 _ _ l1_1 false _ ?side1 ?side2 A14.out).mono ?_); (case side1 => repeat (first | exact (Kd.C_below HR1_1.out HB.out) | (with_reducible refine Kd.C_alloc ?_ _) | (with_reducible refine Kd.C_drewN ?_ _) | (with_reducible refine Kd.C_drew ?_))); (case side2 => exact HC1_1.out); rintro e w42 ⟨rfl, hb⟩; have n0_ := bb_ (bu_ BK273) hb; have n1_ := bb_ (bu_ BK274) hb; have n2_ := bs_ (be_ HB) hb; clear BK273; clear BK274; clear HB; have BK273 := n0_; have BK274 := n1_; have HB := n2_; clear n0_ n1_ n2_; (try clear hcz41_0 hcz41_1 hfz41_0 hfz41_1); (try clear hb); (try clear hb2); (try clear hk); (try clear hi)) | (go_at_call 12; (with_reducible refine (constablelaw03_Many.calls k _ _ l2 false _ ?side1 ?side2 A21.out).mono ?_); (case side1 => repeat (first | exact (Kd.C_below HR2.out HB.out) | (with_reducible refine Kd.C_alloc ?_ _) | (with_reducible refine Kd.C_drewN ?_ _) | (with_reducible refine Kd.C_drew ?_))); (case side2 => exact HC2.out); rintro e w43 ⟨rfl, hb⟩; have n0_ := bb_ (bu_ BK273) hb; have n1_ := bb_ (bu_ BK274) hb; have n2_ := bs_ (be_ HB) hb; clear BK273; clear BK274; clear HB; have BK273 := n0_; have BK274 := n1_; have HB := n2_; clear n0_ n1_ n2_; (try clear hb); (try clear hb2); (try clear hk); (try clear hi)) | (go_at_call 12; (with_reducible refine (constablelaw03_Many.calls k _ _ l3 false _ ?side1 ?side2 A29.out).mono ?_); (case side1 => repeat (first | exact (Kd.C_below HR3.out HB.out) | (with_reducible refine Kd.C_alloc ?_ _) | (with_reducible refine Kd.C_drewN ?_ _) | (with_reducible refine Kd.C_drew ?_))); (case side2 => exact HC3.out); rintro e w44 ⟨rfl, hb⟩; have n0_ := bb_ (bu_ BK273) hb; have n1_ := bb_ (bu_ BK274) hb; have n2_ := bs_ (be_ HB) hb; clear BK273; clear BK274; clear HB; have BK273 := n0_; have BK274 := n1_; have HB := n2_; clear n0_ n1_ n2_; (try clear hb); (try clear hb2); (try clear hk); (try clear hi)))
            go_meet
            case rel => exact ⟨_, (decide ((a4.size : Int) > 200)), ra_, H', ⟨by first | omega | exact Nat.le_refl _⟩, ⟨by (with_reducible repeat (first | refine blk_drewN ?_ _ | refine blk_drew ?_ | refine blk_alloc ?_ _)); exact BK273.out⟩, ⟨by (with_reducible repeat (first | refine blk_drewN ?_ _ | refine blk_drew ?_ | refine blk_alloc ?_ _)); exact BK274.out⟩, ⟨by repeat (first | (with_reducible first | exact HB.out | apply below_alloc | apply pw_below_drewN | apply below_drew1 | refine below_set ?_ GE273.out | refine below_set ?_ GE274.out) | exact HB.out)⟩⟩
  case rest =>
    clear HC6
    try clear c1
    try clear c2
    try clear p2
    try clear c3
    try clear c10
    try clear c11
    try clear c15
    try clear c16
    try clear c22
    try clear c23
    try clear c30
    try clear c31
    try clear c38
    try clear hcz12_0
    try clear hcz12_1
    try clear hcz17_0
    try clear hcz17_1
    try clear hcz19_0
    try clear hcz19_1
    try clear hcz24_0
    try clear hcz24_1
    try clear hcz26_0
    try clear hcz26_1
    try clear hcz32_0
    try clear hcz32_1
    try clear hcz34_0
    try clear hcz34_1
    try clear hcz39_0
    try clear hcz39_1
    try clear hcz41_0
    try clear hcz41_1
    try clear hfz12_0
    try clear hfz12_1
    try clear hfz17_0
    try clear hfz17_1
    try clear hfz19_0
    try clear hfz19_1
    try clear hfz24_0
    try clear hfz24_1
    try clear hfz26_0
    try clear hfz26_1
    try clear hfz32_0
    try clear hfz32_1
    try clear hfz34_0
    try clear hfz34_1
    try clear hfz39_0
    try clear hfz39_1
    try clear hfz41_0
    try clear hfz41_1
    obtain ⟨kq, x32_5, rfl, HA, HJ5, BK273, BK274, HB⟩ := hcut
    cases kq with
    | zero => exact absurd HA.out (by simp [constablelaw03_FactExact.j0])
    | succ kj5 =>
      have H := HA.out
      clear HA
      simp only [constablelaw03_FactExact.j0] at H
      by_cases c45 : x32_5 = true
      · subst c45
        have H1 : (some true) = some r := by rw [if_pos rfl] at H; exact H
        clear H
        have H := H1
        clear H1
        obtain rfl := Option.some.inj H
        go_wp2
        go_ret
        exact ⟨by first | rfl | (simp [errW_none, errW_some] <;> rfl) | (simp [*, errW_none, errW_some] <;> rfl), by repeat (first | (with_reducible first | exact HB.out | apply below_alloc | apply pw_below_drewN | apply below_drew1 | refine below_set ?_ GE273.out | refine below_set ?_ GE274.out) | exact HB.out)⟩
      · replace c45 := Bool.eq_false_iff.mpr c45
        subst c45
        have H1 : ((constablekeep_TwinFact.f a0_0 l0_1).bind fun bt279 => ((fact_Text.f kj5 bt279.1 bt279.2).bind fun bt284 => ((fact_Name.f kj5 a4).bind fun t286 => ((constableref01_Name.f kj5 a4).bind fun t287 => (if (t286 != t287) = true then (constablelaw03_FactExact.j1 kj5 bt284.1 bt284.2 true a0_0 l0_1 bt279.1 bt279.2) else ((fact_Compare.f kj5 bt279.1 bt279.2 a1_0 l1_1).bind fun t288 => ((constableref01_Facts.f kj5 a0_0 l0_1 a1_0 l1_1).bind fun t289 => (if t288 = t289 then ((fact_Lists.f kj5 l2 l3).bind fun t290 => ((constableref01_Lists.f kj5 l2 l3).bind fun t291 => (if t290 = t291 then ((constablekeep_Fact.f kj5 bt279.1 bt279.2 a0_0 l0_1).bind fun t292 => (constablelaw03_FactExact.j1 kj5 bt284.1 bt284.2 (!t292) a0_0 l0_1 bt279.1 bt279.2)) else (constablelaw03_FactExact.j1 kj5 bt284.1 bt284.2 true a0_0 l0_1 bt279.1 bt279.2)))) else (constablelaw03_FactExact.j1 kj5 bt284.1 bt284.2 true a0_0 l0_1 bt279.1 bt279.2))))))))) = some r := by rw [if_neg (show ¬ (false = true) by decide)] at H; exact H
        clear H
        have H := H1
        clear H1
        replace H := Option.bind_eq_some_iff.mp H
        obtain ⟨⟨t279, t280⟩, A460, H⟩ := H
        replace H : ((fact_Text.f kj5 t279 t280).bind fun bt284 => ((fact_Name.f kj5 a4).bind fun t286 => ((constableref01_Name.f kj5 a4).bind fun t287 => (if (t286 != t287) = true then (constablelaw03_FactExact.j1 kj5 bt284.1 bt284.2 true a0_0 l0_1 t279 t280) else ((fact_Compare.f kj5 t279 t280 a1_0 l1_1).bind fun t288 => ((constableref01_Facts.f kj5 a0_0 l0_1 a1_0 l1_1).bind fun t289 => (if t288 = t289 then ((fact_Lists.f kj5 l2 l3).bind fun t290 => ((constableref01_Lists.f kj5 l2 l3).bind fun t291 => (if t290 = t291 then ((constablekeep_Fact.f kj5 t279 t280 a0_0 l0_1).bind fun t292 => (constablelaw03_FactExact.j1 kj5 bt284.1 bt284.2 (!t292) a0_0 l0_1 t279 t280)) else (constablelaw03_FactExact.j1 kj5 bt284.1 bt284.2 true a0_0 l0_1 t279 t280)))) else (constablelaw03_FactExact.j1 kj5 bt284.1 bt284.2 true a0_0 l0_1 t279 t280)))))))) = some r := H
        have A46 := Aside0.mk A460
        clear A460
        replace H := Option.bind_eq_some_iff.mp H
        obtain ⟨⟨t284, t285⟩, A470, H⟩ := H
        replace H : ((fact_Name.f kj5 a4).bind fun t286 => ((constableref01_Name.f kj5 a4).bind fun t287 => (if (t286 != t287) = true then (constablelaw03_FactExact.j1 kj5 t284 t285 true a0_0 l0_1 t279 t280) else ((fact_Compare.f kj5 t279 t280 a1_0 l1_1).bind fun t288 => ((constableref01_Facts.f kj5 a0_0 l0_1 a1_0 l1_1).bind fun t289 => (if t288 = t289 then ((fact_Lists.f kj5 l2 l3).bind fun t290 => ((constableref01_Lists.f kj5 l2 l3).bind fun t291 => (if t290 = t291 then ((constablekeep_Fact.f kj5 t279 t280 a0_0 l0_1).bind fun t292 => (constablelaw03_FactExact.j1 kj5 t284 t285 (!t292) a0_0 l0_1 t279 t280)) else (constablelaw03_FactExact.j1 kj5 t284 t285 true a0_0 l0_1 t279 t280)))) else (constablelaw03_FactExact.j1 kj5 t284 t285 true a0_0 l0_1 t279 t280))))))) = some r := H
        have A47 := Aside0.mk A470
        clear A470
        have HC48 := Aside0.mk H
        clear H
        have hnb49 := NB273_274.out
        have hnc49 := NB274_273.out
        have hcz50_0 : wc.cell? ⟨gb273, 0, none⟩ = some (.string a0_0) := (blk_cell BK273.out 0).trans rfl
        have hcz50_1 : wc.cell? ⟨gb273, 1, none⟩ = some (.slice A0_1 l0_1.length c0_1) := (blk_cell BK273.out 1).trans rfl
        have hfz50_0 := blk_frozen BK273.out 0
        have hfz50_1 := blk_frozen BK273.out 1
        go_upto_region 5 with (first | ((with_reducible refine gate_callee (f := 13) rfl ?_); refine goesL_ (some 34) rfl rfl Tryd.func13 (by kernel_rfl) rfl #[.agg #[.string a0_0, .slice A0_1 l0_1.length c0_1]] rfl ga_ ?_; (with_reducible refine (constablekeep_TwinFact.calls a0_0 _ _ l0_1 t279 t280 _ ?side1 ?side2 A46.out).mono ?_); (case side1 => repeat (first | exact (Kd.C_below HR0_1.out HB.out) | (with_reducible refine Kd.C_alloc ?_ _) | (with_reducible refine Kd.C_drewN ?_ _) | (with_reducible refine Kd.C_drew ?_))); (case side2 => exact HC0_1.out); rintro e w51 ⟨v281, rfl, ho0, hb⟩; refine ⟨_, rfl, ?_⟩; have n0_ := Aside0.mk (Kd.R_lower ho0 (below_size (be_ HB))); have n1_ := bb_ (bu_ BK273) hb; have n2_ := bb_ (bu_ BK274) hb; have n3_ := bs_ (be_ HB) hb; clear BK273; clear BK274; clear HB; have HO282 := n0_; have BK273 := n1_; have BK274 := n2_; have HB := n3_; clear n0_ n1_ n2_ n3_; (try clear hb); (try clear hb2); (try clear hk); (try clear hi); (try clear ho0)) | ((with_reducible refine gate_dst (N := 11) rfl ?_); (try (refine gate_guard (by rfl) ?_; dsimp only)); refine box_event ?hg (N := 11) ?hd (cs := #[.string (⟨#[]⟩ : ByteArray), .slice none 0 0]) (t := 24) ?hr ?_; (case hd => rfl); (case hg => rfl); (case hr => first | (go_simp; done) | (go_simp; rfl)); intro gb283 hg w52 hbox hb; have n0_ := kb_ (ku_ HO282.out) hb; have n1_ := bb_ (bu_ BK273) hb; have n2_ := bb_ (bu_ BK274) hb; have n3_ := bs_ (be_ HB) hb; have n4_ := Aside0.mk (hbox); have n5_ := gs_ hg (be_ HB); have n6_ := gs_ hg (be_ HB); have n7_ := nl_ hg (bu_ BK273); have n8_ := ng_ hg (bu_ BK273); have n9_ := nl_ hg (bu_ BK274); have n10_ := ng_ hg (bu_ BK274); clear HO282; clear BK273; clear BK274; clear HB; have HO282 := n0_; have BK273 := n1_; have BK274 := n2_; have HB := n3_; have BK283 := n4_; have GW283 := n5_; have GE283 := n6_; have NB273_283 := n7_; have NB283_273 := n8_; have NB274_283 := n9_; have NB283_274 := n10_; clear n0_ n1_ n2_ n3_ n4_ n5_ n6_ n7_ n8_ n9_ n10_; clear hb hbox hg; have hnb53 := NB283_273.out; have hnc53 := NB273_283.out; have hnb54 := NB283_274.out; have hnc54 := NB274_283.out; have hcz55_0 : w52.cell? ⟨gb283, 0, none⟩ = some (.string (⟨#[]⟩ : ByteArray)) := (blk_cell BK283.out 0).trans rfl; have hcz55_1 : w52.cell? ⟨gb283, 1, none⟩ = some (.slice none 0 0) := (blk_cell BK283.out 1).trans rfl; have hfz55_0 := blk_frozen BK283.out 0; have hfz55_1 := blk_frozen BK283.out 1; obtain ⟨Ao56, co56, eo56⟩ := Kd.R_slice HO282.out; subst eo56) | ((with_reducible refine gate_callee (f := 14) rfl ?_); refine goesL_ (some 37) rfl rfl Tryd.func14 (by kernel_rfl) rfl #[.agg #[.string t279, .slice Ao56 t280.length co56]] rfl ga_ ?_; (with_reducible refine (fact_Text.calls kj5 t279 _ _ t280 t284 t285 _ ?side1 ?side2 A47.out (tt_ HL_ (be_ HB))).mono ?_); (case side1 => refine (Kd.R_reads' (e := 44) (base := w.heap.size) (ok := fun k_ => True) (n := t280.length) (c := co56) ?_).2.2; exact (ku_ (Kd.R_mono (Kd.R_far (p := ⟨gb283, 1, none⟩) (Kd.R_far (p := ⟨gb283, 0, none⟩) (Kd.R_types HO282.out BK283.out (by decide)) (fun _ hk => hk.2) (.string t279)) (fun _ hk => hk.2) (.slice Ao56 t280.length co56)) (fun _ h_ => h_.1)))); (case side2 => exact (Kd.R_reads' HO282.out).2.1); rintro e w57 ⟨rfl, hb⟩; refine ⟨_, rfl, ?_⟩; have n0_ := Aside0.mk (Kd.R_below (ku_ (Kd.R_mono (Kd.R_far (p := ⟨gb283, 1, none⟩) (Kd.R_far (p := ⟨gb283, 0, none⟩) (Kd.R_types HO282.out BK283.out (by decide)) (fun _ hk => hk.2) (.string t279)) (fun _ hk => hk.2) (.slice Ao56 t280.length co56)) (fun _ h_ => h_.1))) hb); have n1_ := bb_ (bu_ BK273) hb; have n2_ := bb_ (bu_ BK274) hb; have n3_ := Aside0.mk (blk_below (o := .cells #[.string t279, .slice Ao56 t280.length co56] 24 (0, 0)) (bp_ BK283) hb); have n4_ := bs_ (be_ HB) hb; clear HO282; clear BK273; clear BK274; clear BK283; clear HB; have HO282 := n0_; have BK273 := n1_; have BK274 := n2_; have BK283 := n3_; have HB := n4_; clear n0_ n1_ n2_ n3_ n4_; (try clear hcz55_0 hcz55_1 hfz55_0 hfz55_1); (try clear hb); (try clear hb2); (try clear hk); (try clear hi)))
        (try simp only [Act.put, List.setIfInBounds_toArray, List.set_cons_zero, List.set_cons_succ])
        go_cut [68] (fun v68 wc => ∃ (kq : Nat) (x68_47 : Bool), v68 = .bool x68_47 ∧ Aside0 (constablelaw03_FactExact.j1 kq t284 t285 x68_47 a0_0 l0_1 t279 t280 = some r) ∧ Aside0 (kq ≤ kj5) ∧ Aside0 (Kd.R k44 44 wc w.heap.size (fun _ => True) (.slice Ao56 t280.length co56) t280) ∧ Aside0 (wc.heap[gb273]? = some (.cells #[.string a0_0, (.slice A0_1 l0_1.length c0_1)] 24 (0, 0))) ∧ Aside0 (wc.heap[gb274]? = some (.cells #[.string a1_0, (.slice A1_1 l1_1.length c1_1)] 24 (0, 0))) ∧ Aside0 (wc.heap[gb283]? = some (.cells #[.string t279, (.slice Ao56 t280.length co56)] 24 (0, 0))) ∧ Aside0 (Below w.heap.size w wc))
        case first =>
          have H := HC48.out
          clear HC48
          replace H := Option.bind_eq_some_iff.mp H
          obtain ⟨t286, A580, H⟩ := H
          replace H : ((constableref01_Name.f kj5 a4).bind fun t287 => (if (t286 != t287) = true then (constablelaw03_FactExact.j1 kj5 t284 t285 true a0_0 l0_1 t279 t280) else ((fact_Compare.f kj5 t279 t280 a1_0 l1_1).bind fun t288 => ((constableref01_Facts.f kj5 a0_0 l0_1 a1_0 l1_1).bind fun t289 => (if t288 = t289 then ((fact_Lists.f kj5 l2 l3).bind fun t290 => ((constableref01_Lists.f kj5 l2 l3).bind fun t291 => (if t290 = t291 then ((constablekeep_Fact.f kj5 t279 t280 a0_0 l0_1).bind fun t292 => (constablelaw03_FactExact.j1 kj5 t284 t285 (!t292) a0_0 l0_1 t279 t280)) else (constablelaw03_FactExact.j1 kj5 t284 t285 true a0_0 l0_1 t279 t280)))) else (constablelaw03_FactExact.j1 kj5 t284 t285 true a0_0 l0_1 t279 t280)))))) = some r := H
          have A58 := Aside0.mk A580
          clear A580
          replace H := Option.bind_eq_some_iff.mp H
          obtain ⟨t287, A590, H⟩ := H
          replace H : (if (t286 != t287) = true then (constablelaw03_FactExact.j1 kj5 t284 t285 true a0_0 l0_1 t279 t280) else ((fact_Compare.f kj5 t279 t280 a1_0 l1_1).bind fun t288 => ((constableref01_Facts.f kj5 a0_0 l0_1 a1_0 l1_1).bind fun t289 => (if t288 = t289 then ((fact_Lists.f kj5 l2 l3).bind fun t290 => ((constableref01_Lists.f kj5 l2 l3).bind fun t291 => (if t290 = t291 then ((constablekeep_Fact.f kj5 t279 t280 a0_0 l0_1).bind fun t292 => (constablelaw03_FactExact.j1 kj5 t284 t285 (!t292) a0_0 l0_1 t279 t280)) else (constablelaw03_FactExact.j1 kj5 t284 t285 true a0_0 l0_1 t279 t280)))) else (constablelaw03_FactExact.j1 kj5 t284 t285 true a0_0 l0_1 t279 t280))))) = some r := H
          have A59 := Aside0.mk A590
          clear A590
          by_cases c60 : (t286 != t287) = true
          · rw [if_pos c60] at H
            have c60b0 : (t286 != t287) = true := c60
            (try (have c60b1 : decide (t286 = t287) = false := by simpa using c60))
            (try (have c60b2 : (t286 == t287) = false := by simpa using c60))
            (try (have c60b3 : ¬ (t286 = t287) := by simpa using c60))
            clear c60
            (first | rw [c60b0] | (simp only [i64_w, i32_w]; rw [c60b0]) | skip)
            have H' := Aside0.mk H
            clear H
            try go_wp2
            have n0_ := Aside0.mk (Kd.R_drew HO282.out)
            have n1_ := Aside0.mk (blk_drew BK273.out)
            have n2_ := Aside0.mk (blk_drew BK274.out)
            have n3_ := Aside0.mk (blk_drew BK283.out)
            have n4_ := Aside0.mk (below_drew1 HB.out)
            clear HO282
            clear BK273
            clear BK274
            clear BK283
            clear HB
            have HO282 := n0_
            have BK273 := n1_
            have BK274 := n2_
            have BK283 := n3_
            have HB := n4_
            clear n0_ n1_ n2_ n3_ n4_
            refine start_ (n := 29) (S := fun w' => True) (ds := []) (mk_ 29 0) (by kernel_rfl) rfl rfl trivial (fun hHeld => ?_); refine with_tabW constablelaw03_FactExact.tab5 constablelaw03_FactExact.bits5 (fun HT_ HW_ => ?_)
            generalize w57.drew = w61 at HO282 BK273 BK274 BK283 HB hHeld ⊢
            refine pu_ 0 40 1 HT_ ?_; refine pu_ 2 42 5 HT_ ?_
            refine one_ (i := 1) (N := some 41) (mk_ 29 7) rfl rfl (one_of HT_.out (by kernel_rfl)) (by decide) (fun K hK => ?_)
            refine goes_ Tryd.func15 (by kernel_rfl) rfl #[.string a4] (by rfl) rfl rfl ga_ ?_
            with_reducible refine (fact_Name.calls kj5 a4 t286 _ A58.out).mono ?_
            rintro e w62 ⟨rfl, hb⟩
            refine ⟨_, rfl, ?_⟩
            have n0_ := kb_ (ku_ HO282.out) hb
            have n1_ := bb_ (bu_ BK273) hb
            have n2_ := bb_ (bu_ BK274) hb
            have n3_ := bb_ (bu_ BK283) hb
            have n4_ := bs_ (be_ HB) hb
            clear HO282
            clear BK273
            clear BK274
            clear BK283
            clear HB
            have HO282 := n0_
            have BK273 := n1_
            have BK274 := n2_
            have BK283 := n3_
            have HB := n4_
            clear n0_ n1_ n2_ n3_ n4_
            (try clear hb)
            (try clear hb2)
            (try clear hk)
            (try clear hi)
            refine hK.out _ _ trivial (fun hHeld => ?_)
            clear hK K
            refine nm_ 41 ?_
            refine one_ (i := 3) (N := some 43) (mk_ 29 15) rfl rfl (one_of HT_.out (by kernel_rfl)) (by decide) (fun K hK => ?_)
            refine goes_ Tryd.func16 (by kernel_rfl) rfl #[.string a4] (by rfl) rfl rfl ga_ ?_
            with_reducible refine (constableref01_Name.calls kj5 a4 t287 _ A59.out).mono ?_
            rintro e w63 ⟨rfl, hb⟩
            refine ⟨_, rfl, ?_⟩
            have n0_ := kb_ (ku_ HO282.out) hb
            have n1_ := bb_ (bu_ BK273) hb
            have n2_ := bb_ (bu_ BK274) hb
            have n3_ := bb_ (bu_ BK283) hb
            have n4_ := bs_ (be_ HB) hb
            clear HO282
            clear BK273
            clear BK274
            clear BK283
            clear HB
            have HO282 := n0_
            have BK273 := n1_
            have BK274 := n2_
            have BK283 := n3_
            have HB := n4_
            clear n0_ n1_ n2_ n3_ n4_
            (try clear hb)
            (try clear hb2)
            (try clear hk)
            (try clear hi)
            refine hK.out _ _ trivial (fun hHeld => ?_)
            clear hK K
            refine nm_ 43 ?_; refine pu_ 4 44 31 HT_ ?_; refine pu_ 5 45 63 HT_ ?_; refine pn_ 6 46 127 HT_ ?_; refine pn_ 7 47 255 HT_ ?_; refine pn_ 8 48 511 HT_ ?_; refine pn_ 9 49 1023 HT_ ?_; refine pn_ 10 50 2047 HT_ ?_; refine pn_ 11 51 4095 HT_ ?_; refine pn_ 12 52 8191 HT_ ?_; refine pu_ 13 53 16383 HT_ ?_; refine pu_ 14 54 32767 HT_ ?_; refine pn_ 15 55 65535 HT_ ?_; refine pn_ 16 56 131071 HT_ ?_; refine pn_ 17 57 262143 HT_ ?_; refine pn_ 18 58 524287 HT_ ?_; refine pn_ 19 59 1048575 HT_ ?_; refine pn_ 20 60 2097151 HT_ ?_; refine pn_ 21 61 4194303 HT_ ?_; refine pu_ 22 62 8388607 HT_ ?_; refine pu_ 23 63 16777215 HT_ ?_; refine pn_ 24 64 33554431 HT_ ?_; refine pn_ 25 65 67108863 HT_ ?_; refine pn_ 26 66 134217727 HT_ ?_; refine pn_ 27 67 268435455 HT_ ?_; refine pu_ 28 68 536870911 HT_ ?_
            refine done_ (done_of HT_.out (by kernel_rfl)) ?_
            try go_wp2
            go_meet
            case rel => exact ⟨_, (true), ra_, H', ⟨by have := HJ5.out; first | omega | exact Nat.le_refl _⟩, ⟨by (with_reducible repeat (first | apply Kd.R_alloc | apply Kd.R_drewN | apply Kd.R_drew)); exact HO282.out⟩, ⟨by (with_reducible repeat (first | refine blk_drewN ?_ _ | refine blk_drew ?_ | refine blk_alloc ?_ _)); exact BK273.out⟩, ⟨by (with_reducible repeat (first | refine blk_drewN ?_ _ | refine blk_drew ?_ | refine blk_alloc ?_ _)); exact BK274.out⟩, ⟨by (with_reducible repeat (first | refine blk_drewN ?_ _ | refine blk_drew ?_ | refine blk_alloc ?_ _)); exact BK283.out⟩, ⟨by repeat (first | (with_reducible first | exact HB.out | apply below_alloc | apply pw_below_drewN | apply below_drew1 | refine below_set ?_ GE273.out | refine below_set ?_ GE274.out | refine below_set ?_ GE283.out) | exact HB.out)⟩⟩
          · rw [if_neg c60] at H
            have c60b0 : (t286 != t287) = false := by simpa using c60
            (try (have c60b1 : decide (t286 = t287) = true := by simpa using c60))
            (try (have c60b2 : (t286 == t287) = true := by simpa using c60))
            clear c60
            (first | rw [c60b0] | (simp only [i64_w, i32_w]; rw [c60b0]) | skip)
            replace H := Option.bind_eq_some_iff.mp H
            obtain ⟨t288, A640, H⟩ := H
            replace H : ((constableref01_Facts.f kj5 a0_0 l0_1 a1_0 l1_1).bind fun t289 => (if t288 = t289 then ((fact_Lists.f kj5 l2 l3).bind fun t290 => ((constableref01_Lists.f kj5 l2 l3).bind fun t291 => (if t290 = t291 then ((constablekeep_Fact.f kj5 t279 t280 a0_0 l0_1).bind fun t292 => (constablelaw03_FactExact.j1 kj5 t284 t285 (!t292) a0_0 l0_1 t279 t280)) else (constablelaw03_FactExact.j1 kj5 t284 t285 true a0_0 l0_1 t279 t280)))) else (constablelaw03_FactExact.j1 kj5 t284 t285 true a0_0 l0_1 t279 t280))) = some r := H
            have A64 := Aside0.mk A640
            clear A640
            replace H := Option.bind_eq_some_iff.mp H
            obtain ⟨t289, A650, H⟩ := H
            replace H : (if t288 = t289 then ((fact_Lists.f kj5 l2 l3).bind fun t290 => ((constableref01_Lists.f kj5 l2 l3).bind fun t291 => (if t290 = t291 then ((constablekeep_Fact.f kj5 t279 t280 a0_0 l0_1).bind fun t292 => (constablelaw03_FactExact.j1 kj5 t284 t285 (!t292) a0_0 l0_1 t279 t280)) else (constablelaw03_FactExact.j1 kj5 t284 t285 true a0_0 l0_1 t279 t280)))) else (constablelaw03_FactExact.j1 kj5 t284 t285 true a0_0 l0_1 t279 t280)) = some r := H
            have A65 := Aside0.mk A650
            clear A650
            by_cases c66 : t288 = t289
            · rw [if_pos c66] at H
              obtain ⟨c66b0, c66b1⟩ := eqB_ c66
              clear c66
              replace H := Option.bind_eq_some_iff.mp H
              obtain ⟨t290, A670, H⟩ := H
              replace H : ((constableref01_Lists.f kj5 l2 l3).bind fun t291 => (if t290 = t291 then ((constablekeep_Fact.f kj5 t279 t280 a0_0 l0_1).bind fun t292 => (constablelaw03_FactExact.j1 kj5 t284 t285 (!t292) a0_0 l0_1 t279 t280)) else (constablelaw03_FactExact.j1 kj5 t284 t285 true a0_0 l0_1 t279 t280))) = some r := H
              have A67 := Aside0.mk A670
              clear A670
              replace H := Option.bind_eq_some_iff.mp H
              obtain ⟨t291, A680, H⟩ := H
              replace H : (if t290 = t291 then ((constablekeep_Fact.f kj5 t279 t280 a0_0 l0_1).bind fun t292 => (constablelaw03_FactExact.j1 kj5 t284 t285 (!t292) a0_0 l0_1 t279 t280)) else (constablelaw03_FactExact.j1 kj5 t284 t285 true a0_0 l0_1 t279 t280)) = some r := H
              have A68 := Aside0.mk A680
              clear A680
              by_cases c69 : t290 = t291
              · rw [if_pos c69] at H
                obtain ⟨c69b0, c69b1⟩ := eqB_ c69
                clear c69
                replace H := Option.bind_eq_some_iff.mp H
                obtain ⟨t292, A700, H⟩ := H
                replace H : (constablelaw03_FactExact.j1 kj5 t284 t285 (!t292) a0_0 l0_1 t279 t280) = some r := H
                have A70 := Aside0.mk A700
                clear A700
                have H' := Aside0.mk H
                clear H
                try go_wp2
                have n0_ := Aside0.mk (Kd.R_drew HO282.out)
                have n1_ := Aside0.mk (blk_drew BK273.out)
                have n2_ := Aside0.mk (blk_drew BK274.out)
                have n3_ := Aside0.mk (blk_drew BK283.out)
                have n4_ := Aside0.mk (below_drew1 HB.out)
                clear HO282
                clear BK273
                clear BK274
                clear BK283
                clear HB
                have HO282 := n0_
                have BK273 := n1_
                have BK274 := n2_
                have BK283 := n3_
                have HB := n4_
                clear n0_ n1_ n2_ n3_ n4_
                refine start_ (n := 29) (S := fun w' => w'.cell? ⟨gb283, 0, none⟩ = some (.string t279) ∧ w'.cell? ⟨gb283, 1, none⟩ = some (.slice Ao56 t280.length co56) ∧ w'.cell? ⟨gb274, 0, none⟩ = some (.string a1_0) ∧ w'.cell? ⟨gb274, 1, none⟩ = some (.slice A1_1 l1_1.length c1_1) ∧ w'.cell? ⟨gb273, 0, none⟩ = some (.string a0_0) ∧ w'.cell? ⟨gb273, 1, none⟩ = some (.slice A0_1 l0_1.length c0_1)) (ds := []) (mk_ 29 0) (by kernel_rfl) rfl rfl ⟨(blk_cell BK283.out 0).trans rfl, (blk_cell BK283.out 1).trans rfl, (blk_cell BK274.out 0).trans rfl, (blk_cell BK274.out 1).trans rfl, (blk_cell BK273.out 0).trans rfl, (blk_cell BK273.out 1).trans rfl⟩ (fun hHeld => ?_); refine with_tabW constablelaw03_FactExact.tab5 constablelaw03_FactExact.bits5 (fun HT_ HW_ => ?_)
                generalize w57.drew = w71 at HO282 BK273 BK274 BK283 HB hHeld ⊢
                refine pu_ 0 40 1 HT_ ?_; refine pu_ 2 42 5 HT_ ?_
                refine one_ (i := 1) (N := some 41) (mk_ 29 7) rfl rfl (one_of HT_.out (by kernel_rfl)) (by decide) (fun K hK => ?_)
                refine goes_ Tryd.func15 (by kernel_rfl) rfl #[.string a4] (by rfl) rfl rfl ga_ ?_
                with_reducible refine (fact_Name.calls kj5 a4 t286 _ A58.out).mono ?_
                rintro e w72 ⟨rfl, hb⟩
                refine ⟨_, rfl, ?_⟩
                have n0_ := kb_ (ku_ HO282.out) hb
                have n1_ := bb_ (bu_ BK273) hb
                have n2_ := bb_ (bu_ BK274) hb
                have n3_ := bb_ (bu_ BK283) hb
                have n4_ := bs_ (be_ HB) hb
                clear HO282
                clear BK273
                clear BK274
                clear BK283
                clear HB
                have HO282 := n0_
                have BK273 := n1_
                have BK274 := n2_
                have BK283 := n3_
                have HB := n4_
                clear n0_ n1_ n2_ n3_ n4_
                (try clear hb)
                (try clear hb2)
                (try clear hk)
                (try clear hi)
                refine hK.out _ _ ⟨(blk_cell BK283.out 0).trans rfl, (blk_cell BK283.out 1).trans rfl, (blk_cell BK274.out 0).trans rfl, (blk_cell BK274.out 1).trans rfl, (blk_cell BK273.out 0).trans rfl, (blk_cell BK273.out 1).trans rfl⟩ (fun hHeld => ?_)
                clear hK K
                refine nm_ 41 ?_
                refine one_ (i := 3) (N := some 43) (mk_ 29 15) rfl rfl (one_of HT_.out (by kernel_rfl)) (by decide) (fun K hK => ?_)
                refine goes_ Tryd.func16 (by kernel_rfl) rfl #[.string a4] (by rfl) rfl rfl ga_ ?_
                with_reducible refine (constableref01_Name.calls kj5 a4 t287 _ A59.out).mono ?_
                rintro e w73 ⟨rfl, hb⟩
                refine ⟨_, rfl, ?_⟩
                have n0_ := kb_ (ku_ HO282.out) hb
                have n1_ := bb_ (bu_ BK273) hb
                have n2_ := bb_ (bu_ BK274) hb
                have n3_ := bb_ (bu_ BK283) hb
                have n4_ := bs_ (be_ HB) hb
                clear HO282
                clear BK273
                clear BK274
                clear BK283
                clear HB
                have HO282 := n0_
                have BK273 := n1_
                have BK274 := n2_
                have BK283 := n3_
                have HB := n4_
                clear n0_ n1_ n2_ n3_ n4_
                (try clear hb)
                (try clear hb2)
                (try clear hk)
                (try clear hi)
                refine hK.out _ _ ⟨(blk_cell BK283.out 0).trans rfl, (blk_cell BK283.out 1).trans rfl, (blk_cell BK274.out 0).trans rfl, (blk_cell BK274.out 1).trans rfl, (blk_cell BK273.out 0).trans rfl, (blk_cell BK273.out 1).trans rfl⟩ (fun hHeld => ?_)
                clear hK K
                refine nm_ 43 ?_; refine pu_ 4 44 31 HT_ ?_; refine pu_ 5 45 63 HT_ ?_; refine tk_ 6 46 127 HT_ HW_ hHeld ?_; refine tk_ 7 47 255 HT_ HW_ hHeld ?_; refine tk_ 9 49 767 HT_ HW_ hHeld ?_; refine tk_ 10 50 1791 HT_ HW_ hHeld ?_
                refine one_ (i := 8) (N := some 48) (mk_ 29 2047) rfl rfl (one_of HT_.out (by kernel_rfl)) (by decide) (fun K hK => ?_)
                refine goes_ Tryd.func17 (by kernel_rfl) rfl #[.agg #[.string t279, .slice Ao56 t280.length co56], .agg #[.string a1_0, .slice A1_1 l1_1.length c1_1]] (by rfl) rfl rfl ga_ ?_
                with_reducible refine (fact_Compare.calls kj5 t279 _ _ t280 a1_0 _ _ l1_1 t288 _ ?side1 ?side2 ?side3 ?side4 A64.out).mono ?_
                (case side1 => repeat (first | exact (Kd.R_reads' HO282.out).2.2 | (with_reducible refine Kd.C_alloc ?_ _) | (with_reducible refine Kd.C_drewN ?_ _) | (with_reducible refine Kd.C_drew ?_)))
                (case side2 => exact (Kd.R_reads' HO282.out).2.1)
                (case side3 => repeat (first | exact (Kd.C_below HR1_1.out HB.out) | (with_reducible refine Kd.C_alloc ?_ _) | (with_reducible refine Kd.C_drewN ?_ _) | (with_reducible refine Kd.C_drew ?_)))
                (case side4 => exact HC1_1.out)
                rintro e w74 ⟨rfl, hb⟩
                refine ⟨_, rfl, ?_⟩
                have n0_ := kb_ (ku_ HO282.out) hb
                have n1_ := bb_ (bu_ BK273) hb
                have n2_ := bb_ (bu_ BK274) hb
                have n3_ := bb_ (bu_ BK283) hb
                have n4_ := bs_ (be_ HB) hb
                clear HO282
                clear BK273
                clear BK274
                clear BK283
                clear HB
                have HO282 := n0_
                have BK273 := n1_
                have BK274 := n2_
                have BK283 := n3_
                have HB := n4_
                clear n0_ n1_ n2_ n3_ n4_
                (try clear hb)
                (try clear hb2)
                (try clear hk)
                (try clear hi)
                refine hK.out _ _ ⟨(blk_cell BK283.out 0).trans rfl, (blk_cell BK283.out 1).trans rfl, (blk_cell BK274.out 0).trans rfl, (blk_cell BK274.out 1).trans rfl, (blk_cell BK273.out 0).trans rfl, (blk_cell BK273.out 1).trans rfl⟩ (fun hHeld => ?_)
                clear hK K
                refine nm_ 48 ?_
                refine one_ (i := 11) (N := some 51) (mk_ 29 4095) rfl rfl (one_of HT_.out (by kernel_rfl)) (by decide) (fun K hK => ?_)
                refine goes_ Tryd.func18 (by kernel_rfl) rfl #[.agg #[.string a0_0, .slice A0_1 l0_1.length c0_1], .agg #[.string a1_0, .slice A1_1 l1_1.length c1_1]] (by rfl) rfl rfl ga_ ?_
                with_reducible refine (constableref01_Facts.calls kj5 a0_0 _ _ l0_1 a1_0 _ _ l1_1 t289 _ ?side1 ?side2 ?side3 ?side4 A65.out).mono ?_
                (case side1 => repeat (first | exact (Kd.C_below HR0_1.out HB.out) | (with_reducible refine Kd.C_alloc ?_ _) | (with_reducible refine Kd.C_drewN ?_ _) | (with_reducible refine Kd.C_drew ?_)))
                (case side2 => exact HC0_1.out)
                (case side3 => repeat (first | exact (Kd.C_below HR1_1.out HB.out) | (with_reducible refine Kd.C_alloc ?_ _) | (with_reducible refine Kd.C_drewN ?_ _) | (with_reducible refine Kd.C_drew ?_)))
                (case side4 => exact HC1_1.out)
                rintro e w75 ⟨rfl, hb⟩
                refine ⟨_, rfl, ?_⟩
                have n0_ := kb_ (ku_ HO282.out) hb
                have n1_ := bb_ (bu_ BK273) hb
                have n2_ := bb_ (bu_ BK274) hb
                have n3_ := bb_ (bu_ BK283) hb
                have n4_ := bs_ (be_ HB) hb
                clear HO282
                clear BK273
                clear BK274
                clear BK283
                clear HB
                have HO282 := n0_
                have BK273 := n1_
                have BK274 := n2_
                have BK283 := n3_
                have HB := n4_
                clear n0_ n1_ n2_ n3_ n4_
                (try clear hb)
                (try clear hb2)
                (try clear hk)
                (try clear hi)
                refine hK.out _ _ ⟨(blk_cell BK283.out 0).trans rfl, (blk_cell BK283.out 1).trans rfl, (blk_cell BK274.out 0).trans rfl, (blk_cell BK274.out 1).trans rfl, (blk_cell BK273.out 0).trans rfl, (blk_cell BK273.out 1).trans rfl⟩ (fun hHeld => ?_)
                clear hK K
                refine nm_ 51 ?_; refine pu_ 12 52 8191 HT_ ?_; refine pu_ 13 53 16383 HT_ ?_; refine pu_ 14 54 32767 HT_ ?_; refine pu_ 15 55 65535 HT_ ?_; refine pu_ 16 56 131071 HT_ ?_; refine pu_ 18 58 393215 HT_ ?_; refine pu_ 19 59 917503 HT_ ?_
                refine one_ (i := 17) (N := some 57) (mk_ 29 1048575) rfl rfl (one_of HT_.out (by kernel_rfl)) (by decide) (fun K hK => ?_)
                refine goes_ Tryd.func19 (by kernel_rfl) rfl #[.slice A2 l2.length c2, .slice A3 l3.length c3] (by rfl) rfl rfl ga_ ?_
                with_reducible refine (fact_Lists.calls kj5 _ _ l2 _ _ l3 t290 _ ?side1 ?side2 ?side3 ?side4 A67.out).mono ?_
                (case side1 => repeat (first | exact (Kd.C_below HR2.out HB.out) | (with_reducible refine Kd.C_alloc ?_ _) | (with_reducible refine Kd.C_drewN ?_ _) | (with_reducible refine Kd.C_drew ?_)))
                (case side2 => exact HC2.out)
                (case side3 => repeat (first | exact (Kd.C_below HR3.out HB.out) | (with_reducible refine Kd.C_alloc ?_ _) | (with_reducible refine Kd.C_drewN ?_ _) | (with_reducible refine Kd.C_drew ?_)))
                (case side4 => exact HC3.out)
                rintro e w76 ⟨rfl, hb⟩
                refine ⟨_, rfl, ?_⟩
                have n0_ := kb_ (ku_ HO282.out) hb
                have n1_ := bb_ (bu_ BK273) hb
                have n2_ := bb_ (bu_ BK274) hb
                have n3_ := bb_ (bu_ BK283) hb
                have n4_ := bs_ (be_ HB) hb
                clear HO282
                clear BK273
                clear BK274
                clear BK283
                clear HB
                have HO282 := n0_
                have BK273 := n1_
                have BK274 := n2_
                have BK283 := n3_
                have HB := n4_
                clear n0_ n1_ n2_ n3_ n4_
                (try clear hb)
                (try clear hb2)
                (try clear hk)
                (try clear hi)
                refine hK.out _ _ ⟨(blk_cell BK283.out 0).trans rfl, (blk_cell BK283.out 1).trans rfl, (blk_cell BK274.out 0).trans rfl, (blk_cell BK274.out 1).trans rfl, (blk_cell BK273.out 0).trans rfl, (blk_cell BK273.out 1).trans rfl⟩ (fun hHeld => ?_)
                clear hK K
                refine nm_ 57 ?_
                refine one_ (i := 20) (N := some 60) (mk_ 29 2097151) rfl rfl (one_of HT_.out (by kernel_rfl)) (by decide) (fun K hK => ?_)
                refine goes_ Tryd.func20 (by kernel_rfl) rfl #[.slice A2 l2.length c2, .slice A3 l3.length c3] (by rfl) rfl rfl ga_ ?_
                with_reducible refine (constableref01_Lists.calls kj5 _ _ l2 _ _ l3 t291 _ ?side1 ?side2 ?side3 ?side4 A68.out).mono ?_
                (case side1 => repeat (first | exact (Kd.C_below HR2.out HB.out) | (with_reducible refine Kd.C_alloc ?_ _) | (with_reducible refine Kd.C_drewN ?_ _) | (with_reducible refine Kd.C_drew ?_)))
                (case side2 => exact HC2.out)
                (case side3 => repeat (first | exact (Kd.C_below HR3.out HB.out) | (with_reducible refine Kd.C_alloc ?_ _) | (with_reducible refine Kd.C_drewN ?_ _) | (with_reducible refine Kd.C_drew ?_)))
                (case side4 => exact HC3.out)
                rintro e w77 ⟨rfl, hb⟩
                refine ⟨_, rfl, ?_⟩
                have n0_ := kb_ (ku_ HO282.out) hb
                have n1_ := bb_ (bu_ BK273) hb
                have n2_ := bb_ (bu_ BK274) hb
                have n3_ := bb_ (bu_ BK283) hb
                have n4_ := bs_ (be_ HB) hb
                clear HO282
                clear BK273
                clear BK274
                clear BK283
                clear HB
                have HO282 := n0_
                have BK273 := n1_
                have BK274 := n2_
                have BK283 := n3_
                have HB := n4_
                clear n0_ n1_ n2_ n3_ n4_
                (try clear hb)
                (try clear hb2)
                (try clear hk)
                (try clear hi)
                refine hK.out _ _ ⟨(blk_cell BK283.out 0).trans rfl, (blk_cell BK283.out 1).trans rfl, (blk_cell BK274.out 0).trans rfl, (blk_cell BK274.out 1).trans rfl, (blk_cell BK273.out 0).trans rfl, (blk_cell BK273.out 1).trans rfl⟩ (fun hHeld => ?_)
                clear hK K
                refine nm_ 60 ?_; refine pu_ 21 61 4194303 HT_ ?_; refine pu_ 22 62 8388607 HT_ ?_; refine pu_ 23 63 16777215 HT_ ?_; refine tk_ 24 64 33554431 HT_ HW_ hHeld ?_; refine tk_ 25 65 67108863 HT_ HW_ hHeld ?_
                refine one_ (i := 26) (N := some 66) (mk_ 29 134217727) rfl rfl (one_of HT_.out (by kernel_rfl)) (by decide) (fun K hK => ?_)
                refine goes_ Tryd.func21 (by kernel_rfl) rfl #[.agg #[.string t279, .slice Ao56 t280.length co56], .agg #[.string a0_0, .slice A0_1 l0_1.length c0_1]] (by rfl) rfl rfl ga_ ?_
                with_reducible refine (constablekeep_Fact.calls kj5 t279 _ _ t280 a0_0 _ _ l0_1 t292 _ ?side1 ?side2 ?side3 ?side4 A70.out).mono ?_
                (case side1 => repeat (first | exact (Kd.R_reads' HO282.out).2.2 | (with_reducible refine Kd.C_alloc ?_ _) | (with_reducible refine Kd.C_drewN ?_ _) | (with_reducible refine Kd.C_drew ?_)))
                (case side2 => exact (Kd.R_reads' HO282.out).2.1)
                (case side3 => repeat (first | exact (Kd.C_below HR0_1.out HB.out) | (with_reducible refine Kd.C_alloc ?_ _) | (with_reducible refine Kd.C_drewN ?_ _) | (with_reducible refine Kd.C_drew ?_)))
                (case side4 => exact HC0_1.out)
                rintro e w78 ⟨rfl, hb⟩
                refine ⟨_, rfl, ?_⟩
                have n0_ := kb_ (ku_ HO282.out) hb
                have n1_ := bb_ (bu_ BK273) hb
                have n2_ := bb_ (bu_ BK274) hb
                have n3_ := bb_ (bu_ BK283) hb
                have n4_ := bs_ (be_ HB) hb
                clear HO282
                clear BK273
                clear BK274
                clear BK283
                clear HB
                have HO282 := n0_
                have BK273 := n1_
                have BK274 := n2_
                have BK283 := n3_
                have HB := n4_
                clear n0_ n1_ n2_ n3_ n4_
                (try clear hb)
                (try clear hb2)
                (try clear hk)
                (try clear hi)
                refine hK.out _ _ ⟨(blk_cell BK283.out 0).trans rfl, (blk_cell BK283.out 1).trans rfl, (blk_cell BK274.out 0).trans rfl, (blk_cell BK274.out 1).trans rfl, (blk_cell BK273.out 0).trans rfl, (blk_cell BK273.out 1).trans rfl⟩ (fun hHeld => ?_)
                clear hK K
                refine nm_ 66 ?_; refine pu_ 27 67 268435455 HT_ ?_; refine pu_ 28 68 536870911 HT_ ?_
                refine done_ (done_of HT_.out (by kernel_rfl)) ?_
                try go_wp2
                go_meet
                case rel => exact ⟨_, (!t292), ra_, H', ⟨by have := HJ5.out; first | omega | exact Nat.le_refl _⟩, ⟨by (with_reducible repeat (first | apply Kd.R_alloc | apply Kd.R_drewN | apply Kd.R_drew)); exact HO282.out⟩, ⟨by (with_reducible repeat (first | refine blk_drewN ?_ _ | refine blk_drew ?_ | refine blk_alloc ?_ _)); exact BK273.out⟩, ⟨by (with_reducible repeat (first | refine blk_drewN ?_ _ | refine blk_drew ?_ | refine blk_alloc ?_ _)); exact BK274.out⟩, ⟨by (with_reducible repeat (first | refine blk_drewN ?_ _ | refine blk_drew ?_ | refine blk_alloc ?_ _)); exact BK283.out⟩, ⟨by repeat (first | (with_reducible first | exact HB.out | apply below_alloc | apply pw_below_drewN | apply below_drew1 | refine below_set ?_ GE273.out | refine below_set ?_ GE274.out | refine below_set ?_ GE283.out) | exact HB.out)⟩⟩
              · rw [if_neg c69] at H
                obtain ⟨c69b0, c69b1⟩ := neB_ c69
                have H' := Aside0.mk H
                clear H
                try go_wp2
                have n0_ := Aside0.mk (Kd.R_drew HO282.out)
                have n1_ := Aside0.mk (blk_drew BK273.out)
                have n2_ := Aside0.mk (blk_drew BK274.out)
                have n3_ := Aside0.mk (blk_drew BK283.out)
                have n4_ := Aside0.mk (below_drew1 HB.out)
                clear HO282
                clear BK273
                clear BK274
                clear BK283
                clear HB
                have HO282 := n0_
                have BK273 := n1_
                have BK274 := n2_
                have BK283 := n3_
                have HB := n4_
                clear n0_ n1_ n2_ n3_ n4_
                refine start_ (n := 29) (S := fun w' => w'.cell? ⟨gb283, 0, none⟩ = some (.string t279) ∧ w'.cell? ⟨gb283, 1, none⟩ = some (.slice Ao56 t280.length co56) ∧ w'.cell? ⟨gb274, 0, none⟩ = some (.string a1_0) ∧ w'.cell? ⟨gb274, 1, none⟩ = some (.slice A1_1 l1_1.length c1_1) ∧ w'.cell? ⟨gb273, 0, none⟩ = some (.string a0_0) ∧ w'.cell? ⟨gb273, 1, none⟩ = some (.slice A0_1 l0_1.length c0_1)) (ds := []) (mk_ 29 0) (by kernel_rfl) rfl rfl ⟨(blk_cell BK283.out 0).trans rfl, (blk_cell BK283.out 1).trans rfl, (blk_cell BK274.out 0).trans rfl, (blk_cell BK274.out 1).trans rfl, (blk_cell BK273.out 0).trans rfl, (blk_cell BK273.out 1).trans rfl⟩ (fun hHeld => ?_); refine with_tabW constablelaw03_FactExact.tab5 constablelaw03_FactExact.bits5 (fun HT_ HW_ => ?_)
                generalize w57.drew = w79 at HO282 BK273 BK274 BK283 HB hHeld ⊢
                refine pu_ 0 40 1 HT_ ?_; refine pu_ 2 42 5 HT_ ?_
                refine one_ (i := 1) (N := some 41) (mk_ 29 7) rfl rfl (one_of HT_.out (by kernel_rfl)) (by decide) (fun K hK => ?_)
                refine goes_ Tryd.func15 (by kernel_rfl) rfl #[.string a4] (by rfl) rfl rfl ga_ ?_
                with_reducible refine (fact_Name.calls kj5 a4 t286 _ A58.out).mono ?_
                rintro e w80 ⟨rfl, hb⟩
                refine ⟨_, rfl, ?_⟩
                have n0_ := kb_ (ku_ HO282.out) hb
                have n1_ := bb_ (bu_ BK273) hb
                have n2_ := bb_ (bu_ BK274) hb
                have n3_ := bb_ (bu_ BK283) hb
                have n4_ := bs_ (be_ HB) hb
                clear HO282
                clear BK273
                clear BK274
                clear BK283
                clear HB
                have HO282 := n0_
                have BK273 := n1_
                have BK274 := n2_
                have BK283 := n3_
                have HB := n4_
                clear n0_ n1_ n2_ n3_ n4_
                (try clear hb)
                (try clear hb2)
                (try clear hk)
                (try clear hi)
                refine hK.out _ _ ⟨(blk_cell BK283.out 0).trans rfl, (blk_cell BK283.out 1).trans rfl, (blk_cell BK274.out 0).trans rfl, (blk_cell BK274.out 1).trans rfl, (blk_cell BK273.out 0).trans rfl, (blk_cell BK273.out 1).trans rfl⟩ (fun hHeld => ?_)
                clear hK K
                refine nm_ 41 ?_
                refine one_ (i := 3) (N := some 43) (mk_ 29 15) rfl rfl (one_of HT_.out (by kernel_rfl)) (by decide) (fun K hK => ?_)
                refine goes_ Tryd.func16 (by kernel_rfl) rfl #[.string a4] (by rfl) rfl rfl ga_ ?_
                with_reducible refine (constableref01_Name.calls kj5 a4 t287 _ A59.out).mono ?_
                rintro e w81 ⟨rfl, hb⟩
                refine ⟨_, rfl, ?_⟩
                have n0_ := kb_ (ku_ HO282.out) hb
                have n1_ := bb_ (bu_ BK273) hb
                have n2_ := bb_ (bu_ BK274) hb
                have n3_ := bb_ (bu_ BK283) hb
                have n4_ := bs_ (be_ HB) hb
                clear HO282
                clear BK273
                clear BK274
                clear BK283
                clear HB
                have HO282 := n0_
                have BK273 := n1_
                have BK274 := n2_
                have BK283 := n3_
                have HB := n4_
                clear n0_ n1_ n2_ n3_ n4_
                (try clear hb)
                (try clear hb2)
                (try clear hk)
                (try clear hi)
                refine hK.out _ _ ⟨(blk_cell BK283.out 0).trans rfl, (blk_cell BK283.out 1).trans rfl, (blk_cell BK274.out 0).trans rfl, (blk_cell BK274.out 1).trans rfl, (blk_cell BK273.out 0).trans rfl, (blk_cell BK273.out 1).trans rfl⟩ (fun hHeld => ?_)
                clear hK K
                refine nm_ 43 ?_; refine pu_ 4 44 31 HT_ ?_; refine pu_ 5 45 63 HT_ ?_; refine tk_ 6 46 127 HT_ HW_ hHeld ?_; refine tk_ 7 47 255 HT_ HW_ hHeld ?_; refine tk_ 9 49 767 HT_ HW_ hHeld ?_; refine tk_ 10 50 1791 HT_ HW_ hHeld ?_
                refine one_ (i := 8) (N := some 48) (mk_ 29 2047) rfl rfl (one_of HT_.out (by kernel_rfl)) (by decide) (fun K hK => ?_)
                refine goes_ Tryd.func17 (by kernel_rfl) rfl #[.agg #[.string t279, .slice Ao56 t280.length co56], .agg #[.string a1_0, .slice A1_1 l1_1.length c1_1]] (by rfl) rfl rfl ga_ ?_
                with_reducible refine (fact_Compare.calls kj5 t279 _ _ t280 a1_0 _ _ l1_1 t288 _ ?side1 ?side2 ?side3 ?side4 A64.out).mono ?_
                (case side1 => repeat (first | exact (Kd.R_reads' HO282.out).2.2 | (with_reducible refine Kd.C_alloc ?_ _) | (with_reducible refine Kd.C_drewN ?_ _) | (with_reducible refine Kd.C_drew ?_)))
                (case side2 => exact (Kd.R_reads' HO282.out).2.1)
                (case side3 => repeat (first | exact (Kd.C_below HR1_1.out HB.out) | (with_reducible refine Kd.C_alloc ?_ _) | (with_reducible refine Kd.C_drewN ?_ _) | (with_reducible refine Kd.C_drew ?_)))
                (case side4 => exact HC1_1.out)
                rintro e w82 ⟨rfl, hb⟩
                refine ⟨_, rfl, ?_⟩
                have n0_ := kb_ (ku_ HO282.out) hb
                have n1_ := bb_ (bu_ BK273) hb
                have n2_ := bb_ (bu_ BK274) hb
                have n3_ := bb_ (bu_ BK283) hb
                have n4_ := bs_ (be_ HB) hb
                clear HO282
                clear BK273
                clear BK274
                clear BK283
                clear HB
                have HO282 := n0_
                have BK273 := n1_
                have BK274 := n2_
                have BK283 := n3_
                have HB := n4_
                clear n0_ n1_ n2_ n3_ n4_
                (try clear hb)
                (try clear hb2)
                (try clear hk)
                (try clear hi)
                refine hK.out _ _ ⟨(blk_cell BK283.out 0).trans rfl, (blk_cell BK283.out 1).trans rfl, (blk_cell BK274.out 0).trans rfl, (blk_cell BK274.out 1).trans rfl, (blk_cell BK273.out 0).trans rfl, (blk_cell BK273.out 1).trans rfl⟩ (fun hHeld => ?_)
                clear hK K
                refine nm_ 48 ?_
                refine one_ (i := 11) (N := some 51) (mk_ 29 4095) rfl rfl (one_of HT_.out (by kernel_rfl)) (by decide) (fun K hK => ?_)
                refine goes_ Tryd.func18 (by kernel_rfl) rfl #[.agg #[.string a0_0, .slice A0_1 l0_1.length c0_1], .agg #[.string a1_0, .slice A1_1 l1_1.length c1_1]] (by rfl) rfl rfl ga_ ?_
                with_reducible refine (constableref01_Facts.calls kj5 a0_0 _ _ l0_1 a1_0 _ _ l1_1 t289 _ ?side1 ?side2 ?side3 ?side4 A65.out).mono ?_
                (case side1 => repeat (first | exact (Kd.C_below HR0_1.out HB.out) | (with_reducible refine Kd.C_alloc ?_ _) | (with_reducible refine Kd.C_drewN ?_ _) | (with_reducible refine Kd.C_drew ?_)))
                (case side2 => exact HC0_1.out)
                (case side3 => repeat (first | exact (Kd.C_below HR1_1.out HB.out) | (with_reducible refine Kd.C_alloc ?_ _) | (with_reducible refine Kd.C_drewN ?_ _) | (with_reducible refine Kd.C_drew ?_)))
                (case side4 => exact HC1_1.out)
                rintro e w83 ⟨rfl, hb⟩
                refine ⟨_, rfl, ?_⟩
                have n0_ := kb_ (ku_ HO282.out) hb
                have n1_ := bb_ (bu_ BK273) hb
                have n2_ := bb_ (bu_ BK274) hb
                have n3_ := bb_ (bu_ BK283) hb
                have n4_ := bs_ (be_ HB) hb
                clear HO282
                clear BK273
                clear BK274
                clear BK283
                clear HB
                have HO282 := n0_
                have BK273 := n1_
                have BK274 := n2_
                have BK283 := n3_
                have HB := n4_
                clear n0_ n1_ n2_ n3_ n4_
                (try clear hb)
                (try clear hb2)
                (try clear hk)
                (try clear hi)
                refine hK.out _ _ ⟨(blk_cell BK283.out 0).trans rfl, (blk_cell BK283.out 1).trans rfl, (blk_cell BK274.out 0).trans rfl, (blk_cell BK274.out 1).trans rfl, (blk_cell BK273.out 0).trans rfl, (blk_cell BK273.out 1).trans rfl⟩ (fun hHeld => ?_)
                clear hK K
                refine nm_ 51 ?_; refine pu_ 12 52 8191 HT_ ?_; refine pu_ 13 53 16383 HT_ ?_; refine pu_ 14 54 32767 HT_ ?_; refine pu_ 15 55 65535 HT_ ?_; refine pu_ 16 56 131071 HT_ ?_; refine pu_ 18 58 393215 HT_ ?_; refine pu_ 19 59 917503 HT_ ?_
                refine one_ (i := 17) (N := some 57) (mk_ 29 1048575) rfl rfl (one_of HT_.out (by kernel_rfl)) (by decide) (fun K hK => ?_)
                refine goes_ Tryd.func19 (by kernel_rfl) rfl #[.slice A2 l2.length c2, .slice A3 l3.length c3] (by rfl) rfl rfl ga_ ?_
                with_reducible refine (fact_Lists.calls kj5 _ _ l2 _ _ l3 t290 _ ?side1 ?side2 ?side3 ?side4 A67.out).mono ?_
                (case side1 => repeat (first | exact (Kd.C_below HR2.out HB.out) | (with_reducible refine Kd.C_alloc ?_ _) | (with_reducible refine Kd.C_drewN ?_ _) | (with_reducible refine Kd.C_drew ?_)))
                (case side2 => exact HC2.out)
                (case side3 => repeat (first | exact (Kd.C_below HR3.out HB.out) | (with_reducible refine Kd.C_alloc ?_ _) | (with_reducible refine Kd.C_drewN ?_ _) | (with_reducible refine Kd.C_drew ?_)))
                (case side4 => exact HC3.out)
                rintro e w84 ⟨rfl, hb⟩
                refine ⟨_, rfl, ?_⟩
                have n0_ := kb_ (ku_ HO282.out) hb
                have n1_ := bb_ (bu_ BK273) hb
                have n2_ := bb_ (bu_ BK274) hb
                have n3_ := bb_ (bu_ BK283) hb
                have n4_ := bs_ (be_ HB) hb
                clear HO282
                clear BK273
                clear BK274
                clear BK283
                clear HB
                have HO282 := n0_
                have BK273 := n1_
                have BK274 := n2_
                have BK283 := n3_
                have HB := n4_
                clear n0_ n1_ n2_ n3_ n4_
                (try clear hb)
                (try clear hb2)
                (try clear hk)
                (try clear hi)
                refine hK.out _ _ ⟨(blk_cell BK283.out 0).trans rfl, (blk_cell BK283.out 1).trans rfl, (blk_cell BK274.out 0).trans rfl, (blk_cell BK274.out 1).trans rfl, (blk_cell BK273.out 0).trans rfl, (blk_cell BK273.out 1).trans rfl⟩ (fun hHeld => ?_)
                clear hK K
                refine nm_ 57 ?_
                refine one_ (i := 20) (N := some 60) (mk_ 29 2097151) rfl rfl (one_of HT_.out (by kernel_rfl)) (by decide) (fun K hK => ?_)
                refine goes_ Tryd.func20 (by kernel_rfl) rfl #[.slice A2 l2.length c2, .slice A3 l3.length c3] (by rfl) rfl rfl ga_ ?_
                with_reducible refine (constableref01_Lists.calls kj5 _ _ l2 _ _ l3 t291 _ ?side1 ?side2 ?side3 ?side4 A68.out).mono ?_
                (case side1 => repeat (first | exact (Kd.C_below HR2.out HB.out) | (with_reducible refine Kd.C_alloc ?_ _) | (with_reducible refine Kd.C_drewN ?_ _) | (with_reducible refine Kd.C_drew ?_)))
                (case side2 => exact HC2.out)
                (case side3 => repeat (first | exact (Kd.C_below HR3.out HB.out) | (with_reducible refine Kd.C_alloc ?_ _) | (with_reducible refine Kd.C_drewN ?_ _) | (with_reducible refine Kd.C_drew ?_)))
                (case side4 => exact HC3.out)
                rintro e w85 ⟨rfl, hb⟩
                refine ⟨_, rfl, ?_⟩
                have n0_ := kb_ (ku_ HO282.out) hb
                have n1_ := bb_ (bu_ BK273) hb
                have n2_ := bb_ (bu_ BK274) hb
                have n3_ := bb_ (bu_ BK283) hb
                have n4_ := bs_ (be_ HB) hb
                clear HO282
                clear BK273
                clear BK274
                clear BK283
                clear HB
                have HO282 := n0_
                have BK273 := n1_
                have BK274 := n2_
                have BK283 := n3_
                have HB := n4_
                clear n0_ n1_ n2_ n3_ n4_
                (try clear hb)
                (try clear hb2)
                (try clear hk)
                (try clear hi)
                refine hK.out _ _ ⟨(blk_cell BK283.out 0).trans rfl, (blk_cell BK283.out 1).trans rfl, (blk_cell BK274.out 0).trans rfl, (blk_cell BK274.out 1).trans rfl, (blk_cell BK273.out 0).trans rfl, (blk_cell BK273.out 1).trans rfl⟩ (fun hHeld => ?_)
                clear hK K
                refine nm_ 60 ?_; refine pu_ 21 61 4194303 HT_ ?_; refine pu_ 22 62 8388607 HT_ ?_; refine pu_ 23 63 16777215 HT_ ?_; refine pn_ 24 64 33554431 HT_ ?_; refine pn_ 25 65 67108863 HT_ ?_; refine pn_ 26 66 134217727 HT_ ?_; refine pn_ 27 67 268435455 HT_ ?_; refine pu_ 28 68 536870911 HT_ ?_
                refine done_ (done_of HT_.out (by kernel_rfl)) ?_
                try go_wp2
                go_meet
                case rel => exact ⟨_, (true), ra_, H', ⟨by have := HJ5.out; first | omega | exact Nat.le_refl _⟩, ⟨by (with_reducible repeat (first | apply Kd.R_alloc | apply Kd.R_drewN | apply Kd.R_drew)); exact HO282.out⟩, ⟨by (with_reducible repeat (first | refine blk_drewN ?_ _ | refine blk_drew ?_ | refine blk_alloc ?_ _)); exact BK273.out⟩, ⟨by (with_reducible repeat (first | refine blk_drewN ?_ _ | refine blk_drew ?_ | refine blk_alloc ?_ _)); exact BK274.out⟩, ⟨by (with_reducible repeat (first | refine blk_drewN ?_ _ | refine blk_drew ?_ | refine blk_alloc ?_ _)); exact BK283.out⟩, ⟨by repeat (first | (with_reducible first | exact HB.out | apply below_alloc | apply pw_below_drewN | apply below_drew1 | refine below_set ?_ GE273.out | refine below_set ?_ GE274.out | refine below_set ?_ GE283.out) | exact HB.out)⟩⟩
            · rw [if_neg c66] at H
              obtain ⟨c66b0, c66b1⟩ := neB_ c66
              have H' := Aside0.mk H
              clear H
              try go_wp2
              have n0_ := Aside0.mk (Kd.R_drew HO282.out)
              have n1_ := Aside0.mk (blk_drew BK273.out)
              have n2_ := Aside0.mk (blk_drew BK274.out)
              have n3_ := Aside0.mk (blk_drew BK283.out)
              have n4_ := Aside0.mk (below_drew1 HB.out)
              clear HO282
              clear BK273
              clear BK274
              clear BK283
              clear HB
              have HO282 := n0_
              have BK273 := n1_
              have BK274 := n2_
              have BK283 := n3_
              have HB := n4_
              clear n0_ n1_ n2_ n3_ n4_
              refine start_ (n := 29) (S := fun w' => w'.cell? ⟨gb283, 0, none⟩ = some (.string t279) ∧ w'.cell? ⟨gb283, 1, none⟩ = some (.slice Ao56 t280.length co56) ∧ w'.cell? ⟨gb274, 0, none⟩ = some (.string a1_0) ∧ w'.cell? ⟨gb274, 1, none⟩ = some (.slice A1_1 l1_1.length c1_1) ∧ w'.cell? ⟨gb273, 0, none⟩ = some (.string a0_0) ∧ w'.cell? ⟨gb273, 1, none⟩ = some (.slice A0_1 l0_1.length c0_1)) (ds := []) (mk_ 29 0) (by kernel_rfl) rfl rfl ⟨(blk_cell BK283.out 0).trans rfl, (blk_cell BK283.out 1).trans rfl, (blk_cell BK274.out 0).trans rfl, (blk_cell BK274.out 1).trans rfl, (blk_cell BK273.out 0).trans rfl, (blk_cell BK273.out 1).trans rfl⟩ (fun hHeld => ?_); refine with_tabW constablelaw03_FactExact.tab5 constablelaw03_FactExact.bits5 (fun HT_ HW_ => ?_)
              generalize w57.drew = w86 at HO282 BK273 BK274 BK283 HB hHeld ⊢
              refine pu_ 0 40 1 HT_ ?_; refine pu_ 2 42 5 HT_ ?_
              refine one_ (i := 1) (N := some 41) (mk_ 29 7) rfl rfl (one_of HT_.out (by kernel_rfl)) (by decide) (fun K hK => ?_)
              refine goes_ Tryd.func15 (by kernel_rfl) rfl #[.string a4] (by rfl) rfl rfl ga_ ?_
              with_reducible refine (fact_Name.calls kj5 a4 t286 _ A58.out).mono ?_
              rintro e w87 ⟨rfl, hb⟩
              refine ⟨_, rfl, ?_⟩
              have n0_ := kb_ (ku_ HO282.out) hb
              have n1_ := bb_ (bu_ BK273) hb
              have n2_ := bb_ (bu_ BK274) hb
              have n3_ := bb_ (bu_ BK283) hb
              have n4_ := bs_ (be_ HB) hb
              clear HO282
              clear BK273
              clear BK274
              clear BK283
              clear HB
              have HO282 := n0_
              have BK273 := n1_
              have BK274 := n2_
              have BK283 := n3_
              have HB := n4_
              clear n0_ n1_ n2_ n3_ n4_
              (try clear hb)
              (try clear hb2)
              (try clear hk)
              (try clear hi)
              refine hK.out _ _ ⟨(blk_cell BK283.out 0).trans rfl, (blk_cell BK283.out 1).trans rfl, (blk_cell BK274.out 0).trans rfl, (blk_cell BK274.out 1).trans rfl, (blk_cell BK273.out 0).trans rfl, (blk_cell BK273.out 1).trans rfl⟩ (fun hHeld => ?_)
              clear hK K
              refine nm_ 41 ?_
              refine one_ (i := 3) (N := some 43) (mk_ 29 15) rfl rfl (one_of HT_.out (by kernel_rfl)) (by decide) (fun K hK => ?_)
              refine goes_ Tryd.func16 (by kernel_rfl) rfl #[.string a4] (by rfl) rfl rfl ga_ ?_
              with_reducible refine (constableref01_Name.calls kj5 a4 t287 _ A59.out).mono ?_
              rintro e w88 ⟨rfl, hb⟩
              refine ⟨_, rfl, ?_⟩
              have n0_ := kb_ (ku_ HO282.out) hb
              have n1_ := bb_ (bu_ BK273) hb
              have n2_ := bb_ (bu_ BK274) hb
              have n3_ := bb_ (bu_ BK283) hb
              have n4_ := bs_ (be_ HB) hb
              clear HO282
              clear BK273
              clear BK274
              clear BK283
              clear HB
              have HO282 := n0_
              have BK273 := n1_
              have BK274 := n2_
              have BK283 := n3_
              have HB := n4_
              clear n0_ n1_ n2_ n3_ n4_
              (try clear hb)
              (try clear hb2)
              (try clear hk)
              (try clear hi)
              refine hK.out _ _ ⟨(blk_cell BK283.out 0).trans rfl, (blk_cell BK283.out 1).trans rfl, (blk_cell BK274.out 0).trans rfl, (blk_cell BK274.out 1).trans rfl, (blk_cell BK273.out 0).trans rfl, (blk_cell BK273.out 1).trans rfl⟩ (fun hHeld => ?_)
              clear hK K
              refine nm_ 43 ?_; refine pu_ 4 44 31 HT_ ?_; refine pu_ 5 45 63 HT_ ?_; refine tk_ 6 46 127 HT_ HW_ hHeld ?_; refine tk_ 7 47 255 HT_ HW_ hHeld ?_; refine tk_ 9 49 767 HT_ HW_ hHeld ?_; refine tk_ 10 50 1791 HT_ HW_ hHeld ?_
              refine one_ (i := 8) (N := some 48) (mk_ 29 2047) rfl rfl (one_of HT_.out (by kernel_rfl)) (by decide) (fun K hK => ?_)
              refine goes_ Tryd.func17 (by kernel_rfl) rfl #[.agg #[.string t279, .slice Ao56 t280.length co56], .agg #[.string a1_0, .slice A1_1 l1_1.length c1_1]] (by rfl) rfl rfl ga_ ?_
              with_reducible refine (fact_Compare.calls kj5 t279 _ _ t280 a1_0 _ _ l1_1 t288 _ ?side1 ?side2 ?side3 ?side4 A64.out).mono ?_
              (case side1 => repeat (first | exact (Kd.R_reads' HO282.out).2.2 | (with_reducible refine Kd.C_alloc ?_ _) | (with_reducible refine Kd.C_drewN ?_ _) | (with_reducible refine Kd.C_drew ?_)))
              (case side2 => exact (Kd.R_reads' HO282.out).2.1)
              (case side3 => repeat (first | exact (Kd.C_below HR1_1.out HB.out) | (with_reducible refine Kd.C_alloc ?_ _) | (with_reducible refine Kd.C_drewN ?_ _) | (with_reducible refine Kd.C_drew ?_)))
              (case side4 => exact HC1_1.out)
              rintro e w89 ⟨rfl, hb⟩
              refine ⟨_, rfl, ?_⟩
              have n0_ := kb_ (ku_ HO282.out) hb
              have n1_ := bb_ (bu_ BK273) hb
              have n2_ := bb_ (bu_ BK274) hb
              have n3_ := bb_ (bu_ BK283) hb
              have n4_ := bs_ (be_ HB) hb
              clear HO282
              clear BK273
              clear BK274
              clear BK283
              clear HB
              have HO282 := n0_
              have BK273 := n1_
              have BK274 := n2_
              have BK283 := n3_
              have HB := n4_
              clear n0_ n1_ n2_ n3_ n4_
              (try clear hb)
              (try clear hb2)
              (try clear hk)
              (try clear hi)
              refine hK.out _ _ ⟨(blk_cell BK283.out 0).trans rfl, (blk_cell BK283.out 1).trans rfl, (blk_cell BK274.out 0).trans rfl, (blk_cell BK274.out 1).trans rfl, (blk_cell BK273.out 0).trans rfl, (blk_cell BK273.out 1).trans rfl⟩ (fun hHeld => ?_)
              clear hK K
              refine nm_ 48 ?_
              refine one_ (i := 11) (N := some 51) (mk_ 29 4095) rfl rfl (one_of HT_.out (by kernel_rfl)) (by decide) (fun K hK => ?_)
              refine goes_ Tryd.func18 (by kernel_rfl) rfl #[.agg #[.string a0_0, .slice A0_1 l0_1.length c0_1], .agg #[.string a1_0, .slice A1_1 l1_1.length c1_1]] (by rfl) rfl rfl ga_ ?_
              with_reducible refine (constableref01_Facts.calls kj5 a0_0 _ _ l0_1 a1_0 _ _ l1_1 t289 _ ?side1 ?side2 ?side3 ?side4 A65.out).mono ?_
              (case side1 => repeat (first | exact (Kd.C_below HR0_1.out HB.out) | (with_reducible refine Kd.C_alloc ?_ _) | (with_reducible refine Kd.C_drewN ?_ _) | (with_reducible refine Kd.C_drew ?_)))
              (case side2 => exact HC0_1.out)
              (case side3 => repeat (first | exact (Kd.C_below HR1_1.out HB.out) | (with_reducible refine Kd.C_alloc ?_ _) | (with_reducible refine Kd.C_drewN ?_ _) | (with_reducible refine Kd.C_drew ?_)))
              (case side4 => exact HC1_1.out)
              rintro e w90 ⟨rfl, hb⟩
              refine ⟨_, rfl, ?_⟩
              have n0_ := kb_ (ku_ HO282.out) hb
              have n1_ := bb_ (bu_ BK273) hb
              have n2_ := bb_ (bu_ BK274) hb
              have n3_ := bb_ (bu_ BK283) hb
              have n4_ := bs_ (be_ HB) hb
              clear HO282
              clear BK273
              clear BK274
              clear BK283
              clear HB
              have HO282 := n0_
              have BK273 := n1_
              have BK274 := n2_
              have BK283 := n3_
              have HB := n4_
              clear n0_ n1_ n2_ n3_ n4_
              (try clear hb)
              (try clear hb2)
              (try clear hk)
              (try clear hi)
              refine hK.out _ _ ⟨(blk_cell BK283.out 0).trans rfl, (blk_cell BK283.out 1).trans rfl, (blk_cell BK274.out 0).trans rfl, (blk_cell BK274.out 1).trans rfl, (blk_cell BK273.out 0).trans rfl, (blk_cell BK273.out 1).trans rfl⟩ (fun hHeld => ?_)
              clear hK K
              refine nm_ 51 ?_; refine pu_ 12 52 8191 HT_ ?_; refine pu_ 13 53 16383 HT_ ?_; refine pu_ 14 54 32767 HT_ ?_; refine pn_ 15 55 65535 HT_ ?_; refine pn_ 16 56 131071 HT_ ?_; refine pn_ 17 57 262143 HT_ ?_; refine pn_ 18 58 524287 HT_ ?_; refine pn_ 19 59 1048575 HT_ ?_; refine pn_ 20 60 2097151 HT_ ?_; refine pn_ 21 61 4194303 HT_ ?_; refine pu_ 22 62 8388607 HT_ ?_; refine pu_ 23 63 16777215 HT_ ?_; refine pn_ 24 64 33554431 HT_ ?_; refine pn_ 25 65 67108863 HT_ ?_; refine pn_ 26 66 134217727 HT_ ?_; refine pn_ 27 67 268435455 HT_ ?_; refine pu_ 28 68 536870911 HT_ ?_
              refine done_ (done_of HT_.out (by kernel_rfl)) ?_
              try go_wp2
              go_meet
              case rel => exact ⟨_, (true), ra_, H', ⟨by have := HJ5.out; first | omega | exact Nat.le_refl _⟩, ⟨by (with_reducible repeat (first | apply Kd.R_alloc | apply Kd.R_drewN | apply Kd.R_drew)); exact HO282.out⟩, ⟨by (with_reducible repeat (first | refine blk_drewN ?_ _ | refine blk_drew ?_ | refine blk_alloc ?_ _)); exact BK273.out⟩, ⟨by (with_reducible repeat (first | refine blk_drewN ?_ _ | refine blk_drew ?_ | refine blk_alloc ?_ _)); exact BK274.out⟩, ⟨by (with_reducible repeat (first | refine blk_drewN ?_ _ | refine blk_drew ?_ | refine blk_alloc ?_ _)); exact BK283.out⟩, ⟨by repeat (first | (with_reducible first | exact HB.out | apply below_alloc | apply pw_below_drewN | apply below_drew1 | refine below_set ?_ GE273.out | refine below_set ?_ GE274.out | refine below_set ?_ GE283.out) | exact HB.out)⟩⟩
        case rest =>
          clear HC48
          try clear c1
          try clear c2
          try clear p2
          try clear c3
          try clear c6
          try clear c15
          try clear c16
          try clear c17
          try clear c18
          try clear c19
          try clear c20
          try clear c66
          try clear c66b0
          try clear c66b1
          obtain ⟨kq, x68_47, rfl, HA, HJ47, HO_284001, BK273, BK274, BK283, HB⟩ := hcut
          cases kq with
          | zero => exact absurd HA.out (by simp [constablelaw03_FactExact.j1])
          | succ kj47 =>
            have H := HA.out
            clear HA
            simp only [constablelaw03_FactExact.j1] at H
            by_cases c91 : x68_47 = true
            · subst c91
              have H1 : (some false) = some r := by rw [if_pos rfl] at H; exact H
              clear H
              have H := H1
              clear H1
              exact absurd ((Option.some.inj H).trans HR_.out) (by decide)
            · replace c91 := Bool.eq_false_iff.mpr c91
              subst c91
              have H1 : ((constableref01_Fact.f kj47 a0_0 l0_1).bind fun t293 => (if t293 = true then ((fact_Check.f kj47 t279 t280).bind fun t294 => (if t294 = 0 then (if t285 = 0 then ((constableref01_FactText.f kj47 a0_0 l0_1).bind fun t295 => (if t284.toList = t295.toList then ((constablelaw03_wakes.f kj47).bind fun t296 => (some t296)) else (some false))) else (some false)) else (some false))) else ((fact_Check.f kj47 t279 t280).bind fun t297 => (if t297 = 1 then (if t285 = 1 then (if t284.toList = ([] : List UInt8) then ((constablelaw03_wakes.f kj47).bind fun t298 => (some t298)) else (some false)) else (some false)) else (some false))))) = some r := by rw [if_neg (show ¬ (false = true) by decide)] at H; exact H
              clear H
              have H := H1
              clear H1
              replace H := Option.bind_eq_some_iff.mp H
              obtain ⟨t293, A920, H⟩ := H
              replace H : (if t293 = true then ((fact_Check.f kj47 t279 t280).bind fun t294 => (if t294 = 0 then (if t285 = 0 then ((constableref01_FactText.f kj47 a0_0 l0_1).bind fun t295 => (if t284.toList = t295.toList then ((constablelaw03_wakes.f kj47).bind fun t296 => (some t296)) else (some false))) else (some false)) else (some false))) else ((fact_Check.f kj47 t279 t280).bind fun t297 => (if t297 = 1 then (if t285 = 1 then (if t284.toList = ([] : List UInt8) then ((constablelaw03_wakes.f kj47).bind fun t298 => (some t298)) else (some false)) else (some false)) else (some false)))) = some r := H
              have A92 := Aside0.mk A920
              clear A920
              by_cases c93 : t293 = true
              · subst c93
                have H1 : ((fact_Check.f kj47 t279 t280).bind fun t294 => (if t294 = 0 then (if t285 = 0 then ((constableref01_FactText.f kj47 a0_0 l0_1).bind fun t295 => (if t284.toList = t295.toList then ((constablelaw03_wakes.f kj47).bind fun t296 => (some t296)) else (some false))) else (some false)) else (some false))) = some r := by rw [if_pos rfl] at H; exact H
                clear H
                have H := H1
                clear H1
                replace H := Option.bind_eq_some_iff.mp H
                obtain ⟨t294, A940, H⟩ := H
                replace H : (if t294 = 0 then (if t285 = 0 then ((constableref01_FactText.f kj47 a0_0 l0_1).bind fun t295 => (if t284.toList = t295.toList then ((constablelaw03_wakes.f kj47).bind fun t296 => (some t296)) else (some false))) else (some false)) else (some false)) = some r := H
                have A94 := Aside0.mk A940
                clear A940
                by_cases c95 : t294 = 0
                · rw [if_pos c95] at H
                  obtain ⟨c95b0, c95b1⟩ := eqB_ c95
                  clear c95
                  by_cases c96 : t285 = 0
                  · rw [if_pos c96] at H
                    obtain ⟨c96b0, c96b1⟩ := eqB_ c96
                    clear c96
                    replace H := Option.bind_eq_some_iff.mp H
                    obtain ⟨t295, A970, H⟩ := H
                    replace H : (if t284.toList = t295.toList then ((constablelaw03_wakes.f kj47).bind fun t296 => (some t296)) else (some false)) = some r := H
                    have A97 := Aside0.mk A970
                    clear A970
                    by_cases c98 : t284.toList = t295.toList
                    · rw [if_pos c98] at H
                      obtain ⟨c98b0, c98b1⟩ := eqB_ c98
                      clear c98
                      replace H := Option.bind_eq_some_iff.mp H
                      obtain ⟨t296, A990, H⟩ := H
                      replace H : (some t296) = some r := H
                      have A99 := Aside0.mk A990
                      clear A990
                      obtain rfl := Option.some.inj H
                      have hnb100 := NB273_274.out
                      have hnc100 := NB274_273.out
                      have hnb101 := NB273_283.out
                      have hnc101 := NB283_273.out
                      have hcz102_0 : wc.cell? ⟨gb273, 0, none⟩ = some (.string a0_0) := (blk_cell BK273.out 0).trans rfl
                      have hcz102_1 : wc.cell? ⟨gb273, 1, none⟩ = some (.slice A0_1 l0_1.length c0_1) := (blk_cell BK273.out 1).trans rfl
                      have hfz102_0 := blk_frozen BK273.out 0
                      have hfz102_1 := blk_frozen BK273.out 1
                      go_wp2_with (first | ((with_reducible refine gate_callee (f := 22) rfl ?_); refine goesL_ (some 70) rfl rfl Tryd.func22 (by kernel_rfl) rfl #[.agg #[.string a0_0, .slice A0_1 l0_1.length c0_1]] rfl ga_ ?_; (with_reducible refine (constableref01_Fact.calls kj47 a0_0 _ _ l0_1 true _ ?side1 ?side2 A92.out).mono ?_); (case side1 => repeat (first | exact (Kd.C_below HR0_1.out HB.out) | (with_reducible refine Kd.C_alloc ?_ _) | (with_reducible refine Kd.C_drewN ?_ _) | (with_reducible refine Kd.C_drew ?_))); (case side2 => exact HC0_1.out); rintro e w103 ⟨rfl, hb⟩; refine ⟨_, rfl, ?_⟩; have n0_ := kb_ (ku_ HO_284001.out) hb; have n1_ := bb_ (bu_ BK273) hb; have n2_ := bb_ (bu_ BK274) hb; have n3_ := bb_ (bu_ BK283) hb; have n4_ := bs_ (be_ HB) hb; clear HO_284001; clear BK273; clear BK274; clear BK283; clear HB; have HO_284001 := n0_; have BK273 := n1_; have BK274 := n2_; have BK283 := n3_; have HB := n4_; clear n0_ n1_ n2_ n3_ n4_; (try clear hb); (try clear hb2); (try clear hk); (try clear hi); have hnb104 := NB283_274.out; have hnc104 := NB274_283.out; have hcz105_0 : w103.cell? ⟨gb283, 0, none⟩ = some (.string t279) := (blk_cell BK283.out 0).trans rfl; have hcz105_1 : w103.cell? ⟨gb283, 1, none⟩ = some (.slice Ao56 t280.length co56) := (blk_cell BK283.out 1).trans rfl; have hfz105_0 := blk_frozen BK283.out 0; have hfz105_1 := blk_frozen BK283.out 1) | ((with_reducible refine gate_callee (f := 23) rfl ?_); refine goesL_ (some 87) rfl rfl Tryd.func23 (by kernel_rfl) rfl #[.agg #[.string t279, .slice Ao56 t280.length co56]] rfl ga_ ?_; (with_reducible refine (fact_Check.calls kj47 t279 _ _ t280 t294 _ ?side1 ?side2 A94.out).mono ?_); (case side1 => repeat (first | exact (Kd.R_reads' HO_284001.out).2.2 | (with_reducible refine Kd.C_alloc ?_ _) | (with_reducible refine Kd.C_drewN ?_ _) | (with_reducible refine Kd.C_drew ?_))); (case side2 => exact (Kd.R_reads' HO_284001.out).2.1); rintro e w106 ⟨rfl, hb⟩; refine ⟨_, rfl, ?_⟩; have n0_ := kb_ (ku_ HO_284001.out) hb; have n1_ := bb_ (bu_ BK273) hb; have n2_ := bb_ (bu_ BK274) hb; have n3_ := bb_ (bu_ BK283) hb; have n4_ := bs_ (be_ HB) hb; clear HO_284001; clear BK273; clear BK274; clear BK283; clear HB; have HO_284001 := n0_; have BK273 := n1_; have BK274 := n2_; have BK283 := n3_; have HB := n4_; clear n0_ n1_ n2_ n3_ n4_; (try clear hcz105_0 hcz105_1 hfz105_0 hfz105_1); (try clear hb); (try clear hb2); (try clear hk); (try clear hi); have hcz107_0 : w106.cell? ⟨gb273, 0, none⟩ = some (.string a0_0) := (blk_cell BK273.out 0).trans rfl; have hcz107_1 : w106.cell? ⟨gb273, 1, none⟩ = some (.slice A0_1 l0_1.length c0_1) := (blk_cell BK273.out 1).trans rfl; have hfz107_0 := blk_frozen BK273.out 0; have hfz107_1 := blk_frozen BK273.out 1) | (go_at_call 25; (with_reducible refine (constableref01_FactText.calls kj47 a0_0 _ _ l0_1 t295 _ ?side1 ?side2 A97.out).mono ?_); (case side1 => repeat (first | exact (Kd.C_below HR0_1.out HB.out) | (with_reducible refine Kd.C_alloc ?_ _) | (with_reducible refine Kd.C_drewN ?_ _) | (with_reducible refine Kd.C_drew ?_))); (case side2 => exact HC0_1.out); rintro e w108 ⟨rfl, hb⟩; have n0_ := kb_ (ku_ HO_284001.out) hb; have n1_ := bb_ (bu_ BK273) hb; have n2_ := bb_ (bu_ BK274) hb; have n3_ := bb_ (bu_ BK283) hb; have n4_ := bs_ (be_ HB) hb; clear HO_284001; clear BK273; clear BK274; clear BK283; clear HB; have HO_284001 := n0_; have BK273 := n1_; have BK274 := n2_; have BK283 := n3_; have HB := n4_; clear n0_ n1_ n2_ n3_ n4_; (try clear hcz107_0 hcz107_1 hfz107_0 hfz107_1); (try clear hb); (try clear hb2); (try clear hk); (try clear hi)) | (go_at_call 24; (with_reducible refine (constablelaw03_wakes.calls kj47  t296 _ A99.out HR_.out (tt_ HL_ (be_ HB))).mono ?_); rintro e w109 ⟨rfl, hb⟩; have n0_ := kb_ (ku_ HO_284001.out) hb; have n1_ := bb_ (bu_ BK273) hb; have n2_ := bb_ (bu_ BK274) hb; have n3_ := bb_ (bu_ BK283) hb; have n4_ := bs_ (be_ HB) hb; clear HO_284001; clear BK273; clear BK274; clear BK283; clear HB; have HO_284001 := n0_; have BK273 := n1_; have BK274 := n2_; have BK283 := n3_; have HB := n4_; clear n0_ n1_ n2_ n3_ n4_; (try clear hb); (try clear hb2); (try clear hk); (try clear hi)))
                      go_ret
                      exact ⟨by first | rfl | (simp [errW_none, errW_some] <;> rfl) | (simp [*, errW_none, errW_some] <;> rfl), by repeat (first | (with_reducible first | exact HB.out | apply below_alloc | apply pw_below_drewN | apply below_drew1 | refine below_set ?_ GE273.out | refine below_set ?_ GE274.out | refine below_set ?_ GE283.out) | exact HB.out)⟩
                    · rw [if_neg c98] at H
                      obtain ⟨c98b0, c98b1⟩ := neB_ c98
                      exact absurd ((Option.some.inj H).trans HR_.out) (by decide)
                  · rw [if_neg c96] at H
                    obtain ⟨c96b0, c96b1⟩ := neB_ c96
                    exact absurd ((Option.some.inj H).trans HR_.out) (by decide)
                · rw [if_neg c95] at H
                  obtain ⟨c95b0, c95b1⟩ := neB_ c95
                  exact absurd ((Option.some.inj H).trans HR_.out) (by decide)
              · replace c93 := Bool.eq_false_iff.mpr c93
                subst c93
                have H1 : ((fact_Check.f kj47 t279 t280).bind fun t297 => (if t297 = 1 then (if t285 = 1 then (if t284.toList = ([] : List UInt8) then ((constablelaw03_wakes.f kj47).bind fun t298 => (some t298)) else (some false)) else (some false)) else (some false))) = some r := by rw [if_neg (show ¬ (false = true) by decide)] at H; exact H
                clear H
                have H := H1
                clear H1
                replace H := Option.bind_eq_some_iff.mp H
                obtain ⟨t297, A1100, H⟩ := H
                replace H : (if t297 = 1 then (if t285 = 1 then (if t284.toList = ([] : List UInt8) then ((constablelaw03_wakes.f kj47).bind fun t298 => (some t298)) else (some false)) else (some false)) else (some false)) = some r := H
                have A110 := Aside0.mk A1100
                clear A1100
                by_cases c111 : t297 = 1
                · rw [if_pos c111] at H
                  obtain ⟨c111b0, c111b1⟩ := eqB_ c111
                  clear c111
                  by_cases c112 : t285 = 1
                  · rw [if_pos c112] at H
                    obtain ⟨c112b0, c112b1⟩ := eqB_ c112
                    clear c112
                    by_cases c113 : t284.toList = ([] : List UInt8)
                    · rw [if_pos c113] at H
                      obtain ⟨c113b0, c113b1⟩ := eqB_ c113
                      clear c113
                      replace H := Option.bind_eq_some_iff.mp H
                      obtain ⟨t298, A1140, H⟩ := H
                      replace H : (some t298) = some r := H
                      have A114 := Aside0.mk A1140
                      clear A1140
                      obtain rfl := Option.some.inj H
                      have hnb115 := NB273_274.out
                      have hnc115 := NB274_273.out
                      have hnb116 := NB273_283.out
                      have hnc116 := NB283_273.out
                      have hcz117_0 : wc.cell? ⟨gb273, 0, none⟩ = some (.string a0_0) := (blk_cell BK273.out 0).trans rfl
                      have hcz117_1 : wc.cell? ⟨gb273, 1, none⟩ = some (.slice A0_1 l0_1.length c0_1) := (blk_cell BK273.out 1).trans rfl
                      have hfz117_0 := blk_frozen BK273.out 0
                      have hfz117_1 := blk_frozen BK273.out 1
                      go_wp2_with (first | ((with_reducible refine gate_callee (f := 22) rfl ?_); refine goesL_ (some 70) rfl rfl Tryd.func22 (by kernel_rfl) rfl #[.agg #[.string a0_0, .slice A0_1 l0_1.length c0_1]] rfl ga_ ?_; (with_reducible refine (constableref01_Fact.calls kj47 a0_0 _ _ l0_1 false _ ?side1 ?side2 A92.out).mono ?_); (case side1 => repeat (first | exact (Kd.C_below HR0_1.out HB.out) | (with_reducible refine Kd.C_alloc ?_ _) | (with_reducible refine Kd.C_drewN ?_ _) | (with_reducible refine Kd.C_drew ?_))); (case side2 => exact HC0_1.out); rintro e w118 ⟨rfl, hb⟩; refine ⟨_, rfl, ?_⟩; have n0_ := kb_ (ku_ HO_284001.out) hb; have n1_ := bb_ (bu_ BK273) hb; have n2_ := bb_ (bu_ BK274) hb; have n3_ := bb_ (bu_ BK283) hb; have n4_ := bs_ (be_ HB) hb; clear HO_284001; clear BK273; clear BK274; clear BK283; clear HB; have HO_284001 := n0_; have BK273 := n1_; have BK274 := n2_; have BK283 := n3_; have HB := n4_; clear n0_ n1_ n2_ n3_ n4_; (try clear hb); (try clear hb2); (try clear hk); (try clear hi); have hnb119 := NB283_274.out; have hnc119 := NB274_283.out; have hcz120_0 : w118.cell? ⟨gb283, 0, none⟩ = some (.string t279) := (blk_cell BK283.out 0).trans rfl; have hcz120_1 : w118.cell? ⟨gb283, 1, none⟩ = some (.slice Ao56 t280.length co56) := (blk_cell BK283.out 1).trans rfl; have hfz120_0 := blk_frozen BK283.out 0; have hfz120_1 := blk_frozen BK283.out 1) | ((with_reducible refine gate_callee (f := 23) rfl ?_); refine goesL_ (some 73) rfl rfl Tryd.func23 (by kernel_rfl) rfl #[.agg #[.string t279, .slice Ao56 t280.length co56]] rfl ga_ ?_; (with_reducible refine (fact_Check.calls kj47 t279 _ _ t280 t297 _ ?side1 ?side2 A110.out).mono ?_); (case side1 => repeat (first | exact (Kd.R_reads' HO_284001.out).2.2 | (with_reducible refine Kd.C_alloc ?_ _) | (with_reducible refine Kd.C_drewN ?_ _) | (with_reducible refine Kd.C_drew ?_))); (case side2 => exact (Kd.R_reads' HO_284001.out).2.1); rintro e w121 ⟨rfl, hb⟩; refine ⟨_, rfl, ?_⟩; have n0_ := kb_ (ku_ HO_284001.out) hb; have n1_ := bb_ (bu_ BK273) hb; have n2_ := bb_ (bu_ BK274) hb; have n3_ := bb_ (bu_ BK283) hb; have n4_ := bs_ (be_ HB) hb; clear HO_284001; clear BK273; clear BK274; clear BK283; clear HB; have HO_284001 := n0_; have BK273 := n1_; have BK274 := n2_; have BK283 := n3_; have HB := n4_; clear n0_ n1_ n2_ n3_ n4_; (try clear hcz120_0 hcz120_1 hfz120_0 hfz120_1); (try clear hb); (try clear hb2); (try clear hk); (try clear hi)) | (go_at_call 24; (with_reducible refine (constablelaw03_wakes.calls kj47  t298 _ A114.out HR_.out (tt_ HL_ (be_ HB))).mono ?_); rintro e w122 ⟨rfl, hb⟩; have n0_ := kb_ (ku_ HO_284001.out) hb; have n1_ := bb_ (bu_ BK273) hb; have n2_ := bb_ (bu_ BK274) hb; have n3_ := bb_ (bu_ BK283) hb; have n4_ := bs_ (be_ HB) hb; clear HO_284001; clear BK273; clear BK274; clear BK283; clear HB; have HO_284001 := n0_; have BK273 := n1_; have BK274 := n2_; have BK283 := n3_; have HB := n4_; clear n0_ n1_ n2_ n3_ n4_; (try clear hb); (try clear hb2); (try clear hk); (try clear hi)))
                      go_ret
                      exact ⟨by first | rfl | (simp [errW_none, errW_some] <;> rfl) | (simp [*, errW_none, errW_some] <;> rfl), by repeat (first | (with_reducible first | exact HB.out | apply below_alloc | apply pw_below_drewN | apply below_drew1 | refine below_set ?_ GE273.out | refine below_set ?_ GE274.out | refine below_set ?_ GE283.out) | exact HB.out)⟩
                    · rw [if_neg c113] at H
                      obtain ⟨c113b0, c113b1⟩ := neB_ c113
                      exact absurd ((Option.some.inj H).trans HR_.out) (by decide)
                  · rw [if_neg c112] at H
                    obtain ⟨c112b0, c112b1⟩ := neB_ c112
                    exact absurd ((Option.some.inj H).trans HR_.out) (by decide)
                · rw [if_neg c111] at H
                  obtain ⟨c111b0, c111b1⟩ := neB_ c111
                  exact absurd ((Option.some.inj H).trans HR_.out) (by decide)
end Go.Proofs.YtaopajmpifenoaaDoor.P
end
section
namespace Go.Proofs.YtaopajmpifenoaaDoor.P
open Go.RowKit Go.Proofs.YtaopajmpifenoaaDoorW.PrintWords Go.Proofs.YtaopajmpifenoaaDoorW.PrintLast Go.Proofs.YtaopajmpifenoaaDoorW.PrintMore
attribute [local go_sem] max2_int min2_int max_two min_two max_three min_three max_four min_four
set_option linter.unusedVariables false
set_option linter.unusedSimpArgs false
def val_bare.l0 : Nat → ByteArray → List Int → Int → Option (ByteArray)
  | 0, _, _, _ => none
  | k + 1, x0, x3, x4 => if x4 < (wrap64 ((x0.size : Int) - 1)) then (if 0 ≤ x4 then (if x4 < (x0.size : Int) then (if (bt x0 x4) = 92 then (if (wrap64 (x4 + 1)) < (wrap64 ((x0.size : Int) - 1)) then (if 0 ≤ (wrap64 (x4 + 1)) then (if (wrap64 (x4 + 1)) < (x0.size : Int) then (if x3.length < 140737488355328 then (val_bare.l0 k x0 (x3 ++ [bt x0 (wrap64 (x4 + 1))]) (wrap64 ((wrap64 (x4 + 1)) + 1))) else (none)) else (none)) else (none)) else (if x3.length < 140737488355328 then (val_bare.l0 k x0 (x3 ++ [bt x0 x4]) (wrap64 (x4 + 1))) else (none))) else (if x3.length < 140737488355328 then (val_bare.l0 k x0 (x3 ++ [bt x0 x4]) (wrap64 (x4 + 1))) else (none))) else (none)) else (none)) else (some (strOfNums x3))
def val_bare.f (k : Nat) (a0 : ByteArray) : Option (ByteArray) := val_bare.l0 k a0 ([] : List Int) 1
theorem val_bare.mono_l : ∀ k, (∀ y0 y1 y2, LeO (val_bare.l0 k y0 y1 y2) (val_bare.l0 (k + 1) y0 y1 y2))
  | 0 => fun _ _ _ r h => by simp [val_bare.l0] at h
  | k + 1 => by
    have ih0 := val_bare.mono_l k
    · intro y0 y1 y2
      unfold val_bare.l0
      repeat' first
      | (with_reducible exact ih0 _ _ _)
      | (with_reducible exact LeO.refl _)
      | (with_reducible exact LeO.none _)
      | (with_reducible refine LeO.ite ?_ ?_)
      | (with_reducible refine LeO.bind ?_ (fun _ => ?_))
      | exact ih0 _ _ _
      | exact LeO.none _
      | refine LeO.ite ?_ ?_
      | refine LeO.bind ?_ (fun _ => ?_)
theorem val_bare.mono : ∀ a0 k, LeO (val_bare.f k a0) (val_bare.f (k + 1) a0) := by
  intro a0 k
  have ih0 := val_bare.mono_l k
  unfold val_bare.f
  repeat' first
      | (with_reducible exact ih0 _ _ _)
      | (with_reducible exact LeO.refl _)
      | (with_reducible exact LeO.none _)
      | (with_reducible refine LeO.ite ?_ ?_)
      | (with_reducible refine LeO.bind ?_ (fun _ => ?_))
      | exact ih0 _ _ _
      | exact LeO.none _
      | refine LeO.ite ?_ ?_
      | refine LeO.bind ?_ (fun _ => ?_)
set_option maxHeartbeats 8000000 in
set_option maxRecDepth 100000 in
theorem val_bare.calls (k : Nat) (a0 : ByteArray) (r : ByteArray) (w : World) (h : val_bare.f k a0 = some r) :
    Calls Tryd.prog 50 #[.string a0] w fun e w' => e = .returned (.string r) ∧ Below w.heap.size w w' := by
  have HB := Aside0.mk (Below.refl w.heap.size w)
  have H : (val_bare.l0 k a0 ([] : List Int) 1) = some r := h
  clear h
  have H' := Aside0.mk H
  clear H
  go_enter Tryd.func50, Tryd.ntmps50
  go_wp2
  go_loopg [3, 4] k (fun kq v3 v4 w' => ∃ (x3_1 : List Int) (x4_1 : Int), v4 = .int .i64 x4_1 ∧ Aside0 (val_bare.l0 kq a0 x3_1 x4_1 = some r) ∧ Aside0 (kq ≤ k) ∧ Aside0 (Kd.R (Kd.int .u8) 5 w' w.heap.size (fun _ => True) v3 x3_1) ∧ Aside0 (Below w.heap.size w w'))
  case atStart => exact ⟨(([] : List Int)), (1), ra_, H', ⟨Nat.le_refl _⟩, ⟨by first | exact Kd.R_nil _ _ _ _ _ | exact Kd.N_nil _ _ _ _ _ | exact Kd.V_nil _ _ _ _ _ | exact Kd.Q_nil _ _ _ _ _ | exact Kd.S_nil _ _ _ _ _⟩, ⟨by repeat (first | (with_reducible first | exact HB.out | apply below_alloc | apply pw_below_drewN | apply below_drew1) | exact HB.out)⟩⟩
  case round =>
    clear H'
    obtain ⟨x3_1, x4_1, rfl, HA, HK1, HO_3, HB⟩ := hrel
    cases gk with
    | zero => exact absurd HA.out (by simp [val_bare.l0])
    | succ k1 =>
      have H := HA.out
      clear HA
      simp only [val_bare.l0] at H
      by_cases c2 : x4_1 < (wrap64 ((a0.size : Int) - 1))
      · rw [if_pos c2] at H
        have c2b0 : decide (x4_1 < (wrap64 ((a0.size : Int) - 1))) = true := decide_eq_true c2
        clear c2
        by_cases c3 : 0 ≤ x4_1
        · rw [if_pos c3] at H
          have c3b0 : decide (0 ≤ x4_1) = true := decide_eq_true c3
          clear c3
          by_cases c4 : x4_1 < (a0.size : Int)
          · rw [if_pos c4] at H
            have c4b0 : decide (x4_1 < (a0.size : Int)) = true := decide_eq_true c4
            clear c4
            by_cases c6 : (bt a0 x4_1) = 92
            · rw [if_pos c6] at H
              obtain ⟨c6b0, c6b1⟩ := eqB_ c6
              clear c6
              by_cases c7 : (wrap64 (x4_1 + 1)) < (wrap64 ((a0.size : Int) - 1))
              · rw [if_pos c7] at H
                have c7b0 : decide ((wrap64 (x4_1 + 1)) < (wrap64 ((a0.size : Int) - 1))) = true := decide_eq_true c7
                clear c7
                obtain ⟨ji8, hji8⟩ : ∃ j_ : Int, (wrap64 (x4_1 + 1)) = j_ := ⟨_, rfl⟩
                replace H : (if 0 ≤ (ji8) then (if (ji8) < (a0.size : Int) then (if x3_1.length < 140737488355328 then (val_bare.l0 k1 a0 (x3_1 ++ [bt a0 (ji8)]) (wrap64 ((ji8) + 1))) else (none)) else (none)) else (none)) = some r := by first | (rw [hji8] at H; exact H) | (simp only [hji8] at H ⊢; exact H)
                (try rw [hji8] at c7b0)
                have hji8w : (IntKind.i64.wrap (x4_1 + 1)) = ji8 := (i64_w _).trans hji8
                by_cases c9 : 0 ≤ (ji8)
                · rw [if_pos c9] at H
                  have c9b0 : decide (0 ≤ (ji8)) = true := decide_eq_true c9
                  clear c9
                  by_cases c10 : (ji8) < (a0.size : Int)
                  · rw [if_pos c10] at H
                    have c10b0 : decide ((ji8) < (a0.size : Int)) = true := decide_eq_true c10
                    clear c10
                    by_cases c12 : x3_1.length < 140737488355328
                    · rw [if_pos c12] at H
                      have LMc12 := Aside0.mk c12
                      clear c12
                      obtain ⟨y331, hy331⟩ : ∃ y_ : List Int, y_ = (x3_1 ++ [bt a0 (ji8)]) := ⟨_, rfl⟩
                      replace H : (val_bare.l0 k1 a0 y331 (wrap64 ((ji8) + 1))) = some r := by first | (rw [hy331]; with_reducible exact H) | (have H2_ := (Option.bind_some _ _).symm.trans H; rw [hy331]; with_reducible exact H2_) | (have H2_ := (Option.bind_some _ _).symm.trans H; with_reducible exact H2_) | with_reducible exact H | (rw [hy331]; exact H) | exact H
                      have Ny331 := Aside0.mk hy331
                      clear hy331
                      have H' := Aside0.mk H
                      clear H
                      have p5 : 0 ≤ (x4_1 : Int) := dt_
                      have q5 : x4_1 < (a0.size : Int) := dt_
                      have hx5 := bt_at a0 x4_1
                      replace p5 := eq_true p5
                      replace q5 := eq_true q5
                      have p11 : 0 ≤ ((ji8) : Int) := dt_
                      have q11 : (ji8) < (a0.size : Int) := dt_
                      have hx11 := bt_at a0 (ji8)
                      replace p11 := eq_true p11
                      replace q11 := eq_true q11
                      go_wp2_with (first | ((with_reducible refine gate_builtin (b := .append) (xs := #[.tmp 26, .tmp 30]) rfl ?_); (try (refine gate_guard (by rfl) ?_; dsimp only)); at_builtin; refine Kd.R_append (Kd.int .u8) (w0 := w) w.heap.size rfl (.tmp 26) (.tmp 30) 81 5 (.int .u8 0) 1 rfl Tryd.underlying81 info5 rfl (by decide) (by omega) u3 x3_1 (bt a0 (ji8)) [.int .u8 (bt a0 (ji8))] (fun _ => True) (fun _ => False) rfl rfl ?aP (fun _ hk => hk.elim) ?aF ?aO ?aB ?aS ?aL ?_; (case aP => exact rfl); (case aB => exact (be_ HB)); (case aF => exact (fun _ _ => trivial)); (case aO => exact (ku_ HO_3.out)); (case aS => exact (below_size (be_ HB))); (case aL => have := LMc12.out; omega); intro v332 w13 ho hb hg hat; rw [← Ny331.out] at ho; have n0_ := Aside0.mk (hb); have n1_ := Aside0.mk (ho); clear HB; clear HO_3; have HB := n0_; have HO333 := n1_; clear n0_ n1_; clear ho hb hg hat))
                      go_roundg k1
                      case measure => have := HK1.out; omega
                      case rel => exact ⟨(y331), (wrap64 ((ji8) + 1)), (by first | rfl | (simp; done) | (simp only [← hji8] <;> (first | rfl | simp)) | (simp [*]; done)), H', ⟨by have := HK1.out; omega⟩, ⟨by (with_reducible repeat (first | apply Kd.R_alloc | apply Kd.R_drewN | apply Kd.R_drew)); exact HO333.out⟩, ⟨by repeat (first | (with_reducible first | exact HB.out | apply below_alloc | apply pw_below_drewN | apply below_drew1) | exact HB.out)⟩⟩
                    · rw [if_neg c12] at H
                      exact absurd H (by simp)
                  · rw [if_neg c10] at H
                    exact absurd H (by simp)
                · rw [if_neg c9] at H
                  exact absurd H (by simp)
              · rw [if_neg c7] at H
                have c7b0 : decide ((wrap64 (x4_1 + 1)) < (wrap64 ((a0.size : Int) - 1))) = false := decide_eq_false c7
                clear c7
                by_cases c15 : x3_1.length < 140737488355328
                · rw [if_pos c15] at H
                  have LMc15 := Aside0.mk c15
                  clear c15
                  obtain ⟨y334, hy334⟩ : ∃ y_ : List Int, y_ = (x3_1 ++ [bt a0 x4_1]) := ⟨_, rfl⟩
                  replace H : (val_bare.l0 k1 a0 y334 (wrap64 (x4_1 + 1))) = some r := by first | (rw [hy334]; with_reducible exact H) | (have H2_ := (Option.bind_some _ _).symm.trans H; rw [hy334]; with_reducible exact H2_) | (have H2_ := (Option.bind_some _ _).symm.trans H; with_reducible exact H2_) | with_reducible exact H | (rw [hy334]; exact H) | exact H
                  have Ny334 := Aside0.mk hy334
                  clear hy334
                  have H' := Aside0.mk H
                  clear H
                  have p5 : 0 ≤ (x4_1 : Int) := dt_
                  have q5 : x4_1 < (a0.size : Int) := dt_
                  have hx5 := bt_at a0 x4_1
                  replace p5 := eq_true p5
                  replace q5 := eq_true q5
                  have p14 : 0 ≤ (x4_1 : Int) := dt_
                  have q14 : x4_1 < (a0.size : Int) := dt_
                  have hx14 := bt_at a0 x4_1
                  replace p14 := eq_true p14
                  replace q14 := eq_true q14
                  go_wp2_with (first | ((with_reducible refine gate_builtin (b := .append) (xs := #[.tmp 26, .tmp 30]) rfl ?_); (try (refine gate_guard (by rfl) ?_; dsimp only)); at_builtin; refine Kd.R_append (Kd.int .u8) (w0 := w) w.heap.size rfl (.tmp 26) (.tmp 30) 81 5 (.int .u8 0) 1 rfl Tryd.underlying81 info5 rfl (by decide) (by omega) u3 x3_1 (bt a0 x4_1) [.int .u8 (bt a0 x4_1)] (fun _ => True) (fun _ => False) rfl rfl ?aP (fun _ hk => hk.elim) ?aF ?aO ?aB ?aS ?aL ?_; (case aP => exact rfl); (case aB => exact (be_ HB)); (case aF => exact (fun _ _ => trivial)); (case aO => exact (ku_ HO_3.out)); (case aS => exact (below_size (be_ HB))); (case aL => have := LMc15.out; omega); intro v335 w16 ho hb hg hat; rw [← Ny334.out] at ho; have n0_ := Aside0.mk (hb); have n1_ := Aside0.mk (ho); clear HB; clear HO_3; have HB := n0_; have HO336 := n1_; clear n0_ n1_; clear ho hb hg hat))
                  go_roundg k1
                  case measure => have := HK1.out; omega
                  case rel => exact ⟨(y334), (wrap64 (x4_1 + 1)), ra_, H', ⟨by have := HK1.out; omega⟩, ⟨by (with_reducible repeat (first | apply Kd.R_alloc | apply Kd.R_drewN | apply Kd.R_drew)); exact HO336.out⟩, ⟨by repeat (first | (with_reducible first | exact HB.out | apply below_alloc | apply pw_below_drewN | apply below_drew1) | exact HB.out)⟩⟩
                · rw [if_neg c15] at H
                  exact absurd H (by simp)
            · rw [if_neg c6] at H
              obtain ⟨c6b0, c6b1⟩ := neB_ c6
              by_cases c18 : x3_1.length < 140737488355328
              · rw [if_pos c18] at H
                have LMc18 := Aside0.mk c18
                clear c18
                obtain ⟨y337, hy337⟩ : ∃ y_ : List Int, y_ = (x3_1 ++ [bt a0 x4_1]) := ⟨_, rfl⟩
                replace H : (val_bare.l0 k1 a0 y337 (wrap64 (x4_1 + 1))) = some r := by first | (rw [hy337]; with_reducible exact H) | (have H2_ := (Option.bind_some _ _).symm.trans H; rw [hy337]; with_reducible exact H2_) | (have H2_ := (Option.bind_some _ _).symm.trans H; with_reducible exact H2_) | with_reducible exact H | (rw [hy337]; exact H) | exact H
                have Ny337 := Aside0.mk hy337
                clear hy337
                have H' := Aside0.mk H
                clear H
                have p5 : 0 ≤ (x4_1 : Int) := dt_
                have q5 : x4_1 < (a0.size : Int) := dt_
                have hx5 := bt_at a0 x4_1
                replace p5 := eq_true p5
                replace q5 := eq_true q5
                have p17 : 0 ≤ (x4_1 : Int) := dt_
                have q17 : x4_1 < (a0.size : Int) := dt_
                have hx17 := bt_at a0 x4_1
                replace p17 := eq_true p17
                replace q17 := eq_true q17
                go_wp2_with (first | ((with_reducible refine gate_builtin (b := .append) (xs := #[.tmp 26, .tmp 30]) rfl ?_); (try (refine gate_guard (by rfl) ?_; dsimp only)); at_builtin; refine Kd.R_append (Kd.int .u8) (w0 := w) w.heap.size rfl (.tmp 26) (.tmp 30) 81 5 (.int .u8 0) 1 rfl Tryd.underlying81 info5 rfl (by decide) (by omega) u3 x3_1 (bt a0 x4_1) [.int .u8 (bt a0 x4_1)] (fun _ => True) (fun _ => False) rfl rfl ?aP (fun _ hk => hk.elim) ?aF ?aO ?aB ?aS ?aL ?_; (case aP => exact rfl); (case aB => exact (be_ HB)); (case aF => exact (fun _ _ => trivial)); (case aO => exact (ku_ HO_3.out)); (case aS => exact (below_size (be_ HB))); (case aL => have := LMc18.out; omega); intro v338 w19 ho hb hg hat; rw [← Ny337.out] at ho; have n0_ := Aside0.mk (hb); have n1_ := Aside0.mk (ho); clear HB; clear HO_3; have HB := n0_; have HO339 := n1_; clear n0_ n1_; clear ho hb hg hat))
                go_roundg k1
                case measure => have := HK1.out; omega
                case rel => exact ⟨(y337), (wrap64 (x4_1 + 1)), ra_, H', ⟨by have := HK1.out; omega⟩, ⟨by (with_reducible repeat (first | apply Kd.R_alloc | apply Kd.R_drewN | apply Kd.R_drew)); exact HO339.out⟩, ⟨by repeat (first | (with_reducible first | exact HB.out | apply below_alloc | apply pw_below_drewN | apply below_drew1) | exact HB.out)⟩⟩
              · rw [if_neg c18] at H
                exact absurd H (by simp)
          · rw [if_neg c4] at H
            exact absurd H (by simp)
        · rw [if_neg c3] at H
          exact absurd H (by simp)
      · rw [if_neg c2] at H
        have c2b0 : decide (x4_1 < (wrap64 ((a0.size : Int) - 1))) = false := decide_eq_false c2
        clear c2
        obtain rfl := Option.some.inj H
        have hcv20 := own_string (P := Tryd.prog) Tryd.underlying81 Tryd.underlying5 Tryd.underlying9 (Kd.own_of_R HO_3.out)
        go_wp2
        go_ret
        exact ⟨by first | rfl | (simp [errW_none, errW_some] <;> rfl) | (simp [*, errW_none, errW_some] <;> rfl), by repeat (first | (with_reducible first | exact HB.out | apply below_alloc | apply pw_below_drewN | apply below_drew1) | exact HB.out)⟩
end Go.Proofs.YtaopajmpifenoaaDoor.P
end
section
namespace Go.Proofs.YtaopajmpifenoaaDoor.P
open Go.RowKit Go.Proofs.YtaopajmpifenoaaDoorW.PrintWords Go.Proofs.YtaopajmpifenoaaDoorW.PrintLast Go.Proofs.YtaopajmpifenoaaDoorW.PrintMore
attribute [local go_sem] max2_int min2_int max_two min_two max_three min_three max_four min_four
set_option linter.unusedVariables false
set_option linter.unusedSimpArgs false
def strconv_Atoi.f (a0 : ByteArray) : Option (Int × Option Int) := if a0.size ≤ 281474976710656 then (match Lib.atoiAll a0.data.toList with | .ok v => some (v, none) | .«syntax» => some (0, some 0) | .range => some (Lib.atoiSat a0.data.toList, some 0)) else none
theorem strconv_Atoi.calls0 (a0 : ByteArray) (r1 : Int) (w : World) (h : strconv_Atoi.f a0 = some (r1, none)) (hl_ : LaidE w) :
    Calls Tryd.prog 52 #[.string a0] w fun e w' => e = .returned (.tuple #[.int .i64 r1, .nilIface]) ∧ Below w.heap.size w w' := by
  unfold strconv_Atoi.f at h
  split at h
  · split at h
    · simp only [Option.some.injEq, Prod.mk.injEq, and_true] at h
      obtain rfl := h
      refine (Tryd.strconv_Atoi_ok a0 (by omega) _ (by assumption) w).mono ?_
      rintro e w' ⟨rfl, hw⟩
      refine ⟨rfl, ?_⟩
      rcases hw with rfl | ⟨t, rfl⟩
      · exact Below.refl _ _
      · exact Lib.bytesWorld_below _ _ _
    · simp at h
    · simp at h
  · cases h
theorem strconv_Atoi.calls1 (a0 : ByteArray) (r1 q : Int) (w : World) (h : strconv_Atoi.f a0 = some (r1, some q)) (hl_ : LaidE w) :
    Calls Tryd.prog 52 #[.string a0] w fun e w' => (∃ N : Nat, e = .returned (.tuple #[.int .i64 r1, .iface 96 (.pointer (some ⟨N, 0, none⟩))])) ∧ Below w.heap.size w w' := by
  unfold strconv_Atoi.f at h
  split at h
  · rename_i hs
    obtain ⟨_, ⟨tp, p, hsyn⟩, ⟨tp2, p2, hran⟩⟩ := hl_
    split at h
    · simp at h
    · simp only [Option.some.injEq, Prod.mk.injEq] at h
      obtain ⟨rfl, rfl⟩ := h
      refine (Tryd.strconv_Atoi_syntax_var a0 hs (by assumption) tp p w hsyn).mono ?_
      rintro e w' ⟨N, rfl, _, _, hb⟩
      exact ⟨⟨N, rfl⟩, hb⟩
    · simp only [Option.some.injEq, Prod.mk.injEq] at h
      obtain ⟨rfl, rfl⟩ := h
      refine (Tryd.strconv_Atoi_range_var a0 hs (by assumption) tp2 p2 w hran).mono ?_
      rintro e w' ⟨N, rfl, _, _, hb⟩
      exact ⟨⟨N, rfl⟩, hb⟩
  · cases h
end Go.Proofs.YtaopajmpifenoaaDoor.P
end
section
namespace Go.Proofs.YtaopajmpifenoaaDoor.P
open Go.RowKit Go.Proofs.YtaopajmpifenoaaDoorW.PrintWords Go.Proofs.YtaopajmpifenoaaDoorW.PrintLast Go.Proofs.YtaopajmpifenoaaDoorW.PrintMore
attribute [local go_sem] max2_int min2_int max_two min_two max_three min_three max_four min_four
set_option linter.unusedVariables false
set_option linter.unusedSimpArgs false
def val_Parse.j0 : Nat → ByteArray → Bool → Int → Int → ByteArray → Option (Int × Int × ByteArray × Int)
  | 0, _, _, _, _, _ => none
  | k + 1, x0, x22, x342000, x342001, x342002 => if x22 = true then ((strconv_Atoi.f x0).bind fun bt346 => (if bt346.2.isNone = true then ((val_Text.f k 1 bt346.1 (⟨#[]⟩ : ByteArray)).bind fun bt349 => (if bt349.2 = 0 then (if bt349.1.toList = x0.toList then (some (1, bt346.1, (⟨#[]⟩ : ByteArray), 0)) else (some (0, 0, (⟨#[]⟩ : ByteArray), 7))) else (some (0, 0, (⟨#[]⟩ : ByteArray), 7)))) else (some (0, 0, (⟨#[]⟩ : ByteArray), 7)))) else ((val_Text.f k x342000 x342001 x342002).bind fun bt351 => (if bt351.2 = 0 then (if bt351.1.toList = x0.toList then (some (x342000, x342001, x342002, 0)) else (some (0, 0, (⟨#[]⟩ : ByteArray), 7))) else (some (0, 0, (⟨#[]⟩ : ByteArray), 7))))
def val_Parse.f (k : Nat) (a0 : ByteArray) : Option (Int × Int × ByteArray × Int) := if a0.toList = ([] : List UInt8) then (some (0, 0, (⟨#[]⟩ : ByteArray), 7)) else (if 0 < (a0.size : Int) then (if (bt a0 0) = 34 then ((val_bare.f k a0).bind fun t342 => ((val_Text.f k 3 0 t342).bind fun bt343 => (if bt343.2 = 0 then (if bt343.1.toList = a0.toList then (some (3, 0, t342, 0)) else (some (0, 0, (⟨#[]⟩ : ByteArray), 7))) else (some (0, 0, (⟨#[]⟩ : ByteArray), 7))))) else (if (bt a0 0) = 45 then (val_Parse.j0 k a0 true 2 0 a0) else ((val_digit.f (bt a0 0)).bind fun t345 => (val_Parse.j0 k a0 t345 2 0 a0)))) else (none))
theorem val_Parse.mono_l : ∀ k, (∀ y0 y1 y2 y3 y4, LeO (val_Parse.j0 k y0 y1 y2 y3 y4) (val_Parse.j0 (k + 1) y0 y1 y2 y3 y4))
  | 0 => fun _ _ _ _ _ r h => by simp [val_Parse.j0] at h
  | k + 1 => by
    have ih0 := val_Parse.mono_l k
    · intro y0 y1 y2 y3 y4
      unfold val_Parse.j0
      repeat' first
      | (with_reducible exact ih0 _ _ _ _ _)
      | (with_reducible exact val_Text.mono _ _ _ _)
      | (with_reducible exact val_bare.mono _ _)
      | (with_reducible exact LeO.refl _)
      | (with_reducible exact LeO.none _)
      | (with_reducible refine LeO.ite ?_ ?_)
      | (with_reducible refine LeO.bind ?_ (fun _ => ?_))
      | exact ih0 _ _ _ _ _
      | exact val_Text.mono _ _ _ _
      | exact val_bare.mono _ _
      | exact LeO.none _
      | refine LeO.ite ?_ ?_
      | refine LeO.bind ?_ (fun _ => ?_)
theorem val_Parse.mono : ∀ a0 k, LeO (val_Parse.f k a0) (val_Parse.f (k + 1) a0) := by
  intro a0 k
  have ih0 := val_Parse.mono_l k
  unfold val_Parse.f
  repeat' first
      | (with_reducible exact ih0 _ _ _ _ _)
      | (with_reducible exact val_Text.mono _ _ _ _)
      | (with_reducible exact val_bare.mono _ _)
      | (with_reducible exact LeO.refl _)
      | (with_reducible exact LeO.none _)
      | (with_reducible refine LeO.ite ?_ ?_)
      | (with_reducible refine LeO.bind ?_ (fun _ => ?_))
      | exact ih0 _ _ _ _ _
      | exact val_Text.mono _ _ _ _
      | exact val_bare.mono _ _
      | exact LeO.none _
      | refine LeO.ite ?_ ?_
      | refine LeO.bind ?_ (fun _ => ?_)
set_option maxHeartbeats 8000000 in
set_option maxRecDepth 100000 in
theorem val_Parse.calls (k : Nat) (a0 : ByteArray) (r1 : Int) (r2 : Int) (r3 : ByteArray) (r4 : Int) (w : World) (h : val_Parse.f k a0 = some (r1, r2, r3, r4)) (hl_ : LaidE w) :
    Calls Tryd.prog 27 #[.string a0] w fun e w' => e = .returned (.tuple #[.agg #[.int .i64 r1, .int .i64 r2, .string r3], .int .i64 r4]) ∧ Below w.heap.size w w' := by
  have hu44 := Tryd.underlying44
  have hu72 := Tryd.underlying72
  have HB := Aside0.mk (Below.refl w.heap.size w)
  have H : (if a0.toList = ([] : List UInt8) then (some (0, 0, (⟨#[]⟩ : ByteArray), 7)) else (if 0 < (a0.size : Int) then (if (bt a0 0) = 34 then ((val_bare.f k a0).bind fun t342 => ((val_Text.f k 3 0 t342).bind fun bt343 => (if bt343.2 = 0 then (if bt343.1.toList = a0.toList then (some (3, 0, t342, 0)) else (some (0, 0, (⟨#[]⟩ : ByteArray), 7))) else (some (0, 0, (⟨#[]⟩ : ByteArray), 7))))) else (if (bt a0 0) = 45 then (val_Parse.j0 k a0 true 2 0 a0) else ((val_digit.f (bt a0 0)).bind fun t345 => (val_Parse.j0 k a0 t345 2 0 a0)))) else (none))) = some (r1, r2, r3, r4) := h
  clear h
  have HL_ := Aside0.mk hl_
  clear hl_
  by_cases c2 : a0.toList = ([] : List UInt8)
  · rw [if_pos c2] at H
    obtain ⟨c2b0, c2b1⟩ := eqB_ c2
    clear c2
    simp only [Option.some.injEq, Prod.mk.injEq] at H
    obtain ⟨rfl, rfl, rfl, rfl⟩ := H
    go_enter Tryd.func27, Tryd.ntmps27
    go_wp2_with (first | ((with_reducible refine gate_dst (N := 2) rfl ?_); refine box_event ?hg (N := 2) ?hd (cs := #[.int .i64 0, .int .i64 0, .string (⟨#[]⟩ : ByteArray)]) (t := 44) ?hr ?_; (case hd => rfl); (case hg => rfl); (case hr => first | (go_simp; done) | (go_simp; rfl)); intro gb340 hg w3 hbox hb; have n0_ := bs_ (be_ HB) hb; have n1_ := Aside0.mk (hbox); have n2_ := gs_ hg (be_ HB); have n3_ := gs_ hg (be_ HB); clear HB; have HB := n0_; have BK340 := n1_; have GW340 := n2_; have GE340 := n3_; clear n0_ n1_ n2_ n3_; clear hb hbox hg) | ((with_reducible refine gate_dst (N := 4) rfl ?_); refine box_event ?hg (N := 4) ?hd (cs := #[.int .i64 0, .int .i64 0, .string (⟨#[]⟩ : ByteArray)]) (t := 44) ?hr ?_; (case hd => rfl); (case hg => rfl); (case hr => first | (go_simp; done) | (go_simp; rfl)); intro gb341 hg w4 hbox hb; have n0_ := bb_ (bu_ BK340) hb; have n1_ := bs_ (be_ HB) hb; have n2_ := Aside0.mk (hbox); have n3_ := gs_ hg (be_ HB); have n4_ := gs_ hg (be_ HB); have n5_ := nl_ hg (bu_ BK340); have n6_ := ng_ hg (bu_ BK340); clear BK340; clear HB; have BK340 := n0_; have HB := n1_; have BK341 := n2_; have GW341 := n3_; have GE341 := n4_; have NB340_341 := n5_; have NB341_340 := n6_; clear n0_ n1_ n2_ n3_ n4_ n5_ n6_; clear hb hbox hg; have hnb5 := NB341_340.out; have hnc5 := NB340_341.out; have hcz6_0 : w4.cell? ⟨gb341, 0, none⟩ = some (.int .i64 0) := (blk_cell BK341.out 0).trans rfl; have hcz6_1 : w4.cell? ⟨gb341, 1, none⟩ = some (.int .i64 0) := (blk_cell BK341.out 1).trans rfl; have hcz6_2 : w4.cell? ⟨gb341, 2, none⟩ = some (.string (⟨#[]⟩ : ByteArray)) := (blk_cell BK341.out 2).trans rfl; have hfz6_0 := blk_frozen BK341.out 0; have hfz6_1 := blk_frozen BK341.out 1; have hfz6_2 := blk_frozen BK341.out 2; have hcz7_0 : w4.cell? ⟨gb340, 0, none⟩ = some (.int .i64 0) := (blk_cell BK340.out 0).trans rfl; have hcz7_1 : w4.cell? ⟨gb340, 1, none⟩ = some (.int .i64 0) := (blk_cell BK340.out 1).trans rfl; have hcz7_2 : w4.cell? ⟨gb340, 2, none⟩ = some (.string (⟨#[]⟩ : ByteArray)) := (blk_cell BK340.out 2).trans rfl; have hfz7_0 := blk_frozen BK340.out 0; have hfz7_1 := blk_frozen BK340.out 1; have hfz7_2 := blk_frozen BK340.out 2))
    refine bodyPost_ret (results_ct rfl _ _ gb340 44 #[.int .i64 0, .int .i64 0, .string (⟨#[]⟩ : ByteArray)] (0, 0) _ rfl (bp_ BK340) Tryd.underlying44 rfl (by kernel_rfl)) rfl ?_
    exact ⟨by first | rfl | (simp [errW_none, errW_some] <;> rfl) | (simp [*, errW_none, errW_some] <;> rfl), by repeat (first | (with_reducible first | exact HB.out | apply below_alloc | apply pw_below_drewN | apply below_drew1 | refine below_set ?_ GE340.out | refine below_set ?_ GE341.out) | exact HB.out)⟩
  · rw [if_neg c2] at H
    obtain ⟨c2b0, c2b1⟩ := neB_ c2
    by_cases c8 : 0 < (a0.size : Int)
    · rw [if_pos c8] at H
      have c8b0 : decide (0 < (a0.size : Int)) = true := decide_eq_true c8
      have c8b1 : decide (0 < a0.size) = true := decide_eq_true (by omega)
      clear c8
      by_cases c10 : (bt a0 0) = 34
      · rw [if_pos c10] at H
        obtain ⟨c10b0, c10b1⟩ := eqB_ c10
        clear c10
        replace H := Option.bind_eq_some_iff.mp H
        obtain ⟨t342, A110, H⟩ := H
        replace H : ((val_Text.f k 3 0 t342).bind fun bt343 => (if bt343.2 = 0 then (if bt343.1.toList = a0.toList then (some (3, 0, t342, 0)) else (some (0, 0, (⟨#[]⟩ : ByteArray), 7))) else (some (0, 0, (⟨#[]⟩ : ByteArray), 7)))) = some (r1, r2, r3, r4) := H
        have A11 := Aside0.mk A110
        clear A110
        replace H := Option.bind_eq_some_iff.mp H
        obtain ⟨⟨t343, t344⟩, A120, H⟩ := H
        replace H : (if t344 = 0 then (if t343.toList = a0.toList then (some (3, 0, t342, 0)) else (some (0, 0, (⟨#[]⟩ : ByteArray), 7))) else (some (0, 0, (⟨#[]⟩ : ByteArray), 7))) = some (r1, r2, r3, r4) := H
        have A12 := Aside0.mk A120
        clear A120
        by_cases c13 : t344 = 0
        · rw [if_pos c13] at H
          obtain ⟨c13b0, c13b1⟩ := eqB_ c13
          clear c13
          by_cases c14 : t343.toList = a0.toList
          · rw [if_pos c14] at H
            obtain ⟨c14b0, c14b1⟩ := eqB_ c14
            clear c14
            simp only [Option.some.injEq, Prod.mk.injEq] at H
            obtain ⟨rfl, rfl, rfl, rfl⟩ := H
            go_enter Tryd.func27, Tryd.ntmps27
            go_wp2_with (first | ((with_reducible refine gate_dst (N := 2) rfl ?_); refine box_event ?hg (N := 2) ?hd (cs := #[.int .i64 0, .int .i64 0, .string (⟨#[]⟩ : ByteArray)]) (t := 44) ?hr ?_; (case hd => rfl); (case hg => rfl); (case hr => first | (go_simp; done) | (go_simp; rfl)); intro gb340 hg w15 hbox hb; have n0_ := bs_ (be_ HB) hb; have n1_ := Aside0.mk (hbox); have n2_ := gs_ hg (be_ HB); have n3_ := gs_ hg (be_ HB); clear HB; have HB := n0_; have BK340 := n1_; have GW340 := n2_; have GE340 := n3_; clear n0_ n1_ n2_ n3_; clear hb hbox hg) | ((with_reducible refine gate_dst (N := 4) rfl ?_); refine box_event ?hg (N := 4) ?hd (cs := #[.int .i64 0, .int .i64 0, .string (⟨#[]⟩ : ByteArray)]) (t := 44) ?hr ?_; (case hd => rfl); (case hg => rfl); (case hr => first | (go_simp; done) | (go_simp; rfl)); intro gb341 hg w16 hbox hb; have n0_ := bb_ (bu_ BK340) hb; have n1_ := bs_ (be_ HB) hb; have n2_ := Aside0.mk (hbox); have n3_ := gs_ hg (be_ HB); have n4_ := gs_ hg (be_ HB); have n5_ := nl_ hg (bu_ BK340); have n6_ := ng_ hg (bu_ BK340); clear BK340; clear HB; have BK340 := n0_; have HB := n1_; have BK341 := n2_; have GW341 := n3_; have GE341 := n4_; have NB340_341 := n5_; have NB341_340 := n6_; clear n0_ n1_ n2_ n3_ n4_ n5_ n6_; clear hb hbox hg; have hnb17 := NB341_340.out; have hnc17 := NB340_341.out; have hcz18_0 : w16.cell? ⟨gb341, 0, none⟩ = some (.int .i64 0) := (blk_cell BK341.out 0).trans rfl; have hcz18_1 : w16.cell? ⟨gb341, 1, none⟩ = some (.int .i64 0) := (blk_cell BK341.out 1).trans rfl; have hcz18_2 : w16.cell? ⟨gb341, 2, none⟩ = some (.string (⟨#[]⟩ : ByteArray)) := (blk_cell BK341.out 2).trans rfl; have hfz18_0 := blk_frozen BK341.out 0; have hfz18_1 := blk_frozen BK341.out 1; have hfz18_2 := blk_frozen BK341.out 2; have p9 : 0 ≤ (0 : Int) := (by omega); have q9 : 0 < a0.size := (by have : (0 : Int) < (a0.size : Int) := dt_; omega); have hx9 : ∀ h : 0 < a0.size, ((a0[0]'h).toNat : Int) = bt a0 0 := bt_at a0 0; clear p9; have qi9 : (0 < (a0.size : Int)) = True := eq_true dt_; replace q9 := eq_true q9) | ((with_reducible refine gate_callee (f := 50) rfl ?_); refine goesL_ (some 20) rfl rfl Tryd.func50 (by kernel_rfl) rfl #[.string a0] rfl ga_ ?_; (with_reducible refine (val_bare.calls k a0 t342 _ A11.out).mono ?_); rintro e w19 ⟨rfl, hb⟩; refine ⟨_, rfl, ?_⟩; have n0_ := bb_ (bu_ BK340) hb; have n1_ := Aside0.mk (blk_below (o := .cells #[.int .i64 2, .int .i64 0, .string a0] 44 (0, 0)) (bp_ BK341) hb); have n2_ := bs_ (be_ HB) hb; clear BK340; clear BK341; clear HB; have BK340 := n0_; have BK341 := n1_; have HB := n2_; clear n0_ n1_ n2_; (try clear hcz18_0 hcz18_1 hcz18_2 hfz18_0 hfz18_1 hfz18_2); (try clear hb); (try clear hb2); (try clear hk); (try clear hi); have hcz20_0 : w19.cell? ⟨gb341, 0, none⟩ = some (.int .i64 2) := (blk_cell BK341.out 0).trans rfl; have hcz20_1 : w19.cell? ⟨gb341, 1, none⟩ = some (.int .i64 0) := (blk_cell BK341.out 1).trans rfl; have hcz20_2 : w19.cell? ⟨gb341, 2, none⟩ = some (.string a0) := (blk_cell BK341.out 2).trans rfl; have hfz20_0 := blk_frozen BK341.out 0; have hfz20_1 := blk_frozen BK341.out 1; have hfz20_2 := blk_frozen BK341.out 2) | ((with_reducible refine gate_callee (f := 26) rfl ?_); refine goesL_ (some 43) rfl rfl Tryd.func26 (by kernel_rfl) rfl #[.agg #[.int .i64 3, .int .i64 0, .string t342]] rfl ga_ ?_; (with_reducible refine (val_Text.calls k 3 0 t342 t343 t344 _ A12.out (et_ HL_ (be_ HB))).mono ?_); rintro e w21 ⟨rfl, hb⟩; refine ⟨_, rfl, ?_⟩; have n0_ := bb_ (bu_ BK340) hb; have n1_ := Aside0.mk (blk_below (o := .cells #[.int .i64 3, .int .i64 0, .string t342] 44 (0, 0)) (bp_ BK341) hb); have n2_ := bs_ (be_ HB) hb; clear BK340; clear BK341; clear HB; have BK340 := n0_; have BK341 := n1_; have HB := n2_; clear n0_ n1_ n2_; (try clear hcz20_0 hcz20_1 hcz20_2 hfz20_0 hfz20_1 hfz20_2); (try clear hb); (try clear hb2); (try clear hk); (try clear hi); have hcz22_0 : w21.cell? ⟨gb341, 0, none⟩ = some (.int .i64 3) := (blk_cell BK341.out 0).trans rfl; have hcz22_1 : w21.cell? ⟨gb341, 1, none⟩ = some (.int .i64 0) := (blk_cell BK341.out 1).trans rfl; have hcz22_2 : w21.cell? ⟨gb341, 2, none⟩ = some (.string t342) := (blk_cell BK341.out 2).trans rfl; have hfz22_0 := blk_frozen BK341.out 0; have hfz22_1 := blk_frozen BK341.out 1; have hfz22_2 := blk_frozen BK341.out 2; have hcz23_0 : w21.cell? ⟨gb340, 0, none⟩ = some (.int .i64 0) := (blk_cell BK340.out 0).trans rfl; have hcz23_1 : w21.cell? ⟨gb340, 1, none⟩ = some (.int .i64 0) := (blk_cell BK340.out 1).trans rfl; have hcz23_2 : w21.cell? ⟨gb340, 2, none⟩ = some (.string (⟨#[]⟩ : ByteArray)) := (blk_cell BK340.out 2).trans rfl; have hfz23_0 := blk_frozen BK340.out 0; have hfz23_1 := blk_frozen BK340.out 1; have hfz23_2 := blk_frozen BK340.out 2))
            refine bodyPost_ret (results_ct rfl _ _ gb340 44 #[.int .i64 3, .int .i64 0, .string t342] (0, 0) _ rfl (bp_ BK340) Tryd.underlying44 rfl (by kernel_rfl)) rfl ?_
            exact ⟨by first | rfl | (simp [errW_none, errW_some] <;> rfl) | (simp [*, errW_none, errW_some] <;> rfl), by repeat (first | (with_reducible first | exact HB.out | apply below_alloc | apply pw_below_drewN | apply below_drew1 | refine below_set ?_ GE340.out | refine below_set ?_ GE341.out) | exact HB.out)⟩
          · rw [if_neg c14] at H
            obtain ⟨c14b0, c14b1⟩ := neB_ c14
            simp only [Option.some.injEq, Prod.mk.injEq] at H
            obtain ⟨rfl, rfl, rfl, rfl⟩ := H
            go_enter Tryd.func27, Tryd.ntmps27
            go_wp2_with (first | ((with_reducible refine gate_dst (N := 2) rfl ?_); refine box_event ?hg (N := 2) ?hd (cs := #[.int .i64 0, .int .i64 0, .string (⟨#[]⟩ : ByteArray)]) (t := 44) ?hr ?_; (case hd => rfl); (case hg => rfl); (case hr => first | (go_simp; done) | (go_simp; rfl)); intro gb340 hg w24 hbox hb; have n0_ := bs_ (be_ HB) hb; have n1_ := Aside0.mk (hbox); have n2_ := gs_ hg (be_ HB); have n3_ := gs_ hg (be_ HB); clear HB; have HB := n0_; have BK340 := n1_; have GW340 := n2_; have GE340 := n3_; clear n0_ n1_ n2_ n3_; clear hb hbox hg) | ((with_reducible refine gate_dst (N := 4) rfl ?_); refine box_event ?hg (N := 4) ?hd (cs := #[.int .i64 0, .int .i64 0, .string (⟨#[]⟩ : ByteArray)]) (t := 44) ?hr ?_; (case hd => rfl); (case hg => rfl); (case hr => first | (go_simp; done) | (go_simp; rfl)); intro gb341 hg w25 hbox hb; have n0_ := bb_ (bu_ BK340) hb; have n1_ := bs_ (be_ HB) hb; have n2_ := Aside0.mk (hbox); have n3_ := gs_ hg (be_ HB); have n4_ := gs_ hg (be_ HB); have n5_ := nl_ hg (bu_ BK340); have n6_ := ng_ hg (bu_ BK340); clear BK340; clear HB; have BK340 := n0_; have HB := n1_; have BK341 := n2_; have GW341 := n3_; have GE341 := n4_; have NB340_341 := n5_; have NB341_340 := n6_; clear n0_ n1_ n2_ n3_ n4_ n5_ n6_; clear hb hbox hg; have hnb26 := NB341_340.out; have hnc26 := NB340_341.out; have hcz27_0 : w25.cell? ⟨gb341, 0, none⟩ = some (.int .i64 0) := (blk_cell BK341.out 0).trans rfl; have hcz27_1 : w25.cell? ⟨gb341, 1, none⟩ = some (.int .i64 0) := (blk_cell BK341.out 1).trans rfl; have hcz27_2 : w25.cell? ⟨gb341, 2, none⟩ = some (.string (⟨#[]⟩ : ByteArray)) := (blk_cell BK341.out 2).trans rfl; have hfz27_0 := blk_frozen BK341.out 0; have hfz27_1 := blk_frozen BK341.out 1; have hfz27_2 := blk_frozen BK341.out 2; have p9 : 0 ≤ (0 : Int) := (by omega); have q9 : 0 < a0.size := (by have : (0 : Int) < (a0.size : Int) := dt_; omega); have hx9 : ∀ h : 0 < a0.size, ((a0[0]'h).toNat : Int) = bt a0 0 := bt_at a0 0; clear p9; have qi9 : (0 < (a0.size : Int)) = True := eq_true dt_; replace q9 := eq_true q9) | ((with_reducible refine gate_callee (f := 50) rfl ?_); refine goesL_ (some 20) rfl rfl Tryd.func50 (by kernel_rfl) rfl #[.string a0] rfl ga_ ?_; (with_reducible refine (val_bare.calls k a0 t342 _ A11.out).mono ?_); rintro e w28 ⟨rfl, hb⟩; refine ⟨_, rfl, ?_⟩; have n0_ := bb_ (bu_ BK340) hb; have n1_ := Aside0.mk (blk_below (o := .cells #[.int .i64 2, .int .i64 0, .string a0] 44 (0, 0)) (bp_ BK341) hb); have n2_ := bs_ (be_ HB) hb; clear BK340; clear BK341; clear HB; have BK340 := n0_; have BK341 := n1_; have HB := n2_; clear n0_ n1_ n2_; (try clear hcz27_0 hcz27_1 hcz27_2 hfz27_0 hfz27_1 hfz27_2); (try clear hb); (try clear hb2); (try clear hk); (try clear hi); have hcz29_0 : w28.cell? ⟨gb341, 0, none⟩ = some (.int .i64 2) := (blk_cell BK341.out 0).trans rfl; have hcz29_1 : w28.cell? ⟨gb341, 1, none⟩ = some (.int .i64 0) := (blk_cell BK341.out 1).trans rfl; have hcz29_2 : w28.cell? ⟨gb341, 2, none⟩ = some (.string a0) := (blk_cell BK341.out 2).trans rfl; have hfz29_0 := blk_frozen BK341.out 0; have hfz29_1 := blk_frozen BK341.out 1; have hfz29_2 := blk_frozen BK341.out 2) | ((with_reducible refine gate_callee (f := 26) rfl ?_); refine goesL_ (some 43) rfl rfl Tryd.func26 (by kernel_rfl) rfl #[.agg #[.int .i64 3, .int .i64 0, .string t342]] rfl ga_ ?_; (with_reducible refine (val_Text.calls k 3 0 t342 t343 t344 _ A12.out (et_ HL_ (be_ HB))).mono ?_); rintro e w30 ⟨rfl, hb⟩; refine ⟨_, rfl, ?_⟩; have n0_ := bb_ (bu_ BK340) hb; have n1_ := Aside0.mk (blk_below (o := .cells #[.int .i64 3, .int .i64 0, .string t342] 44 (0, 0)) (bp_ BK341) hb); have n2_ := bs_ (be_ HB) hb; clear BK340; clear BK341; clear HB; have BK340 := n0_; have BK341 := n1_; have HB := n2_; clear n0_ n1_ n2_; (try clear hcz29_0 hcz29_1 hcz29_2 hfz29_0 hfz29_1 hfz29_2); (try clear hb); (try clear hb2); (try clear hk); (try clear hi); have hcz31_0 : w30.cell? ⟨gb340, 0, none⟩ = some (.int .i64 0) := (blk_cell BK340.out 0).trans rfl; have hcz31_1 : w30.cell? ⟨gb340, 1, none⟩ = some (.int .i64 0) := (blk_cell BK340.out 1).trans rfl; have hcz31_2 : w30.cell? ⟨gb340, 2, none⟩ = some (.string (⟨#[]⟩ : ByteArray)) := (blk_cell BK340.out 2).trans rfl; have hfz31_0 := blk_frozen BK340.out 0; have hfz31_1 := blk_frozen BK340.out 1; have hfz31_2 := blk_frozen BK340.out 2))
            refine bodyPost_ret (results_ct rfl _ _ gb340 44 #[.int .i64 0, .int .i64 0, .string (⟨#[]⟩ : ByteArray)] (0, 0) _ rfl (bp_ BK340) Tryd.underlying44 rfl (by kernel_rfl)) rfl ?_
            exact ⟨by first | rfl | (simp [errW_none, errW_some] <;> rfl) | (simp [*, errW_none, errW_some] <;> rfl), by repeat (first | (with_reducible first | exact HB.out | apply below_alloc | apply pw_below_drewN | apply below_drew1 | refine below_set ?_ GE340.out | refine below_set ?_ GE341.out) | exact HB.out)⟩
        · rw [if_neg c13] at H
          obtain ⟨c13b0, c13b1⟩ := neB_ c13
          simp only [Option.some.injEq, Prod.mk.injEq] at H
          obtain ⟨rfl, rfl, rfl, rfl⟩ := H
          go_enter Tryd.func27, Tryd.ntmps27
          go_wp2_with (first | ((with_reducible refine gate_dst (N := 2) rfl ?_); refine box_event ?hg (N := 2) ?hd (cs := #[.int .i64 0, .int .i64 0, .string (⟨#[]⟩ : ByteArray)]) (t := 44) ?hr ?_; (case hd => rfl); (case hg => rfl); (case hr => first | (go_simp; done) | (go_simp; rfl)); intro gb340 hg w32 hbox hb; have n0_ := bs_ (be_ HB) hb; have n1_ := Aside0.mk (hbox); have n2_ := gs_ hg (be_ HB); have n3_ := gs_ hg (be_ HB); clear HB; have HB := n0_; have BK340 := n1_; have GW340 := n2_; have GE340 := n3_; clear n0_ n1_ n2_ n3_; clear hb hbox hg) | ((with_reducible refine gate_dst (N := 4) rfl ?_); refine box_event ?hg (N := 4) ?hd (cs := #[.int .i64 0, .int .i64 0, .string (⟨#[]⟩ : ByteArray)]) (t := 44) ?hr ?_; (case hd => rfl); (case hg => rfl); (case hr => first | (go_simp; done) | (go_simp; rfl)); intro gb341 hg w33 hbox hb; have n0_ := bb_ (bu_ BK340) hb; have n1_ := bs_ (be_ HB) hb; have n2_ := Aside0.mk (hbox); have n3_ := gs_ hg (be_ HB); have n4_ := gs_ hg (be_ HB); have n5_ := nl_ hg (bu_ BK340); have n6_ := ng_ hg (bu_ BK340); clear BK340; clear HB; have BK340 := n0_; have HB := n1_; have BK341 := n2_; have GW341 := n3_; have GE341 := n4_; have NB340_341 := n5_; have NB341_340 := n6_; clear n0_ n1_ n2_ n3_ n4_ n5_ n6_; clear hb hbox hg; have hnb34 := NB341_340.out; have hnc34 := NB340_341.out; have hcz35_0 : w33.cell? ⟨gb341, 0, none⟩ = some (.int .i64 0) := (blk_cell BK341.out 0).trans rfl; have hcz35_1 : w33.cell? ⟨gb341, 1, none⟩ = some (.int .i64 0) := (blk_cell BK341.out 1).trans rfl; have hcz35_2 : w33.cell? ⟨gb341, 2, none⟩ = some (.string (⟨#[]⟩ : ByteArray)) := (blk_cell BK341.out 2).trans rfl; have hfz35_0 := blk_frozen BK341.out 0; have hfz35_1 := blk_frozen BK341.out 1; have hfz35_2 := blk_frozen BK341.out 2; have p9 : 0 ≤ (0 : Int) := (by omega); have q9 : 0 < a0.size := (by have : (0 : Int) < (a0.size : Int) := dt_; omega); have hx9 : ∀ h : 0 < a0.size, ((a0[0]'h).toNat : Int) = bt a0 0 := bt_at a0 0; clear p9; have qi9 : (0 < (a0.size : Int)) = True := eq_true dt_; replace q9 := eq_true q9) | ((with_reducible refine gate_callee (f := 50) rfl ?_); refine goesL_ (some 20) rfl rfl Tryd.func50 (by kernel_rfl) rfl #[.string a0] rfl ga_ ?_; (with_reducible refine (val_bare.calls k a0 t342 _ A11.out).mono ?_); rintro e w36 ⟨rfl, hb⟩; refine ⟨_, rfl, ?_⟩; have n0_ := bb_ (bu_ BK340) hb; have n1_ := Aside0.mk (blk_below (o := .cells #[.int .i64 2, .int .i64 0, .string a0] 44 (0, 0)) (bp_ BK341) hb); have n2_ := bs_ (be_ HB) hb; clear BK340; clear BK341; clear HB; have BK340 := n0_; have BK341 := n1_; have HB := n2_; clear n0_ n1_ n2_; (try clear hcz35_0 hcz35_1 hcz35_2 hfz35_0 hfz35_1 hfz35_2); (try clear hb); (try clear hb2); (try clear hk); (try clear hi); have hcz37_0 : w36.cell? ⟨gb341, 0, none⟩ = some (.int .i64 2) := (blk_cell BK341.out 0).trans rfl; have hcz37_1 : w36.cell? ⟨gb341, 1, none⟩ = some (.int .i64 0) := (blk_cell BK341.out 1).trans rfl; have hcz37_2 : w36.cell? ⟨gb341, 2, none⟩ = some (.string a0) := (blk_cell BK341.out 2).trans rfl; have hfz37_0 := blk_frozen BK341.out 0; have hfz37_1 := blk_frozen BK341.out 1; have hfz37_2 := blk_frozen BK341.out 2) | ((with_reducible refine gate_callee (f := 26) rfl ?_); refine goesL_ (some 43) rfl rfl Tryd.func26 (by kernel_rfl) rfl #[.agg #[.int .i64 3, .int .i64 0, .string t342]] rfl ga_ ?_; (with_reducible refine (val_Text.calls k 3 0 t342 t343 t344 _ A12.out (et_ HL_ (be_ HB))).mono ?_); rintro e w38 ⟨rfl, hb⟩; refine ⟨_, rfl, ?_⟩; have n0_ := bb_ (bu_ BK340) hb; have n1_ := Aside0.mk (blk_below (o := .cells #[.int .i64 3, .int .i64 0, .string t342] 44 (0, 0)) (bp_ BK341) hb); have n2_ := bs_ (be_ HB) hb; clear BK340; clear BK341; clear HB; have BK340 := n0_; have BK341 := n1_; have HB := n2_; clear n0_ n1_ n2_; (try clear hcz37_0 hcz37_1 hcz37_2 hfz37_0 hfz37_1 hfz37_2); (try clear hb); (try clear hb2); (try clear hk); (try clear hi); have hcz39_0 : w38.cell? ⟨gb340, 0, none⟩ = some (.int .i64 0) := (blk_cell BK340.out 0).trans rfl; have hcz39_1 : w38.cell? ⟨gb340, 1, none⟩ = some (.int .i64 0) := (blk_cell BK340.out 1).trans rfl; have hcz39_2 : w38.cell? ⟨gb340, 2, none⟩ = some (.string (⟨#[]⟩ : ByteArray)) := (blk_cell BK340.out 2).trans rfl; have hfz39_0 := blk_frozen BK340.out 0; have hfz39_1 := blk_frozen BK340.out 1; have hfz39_2 := blk_frozen BK340.out 2))
          refine bodyPost_ret (results_ct rfl _ _ gb340 44 #[.int .i64 0, .int .i64 0, .string (⟨#[]⟩ : ByteArray)] (0, 0) _ rfl (bp_ BK340) Tryd.underlying44 rfl (by kernel_rfl)) rfl ?_
          exact ⟨by first | rfl | (simp [errW_none, errW_some] <;> rfl) | (simp [*, errW_none, errW_some] <;> rfl), by repeat (first | (with_reducible first | exact HB.out | apply below_alloc | apply pw_below_drewN | apply below_drew1 | refine below_set ?_ GE340.out | refine below_set ?_ GE341.out) | exact HB.out)⟩
      · rw [if_neg c10] at H
        obtain ⟨c10b0, c10b1⟩ := neB_ c10
        have HC40 := Aside0.mk H
        clear H
        go_enter Tryd.func27, Tryd.ntmps27
        go_upto_region 6 with (first | ((with_reducible refine gate_dst (N := 2) rfl ?_); refine box_event ?hg (N := 2) ?hd (cs := #[.int .i64 0, .int .i64 0, .string (⟨#[]⟩ : ByteArray)]) (t := 44) ?hr ?_; (case hd => rfl); (case hg => rfl); (case hr => first | (go_simp; done) | (go_simp; rfl)); intro gb340 hg w41 hbox hb; have n0_ := bs_ (be_ HB) hb; have n1_ := Aside0.mk (hbox); have n2_ := gs_ hg (be_ HB); have n3_ := gs_ hg (be_ HB); clear HB; have HB := n0_; have BK340 := n1_; have GW340 := n2_; have GE340 := n3_; clear n0_ n1_ n2_ n3_; clear hb hbox hg) | ((with_reducible refine gate_dst (N := 4) rfl ?_); refine box_event ?hg (N := 4) ?hd (cs := #[.int .i64 0, .int .i64 0, .string (⟨#[]⟩ : ByteArray)]) (t := 44) ?hr ?_; (case hd => rfl); (case hg => rfl); (case hr => first | (go_simp; done) | (go_simp; rfl)); intro gb341 hg w42 hbox hb; have n0_ := bb_ (bu_ BK340) hb; have n1_ := bs_ (be_ HB) hb; have n2_ := Aside0.mk (hbox); have n3_ := gs_ hg (be_ HB); have n4_ := gs_ hg (be_ HB); have n5_ := nl_ hg (bu_ BK340); have n6_ := ng_ hg (bu_ BK340); clear BK340; clear HB; have BK340 := n0_; have HB := n1_; have BK341 := n2_; have GW341 := n3_; have GE341 := n4_; have NB340_341 := n5_; have NB341_340 := n6_; clear n0_ n1_ n2_ n3_ n4_ n5_ n6_; clear hb hbox hg; have hnb43 := NB341_340.out; have hnc43 := NB340_341.out; have hcz44_0 : w42.cell? ⟨gb341, 0, none⟩ = some (.int .i64 0) := (blk_cell BK341.out 0).trans rfl; have hcz44_1 : w42.cell? ⟨gb341, 1, none⟩ = some (.int .i64 0) := (blk_cell BK341.out 1).trans rfl; have hcz44_2 : w42.cell? ⟨gb341, 2, none⟩ = some (.string (⟨#[]⟩ : ByteArray)) := (blk_cell BK341.out 2).trans rfl; have hfz44_0 := blk_frozen BK341.out 0; have hfz44_1 := blk_frozen BK341.out 1; have hfz44_2 := blk_frozen BK341.out 2; have p9 : 0 ≤ (0 : Int) := (by omega); have q9 : 0 < a0.size := (by have : (0 : Int) < (a0.size : Int) := dt_; omega); have hx9 : ∀ h : 0 < a0.size, ((a0[0]'h).toNat : Int) = bt a0 0 := bt_at a0 0; clear p9; have qi9 : (0 < (a0.size : Int)) = True := eq_true dt_; replace q9 := eq_true q9))
        (try simp only [Act.put, List.setIfInBounds_toArray, List.set_cons_zero, List.set_cons_succ])
        go_cut [22] (fun v22 wc => ∃ (kq : Nat) (x22_39 : Bool), v22 = .bool x22_39 ∧ Aside0 (val_Parse.j0 kq a0 x22_39 2 0 a0 = some (r1, r2, r3, r4)) ∧ Aside0 (kq ≤ k) ∧ Aside0 (wc.heap[gb340]? = some (.cells #[.int .i64 0, .int .i64 0, .string (⟨#[]⟩ : ByteArray)] 44 (0, 0))) ∧ Aside0 (wc.heap[gb341]? = some (.cells #[.int .i64 2, .int .i64 0, .string a0] 44 (0, 0))) ∧ Aside0 (Below w.heap.size w wc))
        case first =>
          have H := HC40.out
          clear HC40
          by_cases c46 : (bt a0 0) = 45
          · rw [if_pos c46] at H
            obtain ⟨c46b0, c46b1⟩ := eqB_ c46
            clear c46
            (first | rw [c46b0] | (simp only [i64_w, i32_w]; rw [c46b0]) | skip)
            have H' := Aside0.mk H
            clear H
            have p45 : 0 ≤ (0 : Int) := (by omega)
            have q45 : 0 < a0.size := (by have : (0 : Int) < (a0.size : Int) := dt_; omega)
            have hx45 : ∀ h : 0 < a0.size, ((a0[0]'h).toNat : Int) = bt a0 0 := bt_at a0 0
            clear p45
            have qi45 : (0 < (a0.size : Int)) = True := eq_true dt_
            replace q45 := eq_true q45
            go_wp2
            go_meet
            case rel => exact ⟨_, (true), ra_, H', ⟨by first | omega | exact Nat.le_refl _⟩, ⟨by (with_reducible repeat (first | refine blk_drewN ?_ _ | refine blk_drew ?_ | refine blk_alloc ?_ _)); refine blk_far ?_ NB340_341.out _; (with_reducible repeat (first | refine blk_drewN ?_ _ | refine blk_drew ?_ | refine blk_alloc ?_ _)); refine blk_far ?_ NB340_341.out _; (with_reducible repeat (first | refine blk_drewN ?_ _ | refine blk_drew ?_ | refine blk_alloc ?_ _)); refine blk_far ?_ NB340_341.out _; (with_reducible repeat (first | refine blk_drewN ?_ _ | refine blk_drew ?_ | refine blk_alloc ?_ _)); exact BK340.out⟩, ⟨by (with_reducible repeat (first | refine blk_drewN ?_ _ | refine blk_drew ?_ | refine blk_alloc ?_ _)); refine blk_put (cs := #[.int .i64 2, .int .i64 0, .string (⟨#[]⟩ : ByteArray)]) ?_ 2 _ rfl; (with_reducible repeat (first | refine blk_drewN ?_ _ | refine blk_drew ?_ | refine blk_alloc ?_ _)); refine blk_put (cs := #[.int .i64 2, .int .i64 0, .string (⟨#[]⟩ : ByteArray)]) ?_ 1 _ rfl; (with_reducible repeat (first | refine blk_drewN ?_ _ | refine blk_drew ?_ | refine blk_alloc ?_ _)); refine blk_put (cs := #[.int .i64 0, .int .i64 0, .string (⟨#[]⟩ : ByteArray)]) ?_ 0 _ rfl; (with_reducible repeat (first | refine blk_drewN ?_ _ | refine blk_drew ?_ | refine blk_alloc ?_ _)); exact BK341.out⟩, ⟨by repeat (first | (with_reducible first | exact HB.out | apply below_alloc | apply pw_below_drewN | apply below_drew1 | refine below_set ?_ GE340.out | refine below_set ?_ GE341.out) | exact HB.out)⟩⟩
          · rw [if_neg c46] at H
            obtain ⟨c46b0, c46b1⟩ := neB_ c46
            (first | rw [c46b0] | (simp only [i64_w, i32_w]; rw [c46b0]) | skip)
            replace H := Option.bind_eq_some_iff.mp H
            obtain ⟨t345, A480, H⟩ := H
            replace H : (val_Parse.j0 k a0 t345 2 0 a0) = some (r1, r2, r3, r4) := H
            have A48 := Aside0.mk A480
            clear A480
            have H' := Aside0.mk H
            clear H
            have p45 : 0 ≤ (0 : Int) := (by omega)
            have q45 : 0 < a0.size := (by have : (0 : Int) < (a0.size : Int) := dt_; omega)
            have hx45 : ∀ h : 0 < a0.size, ((a0[0]'h).toNat : Int) = bt a0 0 := bt_at a0 0
            clear p45
            have qi45 : (0 < (a0.size : Int)) = True := eq_true dt_
            replace q45 := eq_true q45
            have p47 : 0 ≤ (0 : Int) := (by omega)
            have q47 : 0 < a0.size := (by have : (0 : Int) < (a0.size : Int) := dt_; omega)
            have hx47 : ∀ h : 0 < a0.size, ((a0[0]'h).toNat : Int) = bt a0 0 := bt_at a0 0
            clear p47
            have qi47 : (0 < (a0.size : Int)) = True := eq_true dt_
            replace q47 := eq_true q47
            go_wp2_with (first | (go_at_call 51; (with_reducible refine (val_digit.calls (bt a0 0) t345 _ A48.out).mono ?_); rintro e w' ⟨rfl, ⟨nd, rfl⟩⟩))
            go_meet
            case rel => exact ⟨_, (t345), ra_, H', ⟨by first | omega | exact Nat.le_refl _⟩, ⟨by (with_reducible repeat (first | refine blk_drewN ?_ _ | refine blk_drew ?_ | refine blk_alloc ?_ _)); refine blk_far ?_ NB340_341.out _; (with_reducible repeat (first | refine blk_drewN ?_ _ | refine blk_drew ?_ | refine blk_alloc ?_ _)); refine blk_far ?_ NB340_341.out _; (with_reducible repeat (first | refine blk_drewN ?_ _ | refine blk_drew ?_ | refine blk_alloc ?_ _)); refine blk_far ?_ NB340_341.out _; (with_reducible repeat (first | refine blk_drewN ?_ _ | refine blk_drew ?_ | refine blk_alloc ?_ _)); exact BK340.out⟩, ⟨by (with_reducible repeat (first | refine blk_drewN ?_ _ | refine blk_drew ?_ | refine blk_alloc ?_ _)); refine blk_put (cs := #[.int .i64 2, .int .i64 0, .string (⟨#[]⟩ : ByteArray)]) ?_ 2 _ rfl; (with_reducible repeat (first | refine blk_drewN ?_ _ | refine blk_drew ?_ | refine blk_alloc ?_ _)); refine blk_put (cs := #[.int .i64 2, .int .i64 0, .string (⟨#[]⟩ : ByteArray)]) ?_ 1 _ rfl; (with_reducible repeat (first | refine blk_drewN ?_ _ | refine blk_drew ?_ | refine blk_alloc ?_ _)); refine blk_put (cs := #[.int .i64 0, .int .i64 0, .string (⟨#[]⟩ : ByteArray)]) ?_ 0 _ rfl; (with_reducible repeat (first | refine blk_drewN ?_ _ | refine blk_drew ?_ | refine blk_alloc ?_ _)); exact BK341.out⟩, ⟨by repeat (first | (with_reducible first | exact HB.out | apply below_alloc | apply pw_below_drewN | apply below_drew1 | refine below_set ?_ GE340.out | refine below_set ?_ GE341.out) | exact HB.out)⟩⟩
        case rest =>
          clear HC40
          try clear c1
          try clear c2
          try clear c2b0
          try clear c2b1
          try clear p2
          try clear c3
          try clear c4
          try clear p4
          try clear q4
          try clear hx4
          try clear qi4
          try clear c5
          try clear c8
          try clear c8b0
          try clear c8b1
          try clear p9
          try clear q9
          try clear hx9
          try clear qi9
          try clear c10
          try clear c10b0
          try clear c10b1
          try clear c13
          try clear c13b0
          try clear c13b1
          try clear c14
          try clear c14b0
          try clear c14b1
          try clear c17
          try clear c26
          try clear c27
          try clear c34
          try clear c43
          try clear p45
          try clear q45
          try clear hx45
          try clear qi45
          try clear c46
          try clear c46b0
          try clear c46b1
          try clear p47
          try clear q47
          try clear hx47
          try clear qi47
          try clear hcz18_0
          try clear hcz18_1
          try clear hcz18_2
          try clear hcz20_0
          try clear hcz20_1
          try clear hcz20_2
          try clear hcz22_0
          try clear hcz22_1
          try clear hcz22_2
          try clear hcz23_0
          try clear hcz23_1
          try clear hcz23_2
          try clear hcz27_0
          try clear hcz27_1
          try clear hcz27_2
          try clear hcz29_0
          try clear hcz29_1
          try clear hcz29_2
          try clear hcz31_0
          try clear hcz31_1
          try clear hcz31_2
          try clear hcz35_0
          try clear hcz35_1
          try clear hcz35_2
          try clear hcz37_0
          try clear hcz37_1
          try clear hcz37_2
          try clear hcz39_0
          try clear hcz39_1
          try clear hcz39_2
          try clear hcz44_0
          try clear hcz44_1
          try clear hcz44_2
          try clear hcz6_0
          try clear hcz6_1
          try clear hcz6_2
          try clear hcz7_0
          try clear hcz7_1
          try clear hcz7_2
          try clear hfz18_0
          try clear hfz18_1
          try clear hfz18_2
          try clear hfz20_0
          try clear hfz20_1
          try clear hfz20_2
          try clear hfz22_0
          try clear hfz22_1
          try clear hfz22_2
          try clear hfz23_0
          try clear hfz23_1
          try clear hfz23_2
          try clear hfz27_0
          try clear hfz27_1
          try clear hfz27_2
          try clear hfz29_0
          try clear hfz29_1
          try clear hfz29_2
          try clear hfz31_0
          try clear hfz31_1
          try clear hfz31_2
          try clear hfz35_0
          try clear hfz35_1
          try clear hfz35_2
          try clear hfz37_0
          try clear hfz37_1
          try clear hfz37_2
          try clear hfz39_0
          try clear hfz39_1
          try clear hfz39_2
          try clear hfz44_0
          try clear hfz44_1
          try clear hfz44_2
          try clear hfz6_0
          try clear hfz6_1
          try clear hfz6_2
          try clear hfz7_0
          try clear hfz7_1
          try clear hfz7_2
          try clear p45
          try clear p47
          try clear p9
          try clear q45
          try clear q47
          try clear q9
          obtain ⟨kq, x22_39, rfl, HA, HJ39, BK340, BK341, HB⟩ := hcut
          cases kq with
          | zero => exact absurd HA.out (by simp [val_Parse.j0])
          | succ kj39 =>
            have H := HA.out
            clear HA
            simp only [val_Parse.j0] at H
            by_cases c49 : x22_39 = true
            · subst c49
              have H1 : ((strconv_Atoi.f a0).bind fun bt346 => (if bt346.2.isNone = true then ((val_Text.f kj39 1 bt346.1 (⟨#[]⟩ : ByteArray)).bind fun bt349 => (if bt349.2 = 0 then (if bt349.1.toList = a0.toList then (some (1, bt346.1, (⟨#[]⟩ : ByteArray), 0)) else (some (0, 0, (⟨#[]⟩ : ByteArray), 7))) else (some (0, 0, (⟨#[]⟩ : ByteArray), 7)))) else (some (0, 0, (⟨#[]⟩ : ByteArray), 7)))) = some (r1, r2, r3, r4) := by rw [if_pos rfl] at H; exact H
              clear H
              have H := H1
              clear H1
              replace H := Option.bind_eq_some_iff.mp H
              obtain ⟨⟨t346, t347⟩, A500, H⟩ := H
              replace H : (if t347.isNone = true then ((val_Text.f kj39 1 t346 (⟨#[]⟩ : ByteArray)).bind fun bt349 => (if bt349.2 = 0 then (if bt349.1.toList = a0.toList then (some (1, t346, (⟨#[]⟩ : ByteArray), 0)) else (some (0, 0, (⟨#[]⟩ : ByteArray), 7))) else (some (0, 0, (⟨#[]⟩ : ByteArray), 7)))) else (some (0, 0, (⟨#[]⟩ : ByteArray), 7))) = some (r1, r2, r3, r4) := H
              have A50 := Aside0.mk A500
              clear A500
              rcases t347 with _ | q348
              · have H1 : ((val_Text.f kj39 1 t346 (⟨#[]⟩ : ByteArray)).bind fun bt349 => (if bt349.2 = 0 then (if bt349.1.toList = a0.toList then (some (1, t346, (⟨#[]⟩ : ByteArray), 0)) else (some (0, 0, (⟨#[]⟩ : ByteArray), 7))) else (some (0, 0, (⟨#[]⟩ : ByteArray), 7)))) = some (r1, r2, r3, r4) := by rw [if_pos (show (none : Option Int).isNone = true by rfl)] at H; exact H
                clear H
                have H := H1
                clear H1
                try simp only [errW_none, errW_some]
                replace H := Option.bind_eq_some_iff.mp H
                obtain ⟨⟨t349, t350⟩, A510, H⟩ := H
                replace H : (if t350 = 0 then (if t349.toList = a0.toList then (some (1, t346, (⟨#[]⟩ : ByteArray), 0)) else (some (0, 0, (⟨#[]⟩ : ByteArray), 7))) else (some (0, 0, (⟨#[]⟩ : ByteArray), 7))) = some (r1, r2, r3, r4) := H
                have A51 := Aside0.mk A510
                clear A510
                by_cases c52 : t350 = 0
                · rw [if_pos c52] at H
                  obtain ⟨c52b0, c52b1⟩ := eqB_ c52
                  clear c52
                  by_cases c53 : t349.toList = a0.toList
                  · rw [if_pos c53] at H
                    obtain ⟨c53b0, c53b1⟩ := eqB_ c53
                    clear c53
                    simp only [Option.some.injEq, Prod.mk.injEq] at H
                    obtain ⟨rfl, rfl, rfl, rfl⟩ := H
                    go_wp2_with (first | ((with_reducible refine gate_callee (f := 52) rfl ?_); refine goesL_ (some 33) rfl rfl Tryd.func52 (by kernel_rfl) rfl #[.string a0] rfl ga_ ?_; (with_reducible refine (strconv_Atoi.calls0 a0 t346 _ A50.out (ee_ HL_ (be_ HB))).mono ?_); rintro e w54 ⟨rfl, hb⟩; refine ⟨_, rfl, ?_⟩; have n0_ := bb_ (bu_ BK340) hb; have n1_ := bb_ (bu_ BK341) hb; have n2_ := bs_ (be_ HB) hb; clear BK340; clear BK341; clear HB; have BK340 := n0_; have BK341 := n1_; have HB := n2_; clear n0_ n1_ n2_; (try clear hb); (try clear hb2); (try clear hk); (try clear hi); (try simp only [errW_none, errW_some]); have hnb55 := NB341_340.out; have hnc55 := NB340_341.out; have hcz56_0 : w54.cell? ⟨gb341, 0, none⟩ = some (.int .i64 2) := (blk_cell BK341.out 0).trans rfl; have hcz56_1 : w54.cell? ⟨gb341, 1, none⟩ = some (.int .i64 0) := (blk_cell BK341.out 1).trans rfl; have hcz56_2 : w54.cell? ⟨gb341, 2, none⟩ = some (.string a0) := (blk_cell BK341.out 2).trans rfl; have hfz56_0 := blk_frozen BK341.out 0; have hfz56_1 := blk_frozen BK341.out 1; have hfz56_2 := blk_frozen BK341.out 2) | ((with_reducible refine gate_callee (f := 26) rfl ?_); refine goesL_ (some 43) rfl rfl Tryd.func26 (by kernel_rfl) rfl #[.agg #[.int .i64 1, .int .i64 t346, .string (⟨#[]⟩ : ByteArray)]] rfl ga_ ?_; (with_reducible refine (val_Text.calls kj39 1 t346 (⟨#[]⟩ : ByteArray) t349 t350 _ A51.out (et_ HL_ (be_ HB))).mono ?_); rintro e w57 ⟨rfl, hb⟩; refine ⟨_, rfl, ?_⟩; have n0_ := bb_ (bu_ BK340) hb; have n1_ := Aside0.mk (blk_below (o := .cells #[.int .i64 1, .int .i64 t346, .string (⟨#[]⟩ : ByteArray)] 44 (0, 0)) (bp_ BK341) hb); have n2_ := bs_ (be_ HB) hb; clear BK340; clear BK341; clear HB; have BK340 := n0_; have BK341 := n1_; have HB := n2_; clear n0_ n1_ n2_; (try clear hcz56_0 hcz56_1 hcz56_2 hfz56_0 hfz56_1 hfz56_2); (try clear hb); (try clear hb2); (try clear hk); (try clear hi); have hcz58_0 : w57.cell? ⟨gb341, 0, none⟩ = some (.int .i64 1) := (blk_cell BK341.out 0).trans rfl; have hcz58_1 : w57.cell? ⟨gb341, 1, none⟩ = some (.int .i64 t346) := (blk_cell BK341.out 1).trans rfl; have hcz58_2 : w57.cell? ⟨gb341, 2, none⟩ = some (.string (⟨#[]⟩ : ByteArray)) := (blk_cell BK341.out 2).trans rfl; have hfz58_0 := blk_frozen BK341.out 0; have hfz58_1 := blk_frozen BK341.out 1; have hfz58_2 := blk_frozen BK341.out 2; have hcz59_0 : w57.cell? ⟨gb340, 0, none⟩ = some (.int .i64 0) := (blk_cell BK340.out 0).trans rfl; have hcz59_1 : w57.cell? ⟨gb340, 1, none⟩ = some (.int .i64 0) := (blk_cell BK340.out 1).trans rfl; have hcz59_2 : w57.cell? ⟨gb340, 2, none⟩ = some (.string (⟨#[]⟩ : ByteArray)) := (blk_cell BK340.out 2).trans rfl; have hfz59_0 := blk_frozen BK340.out 0; have hfz59_1 := blk_frozen BK340.out 1; have hfz59_2 := blk_frozen BK340.out 2))
                    refine bodyPost_ret (results_ct rfl _ _ gb340 44 #[.int .i64 1, .int .i64 t346, .string (⟨#[]⟩ : ByteArray)] (0, 0) _ rfl (bp_ BK340) Tryd.underlying44 rfl (by kernel_rfl)) rfl ?_
                    exact ⟨by first | rfl | (simp [errW_none, errW_some] <;> rfl) | (simp [*, errW_none, errW_some] <;> rfl), by repeat (first | (with_reducible first | exact HB.out | apply below_alloc | apply pw_below_drewN | apply below_drew1 | refine below_set ?_ GE340.out | refine below_set ?_ GE341.out) | exact HB.out)⟩
                  · rw [if_neg c53] at H
                    obtain ⟨c53b0, c53b1⟩ := neB_ c53
                    simp only [Option.some.injEq, Prod.mk.injEq] at H
                    obtain ⟨rfl, rfl, rfl, rfl⟩ := H
                    go_wp2_with (first | ((with_reducible refine gate_callee (f := 52) rfl ?_); refine goesL_ (some 33) rfl rfl Tryd.func52 (by kernel_rfl) rfl #[.string a0] rfl ga_ ?_; (with_reducible refine (strconv_Atoi.calls0 a0 t346 _ A50.out (ee_ HL_ (be_ HB))).mono ?_); rintro e w60 ⟨rfl, hb⟩; refine ⟨_, rfl, ?_⟩; have n0_ := bb_ (bu_ BK340) hb; have n1_ := bb_ (bu_ BK341) hb; have n2_ := bs_ (be_ HB) hb; clear BK340; clear BK341; clear HB; have BK340 := n0_; have BK341 := n1_; have HB := n2_; clear n0_ n1_ n2_; (try clear hb); (try clear hb2); (try clear hk); (try clear hi); (try simp only [errW_none, errW_some]); have hnb61 := NB341_340.out; have hnc61 := NB340_341.out; have hcz62_0 : w60.cell? ⟨gb341, 0, none⟩ = some (.int .i64 2) := (blk_cell BK341.out 0).trans rfl; have hcz62_1 : w60.cell? ⟨gb341, 1, none⟩ = some (.int .i64 0) := (blk_cell BK341.out 1).trans rfl; have hcz62_2 : w60.cell? ⟨gb341, 2, none⟩ = some (.string a0) := (blk_cell BK341.out 2).trans rfl; have hfz62_0 := blk_frozen BK341.out 0; have hfz62_1 := blk_frozen BK341.out 1; have hfz62_2 := blk_frozen BK341.out 2) | ((with_reducible refine gate_callee (f := 26) rfl ?_); refine goesL_ (some 43) rfl rfl Tryd.func26 (by kernel_rfl) rfl #[.agg #[.int .i64 1, .int .i64 t346, .string (⟨#[]⟩ : ByteArray)]] rfl ga_ ?_; (with_reducible refine (val_Text.calls kj39 1 t346 (⟨#[]⟩ : ByteArray) t349 t350 _ A51.out (et_ HL_ (be_ HB))).mono ?_); rintro e w63 ⟨rfl, hb⟩; refine ⟨_, rfl, ?_⟩; have n0_ := bb_ (bu_ BK340) hb; have n1_ := Aside0.mk (blk_below (o := .cells #[.int .i64 1, .int .i64 t346, .string (⟨#[]⟩ : ByteArray)] 44 (0, 0)) (bp_ BK341) hb); have n2_ := bs_ (be_ HB) hb; clear BK340; clear BK341; clear HB; have BK340 := n0_; have BK341 := n1_; have HB := n2_; clear n0_ n1_ n2_; (try clear hcz62_0 hcz62_1 hcz62_2 hfz62_0 hfz62_1 hfz62_2); (try clear hb); (try clear hb2); (try clear hk); (try clear hi); have hcz64_0 : w63.cell? ⟨gb340, 0, none⟩ = some (.int .i64 0) := (blk_cell BK340.out 0).trans rfl; have hcz64_1 : w63.cell? ⟨gb340, 1, none⟩ = some (.int .i64 0) := (blk_cell BK340.out 1).trans rfl; have hcz64_2 : w63.cell? ⟨gb340, 2, none⟩ = some (.string (⟨#[]⟩ : ByteArray)) := (blk_cell BK340.out 2).trans rfl; have hfz64_0 := blk_frozen BK340.out 0; have hfz64_1 := blk_frozen BK340.out 1; have hfz64_2 := blk_frozen BK340.out 2))
                    refine bodyPost_ret (results_ct rfl _ _ gb340 44 #[.int .i64 0, .int .i64 0, .string (⟨#[]⟩ : ByteArray)] (0, 0) _ rfl (bp_ BK340) Tryd.underlying44 rfl (by kernel_rfl)) rfl ?_
                    exact ⟨by first | rfl | (simp [errW_none, errW_some] <;> rfl) | (simp [*, errW_none, errW_some] <;> rfl), by repeat (first | (with_reducible first | exact HB.out | apply below_alloc | apply pw_below_drewN | apply below_drew1 | refine below_set ?_ GE340.out | refine below_set ?_ GE341.out) | exact HB.out)⟩
                · rw [if_neg c52] at H
                  obtain ⟨c52b0, c52b1⟩ := neB_ c52
                  simp only [Option.some.injEq, Prod.mk.injEq] at H
                  obtain ⟨rfl, rfl, rfl, rfl⟩ := H
                  go_wp2_with (first | ((with_reducible refine gate_callee (f := 52) rfl ?_); refine goesL_ (some 33) rfl rfl Tryd.func52 (by kernel_rfl) rfl #[.string a0] rfl ga_ ?_; (with_reducible refine (strconv_Atoi.calls0 a0 t346 _ A50.out (ee_ HL_ (be_ HB))).mono ?_); rintro e w65 ⟨rfl, hb⟩; refine ⟨_, rfl, ?_⟩; have n0_ := bb_ (bu_ BK340) hb; have n1_ := bb_ (bu_ BK341) hb; have n2_ := bs_ (be_ HB) hb; clear BK340; clear BK341; clear HB; have BK340 := n0_; have BK341 := n1_; have HB := n2_; clear n0_ n1_ n2_; (try clear hb); (try clear hb2); (try clear hk); (try clear hi); (try simp only [errW_none, errW_some]); have hnb66 := NB341_340.out; have hnc66 := NB340_341.out; have hcz67_0 : w65.cell? ⟨gb341, 0, none⟩ = some (.int .i64 2) := (blk_cell BK341.out 0).trans rfl; have hcz67_1 : w65.cell? ⟨gb341, 1, none⟩ = some (.int .i64 0) := (blk_cell BK341.out 1).trans rfl; have hcz67_2 : w65.cell? ⟨gb341, 2, none⟩ = some (.string a0) := (blk_cell BK341.out 2).trans rfl; have hfz67_0 := blk_frozen BK341.out 0; have hfz67_1 := blk_frozen BK341.out 1; have hfz67_2 := blk_frozen BK341.out 2) | ((with_reducible refine gate_callee (f := 26) rfl ?_); refine goesL_ (some 43) rfl rfl Tryd.func26 (by kernel_rfl) rfl #[.agg #[.int .i64 1, .int .i64 t346, .string (⟨#[]⟩ : ByteArray)]] rfl ga_ ?_; (with_reducible refine (val_Text.calls kj39 1 t346 (⟨#[]⟩ : ByteArray) t349 t350 _ A51.out (et_ HL_ (be_ HB))).mono ?_); rintro e w68 ⟨rfl, hb⟩; refine ⟨_, rfl, ?_⟩; have n0_ := bb_ (bu_ BK340) hb; have n1_ := Aside0.mk (blk_below (o := .cells #[.int .i64 1, .int .i64 t346, .string (⟨#[]⟩ : ByteArray)] 44 (0, 0)) (bp_ BK341) hb); have n2_ := bs_ (be_ HB) hb; clear BK340; clear BK341; clear HB; have BK340 := n0_; have BK341 := n1_; have HB := n2_; clear n0_ n1_ n2_; (try clear hcz67_0 hcz67_1 hcz67_2 hfz67_0 hfz67_1 hfz67_2); (try clear hb); (try clear hb2); (try clear hk); (try clear hi); have hcz69_0 : w68.cell? ⟨gb340, 0, none⟩ = some (.int .i64 0) := (blk_cell BK340.out 0).trans rfl; have hcz69_1 : w68.cell? ⟨gb340, 1, none⟩ = some (.int .i64 0) := (blk_cell BK340.out 1).trans rfl; have hcz69_2 : w68.cell? ⟨gb340, 2, none⟩ = some (.string (⟨#[]⟩ : ByteArray)) := (blk_cell BK340.out 2).trans rfl; have hfz69_0 := blk_frozen BK340.out 0; have hfz69_1 := blk_frozen BK340.out 1; have hfz69_2 := blk_frozen BK340.out 2))
                  refine bodyPost_ret (results_ct rfl _ _ gb340 44 #[.int .i64 0, .int .i64 0, .string (⟨#[]⟩ : ByteArray)] (0, 0) _ rfl (bp_ BK340) Tryd.underlying44 rfl (by kernel_rfl)) rfl ?_
                  exact ⟨by first | rfl | (simp [errW_none, errW_some] <;> rfl) | (simp [*, errW_none, errW_some] <;> rfl), by repeat (first | (with_reducible first | exact HB.out | apply below_alloc | apply pw_below_drewN | apply below_drew1 | refine below_set ?_ GE340.out | refine below_set ?_ GE341.out) | exact HB.out)⟩
              · have H1 : (some (0, 0, (⟨#[]⟩ : ByteArray), 7)) = some (r1, r2, r3, r4) := by rw [if_neg (show ¬ (some q348).isNone = true by simp)] at H; exact H
                clear H
                have H := H1
                clear H1
                try simp only [errW_none, errW_some]
                simp only [Option.some.injEq, Prod.mk.injEq] at H
                obtain ⟨rfl, rfl, rfl, rfl⟩ := H
                go_wp2_with (first | ((with_reducible refine gate_callee (f := 52) rfl ?_); refine goesL_ (some 33) rfl rfl Tryd.func52 (by kernel_rfl) rfl #[.string a0] rfl ga_ ?_; (with_reducible refine (strconv_Atoi.calls1 a0 t346 q348 _ A50.out (ee_ HL_ (be_ HB))).mono ?_); rintro e w70 ⟨⟨N_, rfl⟩, hb⟩; refine ⟨_, rfl, ?_⟩; have n0_ := bb_ (bu_ BK340) hb; have n1_ := bb_ (bu_ BK341) hb; have n2_ := bs_ (be_ HB) hb; clear BK340; clear BK341; clear HB; have BK340 := n0_; have BK341 := n1_; have HB := n2_; clear n0_ n1_ n2_; (try clear hb); (try clear hb2); (try clear hk); (try clear hi); (try simp only [errW_none, errW_some]); have hnb71 := NB340_341.out; have hnc71 := NB341_340.out; have hcz72_0 : w70.cell? ⟨gb340, 0, none⟩ = some (.int .i64 0) := (blk_cell BK340.out 0).trans rfl; have hcz72_1 : w70.cell? ⟨gb340, 1, none⟩ = some (.int .i64 0) := (blk_cell BK340.out 1).trans rfl; have hcz72_2 : w70.cell? ⟨gb340, 2, none⟩ = some (.string (⟨#[]⟩ : ByteArray)) := (blk_cell BK340.out 2).trans rfl; have hfz72_0 := blk_frozen BK340.out 0; have hfz72_1 := blk_frozen BK340.out 1; have hfz72_2 := blk_frozen BK340.out 2))
                refine bodyPost_ret (results_ct rfl _ _ gb340 44 #[.int .i64 0, .int .i64 0, .string (⟨#[]⟩ : ByteArray)] (0, 0) _ rfl (bp_ BK340) Tryd.underlying44 rfl (by kernel_rfl)) rfl ?_
                exact ⟨by first | rfl | (simp [errW_none, errW_some] <;> rfl) | (simp [*, errW_none, errW_some] <;> rfl), by repeat (first | (with_reducible first | exact HB.out | apply below_alloc | apply pw_below_drewN | apply below_drew1 | refine below_set ?_ GE340.out | refine below_set ?_ GE341.out) | exact HB.out)⟩
            · replace c49 := Bool.eq_false_iff.mpr c49
              subst c49
              have H1 : ((val_Text.f kj39 2 0 a0).bind fun bt351 => (if bt351.2 = 0 then (if bt351.1.toList = a0.toList then (some (2, 0, a0, 0)) else (some (0, 0, (⟨#[]⟩ : ByteArray), 7))) else (some (0, 0, (⟨#[]⟩ : ByteArray), 7)))) = some (r1, r2, r3, r4) := by rw [if_neg (show ¬ (false = true) by decide)] at H; exact H
              clear H
              have H := H1
              clear H1
              replace H := Option.bind_eq_some_iff.mp H
              obtain ⟨⟨t351, t352⟩, A730, H⟩ := H
              replace H : (if t352 = 0 then (if t351.toList = a0.toList then (some (2, 0, a0, 0)) else (some (0, 0, (⟨#[]⟩ : ByteArray), 7))) else (some (0, 0, (⟨#[]⟩ : ByteArray), 7))) = some (r1, r2, r3, r4) := H
              have A73 := Aside0.mk A730
              clear A730
              by_cases c74 : t352 = 0
              · rw [if_pos c74] at H
                obtain ⟨c74b0, c74b1⟩ := eqB_ c74
                clear c74
                by_cases c75 : t351.toList = a0.toList
                · rw [if_pos c75] at H
                  obtain ⟨c75b0, c75b1⟩ := eqB_ c75
                  clear c75
                  simp only [Option.some.injEq, Prod.mk.injEq] at H
                  obtain ⟨rfl, rfl, rfl, rfl⟩ := H
                  have hnb76 := NB341_340.out
                  have hnc76 := NB340_341.out
                  have hcz77_0 : wc.cell? ⟨gb341, 0, none⟩ = some (.int .i64 2) := (blk_cell BK341.out 0).trans rfl
                  have hcz77_1 : wc.cell? ⟨gb341, 1, none⟩ = some (.int .i64 0) := (blk_cell BK341.out 1).trans rfl
                  have hcz77_2 : wc.cell? ⟨gb341, 2, none⟩ = some (.string a0) := (blk_cell BK341.out 2).trans rfl
                  have hfz77_0 := blk_frozen BK341.out 0
                  have hfz77_1 := blk_frozen BK341.out 1
                  have hfz77_2 := blk_frozen BK341.out 2
                  go_wp2_with (first | ((with_reducible refine gate_callee (f := 26) rfl ?_); refine goesL_ (some 43) rfl rfl Tryd.func26 (by kernel_rfl) rfl #[.agg #[.int .i64 2, .int .i64 0, .string a0]] rfl ga_ ?_; (with_reducible refine (val_Text.calls kj39 2 0 a0 t351 t352 _ A73.out (et_ HL_ (be_ HB))).mono ?_); rintro e w78 ⟨rfl, hb⟩; refine ⟨_, rfl, ?_⟩; have n0_ := bb_ (bu_ BK340) hb; have n1_ := bb_ (bu_ BK341) hb; have n2_ := bs_ (be_ HB) hb; clear BK340; clear BK341; clear HB; have BK340 := n0_; have BK341 := n1_; have HB := n2_; clear n0_ n1_ n2_; (try clear hb); (try clear hb2); (try clear hk); (try clear hi); have hcz79_0 : w78.cell? ⟨gb341, 0, none⟩ = some (.int .i64 2) := (blk_cell BK341.out 0).trans rfl; have hcz79_1 : w78.cell? ⟨gb341, 1, none⟩ = some (.int .i64 0) := (blk_cell BK341.out 1).trans rfl; have hcz79_2 : w78.cell? ⟨gb341, 2, none⟩ = some (.string a0) := (blk_cell BK341.out 2).trans rfl; have hfz79_0 := blk_frozen BK341.out 0; have hfz79_1 := blk_frozen BK341.out 1; have hfz79_2 := blk_frozen BK341.out 2; have hcz80_0 : w78.cell? ⟨gb340, 0, none⟩ = some (.int .i64 0) := (blk_cell BK340.out 0).trans rfl; have hcz80_1 : w78.cell? ⟨gb340, 1, none⟩ = some (.int .i64 0) := (blk_cell BK340.out 1).trans rfl; have hcz80_2 : w78.cell? ⟨gb340, 2, none⟩ = some (.string (⟨#[]⟩ : ByteArray)) := (blk_cell BK340.out 2).trans rfl; have hfz80_0 := blk_frozen BK340.out 0; have hfz80_1 := blk_frozen BK340.out 1; have hfz80_2 := blk_frozen BK340.out 2))
                  refine bodyPost_ret (results_ct rfl _ _ gb340 44 #[.int .i64 2, .int .i64 0, .string a0] (0, 0) _ rfl (bp_ BK340) Tryd.underlying44 rfl (by kernel_rfl)) rfl ?_
                  exact ⟨by first | rfl | (simp [errW_none, errW_some] <;> rfl) | (simp [*, errW_none, errW_some] <;> rfl), by repeat (first | (with_reducible first | exact HB.out | apply below_alloc | apply pw_below_drewN | apply below_drew1 | refine below_set ?_ GE340.out | refine below_set ?_ GE341.out) | exact HB.out)⟩
                · rw [if_neg c75] at H
                  obtain ⟨c75b0, c75b1⟩ := neB_ c75
                  simp only [Option.some.injEq, Prod.mk.injEq] at H
                  obtain ⟨rfl, rfl, rfl, rfl⟩ := H
                  have hnb81 := NB341_340.out
                  have hnc81 := NB340_341.out
                  have hcz82_0 : wc.cell? ⟨gb341, 0, none⟩ = some (.int .i64 2) := (blk_cell BK341.out 0).trans rfl
                  have hcz82_1 : wc.cell? ⟨gb341, 1, none⟩ = some (.int .i64 0) := (blk_cell BK341.out 1).trans rfl
                  have hcz82_2 : wc.cell? ⟨gb341, 2, none⟩ = some (.string a0) := (blk_cell BK341.out 2).trans rfl
                  have hfz82_0 := blk_frozen BK341.out 0
                  have hfz82_1 := blk_frozen BK341.out 1
                  have hfz82_2 := blk_frozen BK341.out 2
                  go_wp2_with (first | ((with_reducible refine gate_callee (f := 26) rfl ?_); refine goesL_ (some 43) rfl rfl Tryd.func26 (by kernel_rfl) rfl #[.agg #[.int .i64 2, .int .i64 0, .string a0]] rfl ga_ ?_; (with_reducible refine (val_Text.calls kj39 2 0 a0 t351 t352 _ A73.out (et_ HL_ (be_ HB))).mono ?_); rintro e w83 ⟨rfl, hb⟩; refine ⟨_, rfl, ?_⟩; have n0_ := bb_ (bu_ BK340) hb; have n1_ := bb_ (bu_ BK341) hb; have n2_ := bs_ (be_ HB) hb; clear BK340; clear BK341; clear HB; have BK340 := n0_; have BK341 := n1_; have HB := n2_; clear n0_ n1_ n2_; (try clear hb); (try clear hb2); (try clear hk); (try clear hi); have hcz84_0 : w83.cell? ⟨gb340, 0, none⟩ = some (.int .i64 0) := (blk_cell BK340.out 0).trans rfl; have hcz84_1 : w83.cell? ⟨gb340, 1, none⟩ = some (.int .i64 0) := (blk_cell BK340.out 1).trans rfl; have hcz84_2 : w83.cell? ⟨gb340, 2, none⟩ = some (.string (⟨#[]⟩ : ByteArray)) := (blk_cell BK340.out 2).trans rfl; have hfz84_0 := blk_frozen BK340.out 0; have hfz84_1 := blk_frozen BK340.out 1; have hfz84_2 := blk_frozen BK340.out 2))
                  refine bodyPost_ret (results_ct rfl _ _ gb340 44 #[.int .i64 0, .int .i64 0, .string (⟨#[]⟩ : ByteArray)] (0, 0) _ rfl (bp_ BK340) Tryd.underlying44 rfl (by kernel_rfl)) rfl ?_
                  exact ⟨by first | rfl | (simp [errW_none, errW_some] <;> rfl) | (simp [*, errW_none, errW_some] <;> rfl), by repeat (first | (with_reducible first | exact HB.out | apply below_alloc | apply pw_below_drewN | apply below_drew1 | refine below_set ?_ GE340.out | refine below_set ?_ GE341.out) | exact HB.out)⟩
              · rw [if_neg c74] at H
                obtain ⟨c74b0, c74b1⟩ := neB_ c74
                simp only [Option.some.injEq, Prod.mk.injEq] at H
                obtain ⟨rfl, rfl, rfl, rfl⟩ := H
                have hnb85 := NB341_340.out
                have hnc85 := NB340_341.out
                have hcz86_0 : wc.cell? ⟨gb341, 0, none⟩ = some (.int .i64 2) := (blk_cell BK341.out 0).trans rfl
                have hcz86_1 : wc.cell? ⟨gb341, 1, none⟩ = some (.int .i64 0) := (blk_cell BK341.out 1).trans rfl
                have hcz86_2 : wc.cell? ⟨gb341, 2, none⟩ = some (.string a0) := (blk_cell BK341.out 2).trans rfl
                have hfz86_0 := blk_frozen BK341.out 0
                have hfz86_1 := blk_frozen BK341.out 1
                have hfz86_2 := blk_frozen BK341.out 2
                go_wp2_with (first | ((with_reducible refine gate_callee (f := 26) rfl ?_); refine goesL_ (some 43) rfl rfl Tryd.func26 (by kernel_rfl) rfl #[.agg #[.int .i64 2, .int .i64 0, .string a0]] rfl ga_ ?_; (with_reducible refine (val_Text.calls kj39 2 0 a0 t351 t352 _ A73.out (et_ HL_ (be_ HB))).mono ?_); rintro e w87 ⟨rfl, hb⟩; refine ⟨_, rfl, ?_⟩; have n0_ := bb_ (bu_ BK340) hb; have n1_ := bb_ (bu_ BK341) hb; have n2_ := bs_ (be_ HB) hb; clear BK340; clear BK341; clear HB; have BK340 := n0_; have BK341 := n1_; have HB := n2_; clear n0_ n1_ n2_; (try clear hb); (try clear hb2); (try clear hk); (try clear hi); have hcz88_0 : w87.cell? ⟨gb340, 0, none⟩ = some (.int .i64 0) := (blk_cell BK340.out 0).trans rfl; have hcz88_1 : w87.cell? ⟨gb340, 1, none⟩ = some (.int .i64 0) := (blk_cell BK340.out 1).trans rfl; have hcz88_2 : w87.cell? ⟨gb340, 2, none⟩ = some (.string (⟨#[]⟩ : ByteArray)) := (blk_cell BK340.out 2).trans rfl; have hfz88_0 := blk_frozen BK340.out 0; have hfz88_1 := blk_frozen BK340.out 1; have hfz88_2 := blk_frozen BK340.out 2))
                refine bodyPost_ret (results_ct rfl _ _ gb340 44 #[.int .i64 0, .int .i64 0, .string (⟨#[]⟩ : ByteArray)] (0, 0) _ rfl (bp_ BK340) Tryd.underlying44 rfl (by kernel_rfl)) rfl ?_
                exact ⟨by first | rfl | (simp [errW_none, errW_some] <;> rfl) | (simp [*, errW_none, errW_some] <;> rfl), by repeat (first | (with_reducible first | exact HB.out | apply below_alloc | apply pw_below_drewN | apply below_drew1 | refine below_set ?_ GE340.out | refine below_set ?_ GE341.out) | exact HB.out)⟩
    · rw [if_neg c8] at H
      exact absurd H (by simp)
end Go.Proofs.YtaopajmpifenoaaDoor.P
end
section
namespace Go.Proofs.YtaopajmpifenoaaDoor.P
open Go.RowKit Go.Proofs.YtaopajmpifenoaaDoorW.PrintWords Go.Proofs.YtaopajmpifenoaaDoorW.PrintLast Go.Proofs.YtaopajmpifenoaaDoorW.PrintMore
theorem evPos {α : Type} {c : Prop} [Decidable c] {f g : Nat → Option α} {r : α} (h : c) (k : Ev f r) : Ev (fun n => if c then f n else g n) r := Ev.congr (fun _ => if_pos h) k
theorem evNeg {α : Type} {c : Prop} [Decidable c] {f g : Nat → Option α} {r : α} (h : ¬ c) (k : Ev g r) : Ev (fun n => if c then f n else g n) r := Ev.congr (fun _ => if_neg h) k
theorem evSome {α : Type} {a r : α} (h : a = r) : Ev (fun _ => some a) r := ⟨0, fun _ _ => by rw [h]⟩
theorem evShift {α : Type} {g : Nat → Option α} {r : α} (k : Ev (fun n => g (n + 1)) r) : Ev g r := Ev.step (fun _ => rfl) k
theorem evBind0 {α β : Type} {g : Option α} {f : Nat → α → Option β} {a : α} {r : β} (h : g = some a) (k : Ev (fun n => f n a) r) : Ev (fun n => g.bind (f n)) r := by subst h; exact k
theorem evCond {α : Type} {b : Bool} {f g : Nat → Option α} {r : α} (h1 : b = true → Ev f r) (h2 : b = false → Ev g r) : Ev (fun n => if b = true then f n else g n) r := by
  cases b with
  | true => exact evPos rfl (h1 rfl)
  | false => exact evNeg (by decide) (h2 rfl)
theorem evIf {α : Type} {c : Prop} [Decidable c] {f g : Nat → Option α} {r : α} (h1 : c → Ev f r) (h2 : ¬ c → Ev g r) : Ev (fun n => if c then f n else g n) r := by
  by_cases h : c
  · exact evPos h (h1 h)
  · exact evNeg h (h2 h)
end Go.Proofs.YtaopajmpifenoaaDoor.P
end
section
namespace Go.Proofs.YtaopajmpifenoaaDoor.P
open Go.RowKit Go.Proofs.YtaopajmpifenoaaDoorW.PrintWords Go.Proofs.YtaopajmpifenoaaDoorW.PrintLast Go.Proofs.YtaopajmpifenoaaDoorW.PrintMore
theorem len_codes (s : ByteArray) : (bytesOf s).length = s.size := by simp [bytesOf]
theorem bt_codes (s : ByteArray) (i : Int) : bt s i = rd (bytesOf s) i := (rd_bytesOf s i).symm
theorem codes_inj {s t : ByteArray} (h : bytesOf s = bytesOf t) : s = t := by
  have h2 : s.data.toList = t.data.toList := by
    unfold bytesOf at h
    have inj : ∀ (a b : List UInt8), a.map (fun b => ((b.toNat : Nat) : Int)) = b.map (fun b => ((b.toNat : Nat) : Int)) → a = b := by
      intro a
      induction a with
      | nil => intro b hb; cases b with
        | nil => rfl
        | cons y b => simp at hb
      | cons x a ih => intro b hb; cases b with
        | nil => simp at hb
        | cons y b =>
          simp only [List.map_cons, List.cons.injEq] at hb
          have e : x = y := UInt8.toNat_inj.1 (by omega)
          rw [e, ih b hb.2]
    exact inj _ _ h
  cases s with | mk a => cases t with | mk b => cases a; cases b; simp at h2; rw [h2]
theorem tl_data (s : ByteArray) : s.toList = s.data.toList := Lib.toList_data s
theorem tl_inj {s t : ByteArray} : s.toList = t.toList ↔ s = t := by
  constructor
  · intro h
    rw [tl_data, tl_data] at h
    exact codes_inj (by unfold bytesOf; rw [h])
  · intro h; rw [h]
theorem tl_beq (s t : ByteArray) : (s.toList == t.toList) = decide (s = t) := by
  rw [Bool.eq_iff_iff, beq_iff_eq, decide_eq_true_eq, tl_inj]
theorem tl_nil {s : ByteArray} : s.toList = [] ↔ s = ⟨#[]⟩ := by
  rw [← tl_inj]
  have : (⟨#[]⟩ : ByteArray).toList = [] := by rw [tl_data]
  rw [this]
theorem tl_beq_nil (s : ByteArray) : (s.toList == ([] : List UInt8)) = decide (s = ⟨#[]⟩) := by
  rw [Bool.eq_iff_iff, beq_iff_eq, decide_eq_true_eq, tl_nil]
theorem size_zero {s : ByteArray} : s.size = 0 ↔ s = ⟨#[]⟩ := by
  constructor
  · intro h
    apply codes_inj
    have : (bytesOf s).length = 0 := by rw [len_codes]; exact h
    rw [List.eq_nil_of_length_eq_zero this]; rfl
  · intro h; rw [h]; rfl
theorem rd_mid {p : List Int} {x : Int} {l : List Int} : rd (p ++ x :: l) p.length = x := by simp [rd, List.getD_eq_getElem?_getD]
theorem codes_split (s : ByteArray) (i : Nat) (h : i < s.size) : ∃ x, (bytesOf s).drop i = x :: (bytesOf s).drop (i + 1) ∧ bt s i = x := by
  have hl : i < (bytesOf s).length := by rw [len_codes]; exact h
  refine ⟨(bytesOf s)[i], ?_, ?_⟩
  · exact List.drop_eq_getElem_cons hl
  · rw [bt_codes]
    simp [rd, List.getD_eq_getElem?_getD, hl]
theorem back_ind {ρ : Type} (n : Nat) (l : Nat → Int → Option ρ) (spec : Nat → ρ) (hend : Ev (fun k => l k n) (spec n))
    (hstep : ∀ i : Nat, i < n → Ev (fun k => l k ((i + 1 : Nat) : Int)) (spec (i + 1)) → Ev (fun k => l k i) (spec i)) : ∀ i : Nat, i ≤ n → Ev (fun k => l k i) (spec i) := by
  intro i hi
  obtain ⟨d, rfl⟩ : ∃ d, n = i + d := ⟨n - i, by omega⟩
  induction d generalizing i with
  | zero => exact hend
  | succ d ih =>
    refine hstep i (by omega) ?_
    have := ih (i + 1) (by rw [show i + 1 + d = i + (d + 1) by omega]; exact hend) (fun j hj => hstep j (by omega)) (by omega)
    exact this
theorem wrap_succ {i n : Nat} (h : i < n) (hn : n ≤ 9223372036854775807) : wrap64 ((i : Int) + 1) = ((i + 1 : Nat) : Int) := by unfold wrap64; omega
theorem rdOf_nth {α : Type} (d : α) (l : List α) (i : Nat) (h : i < l.length) : rdOf d l i = l[i] := by simp [rdOf, List.getD_eq_getElem?_getD, h]
end Go.Proofs.YtaopajmpifenoaaDoor.P
end
section
namespace Go.Proofs.YtaopajmpifenoaaDoor.P
open Go.RowKit Go.Proofs.YtaopajmpifenoaaDoorW.PrintWords Go.Proofs.YtaopajmpifenoaaDoorW.PrintLast Go.Proofs.YtaopajmpifenoaaDoorW.PrintMore
def InB (a : Int) : Prop := -4611686018427387904 ≤ a ∧ a ≤ 4611686018427387904
instance (a : Int) : Decidable (InB a) := inferInstanceAs (Decidable (_ ∧ _))
def doS (kind a b : Int) : Int × Int :=
  if kind = 3 ∨ kind = 4 ∨ kind = 5 then
    if InB a ∧ InB b then
      if InB (if kind = 3 then a + b else if kind = 4 then a - b else a * b) then (if kind = 3 then a + b else if kind = 4 then a - b else a * b, 0) else (0, 4)
    else (0, 4)
  else (0, 3)
theorem InB_iff (a : Int) : InB a ↔ -4611686018427387904 ≤ a ∧ a ≤ 4611686018427387904 := Iff.rfl
theorem and_low {a : Int} (h0 : 0 ≤ a) (h1 : a < 18446744073709551616) : Go.bits .and .u64 a 4294967295 = a % 4294967296 :=
  bits_mask .u64 64 (by decide) (fun n h0 h1 => by rw [IntKind.wrap_u64]; omega) 32 (by decide) a h0 h1
theorem mul_parts (a b : Int) : a * b = (a / 4294967296) * (b / 4294967296) * 18446744073709551616 + ((a / 4294967296) * (b % 4294967296) + (a % 4294967296) * (b / 4294967296)) * 4294967296 + (a % 4294967296) * (b % 4294967296) := by
  have ha : a = 4294967296 * (a / 4294967296) + a % 4294967296 := by omega
  have hb : b = 4294967296 * (b / 4294967296) + b % 4294967296 := by omega
  generalize a / 4294967296 = x at *
  generalize a % 4294967296 = y at *
  generalize b / 4294967296 = z at *
  generalize b % 4294967296 = t at *
  subst ha hb
  grind
theorem mul_le2 {a b m n : Int} (h0 : 0 ≤ a) (h1 : a ≤ m) (h2 : 0 ≤ b) (h3 : b ≤ n) : 0 ≤ a * b ∧ a * b ≤ m * n :=
  ⟨Int.mul_nonneg h0 h2, Int.mul_le_mul h1 h3 h2 (by omega)⟩
theorem abs_mul (a b : Int) : (if a < 0 then -a else a) * (if b < 0 then -b else b) = if (decide (a < 0) != decide (b < 0)) = true then -(a * b) else a * b := by
  by_cases h1 : a < 0 <;> by_cases h2 : b < 0 <;> simp [h1, h2, Int.neg_mul, Int.mul_neg]
def sumS (acc : Int) : List Int → Int × Int
  | [] => (acc, 0)
  | x :: l => if (doS 3 acc x).2 = 0 then sumS (doS 3 acc x).1 l else (0, (doS 3 acc x).2)
theorem rd_at (p : List Int) (x : Int) (l : List Int) : rd (p ++ x :: l) p.length = x := by
  simp [rd, List.getD_eq_getElem?_getD]
theorem wrap_len (p : List Int) (h : p.length ≤ 140737488351232) : wrap64 ((p.length : Int) + 1) = (p.length : Int) + 1 := by unfold wrap64; omega
end Go.Proofs.YtaopajmpifenoaaDoor.P
end
section
namespace Go.Proofs.YtaopajmpifenoaaDoor.P
open Go.RowKit Go.Proofs.YtaopajmpifenoaaDoorW.PrintWords Go.Proofs.YtaopajmpifenoaaDoorW.PrintLast Go.Proofs.YtaopajmpifenoaaDoorW.PrintMore
def smallI (c : Int) : Bool := decide (97 ≤ c ∧ c ≤ 122)
def largeI (c : Int) : Bool := decide (65 ≤ c ∧ c ≤ 90)
def digitI (c : Int) : Bool := decide (48 ≤ c ∧ c ≤ 57)
def innerI (c : Int) : Bool := smallI c || largeI c || digitI c || c == 95
def plainI (c : Int) : Bool := decide (32 ≤ c ∧ c ≤ 126)
def wordS (large : Bool) (s : ByteArray) : Bool :=
  decide (1 ≤ s.size ∧ s.size ≤ 24) && (if large then largeI (bt s 0) else smallI (bt s 0)) && (bytesOf s).all innerI
def valS (kind n : Int) (s : ByteArray) : Bool :=
  if kind = 1 then decide (InB n) && decide (s = ⟨#[]⟩)
  else if kind = 2 then decide (n = 0) && wordS false s
  else if kind = 3 then decide (n = 0) && (bytesOf s).all plainI && decide (s.size ≤ 60)
  else false
theorem val_small_eq (c : Int) : val_small.f c = some (smallI c) := by
  unfold val_small.f smallI
  split
  · congr 1; rw [decide_eq_decide]; omega
  · congr 1; symm; rw [decide_eq_false_iff_not]; omega
theorem val_large_eq (c : Int) : val_large.f c = some (largeI c) := by
  unfold val_large.f largeI
  split
  · congr 1; rw [decide_eq_decide]; omega
  · congr 1; symm; rw [decide_eq_false_iff_not]; omega
theorem val_digit_eq (c : Int) : val_digit.f c = some (digitI c) := by
  unfold val_digit.f digitI
  split
  · congr 1; rw [decide_eq_decide]; omega
  · congr 1; symm; rw [decide_eq_false_iff_not]; omega
theorem all_drop {P : Int → Bool} {s : ByteArray} {i : Nat} (h : i < s.size) : ((bytesOf s).drop i).all P = (P (bt s i) && ((bytesOf s).drop (i + 1)).all P) := by
  obtain ⟨x, h1, h2⟩ := codes_split s i h
  rw [h1, h2]; rfl
theorem drop_end (s : ByteArray) : (bytesOf s).drop s.size = [] := by rw [← len_codes s]; exact List.drop_length
theorem val_symbol_l0 (s : ByteArray) (hs : s.size ≤ maxLen) : ∀ i : Nat, i ≤ s.size → Ev (fun k => val_symbol.l0 k s s.size i) (((bytesOf s).drop i).all innerI) := by
  unfold maxLen at hs
  refine back_ind s.size (fun k i => val_symbol.l0 k s s.size i) _ ?_ ?_
  · refine evShift ?_
    simp only [val_symbol.l0]
    refine evNeg (by omega) (evSome (by rw [drop_end]; rfl))
  · intro i hi ih
    refine evShift ?_
    simp only [val_symbol.l0, val_small_eq, val_large_eq, val_digit_eq, Option.bind_some]
    refine evPos (by omega) (evPos (by omega) (evPos (by omega) ?_))
    rw [all_drop hi, wrap_succ hi (by omega)]
    have e : innerI (bt s i) = (smallI (bt s i) || largeI (bt s i) || digitI (bt s i) || bt s i == 95) := rfl
    by_cases h1 : smallI (bt s i) = true
    · rw [e, h1]; simpa using ih
    · by_cases h2 : largeI (bt s i) = true
      · rw [e, h2]; simpa [h1] using ih
      · by_cases h3 : digitI (bt s i) = true
        · rw [e, h3]; simpa [h1, h2] using ih
        · by_cases h4 : bt s i = 95
          · rw [e]; simpa [h1, h2, h3, h4] using ih
          · rw [e]; simp [h1, h2, h3, h4]; exact evSome (by simp [h4])
theorem val_symbol_ev (s : ByteArray) (hs : s.size ≤ maxLen) : Ev (fun k => val_symbol.f k s) (wordS false s) := by
  have hl := val_symbol_l0 s hs 0 (by omega)
  simp only [List.drop_zero, Int.natCast_zero] at hl
  have hj : Ev (fun k => val_symbol.j0 k s true) false := by
    refine evShift ?_
    simp only [val_symbol.j0, if_true]
    exact evSome rfl
  unfold val_symbol.f wordS
  by_cases h1 : (s.size : Int) < 1
  · refine evPos h1 ?_
    have hd : decide (1 ≤ s.size ∧ s.size ≤ 24) = false := decide_eq_false (by omega)
    rw [hd]; exact hj
  · refine evNeg h1 ?_
    by_cases h2 : (s.size : Int) > 24
    · refine evPos h2 ?_
      have hd : decide (1 ≤ s.size ∧ s.size ≤ 24) = false := decide_eq_false (by omega)
      rw [hd]; exact hj
    · refine evNeg h2 (evPos (by omega) ?_)
      have hd : decide (1 ≤ s.size ∧ s.size ≤ 24) = true := decide_eq_true (by omega)
      rw [hd]
      simp only [val_small_eq, Option.bind_some, Bool.true_and]
      by_cases h3 : smallI (bt s 0) = true
      · simp only [h3, Bool.not_true]
        refine evShift ?_
        simp only [val_symbol.j0, Bool.false_eq_true, if_false]
        exact hl
      · replace h3 := Bool.eq_false_iff.mpr h3
        simp only [h3, Bool.not_false]
        exact hj
theorem val_plain_ev (s : ByteArray) (hs : s.size ≤ maxLen) : Ev (fun k => val_plain.f k s) ((bytesOf s).all plainI && decide (s.size ≤ 60)) := by
  have h : ∀ i : Nat, i ≤ s.size → Ev (fun k => val_plain.l0 k s s.size i) (((bytesOf s).drop i).all plainI && decide (s.size ≤ 60)) := by
    unfold maxLen at hs
    refine back_ind s.size (fun k i => val_plain.l0 k s s.size i) _ ?_ ?_
    · refine evShift ?_
      simp only [val_plain.l0]
      refine evNeg (by omega) (evSome (by rw [drop_end]; simp; omega))
    · intro i hi ih
      refine evShift ?_
      simp only [val_plain.l0]
      refine evPos (by omega) (evPos (by omega) (evPos (by omega) ?_))
      rw [all_drop hi, wrap_succ hi (by omega)]
      by_cases h1 : bt s i < 32
      · refine evPos h1 (evSome ?_)
        have : plainI (bt s i) = false := decide_eq_false (by omega)
        rw [this]; rfl
      · refine evNeg h1 ?_
        by_cases h2 : bt s i > 126
        · refine evPos h2 (evSome ?_)
          have : plainI (bt s i) = false := decide_eq_false (by omega)
          rw [this]; rfl
        · refine evNeg h2 ?_
          have : plainI (bt s i) = true := decide_eq_true (by omega)
          rw [this]; exact ih
  have := h 0 (by omega)
  simpa [val_plain.f] using this
theorem val_Check_ev (kind n : Int) (s : ByteArray) (hs : s.size ≤ maxLen) : Ev (fun k => val_Check.f k kind n s) (if valS kind n s then 0 else 1) := by
  unfold val_Check.f valS
  by_cases h1 : kind = 1
  · refine evPos h1 ?_
    rw [if_pos h1]
    by_cases h2 : n ≥ -4611686018427387904
    · refine evPos h2 ?_
      by_cases h3 : n ≤ 4611686018427387904
      · refine evPos h3 ?_
        rw [decide_eq_true ((InB_iff n).2 ⟨h2, h3⟩)]
        by_cases h4 : s = ⟨#[]⟩
        · exact evPos (tl_nil.2 h4) (evSome (by simp [h4]))
        · exact evNeg (fun e => h4 (tl_nil.1 e)) (evSome (by simp [h4]))
      · exact evNeg h3 (evSome (by rw [decide_eq_false (fun h => h3 ((InB_iff n).1 h).2)]; rfl))
    · exact evNeg h2 (evSome (by rw [decide_eq_false (fun h => h2 ((InB_iff n).1 h).1)]; rfl))
  · refine evNeg h1 ?_
    rw [if_neg h1]
    by_cases h2 : kind = 2
    · refine evPos h2 ?_
      rw [if_pos h2]
      by_cases h3 : n = 0
      · refine evPos h3 (Ev.bind (val_symbol_ev s hs) ?_)
        rw [decide_eq_true h3]
        cases wordS false s <;> exact evSome rfl
      · refine evNeg h3 (evSome ?_)
        rw [decide_eq_false h3]; rfl
    · refine evNeg h2 ?_
      rw [if_neg h2]
      by_cases h3 : kind = 3
      · refine evPos h3 ?_
        rw [if_pos h3]
        by_cases h4 : n = 0
        · refine evPos h4 (Ev.bind (val_plain_ev s hs) ?_)
          rw [decide_eq_true h4, Bool.true_and]
          cases ((bytesOf s).all plainI && decide (s.size ≤ 60)) <;> exact evSome rfl
        · refine evNeg h4 (evSome ?_)
          rw [decide_eq_false h4]; rfl
      · refine evNeg h3 (evSome ?_)
        rw [if_neg h3]; rfl
end Go.Proofs.YtaopajmpifenoaaDoor.P
end
section
namespace Go.Proofs.YtaopajmpifenoaaDoor.P
open Go.RowKit Go.Proofs.YtaopajmpifenoaaDoorW.PrintWords Go.Proofs.YtaopajmpifenoaaDoorW.PrintLast Go.Proofs.YtaopajmpifenoaaDoorW.PrintMore
theorem ref_In_eq (a b c : Int) : constableref01_In.f a b c = some (decide (b ≤ a ∧ a ≤ c)) := by
  unfold constableref01_In.f
  split
  · congr 1; rw [decide_eq_decide]; omega
  · congr 1; symm; rw [decide_eq_false_iff_not]; omega
theorem abs_mul_abs (a b : Int) : (if a < -a then -a else a) * (if b < -b then -b else b) = if a * b < 0 then -(a * b) else a * b := by
  by_cases ha : a < -a <;> by_cases hb : b < -b <;> simp only [ha, hb, if_true, if_false]
  · have : 0 < a * b := Int.mul_pos_of_neg_of_neg (by omega) (by omega)
    rw [if_neg (by omega)]; exact Int.neg_mul_neg a b
  · have : a * b ≤ 0 := Int.mul_nonpos_of_nonpos_of_nonneg (by omega) (by omega)
    rw [Int.neg_mul]; split <;> omega
  · have : a * b ≤ 0 := Int.mul_nonpos_of_nonneg_of_nonpos (by omega) (by omega)
    rw [Int.mul_neg]; split <;> omega
  · have : 0 ≤ a * b := Int.mul_nonneg (by omega) (by omega)
    rw [if_neg (by omega)]
theorem ref_over {a b : Int} (ha : InB a) (hb : InB b) (hb0 : b ≠ 0) :
    (mx a (wrap64 (-a)) > wrap64 (Int.tdiv 4611686018427387904 (mx b (wrap64 (-b))))) ↔ ¬ InB (a * b) := by
  rw [InB_iff] at ha hb
  have e1 : wrap64 (-a) = -a := by unfold wrap64; omega
  have e2 : wrap64 (-b) = -b := by unfold wrap64; omega
  rw [e1, e2]
  have m1 : mx a (-a) = if a < -a then -a else a := rfl
  have m2 : mx b (-b) = if b < -b then -b else b := rfl
  have hm := abs_mul_abs a b
  rw [← m1, ← m2] at hm
  have p1 : 0 ≤ mx a (-a) := by rw [m1]; split <;> omega
  have p2 : 0 < mx b (-b) := by rw [m2]; split <;> omega
  generalize mx a (-a) = x at *
  generalize mx b (-b) = y at *
  rw [Int.tdiv_eq_ediv_of_nonneg (by decide)]
  have h1 : 4611686018427387904 / y ≤ 4611686018427387904 := Int.ediv_le_self _ (by decide)
  have h2 : 0 ≤ 4611686018427387904 / y := Int.ediv_nonneg (by decide) (by omega)
  have e3 : wrap64 (4611686018427387904 / y) = 4611686018427387904 / y := by unfold wrap64; omega
  rw [e3, InB_iff]
  have h3 : 4611686018427387904 / y < x ↔ 4611686018427387904 < x * y := Int.ediv_lt_iff_lt_mul p2
  rw [gt_iff_lt, h3, hm]
  split <;> omega
end Go.Proofs.YtaopajmpifenoaaDoor.P
end
section
namespace Go.Proofs.YtaopajmpifenoaaDoor.P
open Go.RowKit Go.Proofs.YtaopajmpifenoaaDoorW.PrintWords Go.Proofs.YtaopajmpifenoaaDoorW.PrintLast Go.Proofs.YtaopajmpifenoaaDoorW.PrintMore
theorem ref_Lower_eq (c : Int) : constableref01_Lower.f c = some (smallI c) := by
  unfold constableref01_Lower.f smallI
  split
  · congr 1; rw [decide_eq_decide]; omega
  · congr 1; symm; rw [decide_eq_false_iff_not]; omega
theorem ref_Upper_eq (c : Int) : constableref01_Upper.f c = some (largeI c) := by
  unfold constableref01_Upper.f largeI
  split
  · congr 1; rw [decide_eq_decide]; omega
  · congr 1; symm; rw [decide_eq_false_iff_not]; omega
theorem ref_Digit_eq (c : Int) : constableref01_Digit.f c = some (digitI c) := by
  unfold constableref01_Digit.f digitI
  split
  · congr 1; rw [decide_eq_decide]; omega
  · congr 1; symm; rw [decide_eq_false_iff_not]; omega
theorem ref_inner_eq (c : Int) : constableref01_inner.f c = some (innerI c) := by
  unfold constableref01_inner.f innerI
  simp only [ref_Lower_eq, ref_Upper_eq, ref_Digit_eq, Option.bind_some]
  cases smallI c <;> cases largeI c <;> cases digitI c <;> simp
theorem ref_Word_l0 (s : ByteArray) (hs : s.size ≤ maxLen) : ∀ i : Nat, i ≤ s.size → Ev (fun k => constableref01_Word.l0 k s i) (((bytesOf s).drop i).all innerI) := by
  unfold maxLen at hs
  refine back_ind s.size (fun k i => constableref01_Word.l0 k s i) _ ?_ ?_
  · refine evShift ?_
    simp only [constableref01_Word.l0]
    refine evNeg (by omega) (evSome (by rw [drop_end]; rfl))
  · intro i hi ih
    refine evShift ?_
    simp only [constableref01_Word.l0, ref_inner_eq, Option.bind_some]
    refine evPos (by omega) (evPos (by omega) ?_)
    rw [all_drop hi, wrap_succ hi (by omega)]
    by_cases h1 : innerI (bt s i) = true
    · rw [h1]; simpa using ih
    · simp [h1]; exact evSome rfl
theorem not_both (c : Int) : largeI c = true → smallI c = false := by
  unfold largeI smallI
  intro h
  rw [decide_eq_true_eq] at h
  exact decide_eq_false (by omega)
theorem ref_Word_ev (s : ByteArray) (large : Bool) (hs : s.size ≤ maxLen) : Ev (fun k => constableref01_Word.f k s large) (wordS large s) := by
  have hl := ref_Word_l0 s hs 0 (by omega)
  simp only [List.drop_zero, Int.natCast_zero] at hl
  have hj : Ev (fun k => constableref01_Word.j0 k s true) false := by
    refine evShift ?_
    simp only [constableref01_Word.j0, if_true]
    exact evSome rfl
  have hj2 : Ev (fun k => constableref01_Word.j0 k s false) ((bytesOf s).all innerI) := by
    refine evShift ?_
    simp only [constableref01_Word.j0, Bool.false_eq_true, if_false]
    exact hl
  unfold constableref01_Word.f wordS
  simp only [ref_In_eq, ref_Upper_eq, ref_Lower_eq, Option.bind_some]
  by_cases h1 : 1 ≤ s.size ∧ s.size ≤ 24
  · have hd : decide (1 ≤ s.size ∧ s.size ≤ 24) = true := decide_eq_true h1
    have hd' : decide ((1 : Int) ≤ s.size ∧ (s.size : Int) ≤ 24) = true := decide_eq_true (by omega)
    rw [hd, hd']
    refine evPos rfl (evPos (by omega) ?_)
    have hb := not_both (bt s 0)
    cases large <;> cases h2 : largeI (bt s 0) <;> simp [h2] at hb ⊢
    · cases h3 : smallI (bt s 0)
      · simp; exact hj
      · simp; exact hj2
    · rw [hb]; simp; exact hj
    · exact hj
    · exact hj2
  · have hd : decide (1 ≤ s.size ∧ s.size ≤ 24) = false := decide_eq_false h1
    have hd' : decide ((1 : Int) ≤ s.size ∧ (s.size : Int) ≤ 24) = false := decide_eq_false (by omega)
    rw [hd, hd']
    exact evNeg (by decide) hj
theorem ref_Value_l0 (a b : Int) (s : ByteArray) (hs : s.size ≤ maxLen) : ∀ i : Nat, i ≤ s.size → Ev (fun k => constableref01_Value.l0 k i a b s) (((bytesOf s).drop i).all plainI) := by
  unfold maxLen at hs
  refine back_ind s.size (fun k i => constableref01_Value.l0 k i a b s) _ ?_ ?_
  · refine evShift ?_
    simp only [constableref01_Value.l0]
    refine evNeg (by omega) (evSome (by rw [drop_end]; rfl))
  · intro i hi ih
    refine evShift ?_
    simp only [constableref01_Value.l0, ref_In_eq, Option.bind_some]
    refine evPos (by omega) (evPos (by omega) ?_)
    rw [all_drop hi, wrap_succ hi (by omega)]
    have hr := bt_range s i
    have hw : wrap64 (bt s i) = bt s i := by unfold wrap64; omega
    rw [hw]
    have e : decide (32 ≤ bt s i ∧ bt s i ≤ 126) = plainI (bt s i) := rfl
    rw [e]
    by_cases h1 : plainI (bt s i) = true
    · rw [h1]; simpa using ih
    · simp [h1]; exact evSome rfl
theorem ref_Value_ev (kind n : Int) (s : ByteArray) (hs : s.size ≤ maxLen) : Ev (fun k => constableref01_Value.f k kind n s) (valS kind n s) := by
  unfold constableref01_Value.f valS
  by_cases h1 : kind = 1
  · refine evPos h1 ?_
    rw [if_pos h1]
    simp only [ref_In_eq, Option.bind_some]
    have i1 : decide (-4611686018427387904 ≤ n ∧ n ≤ 4611686018427387904) = decide (InB n) := rfl
    rw [i1]
    by_cases h2 : InB n
    · rw [decide_eq_true h2]
      refine evPos rfl (evSome ?_)
      rw [Bool.eq_iff_iff]
      simp [← size_zero]
    · rw [decide_eq_false h2]
      exact evNeg (by decide) (evSome rfl)
  · refine evNeg h1 ?_
    rw [if_neg h1]
    by_cases h2 : kind = 2
    · refine evPos h2 ?_
      rw [if_pos h2]
      by_cases h3 : n = 0
      · refine evPos h3 (Ev.bind (ref_Word_ev s false hs) (evSome ?_))
        rw [decide_eq_true h3]; simp
      · refine evNeg h3 (evSome ?_)
        rw [decide_eq_false h3]; rfl
    · refine evNeg h2 ?_
      rw [if_neg h2]
      by_cases h3 : kind = 3
      · refine evPos h3 ?_
        rw [if_pos h3]
        by_cases h4 : n = 0
        · refine evPos h4 (evShift ?_)
          rw [decide_eq_true h4]
          simp only [constableref01_Value.j0]
          by_cases h5 : (s.size : Int) > 60
          · refine evPos (decide_eq_true h5) (evSome ?_)
            have : decide (s.size ≤ 60) = false := decide_eq_false (by omega)
            rw [this]; simp
          · refine evNeg (by rw [decide_eq_false h5]; decide) ?_
            have : decide (s.size ≤ 60) = true := decide_eq_true (by omega)
            rw [this]
            have := ref_Value_l0 kind n s hs 0 (by omega)
            simpa using this
        · refine evNeg h4 (evShift ?_)
          simp only [constableref01_Value.j0, if_true]
          refine evSome ?_
          rw [decide_eq_false h4]; rfl
      · refine evNeg h3 (evSome ?_)
        rw [if_neg h3]
end Go.Proofs.YtaopajmpifenoaaDoor.P
end
section
namespace Go.Proofs.YtaopajmpifenoaaDoor.P
open Go.RowKit Go.Proofs.YtaopajmpifenoaaDoorW.PrintWords Go.Proofs.YtaopajmpifenoaaDoorW.PrintLast Go.Proofs.YtaopajmpifenoaaDoorW.PrintMore
theorem cb_zero : ∀ a b : List UInt8, Lib.compareBytes a b = 0 ↔ a = b
  | [], [] => by simp [Lib.compareBytes]
  | [], _ :: _ => by simp [Lib.compareBytes]
  | _ :: _, [] => by simp [Lib.compareBytes]
  | x :: a, y :: b => by
    have ih := cb_zero a b
    simp only [Lib.compareBytes, List.cons.injEq]
    by_cases h : x < y
    · rw [if_pos h]
      refine ⟨fun h => absurd h (by decide), fun e => ?_⟩
      rw [e.1] at h; exact absurd h (UInt8.lt_irrefl y)
    · rw [if_neg h]
      by_cases h2 : y < x
      · rw [if_pos h2]
        refine ⟨fun h => absurd h (by decide), fun e => ?_⟩
        rw [e.1] at h2; exact absurd h2 (UInt8.lt_irrefl y)
      · rw [if_neg h2, ih]
        have : x = y := by
          rw [UInt8.lt_iff_toNat_lt] at h h2
          exact UInt8.toNat_inj.1 (by omega)
        exact ⟨fun e => ⟨this, e⟩, fun e => e.2⟩
theorem cb_less_iff : ∀ a b : List UInt8, Op.bytesLess a b = true ↔ Lib.compareBytes a b < 0
  | [], [] => by simp [Op.bytesLess, Lib.compareBytes]
  | [], _ :: _ => by simp [Op.bytesLess, Lib.compareBytes]
  | _ :: _, [] => by simp [Op.bytesLess, Lib.compareBytes]
  | x :: a, y :: b => by
    have ih := cb_less_iff a b
    simp only [Op.bytesLess, Lib.compareBytes]
    by_cases h : x < y
    · rw [if_pos h, decide_eq_true h]; simp
    · rw [if_neg h, decide_eq_false h, Bool.false_or]
      by_cases h2 : y < x
      · rw [if_pos h2]
        have e : (x == y) = false := beq_eq_false_iff_ne.mpr (fun e => by rw [e] at h2; exact absurd h2 (UInt8.lt_irrefl y))
        rw [e]; simp
      · rw [if_neg h2]
        have : x = y := by
          rw [UInt8.lt_iff_toNat_lt] at h h2
          exact UInt8.toNat_inj.1 (by omega)
        subst this
        rw [beq_self_eq_true, Bool.true_and]; exact ih
theorem cb_less (a b : List UInt8) : Op.bytesLess a b = decide (Lib.compareBytes a b < 0) := by
  rw [Bool.eq_iff_iff, cb_less_iff, decide_eq_true_eq]
theorem cb_swap : ∀ a b : List UInt8, Lib.compareBytes b a = - Lib.compareBytes a b
  | [], [] => rfl
  | [], _ :: _ => rfl
  | _ :: _, [] => rfl
  | x :: a, y :: b => by
    have ih := cb_swap a b
    simp only [Lib.compareBytes]
    by_cases h : x < y
    · have h2 : ¬ y < x := by rw [UInt8.lt_iff_toNat_lt] at h ⊢; omega
      rw [if_neg h2, if_pos h, if_pos h]; rfl
    · by_cases h2 : y < x
      · rw [if_pos h2, if_neg h, if_pos h2]
      · rw [if_neg h2, if_neg h, if_neg h, if_neg h2]; exact ih
def cmpI (a b : Int) : Int := if a < b then -1 else if a > b then 1 else 0
def cmpB (s t : ByteArray) : Int := Lib.compareBytes s.data.toList t.data.toList
def cmpV (v w : S44) : Int := if cmpI v.f0 w.f0 = 0 then (if cmpI v.f1 w.f1 = 0 then cmpB v.f2 w.f2 else cmpI v.f1 w.f1) else cmpI v.f0 w.f0
theorem cmpI_zero (a b : Int) : cmpI a b = 0 ↔ a = b := by unfold cmpI; split <;> (try split) <;> omega
theorem cmpI_swap (a b : Int) : cmpI b a = - cmpI a b := by unfold cmpI; split <;> (try split) <;> (try split) <;> (try split) <;> omega
theorem cmpB_zero (s t : ByteArray) : cmpB s t = 0 ↔ s = t := by
  unfold cmpB
  rw [cb_zero]
  exact ⟨fun h => ByteArray.ext (Array.toList_inj.1 h), fun h => by rw [h]⟩
theorem cmpV_zero (v w : S44) : cmpV v w = 0 ↔ v = w := by
  obtain ⟨a, b, c⟩ := v
  obtain ⟨x, y, z⟩ := w
  have h1 := cmpI_zero a x
  have h2 := cmpI_zero b y
  have h3 := cmpB_zero c z
  unfold cmpV
  simp only [S44.mk.injEq]
  by_cases e1 : cmpI a x = 0
  · rw [if_pos e1]
    by_cases e2 : cmpI b y = 0
    · rw [if_pos e2, h3]; exact ⟨fun h => ⟨h1.1 e1, h2.1 e2, h⟩, fun h => h.2.2⟩
    · rw [if_neg e2]; exact ⟨fun h => absurd h e2, fun h => absurd (h2.2 h.2.1) e2⟩
  · rw [if_neg e1]; exact ⟨fun h => absurd h e1, fun h => absurd (h1.2 h.1) e1⟩
theorem cmpV_swap (v w : S44) : cmpV w v = - cmpV v w := by
  unfold cmpV cmpB
  rw [cmpI_swap v.f0 w.f0, cmpI_swap v.f1 w.f1, cb_swap v.f2.data.toList w.f2.data.toList]
  split <;> split <;> (try split) <;> (try split) <;> omega
theorem cmp_Compare_eq (a b : Int) : cmp_Compare_int.f a b = some (cmpI a b) := by
  simp only [cmp_Compare_int.f, cmp_isNaN_int.f, Option.bind_some, bne_self_eq_false, Bool.false_eq_true, if_false, cmpI]
  split
  · rfl
  · split <;> rfl
theorem cmp_Or_ev (x y z : Int) : Ev (fun k => cmp_Or_int.f k [x, y, z]) (if x = 0 then (if y = 0 then z else y) else x) := by
  have l3 : (([x, y, z] : List Int).length : Int) = 3 := rfl
  have r0 : rd [x, y, z] 0 = x := rfl
  have r1 : rd [x, y, z] 1 = y := rfl
  have r2 : rd [x, y, z] 2 = z := rfl
  have w0 : wrap64 (0 + 1) = 1 := by unfold wrap64; omega
  have w1 : wrap64 (1 + 1) = 2 := by unfold wrap64; omega
  have w2 : wrap64 (2 + 1) = 3 := by unfold wrap64; omega
  unfold cmp_Or_int.f
  rw [l3]
  refine evShift ?_
  simp only [cmp_Or_int.l0, l3, r0, w0]
  refine evPos (by decide) (evPos (by decide) (evPos (by decide) (evIf (fun h => ?_) (fun h => evSome (by rw [if_neg h])))))
  rw [if_pos h]
  refine evShift ?_
  simp only [cmp_Or_int.l0, l3, r1, w1]
  refine evPos (by decide) (evPos (by decide) (evPos (by decide) (evIf (fun h => ?_) (fun h => evSome (by rw [if_neg h])))))
  rw [if_pos h]
  refine evShift ?_
  simp only [cmp_Or_int.l0, l3, r2, w2]
  refine evPos (by decide) (evPos (by decide) (evPos (by decide) (evIf (fun h => ?_) (fun h => evSome rfl))))
  refine evShift ?_
  simp only [cmp_Or_int.l0]
  exact evNeg (by decide) (evSome h.symm)
theorem val_Compare_ev (v w : S44) : Ev (fun k => val_Compare.f k v.f0 v.f1 v.f2 w.f0 w.f1 w.f2) (cmpV v w) := by
  unfold val_Compare.f
  simp only [cmp_Compare_eq, strings_Compare.f, Option.bind_some]
  exact Ev.bind (cmp_Or_ev _ _ _) (evSome rfl)
def holdsS (how : Int) (v w : S44) : Bool × Int :=
  if (decide (1 ≤ how ∧ how ≤ 4) && (valS v.f0 v.f1 v.f2 && valS w.f0 w.f1 w.f2)) = true then
    (if (how = 3 ∨ how = 4) ∧ v.f0 ≠ w.f0 then (false, 3) else (if how = 1 then cmpV v w == 0 else if how = 2 then cmpV v w != 0 else if how = 3 then decide (cmpV v w < 0) else decide (cmpV v w ≤ 0), 0))
  else (false, 1)
end Go.Proofs.YtaopajmpifenoaaDoor.P
end
section
namespace Go.Proofs.YtaopajmpifenoaaDoor.P
open Go.RowKit Go.Proofs.YtaopajmpifenoaaDoorW.PrintWords Go.Proofs.YtaopajmpifenoaaDoorW.PrintLast Go.Proofs.YtaopajmpifenoaaDoorW.PrintMore
def vI (a : Int) : S44 := ⟨1, a, ⟨#[]⟩⟩
def vY (s : ByteArray) : S44 := ⟨2, 0, s⟩
def vS (s : ByteArray) : S44 := ⟨3, 0, s⟩
theorem val_beq (v w : S44) : (v.f0 == w.f0 && (v.f1 == w.f1 && (v.f2.toList == w.f2.toList))) = (cmpV v w == 0) := by
  rw [Bool.eq_iff_iff, beq_iff_eq, cmpV_zero, tl_beq]
  cases v; cases w
  simp
theorem cmpB_nil : cmpB ⟨#[]⟩ ⟨#[]⟩ = 0 := (cmpB_zero _ _).2 rfl
theorem cmp_vI (a b : Int) : cmpV (vI a) (vI b) = cmpI a b := by
  show (if cmpI 1 1 = 0 then (if cmpI a b = 0 then cmpB ⟨#[]⟩ ⟨#[]⟩ else cmpI a b) else cmpI 1 1) = _
  rw [if_pos ((cmpI_zero 1 1).2 rfl), cmpB_nil]
  split
  · exact (‹cmpI a b = 0›).symm
  · rfl
def Tr (x y z : Int) : Prop := (x ≤ 0 → y ≤ 0 → z ≤ 0) ∧ (x < 0 → y ≤ 0 → z < 0) ∧ (x ≤ 0 → y < 0 → z < 0) ∧ (x = 0 → y = 0 → z = 0)
def lexI (a b : Int) : Int := if a = 0 then b else a
theorem Tr.lex {x y z a b c : Int} (h : Tr x y z) (k : Tr a b c) : Tr (lexI x a) (lexI y b) (lexI z c) := by
  unfold Tr lexI at *
  obtain ⟨h1, h2, h3, h4⟩ := h
  obtain ⟨k1, k2, k3, k4⟩ := k
  by_cases ex : x = 0
  · by_cases ey : y = 0
    · rw [if_pos ex, if_pos ey, if_pos (h4 ex ey)]; exact ⟨k1, k2, k3, k4⟩
    · rw [if_pos ex, if_neg ey]
      refine ⟨fun _ q => ?_, fun _ q => ?_, fun _ q => ?_, fun _ q => absurd q ey⟩ <;> (have := h3 (by omega) (by omega); rw [if_neg (by omega)]; omega)
  · by_cases ey : y = 0
    · rw [if_neg ex, if_pos ey]
      refine ⟨fun p _ => ?_, fun p _ => ?_, fun p _ => ?_, fun p _ => absurd p ex⟩ <;> (have := h2 (by omega) (by omega); rw [if_neg (by omega)]; omega)
    · rw [if_neg ex, if_neg ey]
      refine ⟨fun p q => ?_, fun p q => ?_, fun p q => ?_, fun p _ => absurd p ex⟩ <;> (have := h2 (by omega) (by omega); rw [if_neg (by omega)]; omega)
theorem cmpI_tr (a b c : Int) : Tr (cmpI a b) (cmpI b c) (cmpI a c) := by
  unfold Tr cmpI
  refine ⟨?_, ?_, ?_, ?_⟩ <;> (intro p q; repeat' split at p) <;> (repeat' split at q) <;> (repeat' split) <;> omega
theorem cb_cons (x y : UInt8) (a b : List UInt8) : Lib.compareBytes (x :: a) (y :: b) = lexI (cmpI (x.toNat : Int) (y.toNat : Int)) (Lib.compareBytes a b) := by
  simp only [Lib.compareBytes, UInt8.lt_iff_toNat_lt]
  by_cases h : x.toNat < y.toNat
  · have e : cmpI (x.toNat : Int) (y.toNat : Int) = -1 := by unfold cmpI; rw [if_pos (by omega)]
    rw [if_pos h, e]; rfl
  · rw [if_neg h]
    by_cases h2 : y.toNat < x.toNat
    · have e : cmpI (x.toNat : Int) (y.toNat : Int) = 1 := by unfold cmpI; rw [if_neg (by omega), if_pos (by omega)]
      rw [if_pos h2, e]; rfl
    · have e : cmpI (x.toNat : Int) (y.toNat : Int) = 0 := by unfold cmpI; rw [if_neg (by omega), if_neg (by omega)]
      rw [if_neg h2, e]; rfl
theorem cb_nn : Lib.compareBytes [] [] = 0 := rfl
theorem cb_nc (y : UInt8) (b : List UInt8) : Lib.compareBytes [] (y :: b) = -1 := rfl
theorem cb_cn (x : UInt8) (a : List UInt8) : Lib.compareBytes (x :: a) [] = 1 := rfl
theorem cb_tr : ∀ a b c : List UInt8, Tr (Lib.compareBytes a b) (Lib.compareBytes b c) (Lib.compareBytes a c)
  | [], [], [] => by unfold Tr; rw [cb_nn]; omega
  | [], [], _ :: _ => by unfold Tr; rw [cb_nn, cb_nc]; omega
  | [], _ :: _, [] => by unfold Tr; rw [cb_nn, cb_nc, cb_cn]; omega
  | [], _ :: _, _ :: _ => by unfold Tr; rw [cb_nc, cb_nc]; omega
  | _ :: _, [], [] => by unfold Tr; rw [cb_nn, cb_cn]; omega
  | _ :: _, [], _ :: _ => by unfold Tr; rw [cb_cn, cb_nc]; omega
  | _ :: _, _ :: _, [] => by unfold Tr; rw [cb_cn, cb_cn]; omega
  | x :: a, y :: b, z :: c => by
    rw [cb_cons, cb_cons, cb_cons]
    exact (cmpI_tr _ _ _).lex (cb_tr a b c)
theorem cmpV_lex (v w : S44) : cmpV v w = lexI (cmpI v.f0 w.f0) (lexI (cmpI v.f1 w.f1) (cmpB v.f2 w.f2)) := rfl
theorem cmpV_tr (u v w : S44) : Tr (cmpV u v) (cmpV v w) (cmpV u w) := by
  rw [cmpV_lex, cmpV_lex, cmpV_lex]
  exact (cmpI_tr _ _ _).lex ((cmpI_tr _ _ _).lex (cb_tr _ _ _))
theorem cmpI_bd (a b : Int) : -1 ≤ cmpI a b ∧ cmpI a b ≤ 1 := by unfold cmpI; split <;> (try split) <;> omega
theorem lexI_bd {a b : Int} (h : -1 ≤ a ∧ a ≤ 1) (k : -1 ≤ b ∧ b ≤ 1) : -1 ≤ lexI a b ∧ lexI a b ≤ 1 := by unfold lexI; split <;> assumption
theorem cb_bd : ∀ a b : List UInt8, -1 ≤ Lib.compareBytes a b ∧ Lib.compareBytes a b ≤ 1
  | [], [] => by rw [cb_nn]; omega
  | [], _ :: _ => by rw [cb_nc]; omega
  | _ :: _, [] => by rw [cb_cn]; omega
  | x :: a, y :: b => by rw [cb_cons]; exact lexI_bd (cmpI_bd _ _) (cb_bd a b)
theorem cmpV_bd (v w : S44) : -1 ≤ cmpV v w ∧ cmpV v w ≤ 1 := by
  rw [cmpV_lex]
  exact lexI_bd (cmpI_bd _ _) (lexI_bd (cmpI_bd _ _) (cb_bd _ _))
end Go.Proofs.YtaopajmpifenoaaDoor.P
end
section
namespace Go.Proofs.YtaopajmpifenoaaDoor.P
open Go.RowKit Go.Proofs.YtaopajmpifenoaaDoorW.PrintWords Go.Proofs.YtaopajmpifenoaaDoorW.PrintLast Go.Proofs.YtaopajmpifenoaaDoorW.PrintMore
def ByteL (l : List Int) : Prop := ∀ c ∈ l, 0 ≤ c ∧ c < 256
theorem byteL_codes (s : ByteArray) : ByteL (bytesOf s) := by
  intro c hc
  unfold bytesOf at hc
  obtain ⟨b, _, rfl⟩ := List.mem_map.1 hc
  have := b.toNat_lt
  omega
theorem codes_of_nums {l : List Int} (h : ByteL l) : bytesOf (strOfNums l) = l := by
  unfold bytesOf
  rw [strOfNums_data, List.map_map]
  induction l with
  | nil => rfl
  | cons c l ih =>
    have hc := h c (List.mem_cons_self ..)
    rw [List.map_cons, ih (fun x hx => h x (List.mem_cons_of_mem _ hx))]
    congr 1
    show (((UInt8.ofNat c.toNat).toNat : Nat) : Int) = c
    rw [UInt8.toNat_ofNat']
    omega
theorem nums_codes (s : ByteArray) : strOfNums (bytesOf s) = s := codes_inj (codes_of_nums (byteL_codes s))
theorem nums_size (l : List Int) : (strOfNums l).size = l.length := strOfNums_size l
theorem codes_append (s t : ByteArray) : bytesOf (s ++ t) = bytesOf s ++ bytesOf t := by
  unfold bytesOf
  rw [← List.map_append, ByteArray.data_append, Array.toList_append]
theorem nums_append (l m : List Int) : strOfNums l ++ strOfNums m = strOfNums (l ++ m) := by
  apply ByteArray.ext
  apply Array.toList_inj.1
  rw [ByteArray.data_append, Array.toList_append, strOfNums_data, strOfNums_data, strOfNums_data, List.map_append]
theorem ext_one (s : ByteArray) (i : Nat) (h : i < s.size) : s.extract i (i + 1) = strOfNums [bt s i] := by
  apply codes_inj
  have hb : ByteL [bt s i] := by
    obtain ⟨x, h1, h2⟩ := codes_split s i h
    intro c hc
    rw [List.mem_singleton.1 hc, h2]
    exact byteL_codes s x (List.mem_of_mem_drop (by rw [h1]; exact List.mem_cons_self ..))
  rw [codes_of_nums hb]
  obtain ⟨x, h1, h2⟩ := codes_split s i h
  unfold bytesOf at h1 ⊢
  rw [ByteArray.data_extract, Array.toList_extract, List.extract_eq_take_drop, List.map_take, List.map_drop, h1, h2, show i + 1 - i = 1 by omega]
  rfl
theorem byteL_append {l m : List Int} (h : ByteL l) (k : ByteL m) : ByteL (l ++ m) := fun c hc => (List.mem_append.1 hc).elim (h c) (k c)
theorem byteL_cons {c : Int} {l : List Int} (hc : 0 ≤ c ∧ c < 256) (h : ByteL l) : ByteL (c :: l) := fun x hx => (List.mem_cons.1 hx).elim (fun e => e ▸ hc) (h x)
def escS : List Int → List Int
  | [] => []
  | c :: l => if c = 34 ∨ c = 92 then 92 :: c :: escS l else c :: escS l
theorem escS_len : ∀ l : List Int, (escS l).length ≤ 2 * l.length
  | [] => by simp [escS]
  | c :: l => by
    have := escS_len l
    unfold escS
    split <;> simp <;> omega
theorem escS_byte : ∀ {l : List Int}, ByteL l → ByteL (escS l)
  | [], _ => by intro c hc; cases hc
  | c :: l, h => by
    have h1 := h c (List.mem_cons_self ..)
    have h2 := escS_byte (l := l) (fun x hx => h x (List.mem_cons_of_mem _ hx))
    unfold escS
    split
    · exact byteL_cons (by decide) (byteL_cons h1 h2)
    · exact byteL_cons h1 h2
def quoteL (l : List Int) : List Int := 34 :: (escS l ++ [34])
theorem quoteL_byte {l : List Int} (h : ByteL l) : ByteL (quoteL l) := byteL_cons (by decide) (byteL_append (escS_byte h) (by intro c hc; rw [List.mem_singleton.1 hc]; decide))
def quoteS (s : ByteArray) : ByteArray := strOfNums (quoteL (bytesOf s))
def textS (kind n : Int) (s : ByteArray) : ByteArray := if kind = 1 then ⟨(Lib.itoa n).toArray⟩ else if kind = 2 then s else quoteS s
theorem quoted_l0 (s : ByteArray) (hs : s.size ≤ 1000000) : ∀ (d i : Nat) (x : List Int), i + d = s.size → x.length ≤ 2 * i + 1 →
    Ev (fun k => val_quoted.l0 k s x s.size i) (strOfNums (x ++ (escS ((bytesOf s).drop i) ++ [34]))) := by
  intro d
  induction d with
  | zero =>
    intro i x hi hx
    refine evShift ?_
    simp only [val_quoted.l0]
    refine evNeg (by omega) (evPos (by omega) (evSome ?_))
    rw [show i = s.size by omega, drop_end]; rfl
  | succ d ih =>
    intro i x hi hx
    have hlt : i < s.size := by omega
    obtain ⟨c, h1, h2⟩ := codes_split s i hlt
    refine evShift ?_
    simp only [val_quoted.l0, Option.bind_some, h2]
    rw [h1, wrap_succ hlt (by omega)]
    unfold escS
    have two : c = 34 ∨ c = 92 → Ev (fun k => if x.length < 140737488355328 then (if (x ++ [92]).length < 140737488355328 then val_quoted.l0 k s (x ++ [92] ++ [c]) s.size ((i + 1 : Nat) : Int) else none) else none) (strOfNums (x ++ ((if c = 34 ∨ c = 92 then 92 :: c :: escS ((bytesOf s).drop (i + 1)) else c :: escS ((bytesOf s).drop (i + 1))) ++ [34]))) := by
      intro hc
      rw [if_pos hc]
      refine evPos (by omega) (evPos (by simp; omega) ?_)
      have := ih (i + 1) (x ++ [92] ++ [c]) (by omega) (by simp; omega)
      rw [show x ++ [92] ++ [c] ++ (escS ((bytesOf s).drop (i + 1)) ++ [34]) = x ++ (92 :: c :: escS ((bytesOf s).drop (i + 1)) ++ [34]) by simp] at this
      exact this
    refine evPos (by omega) (evPos (by omega) (evPos (by omega) (evIf (fun e => two (.inl e)) (fun e1 => evIf (fun e => two (.inr e)) (fun e2 => evPos (by omega) ?_)))))
    rw [if_neg (fun h => h.elim e1 e2)]
    have := ih (i + 1) (x ++ [c]) (by omega) (by simp; omega)
    rw [show x ++ [c] ++ (escS ((bytesOf s).drop (i + 1)) ++ [34]) = x ++ (c :: escS ((bytesOf s).drop (i + 1)) ++ [34]) by simp] at this
    exact this
theorem val_quoted_ev (s : ByteArray) (hs : s.size ≤ 1000000) : Ev (fun k => val_quoted.f k s) (quoteS s) := by
  have := quoted_l0 s hs s.size 0 [34] (by omega) (by simp)
  rw [List.drop_zero] at this
  exact this
theorem valS_str {k n : Int} {s : ByteArray} (h : valS k n s = true) (h1 : ¬ k = 1) (h2 : ¬ k = 2) : k = 3 ∧ n = 0 ∧ (bytesOf s).all plainI = true ∧ s.size ≤ 60 := by
  unfold valS at h
  rw [if_neg h1, if_neg h2] at h
  by_cases h3 : k = 3
  · rw [if_pos h3] at h
    simp only [Bool.and_eq_true, decide_eq_true_eq] at h
    exact ⟨h3, h.1.1, h.1.2, h.2⟩
  · rw [if_neg h3] at h; cases h
theorem valS_sym {n : Int} {s : ByteArray} (h : valS 2 n s = true) : n = 0 ∧ wordS false s = true := by
  unfold valS at h
  rw [if_neg (by decide), if_pos rfl] at h
  simpa using h
theorem valS_int {n : Int} {s : ByteArray} (h : valS 1 n s = true) : InB n ∧ s = ⟨#[]⟩ := by
  unfold valS at h
  rw [if_pos rfl] at h
  simpa using h
theorem val_Text_ev (k n : Int) (s : ByteArray) (hs : s.size ≤ maxLen) : Ev (fun r => val_Text.f r k n s) (if valS k n s then (textS k n s, 0) else (⟨#[]⟩, 1)) := by
  unfold val_Text.f
  refine Ev.bind (val_Check_ev k n s hs) ?_
  cases h : valS k n s with
  | false => exact evNeg (by decide) (evSome rfl)
  | true =>
    refine evPos rfl ?_
    simp only [if_true]
    unfold textS
    refine evIf (fun e => ?_) (fun e => ?_)
    · subst e
      obtain ⟨hb, _⟩ := valS_int h
      rw [InB_iff] at hb
      rw [if_pos rfl]
      simp only [strconv_Itoa.f]
      rw [if_pos ⟨by omega, by omega⟩]
      exact evSome rfl
    · rw [if_neg e]
      refine evIf (fun e2 => evSome (by rw [if_pos e2])) (fun e2 => ?_)
      rw [if_neg e2]
      obtain ⟨_, _, _, h4⟩ := valS_str h e e2
      exact Ev.bind (val_quoted_ev s (by omega)) (evSome rfl)
end Go.Proofs.YtaopajmpifenoaaDoor.P
end
