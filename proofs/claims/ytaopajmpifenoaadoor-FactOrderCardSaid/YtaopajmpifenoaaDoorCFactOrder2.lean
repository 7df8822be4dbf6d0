/- Part 3 of the proof of FactOrder: words, contracts of functions of the program (what a call answers), and what the answers say. -/
import Derived.Lib.Bytes
import Derived.Laws.BitsLemmas
import Derived.Laws.Bits64
import Derived.Lib.ItoaNum
import Derived.Lib.LazyBuf
import Derived.Lib.ItoaLen
import Derived.Lib.Join
import Derived.Lib.JoinLaws
import Derived.Test.YtaopajmpifenoaaDoorVWords
import Derived.Test.YtaopajmpifenoaaDoorVLast
import Derived.Test.YtaopajmpifenoaaDoorVApart
import Derived.Test.YtaopajmpifenoaaDoorVArr
import Derived.Test.YtaopajmpifenoaaDoorVFoot
import Derived.Test.YtaopajmpifenoaaDoorVKept
import Derived.Test.YtaopajmpifenoaaDoorVShare
import Derived.Test.YtaopajmpifenoaaDoorVZeros
import Derived.Test.YtaopajmpifenoaaDoorVN
import Derived.Test.YtaopajmpifenoaaDoorVFootNe
import Derived.Test.YtaopajmpifenoaaDoorVAt
import Derived.Test.YtaopajmpifenoaaDoorVEqStruct
import Derived.Test.YtaopajmpifenoaaDoorVTab
import Derived.Test.YtaopajmpifenoaaDoorVFour
import Derived.Test.YtaopajmpifenoaaDoorVGuard
import Derived.Test.YtaopajmpifenoaaDoorVInv
import Derived.Test.YtaopajmpifenoaaDoorVInvWords
import Derived.Test.YtaopajmpifenoaaDoorVQPut
import Derived.Test.YtaopajmpifenoaaDoorVNEv
import Derived.Test.YtaopajmpifenoaaDoorVMore
import Derived.Test.YtaopajmpifenoaaDoorVRepsOne
import Derived.Test.YtaopajmpifenoaaDoorVSized
import Derived.Test.YtaopajmpifenoaaDoorCFactOrder0
import Derived.Test.YtaopajmpifenoaaDoorCFactOrder1
section
namespace Go.Proofs.YtaopajmpifenoaaDoor.P
open Go.RowKit Go.Proofs.YtaopajmpifenoaaDoorW.PrintWords Go.Proofs.YtaopajmpifenoaaDoorW.PrintLast Go.Proofs.YtaopajmpifenoaaDoorW.PrintMore
attribute [local go_sem] max2_int min2_int max_two min_two max_three min_three max_four min_four
set_option linter.unusedVariables false
set_option linter.unusedSimpArgs false
def constableref01_Facts.l0 : Nat → Int → ByteArray → List (S44) → ByteArray → List (S44) → Option (Int)
 | 0, _, _, _, _, _ => none
 | k + 1, x7, x218000, x218001, x219000, x219001 => if x7 < (x218001.length : Int) then (if 0 ≤ x7 then (if x7 < (x219001.length : Int) then ((constableref01_Values.f k ((rd_T44 x218001 x7).f0) ((rd_T44 x218001 x7).f1) ((rd_T44 x218001 x7).f2) ((rd_T44 x219001 x7).f0) ((rd_T44 x219001 x7).f1) ((rd_T44 x219001 x7).f2)).bind fun t223 => (if t223 = 0 then (constableref01_Facts.l0 k (wrap64 (x7 + 1)) x218000 x218001 x219000 x219001) else (some t223))) else (none)) else (none)) else (some 0)
def constableref01_Facts.f (k : Nat) (a0_0 : ByteArray) (l0_1 : List (S44)) (a1_0 : ByteArray) (l1_1 : List (S44)) : Option (Int) := (constableref01_Strings.f k a0_0 a1_0).bind fun t219 => (if t219 = 0 then ((constableref01_order.f (l0_1.length : Int) (l1_1.length : Int)).bind fun t220 => (if t220 = 0 then (constableref01_Facts.l0 k 0 a0_0 l0_1 a1_0 l1_1) else (some t220))) else (some t219))
theorem constableref01_Facts.mono_l : ∀ k, (∀ y0 y1 y2 y3 y4, LeO (constableref01_Facts.l0 k y0 y1 y2 y3 y4) (constableref01_Facts.l0 (k + 1) y0 y1 y2 y3 y4))
 | 0 => fun _ _ _ _ _ r h => by simp [constableref01_Facts.l0] at h
 | k + 1 => by
  have ih0 := constableref01_Facts.mono_l k
  ·intro y0 y1 y2 y3 y4
   unfold constableref01_Facts.l0
   repeat' first
   | (with_reducible exact ih0 _ _ _ _ _)
   | (with_reducible exact constableref01_Strings.mono ..)
   | (with_reducible exact constableref01_Values.mono ..)
   | (with_reducible exact LeO.refl _)
   | (with_reducible exact LeO.none _)
   | (with_reducible refine LeO.ite ?_ ?_)
   | (with_reducible refine LeO.bind ?_ (fun _ => ?_))
   | exact ih0 _ _ _ _ _
   | exact constableref01_Strings.mono ..
   | exact constableref01_Values.mono ..
   | exact LeO.none _
   | refine LeO.ite ?_ ?_
   | refine LeO.bind ?_ (fun _ => ?_)
theorem constableref01_Facts.mono : ∀ a0 a1 a2 a3 k, LeO (constableref01_Facts.f k a0 a1 a2 a3) (constableref01_Facts.f (k + 1) a0 a1 a2 a3) := by
 intro a0 a1 a2 a3 k
 have ih0 := constableref01_Facts.mono_l k
 unfold constableref01_Facts.f
 repeat' first
   | (with_reducible exact ih0 _ _ _ _ _)
   | (with_reducible exact constableref01_Strings.mono ..)
   | (with_reducible exact constableref01_Values.mono ..)
   | (with_reducible exact LeO.refl _)
   | (with_reducible exact LeO.none _)
   | (with_reducible refine LeO.ite ?_ ?_)
   | (with_reducible refine LeO.bind ?_ (fun _ => ?_))
   | exact ih0 _ _ _ _ _
   | exact constableref01_Strings.mono ..
   | exact constableref01_Values.mono ..
   | exact LeO.none _
   | refine LeO.ite ?_ ?_
   | refine LeO.bind ?_ (fun _ => ?_)
def constableref01_Facts.T10 : Bool × List (List Nat × List Nat) := (true, [([], []), ([0], [0]), ([], []), ([1, 2], [1, 2]), ([3], [3]), ([], []), ([5], [5]), ([], []), ([6, 7], [6, 7]), ([8], [8]), ([4, 9], [4, 9]), ([10, 10, 0, 1, 2, 3, 4, 5, 6, 7, 8, 9, 10], [10])])
def constableref01_Facts.B10 : List Nat := [0, 1, 0, 7, 15, 0, 32, 0, 224, 480, 1023, 2047]
theorem constableref01_Facts.tab10 : rtab .any (opsOf Tryd.f18 10) = constableref01_Facts.T10 := by kernel_rfl
theorem constableref01_Facts.bits10 : waitsOk constableref01_Facts.T10.2 constableref01_Facts.B10 = true := by kernel_rfl
set_option maxHeartbeats 8000000 in
set_option maxRecDepth 100000 in
theorem constableref01_Facts.calls (k : Nat) (a0_0 : ByteArray) (A0_1 : Option Addr) (c0_1 : Nat) (l0_1 : List (S44)) (a1_0 : ByteArray) (A1_1 : Option Addr) (c1_1 : Nat) (l1_1 : List (S44)) (r : Int) (w : World) (hr0_1 : Kd.C k44 w A0_1 l0_1.length l0_1) (hc0_1 : l0_1.length ≤ c0_1) (hr1_1 : Kd.C k44 w A1_1 l1_1.length l1_1) (hc1_1 : l1_1.length ≤ c1_1) (h : constableref01_Facts.f k a0_0 l0_1 a1_0 l1_1 = some r) :
  Calls Tryd.prog 18 #[.agg #[.string a0_0, .slice A0_1 l0_1.length c0_1], .agg #[.string a1_0, .slice A1_1 l1_1.length c1_1]] w fun e w' => e = .returned (.int .i64 r) ∧ Below w.heap.size w w' := by
 have hu24 := Tryd.underlying24
 have hu44 := Tryd.underlying44
 have HR0_1 := Aside0.mk hr0_1
 have HC0_1 := Aside0.mk hc0_1
 clear hr0_1 hc0_1
 have HR1_1 := Aside0.mk hr1_1
 have HC1_1 := Aside0.mk hc1_1
 clear hr1_1 hc1_1
 have HB := Aside0.mk (Below.refl w.heap.size w)
 have H : ((constableref01_Strings.f k a0_0 a1_0).bind fun t219 => (if t219 = 0 then ((constableref01_order.f (l0_1.length : Int) (l1_1.length : Int)).bind fun t220 => (if t220 = 0 then (constableref01_Facts.l0 k 0 a0_0 l0_1 a1_0 l1_1) else (some t220))) else (some t219))) = some r := h
 clear h
 replace H := Option.bind_eq_some_iff.mp H
 obtain ⟨t219, A30, H⟩ := H
 try dsimp only at H
 have A3 := Aside0.mk A30
 clear A30
 by_cases c4 : t219 = 0
 ·rw [if_pos c4] at H
  obtain ⟨c4b0, c4b1⟩ := eqB_ c4
  clear c4
  replace H := Option.bind_eq_some_iff.mp H
  obtain ⟨t220, A50, H⟩ := H
  try dsimp only at H
  have A5 := Aside0.mk A50
  clear A50
  by_cases c6 : t220 = 0
  ·rw [if_pos c6] at H
   obtain ⟨c6b0, c6b1⟩ := eqB_ c6
   clear c6
   have H' := Aside0.mk H
   clear H
   go_enter Tryd.func18, Tryd.ntmps18
   go_wp2_with (first | ((with_reducible refine gate_dst (N := 2) rfl ?_); refine box_event ?hg (N := 2) ?hd (cs := #[.string a0_0, .slice A0_1 l0_1.length c0_1]) (t := 24) ?hr ?_; (case hd => rfl); (case hg => rfl); (case hr => first | (go_simp; done) | (go_simp; rfl)); intro gb217 hg w7 hbox hb; have BK217 := Aside0.mk (hbox); have GW217 := gs_ hg (be_ HB); have GE217 := gs_ hg (be_ HB); replace HB := bs_ (be_ HB) hb; clear hb hbox hg) | ((with_reducible refine gate_dst (N := 3) rfl ?_); refine box_event ?hg (N := 3) ?hd (cs := #[.string a1_0, .slice A1_1 l1_1.length c1_1]) (t := 24) ?hr ?_; (case hd => rfl); (case hg => rfl); (case hr => first | (go_simp; done) | (go_simp; rfl)); intro gb218 hg w8 hbox hb; have BK218 := Aside0.mk (hbox); have GW218 := gs_ hg (be_ HB); have GE218 := gs_ hg (be_ HB); replace HB := bs_ (be_ HB) hb; have NB217_218 := nl_ hg (bu_ BK217); have NB218_217 := ng_ hg (bu_ BK217); replace BK217 := bb_ (bu_ BK217) hb; clear hb hbox hg; have hnb9 := NB217_218.out; have hnc9 := NB218_217.out; have hcz10_0 : w8.cell? ⟨gb217, 0, none⟩ = some (.string a0_0) := (blk_cell BK217.out 0).trans rfl; have hcz10_1 : w8.cell? ⟨gb217, 1, none⟩ = some (.slice A0_1 l0_1.length c0_1) := (blk_cell BK217.out 1).trans rfl; have hfz10_0 := blk_frozen BK217.out 0; have hfz10_1 := blk_frozen BK217.out 1; have hcz11_0 : w8.cell? ⟨gb218, 0, none⟩ = some (.string a1_0) := (blk_cell BK218.out 0).trans rfl; have hcz11_1 : w8.cell? ⟨gb218, 1, none⟩ = some (.slice A1_1 l1_1.length c1_1) := (blk_cell BK218.out 1).trans rfl; have hfz11_0 := blk_frozen BK218.out 0; have hfz11_1 := blk_frozen BK218.out 1) | ((with_reducible refine gate_callee (f := 43) rfl ?_); refine goesL_ (some 13) rfl rfl Tryd.func43 (by kernel_rfl) rfl #[.string a0_0, .string a1_0] rfl ga_ ?_; (with_reducible refine (constableref01_Strings.calls k a0_0 a1_0 t219 _ A3.out).mono ?_); rintro e w' ⟨rfl, ⟨nd, rfl⟩⟩; refine ⟨_, rfl, ?_⟩) | ((with_reducible refine gate_callee (f := 44) rfl ?_); refine goesL_ (some 23) rfl rfl Tryd.func44 (by kernel_rfl) rfl #[.int .i64 (l0_1.length : Int), .int .i64 (l1_1.length : Int)] rfl ga_ ?_; (with_reducible refine (constableref01_order.calls (l0_1.length : Int) (l1_1.length : Int) t220 _ A5.out).mono ?_); rintro e w' ⟨rfl, ⟨nd, rfl⟩⟩; refine ⟨_, rfl, ?_⟩))
   go_loopg [7] k (fun kq v7 w' => ∃ (x7_1 : Int), v7 = .int .i64 x7_1 ∧ Aside0 (constableref01_Facts.l0 kq x7_1 a0_0 l0_1 a1_0 l1_1 = some r) ∧ Aside0 (kq ≤ k) ∧ Aside0 (w'.heap[gb217]? = some (.cells #[.string a0_0, (.slice A0_1 l0_1.length c0_1)] 24 (0, 0))) ∧ Aside0 (w'.heap[gb218]? = some (.cells #[.string a1_0, (.slice A1_1 l1_1.length c1_1)] 24 (0, 0))) ∧ Aside0 (Below w.heap.size w w'))
   case atStart => exact ⟨(0), ra_, H', ⟨Nat.le_refl _⟩, bu2_ BK217, bu2_ BK218, be2_ HB⟩
   case round =>
    clear H'
    try clear c1; try clear p2; try clear c4; try clear c4b0; try clear c4b1; try clear c6; try clear c6b0; try clear c6b1; try clear c9; try clear hcz10_0; try clear hcz10_1; try clear hcz11_0; try clear hcz11_1; try clear hfz10_0; try clear hfz10_1; try clear hfz11_0; try clear hfz11_1
    obtain ⟨x7_1, rfl, HA, HK1, BK217, BK218, HB⟩ := hrel
    cases gk with
    | zero => exact absurd HA.out (by simp [constableref01_Facts.l0])
    | succ k1 =>
     have H := HA.out
     clear HA
     simp only [constableref01_Facts.l0] at H
     by_cases c12 : x7_1 < (l0_1.length : Int)
     ·rw [if_pos c12] at H
      have c12b0 : decide (x7_1 < (l0_1.length : Int)) = true := decide_eq_true c12
      clear c12
      by_cases c13 : 0 ≤ x7_1
      ·rw [if_pos c13] at H
       have c13b0 : decide (0 ≤ x7_1) = true := decide_eq_true c13
       clear c13
       by_cases c14 : x7_1 < (l1_1.length : Int)
       ·rw [if_pos c14] at H
        have c14b0 : decide (x7_1 < (l1_1.length : Int)) = true := decide_eq_true c14
        clear c14
        replace H := Option.bind_eq_some_iff.mp H
        obtain ⟨t223, A150, H⟩ := H
        try dsimp only at H
        have A15 := Aside0.mk A150
        clear A150
        by_cases c16 : t223 = 0
        ·rw [if_pos c16] at H
         obtain ⟨c16b0, c16b1⟩ := eqB_ c16
         clear c16
         have H' := Aside0.mk H
         clear H
         have hnb17 := NB217_218.out
         have hnc17 := NB218_217.out
         have hcz18_0 : wr.cell? ⟨gb217, 0, none⟩ = some (.string a0_0) := (blk_cell BK217.out 0).trans rfl
         have hcz18_1 : wr.cell? ⟨gb217, 1, none⟩ = some (.slice A0_1 l0_1.length c0_1) := (blk_cell BK217.out 1).trans rfl
         have hfz18_0 := blk_frozen BK217.out 0
         have hfz18_1 := blk_frozen BK217.out 1
         try go_wp2
         have n0_ := Aside0.mk (blk_drew BK217.out)
         have n1_ := Aside0.mk (blk_drew BK218.out)
         have n2_ := Aside0.mk (below_drew1 HB.out)
         clear BK217
         clear BK218
         clear HB
         have BK217 := n0_
         have BK218 := n1_
         have HB := n2_
         clear n0_ n1_ n2_
         have p221 : 0 ≤ (x7_1 : Int) := dt_
         have q221 : x7_1 < (l0_1.length : Int) := dt_
         obtain ⟨ad221, e221, hx221_0, hx221_1, hx221_2⟩ := at_T44 HR0_1.out x7_1 p221 q221
         have hw221_2 := hx221_2
         have hw221_1 := hx221_1
         have hw221_0 := hx221_0
         cases e221
         replace hx221_0 := cm_ HB hx221_0
         replace hx221_1 := cm_ HB hx221_1
         replace hx221_2 := cm_ HB hx221_2
         replace p221 := eq_true p221
         replace q221 := eq_true q221
         have p222 : 0 ≤ (x7_1 : Int) := dt_
         have q222 : x7_1 < (l1_1.length : Int) := dt_
         obtain ⟨ad222, e222, hx222_0, hx222_1, hx222_2⟩ := at_T44 HR1_1.out x7_1 p222 q222
         have hw222_2 := hx222_2
         have hw222_1 := hx222_1
         have hw222_0 := hx222_0
         cases e222
         replace hx222_0 := cm_ HB hx222_0
         replace hx222_1 := cm_ HB hx222_1
         replace hx222_2 := cm_ HB hx222_2
         replace p222 := eq_true p222
         replace q222 := eq_true q222
         refine start_ (n := 12) (S := fun w' => w'.cell? ⟨gb217, 0, none⟩ = some (.string a0_0) ∧ w'.cell? ⟨gb217, 1, none⟩ = some (.slice (some ad221) l0_1.length c0_1) ∧ w'.cell? ⟨gb218, 0, none⟩ = some (.string a1_0) ∧ w'.cell? ⟨gb218, 1, none⟩ = some (.slice (some ad222) l1_1.length c1_1) ∧ w'.cell? (ad221.add ((x7_1).toNat * 3)) = some (.int .i64 ((rd_T44 l0_1 x7_1).f0)) ∧ w'.cell? ⟨(ad221.add ((x7_1).toNat * 3)).block, (ad221.add ((x7_1).toNat * 3)).off + 1, none⟩ = some (.int .i64 ((rd_T44 l0_1 x7_1).f1)) ∧ w'.cell? ⟨(ad221.add ((x7_1).toNat * 3)).block, (ad221.add ((x7_1).toNat * 3)).off + 2, none⟩ = some (.string ((rd_T44 l0_1 x7_1).f2)) ∧ w'.cell? (ad222.add ((x7_1).toNat * 3)) = some (.int .i64 ((rd_T44 l1_1 x7_1).f0)) ∧ w'.cell? ⟨(ad222.add ((x7_1).toNat * 3)).block, (ad222.add ((x7_1).toNat * 3)).off + 1, none⟩ = some (.int .i64 ((rd_T44 l1_1 x7_1).f1)) ∧ w'.cell? ⟨(ad222.add ((x7_1).toNat * 3)).block, (ad222.add ((x7_1).toNat * 3)).off + 2, none⟩ = some (.string ((rd_T44 l1_1 x7_1).f2))) (ds := []) (mk_ 12 0) (by kernel_rfl) rfl rfl ⟨(blk_cell BK217.out 0).trans rfl, (blk_cell BK217.out 1).trans rfl, (blk_cell BK218.out 0).trans rfl, (blk_cell BK218.out 1).trans rfl, (cl_ HB hw221_0), (cl_ HB hw221_1), (cl_ HB hw221_2), (cl_ HB hw222_0), (cl_ HB hw222_1), (cl_ HB hw222_2)⟩ (fun hHeld => ?_); refine with_tabW constableref01_Facts.tab10 constableref01_Facts.bits10 (fun HT_ HW_ => ?_)
         generalize wr.drew = w19 at BK217 BK218 HB hx221_0 hx221_1 hx221_2 hx222_0 hx222_1 hx222_2 hHeld ⊢
         refine pu_ 0 34 1 HT_ ?_; refine pu_ 2 36 5 HT_ ?_; refine pu_ 5 39 37 HT_ ?_; refine pu_ 7 41 165 HT_ ?_; refine tk_ 1 35 167 HT_ HW_ hHeld ?_; refine pu_ 3 37 175 HT_ ?_; refine tk_ 4 38 191 HT_ HW_ hHeld ?_; refine tk_ 6 40 255 HT_ HW_ hHeld ?_; refine pu_ 8 42 511 HT_ ?_; refine tk_ 9 43 1023 HT_ HW_ hHeld ?_
         refine one_ (i := 10) (N := some 44) (mk_ 12 2047) rfl rfl (one_of HT_.out (by kernel_rfl)) (by decide) (fun K hK => ?_)
         refine goes_ Tryd.func30 (by kernel_rfl) rfl #[.agg #[.int .i64 ((rd_T44 l0_1 x7_1).f0), .int .i64 ((rd_T44 l0_1 x7_1).f1), .string ((rd_T44 l0_1 x7_1).f2)], .agg #[.int .i64 ((rd_T44 l1_1 x7_1).f0), .int .i64 ((rd_T44 l1_1 x7_1).f1), .string ((rd_T44 l1_1 x7_1).f2)]] (by rfl) rfl rfl ga_ ?_
         with_reducible refine (constableref01_Values.calls k1 ((rd_T44 l0_1 x7_1).f0) ((rd_T44 l0_1 x7_1).f1) ((rd_T44 l0_1 x7_1).f2) ((rd_T44 l1_1 x7_1).f0) ((rd_T44 l1_1 x7_1).f1) ((rd_T44 l1_1 x7_1).f2) t223 _ A15.out).mono ?_
         rintro e w20 ⟨rfl, hb⟩
         refine ⟨_, rfl, ?_⟩
         have n0_ := bb_ (bu_ BK217) hb
         have n1_ := bb_ (bu_ BK218) hb
         have n2_ := bs_ (be_ HB) hb
         clear BK217
         clear BK218
         clear HB
         have BK217 := n0_
         have BK218 := n1_
         have HB := n2_
         clear n0_ n1_ n2_
         (try clear hb)
         (try clear hb2)
         (try clear hk)
         (try clear hi)
         refine hK.out _ _ ⟨(blk_cell BK217.out 0).trans rfl, (blk_cell BK217.out 1).trans rfl, (blk_cell BK218.out 0).trans rfl, (blk_cell BK218.out 1).trans rfl, (cl_ HB hw221_0), (cl_ HB hw221_1), (cl_ HB hw221_2), (cl_ HB hw222_0), (cl_ HB hw222_1), (cl_ HB hw222_2)⟩ (fun hHeld => ?_)
         clear hK K
         refine nm_ 44 ?_; refine pu_ 11 8 4095 HT_ ?_
         refine done_ (done_of HT_.out (by kernel_rfl)) ?_
         try go_wp2
         go_roundg k1
         case measure => have := HK1.out; omega
         case rel => exact ⟨(wrap64 (x7_1 + 1)), ra_, H', ⟨by have := HK1.out; omega⟩, bu2_ BK217, bu2_ BK218, be2_ HB⟩
        ·rw [if_neg c16] at H
         obtain ⟨c16b0, c16b1⟩ := neB_ c16
         obtain rfl := Option.some.inj H
         have hnb21 := NB217_218.out
         have hnc21 := NB218_217.out
         have hcz22_0 : wr.cell? ⟨gb217, 0, none⟩ = some (.string a0_0) := (blk_cell BK217.out 0).trans rfl
         have hcz22_1 : wr.cell? ⟨gb217, 1, none⟩ = some (.slice A0_1 l0_1.length c0_1) := (blk_cell BK217.out 1).trans rfl
         have hfz22_0 := blk_frozen BK217.out 0
         have hfz22_1 := blk_frozen BK217.out 1
         try go_wp2
         have n0_ := Aside0.mk (blk_drew BK217.out)
         have n1_ := Aside0.mk (blk_drew BK218.out)
         have n2_ := Aside0.mk (below_drew1 HB.out)
         clear BK217
         clear BK218
         clear HB
         have BK217 := n0_
         have BK218 := n1_
         have HB := n2_
         clear n0_ n1_ n2_
         have p221 : 0 ≤ (x7_1 : Int) := dt_
         have q221 : x7_1 < (l0_1.length : Int) := dt_
         obtain ⟨ad221, e221, hx221_0, hx221_1, hx221_2⟩ := at_T44 HR0_1.out x7_1 p221 q221
         have hw221_2 := hx221_2
         have hw221_1 := hx221_1
         have hw221_0 := hx221_0
         cases e221
         replace hx221_0 := cm_ HB hx221_0
         replace hx221_1 := cm_ HB hx221_1
         replace hx221_2 := cm_ HB hx221_2
         replace p221 := eq_true p221
         replace q221 := eq_true q221
         have p222 : 0 ≤ (x7_1 : Int) := dt_
         have q222 : x7_1 < (l1_1.length : Int) := dt_
         obtain ⟨ad222, e222, hx222_0, hx222_1, hx222_2⟩ := at_T44 HR1_1.out x7_1 p222 q222
         have hw222_2 := hx222_2
         have hw222_1 := hx222_1
         have hw222_0 := hx222_0
         cases e222
         replace hx222_0 := cm_ HB hx222_0
         replace hx222_1 := cm_ HB hx222_1
         replace hx222_2 := cm_ HB hx222_2
         replace p222 := eq_true p222
         replace q222 := eq_true q222
         refine start_ (n := 12) (S := fun w' => w'.cell? ⟨gb217, 0, none⟩ = some (.string a0_0) ∧ w'.cell? ⟨gb217, 1, none⟩ = some (.slice (some ad221) l0_1.length c0_1) ∧ w'.cell? ⟨gb218, 0, none⟩ = some (.string a1_0) ∧ w'.cell? ⟨gb218, 1, none⟩ = some (.slice (some ad222) l1_1.length c1_1) ∧ w'.cell? (ad221.add ((x7_1).toNat * 3)) = some (.int .i64 ((rd_T44 l0_1 x7_1).f0)) ∧ w'.cell? ⟨(ad221.add ((x7_1).toNat * 3)).block, (ad221.add ((x7_1).toNat * 3)).off + 1, none⟩ = some (.int .i64 ((rd_T44 l0_1 x7_1).f1)) ∧ w'.cell? ⟨(ad221.add ((x7_1).toNat * 3)).block, (ad221.add ((x7_1).toNat * 3)).off + 2, none⟩ = some (.string ((rd_T44 l0_1 x7_1).f2)) ∧ w'.cell? (ad222.add ((x7_1).toNat * 3)) = some (.int .i64 ((rd_T44 l1_1 x7_1).f0)) ∧ w'.cell? ⟨(ad222.add ((x7_1).toNat * 3)).block, (ad222.add ((x7_1).toNat * 3)).off + 1, none⟩ = some (.int .i64 ((rd_T44 l1_1 x7_1).f1)) ∧ w'.cell? ⟨(ad222.add ((x7_1).toNat * 3)).block, (ad222.add ((x7_1).toNat * 3)).off + 2, none⟩ = some (.string ((rd_T44 l1_1 x7_1).f2))) (ds := []) (mk_ 12 0) (by kernel_rfl) rfl rfl ⟨(blk_cell BK217.out 0).trans rfl, (blk_cell BK217.out 1).trans rfl, (blk_cell BK218.out 0).trans rfl, (blk_cell BK218.out 1).trans rfl, (cl_ HB hw221_0), (cl_ HB hw221_1), (cl_ HB hw221_2), (cl_ HB hw222_0), (cl_ HB hw222_1), (cl_ HB hw222_2)⟩ (fun hHeld => ?_); refine with_tabW constableref01_Facts.tab10 constableref01_Facts.bits10 (fun HT_ HW_ => ?_)
         generalize wr.drew = w23 at BK217 BK218 HB hx221_0 hx221_1 hx221_2 hx222_0 hx222_1 hx222_2 hHeld ⊢
         refine pu_ 0 34 1 HT_ ?_; refine pu_ 2 36 5 HT_ ?_; refine pu_ 5 39 37 HT_ ?_; refine pu_ 7 41 165 HT_ ?_; refine tk_ 1 35 167 HT_ HW_ hHeld ?_; refine pu_ 3 37 175 HT_ ?_; refine tk_ 4 38 191 HT_ HW_ hHeld ?_; refine tk_ 6 40 255 HT_ HW_ hHeld ?_; refine pu_ 8 42 511 HT_ ?_; refine tk_ 9 43 1023 HT_ HW_ hHeld ?_
         refine one_ (i := 10) (N := some 44) (mk_ 12 2047) rfl rfl (one_of HT_.out (by kernel_rfl)) (by decide) (fun K hK => ?_)
         refine goes_ Tryd.func30 (by kernel_rfl) rfl #[.agg #[.int .i64 ((rd_T44 l0_1 x7_1).f0), .int .i64 ((rd_T44 l0_1 x7_1).f1), .string ((rd_T44 l0_1 x7_1).f2)], .agg #[.int .i64 ((rd_T44 l1_1 x7_1).f0), .int .i64 ((rd_T44 l1_1 x7_1).f1), .string ((rd_T44 l1_1 x7_1).f2)]] (by rfl) rfl rfl ga_ ?_
         with_reducible refine (constableref01_Values.calls k1 ((rd_T44 l0_1 x7_1).f0) ((rd_T44 l0_1 x7_1).f1) ((rd_T44 l0_1 x7_1).f2) ((rd_T44 l1_1 x7_1).f0) ((rd_T44 l1_1 x7_1).f1) ((rd_T44 l1_1 x7_1).f2) t223 _ A15.out).mono ?_
         rintro e w24 ⟨rfl, hb⟩
         refine ⟨_, rfl, ?_⟩
         have n0_ := bb_ (bu_ BK217) hb
         have n1_ := bb_ (bu_ BK218) hb
         have n2_ := bs_ (be_ HB) hb
         clear BK217
         clear BK218
         clear HB
         have BK217 := n0_
         have BK218 := n1_
         have HB := n2_
         clear n0_ n1_ n2_
         (try clear hb)
         (try clear hb2)
         (try clear hk)
         (try clear hi)
         refine hK.out _ _ ⟨(blk_cell BK217.out 0).trans rfl, (blk_cell BK217.out 1).trans rfl, (blk_cell BK218.out 0).trans rfl, (blk_cell BK218.out 1).trans rfl, (cl_ HB hw221_0), (cl_ HB hw221_1), (cl_ HB hw221_2), (cl_ HB hw222_0), (cl_ HB hw222_1), (cl_ HB hw222_2)⟩ (fun hHeld => ?_)
         clear hK K
         refine nm_ 44 ?_; refine pu_ 11 8 4095 HT_ ?_
         refine done_ (done_of HT_.out (by kernel_rfl)) ?_
         try go_wp2
         go_ret
         exact ⟨re_, be_ HB⟩
       ·rw [if_neg c14] at H
        exact absurd H (by simp)
      ·rw [if_neg c13] at H
       exact absurd H (by simp)
     ·rw [if_neg c12] at H
      have c12b0 : decide (x7_1 < (l0_1.length : Int)) = false := decide_eq_false c12
      clear c12
      obtain rfl := Option.some.inj H
      have hnb25 := NB217_218.out
      have hnc25 := NB218_217.out
      have hcz26_0 : wr.cell? ⟨gb217, 0, none⟩ = some (.string a0_0) := (blk_cell BK217.out 0).trans rfl
      have hcz26_1 : wr.cell? ⟨gb217, 1, none⟩ = some (.slice A0_1 l0_1.length c0_1) := (blk_cell BK217.out 1).trans rfl
      have hfz26_0 := blk_frozen BK217.out 0
      have hfz26_1 := blk_frozen BK217.out 1
      go_wp2
      go_ret
      exact ⟨re_, be_ HB⟩
  ·rw [if_neg c6] at H
   obtain ⟨c6b0, c6b1⟩ := neB_ c6
   obtain rfl := Option.some.inj H
   go_enter Tryd.func18, Tryd.ntmps18
   go_wp2_with (first | ((with_reducible refine gate_dst (N := 2) rfl ?_); refine box_event ?hg (N := 2) ?hd (cs := #[.string a0_0, .slice A0_1 l0_1.length c0_1]) (t := 24) ?hr ?_; (case hd => rfl); (case hg => rfl); (case hr => first | (go_simp; done) | (go_simp; rfl)); intro gb217 hg w27 hbox hb; have BK217 := Aside0.mk (hbox); have GW217 := gs_ hg (be_ HB); have GE217 := gs_ hg (be_ HB); replace HB := bs_ (be_ HB) hb; clear hb hbox hg) | ((with_reducible refine gate_dst (N := 3) rfl ?_); refine box_event ?hg (N := 3) ?hd (cs := #[.string a1_0, .slice A1_1 l1_1.length c1_1]) (t := 24) ?hr ?_; (case hd => rfl); (case hg => rfl); (case hr => first | (go_simp; done) | (go_simp; rfl)); intro gb218 hg w28 hbox hb; have BK218 := Aside0.mk (hbox); have GW218 := gs_ hg (be_ HB); have GE218 := gs_ hg (be_ HB); replace HB := bs_ (be_ HB) hb; have NB217_218 := nl_ hg (bu_ BK217); have NB218_217 := ng_ hg (bu_ BK217); replace BK217 := bb_ (bu_ BK217) hb; clear hb hbox hg; have hnb29 := NB217_218.out; have hnc29 := NB218_217.out; have hcz30_0 : w28.cell? ⟨gb217, 0, none⟩ = some (.string a0_0) := (blk_cell BK217.out 0).trans rfl; have hcz30_1 : w28.cell? ⟨gb217, 1, none⟩ = some (.slice A0_1 l0_1.length c0_1) := (blk_cell BK217.out 1).trans rfl; have hfz30_0 := blk_frozen BK217.out 0; have hfz30_1 := blk_frozen BK217.out 1; have hcz31_0 : w28.cell? ⟨gb218, 0, none⟩ = some (.string a1_0) := (blk_cell BK218.out 0).trans rfl; have hcz31_1 : w28.cell? ⟨gb218, 1, none⟩ = some (.slice A1_1 l1_1.length c1_1) := (blk_cell BK218.out 1).trans rfl; have hfz31_0 := blk_frozen BK218.out 0; have hfz31_1 := blk_frozen BK218.out 1) | ((with_reducible refine gate_callee (f := 43) rfl ?_); refine goesL_ (some 13) rfl rfl Tryd.func43 (by kernel_rfl) rfl #[.string a0_0, .string a1_0] rfl ga_ ?_; (with_reducible refine (constableref01_Strings.calls k a0_0 a1_0 t219 _ A3.out).mono ?_); rintro e w' ⟨rfl, ⟨nd, rfl⟩⟩; refine ⟨_, rfl, ?_⟩) | ((with_reducible refine gate_callee (f := 44) rfl ?_); refine goesL_ (some 23) rfl rfl Tryd.func44 (by kernel_rfl) rfl #[.int .i64 (l0_1.length : Int), .int .i64 (l1_1.length : Int)] rfl ga_ ?_; (with_reducible refine (constableref01_order.calls (l0_1.length : Int) (l1_1.length : Int) t220 _ A5.out).mono ?_); rintro e w' ⟨rfl, ⟨nd, rfl⟩⟩; refine ⟨_, rfl, ?_⟩))
   go_ret
   exact ⟨re_, be_ HB⟩
 ·rw [if_neg c4] at H
  obtain ⟨c4b0, c4b1⟩ := neB_ c4
  obtain rfl := Option.some.inj H
  go_enter Tryd.func18, Tryd.ntmps18
  go_wp2_with (first | ((with_reducible refine gate_dst (N := 2) rfl ?_); refine box_event ?hg (N := 2) ?hd (cs := #[.string a0_0, .slice A0_1 l0_1.length c0_1]) (t := 24) ?hr ?_; (case hd => rfl); (case hg => rfl); (case hr => first | (go_simp; done) | (go_simp; rfl)); intro gb217 hg w32 hbox hb; have BK217 := Aside0.mk (hbox); have GW217 := gs_ hg (be_ HB); have GE217 := gs_ hg (be_ HB); replace HB := bs_ (be_ HB) hb; clear hb hbox hg) | ((with_reducible refine gate_dst (N := 3) rfl ?_); refine box_event ?hg (N := 3) ?hd (cs := #[.string a1_0, .slice A1_1 l1_1.length c1_1]) (t := 24) ?hr ?_; (case hd => rfl); (case hg => rfl); (case hr => first | (go_simp; done) | (go_simp; rfl)); intro gb218 hg w33 hbox hb; have BK218 := Aside0.mk (hbox); have GW218 := gs_ hg (be_ HB); have GE218 := gs_ hg (be_ HB); replace HB := bs_ (be_ HB) hb; have NB217_218 := nl_ hg (bu_ BK217); have NB218_217 := ng_ hg (bu_ BK217); replace BK217 := bb_ (bu_ BK217) hb; clear hb hbox hg; have hnb34 := NB217_218.out; have hnc34 := NB218_217.out; have hcz35_0 : w33.cell? ⟨gb217, 0, none⟩ = some (.string a0_0) := (blk_cell BK217.out 0).trans rfl; have hcz35_1 : w33.cell? ⟨gb217, 1, none⟩ = some (.slice A0_1 l0_1.length c0_1) := (blk_cell BK217.out 1).trans rfl; have hfz35_0 := blk_frozen BK217.out 0; have hfz35_1 := blk_frozen BK217.out 1; have hcz36_0 : w33.cell? ⟨gb218, 0, none⟩ = some (.string a1_0) := (blk_cell BK218.out 0).trans rfl; have hcz36_1 : w33.cell? ⟨gb218, 1, none⟩ = some (.slice A1_1 l1_1.length c1_1) := (blk_cell BK218.out 1).trans rfl; have hfz36_0 := blk_frozen BK218.out 0; have hfz36_1 := blk_frozen BK218.out 1) | ((with_reducible refine gate_callee (f := 43) rfl ?_); refine goesL_ (some 13) rfl rfl Tryd.func43 (by kernel_rfl) rfl #[.string a0_0, .string a1_0] rfl ga_ ?_; (with_reducible refine (constableref01_Strings.calls k a0_0 a1_0 t219 _ A3.out).mono ?_); rintro e w' ⟨rfl, ⟨nd, rfl⟩⟩; refine ⟨_, rfl, ?_⟩))
  go_ret
  exact ⟨re_, be_ HB⟩
end Go.Proofs.YtaopajmpifenoaaDoor.P
end
section
namespace Go.Proofs.YtaopajmpifenoaaDoor.P
open Go.RowKit Go.Proofs.YtaopajmpifenoaaDoorW.PrintWords Go.Proofs.YtaopajmpifenoaaDoorW.PrintLast Go.Proofs.YtaopajmpifenoaaDoorW.PrintMore
attribute [local go_sem] max2_int min2_int max_two min_two max_three min_three max_four min_four
set_option linter.unusedVariables false
set_option linter.unusedSimpArgs false
mutual
def constableref01_Lists.l0 : Nat → List (S24) → List (S24) → Int → Option (Int)
 | 0, _, _, _ => none
 | k + 1, x0, x1, x5 => if x5 < (x0.length : Int) then (constableref01_Lists.j1 k x0 x1 x5 (decide (x5 < (x1.length : Int)))) else (constableref01_Lists.j1 k x0 x1 x5 false)
def constableref01_Lists.j1 : Nat → List (S24) → List (S24) → Int → Bool → Option (Int)
 | 0, _, _, _, _ => none
 | k + 1, x0, x1, x5, x16 => if x16 = true then (if 0 ≤ x5 then (if x5 < (x0.length : Int) then (if x5 < (x1.length : Int) then ((constableref01_Facts.f k ((rd_T24 x0 x5).f0) ((rd_T24 x0 x5).f1) ((rd_T24 x1 x5).f0) ((rd_T24 x1 x5).f1)).bind fun t232 => (if t232 = 0 then (constableref01_Lists.l0 k x0 x1 (wrap64 (x5 + 1))) else (some t232))) else (none)) else (none)) else (none)) else ((constableref01_order.f (x0.length : Int) (x1.length : Int)).bind fun t233 => (some t233))
end
def constableref01_Lists.f (k : Nat) (l0 : List (S24)) (l1 : List (S24)) : Option (Int) := constableref01_Lists.l0 k l0 l1 0
theorem constableref01_Lists.mono_l : ∀ k, (∀ y0 y1 y2, LeO (constableref01_Lists.l0 k y0 y1 y2) (constableref01_Lists.l0 (k + 1) y0 y1 y2)) ∧ (∀ y0 y1 y2 y3, LeO (constableref01_Lists.j1 k y0 y1 y2 y3) (constableref01_Lists.j1 (k + 1) y0 y1 y2 y3))
 | 0 => ⟨fun _ _ _ r h => by simp [constableref01_Lists.l0] at h, fun _ _ _ _ r h => by simp [constableref01_Lists.j1] at h⟩
 | k + 1 => by
  obtain ⟨ih0, ih1⟩ := constableref01_Lists.mono_l k
  refine ⟨?_, ?_⟩
  ·intro y0 y1 y2
   unfold constableref01_Lists.l0
   repeat' first
   | (with_reducible exact ih0 _ _ _)
   | (with_reducible exact ih1 _ _ _ _)
   | (with_reducible exact constableref01_Facts.mono ..)
   | (with_reducible exact LeO.refl _)
   | (with_reducible exact LeO.none _)
   | (with_reducible refine LeO.ite ?_ ?_)
   | (with_reducible refine LeO.bind ?_ (fun _ => ?_))
   | exact ih0 _ _ _
   | exact ih1 _ _ _ _
   | exact constableref01_Facts.mono ..
   | exact LeO.none _
   | refine LeO.ite ?_ ?_
   | refine LeO.bind ?_ (fun _ => ?_)
  ·intro y0 y1 y2 y3
   unfold constableref01_Lists.j1
   repeat' first
   | (with_reducible exact ih0 _ _ _)
   | (with_reducible exact ih1 _ _ _ _)
   | (with_reducible exact constableref01_Facts.mono ..)
   | (with_reducible exact LeO.refl _)
   | (with_reducible exact LeO.none _)
   | (with_reducible refine LeO.ite ?_ ?_)
   | (with_reducible refine LeO.bind ?_ (fun _ => ?_))
   | exact ih0 _ _ _
   | exact ih1 _ _ _ _
   | exact constableref01_Facts.mono ..
   | exact LeO.none _
   | refine LeO.ite ?_ ?_
   | refine LeO.bind ?_ (fun _ => ?_)
theorem constableref01_Lists.mono : ∀ a0 a1 k, LeO (constableref01_Lists.f k a0 a1) (constableref01_Lists.f (k + 1) a0 a1) := by
 intro a0 a1 k
 obtain ⟨ih0, ih1⟩ := constableref01_Lists.mono_l k
 unfold constableref01_Lists.f
 repeat' first
   | (with_reducible exact ih0 _ _ _)
   | (with_reducible exact ih1 _ _ _ _)
   | (with_reducible exact constableref01_Facts.mono ..)
   | (with_reducible exact LeO.refl _)
   | (with_reducible exact LeO.none _)
   | (with_reducible refine LeO.ite ?_ ?_)
   | (with_reducible refine LeO.bind ?_ (fun _ => ?_))
   | exact ih0 _ _ _
   | exact ih1 _ _ _ _
   | exact constableref01_Facts.mono ..
   | exact LeO.none _
   | refine LeO.ite ?_ ?_
   | refine LeO.bind ?_ (fun _ => ?_)
def constableref01_Lists.T4 : Bool × List (List Nat × List Nat) := (true, [([], []), ([], []), ([0, 1], [0, 1]), ([2], [2]), ([], []), ([], []), ([4, 5], [4, 5]), ([6], [6]), ([3, 7], [3, 7]), ([8, 8, 0, 1, 2, 3, 4, 5, 6, 7, 8], [8])])
def constableref01_Lists.B4 : List Nat := [0, 0, 3, 7, 0, 0, 48, 112, 255, 511]
theorem constableref01_Lists.tab4 : rtab .any (opsOf Tryd.f20 4) = constableref01_Lists.T4 := by kernel_rfl
theorem constableref01_Lists.bits4 : waitsOk constableref01_Lists.T4.2 constableref01_Lists.B4 = true := by kernel_rfl
set_option maxHeartbeats 8000000 in
set_option maxRecDepth 100000 in
theorem constableref01_Lists.calls (k : Nat) (A0 : Option Addr) (c0 : Nat) (l0 : List (S24)) (A1 : Option Addr) (c1 : Nat) (l1 : List (S24)) (r : Int) (w : World) (hr0 : Kd.C k24 w A0 l0.length l0) (hc0 : l0.length ≤ c0) (hr1 : Kd.C k24 w A1 l1.length l1) (hc1 : l1.length ≤ c1) (h : constableref01_Lists.f k l0 l1 = some r) :
  Calls Tryd.prog 20 #[.slice A0 l0.length c0, .slice A1 l1.length c1] w fun e w' => e = .returned (.int .i64 r) ∧ Below w.heap.size w w' := by
 have hu24 := Tryd.underlying24
 have HR0 := Aside0.mk hr0
 have HC0 := Aside0.mk hc0
 clear hr0 hc0
 have HR1 := Aside0.mk hr1
 have HC1 := Aside0.mk hc1
 clear hr1 hc1
 have HB := Aside0.mk (Below.refl w.heap.size w)
 have H : (constableref01_Lists.l0 k l0 l1 0) = some r := h
 clear h
 have H' := Aside0.mk H
 clear H
 go_enter Tryd.func20, Tryd.ntmps20
 go_wp2
 go_loopg [5] k (fun kq v5 w' => ∃ (x5_1 : Int), v5 = .int .i64 x5_1 ∧ Aside0 (constableref01_Lists.l0 kq l0 l1 x5_1 = some r) ∧ Aside0 (kq ≤ k) ∧ Aside0 (Below w.heap.size w w'))
 case atStart => exact ⟨(0), ra_, H', ⟨Nat.le_refl _⟩, be2_ HB⟩
 case round =>
  clear H'
  try clear c1; try clear c2; try clear p2
  obtain ⟨x5_1, rfl, HA, HK1, HB⟩ := hrel
  cases gk with
  | zero => exact absurd HA.out (by simp [constableref01_Lists.l0])
  | succ k1 =>
   have H := HA.out
   clear HA
   simp only [constableref01_Lists.l0] at H
   have HC3 := Aside0.mk H
   clear H
   go_upto_region 2 with (fail)
   go_cut [16] (fun v16 wc => ∃ (kq : Nat) (x16_2 : Bool), v16 = .bool x16_2 ∧ Aside0 (constableref01_Lists.j1 kq l0 l1 x5_1 x16_2 = some r) ∧ Aside0 (kq ≤ k1) ∧ Aside0 (Below w.heap.size w wc))
   case first =>
    have H := HC3.out
    clear HC3
    by_cases c4 : x5_1 < (l0.length : Int)
    ·rw [if_pos c4] at H
     have c4b0 : decide (x5_1 < (l0.length : Int)) = true := decide_eq_true c4
     clear c4
     (first | rw [c4b0] | (simp only [i64_w, i32_w]; rw [c4b0]) | skip)
     have H' := Aside0.mk H
     clear H
     go_wp2
     go_meet
     case rel => exact ⟨_, (decide (x5_1 < (l1.length : Int))), ra_, H', ⟨by have := HK1.out; first | omega | exact Nat.le_refl _⟩, be2_ HB⟩
    ·rw [if_neg c4] at H
     have c4b0 : decide (x5_1 < (l0.length : Int)) = false := decide_eq_false c4
     clear c4
     (first | rw [c4b0] | (simp only [i64_w, i32_w]; rw [c4b0]) | skip)
     have H' := Aside0.mk H
     clear H
     go_wp2
     go_meet
     case rel => exact ⟨_, (false), ra_, H', ⟨by have := HK1.out; first | omega | exact Nat.le_refl _⟩, be2_ HB⟩
   case rest =>
    clear HC3
    try clear c1; try clear c2; try clear p2; try clear c4; try clear c4b0; try clear p2
    obtain ⟨kq, x16_2, rfl, HA, HJ2, HB⟩ := hcut
    cases kq with
    | zero => exact absurd HA.out (by simp [constableref01_Lists.j1])
    | succ kj2 =>
     have H := HA.out
     clear HA
     simp only [constableref01_Lists.j1] at H
     by_cases c5 : x16_2 = true
     ·subst c5
      rw [if_pos rfl] at H
      by_cases c6 : 0 ≤ x5_1
      ·rw [if_pos c6] at H
       have c6b0 : decide (0 ≤ x5_1) = true := decide_eq_true c6
       clear c6
       by_cases c7 : x5_1 < (l0.length : Int)
       ·rw [if_pos c7] at H
        have c7b0 : decide (x5_1 < (l0.length : Int)) = true := decide_eq_true c7
        clear c7
        by_cases c8 : x5_1 < (l1.length : Int)
        ·rw [if_pos c8] at H
         have c8b0 : decide (x5_1 < (l1.length : Int)) = true := decide_eq_true c8
         clear c8
         replace H := Option.bind_eq_some_iff.mp H
         obtain ⟨t232, A90, H⟩ := H
         try dsimp only at H
         have A9 := Aside0.mk A90
         clear A90
         by_cases c10 : t232 = 0
         ·rw [if_pos c10] at H
          obtain ⟨c10b0, c10b1⟩ := eqB_ c10
          clear c10
          have H' := Aside0.mk H
          clear H
          try go_wp2
          have n0_ := Aside0.mk (below_drew1 HB.out)
          clear HB
          have HB := n0_
          clear n0_
          have p230 : 0 ≤ (x5_1 : Int) := dt_
          have q230 : x5_1 < (l0.length : Int) := dt_
          obtain ⟨ad230, A230_1, c230_1, e230, hx230_0, hx230_1, hl230_1, hi230_1⟩ := at_T24 HR0.out x5_1 p230 q230
          have hw230_1 := hx230_1
          have hw230_0 := hx230_0
          cases e230
          replace hx230_0 := cm_ HB hx230_0
          replace hx230_1 := cm_ HB hx230_1
          have HR230_1 := Aside0.mk hi230_1
          have HC230_1 := Aside0.mk hl230_1
          clear hi230_1 hl230_1
          replace p230 := eq_true p230
          replace q230 := eq_true q230
          have p231 : 0 ≤ (x5_1 : Int) := dt_
          have q231 : x5_1 < (l1.length : Int) := dt_
          obtain ⟨ad231, A231_1, c231_1, e231, hx231_0, hx231_1, hl231_1, hi231_1⟩ := at_T24 HR1.out x5_1 p231 q231
          have hw231_1 := hx231_1
          have hw231_0 := hx231_0
          cases e231
          replace hx231_0 := cm_ HB hx231_0
          replace hx231_1 := cm_ HB hx231_1
          have HR231_1 := Aside0.mk hi231_1
          have HC231_1 := Aside0.mk hl231_1
          clear hi231_1 hl231_1
          replace p231 := eq_true p231
          replace q231 := eq_true q231
          refine start_ (n := 10) (S := fun w' => w'.cell? (ad230.add ((x5_1).toNat * 2)) = some (.string ((rd_T24 l0 x5_1).f0)) ∧ w'.cell? ⟨(ad230.add ((x5_1).toNat * 2)).block, (ad230.add ((x5_1).toNat * 2)).off + 1, none⟩ = some (.slice A230_1 ((rd_T24 l0 x5_1).f1).length c230_1) ∧ w'.cell? (ad231.add ((x5_1).toNat * 2)) = some (.string ((rd_T24 l1 x5_1).f0)) ∧ w'.cell? ⟨(ad231.add ((x5_1).toNat * 2)).block, (ad231.add ((x5_1).toNat * 2)).off + 1, none⟩ = some (.slice A231_1 ((rd_T24 l1 x5_1).f1).length c231_1)) (ds := []) (mk_ 10 0) (by kernel_rfl) rfl rfl ⟨(cl_ HB hw230_0), (cl_ HB hw230_1), (cl_ HB hw231_0), (cl_ HB hw231_1)⟩ (fun hHeld => ?_); refine with_tabW constableref01_Lists.tab4 constableref01_Lists.bits4 (fun HT_ HW_ => ?_)
          generalize wc.drew = w11 at HB HR230_1 HR231_1 hx230_0 hx230_1 hx231_0 hx231_1 hHeld ⊢
          refine pu_ 0 19 1 HT_ ?_; refine pu_ 1 20 3 HT_ ?_; refine pu_ 2 21 7 HT_ ?_; refine pu_ 4 23 23 HT_ ?_; refine pu_ 5 24 55 HT_ ?_; refine pu_ 6 25 119 HT_ ?_; refine tk_ 3 22 127 HT_ HW_ hHeld ?_; refine tk_ 7 26 255 HT_ HW_ hHeld ?_
          refine one_ (i := 8) (N := some 27) (mk_ 10 511) rfl rfl (one_of HT_.out (by kernel_rfl)) (by decide) (fun K hK => ?_)
          refine goes_ Tryd.func18 (by kernel_rfl) rfl #[.agg #[.string ((rd_T24 l0 x5_1).f0), .slice A230_1 ((rd_T24 l0 x5_1).f1).length c230_1], .agg #[.string ((rd_T24 l1 x5_1).f0), .slice A231_1 ((rd_T24 l1 x5_1).f1).length c231_1]] (by rfl) rfl rfl ga_ ?_
          with_reducible refine (constableref01_Facts.calls kj2 ((rd_T24 l0 x5_1).f0) _ _ ((rd_T24 l0 x5_1).f1) ((rd_T24 l1 x5_1).f0) _ _ ((rd_T24 l1 x5_1).f1) t232 _ ?side1 ?side2 ?side3 ?side4 A9.out).mono ?_
          (case side1 => exact kd_ ((Kd.C_below HR230_1.out HB.out)))
          (case side2 => exact HC230_1.out)
          (case side3 => exact kd_ ((Kd.C_below HR231_1.out HB.out)))
          (case side4 => exact HC231_1.out)
          rintro e w12 ⟨rfl, hb⟩
          refine ⟨_, rfl, ?_⟩
          have n0_ := bs_ (be_ HB) hb
          clear HB
          have HB := n0_
          clear n0_
          (try clear hb)
          (try clear hb2)
          (try clear hk)
          (try clear hi)
          refine hK.out _ _ ⟨(cl_ HB hw230_0), (cl_ HB hw230_1), (cl_ HB hw231_0), (cl_ HB hw231_1)⟩ (fun hHeld => ?_)
          clear hK K
          refine nm_ 27 ?_; refine pu_ 9 6 1023 HT_ ?_
          refine done_ (done_of HT_.out (by kernel_rfl)) ?_
          try go_wp2
          go_roundg kj2
          case measure => have := HK1.out; have := HJ2.out; omega
          case rel => exact ⟨(wrap64 (x5_1 + 1)), ra_, H', ⟨by have := HK1.out; have := HJ2.out; omega⟩, be2_ HB⟩
         ·rw [if_neg c10] at H
          obtain ⟨c10b0, c10b1⟩ := neB_ c10
          obtain rfl := Option.some.inj H
          try go_wp2
          have n0_ := Aside0.mk (below_drew1 HB.out)
          clear HB
          have HB := n0_
          clear n0_
          have p230 : 0 ≤ (x5_1 : Int) := dt_
          have q230 : x5_1 < (l0.length : Int) := dt_
          obtain ⟨ad230, A230_1, c230_1, e230, hx230_0, hx230_1, hl230_1, hi230_1⟩ := at_T24 HR0.out x5_1 p230 q230
          have hw230_1 := hx230_1
          have hw230_0 := hx230_0
          cases e230
          replace hx230_0 := cm_ HB hx230_0
          replace hx230_1 := cm_ HB hx230_1
          have HR230_1 := Aside0.mk hi230_1
          have HC230_1 := Aside0.mk hl230_1
          clear hi230_1 hl230_1
          replace p230 := eq_true p230
          replace q230 := eq_true q230
          have p231 : 0 ≤ (x5_1 : Int) := dt_
          have q231 : x5_1 < (l1.length : Int) := dt_
          obtain ⟨ad231, A231_1, c231_1, e231, hx231_0, hx231_1, hl231_1, hi231_1⟩ := at_T24 HR1.out x5_1 p231 q231
          have hw231_1 := hx231_1
          have hw231_0 := hx231_0
          cases e231
          replace hx231_0 := cm_ HB hx231_0
          replace hx231_1 := cm_ HB hx231_1
          have HR231_1 := Aside0.mk hi231_1
          have HC231_1 := Aside0.mk hl231_1
          clear hi231_1 hl231_1
          replace p231 := eq_true p231
          replace q231 := eq_true q231
          refine start_ (n := 10) (S := fun w' => w'.cell? (ad230.add ((x5_1).toNat * 2)) = some (.string ((rd_T24 l0 x5_1).f0)) ∧ w'.cell? ⟨(ad230.add ((x5_1).toNat * 2)).block, (ad230.add ((x5_1).toNat * 2)).off + 1, none⟩ = some (.slice A230_1 ((rd_T24 l0 x5_1).f1).length c230_1) ∧ w'.cell? (ad231.add ((x5_1).toNat * 2)) = some (.string ((rd_T24 l1 x5_1).f0)) ∧ w'.cell? ⟨(ad231.add ((x5_1).toNat * 2)).block, (ad231.add ((x5_1).toNat * 2)).off + 1, none⟩ = some (.slice A231_1 ((rd_T24 l1 x5_1).f1).length c231_1)) (ds := []) (mk_ 10 0) (by kernel_rfl) rfl rfl ⟨(cl_ HB hw230_0), (cl_ HB hw230_1), (cl_ HB hw231_0), (cl_ HB hw231_1)⟩ (fun hHeld => ?_); refine with_tabW constableref01_Lists.tab4 constableref01_Lists.bits4 (fun HT_ HW_ => ?_)
          generalize wc.drew = w13 at HB HR230_1 HR231_1 hx230_0 hx230_1 hx231_0 hx231_1 hHeld ⊢
          refine pu_ 0 19 1 HT_ ?_; refine pu_ 1 20 3 HT_ ?_; refine pu_ 2 21 7 HT_ ?_; refine pu_ 4 23 23 HT_ ?_; refine pu_ 5 24 55 HT_ ?_; refine pu_ 6 25 119 HT_ ?_; refine tk_ 3 22 127 HT_ HW_ hHeld ?_; refine tk_ 7 26 255 HT_ HW_ hHeld ?_
          refine one_ (i := 8) (N := some 27) (mk_ 10 511) rfl rfl (one_of HT_.out (by kernel_rfl)) (by decide) (fun K hK => ?_)
          refine goes_ Tryd.func18 (by kernel_rfl) rfl #[.agg #[.string ((rd_T24 l0 x5_1).f0), .slice A230_1 ((rd_T24 l0 x5_1).f1).length c230_1], .agg #[.string ((rd_T24 l1 x5_1).f0), .slice A231_1 ((rd_T24 l1 x5_1).f1).length c231_1]] (by rfl) rfl rfl ga_ ?_
          with_reducible refine (constableref01_Facts.calls kj2 ((rd_T24 l0 x5_1).f0) _ _ ((rd_T24 l0 x5_1).f1) ((rd_T24 l1 x5_1).f0) _ _ ((rd_T24 l1 x5_1).f1) t232 _ ?side1 ?side2 ?side3 ?side4 A9.out).mono ?_
          (case side1 => exact kd_ ((Kd.C_below HR230_1.out HB.out)))
          (case side2 => exact HC230_1.out)
          (case side3 => exact kd_ ((Kd.C_below HR231_1.out HB.out)))
          (case side4 => exact HC231_1.out)
          rintro e w14 ⟨rfl, hb⟩
          refine ⟨_, rfl, ?_⟩
          have n0_ := bs_ (be_ HB) hb
          clear HB
          have HB := n0_
          clear n0_
          (try clear hb)
          (try clear hb2)
          (try clear hk)
          (try clear hi)
          refine hK.out _ _ ⟨(cl_ HB hw230_0), (cl_ HB hw230_1), (cl_ HB hw231_0), (cl_ HB hw231_1)⟩ (fun hHeld => ?_)
          clear hK K
          refine nm_ 27 ?_; refine pu_ 9 6 1023 HT_ ?_
          refine done_ (done_of HT_.out (by kernel_rfl)) ?_
          try go_wp2
          go_ret
          exact ⟨re_, be_ HB⟩
        ·rw [if_neg c8] at H
         exact absurd H (by simp)
       ·rw [if_neg c7] at H
        exact absurd H (by simp)
      ·rw [if_neg c6] at H
       exact absurd H (by simp)
     ·replace c5 := Bool.eq_false_iff.mpr c5
      subst c5
      rw [if_neg (show ¬ (false = true) by decide)] at H
      replace H := Option.bind_eq_some_iff.mp H
      obtain ⟨t233, A150, H⟩ := H
      try dsimp only at H
      have A15 := Aside0.mk A150
      clear A150
      obtain rfl := Option.some.inj H
      go_wp2_with (first | ((with_reducible refine gate_callee (f := 44) rfl ?_); refine goesL_ (some 35) rfl rfl Tryd.func44 (by kernel_rfl) rfl #[.int .i64 (l0.length : Int), .int .i64 (l1.length : Int)] rfl ga_ ?_; (with_reducible refine (constableref01_order.calls (l0.length : Int) (l1.length : Int) t233 _ A15.out).mono ?_); rintro e w' ⟨rfl, ⟨nd, rfl⟩⟩; refine ⟨_, rfl, ?_⟩))
      go_ret
      exact ⟨re_, be_ HB⟩
end Go.Proofs.YtaopajmpifenoaaDoor.P
end
section
namespace Go.Proofs.YtaopajmpifenoaaDoor.P
open Go.RowKit Go.Proofs.YtaopajmpifenoaaDoorW.PrintWords Go.Proofs.YtaopajmpifenoaaDoorW.PrintLast Go.Proofs.YtaopajmpifenoaaDoorW.PrintMore
attribute [local go_sem] max2_int min2_int max_two min_two max_three min_three max_four min_four
set_option linter.unusedVariables false
set_option linter.unusedSimpArgs false
mutual
def constableref01_Digits.l0 : Nat → Int → ByteArray → Option (ByteArray)
 | 0, _, _ => none
 | k + 1, x0, x3 => if x0 > 0 then ((some (([(wrap64 (48 + (Int.tmod x0 10))) % 256] : List Int) : List Int)).bind fun y260 => (if (strOfNums y260).size + x3.size ≤ 9223372036854775807 then (constableref01_Digits.l0 k (wrap64 (Int.tdiv x0 10)) ((strOfNums y260) ++ x3)) else (none))) else (if (x3.size : Int) = 0 then ((some (([(wrap64 (48 + (Int.tmod x0 10))) % 256] : List Int) : List Int)).bind fun y263 => (if (strOfNums y263).size + x3.size ≤ 9223372036854775807 then (constableref01_Digits.l0 k (wrap64 (Int.tdiv x0 10)) ((strOfNums y263) ++ x3)) else (none))) else (some x3))
def constableref01_Digits.f : Nat → Int → Option (ByteArray)
 | 0, _ => none
 | k + 1, a0 => if a0 < 0 then ((constableref01_Digits.f k (wrap64 (-a0))).bind fun t259 => (if 1 + t259.size ≤ 9223372036854775807 then (some ((⟨#[45]⟩ : ByteArray) ++ t259)) else (none))) else (constableref01_Digits.l0 k a0 (⟨#[]⟩ : ByteArray))
end
theorem constableref01_Digits.mono_l : ∀ k, (∀ y0, LeO (constableref01_Digits.f k y0) (constableref01_Digits.f (k + 1) y0)) ∧ (∀ y0 y1, LeO (constableref01_Digits.l0 k y0 y1) (constableref01_Digits.l0 (k + 1) y0 y1))
 | 0 => ⟨fun _ r h => by simp [constableref01_Digits.f] at h, fun _ _ r h => by simp [constableref01_Digits.l0] at h⟩
 | k + 1 => by
  obtain ⟨ih0, ih1⟩ := constableref01_Digits.mono_l k
  refine ⟨?_, ?_⟩
  ·intro y0
   unfold constableref01_Digits.f
   repeat' first
   | (with_reducible exact ih0 _)
   | (with_reducible exact ih1 _ _)
   | (with_reducible exact LeO.refl _)
   | (with_reducible exact LeO.none _)
   | (with_reducible refine LeO.ite ?_ ?_)
   | (with_reducible refine LeO.bind ?_ (fun _ => ?_))
   | exact ih0 _
   | exact ih1 _ _
   | exact LeO.none _
   | refine LeO.ite ?_ ?_
   | refine LeO.bind ?_ (fun _ => ?_)
  ·intro y0 y1
   unfold constableref01_Digits.l0
   repeat' first
   | (with_reducible exact ih0 _)
   | (with_reducible exact ih1 _ _)
   | (with_reducible exact LeO.refl _)
   | (with_reducible exact LeO.none _)
   | (with_reducible refine LeO.ite ?_ ?_)
   | (with_reducible refine LeO.bind ?_ (fun _ => ?_))
   | exact ih0 _
   | exact ih1 _ _
   | exact LeO.none _
   | refine LeO.ite ?_ ?_
   | refine LeO.bind ?_ (fun _ => ?_)
theorem constableref01_Digits.mono : ∀ a0 k, LeO (constableref01_Digits.f k a0) (constableref01_Digits.f (k + 1) a0) := by
 intro a0 k
 obtain ⟨ih0, ih1⟩ := constableref01_Digits.mono_l k
 exact ih0 a0
set_option maxHeartbeats 8000000 in
set_option maxRecDepth 100000 in
theorem constableref01_Digits.calls (k : Nat) : ∀ (a0 : Int) (r : ByteArray) (w : World) (h : constableref01_Digits.f k a0 = some r),
  Calls Tryd.prog 58 #[.int .i64 a0] w fun e w' => e = .returned (.string r) ∧ Below w.heap.size w w' := by
 induction k using Nat.strongRecOn with
 | _ k ih =>
 intro a0 r w h
 cases k with
 | zero => exact absurd h (by simp [constableref01_Digits.f])
 | succ k =>
 simp only [constableref01_Digits.f] at h
 have HB := Aside0.mk (Below.refl w.heap.size w)
 have H : (if a0 < 0 then ((constableref01_Digits.f k (wrap64 (-a0))).bind fun t259 => (if 1 + t259.size ≤ 9223372036854775807 then (some ((⟨#[45]⟩ : ByteArray) ++ t259)) else (none))) else (constableref01_Digits.l0 k a0 (⟨#[]⟩ : ByteArray))) = some r := h
 clear h
 by_cases c2 : a0 < 0
 ·rw [if_pos c2] at H
  have c2b0 : decide (a0 < 0) = true := decide_eq_true c2
  clear c2
  replace H := Option.bind_eq_some_iff.mp H
  obtain ⟨t259, A30, H⟩ := H
  try dsimp only at H
  have A3 := Aside0.mk A30
  clear A30
  by_cases c4 : 1 + t259.size ≤ 9223372036854775807
  ·rw [if_pos c4] at H
   have c4b0 := eq_true c4
   have c4b1 : decide (1 + t259.size ≤ 9223372036854775807) = true := decide_eq_true c4
   try have c4b2 : (9223372036854775807 < 1 + t259.size) = False := eq_false (Nat.not_lt.2 c4)
   obtain rfl := Option.some.inj H
   go_enter Tryd.func58, Tryd.ntmps58
   go_wp2_with (first | ((with_reducible refine gate_callee (f := 58) rfl ?_); refine goesL_ (some 8) rfl rfl Tryd.func58 (by kernel_rfl) rfl #[.int .i64 (wrap64 (-a0))] rfl ga_ ?_; (with_reducible refine (ih k (by omega) (wrap64 (-a0)) t259 _ A3.out).mono ?_); rintro e w5 ⟨rfl, hb⟩; refine ⟨_, rfl, ?_⟩; replace HB := bs_ (be_ HB) hb; (try clear hb); (try clear hb2); (try clear hk); (try clear hi)))
   go_ret
   exact ⟨re_, be_ HB⟩
  ·rw [if_neg c4] at H
   exact absurd H (by simp)
 ·rw [if_neg c2] at H
  have c2b0 : decide (a0 < 0) = false := decide_eq_false c2
  clear c2
  have H' := Aside0.mk H
  clear H
  go_enter Tryd.func58, Tryd.ntmps58
  go_wp2
  go_loopg [0, 3] k (fun kq v0 v3 w' => ∃ (x0_1 : Int) (x3_1 : ByteArray), v0 = .int .i64 x0_1 ∧ v3 = .string x3_1 ∧ Aside0 (constableref01_Digits.l0 kq x0_1 x3_1 = some r) ∧ Aside0 (kq ≤ k) ∧ Aside0 (Below w.heap.size w w'))
  case atStart => exact ⟨(a0), ((⟨#[]⟩ : ByteArray)), ra_, ra_, H', ⟨Nat.le_refl _⟩, be2_ HB⟩
  case round =>
   clear H'
   try clear c2; try clear c2b0; try clear p2; try clear c4; try clear c4b0; try clear c4b1; try clear c4b2; try clear c5
   obtain ⟨x0_1, x3_1, rfl, rfl, HA, HK1, HB⟩ := hrel
   cases gk with
   | zero => exact absurd HA.out (by simp [constableref01_Digits.l0])
   | succ k1 =>
    have H := HA.out
    clear HA
    simp only [constableref01_Digits.l0] at H
    by_cases c6 : x0_1 > 0
    ·rw [if_pos c6] at H
     have c6b0 : decide (0 < x0_1) = true := decide_eq_true c6
     clear c6
     obtain ⟨y260, hy260⟩ : ∃ y_ : List Int, y_ = (([(wrap64 (48 + (Int.tmod x0_1 10))) % 256] : List Int)) := ⟨_, rfl⟩
     replace H : (if (strOfNums y260).size + x3_1.size ≤ 9223372036854775807 then (constableref01_Digits.l0 k1 (wrap64 (Int.tdiv x0_1 10)) ((strOfNums y260) ++ x3_1)) else (none)) = some r := by first | (rw [hy260]; with_reducible exact H) | (have H2_ := (Option.bind_some _ _).symm.trans H; rw [hy260]; with_reducible exact H2_) | (have H2_ := (Option.bind_some _ _).symm.trans H; with_reducible exact H2_) | with_reducible exact H | (rw [hy260]; exact H) | exact H
     have Ny260 := Aside0.mk hy260
     clear hy260
     by_cases c7 : (strOfNums y260).size + x3_1.size ≤ 9223372036854775807
     ·rw [if_pos c7] at H
      have c7b0 := eq_true c7
      have c7b1 : decide ((strOfNums y260).size + x3_1.size ≤ 9223372036854775807) = true := decide_eq_true c7
      try have c7b2 : (9223372036854775807 < (strOfNums y260).size + x3_1.size) = False := eq_false (Nat.not_lt.2 c7)
      have H' := Aside0.mk H
      clear H
      go_wp2_with (first | ((with_reducible refine gate_dst (N := 21) rfl ?_); (try (refine gate_guard (by rfl) ?_; dsimp only)); refine Kd.R_lit (Kd.int .u8) _ 5 ?hg (N := 21) ?hd (xs := ([(wrap64 (48 + (Int.tmod x0_1 10))) % 256] : List Int)) (inner := [.int .u8 ((wrap64 (48 + (Int.tmod x0_1 10))) % 256)]) (ok := fun _ => True) (okp := fun _ => True) ?hr ?hp (fun _ hk => hk) trivial (Below.refl _ _) (Nat.le_refl _) (by simp) ?_; (case hd => rfl); (case hg => rfl); (case hr => first | (go_simp; done) | (go_simp; rfl)); (case hp => exact (Reps.one (show Kd.M (Kd.int .u8) _ _ _ ((wrap64 (48 + (Int.tmod x0_1 10))) % 256) [.int .u8 ((wrap64 (48 + (Int.tmod x0_1 10))) % 256)] from rfl) (Reps.none _ _))); intro v261 w8 ho9 hb hg_ hnew_; clear hg_ hnew_; (first | rw [← Ny260.out] at ho9 | (simp only [Int.reduceToNat] at ho9; rw [← Ny260.out] at ho9)); have HO262 := Aside0.mk (Kd.R_lower ho9 (below_size (be_ HB))); replace HB := bs_ (be_ HB) hb; clear hb ho9; have hcv10 := own_string (P := Tryd.prog) Tryd.underlying81 Tryd.underlying5 Tryd.underlying9 (Kd.own_of_R HO262.out)))
      go_roundg k1
      case measure => have := HK1.out; omega
      case rel => exact ⟨(wrap64 (Int.tdiv x0_1 10)), ((strOfNums y260) ++ x3_1), ra_, ra_, H', ⟨by have := HK1.out; omega⟩, be2_ HB⟩
     ·rw [if_neg c7] at H
      exact absurd H (by simp)
    ·rw [if_neg c6] at H
     have c6b0 : decide (0 < x0_1) = false := decide_eq_false c6
     clear c6
     by_cases c11 : (x3_1.size : Int) = 0
     ·rw [if_pos c11] at H
      obtain ⟨c11b0, c11b1⟩ := eqB_ c11
      clear c11
      obtain ⟨y263, hy263⟩ : ∃ y_ : List Int, y_ = (([(wrap64 (48 + (Int.tmod x0_1 10))) % 256] : List Int)) := ⟨_, rfl⟩
      replace H : (if (strOfNums y263).size + x3_1.size ≤ 9223372036854775807 then (constableref01_Digits.l0 k1 (wrap64 (Int.tdiv x0_1 10)) ((strOfNums y263) ++ x3_1)) else (none)) = some r := by first | (rw [hy263]; with_reducible exact H) | (have H2_ := (Option.bind_some _ _).symm.trans H; rw [hy263]; with_reducible exact H2_) | (have H2_ := (Option.bind_some _ _).symm.trans H; with_reducible exact H2_) | with_reducible exact H | (rw [hy263]; exact H) | exact H
      have Ny263 := Aside0.mk hy263
      clear hy263
      by_cases c12 : (strOfNums y263).size + x3_1.size ≤ 9223372036854775807
      ·rw [if_pos c12] at H
       have c12b0 := eq_true c12
       have c12b1 : decide ((strOfNums y263).size + x3_1.size ≤ 9223372036854775807) = true := decide_eq_true c12
       try have c12b2 : (9223372036854775807 < (strOfNums y263).size + x3_1.size) = False := eq_false (Nat.not_lt.2 c12)
       have H' := Aside0.mk H
       clear H
       go_wp2_with (first | ((with_reducible refine gate_dst (N := 21) rfl ?_); (try (refine gate_guard (by rfl) ?_; dsimp only)); refine Kd.R_lit (Kd.int .u8) _ 5 ?hg (N := 21) ?hd (xs := ([(wrap64 (48 + (Int.tmod x0_1 10))) % 256] : List Int)) (inner := [.int .u8 ((wrap64 (48 + (Int.tmod x0_1 10))) % 256)]) (ok := fun _ => True) (okp := fun _ => True) ?hr ?hp (fun _ hk => hk) trivial (Below.refl _ _) (Nat.le_refl _) (by simp) ?_; (case hd => rfl); (case hg => rfl); (case hr => first | (go_simp; done) | (go_simp; rfl)); (case hp => exact (Reps.one (show Kd.M (Kd.int .u8) _ _ _ ((wrap64 (48 + (Int.tmod x0_1 10))) % 256) [.int .u8 ((wrap64 (48 + (Int.tmod x0_1 10))) % 256)] from rfl) (Reps.none _ _))); intro v264 w13 ho14 hb hg_ hnew_; clear hg_ hnew_; (first | rw [← Ny263.out] at ho14 | (simp only [Int.reduceToNat] at ho14; rw [← Ny263.out] at ho14)); have HO265 := Aside0.mk (Kd.R_lower ho14 (below_size (be_ HB))); replace HB := bs_ (be_ HB) hb; clear hb ho14; have hcv15 := own_string (P := Tryd.prog) Tryd.underlying81 Tryd.underlying5 Tryd.underlying9 (Kd.own_of_R HO265.out)))
       go_roundg k1
       case measure => have := HK1.out; omega
       case rel => exact ⟨(wrap64 (Int.tdiv x0_1 10)), ((strOfNums y263) ++ x3_1), ra_, ra_, H', ⟨by have := HK1.out; omega⟩, be2_ HB⟩
      ·rw [if_neg c12] at H
       exact absurd H (by simp)
     ·rw [if_neg c11] at H
      obtain ⟨c11b0, c11b1⟩ := neB_ c11
      obtain rfl := Option.some.inj H
      go_wp2
      go_ret
      exact ⟨re_, be_ HB⟩
end Go.Proofs.YtaopajmpifenoaaDoor.P
end
section
namespace Go.Proofs.YtaopajmpifenoaaDoor.P
open Go.RowKit Go.Proofs.YtaopajmpifenoaaDoorW.PrintWords Go.Proofs.YtaopajmpifenoaaDoorW.PrintLast Go.Proofs.YtaopajmpifenoaaDoorW.PrintMore
attribute [local go_sem] max2_int min2_int max_two min_two max_three min_three max_four min_four
set_option linter.unusedVariables false
set_option linter.unusedSimpArgs false
def constableref01_ValueText.l0 : Nat → ByteArray → Int → Int → Int → ByteArray → Option (ByteArray)
 | 0, _, _, _, _, _ => none
 | k + 1, x3, x4, x267000, x267001, x267002 => if x4 < (x267002.size : Int) then (if 0 ≤ x4 then (if (bt x267002 x4) = 34 then (if x3.size + 1 ≤ 9223372036854775807 then (if x4 ≤ (wrap64 (x4 + 1)) then (if (wrap64 (x4 + 1)) ≤ (x267002.size : Int) then (if (x3 ++ (⟨#[92]⟩ : ByteArray)).size + (x267002.extract (x4 : Int).toNat ((wrap64 (x4 + 1)) : Int).toNat).size ≤ 9223372036854775807 then (constableref01_ValueText.l0 k ((x3 ++ (⟨#[92]⟩ : ByteArray)) ++ (x267002.extract (x4 : Int).toNat ((wrap64 (x4 + 1)) : Int).toNat)) (wrap64 (x4 + 1)) x267000 x267001 x267002) else (none)) else (none)) else (none)) else (none)) else (if (bt x267002 x4) = 92 then (if x3.size + 1 ≤ 9223372036854775807 then (if x4 ≤ (wrap64 (x4 + 1)) then (if (wrap64 (x4 + 1)) ≤ (x267002.size : Int) then (if (x3 ++ (⟨#[92]⟩ : ByteArray)).size + (x267002.extract (x4 : Int).toNat ((wrap64 (x4 + 1)) : Int).toNat).size ≤ 9223372036854775807 then (constableref01_ValueText.l0 k ((x3 ++ (⟨#[92]⟩ : ByteArray)) ++ (x267002.extract (x4 : Int).toNat ((wrap64 (x4 + 1)) : Int).toNat)) (wrap64 (x4 + 1)) x267000 x267001 x267002) else (none)) else (none)) else (none)) else (none)) else (if x4 ≤ (wrap64 (x4 + 1)) then (if (wrap64 (x4 + 1)) ≤ (x267002.size : Int) then (if x3.size + (x267002.extract (x4 : Int).toNat ((wrap64 (x4 + 1)) : Int).toNat).size ≤ 9223372036854775807 then (constableref01_ValueText.l0 k (x3 ++ (x267002.extract (x4 : Int).toNat ((wrap64 (x4 + 1)) : Int).toNat)) (wrap64 (x4 + 1)) x267000 x267001 x267002) else (none)) else (none)) else (none)))) else (none)) else (if x3.size + 1 ≤ 9223372036854775807 then (some (x3 ++ (⟨#[34]⟩ : ByteArray))) else (none))
def constableref01_ValueText.f (k : Nat) (a0_0 : Int) (a0_1 : Int) (a0_2 : ByteArray) : Option (ByteArray) := if a0_0 = 1 then ((constableref01_Digits.f k a0_1).bind fun t267 => (some t267)) else (if a0_0 = 2 then (some a0_2) else (constableref01_ValueText.l0 k (⟨#[34]⟩ : ByteArray) 0 a0_0 a0_1 a0_2))
theorem constableref01_ValueText.mono_l : ∀ k, (∀ y0 y1 y2 y3 y4, LeO (constableref01_ValueText.l0 k y0 y1 y2 y3 y4) (constableref01_ValueText.l0 (k + 1) y0 y1 y2 y3 y4))
 | 0 => fun _ _ _ _ _ r h => by simp [constableref01_ValueText.l0] at h
 | k + 1 => by
  have ih0 := constableref01_ValueText.mono_l k
  ·intro y0 y1 y2 y3 y4
   unfold constableref01_ValueText.l0
   repeat' first
   | (with_reducible exact ih0 _ _ _ _ _)
   | (with_reducible exact constableref01_Digits.mono ..)
   | (with_reducible exact LeO.refl _)
   | (with_reducible exact LeO.none _)
   | (with_reducible refine LeO.ite ?_ ?_)
   | (with_reducible refine LeO.bind ?_ (fun _ => ?_))
   | exact ih0 _ _ _ _ _
   | exact constableref01_Digits.mono ..
   | exact LeO.none _
   | refine LeO.ite ?_ ?_
   | refine LeO.bind ?_ (fun _ => ?_)
theorem constableref01_ValueText.mono : ∀ a0 a1 a2 k, LeO (constableref01_ValueText.f k a0 a1 a2) (constableref01_ValueText.f (k + 1) a0 a1 a2) := by
 intro a0 a1 a2 k
 have ih0 := constableref01_ValueText.mono_l k
 unfold constableref01_ValueText.f
 repeat' first
   | (with_reducible exact ih0 _ _ _ _ _)
   | (with_reducible exact constableref01_Digits.mono ..)
   | (with_reducible exact LeO.refl _)
   | (with_reducible exact LeO.none _)
   | (with_reducible refine LeO.ite ?_ ?_)
   | (with_reducible refine LeO.bind ?_ (fun _ => ?_))
   | exact ih0 _ _ _ _ _
   | exact constableref01_Digits.mono ..
   | exact LeO.none _
   | refine LeO.ite ?_ ?_
   | refine LeO.bind ?_ (fun _ => ?_)
set_option maxHeartbeats 8000000 in
set_option maxRecDepth 100000 in
theorem constableref01_ValueText.calls (k : Nat) (a0_0 : Int) (a0_1 : Int) (a0_2 : ByteArray) (r : ByteArray) (w : World) (h : constableref01_ValueText.f k a0_0 a0_1 a0_2 = some r) :
  Calls Tryd.prog 34 #[.agg #[.int .i64 a0_0, .int .i64 a0_1, .string a0_2]] w fun e w' => e = .returned (.string r) ∧ Below w.heap.size w w' := by
 have hu44 := Tryd.underlying44
 have HB := Aside0.mk (Below.refl w.heap.size w)
 have H : (if a0_0 = 1 then ((constableref01_Digits.f k a0_1).bind fun t267 => (some t267)) else (if a0_0 = 2 then (some a0_2) else (constableref01_ValueText.l0 k (⟨#[34]⟩ : ByteArray) 0 a0_0 a0_1 a0_2))) = some r := h
 clear h
 by_cases c2 : a0_0 = 1
 ·rw [if_pos c2] at H
  obtain ⟨c2b0, c2b1⟩ := eqB_ c2
  clear c2
  replace H := Option.bind_eq_some_iff.mp H
  obtain ⟨t267, A30, H⟩ := H
  try dsimp only at H
  have A3 := Aside0.mk A30
  clear A30
  obtain rfl := Option.some.inj H
  go_enter Tryd.func34, Tryd.ntmps34
  go_wp2_with (first | ((with_reducible refine gate_dst (N := 1) rfl ?_); refine box_event ?hg (N := 1) ?hd (cs := #[.int .i64 a0_0, .int .i64 a0_1, .string a0_2]) (t := 44) ?hr ?_; (case hd => rfl); (case hg => rfl); (case hr => first | (go_simp; done) | (go_simp; rfl)); intro gb266 hg w4 hbox hb; have BK266 := Aside0.mk (hbox); have GW266 := gs_ hg (be_ HB); have GE266 := gs_ hg (be_ HB); replace HB := bs_ (be_ HB) hb; clear hb hbox hg; have hcz5_0 : w4.cell? ⟨gb266, 0, none⟩ = some (.int .i64 a0_0) := (blk_cell BK266.out 0).trans rfl; have hcz5_1 : w4.cell? ⟨gb266, 1, none⟩ = some (.int .i64 a0_1) := (blk_cell BK266.out 1).trans rfl; have hcz5_2 : w4.cell? ⟨gb266, 2, none⟩ = some (.string a0_2) := (blk_cell BK266.out 2).trans rfl; have hfz5_0 := blk_frozen BK266.out 0; have hfz5_1 := blk_frozen BK266.out 1; have hfz5_2 := blk_frozen BK266.out 2) | ((with_reducible refine gate_callee (f := 58) rfl ?_); refine goesL_ (some 11) rfl rfl Tryd.func58 (by kernel_rfl) rfl #[.int .i64 a0_1] rfl ga_ ?_; (with_reducible refine (constableref01_Digits.calls k a0_1 t267 _ A3.out).mono ?_); rintro e w6 ⟨rfl, hb⟩; refine ⟨_, rfl, ?_⟩; replace BK266 := bb_ (bu_ BK266) hb; replace HB := bs_ (be_ HB) hb; (try clear hb); (try clear hb2); (try clear hk); (try clear hi)))
  go_ret
  exact ⟨re_, be_ HB⟩
 ·rw [if_neg c2] at H
  obtain ⟨c2b0, c2b1⟩ := neB_ c2
  by_cases c7 : a0_0 = 2
  ·rw [if_pos c7] at H
   obtain ⟨c7b0, c7b1⟩ := eqB_ c7
   clear c7
   obtain rfl := Option.some.inj H
   go_enter Tryd.func34, Tryd.ntmps34
   go_wp2_with (first | ((with_reducible refine gate_dst (N := 1) rfl ?_); refine box_event ?hg (N := 1) ?hd (cs := #[.int .i64 a0_0, .int .i64 a0_1, .string a0_2]) (t := 44) ?hr ?_; (case hd => rfl); (case hg => rfl); (case hr => first | (go_simp; done) | (go_simp; rfl)); intro gb266 hg w8 hbox hb; have BK266 := Aside0.mk (hbox); have GW266 := gs_ hg (be_ HB); have GE266 := gs_ hg (be_ HB); replace HB := bs_ (be_ HB) hb; clear hb hbox hg; have hcz9_0 : w8.cell? ⟨gb266, 0, none⟩ = some (.int .i64 a0_0) := (blk_cell BK266.out 0).trans rfl; have hcz9_1 : w8.cell? ⟨gb266, 1, none⟩ = some (.int .i64 a0_1) := (blk_cell BK266.out 1).trans rfl; have hcz9_2 : w8.cell? ⟨gb266, 2, none⟩ = some (.string a0_2) := (blk_cell BK266.out 2).trans rfl; have hfz9_0 := blk_frozen BK266.out 0; have hfz9_1 := blk_frozen BK266.out 1; have hfz9_2 := blk_frozen BK266.out 2))
   go_ret
   exact ⟨re_, be_ HB⟩
  ·rw [if_neg c7] at H
   obtain ⟨c7b0, c7b1⟩ := neB_ c7
   have H' := Aside0.mk H
   clear H
   go_enter Tryd.func34, Tryd.ntmps34
   go_wp2_with (first | ((with_reducible refine gate_dst (N := 1) rfl ?_); refine box_event ?hg (N := 1) ?hd (cs := #[.int .i64 a0_0, .int .i64 a0_1, .string a0_2]) (t := 44) ?hr ?_; (case hd => rfl); (case hg => rfl); (case hr => first | (go_simp; done) | (go_simp; rfl)); intro gb266 hg w10 hbox hb; have BK266 := Aside0.mk (hbox); have GW266 := gs_ hg (be_ HB); have GE266 := gs_ hg (be_ HB); replace HB := bs_ (be_ HB) hb; clear hb hbox hg; have hcz11_0 : w10.cell? ⟨gb266, 0, none⟩ = some (.int .i64 a0_0) := (blk_cell BK266.out 0).trans rfl; have hcz11_1 : w10.cell? ⟨gb266, 1, none⟩ = some (.int .i64 a0_1) := (blk_cell BK266.out 1).trans rfl; have hcz11_2 : w10.cell? ⟨gb266, 2, none⟩ = some (.string a0_2) := (blk_cell BK266.out 2).trans rfl; have hfz11_0 := blk_frozen BK266.out 0; have hfz11_1 := blk_frozen BK266.out 1; have hfz11_2 := blk_frozen BK266.out 2))
   go_loopg [3, 4] k (fun kq v3 v4 w' => ∃ (x3_1 : ByteArray) (x4_1 : Int), v3 = .string x3_1 ∧ v4 = .int .i64 x4_1 ∧ Aside0 (constableref01_ValueText.l0 kq x3_1 x4_1 a0_0 a0_1 a0_2 = some r) ∧ Aside0 (kq ≤ k) ∧ Aside0 (w'.heap[gb266]? = some (.cells #[.int .i64 a0_0, .int .i64 a0_1, .string a0_2] 44 (0, 0))) ∧ Aside0 (Below w.heap.size w w'))
   case atStart => exact ⟨((⟨#[34]⟩ : ByteArray)), (0), ra_, ra_, H', ⟨Nat.le_refl _⟩, bu2_ BK266, be2_ HB⟩
   case round =>
    clear H'
    try clear c2; try clear c2b0; try clear c2b1; try clear p2; try clear c3; try clear c5; try clear c7; try clear c7b0; try clear c7b1; try clear hcz11_0; try clear hcz11_1; try clear hcz11_2; try clear hcz5_0; try clear hcz5_1; try clear hcz5_2; try clear hcz9_0; try clear hcz9_1; try clear hcz9_2; try clear hfz11_0; try clear hfz11_1; try clear hfz11_2; try clear hfz5_0; try clear hfz5_1; try clear hfz5_2; try clear hfz9_0; try clear hfz9_1; try clear hfz9_2
    obtain ⟨x3_1, x4_1, rfl, rfl, HA, HK1, BK266, HB⟩ := hrel
    cases gk with
    | zero => exact absurd HA.out (by simp [constableref01_ValueText.l0])
    | succ k1 =>
     have H := HA.out
     clear HA
     simp only [constableref01_ValueText.l0] at H
     by_cases c12 : x4_1 < (a0_2.size : Int)
     ·rw [if_pos c12] at H
      have c12b0 : decide (x4_1 < (a0_2.size : Int)) = true := decide_eq_true c12
      clear c12
      by_cases c13 : 0 ≤ x4_1
      ·rw [if_pos c13] at H
       have c13b0 : decide (0 ≤ x4_1) = true := decide_eq_true c13
       clear c13
       by_cases c15 : (bt a0_2 x4_1) = 34
       ·rw [if_pos c15] at H
        obtain ⟨c15b0, c15b1⟩ := eqB_ c15
        clear c15
        by_cases c16 : x3_1.size + 1 ≤ 9223372036854775807
        ·rw [if_pos c16] at H
         have c16b0 := eq_true c16
         have c16b1 : decide (x3_1.size + 1 ≤ 9223372036854775807) = true := decide_eq_true c16
         try have c16b2 : (9223372036854775807 < x3_1.size + 1) = False := eq_false (Nat.not_lt.2 c16)
         have c17b0 := eq_true (of_decide_eq_true (by first | (with_reducible assumption) | assumption) : 0 ≤ x4_1)
         by_cases c18 : x4_1 ≤ (wrap64 (x4_1 + 1))
         ·rw [if_pos c18] at H
          have c18b0 := eq_true c18
          have c18b1 : decide (x4_1 ≤ (wrap64 (x4_1 + 1))) = true := decide_eq_true c18
          by_cases c19 : (wrap64 (x4_1 + 1)) ≤ (a0_2.size : Int)
          ·rw [if_pos c19] at H
           have c19b0 := eq_true c19
           have c19b1 : decide ((wrap64 (x4_1 + 1)) ≤ (a0_2.size : Int)) = true := decide_eq_true c19
           by_cases c20 : (x3_1 ++ (⟨#[92]⟩ : ByteArray)).size + (a0_2.extract (x4_1 : Int).toNat ((wrap64 (x4_1 + 1)) : Int).toNat).size ≤ 9223372036854775807
           ·rw [if_pos c20] at H
            have c20b0 := eq_true c20
            try (have c20n : x3_1.size + 1 + a0_2.extract (x4_1 : Int).toNat ((wrap64 (x4_1 + 1)) : Int).toNat.size ≤ 9223372036854775807 := (by have h_ := c20; simp only [ByteArray.size_append] at h_; exact h_); have c20m := eq_false (Nat.not_lt.2 c20n))
            have c20b1 : decide ((x3_1 ++ (⟨#[92]⟩ : ByteArray)).size + (a0_2.extract (x4_1 : Int).toNat ((wrap64 (x4_1 + 1)) : Int).toNat).size ≤ 9223372036854775807) = true := decide_eq_true c20
            try have c20b2 : (9223372036854775807 < (x3_1 ++ (⟨#[92]⟩ : ByteArray)).size + (a0_2.extract (x4_1 : Int).toNat ((wrap64 (x4_1 + 1)) : Int).toNat).size) = False := eq_false (Nat.not_lt.2 c20)
            have H' := Aside0.mk H
            clear H
            have hcz21_0 : wr.cell? ⟨gb266, 0, none⟩ = some (.int .i64 a0_0) := (blk_cell BK266.out 0).trans rfl
            have hcz21_1 : wr.cell? ⟨gb266, 1, none⟩ = some (.int .i64 a0_1) := (blk_cell BK266.out 1).trans rfl
            have hcz21_2 : wr.cell? ⟨gb266, 2, none⟩ = some (.string a0_2) := (blk_cell BK266.out 2).trans rfl
            have hfz21_0 := blk_frozen BK266.out 0
            have hfz21_1 := blk_frozen BK266.out 1
            have hfz21_2 := blk_frozen BK266.out 2
            have p14 : 0 ≤ (x4_1 : Int) := dt_
            have q14 : x4_1 < (a0_2.size : Int) := dt_
            have hx14 := bt_at a0_2 x4_1
            replace p14 := eq_true p14
            replace q14 := eq_true q14
            go_wp2
            go_roundg k1
            case measure => have := HK1.out; omega
            case rel => exact ⟨((x3_1 ++ (⟨#[92]⟩ : ByteArray)) ++ (a0_2.extract (x4_1 : Int).toNat ((wrap64 (x4_1 + 1)) : Int).toNat)), (wrap64 (x4_1 + 1)), ra_, ra_, H', ⟨by have := HK1.out; omega⟩, bu2_ BK266, be2_ HB⟩
           ·rw [if_neg c20] at H
            exact absurd H (by simp)
          ·rw [if_neg c19] at H
           exact absurd H (by simp)
         ·rw [if_neg c18] at H
          exact absurd H (by simp)
        ·rw [if_neg c16] at H
         exact absurd H (by simp)
       ·rw [if_neg c15] at H
        obtain ⟨c15b0, c15b1⟩ := neB_ c15
        by_cases c23 : (bt a0_2 x4_1) = 92
        ·rw [if_pos c23] at H
         obtain ⟨c23b0, c23b1⟩ := eqB_ c23
         clear c23
         by_cases c24 : x3_1.size + 1 ≤ 9223372036854775807
         ·rw [if_pos c24] at H
          have c24b0 := eq_true c24
          have c24b1 : decide (x3_1.size + 1 ≤ 9223372036854775807) = true := decide_eq_true c24
          try have c24b2 : (9223372036854775807 < x3_1.size + 1) = False := eq_false (Nat.not_lt.2 c24)
          have c25b0 := eq_true (of_decide_eq_true (by first | (with_reducible assumption) | assumption) : 0 ≤ x4_1)
          by_cases c26 : x4_1 ≤ (wrap64 (x4_1 + 1))
          ·rw [if_pos c26] at H
           have c26b0 := eq_true c26
           have c26b1 : decide (x4_1 ≤ (wrap64 (x4_1 + 1))) = true := decide_eq_true c26
           by_cases c27 : (wrap64 (x4_1 + 1)) ≤ (a0_2.size : Int)
           ·rw [if_pos c27] at H
            have c27b0 := eq_true c27
            have c27b1 : decide ((wrap64 (x4_1 + 1)) ≤ (a0_2.size : Int)) = true := decide_eq_true c27
            by_cases c28 : (x3_1 ++ (⟨#[92]⟩ : ByteArray)).size + (a0_2.extract (x4_1 : Int).toNat ((wrap64 (x4_1 + 1)) : Int).toNat).size ≤ 9223372036854775807
            ·rw [if_pos c28] at H
             have c28b0 := eq_true c28
             try (have c28n : x3_1.size + 1 + a0_2.extract (x4_1 : Int).toNat ((wrap64 (x4_1 + 1)) : Int).toNat.size ≤ 9223372036854775807 := (by have h_ := c28; simp only [ByteArray.size_append] at h_; exact h_); have c28m := eq_false (Nat.not_lt.2 c28n))
             have c28b1 : decide ((x3_1 ++ (⟨#[92]⟩ : ByteArray)).size + (a0_2.extract (x4_1 : Int).toNat ((wrap64 (x4_1 + 1)) : Int).toNat).size ≤ 9223372036854775807) = true := decide_eq_true c28
             try have c28b2 : (9223372036854775807 < (x3_1 ++ (⟨#[92]⟩ : ByteArray)).size + (a0_2.extract (x4_1 : Int).toNat ((wrap64 (x4_1 + 1)) : Int).toNat).size) = False := eq_false (Nat.not_lt.2 c28)
             have H' := Aside0.mk H
             clear H
             have hcz29_0 : wr.cell? ⟨gb266, 0, none⟩ = some (.int .i64 a0_0) := (blk_cell BK266.out 0).trans rfl
             have hcz29_1 : wr.cell? ⟨gb266, 1, none⟩ = some (.int .i64 a0_1) := (blk_cell BK266.out 1).trans rfl
             have hcz29_2 : wr.cell? ⟨gb266, 2, none⟩ = some (.string a0_2) := (blk_cell BK266.out 2).trans rfl
             have hfz29_0 := blk_frozen BK266.out 0
             have hfz29_1 := blk_frozen BK266.out 1
             have hfz29_2 := blk_frozen BK266.out 2
             have p14 : 0 ≤ (x4_1 : Int) := dt_
             have q14 : x4_1 < (a0_2.size : Int) := dt_
             have hx14 := bt_at a0_2 x4_1
             replace p14 := eq_true p14
             replace q14 := eq_true q14
             have p22 : 0 ≤ (x4_1 : Int) := dt_
             have q22 : x4_1 < (a0_2.size : Int) := dt_
             have hx22 := bt_at a0_2 x4_1
             replace p22 := eq_true p22
             replace q22 := eq_true q22
             go_wp2
             go_roundg k1
             case measure => have := HK1.out; omega
             case rel => exact ⟨((x3_1 ++ (⟨#[92]⟩ : ByteArray)) ++ (a0_2.extract (x4_1 : Int).toNat ((wrap64 (x4_1 + 1)) : Int).toNat)), (wrap64 (x4_1 + 1)), ra_, ra_, H', ⟨by have := HK1.out; omega⟩, bu2_ BK266, be2_ HB⟩
            ·rw [if_neg c28] at H
             exact absurd H (by simp)
           ·rw [if_neg c27] at H
            exact absurd H (by simp)
          ·rw [if_neg c26] at H
           exact absurd H (by simp)
         ·rw [if_neg c24] at H
          exact absurd H (by simp)
        ·rw [if_neg c23] at H
         obtain ⟨c23b0, c23b1⟩ := neB_ c23
         have c30b0 := eq_true (of_decide_eq_true (by first | (with_reducible assumption) | assumption) : 0 ≤ x4_1)
         by_cases c31 : x4_1 ≤ (wrap64 (x4_1 + 1))
         ·rw [if_pos c31] at H
          have c31b0 := eq_true c31
          have c31b1 : decide (x4_1 ≤ (wrap64 (x4_1 + 1))) = true := decide_eq_true c31
          by_cases c32 : (wrap64 (x4_1 + 1)) ≤ (a0_2.size : Int)
          ·rw [if_pos c32] at H
           have c32b0 := eq_true c32
           have c32b1 : decide ((wrap64 (x4_1 + 1)) ≤ (a0_2.size : Int)) = true := decide_eq_true c32
           by_cases c33 : x3_1.size + (a0_2.extract (x4_1 : Int).toNat ((wrap64 (x4_1 + 1)) : Int).toNat).size ≤ 9223372036854775807
           ·rw [if_pos c33] at H
            have c33b0 := eq_true c33
            have c33b1 : decide (x3_1.size + (a0_2.extract (x4_1 : Int).toNat ((wrap64 (x4_1 + 1)) : Int).toNat).size ≤ 9223372036854775807) = true := decide_eq_true c33
            try have c33b2 : (9223372036854775807 < x3_1.size + (a0_2.extract (x4_1 : Int).toNat ((wrap64 (x4_1 + 1)) : Int).toNat).size) = False := eq_false (Nat.not_lt.2 c33)
            have H' := Aside0.mk H
            clear H
            have hcz34_0 : wr.cell? ⟨gb266, 0, none⟩ = some (.int .i64 a0_0) := (blk_cell BK266.out 0).trans rfl
            have hcz34_1 : wr.cell? ⟨gb266, 1, none⟩ = some (.int .i64 a0_1) := (blk_cell BK266.out 1).trans rfl
            have hcz34_2 : wr.cell? ⟨gb266, 2, none⟩ = some (.string a0_2) := (blk_cell BK266.out 2).trans rfl
            have hfz34_0 := blk_frozen BK266.out 0
            have hfz34_1 := blk_frozen BK266.out 1
            have hfz34_2 := blk_frozen BK266.out 2
            have p14 : 0 ≤ (x4_1 : Int) := dt_
            have q14 : x4_1 < (a0_2.size : Int) := dt_
            have hx14 := bt_at a0_2 x4_1
            replace p14 := eq_true p14
            replace q14 := eq_true q14
            have p22 : 0 ≤ (x4_1 : Int) := dt_
            have q22 : x4_1 < (a0_2.size : Int) := dt_
            have hx22 := bt_at a0_2 x4_1
            replace p22 := eq_true p22
            replace q22 := eq_true q22
            go_wp2
            go_roundg k1
            case measure => have := HK1.out; omega
            case rel => exact ⟨(x3_1 ++ (a0_2.extract (x4_1 : Int).toNat ((wrap64 (x4_1 + 1)) : Int).toNat)), (wrap64 (x4_1 + 1)), ra_, ra_, H', ⟨by have := HK1.out; omega⟩, bu2_ BK266, be2_ HB⟩
           ·rw [if_neg c33] at H
            exact absurd H (by simp)
          ·rw [if_neg c32] at H
           exact absurd H (by simp)
         ·rw [if_neg c31] at H
          exact absurd H (by simp)
      ·rw [if_neg c13] at H
       exact absurd H (by simp)
     ·rw [if_neg c12] at H
      have c12b0 : decide (x4_1 < (a0_2.size : Int)) = false := decide_eq_false c12
      clear c12
      by_cases c35 : x3_1.size + 1 ≤ 9223372036854775807
      ·rw [if_pos c35] at H
       have c35b0 := eq_true c35
       have c35b1 : decide (x3_1.size + 1 ≤ 9223372036854775807) = true := decide_eq_true c35
       try have c35b2 : (9223372036854775807 < x3_1.size + 1) = False := eq_false (Nat.not_lt.2 c35)
       obtain rfl := Option.some.inj H
       have hcz36_0 : wr.cell? ⟨gb266, 0, none⟩ = some (.int .i64 a0_0) := (blk_cell BK266.out 0).trans rfl
       have hcz36_1 : wr.cell? ⟨gb266, 1, none⟩ = some (.int .i64 a0_1) := (blk_cell BK266.out 1).trans rfl
       have hcz36_2 : wr.cell? ⟨gb266, 2, none⟩ = some (.string a0_2) := (blk_cell BK266.out 2).trans rfl
       have hfz36_0 := blk_frozen BK266.out 0
       have hfz36_1 := blk_frozen BK266.out 1
       have hfz36_2 := blk_frozen BK266.out 2
       go_wp2
       go_ret
       exact ⟨re_, be_ HB⟩
      ·rw [if_neg c35] at H
       exact absurd H (by simp)
end Go.Proofs.YtaopajmpifenoaaDoor.P
end
section
namespace Go.Proofs.YtaopajmpifenoaaDoor.P
open Go.RowKit Go.Proofs.YtaopajmpifenoaaDoorW.PrintWords Go.Proofs.YtaopajmpifenoaaDoorW.PrintLast Go.Proofs.YtaopajmpifenoaaDoorW.PrintMore
attribute [local go_sem] max2_int min2_int max_two min_two max_three min_three max_four min_four
set_option linter.unusedVariables false
set_option linter.unusedSimpArgs false
def constableref01_FactText.l0 : Nat → ByteArray → Int → ByteArray → List (S44) → Option (ByteArray)
 | 0, _, _, _, _ => none
 | k + 1, x3, x4, x269000, x269001 => if x4 < (x269001.length : Int) then (if x4 = 0 then (if x3.size + 1 ≤ 9223372036854775807 then (if 0 ≤ x4 then ((constableref01_ValueText.f k ((rd_T44 x269001 x4).f0) ((rd_T44 x269001 x4).f1) ((rd_T44 x269001 x4).f2)).bind fun t270 => (if (x3 ++ (⟨#[40]⟩ : ByteArray)).size + t270.size ≤ 9223372036854775807 then (constableref01_FactText.l0 k ((x3 ++ (⟨#[40]⟩ : ByteArray)) ++ t270) (wrap64 (x4 + 1)) x269000 x269001) else (none))) else (none)) else (none)) else (if x3.size + 2 ≤ 9223372036854775807 then (if 0 ≤ x4 then ((constableref01_ValueText.f k ((rd_T44 x269001 x4).f0) ((rd_T44 x269001 x4).f1) ((rd_T44 x269001 x4).f2)).bind fun t272 => (if (x3 ++ (⟨#[44, 32]⟩ : ByteArray)).size + t272.size ≤ 9223372036854775807 then (constableref01_FactText.l0 k ((x3 ++ (⟨#[44, 32]⟩ : ByteArray)) ++ t272) (wrap64 (x4 + 1)) x269000 x269001) else (none))) else (none)) else (none))) else (if (x269001.length : Int) > 0 then (if x3.size + 1 ≤ 9223372036854775807 then (some (x3 ++ (⟨#[41]⟩ : ByteArray))) else (none)) else (some x3))
def constableref01_FactText.f (k : Nat) (a0_0 : ByteArray) (l0_1 : List (S44)) : Option (ByteArray) := constableref01_FactText.l0 k a0_0 0 a0_0 l0_1
theorem constableref01_FactText.mono_l : ∀ k, (∀ y0 y1 y2 y3, LeO (constableref01_FactText.l0 k y0 y1 y2 y3) (constableref01_FactText.l0 (k + 1) y0 y1 y2 y3))
 | 0 => fun _ _ _ _ r h => by simp [constableref01_FactText.l0] at h
 | k + 1 => by
  have ih0 := constableref01_FactText.mono_l k
  ·intro y0 y1 y2 y3
   unfold constableref01_FactText.l0
   repeat' first
   | (with_reducible exact ih0 _ _ _ _)
   | (with_reducible exact constableref01_ValueText.mono ..)
   | (with_reducible exact LeO.refl _)
   | (with_reducible exact LeO.none _)
   | (with_reducible refine LeO.ite ?_ ?_)
   | (with_reducible refine LeO.bind ?_ (fun _ => ?_))
   | exact ih0 _ _ _ _
   | exact constableref01_ValueText.mono ..
   | exact LeO.none _
   | refine LeO.ite ?_ ?_
   | refine LeO.bind ?_ (fun _ => ?_)
theorem constableref01_FactText.mono : ∀ a0 a1 k, LeO (constableref01_FactText.f k a0 a1) (constableref01_FactText.f (k + 1) a0 a1) := by
 intro a0 a1 k
 have ih0 := constableref01_FactText.mono_l k
 unfold constableref01_FactText.f
 repeat' first
   | (with_reducible exact ih0 _ _ _ _)
   | (with_reducible exact constableref01_ValueText.mono ..)
   | (with_reducible exact LeO.refl _)
   | (with_reducible exact LeO.none _)
   | (with_reducible refine LeO.ite ?_ ?_)
   | (with_reducible refine LeO.bind ?_ (fun _ => ?_))
   | exact ih0 _ _ _ _
   | exact constableref01_ValueText.mono ..
   | exact LeO.none _
   | refine LeO.ite ?_ ?_
   | refine LeO.bind ?_ (fun _ => ?_)
set_option maxHeartbeats 8000000 in
set_option maxRecDepth 100000 in
theorem constableref01_FactText.calls (k : Nat) (a0_0 : ByteArray) (A0_1 : Option Addr) (c0_1 : Nat) (l0_1 : List (S44)) (r : ByteArray) (w : World) (hr0_1 : Kd.C k44 w A0_1 l0_1.length l0_1) (hc0_1 : l0_1.length ≤ c0_1) (h : constableref01_FactText.f k a0_0 l0_1 = some r) :
  Calls Tryd.prog 25 #[.agg #[.string a0_0, .slice A0_1 l0_1.length c0_1]] w fun e w' => e = .returned (.string r) ∧ Below w.heap.size w w' := by
 have hu24 := Tryd.underlying24
 have hu44 := Tryd.underlying44
 have HR0_1 := Aside0.mk hr0_1
 have HC0_1 := Aside0.mk hc0_1
 clear hr0_1 hc0_1
 have HB := Aside0.mk (Below.refl w.heap.size w)
 have H : (constableref01_FactText.l0 k a0_0 0 a0_0 l0_1) = some r := h
 clear h
 have H' := Aside0.mk H
 clear H
 go_enter Tryd.func25, Tryd.ntmps25
 go_wp2_with (first | ((with_reducible refine gate_dst (N := 1) rfl ?_); refine box_event ?hg (N := 1) ?hd (cs := #[.string a0_0, .slice A0_1 l0_1.length c0_1]) (t := 24) ?hr ?_; (case hd => rfl); (case hg => rfl); (case hr => first | (go_simp; done) | (go_simp; rfl)); intro gb268 hg w2 hbox hb; have BK268 := Aside0.mk (hbox); have GW268 := gs_ hg (be_ HB); have GE268 := gs_ hg (be_ HB); replace HB := bs_ (be_ HB) hb; clear hb hbox hg; have hcz3_0 : w2.cell? ⟨gb268, 0, none⟩ = some (.string a0_0) := (blk_cell BK268.out 0).trans rfl; have hcz3_1 : w2.cell? ⟨gb268, 1, none⟩ = some (.slice A0_1 l0_1.length c0_1) := (blk_cell BK268.out 1).trans rfl; have hfz3_0 := blk_frozen BK268.out 0; have hfz3_1 := blk_frozen BK268.out 1))
 go_loopg [3, 4] k (fun kq v3 v4 w' => ∃ (x3_1 : ByteArray) (x4_1 : Int), v3 = .string x3_1 ∧ v4 = .int .i64 x4_1 ∧ Aside0 (constableref01_FactText.l0 kq x3_1 x4_1 a0_0 l0_1 = some r) ∧ Aside0 (kq ≤ k) ∧ Aside0 (w'.heap[gb268]? = some (.cells #[.string a0_0, (.slice A0_1 l0_1.length c0_1)] 24 (0, 0))) ∧ Aside0 (Below w.heap.size w w'))
 case atStart => exact ⟨(a0_0), (0), ra_, ra_, H', ⟨Nat.le_refl _⟩, bu2_ BK268, be2_ HB⟩
 case round =>
  clear H'
  try clear c2; try clear p2; try clear hcz3_0; try clear hcz3_1; try clear hfz3_0; try clear hfz3_1
  obtain ⟨x3_1, x4_1, rfl, rfl, HA, HK1, BK268, HB⟩ := hrel
  cases gk with
  | zero => exact absurd HA.out (by simp [constableref01_FactText.l0])
  | succ k1 =>
   have H := HA.out
   clear HA
   simp only [constableref01_FactText.l0] at H
   by_cases c4 : x4_1 < (l0_1.length : Int)
   ·rw [if_pos c4] at H
    have c4b0 : decide (x4_1 < (l0_1.length : Int)) = true := decide_eq_true c4
    clear c4
    by_cases c5 : x4_1 = 0
    ·rw [if_pos c5] at H
     obtain ⟨c5b0, c5b1⟩ := eqB_ c5
     clear c5
     by_cases c6 : x3_1.size + 1 ≤ 9223372036854775807
     ·rw [if_pos c6] at H
      have c6b0 := eq_true c6
      have c6b1 : decide (x3_1.size + 1 ≤ 9223372036854775807) = true := decide_eq_true c6
      try have c6b2 : (9223372036854775807 < x3_1.size + 1) = False := eq_false (Nat.not_lt.2 c6)
      by_cases c7 : 0 ≤ x4_1
      ·rw [if_pos c7] at H
       have c7b0 : decide (0 ≤ x4_1) = true := decide_eq_true c7
       clear c7
       replace H := Option.bind_eq_some_iff.mp H
       obtain ⟨t270, A80, H⟩ := H
       try dsimp only at H
       have A8 := Aside0.mk A80
       clear A80
       by_cases c9 : (x3_1 ++ (⟨#[40]⟩ : ByteArray)).size + t270.size ≤ 9223372036854775807
       ·rw [if_pos c9] at H
        have c9b0 := eq_true c9
        try (have c9n : x3_1.size + 1 + t270.size ≤ 9223372036854775807 := (by have h_ := c9; simp only [ByteArray.size_append] at h_; exact h_); have c9m := eq_false (Nat.not_lt.2 c9n))
        have c9b1 : decide ((x3_1 ++ (⟨#[40]⟩ : ByteArray)).size + t270.size ≤ 9223372036854775807) = true := decide_eq_true c9
        try have c9b2 : (9223372036854775807 < (x3_1 ++ (⟨#[40]⟩ : ByteArray)).size + t270.size) = False := eq_false (Nat.not_lt.2 c9)
        have H' := Aside0.mk H
        clear H
        have hcz10_0 : wr.cell? ⟨gb268, 0, none⟩ = some (.string a0_0) := (blk_cell BK268.out 0).trans rfl
        have hcz10_1 : wr.cell? ⟨gb268, 1, none⟩ = some (.slice A0_1 l0_1.length c0_1) := (blk_cell BK268.out 1).trans rfl
        have hfz10_0 := blk_frozen BK268.out 0
        have hfz10_1 := blk_frozen BK268.out 1
        have p269 : 0 ≤ (x4_1 : Int) := dt_
        have q269 : x4_1 < (l0_1.length : Int) := dt_
        obtain ⟨ad269, e269, hx269_0, hx269_1, hx269_2⟩ := at_T44 HR0_1.out x4_1 p269 q269
        cases e269
        replace hx269_0 := cm_ HB hx269_0
        replace hx269_1 := cm_ HB hx269_1
        replace hx269_2 := cm_ HB hx269_2
        replace p269 := eq_true p269
        replace q269 := eq_true q269
        go_wp2_with (first | ((with_reducible refine gate_callee (f := 34) rfl ?_); refine goesL_ (some 26) rfl rfl Tryd.func34 (by kernel_rfl) rfl #[.agg #[.int .i64 ((rd_T44 l0_1 x4_1).f0), .int .i64 ((rd_T44 l0_1 x4_1).f1), .string ((rd_T44 l0_1 x4_1).f2)]] rfl ga_ ?_; (with_reducible refine (constableref01_ValueText.calls k1 ((rd_T44 l0_1 x4_1).f0) ((rd_T44 l0_1 x4_1).f1) ((rd_T44 l0_1 x4_1).f2) t270 _ A8.out).mono ?_); rintro e w11 ⟨rfl, hb⟩; refine ⟨_, rfl, ?_⟩; replace BK268 := bb_ (bu_ BK268) hb; replace HB := bs_ (be_ HB) hb; (try clear hb); (try clear hb2); (try clear hk); (try clear hi)))
        go_roundg k1
        case measure => have := HK1.out; omega
        case rel => exact ⟨((x3_1 ++ (⟨#[40]⟩ : ByteArray)) ++ t270), (wrap64 (x4_1 + 1)), ra_, ra_, H', ⟨by have := HK1.out; omega⟩, bu2_ BK268, be2_ HB⟩
       ·rw [if_neg c9] at H
        exact absurd H (by simp)
      ·rw [if_neg c7] at H
       exact absurd H (by simp)
     ·rw [if_neg c6] at H
      exact absurd H (by simp)
    ·rw [if_neg c5] at H
     obtain ⟨c5b0, c5b1⟩ := neB_ c5
     by_cases c12 : x3_1.size + 2 ≤ 9223372036854775807
     ·rw [if_pos c12] at H
      have c12b0 := eq_true c12
      have c12b1 : decide (x3_1.size + 2 ≤ 9223372036854775807) = true := decide_eq_true c12
      try have c12b2 : (9223372036854775807 < x3_1.size + 2) = False := eq_false (Nat.not_lt.2 c12)
      by_cases c13 : 0 ≤ x4_1
      ·rw [if_pos c13] at H
       have c13b0 : decide (0 ≤ x4_1) = true := decide_eq_true c13
       clear c13
       replace H := Option.bind_eq_some_iff.mp H
       obtain ⟨t272, A140, H⟩ := H
       try dsimp only at H
       have A14 := Aside0.mk A140
       clear A140
       by_cases c15 : (x3_1 ++ (⟨#[44, 32]⟩ : ByteArray)).size + t272.size ≤ 9223372036854775807
       ·rw [if_pos c15] at H
        have c15b0 := eq_true c15
        try (have c15n : x3_1.size + 2 + t272.size ≤ 9223372036854775807 := (by have h_ := c15; simp only [ByteArray.size_append] at h_; exact h_); have c15m := eq_false (Nat.not_lt.2 c15n))
        have c15b1 : decide ((x3_1 ++ (⟨#[44, 32]⟩ : ByteArray)).size + t272.size ≤ 9223372036854775807) = true := decide_eq_true c15
        try have c15b2 : (9223372036854775807 < (x3_1 ++ (⟨#[44, 32]⟩ : ByteArray)).size + t272.size) = False := eq_false (Nat.not_lt.2 c15)
        have H' := Aside0.mk H
        clear H
        have hcz16_0 : wr.cell? ⟨gb268, 0, none⟩ = some (.string a0_0) := (blk_cell BK268.out 0).trans rfl
        have hcz16_1 : wr.cell? ⟨gb268, 1, none⟩ = some (.slice A0_1 l0_1.length c0_1) := (blk_cell BK268.out 1).trans rfl
        have hfz16_0 := blk_frozen BK268.out 0
        have hfz16_1 := blk_frozen BK268.out 1
        have p271 : 0 ≤ (x4_1 : Int) := dt_
        have q271 : x4_1 < (l0_1.length : Int) := dt_
        obtain ⟨ad271, e271, hx271_0, hx271_1, hx271_2⟩ := at_T44 HR0_1.out x4_1 p271 q271
        cases e271
        replace hx271_0 := cm_ HB hx271_0
        replace hx271_1 := cm_ HB hx271_1
        replace hx271_2 := cm_ HB hx271_2
        replace p271 := eq_true p271
        replace q271 := eq_true q271
        go_wp2_with (first | ((with_reducible refine gate_callee (f := 34) rfl ?_); refine goesL_ (some 26) rfl rfl Tryd.func34 (by kernel_rfl) rfl #[.agg #[.int .i64 ((rd_T44 l0_1 x4_1).f0), .int .i64 ((rd_T44 l0_1 x4_1).f1), .string ((rd_T44 l0_1 x4_1).f2)]] rfl ga_ ?_; (with_reducible refine (constableref01_ValueText.calls k1 ((rd_T44 l0_1 x4_1).f0) ((rd_T44 l0_1 x4_1).f1) ((rd_T44 l0_1 x4_1).f2) t272 _ A14.out).mono ?_); rintro e w17 ⟨rfl, hb⟩; refine ⟨_, rfl, ?_⟩; replace BK268 := bb_ (bu_ BK268) hb; replace HB := bs_ (be_ HB) hb; (try clear hb); (try clear hb2); (try clear hk); (try clear hi)))
        go_roundg k1
        case measure => have := HK1.out; omega
        case rel => exact ⟨((x3_1 ++ (⟨#[44, 32]⟩ : ByteArray)) ++ t272), (wrap64 (x4_1 + 1)), ra_, ra_, H', ⟨by have := HK1.out; omega⟩, bu2_ BK268, be2_ HB⟩
       ·rw [if_neg c15] at H
        exact absurd H (by simp)
      ·rw [if_neg c13] at H
       exact absurd H (by simp)
     ·rw [if_neg c12] at H
      exact absurd H (by simp)
   ·rw [if_neg c4] at H
    have c4b0 : decide (x4_1 < (l0_1.length : Int)) = false := decide_eq_false c4
    clear c4
    by_cases c18 : (l0_1.length : Int) > 0
    ·rw [if_pos c18] at H
     have c18b0 : decide (0 < (l0_1.length : Int)) = true := decide_eq_true c18
     have c18b1 : decide (0 < l0_1.length) = true := decide_eq_true (by omega)
     clear c18
     by_cases c19 : x3_1.size + 1 ≤ 9223372036854775807
     ·rw [if_pos c19] at H
      have c19b0 := eq_true c19
      have c19b1 : decide (x3_1.size + 1 ≤ 9223372036854775807) = true := decide_eq_true c19
      try have c19b2 : (9223372036854775807 < x3_1.size + 1) = False := eq_false (Nat.not_lt.2 c19)
      obtain rfl := Option.some.inj H
      have hcz20_0 : wr.cell? ⟨gb268, 0, none⟩ = some (.string a0_0) := (blk_cell BK268.out 0).trans rfl
      have hcz20_1 : wr.cell? ⟨gb268, 1, none⟩ = some (.slice A0_1 l0_1.length c0_1) := (blk_cell BK268.out 1).trans rfl
      have hfz20_0 := blk_frozen BK268.out 0
      have hfz20_1 := blk_frozen BK268.out 1
      go_wp2
      go_ret
      exact ⟨re_, be_ HB⟩
     ·rw [if_neg c19] at H
      exact absurd H (by simp)
    ·rw [if_neg c18] at H
     have c18b0 : decide (0 < (l0_1.length : Int)) = false := decide_eq_false c18
     have c18b1 : decide (0 < l0_1.length) = false := decide_eq_false (by omega)
     clear c18
     obtain rfl := Option.some.inj H
     have hcz21_0 : wr.cell? ⟨gb268, 0, none⟩ = some (.string a0_0) := (blk_cell BK268.out 0).trans rfl
     have hcz21_1 : wr.cell? ⟨gb268, 1, none⟩ = some (.slice A0_1 l0_1.length c0_1) := (blk_cell BK268.out 1).trans rfl
     have hfz21_0 := blk_frozen BK268.out 0
     have hfz21_1 := blk_frozen BK268.out 1
     go_wp2
     go_ret
     exact ⟨re_, be_ HB⟩
end Go.Proofs.YtaopajmpifenoaaDoor.P
end
section
namespace Go.Proofs.YtaopajmpifenoaaDoor.P
open Go.RowKit Go.Proofs.YtaopajmpifenoaaDoorW.PrintWords Go.Proofs.YtaopajmpifenoaaDoorW.PrintLast Go.Proofs.YtaopajmpifenoaaDoorW.PrintMore
attribute [local go_sem] max2_int min2_int max_two min_two max_three min_three max_four min_four
set_option linter.unusedVariables false
set_option linter.unusedSimpArgs false
def constablekeep_TwinFact.f (a0_0 : ByteArray) (l0_1 : List (S44)) : Option (ByteArray × (List (S44))) := if ([] : List (S44)).length + l0_1.length < 4398046511104 then (some (a0_0, (([] : List (S44)) ++ l0_1))) else (none)
set_option maxHeartbeats 8000000 in
set_option maxRecDepth 100000 in
theorem constablekeep_TwinFact.calls (a0_0 : ByteArray) (A0_1 : Option Addr) (c0_1 : Nat) (l0_1 : List (S44)) (r1 : ByteArray) (r2 : List (S44)) (w : World) (hr0_1 : Kd.C k44 w A0_1 l0_1.length l0_1) (hc0_1 : l0_1.length ≤ c0_1) (h : constablekeep_TwinFact.f a0_0 l0_1 = some (r1, r2)) :
  Calls Tryd.prog 13 #[.agg #[.string a0_0, .slice A0_1 l0_1.length c0_1]] w fun e w' => ∃ v1_ : Value, e = .returned (.agg #[.string r1, v1_]) ∧ Kd.R k44 44 w' w.heap.size (fun _ => True) v1_ r2 ∧ Below w.heap.size w w' := by
 have hu24 := Tryd.underlying24
 have HR0_1 := Aside0.mk hr0_1
 have HC0_1 := Aside0.mk hc0_1
 clear hr0_1 hc0_1
 have HB := Aside0.mk (Below.refl w.heap.size w)
 have H : (if ([] : List (S44)).length + l0_1.length < 4398046511104 then (some (a0_0, (([] : List (S44)) ++ l0_1))) else (none)) = some (r1, r2) := h
 clear h
 by_cases c2 : ([] : List (S44)).length + l0_1.length < 4398046511104
 ·rw [if_pos c2] at H
  have LMc2 := Aside0.mk c2
  clear c2
  obtain ⟨y108, hy108⟩ : ∃ y_ : List (S44), y_ = (([] : List (S44)) ++ l0_1) := ⟨_, rfl⟩
  replace H : (some (a0_0, y108)) = some (r1, r2) := by first | (rw [hy108]; with_reducible exact H) | (have H2_ := (Option.bind_some _ _).symm.trans H; rw [hy108]; with_reducible exact H2_) | (have H2_ := (Option.bind_some _ _).symm.trans H; with_reducible exact H2_) | with_reducible exact H | (rw [hy108]; exact H) | exact H
  have Ny108 := Aside0.mk hy108
  clear hy108
  simp only [Option.some.injEq, Prod.mk.injEq] at H
  obtain ⟨rfl, rfl⟩ := H
  go_enter Tryd.func13, Tryd.ntmps13
  go_wp2_with (first | ((with_reducible refine gate_dst (N := 1) rfl ?_); refine box_event ?hg (N := 1) ?hd (cs := #[.string a0_0, .slice A0_1 l0_1.length c0_1]) (t := 24) ?hr ?_; (case hd => rfl); (case hg => rfl); (case hr => first | (go_simp; done) | (go_simp; rfl)); intro gb105 hg w3 hbox hb; have BK105 := Aside0.mk (hbox); have GW105 := gs_ hg (be_ HB); have GE105 := gs_ hg (be_ HB); replace HB := bs_ (be_ HB) hb; clear hb hbox hg) | ((with_reducible refine gate_dst (N := 2) rfl ?_); refine box_event ?hg (N := 2) ?hd (cs := #[.string (⟨#[]⟩ : ByteArray), .slice none 0 0]) (t := 24) ?hr ?_; (case hd => rfl); (case hg => rfl); (case hr => first | (go_simp; done) | (go_simp; rfl)); intro gb106 hg w4 hbox hb; have BK106 := Aside0.mk (hbox); have GW106 := gs_ hg (be_ HB); have GE106 := gs_ hg (be_ HB); replace HB := bs_ (be_ HB) hb; have NB105_106 := nl_ hg (bu_ BK105); have NB106_105 := ng_ hg (bu_ BK105); replace BK105 := bb_ (bu_ BK105) hb; clear hb hbox hg; have hnb5 := NB105_106.out; have hnc5 := NB106_105.out; have hcz6_0 : w4.cell? ⟨gb105, 0, none⟩ = some (.string a0_0) := (blk_cell BK105.out 0).trans rfl; have hcz6_1 : w4.cell? ⟨gb105, 1, none⟩ = some (.slice A0_1 l0_1.length c0_1) := (blk_cell BK105.out 1).trans rfl; have hfz6_0 := blk_frozen BK105.out 0; have hfz6_1 := blk_frozen BK105.out 1) | ((with_reducible refine gate_dst (N := 3) rfl ?_); refine box_event ?hg (N := 3) ?hd (cs := #[.string (⟨#[]⟩ : ByteArray), .slice none 0 0]) (t := 24) ?hr ?_; (case hd => rfl); (case hg => rfl); (case hr => first | (go_simp; done) | (go_simp; rfl)); intro gb107 hg w7 hbox hb; have BK107 := Aside0.mk (hbox); have GW107 := gs_ hg (be_ HB); have GE107 := gs_ hg (be_ HB); replace HB := bs_ (be_ HB) hb; have NB105_107 := nl_ hg (bu_ BK105); have NB107_105 := ng_ hg (bu_ BK105); replace BK105 := bb_ (bu_ BK105) hb; have NB106_107 := nl_ hg (bu_ BK106); have NB107_106 := ng_ hg (bu_ BK106); replace BK106 := bb_ (bu_ BK106) hb; clear hb hbox hg; have hnb8 := NB107_105.out; have hnc8 := NB105_107.out; have hnb9 := NB107_106.out; have hnc9 := NB106_107.out; have hcz10_0 : w7.cell? ⟨gb107, 0, none⟩ = some (.string (⟨#[]⟩ : ByteArray)) := (blk_cell BK107.out 0).trans rfl; have hcz10_1 : w7.cell? ⟨gb107, 1, none⟩ = some (.slice none 0 0) := (blk_cell BK107.out 1).trans rfl; have hfz10_0 := blk_frozen BK107.out 0; have hfz10_1 := blk_frozen BK107.out 1; have hcz11_0 : w7.cell? ⟨gb105, 0, none⟩ = some (.string a0_0) := (blk_cell BK105.out 0).trans rfl; have hcz11_1 : w7.cell? ⟨gb105, 1, none⟩ = some (.slice A0_1 l0_1.length c0_1) := (blk_cell BK105.out 1).trans rfl; have hfz11_0 := blk_frozen BK105.out 0; have hfz11_1 := blk_frozen BK105.out 1) | ((with_reducible refine gate_builtin (b := .append) (xs := #[.tmp 8, .tmp 10]) rfl ?_); at_builtin; refine Kd.R_append_rows k44 (w0 := w) w.heap.size rfl (.tmp 8) (.tmp 10) 22 44 (.agg #[(.int .i64 0), (.int .i64 0), (.string ⟨#[]⟩)]) 32 rfl Tryd.underlying22 info44 rfl (by decide) (by omega) (.slice none 0 0) ([] : List (S44)) l0_1 _ _ _ (fun _ => True) (fun _ => False) rfl rfl ?aO ?aR (fun _ _ h => h) (fun _ h => h.elim) ?aF ?aB ?aS ?aL ?_; (case aR => exact Kd.C_below HR0_1.out (be_ HB)); (case aB => exact (be_ HB)); (case aF => exact (fun _ _ => trivial)); (case aO => exact ((Kd.R_nil _ _ _ _ (fun _ => True)))); (case aS => exact (below_size (be_ HB))); (case aL => have := LMc2.out; omega); intro v109 w12 ho hb hg hat; rw [← Ny108.out] at ho; replace BK105 := Aside0.mk (blk_grown (bu_ BK105) hg (by simp [Value.ownBlock])); replace BK106 := Aside0.mk (blk_grown (bu_ BK106) hg (by simp [Value.ownBlock])); replace BK107 := Aside0.mk (blk_grown (o := .cells #[.string a0_0, .slice none 0 0] 24 (0, 0)) (bp_ BK107) hg (by simp [Value.ownBlock])); replace HB := Aside0.mk (hb); have HO110 := Aside0.mk (ho); clear ho hb hg hat; obtain ⟨Ao13, co13, eo13⟩ := Kd.R_slice HO110.out; subst eo13; have hcz14_0 : w12.cell? ⟨gb107, 0, none⟩ = some (.string a0_0) := (blk_cell BK107.out 0).trans rfl; have hcz14_1 : w12.cell? ⟨gb107, 1, none⟩ = some (.slice none 0 0) := (blk_cell BK107.out 1).trans rfl; have hfz14_0 := blk_frozen BK107.out 0; have hfz14_1 := blk_frozen BK107.out 1; have hcz15_0 : w12.cell? ⟨gb106, 0, none⟩ = some (.string (⟨#[]⟩ : ByteArray)) := (blk_cell BK106.out 0).trans rfl; have hcz15_1 : w12.cell? ⟨gb106, 1, none⟩ = some (.slice none 0 0) := (blk_cell BK106.out 1).trans rfl; have hfz15_0 := blk_frozen BK106.out 0; have hfz15_1 := blk_frozen BK106.out 1))
  refine bodyPost_ret (results_cell_row rfl _ _ gb106 24 #[.string a0_0, .slice Ao13 y108.length co13] (0, 0) _ rfl (bp_ BK106) Tryd.underlying24 rfl (by kernel_rfl)) rfl ?_
  exact ⟨_, by first | rfl | (simp [errW_none, errW_some] <;> rfl) | (simp [*, errW_none, errW_some] <;> rfl), by (with_reducible repeat (first | apply Kd.R_alloc | apply Kd.R_drewN | apply Kd.R_drew)); exact Kd.R_mono (Kd.R_far (p := ⟨gb106, 1, none⟩) (Kd.R_far (p := ⟨gb106, 0, none⟩) (Kd.R_far (p := ⟨gb107, 1, none⟩) (Kd.R_types (Kd.R_types HO110.out BK107.out (by decide)) BK106.out (by decide)) (fun _ hk => hk.1.2) (.slice Ao13 y108.length co13)) (fun _ hk => hk.2) (.string a0_0)) (fun _ hk => hk.2) (.slice Ao13 y108.length co13)) (fun _ hk => trivial), by repeat (first | (with_reducible first | exact HB.out | apply below_alloc | apply pw_below_drewN | apply below_drew1 | refine below_set ?_ GE105.out | refine below_set ?_ GE106.out | refine below_set ?_ GE107.out) | exact HB.out)⟩
 ·rw [if_neg c2] at H
  exact absurd H (by simp)
end Go.Proofs.YtaopajmpifenoaaDoor.P
end
section
namespace Go.Proofs.YtaopajmpifenoaaDoor.P
open Go.RowKit Go.Proofs.YtaopajmpifenoaaDoorW.PrintWords Go.Proofs.YtaopajmpifenoaaDoorW.PrintLast Go.Proofs.YtaopajmpifenoaaDoorW.PrintMore
attribute [local go_sem] max2_int min2_int max_two min_two max_three min_three max_four min_four
set_option linter.unusedVariables false
set_option linter.unusedSimpArgs false
def constablelaw03_Many.l0 : Nat → List (S24) → Int → Option (Bool)
 | 0, _, _ => none
 | k + 1, x0, x3 => if x3 < (x0.length : Int) then (if 0 ≤ x3 then ((constablelaw03_Heavy.f k ((rd_T24 x0 x3).f0) ((rd_T24 x0 x3).f1)).bind fun t104 => (if t104 = true then (some true) else (constablelaw03_Many.l0 k x0 (wrap64 (x3 + 1))))) else (none)) else (some false)
def constablelaw03_Many.f (k : Nat) (l0 : List (S24)) : Option (Bool) := if (l0.length : Int) > 60 then (some true) else (constablelaw03_Many.l0 k l0 0)
theorem constablelaw03_Many.mono_l : ∀ k, (∀ y0 y1, LeO (constablelaw03_Many.l0 k y0 y1) (constablelaw03_Many.l0 (k + 1) y0 y1))
 | 0 => fun _ _ r h => by simp [constablelaw03_Many.l0] at h
 | k + 1 => by
  have ih0 := constablelaw03_Many.mono_l k
  ·intro y0 y1
   unfold constablelaw03_Many.l0
   repeat' first
   | (with_reducible exact ih0 _ _)
   | (with_reducible exact constablelaw03_Heavy.mono ..)
   | (with_reducible exact LeO.refl _)
   | (with_reducible exact LeO.none _)
   | (with_reducible refine LeO.ite ?_ ?_)
   | (with_reducible refine LeO.bind ?_ (fun _ => ?_))
   | exact ih0 _ _
   | exact constablelaw03_Heavy.mono ..
   | exact LeO.none _
   | refine LeO.ite ?_ ?_
   | refine LeO.bind ?_ (fun _ => ?_)
theorem constablelaw03_Many.mono : ∀ a0 k, LeO (constablelaw03_Many.f k a0) (constablelaw03_Many.f (k + 1) a0) := by
 intro a0 k
 have ih0 := constablelaw03_Many.mono_l k
 unfold constablelaw03_Many.f
 repeat' first
   | (with_reducible exact ih0 _ _)
   | (with_reducible exact constablelaw03_Heavy.mono ..)
   | (with_reducible exact LeO.refl _)
   | (with_reducible exact LeO.none _)
   | (with_reducible refine LeO.ite ?_ ?_)
   | (with_reducible refine LeO.bind ?_ (fun _ => ?_))
   | exact ih0 _ _
   | exact constablelaw03_Heavy.mono ..
   | exact LeO.none _
   | refine LeO.ite ?_ ?_
   | refine LeO.bind ?_ (fun _ => ?_)
set_option maxHeartbeats 8000000 in
set_option maxRecDepth 100000 in
theorem constablelaw03_Many.calls (k : Nat) (A0 : Option Addr) (c0 : Nat) (l0 : List (S24)) (r : Bool) (w : World) (hr0 : Kd.C k24 w A0 l0.length l0) (hc0 : l0.length ≤ c0) (h : constablelaw03_Many.f k l0 = some r) :
  Calls Tryd.prog 12 #[.slice A0 l0.length c0] w fun e w' => e = .returned (.bool r) ∧ Below w.heap.size w w' := by
 have hu24 := Tryd.underlying24
 have HR0 := Aside0.mk hr0
 have HC0 := Aside0.mk hc0
 clear hr0 hc0
 have HB := Aside0.mk (Below.refl w.heap.size w)
 have H : (if (l0.length : Int) > 60 then (some true) else (constablelaw03_Many.l0 k l0 0)) = some r := h
 clear h
 by_cases c2 : (l0.length : Int) > 60
 ·rw [if_pos c2] at H
  have c2b0 : decide (60 < (l0.length : Int)) = true := decide_eq_true c2
  have c2b1 : decide (60 < l0.length) = true := decide_eq_true (by omega)
  clear c2
  obtain rfl := Option.some.inj H
  go_enter Tryd.func12, Tryd.ntmps12
  go_wp2
  go_ret
  exact ⟨re_, be_ HB⟩
 ·rw [if_neg c2] at H
  have c2b0 : decide (60 < (l0.length : Int)) = false := decide_eq_false c2
  have c2b1 : decide (60 < l0.length) = false := decide_eq_false (by omega)
  clear c2
  have H' := Aside0.mk H
  clear H
  go_enter Tryd.func12, Tryd.ntmps12
  go_wp2
  go_loopg [3] k (fun kq v3 w' => ∃ (x3_1 : Int), v3 = .int .i64 x3_1 ∧ Aside0 (constablelaw03_Many.l0 kq l0 x3_1 = some r) ∧ Aside0 (kq ≤ k) ∧ Aside0 (Below w.heap.size w w'))
  case atStart => exact ⟨(0), ra_, H', ⟨Nat.le_refl _⟩, be2_ HB⟩
  case round =>
   clear H'
   try clear c1; try clear c2; try clear c2b0; try clear c2b1; try clear p2
   obtain ⟨x3_1, rfl, HA, HK1, HB⟩ := hrel
   cases gk with
   | zero => exact absurd HA.out (by simp [constablelaw03_Many.l0])
   | succ k1 =>
    have H := HA.out
    clear HA
    simp only [constablelaw03_Many.l0] at H
    by_cases c3 : x3_1 < (l0.length : Int)
    ·rw [if_pos c3] at H
     have c3b0 : decide (x3_1 < (l0.length : Int)) = true := decide_eq_true c3
     clear c3
     by_cases c4 : 0 ≤ x3_1
     ·rw [if_pos c4] at H
      have c4b0 : decide (0 ≤ x3_1) = true := decide_eq_true c4
      clear c4
      replace H := Option.bind_eq_some_iff.mp H
      obtain ⟨t104, A50, H⟩ := H
      try dsimp only at H
      have A5 := Aside0.mk A50
      clear A50
      by_cases c6 : t104 = true
      ·subst c6
       rw [if_pos rfl] at H
       obtain rfl := Option.some.inj H
       have p103 : 0 ≤ (x3_1 : Int) := dt_
       have q103 : x3_1 < (l0.length : Int) := dt_
       obtain ⟨ad103, A103_1, c103_1, e103, hx103_0, hx103_1, hl103_1, hi103_1⟩ := at_T24 HR0.out x3_1 p103 q103
       cases e103
       replace hx103_0 := cm_ HB hx103_0
       replace hx103_1 := cm_ HB hx103_1
       have HR103_1 := Aside0.mk hi103_1
       have HC103_1 := Aside0.mk hl103_1
       clear hi103_1 hl103_1
       replace p103 := eq_true p103
       replace q103 := eq_true q103
       go_wp2_with (first | ((with_reducible refine gate_callee (f := 11) rfl ?_); refine goesL_ (some 17) rfl rfl Tryd.func11 (by kernel_rfl) rfl #[.agg #[.string ((rd_T24 l0 x3_1).f0), .slice A103_1 ((rd_T24 l0 x3_1).f1).length c103_1]] rfl ga_ ?_; (with_reducible refine (constablelaw03_Heavy.calls k1 ((rd_T24 l0 x3_1).f0) _ _ ((rd_T24 l0 x3_1).f1) true _ ?side1 ?side2 A5.out).mono ?_); (case side1 => exact kd_ ((Kd.C_below HR103_1.out HB.out))); (case side2 => exact HC103_1.out); rintro e w7 ⟨rfl, hb⟩; refine ⟨_, rfl, ?_⟩; replace HB := bs_ (be_ HB) hb; (try clear hb); (try clear hb2); (try clear hk); (try clear hi)))
       go_ret
       exact ⟨re_, be_ HB⟩
      ·replace c6 := Bool.eq_false_iff.mpr c6
       subst c6
       rw [if_neg (show ¬ (false = true) by decide)] at H
       have H' := Aside0.mk H
       clear H
       have p103 : 0 ≤ (x3_1 : Int) := dt_
       have q103 : x3_1 < (l0.length : Int) := dt_
       obtain ⟨ad103, A103_1, c103_1, e103, hx103_0, hx103_1, hl103_1, hi103_1⟩ := at_T24 HR0.out x3_1 p103 q103
       cases e103
       replace hx103_0 := cm_ HB hx103_0
       replace hx103_1 := cm_ HB hx103_1
       have HR103_1 := Aside0.mk hi103_1
       have HC103_1 := Aside0.mk hl103_1
       clear hi103_1 hl103_1
       replace p103 := eq_true p103
       replace q103 := eq_true q103
       go_wp2_with (first | ((with_reducible refine gate_callee (f := 11) rfl ?_); refine goesL_ (some 17) rfl rfl Tryd.func11 (by kernel_rfl) rfl #[.agg #[.string ((rd_T24 l0 x3_1).f0), .slice A103_1 ((rd_T24 l0 x3_1).f1).length c103_1]] rfl ga_ ?_; (with_reducible refine (constablelaw03_Heavy.calls k1 ((rd_T24 l0 x3_1).f0) _ _ ((rd_T24 l0 x3_1).f1) false _ ?side1 ?side2 A5.out).mono ?_); (case side1 => exact kd_ ((Kd.C_below HR103_1.out HB.out))); (case side2 => exact HC103_1.out); rintro e w8 ⟨rfl, hb⟩; refine ⟨_, rfl, ?_⟩; replace HB := bs_ (be_ HB) hb; (try clear hb); (try clear hb2); (try clear hk); (try clear hi)))
       go_roundg k1
       case measure => have := HK1.out; omega
       case rel => exact ⟨(wrap64 (x3_1 + 1)), ra_, H', ⟨by have := HK1.out; omega⟩, be2_ HB⟩
     ·rw [if_neg c4] at H
      exact absurd H (by simp)
    ·rw [if_neg c3] at H
     have c3b0 : decide (x3_1 < (l0.length : Int)) = false := decide_eq_false c3
     clear c3
     obtain rfl := Option.some.inj H
     go_wp2
     go_ret
     exact ⟨re_, be_ HB⟩
end Go.Proofs.YtaopajmpifenoaaDoor.P
end
section
namespace Go.Proofs.YtaopajmpifenoaaDoor.P
open Go.RowKit Go.Proofs.YtaopajmpifenoaaDoorW.PrintWords Go.Proofs.YtaopajmpifenoaaDoorW.PrintLast Go.Proofs.YtaopajmpifenoaaDoorW.PrintMore
attribute [local go_sem] max2_int min2_int max_two min_two max_three min_three max_four min_four
set_option linter.unusedVariables false
set_option linter.unusedSimpArgs false
def val_bare.l0 : Nat → ByteArray → List Int → Int → Option (ByteArray)
 | 0, _, _, _ => none
 | k + 1, x0, x3, x4 => if x4 < (wrap64 ((x0.size : Int) - 1)) then (if 0 ≤ x4 then (if x4 < (x0.size : Int) then (if (bt x0 x4) = 92 then (if (wrap64 (x4 + 1)) < (wrap64 ((x0.size : Int) - 1)) then (if 0 ≤ (wrap64 (x4 + 1)) then (if (wrap64 (x4 + 1)) < (x0.size : Int) then (if x3.length < 140737488355328 then (val_bare.l0 k x0 (x3 ++ [bt x0 (wrap64 (x4 + 1))]) (wrap64 ((wrap64 (x4 + 1)) + 1))) else (none)) else (none)) else (none)) else (if x3.length < 140737488355328 then (val_bare.l0 k x0 (x3 ++ [bt x0 x4]) (wrap64 (x4 + 1))) else (none))) else (if x3.length < 140737488355328 then (val_bare.l0 k x0 (x3 ++ [bt x0 x4]) (wrap64 (x4 + 1))) else (none))) else (none)) else (none)) else (some (strOfNums x3))
def val_bare.f (k : Nat) (a0 : ByteArray) : Option (ByteArray) := val_bare.l0 k a0 ([] : List Int) 1
theorem val_bare.mono_l : ∀ k, (∀ y0 y1 y2, LeO (val_bare.l0 k y0 y1 y2) (val_bare.l0 (k + 1) y0 y1 y2))
 | 0 => fun _ _ _ r h => by simp [val_bare.l0] at h
 | k + 1 => by
  have ih0 := val_bare.mono_l k
  ·intro y0 y1 y2
   unfold val_bare.l0
   repeat' first
   | (with_reducible exact ih0 _ _ _)
   | (with_reducible exact LeO.refl _)
   | (with_reducible exact LeO.none _)
   | (with_reducible refine LeO.ite ?_ ?_)
   | (with_reducible refine LeO.bind ?_ (fun _ => ?_))
   | exact ih0 _ _ _
   | exact LeO.none _
   | refine LeO.ite ?_ ?_
   | refine LeO.bind ?_ (fun _ => ?_)
theorem val_bare.mono : ∀ a0 k, LeO (val_bare.f k a0) (val_bare.f (k + 1) a0) := by
 intro a0 k
 have ih0 := val_bare.mono_l k
 unfold val_bare.f
 repeat' first
   | (with_reducible exact ih0 _ _ _)
   | (with_reducible exact LeO.refl _)
   | (with_reducible exact LeO.none _)
   | (with_reducible refine LeO.ite ?_ ?_)
   | (with_reducible refine LeO.bind ?_ (fun _ => ?_))
   | exact ih0 _ _ _
   | exact LeO.none _
   | refine LeO.ite ?_ ?_
   | refine LeO.bind ?_ (fun _ => ?_)
set_option maxHeartbeats 8000000 in
set_option maxRecDepth 100000 in
theorem val_bare.calls (k : Nat) (a0 : ByteArray) (r : ByteArray) (w : World) (h : val_bare.f k a0 = some r) :
  Calls Tryd.prog 50 #[.string a0] w fun e w' => e = .returned (.string r) ∧ Below w.heap.size w w' := by
 have HB := Aside0.mk (Below.refl w.heap.size w)
 have H : (val_bare.l0 k a0 ([] : List Int) 1) = some r := h
 clear h
 have H' := Aside0.mk H
 clear H
 go_enter Tryd.func50, Tryd.ntmps50
 go_wp2
 go_loopg [3, 4] k (fun kq v3 v4 w' => ∃ (x3_1 : List Int) (x4_1 : Int), v4 = .int .i64 x4_1 ∧ Aside0 (val_bare.l0 kq a0 x3_1 x4_1 = some r) ∧ Aside0 (kq ≤ k) ∧ Aside0 (Kd.R (Kd.int .u8) 5 w' w.heap.size (fun _ => True) v3 x3_1) ∧ Aside0 (Below w.heap.size w w'))
 case atStart => exact ⟨(([] : List Int)), (1), ra_, H', ⟨Nat.le_refl _⟩, ⟨by first | exact Kd.R_nil _ _ _ _ _ | exact Kd.N_nil _ _ _ _ _ | exact Kd.V_nil _ _ _ _ _ | exact Kd.Q_nil _ _ _ _ _ | exact Kd.S_nil _ _ _ _ _⟩, be2_ HB⟩
 case round =>
  clear H'
  obtain ⟨x3_1, x4_1, rfl, HA, HK1, HO_3, HB⟩ := hrel
  cases gk with
  | zero => exact absurd HA.out (by simp [val_bare.l0])
  | succ k1 =>
   have H := HA.out
   clear HA
   simp only [val_bare.l0] at H
   by_cases c2 : x4_1 < (wrap64 ((a0.size : Int) - 1))
   ·rw [if_pos c2] at H
    have c2b0 : decide (x4_1 < (wrap64 ((a0.size : Int) - 1))) = true := decide_eq_true c2
    clear c2
    by_cases c3 : 0 ≤ x4_1
    ·rw [if_pos c3] at H
     have c3b0 : decide (0 ≤ x4_1) = true := decide_eq_true c3
     clear c3
     by_cases c4 : x4_1 < (a0.size : Int)
     ·rw [if_pos c4] at H
      have c4b0 : decide (x4_1 < (a0.size : Int)) = true := decide_eq_true c4
      clear c4
      by_cases c6 : (bt a0 x4_1) = 92
      ·rw [if_pos c6] at H
       obtain ⟨c6b0, c6b1⟩ := eqB_ c6
       clear c6
       by_cases c7 : (wrap64 (x4_1 + 1)) < (wrap64 ((a0.size : Int) - 1))
       ·rw [if_pos c7] at H
        have c7b0 : decide ((wrap64 (x4_1 + 1)) < (wrap64 ((a0.size : Int) - 1))) = true := decide_eq_true c7
        clear c7
        obtain ⟨ji8, hji8⟩ : ∃ j_ : Int, (wrap64 (x4_1 + 1)) = j_ := ⟨_, rfl⟩
        replace H : (if 0 ≤ (ji8) then (if (ji8) < (a0.size : Int) then (if x3_1.length < 140737488355328 then (val_bare.l0 k1 a0 (x3_1 ++ [bt a0 (ji8)]) (wrap64 ((ji8) + 1))) else (none)) else (none)) else (none)) = some r := by first | (rw [hji8] at H; exact H) | (simp only [hji8] at H ⊢; exact H)
        (try rw [hji8] at c7b0)
        have hji8w : (IntKind.i64.wrap (x4_1 + 1)) = ji8 := (i64_w _).trans hji8
        by_cases c9 : 0 ≤ (ji8)
        ·rw [if_pos c9] at H
         have c9b0 : decide (0 ≤ (ji8)) = true := decide_eq_true c9
         clear c9
         by_cases c10 : (ji8) < (a0.size : Int)
         ·rw [if_pos c10] at H
          have c10b0 : decide ((ji8) < (a0.size : Int)) = true := decide_eq_true c10
          clear c10
          by_cases c12 : x3_1.length < 140737488355328
          ·rw [if_pos c12] at H
           have LMc12 := Aside0.mk c12
           clear c12
           obtain ⟨y360, hy360⟩ : ∃ y_ : List Int, y_ = (x3_1 ++ [bt a0 (ji8)]) := ⟨_, rfl⟩
           replace H : (val_bare.l0 k1 a0 y360 (wrap64 ((ji8) + 1))) = some r := by first | (rw [hy360]; with_reducible exact H) | (have H2_ := (Option.bind_some _ _).symm.trans H; rw [hy360]; with_reducible exact H2_) | (have H2_ := (Option.bind_some _ _).symm.trans H; with_reducible exact H2_) | with_reducible exact H | (rw [hy360]; exact H) | exact H
           have Ny360 := Aside0.mk hy360
           clear hy360
           have H' := Aside0.mk H
           clear H
           have p5 : 0 ≤ (x4_1 : Int) := dt_
           have q5 : x4_1 < (a0.size : Int) := dt_
           have hx5 := bt_at a0 x4_1
           replace p5 := eq_true p5
           replace q5 := eq_true q5
           have p11 : 0 ≤ ((ji8) : Int) := dt_
           have q11 : (ji8) < (a0.size : Int) := dt_
           have hx11 := bt_at a0 (ji8)
           replace p11 := eq_true p11
           replace q11 := eq_true q11
           go_wp2_with (first | ((with_reducible refine gate_builtin (b := .append) (xs := #[.tmp 26, .tmp 30]) rfl ?_); (try (refine gate_guard (by rfl) ?_; dsimp only)); at_builtin; refine Kd.R_append (Kd.int .u8) (w0 := w) w.heap.size rfl (.tmp 26) (.tmp 30) 81 5 (.int .u8 0) 1 rfl Tryd.underlying81 info5 rfl (by decide) (by omega) u3 x3_1 (bt a0 (ji8)) [.int .u8 (bt a0 (ji8))] (fun _ => True) (fun _ => False) rfl rfl ?aP (fun _ hk => hk.elim) ?aF ?aO ?aB ?aS ?aL ?_; (case aP => exact rfl); (case aB => exact (be_ HB)); (case aF => exact (fun _ _ => trivial)); (case aO => exact (ku_ HO_3.out)); (case aS => exact (below_size (be_ HB))); (case aL => have := LMc12.out; omega); intro v361 w13 ho hb hg hat; rw [← Ny360.out] at ho; have n0_ := Aside0.mk (hb); have n1_ := Aside0.mk (ho); clear HB; clear HO_3; have HB := n0_; have HO362 := n1_; clear n0_ n1_; clear ho hb hg hat))
           go_roundg k1
           case measure => have := HK1.out; omega
           case rel => exact ⟨(y360), (wrap64 ((ji8) + 1)), (by first | rfl | (simp; done) | (simp only [← hji8] <;> (first | rfl | simp)) | (simp [*]; done)), H', ⟨by have := HK1.out; omega⟩, mR_ (HO362.out), be2_ HB⟩
          ·rw [if_neg c12] at H
           exact absurd H (by simp)
         ·rw [if_neg c10] at H
          exact absurd H (by simp)
        ·rw [if_neg c9] at H
         exact absurd H (by simp)
       ·rw [if_neg c7] at H
        have c7b0 : decide ((wrap64 (x4_1 + 1)) < (wrap64 ((a0.size : Int) - 1))) = false := decide_eq_false c7
        clear c7
        by_cases c15 : x3_1.length < 140737488355328
        ·rw [if_pos c15] at H
         have LMc15 := Aside0.mk c15
         clear c15
         obtain ⟨y363, hy363⟩ : ∃ y_ : List Int, y_ = (x3_1 ++ [bt a0 x4_1]) := ⟨_, rfl⟩
         replace H : (val_bare.l0 k1 a0 y363 (wrap64 (x4_1 + 1))) = some r := by first | (rw [hy363]; with_reducible exact H) | (have H2_ := (Option.bind_some _ _).symm.trans H; rw [hy363]; with_reducible exact H2_) | (have H2_ := (Option.bind_some _ _).symm.trans H; with_reducible exact H2_) | with_reducible exact H | (rw [hy363]; exact H) | exact H
         have Ny363 := Aside0.mk hy363
         clear hy363
         have H' := Aside0.mk H
         clear H
         have p5 : 0 ≤ (x4_1 : Int) := dt_
         have q5 : x4_1 < (a0.size : Int) := dt_
         have hx5 := bt_at a0 x4_1
         replace p5 := eq_true p5
         replace q5 := eq_true q5
         have p14 : 0 ≤ (x4_1 : Int) := dt_
         have q14 : x4_1 < (a0.size : Int) := dt_
         have hx14 := bt_at a0 x4_1
         replace p14 := eq_true p14
         replace q14 := eq_true q14
         go_wp2_with (first | ((with_reducible refine gate_builtin (b := .append) (xs := #[.tmp 26, .tmp 30]) rfl ?_); (try (refine gate_guard (by rfl) ?_; dsimp only)); at_builtin; refine Kd.R_append (Kd.int .u8) (w0 := w) w.heap.size rfl (.tmp 26) (.tmp 30) 81 5 (.int .u8 0) 1 rfl Tryd.underlying81 info5 rfl (by decide) (by omega) u3 x3_1 (bt a0 x4_1) [.int .u8 (bt a0 x4_1)] (fun _ => True) (fun _ => False) rfl rfl ?aP (fun _ hk => hk.elim) ?aF ?aO ?aB ?aS ?aL ?_; (case aP => exact rfl); (case aB => exact (be_ HB)); (case aF => exact (fun _ _ => trivial)); (case aO => exact (ku_ HO_3.out)); (case aS => exact (below_size (be_ HB))); (case aL => have := LMc15.out; omega); intro v364 w16 ho hb hg hat; rw [← Ny363.out] at ho; have n0_ := Aside0.mk (hb); have n1_ := Aside0.mk (ho); clear HB; clear HO_3; have HB := n0_; have HO365 := n1_; clear n0_ n1_; clear ho hb hg hat))
         go_roundg k1
         case measure => have := HK1.out; omega
         case rel => exact ⟨(y363), (wrap64 (x4_1 + 1)), ra_, H', ⟨by have := HK1.out; omega⟩, mR_ (HO365.out), be2_ HB⟩
        ·rw [if_neg c15] at H
         exact absurd H (by simp)
      ·rw [if_neg c6] at H
       obtain ⟨c6b0, c6b1⟩ := neB_ c6
       by_cases c18 : x3_1.length < 140737488355328
       ·rw [if_pos c18] at H
        have LMc18 := Aside0.mk c18
        clear c18
        obtain ⟨y366, hy366⟩ : ∃ y_ : List Int, y_ = (x3_1 ++ [bt a0 x4_1]) := ⟨_, rfl⟩
        replace H : (val_bare.l0 k1 a0 y366 (wrap64 (x4_1 + 1))) = some r := by first | (rw [hy366]; with_reducible exact H) | (have H2_ := (Option.bind_some _ _).symm.trans H; rw [hy366]; with_reducible exact H2_) | (have H2_ := (Option.bind_some _ _).symm.trans H; with_reducible exact H2_) | with_reducible exact H | (rw [hy366]; exact H) | exact H
        have Ny366 := Aside0.mk hy366
        clear hy366
        have H' := Aside0.mk H
        clear H
        have p5 : 0 ≤ (x4_1 : Int) := dt_
        have q5 : x4_1 < (a0.size : Int) := dt_
        have hx5 := bt_at a0 x4_1
        replace p5 := eq_true p5
        replace q5 := eq_true q5
        have p17 : 0 ≤ (x4_1 : Int) := dt_
        have q17 : x4_1 < (a0.size : Int) := dt_
        have hx17 := bt_at a0 x4_1
        replace p17 := eq_true p17
        replace q17 := eq_true q17
        go_wp2_with (first | ((with_reducible refine gate_builtin (b := .append) (xs := #[.tmp 26, .tmp 30]) rfl ?_); (try (refine gate_guard (by rfl) ?_; dsimp only)); at_builtin; refine Kd.R_append (Kd.int .u8) (w0 := w) w.heap.size rfl (.tmp 26) (.tmp 30) 81 5 (.int .u8 0) 1 rfl Tryd.underlying81 info5 rfl (by decide) (by omega) u3 x3_1 (bt a0 x4_1) [.int .u8 (bt a0 x4_1)] (fun _ => True) (fun _ => False) rfl rfl ?aP (fun _ hk => hk.elim) ?aF ?aO ?aB ?aS ?aL ?_; (case aP => exact rfl); (case aB => exact (be_ HB)); (case aF => exact (fun _ _ => trivial)); (case aO => exact (ku_ HO_3.out)); (case aS => exact (below_size (be_ HB))); (case aL => have := LMc18.out; omega); intro v367 w19 ho hb hg hat; rw [← Ny366.out] at ho; have n0_ := Aside0.mk (hb); have n1_ := Aside0.mk (ho); clear HB; clear HO_3; have HB := n0_; have HO368 := n1_; clear n0_ n1_; clear ho hb hg hat))
        go_roundg k1
        case measure => have := HK1.out; omega
        case rel => exact ⟨(y366), (wrap64 (x4_1 + 1)), ra_, H', ⟨by have := HK1.out; omega⟩, mR_ (HO368.out), be2_ HB⟩
       ·rw [if_neg c18] at H
        exact absurd H (by simp)
     ·rw [if_neg c4] at H
      exact absurd H (by simp)
    ·rw [if_neg c3] at H
     exact absurd H (by simp)
   ·rw [if_neg c2] at H
    have c2b0 : decide (x4_1 < (wrap64 ((a0.size : Int) - 1))) = false := decide_eq_false c2
    clear c2
    obtain rfl := Option.some.inj H
    have hcv20 := own_string (P := Tryd.prog) Tryd.underlying81 Tryd.underlying5 Tryd.underlying9 (Kd.own_of_R HO_3.out)
    go_wp2
    go_ret
    exact ⟨re_, be_ HB⟩
end Go.Proofs.YtaopajmpifenoaaDoor.P
end
section
namespace Go.Proofs.YtaopajmpifenoaaDoor.P
open Go.RowKit Go.Proofs.YtaopajmpifenoaaDoorW.PrintWords Go.Proofs.YtaopajmpifenoaaDoorW.PrintLast Go.Proofs.YtaopajmpifenoaaDoorW.PrintMore
attribute [local go_sem] max2_int min2_int max_two min_two max_three min_three max_four min_four
set_option linter.unusedVariables false
set_option linter.unusedSimpArgs false
def strconv_Atoi.f (a0 : ByteArray) : Option (Int × Option Int) := if a0.size ≤ 281474976710656 then (match Lib.atoiAll a0.data.toList with | .ok v => some (v, none) | .«syntax» => some (0, some 0) | .range => some (Lib.atoiSat a0.data.toList, some 0)) else none
theorem strconv_Atoi.calls0 (a0 : ByteArray) (r1 : Int) (w : World) (h : strconv_Atoi.f a0 = some (r1, none)) (hl_ : LaidE w) :
  Calls Tryd.prog 52 #[.string a0] w fun e w' => e = .returned (.tuple #[.int .i64 r1, .nilIface]) ∧ Below w.heap.size w w' := by
 unfold strconv_Atoi.f at h
 split at h
 ·split at h
  ·simp only [Option.some.injEq, Prod.mk.injEq, and_true] at h
   obtain rfl := h
   refine (Tryd.strconv_Atoi_ok a0 (by omega) _ (by assumption) w).mono ?_
   rintro e w' ⟨rfl, hw⟩
   refine ⟨rfl, ?_⟩
   rcases hw with rfl | ⟨t, rfl⟩
   ·exact Below.refl _ _
   ·exact Lib.bytesWorld_below _ _ _
  ·simp at h
  ·simp at h
 ·cases h
theorem strconv_Atoi.calls1 (a0 : ByteArray) (r1 q : Int) (w : World) (h : strconv_Atoi.f a0 = some (r1, some q)) (hl_ : LaidE w) :
  Calls Tryd.prog 52 #[.string a0] w fun e w' => (∃ N : Nat, e = .returned (.tuple #[.int .i64 r1, .iface 96 (.pointer (some ⟨N, 0, none⟩))])) ∧ Below w.heap.size w w' := by
 unfold strconv_Atoi.f at h
 split at h
 ·rename_i hs
  obtain ⟨_, ⟨tp, p, hsyn⟩, ⟨tp2, p2, hran⟩⟩ := hl_
  split at h
  ·simp at h
  ·simp only [Option.some.injEq, Prod.mk.injEq] at h
   obtain ⟨rfl, rfl⟩ := h
   refine (Tryd.strconv_Atoi_syntax_var a0 hs (by assumption) tp p w hsyn).mono ?_
   rintro e w' ⟨N, rfl, _, _, hb⟩
   exact ⟨⟨N, rfl⟩, hb⟩
  ·simp only [Option.some.injEq, Prod.mk.injEq] at h
   obtain ⟨rfl, rfl⟩ := h
   refine (Tryd.strconv_Atoi_range_var a0 hs (by assumption) tp2 p2 w hran).mono ?_
   rintro e w' ⟨N, rfl, _, _, hb⟩
   exact ⟨⟨N, rfl⟩, hb⟩
 ·cases h
end Go.Proofs.YtaopajmpifenoaaDoor.P
end
section
namespace Go.Proofs.YtaopajmpifenoaaDoor.P
open Go.RowKit Go.Proofs.YtaopajmpifenoaaDoorW.PrintWords Go.Proofs.YtaopajmpifenoaaDoorW.PrintLast Go.Proofs.YtaopajmpifenoaaDoorW.PrintMore
attribute [local go_sem] max2_int min2_int max_two min_two max_three min_three max_four min_four
set_option linter.unusedVariables false
set_option linter.unusedSimpArgs false
def val_Parse.j0 : Nat → ByteArray → Bool → Int → Int → ByteArray → Option (Int × Int × ByteArray × Int)
 | 0, _, _, _, _, _ => none
 | k + 1, x0, x22, x371000, x371001, x371002 => if x22 = true then ((strconv_Atoi.f x0).bind fun bt375 => (if bt375.2.isNone = true then ((val_Text.f k 1 bt375.1 (⟨#[]⟩ : ByteArray)).bind fun bt378 => (if bt378.2 = 0 then (if bt378.1.toList = x0.toList then (some (1, bt375.1, (⟨#[]⟩ : ByteArray), 0)) else (some (0, 0, (⟨#[]⟩ : ByteArray), 7))) else (some (0, 0, (⟨#[]⟩ : ByteArray), 7)))) else (some (0, 0, (⟨#[]⟩ : ByteArray), 7)))) else ((val_Text.f k x371000 x371001 x371002).bind fun bt380 => (if bt380.2 = 0 then (if bt380.1.toList = x0.toList then (some (x371000, x371001, x371002, 0)) else (some (0, 0, (⟨#[]⟩ : ByteArray), 7))) else (some (0, 0, (⟨#[]⟩ : ByteArray), 7))))
def val_Parse.f (k : Nat) (a0 : ByteArray) : Option (Int × Int × ByteArray × Int) := if a0.toList = ([] : List UInt8) then (some (0, 0, (⟨#[]⟩ : ByteArray), 7)) else (if 0 < (a0.size : Int) then (if (bt a0 0) = 34 then ((val_bare.f k a0).bind fun t371 => ((val_Text.f k 3 0 t371).bind fun bt372 => (if bt372.2 = 0 then (if bt372.1.toList = a0.toList then (some (3, 0, t371, 0)) else (some (0, 0, (⟨#[]⟩ : ByteArray), 7))) else (some (0, 0, (⟨#[]⟩ : ByteArray), 7))))) else (if (bt a0 0) = 45 then (val_Parse.j0 k a0 true 2 0 a0) else ((val_digit.f (bt a0 0)).bind fun t374 => (val_Parse.j0 k a0 t374 2 0 a0)))) else (none))
theorem val_Parse.mono_l : ∀ k, (∀ y0 y1 y2 y3 y4, LeO (val_Parse.j0 k y0 y1 y2 y3 y4) (val_Parse.j0 (k + 1) y0 y1 y2 y3 y4))
 | 0 => fun _ _ _ _ _ r h => by simp [val_Parse.j0] at h
 | k + 1 => by
  have ih0 := val_Parse.mono_l k
  ·intro y0 y1 y2 y3 y4
   unfold val_Parse.j0
   repeat' first
   | (with_reducible exact ih0 _ _ _ _ _)
   | (with_reducible exact val_Text.mono ..)
   | (with_reducible exact val_bare.mono ..)
   | (with_reducible exact LeO.refl _)
   | (with_reducible exact LeO.none _)
   | (with_reducible refine LeO.ite ?_ ?_)
   | (with_reducible refine LeO.bind ?_ (fun _ => ?_))
   | exact ih0 _ _ _ _ _
   | exact val_Text.mono ..
   | exact val_bare.mono ..
   | exact LeO.none _
   | refine LeO.ite ?_ ?_
   | refine LeO.bind ?_ (fun _ => ?_)
theorem val_Parse.mono : ∀ a0 k, LeO (val_Parse.f k a0) (val_Parse.f (k + 1) a0) := by
 intro a0 k
 have ih0 := val_Parse.mono_l k
 unfold val_Parse.f
 repeat' first
   | (with_reducible exact ih0 _ _ _ _ _)
   | (with_reducible exact val_Text.mono ..)
   | (with_reducible exact val_bare.mono ..)
   | (with_reducible exact LeO.refl _)
   | (with_reducible exact LeO.none _)
   | (with_reducible refine LeO.ite ?_ ?_)
   | (with_reducible refine LeO.bind ?_ (fun _ => ?_))
   | exact ih0 _ _ _ _ _
   | exact val_Text.mono ..
   | exact val_bare.mono ..
   | exact LeO.none _
   | refine LeO.ite ?_ ?_
   | refine LeO.bind ?_ (fun _ => ?_)
set_option maxHeartbeats 8000000 in
set_option maxRecDepth 100000 in
theorem val_Parse.calls (k : Nat) (a0 : ByteArray) (r1 : Int) (r2 : Int) (r3 : ByteArray) (r4 : Int) (w : World) (h : val_Parse.f k a0 = some (r1, r2, r3, r4)) (hl_ : LaidE w) :
  Calls Tryd.prog 27 #[.string a0] w fun e w' => e = .returned (.tuple #[.agg #[.int .i64 r1, .int .i64 r2, .string r3], .int .i64 r4]) ∧ Below w.heap.size w w' := by
 have hu44 := Tryd.underlying44
 have hu72 := Tryd.underlying72
 have HB := Aside0.mk (Below.refl w.heap.size w)
 have H : (if a0.toList = ([] : List UInt8) then (some (0, 0, (⟨#[]⟩ : ByteArray), 7)) else (if 0 < (a0.size : Int) then (if (bt a0 0) = 34 then ((val_bare.f k a0).bind fun t371 => ((val_Text.f k 3 0 t371).bind fun bt372 => (if bt372.2 = 0 then (if bt372.1.toList = a0.toList then (some (3, 0, t371, 0)) else (some (0, 0, (⟨#[]⟩ : ByteArray), 7))) else (some (0, 0, (⟨#[]⟩ : ByteArray), 7))))) else (if (bt a0 0) = 45 then (val_Parse.j0 k a0 true 2 0 a0) else ((val_digit.f (bt a0 0)).bind fun t374 => (val_Parse.j0 k a0 t374 2 0 a0)))) else (none))) = some (r1, r2, r3, r4) := h
 clear h
 have HL_ := Aside0.mk hl_
 clear hl_
 by_cases c2 : a0.toList = ([] : List UInt8)
 ·rw [if_pos c2] at H
  obtain ⟨c2b0, c2b1⟩ := eqB_ c2
  clear c2
  simp only [Option.some.injEq, Prod.mk.injEq] at H
  obtain ⟨rfl, rfl, rfl, rfl⟩ := H
  go_enter Tryd.func27, Tryd.ntmps27
  go_wp2_with (first | ((with_reducible refine gate_dst (N := 2) rfl ?_); refine box_event ?hg (N := 2) ?hd (cs := #[.int .i64 0, .int .i64 0, .string (⟨#[]⟩ : ByteArray)]) (t := 44) ?hr ?_; (case hd => rfl); (case hg => rfl); (case hr => first | (go_simp; done) | (go_simp; rfl)); intro gb369 hg w3 hbox hb; have BK369 := Aside0.mk (hbox); have GW369 := gs_ hg (be_ HB); have GE369 := gs_ hg (be_ HB); replace HB := bs_ (be_ HB) hb; clear hb hbox hg) | ((with_reducible refine gate_dst (N := 4) rfl ?_); refine box_event ?hg (N := 4) ?hd (cs := #[.int .i64 0, .int .i64 0, .string (⟨#[]⟩ : ByteArray)]) (t := 44) ?hr ?_; (case hd => rfl); (case hg => rfl); (case hr => first | (go_simp; done) | (go_simp; rfl)); intro gb370 hg w4 hbox hb; have BK370 := Aside0.mk (hbox); have GW370 := gs_ hg (be_ HB); have GE370 := gs_ hg (be_ HB); replace HB := bs_ (be_ HB) hb; have NB369_370 := nl_ hg (bu_ BK369); have NB370_369 := ng_ hg (bu_ BK369); replace BK369 := bb_ (bu_ BK369) hb; clear hb hbox hg; have hnb5 := NB370_369.out; have hnc5 := NB369_370.out; have hcz6_0 : w4.cell? ⟨gb370, 0, none⟩ = some (.int .i64 0) := (blk_cell BK370.out 0).trans rfl; have hcz6_1 : w4.cell? ⟨gb370, 1, none⟩ = some (.int .i64 0) := (blk_cell BK370.out 1).trans rfl; have hcz6_2 : w4.cell? ⟨gb370, 2, none⟩ = some (.string (⟨#[]⟩ : ByteArray)) := (blk_cell BK370.out 2).trans rfl; have hfz6_0 := blk_frozen BK370.out 0; have hfz6_1 := blk_frozen BK370.out 1; have hfz6_2 := blk_frozen BK370.out 2; have hcz7_0 : w4.cell? ⟨gb369, 0, none⟩ = some (.int .i64 0) := (blk_cell BK369.out 0).trans rfl; have hcz7_1 : w4.cell? ⟨gb369, 1, none⟩ = some (.int .i64 0) := (blk_cell BK369.out 1).trans rfl; have hcz7_2 : w4.cell? ⟨gb369, 2, none⟩ = some (.string (⟨#[]⟩ : ByteArray)) := (blk_cell BK369.out 2).trans rfl; have hfz7_0 := blk_frozen BK369.out 0; have hfz7_1 := blk_frozen BK369.out 1; have hfz7_2 := blk_frozen BK369.out 2))
  refine bodyPost_ret (results_ct rfl _ _ gb369 44 #[.int .i64 0, .int .i64 0, .string (⟨#[]⟩ : ByteArray)] (0, 0) _ rfl (bp_ BK369) Tryd.underlying44 rfl (by kernel_rfl)) rfl ?_
  exact ⟨re_, be_ HB⟩
 ·rw [if_neg c2] at H
  obtain ⟨c2b0, c2b1⟩ := neB_ c2
  by_cases c8 : 0 < (a0.size : Int)
  ·rw [if_pos c8] at H
   have c8b0 : decide (0 < (a0.size : Int)) = true := decide_eq_true c8
   have c8b1 : decide (0 < a0.size) = true := decide_eq_true (by omega)
   clear c8
   by_cases c10 : (bt a0 0) = 34
   ·rw [if_pos c10] at H
    obtain ⟨c10b0, c10b1⟩ := eqB_ c10
    clear c10
    replace H := Option.bind_eq_some_iff.mp H
    obtain ⟨t371, A110, H⟩ := H
    try dsimp only at H
    have A11 := Aside0.mk A110
    clear A110
    replace H := Option.bind_eq_some_iff.mp H
    obtain ⟨⟨t372, t373⟩, A120, H⟩ := H
    try dsimp only at H
    have A12 := Aside0.mk A120
    clear A120
    by_cases c13 : t373 = 0
    ·rw [if_pos c13] at H
     obtain ⟨c13b0, c13b1⟩ := eqB_ c13
     clear c13
     by_cases c14 : t372.toList = a0.toList
     ·rw [if_pos c14] at H
      obtain ⟨c14b0, c14b1⟩ := eqB_ c14
      clear c14
      simp only [Option.some.injEq, Prod.mk.injEq] at H
      obtain ⟨rfl, rfl, rfl, rfl⟩ := H
      go_enter Tryd.func27, Tryd.ntmps27
      go_wp2_with (first | ((with_reducible refine gate_dst (N := 2) rfl ?_); refine box_event ?hg (N := 2) ?hd (cs := #[.int .i64 0, .int .i64 0, .string (⟨#[]⟩ : ByteArray)]) (t := 44) ?hr ?_; (case hd => rfl); (case hg => rfl); (case hr => first | (go_simp; done) | (go_simp; rfl)); intro gb369 hg w15 hbox hb; have BK369 := Aside0.mk (hbox); have GW369 := gs_ hg (be_ HB); have GE369 := gs_ hg (be_ HB); replace HB := bs_ (be_ HB) hb; clear hb hbox hg) | ((with_reducible refine gate_dst (N := 4) rfl ?_); refine box_event ?hg (N := 4) ?hd (cs := #[.int .i64 0, .int .i64 0, .string (⟨#[]⟩ : ByteArray)]) (t := 44) ?hr ?_; (case hd => rfl); (case hg => rfl); (case hr => first | (go_simp; done) | (go_simp; rfl)); intro gb370 hg w16 hbox hb; have BK370 := Aside0.mk (hbox); have GW370 := gs_ hg (be_ HB); have GE370 := gs_ hg (be_ HB); replace HB := bs_ (be_ HB) hb; have NB369_370 := nl_ hg (bu_ BK369); have NB370_369 := ng_ hg (bu_ BK369); replace BK369 := bb_ (bu_ BK369) hb; clear hb hbox hg; have hnb17 := NB370_369.out; have hnc17 := NB369_370.out; have hcz18_0 : w16.cell? ⟨gb370, 0, none⟩ = some (.int .i64 0) := (blk_cell BK370.out 0).trans rfl; have hcz18_1 : w16.cell? ⟨gb370, 1, none⟩ = some (.int .i64 0) := (blk_cell BK370.out 1).trans rfl; have hcz18_2 : w16.cell? ⟨gb370, 2, none⟩ = some (.string (⟨#[]⟩ : ByteArray)) := (blk_cell BK370.out 2).trans rfl; have hfz18_0 := blk_frozen BK370.out 0; have hfz18_1 := blk_frozen BK370.out 1; have hfz18_2 := blk_frozen BK370.out 2; have p9 : 0 ≤ (0 : Int) := (by omega); have q9 : 0 < a0.size := (by have : (0 : Int) < (a0.size : Int) := dt_; omega); have hx9 : ∀ h : 0 < a0.size, ((a0[0]'h).toNat : Int) = bt a0 0 := bt_at a0 0; clear p9; have qi9 : (0 < (a0.size : Int)) = True := eq_true dt_; replace q9 := eq_true q9) | ((with_reducible refine gate_callee (f := 50) rfl ?_); refine goesL_ (some 20) rfl rfl Tryd.func50 (by kernel_rfl) rfl #[.string a0] rfl ga_ ?_; (with_reducible refine (val_bare.calls k a0 t371 _ A11.out).mono ?_); rintro e w19 ⟨rfl, hb⟩; refine ⟨_, rfl, ?_⟩; replace BK369 := bb_ (bu_ BK369) hb; replace BK370 := Aside0.mk (blk_below (o := .cells #[.int .i64 2, .int .i64 0, .string a0] 44 (0, 0)) (bp_ BK370) hb); replace HB := bs_ (be_ HB) hb; (try clear hb); (try clear hb2); (try clear hk); (try clear hi); have hcz20_0 : w19.cell? ⟨gb370, 0, none⟩ = some (.int .i64 2) := (blk_cell BK370.out 0).trans rfl; have hcz20_1 : w19.cell? ⟨gb370, 1, none⟩ = some (.int .i64 0) := (blk_cell BK370.out 1).trans rfl; have hcz20_2 : w19.cell? ⟨gb370, 2, none⟩ = some (.string a0) := (blk_cell BK370.out 2).trans rfl; have hfz20_0 := blk_frozen BK370.out 0; have hfz20_1 := blk_frozen BK370.out 1; have hfz20_2 := blk_frozen BK370.out 2) | ((with_reducible refine gate_callee (f := 26) rfl ?_); refine goesL_ (some 43) rfl rfl Tryd.func26 (by kernel_rfl) rfl #[.agg #[.int .i64 3, .int .i64 0, .string t371]] rfl ga_ ?_; (with_reducible refine (val_Text.calls k 3 0 t371 t372 t373 _ A12.out (et_ HL_ (be_ HB))).mono ?_); rintro e w21 ⟨rfl, hb⟩; refine ⟨_, rfl, ?_⟩; replace BK369 := bb_ (bu_ BK369) hb; replace BK370 := Aside0.mk (blk_below (o := .cells #[.int .i64 3, .int .i64 0, .string t371] 44 (0, 0)) (bp_ BK370) hb); replace HB := bs_ (be_ HB) hb; (try clear hb); (try clear hb2); (try clear hk); (try clear hi); have hcz22_0 : w21.cell? ⟨gb370, 0, none⟩ = some (.int .i64 3) := (blk_cell BK370.out 0).trans rfl; have hcz22_1 : w21.cell? ⟨gb370, 1, none⟩ = some (.int .i64 0) := (blk_cell BK370.out 1).trans rfl; have hcz22_2 : w21.cell? ⟨gb370, 2, none⟩ = some (.string t371) := (blk_cell BK370.out 2).trans rfl; have hfz22_0 := blk_frozen BK370.out 0; have hfz22_1 := blk_frozen BK370.out 1; have hfz22_2 := blk_frozen BK370.out 2; have hcz23_0 : w21.cell? ⟨gb369, 0, none⟩ = some (.int .i64 0) := (blk_cell BK369.out 0).trans rfl; have hcz23_1 : w21.cell? ⟨gb369, 1, none⟩ = some (.int .i64 0) := (blk_cell BK369.out 1).trans rfl; have hcz23_2 : w21.cell? ⟨gb369, 2, none⟩ = some (.string (⟨#[]⟩ : ByteArray)) := (blk_cell BK369.out 2).trans rfl; have hfz23_0 := blk_frozen BK369.out 0; have hfz23_1 := blk_frozen BK369.out 1; have hfz23_2 := blk_frozen BK369.out 2))
      refine bodyPost_ret (results_ct rfl _ _ gb369 44 #[.int .i64 3, .int .i64 0, .string t371] (0, 0) _ rfl (bp_ BK369) Tryd.underlying44 rfl (by kernel_rfl)) rfl ?_
      exact ⟨re_, be_ HB⟩
     ·rw [if_neg c14] at H
      obtain ⟨c14b0, c14b1⟩ := neB_ c14
      simp only [Option.some.injEq, Prod.mk.injEq] at H
      obtain ⟨rfl, rfl, rfl, rfl⟩ := H
      go_enter Tryd.func27, Tryd.ntmps27
      go_wp2_with (first | ((with_reducible refine gate_dst (N := 2) rfl ?_); refine box_event ?hg (N := 2) ?hd (cs := #[.int .i64 0, .int .i64 0, .string (⟨#[]⟩ : ByteArray)]) (t := 44) ?hr ?_; (case hd => rfl); (case hg => rfl); (case hr => first | (go_simp; done) | (go_simp; rfl)); intro gb369 hg w24 hbox hb; have BK369 := Aside0.mk (hbox); have GW369 := gs_ hg (be_ HB); have GE369 := gs_ hg (be_ HB); replace HB := bs_ (be_ HB) hb; clear hb hbox hg) | ((with_reducible refine gate_dst (N := 4) rfl ?_); refine box_event ?hg (N := 4) ?hd (cs := #[.int .i64 0, .int .i64 0, .string (⟨#[]⟩ : ByteArray)]) (t := 44) ?hr ?_; (case hd => rfl); (case hg => rfl); (case hr => first | (go_simp; done) | (go_simp; rfl)); intro gb370 hg w25 hbox hb; have BK370 := Aside0.mk (hbox); have GW370 := gs_ hg (be_ HB); have GE370 := gs_ hg (be_ HB); replace HB := bs_ (be_ HB) hb; have NB369_370 := nl_ hg (bu_ BK369); have NB370_369 := ng_ hg (bu_ BK369); replace BK369 := bb_ (bu_ BK369) hb; clear hb hbox hg; have hnb26 := NB370_369.out; have hnc26 := NB369_370.out; have hcz27_0 : w25.cell? ⟨gb370, 0, none⟩ = some (.int .i64 0) := (blk_cell BK370.out 0).trans rfl; have hcz27_1 : w25.cell? ⟨gb370, 1, none⟩ = some (.int .i64 0) := (blk_cell BK370.out 1).trans rfl; have hcz27_2 : w25.cell? ⟨gb370, 2, none⟩ = some (.string (⟨#[]⟩ : ByteArray)) := (blk_cell BK370.out 2).trans rfl; have hfz27_0 := blk_frozen BK370.out 0; have hfz27_1 := blk_frozen BK370.out 1; have hfz27_2 := blk_frozen BK370.out 2; have p9 : 0 ≤ (0 : Int) := (by omega); have q9 : 0 < a0.size := (by have : (0 : Int) < (a0.size : Int) := dt_; omega); have hx9 : ∀ h : 0 < a0.size, ((a0[0]'h).toNat : Int) = bt a0 0 := bt_at a0 0; clear p9; have qi9 : (0 < (a0.size : Int)) = True := eq_true dt_; replace q9 := eq_true q9) | ((with_reducible refine gate_callee (f := 50) rfl ?_); refine goesL_ (some 20) rfl rfl Tryd.func50 (by kernel_rfl) rfl #[.string a0] rfl ga_ ?_; (with_reducible refine (val_bare.calls k a0 t371 _ A11.out).mono ?_); rintro e w28 ⟨rfl, hb⟩; refine ⟨_, rfl, ?_⟩; replace BK369 := bb_ (bu_ BK369) hb; replace BK370 := Aside0.mk (blk_below (o := .cells #[.int .i64 2, .int .i64 0, .string a0] 44 (0, 0)) (bp_ BK370) hb); replace HB := bs_ (be_ HB) hb; (try clear hb); (try clear hb2); (try clear hk); (try clear hi); have hcz29_0 : w28.cell? ⟨gb370, 0, none⟩ = some (.int .i64 2) := (blk_cell BK370.out 0).trans rfl; have hcz29_1 : w28.cell? ⟨gb370, 1, none⟩ = some (.int .i64 0) := (blk_cell BK370.out 1).trans rfl; have hcz29_2 : w28.cell? ⟨gb370, 2, none⟩ = some (.string a0) := (blk_cell BK370.out 2).trans rfl; have hfz29_0 := blk_frozen BK370.out 0; have hfz29_1 := blk_frozen BK370.out 1; have hfz29_2 := blk_frozen BK370.out 2) | ((with_reducible refine gate_callee (f := 26) rfl ?_); refine goesL_ (some 43) rfl rfl Tryd.func26 (by kernel_rfl) rfl #[.agg #[.int .i64 3, .int .i64 0, .string t371]] rfl ga_ ?_; (with_reducible refine (val_Text.calls k 3 0 t371 t372 t373 _ A12.out (et_ HL_ (be_ HB))).mono ?_); rintro e w30 ⟨rfl, hb⟩; refine ⟨_, rfl, ?_⟩; replace BK369 := bb_ (bu_ BK369) hb; replace BK370 := Aside0.mk (blk_below (o := .cells #[.int .i64 3, .int .i64 0, .string t371] 44 (0, 0)) (bp_ BK370) hb); replace HB := bs_ (be_ HB) hb; (try clear hb); (try clear hb2); (try clear hk); (try clear hi); have hcz31_0 : w30.cell? ⟨gb369, 0, none⟩ = some (.int .i64 0) := (blk_cell BK369.out 0).trans rfl; have hcz31_1 : w30.cell? ⟨gb369, 1, none⟩ = some (.int .i64 0) := (blk_cell BK369.out 1).trans rfl; have hcz31_2 : w30.cell? ⟨gb369, 2, none⟩ = some (.string (⟨#[]⟩ : ByteArray)) := (blk_cell BK369.out 2).trans rfl; have hfz31_0 := blk_frozen BK369.out 0; have hfz31_1 := blk_frozen BK369.out 1; have hfz31_2 := blk_frozen BK369.out 2))
      refine bodyPost_ret (results_ct rfl _ _ gb369 44 #[.int .i64 0, .int .i64 0, .string (⟨#[]⟩ : ByteArray)] (0, 0) _ rfl (bp_ BK369) Tryd.underlying44 rfl (by kernel_rfl)) rfl ?_
      exact ⟨re_, be_ HB⟩
    ·rw [if_neg c13] at H
     obtain ⟨c13b0, c13b1⟩ := neB_ c13
     simp only [Option.some.injEq, Prod.mk.injEq] at H
     obtain ⟨rfl, rfl, rfl, rfl⟩ := H
     go_enter Tryd.func27, Tryd.ntmps27
     go_wp2_with (first | ((with_reducible refine gate_dst (N := 2) rfl ?_); refine box_event ?hg (N := 2) ?hd (cs := #[.int .i64 0, .int .i64 0, .string (⟨#[]⟩ : ByteArray)]) (t := 44) ?hr ?_; (case hd => rfl); (case hg => rfl); (case hr => first | (go_simp; done) | (go_simp; rfl)); intro gb369 hg w32 hbox hb; have BK369 := Aside0.mk (hbox); have GW369 := gs_ hg (be_ HB); have GE369 := gs_ hg (be_ HB); replace HB := bs_ (be_ HB) hb; clear hb hbox hg) | ((with_reducible refine gate_dst (N := 4) rfl ?_); refine box_event ?hg (N := 4) ?hd (cs := #[.int .i64 0, .int .i64 0, .string (⟨#[]⟩ : ByteArray)]) (t := 44) ?hr ?_; (case hd => rfl); (case hg => rfl); (case hr => first | (go_simp; done) | (go_simp; rfl)); intro gb370 hg w33 hbox hb; have BK370 := Aside0.mk (hbox); have GW370 := gs_ hg (be_ HB); have GE370 := gs_ hg (be_ HB); replace HB := bs_ (be_ HB) hb; have NB369_370 := nl_ hg (bu_ BK369); have NB370_369 := ng_ hg (bu_ BK369); replace BK369 := bb_ (bu_ BK369) hb; clear hb hbox hg; have hnb34 := NB370_369.out; have hnc34 := NB369_370.out; have hcz35_0 : w33.cell? ⟨gb370, 0, none⟩ = some (.int .i64 0) := (blk_cell BK370.out 0).trans rfl; have hcz35_1 : w33.cell? ⟨gb370, 1, none⟩ = some (.int .i64 0) := (blk_cell BK370.out 1).trans rfl; have hcz35_2 : w33.cell? ⟨gb370, 2, none⟩ = some (.string (⟨#[]⟩ : ByteArray)) := (blk_cell BK370.out 2).trans rfl; have hfz35_0 := blk_frozen BK370.out 0; have hfz35_1 := blk_frozen BK370.out 1; have hfz35_2 := blk_frozen BK370.out 2; have p9 : 0 ≤ (0 : Int) := (by omega); have q9 : 0 < a0.size := (by have : (0 : Int) < (a0.size : Int) := dt_; omega); have hx9 : ∀ h : 0 < a0.size, ((a0[0]'h).toNat : Int) = bt a0 0 := bt_at a0 0; clear p9; have qi9 : (0 < (a0.size : Int)) = True := eq_true dt_; replace q9 := eq_true q9) | ((with_reducible refine gate_callee (f := 50) rfl ?_); refine goesL_ (some 20) rfl rfl Tryd.func50 (by kernel_rfl) rfl #[.string a0] rfl ga_ ?_; (with_reducible refine (val_bare.calls k a0 t371 _ A11.out).mono ?_); rintro e w36 ⟨rfl, hb⟩; refine ⟨_, rfl, ?_⟩; replace BK369 := bb_ (bu_ BK369) hb; replace BK370 := Aside0.mk (blk_below (o := .cells #[.int .i64 2, .int .i64 0, .string a0] 44 (0, 0)) (bp_ BK370) hb); replace HB := bs_ (be_ HB) hb; (try clear hb); (try clear hb2); (try clear hk); (try clear hi); have hcz37_0 : w36.cell? ⟨gb370, 0, none⟩ = some (.int .i64 2) := (blk_cell BK370.out 0).trans rfl; have hcz37_1 : w36.cell? ⟨gb370, 1, none⟩ = some (.int .i64 0) := (blk_cell BK370.out 1).trans rfl; have hcz37_2 : w36.cell? ⟨gb370, 2, none⟩ = some (.string a0) := (blk_cell BK370.out 2).trans rfl; have hfz37_0 := blk_frozen BK370.out 0; have hfz37_1 := blk_frozen BK370.out 1; have hfz37_2 := blk_frozen BK370.out 2) | ((with_reducible refine gate_callee (f := 26) rfl ?_); refine goesL_ (some 43) rfl rfl Tryd.func26 (by kernel_rfl) rfl #[.agg #[.int .i64 3, .int .i64 0, .string t371]] rfl ga_ ?_; (with_reducible refine (val_Text.calls k 3 0 t371 t372 t373 _ A12.out (et_ HL_ (be_ HB))).mono ?_); rintro e w38 ⟨rfl, hb⟩; refine ⟨_, rfl, ?_⟩; replace BK369 := bb_ (bu_ BK369) hb; replace BK370 := Aside0.mk (blk_below (o := .cells #[.int .i64 3, .int .i64 0, .string t371] 44 (0, 0)) (bp_ BK370) hb); replace HB := bs_ (be_ HB) hb; (try clear hb); (try clear hb2); (try clear hk); (try clear hi); have hcz39_0 : w38.cell? ⟨gb369, 0, none⟩ = some (.int .i64 0) := (blk_cell BK369.out 0).trans rfl; have hcz39_1 : w38.cell? ⟨gb369, 1, none⟩ = some (.int .i64 0) := (blk_cell BK369.out 1).trans rfl; have hcz39_2 : w38.cell? ⟨gb369, 2, none⟩ = some (.string (⟨#[]⟩ : ByteArray)) := (blk_cell BK369.out 2).trans rfl; have hfz39_0 := blk_frozen BK369.out 0; have hfz39_1 := blk_frozen BK369.out 1; have hfz39_2 := blk_frozen BK369.out 2))
     refine bodyPost_ret (results_ct rfl _ _ gb369 44 #[.int .i64 0, .int .i64 0, .string (⟨#[]⟩ : ByteArray)] (0, 0) _ rfl (bp_ BK369) Tryd.underlying44 rfl (by kernel_rfl)) rfl ?_
     exact ⟨re_, be_ HB⟩
   ·rw [if_neg c10] at H
    obtain ⟨c10b0, c10b1⟩ := neB_ c10
    have HC40 := Aside0.mk H
    clear H
    go_enter Tryd.func27, Tryd.ntmps27
    go_upto_region 6 with (first | ((with_reducible refine gate_dst (N := 2) rfl ?_); refine box_event ?hg (N := 2) ?hd (cs := #[.int .i64 0, .int .i64 0, .string (⟨#[]⟩ : ByteArray)]) (t := 44) ?hr ?_; (case hd => rfl); (case hg => rfl); (case hr => first | (go_simp; done) | (go_simp; rfl)); intro gb369 hg w41 hbox hb; have BK369 := Aside0.mk (hbox); have GW369 := gs_ hg (be_ HB); have GE369 := gs_ hg (be_ HB); replace HB := bs_ (be_ HB) hb; clear hb hbox hg) | ((with_reducible refine gate_dst (N := 4) rfl ?_); refine box_event ?hg (N := 4) ?hd (cs := #[.int .i64 0, .int .i64 0, .string (⟨#[]⟩ : ByteArray)]) (t := 44) ?hr ?_; (case hd => rfl); (case hg => rfl); (case hr => first | (go_simp; done) | (go_simp; rfl)); intro gb370 hg w42 hbox hb; have BK370 := Aside0.mk (hbox); have GW370 := gs_ hg (be_ HB); have GE370 := gs_ hg (be_ HB); replace HB := bs_ (be_ HB) hb; have NB369_370 := nl_ hg (bu_ BK369); have NB370_369 := ng_ hg (bu_ BK369); replace BK369 := bb_ (bu_ BK369) hb; clear hb hbox hg; have hnb43 := NB370_369.out; have hnc43 := NB369_370.out; have hcz44_0 : w42.cell? ⟨gb370, 0, none⟩ = some (.int .i64 0) := (blk_cell BK370.out 0).trans rfl; have hcz44_1 : w42.cell? ⟨gb370, 1, none⟩ = some (.int .i64 0) := (blk_cell BK370.out 1).trans rfl; have hcz44_2 : w42.cell? ⟨gb370, 2, none⟩ = some (.string (⟨#[]⟩ : ByteArray)) := (blk_cell BK370.out 2).trans rfl; have hfz44_0 := blk_frozen BK370.out 0; have hfz44_1 := blk_frozen BK370.out 1; have hfz44_2 := blk_frozen BK370.out 2; have p9 : 0 ≤ (0 : Int) := (by omega); have q9 : 0 < a0.size := (by have : (0 : Int) < (a0.size : Int) := dt_; omega); have hx9 : ∀ h : 0 < a0.size, ((a0[0]'h).toNat : Int) = bt a0 0 := bt_at a0 0; clear p9; have qi9 : (0 < (a0.size : Int)) = True := eq_true dt_; replace q9 := eq_true q9))
    (try simp only [Act.put, List.setIfInBounds_toArray, List.set_cons_zero, List.set_cons_succ])
    go_cut [22] (fun v22 wc => ∃ (kq : Nat) (x22_39 : Bool), v22 = .bool x22_39 ∧ Aside0 (val_Parse.j0 kq a0 x22_39 2 0 a0 = some (r1, r2, r3, r4)) ∧ Aside0 (kq ≤ k) ∧ Aside0 (wc.heap[gb369]? = some (.cells #[.int .i64 0, .int .i64 0, .string (⟨#[]⟩ : ByteArray)] 44 (0, 0))) ∧ Aside0 (wc.heap[gb370]? = some (.cells #[.int .i64 2, .int .i64 0, .string a0] 44 (0, 0))) ∧ Aside0 (Below w.heap.size w wc))
    case first =>
     have H := HC40.out
     clear HC40
     by_cases c46 : (bt a0 0) = 45
     ·rw [if_pos c46] at H
      obtain ⟨c46b0, c46b1⟩ := eqB_ c46
      clear c46
      (first | rw [c46b0] | (simp only [i64_w, i32_w]; rw [c46b0]) | skip)
      have H' := Aside0.mk H
      clear H
      have p45 : 0 ≤ (0 : Int) := (by omega)
      have q45 : 0 < a0.size := (by have : (0 : Int) < (a0.size : Int) := dt_; omega)
      have hx45 : ∀ h : 0 < a0.size, ((a0[0]'h).toNat : Int) = bt a0 0 := bt_at a0 0
      clear p45
      have qi45 : (0 < (a0.size : Int)) = True := eq_true dt_
      replace q45 := eq_true q45
      go_wp2
      go_meet
      case rel => exact ⟨_, (true), ra_, H', le_, ⟨by (with_reducible repeat (first | refine blk_drewN ?_ _ | refine blk_drew ?_ | refine blk_alloc ?_ _)); refine blk_far ?_ NB369_370.out _; (with_reducible repeat (first | refine blk_drewN ?_ _ | refine blk_drew ?_ | refine blk_alloc ?_ _)); refine blk_far ?_ NB369_370.out _; (with_reducible repeat (first | refine blk_drewN ?_ _ | refine blk_drew ?_ | refine blk_alloc ?_ _)); refine blk_far ?_ NB369_370.out _; (with_reducible repeat (first | refine blk_drewN ?_ _ | refine blk_drew ?_ | refine blk_alloc ?_ _)); exact BK369.out⟩, ⟨by (with_reducible repeat (first | refine blk_drewN ?_ _ | refine blk_drew ?_ | refine blk_alloc ?_ _)); refine blk_put (cs := #[.int .i64 2, .int .i64 0, .string (⟨#[]⟩ : ByteArray)]) ?_ 2 _ rfl; (with_reducible repeat (first | refine blk_drewN ?_ _ | refine blk_drew ?_ | refine blk_alloc ?_ _)); refine blk_put (cs := #[.int .i64 2, .int .i64 0, .string (⟨#[]⟩ : ByteArray)]) ?_ 1 _ rfl; (with_reducible repeat (first | refine blk_drewN ?_ _ | refine blk_drew ?_ | refine blk_alloc ?_ _)); refine blk_put (cs := #[.int .i64 0, .int .i64 0, .string (⟨#[]⟩ : ByteArray)]) ?_ 0 _ rfl; (with_reducible repeat (first | refine blk_drewN ?_ _ | refine blk_drew ?_ | refine blk_alloc ?_ _)); exact BK370.out⟩, be2_ HB⟩
     ·rw [if_neg c46] at H
      obtain ⟨c46b0, c46b1⟩ := neB_ c46
      (first | rw [c46b0] | (simp only [i64_w, i32_w]; rw [c46b0]) | skip)
      replace H := Option.bind_eq_some_iff.mp H
      obtain ⟨t374, A480, H⟩ := H
      try dsimp only at H
      have A48 := Aside0.mk A480
      clear A480
      have H' := Aside0.mk H
      clear H
      have p45 : 0 ≤ (0 : Int) := (by omega)
      have q45 : 0 < a0.size := (by have : (0 : Int) < (a0.size : Int) := dt_; omega)
      have hx45 : ∀ h : 0 < a0.size, ((a0[0]'h).toNat : Int) = bt a0 0 := bt_at a0 0
      clear p45
      have qi45 : (0 < (a0.size : Int)) = True := eq_true dt_
      replace q45 := eq_true q45
      have p47 : 0 ≤ (0 : Int) := (by omega)
      have q47 : 0 < a0.size := (by have : (0 : Int) < (a0.size : Int) := dt_; omega)
      have hx47 : ∀ h : 0 < a0.size, ((a0[0]'h).toNat : Int) = bt a0 0 := bt_at a0 0
      clear p47
      have qi47 : (0 < (a0.size : Int)) = True := eq_true dt_
      replace q47 := eq_true q47
      go_wp2_with (first | (go_at_call 51; (with_reducible refine (val_digit.calls (bt a0 0) t374 _ A48.out).mono ?_); rintro e w' ⟨rfl, ⟨nd, rfl⟩⟩))
      go_meet
      case rel => exact ⟨_, (t374), ra_, H', le_, ⟨by (with_reducible repeat (first | refine blk_drewN ?_ _ | refine blk_drew ?_ | refine blk_alloc ?_ _)); refine blk_far ?_ NB369_370.out _; (with_reducible repeat (first | refine blk_drewN ?_ _ | refine blk_drew ?_ | refine blk_alloc ?_ _)); refine blk_far ?_ NB369_370.out _; (with_reducible repeat (first | refine blk_drewN ?_ _ | refine blk_drew ?_ | refine blk_alloc ?_ _)); refine blk_far ?_ NB369_370.out _; (with_reducible repeat (first | refine blk_drewN ?_ _ | refine blk_drew ?_ | refine blk_alloc ?_ _)); exact BK369.out⟩, ⟨by (with_reducible repeat (first | refine blk_drewN ?_ _ | refine blk_drew ?_ | refine blk_alloc ?_ _)); refine blk_put (cs := #[.int .i64 2, .int .i64 0, .string (⟨#[]⟩ : ByteArray)]) ?_ 2 _ rfl; (with_reducible repeat (first | refine blk_drewN ?_ _ | refine blk_drew ?_ | refine blk_alloc ?_ _)); refine blk_put (cs := #[.int .i64 2, .int .i64 0, .string (⟨#[]⟩ : ByteArray)]) ?_ 1 _ rfl; (with_reducible repeat (first | refine blk_drewN ?_ _ | refine blk_drew ?_ | refine blk_alloc ?_ _)); refine blk_put (cs := #[.int .i64 0, .int .i64 0, .string (⟨#[]⟩ : ByteArray)]) ?_ 0 _ rfl; (with_reducible repeat (first | refine blk_drewN ?_ _ | refine blk_drew ?_ | refine blk_alloc ?_ _)); exact BK370.out⟩, be2_ HB⟩
    case rest =>
     clear HC40
     try clear c1; try clear c2; try clear c2b0; try clear c2b1; try clear p2; try clear c3; try clear c4; try clear p4; try clear q4; try clear hx4; try clear qi4; try clear c5; try clear c8; try clear c8b0; try clear c8b1; try clear p9; try clear q9; try clear hx9; try clear qi9; try clear c10; try clear c10b0; try clear c10b1; try clear c13; try clear c13b0; try clear c13b1; try clear c14; try clear c14b0; try clear c14b1; try clear c17; try clear c26; try clear c27; try clear c34; try clear c43; try clear p45; try clear q45; try clear hx45; try clear qi45; try clear c46; try clear c46b0; try clear c46b1; try clear p47; try clear q47; try clear hx47; try clear qi47; try clear hcz18_0; try clear hcz18_1; try clear hcz18_2; try clear hcz20_0; try clear hcz20_1; try clear hcz20_2; try clear hcz22_0; try clear hcz22_1; try clear hcz22_2; try clear hcz23_0; try clear hcz23_1; try clear hcz23_2; try clear hcz27_0; try clear hcz27_1; try clear hcz27_2; try clear hcz29_0; try clear hcz29_1; try clear hcz29_2; try clear hcz31_0; try clear hcz31_1; try clear hcz31_2; try clear hcz35_0; try clear hcz35_1; try clear hcz35_2; try clear hcz37_0; try clear hcz37_1; try clear hcz37_2; try clear hcz39_0; try clear hcz39_1; try clear hcz39_2; try clear hcz44_0; try clear hcz44_1; try clear hcz44_2; try clear hcz6_0; try clear hcz6_1; try clear hcz6_2; try clear hcz7_0; try clear hcz7_1; try clear hcz7_2; try clear hfz18_0; try clear hfz18_1; try clear hfz18_2; try clear hfz20_0; try clear hfz20_1; try clear hfz20_2; try clear hfz22_0; try clear hfz22_1; try clear hfz22_2; try clear hfz23_0; try clear hfz23_1; try clear hfz23_2; try clear hfz27_0; try clear hfz27_1; try clear hfz27_2; try clear hfz29_0; try clear hfz29_1; try clear hfz29_2; try clear hfz31_0; try clear hfz31_1; try clear hfz31_2; try clear hfz35_0; try clear hfz35_1; try clear hfz35_2; try clear hfz37_0; try clear hfz37_1; try clear hfz37_2; try clear hfz39_0; try clear hfz39_1; try clear hfz39_2; try clear hfz44_0; try clear hfz44_1; try clear hfz44_2; try clear hfz6_0; try clear hfz6_1; try clear hfz6_2; try clear hfz7_0; try clear hfz7_1; try clear hfz7_2; try clear p45; try clear p47; try clear p9; try clear q45; try clear q47; try clear q9
     obtain ⟨kq, x22_39, rfl, HA, HJ39, BK369, BK370, HB⟩ := hcut
     cases kq with
     | zero => exact absurd HA.out (by simp [val_Parse.j0])
     | succ kj39 =>
      have H := HA.out
      clear HA
      simp only [val_Parse.j0] at H
      by_cases c49 : x22_39 = true
      ·subst c49
       rw [if_pos rfl] at H
       replace H := Option.bind_eq_some_iff.mp H
       obtain ⟨⟨t375, t376⟩, A500, H⟩ := H
       try dsimp only at H
       have A50 := Aside0.mk A500
       clear A500
       rcases t376 with _ | q377
       ·have H1 : ((val_Text.f kj39 1 t375 (⟨#[]⟩ : ByteArray)).bind fun bt378 => (if bt378.2 = 0 then (if bt378.1.toList = a0.toList then (some (1, t375, (⟨#[]⟩ : ByteArray), 0)) else (some (0, 0, (⟨#[]⟩ : ByteArray), 7))) else (some (0, 0, (⟨#[]⟩ : ByteArray), 7)))) = some (r1, r2, r3, r4) := by rw [if_pos (show (none : Option Int).isNone = true by rfl)] at H; exact H
        clear H
        have H := H1
        clear H1
        try simp only [errW_none, errW_some]
        replace H := Option.bind_eq_some_iff.mp H
        obtain ⟨⟨t378, t379⟩, A510, H⟩ := H
        try dsimp only at H
        have A51 := Aside0.mk A510
        clear A510
        by_cases c52 : t379 = 0
        ·rw [if_pos c52] at H
         obtain ⟨c52b0, c52b1⟩ := eqB_ c52
         clear c52
         by_cases c53 : t378.toList = a0.toList
         ·rw [if_pos c53] at H
          obtain ⟨c53b0, c53b1⟩ := eqB_ c53
          clear c53
          simp only [Option.some.injEq, Prod.mk.injEq] at H
          obtain ⟨rfl, rfl, rfl, rfl⟩ := H
          go_wp2_with (first | ((with_reducible refine gate_callee (f := 52) rfl ?_); refine goesL_ (some 33) rfl rfl Tryd.func52 (by kernel_rfl) rfl #[.string a0] rfl ga_ ?_; (with_reducible refine (strconv_Atoi.calls0 a0 t375 _ A50.out (ee_ HL_ (be_ HB))).mono ?_); rintro e w54 ⟨rfl, hb⟩; refine ⟨_, rfl, ?_⟩; replace BK369 := bb_ (bu_ BK369) hb; replace BK370 := bb_ (bu_ BK370) hb; replace HB := bs_ (be_ HB) hb; (try clear hb); (try clear hb2); (try clear hk); (try clear hi); (try simp only [errW_none, errW_some]); have hnb55 := NB370_369.out; have hnc55 := NB369_370.out; have hcz56_0 : w54.cell? ⟨gb370, 0, none⟩ = some (.int .i64 2) := (blk_cell BK370.out 0).trans rfl; have hcz56_1 : w54.cell? ⟨gb370, 1, none⟩ = some (.int .i64 0) := (blk_cell BK370.out 1).trans rfl; have hcz56_2 : w54.cell? ⟨gb370, 2, none⟩ = some (.string a0) := (blk_cell BK370.out 2).trans rfl; have hfz56_0 := blk_frozen BK370.out 0; have hfz56_1 := blk_frozen BK370.out 1; have hfz56_2 := blk_frozen BK370.out 2) | ((with_reducible refine gate_callee (f := 26) rfl ?_); refine goesL_ (some 43) rfl rfl Tryd.func26 (by kernel_rfl) rfl #[.agg #[.int .i64 1, .int .i64 t375, .string (⟨#[]⟩ : ByteArray)]] rfl ga_ ?_; (with_reducible refine (val_Text.calls kj39 1 t375 (⟨#[]⟩ : ByteArray) t378 t379 _ A51.out (et_ HL_ (be_ HB))).mono ?_); rintro e w57 ⟨rfl, hb⟩; refine ⟨_, rfl, ?_⟩; replace BK369 := bb_ (bu_ BK369) hb; replace BK370 := Aside0.mk (blk_below (o := .cells #[.int .i64 1, .int .i64 t375, .string (⟨#[]⟩ : ByteArray)] 44 (0, 0)) (bp_ BK370) hb); replace HB := bs_ (be_ HB) hb; (try clear hb); (try clear hb2); (try clear hk); (try clear hi); have hcz58_0 : w57.cell? ⟨gb370, 0, none⟩ = some (.int .i64 1) := (blk_cell BK370.out 0).trans rfl; have hcz58_1 : w57.cell? ⟨gb370, 1, none⟩ = some (.int .i64 t375) := (blk_cell BK370.out 1).trans rfl; have hcz58_2 : w57.cell? ⟨gb370, 2, none⟩ = some (.string (⟨#[]⟩ : ByteArray)) := (blk_cell BK370.out 2).trans rfl; have hfz58_0 := blk_frozen BK370.out 0; have hfz58_1 := blk_frozen BK370.out 1; have hfz58_2 := blk_frozen BK370.out 2; have hcz59_0 : w57.cell? ⟨gb369, 0, none⟩ = some (.int .i64 0) := (blk_cell BK369.out 0).trans rfl; have hcz59_1 : w57.cell? ⟨gb369, 1, none⟩ = some (.int .i64 0) := (blk_cell BK369.out 1).trans rfl; have hcz59_2 : w57.cell? ⟨gb369, 2, none⟩ = some (.string (⟨#[]⟩ : ByteArray)) := (blk_cell BK369.out 2).trans rfl; have hfz59_0 := blk_frozen BK369.out 0; have hfz59_1 := blk_frozen BK369.out 1; have hfz59_2 := blk_frozen BK369.out 2))
          refine bodyPost_ret (results_ct rfl _ _ gb369 44 #[.int .i64 1, .int .i64 t375, .string (⟨#[]⟩ : ByteArray)] (0, 0) _ rfl (bp_ BK369) Tryd.underlying44 rfl (by kernel_rfl)) rfl ?_
          exact ⟨re_, be_ HB⟩
         ·rw [if_neg c53] at H
          obtain ⟨c53b0, c53b1⟩ := neB_ c53
          simp only [Option.some.injEq, Prod.mk.injEq] at H
          obtain ⟨rfl, rfl, rfl, rfl⟩ := H
          go_wp2_with (first | ((with_reducible refine gate_callee (f := 52) rfl ?_); refine goesL_ (some 33) rfl rfl Tryd.func52 (by kernel_rfl) rfl #[.string a0] rfl ga_ ?_; (with_reducible refine (strconv_Atoi.calls0 a0 t375 _ A50.out (ee_ HL_ (be_ HB))).mono ?_); rintro e w60 ⟨rfl, hb⟩; refine ⟨_, rfl, ?_⟩; replace BK369 := bb_ (bu_ BK369) hb; replace BK370 := bb_ (bu_ BK370) hb; replace HB := bs_ (be_ HB) hb; (try clear hb); (try clear hb2); (try clear hk); (try clear hi); (try simp only [errW_none, errW_some]); have hnb61 := NB370_369.out; have hnc61 := NB369_370.out; have hcz62_0 : w60.cell? ⟨gb370, 0, none⟩ = some (.int .i64 2) := (blk_cell BK370.out 0).trans rfl; have hcz62_1 : w60.cell? ⟨gb370, 1, none⟩ = some (.int .i64 0) := (blk_cell BK370.out 1).trans rfl; have hcz62_2 : w60.cell? ⟨gb370, 2, none⟩ = some (.string a0) := (blk_cell BK370.out 2).trans rfl; have hfz62_0 := blk_frozen BK370.out 0; have hfz62_1 := blk_frozen BK370.out 1; have hfz62_2 := blk_frozen BK370.out 2) | ((with_reducible refine gate_callee (f := 26) rfl ?_); refine goesL_ (some 43) rfl rfl Tryd.func26 (by kernel_rfl) rfl #[.agg #[.int .i64 1, .int .i64 t375, .string (⟨#[]⟩ : ByteArray)]] rfl ga_ ?_; (with_reducible refine (val_Text.calls kj39 1 t375 (⟨#[]⟩ : ByteArray) t378 t379 _ A51.out (et_ HL_ (be_ HB))).mono ?_); rintro e w63 ⟨rfl, hb⟩; refine ⟨_, rfl, ?_⟩; replace BK369 := bb_ (bu_ BK369) hb; replace BK370 := Aside0.mk (blk_below (o := .cells #[.int .i64 1, .int .i64 t375, .string (⟨#[]⟩ : ByteArray)] 44 (0, 0)) (bp_ BK370) hb); replace HB := bs_ (be_ HB) hb; (try clear hb); (try clear hb2); (try clear hk); (try clear hi); have hcz64_0 : w63.cell? ⟨gb369, 0, none⟩ = some (.int .i64 0) := (blk_cell BK369.out 0).trans rfl; have hcz64_1 : w63.cell? ⟨gb369, 1, none⟩ = some (.int .i64 0) := (blk_cell BK369.out 1).trans rfl; have hcz64_2 : w63.cell? ⟨gb369, 2, none⟩ = some (.string (⟨#[]⟩ : ByteArray)) := (blk_cell BK369.out 2).trans rfl; have hfz64_0 := blk_frozen BK369.out 0; have hfz64_1 := blk_frozen BK369.out 1; have hfz64_2 := blk_frozen BK369.out 2))
          refine bodyPost_ret (results_ct rfl _ _ gb369 44 #[.int .i64 0, .int .i64 0, .string (⟨#[]⟩ : ByteArray)] (0, 0) _ rfl (bp_ BK369) Tryd.underlying44 rfl (by kernel_rfl)) rfl ?_
          exact ⟨re_, be_ HB⟩
        ·rw [if_neg c52] at H
         obtain ⟨c52b0, c52b1⟩ := neB_ c52
         simp only [Option.some.injEq, Prod.mk.injEq] at H
         obtain ⟨rfl, rfl, rfl, rfl⟩ := H
         go_wp2_with (first | ((with_reducible refine gate_callee (f := 52) rfl ?_); refine goesL_ (some 33) rfl rfl Tryd.func52 (by kernel_rfl) rfl #[.string a0] rfl ga_ ?_; (with_reducible refine (strconv_Atoi.calls0 a0 t375 _ A50.out (ee_ HL_ (be_ HB))).mono ?_); rintro e w65 ⟨rfl, hb⟩; refine ⟨_, rfl, ?_⟩; replace BK369 := bb_ (bu_ BK369) hb; replace BK370 := bb_ (bu_ BK370) hb; replace HB := bs_ (be_ HB) hb; (try clear hb); (try clear hb2); (try clear hk); (try clear hi); (try simp only [errW_none, errW_some]); have hnb66 := NB370_369.out; have hnc66 := NB369_370.out; have hcz67_0 : w65.cell? ⟨gb370, 0, none⟩ = some (.int .i64 2) := (blk_cell BK370.out 0).trans rfl; have hcz67_1 : w65.cell? ⟨gb370, 1, none⟩ = some (.int .i64 0) := (blk_cell BK370.out 1).trans rfl; have hcz67_2 : w65.cell? ⟨gb370, 2, none⟩ = some (.string a0) := (blk_cell BK370.out 2).trans rfl; have hfz67_0 := blk_frozen BK370.out 0; have hfz67_1 := blk_frozen BK370.out 1; have hfz67_2 := blk_frozen BK370.out 2) | ((with_reducible refine gate_callee (f := 26) rfl ?_); refine goesL_ (some 43) rfl rfl Tryd.func26 (by kernel_rfl) rfl #[.agg #[.int .i64 1, .int .i64 t375, .string (⟨#[]⟩ : ByteArray)]] rfl ga_ ?_; (with_reducible refine (val_Text.calls kj39 1 t375 (⟨#[]⟩ : ByteArray) t378 t379 _ A51.out (et_ HL_ (be_ HB))).mono ?_); rintro e w68 ⟨rfl, hb⟩; refine ⟨_, rfl, ?_⟩; replace BK369 := bb_ (bu_ BK369) hb; replace BK370 := Aside0.mk (blk_below (o := .cells #[.int .i64 1, .int .i64 t375, .string (⟨#[]⟩ : ByteArray)] 44 (0, 0)) (bp_ BK370) hb); replace HB := bs_ (be_ HB) hb; (try clear hb); (try clear hb2); (try clear hk); (try clear hi); have hcz69_0 : w68.cell? ⟨gb369, 0, none⟩ = some (.int .i64 0) := (blk_cell BK369.out 0).trans rfl; have hcz69_1 : w68.cell? ⟨gb369, 1, none⟩ = some (.int .i64 0) := (blk_cell BK369.out 1).trans rfl; have hcz69_2 : w68.cell? ⟨gb369, 2, none⟩ = some (.string (⟨#[]⟩ : ByteArray)) := (blk_cell BK369.out 2).trans rfl; have hfz69_0 := blk_frozen BK369.out 0; have hfz69_1 := blk_frozen BK369.out 1; have hfz69_2 := blk_frozen BK369.out 2))
         refine bodyPost_ret (results_ct rfl _ _ gb369 44 #[.int .i64 0, .int .i64 0, .string (⟨#[]⟩ : ByteArray)] (0, 0) _ rfl (bp_ BK369) Tryd.underlying44 rfl (by kernel_rfl)) rfl ?_
         exact ⟨re_, be_ HB⟩
       ·have H1 : (some (0, 0, (⟨#[]⟩ : ByteArray), 7)) = some (r1, r2, r3, r4) := by rw [if_neg (show ¬ (some q377).isNone = true by simp)] at H; exact H
        clear H
        have H := H1
        clear H1
        try simp only [errW_none, errW_some]
        simp only [Option.some.injEq, Prod.mk.injEq] at H
        obtain ⟨rfl, rfl, rfl, rfl⟩ := H
        go_wp2_with (first | ((with_reducible refine gate_callee (f := 52) rfl ?_); refine goesL_ (some 33) rfl rfl Tryd.func52 (by kernel_rfl) rfl #[.string a0] rfl ga_ ?_; (with_reducible refine (strconv_Atoi.calls1 a0 t375 q377 _ A50.out (ee_ HL_ (be_ HB))).mono ?_); rintro e w70 ⟨⟨N_, rfl⟩, hb⟩; refine ⟨_, rfl, ?_⟩; replace BK369 := bb_ (bu_ BK369) hb; replace BK370 := bb_ (bu_ BK370) hb; replace HB := bs_ (be_ HB) hb; (try clear hb); (try clear hb2); (try clear hk); (try clear hi); (try simp only [errW_none, errW_some]); have hnb71 := NB369_370.out; have hnc71 := NB370_369.out; have hcz72_0 : w70.cell? ⟨gb369, 0, none⟩ = some (.int .i64 0) := (blk_cell BK369.out 0).trans rfl; have hcz72_1 : w70.cell? ⟨gb369, 1, none⟩ = some (.int .i64 0) := (blk_cell BK369.out 1).trans rfl; have hcz72_2 : w70.cell? ⟨gb369, 2, none⟩ = some (.string (⟨#[]⟩ : ByteArray)) := (blk_cell BK369.out 2).trans rfl; have hfz72_0 := blk_frozen BK369.out 0; have hfz72_1 := blk_frozen BK369.out 1; have hfz72_2 := blk_frozen BK369.out 2))
        refine bodyPost_ret (results_ct rfl _ _ gb369 44 #[.int .i64 0, .int .i64 0, .string (⟨#[]⟩ : ByteArray)] (0, 0) _ rfl (bp_ BK369) Tryd.underlying44 rfl (by kernel_rfl)) rfl ?_
        exact ⟨re_, be_ HB⟩
      ·replace c49 := Bool.eq_false_iff.mpr c49
       subst c49
       rw [if_neg (show ¬ (false = true) by decide)] at H
       replace H := Option.bind_eq_some_iff.mp H
       obtain ⟨⟨t380, t381⟩, A730, H⟩ := H
       try dsimp only at H
       have A73 := Aside0.mk A730
       clear A730
       by_cases c74 : t381 = 0
       ·rw [if_pos c74] at H
        obtain ⟨c74b0, c74b1⟩ := eqB_ c74
        clear c74
        by_cases c75 : t380.toList = a0.toList
        ·rw [if_pos c75] at H
         obtain ⟨c75b0, c75b1⟩ := eqB_ c75
         clear c75
         simp only [Option.some.injEq, Prod.mk.injEq] at H
         obtain ⟨rfl, rfl, rfl, rfl⟩ := H
         have hnb76 := NB370_369.out
         have hnc76 := NB369_370.out
         have hcz77_0 : wc.cell? ⟨gb370, 0, none⟩ = some (.int .i64 2) := (blk_cell BK370.out 0).trans rfl
         have hcz77_1 : wc.cell? ⟨gb370, 1, none⟩ = some (.int .i64 0) := (blk_cell BK370.out 1).trans rfl
         have hcz77_2 : wc.cell? ⟨gb370, 2, none⟩ = some (.string a0) := (blk_cell BK370.out 2).trans rfl
         have hfz77_0 := blk_frozen BK370.out 0
         have hfz77_1 := blk_frozen BK370.out 1
         have hfz77_2 := blk_frozen BK370.out 2
         go_wp2_with (first | ((with_reducible refine gate_callee (f := 26) rfl ?_); refine goesL_ (some 43) rfl rfl Tryd.func26 (by kernel_rfl) rfl #[.agg #[.int .i64 2, .int .i64 0, .string a0]] rfl ga_ ?_; (with_reducible refine (val_Text.calls kj39 2 0 a0 t380 t381 _ A73.out (et_ HL_ (be_ HB))).mono ?_); rintro e w78 ⟨rfl, hb⟩; refine ⟨_, rfl, ?_⟩; replace BK369 := bb_ (bu_ BK369) hb; replace BK370 := bb_ (bu_ BK370) hb; replace HB := bs_ (be_ HB) hb; (try clear hb); (try clear hb2); (try clear hk); (try clear hi); have hcz79_0 : w78.cell? ⟨gb370, 0, none⟩ = some (.int .i64 2) := (blk_cell BK370.out 0).trans rfl; have hcz79_1 : w78.cell? ⟨gb370, 1, none⟩ = some (.int .i64 0) := (blk_cell BK370.out 1).trans rfl; have hcz79_2 : w78.cell? ⟨gb370, 2, none⟩ = some (.string a0) := (blk_cell BK370.out 2).trans rfl; have hfz79_0 := blk_frozen BK370.out 0; have hfz79_1 := blk_frozen BK370.out 1; have hfz79_2 := blk_frozen BK370.out 2; have hcz80_0 : w78.cell? ⟨gb369, 0, none⟩ = some (.int .i64 0) := (blk_cell BK369.out 0).trans rfl; have hcz80_1 : w78.cell? ⟨gb369, 1, none⟩ = some (.int .i64 0) := (blk_cell BK369.out 1).trans rfl; have hcz80_2 : w78.cell? ⟨gb369, 2, none⟩ = some (.string (⟨#[]⟩ : ByteArray)) := (blk_cell BK369.out 2).trans rfl; have hfz80_0 := blk_frozen BK369.out 0; have hfz80_1 := blk_frozen BK369.out 1; have hfz80_2 := blk_frozen BK369.out 2))
         refine bodyPost_ret (results_ct rfl _ _ gb369 44 #[.int .i64 2, .int .i64 0, .string a0] (0, 0) _ rfl (bp_ BK369) Tryd.underlying44 rfl (by kernel_rfl)) rfl ?_
         exact ⟨re_, be_ HB⟩
        ·rw [if_neg c75] at H
         obtain ⟨c75b0, c75b1⟩ := neB_ c75
         simp only [Option.some.injEq, Prod.mk.injEq] at H
         obtain ⟨rfl, rfl, rfl, rfl⟩ := H
         have hnb81 := NB370_369.out
         have hnc81 := NB369_370.out
         have hcz82_0 : wc.cell? ⟨gb370, 0, none⟩ = some (.int .i64 2) := (blk_cell BK370.out 0).trans rfl
         have hcz82_1 : wc.cell? ⟨gb370, 1, none⟩ = some (.int .i64 0) := (blk_cell BK370.out 1).trans rfl
         have hcz82_2 : wc.cell? ⟨gb370, 2, none⟩ = some (.string a0) := (blk_cell BK370.out 2).trans rfl
         have hfz82_0 := blk_frozen BK370.out 0
         have hfz82_1 := blk_frozen BK370.out 1
         have hfz82_2 := blk_frozen BK370.out 2
         go_wp2_with (first | ((with_reducible refine gate_callee (f := 26) rfl ?_); refine goesL_ (some 43) rfl rfl Tryd.func26 (by kernel_rfl) rfl #[.agg #[.int .i64 2, .int .i64 0, .string a0]] rfl ga_ ?_; (with_reducible refine (val_Text.calls kj39 2 0 a0 t380 t381 _ A73.out (et_ HL_ (be_ HB))).mono ?_); rintro e w83 ⟨rfl, hb⟩; refine ⟨_, rfl, ?_⟩; replace BK369 := bb_ (bu_ BK369) hb; replace BK370 := bb_ (bu_ BK370) hb; replace HB := bs_ (be_ HB) hb; (try clear hb); (try clear hb2); (try clear hk); (try clear hi); have hcz84_0 : w83.cell? ⟨gb369, 0, none⟩ = some (.int .i64 0) := (blk_cell BK369.out 0).trans rfl; have hcz84_1 : w83.cell? ⟨gb369, 1, none⟩ = some (.int .i64 0) := (blk_cell BK369.out 1).trans rfl; have hcz84_2 : w83.cell? ⟨gb369, 2, none⟩ = some (.string (⟨#[]⟩ : ByteArray)) := (blk_cell BK369.out 2).trans rfl; have hfz84_0 := blk_frozen BK369.out 0; have hfz84_1 := blk_frozen BK369.out 1; have hfz84_2 := blk_frozen BK369.out 2))
         refine bodyPost_ret (results_ct rfl _ _ gb369 44 #[.int .i64 0, .int .i64 0, .string (⟨#[]⟩ : ByteArray)] (0, 0) _ rfl (bp_ BK369) Tryd.underlying44 rfl (by kernel_rfl)) rfl ?_
         exact ⟨re_, be_ HB⟩
       ·rw [if_neg c74] at H
        obtain ⟨c74b0, c74b1⟩ := neB_ c74
        simp only [Option.some.injEq, Prod.mk.injEq] at H
        obtain ⟨rfl, rfl, rfl, rfl⟩ := H
        have hnb85 := NB370_369.out
        have hnc85 := NB369_370.out
        have hcz86_0 : wc.cell? ⟨gb370, 0, none⟩ = some (.int .i64 2) := (blk_cell BK370.out 0).trans rfl
        have hcz86_1 : wc.cell? ⟨gb370, 1, none⟩ = some (.int .i64 0) := (blk_cell BK370.out 1).trans rfl
        have hcz86_2 : wc.cell? ⟨gb370, 2, none⟩ = some (.string a0) := (blk_cell BK370.out 2).trans rfl
        have hfz86_0 := blk_frozen BK370.out 0
        have hfz86_1 := blk_frozen BK370.out 1
        have hfz86_2 := blk_frozen BK370.out 2
        go_wp2_with (first | ((with_reducible refine gate_callee (f := 26) rfl ?_); refine goesL_ (some 43) rfl rfl Tryd.func26 (by kernel_rfl) rfl #[.agg #[.int .i64 2, .int .i64 0, .string a0]] rfl ga_ ?_; (with_reducible refine (val_Text.calls kj39 2 0 a0 t380 t381 _ A73.out (et_ HL_ (be_ HB))).mono ?_); rintro e w87 ⟨rfl, hb⟩; refine ⟨_, rfl, ?_⟩; replace BK369 := bb_ (bu_ BK369) hb; replace BK370 := bb_ (bu_ BK370) hb; replace HB := bs_ (be_ HB) hb; (try clear hb); (try clear hb2); (try clear hk); (try clear hi); have hcz88_0 : w87.cell? ⟨gb369, 0, none⟩ = some (.int .i64 0) := (blk_cell BK369.out 0).trans rfl; have hcz88_1 : w87.cell? ⟨gb369, 1, none⟩ = some (.int .i64 0) := (blk_cell BK369.out 1).trans rfl; have hcz88_2 : w87.cell? ⟨gb369, 2, none⟩ = some (.string (⟨#[]⟩ : ByteArray)) := (blk_cell BK369.out 2).trans rfl; have hfz88_0 := blk_frozen BK369.out 0; have hfz88_1 := blk_frozen BK369.out 1; have hfz88_2 := blk_frozen BK369.out 2))
        refine bodyPost_ret (results_ct rfl _ _ gb369 44 #[.int .i64 0, .int .i64 0, .string (⟨#[]⟩ : ByteArray)] (0, 0) _ rfl (bp_ BK369) Tryd.underlying44 rfl (by kernel_rfl)) rfl ?_
        exact ⟨re_, be_ HB⟩
  ·rw [if_neg c8] at H
   exact absurd H (by simp)
end Go.Proofs.YtaopajmpifenoaaDoor.P
end
section
namespace Go.Proofs.YtaopajmpifenoaaDoor.P
open Go.RowKit Go.Proofs.YtaopajmpifenoaaDoorW.PrintWords Go.Proofs.YtaopajmpifenoaaDoorW.PrintLast Go.Proofs.YtaopajmpifenoaaDoorW.PrintMore
theorem evPos {α : Type} {c : Prop} [Decidable c] {f g : Nat → Option α} {r : α} (h : c) (k : Ev f r) : Ev (fun n => if c then f n else g n) r := Ev.congr (fun _ => if_pos h) k
theorem evNeg {α : Type} {c : Prop} [Decidable c] {f g : Nat → Option α} {r : α} (h : ¬ c) (k : Ev g r) : Ev (fun n => if c then f n else g n) r := Ev.congr (fun _ => if_neg h) k
theorem evSome {α : Type} {a r : α} (h : a = r) : Ev (fun _ => some a) r := ⟨0, fun _ _ => by rw [h]⟩
theorem evShift {α : Type} {g : Nat → Option α} {r : α} (k : Ev (fun n => g (n + 1)) r) : Ev g r := Ev.step (fun _ => rfl) k
theorem evBind0 {α β : Type} {g : Option α} {f : Nat → α → Option β} {a : α} {r : β} (h : g = some a) (k : Ev (fun n => f n a) r) : Ev (fun n => g.bind (f n)) r := by subst h; exact k
theorem evCond {α : Type} {b : Bool} {f g : Nat → Option α} {r : α} (h1 : b = true → Ev f r) (h2 : b = false → Ev g r) : Ev (fun n => if b = true then f n else g n) r := by
  cases b with
  | true => exact evPos rfl (h1 rfl)
  | false => exact evNeg (by decide) (h2 rfl)
theorem evIf {α : Type} {c : Prop} [Decidable c] {f g : Nat → Option α} {r : α} (h1 : c → Ev f r) (h2 : ¬ c → Ev g r) : Ev (fun n => if c then f n else g n) r := by
  by_cases h : c
  · exact evPos h (h1 h)
  · exact evNeg h (h2 h)
end Go.Proofs.YtaopajmpifenoaaDoor.P
end
section
namespace Go.Proofs.YtaopajmpifenoaaDoor.P
open Go.RowKit Go.Proofs.YtaopajmpifenoaaDoorW.PrintWords Go.Proofs.YtaopajmpifenoaaDoorW.PrintLast Go.Proofs.YtaopajmpifenoaaDoorW.PrintMore
theorem len_codes (s : ByteArray) : (bytesOf s).length = s.size := by simp [bytesOf]
theorem bt_codes (s : ByteArray) (i : Int) : bt s i = rd (bytesOf s) i := (rd_bytesOf s i).symm
theorem codes_inj {s t : ByteArray} (h : bytesOf s = bytesOf t) : s = t := by
  have h2 : s.data.toList = t.data.toList := by
    unfold bytesOf at h
    have inj : ∀ (a b : List UInt8), a.map (fun b => ((b.toNat : Nat) : Int)) = b.map (fun b => ((b.toNat : Nat) : Int)) → a = b := by
      intro a
      induction a with
      | nil => intro b hb; cases b with
        | nil => rfl
        | cons y b => simp at hb
      | cons x a ih => intro b hb; cases b with
        | nil => simp at hb
        | cons y b =>
          simp only [List.map_cons, List.cons.injEq] at hb
          have e : x = y := UInt8.toNat_inj.1 (by omega)
          rw [e, ih b hb.2]
    exact inj _ _ h
  cases s with | mk a => cases t with | mk b => cases a; cases b; simp at h2; rw [h2]
theorem tl_data (s : ByteArray) : s.toList = s.data.toList := Lib.toList_data s
theorem tl_inj {s t : ByteArray} : s.toList = t.toList ↔ s = t := by
  constructor
  · intro h
    rw [tl_data, tl_data] at h
    exact codes_inj (by unfold bytesOf; rw [h])
  · intro h; rw [h]
theorem tl_beq (s t : ByteArray) : (s.toList == t.toList) = decide (s = t) := by
  rw [Bool.eq_iff_iff, beq_iff_eq, decide_eq_true_eq, tl_inj]
theorem tl_nil {s : ByteArray} : s.toList = [] ↔ s = ⟨#[]⟩ := by
  rw [← tl_inj]
  have : (⟨#[]⟩ : ByteArray).toList = [] := by rw [tl_data]
  rw [this]
theorem tl_beq_nil (s : ByteArray) : (s.toList == ([] : List UInt8)) = decide (s = ⟨#[]⟩) := by
  rw [Bool.eq_iff_iff, beq_iff_eq, decide_eq_true_eq, tl_nil]
theorem size_zero {s : ByteArray} : s.size = 0 ↔ s = ⟨#[]⟩ := by
  constructor
  · intro h
    apply codes_inj
    have : (bytesOf s).length = 0 := by rw [len_codes]; exact h
    rw [List.eq_nil_of_length_eq_zero this]; rfl
  · intro h; rw [h]; rfl
theorem rd_mid {p : List Int} {x : Int} {l : List Int} : rd (p ++ x :: l) p.length = x := by simp [rd, List.getD_eq_getElem?_getD]
theorem codes_split (s : ByteArray) (i : Nat) (h : i < s.size) : ∃ x, (bytesOf s).drop i = x :: (bytesOf s).drop (i + 1) ∧ bt s i = x := by
  have hl : i < (bytesOf s).length := by rw [len_codes]; exact h
  refine ⟨(bytesOf s)[i], ?_, ?_⟩
  · exact List.drop_eq_getElem_cons hl
  · rw [bt_codes]
    simp [rd, List.getD_eq_getElem?_getD, hl]
theorem back_ind {ρ : Type} (n : Nat) (l : Nat → Int → Option ρ) (spec : Nat → ρ) (hend : Ev (fun k => l k n) (spec n))
    (hstep : ∀ i : Nat, i < n → Ev (fun k => l k ((i + 1 : Nat) : Int)) (spec (i + 1)) → Ev (fun k => l k i) (spec i)) : ∀ i : Nat, i ≤ n → Ev (fun k => l k i) (spec i) := by
  intro i hi
  obtain ⟨d, rfl⟩ : ∃ d, n = i + d := ⟨n - i, by omega⟩
  induction d generalizing i with
  | zero => exact hend
  | succ d ih =>
    refine hstep i (by omega) ?_
    have := ih (i + 1) (by rw [show i + 1 + d = i + (d + 1) by omega]; exact hend) (fun j hj => hstep j (by omega)) (by omega)
    exact this
theorem wrap_succ {i n : Nat} (h : i < n) (hn : n ≤ 9223372036854775807) : wrap64 ((i : Int) + 1) = ((i + 1 : Nat) : Int) := by unfold wrap64; omega
theorem rdOf_nth {α : Type} (d : α) (l : List α) (i : Nat) (h : i < l.length) : rdOf d l i = l[i] := by simp [rdOf, List.getD_eq_getElem?_getD, h]
end Go.Proofs.YtaopajmpifenoaaDoor.P
end
section
namespace Go.Proofs.YtaopajmpifenoaaDoor.P
open Go.RowKit Go.Proofs.YtaopajmpifenoaaDoorW.PrintWords Go.Proofs.YtaopajmpifenoaaDoorW.PrintLast Go.Proofs.YtaopajmpifenoaaDoorW.PrintMore
def InB (a : Int) : Prop := -4611686018427387904 ≤ a ∧ a ≤ 4611686018427387904
instance (a : Int) : Decidable (InB a) := inferInstanceAs (Decidable (_ ∧ _))
def doS (kind a b : Int) : Int × Int :=
  if kind = 3 ∨ kind = 4 ∨ kind = 5 then
    if InB a ∧ InB b then
      if InB (if kind = 3 then a + b else if kind = 4 then a - b else a * b) then (if kind = 3 then a + b else if kind = 4 then a - b else a * b, 0) else (0, 4)
    else (0, 4)
  else (0, 3)
theorem InB_iff (a : Int) : InB a ↔ -4611686018427387904 ≤ a ∧ a ≤ 4611686018427387904 := Iff.rfl
theorem and_low {a : Int} (h0 : 0 ≤ a) (h1 : a < 18446744073709551616) : Go.bits .and .u64 a 4294967295 = a % 4294967296 :=
  bits_mask .u64 64 (by decide) (fun n h0 h1 => by rw [IntKind.wrap_u64]; omega) 32 (by decide) a h0 h1
theorem mul_parts (a b : Int) : a * b = (a / 4294967296) * (b / 4294967296) * 18446744073709551616 + ((a / 4294967296) * (b % 4294967296) + (a % 4294967296) * (b / 4294967296)) * 4294967296 + (a % 4294967296) * (b % 4294967296) := by
  have ha : a = 4294967296 * (a / 4294967296) + a % 4294967296 := by omega
  have hb : b = 4294967296 * (b / 4294967296) + b % 4294967296 := by omega
  generalize a / 4294967296 = x at *
  generalize a % 4294967296 = y at *
  generalize b / 4294967296 = z at *
  generalize b % 4294967296 = t at *
  subst ha hb
  grind
theorem mul_le2 {a b m n : Int} (h0 : 0 ≤ a) (h1 : a ≤ m) (h2 : 0 ≤ b) (h3 : b ≤ n) : 0 ≤ a * b ∧ a * b ≤ m * n :=
  ⟨Int.mul_nonneg h0 h2, Int.mul_le_mul h1 h3 h2 (by omega)⟩
theorem abs_mul (a b : Int) : (if a < 0 then -a else a) * (if b < 0 then -b else b) = if (decide (a < 0) != decide (b < 0)) = true then -(a * b) else a * b := by
  by_cases h1 : a < 0 <;> by_cases h2 : b < 0 <;> simp [h1, h2, Int.neg_mul, Int.mul_neg]
def sumS (acc : Int) : List Int → Int × Int
  | [] => (acc, 0)
  | x :: l => if (doS 3 acc x).2 = 0 then sumS (doS 3 acc x).1 l else (0, (doS 3 acc x).2)
theorem rd_at (p : List Int) (x : Int) (l : List Int) : rd (p ++ x :: l) p.length = x := by
  simp [rd, List.getD_eq_getElem?_getD]
theorem wrap_len (p : List Int) (h : p.length ≤ 140737488351232) : wrap64 ((p.length : Int) + 1) = (p.length : Int) + 1 := by unfold wrap64; omega
end Go.Proofs.YtaopajmpifenoaaDoor.P
end
section
namespace Go.Proofs.YtaopajmpifenoaaDoor.P
open Go.RowKit Go.Proofs.YtaopajmpifenoaaDoorW.PrintWords Go.Proofs.YtaopajmpifenoaaDoorW.PrintLast Go.Proofs.YtaopajmpifenoaaDoorW.PrintMore
def smallI (c : Int) : Bool := decide (97 ≤ c ∧ c ≤ 122)
def largeI (c : Int) : Bool := decide (65 ≤ c ∧ c ≤ 90)
def digitI (c : Int) : Bool := decide (48 ≤ c ∧ c ≤ 57)
def innerI (c : Int) : Bool := smallI c || largeI c || digitI c || c == 95
def plainI (c : Int) : Bool := decide (32 ≤ c ∧ c ≤ 126)
def wordS (large : Bool) (s : ByteArray) : Bool :=
  decide (1 ≤ s.size ∧ s.size ≤ 24) && (if large then largeI (bt s 0) else smallI (bt s 0)) && (bytesOf s).all innerI
def valS (kind n : Int) (s : ByteArray) : Bool :=
  if kind = 1 then decide (InB n) && decide (s = ⟨#[]⟩)
  else if kind = 2 then decide (n = 0) && wordS false s
  else if kind = 3 then decide (n = 0) && (bytesOf s).all plainI && decide (s.size ≤ 60)
  else false
theorem val_small_eq (c : Int) : val_small.f c = some (smallI c) := by
  unfold val_small.f smallI
  split
  · congr 1; rw [decide_eq_decide]; omega
  · congr 1; symm; rw [decide_eq_false_iff_not]; omega
theorem val_large_eq (c : Int) : val_large.f c = some (largeI c) := by
  unfold val_large.f largeI
  split
  · congr 1; rw [decide_eq_decide]; omega
  · congr 1; symm; rw [decide_eq_false_iff_not]; omega
theorem val_digit_eq (c : Int) : val_digit.f c = some (digitI c) := by
  unfold val_digit.f digitI
  split
  · congr 1; rw [decide_eq_decide]; omega
  · congr 1; symm; rw [decide_eq_false_iff_not]; omega
theorem all_drop {P : Int → Bool} {s : ByteArray} {i : Nat} (h : i < s.size) : ((bytesOf s).drop i).all P = (P (bt s i) && ((bytesOf s).drop (i + 1)).all P) := by
  obtain ⟨x, h1, h2⟩ := codes_split s i h
  rw [h1, h2]; rfl
theorem drop_end (s : ByteArray) : (bytesOf s).drop s.size = [] := by rw [← len_codes s]; exact List.drop_length
theorem val_symbol_l0 (s : ByteArray) (hs : s.size ≤ maxLen) : ∀ i : Nat, i ≤ s.size → Ev (fun k => val_symbol.l0 k s s.size i) (((bytesOf s).drop i).all innerI) := by
  unfold maxLen at hs
  refine back_ind s.size (fun k i => val_symbol.l0 k s s.size i) _ ?_ ?_
  · refine evShift ?_
    simp only [val_symbol.l0]
    refine evNeg (by omega) (evSome (by rw [drop_end]; rfl))
  · intro i hi ih
    refine evShift ?_
    simp only [val_symbol.l0, val_small_eq, val_large_eq, val_digit_eq, Option.bind_some]
    refine evPos (by omega) (evPos (by omega) (evPos (by omega) ?_))
    rw [all_drop hi, wrap_succ hi (by omega)]
    have e : innerI (bt s i) = (smallI (bt s i) || largeI (bt s i) || digitI (bt s i) || bt s i == 95) := rfl
    by_cases h1 : smallI (bt s i) = true
    · rw [e, h1]; simpa using ih
    · by_cases h2 : largeI (bt s i) = true
      · rw [e, h2]; simpa [h1] using ih
      · by_cases h3 : digitI (bt s i) = true
        · rw [e, h3]; simpa [h1, h2] using ih
        · by_cases h4 : bt s i = 95
          · rw [e]; simpa [h1, h2, h3, h4] using ih
          · rw [e]; simp [h1, h2, h3, h4]; exact evSome (by simp [h4])
theorem val_symbol_ev (s : ByteArray) (hs : s.size ≤ maxLen) : Ev (fun k => val_symbol.f k s) (wordS false s) := by
  have hl := val_symbol_l0 s hs 0 (by omega)
  simp only [List.drop_zero, Int.natCast_zero] at hl
  have hj : Ev (fun k => val_symbol.j0 k s true) false := by
    refine evShift ?_
    simp only [val_symbol.j0, if_true]
    exact evSome rfl
  unfold val_symbol.f wordS
  by_cases h1 : (s.size : Int) < 1
  · refine evPos h1 ?_
    have hd : decide (1 ≤ s.size ∧ s.size ≤ 24) = false := decide_eq_false (by omega)
    rw [hd]; exact hj
  · refine evNeg h1 ?_
    by_cases h2 : (s.size : Int) > 24
    · refine evPos h2 ?_
      have hd : decide (1 ≤ s.size ∧ s.size ≤ 24) = false := decide_eq_false (by omega)
      rw [hd]; exact hj
    · refine evNeg h2 (evPos (by omega) ?_)
      have hd : decide (1 ≤ s.size ∧ s.size ≤ 24) = true := decide_eq_true (by omega)
      rw [hd]
      simp only [val_small_eq, Option.bind_some, Bool.true_and]
      by_cases h3 : smallI (bt s 0) = true
      · simp only [h3, Bool.not_true]
        refine evShift ?_
        simp only [val_symbol.j0, Bool.false_eq_true, if_false]
        exact hl
      · replace h3 := Bool.eq_false_iff.mpr h3
        simp only [h3, Bool.not_false]
        exact hj
theorem val_plain_ev (s : ByteArray) (hs : s.size ≤ maxLen) : Ev (fun k => val_plain.f k s) ((bytesOf s).all plainI && decide (s.size ≤ 60)) := by
  have h : ∀ i : Nat, i ≤ s.size → Ev (fun k => val_plain.l0 k s s.size i) (((bytesOf s).drop i).all plainI && decide (s.size ≤ 60)) := by
    unfold maxLen at hs
    refine back_ind s.size (fun k i => val_plain.l0 k s s.size i) _ ?_ ?_
    · refine evShift ?_
      simp only [val_plain.l0]
      refine evNeg (by omega) (evSome (by rw [drop_end]; simp; omega))
    · intro i hi ih
      refine evShift ?_
      simp only [val_plain.l0]
      refine evPos (by omega) (evPos (by omega) (evPos (by omega) ?_))
      rw [all_drop hi, wrap_succ hi (by omega)]
      by_cases h1 : bt s i < 32
      · refine evPos h1 (evSome ?_)
        have : plainI (bt s i) = false := decide_eq_false (by omega)
        rw [this]; rfl
      · refine evNeg h1 ?_
        by_cases h2 : bt s i > 126
        · refine evPos h2 (evSome ?_)
          have : plainI (bt s i) = false := decide_eq_false (by omega)
          rw [this]; rfl
        · refine evNeg h2 ?_
          have : plainI (bt s i) = true := decide_eq_true (by omega)
          rw [this]; exact ih
  have := h 0 (by omega)
  simpa [val_plain.f] using this
theorem val_Check_ev (kind n : Int) (s : ByteArray) (hs : s.size ≤ maxLen) : Ev (fun k => val_Check.f k kind n s) (if valS kind n s then 0 else 1) := by
  unfold val_Check.f valS
  by_cases h1 : kind = 1
  · refine evPos h1 ?_
    rw [if_pos h1]
    by_cases h2 : n ≥ -4611686018427387904
    · refine evPos h2 ?_
      by_cases h3 : n ≤ 4611686018427387904
      · refine evPos h3 ?_
        rw [decide_eq_true ((InB_iff n).2 ⟨h2, h3⟩)]
        by_cases h4 : s = ⟨#[]⟩
        · exact evPos (tl_nil.2 h4) (evSome (by simp [h4]))
        · exact evNeg (fun e => h4 (tl_nil.1 e)) (evSome (by simp [h4]))
      · exact evNeg h3 (evSome (by rw [decide_eq_false (fun h => h3 ((InB_iff n).1 h).2)]; rfl))
    · exact evNeg h2 (evSome (by rw [decide_eq_false (fun h => h2 ((InB_iff n).1 h).1)]; rfl))
  · refine evNeg h1 ?_
    rw [if_neg h1]
    by_cases h2 : kind = 2
    · refine evPos h2 ?_
      rw [if_pos h2]
      by_cases h3 : n = 0
      · refine evPos h3 (Ev.bind (val_symbol_ev s hs) ?_)
        rw [decide_eq_true h3]
        cases wordS false s <;> exact evSome rfl
      · refine evNeg h3 (evSome ?_)
        rw [decide_eq_false h3]; rfl
    · refine evNeg h2 ?_
      rw [if_neg h2]
      by_cases h3 : kind = 3
      · refine evPos h3 ?_
        rw [if_pos h3]
        by_cases h4 : n = 0
        · refine evPos h4 (Ev.bind (val_plain_ev s hs) ?_)
          rw [decide_eq_true h4, Bool.true_and]
          cases ((bytesOf s).all plainI && decide (s.size ≤ 60)) <;> exact evSome rfl
        · refine evNeg h4 (evSome ?_)
          rw [decide_eq_false h4]; rfl
      · refine evNeg h3 (evSome ?_)
        rw [if_neg h3]; rfl
end Go.Proofs.YtaopajmpifenoaaDoor.P
end
section
namespace Go.Proofs.YtaopajmpifenoaaDoor.P
open Go.RowKit Go.Proofs.YtaopajmpifenoaaDoorW.PrintWords Go.Proofs.YtaopajmpifenoaaDoorW.PrintLast Go.Proofs.YtaopajmpifenoaaDoorW.PrintMore
theorem ref_In_eq (a b c : Int) : constableref01_In.f a b c = some (decide (b ≤ a ∧ a ≤ c)) := by
  unfold constableref01_In.f
  split
  · congr 1; rw [decide_eq_decide]; omega
  · congr 1; symm; rw [decide_eq_false_iff_not]; omega
theorem abs_mul_abs (a b : Int) : (if a < -a then -a else a) * (if b < -b then -b else b) = if a * b < 0 then -(a * b) else a * b := by
  by_cases ha : a < -a <;> by_cases hb : b < -b <;> simp only [ha, hb, if_true, if_false]
  · have : 0 < a * b := Int.mul_pos_of_neg_of_neg (by omega) (by omega)
    rw [if_neg (by omega)]; exact Int.neg_mul_neg a b
  · have : a * b ≤ 0 := Int.mul_nonpos_of_nonpos_of_nonneg (by omega) (by omega)
    rw [Int.neg_mul]; split <;> omega
  · have : a * b ≤ 0 := Int.mul_nonpos_of_nonneg_of_nonpos (by omega) (by omega)
    rw [Int.mul_neg]; split <;> omega
  · have : 0 ≤ a * b := Int.mul_nonneg (by omega) (by omega)
    rw [if_neg (by omega)]
theorem ref_over {a b : Int} (ha : InB a) (hb : InB b) (hb0 : b ≠ 0) :
    (mx a (wrap64 (-a)) > wrap64 (Int.tdiv 4611686018427387904 (mx b (wrap64 (-b))))) ↔ ¬ InB (a * b) := by
  rw [InB_iff] at ha hb
  have e1 : wrap64 (-a) = -a := by unfold wrap64; omega
  have e2 : wrap64 (-b) = -b := by unfold wrap64; omega
  rw [e1, e2]
  have m1 : mx a (-a) = if a < -a then -a else a := rfl
  have m2 : mx b (-b) = if b < -b then -b else b := rfl
  have hm := abs_mul_abs a b
  rw [← m1, ← m2] at hm
  have p1 : 0 ≤ mx a (-a) := by rw [m1]; split <;> omega
  have p2 : 0 < mx b (-b) := by rw [m2]; split <;> omega
  generalize mx a (-a) = x at *
  generalize mx b (-b) = y at *
  rw [Int.tdiv_eq_ediv_of_nonneg (by decide)]
  have h1 : 4611686018427387904 / y ≤ 4611686018427387904 := Int.ediv_le_self _ (by decide)
  have h2 : 0 ≤ 4611686018427387904 / y := Int.ediv_nonneg (by decide) (by omega)
  have e3 : wrap64 (4611686018427387904 / y) = 4611686018427387904 / y := by unfold wrap64; omega
  rw [e3, InB_iff]
  have h3 : 4611686018427387904 / y < x ↔ 4611686018427387904 < x * y := Int.ediv_lt_iff_lt_mul p2
  rw [gt_iff_lt, h3, hm]
  split <;> omega
end Go.Proofs.YtaopajmpifenoaaDoor.P
end
section
namespace Go.Proofs.YtaopajmpifenoaaDoor.P
open Go.RowKit Go.Proofs.YtaopajmpifenoaaDoorW.PrintWords Go.Proofs.YtaopajmpifenoaaDoorW.PrintLast Go.Proofs.YtaopajmpifenoaaDoorW.PrintMore
theorem ref_Lower_eq (c : Int) : constableref01_Lower.f c = some (smallI c) := by
  unfold constableref01_Lower.f smallI
  split
  · congr 1; rw [decide_eq_decide]; omega
  · congr 1; symm; rw [decide_eq_false_iff_not]; omega
theorem ref_Upper_eq (c : Int) : constableref01_Upper.f c = some (largeI c) := by
  unfold constableref01_Upper.f largeI
  split
  · congr 1; rw [decide_eq_decide]; omega
  · congr 1; symm; rw [decide_eq_false_iff_not]; omega
theorem ref_Digit_eq (c : Int) : constableref01_Digit.f c = some (digitI c) := by
  unfold constableref01_Digit.f digitI
  split
  · congr 1; rw [decide_eq_decide]; omega
  · congr 1; symm; rw [decide_eq_false_iff_not]; omega
theorem ref_inner_eq (c : Int) : constableref01_inner.f c = some (innerI c) := by
  unfold constableref01_inner.f innerI
  simp only [ref_Lower_eq, ref_Upper_eq, ref_Digit_eq, Option.bind_some]
  cases smallI c <;> cases largeI c <;> cases digitI c <;> simp
theorem ref_Word_l0 (s : ByteArray) (hs : s.size ≤ maxLen) : ∀ i : Nat, i ≤ s.size → Ev (fun k => constableref01_Word.l0 k s i) (((bytesOf s).drop i).all innerI) := by
  unfold maxLen at hs
  refine back_ind s.size (fun k i => constableref01_Word.l0 k s i) _ ?_ ?_
  · refine evShift ?_
    simp only [constableref01_Word.l0]
    refine evNeg (by omega) (evSome (by rw [drop_end]; rfl))
  · intro i hi ih
    refine evShift ?_
    simp only [constableref01_Word.l0, ref_inner_eq, Option.bind_some]
    refine evPos (by omega) (evPos (by omega) ?_)
    rw [all_drop hi, wrap_succ hi (by omega)]
    by_cases h1 : innerI (bt s i) = true
    · rw [h1]; simpa using ih
    · simp [h1]; exact evSome rfl
theorem not_both (c : Int) : largeI c = true → smallI c = false := by
  unfold largeI smallI
  intro h
  rw [decide_eq_true_eq] at h
  exact decide_eq_false (by omega)
theorem ref_Word_ev (s : ByteArray) (large : Bool) (hs : s.size ≤ maxLen) : Ev (fun k => constableref01_Word.f k s large) (wordS large s) := by
  have hl := ref_Word_l0 s hs 0 (by omega)
  simp only [List.drop_zero, Int.natCast_zero] at hl
  have hj : Ev (fun k => constableref01_Word.j0 k s true) false := by
    refine evShift ?_
    simp only [constableref01_Word.j0, if_true]
    exact evSome rfl
  have hj2 : Ev (fun k => constableref01_Word.j0 k s false) ((bytesOf s).all innerI) := by
    refine evShift ?_
    simp only [constableref01_Word.j0, Bool.false_eq_true, if_false]
    exact hl
  unfold constableref01_Word.f wordS
  simp only [ref_In_eq, ref_Upper_eq, ref_Lower_eq, Option.bind_some]
  by_cases h1 : 1 ≤ s.size ∧ s.size ≤ 24
  · have hd : decide (1 ≤ s.size ∧ s.size ≤ 24) = true := decide_eq_true h1
    have hd' : decide ((1 : Int) ≤ s.size ∧ (s.size : Int) ≤ 24) = true := decide_eq_true (by omega)
    rw [hd, hd']
    refine evPos rfl (evPos (by omega) ?_)
    have hb := not_both (bt s 0)
    cases large <;> cases h2 : largeI (bt s 0) <;> simp [h2] at hb ⊢
    · cases h3 : smallI (bt s 0)
      · simp; exact hj
      · simp; exact hj2
    · rw [hb]; simp; exact hj
    · exact hj
    · exact hj2
  · have hd : decide (1 ≤ s.size ∧ s.size ≤ 24) = false := decide_eq_false h1
    have hd' : decide ((1 : Int) ≤ s.size ∧ (s.size : Int) ≤ 24) = false := decide_eq_false (by omega)
    rw [hd, hd']
    exact evNeg (by decide) hj
theorem ref_Value_l0 (a b : Int) (s : ByteArray) (hs : s.size ≤ maxLen) : ∀ i : Nat, i ≤ s.size → Ev (fun k => constableref01_Value.l0 k i a b s) (((bytesOf s).drop i).all plainI) := by
  unfold maxLen at hs
  refine back_ind s.size (fun k i => constableref01_Value.l0 k i a b s) _ ?_ ?_
  · refine evShift ?_
    simp only [constableref01_Value.l0]
    refine evNeg (by omega) (evSome (by rw [drop_end]; rfl))
  · intro i hi ih
    refine evShift ?_
    simp only [constableref01_Value.l0, ref_In_eq, Option.bind_some]
    refine evPos (by omega) (evPos (by omega) ?_)
    rw [all_drop hi, wrap_succ hi (by omega)]
    have hr := bt_range s i
    have hw : wrap64 (bt s i) = bt s i := by unfold wrap64; omega
    rw [hw]
    have e : decide (32 ≤ bt s i ∧ bt s i ≤ 126) = plainI (bt s i) := rfl
    rw [e]
    by_cases h1 : plainI (bt s i) = true
    · rw [h1]; simpa using ih
    · simp [h1]; exact evSome rfl
theorem ref_Value_ev (kind n : Int) (s : ByteArray) (hs : s.size ≤ maxLen) : Ev (fun k => constableref01_Value.f k kind n s) (valS kind n s) := by
  unfold constableref01_Value.f valS
  by_cases h1 : kind = 1
  · refine evPos h1 ?_
    rw [if_pos h1]
    simp only [ref_In_eq, Option.bind_some]
    have i1 : decide (-4611686018427387904 ≤ n ∧ n ≤ 4611686018427387904) = decide (InB n) := rfl
    rw [i1]
    by_cases h2 : InB n
    · rw [decide_eq_true h2]
      refine evPos rfl (evSome ?_)
      rw [Bool.eq_iff_iff]
      simp [← size_zero]
    · rw [decide_eq_false h2]
      exact evNeg (by decide) (evSome rfl)
  · refine evNeg h1 ?_
    rw [if_neg h1]
    by_cases h2 : kind = 2
    · refine evPos h2 ?_
      rw [if_pos h2]
      by_cases h3 : n = 0
      · refine evPos h3 (Ev.bind (ref_Word_ev s false hs) (evSome ?_))
        rw [decide_eq_true h3]; simp
      · refine evNeg h3 (evSome ?_)
        rw [decide_eq_false h3]; rfl
    · refine evNeg h2 ?_
      rw [if_neg h2]
      by_cases h3 : kind = 3
      · refine evPos h3 ?_
        rw [if_pos h3]
        by_cases h4 : n = 0
        · refine evPos h4 (evShift ?_)
          rw [decide_eq_true h4]
          simp only [constableref01_Value.j0]
          by_cases h5 : (s.size : Int) > 60
          · refine evPos (decide_eq_true h5) (evSome ?_)
            have : decide (s.size ≤ 60) = false := decide_eq_false (by omega)
            rw [this]; simp
          · refine evNeg (by rw [decide_eq_false h5]; decide) ?_
            have : decide (s.size ≤ 60) = true := decide_eq_true (by omega)
            rw [this]
            have := ref_Value_l0 kind n s hs 0 (by omega)
            simpa using this
        · refine evNeg h4 (evShift ?_)
          simp only [constableref01_Value.j0, if_true]
          refine evSome ?_
          rw [decide_eq_false h4]; rfl
      · refine evNeg h3 (evSome ?_)
        rw [if_neg h3]
end Go.Proofs.YtaopajmpifenoaaDoor.P
end
section
namespace Go.Proofs.YtaopajmpifenoaaDoor.P
open Go.RowKit Go.Proofs.YtaopajmpifenoaaDoorW.PrintWords Go.Proofs.YtaopajmpifenoaaDoorW.PrintLast Go.Proofs.YtaopajmpifenoaaDoorW.PrintMore
theorem cb_zero : ∀ a b : List UInt8, Lib.compareBytes a b = 0 ↔ a = b
  | [], [] => by simp [Lib.compareBytes]
  | [], _ :: _ => by simp [Lib.compareBytes]
  | _ :: _, [] => by simp [Lib.compareBytes]
  | x :: a, y :: b => by
    have ih := cb_zero a b
    simp only [Lib.compareBytes, List.cons.injEq]
    by_cases h : x < y
    · rw [if_pos h]
      refine ⟨fun h => absurd h (by decide), fun e => ?_⟩
      rw [e.1] at h; exact absurd h (UInt8.lt_irrefl y)
    · rw [if_neg h]
      by_cases h2 : y < x
      · rw [if_pos h2]
        refine ⟨fun h => absurd h (by decide), fun e => ?_⟩
        rw [e.1] at h2; exact absurd h2 (UInt8.lt_irrefl y)
      · rw [if_neg h2, ih]
        have : x = y := by
          rw [UInt8.lt_iff_toNat_lt] at h h2
          exact UInt8.toNat_inj.1 (by omega)
        exact ⟨fun e => ⟨this, e⟩, fun e => e.2⟩
theorem cb_less_iff : ∀ a b : List UInt8, Op.bytesLess a b = true ↔ Lib.compareBytes a b < 0
  | [], [] => by simp [Op.bytesLess, Lib.compareBytes]
  | [], _ :: _ => by simp [Op.bytesLess, Lib.compareBytes]
  | _ :: _, [] => by simp [Op.bytesLess, Lib.compareBytes]
  | x :: a, y :: b => by
    have ih := cb_less_iff a b
    simp only [Op.bytesLess, Lib.compareBytes]
    by_cases h : x < y
    · rw [if_pos h, decide_eq_true h]; simp
    · rw [if_neg h, decide_eq_false h, Bool.false_or]
      by_cases h2 : y < x
      · rw [if_pos h2]
        have e : (x == y) = false := beq_eq_false_iff_ne.mpr (fun e => by rw [e] at h2; exact absurd h2 (UInt8.lt_irrefl y))
        rw [e]; simp
      · rw [if_neg h2]
        have : x = y := by
          rw [UInt8.lt_iff_toNat_lt] at h h2
          exact UInt8.toNat_inj.1 (by omega)
        subst this
        rw [beq_self_eq_true, Bool.true_and]; exact ih
theorem cb_less (a b : List UInt8) : Op.bytesLess a b = decide (Lib.compareBytes a b < 0) := by
  rw [Bool.eq_iff_iff, cb_less_iff, decide_eq_true_eq]
theorem cb_swap : ∀ a b : List UInt8, Lib.compareBytes b a = - Lib.compareBytes a b
  | [], [] => rfl
  | [], _ :: _ => rfl
  | _ :: _, [] => rfl
  | x :: a, y :: b => by
    have ih := cb_swap a b
    simp only [Lib.compareBytes]
    by_cases h : x < y
    · have h2 : ¬ y < x := by rw [UInt8.lt_iff_toNat_lt] at h ⊢; omega
      rw [if_neg h2, if_pos h, if_pos h]; rfl
    · by_cases h2 : y < x
      · rw [if_pos h2, if_neg h, if_pos h2]
      · rw [if_neg h2, if_neg h, if_neg h, if_neg h2]; exact ih
def cmpI (a b : Int) : Int := if a < b then -1 else if a > b then 1 else 0
def cmpB (s t : ByteArray) : Int := Lib.compareBytes s.data.toList t.data.toList
def cmpV (v w : S44) : Int := if cmpI v.f0 w.f0 = 0 then (if cmpI v.f1 w.f1 = 0 then cmpB v.f2 w.f2 else cmpI v.f1 w.f1) else cmpI v.f0 w.f0
theorem cmpI_zero (a b : Int) : cmpI a b = 0 ↔ a = b := by unfold cmpI; split <;> (try split) <;> omega
theorem cmpI_swap (a b : Int) : cmpI b a = - cmpI a b := by unfold cmpI; split <;> (try split) <;> (try split) <;> (try split) <;> omega
theorem cmpB_zero (s t : ByteArray) : cmpB s t = 0 ↔ s = t := by
  unfold cmpB
  rw [cb_zero]
  exact ⟨fun h => ByteArray.ext (Array.toList_inj.1 h), fun h => by rw [h]⟩
theorem cmpV_zero (v w : S44) : cmpV v w = 0 ↔ v = w := by
  obtain ⟨a, b, c⟩ := v
  obtain ⟨x, y, z⟩ := w
  have h1 := cmpI_zero a x
  have h2 := cmpI_zero b y
  have h3 := cmpB_zero c z
  unfold cmpV
  simp only [S44.mk.injEq]
  by_cases e1 : cmpI a x = 0
  · rw [if_pos e1]
    by_cases e2 : cmpI b y = 0
    · rw [if_pos e2, h3]; exact ⟨fun h => ⟨h1.1 e1, h2.1 e2, h⟩, fun h => h.2.2⟩
    · rw [if_neg e2]; exact ⟨fun h => absurd h e2, fun h => absurd (h2.2 h.2.1) e2⟩
  · rw [if_neg e1]; exact ⟨fun h => absurd h e1, fun h => absurd (h1.2 h.1) e1⟩
theorem cmpV_swap (v w : S44) : cmpV w v = - cmpV v w := by
  unfold cmpV cmpB
  rw [cmpI_swap v.f0 w.f0, cmpI_swap v.f1 w.f1, cb_swap v.f2.data.toList w.f2.data.toList]
  split <;> split <;> (try split) <;> (try split) <;> omega
theorem cmp_Compare_eq (a b : Int) : cmp_Compare_int.f a b = some (cmpI a b) := by
  simp only [cmp_Compare_int.f, cmp_isNaN_int.f, Option.bind_some, bne_self_eq_false, Bool.false_eq_true, if_false, cmpI]
  split
  · rfl
  · split <;> rfl
theorem cmp_Or_ev (x y z : Int) : Ev (fun k => cmp_Or_int.f k [x, y, z]) (if x = 0 then (if y = 0 then z else y) else x) := by
  have l3 : (([x, y, z] : List Int).length : Int) = 3 := rfl
  have r0 : rd [x, y, z] 0 = x := rfl
  have r1 : rd [x, y, z] 1 = y := rfl
  have r2 : rd [x, y, z] 2 = z := rfl
  have w0 : wrap64 (0 + 1) = 1 := by unfold wrap64; omega
  have w1 : wrap64 (1 + 1) = 2 := by unfold wrap64; omega
  have w2 : wrap64 (2 + 1) = 3 := by unfold wrap64; omega
  unfold cmp_Or_int.f
  rw [l3]
  refine evShift ?_
  simp only [cmp_Or_int.l0, l3, r0, w0]
  refine evPos (by decide) (evPos (by decide) (evPos (by decide) (evIf (fun h => ?_) (fun h => evSome (by rw [if_neg h])))))
  rw [if_pos h]
  refine evShift ?_
  simp only [cmp_Or_int.l0, l3, r1, w1]
  refine evPos (by decide) (evPos (by decide) (evPos (by decide) (evIf (fun h => ?_) (fun h => evSome (by rw [if_neg h])))))
  rw [if_pos h]
  refine evShift ?_
  simp only [cmp_Or_int.l0, l3, r2, w2]
  refine evPos (by decide) (evPos (by decide) (evPos (by decide) (evIf (fun h => ?_) (fun h => evSome rfl))))
  refine evShift ?_
  simp only [cmp_Or_int.l0]
  exact evNeg (by decide) (evSome h.symm)
theorem val_Compare_ev (v w : S44) : Ev (fun k => val_Compare.f k v.f0 v.f1 v.f2 w.f0 w.f1 w.f2) (cmpV v w) := by
  unfold val_Compare.f
  simp only [cmp_Compare_eq, strings_Compare.f, Option.bind_some]
  exact Ev.bind (cmp_Or_ev _ _ _) (evSome rfl)
def holdsS (how : Int) (v w : S44) : Bool × Int :=
  if (decide (1 ≤ how ∧ how ≤ 4) && (valS v.f0 v.f1 v.f2 && valS w.f0 w.f1 w.f2)) = true then
    (if (how = 3 ∨ how = 4) ∧ v.f0 ≠ w.f0 then (false, 3) else (if how = 1 then cmpV v w == 0 else if how = 2 then cmpV v w != 0 else if how = 3 then decide (cmpV v w < 0) else decide (cmpV v w ≤ 0), 0))
  else (false, 1)
end Go.Proofs.YtaopajmpifenoaaDoor.P
end
section
namespace Go.Proofs.YtaopajmpifenoaaDoor.P
open Go.RowKit Go.Proofs.YtaopajmpifenoaaDoorW.PrintWords Go.Proofs.YtaopajmpifenoaaDoorW.PrintLast Go.Proofs.YtaopajmpifenoaaDoorW.PrintMore
def vI (a : Int) : S44 := ⟨1, a, ⟨#[]⟩⟩
def vY (s : ByteArray) : S44 := ⟨2, 0, s⟩
def vS (s : ByteArray) : S44 := ⟨3, 0, s⟩
theorem val_beq (v w : S44) : (v.f0 == w.f0 && (v.f1 == w.f1 && (v.f2.toList == w.f2.toList))) = (cmpV v w == 0) := by
  rw [Bool.eq_iff_iff, beq_iff_eq, cmpV_zero, tl_beq]
  cases v; cases w
  simp
theorem cmpB_nil : cmpB ⟨#[]⟩ ⟨#[]⟩ = 0 := (cmpB_zero _ _).2 rfl
theorem cmp_vI (a b : Int) : cmpV (vI a) (vI b) = cmpI a b := by
  show (if cmpI 1 1 = 0 then (if cmpI a b = 0 then cmpB ⟨#[]⟩ ⟨#[]⟩ else cmpI a b) else cmpI 1 1) = _
  rw [if_pos ((cmpI_zero 1 1).2 rfl), cmpB_nil]
  split
  · exact (‹cmpI a b = 0›).symm
  · rfl
def Tr (x y z : Int) : Prop := (x ≤ 0 → y ≤ 0 → z ≤ 0) ∧ (x < 0 → y ≤ 0 → z < 0) ∧ (x ≤ 0 → y < 0 → z < 0) ∧ (x = 0 → y = 0 → z = 0)
def lexI (a b : Int) : Int := if a = 0 then b else a
theorem Tr.lex {x y z a b c : Int} (h : Tr x y z) (k : Tr a b c) : Tr (lexI x a) (lexI y b) (lexI z c) := by
  unfold Tr lexI at *
  obtain ⟨h1, h2, h3, h4⟩ := h
  obtain ⟨k1, k2, k3, k4⟩ := k
  by_cases ex : x = 0
  · by_cases ey : y = 0
    · rw [if_pos ex, if_pos ey, if_pos (h4 ex ey)]; exact ⟨k1, k2, k3, k4⟩
    · rw [if_pos ex, if_neg ey]
      refine ⟨fun _ q => ?_, fun _ q => ?_, fun _ q => ?_, fun _ q => absurd q ey⟩ <;> (have := h3 (by omega) (by omega); rw [if_neg (by omega)]; omega)
  · by_cases ey : y = 0
    · rw [if_neg ex, if_pos ey]
      refine ⟨fun p _ => ?_, fun p _ => ?_, fun p _ => ?_, fun p _ => absurd p ex⟩ <;> (have := h2 (by omega) (by omega); rw [if_neg (by omega)]; omega)
    · rw [if_neg ex, if_neg ey]
      refine ⟨fun p q => ?_, fun p q => ?_, fun p q => ?_, fun p _ => absurd p ex⟩ <;> (have := h2 (by omega) (by omega); rw [if_neg (by omega)]; omega)
theorem cmpI_tr (a b c : Int) : Tr (cmpI a b) (cmpI b c) (cmpI a c) := by
  unfold Tr cmpI
  refine ⟨?_, ?_, ?_, ?_⟩ <;> (intro p q; repeat' split at p) <;> (repeat' split at q) <;> (repeat' split) <;> omega
theorem cb_cons (x y : UInt8) (a b : List UInt8) : Lib.compareBytes (x :: a) (y :: b) = lexI (cmpI (x.toNat : Int) (y.toNat : Int)) (Lib.compareBytes a b) := by
  simp only [Lib.compareBytes, UInt8.lt_iff_toNat_lt]
  by_cases h : x.toNat < y.toNat
  · have e : cmpI (x.toNat : Int) (y.toNat : Int) = -1 := by unfold cmpI; rw [if_pos (by omega)]
    rw [if_pos h, e]; rfl
  · rw [if_neg h]
    by_cases h2 : y.toNat < x.toNat
    · have e : cmpI (x.toNat : Int) (y.toNat : Int) = 1 := by unfold cmpI; rw [if_neg (by omega), if_pos (by omega)]
      rw [if_pos h2, e]; rfl
    · have e : cmpI (x.toNat : Int) (y.toNat : Int) = 0 := by unfold cmpI; rw [if_neg (by omega), if_neg (by omega)]
      rw [if_neg h2, e]; rfl
theorem cb_nn : Lib.compareBytes [] [] = 0 := rfl
theorem cb_nc (y : UInt8) (b : List UInt8) : Lib.compareBytes [] (y :: b) = -1 := rfl
theorem cb_cn (x : UInt8) (a : List UInt8) : Lib.compareBytes (x :: a) [] = 1 := rfl
theorem cb_tr : ∀ a b c : List UInt8, Tr (Lib.compareBytes a b) (Lib.compareBytes b c) (Lib.compareBytes a c)
  | [], [], [] => by unfold Tr; rw [cb_nn]; omega
  | [], [], _ :: _ => by unfold Tr; rw [cb_nn, cb_nc]; omega
  | [], _ :: _, [] => by unfold Tr; rw [cb_nn, cb_nc, cb_cn]; omega
  | [], _ :: _, _ :: _ => by unfold Tr; rw [cb_nc, cb_nc]; omega
  | _ :: _, [], [] => by unfold Tr; rw [cb_nn, cb_cn]; omega
  | _ :: _, [], _ :: _ => by unfold Tr; rw [cb_cn, cb_nc]; omega
  | _ :: _, _ :: _, [] => by unfold Tr; rw [cb_cn, cb_cn]; omega
  | x :: a, y :: b, z :: c => by
    rw [cb_cons, cb_cons, cb_cons]
    exact (cmpI_tr _ _ _).lex (cb_tr a b c)
theorem cmpV_lex (v w : S44) : cmpV v w = lexI (cmpI v.f0 w.f0) (lexI (cmpI v.f1 w.f1) (cmpB v.f2 w.f2)) := rfl
theorem cmpV_tr (u v w : S44) : Tr (cmpV u v) (cmpV v w) (cmpV u w) := by
  rw [cmpV_lex, cmpV_lex, cmpV_lex]
  exact (cmpI_tr _ _ _).lex ((cmpI_tr _ _ _).lex (cb_tr _ _ _))
theorem cmpI_bd (a b : Int) : -1 ≤ cmpI a b ∧ cmpI a b ≤ 1 := by unfold cmpI; split <;> (try split) <;> omega
theorem lexI_bd {a b : Int} (h : -1 ≤ a ∧ a ≤ 1) (k : -1 ≤ b ∧ b ≤ 1) : -1 ≤ lexI a b ∧ lexI a b ≤ 1 := by unfold lexI; split <;> assumption
theorem cb_bd : ∀ a b : List UInt8, -1 ≤ Lib.compareBytes a b ∧ Lib.compareBytes a b ≤ 1
  | [], [] => by rw [cb_nn]; omega
  | [], _ :: _ => by rw [cb_nc]; omega
  | _ :: _, [] => by rw [cb_cn]; omega
  | x :: a, y :: b => by rw [cb_cons]; exact lexI_bd (cmpI_bd _ _) (cb_bd a b)
theorem cmpV_bd (v w : S44) : -1 ≤ cmpV v w ∧ cmpV v w ≤ 1 := by
  rw [cmpV_lex]
  exact lexI_bd (cmpI_bd _ _) (lexI_bd (cmpI_bd _ _) (cb_bd _ _))
end Go.Proofs.YtaopajmpifenoaaDoor.P
end
section
namespace Go.Proofs.YtaopajmpifenoaaDoor.P
open Go.RowKit Go.Proofs.YtaopajmpifenoaaDoorW.PrintWords Go.Proofs.YtaopajmpifenoaaDoorW.PrintLast Go.Proofs.YtaopajmpifenoaaDoorW.PrintMore
def ByteL (l : List Int) : Prop := ∀ c ∈ l, 0 ≤ c ∧ c < 256
theorem byteL_codes (s : ByteArray) : ByteL (bytesOf s) := by
  intro c hc
  unfold bytesOf at hc
  obtain ⟨b, _, rfl⟩ := List.mem_map.1 hc
  have := b.toNat_lt
  omega
theorem codes_of_nums {l : List Int} (h : ByteL l) : bytesOf (strOfNums l) = l := by
  unfold bytesOf
  rw [strOfNums_data, List.map_map]
  induction l with
  | nil => rfl
  | cons c l ih =>
    have hc := h c (List.mem_cons_self ..)
    rw [List.map_cons, ih (fun x hx => h x (List.mem_cons_of_mem _ hx))]
    congr 1
    show (((UInt8.ofNat c.toNat).toNat : Nat) : Int) = c
    rw [UInt8.toNat_ofNat']
    omega
theorem nums_codes (s : ByteArray) : strOfNums (bytesOf s) = s := codes_inj (codes_of_nums (byteL_codes s))
theorem nums_size (l : List Int) : (strOfNums l).size = l.length := strOfNums_size l
theorem codes_append (s t : ByteArray) : bytesOf (s ++ t) = bytesOf s ++ bytesOf t := by
  unfold bytesOf
  rw [← List.map_append, ByteArray.data_append, Array.toList_append]
theorem nums_append (l m : List Int) : strOfNums l ++ strOfNums m = strOfNums (l ++ m) := by
  apply ByteArray.ext
  apply Array.toList_inj.1
  rw [ByteArray.data_append, Array.toList_append, strOfNums_data, strOfNums_data, strOfNums_data, List.map_append]
theorem ext_one (s : ByteArray) (i : Nat) (h : i < s.size) : s.extract i (i + 1) = strOfNums [bt s i] := by
  apply codes_inj
  have hb : ByteL [bt s i] := by
    obtain ⟨x, h1, h2⟩ := codes_split s i h
    intro c hc
    rw [List.mem_singleton.1 hc, h2]
    exact byteL_codes s x (List.mem_of_mem_drop (by rw [h1]; exact List.mem_cons_self ..))
  rw [codes_of_nums hb]
  obtain ⟨x, h1, h2⟩ := codes_split s i h
  unfold bytesOf at h1 ⊢
  rw [ByteArray.data_extract, Array.toList_extract, List.extract_eq_take_drop, List.map_take, List.map_drop, h1, h2, show i + 1 - i = 1 by omega]
  rfl
theorem byteL_append {l m : List Int} (h : ByteL l) (k : ByteL m) : ByteL (l ++ m) := fun c hc => (List.mem_append.1 hc).elim (h c) (k c)
theorem byteL_cons {c : Int} {l : List Int} (hc : 0 ≤ c ∧ c < 256) (h : ByteL l) : ByteL (c :: l) := fun x hx => (List.mem_cons.1 hx).elim (fun e => e ▸ hc) (h x)
def escS : List Int → List Int
  | [] => []
  | c :: l => if c = 34 ∨ c = 92 then 92 :: c :: escS l else c :: escS l
theorem escS_len : ∀ l : List Int, (escS l).length ≤ 2 * l.length
  | [] => by simp [escS]
  | c :: l => by
    have := escS_len l
    unfold escS
    split <;> simp <;> omega
theorem escS_byte : ∀ {l : List Int}, ByteL l → ByteL (escS l)
  | [], _ => by intro c hc; cases hc
  | c :: l, h => by
    have h1 := h c (List.mem_cons_self ..)
    have h2 := escS_byte (l := l) (fun x hx => h x (List.mem_cons_of_mem _ hx))
    unfold escS
    split
    · exact byteL_cons (by decide) (byteL_cons h1 h2)
    · exact byteL_cons h1 h2
def quoteL (l : List Int) : List Int := 34 :: (escS l ++ [34])
theorem quoteL_byte {l : List Int} (h : ByteL l) : ByteL (quoteL l) := byteL_cons (by decide) (byteL_append (escS_byte h) (by intro c hc; rw [List.mem_singleton.1 hc]; decide))
def quoteS (s : ByteArray) : ByteArray := strOfNums (quoteL (bytesOf s))
def textS (kind n : Int) (s : ByteArray) : ByteArray := if kind = 1 then ⟨(Lib.itoa n).toArray⟩ else if kind = 2 then s else quoteS s
theorem quoted_l0 (s : ByteArray) (hs : s.size ≤ 1000000) : ∀ (d i : Nat) (x : List Int), i + d = s.size → x.length ≤ 2 * i + 1 →
    Ev (fun k => val_quoted.l0 k s x s.size i) (strOfNums (x ++ (escS ((bytesOf s).drop i) ++ [34]))) := by
  intro d
  induction d with
  | zero =>
    intro i x hi hx
    refine evShift ?_
    simp only [val_quoted.l0]
    refine evNeg (by omega) (evPos (by omega) (evSome ?_))
    rw [show i = s.size by omega, drop_end]; rfl
  | succ d ih =>
    intro i x hi hx
    have hlt : i < s.size := by omega
    obtain ⟨c, h1, h2⟩ := codes_split s i hlt
    refine evShift ?_
    simp only [val_quoted.l0, Option.bind_some, h2]
    rw [h1, wrap_succ hlt (by omega)]
    unfold escS
    have two : c = 34 ∨ c = 92 → Ev (fun k => if x.length < 140737488355328 then (if (x ++ [92]).length < 140737488355328 then val_quoted.l0 k s (x ++ [92] ++ [c]) s.size ((i + 1 : Nat) : Int) else none) else none) (strOfNums (x ++ ((if c = 34 ∨ c = 92 then 92 :: c :: escS ((bytesOf s).drop (i + 1)) else c :: escS ((bytesOf s).drop (i + 1))) ++ [34]))) := by
      intro hc
      rw [if_pos hc]
      refine evPos (by omega) (evPos (by simp; omega) ?_)
      have := ih (i + 1) (x ++ [92] ++ [c]) (by omega) (by simp; omega)
      rw [show x ++ [92] ++ [c] ++ (escS ((bytesOf s).drop (i + 1)) ++ [34]) = x ++ (92 :: c :: escS ((bytesOf s).drop (i + 1)) ++ [34]) by simp] at this
      exact this
    refine evPos (by omega) (evPos (by omega) (evPos (by omega) (evIf (fun e => two (.inl e)) (fun e1 => evIf (fun e => two (.inr e)) (fun e2 => evPos (by omega) ?_)))))
    rw [if_neg (fun h => h.elim e1 e2)]
    have := ih (i + 1) (x ++ [c]) (by omega) (by simp; omega)
    rw [show x ++ [c] ++ (escS ((bytesOf s).drop (i + 1)) ++ [34]) = x ++ (c :: escS ((bytesOf s).drop (i + 1)) ++ [34]) by simp] at this
    exact this
theorem val_quoted_ev (s : ByteArray) (hs : s.size ≤ 1000000) : Ev (fun k => val_quoted.f k s) (quoteS s) := by
  have := quoted_l0 s hs s.size 0 [34] (by omega) (by simp)
  rw [List.drop_zero] at this
  exact this
theorem valS_str {k n : Int} {s : ByteArray} (h : valS k n s = true) (h1 : ¬ k = 1) (h2 : ¬ k = 2) : k = 3 ∧ n = 0 ∧ (bytesOf s).all plainI = true ∧ s.size ≤ 60 := by
  unfold valS at h
  rw [if_neg h1, if_neg h2] at h
  by_cases h3 : k = 3
  · rw [if_pos h3] at h
    simp only [Bool.and_eq_true, decide_eq_true_eq] at h
    exact ⟨h3, h.1.1, h.1.2, h.2⟩
  · rw [if_neg h3] at h; cases h
theorem valS_sym {n : Int} {s : ByteArray} (h : valS 2 n s = true) : n = 0 ∧ wordS false s = true := by
  unfold valS at h
  rw [if_neg (by decide), if_pos rfl] at h
  simpa using h
theorem valS_int {n : Int} {s : ByteArray} (h : valS 1 n s = true) : InB n ∧ s = ⟨#[]⟩ := by
  unfold valS at h
  rw [if_pos rfl] at h
  simpa using h
theorem val_Text_ev (k n : Int) (s : ByteArray) (hs : s.size ≤ maxLen) : Ev (fun r => val_Text.f r k n s) (if valS k n s then (textS k n s, 0) else (⟨#[]⟩, 1)) := by
  unfold val_Text.f
  refine Ev.bind (val_Check_ev k n s hs) ?_
  cases h : valS k n s with
  | false => exact evNeg (by decide) (evSome rfl)
  | true =>
    refine evPos rfl ?_
    simp only [if_true]
    unfold textS
    refine evIf (fun e => ?_) (fun e => ?_)
    · subst e
      obtain ⟨hb, _⟩ := valS_int h
      rw [InB_iff] at hb
      rw [if_pos rfl]
      simp only [strconv_Itoa.f]
      rw [if_pos ⟨by omega, by omega⟩]
      exact evSome rfl
    · rw [if_neg e]
      refine evIf (fun e2 => evSome (by rw [if_pos e2])) (fun e2 => ?_)
      rw [if_neg e2]
      obtain ⟨_, _, _, h4⟩ := valS_str h e e2
      exact Ev.bind (val_quoted_ev s (by omega)) (evSome rfl)
end Go.Proofs.YtaopajmpifenoaaDoor.P
end
section
namespace Go.Proofs.YtaopajmpifenoaaDoor.P
open Go.RowKit Go.Proofs.YtaopajmpifenoaaDoorW.PrintWords Go.Proofs.YtaopajmpifenoaaDoorW.PrintLast Go.Proofs.YtaopajmpifenoaaDoorW.PrintMore
def bareS : List Int → List Int
  | [] => []
  | [c] => [c]
  | c :: d :: r => if c = 92 then d :: bareS r else c :: bareS (d :: r)
theorem bareS_cons {c : Int} (h : ¬ c = 92) (m : List Int) : bareS (c :: m) = c :: bareS m := by
  cases m with
  | nil => rfl
  | cons d r => simp only [bareS, if_neg h]
theorem bareS_pair (d : Int) (m : List Int) : bareS (92 :: d :: m) = d :: bareS m := by simp only [bareS, if_true]
theorem bare_esc : ∀ l : List Int, bareS (escS l) = l
  | [] => rfl
  | c :: l => by
    unfold escS
    split
    · rw [bareS_pair, bare_esc l]
    · rw [bareS_cons (fun h => ‹¬ (c = 34 ∨ c = 92)› (.inr h)), bare_esc l]
theorem bare_len : ∀ (n : Nat) (l : List Int), l.length ≤ n → (bareS l).length ≤ l.length
  | _, [], _ => by simp [bareS]
  | _, [c], _ => by simp [bareS]
  | 0, c :: d :: r, h => by simp at h
  | n + 1, c :: d :: r, h => by
    unfold bareS
    split
    · have := bare_len n r (by simp at h; omega)
      simp; omega
    · have := bare_len n (d :: r) (by simp at h ⊢; omega)
      simp at this ⊢; omega
theorem take_split (s : ByteArray) (N i : Nat) (hN : N ≤ s.size) (h : i < N) : ((bytesOf s).take N).drop i = bt s i :: ((bytesOf s).take N).drop (i + 1) := by
  have hl : i < ((bytesOf s).take N).length := by rw [List.length_take, len_codes]; omega
  rw [List.drop_eq_getElem_cons hl, List.getElem_take]
  obtain ⟨x, h1, h2⟩ := codes_split s i (by omega)
  rw [h2]
  have := List.drop_eq_getElem_cons (show i < (bytesOf s).length by rw [len_codes]; omega)
  rw [this] at h1
  injection h1 with h1 _
  rw [h1]
theorem take_end (s : ByteArray) (N i : Nat) (h : N ≤ i) : ((bytesOf s).take N).drop i = [] := by
  rw [List.drop_eq_nil_iff, List.length_take]; omega
theorem bare_l0 (s : ByteArray) (h0 : 1 ≤ s.size) (hs : s.size ≤ 1000000) : ∀ (d i : Nat) (x : List Int), s.size - 1 - i ≤ d → x.length ≤ i →
    Ev (fun k => val_bare.l0 k s x i) (strOfNums (x ++ bareS (((bytesOf s).take (s.size - 1)).drop i))) := by
  have hw : wrap64 ((s.size : Int) - 1) = ((s.size - 1 : Nat) : Int) := by unfold wrap64; omega
  intro d
  induction d with
  | zero =>
    intro i x hd hx
    refine evShift ?_
    simp only [val_bare.l0, hw]
    refine evNeg (by omega) (evSome ?_)
    rw [take_end s _ i (by omega)]; simp [bareS]
  | succ d ih =>
    intro i x hd hx
    refine evShift ?_
    simp only [val_bare.l0, hw]
    by_cases hlt : i < s.size - 1
    · rw [take_split s _ i (by omega) hlt]
      have w1 : wrap64 ((i : Int) + 1) = ((i + 1 : Nat) : Int) := wrap_succ (show i < s.size by omega) (by omega)
      have one : ∀ c : Int, (c = 92 → ((bytesOf s).take (s.size - 1)).drop (i + 1) = []) → Ev (fun k => val_bare.l0 k s (x ++ [c]) ((i + 1 : Nat) : Int)) (strOfNums (x ++ bareS (c :: ((bytesOf s).take (s.size - 1)).drop (i + 1)))) := by
        intro c hc
        have := ih (i + 1) (x ++ [c]) (by omega) (by simp; omega)
        by_cases h92 : c = 92
        · rw [hc h92] at this ⊢
          simpa [bareS] using this
        · rw [bareS_cons h92]
          simpa using this
      refine evPos (by omega) (evPos (by omega) (evPos (by omega) (evIf (fun e => ?_) (fun e => evPos (by omega) ?_))))
      · rw [w1]
        by_cases h2 : i + 1 < s.size - 1
        · refine evPos (by omega) (evPos (by omega) (evPos (by omega) (evPos (by omega) ?_)))
          rw [e, take_split s _ (i + 1) (by omega) h2, bareS_pair, wrap_succ (show i + 1 < s.size by omega) (by omega)]
          have := ih (i + 1 + 1) (x ++ [bt s ((i + 1 : Nat) : Int)]) (by omega) (by simp; omega)
          simpa using this
        · refine evNeg (by omega) (evPos (by omega) ?_)
          rw [e]
          exact one 92 (fun _ => take_end s _ _ (by omega))
      · rw [w1]
        exact one _ (fun h => absurd h e)
    · refine evNeg (by omega) (evSome ?_)
      rw [take_end s _ i (by omega)]; simp [bareS]
def innerL (s : ByteArray) : List Int := ((bytesOf s).take (s.size - 1)).drop 1
theorem val_bare_ev (s : ByteArray) (h0 : 1 ≤ s.size) (hs : s.size ≤ 1000000) : Ev (fun k => val_bare.f k s) (strOfNums (bareS (innerL s))) := by
  by_cases h1 : s.size = 1
  · have e : innerL s = [] := take_end s _ _ (by omega)
    rw [e]
    unfold val_bare.f
    refine evShift ?_
    simp only [val_bare.l0]
    exact evNeg (by rw [h1]; unfold wrap64; omega) (evSome rfl)
  · have := bare_l0 s h0 hs s.size 1 [] (by omega) (by simp)
    exact this
def zE : S44 := ⟨0, 0, ⟨#[]⟩⟩
def candS (s : ByteArray) : Option S44 :=
  if bt s 0 = 34 then some ⟨3, 0, strOfNums (bareS (innerL s))⟩
  else if bt s 0 = 45 ∨ digitI (bt s 0) = true then (match Lib.atoiAll s.data.toList with | .ok n => some ⟨1, n, ⟨#[]⟩⟩ | _ => none)
  else some ⟨2, 0, s⟩
def fitsS (v : S44) (s : ByteArray) : Bool := valS v.f0 v.f1 v.f2 && decide (textS v.f0 v.f1 v.f2 = s)
def parseS (s : ByteArray) : S44 × Int :=
  if s = ⟨#[]⟩ then (zE, 7) else match candS s with | some v => if fitsS v s then (v, 0) else (zE, 7) | none => (zE, 7)
def tupP (p : S44 × Int) : Int × Int × ByteArray × Int := (p.1.f0, p.1.f1, p.1.f2, p.2)
theorem parse_fin (v : S44) (s : ByteArray) (hv : v.f2.size ≤ maxLen) (g : Nat → Int × ByteArray → Option (Int × Int × ByteArray × Int)) :
    Ev (fun k => (val_Text.f k v.f0 v.f1 v.f2).bind fun b => (if b.2 = 0 then (if b.1.toList = s.toList then (some (v.f0, v.f1, v.f2, 0)) else (some (0, 0, (⟨#[]⟩ : ByteArray), 7))) else (some (0, 0, (⟨#[]⟩ : ByteArray), 7)))) (tupP (if fitsS v s then (v, 0) else (zE, 7))) := by
  refine Ev.bind (val_Text_ev v.f0 v.f1 v.f2 hv) ?_
  unfold fitsS
  cases h : valS v.f0 v.f1 v.f2 with
  | false => exact evNeg (show ¬ (1 : Int) = 0 by decide) (evSome rfl)
  | true =>
    refine evPos rfl ?_
    simp only [if_true, Bool.true_and]
    by_cases e : textS v.f0 v.f1 v.f2 = s
    · rw [decide_eq_true e]
      exact evPos (tl_inj.2 e) (evSome rfl)
    · rw [decide_eq_false e]
      exact evNeg (fun h => e (tl_inj.1 h)) (evSome rfl)
theorem val_Parse_ev (s : ByteArray) (hs : s.size ≤ 1000000) : Ev (fun k => val_Parse.f k s) (tupP (parseS s)) := by
  have z : (⟨#[]⟩ : ByteArray).size ≤ maxLen := by unfold maxLen; exact Nat.zero_le _
  unfold val_Parse.f parseS
  by_cases h0 : s = ⟨#[]⟩
  · refine evPos (tl_nil.2 h0) (evSome ?_)
    rw [if_pos h0]; rfl
  refine evNeg (fun h => h0 (tl_nil.1 h)) ?_
  rw [if_neg h0]
  have h1 : 1 ≤ s.size := by
    have : ¬ s.size = 0 := fun h => h0 (size_zero.1 h)
    omega
  refine evPos (by omega) ?_
  unfold candS
  refine evIf (fun e => ?_) (fun e => ?_)
  · rw [if_pos e]
    refine Ev.bind (val_bare_ev s h1 hs) ?_
    have hl : (strOfNums (bareS (innerL s))).size ≤ maxLen := by
      have h1 := bare_len _ (innerL s) (Nat.le_refl _)
      have h2 : (innerL s).length ≤ s.size := by unfold innerL; rw [List.length_drop, List.length_take, len_codes]; omega
      rw [nums_size]; unfold maxLen; omega
    exact parse_fin ⟨3, 0, strOfNums (bareS (innerL s))⟩ s hl (fun _ _ => none)
  · rw [if_neg e]
    have jf : Ev (fun k => val_Parse.j0 k s false 2 0 s) (tupP (if fitsS ⟨2, 0, s⟩ s then (⟨2, 0, s⟩, 0) else (zE, 7))) := by
      refine evShift ?_
      simp only [val_Parse.j0, Bool.false_eq_true, if_false]
      exact parse_fin ⟨2, 0, s⟩ s (by unfold maxLen; show s.size ≤ _; omega) (fun _ _ => none)
    have jt : Ev (fun k => val_Parse.j0 k s true 2 0 s) (tupP (match (match Lib.atoiAll s.data.toList with | .ok n => some (⟨1, n, ⟨#[]⟩⟩ : S44) | _ => none) with | some v => if fitsS v s then (v, 0) else (zE, 7) | none => (zE, 7))) := by
      refine evShift ?_
      simp only [val_Parse.j0, if_true, strconv_Atoi.f]
      rw [if_pos (by omega)]
      cases Lib.atoiAll s.data.toList with
      | ok n => exact evBind0 rfl (evPos rfl (parse_fin ⟨1, n, ⟨#[]⟩⟩ s z (fun _ _ => none)))
      | «syntax» => exact evBind0 rfl (evNeg (show ¬ ((some (0 : Int)).isNone = true) by decide) (evSome rfl))
      | range => exact evBind0 rfl (evNeg (show ¬ ((some (0 : Int)).isNone = true) by decide) (evSome rfl))
    by_cases e2 : bt s 0 = 45
    · rw [if_pos (.inl e2)]
      exact evPos e2 jt
    · refine evNeg e2 ?_
      simp only [val_digit_eq, Option.bind_some]
      cases hd : digitI (bt s 0) with
      | true => rw [if_pos (.inr rfl)]; exact jt
      | false => rw [if_neg (fun h => h.elim e2 (by decide))]; exact jf
theorem dig_nat {d : Nat} (h : d < 10) : (UInt8.ofNat (48 + d)).toNat = 48 + d := by rw [UInt8.toNat_ofNat']; omega
theorem dec_parse : ∀ (n u : Nat) (r : List UInt8), u ≤ n → u < 9223372036854775809 → Lib.parseUint10 0 (Lib.decDigits u ++ r) = Lib.parseUint10 u r
  | n, u, r, hn, hu => by
    rw [Lib.decDigits]
    by_cases h : u < 10
    · rw [dif_pos h]
      simp only [List.cons_append, List.nil_append, Lib.parseUint10, dig_nat h]
      rw [if_pos (by omega), if_neg (by omega), if_neg (by omega)]
      congr 1; omega
    · rw [dif_neg h]
      cases n with
      | zero => omega
      | succ n =>
        rw [List.append_assoc, dec_parse n (u / 10) _ (by omega) (by omega)]
        simp only [List.cons_append, List.nil_append, Lib.parseUint10, dig_nat (show u % 10 < 10 by omega)]
        rw [if_pos (by omega), if_neg (by omega), if_neg (by omega)]
        congr 1; omega
theorem dec_digits : ∀ (n u : Nat), u ≤ n → ∀ c ∈ Lib.decDigits u, 48 ≤ c.toNat ∧ c.toNat ≤ 57
  | n, u, hn, c, hc => by
    rw [Lib.decDigits] at hc
    by_cases h : u < 10
    · rw [dif_pos h] at hc
      rw [List.mem_singleton.1 hc, dig_nat h]; omega
    · rw [dif_neg h] at hc
      cases n with
      | zero => omega
      | succ n =>
        rcases List.mem_append.1 hc with hc | hc
        · exact dec_digits n (u / 10) (by omega) c hc
        · rw [List.mem_singleton.1 hc, dig_nat (show u % 10 < 10 by omega)]; omega
theorem dec_cons (u : Nat) : ∃ c r, Lib.decDigits u = c :: r ∧ 48 ≤ c.toNat ∧ c.toNat ≤ 57 := by
  cases h : Lib.decDigits u with
  | nil =>
    have := Lib.decDigits_length u
    rw [h] at this
    have := Lib.nDigits_pos u
    simp at *; omega
  | cons c r => exact ⟨c, r, rfl, dec_digits u u (Nat.le_refl _) c (by rw [h]; exact List.mem_cons_self ..)⟩
theorem dec_mag {u : Nat} (h : u < 9223372036854775809) : Lib.parseMag (Lib.decDigits u) = .ok u := by
  obtain ⟨c, r, e, _⟩ := dec_cons u
  have := dec_parse u u [] (Nat.le_refl _) h
  rw [List.append_nil] at this
  unfold Lib.parseMag
  rw [if_neg (by rw [e]; simp), this]
  rfl
theorem atoi_itoa {n : Int} (h : InB n) : Lib.atoiAll (Lib.itoa n) = .ok n := by
  rw [InB_iff] at h
  unfold Lib.itoa
  by_cases hn : n < 0
  · rw [if_pos hn]
    have hm := dec_mag (show n.natAbs < 9223372036854775809 by omega)
    have : (45 : UInt8).toNat = 45 := rfl
    simp only [Lib.atoiAll, this, or_true, if_true, hm, not_true, false_and, if_false, true_and]
    rw [if_neg (by omega)]
    congr 1; omega
  · rw [if_neg hn]
    have hm := dec_mag (show n.toNat < 9223372036854775809 by omega)
    obtain ⟨c, r, e, h1, h2⟩ := dec_cons n.toNat
    rw [e] at hm ⊢
    simp only [Lib.atoiAll]
    rw [if_neg (show ¬ (c.toNat = 43 ∨ c.toNat = 45) by omega), hm]
    simp only
    rw [if_neg (by omega), if_neg (by omega), if_neg (by omega)]
    congr 1; omega
theorem codes_mk (l : List UInt8) : bytesOf ⟨l.toArray⟩ = l.map fun b => ((b.toNat : Nat) : Int) := rfl
theorem bt_zero {s : ByteArray} {c : Int} {l : List Int} (h : bytesOf s = c :: l) : bt s 0 = c := by rw [bt_codes, h]; rfl
theorem itoa_codes (n : Int) : ∃ c l, bytesOf ⟨(Lib.itoa n).toArray⟩ = c :: l ∧ ((n < 0 ∧ c = 45) ∨ (0 ≤ n ∧ 48 ≤ c ∧ c ≤ 57)) ∧ ∀ d ∈ l, 48 ≤ d ∧ d ≤ 57 := by
  rw [codes_mk]
  unfold Lib.itoa
  by_cases hn : n < 0
  · rw [if_pos hn]
    refine ⟨45, (Lib.decDigits n.natAbs).map fun b => ((b.toNat : Nat) : Int), rfl, .inl ⟨hn, rfl⟩, fun d hd => ?_⟩
    obtain ⟨b, hb, rfl⟩ := List.mem_map.1 hd
    have := dec_digits _ n.natAbs (Nat.le_refl _) b hb
    omega
  · rw [if_neg hn]
    obtain ⟨c, r, e, h1, h2⟩ := dec_cons n.toNat
    rw [e]
    refine ⟨c.toNat, r.map fun b => ((b.toNat : Nat) : Int), rfl, .inr ⟨by omega, by omega, by omega⟩, fun d hd => ?_⟩
    obtain ⟨b, hb, rfl⟩ := List.mem_map.1 hd
    have := dec_digits _ n.toNat (Nat.le_refl _) b (by rw [e]; exact List.mem_cons_of_mem _ hb)
    omega
theorem sym_first {s : ByteArray} (h : wordS false s = true) : 1 ≤ s.size ∧ smallI (bt s 0) = true ∧ (bytesOf s).all innerI = true := by
  unfold wordS at h
  simp only [Bool.and_eq_true, decide_eq_true_eq, Bool.false_eq_true, if_false] at h
  exact ⟨h.1.1.1, h.1.2, h.2⟩
theorem inner_quote (s : ByteArray) : innerL (quoteS s) = escS (bytesOf s) := by
  have hb := quoteL_byte (byteL_codes s)
  unfold innerL quoteS
  rw [codes_of_nums hb, nums_size]
  unfold quoteL
  simp
theorem quote_ne (s : ByteArray) : ¬ quoteS s = ⟨#[]⟩ := by
  intro h
  have := congrArg ByteArray.size h
  unfold quoteS at this
  rw [nums_size] at this
  unfold quoteL at this
  simp at this
  exact absurd this (by show ¬ _ = 0; omega)
theorem cand_text {k n : Int} {s : ByteArray} (h : valS k n s = true) : ¬ textS k n s = ⟨#[]⟩ ∧ candS (textS k n s) = some ⟨k, n, s⟩ := by
  unfold textS
  by_cases h1 : k = 1
  · subst h1
    obtain ⟨hb, rfl⟩ := valS_int h
    rw [if_pos rfl]
    obtain ⟨c, l, e, hc, _⟩ := itoa_codes n
    refine ⟨fun h => (by rw [h] at e; cases e), ?_⟩
    unfold candS
    rw [bt_zero e, if_neg (by omega), if_pos, atoi_itoa hb]
    rcases hc with ⟨_, rfl⟩ | ⟨_, h1, h2⟩
    · exact .inl rfl
    · exact .inr (decide_eq_true ⟨h1, h2⟩)
  · rw [if_neg h1]
    by_cases h2 : k = 2
    · subst h2
      obtain ⟨rfl, hw⟩ := valS_sym h
      obtain ⟨hs, hf, _⟩ := sym_first hw
      rw [if_pos rfl]
      refine ⟨fun h => (by rw [h] at hs; exact absurd hs (by decide)), ?_⟩
      unfold smallI at hf
      rw [decide_eq_true_eq] at hf
      unfold candS
      rw [if_neg (by omega), if_neg]
      rintro (h | h)
      · omega
      · unfold digitI at h; rw [decide_eq_true_eq] at h; omega
    · rw [if_neg h2]
      obtain ⟨rfl, rfl, hp, _⟩ := valS_str h h1 h2
      refine ⟨quote_ne s, ?_⟩
      unfold candS
      have e : bytesOf (quoteS s) = 34 :: (escS (bytesOf s) ++ [34]) := codes_of_nums (quoteL_byte (byteL_codes s))
      rw [bt_zero e, if_pos rfl, inner_quote, bare_esc, nums_codes]
theorem parse_text {v : S44} (h : valS v.f0 v.f1 v.f2 = true) : parseS (textS v.f0 v.f1 v.f2) = (v, 0) := by
  obtain ⟨h1, h2⟩ := cand_text h
  unfold parseS
  rw [if_neg h1, h2]
  show (if fitsS v _ = true then (v, (0 : Int)) else (zE, 7)) = _
  unfold fitsS
  rw [h, decide_eq_true rfl]
  rfl
theorem parse_fits {s : ByteArray} : (∃ v, parseS s = (v, 0) ∧ valS v.f0 v.f1 v.f2 = true ∧ textS v.f0 v.f1 v.f2 = s) ∨ parseS s = (zE, 7) := by
  unfold parseS
  split
  · exact .inr rfl
  · split
    · split
      · rename_i v _ hf
        unfold fitsS at hf
        simp only [Bool.and_eq_true, decide_eq_true_eq] at hf
        exact .inl ⟨v, rfl, hf.1, hf.2⟩
      · exact .inr rfl
    · exact .inr rfl
theorem text_inj {v w : S44} (hv : valS v.f0 v.f1 v.f2 = true) (hw : valS w.f0 w.f1 w.f2 = true) (h : textS v.f0 v.f1 v.f2 = textS w.f0 w.f1 w.f2) : v = w := by
  have h1 := parse_text hv
  rw [h, parse_text hw] at h1
  exact (congrArg Prod.fst h1).symm
theorem valS_size {k n : Int} {s : ByteArray} (h : valS k n s = true) : s.size ≤ 60 := by
  by_cases h1 : k = 1
  · subst h1
    obtain ⟨_, rfl⟩ := valS_int h
    decide
  · by_cases h2 : k = 2
    · subst h2
      obtain ⟨_, hw⟩ := valS_sym h
      unfold wordS at hw
      simp only [Bool.and_eq_true, decide_eq_true_eq] at hw
      omega
    · exact (valS_str h h1 h2).2.2.2
theorem text_size {k n : Int} {s : ByteArray} (h : valS k n s = true) : (textS k n s).size ≤ 200 := by
  have hs := valS_size h
  unfold textS
  split
  · subst k
    obtain ⟨hb, _⟩ := valS_int h
    rw [InB_iff] at hb
    have := Lib.itoa_length_le n (by omega) (by omega)
    show (Lib.itoa n).toArray.size ≤ 200
    rw [List.size_toArray]; omega
  · split
    · omega
    · unfold quoteS quoteL
      rw [nums_size]
      have := escS_len (bytesOf s)
      rw [len_codes] at this
      simp; omega
end Go.Proofs.YtaopajmpifenoaaDoor.P
end
section
namespace Go.Proofs.YtaopajmpifenoaaDoor.P
open Go.RowKit Go.Proofs.YtaopajmpifenoaaDoorW.PrintWords Go.Proofs.YtaopajmpifenoaaDoorW.PrintLast Go.Proofs.YtaopajmpifenoaaDoorW.PrintMore
def idxW (s : ByteArray) : Nat → List ByteArray → Int
  | _, [] => -1
  | i, x :: l => if x = s then (i : Int) else idxW s (i + 1) l
theorem idxW_any (s : ByteArray) : ∀ (l : List ByteArray) (i : Nat), decide (idxW s i l ≥ 0) = l.any fun x => decide (x = s)
  | [], i => by simp [idxW]
  | x :: l, i => by
    by_cases e : x = s
    · simp [idxW, e]
    · simp only [idxW, if_neg e, List.any_cons, decide_eq_false e, Bool.false_or]
      exact idxW_any s l (i + 1)
theorem contains_ev (l : List ByteArray) (s : ByteArray) (hl : l.length ≤ 1000) : Ev (fun k => slices_Contains_string_string.f k l s) (l.any fun x => decide (x = s)) := by
  have h : ∀ i : Nat, i ≤ l.length → Ev (fun k => slices_Index_string_string.l0 k l s l.length i) (idxW s i (l.drop i)) := by
    refine back_ind l.length (fun k i => slices_Index_string_string.l0 k l s l.length i) _ ?_ ?_
    · refine evShift ?_
      simp only [slices_Index_string_string.l0]
      refine evNeg (by omega) (evSome ?_)
      rw [List.drop_length]; rfl
    · intro i hi ih
      refine evShift ?_
      simp only [slices_Index_string_string.l0]
      refine evPos (by omega) (evPos (by omega) (evPos (by omega) ?_))
      rw [rdOf_nth _ l i hi, List.drop_eq_getElem_cons hi, wrap_succ hi (by omega)]
      simp only [idxW]
      refine evIf (fun e => ?_) (fun e => ?_)
      · rw [if_pos (tl_inj.1 e).symm]; exact evSome rfl
      · rw [if_neg (fun h => e (tl_inj.2 h.symm))]; exact ih
  have h0 := h 0 (by omega)
  unfold slices_Contains_string_string.f slices_Index_string_string.f
  refine Ev.bind h0 (evSome ?_)
  rw [idxW_any, List.drop_zero]
def wordsL : List ByteArray := [⟨#[102, 97, 99, 116]⟩, ⟨#[114, 117, 108, 101]⟩, ⟨#[112, 97, 116, 116, 101, 114, 110]⟩, ⟨#[110, 111, 116]⟩, ⟨#[97, 110, 100]⟩, ⟨#[111, 114]⟩, ⟨#[98, 101, 102, 111, 114, 101]⟩, ⟨#[111, 110, 99, 101]⟩, ⟨#[97, 108, 119, 97, 121, 115]⟩, ⟨#[115, 105, 110, 99, 101]⟩, ⟨#[100, 114, 111, 112]⟩]
def nameS (s : ByteArray) : Bool := wordS false s && !(wordsL.any fun x => decide (x = s))
theorem fact_Name_ev (s : ByteArray) (hs : s.size ≤ maxLen) : Ev (fun k => fact_Name.f k s) (nameS s) := by
  unfold fact_Name.f nameS
  have hv : valS 2 0 s = wordS false s := by
    unfold valS
    rw [if_neg (by decide), if_pos rfl]
    rfl
  have hc := val_Check_ev 2 0 s hs
  rw [hv] at hc
  refine Ev.bind hc ?_
  cases wordS false s with
  | false => exact evNeg (by decide) (evSome rfl)
  | true =>
    refine evPos rfl (Ev.bind (a := wordsL.any fun x => decide (x = s)) ?_ (evSome rfl))
    unfold fact_word.f
    exact Ev.bind (contains_ev wordsL s (by decide)) (evSome rfl)
theorem rdA_nth (l : List S44) (i : Nat) (h : i < l.length) : rd_T44 l i = l[i] := by simp [rd_T44, List.getD_eq_getElem?_getD, h]
theorem rdF_nth (l : List S24) (i : Nat) (h : i < l.length) : rd_T24 l i = l[i] := by simp [rd_T24, List.getD_eq_getElem?_getD, h]
def vS2 (v : S44) : Bool := valS v.f0 v.f1 v.f2
def factS (f : S24) : Bool := nameS f.f0 && (decide (f.f1.length ≤ 5) && f.f1.all vS2)
def FactOk (f : S24) : Prop := f.f0.size ≤ 200 ∧ f.f1.length ≤ 20 ∧ ∀ v ∈ f.f1, v.f2.size ≤ 200
def badI : Nat → List S44 → Int
  | _, [] => -1
  | i, v :: l => if vS2 v = true then badI (i + 1) l else (i : Int)
theorem badI_all : ∀ (l : List S44) (i : Nat), decide (badI i l ≥ 0) = !l.all vS2
  | [], i => by simp [badI]
  | v :: l, i => by
    by_cases e : vS2 v = true
    · simp only [badI, if_pos e, List.all_cons, e, Bool.true_and]
      exact badI_all l (i + 1)
    · simp [badI, e]
theorem bad_ev (l : List S44) (hl : l.length ≤ 1000) (ho : ∀ v ∈ l, v.f2.size ≤ 200) : Ev (fun k => api_Value_46.f k l) (!l.all vS2) := by
  have h : ∀ i : Nat, i ≤ l.length → Ev (fun k => api_Value_68.l0 k l l.length i) (badI i (l.drop i)) := by
    refine back_ind l.length (fun k i => api_Value_68.l0 k l l.length i) _ ?_ ?_
    · refine evShift ?_
      simp only [api_Value_68.l0]
      refine evNeg (by omega) (evSome ?_)
      rw [List.drop_length]; rfl
    · intro i hi ih
      have hsz : (l[i]).f2.size ≤ maxLen := Nat.le_trans (ho _ (List.getElem_mem hi)) (by decide)
      refine evShift ?_
      simp only [api_Value_68.l0, rdA_nth l i hi]
      refine evPos (by omega) (evPos (by omega) (evPos (by omega) ?_))
      rw [List.drop_eq_getElem_cons hi, wrap_succ hi (by omega)]
      simp only [badI]
      refine Ev.bind (a := !vS2 l[i]) ?_ ?_
      · unfold fact_Check_1.f
        refine Ev.bind (val_Check_ev _ _ _ hsz) (evSome ?_)
        unfold vS2
        cases valS (l[i]).f0 (l[i]).f1 (l[i]).f2 <;> rfl
      · cases e : vS2 l[i] with
        | true => exact evNeg (by decide) ih
        | false => exact evPos rfl (evSome rfl)
  have h0 := h 0 (by omega)
  unfold api_Value_46.f api_Value_68.f
  refine Ev.bind h0 (evSome ?_)
  rw [badI_all, List.drop_zero]
theorem fact_Check_ev (f : S24) (hf : FactOk f) : Ev (fun k => fact_Check.f k f.f0 f.f1) (if factS f then 0 else 1) := by
  obtain ⟨h1, h2, h3⟩ := hf
  unfold fact_Check.f factS
  refine Ev.bind (fact_Name_ev f.f0 (Nat.le_trans h1 (by decide))) ?_
  cases nameS f.f0 with
  | false => exact evNeg (by decide) (evSome rfl)
  | true =>
    refine evPos rfl (evIf (fun h => evSome ?_) (fun h => ?_))
    · rw [decide_eq_false (show ¬ f.f1.length ≤ 5 by omega)]; rfl
    · rw [decide_eq_true (show f.f1.length ≤ 5 by omega)]
      refine Ev.bind (bad_ev f.f1 (by omega) h3) ?_
      cases f.f1.all vS2 with
      | true => exact evNeg (by decide) (evSome rfl)
      | false => exact evPos rfl (evSome rfl)
def lexL {α : Type} (c : α → α → Int) : List α → List α → Int
  | [], [] => 0
  | [], _ :: _ => -1
  | _ :: _, [] => 1
  | x :: a, y :: b => lexI (c x y) (lexL c a b)
def cmpF (f g : S24) : Int := lexI (cmpB f.f0 g.f0) (lexI (cmpI f.f1.length g.f1.length) (lexL cmpV f.f1 g.f1))
theorem args_ev (a b : List S44) (ha : a.length ≤ 1000) : Ev (fun k => api_Value_42.f k a b) (lexL cmpV a b) := by
  have h : ∀ (d i : Nat), i + d = a.length → i ≤ b.length → Ev (fun k => api_Value_42.l0 k a b a a.length i) (lexL cmpV (a.drop i) (b.drop i)) := by
    intro d
    induction d with
    | zero =>
      intro i hi hb
      refine evShift ?_
      simp only [api_Value_42.l0]
      refine evNeg (by omega) ?_
      rw [List.drop_of_length_le (l := a) (by omega)]
      refine evIf (fun h => evSome ?_) (fun h => evSome ?_)
      · rw [List.drop_eq_getElem_cons (l := b) (show i < b.length by omega)]; rfl
      · rw [List.drop_of_length_le (l := b) (by omega)]; rfl
    | succ d ih =>
      intro i hi hb
      have hlt : i < a.length := by omega
      refine evShift ?_
      simp only [api_Value_42.l0, rdA_nth a i hlt]
      refine evPos (by omega) (evPos (by omega) (evPos (by omega) ?_))
      rw [List.drop_eq_getElem_cons hlt]
      by_cases h2 : i < b.length
      · refine evNeg (by omega) (evPos (by omega) ?_)
        rw [List.drop_eq_getElem_cons h2, rdA_nth b i h2, wrap_succ hlt (by omega)]
        refine Ev.bind (val_Compare_ev a[i] b[i]) ?_
        simp only [lexL, lexI]
        refine evIf (fun e => ?_) (fun e => evSome (by rw [if_neg e]))
        rw [if_pos e]
        exact ih (i + 1) (by omega) (by omega)
      · refine evPos (by omega) (evSome ?_)
        rw [List.drop_of_length_le (l := b) (by omega)]; rfl
  exact h a.length 0 (by omega) (by omega)
theorem fact_Compare_ev (f g : S24) (hf : f.f1.length ≤ 1000) : Ev (fun k => fact_Compare.f k f.f0 f.f1 g.f0 g.f1) (cmpF f g) := by
  unfold fact_Compare.f
  simp only [strings_Compare.f, cmp_Compare_eq, Option.bind_some]
  exact Ev.bind (args_ev f.f1 g.f1 hf) (Ev.bind (cmp_Or_ev _ _ _) (evSome rfl))
theorem facts_ev (a b : List S24) (ha : a.length ≤ 1000) (ho : ∀ f ∈ a, f.f1.length ≤ 1000) : Ev (fun k => fact_Lists.f k a b) (lexL cmpF a b) := by
  have h : ∀ (d i : Nat), i + d = a.length → i ≤ b.length → Ev (fun k => api_Fact.l0 k a b a a.length i) (lexL cmpF (a.drop i) (b.drop i)) := by
    intro d
    induction d with
    | zero =>
      intro i hi hb
      refine evShift ?_
      simp only [api_Fact.l0]
      refine evNeg (by omega) ?_
      rw [List.drop_of_length_le (l := a) (by omega)]
      refine evIf (fun h => evSome ?_) (fun h => evSome ?_)
      · rw [List.drop_eq_getElem_cons (l := b) (show i < b.length by omega)]; rfl
      · rw [List.drop_of_length_le (l := b) (by omega)]; rfl
    | succ d ih =>
      intro i hi hb
      have hlt : i < a.length := by omega
      refine evShift ?_
      simp only [api_Fact.l0, rdF_nth a i hlt]
      refine evPos (by omega) (evPos (by omega) (evPos (by omega) ?_))
      rw [List.drop_eq_getElem_cons hlt]
      by_cases h2 : i < b.length
      · refine evNeg (by omega) (evPos (by omega) ?_)
        rw [List.drop_eq_getElem_cons h2, rdF_nth b i h2, wrap_succ hlt (by omega)]
        refine Ev.bind (fact_Compare_ev a[i] b[i] (ho _ (List.getElem_mem hlt))) ?_
        simp only [lexL, lexI]
        refine evIf (fun e => ?_) (fun e => evSome (by rw [if_neg e]))
        rw [if_pos e]
        exact ih (i + 1) (by omega) (by omega)
      · refine evPos (by omega) (evSome ?_)
        rw [List.drop_of_length_le (l := b) (by omega)]; rfl
  unfold fact_Lists.f
  exact Ev.bind (h a.length 0 (by omega) (by omega)) (evSome rfl)
def mkB (l : List UInt8) : ByteArray := ⟨l.toArray⟩
theorem mkB_list (b : ByteArray) : mkB b.data.toList = b := by
  apply ByteArray.ext
  apply Array.toList_inj.1
  rfl
theorem mkB_data (l : List UInt8) : (mkB l).data.toList = l := rfl
theorem mkB_append (l m : List UInt8) : mkB l ++ mkB m = mkB (l ++ m) := by
  apply ByteArray.ext
  apply Array.toList_inj.1
  rw [ByteArray.data_append, Array.toList_append]
  rfl
theorem mkB_size (l : List UInt8) : (mkB l).size = l.length := by show l.toArray.size = _; rw [List.size_toArray]
def textV (v : S44) : ByteArray := textS v.f0 v.f1 v.f2
def textU (v : S44) : List UInt8 := (textV v).data.toList
def factU (f : S24) : List UInt8 := f.f0.data.toList ++ (if f.f1 = [] then [] else 40 :: (Lib.join (f.f1.map textU) [44, 32] ++ [41]))
theorem textU_len {v : S44} (h : vS2 v = true) : (textU v).length ≤ 200 := by
  have := text_size h
  unfold textU textV
  rw [Array.length_toList]
  exact this
theorem tail_len : ∀ l : List S44, l.all vS2 = true → (Lib.joinTail [44, 32] (l.map textU)).length ≤ 202 * l.length
  | [], _ => by simp [Lib.joinTail]
  | v :: l, h => by
    rw [List.all_cons, Bool.and_eq_true] at h
    have h1 := textU_len h.1
    have h2 := tail_len l h.2
    unfold Lib.joinTail at h2 ⊢
    simp only [List.map_cons, List.flatten_cons, List.length_append, List.length_cons, List.length_nil] at h2 ⊢
    omega
theorem join_len (l : List S44) (h : l.all vS2 = true) : (Lib.join (l.map textU) [44, 32]).length ≤ 202 * l.length := by
  cases l with
  | nil => simp [Lib.join_nil]
  | cons v l =>
    rw [List.all_cons, Bool.and_eq_true] at h
    have h1 := textU_len h.1
    have h2 := tail_len l h.2
    rw [List.map_cons, Lib.join_cons, List.length_append, List.length_cons]
    omega
theorem text_l0 (f : S24) (hf : FactOk f) (hs : factS f = true) : ∀ (d i : Nat) (x : List ByteArray), i + d = f.f1.length → x = (f.f1.take i).map textV →
    Ev (fun k => fact_Text.l0 k x f.f1 f.f1.length i f.f0 f.f1) (mkB (factU f), 0) := by
  obtain ⟨h1, h2, h3⟩ := hf
  have hall : f.f1.all vS2 = true := by
    unfold factS at hs
    simp only [Bool.and_eq_true] at hs
    exact hs.2.2
  intro d
  induction d with
  | zero =>
    intro i x hi hx
    rw [List.take_of_length_le (by omega)] at hx
    have hxl : x.length = f.f1.length := by rw [hx, List.length_map]
    refine evShift ?_
    simp only [fact_Text.l0]
    refine evNeg (by omega) (evIf (fun h => evSome ?_) (fun h => ?_))
    · unfold factU
      rw [if_pos (List.length_eq_zero_iff.1 (by omega)), List.append_nil, mkB_list]
    · have hne : ¬ f.f1 = [] := fun e => h (by rw [hxl, e]; rfl)
      have hj := join_len f.f1 hall
      have e1 : x.map (fun b => b.data.toList) = f.f1.map textU := by rw [hx, List.map_map]; rfl
      refine evPos (by omega) ?_
      simp only [strings_Join.f]
      rw [e1, if_pos ⟨by omega, by omega⟩]
      have q1 : (⟨#[40]⟩ : ByteArray) = mkB [40] := rfl
      have q2 : (⟨#[41]⟩ : ByteArray) = mkB [41] := rfl
      have q3 : (⟨(Lib.join (f.f1.map textU) [44, 32]).toArray⟩ : ByteArray) = mkB (Lib.join (f.f1.map textU) [44, 32]) := rfl
      have hn : f.f0.data.toList.length = f.f0.size := by rw [Array.length_toList]; rfl
      simp only [Option.bind_some]
      rw [q1, q2, q3, ← mkB_list f.f0]
      simp only [mkB_append, mkB_size, List.length_append, List.length_singleton, hn, mkB_data]
      refine evPos (by omega) (evPos (by omega) (evSome ?_))
      unfold factU
      rw [if_neg hne]
      simp
  | succ d ih =>
    intro i x hi hx
    have hlt : i < f.f1.length := by omega
    have hv : vS2 f.f1[i] = true := List.all_eq_true.1 hall _ (List.getElem_mem hlt)
    have ht := val_Text_ev (f.f1[i]).f0 (f.f1[i]).f1 (f.f1[i]).f2 (Nat.le_trans (h3 _ (List.getElem_mem hlt)) (by decide))
    have hv' : valS (f.f1[i]).f0 (f.f1[i]).f1 (f.f1[i]).f2 = true := hv
    rw [hv'] at ht
    have hxl : x.length = i := by rw [hx, List.length_map, List.length_take]; omega
    refine evShift ?_
    simp only [fact_Text.l0, rdA_nth f.f1 i hlt]
    refine evPos (by omega) (evPos (by omega) (evPos (by omega) (Ev.bind ht (evPos (by omega) ?_))))
    rw [wrap_succ hlt (by omega)]
    refine ih (i + 1) _ (by omega) ?_
    rw [hx, List.take_succ_eq_append_getElem hlt, List.map_append]
    rfl
theorem fact_Text_ev (f : S24) (hf : FactOk f) : Ev (fun k => fact_Text.f k f.f0 f.f1) (if factS f then (mkB (factU f), 0) else (⟨#[]⟩, 1)) := by
  unfold fact_Text.f
  refine Ev.bind (fact_Check_ev f hf) ?_
  cases h : factS f with
  | false => exact evNeg (by decide) (evSome rfl)
  | true =>
    refine evPos rfl ?_
    exact text_l0 f hf h f.f1.length 0 [] (by omega) rfl
end Go.Proofs.YtaopajmpifenoaaDoor.P
end
section
namespace Go.Proofs.YtaopajmpifenoaaDoor.P
open Go.RowKit Go.Proofs.YtaopajmpifenoaaDoorW.PrintWords Go.Proofs.YtaopajmpifenoaaDoorW.PrintLast Go.Proofs.YtaopajmpifenoaaDoorW.PrintMore
attribute [local go_sem] max2_int min2_int max_two min_two max_three min_three max_four min_four
set_option linter.unusedVariables false
set_option linter.unusedSimpArgs false
mutual
def constableref01_Number.j0 : Nat → ByteArray → Bool → Option (Int × Bool)
 | 0, _, _ => none
 | k + 1, x0, x4 => if x4 = true then (if 1 ≤ (x0.size : Int) then (constableref01_Number.j1 k (x0.extract 1 x0.size) x4) else (none)) else (constableref01_Number.j1 k x0 x4)
def constableref01_Number.j1 : Nat → ByteArray → Bool → Option (Int × Bool)
 | 0, _, _ => none
 | k + 1, x0, x4 => if (x0.size : Int) = 0 then (some (0, false)) else (constableref01_Number.l0 k x0 x4 0 false 0)
def constableref01_Number.l0 : Nat → ByteArray → Bool → Int → Bool → Int → Option (Int × Bool)
 | 0, _, _, _, _, _ => none
 | k + 1, x0, x4, x5, x6, x7 => if x7 < (x0.size : Int) then (if 0 ≤ x7 then ((constableref01_Digit.f (bt x0 x7)).bind fun t382 => (if t382 = true then (if x6 = true then (constableref01_Number.l0 k x0 x4 x5 true (wrap64 (x7 + 1))) else (if (x5 > ((4611686018427387904 - (((bt x0 x7) - 48) % 256)) / 10)) then (constableref01_Number.l0 k x0 x4 x5 (decide (x5 > ((4611686018427387904 - (((bt x0 x7) - 48) % 256)) / 10))) (wrap64 (x7 + 1))) else (constableref01_Number.l0 k x0 x4 (wrap64 ((wrap64 (10 * x5)) + (((bt x0 x7) - 48) % 256))) (decide (x5 > ((4611686018427387904 - (((bt x0 x7) - 48) % 256)) / 10))) (wrap64 (x7 + 1))))) else (some (0, false)))) else (none)) else (if x6 = true then (some (0, false)) else (if x4 = true then (some (wrap64 (-x5), true)) else (some (x5, true))))
end
def constableref01_Number.f (k : Nat) (a0 : ByteArray) : Option (Int × Bool) := if (a0.size : Int) > 0 then (if 0 < (a0.size : Int) then (constableref01_Number.j0 k a0 ((bt a0 0) == 45)) else (none)) else (constableref01_Number.j0 k a0 false)
theorem constableref01_Number.mono_l : ∀ k, (∀ y0 y1, LeO (constableref01_Number.j0 k y0 y1) (constableref01_Number.j0 (k + 1) y0 y1)) ∧ (∀ y0 y1, LeO (constableref01_Number.j1 k y0 y1) (constableref01_Number.j1 (k + 1) y0 y1)) ∧ (∀ y0 y1 y2 y3 y4, LeO (constableref01_Number.l0 k y0 y1 y2 y3 y4) (constableref01_Number.l0 (k + 1) y0 y1 y2 y3 y4))
 | 0 => ⟨fun _ _ r h => by simp [constableref01_Number.j0] at h, fun _ _ r h => by simp [constableref01_Number.j1] at h, fun _ _ _ _ _ r h => by simp [constableref01_Number.l0] at h⟩
 | k + 1 => by
  obtain ⟨ih0, ih1, ih2⟩ := constableref01_Number.mono_l k
  refine ⟨?_, ?_, ?_⟩
  ·intro y0 y1
   unfold constableref01_Number.j0
   repeat' first
   | (with_reducible exact ih0 _ _)
   | (with_reducible exact ih1 _ _)
   | (with_reducible exact ih2 _ _ _ _ _)
   | (with_reducible exact LeO.refl _)
   | (with_reducible exact LeO.none _)
   | (with_reducible refine LeO.ite ?_ ?_)
   | (with_reducible refine LeO.bind ?_ (fun _ => ?_))
   | exact ih0 _ _
   | exact ih1 _ _
   | exact ih2 _ _ _ _ _
   | exact LeO.none _
   | refine LeO.ite ?_ ?_
   | refine LeO.bind ?_ (fun _ => ?_)
  ·intro y0 y1
   unfold constableref01_Number.j1
   repeat' first
   | (with_reducible exact ih0 _ _)
   | (with_reducible exact ih1 _ _)
   | (with_reducible exact ih2 _ _ _ _ _)
   | (with_reducible exact LeO.refl _)
   | (with_reducible exact LeO.none _)
   | (with_reducible refine LeO.ite ?_ ?_)
   | (with_reducible refine LeO.bind ?_ (fun _ => ?_))
   | exact ih0 _ _
   | exact ih1 _ _
   | exact ih2 _ _ _ _ _
   | exact LeO.none _
   | refine LeO.ite ?_ ?_
   | refine LeO.bind ?_ (fun _ => ?_)
  ·intro y0 y1 y2 y3 y4
   unfold constableref01_Number.l0
   repeat' first
   | (with_reducible exact ih0 _ _)
   | (with_reducible exact ih1 _ _)
   | (with_reducible exact ih2 _ _ _ _ _)
   | (with_reducible exact LeO.refl _)
   | (with_reducible exact LeO.none _)
   | (with_reducible refine LeO.ite ?_ ?_)
   | (with_reducible refine LeO.bind ?_ (fun _ => ?_))
   | exact ih0 _ _
   | exact ih1 _ _
   | exact ih2 _ _ _ _ _
   | exact LeO.none _
   | refine LeO.ite ?_ ?_
   | refine LeO.bind ?_ (fun _ => ?_)
theorem constableref01_Number.mono : ∀ a0 k, LeO (constableref01_Number.f k a0) (constableref01_Number.f (k + 1) a0) := by
 intro a0 k
 obtain ⟨ih0, ih1, ih2⟩ := constableref01_Number.mono_l k
 unfold constableref01_Number.f
 repeat' first
   | (with_reducible exact ih0 _ _)
   | (with_reducible exact ih1 _ _)
   | (with_reducible exact ih2 _ _ _ _ _)
   | (with_reducible exact LeO.refl _)
   | (with_reducible exact LeO.none _)
   | (with_reducible refine LeO.ite ?_ ?_)
   | (with_reducible refine LeO.bind ?_ (fun _ => ?_))
   | exact ih0 _ _
   | exact ih1 _ _
   | exact ih2 _ _ _ _ _
   | exact LeO.none _
   | refine LeO.ite ?_ ?_
   | refine LeO.bind ?_ (fun _ => ?_)
set_option maxHeartbeats 8000000 in
set_option maxRecDepth 100000 in
theorem constableref01_Number.calls (k : Nat) (a0 : ByteArray) (r1 : Int) (r2 : Bool) (w : World) (h : constableref01_Number.f k a0 = some (r1, r2)) :
  Calls Tryd.prog 53 #[.string a0] w fun e w' => e = .returned (.tuple #[.int .i64 r1, .bool r2]) ∧ Drawn0 w w' := by
 have H : (if (a0.size : Int) > 0 then (if 0 < (a0.size : Int) then (constableref01_Number.j0 k a0 ((bt a0 0) == 45)) else (none)) else (constableref01_Number.j0 k a0 false)) = some (r1, r2) := h
 clear h
 have HC2 := Aside0.mk H
 clear H
 go_enter Tryd.func53, Tryd.ntmps53
 go_upto_region 1 with (fail)
 go_cut [4] (fun v4 wc => ∃ (kq : Nat) (x4_1 : Bool), v4 = .bool x4_1 ∧ Aside0 (constableref01_Number.j0 kq a0 x4_1 = some (r1, r2)) ∧ Aside0 (kq ≤ k) ∧ Drawn0 w wc)
 case first =>
  have H := HC2.out
  clear HC2
  by_cases c3 : (a0.size : Int) > 0
  ·rw [if_pos c3] at H
   have c3b0 : decide (0 < (a0.size : Int)) = true := decide_eq_true c3
   have c3b1 : decide (0 < a0.size) = true := decide_eq_true (by omega)
   clear c3
   (first | rw [c3b0] | (simp only [i64_w, i32_w]; rw [c3b0]) | skip)
   by_cases c4 : 0 < (a0.size : Int)
   ·rw [if_pos c4] at H
    have c4b0 : decide (0 < (a0.size : Int)) = true := decide_eq_true c4
    have c4b1 : decide (0 < a0.size) = true := decide_eq_true (by omega)
    clear c4
    have H' := Aside0.mk H
    clear H
    have p5 : 0 ≤ (0 : Int) := (by omega)
    have q5 : 0 < a0.size := (by have : (0 : Int) < (a0.size : Int) := dt_; omega)
    have hx5 : ∀ h : 0 < a0.size, ((a0[0]'h).toNat : Int) = bt a0 0 := bt_at a0 0
    clear p5
    have qi5 : (0 < (a0.size : Int)) = True := eq_true dt_
    replace q5 := eq_true q5
    go_wp2
    go_meet
    case rel => exact ⟨_, (((bt a0 0) == 45)), ra_, H', le_, dz_⟩
   ·rw [if_neg c4] at H
    exact absurd H (by simp)
  ·rw [if_neg c3] at H
   have c3b0 : decide (0 < (a0.size : Int)) = false := decide_eq_false c3
   have c3b1 : decide (0 < a0.size) = false := decide_eq_false (by omega)
   clear c3
   (first | rw [c3b0] | (simp only [i64_w, i32_w]; rw [c3b0]) | skip)
   have H' := Aside0.mk H
   clear H
   go_wp2
   go_meet
   case rel => exact ⟨_, (false), ra_, H', le_, dz_⟩
 case rest =>
  clear HC2
  try clear p2; try clear c3; try clear c3b0; try clear c3b1; try clear c4; try clear c4b0; try clear c4b1; try clear c5; try clear p5; try clear q5; try clear hx5; try clear qi5; try clear p5; try clear q5
  obtain ⟨kq, x4_1, rfl, HA, HJ1, ⟨mc1, rfl⟩⟩ := hcut
  cases kq with
  | zero => exact absurd HA.out (by simp [constableref01_Number.j0])
  | succ kj1 =>
   have H := HA.out
   clear HA
   simp only [constableref01_Number.j0] at H
   have HC6 := Aside0.mk H
   clear H
   go_upto_if 17 with (fail)
   go_cut [0] (fun v0 wc => ∃ (kq : Nat) (x0_5 : ByteArray), v0 = .string x0_5 ∧ Aside0 (constableref01_Number.j1 kq x0_5 x4_1 = some (r1, r2)) ∧ Aside0 (kq ≤ kj1) ∧ Drawn0 w wc)
   case first =>
    have H := HC6.out
    clear HC6
    by_cases c7 : x4_1 = true
    ·subst c7
     rw [if_pos rfl] at H
     by_cases c8 : 1 ≤ (a0.size : Int)
     ·rw [if_pos c8] at H
      have c8b0 := eq_true c8
      have c8b1 : decide (1 ≤ (a0.size : Int)) = true := decide_eq_true c8
      clear c8
      have H' := Aside0.mk H
      clear H
      go_wp2
      go_meet
      case rel => exact ⟨_, (a0.extract 1 a0.size), ra_, H', ⟨by have := HJ1.out; first | omega | exact Nat.le_refl _⟩, dz_⟩
     ·rw [if_neg c8] at H
      exact absurd H (by simp)
    ·replace c7 := Bool.eq_false_iff.mpr c7
     subst c7
     rw [if_neg (show ¬ (false = true) by decide)] at H
     have H' := Aside0.mk H
     clear H
     go_wp2
     go_meet
     case rel => exact ⟨_, (a0), ra_, H', ⟨by have := HJ1.out; first | omega | exact Nat.le_refl _⟩, dz_⟩
   case rest =>
    clear HC6
    try clear c1; try clear p2; try clear c3; try clear c3b0; try clear c3b1; try clear c4; try clear c4b0; try clear c4b1; try clear c5; try clear p5; try clear q5; try clear hx5; try clear qi5; try clear c7; try clear c8; try clear c8b0; try clear c8b1; try clear p2; try clear p5; try clear q5
    obtain ⟨kq, x0_5, rfl, HA, HJ5, ⟨mc5, rfl⟩⟩ := hcut
    cases kq with
    | zero => exact absurd HA.out (by simp [constableref01_Number.j1])
    | succ kj5 =>
     have H := HA.out
     clear HA
     simp only [constableref01_Number.j1] at H
     by_cases c9 : (x0_5.size : Int) = 0
     ·rw [if_pos c9] at H
      obtain ⟨c9b0, c9b1⟩ := eqB_ c9
      clear c9
      simp only [Option.some.injEq, Prod.mk.injEq] at H
      obtain ⟨rfl, rfl⟩ := H
      go_wp2
      go_ret2
      exact rz_
     ·rw [if_neg c9] at H
      obtain ⟨c9b0, c9b1⟩ := neB_ c9
      have H' := Aside0.mk H
      clear H
      go_wp2
      go_loopg [5, 6, 7] kj5 (fun kq v5 v6 v7 w' => ∃ (x5_3 : Int) (x6_3 : Bool) (x7_3 : Int), v5 = .int .i64 x5_3 ∧ v6 = .bool x6_3 ∧ v7 = .int .i64 x7_3 ∧ Aside0 (constableref01_Number.l0 kq x0_5 x4_1 x5_3 x6_3 x7_3 = some (r1, r2)) ∧ Aside0 (kq ≤ kj5) ∧ Drawn0 w w')
      case atStart => exact ⟨(0), (false), (0), ra_, ra_, ra_, H', ⟨Nat.le_refl _⟩, dz_⟩
      case round =>
       clear H'
       try clear c1; try clear p2; try clear c3; try clear c3b0; try clear c3b1; try clear c4; try clear c4b0; try clear c4b1; try clear c5; try clear p5; try clear q5; try clear hx5; try clear qi5; try clear c7; try clear c8; try clear c8b0; try clear c8b1; try clear c9; try clear c9b0; try clear c9b1; try clear p2; try clear p5; try clear q5
       obtain ⟨x5_3, x6_3, x7_3, rfl, rfl, rfl, HA, HK3, ⟨m3, rfl⟩⟩ := hrel
       cases gk with
       | zero => exact absurd HA.out (by simp [constableref01_Number.l0])
       | succ k3 =>
        have H := HA.out
        clear HA
        simp only [constableref01_Number.l0] at H
        by_cases c10 : x7_3 < (x0_5.size : Int)
        ·rw [if_pos c10] at H
         have c10b0 : decide (x7_3 < (x0_5.size : Int)) = true := decide_eq_true c10
         clear c10
         by_cases c11 : 0 ≤ x7_3
         ·rw [if_pos c11] at H
          have c11b0 : decide (0 ≤ x7_3) = true := decide_eq_true c11
          clear c11
          replace H := Option.bind_eq_some_iff.mp H
          obtain ⟨t382, A130, H⟩ := H
          try dsimp only at H
          have A13 := Aside0.mk A130
          clear A130
          by_cases c14 : t382 = true
          ·subst c14
           rw [if_pos rfl] at H
           by_cases c16 : x6_3 = true
           ·subst c16
            rw [if_pos rfl] at H
            have H' := Aside0.mk H
            clear H
            have p12 : 0 ≤ (x7_3 : Int) := dt_
            have q12 : x7_3 < (x0_5.size : Int) := dt_
            have hx12 := bt_at x0_5 x7_3
            replace p12 := eq_true p12
            replace q12 := eq_true q12
            go_wp2_with (first | ((with_reducible refine gate_callee (f := 72) rfl ?_); refine goesL_ (some 32) rfl rfl Tryd.func72 (by kernel_rfl) rfl #[.int .u8 (bt x0_5 x7_3)] rfl ga_ ?_; (with_reducible refine (constableref01_Digit.calls (bt x0_5 x7_3) true _ A13.out).mono ?_); rintro e w' ⟨rfl, ⟨nd, rfl⟩⟩; refine ⟨_, rfl, ?_⟩; have p15 : 0 ≤ (x7_3 : Int) := dt_; have q15 : x7_3 < (x0_5.size : Int) := dt_; have hx15 := bt_at x0_5 x7_3; replace p15 := eq_true p15; replace q15 := eq_true q15))
            go_roundg k3
            case measure => have := HJ1.out; have := HJ5.out; have := HK3.out; omega
            case rel => exact ⟨(x5_3), (true), (wrap64 (x7_3 + 1)), ra_, ra_, ra_, H', ⟨by have := HJ1.out; have := HJ5.out; have := HK3.out; omega⟩, dz_⟩
           ·replace c16 := Bool.eq_false_iff.mpr c16
            subst c16
            rw [if_neg (show ¬ (false = true) by decide)] at H
            by_cases c17 : (x5_3 > ((4611686018427387904 - (((bt x0_5 x7_3) - 48) % 256)) / 10))
            ·rw [if_pos c17] at H
             have c17b0 : decide (((4611686018427387904 - (((bt x0_5 x7_3) - 48) % 256)) / 10) < x5_3) = true := decide_eq_true c17
             clear c17
             have H' := Aside0.mk H
             clear H
             have p12 : 0 ≤ (x7_3 : Int) := dt_
             have q12 : x7_3 < (x0_5.size : Int) := dt_
             have hx12 := bt_at x0_5 x7_3
             replace p12 := eq_true p12
             replace q12 := eq_true q12
             go_wp2_with (first | ((with_reducible refine gate_callee (f := 72) rfl ?_); refine goesL_ (some 32) rfl rfl Tryd.func72 (by kernel_rfl) rfl #[.int .u8 (bt x0_5 x7_3)] rfl ga_ ?_; (with_reducible refine (constableref01_Digit.calls (bt x0_5 x7_3) true _ A13.out).mono ?_); rintro e w' ⟨rfl, ⟨nd, rfl⟩⟩; refine ⟨_, rfl, ?_⟩; have p15 : 0 ≤ (x7_3 : Int) := dt_; have q15 : x7_3 < (x0_5.size : Int) := dt_; have hx15 := bt_at x0_5 x7_3; replace p15 := eq_true p15; replace q15 := eq_true q15))
             go_roundg k3
             case measure => have := HJ1.out; have := HJ5.out; have := HK3.out; omega
             case rel => exact ⟨(x5_3), (decide (x5_3 > ((4611686018427387904 - (((bt x0_5 x7_3) - 48) % 256)) / 10))), (wrap64 (x7_3 + 1)), ra_, ra_, ra_, H', ⟨by have := HJ1.out; have := HJ5.out; have := HK3.out; omega⟩, dz_⟩
            ·rw [if_neg c17] at H
             have c17b0 : decide (((4611686018427387904 - (((bt x0_5 x7_3) - 48) % 256)) / 10) < x5_3) = false := decide_eq_false c17
             clear c17
             have H' := Aside0.mk H
             clear H
             have p12 : 0 ≤ (x7_3 : Int) := dt_
             have q12 : x7_3 < (x0_5.size : Int) := dt_
             have hx12 := bt_at x0_5 x7_3
             replace p12 := eq_true p12
             replace q12 := eq_true q12
             go_wp2_with (first | ((with_reducible refine gate_callee (f := 72) rfl ?_); refine goesL_ (some 32) rfl rfl Tryd.func72 (by kernel_rfl) rfl #[.int .u8 (bt x0_5 x7_3)] rfl ga_ ?_; (with_reducible refine (constableref01_Digit.calls (bt x0_5 x7_3) true _ A13.out).mono ?_); rintro e w' ⟨rfl, ⟨nd, rfl⟩⟩; refine ⟨_, rfl, ?_⟩; have p15 : 0 ≤ (x7_3 : Int) := dt_; have q15 : x7_3 < (x0_5.size : Int) := dt_; have hx15 := bt_at x0_5 x7_3; replace p15 := eq_true p15; replace q15 := eq_true q15))
             go_roundg k3
             case measure => have := HJ1.out; have := HJ5.out; have := HK3.out; omega
             case rel => exact ⟨(wrap64 ((wrap64 (10 * x5_3)) + (((bt x0_5 x7_3) - 48) % 256))), (decide (x5_3 > ((4611686018427387904 - (((bt x0_5 x7_3) - 48) % 256)) / 10))), (wrap64 (x7_3 + 1)), ra_, ra_, ra_, H', ⟨by have := HJ1.out; have := HJ5.out; have := HK3.out; omega⟩, dz_⟩
          ·replace c14 := Bool.eq_false_iff.mpr c14
           subst c14
           rw [if_neg (show ¬ (false = true) by decide)] at H
           simp only [Option.some.injEq, Prod.mk.injEq] at H
           obtain ⟨rfl, rfl⟩ := H
           have p12 : 0 ≤ (x7_3 : Int) := dt_
           have q12 : x7_3 < (x0_5.size : Int) := dt_
           have hx12 := bt_at x0_5 x7_3
           replace p12 := eq_true p12
           replace q12 := eq_true q12
           go_wp2_with (first | ((with_reducible refine gate_callee (f := 72) rfl ?_); refine goesL_ (some 32) rfl rfl Tryd.func72 (by kernel_rfl) rfl #[.int .u8 (bt x0_5 x7_3)] rfl ga_ ?_; (with_reducible refine (constableref01_Digit.calls (bt x0_5 x7_3) false _ A13.out).mono ?_); rintro e w' ⟨rfl, ⟨nd, rfl⟩⟩; refine ⟨_, rfl, ?_⟩))
           go_ret2
           exact rz_
         ·rw [if_neg c11] at H
          exact absurd H (by simp)
        ·rw [if_neg c10] at H
         have c10b0 : decide (x7_3 < (x0_5.size : Int)) = false := decide_eq_false c10
         clear c10
         by_cases c18 : x6_3 = true
         ·subst c18
          rw [if_pos rfl] at H
          simp only [Option.some.injEq, Prod.mk.injEq] at H
          obtain ⟨rfl, rfl⟩ := H
          go_wp2
          go_ret2
          exact rz_
         ·replace c18 := Bool.eq_false_iff.mpr c18
          subst c18
          rw [if_neg (show ¬ (false = true) by decide)] at H
          by_cases c19 : x4_1 = true
          ·subst c19
           rw [if_pos rfl] at H
           simp only [Option.some.injEq, Prod.mk.injEq] at H
           obtain ⟨rfl, rfl⟩ := H
           go_wp2
           go_ret2
           exact rz_
          ·replace c19 := Bool.eq_false_iff.mpr c19
           subst c19
           rw [if_neg (show ¬ (false = true) by decide)] at H
           simp only [Option.some.injEq, Prod.mk.injEq] at H
           obtain ⟨rfl, rfl⟩ := H
           go_wp2
           go_ret2
           exact rz_
end Go.Proofs.YtaopajmpifenoaaDoor.P
end
section
namespace Go.Proofs.YtaopajmpifenoaaDoor.P
open Go.RowKit Go.Proofs.YtaopajmpifenoaaDoorW.PrintWords Go.Proofs.YtaopajmpifenoaaDoorW.PrintLast Go.Proofs.YtaopajmpifenoaaDoorW.PrintMore
attribute [local go_sem] max2_int min2_int max_two min_two max_three min_three max_four min_four
set_option linter.unusedVariables false
set_option linter.unusedSimpArgs false
mutual
def constableref01_Quoted.j0 : Nat → ByteArray → Bool → Option (ByteArray × Bool)
 | 0, _, _ => none
 | k + 1, x0, x13 => if x13 = true then (some ((⟨#[]⟩ : ByteArray), false)) else (constableref01_Quoted.l0 k x0 (⟨#[]⟩ : ByteArray) 1)
def constableref01_Quoted.l0 : Nat → ByteArray → ByteArray → Int → Option (ByteArray × Bool)
 | 0, _, _, _ => none
 | k + 1, x0, x4, x5 => if x5 < (x0.size : Int) then (if 0 ≤ x5 then (if (bt x0 x5) = 34 then (if x5 = (wrap64 ((x0.size : Int) - 1)) then (some (x4, decide ((x4.size : Int) ≤ 60))) else (some (x4, false))) else (if (bt x0 x5) = 92 then (if (wrap64 (x5 + 1)) ≥ (x0.size : Int) then (some ((⟨#[]⟩ : ByteArray), false)) else (if 0 ≤ (wrap64 (x5 + 1)) then (if (wrap64 (x5 + 1)) < (x0.size : Int) then (if (bt x0 (wrap64 (x5 + 1))) = 34 then (if (wrap64 (x5 + 1)) ≤ (wrap64 ((wrap64 (x5 + 1)) + 1)) then (if (wrap64 ((wrap64 (x5 + 1)) + 1)) ≤ (x0.size : Int) then (if x4.size + (x0.extract ((wrap64 (x5 + 1)) : Int).toNat ((wrap64 ((wrap64 (x5 + 1)) + 1)) : Int).toNat).size ≤ 9223372036854775807 then (constableref01_Quoted.l0 k x0 (x4 ++ (x0.extract ((wrap64 (x5 + 1)) : Int).toNat ((wrap64 ((wrap64 (x5 + 1)) + 1)) : Int).toNat)) (wrap64 ((wrap64 (x5 + 1)) + 1))) else (none)) else (none)) else (none)) else (if (bt x0 (wrap64 (x5 + 1))) = 92 then (if (wrap64 (x5 + 1)) ≤ (wrap64 ((wrap64 (x5 + 1)) + 1)) then (if (wrap64 ((wrap64 (x5 + 1)) + 1)) ≤ (x0.size : Int) then (if x4.size + (x0.extract ((wrap64 (x5 + 1)) : Int).toNat ((wrap64 ((wrap64 (x5 + 1)) + 1)) : Int).toNat).size ≤ 9223372036854775807 then (constableref01_Quoted.l0 k x0 (x4 ++ (x0.extract ((wrap64 (x5 + 1)) : Int).toNat ((wrap64 ((wrap64 (x5 + 1)) + 1)) : Int).toNat)) (wrap64 ((wrap64 (x5 + 1)) + 1))) else (none)) else (none)) else (none)) else (some ((⟨#[]⟩ : ByteArray), false)))) else (none)) else (none))) else ((constableref01_In.f (wrap64 (bt x0 x5)) 32 126).bind fun t383 => (if t383 = true then (if x5 ≤ (wrap64 (x5 + 1)) then (if (wrap64 (x5 + 1)) ≤ (x0.size : Int) then (if x4.size + (x0.extract (x5 : Int).toNat ((wrap64 (x5 + 1)) : Int).toNat).size ≤ 9223372036854775807 then (constableref01_Quoted.l0 k x0 (x4 ++ (x0.extract (x5 : Int).toNat ((wrap64 (x5 + 1)) : Int).toNat)) (wrap64 (x5 + 1))) else (none)) else (none)) else (none)) else (some ((⟨#[]⟩ : ByteArray), false)))))) else (none)) else (some ((⟨#[]⟩ : ByteArray), false))
end
def constableref01_Quoted.f (k : Nat) (a0 : ByteArray) : Option (ByteArray × Bool) := if (a0.size : Int) < 2 then (constableref01_Quoted.j0 k a0 true) else (if 0 < (a0.size : Int) then (constableref01_Quoted.j0 k a0 ((bt a0 0) != 34)) else (none))
theorem constableref01_Quoted.mono_l : ∀ k, (∀ y0 y1, LeO (constableref01_Quoted.j0 k y0 y1) (constableref01_Quoted.j0 (k + 1) y0 y1)) ∧ (∀ y0 y1 y2, LeO (constableref01_Quoted.l0 k y0 y1 y2) (constableref01_Quoted.l0 (k + 1) y0 y1 y2))
 | 0 => ⟨fun _ _ r h => by simp [constableref01_Quoted.j0] at h, fun _ _ _ r h => by simp [constableref01_Quoted.l0] at h⟩
 | k + 1 => by
  obtain ⟨ih0, ih1⟩ := constableref01_Quoted.mono_l k
  refine ⟨?_, ?_⟩
  ·intro y0 y1
   unfold constableref01_Quoted.j0
   repeat' first
   | (with_reducible exact ih0 _ _)
   | (with_reducible exact ih1 _ _ _)
   | (with_reducible exact LeO.refl _)
   | (with_reducible exact LeO.none _)
   | (with_reducible refine LeO.ite ?_ ?_)
   | (with_reducible refine LeO.bind ?_ (fun _ => ?_))
   | exact ih0 _ _
   | exact ih1 _ _ _
   | exact LeO.none _
   | refine LeO.ite ?_ ?_
   | refine LeO.bind ?_ (fun _ => ?_)
  ·intro y0 y1 y2
   unfold constableref01_Quoted.l0
   repeat' first
   | (with_reducible exact ih0 _ _)
   | (with_reducible exact ih1 _ _ _)
   | (with_reducible exact LeO.refl _)
   | (with_reducible exact LeO.none _)
   | (with_reducible refine LeO.ite ?_ ?_)
   | (with_reducible refine LeO.bind ?_ (fun _ => ?_))
   | exact ih0 _ _
   | exact ih1 _ _ _
   | exact LeO.none _
   | refine LeO.ite ?_ ?_
   | refine LeO.bind ?_ (fun _ => ?_)
theorem constableref01_Quoted.mono : ∀ a0 k, LeO (constableref01_Quoted.f k a0) (constableref01_Quoted.f (k + 1) a0) := by
 intro a0 k
 obtain ⟨ih0, ih1⟩ := constableref01_Quoted.mono_l k
 unfold constableref01_Quoted.f
 repeat' first
   | (with_reducible exact ih0 _ _)
   | (with_reducible exact ih1 _ _ _)
   | (with_reducible exact LeO.refl _)
   | (with_reducible exact LeO.none _)
   | (with_reducible refine LeO.ite ?_ ?_)
   | (with_reducible refine LeO.bind ?_ (fun _ => ?_))
   | exact ih0 _ _
   | exact ih1 _ _ _
   | exact LeO.none _
   | refine LeO.ite ?_ ?_
   | refine LeO.bind ?_ (fun _ => ?_)
set_option maxHeartbeats 8000000 in
set_option maxRecDepth 100000 in
theorem constableref01_Quoted.calls (k : Nat) (a0 : ByteArray) (r1 : ByteArray) (r2 : Bool) (w : World) (h : constableref01_Quoted.f k a0 = some (r1, r2)) :
  Calls Tryd.prog 54 #[.string a0] w fun e w' => e = .returned (.tuple #[.string r1, .bool r2]) ∧ Drawn0 w w' := by
 have H : (if (a0.size : Int) < 2 then (constableref01_Quoted.j0 k a0 true) else (if 0 < (a0.size : Int) then (constableref01_Quoted.j0 k a0 ((bt a0 0) != 34)) else (none))) = some (r1, r2) := h
 clear h
 have HC2 := Aside0.mk H
 clear H
 go_enter Tryd.func54, Tryd.ntmps54
 go_upto_region 1 with (fail)
 go_cut [13] (fun v13 wc => ∃ (kq : Nat) (x13_1 : Bool), v13 = .bool x13_1 ∧ Aside0 (constableref01_Quoted.j0 kq a0 x13_1 = some (r1, r2)) ∧ Aside0 (kq ≤ k) ∧ Drawn0 w wc)
 case first =>
  have H := HC2.out
  clear HC2
  by_cases c3 : (a0.size : Int) < 2
  ·rw [if_pos c3] at H
   have c3b0 : decide ((a0.size : Int) < 2) = true := decide_eq_true c3
   have c3b1 : decide (a0.size < 2) = true := decide_eq_true (by omega)
   clear c3
   (first | rw [c3b0] | (simp only [i64_w, i32_w]; rw [c3b0]) | skip)
   have H' := Aside0.mk H
   clear H
   go_wp2
   go_meet
   case rel => exact ⟨_, (true), ra_, H', le_, dz_⟩
  ·rw [if_neg c3] at H
   have c3b0 : decide ((a0.size : Int) < 2) = false := decide_eq_false c3
   have c3b1 : decide (a0.size < 2) = false := decide_eq_false (by omega)
   clear c3
   (first | rw [c3b0] | (simp only [i64_w, i32_w]; rw [c3b0]) | skip)
   by_cases c4 : 0 < (a0.size : Int)
   ·rw [if_pos c4] at H
    have c4b0 : decide (0 < (a0.size : Int)) = true := decide_eq_true c4
    have c4b1 : decide (0 < a0.size) = true := decide_eq_true (by omega)
    clear c4
    have H' := Aside0.mk H
    clear H
    have p5 : 0 ≤ (0 : Int) := (by omega)
    have q5 : 0 < a0.size := (by have : (0 : Int) < (a0.size : Int) := dt_; omega)
    have hx5 : ∀ h : 0 < a0.size, ((a0[0]'h).toNat : Int) = bt a0 0 := bt_at a0 0
    clear p5
    have qi5 : (0 < (a0.size : Int)) = True := eq_true dt_
    replace q5 := eq_true q5
    go_wp2
    go_meet
    case rel => exact ⟨_, (((bt a0 0) != 34)), ra_, H', le_, dz_⟩
   ·rw [if_neg c4] at H
    exact absurd H (by simp)
 case rest =>
  clear HC2
  try clear p2; try clear c3; try clear c3b0; try clear c3b1; try clear c4; try clear c4b0; try clear c4b1; try clear c5; try clear p5; try clear q5; try clear hx5; try clear qi5; try clear p5; try clear q5
  obtain ⟨kq, x13_1, rfl, HA, HJ1, ⟨mc1, rfl⟩⟩ := hcut
  cases kq with
  | zero => exact absurd HA.out (by simp [constableref01_Quoted.j0])
  | succ kj1 =>
   have H := HA.out
   clear HA
   simp only [constableref01_Quoted.j0] at H
   by_cases c6 : x13_1 = true
   ·subst c6
    rw [if_pos rfl] at H
    simp only [Option.some.injEq, Prod.mk.injEq] at H
    obtain ⟨rfl, rfl⟩ := H
    go_wp2
    go_ret2
    exact rz_
   ·replace c6 := Bool.eq_false_iff.mpr c6
    subst c6
    rw [if_neg (show ¬ (false = true) by decide)] at H
    have H' := Aside0.mk H
    clear H
    go_wp2
    go_loopg [4, 5] kj1 (fun kq v4 v5 w' => ∃ (x4_2 : ByteArray) (x5_2 : Int), v4 = .string x4_2 ∧ v5 = .int .i64 x5_2 ∧ Aside0 (constableref01_Quoted.l0 kq a0 x4_2 x5_2 = some (r1, r2)) ∧ Aside0 (kq ≤ kj1) ∧ Drawn0 w w')
    case atStart => exact ⟨((⟨#[]⟩ : ByteArray)), (1), ra_, ra_, H', ⟨Nat.le_refl _⟩, dz_⟩
    case round =>
     clear H'
     try clear c1; try clear p2; try clear c3; try clear c3b0; try clear c3b1; try clear c4; try clear c4b0; try clear c4b1; try clear c5; try clear p5; try clear q5; try clear hx5; try clear qi5; try clear c6; try clear p2; try clear p5; try clear q5
     obtain ⟨x4_2, x5_2, rfl, rfl, HA, HK2, ⟨m2, rfl⟩⟩ := hrel
     cases gk with
     | zero => exact absurd HA.out (by simp [constableref01_Quoted.l0])
     | succ k2 =>
      have H := HA.out
      clear HA
      simp only [constableref01_Quoted.l0] at H
      by_cases c7 : x5_2 < (a0.size : Int)
      ·rw [if_pos c7] at H
       have c7b0 : decide (x5_2 < (a0.size : Int)) = true := decide_eq_true c7
       clear c7
       by_cases c8 : 0 ≤ x5_2
       ·rw [if_pos c8] at H
        have c8b0 : decide (0 ≤ x5_2) = true := decide_eq_true c8
        clear c8
        by_cases c10 : (bt a0 x5_2) = 34
        ·rw [if_pos c10] at H
         obtain ⟨c10b0, c10b1⟩ := eqB_ c10
         clear c10
         by_cases c11 : x5_2 = (wrap64 ((a0.size : Int) - 1))
         ·rw [if_pos c11] at H
          obtain ⟨c11b0, c11b1⟩ := eqB_ c11
          clear c11
          simp only [Option.some.injEq, Prod.mk.injEq] at H
          obtain ⟨rfl, rfl⟩ := H
          have p9 : 0 ≤ (x5_2 : Int) := dt_
          have q9 : x5_2 < (a0.size : Int) := dt_
          have hx9 := bt_at a0 x5_2
          replace p9 := eq_true p9
          replace q9 := eq_true q9
          go_wp2
          go_ret2
          exact rz_
         ·rw [if_neg c11] at H
          obtain ⟨c11b0, c11b1⟩ := neB_ c11
          simp only [Option.some.injEq, Prod.mk.injEq] at H
          obtain ⟨rfl, rfl⟩ := H
          have p9 : 0 ≤ (x5_2 : Int) := dt_
          have q9 : x5_2 < (a0.size : Int) := dt_
          have hx9 := bt_at a0 x5_2
          replace p9 := eq_true p9
          replace q9 := eq_true q9
          go_wp2
          go_ret2
          exact rz_
        ·rw [if_neg c10] at H
         obtain ⟨c10b0, c10b1⟩ := neB_ c10
         by_cases c13 : (bt a0 x5_2) = 92
         ·rw [if_pos c13] at H
          obtain ⟨c13b0, c13b1⟩ := eqB_ c13
          clear c13
          by_cases c14 : (wrap64 (x5_2 + 1)) ≥ (a0.size : Int)
          ·rw [if_pos c14] at H
           have c14b0 : decide ((a0.size : Int) ≤ (wrap64 (x5_2 + 1))) = true := decide_eq_true c14
           clear c14
           simp only [Option.some.injEq, Prod.mk.injEq] at H
           obtain ⟨rfl, rfl⟩ := H
           have p9 : 0 ≤ (x5_2 : Int) := dt_
           have q9 : x5_2 < (a0.size : Int) := dt_
           have hx9 := bt_at a0 x5_2
           replace p9 := eq_true p9
           replace q9 := eq_true q9
           have p12 : 0 ≤ (x5_2 : Int) := dt_
           have q12 : x5_2 < (a0.size : Int) := dt_
           have hx12 := bt_at a0 x5_2
           replace p12 := eq_true p12
           replace q12 := eq_true q12
           go_wp2
           go_ret2
           exact rz_
          ·rw [if_neg c14] at H
           have c14b0 : decide ((a0.size : Int) ≤ (wrap64 (x5_2 + 1))) = false := decide_eq_false c14
           clear c14
           obtain ⟨ji15, hji15⟩ : ∃ j_ : Int, (wrap64 (x5_2 + 1)) = j_ := ⟨_, rfl⟩
           replace H : (if 0 ≤ (ji15) then (if (ji15) < (a0.size : Int) then (if (bt a0 (ji15)) = 34 then (if (ji15) ≤ (wrap64 ((ji15) + 1)) then (if (wrap64 ((ji15) + 1)) ≤ (a0.size : Int) then (if x4_2.size + (a0.extract ((ji15) : Int).toNat ((wrap64 ((ji15) + 1)) : Int).toNat).size ≤ 9223372036854775807 then (constableref01_Quoted.l0 k2 a0 (x4_2 ++ (a0.extract ((ji15) : Int).toNat ((wrap64 ((ji15) + 1)) : Int).toNat)) (wrap64 ((ji15) + 1))) else (none)) else (none)) else (none)) else (if (bt a0 (ji15)) = 92 then (if (ji15) ≤ (wrap64 ((ji15) + 1)) then (if (wrap64 ((ji15) + 1)) ≤ (a0.size : Int) then (if x4_2.size + (a0.extract ((ji15) : Int).toNat ((wrap64 ((ji15) + 1)) : Int).toNat).size ≤ 9223372036854775807 then (constableref01_Quoted.l0 k2 a0 (x4_2 ++ (a0.extract ((ji15) : Int).toNat ((wrap64 ((ji15) + 1)) : Int).toNat)) (wrap64 ((ji15) + 1))) else (none)) else (none)) else (none)) else (some ((⟨#[]⟩ : ByteArray), false)))) else (none)) else (none)) = some (r1, r2) := by first | (rw [hji15] at H; exact H) | (simp only [hji15] at H ⊢; exact H)
           (try rw [hji15] at c14b0)
           have hji15w : (IntKind.i64.wrap (x5_2 + 1)) = ji15 := (i64_w _).trans hji15
           by_cases c16 : 0 ≤ (ji15)
           ·rw [if_pos c16] at H
            have c16b0 : decide (0 ≤ (ji15)) = true := decide_eq_true c16
            clear c16
            by_cases c17 : (ji15) < (a0.size : Int)
            ·rw [if_pos c17] at H
             have c17b0 : decide ((ji15) < (a0.size : Int)) = true := decide_eq_true c17
             clear c17
             by_cases c19 : (bt a0 (ji15)) = 34
             ·rw [if_pos c19] at H
              obtain ⟨c19b0, c19b1⟩ := eqB_ c19
              clear c19
              have c20b0 := eq_true (of_decide_eq_true (by first | (with_reducible assumption) | assumption) : 0 ≤ (ji15))
              by_cases c21 : (ji15) ≤ (wrap64 ((ji15) + 1))
              ·rw [if_pos c21] at H
               have c21b0 := eq_true c21
               have c21b1 : decide ((ji15) ≤ (wrap64 ((ji15) + 1))) = true := decide_eq_true c21
               by_cases c22 : (wrap64 ((ji15) + 1)) ≤ (a0.size : Int)
               ·rw [if_pos c22] at H
                have c22b0 := eq_true c22
                have c22b1 : decide ((wrap64 ((ji15) + 1)) ≤ (a0.size : Int)) = true := decide_eq_true c22
                by_cases c23 : x4_2.size + (a0.extract ((ji15) : Int).toNat ((wrap64 ((ji15) + 1)) : Int).toNat).size ≤ 9223372036854775807
                ·rw [if_pos c23] at H
                 have c23b0 := eq_true c23
                 have c23b1 : decide (x4_2.size + (a0.extract ((ji15) : Int).toNat ((wrap64 ((ji15) + 1)) : Int).toNat).size ≤ 9223372036854775807) = true := decide_eq_true c23
                 try have c23b2 : (9223372036854775807 < x4_2.size + (a0.extract ((ji15) : Int).toNat ((wrap64 ((ji15) + 1)) : Int).toNat).size) = False := eq_false (Nat.not_lt.2 c23)
                 have H' := Aside0.mk H
                 clear H
                 have p9 : 0 ≤ (x5_2 : Int) := dt_
                 have q9 : x5_2 < (a0.size : Int) := dt_
                 have hx9 := bt_at a0 x5_2
                 replace p9 := eq_true p9
                 replace q9 := eq_true q9
                 have p12 : 0 ≤ (x5_2 : Int) := dt_
                 have q12 : x5_2 < (a0.size : Int) := dt_
                 have hx12 := bt_at a0 x5_2
                 replace p12 := eq_true p12
                 replace q12 := eq_true q12
                 have p18 : 0 ≤ ((ji15) : Int) := dt_
                 have q18 : (ji15) < (a0.size : Int) := dt_
                 have hx18 := bt_at a0 (ji15)
                 replace p18 := eq_true p18
                 replace q18 := eq_true q18
                 go_wp2
                 go_roundg k2
                 case measure => have := HJ1.out; have := HK2.out; omega
                 case rel => exact ⟨(x4_2 ++ (a0.extract ((ji15) : Int).toNat ((wrap64 ((ji15) + 1)) : Int).toNat)), (wrap64 ((ji15) + 1)), (by first | rfl | (simp; done) | (simp only [← hji15] <;> (first | rfl | simp)) | (simp [*]; done)), (by first | rfl | (simp; done) | (simp only [← hji15] <;> (first | rfl | simp)) | (simp [*]; done)), H', ⟨by have := HJ1.out; have := HK2.out; omega⟩, dz_⟩
                ·rw [if_neg c23] at H
                 exact absurd H (by simp)
               ·rw [if_neg c22] at H
                exact absurd H (by simp)
              ·rw [if_neg c21] at H
               exact absurd H (by simp)
             ·rw [if_neg c19] at H
              obtain ⟨c19b0, c19b1⟩ := neB_ c19
              by_cases c25 : (bt a0 (ji15)) = 92
              ·rw [if_pos c25] at H
               obtain ⟨c25b0, c25b1⟩ := eqB_ c25
               clear c25
               have c26b0 := eq_true (of_decide_eq_true (by first | (with_reducible assumption) | assumption) : 0 ≤ (ji15))
               by_cases c27 : (ji15) ≤ (wrap64 ((ji15) + 1))
               ·rw [if_pos c27] at H
                have c27b0 := eq_true c27
                have c27b1 : decide ((ji15) ≤ (wrap64 ((ji15) + 1))) = true := decide_eq_true c27
                by_cases c28 : (wrap64 ((ji15) + 1)) ≤ (a0.size : Int)
                ·rw [if_pos c28] at H
                 have c28b0 := eq_true c28
                 have c28b1 : decide ((wrap64 ((ji15) + 1)) ≤ (a0.size : Int)) = true := decide_eq_true c28
                 by_cases c29 : x4_2.size + (a0.extract ((ji15) : Int).toNat ((wrap64 ((ji15) + 1)) : Int).toNat).size ≤ 9223372036854775807
                 ·rw [if_pos c29] at H
                  have c29b0 := eq_true c29
                  have c29b1 : decide (x4_2.size + (a0.extract ((ji15) : Int).toNat ((wrap64 ((ji15) + 1)) : Int).toNat).size ≤ 9223372036854775807) = true := decide_eq_true c29
                  try have c29b2 : (9223372036854775807 < x4_2.size + (a0.extract ((ji15) : Int).toNat ((wrap64 ((ji15) + 1)) : Int).toNat).size) = False := eq_false (Nat.not_lt.2 c29)
                  have H' := Aside0.mk H
                  clear H
                  have p9 : 0 ≤ (x5_2 : Int) := dt_
                  have q9 : x5_2 < (a0.size : Int) := dt_
                  have hx9 := bt_at a0 x5_2
                  replace p9 := eq_true p9
                  replace q9 := eq_true q9
                  have p12 : 0 ≤ (x5_2 : Int) := dt_
                  have q12 : x5_2 < (a0.size : Int) := dt_
                  have hx12 := bt_at a0 x5_2
                  replace p12 := eq_true p12
                  replace q12 := eq_true q12
                  have p18 : 0 ≤ ((ji15) : Int) := dt_
                  have q18 : (ji15) < (a0.size : Int) := dt_
                  have hx18 := bt_at a0 (ji15)
                  replace p18 := eq_true p18
                  replace q18 := eq_true q18
                  have p24 : 0 ≤ ((ji15) : Int) := dt_
                  have q24 : (ji15) < (a0.size : Int) := dt_
                  have hx24 := bt_at a0 (ji15)
                  replace p24 := eq_true p24
                  replace q24 := eq_true q24
                  go_wp2
                  go_roundg k2
                  case measure => have := HJ1.out; have := HK2.out; omega
                  case rel => exact ⟨(x4_2 ++ (a0.extract ((ji15) : Int).toNat ((wrap64 ((ji15) + 1)) : Int).toNat)), (wrap64 ((ji15) + 1)), (by first | rfl | (simp; done) | (simp only [← hji15] <;> (first | rfl | simp)) | (simp [*]; done)), (by first | rfl | (simp; done) | (simp only [← hji15] <;> (first | rfl | simp)) | (simp [*]; done)), H', ⟨by have := HJ1.out; have := HK2.out; omega⟩, dz_⟩
                 ·rw [if_neg c29] at H
                  exact absurd H (by simp)
                ·rw [if_neg c28] at H
                 exact absurd H (by simp)
               ·rw [if_neg c27] at H
                exact absurd H (by simp)
              ·rw [if_neg c25] at H
               obtain ⟨c25b0, c25b1⟩ := neB_ c25
               simp only [Option.some.injEq, Prod.mk.injEq] at H
               obtain ⟨rfl, rfl⟩ := H
               have p9 : 0 ≤ (x5_2 : Int) := dt_
               have q9 : x5_2 < (a0.size : Int) := dt_
               have hx9 := bt_at a0 x5_2
               replace p9 := eq_true p9
               replace q9 := eq_true q9
               have p12 : 0 ≤ (x5_2 : Int) := dt_
               have q12 : x5_2 < (a0.size : Int) := dt_
               have hx12 := bt_at a0 x5_2
               replace p12 := eq_true p12
               replace q12 := eq_true q12
               have p18 : 0 ≤ ((ji15) : Int) := dt_
               have q18 : (ji15) < (a0.size : Int) := dt_
               have hx18 := bt_at a0 (ji15)
               replace p18 := eq_true p18
               replace q18 := eq_true q18
               have p24 : 0 ≤ ((ji15) : Int) := dt_
               have q24 : (ji15) < (a0.size : Int) := dt_
               have hx24 := bt_at a0 (ji15)
               replace p24 := eq_true p24
               replace q24 := eq_true q24
               go_wp2
               go_ret2
               exact ⟨by first | rfl | (simp; done) | (simp only [← hji15] <;> (first | rfl | simp)) | (simp [*]; done), dz_⟩
            ·rw [if_neg c17] at H
             exact absurd H (by simp)
           ·rw [if_neg c16] at H
            exact absurd H (by simp)
         ·rw [if_neg c13] at H
          obtain ⟨c13b0, c13b1⟩ := neB_ c13
          replace H := Option.bind_eq_some_iff.mp H
          obtain ⟨t383, A310, H⟩ := H
          try dsimp only at H
          have A31 := Aside0.mk A310
          clear A310
          by_cases c32 : t383 = true
          ·subst c32
           rw [if_pos rfl] at H
           have c33b0 := eq_true (of_decide_eq_true (by first | (with_reducible assumption) | assumption) : 0 ≤ x5_2)
           by_cases c34 : x5_2 ≤ (wrap64 (x5_2 + 1))
           ·rw [if_pos c34] at H
            have c34b0 := eq_true c34
            have c34b1 : decide (x5_2 ≤ (wrap64 (x5_2 + 1))) = true := decide_eq_true c34
            by_cases c35 : (wrap64 (x5_2 + 1)) ≤ (a0.size : Int)
            ·rw [if_pos c35] at H
             have c35b0 := eq_true c35
             have c35b1 : decide ((wrap64 (x5_2 + 1)) ≤ (a0.size : Int)) = true := decide_eq_true c35
             by_cases c36 : x4_2.size + (a0.extract (x5_2 : Int).toNat ((wrap64 (x5_2 + 1)) : Int).toNat).size ≤ 9223372036854775807
             ·rw [if_pos c36] at H
              have c36b0 := eq_true c36
              have c36b1 : decide (x4_2.size + (a0.extract (x5_2 : Int).toNat ((wrap64 (x5_2 + 1)) : Int).toNat).size ≤ 9223372036854775807) = true := decide_eq_true c36
              try have c36b2 : (9223372036854775807 < x4_2.size + (a0.extract (x5_2 : Int).toNat ((wrap64 (x5_2 + 1)) : Int).toNat).size) = False := eq_false (Nat.not_lt.2 c36)
              have H' := Aside0.mk H
              clear H
              have p9 : 0 ≤ (x5_2 : Int) := dt_
              have q9 : x5_2 < (a0.size : Int) := dt_
              have hx9 := bt_at a0 x5_2
              replace p9 := eq_true p9
              replace q9 := eq_true q9
              have p12 : 0 ≤ (x5_2 : Int) := dt_
              have q12 : x5_2 < (a0.size : Int) := dt_
              have hx12 := bt_at a0 x5_2
              replace p12 := eq_true p12
              replace q12 := eq_true q12
              have p30 : 0 ≤ (x5_2 : Int) := dt_
              have q30 : x5_2 < (a0.size : Int) := dt_
              have hx30 := bt_at a0 x5_2
              replace p30 := eq_true p30
              replace q30 := eq_true q30
              go_wp2_with (first | ((with_reducible refine gate_callee (f := 55) rfl ?_); refine goesL_ (some 64) rfl rfl Tryd.func55 (by kernel_rfl) rfl #[.int .i64 (wrap64 (bt a0 x5_2)), .int .i64 32, .int .i64 126] rfl ga_ ?_; (with_reducible refine (constableref01_In.calls (wrap64 (bt a0 x5_2)) 32 126 true _ A31.out).mono ?_); rintro e w' ⟨rfl, ⟨nd, rfl⟩⟩; refine ⟨_, rfl, ?_⟩))
              go_roundg k2
              case measure => have := HJ1.out; have := HK2.out; omega
              case rel => exact ⟨(x4_2 ++ (a0.extract (x5_2 : Int).toNat ((wrap64 (x5_2 + 1)) : Int).toNat)), (wrap64 (x5_2 + 1)), ra_, ra_, H', ⟨by have := HJ1.out; have := HK2.out; omega⟩, dz_⟩
             ·rw [if_neg c36] at H
              exact absurd H (by simp)
            ·rw [if_neg c35] at H
             exact absurd H (by simp)
           ·rw [if_neg c34] at H
            exact absurd H (by simp)
          ·replace c32 := Bool.eq_false_iff.mpr c32
           subst c32
           rw [if_neg (show ¬ (false = true) by decide)] at H
           simp only [Option.some.injEq, Prod.mk.injEq] at H
           obtain ⟨rfl, rfl⟩ := H
           have p9 : 0 ≤ (x5_2 : Int) := dt_
           have q9 : x5_2 < (a0.size : Int) := dt_
           have hx9 := bt_at a0 x5_2
           replace p9 := eq_true p9
           replace q9 := eq_true q9
           have p12 : 0 ≤ (x5_2 : Int) := dt_
           have q12 : x5_2 < (a0.size : Int) := dt_
           have hx12 := bt_at a0 x5_2
           replace p12 := eq_true p12
           replace q12 := eq_true q12
           have p30 : 0 ≤ (x5_2 : Int) := dt_
           have q30 : x5_2 < (a0.size : Int) := dt_
           have hx30 := bt_at a0 x5_2
           replace p30 := eq_true p30
           replace q30 := eq_true q30
           go_wp2_with (first | ((with_reducible refine gate_callee (f := 55) rfl ?_); refine goesL_ (some 64) rfl rfl Tryd.func55 (by kernel_rfl) rfl #[.int .i64 (wrap64 (bt a0 x5_2)), .int .i64 32, .int .i64 126] rfl ga_ ?_; (with_reducible refine (constableref01_In.calls (wrap64 (bt a0 x5_2)) 32 126 false _ A31.out).mono ?_); rintro e w' ⟨rfl, ⟨nd, rfl⟩⟩; refine ⟨_, rfl, ?_⟩))
           go_ret2
           exact rz_
       ·rw [if_neg c8] at H
        exact absurd H (by simp)
      ·rw [if_neg c7] at H
       have c7b0 : decide (x5_2 < (a0.size : Int)) = false := decide_eq_false c7
       clear c7
       simp only [Option.some.injEq, Prod.mk.injEq] at H
       obtain ⟨rfl, rfl⟩ := H
       go_wp2
       go_ret2
       exact rz_
end Go.Proofs.YtaopajmpifenoaaDoor.P
end
