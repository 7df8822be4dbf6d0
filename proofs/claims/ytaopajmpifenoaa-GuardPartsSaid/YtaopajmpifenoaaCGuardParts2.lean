/- Part 3 of the proof of GuardParts: words, contracts of functions of the program (what a call answers), and what the answers say. -/
import Derived.Test.YtaopajmpifenoaaVWords
import Derived.Test.YtaopajmpifenoaaVLast
import Derived.Test.YtaopajmpifenoaaVApart
import Derived.Test.YtaopajmpifenoaaVArr
import Derived.Test.YtaopajmpifenoaaVFoot
import Derived.Test.YtaopajmpifenoaaVKept
import Derived.Test.YtaopajmpifenoaaVShare
import Derived.Test.YtaopajmpifenoaaVZeros
import Derived.Test.YtaopajmpifenoaaVN
import Derived.Test.YtaopajmpifenoaaVFootNe
import Derived.Test.YtaopajmpifenoaaVAt
import Derived.Test.YtaopajmpifenoaaVEqStruct
import Derived.Test.YtaopajmpifenoaaVTab
import Derived.Test.YtaopajmpifenoaaVFour
import Derived.Test.YtaopajmpifenoaaVGuard
import Derived.Test.YtaopajmpifenoaaVInv
import Derived.Test.YtaopajmpifenoaaVInvWords
import Derived.Test.YtaopajmpifenoaaVQPut
import Derived.Test.YtaopajmpifenoaaVNEv
import Derived.Test.YtaopajmpifenoaaVMore
import Derived.Test.YtaopajmpifenoaaVRepsOne
import Derived.Test.YtaopajmpifenoaaVSized
import Derived.Test.YtaopajmpifenoaaCGuardParts0
import Derived.Test.YtaopajmpifenoaaCGuardParts1
section
namespace Go.Proofs.Ytaopajmpifenoaa.P
open Go.RowKit Go.Proofs.YtaopajmpifenoaaW.PrintWords Go.Proofs.YtaopajmpifenoaaW.PrintLast Go.Proofs.YtaopajmpifenoaaW.PrintMore
attribute [local go_sem] max2_int min2_int max_two min_two max_three min_three max_four min_four
set_option linter.unusedVariables false
set_option linter.unusedSimpArgs false
def guard_Eval.f (k : Nat) (a0_0 : Int) (a0_1 : ByteArray) (l0_2 : List (S72)) (a0_3 : Int) (l0_4 : List (S67)) (l0_5 : List (S67)) (l1 : List (S54)) : Option (Bool × Int) := (guard_Check.f k a0_0 a0_1 l0_2 a0_3 l0_4 l0_5).bind fun t260 => (if t260 = 0 then ((expr_Eval.f k l0_4 l1).bind fun bt261 => (if bt261.2.2.2 = 0 then ((expr_Eval.f k l0_5 l1).bind fun bt266 => (if bt266.2.2.2 = 0 then ((guard_Holds.f k a0_3 bt261.1 bt261.2.1 bt261.2.2.1 bt266.1 bt266.2.1 bt266.2.2.1).bind fun bt271 => (some (bt271.1, bt271.2))) else (some (false, bt266.2.2.2)))) else (some (false, bt261.2.2.2)))) else (some (false, t260)))
theorem guard_Eval.mono : ∀ a0 a1 a2 a3 a4 a5 a6 k, LeO (guard_Eval.f k a0 a1 a2 a3 a4 a5 a6) (guard_Eval.f (k + 1) a0 a1 a2 a3 a4 a5 a6) := by
  intro a0 a1 a2 a3 a4 a5 a6 k
  unfold guard_Eval.f
  repeat' first
      | (with_reducible exact expr_Eval.mono _ _ _)
      | (with_reducible exact guard_Check.mono _ _ _ _ _ _ _)
      | (with_reducible exact guard_Holds.mono _ _ _ _ _ _ _ _)
      | (with_reducible exact LeO.refl _)
      | (with_reducible exact LeO.none _)
      | (with_reducible refine LeO.ite ?_ ?_)
      | (with_reducible refine LeO.bind ?_ (fun _ => ?_))
      | exact expr_Eval.mono _ _ _
      | exact guard_Check.mono _ _ _ _ _ _ _
      | exact guard_Holds.mono _ _ _ _ _ _ _ _
      | exact LeO.none _
      | refine LeO.ite ?_ ?_
      | refine LeO.bind ?_ (fun _ => ?_)
set_option maxHeartbeats 8000000 in
set_option maxRecDepth 100000 in
theorem guard_Eval.calls (k : Nat) (a0_0 : Int) (a0_1 : ByteArray) (A0_2 : Option Addr) (c0_2 : Nat) (l0_2 : List (S72)) (a0_3 : Int) (A0_4 : Option Addr) (c0_4 : Nat) (l0_4 : List (S67)) (A0_5 : Option Addr) (c0_5 : Nat) (l0_5 : List (S67)) (A1 : Option Addr) (c1 : Nat) (l1 : List (S54)) (r1 : Bool) (r2 : Int) (w : World) (hr0_2 : Kd.C k72 w A0_2 l0_2.length l0_2) (hc0_2 : l0_2.length ≤ c0_2) (hr0_4 : Kd.C k67 w A0_4 l0_4.length l0_4) (hc0_4 : l0_4.length ≤ c0_4) (hr0_5 : Kd.C k67 w A0_5 l0_5.length l0_5) (hc0_5 : l0_5.length ≤ c0_5) (hr1 : Kd.C k54 w A1 l1.length l1) (hc1 : l1.length ≤ c1) (h : guard_Eval.f k a0_0 a0_1 l0_2 a0_3 l0_4 l0_5 l1 = some (r1, r2)) :
    Calls Try.prog 12 #[.agg #[.int .i64 a0_0, .string a0_1, .slice A0_2 l0_2.length c0_2, .int .i64 a0_3, .slice A0_4 l0_4.length c0_4, .slice A0_5 l0_5.length c0_5], .slice A1 l1.length c1] w fun e w' => e = .returned (.tuple #[.bool r1, .int .i64 r2]) ∧ Below w.heap.size w w' := by
  have hu29 := Try.underlying29
  have hu23 := Try.underlying23
  have HR0_2 := Aside0.mk hr0_2
  have HC0_2 := Aside0.mk hc0_2
  clear hr0_2 hc0_2
  have HR0_4 := Aside0.mk hr0_4
  have HC0_4 := Aside0.mk hc0_4
  clear hr0_4 hc0_4
  have HR0_5 := Aside0.mk hr0_5
  have HC0_5 := Aside0.mk hc0_5
  clear hr0_5 hc0_5
  have HR1 := Aside0.mk hr1
  have HC1 := Aside0.mk hc1
  clear hr1 hc1
  have HB := Aside0.mk (Below.refl w.heap.size w)
  have H : ((guard_Check.f k a0_0 a0_1 l0_2 a0_3 l0_4 l0_5).bind fun t260 => (if t260 = 0 then ((expr_Eval.f k l0_4 l1).bind fun bt261 => (if bt261.2.2.2 = 0 then ((expr_Eval.f k l0_5 l1).bind fun bt266 => (if bt266.2.2.2 = 0 then ((guard_Holds.f k a0_3 bt261.1 bt261.2.1 bt261.2.2.1 bt266.1 bt266.2.1 bt266.2.2.1).bind fun bt271 => (some (bt271.1, bt271.2))) else (some (false, bt266.2.2.2)))) else (some (false, bt261.2.2.2)))) else (some (false, t260)))) = some (r1, r2) := h
  clear h
  replace H := Option.bind_eq_some_iff.mp H
  obtain ⟨t260, A30, H⟩ := H
  replace H : (if t260 = 0 then ((expr_Eval.f k l0_4 l1).bind fun bt261 => (if bt261.2.2.2 = 0 then ((expr_Eval.f k l0_5 l1).bind fun bt266 => (if bt266.2.2.2 = 0 then ((guard_Holds.f k a0_3 bt261.1 bt261.2.1 bt261.2.2.1 bt266.1 bt266.2.1 bt266.2.2.1).bind fun bt271 => (some (bt271.1, bt271.2))) else (some (false, bt266.2.2.2)))) else (some (false, bt261.2.2.2)))) else (some (false, t260))) = some (r1, r2) := H
  have A3 := Aside0.mk A30
  clear A30
  by_cases c4 : t260 = 0
  · rw [if_pos c4] at H
    obtain ⟨c4b0, c4b1⟩ := eqB_ c4
    clear c4
    replace H := Option.bind_eq_some_iff.mp H
    obtain ⟨⟨t261, t262, t263, t264⟩, A50, H⟩ := H
    replace H : (if t264 = 0 then ((expr_Eval.f k l0_5 l1).bind fun bt266 => (if bt266.2.2.2 = 0 then ((guard_Holds.f k a0_3 t261 t262 t263 bt266.1 bt266.2.1 bt266.2.2.1).bind fun bt271 => (some (bt271.1, bt271.2))) else (some (false, bt266.2.2.2)))) else (some (false, t264))) = some (r1, r2) := H
    have A5 := Aside0.mk A50
    clear A50
    by_cases c6 : t264 = 0
    · rw [if_pos c6] at H
      obtain ⟨c6b0, c6b1⟩ := eqB_ c6
      clear c6
      replace H := Option.bind_eq_some_iff.mp H
      obtain ⟨⟨t266, t267, t268, t269⟩, A70, H⟩ := H
      replace H : (if t269 = 0 then ((guard_Holds.f k a0_3 t261 t262 t263 t266 t267 t268).bind fun bt271 => (some (bt271.1, bt271.2))) else (some (false, t269))) = some (r1, r2) := H
      have A7 := Aside0.mk A70
      clear A70
      by_cases c8 : t269 = 0
      · rw [if_pos c8] at H
        obtain ⟨c8b0, c8b1⟩ := eqB_ c8
        clear c8
        replace H := Option.bind_eq_some_iff.mp H
        obtain ⟨⟨t271, t272⟩, A90, H⟩ := H
        replace H : (some (t271, t272)) = some (r1, r2) := H
        have A9 := Aside0.mk A90
        clear A90
        simp only [Option.some.injEq, Prod.mk.injEq] at H
        obtain ⟨rfl, rfl⟩ := H
        go_enter Try.func12, Try.ntmps12
        go_wp2_with (first | ((with_reducible refine gate_dst (N := 2) rfl ?_); refine box_event ?hg (N := 2) ?hd (cs := #[.int .i64 a0_0, .string a0_1, .slice A0_2 l0_2.length c0_2, .int .i64 a0_3, .slice A0_4 l0_4.length c0_4, .slice A0_5 l0_5.length c0_5]) (t := 29) ?hr ?_; (case hd => rfl); (case hg => rfl); (case hr => first | (go_simp; done) | (go_simp; rfl)); intro gb259 hg w10 hbox hb; have n0_ := bs_ (be_ HB) hb; have n1_ := Aside0.mk (hbox); have n2_ := gs_ hg (be_ HB); have n3_ := gs_ hg (be_ HB); clear HB; have HB := n0_; have BK259 := n1_; have GW259 := n2_; have GE259 := n3_; clear n0_ n1_ n2_ n3_; clear hb hbox hg; have hcz11_0 : w10.cell? ⟨gb259, 0, none⟩ = some (.int .i64 a0_0) := (blk_cell BK259.out 0).trans rfl; have hcz11_1 : w10.cell? ⟨gb259, 1, none⟩ = some (.string a0_1) := (blk_cell BK259.out 1).trans rfl; have hcz11_2 : w10.cell? ⟨gb259, 2, none⟩ = some (.slice A0_2 l0_2.length c0_2) := (blk_cell BK259.out 2).trans rfl; have hcz11_3 : w10.cell? ⟨gb259, 3, none⟩ = some (.int .i64 a0_3) := (blk_cell BK259.out 3).trans rfl; have hcz11_4 : w10.cell? ⟨gb259, 4, none⟩ = some (.slice A0_4 l0_4.length c0_4) := (blk_cell BK259.out 4).trans rfl; have hcz11_5 : w10.cell? ⟨gb259, 5, none⟩ = some (.slice A0_5 l0_5.length c0_5) := (blk_cell BK259.out 5).trans rfl; have hfz11_0 := blk_frozen BK259.out 0; have hfz11_1 := blk_frozen BK259.out 1; have hfz11_2 := blk_frozen BK259.out 2; have hfz11_3 := blk_frozen BK259.out 3; have hfz11_4 := blk_frozen BK259.out 4; have hfz11_5 := blk_frozen BK259.out 5) | ((with_reducible refine gate_callee (f := 15) rfl ?_); refine goesL_ (some 10) rfl rfl Try.func15 (by kernel_rfl) rfl #[.agg #[.int .i64 a0_0, .string a0_1, .slice A0_2 l0_2.length c0_2, .int .i64 a0_3, .slice A0_4 l0_4.length c0_4, .slice A0_5 l0_5.length c0_5]] rfl ga_ ?_; (with_reducible refine (guard_Check.calls k a0_0 a0_1 _ _ l0_2 a0_3 _ _ l0_4 _ _ l0_5 t260 _ ?side1 ?side2 ?side3 ?side4 ?side5 ?side6 A3.out).mono ?_); (case side1 => repeat (first | exact (Kd.C_below HR0_2.out HB.out) | (with_reducible refine Kd.C_alloc ?_ _) | (with_reducible refine Kd.C_drewN ?_ _) | (with_reducible refine Kd.C_drew ?_))); (case side2 => exact HC0_2.out); (case side3 => repeat (first | exact (Kd.C_below HR0_4.out HB.out) | (with_reducible refine Kd.C_alloc ?_ _) | (with_reducible refine Kd.C_drewN ?_ _) | (with_reducible refine Kd.C_drew ?_))); (case side4 => exact HC0_4.out); (case side5 => repeat (first | exact (Kd.C_below HR0_5.out HB.out) | (with_reducible refine Kd.C_alloc ?_ _) | (with_reducible refine Kd.C_drewN ?_ _) | (with_reducible refine Kd.C_drew ?_))); (case side6 => exact HC0_5.out); rintro e w12 ⟨rfl, hb⟩; refine ⟨_, rfl, ?_⟩; have n0_ := bb_ (bu_ BK259) hb; have n1_ := bs_ (be_ HB) hb; clear BK259; clear HB; have BK259 := n0_; have HB := n1_; clear n0_ n1_; (try clear hcz11_0 hcz11_1 hcz11_2 hcz11_3 hcz11_4 hcz11_5 hfz11_0 hfz11_1 hfz11_2 hfz11_3 hfz11_4 hfz11_5); (try clear hb); (try clear hb2); (try clear hk); (try clear hi); have hcz13_0 : w12.cell? ⟨gb259, 0, none⟩ = some (.int .i64 a0_0) := (blk_cell BK259.out 0).trans rfl; have hcz13_1 : w12.cell? ⟨gb259, 1, none⟩ = some (.string a0_1) := (blk_cell BK259.out 1).trans rfl; have hcz13_2 : w12.cell? ⟨gb259, 2, none⟩ = some (.slice A0_2 l0_2.length c0_2) := (blk_cell BK259.out 2).trans rfl; have hcz13_3 : w12.cell? ⟨gb259, 3, none⟩ = some (.int .i64 a0_3) := (blk_cell BK259.out 3).trans rfl; have hcz13_4 : w12.cell? ⟨gb259, 4, none⟩ = some (.slice A0_4 l0_4.length c0_4) := (blk_cell BK259.out 4).trans rfl; have hcz13_5 : w12.cell? ⟨gb259, 5, none⟩ = some (.slice A0_5 l0_5.length c0_5) := (blk_cell BK259.out 5).trans rfl; have hfz13_0 := blk_frozen BK259.out 0; have hfz13_1 := blk_frozen BK259.out 1; have hfz13_2 := blk_frozen BK259.out 2; have hfz13_3 := blk_frozen BK259.out 3; have hfz13_4 := blk_frozen BK259.out 4; have hfz13_5 := blk_frozen BK259.out 5) | ((with_reducible refine gate_callee (f := 22) rfl ?_); refine goesL_ (some 18) rfl rfl Try.func22 (by kernel_rfl) rfl #[.slice A0_4 l0_4.length c0_4, .slice A1 l1.length c1] rfl ga_ ?_; (with_reducible refine (expr_Eval.calls k _ _ l0_4 _ _ l1 t261 t262 t263 t264 _ ?side1 ?side2 ?side3 ?side4 A5.out).mono ?_); (case side1 => repeat (first | exact (Kd.C_below HR0_4.out HB.out) | (with_reducible refine Kd.C_alloc ?_ _) | (with_reducible refine Kd.C_drewN ?_ _) | (with_reducible refine Kd.C_drew ?_))); (case side2 => exact HC0_4.out); (case side3 => repeat (first | exact (Kd.C_below HR1.out HB.out) | (with_reducible refine Kd.C_alloc ?_ _) | (with_reducible refine Kd.C_drewN ?_ _) | (with_reducible refine Kd.C_drew ?_))); (case side4 => exact HC1.out); rintro e w14 ⟨rfl, hb⟩; refine ⟨_, rfl, ?_⟩; have n0_ := bb_ (bu_ BK259) hb; have n1_ := bs_ (be_ HB) hb; clear BK259; clear HB; have BK259 := n0_; have HB := n1_; clear n0_ n1_; (try clear hcz13_0 hcz13_1 hcz13_2 hcz13_3 hcz13_4 hcz13_5 hfz13_0 hfz13_1 hfz13_2 hfz13_3 hfz13_4 hfz13_5); (try clear hb); (try clear hb2); (try clear hk); (try clear hi)) | ((with_reducible refine gate_dst (N := 7) rfl ?_); refine box_event ?hg (N := 7) ?hd (cs := #[.int .i64 0, .int .i64 0, .string (⟨#[]⟩ : ByteArray)]) (t := 23) ?hr ?_; (case hd => rfl); (case hg => rfl); (case hr => first | (go_simp; done) | (go_simp; rfl)); intro gb265 hg w15 hbox hb; have n0_ := bb_ (bu_ BK259) hb; have n1_ := bs_ (be_ HB) hb; have n2_ := Aside0.mk (hbox); have n3_ := gs_ hg (be_ HB); have n4_ := gs_ hg (be_ HB); have n5_ := nl_ hg (bu_ BK259); have n6_ := ng_ hg (bu_ BK259); clear BK259; clear HB; have BK259 := n0_; have HB := n1_; have BK265 := n2_; have GW265 := n3_; have GE265 := n4_; have NB259_265 := n5_; have NB265_259 := n6_; clear n0_ n1_ n2_ n3_ n4_ n5_ n6_; clear hb hbox hg; have hnb16 := NB265_259.out; have hnc16 := NB259_265.out; have hcz17_0 : w15.cell? ⟨gb265, 0, none⟩ = some (.int .i64 0) := (blk_cell BK265.out 0).trans rfl; have hcz17_1 : w15.cell? ⟨gb265, 1, none⟩ = some (.int .i64 0) := (blk_cell BK265.out 1).trans rfl; have hcz17_2 : w15.cell? ⟨gb265, 2, none⟩ = some (.string (⟨#[]⟩ : ByteArray)) := (blk_cell BK265.out 2).trans rfl; have hfz17_0 := blk_frozen BK265.out 0; have hfz17_1 := blk_frozen BK265.out 1; have hfz17_2 := blk_frozen BK265.out 2; have hcz18_0 : w15.cell? ⟨gb259, 0, none⟩ = some (.int .i64 a0_0) := (blk_cell BK259.out 0).trans rfl; have hcz18_1 : w15.cell? ⟨gb259, 1, none⟩ = some (.string a0_1) := (blk_cell BK259.out 1).trans rfl; have hcz18_2 : w15.cell? ⟨gb259, 2, none⟩ = some (.slice A0_2 l0_2.length c0_2) := (blk_cell BK259.out 2).trans rfl; have hcz18_3 : w15.cell? ⟨gb259, 3, none⟩ = some (.int .i64 a0_3) := (blk_cell BK259.out 3).trans rfl; have hcz18_4 : w15.cell? ⟨gb259, 4, none⟩ = some (.slice A0_4 l0_4.length c0_4) := (blk_cell BK259.out 4).trans rfl; have hcz18_5 : w15.cell? ⟨gb259, 5, none⟩ = some (.slice A0_5 l0_5.length c0_5) := (blk_cell BK259.out 5).trans rfl; have hfz18_0 := blk_frozen BK259.out 0; have hfz18_1 := blk_frozen BK259.out 1; have hfz18_2 := blk_frozen BK259.out 2; have hfz18_3 := blk_frozen BK259.out 3; have hfz18_4 := blk_frozen BK259.out 4; have hfz18_5 := blk_frozen BK259.out 5) | ((with_reducible refine gate_callee (f := 22) rfl ?_); refine goesL_ (some 28) rfl rfl Try.func22 (by kernel_rfl) rfl #[.slice A0_5 l0_5.length c0_5, .slice A1 l1.length c1] rfl ga_ ?_; (with_reducible refine (expr_Eval.calls k _ _ l0_5 _ _ l1 t266 t267 t268 t269 _ ?side1 ?side2 ?side3 ?side4 A7.out).mono ?_); (case side1 => exact Kd.C_below HR0_5.out (be_ HB)); (case side2 => exact HC0_5.out); (case side3 => exact Kd.C_below HR1.out (be_ HB)); (case side4 => exact HC1.out); rintro e w19 ⟨rfl, hb⟩; refine ⟨_, rfl, ?_⟩; have n0_ := bb_ (bu_ BK259) hb; have n1_ := Aside0.mk (blk_below (o := .cells #[.int .i64 t261, .int .i64 t262, .string t263] 23 (0, 0)) (bp_ BK265) hb); have n2_ := bs_ (be_ HB) hb; clear BK259; clear BK265; clear HB; have BK259 := n0_; have BK265 := n1_; have HB := n2_; clear n0_ n1_ n2_; (try clear hcz17_0 hcz17_1 hcz17_2 hfz17_0 hfz17_1 hfz17_2 hcz18_0 hcz18_1 hcz18_2 hcz18_3 hcz18_4 hcz18_5 hfz18_0 hfz18_1 hfz18_2 hfz18_3 hfz18_4 hfz18_5); (try clear hb); (try clear hb2); (try clear hk); (try clear hi)) | ((with_reducible refine gate_dst (N := 8) rfl ?_); refine box_event ?hg (N := 8) ?hd (cs := #[.int .i64 0, .int .i64 0, .string (⟨#[]⟩ : ByteArray)]) (t := 23) ?hr ?_; (case hd => rfl); (case hg => rfl); (case hr => first | (go_simp; done) | (go_simp; rfl)); intro gb270 hg w20 hbox hb; have n0_ := bb_ (bu_ BK259) hb; have n1_ := bb_ (bu_ BK265) hb; have n2_ := bs_ (be_ HB) hb; have n3_ := Aside0.mk (hbox); have n4_ := gs_ hg (be_ HB); have n5_ := gs_ hg (be_ HB); have n6_ := nl_ hg (bu_ BK259); have n7_ := ng_ hg (bu_ BK259); have n8_ := nl_ hg (bu_ BK265); have n9_ := ng_ hg (bu_ BK265); clear BK259; clear BK265; clear HB; have BK259 := n0_; have BK265 := n1_; have HB := n2_; have BK270 := n3_; have GW270 := n4_; have GE270 := n5_; have NB259_270 := n6_; have NB270_259 := n7_; have NB265_270 := n8_; have NB270_265 := n9_; clear n0_ n1_ n2_ n3_ n4_ n5_ n6_ n7_ n8_ n9_; clear hb hbox hg; have hnb21 := NB270_259.out; have hnc21 := NB259_270.out; have hnb22 := NB270_265.out; have hnc22 := NB265_270.out; have hcz23_0 : w20.cell? ⟨gb270, 0, none⟩ = some (.int .i64 0) := (blk_cell BK270.out 0).trans rfl; have hcz23_1 : w20.cell? ⟨gb270, 1, none⟩ = some (.int .i64 0) := (blk_cell BK270.out 1).trans rfl; have hcz23_2 : w20.cell? ⟨gb270, 2, none⟩ = some (.string (⟨#[]⟩ : ByteArray)) := (blk_cell BK270.out 2).trans rfl; have hfz23_0 := blk_frozen BK270.out 0; have hfz23_1 := blk_frozen BK270.out 1; have hfz23_2 := blk_frozen BK270.out 2; have hcz24_0 : w20.cell? ⟨gb259, 0, none⟩ = some (.int .i64 a0_0) := (blk_cell BK259.out 0).trans rfl; have hcz24_1 : w20.cell? ⟨gb259, 1, none⟩ = some (.string a0_1) := (blk_cell BK259.out 1).trans rfl; have hcz24_2 : w20.cell? ⟨gb259, 2, none⟩ = some (.slice A0_2 l0_2.length c0_2) := (blk_cell BK259.out 2).trans rfl; have hcz24_3 : w20.cell? ⟨gb259, 3, none⟩ = some (.int .i64 a0_3) := (blk_cell BK259.out 3).trans rfl; have hcz24_4 : w20.cell? ⟨gb259, 4, none⟩ = some (.slice A0_4 l0_4.length c0_4) := (blk_cell BK259.out 4).trans rfl; have hcz24_5 : w20.cell? ⟨gb259, 5, none⟩ = some (.slice A0_5 l0_5.length c0_5) := (blk_cell BK259.out 5).trans rfl; have hfz24_0 := blk_frozen BK259.out 0; have hfz24_1 := blk_frozen BK259.out 1; have hfz24_2 := blk_frozen BK259.out 2; have hfz24_3 := blk_frozen BK259.out 3; have hfz24_4 := blk_frozen BK259.out 4; have hfz24_5 := blk_frozen BK259.out 5; have hcz25_0 : w20.cell? ⟨gb265, 0, none⟩ = some (.int .i64 t261) := (blk_cell BK265.out 0).trans rfl; have hcz25_1 : w20.cell? ⟨gb265, 1, none⟩ = some (.int .i64 t262) := (blk_cell BK265.out 1).trans rfl; have hcz25_2 : w20.cell? ⟨gb265, 2, none⟩ = some (.string t263) := (blk_cell BK265.out 2).trans rfl; have hfz25_0 := blk_frozen BK265.out 0; have hfz25_1 := blk_frozen BK265.out 1; have hfz25_2 := blk_frozen BK265.out 2) | ((with_reducible refine gate_callee (f := 10) rfl ?_); refine goesL_ (some 38) rfl rfl Try.func10 (by kernel_rfl) rfl #[.int .i64 a0_3, .agg #[.int .i64 t261, .int .i64 t262, .string t263], .agg #[.int .i64 t266, .int .i64 t267, .string t268]] rfl ga_ ?_; (with_reducible refine (guard_Holds.calls k a0_3 t261 t262 t263 t266 t267 t268 t271 t272 _ A9.out).mono ?_); rintro e w26 ⟨rfl, hb⟩; refine ⟨_, rfl, ?_⟩; have n0_ := bb_ (bu_ BK259) hb; have n1_ := bb_ (bu_ BK265) hb; have n2_ := Aside0.mk (blk_below (o := .cells #[.int .i64 t266, .int .i64 t267, .string t268] 23 (0, 0)) (bp_ BK270) hb); have n3_ := bs_ (be_ HB) hb; clear BK259; clear BK265; clear BK270; clear HB; have BK259 := n0_; have BK265 := n1_; have BK270 := n2_; have HB := n3_; clear n0_ n1_ n2_ n3_; (try clear hcz23_0 hcz23_1 hcz23_2 hfz23_0 hfz23_1 hfz23_2 hcz24_0 hcz24_1 hcz24_2 hcz24_3 hcz24_4 hcz24_5 hfz24_0 hfz24_1 hfz24_2 hfz24_3 hfz24_4 hfz24_5 hcz25_0 hcz25_1 hcz25_2 hfz25_0 hfz25_1 hfz25_2); (try clear hb); (try clear hb2); (try clear hk); (try clear hi)))
        go_ret2
        exact ⟨by first | rfl | (simp [errW_none, errW_some] <;> rfl) | (simp [*, errW_none, errW_some] <;> rfl), by repeat (first | (with_reducible first | exact HB.out | apply below_alloc | apply pw_below_drewN | apply below_drew1 | refine below_set ?_ GE259.out | refine below_set ?_ GE265.out | refine below_set ?_ GE270.out) | exact HB.out)⟩
      · rw [if_neg c8] at H
        obtain ⟨c8b0, c8b1⟩ := neB_ c8
        simp only [Option.some.injEq, Prod.mk.injEq] at H
        obtain ⟨rfl, rfl⟩ := H
        go_enter Try.func12, Try.ntmps12
        go_wp2_with (first | ((with_reducible refine gate_dst (N := 2) rfl ?_); refine box_event ?hg (N := 2) ?hd (cs := #[.int .i64 a0_0, .string a0_1, .slice A0_2 l0_2.length c0_2, .int .i64 a0_3, .slice A0_4 l0_4.length c0_4, .slice A0_5 l0_5.length c0_5]) (t := 29) ?hr ?_; (case hd => rfl); (case hg => rfl); (case hr => first | (go_simp; done) | (go_simp; rfl)); intro gb259 hg w27 hbox hb; have n0_ := bs_ (be_ HB) hb; have n1_ := Aside0.mk (hbox); have n2_ := gs_ hg (be_ HB); have n3_ := gs_ hg (be_ HB); clear HB; have HB := n0_; have BK259 := n1_; have GW259 := n2_; have GE259 := n3_; clear n0_ n1_ n2_ n3_; clear hb hbox hg; have hcz28_0 : w27.cell? ⟨gb259, 0, none⟩ = some (.int .i64 a0_0) := (blk_cell BK259.out 0).trans rfl; have hcz28_1 : w27.cell? ⟨gb259, 1, none⟩ = some (.string a0_1) := (blk_cell BK259.out 1).trans rfl; have hcz28_2 : w27.cell? ⟨gb259, 2, none⟩ = some (.slice A0_2 l0_2.length c0_2) := (blk_cell BK259.out 2).trans rfl; have hcz28_3 : w27.cell? ⟨gb259, 3, none⟩ = some (.int .i64 a0_3) := (blk_cell BK259.out 3).trans rfl; have hcz28_4 : w27.cell? ⟨gb259, 4, none⟩ = some (.slice A0_4 l0_4.length c0_4) := (blk_cell BK259.out 4).trans rfl; have hcz28_5 : w27.cell? ⟨gb259, 5, none⟩ = some (.slice A0_5 l0_5.length c0_5) := (blk_cell BK259.out 5).trans rfl; have hfz28_0 := blk_frozen BK259.out 0; have hfz28_1 := blk_frozen BK259.out 1; have hfz28_2 := blk_frozen BK259.out 2; have hfz28_3 := blk_frozen BK259.out 3; have hfz28_4 := blk_frozen BK259.out 4; have hfz28_5 := blk_frozen BK259.out 5) | ((with_reducible refine gate_callee (f := 15) rfl ?_); refine goesL_ (some 10) rfl rfl Try.func15 (by kernel_rfl) rfl #[.agg #[.int .i64 a0_0, .string a0_1, .slice A0_2 l0_2.length c0_2, .int .i64 a0_3, .slice A0_4 l0_4.length c0_4, .slice A0_5 l0_5.length c0_5]] rfl ga_ ?_; (with_reducible refine (guard_Check.calls k a0_0 a0_1 _ _ l0_2 a0_3 _ _ l0_4 _ _ l0_5 t260 _ ?side1 ?side2 ?side3 ?side4 ?side5 ?side6 A3.out).mono ?_); (case side1 => repeat (first | exact (Kd.C_below HR0_2.out HB.out) | (with_reducible refine Kd.C_alloc ?_ _) | (with_reducible refine Kd.C_drewN ?_ _) | (with_reducible refine Kd.C_drew ?_))); (case side2 => exact HC0_2.out); (case side3 => repeat (first | exact (Kd.C_below HR0_4.out HB.out) | (with_reducible refine Kd.C_alloc ?_ _) | (with_reducible refine Kd.C_drewN ?_ _) | (with_reducible refine Kd.C_drew ?_))); (case side4 => exact HC0_4.out); (case side5 => repeat (first | exact (Kd.C_below HR0_5.out HB.out) | (with_reducible refine Kd.C_alloc ?_ _) | (with_reducible refine Kd.C_drewN ?_ _) | (with_reducible refine Kd.C_drew ?_))); (case side6 => exact HC0_5.out); rintro e w29 ⟨rfl, hb⟩; refine ⟨_, rfl, ?_⟩; have n0_ := bb_ (bu_ BK259) hb; have n1_ := bs_ (be_ HB) hb; clear BK259; clear HB; have BK259 := n0_; have HB := n1_; clear n0_ n1_; (try clear hcz28_0 hcz28_1 hcz28_2 hcz28_3 hcz28_4 hcz28_5 hfz28_0 hfz28_1 hfz28_2 hfz28_3 hfz28_4 hfz28_5); (try clear hb); (try clear hb2); (try clear hk); (try clear hi); have hcz30_0 : w29.cell? ⟨gb259, 0, none⟩ = some (.int .i64 a0_0) := (blk_cell BK259.out 0).trans rfl; have hcz30_1 : w29.cell? ⟨gb259, 1, none⟩ = some (.string a0_1) := (blk_cell BK259.out 1).trans rfl; have hcz30_2 : w29.cell? ⟨gb259, 2, none⟩ = some (.slice A0_2 l0_2.length c0_2) := (blk_cell BK259.out 2).trans rfl; have hcz30_3 : w29.cell? ⟨gb259, 3, none⟩ = some (.int .i64 a0_3) := (blk_cell BK259.out 3).trans rfl; have hcz30_4 : w29.cell? ⟨gb259, 4, none⟩ = some (.slice A0_4 l0_4.length c0_4) := (blk_cell BK259.out 4).trans rfl; have hcz30_5 : w29.cell? ⟨gb259, 5, none⟩ = some (.slice A0_5 l0_5.length c0_5) := (blk_cell BK259.out 5).trans rfl; have hfz30_0 := blk_frozen BK259.out 0; have hfz30_1 := blk_frozen BK259.out 1; have hfz30_2 := blk_frozen BK259.out 2; have hfz30_3 := blk_frozen BK259.out 3; have hfz30_4 := blk_frozen BK259.out 4; have hfz30_5 := blk_frozen BK259.out 5) | ((with_reducible refine gate_callee (f := 22) rfl ?_); refine goesL_ (some 18) rfl rfl Try.func22 (by kernel_rfl) rfl #[.slice A0_4 l0_4.length c0_4, .slice A1 l1.length c1] rfl ga_ ?_; (with_reducible refine (expr_Eval.calls k _ _ l0_4 _ _ l1 t261 t262 t263 t264 _ ?side1 ?side2 ?side3 ?side4 A5.out).mono ?_); (case side1 => repeat (first | exact (Kd.C_below HR0_4.out HB.out) | (with_reducible refine Kd.C_alloc ?_ _) | (with_reducible refine Kd.C_drewN ?_ _) | (with_reducible refine Kd.C_drew ?_))); (case side2 => exact HC0_4.out); (case side3 => repeat (first | exact (Kd.C_below HR1.out HB.out) | (with_reducible refine Kd.C_alloc ?_ _) | (with_reducible refine Kd.C_drewN ?_ _) | (with_reducible refine Kd.C_drew ?_))); (case side4 => exact HC1.out); rintro e w31 ⟨rfl, hb⟩; refine ⟨_, rfl, ?_⟩; have n0_ := bb_ (bu_ BK259) hb; have n1_ := bs_ (be_ HB) hb; clear BK259; clear HB; have BK259 := n0_; have HB := n1_; clear n0_ n1_; (try clear hcz30_0 hcz30_1 hcz30_2 hcz30_3 hcz30_4 hcz30_5 hfz30_0 hfz30_1 hfz30_2 hfz30_3 hfz30_4 hfz30_5); (try clear hb); (try clear hb2); (try clear hk); (try clear hi)) | ((with_reducible refine gate_dst (N := 7) rfl ?_); refine box_event ?hg (N := 7) ?hd (cs := #[.int .i64 0, .int .i64 0, .string (⟨#[]⟩ : ByteArray)]) (t := 23) ?hr ?_; (case hd => rfl); (case hg => rfl); (case hr => first | (go_simp; done) | (go_simp; rfl)); intro gb265 hg w32 hbox hb; have n0_ := bb_ (bu_ BK259) hb; have n1_ := bs_ (be_ HB) hb; have n2_ := Aside0.mk (hbox); have n3_ := gs_ hg (be_ HB); have n4_ := gs_ hg (be_ HB); have n5_ := nl_ hg (bu_ BK259); have n6_ := ng_ hg (bu_ BK259); clear BK259; clear HB; have BK259 := n0_; have HB := n1_; have BK265 := n2_; have GW265 := n3_; have GE265 := n4_; have NB259_265 := n5_; have NB265_259 := n6_; clear n0_ n1_ n2_ n3_ n4_ n5_ n6_; clear hb hbox hg; have hnb33 := NB265_259.out; have hnc33 := NB259_265.out; have hcz34_0 : w32.cell? ⟨gb265, 0, none⟩ = some (.int .i64 0) := (blk_cell BK265.out 0).trans rfl; have hcz34_1 : w32.cell? ⟨gb265, 1, none⟩ = some (.int .i64 0) := (blk_cell BK265.out 1).trans rfl; have hcz34_2 : w32.cell? ⟨gb265, 2, none⟩ = some (.string (⟨#[]⟩ : ByteArray)) := (blk_cell BK265.out 2).trans rfl; have hfz34_0 := blk_frozen BK265.out 0; have hfz34_1 := blk_frozen BK265.out 1; have hfz34_2 := blk_frozen BK265.out 2; have hcz35_0 : w32.cell? ⟨gb259, 0, none⟩ = some (.int .i64 a0_0) := (blk_cell BK259.out 0).trans rfl; have hcz35_1 : w32.cell? ⟨gb259, 1, none⟩ = some (.string a0_1) := (blk_cell BK259.out 1).trans rfl; have hcz35_2 : w32.cell? ⟨gb259, 2, none⟩ = some (.slice A0_2 l0_2.length c0_2) := (blk_cell BK259.out 2).trans rfl; have hcz35_3 : w32.cell? ⟨gb259, 3, none⟩ = some (.int .i64 a0_3) := (blk_cell BK259.out 3).trans rfl; have hcz35_4 : w32.cell? ⟨gb259, 4, none⟩ = some (.slice A0_4 l0_4.length c0_4) := (blk_cell BK259.out 4).trans rfl; have hcz35_5 : w32.cell? ⟨gb259, 5, none⟩ = some (.slice A0_5 l0_5.length c0_5) := (blk_cell BK259.out 5).trans rfl; have hfz35_0 := blk_frozen BK259.out 0; have hfz35_1 := blk_frozen BK259.out 1; have hfz35_2 := blk_frozen BK259.out 2; have hfz35_3 := blk_frozen BK259.out 3; have hfz35_4 := blk_frozen BK259.out 4; have hfz35_5 := blk_frozen BK259.out 5) | ((with_reducible refine gate_callee (f := 22) rfl ?_); refine goesL_ (some 28) rfl rfl Try.func22 (by kernel_rfl) rfl #[.slice A0_5 l0_5.length c0_5, .slice A1 l1.length c1] rfl ga_ ?_; (with_reducible refine (expr_Eval.calls k _ _ l0_5 _ _ l1 t266 t267 t268 t269 _ ?side1 ?side2 ?side3 ?side4 A7.out).mono ?_); (case side1 => exact Kd.C_below HR0_5.out (be_ HB)); (case side2 => exact HC0_5.out); (case side3 => exact Kd.C_below HR1.out (be_ HB)); (case side4 => exact HC1.out); rintro e w36 ⟨rfl, hb⟩; refine ⟨_, rfl, ?_⟩; have n0_ := bb_ (bu_ BK259) hb; have n1_ := Aside0.mk (blk_below (o := .cells #[.int .i64 t261, .int .i64 t262, .string t263] 23 (0, 0)) (bp_ BK265) hb); have n2_ := bs_ (be_ HB) hb; clear BK259; clear BK265; clear HB; have BK259 := n0_; have BK265 := n1_; have HB := n2_; clear n0_ n1_ n2_; (try clear hcz34_0 hcz34_1 hcz34_2 hfz34_0 hfz34_1 hfz34_2 hcz35_0 hcz35_1 hcz35_2 hcz35_3 hcz35_4 hcz35_5 hfz35_0 hfz35_1 hfz35_2 hfz35_3 hfz35_4 hfz35_5); (try clear hb); (try clear hb2); (try clear hk); (try clear hi)) | ((with_reducible refine gate_dst (N := 8) rfl ?_); refine box_event ?hg (N := 8) ?hd (cs := #[.int .i64 0, .int .i64 0, .string (⟨#[]⟩ : ByteArray)]) (t := 23) ?hr ?_; (case hd => rfl); (case hg => rfl); (case hr => first | (go_simp; done) | (go_simp; rfl)); intro gb270 hg w37 hbox hb; have n0_ := bb_ (bu_ BK259) hb; have n1_ := bb_ (bu_ BK265) hb; have n2_ := bs_ (be_ HB) hb; have n3_ := Aside0.mk (hbox); have n4_ := gs_ hg (be_ HB); have n5_ := gs_ hg (be_ HB); have n6_ := nl_ hg (bu_ BK259); have n7_ := ng_ hg (bu_ BK259); have n8_ := nl_ hg (bu_ BK265); have n9_ := ng_ hg (bu_ BK265); clear BK259; clear BK265; clear HB; have BK259 := n0_; have BK265 := n1_; have HB := n2_; have BK270 := n3_; have GW270 := n4_; have GE270 := n5_; have NB259_270 := n6_; have NB270_259 := n7_; have NB265_270 := n8_; have NB270_265 := n9_; clear n0_ n1_ n2_ n3_ n4_ n5_ n6_ n7_ n8_ n9_; clear hb hbox hg; have hnb38 := NB270_259.out; have hnc38 := NB259_270.out; have hnb39 := NB270_265.out; have hnc39 := NB265_270.out; have hcz40_0 : w37.cell? ⟨gb270, 0, none⟩ = some (.int .i64 0) := (blk_cell BK270.out 0).trans rfl; have hcz40_1 : w37.cell? ⟨gb270, 1, none⟩ = some (.int .i64 0) := (blk_cell BK270.out 1).trans rfl; have hcz40_2 : w37.cell? ⟨gb270, 2, none⟩ = some (.string (⟨#[]⟩ : ByteArray)) := (blk_cell BK270.out 2).trans rfl; have hfz40_0 := blk_frozen BK270.out 0; have hfz40_1 := blk_frozen BK270.out 1; have hfz40_2 := blk_frozen BK270.out 2))
        go_ret2
        exact ⟨by first | rfl | (simp [errW_none, errW_some] <;> rfl) | (simp [*, errW_none, errW_some] <;> rfl), by repeat (first | (with_reducible first | exact HB.out | apply below_alloc | apply pw_below_drewN | apply below_drew1 | refine below_set ?_ GE259.out | refine below_set ?_ GE265.out | refine below_set ?_ GE270.out) | exact HB.out)⟩
    · rw [if_neg c6] at H
      obtain ⟨c6b0, c6b1⟩ := neB_ c6
      simp only [Option.some.injEq, Prod.mk.injEq] at H
      obtain ⟨rfl, rfl⟩ := H
      go_enter Try.func12, Try.ntmps12
      go_wp2_with (first | ((with_reducible refine gate_dst (N := 2) rfl ?_); refine box_event ?hg (N := 2) ?hd (cs := #[.int .i64 a0_0, .string a0_1, .slice A0_2 l0_2.length c0_2, .int .i64 a0_3, .slice A0_4 l0_4.length c0_4, .slice A0_5 l0_5.length c0_5]) (t := 29) ?hr ?_; (case hd => rfl); (case hg => rfl); (case hr => first | (go_simp; done) | (go_simp; rfl)); intro gb259 hg w41 hbox hb; have n0_ := bs_ (be_ HB) hb; have n1_ := Aside0.mk (hbox); have n2_ := gs_ hg (be_ HB); have n3_ := gs_ hg (be_ HB); clear HB; have HB := n0_; have BK259 := n1_; have GW259 := n2_; have GE259 := n3_; clear n0_ n1_ n2_ n3_; clear hb hbox hg; have hcz42_0 : w41.cell? ⟨gb259, 0, none⟩ = some (.int .i64 a0_0) := (blk_cell BK259.out 0).trans rfl; have hcz42_1 : w41.cell? ⟨gb259, 1, none⟩ = some (.string a0_1) := (blk_cell BK259.out 1).trans rfl; have hcz42_2 : w41.cell? ⟨gb259, 2, none⟩ = some (.slice A0_2 l0_2.length c0_2) := (blk_cell BK259.out 2).trans rfl; have hcz42_3 : w41.cell? ⟨gb259, 3, none⟩ = some (.int .i64 a0_3) := (blk_cell BK259.out 3).trans rfl; have hcz42_4 : w41.cell? ⟨gb259, 4, none⟩ = some (.slice A0_4 l0_4.length c0_4) := (blk_cell BK259.out 4).trans rfl; have hcz42_5 : w41.cell? ⟨gb259, 5, none⟩ = some (.slice A0_5 l0_5.length c0_5) := (blk_cell BK259.out 5).trans rfl; have hfz42_0 := blk_frozen BK259.out 0; have hfz42_1 := blk_frozen BK259.out 1; have hfz42_2 := blk_frozen BK259.out 2; have hfz42_3 := blk_frozen BK259.out 3; have hfz42_4 := blk_frozen BK259.out 4; have hfz42_5 := blk_frozen BK259.out 5) | ((with_reducible refine gate_callee (f := 15) rfl ?_); refine goesL_ (some 10) rfl rfl Try.func15 (by kernel_rfl) rfl #[.agg #[.int .i64 a0_0, .string a0_1, .slice A0_2 l0_2.length c0_2, .int .i64 a0_3, .slice A0_4 l0_4.length c0_4, .slice A0_5 l0_5.length c0_5]] rfl ga_ ?_; (with_reducible refine (guard_Check.calls k a0_0 a0_1 _ _ l0_2 a0_3 _ _ l0_4 _ _ l0_5 t260 _ ?side1 ?side2 ?side3 ?side4 ?side5 ?side6 A3.out).mono ?_); (case side1 => repeat (first | exact (Kd.C_below HR0_2.out HB.out) | (with_reducible refine Kd.C_alloc ?_ _) | (with_reducible refine Kd.C_drewN ?_ _) | (with_reducible refine Kd.C_drew ?_))); (case side2 => exact HC0_2.out); (case side3 => repeat (first | exact (Kd.C_below HR0_4.out HB.out) | (with_reducible refine Kd.C_alloc ?_ _) | (with_reducible refine Kd.C_drewN ?_ _) | (with_reducible refine Kd.C_drew ?_))); (case side4 => exact HC0_4.out); (case side5 => repeat (first | exact (Kd.C_below HR0_5.out HB.out) | (with_reducible refine Kd.C_alloc ?_ _) | (with_reducible refine Kd.C_drewN ?_ _) | (with_reducible refine Kd.C_drew ?_))); (case side6 => exact HC0_5.out); rintro e w43 ⟨rfl, hb⟩; refine ⟨_, rfl, ?_⟩; have n0_ := bb_ (bu_ BK259) hb; have n1_ := bs_ (be_ HB) hb; clear BK259; clear HB; have BK259 := n0_; have HB := n1_; clear n0_ n1_; (try clear hcz42_0 hcz42_1 hcz42_2 hcz42_3 hcz42_4 hcz42_5 hfz42_0 hfz42_1 hfz42_2 hfz42_3 hfz42_4 hfz42_5); (try clear hb); (try clear hb2); (try clear hk); (try clear hi); have hcz44_0 : w43.cell? ⟨gb259, 0, none⟩ = some (.int .i64 a0_0) := (blk_cell BK259.out 0).trans rfl; have hcz44_1 : w43.cell? ⟨gb259, 1, none⟩ = some (.string a0_1) := (blk_cell BK259.out 1).trans rfl; have hcz44_2 : w43.cell? ⟨gb259, 2, none⟩ = some (.slice A0_2 l0_2.length c0_2) := (blk_cell BK259.out 2).trans rfl; have hcz44_3 : w43.cell? ⟨gb259, 3, none⟩ = some (.int .i64 a0_3) := (blk_cell BK259.out 3).trans rfl; have hcz44_4 : w43.cell? ⟨gb259, 4, none⟩ = some (.slice A0_4 l0_4.length c0_4) := (blk_cell BK259.out 4).trans rfl; have hcz44_5 : w43.cell? ⟨gb259, 5, none⟩ = some (.slice A0_5 l0_5.length c0_5) := (blk_cell BK259.out 5).trans rfl; have hfz44_0 := blk_frozen BK259.out 0; have hfz44_1 := blk_frozen BK259.out 1; have hfz44_2 := blk_frozen BK259.out 2; have hfz44_3 := blk_frozen BK259.out 3; have hfz44_4 := blk_frozen BK259.out 4; have hfz44_5 := blk_frozen BK259.out 5) | ((with_reducible refine gate_callee (f := 22) rfl ?_); refine goesL_ (some 18) rfl rfl Try.func22 (by kernel_rfl) rfl #[.slice A0_4 l0_4.length c0_4, .slice A1 l1.length c1] rfl ga_ ?_; (with_reducible refine (expr_Eval.calls k _ _ l0_4 _ _ l1 t261 t262 t263 t264 _ ?side1 ?side2 ?side3 ?side4 A5.out).mono ?_); (case side1 => repeat (first | exact (Kd.C_below HR0_4.out HB.out) | (with_reducible refine Kd.C_alloc ?_ _) | (with_reducible refine Kd.C_drewN ?_ _) | (with_reducible refine Kd.C_drew ?_))); (case side2 => exact HC0_4.out); (case side3 => repeat (first | exact (Kd.C_below HR1.out HB.out) | (with_reducible refine Kd.C_alloc ?_ _) | (with_reducible refine Kd.C_drewN ?_ _) | (with_reducible refine Kd.C_drew ?_))); (case side4 => exact HC1.out); rintro e w45 ⟨rfl, hb⟩; refine ⟨_, rfl, ?_⟩; have n0_ := bb_ (bu_ BK259) hb; have n1_ := bs_ (be_ HB) hb; clear BK259; clear HB; have BK259 := n0_; have HB := n1_; clear n0_ n1_; (try clear hcz44_0 hcz44_1 hcz44_2 hcz44_3 hcz44_4 hcz44_5 hfz44_0 hfz44_1 hfz44_2 hfz44_3 hfz44_4 hfz44_5); (try clear hb); (try clear hb2); (try clear hk); (try clear hi)) | ((with_reducible refine gate_dst (N := 7) rfl ?_); refine box_event ?hg (N := 7) ?hd (cs := #[.int .i64 0, .int .i64 0, .string (⟨#[]⟩ : ByteArray)]) (t := 23) ?hr ?_; (case hd => rfl); (case hg => rfl); (case hr => first | (go_simp; done) | (go_simp; rfl)); intro gb265 hg w46 hbox hb; have n0_ := bb_ (bu_ BK259) hb; have n1_ := bs_ (be_ HB) hb; have n2_ := Aside0.mk (hbox); have n3_ := gs_ hg (be_ HB); have n4_ := gs_ hg (be_ HB); have n5_ := nl_ hg (bu_ BK259); have n6_ := ng_ hg (bu_ BK259); clear BK259; clear HB; have BK259 := n0_; have HB := n1_; have BK265 := n2_; have GW265 := n3_; have GE265 := n4_; have NB259_265 := n5_; have NB265_259 := n6_; clear n0_ n1_ n2_ n3_ n4_ n5_ n6_; clear hb hbox hg; have hnb47 := NB265_259.out; have hnc47 := NB259_265.out; have hcz48_0 : w46.cell? ⟨gb265, 0, none⟩ = some (.int .i64 0) := (blk_cell BK265.out 0).trans rfl; have hcz48_1 : w46.cell? ⟨gb265, 1, none⟩ = some (.int .i64 0) := (blk_cell BK265.out 1).trans rfl; have hcz48_2 : w46.cell? ⟨gb265, 2, none⟩ = some (.string (⟨#[]⟩ : ByteArray)) := (blk_cell BK265.out 2).trans rfl; have hfz48_0 := blk_frozen BK265.out 0; have hfz48_1 := blk_frozen BK265.out 1; have hfz48_2 := blk_frozen BK265.out 2))
      go_ret2
      exact ⟨by first | rfl | (simp [errW_none, errW_some] <;> rfl) | (simp [*, errW_none, errW_some] <;> rfl), by repeat (first | (with_reducible first | exact HB.out | apply below_alloc | apply pw_below_drewN | apply below_drew1 | refine below_set ?_ GE259.out | refine below_set ?_ GE265.out) | exact HB.out)⟩
  · rw [if_neg c4] at H
    obtain ⟨c4b0, c4b1⟩ := neB_ c4
    simp only [Option.some.injEq, Prod.mk.injEq] at H
    obtain ⟨rfl, rfl⟩ := H
    go_enter Try.func12, Try.ntmps12
    go_wp2_with (first | ((with_reducible refine gate_dst (N := 2) rfl ?_); refine box_event ?hg (N := 2) ?hd (cs := #[.int .i64 a0_0, .string a0_1, .slice A0_2 l0_2.length c0_2, .int .i64 a0_3, .slice A0_4 l0_4.length c0_4, .slice A0_5 l0_5.length c0_5]) (t := 29) ?hr ?_; (case hd => rfl); (case hg => rfl); (case hr => first | (go_simp; done) | (go_simp; rfl)); intro gb259 hg w49 hbox hb; have n0_ := bs_ (be_ HB) hb; have n1_ := Aside0.mk (hbox); have n2_ := gs_ hg (be_ HB); have n3_ := gs_ hg (be_ HB); clear HB; have HB := n0_; have BK259 := n1_; have GW259 := n2_; have GE259 := n3_; clear n0_ n1_ n2_ n3_; clear hb hbox hg; have hcz50_0 : w49.cell? ⟨gb259, 0, none⟩ = some (.int .i64 a0_0) := (blk_cell BK259.out 0).trans rfl; have hcz50_1 : w49.cell? ⟨gb259, 1, none⟩ = some (.string a0_1) := (blk_cell BK259.out 1).trans rfl; have hcz50_2 : w49.cell? ⟨gb259, 2, none⟩ = some (.slice A0_2 l0_2.length c0_2) := (blk_cell BK259.out 2).trans rfl; have hcz50_3 : w49.cell? ⟨gb259, 3, none⟩ = some (.int .i64 a0_3) := (blk_cell BK259.out 3).trans rfl; have hcz50_4 : w49.cell? ⟨gb259, 4, none⟩ = some (.slice A0_4 l0_4.length c0_4) := (blk_cell BK259.out 4).trans rfl; have hcz50_5 : w49.cell? ⟨gb259, 5, none⟩ = some (.slice A0_5 l0_5.length c0_5) := (blk_cell BK259.out 5).trans rfl; have hfz50_0 := blk_frozen BK259.out 0; have hfz50_1 := blk_frozen BK259.out 1; have hfz50_2 := blk_frozen BK259.out 2; have hfz50_3 := blk_frozen BK259.out 3; have hfz50_4 := blk_frozen BK259.out 4; have hfz50_5 := blk_frozen BK259.out 5) | ((with_reducible refine gate_callee (f := 15) rfl ?_); refine goesL_ (some 10) rfl rfl Try.func15 (by kernel_rfl) rfl #[.agg #[.int .i64 a0_0, .string a0_1, .slice A0_2 l0_2.length c0_2, .int .i64 a0_3, .slice A0_4 l0_4.length c0_4, .slice A0_5 l0_5.length c0_5]] rfl ga_ ?_; (with_reducible refine (guard_Check.calls k a0_0 a0_1 _ _ l0_2 a0_3 _ _ l0_4 _ _ l0_5 t260 _ ?side1 ?side2 ?side3 ?side4 ?side5 ?side6 A3.out).mono ?_); (case side1 => repeat (first | exact (Kd.C_below HR0_2.out HB.out) | (with_reducible refine Kd.C_alloc ?_ _) | (with_reducible refine Kd.C_drewN ?_ _) | (with_reducible refine Kd.C_drew ?_))); (case side2 => exact HC0_2.out); (case side3 => repeat (first | exact (Kd.C_below HR0_4.out HB.out) | (with_reducible refine Kd.C_alloc ?_ _) | (with_reducible refine Kd.C_drewN ?_ _) | (with_reducible refine Kd.C_drew ?_))); (case side4 => exact HC0_4.out); (case side5 => repeat (first | exact (Kd.C_below HR0_5.out HB.out) | (with_reducible refine Kd.C_alloc ?_ _) | (with_reducible refine Kd.C_drewN ?_ _) | (with_reducible refine Kd.C_drew ?_))); (case side6 => exact HC0_5.out); rintro e w51 ⟨rfl, hb⟩; refine ⟨_, rfl, ?_⟩; have n0_ := bb_ (bu_ BK259) hb; have n1_ := bs_ (be_ HB) hb; clear BK259; clear HB; have BK259 := n0_; have HB := n1_; clear n0_ n1_; (try clear hcz50_0 hcz50_1 hcz50_2 hcz50_3 hcz50_4 hcz50_5 hfz50_0 hfz50_1 hfz50_2 hfz50_3 hfz50_4 hfz50_5); (try clear hb); (try clear hb2); (try clear hk); (try clear hi)))
    go_ret2
    exact ⟨by first | rfl | (simp [errW_none, errW_some] <;> rfl) | (simp [*, errW_none, errW_some] <;> rfl), by repeat (first | (with_reducible first | exact HB.out | apply below_alloc | apply pw_below_drewN | apply below_drew1 | refine below_set ?_ GE259.out) | exact HB.out)⟩
end Go.Proofs.Ytaopajmpifenoaa.P
end
section
namespace Go.Proofs.Ytaopajmpifenoaa.P
open Go.RowKit Go.Proofs.YtaopajmpifenoaaW.PrintWords Go.Proofs.YtaopajmpifenoaaW.PrintLast Go.Proofs.YtaopajmpifenoaaW.PrintMore
attribute [local go_sem] max2_int min2_int max_two min_two max_three min_three max_four min_four
set_option linter.unusedVariables false
set_option linter.unusedSimpArgs false
def constableref01_In.f (a0 : Int) (a1 : Int) (a2 : Int) : Option (Bool) := if a0 ≥ a1 then (some (decide (a0 ≤ a2))) else (some false)
set_option maxHeartbeats 8000000 in
set_option maxRecDepth 100000 in
theorem constableref01_In.calls (a0 : Int) (a1 : Int) (a2 : Int) (r : Bool) (w : World) (h : constableref01_In.f a0 a1 a2 = some r) :
    Calls Try.prog 29 #[.int .i64 a0, .int .i64 a1, .int .i64 a2] w fun e w' => e = .returned (.bool r) ∧ Drawn0 w w' := by
  have H : (if a0 ≥ a1 then (some (decide (a0 ≤ a2))) else (some false)) = some r := h
  clear h
  by_cases c4 : a0 ≥ a1
  · rw [if_pos c4] at H
    have c4b0 : decide (a1 ≤ a0) = true := decide_eq_true c4
    clear c4
    obtain rfl := Option.some.inj H
    go_enter Try.func29, Try.ntmps29
    go_wp2
    go_ret
    exact rz_
  · rw [if_neg c4] at H
    have c4b0 : decide (a1 ≤ a0) = false := decide_eq_false c4
    clear c4
    obtain rfl := Option.some.inj H
    go_enter Try.func29, Try.ntmps29
    go_wp2
    go_ret
    exact rz_
end Go.Proofs.Ytaopajmpifenoaa.P
end
section
namespace Go.Proofs.Ytaopajmpifenoaa.P
open Go.RowKit Go.Proofs.YtaopajmpifenoaaW.PrintWords Go.Proofs.YtaopajmpifenoaaW.PrintLast Go.Proofs.YtaopajmpifenoaaW.PrintMore
attribute [local go_sem] max2_int min2_int max_two min_two max_three min_three max_four min_four
set_option linter.unusedVariables false
set_option linter.unusedSimpArgs false
def constableref01_Upper.f (a0 : Int) : Option (Bool) := if a0 ≥ 65 then (some (decide (a0 ≤ 90))) else (some false)
set_option maxHeartbeats 8000000 in
set_option maxRecDepth 100000 in
theorem constableref01_Upper.calls (a0 : Int) (r : Bool) (w : World) (h : constableref01_Upper.f a0 = some r) :
    Calls Try.prog 48 #[.int .u8 a0] w fun e w' => e = .returned (.bool r) ∧ Drawn0 w w' := by
  have H : (if a0 ≥ 65 then (some (decide (a0 ≤ 90))) else (some false)) = some r := h
  clear h
  by_cases c2 : a0 ≥ 65
  · rw [if_pos c2] at H
    have c2b0 : decide (65 ≤ a0) = true := decide_eq_true c2
    clear c2
    obtain rfl := Option.some.inj H
    go_enter Try.func48, Try.ntmps48
    go_wp2
    go_ret
    exact rz_
  · rw [if_neg c2] at H
    have c2b0 : decide (65 ≤ a0) = false := decide_eq_false c2
    clear c2
    obtain rfl := Option.some.inj H
    go_enter Try.func48, Try.ntmps48
    go_wp2
    go_ret
    exact rz_
end Go.Proofs.Ytaopajmpifenoaa.P
end
section
namespace Go.Proofs.Ytaopajmpifenoaa.P
open Go.RowKit Go.Proofs.YtaopajmpifenoaaW.PrintWords Go.Proofs.YtaopajmpifenoaaW.PrintLast Go.Proofs.YtaopajmpifenoaaW.PrintMore
attribute [local go_sem] max2_int min2_int max_two min_two max_three min_three max_four min_four
set_option linter.unusedVariables false
set_option linter.unusedSimpArgs false
def constableref01_Lower.f (a0 : Int) : Option (Bool) := if a0 ≥ 97 then (some (decide (a0 ≤ 122))) else (some false)
set_option maxHeartbeats 8000000 in
set_option maxRecDepth 100000 in
theorem constableref01_Lower.calls (a0 : Int) (r : Bool) (w : World) (h : constableref01_Lower.f a0 = some r) :
    Calls Try.prog 49 #[.int .u8 a0] w fun e w' => e = .returned (.bool r) ∧ Drawn0 w w' := by
  have H : (if a0 ≥ 97 then (some (decide (a0 ≤ 122))) else (some false)) = some r := h
  clear h
  by_cases c2 : a0 ≥ 97
  · rw [if_pos c2] at H
    have c2b0 : decide (97 ≤ a0) = true := decide_eq_true c2
    clear c2
    obtain rfl := Option.some.inj H
    go_enter Try.func49, Try.ntmps49
    go_wp2
    go_ret
    exact rz_
  · rw [if_neg c2] at H
    have c2b0 : decide (97 ≤ a0) = false := decide_eq_false c2
    clear c2
    obtain rfl := Option.some.inj H
    go_enter Try.func49, Try.ntmps49
    go_wp2
    go_ret
    exact rz_
end Go.Proofs.Ytaopajmpifenoaa.P
end
section
namespace Go.Proofs.Ytaopajmpifenoaa.P
open Go.RowKit Go.Proofs.YtaopajmpifenoaaW.PrintWords Go.Proofs.YtaopajmpifenoaaW.PrintLast Go.Proofs.YtaopajmpifenoaaW.PrintMore
attribute [local go_sem] max2_int min2_int max_two min_two max_three min_three max_four min_four
set_option linter.unusedVariables false
set_option linter.unusedSimpArgs false
def constableref01_Digit.f (a0 : Int) : Option (Bool) := if a0 ≥ 48 then (some (decide (a0 ≤ 57))) else (some false)
set_option maxHeartbeats 8000000 in
set_option maxRecDepth 100000 in
theorem constableref01_Digit.calls (a0 : Int) (r : Bool) (w : World) (h : constableref01_Digit.f a0 = some r) :
    Calls Try.prog 62 #[.int .u8 a0] w fun e w' => e = .returned (.bool r) ∧ Drawn0 w w' := by
  have H : (if a0 ≥ 48 then (some (decide (a0 ≤ 57))) else (some false)) = some r := h
  clear h
  by_cases c2 : a0 ≥ 48
  · rw [if_pos c2] at H
    have c2b0 : decide (48 ≤ a0) = true := decide_eq_true c2
    clear c2
    obtain rfl := Option.some.inj H
    go_enter Try.func62, Try.ntmps62
    go_wp2
    go_ret
    exact rz_
  · rw [if_neg c2] at H
    have c2b0 : decide (48 ≤ a0) = false := decide_eq_false c2
    clear c2
    obtain rfl := Option.some.inj H
    go_enter Try.func62, Try.ntmps62
    go_wp2
    go_ret
    exact rz_
end Go.Proofs.Ytaopajmpifenoaa.P
end
section
namespace Go.Proofs.Ytaopajmpifenoaa.P
open Go.RowKit Go.Proofs.YtaopajmpifenoaaW.PrintWords Go.Proofs.YtaopajmpifenoaaW.PrintLast Go.Proofs.YtaopajmpifenoaaW.PrintMore
attribute [local go_sem] max2_int min2_int max_two min_two max_three min_three max_four min_four
set_option linter.unusedVariables false
set_option linter.unusedSimpArgs false
def constableref01_inner.f (a0 : Int) : Option (Bool) := (constableref01_Lower.f a0).bind fun t161 => (if t161 = true then (some true) else ((constableref01_Upper.f a0).bind fun t162 => (if t162 = true then (some true) else ((constableref01_Digit.f a0).bind fun t163 => (if t163 = true then (some true) else (some (a0 == 95)))))))
set_option maxHeartbeats 8000000 in
set_option maxRecDepth 100000 in
theorem constableref01_inner.calls (a0 : Int) (r : Bool) (w : World) (h : constableref01_inner.f a0 = some r) :
    Calls Try.prog 50 #[.int .u8 a0] w fun e w' => e = .returned (.bool r) ∧ Drawn0 w w' := by
  have H : ((constableref01_Lower.f a0).bind fun t161 => (if t161 = true then (some true) else ((constableref01_Upper.f a0).bind fun t162 => (if t162 = true then (some true) else ((constableref01_Digit.f a0).bind fun t163 => (if t163 = true then (some true) else (some (a0 == 95)))))))) = some r := h
  clear h
  replace H := Option.bind_eq_some_iff.mp H
  obtain ⟨t161, A20, H⟩ := H
  replace H : (if t161 = true then (some true) else ((constableref01_Upper.f a0).bind fun t162 => (if t162 = true then (some true) else ((constableref01_Digit.f a0).bind fun t163 => (if t163 = true then (some true) else (some (a0 == 95))))))) = some r := H
  have A2 := Aside0.mk A20
  clear A20
  by_cases c3 : t161 = true
  · subst c3
    have H1 : (some true) = some r := by rw [if_pos rfl] at H; exact H
    clear H
    have H := H1
    clear H1
    obtain rfl := Option.some.inj H
    go_enter Try.func50, Try.ntmps50
    go_wp2_with (first | ((with_reducible refine gate_callee (f := 49) rfl ?_); refine goesL_ (some 4) rfl rfl Try.func49 (by kernel_rfl) rfl #[.int .u8 a0] rfl ga_ ?_; (with_reducible refine (constableref01_Lower.calls a0 true _ A2.out).mono ?_); rintro e w' ⟨rfl, ⟨nd, rfl⟩⟩; refine ⟨_, rfl, ?_⟩))
    go_ret
    exact rz_
  · replace c3 := Bool.eq_false_iff.mpr c3
    subst c3
    have H1 : ((constableref01_Upper.f a0).bind fun t162 => (if t162 = true then (some true) else ((constableref01_Digit.f a0).bind fun t163 => (if t163 = true then (some true) else (some (a0 == 95)))))) = some r := by rw [if_neg (show ¬ (false = true) by decide)] at H; exact H
    clear H
    have H := H1
    clear H1
    replace H := Option.bind_eq_some_iff.mp H
    obtain ⟨t162, A40, H⟩ := H
    replace H : (if t162 = true then (some true) else ((constableref01_Digit.f a0).bind fun t163 => (if t163 = true then (some true) else (some (a0 == 95))))) = some r := H
    have A4 := Aside0.mk A40
    clear A40
    by_cases c5 : t162 = true
    · subst c5
      have H1 : (some true) = some r := by rw [if_pos rfl] at H; exact H
      clear H
      have H := H1
      clear H1
      obtain rfl := Option.some.inj H
      go_enter Try.func50, Try.ntmps50
      go_wp2_with (first | ((with_reducible refine gate_callee (f := 49) rfl ?_); refine goesL_ (some 4) rfl rfl Try.func49 (by kernel_rfl) rfl #[.int .u8 a0] rfl ga_ ?_; (with_reducible refine (constableref01_Lower.calls a0 false _ A2.out).mono ?_); rintro e w' ⟨rfl, ⟨nd, rfl⟩⟩; refine ⟨_, rfl, ?_⟩) | (go_at_call 48; (with_reducible refine (constableref01_Upper.calls a0 true _ A4.out).mono ?_); rintro e w' ⟨rfl, ⟨nd, rfl⟩⟩))
      go_ret
      exact rz_
    · replace c5 := Bool.eq_false_iff.mpr c5
      subst c5
      have H1 : ((constableref01_Digit.f a0).bind fun t163 => (if t163 = true then (some true) else (some (a0 == 95)))) = some r := by rw [if_neg (show ¬ (false = true) by decide)] at H; exact H
      clear H
      have H := H1
      clear H1
      replace H := Option.bind_eq_some_iff.mp H
      obtain ⟨t163, A60, H⟩ := H
      replace H : (if t163 = true then (some true) else (some (a0 == 95))) = some r := H
      have A6 := Aside0.mk A60
      clear A60
      by_cases c7 : t163 = true
      · subst c7
        have H1 : (some true) = some r := by rw [if_pos rfl] at H; exact H
        clear H
        have H := H1
        clear H1
        obtain rfl := Option.some.inj H
        go_enter Try.func50, Try.ntmps50
        go_wp2_with (first | ((with_reducible refine gate_callee (f := 49) rfl ?_); refine goesL_ (some 4) rfl rfl Try.func49 (by kernel_rfl) rfl #[.int .u8 a0] rfl ga_ ?_; (with_reducible refine (constableref01_Lower.calls a0 false _ A2.out).mono ?_); rintro e w' ⟨rfl, ⟨nd, rfl⟩⟩; refine ⟨_, rfl, ?_⟩) | (go_at_call 48; (with_reducible refine (constableref01_Upper.calls a0 false _ A4.out).mono ?_); rintro e w' ⟨rfl, ⟨nd, rfl⟩⟩) | (go_at_call 62; (with_reducible refine (constableref01_Digit.calls a0 true _ A6.out).mono ?_); rintro e w' ⟨rfl, ⟨nd, rfl⟩⟩))
        go_ret
        exact rz_
      · replace c7 := Bool.eq_false_iff.mpr c7
        subst c7
        have H1 : (some (a0 == 95)) = some r := by rw [if_neg (show ¬ (false = true) by decide)] at H; exact H
        clear H
        have H := H1
        clear H1
        obtain rfl := Option.some.inj H
        go_enter Try.func50, Try.ntmps50
        go_wp2_with (first | ((with_reducible refine gate_callee (f := 49) rfl ?_); refine goesL_ (some 4) rfl rfl Try.func49 (by kernel_rfl) rfl #[.int .u8 a0] rfl ga_ ?_; (with_reducible refine (constableref01_Lower.calls a0 false _ A2.out).mono ?_); rintro e w' ⟨rfl, ⟨nd, rfl⟩⟩; refine ⟨_, rfl, ?_⟩) | (go_at_call 48; (with_reducible refine (constableref01_Upper.calls a0 false _ A4.out).mono ?_); rintro e w' ⟨rfl, ⟨nd, rfl⟩⟩) | (go_at_call 62; (with_reducible refine (constableref01_Digit.calls a0 false _ A6.out).mono ?_); rintro e w' ⟨rfl, ⟨nd, rfl⟩⟩))
        go_ret
        exact rz_
end Go.Proofs.Ytaopajmpifenoaa.P
end
section
namespace Go.Proofs.Ytaopajmpifenoaa.P
open Go.RowKit Go.Proofs.YtaopajmpifenoaaW.PrintWords Go.Proofs.YtaopajmpifenoaaW.PrintLast Go.Proofs.YtaopajmpifenoaaW.PrintMore
attribute [local go_sem] max2_int min2_int max_two min_two max_three min_three max_four min_four
set_option linter.unusedVariables false
set_option linter.unusedSimpArgs false
mutual
def constableref01_Word.j0 : Nat → ByteArray → Bool → Option (Bool)
  | 0, _, _ => none
  | k + 1, x0, x26 => if x26 = true then (some false) else (constableref01_Word.l0 k x0 0)
def constableref01_Word.l0 : Nat → ByteArray → Int → Option (Bool)
  | 0, _, _ => none
  | k + 1, x0, x5 => if x5 < (x0.size : Int) then (if 0 ≤ x5 then ((constableref01_inner.f (bt x0 x5)).bind fun t167 => (if t167 = true then (constableref01_Word.l0 k x0 (wrap64 (x5 + 1))) else (some false))) else (none)) else (some true)
end
def constableref01_Word.f (k : Nat) (a0 : ByteArray) (a1 : Bool) : Option (Bool) := (constableref01_In.f (a0.size : Int) 1 24).bind fun t164 => (if t164 = true then (if 0 < (a0.size : Int) then ((constableref01_Upper.f (bt a0 0)).bind fun t165 => (if (a1 != t165) = true then (constableref01_Word.j0 k a0 true) else (if a1 = true then (constableref01_Word.j0 k a0 false) else ((constableref01_Lower.f (bt a0 0)).bind fun t166 => (constableref01_Word.j0 k a0 (!t166)))))) else (none)) else (constableref01_Word.j0 k a0 true))
theorem constableref01_Word.mono_l : ∀ k, (∀ y0 y1, LeO (constableref01_Word.j0 k y0 y1) (constableref01_Word.j0 (k + 1) y0 y1)) ∧ (∀ y0 y1, LeO (constableref01_Word.l0 k y0 y1) (constableref01_Word.l0 (k + 1) y0 y1))
  | 0 => ⟨fun _ _ r h => by simp [constableref01_Word.j0] at h, fun _ _ r h => by simp [constableref01_Word.l0] at h⟩
  | k + 1 => by
    obtain ⟨ih0, ih1⟩ := constableref01_Word.mono_l k
    refine ⟨?_, ?_⟩
    · intro y0 y1
      unfold constableref01_Word.j0
      repeat' first
      | (with_reducible exact ih0 _ _)
      | (with_reducible exact ih1 _ _)
      | (with_reducible exact LeO.refl _)
      | (with_reducible exact LeO.none _)
      | (with_reducible refine LeO.ite ?_ ?_)
      | (with_reducible refine LeO.bind ?_ (fun _ => ?_))
      | exact ih0 _ _
      | exact ih1 _ _
      | exact LeO.none _
      | refine LeO.ite ?_ ?_
      | refine LeO.bind ?_ (fun _ => ?_)
    · intro y0 y1
      unfold constableref01_Word.l0
      repeat' first
      | (with_reducible exact ih0 _ _)
      | (with_reducible exact ih1 _ _)
      | (with_reducible exact LeO.refl _)
      | (with_reducible exact LeO.none _)
      | (with_reducible refine LeO.ite ?_ ?_)
      | (with_reducible refine LeO.bind ?_ (fun _ => ?_))
      | exact ih0 _ _
      | exact ih1 _ _
      | exact LeO.none _
      | refine LeO.ite ?_ ?_
      | refine LeO.bind ?_ (fun _ => ?_)
theorem constableref01_Word.mono : ∀ a0 a1 k, LeO (constableref01_Word.f k a0 a1) (constableref01_Word.f (k + 1) a0 a1) := by
  intro a0 a1 k
  obtain ⟨ih0, ih1⟩ := constableref01_Word.mono_l k
  unfold constableref01_Word.f
  repeat' first
      | (with_reducible exact ih0 _ _)
      | (with_reducible exact ih1 _ _)
      | (with_reducible exact LeO.refl _)
      | (with_reducible exact LeO.none _)
      | (with_reducible refine LeO.ite ?_ ?_)
      | (with_reducible refine LeO.bind ?_ (fun _ => ?_))
      | exact ih0 _ _
      | exact ih1 _ _
      | exact LeO.none _
      | refine LeO.ite ?_ ?_
      | refine LeO.bind ?_ (fun _ => ?_)
set_option maxHeartbeats 8000000 in
set_option maxRecDepth 100000 in
theorem constableref01_Word.calls (k : Nat) (a0 : ByteArray) (a1 : Bool) (r : Bool) (w : World) (h : constableref01_Word.f k a0 a1 = some r) :
    Calls Try.prog 34 #[.string a0, .bool a1] w fun e w' => e = .returned (.bool r) ∧ Drawn0 w w' := by
  have H : ((constableref01_In.f (a0.size : Int) 1 24).bind fun t164 => (if t164 = true then (if 0 < (a0.size : Int) then ((constableref01_Upper.f (bt a0 0)).bind fun t165 => (if (a1 != t165) = true then (constableref01_Word.j0 k a0 true) else (if a1 = true then (constableref01_Word.j0 k a0 false) else ((constableref01_Lower.f (bt a0 0)).bind fun t166 => (constableref01_Word.j0 k a0 (!t166)))))) else (none)) else (constableref01_Word.j0 k a0 true))) = some r := h
  clear h
  have HC3 := Aside0.mk H
  clear H
  go_enter Try.func34, Try.ntmps34
  go_upto_region 1 with (fail)
  go_cut [26] (fun v26 wc => ∃ (kq : Nat) (x26_2 : Bool), v26 = .bool x26_2 ∧ Aside0 (constableref01_Word.j0 kq a0 x26_2 = some r) ∧ Aside0 (kq ≤ k) ∧ Drawn0 w wc)
  case first =>
    have H := HC3.out
    clear HC3
    replace H := Option.bind_eq_some_iff.mp H
    obtain ⟨t164, A40, H⟩ := H
    replace H : (if t164 = true then (if 0 < (a0.size : Int) then ((constableref01_Upper.f (bt a0 0)).bind fun t165 => (if (a1 != t165) = true then (constableref01_Word.j0 k a0 true) else (if a1 = true then (constableref01_Word.j0 k a0 false) else ((constableref01_Lower.f (bt a0 0)).bind fun t166 => (constableref01_Word.j0 k a0 (!t166)))))) else (none)) else (constableref01_Word.j0 k a0 true)) = some r := H
    have A4 := Aside0.mk A40
    clear A40
    by_cases c5 : t164 = true
    · subst c5
      have H1 : (if 0 < (a0.size : Int) then ((constableref01_Upper.f (bt a0 0)).bind fun t165 => (if (a1 != t165) = true then (constableref01_Word.j0 k a0 true) else (if a1 = true then (constableref01_Word.j0 k a0 false) else ((constableref01_Lower.f (bt a0 0)).bind fun t166 => (constableref01_Word.j0 k a0 (!t166)))))) else (none)) = some r := by rw [if_pos rfl] at H; exact H
      clear H
      have H := H1
      clear H1
      by_cases c6 : 0 < (a0.size : Int)
      · rw [if_pos c6] at H
        have c6b0 : decide (0 < (a0.size : Int)) = true := decide_eq_true c6
        have c6b1 : decide (0 < a0.size) = true := decide_eq_true (by omega)
        clear c6
        (first | rw [c6b0] | (simp only [i64_w, i32_w]; rw [c6b0]) | skip)
        replace H := Option.bind_eq_some_iff.mp H
        obtain ⟨t165, A80, H⟩ := H
        replace H : (if (a1 != t165) = true then (constableref01_Word.j0 k a0 true) else (if a1 = true then (constableref01_Word.j0 k a0 false) else ((constableref01_Lower.f (bt a0 0)).bind fun t166 => (constableref01_Word.j0 k a0 (!t166))))) = some r := H
        have A8 := Aside0.mk A80
        clear A80
        by_cases c9 : (a1 != t165) = true
        · rw [if_pos c9] at H
          have c9b0 : (a1 != t165) = true := c9
          (try (have c9b1 : decide (a1 = t165) = false := by simpa using c9))
          (try (have c9b2 : (a1 == t165) = false := by simpa using c9))
          (try (have c9b3 : ¬ (a1 = t165) := by simpa using c9))
          clear c9
          have H' := Aside0.mk H
          clear H
          go_wp2_with (first | ((with_reducible refine gate_callee (f := 29) rfl ?_); refine goesL_ (some 8) rfl rfl Try.func29 (by kernel_rfl) rfl #[.int .i64 (a0.size : Int), .int .i64 1, .int .i64 24] rfl ga_ ?_; (with_reducible refine (constableref01_In.calls (a0.size : Int) 1 24 true _ A4.out).mono ?_); rintro e w' ⟨rfl, ⟨nd, rfl⟩⟩; refine ⟨_, rfl, ?_⟩; have p7 : 0 ≤ (0 : Int) := (by omega); have q7 : 0 < a0.size := (by have : (0 : Int) < (a0.size : Int) := dt_; omega); have hx7 : ∀ h : 0 < a0.size, ((a0[0]'h).toNat : Int) = bt a0 0 := bt_at a0 0; clear p7; have qi7 : (0 < (a0.size : Int)) = True := eq_true dt_; replace q7 := eq_true q7) | (go_at_call 48; (with_reducible refine (constableref01_Upper.calls (bt a0 0) t165 _ A8.out).mono ?_); rintro e w' ⟨rfl, ⟨nd, rfl⟩⟩))
          go_meet
          case rel => exact ⟨_, (true), ra_, H', ⟨by first | omega | exact Nat.le_refl _⟩, dz_⟩
        · rw [if_neg c9] at H
          have c9b0 : (a1 != t165) = false := by simpa using c9
          (try (have c9b1 : decide (a1 = t165) = true := by simpa using c9))
          (try (have c9b2 : (a1 == t165) = true := by simpa using c9))
          clear c9
          by_cases c10 : a1 = true
          · subst c10
            have H1 : (constableref01_Word.j0 k a0 false) = some r := by rw [if_pos rfl] at H; exact H
            clear H
            have H := H1
            clear H1
            have H' := Aside0.mk H
            clear H
            go_wp2_with (first | ((with_reducible refine gate_callee (f := 29) rfl ?_); refine goesL_ (some 8) rfl rfl Try.func29 (by kernel_rfl) rfl #[.int .i64 (a0.size : Int), .int .i64 1, .int .i64 24] rfl ga_ ?_; (with_reducible refine (constableref01_In.calls (a0.size : Int) 1 24 true _ A4.out).mono ?_); rintro e w' ⟨rfl, ⟨nd, rfl⟩⟩; refine ⟨_, rfl, ?_⟩; have p7 : 0 ≤ (0 : Int) := (by omega); have q7 : 0 < a0.size := (by have : (0 : Int) < (a0.size : Int) := dt_; omega); have hx7 : ∀ h : 0 < a0.size, ((a0[0]'h).toNat : Int) = bt a0 0 := bt_at a0 0; clear p7; have qi7 : (0 < (a0.size : Int)) = True := eq_true dt_; replace q7 := eq_true q7) | (go_at_call 48; (with_reducible refine (constableref01_Upper.calls (bt a0 0) t165 _ A8.out).mono ?_); rintro e w' ⟨rfl, ⟨nd, rfl⟩⟩))
            go_meet
            case rel => exact ⟨_, (false), ra_, H', ⟨by first | omega | exact Nat.le_refl _⟩, dz_⟩
          · replace c10 := Bool.eq_false_iff.mpr c10
            subst c10
            have H1 : ((constableref01_Lower.f (bt a0 0)).bind fun t166 => (constableref01_Word.j0 k a0 (!t166))) = some r := by rw [if_neg (show ¬ (false = true) by decide)] at H; exact H
            clear H
            have H := H1
            clear H1
            replace H := Option.bind_eq_some_iff.mp H
            obtain ⟨t166, A120, H⟩ := H
            replace H : (constableref01_Word.j0 k a0 (!t166)) = some r := H
            have A12 := Aside0.mk A120
            clear A120
            have H' := Aside0.mk H
            clear H
            go_wp2_with (first | ((with_reducible refine gate_callee (f := 29) rfl ?_); refine goesL_ (some 8) rfl rfl Try.func29 (by kernel_rfl) rfl #[.int .i64 (a0.size : Int), .int .i64 1, .int .i64 24] rfl ga_ ?_; (with_reducible refine (constableref01_In.calls (a0.size : Int) 1 24 true _ A4.out).mono ?_); rintro e w' ⟨rfl, ⟨nd, rfl⟩⟩; refine ⟨_, rfl, ?_⟩; have p7 : 0 ≤ (0 : Int) := (by omega); have q7 : 0 < a0.size := (by have : (0 : Int) < (a0.size : Int) := dt_; omega); have hx7 : ∀ h : 0 < a0.size, ((a0[0]'h).toNat : Int) = bt a0 0 := bt_at a0 0; clear p7; have qi7 : (0 < (a0.size : Int)) = True := eq_true dt_; replace q7 := eq_true q7) | (go_at_call 48; (with_reducible refine (constableref01_Upper.calls (bt a0 0) t165 _ A8.out).mono ?_); rintro e w' ⟨rfl, ⟨nd, rfl⟩⟩; have p11 : 0 ≤ (0 : Int) := (by omega); have q11 : 0 < a0.size := (by have : (0 : Int) < (a0.size : Int) := dt_; omega); have hx11 : ∀ h : 0 < a0.size, ((a0[0]'h).toNat : Int) = bt a0 0 := bt_at a0 0; clear p11; have qi11 : (0 < (a0.size : Int)) = True := eq_true dt_; replace q11 := eq_true q11) | (go_at_call 49; (with_reducible refine (constableref01_Lower.calls (bt a0 0) t166 _ A12.out).mono ?_); rintro e w' ⟨rfl, ⟨nd, rfl⟩⟩))
            go_meet
            case rel => exact ⟨_, (!t166), ra_, H', ⟨by first | omega | exact Nat.le_refl _⟩, dz_⟩
      · rw [if_neg c6] at H
        exact absurd H (by simp)
    · replace c5 := Bool.eq_false_iff.mpr c5
      subst c5
      have H1 : (constableref01_Word.j0 k a0 true) = some r := by rw [if_neg (show ¬ (false = true) by decide)] at H; exact H
      clear H
      have H := H1
      clear H1
      have H' := Aside0.mk H
      clear H
      go_wp2_with (first | ((with_reducible refine gate_callee (f := 29) rfl ?_); refine goesL_ (some 8) rfl rfl Try.func29 (by kernel_rfl) rfl #[.int .i64 (a0.size : Int), .int .i64 1, .int .i64 24] rfl ga_ ?_; (with_reducible refine (constableref01_In.calls (a0.size : Int) 1 24 false _ A4.out).mono ?_); rintro e w' ⟨rfl, ⟨nd, rfl⟩⟩; refine ⟨_, rfl, ?_⟩))
      go_meet
      case rel => exact ⟨_, (true), ra_, H', ⟨by first | omega | exact Nat.le_refl _⟩, dz_⟩
  case rest =>
    clear HC3
    try clear c1
    try clear p1
    try clear q1
    try clear hx1
    try clear qi1
    try clear c2
    try clear p2
    try clear c3
    try clear c5
    try clear c6
    try clear c6b0
    try clear c6b1
    try clear p7
    try clear q7
    try clear hx7
    try clear qi7
    try clear c9
    try clear c9b0
    try clear c9b1
    try clear c9b2
    try clear c10
    try clear p11
    try clear q11
    try clear hx11
    try clear qi11
    try clear p11
    try clear p7
    try clear q11
    try clear q7
    obtain ⟨kq, x26_2, rfl, HA, HJ2, ⟨mc2, rfl⟩⟩ := hcut
    cases kq with
    | zero => exact absurd HA.out (by simp [constableref01_Word.j0])
    | succ kj2 =>
      have H := HA.out
      clear HA
      simp only [constableref01_Word.j0] at H
      by_cases c13 : x26_2 = true
      · subst c13
        have H1 : (some false) = some r := by rw [if_pos rfl] at H; exact H
        clear H
        have H := H1
        clear H1
        obtain rfl := Option.some.inj H
        go_wp2
        go_ret
        exact rz_
      · replace c13 := Bool.eq_false_iff.mpr c13
        subst c13
        have H1 : (constableref01_Word.l0 kj2 a0 0) = some r := by rw [if_neg (show ¬ (false = true) by decide)] at H; exact H
        clear H
        have H := H1
        clear H1
        have H' := Aside0.mk H
        clear H
        go_wp2
        go_loopg [5] kj2 (fun kq v5 w' => ∃ (x5_2 : Int), v5 = .int .i64 x5_2 ∧ Aside0 (constableref01_Word.l0 kq a0 x5_2 = some r) ∧ Aside0 (kq ≤ kj2) ∧ Drawn0 w w')
        case atStart => exact ⟨(0), ra_, H', ⟨Nat.le_refl _⟩, dz_⟩
        case round =>
          clear H'
          try clear c1
          try clear p1
          try clear q1
          try clear hx1
          try clear qi1
          try clear c2
          try clear p2
          try clear c3
          try clear c5
          try clear c6
          try clear c6b0
          try clear c6b1
          try clear p7
          try clear q7
          try clear hx7
          try clear qi7
          try clear c9
          try clear c9b0
          try clear c9b1
          try clear c9b2
          try clear c10
          try clear p11
          try clear q11
          try clear hx11
          try clear qi11
          try clear c13
          try clear p1
          try clear p11
          try clear p2
          try clear p7
          try clear q1
          try clear q11
          try clear q7
          obtain ⟨x5_2, rfl, HA, HK2, ⟨m2, rfl⟩⟩ := hrel
          cases gk with
          | zero => exact absurd HA.out (by simp [constableref01_Word.l0])
          | succ k2 =>
            have H := HA.out
            clear HA
            simp only [constableref01_Word.l0] at H
            by_cases c14 : x5_2 < (a0.size : Int)
            · rw [if_pos c14] at H
              have c14b0 : decide (x5_2 < (a0.size : Int)) = true := decide_eq_true c14
              clear c14
              by_cases c15 : 0 ≤ x5_2
              · rw [if_pos c15] at H
                have c15b0 : decide (0 ≤ x5_2) = true := decide_eq_true c15
                clear c15
                replace H := Option.bind_eq_some_iff.mp H
                obtain ⟨t167, A170, H⟩ := H
                replace H : (if t167 = true then (constableref01_Word.l0 k2 a0 (wrap64 (x5_2 + 1))) else (some false)) = some r := H
                have A17 := Aside0.mk A170
                clear A170
                by_cases c18 : t167 = true
                · subst c18
                  have H1 : (constableref01_Word.l0 k2 a0 (wrap64 (x5_2 + 1))) = some r := by rw [if_pos rfl] at H; exact H
                  clear H
                  have H := H1
                  clear H1
                  have H' := Aside0.mk H
                  clear H
                  have p16 : 0 ≤ (x5_2 : Int) := dt_
                  have q16 : x5_2 < (a0.size : Int) := dt_
                  have hx16 := bt_at a0 x5_2
                  replace p16 := eq_true p16
                  replace q16 := eq_true q16
                  go_wp2_with (first | ((with_reducible refine gate_callee (f := 50) rfl ?_); refine goesL_ (some 36) rfl rfl Try.func50 (by kernel_rfl) rfl #[.int .u8 (bt a0 x5_2)] rfl ga_ ?_; (with_reducible refine (constableref01_inner.calls (bt a0 x5_2) true _ A17.out).mono ?_); rintro e w' ⟨rfl, ⟨nd, rfl⟩⟩; refine ⟨_, rfl, ?_⟩))
                  go_roundg k2
                  case measure => have := HJ2.out; have := HK2.out; omega
                  case rel => exact ⟨(wrap64 (x5_2 + 1)), ra_, H', ⟨by have := HJ2.out; have := HK2.out; omega⟩, dz_⟩
                · replace c18 := Bool.eq_false_iff.mpr c18
                  subst c18
                  have H1 : (some false) = some r := by rw [if_neg (show ¬ (false = true) by decide)] at H; exact H
                  clear H
                  have H := H1
                  clear H1
                  obtain rfl := Option.some.inj H
                  have p16 : 0 ≤ (x5_2 : Int) := dt_
                  have q16 : x5_2 < (a0.size : Int) := dt_
                  have hx16 := bt_at a0 x5_2
                  replace p16 := eq_true p16
                  replace q16 := eq_true q16
                  go_wp2_with (first | ((with_reducible refine gate_callee (f := 50) rfl ?_); refine goesL_ (some 36) rfl rfl Try.func50 (by kernel_rfl) rfl #[.int .u8 (bt a0 x5_2)] rfl ga_ ?_; (with_reducible refine (constableref01_inner.calls (bt a0 x5_2) false _ A17.out).mono ?_); rintro e w' ⟨rfl, ⟨nd, rfl⟩⟩; refine ⟨_, rfl, ?_⟩))
                  go_ret
                  exact rz_
              · rw [if_neg c15] at H
                exact absurd H (by simp)
            · rw [if_neg c14] at H
              have c14b0 : decide (x5_2 < (a0.size : Int)) = false := decide_eq_false c14
              clear c14
              obtain rfl := Option.some.inj H
              go_wp2
              go_ret
              exact rz_
end Go.Proofs.Ytaopajmpifenoaa.P
end
section
namespace Go.Proofs.Ytaopajmpifenoaa.P
open Go.RowKit Go.Proofs.YtaopajmpifenoaaW.PrintWords Go.Proofs.YtaopajmpifenoaaW.PrintLast Go.Proofs.YtaopajmpifenoaaW.PrintMore
attribute [local go_sem] max2_int min2_int max_two min_two max_three min_three max_four min_four
set_option linter.unusedVariables false
set_option linter.unusedSimpArgs false
mutual
def constableref01_Value.j0 : Nat → Bool → Int → Int → ByteArray → Option (Bool)
  | 0, _, _, _, _ => none
  | k + 1, x37, x169000, x169001, x169002 => if x37 = true then (some false) else (constableref01_Value.l0 k 0 x169000 x169001 x169002)
def constableref01_Value.l0 : Nat → Int → Int → Int → ByteArray → Option (Bool)
  | 0, _, _, _, _ => none
  | k + 1, x3, x169000, x169001, x169002 => if x3 < (x169002.size : Int) then (if 0 ≤ x3 then ((constableref01_In.f (wrap64 (bt x169002 x3)) 32 126).bind fun t171 => (if t171 = true then (constableref01_Value.l0 k (wrap64 (x3 + 1)) x169000 x169001 x169002) else (some false))) else (none)) else (some true)
end
def constableref01_Value.f (k : Nat) (a0_0 : Int) (a0_1 : Int) (a0_2 : ByteArray) : Option (Bool) := if a0_0 = 1 then ((constableref01_In.f a0_1 (-4611686018427387904) 4611686018427387904).bind fun t169 => (if t169 = true then (some ((a0_2.size : Int) == 0)) else (some false))) else (if a0_0 = 2 then (if a0_1 = 0 then ((constableref01_Word.f k a0_2 false).bind fun t170 => (some t170)) else (some false)) else (if a0_0 = 3 then (if a0_1 = 0 then (constableref01_Value.j0 k (decide ((a0_2.size : Int) > 60)) a0_0 a0_1 a0_2) else (constableref01_Value.j0 k true a0_0 a0_1 a0_2)) else (some false)))
theorem constableref01_Value.mono_l : ∀ k, (∀ y0 y1 y2 y3, LeO (constableref01_Value.j0 k y0 y1 y2 y3) (constableref01_Value.j0 (k + 1) y0 y1 y2 y3)) ∧ (∀ y0 y1 y2 y3, LeO (constableref01_Value.l0 k y0 y1 y2 y3) (constableref01_Value.l0 (k + 1) y0 y1 y2 y3))
  | 0 => ⟨fun _ _ _ _ r h => by simp [constableref01_Value.j0] at h, fun _ _ _ _ r h => by simp [constableref01_Value.l0] at h⟩
  | k + 1 => by
    obtain ⟨ih0, ih1⟩ := constableref01_Value.mono_l k
    refine ⟨?_, ?_⟩
    · intro y0 y1 y2 y3
      unfold constableref01_Value.j0
      repeat' first
      | (with_reducible exact ih0 _ _ _ _)
      | (with_reducible exact ih1 _ _ _ _)
      | (with_reducible exact constableref01_Word.mono _ _ _)
      | (with_reducible exact LeO.refl _)
      | (with_reducible exact LeO.none _)
      | (with_reducible refine LeO.ite ?_ ?_)
      | (with_reducible refine LeO.bind ?_ (fun _ => ?_))
      | exact ih0 _ _ _ _
      | exact ih1 _ _ _ _
      | exact constableref01_Word.mono _ _ _
      | exact LeO.none _
      | refine LeO.ite ?_ ?_
      | refine LeO.bind ?_ (fun _ => ?_)
    · intro y0 y1 y2 y3
      unfold constableref01_Value.l0
      repeat' first
      | (with_reducible exact ih0 _ _ _ _)
      | (with_reducible exact ih1 _ _ _ _)
      | (with_reducible exact constableref01_Word.mono _ _ _)
      | (with_reducible exact LeO.refl _)
      | (with_reducible exact LeO.none _)
      | (with_reducible refine LeO.ite ?_ ?_)
      | (with_reducible refine LeO.bind ?_ (fun _ => ?_))
      | exact ih0 _ _ _ _
      | exact ih1 _ _ _ _
      | exact constableref01_Word.mono _ _ _
      | exact LeO.none _
      | refine LeO.ite ?_ ?_
      | refine LeO.bind ?_ (fun _ => ?_)
theorem constableref01_Value.mono : ∀ a0 a1 a2 k, LeO (constableref01_Value.f k a0 a1 a2) (constableref01_Value.f (k + 1) a0 a1 a2) := by
  intro a0 a1 a2 k
  obtain ⟨ih0, ih1⟩ := constableref01_Value.mono_l k
  unfold constableref01_Value.f
  repeat' first
      | (with_reducible exact ih0 _ _ _ _)
      | (with_reducible exact ih1 _ _ _ _)
      | (with_reducible exact constableref01_Word.mono _ _ _)
      | (with_reducible exact LeO.refl _)
      | (with_reducible exact LeO.none _)
      | (with_reducible refine LeO.ite ?_ ?_)
      | (with_reducible refine LeO.bind ?_ (fun _ => ?_))
      | exact ih0 _ _ _ _
      | exact ih1 _ _ _ _
      | exact constableref01_Word.mono _ _ _
      | exact LeO.none _
      | refine LeO.ite ?_ ?_
      | refine LeO.bind ?_ (fun _ => ?_)
set_option maxHeartbeats 8000000 in
set_option maxRecDepth 100000 in
theorem constableref01_Value.calls (k : Nat) (a0_0 : Int) (a0_1 : Int) (a0_2 : ByteArray) (r : Bool) (w : World) (h : constableref01_Value.f k a0_0 a0_1 a0_2 = some r) :
    Calls Try.prog 19 #[.agg #[.int .i64 a0_0, .int .i64 a0_1, .string a0_2]] w fun e w' => e = .returned (.bool r) ∧ Below w.heap.size w w' := by
  have hu23 := Try.underlying23
  have HB := Aside0.mk (Below.refl w.heap.size w)
  have H : (if a0_0 = 1 then ((constableref01_In.f a0_1 (-4611686018427387904) 4611686018427387904).bind fun t169 => (if t169 = true then (some ((a0_2.size : Int) == 0)) else (some false))) else (if a0_0 = 2 then (if a0_1 = 0 then ((constableref01_Word.f k a0_2 false).bind fun t170 => (some t170)) else (some false)) else (if a0_0 = 3 then (if a0_1 = 0 then (constableref01_Value.j0 k (decide ((a0_2.size : Int) > 60)) a0_0 a0_1 a0_2) else (constableref01_Value.j0 k true a0_0 a0_1 a0_2)) else (some false)))) = some r := h
  clear h
  by_cases c2 : a0_0 = 1
  · rw [if_pos c2] at H
    obtain ⟨c2b0, c2b1⟩ := eqB_ c2
    clear c2
    replace H := Option.bind_eq_some_iff.mp H
    obtain ⟨t169, A30, H⟩ := H
    replace H : (if t169 = true then (some ((a0_2.size : Int) == 0)) else (some false)) = some r := H
    have A3 := Aside0.mk A30
    clear A30
    by_cases c4 : t169 = true
    · subst c4
      have H1 : (some ((a0_2.size : Int) == 0)) = some r := by rw [if_pos rfl] at H; exact H
      clear H
      have H := H1
      clear H1
      obtain rfl := Option.some.inj H
      go_enter Try.func19, Try.ntmps19
      go_wp2_with (first | ((with_reducible refine gate_dst (N := 1) rfl ?_); (try (refine gate_guard (by rfl) ?_; dsimp only)); refine box_event ?hg (N := 1) ?hd (cs := #[.int .i64 a0_0, .int .i64 a0_1, .string a0_2]) (t := 23) ?hr ?_; (case hd => rfl); (case hg => rfl); (case hr => first | (go_simp; done) | (go_simp; rfl)); intro gb168 hg w5 hbox hb; have n0_ := bs_ (be_ HB) hb; have n1_ := Aside0.mk (hbox); have n2_ := gs_ hg (be_ HB); have n3_ := gs_ hg (be_ HB); clear HB; have HB := n0_; have BK168 := n1_; have GW168 := n2_; have GE168 := n3_; clear n0_ n1_ n2_ n3_; clear hb hbox hg; have hcz6_0 : w5.cell? ⟨gb168, 0, none⟩ = some (.int .i64 a0_0) := (blk_cell BK168.out 0).trans rfl; have hcz6_1 : w5.cell? ⟨gb168, 1, none⟩ = some (.int .i64 a0_1) := (blk_cell BK168.out 1).trans rfl; have hcz6_2 : w5.cell? ⟨gb168, 2, none⟩ = some (.string a0_2) := (blk_cell BK168.out 2).trans rfl; have hfz6_0 := blk_frozen BK168.out 0; have hfz6_1 := blk_frozen BK168.out 1; have hfz6_2 := blk_frozen BK168.out 2) | ((with_reducible refine gate_callee (f := 29) rfl ?_); refine goesL_ (some 10) rfl rfl Try.func29 (by kernel_rfl) rfl #[.int .i64 a0_1, .int .i64 (-4611686018427387904), .int .i64 4611686018427387904] rfl ga_ ?_; (with_reducible refine (constableref01_In.calls a0_1 (-4611686018427387904) 4611686018427387904 true _ A3.out).mono ?_); rintro e w' ⟨rfl, ⟨nd, rfl⟩⟩; refine ⟨_, rfl, ?_⟩))
      go_ret
      exact ⟨by first | rfl | (simp [errW_none, errW_some] <;> rfl) | (simp [*, errW_none, errW_some] <;> rfl), by repeat (first | (with_reducible first | exact HB.out | apply below_alloc | apply pw_below_drewN | apply below_drew1 | refine below_set ?_ GE168.out) | exact HB.out)⟩
    · replace c4 := Bool.eq_false_iff.mpr c4
      subst c4
      have H1 : (some false) = some r := by rw [if_neg (show ¬ (false = true) by decide)] at H; exact H
      clear H
      have H := H1
      clear H1
      obtain rfl := Option.some.inj H
      go_enter Try.func19, Try.ntmps19
      go_wp2_with (first | ((with_reducible refine gate_dst (N := 1) rfl ?_); (try (refine gate_guard (by rfl) ?_; dsimp only)); refine box_event ?hg (N := 1) ?hd (cs := #[.int .i64 a0_0, .int .i64 a0_1, .string a0_2]) (t := 23) ?hr ?_; (case hd => rfl); (case hg => rfl); (case hr => first | (go_simp; done) | (go_simp; rfl)); intro gb168 hg w7 hbox hb; have n0_ := bs_ (be_ HB) hb; have n1_ := Aside0.mk (hbox); have n2_ := gs_ hg (be_ HB); have n3_ := gs_ hg (be_ HB); clear HB; have HB := n0_; have BK168 := n1_; have GW168 := n2_; have GE168 := n3_; clear n0_ n1_ n2_ n3_; clear hb hbox hg; have hcz8_0 : w7.cell? ⟨gb168, 0, none⟩ = some (.int .i64 a0_0) := (blk_cell BK168.out 0).trans rfl; have hcz8_1 : w7.cell? ⟨gb168, 1, none⟩ = some (.int .i64 a0_1) := (blk_cell BK168.out 1).trans rfl; have hcz8_2 : w7.cell? ⟨gb168, 2, none⟩ = some (.string a0_2) := (blk_cell BK168.out 2).trans rfl; have hfz8_0 := blk_frozen BK168.out 0; have hfz8_1 := blk_frozen BK168.out 1; have hfz8_2 := blk_frozen BK168.out 2) | ((with_reducible refine gate_callee (f := 29) rfl ?_); refine goesL_ (some 10) rfl rfl Try.func29 (by kernel_rfl) rfl #[.int .i64 a0_1, .int .i64 (-4611686018427387904), .int .i64 4611686018427387904] rfl ga_ ?_; (with_reducible refine (constableref01_In.calls a0_1 (-4611686018427387904) 4611686018427387904 false _ A3.out).mono ?_); rintro e w' ⟨rfl, ⟨nd, rfl⟩⟩; refine ⟨_, rfl, ?_⟩))
      go_ret
      exact ⟨by first | rfl | (simp [errW_none, errW_some] <;> rfl) | (simp [*, errW_none, errW_some] <;> rfl), by repeat (first | (with_reducible first | exact HB.out | apply below_alloc | apply pw_below_drewN | apply below_drew1 | refine below_set ?_ GE168.out) | exact HB.out)⟩
  · rw [if_neg c2] at H
    obtain ⟨c2b0, c2b1⟩ := neB_ c2
    by_cases c9 : a0_0 = 2
    · rw [if_pos c9] at H
      obtain ⟨c9b0, c9b1⟩ := eqB_ c9
      clear c9
      by_cases c10 : a0_1 = 0
      · rw [if_pos c10] at H
        obtain ⟨c10b0, c10b1⟩ := eqB_ c10
        clear c10
        replace H := Option.bind_eq_some_iff.mp H
        obtain ⟨t170, A110, H⟩ := H
        replace H : (some t170) = some r := H
        have A11 := Aside0.mk A110
        clear A110
        obtain rfl := Option.some.inj H
        go_enter Try.func19, Try.ntmps19
        go_wp2_with (first | ((with_reducible refine gate_dst (N := 1) rfl ?_); (try (refine gate_guard (by rfl) ?_; dsimp only)); refine box_event ?hg (N := 1) ?hd (cs := #[.int .i64 a0_0, .int .i64 a0_1, .string a0_2]) (t := 23) ?hr ?_; (case hd => rfl); (case hg => rfl); (case hr => first | (go_simp; done) | (go_simp; rfl)); intro gb168 hg w12 hbox hb; have n0_ := bs_ (be_ HB) hb; have n1_ := Aside0.mk (hbox); have n2_ := gs_ hg (be_ HB); have n3_ := gs_ hg (be_ HB); clear HB; have HB := n0_; have BK168 := n1_; have GW168 := n2_; have GE168 := n3_; clear n0_ n1_ n2_ n3_; clear hb hbox hg; have hcz13_0 : w12.cell? ⟨gb168, 0, none⟩ = some (.int .i64 a0_0) := (blk_cell BK168.out 0).trans rfl; have hcz13_1 : w12.cell? ⟨gb168, 1, none⟩ = some (.int .i64 a0_1) := (blk_cell BK168.out 1).trans rfl; have hcz13_2 : w12.cell? ⟨gb168, 2, none⟩ = some (.string a0_2) := (blk_cell BK168.out 2).trans rfl; have hfz13_0 := blk_frozen BK168.out 0; have hfz13_1 := blk_frozen BK168.out 1; have hfz13_2 := blk_frozen BK168.out 2) | (go_at_call 34; (with_reducible refine (constableref01_Word.calls k a0_2 false t170 _ A11.out).mono ?_); rintro e w' ⟨rfl, ⟨nd, rfl⟩⟩))
        go_ret
        exact ⟨by first | rfl | (simp [errW_none, errW_some] <;> rfl) | (simp [*, errW_none, errW_some] <;> rfl), by repeat (first | (with_reducible first | exact HB.out | apply below_alloc | apply pw_below_drewN | apply below_drew1 | refine below_set ?_ GE168.out) | exact HB.out)⟩
      · rw [if_neg c10] at H
        obtain ⟨c10b0, c10b1⟩ := neB_ c10
        obtain rfl := Option.some.inj H
        go_enter Try.func19, Try.ntmps19
        go_wp2_with (first | ((with_reducible refine gate_dst (N := 1) rfl ?_); (try (refine gate_guard (by rfl) ?_; dsimp only)); refine box_event ?hg (N := 1) ?hd (cs := #[.int .i64 a0_0, .int .i64 a0_1, .string a0_2]) (t := 23) ?hr ?_; (case hd => rfl); (case hg => rfl); (case hr => first | (go_simp; done) | (go_simp; rfl)); intro gb168 hg w14 hbox hb; have n0_ := bs_ (be_ HB) hb; have n1_ := Aside0.mk (hbox); have n2_ := gs_ hg (be_ HB); have n3_ := gs_ hg (be_ HB); clear HB; have HB := n0_; have BK168 := n1_; have GW168 := n2_; have GE168 := n3_; clear n0_ n1_ n2_ n3_; clear hb hbox hg; have hcz15_0 : w14.cell? ⟨gb168, 0, none⟩ = some (.int .i64 a0_0) := (blk_cell BK168.out 0).trans rfl; have hcz15_1 : w14.cell? ⟨gb168, 1, none⟩ = some (.int .i64 a0_1) := (blk_cell BK168.out 1).trans rfl; have hcz15_2 : w14.cell? ⟨gb168, 2, none⟩ = some (.string a0_2) := (blk_cell BK168.out 2).trans rfl; have hfz15_0 := blk_frozen BK168.out 0; have hfz15_1 := blk_frozen BK168.out 1; have hfz15_2 := blk_frozen BK168.out 2))
        go_ret
        exact ⟨by first | rfl | (simp [errW_none, errW_some] <;> rfl) | (simp [*, errW_none, errW_some] <;> rfl), by repeat (first | (with_reducible first | exact HB.out | apply below_alloc | apply pw_below_drewN | apply below_drew1 | refine below_set ?_ GE168.out) | exact HB.out)⟩
    · rw [if_neg c9] at H
      obtain ⟨c9b0, c9b1⟩ := neB_ c9
      by_cases c16 : a0_0 = 3
      · rw [if_pos c16] at H
        obtain ⟨c16b0, c16b1⟩ := eqB_ c16
        clear c16
        have HC17 := Aside0.mk H
        clear H
        go_enter Try.func19, Try.ntmps19
        go_upto_region 7 with (first | ((with_reducible refine gate_dst (N := 1) rfl ?_); (try (refine gate_guard (by rfl) ?_; dsimp only)); refine box_event ?hg (N := 1) ?hd (cs := #[.int .i64 a0_0, .int .i64 a0_1, .string a0_2]) (t := 23) ?hr ?_; (case hd => rfl); (case hg => rfl); (case hr => first | (go_simp; done) | (go_simp; rfl)); intro gb168 hg w18 hbox hb; have n0_ := bs_ (be_ HB) hb; have n1_ := Aside0.mk (hbox); have n2_ := gs_ hg (be_ HB); have n3_ := gs_ hg (be_ HB); clear HB; have HB := n0_; have BK168 := n1_; have GW168 := n2_; have GE168 := n3_; clear n0_ n1_ n2_ n3_; clear hb hbox hg; have hcz19_0 : w18.cell? ⟨gb168, 0, none⟩ = some (.int .i64 a0_0) := (blk_cell BK168.out 0).trans rfl; have hcz19_1 : w18.cell? ⟨gb168, 1, none⟩ = some (.int .i64 a0_1) := (blk_cell BK168.out 1).trans rfl; have hcz19_2 : w18.cell? ⟨gb168, 2, none⟩ = some (.string a0_2) := (blk_cell BK168.out 2).trans rfl; have hfz19_0 := blk_frozen BK168.out 0; have hfz19_1 := blk_frozen BK168.out 1; have hfz19_2 := blk_frozen BK168.out 2))
        (try simp only [Act.put, List.setIfInBounds_toArray, List.set_cons_zero, List.set_cons_succ])
        go_cut [37] (fun v37 wc => ∃ (kq : Nat) (x37_16 : Bool), v37 = .bool x37_16 ∧ Aside0 (constableref01_Value.j0 kq x37_16 a0_0 a0_1 a0_2 = some r) ∧ Aside0 (kq ≤ k) ∧ Aside0 (wc.heap[gb168]? = some (.cells #[.int .i64 a0_0, .int .i64 a0_1, .string a0_2] 23 (0, 0))) ∧ Aside0 (Below w.heap.size w wc))
        case first =>
          have H := HC17.out
          clear HC17
          by_cases c20 : a0_1 = 0
          · rw [if_pos c20] at H
            obtain ⟨c20b0, c20b1⟩ := eqB_ c20
            clear c20
            (first | rw [c20b0] | (simp only [i64_w, i32_w]; rw [c20b0]) | skip)
            have H' := Aside0.mk H
            clear H
            have hcz21_0 : w18.cell? ⟨gb168, 0, none⟩ = some (.int .i64 a0_0) := (blk_cell BK168.out 0).trans rfl
            have hcz21_1 : w18.cell? ⟨gb168, 1, none⟩ = some (.int .i64 a0_1) := (blk_cell BK168.out 1).trans rfl
            have hcz21_2 : w18.cell? ⟨gb168, 2, none⟩ = some (.string a0_2) := (blk_cell BK168.out 2).trans rfl
            have hfz21_0 := blk_frozen BK168.out 0
            have hfz21_1 := blk_frozen BK168.out 1
            have hfz21_2 := blk_frozen BK168.out 2
            go_wp2
            go_meet
            case rel => exact ⟨_, (decide ((a0_2.size : Int) > 60)), ra_, H', ⟨by first | omega | exact Nat.le_refl _⟩, ⟨by (with_reducible repeat (first | refine blk_drewN ?_ _ | refine blk_drew ?_ | refine blk_alloc ?_ _)); exact BK168.out⟩, ⟨by repeat (first | (with_reducible first | exact HB.out | apply below_alloc | apply pw_below_drewN | apply below_drew1 | refine below_set ?_ GE168.out) | exact HB.out)⟩⟩
          · rw [if_neg c20] at H
            obtain ⟨c20b0, c20b1⟩ := neB_ c20
            (first | rw [c20b0] | (simp only [i64_w, i32_w]; rw [c20b0]) | skip)
            have H' := Aside0.mk H
            clear H
            have hcz22_0 : w18.cell? ⟨gb168, 0, none⟩ = some (.int .i64 a0_0) := (blk_cell BK168.out 0).trans rfl
            have hcz22_1 : w18.cell? ⟨gb168, 1, none⟩ = some (.int .i64 a0_1) := (blk_cell BK168.out 1).trans rfl
            have hcz22_2 : w18.cell? ⟨gb168, 2, none⟩ = some (.string a0_2) := (blk_cell BK168.out 2).trans rfl
            have hfz22_0 := blk_frozen BK168.out 0
            have hfz22_1 := blk_frozen BK168.out 1
            have hfz22_2 := blk_frozen BK168.out 2
            go_wp2
            go_meet
            case rel => exact ⟨_, (true), ra_, H', ⟨by first | omega | exact Nat.le_refl _⟩, ⟨by (with_reducible repeat (first | refine blk_drewN ?_ _ | refine blk_drew ?_ | refine blk_alloc ?_ _)); exact BK168.out⟩, ⟨by repeat (first | (with_reducible first | exact HB.out | apply below_alloc | apply pw_below_drewN | apply below_drew1 | refine below_set ?_ GE168.out) | exact HB.out)⟩⟩
        case rest =>
          clear HC17
          try clear c1
          try clear c2
          try clear c2b0
          try clear c2b1
          try clear p2
          try clear c4
          try clear c9
          try clear c9b0
          try clear c9b1
          try clear c10
          try clear c10b0
          try clear c10b1
          try clear c16
          try clear c16b0
          try clear c16b1
          try clear c19
          try clear c20
          try clear c20b0
          try clear c20b1
          try clear hcz13_0
          try clear hcz13_1
          try clear hcz13_2
          try clear hcz15_0
          try clear hcz15_1
          try clear hcz15_2
          try clear hcz19_0
          try clear hcz19_1
          try clear hcz19_2
          try clear hcz21_0
          try clear hcz21_1
          try clear hcz21_2
          try clear hcz22_0
          try clear hcz22_1
          try clear hcz22_2
          try clear hcz6_0
          try clear hcz6_1
          try clear hcz6_2
          try clear hcz8_0
          try clear hcz8_1
          try clear hcz8_2
          try clear hfz13_0
          try clear hfz13_1
          try clear hfz13_2
          try clear hfz15_0
          try clear hfz15_1
          try clear hfz15_2
          try clear hfz19_0
          try clear hfz19_1
          try clear hfz19_2
          try clear hfz21_0
          try clear hfz21_1
          try clear hfz21_2
          try clear hfz22_0
          try clear hfz22_1
          try clear hfz22_2
          try clear hfz6_0
          try clear hfz6_1
          try clear hfz6_2
          try clear hfz8_0
          try clear hfz8_1
          try clear hfz8_2
          obtain ⟨kq, x37_16, rfl, HA, HJ16, BK168, HB⟩ := hcut
          cases kq with
          | zero => exact absurd HA.out (by simp [constableref01_Value.j0])
          | succ kj16 =>
            have H := HA.out
            clear HA
            simp only [constableref01_Value.j0] at H
            by_cases c23 : x37_16 = true
            · subst c23
              have H1 : (some false) = some r := by rw [if_pos rfl] at H; exact H
              clear H
              have H := H1
              clear H1
              obtain rfl := Option.some.inj H
              go_wp2
              go_ret
              exact ⟨by first | rfl | (simp [errW_none, errW_some] <;> rfl) | (simp [*, errW_none, errW_some] <;> rfl), by repeat (first | (with_reducible first | exact HB.out | apply below_alloc | apply pw_below_drewN | apply below_drew1 | refine below_set ?_ GE168.out) | exact HB.out)⟩
            · replace c23 := Bool.eq_false_iff.mpr c23
              subst c23
              have H1 : (constableref01_Value.l0 kj16 0 a0_0 a0_1 a0_2) = some r := by rw [if_neg (show ¬ (false = true) by decide)] at H; exact H
              clear H
              have H := H1
              clear H1
              have H' := Aside0.mk H
              clear H
              go_wp2
              go_loopg [3] kj16 (fun kq v3 w' => ∃ (x3_2 : Int), v3 = .int .i64 x3_2 ∧ Aside0 (constableref01_Value.l0 kq x3_2 a0_0 a0_1 a0_2 = some r) ∧ Aside0 (kq ≤ kj16) ∧ Aside0 (w'.heap[gb168]? = some (.cells #[.int .i64 a0_0, .int .i64 a0_1, .string a0_2] 23 (0, 0))) ∧ Aside0 (Below w.heap.size w w'))
              case atStart => exact ⟨(0), ra_, H', ⟨Nat.le_refl _⟩, ⟨by (with_reducible repeat (first | refine blk_drewN ?_ _ | refine blk_drew ?_ | refine blk_alloc ?_ _)); exact BK168.out⟩, ⟨by repeat (first | (with_reducible first | exact HB.out | apply below_alloc | apply pw_below_drewN | apply below_drew1 | refine below_set ?_ GE168.out) | exact HB.out)⟩⟩
              case round =>
                clear H'
                try clear c1
                try clear c2
                try clear c2b0
                try clear c2b1
                try clear p2
                try clear c4
                try clear c9
                try clear c9b0
                try clear c9b1
                try clear c10
                try clear c10b0
                try clear c10b1
                try clear c16
                try clear c16b0
                try clear c16b1
                try clear c19
                try clear c20
                try clear c20b0
                try clear c20b1
                try clear c23
                try clear hcz13_0
                try clear hcz13_1
                try clear hcz13_2
                try clear hcz15_0
                try clear hcz15_1
                try clear hcz15_2
                try clear hcz19_0
                try clear hcz19_1
                try clear hcz19_2
                try clear hcz21_0
                try clear hcz21_1
                try clear hcz21_2
                try clear hcz22_0
                try clear hcz22_1
                try clear hcz22_2
                try clear hcz6_0
                try clear hcz6_1
                try clear hcz6_2
                try clear hcz8_0
                try clear hcz8_1
                try clear hcz8_2
                try clear hfz13_0
                try clear hfz13_1
                try clear hfz13_2
                try clear hfz15_0
                try clear hfz15_1
                try clear hfz15_2
                try clear hfz19_0
                try clear hfz19_1
                try clear hfz19_2
                try clear hfz21_0
                try clear hfz21_1
                try clear hfz21_2
                try clear hfz22_0
                try clear hfz22_1
                try clear hfz22_2
                try clear hfz6_0
                try clear hfz6_1
                try clear hfz6_2
                try clear hfz8_0
                try clear hfz8_1
                try clear hfz8_2
                try clear p2
                obtain ⟨x3_2, rfl, HA, HK2, BK168, HB⟩ := hrel
                cases gk with
                | zero => exact absurd HA.out (by simp [constableref01_Value.l0])
                | succ k2 =>
                  have H := HA.out
                  clear HA
                  simp only [constableref01_Value.l0] at H
                  by_cases c24 : x3_2 < (a0_2.size : Int)
                  · rw [if_pos c24] at H
                    have c24b0 : decide (x3_2 < (a0_2.size : Int)) = true := decide_eq_true c24
                    clear c24
                    by_cases c25 : 0 ≤ x3_2
                    · rw [if_pos c25] at H
                      have c25b0 : decide (0 ≤ x3_2) = true := decide_eq_true c25
                      clear c25
                      replace H := Option.bind_eq_some_iff.mp H
                      obtain ⟨t171, A270, H⟩ := H
                      replace H : (if t171 = true then (constableref01_Value.l0 k2 (wrap64 (x3_2 + 1)) a0_0 a0_1 a0_2) else (some false)) = some r := H
                      have A27 := Aside0.mk A270
                      clear A270
                      by_cases c28 : t171 = true
                      · subst c28
                        have H1 : (constableref01_Value.l0 k2 (wrap64 (x3_2 + 1)) a0_0 a0_1 a0_2) = some r := by rw [if_pos rfl] at H; exact H
                        clear H
                        have H := H1
                        clear H1
                        have H' := Aside0.mk H
                        clear H
                        have hcz29_0 : wr.cell? ⟨gb168, 0, none⟩ = some (.int .i64 a0_0) := (blk_cell BK168.out 0).trans rfl
                        have hcz29_1 : wr.cell? ⟨gb168, 1, none⟩ = some (.int .i64 a0_1) := (blk_cell BK168.out 1).trans rfl
                        have hcz29_2 : wr.cell? ⟨gb168, 2, none⟩ = some (.string a0_2) := (blk_cell BK168.out 2).trans rfl
                        have hfz29_0 := blk_frozen BK168.out 0
                        have hfz29_1 := blk_frozen BK168.out 1
                        have hfz29_2 := blk_frozen BK168.out 2
                        have p26 : 0 ≤ (x3_2 : Int) := dt_
                        have q26 : x3_2 < (a0_2.size : Int) := dt_
                        have hx26 := bt_at a0_2 x3_2
                        replace p26 := eq_true p26
                        replace q26 := eq_true q26
                        go_wp2_with (first | ((with_reducible refine gate_callee (f := 29) rfl ?_); refine goesL_ (some 50) rfl rfl Try.func29 (by kernel_rfl) rfl #[.int .i64 (wrap64 (bt a0_2 x3_2)), .int .i64 32, .int .i64 126] rfl ga_ ?_; (with_reducible refine (constableref01_In.calls (wrap64 (bt a0_2 x3_2)) 32 126 true _ A27.out).mono ?_); rintro e w' ⟨rfl, ⟨nd, rfl⟩⟩; refine ⟨_, rfl, ?_⟩))
                        go_roundg k2
                        case measure => have := HJ16.out; have := HK2.out; omega
                        case rel => exact ⟨(wrap64 (x3_2 + 1)), ra_, H', ⟨by have := HJ16.out; have := HK2.out; omega⟩, ⟨by (with_reducible repeat (first | refine blk_drewN ?_ _ | refine blk_drew ?_ | refine blk_alloc ?_ _)); exact BK168.out⟩, ⟨by repeat (first | (with_reducible first | exact HB.out | apply below_alloc | apply pw_below_drewN | apply below_drew1 | refine below_set ?_ GE168.out) | exact HB.out)⟩⟩
                      · replace c28 := Bool.eq_false_iff.mpr c28
                        subst c28
                        have H1 : (some false) = some r := by rw [if_neg (show ¬ (false = true) by decide)] at H; exact H
                        clear H
                        have H := H1
                        clear H1
                        obtain rfl := Option.some.inj H
                        have hcz30_0 : wr.cell? ⟨gb168, 0, none⟩ = some (.int .i64 a0_0) := (blk_cell BK168.out 0).trans rfl
                        have hcz30_1 : wr.cell? ⟨gb168, 1, none⟩ = some (.int .i64 a0_1) := (blk_cell BK168.out 1).trans rfl
                        have hcz30_2 : wr.cell? ⟨gb168, 2, none⟩ = some (.string a0_2) := (blk_cell BK168.out 2).trans rfl
                        have hfz30_0 := blk_frozen BK168.out 0
                        have hfz30_1 := blk_frozen BK168.out 1
                        have hfz30_2 := blk_frozen BK168.out 2
                        have p26 : 0 ≤ (x3_2 : Int) := dt_
                        have q26 : x3_2 < (a0_2.size : Int) := dt_
                        have hx26 := bt_at a0_2 x3_2
                        replace p26 := eq_true p26
                        replace q26 := eq_true q26
                        go_wp2_with (first | ((with_reducible refine gate_callee (f := 29) rfl ?_); refine goesL_ (some 50) rfl rfl Try.func29 (by kernel_rfl) rfl #[.int .i64 (wrap64 (bt a0_2 x3_2)), .int .i64 32, .int .i64 126] rfl ga_ ?_; (with_reducible refine (constableref01_In.calls (wrap64 (bt a0_2 x3_2)) 32 126 false _ A27.out).mono ?_); rintro e w' ⟨rfl, ⟨nd, rfl⟩⟩; refine ⟨_, rfl, ?_⟩))
                        go_ret
                        exact ⟨by first | rfl | (simp [errW_none, errW_some] <;> rfl) | (simp [*, errW_none, errW_some] <;> rfl), by repeat (first | (with_reducible first | exact HB.out | apply below_alloc | apply pw_below_drewN | apply below_drew1 | refine below_set ?_ GE168.out) | exact HB.out)⟩
                    · rw [if_neg c25] at H
                      exact absurd H (by simp)
                  · rw [if_neg c24] at H
                    have c24b0 : decide (x3_2 < (a0_2.size : Int)) = false := decide_eq_false c24
                    clear c24
                    obtain rfl := Option.some.inj H
                    have hcz31_0 : wr.cell? ⟨gb168, 0, none⟩ = some (.int .i64 a0_0) := (blk_cell BK168.out 0).trans rfl
                    have hcz31_1 : wr.cell? ⟨gb168, 1, none⟩ = some (.int .i64 a0_1) := (blk_cell BK168.out 1).trans rfl
                    have hcz31_2 : wr.cell? ⟨gb168, 2, none⟩ = some (.string a0_2) := (blk_cell BK168.out 2).trans rfl
                    have hfz31_0 := blk_frozen BK168.out 0
                    have hfz31_1 := blk_frozen BK168.out 1
                    have hfz31_2 := blk_frozen BK168.out 2
                    go_wp2
                    go_ret
                    exact ⟨by first | rfl | (simp [errW_none, errW_some] <;> rfl) | (simp [*, errW_none, errW_some] <;> rfl), by repeat (first | (with_reducible first | exact HB.out | apply below_alloc | apply pw_below_drewN | apply below_drew1 | refine below_set ?_ GE168.out) | exact HB.out)⟩
      · rw [if_neg c16] at H
        obtain ⟨c16b0, c16b1⟩ := neB_ c16
        obtain rfl := Option.some.inj H
        go_enter Try.func19, Try.ntmps19
        go_wp2_with (first | ((with_reducible refine gate_dst (N := 1) rfl ?_); (try (refine gate_guard (by rfl) ?_; dsimp only)); refine box_event ?hg (N := 1) ?hd (cs := #[.int .i64 a0_0, .int .i64 a0_1, .string a0_2]) (t := 23) ?hr ?_; (case hd => rfl); (case hg => rfl); (case hr => first | (go_simp; done) | (go_simp; rfl)); intro gb168 hg w32 hbox hb; have n0_ := bs_ (be_ HB) hb; have n1_ := Aside0.mk (hbox); have n2_ := gs_ hg (be_ HB); have n3_ := gs_ hg (be_ HB); clear HB; have HB := n0_; have BK168 := n1_; have GW168 := n2_; have GE168 := n3_; clear n0_ n1_ n2_ n3_; clear hb hbox hg; have hcz33_0 : w32.cell? ⟨gb168, 0, none⟩ = some (.int .i64 a0_0) := (blk_cell BK168.out 0).trans rfl; have hcz33_1 : w32.cell? ⟨gb168, 1, none⟩ = some (.int .i64 a0_1) := (blk_cell BK168.out 1).trans rfl; have hcz33_2 : w32.cell? ⟨gb168, 2, none⟩ = some (.string a0_2) := (blk_cell BK168.out 2).trans rfl; have hfz33_0 := blk_frozen BK168.out 0; have hfz33_1 := blk_frozen BK168.out 1; have hfz33_2 := blk_frozen BK168.out 2))
        go_ret
        exact ⟨by first | rfl | (simp [errW_none, errW_some] <;> rfl) | (simp [*, errW_none, errW_some] <;> rfl), by repeat (first | (with_reducible first | exact HB.out | apply below_alloc | apply pw_below_drewN | apply below_drew1 | refine below_set ?_ GE168.out) | exact HB.out)⟩
end Go.Proofs.Ytaopajmpifenoaa.P
end
section
namespace Go.Proofs.Ytaopajmpifenoaa.P
open Go.RowKit Go.Proofs.YtaopajmpifenoaaW.PrintWords Go.Proofs.YtaopajmpifenoaaW.PrintLast Go.Proofs.YtaopajmpifenoaaW.PrintMore
attribute [local go_sem] max2_int min2_int max_two min_two max_three min_three max_four min_four
set_option linter.unusedVariables false
set_option linter.unusedSimpArgs false
attribute [local go_sem high] eqA23
mutual
def constableref01_Expr.l0 : Nat → List (S67) → Int → Int → Option (Bool)
  | 0, _, _, _ => none
  | k + 1, x0, x3, x4 => if x4 < (x0.length : Int) then (if 0 ≤ x4 then (if ((rd_T67 x0 x4).f0) = 1 then ((constableref01_Word.f k ((rd_T67 x0 x4).f1) true).bind fun t287 => (if t287 = true then (if (!(((rd_T67 x0 x4).f2.f0) == 0) || (!(((rd_T67 x0 x4).f2.f1) == 0) || (!((((rd_T67 x0 x4).f2.f2).toList) == ([] : List UInt8))))) = true then (some false) else (constableref01_Expr.l0 k x0 (wrap64 (x3 + 1)) (wrap64 (x4 + 1)))) else (some false))) else (if ((rd_T67 x0 x4).f0) = 2 then (if (((rd_T67 x0 x4).f1).size : Int) > 0 then (some false) else ((constableref01_Value.f k ((rd_T67 x0 x4).f2.f0) ((rd_T67 x0 x4).f2.f1) ((rd_T67 x0 x4).f2.f2)).bind fun t288 => (if t288 = true then (constableref01_Expr.l0 k x0 (wrap64 (x3 + 1)) (wrap64 (x4 + 1))) else (some false)))) else (if ((rd_T67 x0 x4).f0) = 3 then (constableref01_Expr.j1 k x0 x3 x4 (((rd_T67 x0 x4).f0) == 3) ((rd_T67 x0 x4).f0) ((rd_T67 x0 x4).f1) ((rd_T67 x0 x4).f2.f0) ((rd_T67 x0 x4).f2.f1) ((rd_T67 x0 x4).f2.f2)) else (if ((rd_T67 x0 x4).f0) = 4 then (constableref01_Expr.j1 k x0 x3 x4 (((rd_T67 x0 x4).f0) == 4) ((rd_T67 x0 x4).f0) ((rd_T67 x0 x4).f1) ((rd_T67 x0 x4).f2.f0) ((rd_T67 x0 x4).f2.f1) ((rd_T67 x0 x4).f2.f2)) else (constableref01_Expr.j1 k x0 x3 x4 (((rd_T67 x0 x4).f0) == 5) ((rd_T67 x0 x4).f0) ((rd_T67 x0 x4).f1) ((rd_T67 x0 x4).f2.f0) ((rd_T67 x0 x4).f2.f1) ((rd_T67 x0 x4).f2.f2)))))) else (none)) else (some (x3 == 1))
def constableref01_Expr.j1 : Nat → List (S67) → Int → Int → Bool → Int → ByteArray → Int → Int → ByteArray → Option (Bool)
  | 0, _, _, _, _, _, _, _, _, _ => none
  | k + 1, x0, x3, x4, x50, x287000, x287001, x287002, x287003, x287004 => if x50 = true then (if (x287001.size : Int) > 0 then (some false) else (if (!(x287002 == 0) || (!(x287003 == 0) || (!(x287004.toList == ([] : List UInt8))))) = true then (some false) else (if x3 < 2 then (some false) else (constableref01_Expr.l0 k x0 (wrap64 (x3 - 1)) (wrap64 (x4 + 1)))))) else (some false)
end
def constableref01_Expr.f (k : Nat) (l0 : List (S67)) : Option (Bool) := (constableref01_In.f (l0.length : Int) 1 15).bind fun t284 => (if t284 = true then (constableref01_Expr.l0 k l0 0 0) else (some false))
theorem constableref01_Expr.mono_l : ∀ k, (∀ y0 y1 y2, LeO (constableref01_Expr.l0 k y0 y1 y2) (constableref01_Expr.l0 (k + 1) y0 y1 y2)) ∧ (∀ y0 y1 y2 y3 y4 y5 y6 y7 y8, LeO (constableref01_Expr.j1 k y0 y1 y2 y3 y4 y5 y6 y7 y8) (constableref01_Expr.j1 (k + 1) y0 y1 y2 y3 y4 y5 y6 y7 y8))
  | 0 => ⟨fun _ _ _ r h => by simp [constableref01_Expr.l0] at h, fun _ _ _ _ _ _ _ _ _ r h => by simp [constableref01_Expr.j1] at h⟩
  | k + 1 => by
    obtain ⟨ih0, ih1⟩ := constableref01_Expr.mono_l k
    refine ⟨?_, ?_⟩
    · intro y0 y1 y2
      unfold constableref01_Expr.l0
      repeat' first
      | (with_reducible exact ih0 _ _ _)
      | (with_reducible exact ih1 _ _ _ _ _ _ _ _ _)
      | (with_reducible exact constableref01_Value.mono _ _ _ _)
      | (with_reducible exact constableref01_Word.mono _ _ _)
      | (with_reducible exact LeO.refl _)
      | (with_reducible exact LeO.none _)
      | (with_reducible refine LeO.ite ?_ ?_)
      | (with_reducible refine LeO.bind ?_ (fun _ => ?_))
      | exact ih0 _ _ _
      | exact ih1 _ _ _ _ _ _ _ _ _
      | exact constableref01_Value.mono _ _ _ _
      | exact constableref01_Word.mono _ _ _
      | exact LeO.none _
      | refine LeO.ite ?_ ?_
      | refine LeO.bind ?_ (fun _ => ?_)
    · intro y0 y1 y2 y3 y4 y5 y6 y7 y8
      unfold constableref01_Expr.j1
      repeat' first
      | (with_reducible exact ih0 _ _ _)
      | (with_reducible exact ih1 _ _ _ _ _ _ _ _ _)
      | (with_reducible exact constableref01_Value.mono _ _ _ _)
      | (with_reducible exact constableref01_Word.mono _ _ _)
      | (with_reducible exact LeO.refl _)
      | (with_reducible exact LeO.none _)
      | (with_reducible refine LeO.ite ?_ ?_)
      | (with_reducible refine LeO.bind ?_ (fun _ => ?_))
      | exact ih0 _ _ _
      | exact ih1 _ _ _ _ _ _ _ _ _
      | exact constableref01_Value.mono _ _ _ _
      | exact constableref01_Word.mono _ _ _
      | exact LeO.none _
      | refine LeO.ite ?_ ?_
      | refine LeO.bind ?_ (fun _ => ?_)
theorem constableref01_Expr.mono : ∀ a0 k, LeO (constableref01_Expr.f k a0) (constableref01_Expr.f (k + 1) a0) := by
  intro a0 k
  obtain ⟨ih0, ih1⟩ := constableref01_Expr.mono_l k
  unfold constableref01_Expr.f
  repeat' first
      | (with_reducible exact ih0 _ _ _)
      | (with_reducible exact ih1 _ _ _ _ _ _ _ _ _)
      | (with_reducible exact constableref01_Value.mono _ _ _ _)
      | (with_reducible exact constableref01_Word.mono _ _ _)
      | (with_reducible exact LeO.refl _)
      | (with_reducible exact LeO.none _)
      | (with_reducible refine LeO.ite ?_ ?_)
      | (with_reducible refine LeO.bind ?_ (fun _ => ?_))
      | exact ih0 _ _ _
      | exact ih1 _ _ _ _ _ _ _ _ _
      | exact constableref01_Value.mono _ _ _ _
      | exact constableref01_Word.mono _ _ _
      | exact LeO.none _
      | refine LeO.ite ?_ ?_
      | refine LeO.bind ?_ (fun _ => ?_)
set_option maxHeartbeats 8000000 in
set_option maxRecDepth 100000 in
theorem constableref01_Expr.calls (k : Nat) (A0 : Option Addr) (c0 : Nat) (l0 : List (S67)) (r : Bool) (w : World) (hr0 : Kd.C k67 w A0 l0.length l0) (hc0 : l0.length ≤ c0) (h : constableref01_Expr.f k l0 = some r) :
    Calls Try.prog 21 #[.slice A0 l0.length c0] w fun e w' => e = .returned (.bool r) ∧ Below w.heap.size w w' := by
  have hu67 := Try.underlying67
  have hu23 := Try.underlying23
  have HR0 := Aside0.mk hr0
  have HC0 := Aside0.mk hc0
  clear hr0 hc0
  have HB := Aside0.mk (Below.refl w.heap.size w)
  have H : ((constableref01_In.f (l0.length : Int) 1 15).bind fun t284 => (if t284 = true then (constableref01_Expr.l0 k l0 0 0) else (some false))) = some r := h
  clear h
  replace H := Option.bind_eq_some_iff.mp H
  obtain ⟨t284, A20, H⟩ := H
  replace H : (if t284 = true then (constableref01_Expr.l0 k l0 0 0) else (some false)) = some r := H
  have A2 := Aside0.mk A20
  clear A20
  by_cases c3 : t284 = true
  · subst c3
    have H1 : (constableref01_Expr.l0 k l0 0 0) = some r := by rw [if_pos rfl] at H; exact H
    clear H
    have H := H1
    clear H1
    have H' := Aside0.mk H
    clear H
    go_enter Try.func21, Try.ntmps21
    go_wp2_with (first | ((with_reducible refine gate_callee (f := 29) rfl ?_); refine goesL_ (some 8) rfl rfl Try.func29 (by kernel_rfl) rfl #[.int .i64 (l0.length : Int), .int .i64 1, .int .i64 15] rfl ga_ ?_; (with_reducible refine (constableref01_In.calls (l0.length : Int) 1 15 true _ A2.out).mono ?_); rintro e w' ⟨rfl, ⟨nd, rfl⟩⟩; refine ⟨_, rfl, ?_⟩))
    go_loopg [3, 4] k (fun kq v3 v4 w' => ∃ (x3_1 : Int) (x4_1 : Int), v3 = .int .i64 x3_1 ∧ v4 = .int .i64 x4_1 ∧ Aside0 (constableref01_Expr.l0 kq l0 x3_1 x4_1 = some r) ∧ Aside0 (kq ≤ k) ∧ Aside0 (Below w.heap.size w w'))
    case atStart => exact ⟨(0), (0), ra_, ra_, H', ⟨Nat.le_refl _⟩, ⟨by repeat (first | (with_reducible first | exact HB.out | apply below_alloc | apply pw_below_drewN | apply below_drew1) | exact HB.out)⟩⟩
    case round =>
      clear H'
      try clear c2
      try clear p2
      try clear c3
      obtain ⟨x3_1, x4_1, rfl, rfl, HA, HK1, HB⟩ := hrel
      cases gk with
      | zero => exact absurd HA.out (by simp [constableref01_Expr.l0])
      | succ k1 =>
        have H := HA.out
        clear HA
        simp only [constableref01_Expr.l0] at H
        by_cases c4 : x4_1 < (l0.length : Int)
        · rw [if_pos c4] at H
          have c4b0 : decide (x4_1 < (l0.length : Int)) = true := decide_eq_true c4
          clear c4
          by_cases c5 : 0 ≤ x4_1
          · rw [if_pos c5] at H
            have c5b0 : decide (0 ≤ x4_1) = true := decide_eq_true c5
            clear c5
            by_cases c6 : ((rd_T67 l0 x4_1).f0) = 1
            · rw [if_pos c6] at H
              obtain ⟨c6b0, c6b1⟩ := eqB_ c6
              clear c6
              replace H := Option.bind_eq_some_iff.mp H
              obtain ⟨t287, A70, H⟩ := H
              replace H : (if t287 = true then (if (!(((rd_T67 l0 x4_1).f2.f0) == 0) || (!(((rd_T67 l0 x4_1).f2.f1) == 0) || (!((((rd_T67 l0 x4_1).f2.f2).toList) == ([] : List UInt8))))) = true then (some false) else (constableref01_Expr.l0 k1 l0 (wrap64 (x3_1 + 1)) (wrap64 (x4_1 + 1)))) else (some false)) = some r := H
              have A7 := Aside0.mk A70
              clear A70
              by_cases c8 : t287 = true
              · subst c8
                have H1 : (if (!(((rd_T67 l0 x4_1).f2.f0) == 0) || (!(((rd_T67 l0 x4_1).f2.f1) == 0) || (!((((rd_T67 l0 x4_1).f2.f2).toList) == ([] : List UInt8))))) = true then (some false) else (constableref01_Expr.l0 k1 l0 (wrap64 (x3_1 + 1)) (wrap64 (x4_1 + 1)))) = some r := by rw [if_pos rfl] at H; exact H
                clear H
                have H := H1
                clear H1
                by_cases c9 : (!(((rd_T67 l0 x4_1).f2.f0) == 0) || (!(((rd_T67 l0 x4_1).f2.f1) == 0) || (!((((rd_T67 l0 x4_1).f2.f2).toList) == ([] : List UInt8))))) = true
                · rw [if_pos c9] at H
                  have c9b0 : (!(((rd_T67 l0 x4_1).f2.f0) == 0) || (!(((rd_T67 l0 x4_1).f2.f1) == 0) || (!((((rd_T67 l0 x4_1).f2.f2).toList) == ([] : List UInt8))))) = true := c9
                  (try (have c9b1 : (!(((rd_T67 l0 x4_1).f2.f0) == 0) || (!(((rd_T67 l0 x4_1).f2.f1) == 0) || (!((((rd_T67 l0 x4_1).f2.f2).toList).isEmpty)))) = true := by first | simpa using c9 | (simp at c9 ⊢; exact c9)))
                  clear c9
                  obtain rfl := Option.some.inj H
                  have p285 : 0 ≤ (x4_1 : Int) := dt_
                  have q285 : x4_1 < (l0.length : Int) := dt_
                  obtain ⟨ad285, e285, hx285_0, hx285_1, hx285_2, hx285_3, hx285_4⟩ := at_T67 HR0.out x4_1 p285 q285
                  cases e285
                  replace hx285_0 := cm_ HB hx285_0
                  replace hx285_1 := cm_ HB hx285_1
                  replace hx285_2 := cm_ HB hx285_2
                  replace hx285_3 := cm_ HB hx285_3
                  replace hx285_4 := cm_ HB hx285_4
                  replace p285 := eq_true p285
                  replace q285 := eq_true q285
                  go_wp2_with (first | ((with_reducible refine gate_dst (N := 5) rfl ?_); refine box_event ?hg (N := 5) ?hd (cs := #[.int .i64 0, .string (⟨#[]⟩ : ByteArray), .int .i64 0, .int .i64 0, .string (⟨#[]⟩ : ByteArray)]) (t := 67) ?hr ?_; (case hd => rfl); (case hg => rfl); (case hr => first | (go_simp; done) | (go_simp; rfl)); intro gb286 hg w10 hbox hb; have n0_ := bs_ (be_ HB) hb; have n1_ := Aside0.mk (hbox); have n2_ := gs_ hg (be_ HB); have n3_ := gs_ hg (be_ HB); clear HB; have HB := n0_; have BK286 := n1_; have GW286 := n2_; have GE286 := n3_; clear n0_ n1_ n2_ n3_; clear hb hbox hg; have hcz11_0 : w10.cell? ⟨gb286, 0, none⟩ = some (.int .i64 0) := (blk_cell BK286.out 0).trans rfl; have hcz11_1 : w10.cell? ⟨gb286, 1, none⟩ = some (.string (⟨#[]⟩ : ByteArray)) := (blk_cell BK286.out 1).trans rfl; have hcz11_2 : w10.cell? ⟨gb286, 2, none⟩ = some (.int .i64 0) := (blk_cell BK286.out 2).trans rfl; have hcz11_3 : w10.cell? ⟨gb286, 3, none⟩ = some (.int .i64 0) := (blk_cell BK286.out 3).trans rfl; have hcz11_4 : w10.cell? ⟨gb286, 4, none⟩ = some (.string (⟨#[]⟩ : ByteArray)) := (blk_cell BK286.out 4).trans rfl; have hfz11_0 := blk_frozen BK286.out 0; have hfz11_1 := blk_frozen BK286.out 1; have hfz11_2 := blk_frozen BK286.out 2; have hfz11_3 := blk_frozen BK286.out 3; have hfz11_4 := blk_frozen BK286.out 4) | ((with_reducible refine gate_callee (f := 34) rfl ?_); refine goesL_ (some 26) rfl rfl Try.func34 (by kernel_rfl) rfl #[.string ((rd_T67 l0 x4_1).f1), .bool true] rfl ga_ ?_; (with_reducible refine (constableref01_Word.calls k1 ((rd_T67 l0 x4_1).f1) true true _ A7.out).mono ?_); rintro e w' ⟨rfl, ⟨nd, rfl⟩⟩; refine ⟨_, rfl, ?_⟩))
                  go_ret
                  exact ⟨by first | rfl | (simp [errW_none, errW_some] <;> rfl) | (simp [*, errW_none, errW_some] <;> rfl), by repeat (first | (with_reducible first | exact HB.out | apply below_alloc | apply pw_below_drewN | apply below_drew1 | refine below_set ?_ GE286.out) | exact HB.out)⟩
                · rw [if_neg c9] at H
                  have c9b0 : (!(((rd_T67 l0 x4_1).f2.f0) == 0) || (!(((rd_T67 l0 x4_1).f2.f1) == 0) || (!((((rd_T67 l0 x4_1).f2.f2).toList) == ([] : List UInt8))))) = false := by simpa using c9
                  (try (have c9b1 : (!(((rd_T67 l0 x4_1).f2.f0) == 0) || (!(((rd_T67 l0 x4_1).f2.f1) == 0) || (!((((rd_T67 l0 x4_1).f2.f2).toList).isEmpty)))) = false := by first | simpa using c9 | (simp at c9 ⊢; exact c9)))
                  clear c9
                  have H' := Aside0.mk H
                  clear H
                  have p285 : 0 ≤ (x4_1 : Int) := dt_
                  have q285 : x4_1 < (l0.length : Int) := dt_
                  obtain ⟨ad285, e285, hx285_0, hx285_1, hx285_2, hx285_3, hx285_4⟩ := at_T67 HR0.out x4_1 p285 q285
                  cases e285
                  replace hx285_0 := cm_ HB hx285_0
                  replace hx285_1 := cm_ HB hx285_1
                  replace hx285_2 := cm_ HB hx285_2
                  replace hx285_3 := cm_ HB hx285_3
                  replace hx285_4 := cm_ HB hx285_4
                  replace p285 := eq_true p285
                  replace q285 := eq_true q285
                  go_wp2_with (first | ((with_reducible refine gate_dst (N := 5) rfl ?_); refine box_event ?hg (N := 5) ?hd (cs := #[.int .i64 0, .string (⟨#[]⟩ : ByteArray), .int .i64 0, .int .i64 0, .string (⟨#[]⟩ : ByteArray)]) (t := 67) ?hr ?_; (case hd => rfl); (case hg => rfl); (case hr => first | (go_simp; done) | (go_simp; rfl)); intro gb286 hg w12 hbox hb; have n0_ := bs_ (be_ HB) hb; have n1_ := Aside0.mk (hbox); have n2_ := gs_ hg (be_ HB); have n3_ := gs_ hg (be_ HB); clear HB; have HB := n0_; have BK286 := n1_; have GW286 := n2_; have GE286 := n3_; clear n0_ n1_ n2_ n3_; clear hb hbox hg; have hcz13_0 : w12.cell? ⟨gb286, 0, none⟩ = some (.int .i64 0) := (blk_cell BK286.out 0).trans rfl; have hcz13_1 : w12.cell? ⟨gb286, 1, none⟩ = some (.string (⟨#[]⟩ : ByteArray)) := (blk_cell BK286.out 1).trans rfl; have hcz13_2 : w12.cell? ⟨gb286, 2, none⟩ = some (.int .i64 0) := (blk_cell BK286.out 2).trans rfl; have hcz13_3 : w12.cell? ⟨gb286, 3, none⟩ = some (.int .i64 0) := (blk_cell BK286.out 3).trans rfl; have hcz13_4 : w12.cell? ⟨gb286, 4, none⟩ = some (.string (⟨#[]⟩ : ByteArray)) := (blk_cell BK286.out 4).trans rfl; have hfz13_0 := blk_frozen BK286.out 0; have hfz13_1 := blk_frozen BK286.out 1; have hfz13_2 := blk_frozen BK286.out 2; have hfz13_3 := blk_frozen BK286.out 3; have hfz13_4 := blk_frozen BK286.out 4) | ((with_reducible refine gate_callee (f := 34) rfl ?_); refine goesL_ (some 26) rfl rfl Try.func34 (by kernel_rfl) rfl #[.string ((rd_T67 l0 x4_1).f1), .bool true] rfl ga_ ?_; (with_reducible refine (constableref01_Word.calls k1 ((rd_T67 l0 x4_1).f1) true true _ A7.out).mono ?_); rintro e w' ⟨rfl, ⟨nd, rfl⟩⟩; refine ⟨_, rfl, ?_⟩))
                  go_roundg k1
                  case measure => have := HK1.out; omega
                  case rel => exact ⟨(wrap64 (x3_1 + 1)), (wrap64 (x4_1 + 1)), ra_, ra_, H', ⟨by have := HK1.out; omega⟩, ⟨by repeat (first | (with_reducible first | exact HB.out | apply below_alloc | apply pw_below_drewN | apply below_drew1 | refine below_set ?_ GE286.out) | exact HB.out)⟩⟩
              · replace c8 := Bool.eq_false_iff.mpr c8
                subst c8
                have H1 : (some false) = some r := by rw [if_neg (show ¬ (false = true) by decide)] at H; exact H
                clear H
                have H := H1
                clear H1
                obtain rfl := Option.some.inj H
                have p285 : 0 ≤ (x4_1 : Int) := dt_
                have q285 : x4_1 < (l0.length : Int) := dt_
                obtain ⟨ad285, e285, hx285_0, hx285_1, hx285_2, hx285_3, hx285_4⟩ := at_T67 HR0.out x4_1 p285 q285
                cases e285
                replace hx285_0 := cm_ HB hx285_0
                replace hx285_1 := cm_ HB hx285_1
                replace hx285_2 := cm_ HB hx285_2
                replace hx285_3 := cm_ HB hx285_3
                replace hx285_4 := cm_ HB hx285_4
                replace p285 := eq_true p285
                replace q285 := eq_true q285
                go_wp2_with (first | ((with_reducible refine gate_dst (N := 5) rfl ?_); refine box_event ?hg (N := 5) ?hd (cs := #[.int .i64 0, .string (⟨#[]⟩ : ByteArray), .int .i64 0, .int .i64 0, .string (⟨#[]⟩ : ByteArray)]) (t := 67) ?hr ?_; (case hd => rfl); (case hg => rfl); (case hr => first | (go_simp; done) | (go_simp; rfl)); intro gb286 hg w14 hbox hb; have n0_ := bs_ (be_ HB) hb; have n1_ := Aside0.mk (hbox); have n2_ := gs_ hg (be_ HB); have n3_ := gs_ hg (be_ HB); clear HB; have HB := n0_; have BK286 := n1_; have GW286 := n2_; have GE286 := n3_; clear n0_ n1_ n2_ n3_; clear hb hbox hg; have hcz15_0 : w14.cell? ⟨gb286, 0, none⟩ = some (.int .i64 0) := (blk_cell BK286.out 0).trans rfl; have hcz15_1 : w14.cell? ⟨gb286, 1, none⟩ = some (.string (⟨#[]⟩ : ByteArray)) := (blk_cell BK286.out 1).trans rfl; have hcz15_2 : w14.cell? ⟨gb286, 2, none⟩ = some (.int .i64 0) := (blk_cell BK286.out 2).trans rfl; have hcz15_3 : w14.cell? ⟨gb286, 3, none⟩ = some (.int .i64 0) := (blk_cell BK286.out 3).trans rfl; have hcz15_4 : w14.cell? ⟨gb286, 4, none⟩ = some (.string (⟨#[]⟩ : ByteArray)) := (blk_cell BK286.out 4).trans rfl; have hfz15_0 := blk_frozen BK286.out 0; have hfz15_1 := blk_frozen BK286.out 1; have hfz15_2 := blk_frozen BK286.out 2; have hfz15_3 := blk_frozen BK286.out 3; have hfz15_4 := blk_frozen BK286.out 4) | ((with_reducible refine gate_callee (f := 34) rfl ?_); refine goesL_ (some 26) rfl rfl Try.func34 (by kernel_rfl) rfl #[.string ((rd_T67 l0 x4_1).f1), .bool true] rfl ga_ ?_; (with_reducible refine (constableref01_Word.calls k1 ((rd_T67 l0 x4_1).f1) true false _ A7.out).mono ?_); rintro e w' ⟨rfl, ⟨nd, rfl⟩⟩; refine ⟨_, rfl, ?_⟩))
                go_ret
                exact ⟨by first | rfl | (simp [errW_none, errW_some] <;> rfl) | (simp [*, errW_none, errW_some] <;> rfl), by repeat (first | (with_reducible first | exact HB.out | apply below_alloc | apply pw_below_drewN | apply below_drew1 | refine below_set ?_ GE286.out) | exact HB.out)⟩
            · rw [if_neg c6] at H
              obtain ⟨c6b0, c6b1⟩ := neB_ c6
              by_cases c16 : ((rd_T67 l0 x4_1).f0) = 2
              · rw [if_pos c16] at H
                obtain ⟨c16b0, c16b1⟩ := eqB_ c16
                clear c16
                by_cases c17 : (((rd_T67 l0 x4_1).f1).size : Int) > 0
                · rw [if_pos c17] at H
                  have c17b0 : decide (0 < (((rd_T67 l0 x4_1).f1).size : Int)) = true := decide_eq_true c17
                  have c17b1 : decide (0 < ((rd_T67 l0 x4_1).f1).size) = true := decide_eq_true (by omega)
                  clear c17
                  obtain rfl := Option.some.inj H
                  have p285 : 0 ≤ (x4_1 : Int) := dt_
                  have q285 : x4_1 < (l0.length : Int) := dt_
                  obtain ⟨ad285, e285, hx285_0, hx285_1, hx285_2, hx285_3, hx285_4⟩ := at_T67 HR0.out x4_1 p285 q285
                  cases e285
                  replace hx285_0 := cm_ HB hx285_0
                  replace hx285_1 := cm_ HB hx285_1
                  replace hx285_2 := cm_ HB hx285_2
                  replace hx285_3 := cm_ HB hx285_3
                  replace hx285_4 := cm_ HB hx285_4
                  replace p285 := eq_true p285
                  replace q285 := eq_true q285
                  go_wp2_with (first | ((with_reducible refine gate_dst (N := 5) rfl ?_); refine box_event ?hg (N := 5) ?hd (cs := #[.int .i64 0, .string (⟨#[]⟩ : ByteArray), .int .i64 0, .int .i64 0, .string (⟨#[]⟩ : ByteArray)]) (t := 67) ?hr ?_; (case hd => rfl); (case hg => rfl); (case hr => first | (go_simp; done) | (go_simp; rfl)); intro gb286 hg w18 hbox hb; have n0_ := bs_ (be_ HB) hb; have n1_ := Aside0.mk (hbox); have n2_ := gs_ hg (be_ HB); have n3_ := gs_ hg (be_ HB); clear HB; have HB := n0_; have BK286 := n1_; have GW286 := n2_; have GE286 := n3_; clear n0_ n1_ n2_ n3_; clear hb hbox hg; have hcz19_0 : w18.cell? ⟨gb286, 0, none⟩ = some (.int .i64 0) := (blk_cell BK286.out 0).trans rfl; have hcz19_1 : w18.cell? ⟨gb286, 1, none⟩ = some (.string (⟨#[]⟩ : ByteArray)) := (blk_cell BK286.out 1).trans rfl; have hcz19_2 : w18.cell? ⟨gb286, 2, none⟩ = some (.int .i64 0) := (blk_cell BK286.out 2).trans rfl; have hcz19_3 : w18.cell? ⟨gb286, 3, none⟩ = some (.int .i64 0) := (blk_cell BK286.out 3).trans rfl; have hcz19_4 : w18.cell? ⟨gb286, 4, none⟩ = some (.string (⟨#[]⟩ : ByteArray)) := (blk_cell BK286.out 4).trans rfl; have hfz19_0 := blk_frozen BK286.out 0; have hfz19_1 := blk_frozen BK286.out 1; have hfz19_2 := blk_frozen BK286.out 2; have hfz19_3 := blk_frozen BK286.out 3; have hfz19_4 := blk_frozen BK286.out 4))
                  go_ret
                  exact ⟨by first | rfl | (simp [errW_none, errW_some] <;> rfl) | (simp [*, errW_none, errW_some] <;> rfl), by repeat (first | (with_reducible first | exact HB.out | apply below_alloc | apply pw_below_drewN | apply below_drew1 | refine below_set ?_ GE286.out) | exact HB.out)⟩
                · rw [if_neg c17] at H
                  have c17b0 : decide (0 < (((rd_T67 l0 x4_1).f1).size : Int)) = false := decide_eq_false c17
                  have c17b1 : decide (0 < ((rd_T67 l0 x4_1).f1).size) = false := decide_eq_false (by omega)
                  clear c17
                  replace H := Option.bind_eq_some_iff.mp H
                  obtain ⟨t288, A200, H⟩ := H
                  replace H : (if t288 = true then (constableref01_Expr.l0 k1 l0 (wrap64 (x3_1 + 1)) (wrap64 (x4_1 + 1))) else (some false)) = some r := H
                  have A20 := Aside0.mk A200
                  clear A200
                  by_cases c21 : t288 = true
                  · subst c21
                    have H1 : (constableref01_Expr.l0 k1 l0 (wrap64 (x3_1 + 1)) (wrap64 (x4_1 + 1))) = some r := by rw [if_pos rfl] at H; exact H
                    clear H
                    have H := H1
                    clear H1
                    have H' := Aside0.mk H
                    clear H
                    have p285 : 0 ≤ (x4_1 : Int) := dt_
                    have q285 : x4_1 < (l0.length : Int) := dt_
                    obtain ⟨ad285, e285, hx285_0, hx285_1, hx285_2, hx285_3, hx285_4⟩ := at_T67 HR0.out x4_1 p285 q285
                    cases e285
                    replace hx285_0 := cm_ HB hx285_0
                    replace hx285_1 := cm_ HB hx285_1
                    replace hx285_2 := cm_ HB hx285_2
                    replace hx285_3 := cm_ HB hx285_3
                    replace hx285_4 := cm_ HB hx285_4
                    replace p285 := eq_true p285
                    replace q285 := eq_true q285
                    go_wp2_with (first | ((with_reducible refine gate_dst (N := 5) rfl ?_); refine box_event ?hg (N := 5) ?hd (cs := #[.int .i64 0, .string (⟨#[]⟩ : ByteArray), .int .i64 0, .int .i64 0, .string (⟨#[]⟩ : ByteArray)]) (t := 67) ?hr ?_; (case hd => rfl); (case hg => rfl); (case hr => first | (go_simp; done) | (go_simp; rfl)); intro gb286 hg w22 hbox hb; have n0_ := bs_ (be_ HB) hb; have n1_ := Aside0.mk (hbox); have n2_ := gs_ hg (be_ HB); have n3_ := gs_ hg (be_ HB); clear HB; have HB := n0_; have BK286 := n1_; have GW286 := n2_; have GE286 := n3_; clear n0_ n1_ n2_ n3_; clear hb hbox hg; have hcz23_0 : w22.cell? ⟨gb286, 0, none⟩ = some (.int .i64 0) := (blk_cell BK286.out 0).trans rfl; have hcz23_1 : w22.cell? ⟨gb286, 1, none⟩ = some (.string (⟨#[]⟩ : ByteArray)) := (blk_cell BK286.out 1).trans rfl; have hcz23_2 : w22.cell? ⟨gb286, 2, none⟩ = some (.int .i64 0) := (blk_cell BK286.out 2).trans rfl; have hcz23_3 : w22.cell? ⟨gb286, 3, none⟩ = some (.int .i64 0) := (blk_cell BK286.out 3).trans rfl; have hcz23_4 : w22.cell? ⟨gb286, 4, none⟩ = some (.string (⟨#[]⟩ : ByteArray)) := (blk_cell BK286.out 4).trans rfl; have hfz23_0 := blk_frozen BK286.out 0; have hfz23_1 := blk_frozen BK286.out 1; have hfz23_2 := blk_frozen BK286.out 2; have hfz23_3 := blk_frozen BK286.out 3; have hfz23_4 := blk_frozen BK286.out 4) | (go_at_call 19; (with_reducible refine (constableref01_Value.calls k1 ((rd_T67 l0 x4_1).f2.f0) ((rd_T67 l0 x4_1).f2.f1) ((rd_T67 l0 x4_1).f2.f2) true _ A20.out).mono ?_); rintro e w24 ⟨rfl, hb⟩; have n0_ := Aside0.mk (blk_below (o := .cells #[.int .i64 ((rd_T67 l0 x4_1).f0), .string ((rd_T67 l0 x4_1).f1), .int .i64 ((rd_T67 l0 x4_1).f2.f0), .int .i64 ((rd_T67 l0 x4_1).f2.f1), .string ((rd_T67 l0 x4_1).f2.f2)] 67 (0, 0)) (bp_ BK286) hb); have n1_ := bs_ (be_ HB) hb; clear BK286; clear HB; have BK286 := n0_; have HB := n1_; clear n0_ n1_; (try clear hcz23_0 hcz23_1 hcz23_2 hcz23_3 hcz23_4 hfz23_0 hfz23_1 hfz23_2 hfz23_3 hfz23_4); (try clear hb); (try clear hb2); (try clear hk); (try clear hi)))
                    go_roundg k1
                    case measure => have := HK1.out; omega
                    case rel => exact ⟨(wrap64 (x3_1 + 1)), (wrap64 (x4_1 + 1)), ra_, ra_, H', ⟨by have := HK1.out; omega⟩, ⟨by repeat (first | (with_reducible first | exact HB.out | apply below_alloc | apply pw_below_drewN | apply below_drew1 | refine below_set ?_ GE286.out) | exact HB.out)⟩⟩
                  · replace c21 := Bool.eq_false_iff.mpr c21
                    subst c21
                    have H1 : (some false) = some r := by rw [if_neg (show ¬ (false = true) by decide)] at H; exact H
                    clear H
                    have H := H1
                    clear H1
                    obtain rfl := Option.some.inj H
                    have p285 : 0 ≤ (x4_1 : Int) := dt_
                    have q285 : x4_1 < (l0.length : Int) := dt_
                    obtain ⟨ad285, e285, hx285_0, hx285_1, hx285_2, hx285_3, hx285_4⟩ := at_T67 HR0.out x4_1 p285 q285
                    cases e285
                    replace hx285_0 := cm_ HB hx285_0
                    replace hx285_1 := cm_ HB hx285_1
                    replace hx285_2 := cm_ HB hx285_2
                    replace hx285_3 := cm_ HB hx285_3
                    replace hx285_4 := cm_ HB hx285_4
                    replace p285 := eq_true p285
                    replace q285 := eq_true q285
                    go_wp2_with (first | ((with_reducible refine gate_dst (N := 5) rfl ?_); refine box_event ?hg (N := 5) ?hd (cs := #[.int .i64 0, .string (⟨#[]⟩ : ByteArray), .int .i64 0, .int .i64 0, .string (⟨#[]⟩ : ByteArray)]) (t := 67) ?hr ?_; (case hd => rfl); (case hg => rfl); (case hr => first | (go_simp; done) | (go_simp; rfl)); intro gb286 hg w25 hbox hb; have n0_ := bs_ (be_ HB) hb; have n1_ := Aside0.mk (hbox); have n2_ := gs_ hg (be_ HB); have n3_ := gs_ hg (be_ HB); clear HB; have HB := n0_; have BK286 := n1_; have GW286 := n2_; have GE286 := n3_; clear n0_ n1_ n2_ n3_; clear hb hbox hg; have hcz26_0 : w25.cell? ⟨gb286, 0, none⟩ = some (.int .i64 0) := (blk_cell BK286.out 0).trans rfl; have hcz26_1 : w25.cell? ⟨gb286, 1, none⟩ = some (.string (⟨#[]⟩ : ByteArray)) := (blk_cell BK286.out 1).trans rfl; have hcz26_2 : w25.cell? ⟨gb286, 2, none⟩ = some (.int .i64 0) := (blk_cell BK286.out 2).trans rfl; have hcz26_3 : w25.cell? ⟨gb286, 3, none⟩ = some (.int .i64 0) := (blk_cell BK286.out 3).trans rfl; have hcz26_4 : w25.cell? ⟨gb286, 4, none⟩ = some (.string (⟨#[]⟩ : ByteArray)) := (blk_cell BK286.out 4).trans rfl; have hfz26_0 := blk_frozen BK286.out 0; have hfz26_1 := blk_frozen BK286.out 1; have hfz26_2 := blk_frozen BK286.out 2; have hfz26_3 := blk_frozen BK286.out 3; have hfz26_4 := blk_frozen BK286.out 4) | (go_at_call 19; (with_reducible refine (constableref01_Value.calls k1 ((rd_T67 l0 x4_1).f2.f0) ((rd_T67 l0 x4_1).f2.f1) ((rd_T67 l0 x4_1).f2.f2) false _ A20.out).mono ?_); rintro e w27 ⟨rfl, hb⟩; have n0_ := Aside0.mk (blk_below (o := .cells #[.int .i64 ((rd_T67 l0 x4_1).f0), .string ((rd_T67 l0 x4_1).f1), .int .i64 ((rd_T67 l0 x4_1).f2.f0), .int .i64 ((rd_T67 l0 x4_1).f2.f1), .string ((rd_T67 l0 x4_1).f2.f2)] 67 (0, 0)) (bp_ BK286) hb); have n1_ := bs_ (be_ HB) hb; clear BK286; clear HB; have BK286 := n0_; have HB := n1_; clear n0_ n1_; (try clear hcz26_0 hcz26_1 hcz26_2 hcz26_3 hcz26_4 hfz26_0 hfz26_1 hfz26_2 hfz26_3 hfz26_4); (try clear hb); (try clear hb2); (try clear hk); (try clear hi)))
                    go_ret
                    exact ⟨by first | rfl | (simp [errW_none, errW_some] <;> rfl) | (simp [*, errW_none, errW_some] <;> rfl), by repeat (first | (with_reducible first | exact HB.out | apply below_alloc | apply pw_below_drewN | apply below_drew1 | refine below_set ?_ GE286.out) | exact HB.out)⟩
              · rw [if_neg c16] at H
                obtain ⟨c16b0, c16b1⟩ := neB_ c16
                have HC28 := Aside0.mk H
                clear H
                have p285 : 0 ≤ (x4_1 : Int) := dt_
                have q285 : x4_1 < (l0.length : Int) := dt_
                obtain ⟨ad285, e285, hx285_0, hx285_1, hx285_2, hx285_3, hx285_4⟩ := at_T67 HR0.out x4_1 p285 q285
                cases e285
                replace hx285_0 := cm_ HB hx285_0
                replace hx285_1 := cm_ HB hx285_1
                replace hx285_2 := cm_ HB hx285_2
                replace hx285_3 := cm_ HB hx285_3
                replace hx285_4 := cm_ HB hx285_4
                replace p285 := eq_true p285
                replace q285 := eq_true q285
                go_upto_if 50 with (first | ((with_reducible refine gate_dst (N := 5) rfl ?_); refine box_event ?hg (N := 5) ?hd (cs := #[.int .i64 0, .string (⟨#[]⟩ : ByteArray), .int .i64 0, .int .i64 0, .string (⟨#[]⟩ : ByteArray)]) (t := 67) ?hr ?_; (case hd => rfl); (case hg => rfl); (case hr => first | (go_simp; done) | (go_simp; rfl)); intro gb286 hg w29 hbox hb; have n0_ := bs_ (be_ HB) hb; have n1_ := Aside0.mk (hbox); have n2_ := gs_ hg (be_ HB); have n3_ := gs_ hg (be_ HB); clear HB; have HB := n0_; have BK286 := n1_; have GW286 := n2_; have GE286 := n3_; clear n0_ n1_ n2_ n3_; clear hb hbox hg; have hcz30_0 : w29.cell? ⟨gb286, 0, none⟩ = some (.int .i64 0) := (blk_cell BK286.out 0).trans rfl; have hcz30_1 : w29.cell? ⟨gb286, 1, none⟩ = some (.string (⟨#[]⟩ : ByteArray)) := (blk_cell BK286.out 1).trans rfl; have hcz30_2 : w29.cell? ⟨gb286, 2, none⟩ = some (.int .i64 0) := (blk_cell BK286.out 2).trans rfl; have hcz30_3 : w29.cell? ⟨gb286, 3, none⟩ = some (.int .i64 0) := (blk_cell BK286.out 3).trans rfl; have hcz30_4 : w29.cell? ⟨gb286, 4, none⟩ = some (.string (⟨#[]⟩ : ByteArray)) := (blk_cell BK286.out 4).trans rfl; have hfz30_0 := blk_frozen BK286.out 0; have hfz30_1 := blk_frozen BK286.out 1; have hfz30_2 := blk_frozen BK286.out 2; have hfz30_3 := blk_frozen BK286.out 3; have hfz30_4 := blk_frozen BK286.out 4))
                (try simp only [Act.put, List.setIfInBounds_toArray, List.set_cons_zero, List.set_cons_succ])
                go_cut [50] (fun v50 wc => ∃ (kq : Nat) (x50_27 : Bool), v50 = .bool x50_27 ∧ Aside0 (constableref01_Expr.j1 kq l0 x3_1 x4_1 x50_27 ((rd_T67 l0 x4_1).f0) ((rd_T67 l0 x4_1).f1) ((rd_T67 l0 x4_1).f2.f0) ((rd_T67 l0 x4_1).f2.f1) ((rd_T67 l0 x4_1).f2.f2) = some r) ∧ Aside0 (kq ≤ k1) ∧ Aside0 (wc.heap[gb286]? = some (.cells #[.int .i64 ((rd_T67 l0 x4_1).f0), .string ((rd_T67 l0 x4_1).f1), .int .i64 ((rd_T67 l0 x4_1).f2.f0), .int .i64 ((rd_T67 l0 x4_1).f2.f1), .string ((rd_T67 l0 x4_1).f2.f2)] 67 (0, 0))) ∧ Aside0 (Below w.heap.size w wc))
                case first =>
                  have H := HC28.out
                  clear HC28
                  by_cases c31 : ((rd_T67 l0 x4_1).f0) = 3
                  · rw [if_pos c31] at H
                    obtain ⟨c31b0, c31b1⟩ := eqB_ c31
                    clear c31
                    (first | rw [c31b0] | (simp only [i64_w, i32_w]; rw [c31b0]) | skip)
                    have H' := Aside0.mk H
                    clear H
                    go_wp2
                    go_meet
                    case rel => exact ⟨_, ((((rd_T67 l0 x4_1).f0) == 3)), ra_, H', ⟨by have := HK1.out; first | omega | exact Nat.le_refl _⟩, ⟨by (with_reducible repeat (first | refine blk_drewN ?_ _ | refine blk_drew ?_ | refine blk_alloc ?_ _)); refine blk_put (cs := #[.int .i64 ((rd_T67 l0 x4_1).f0), .string ((rd_T67 l0 x4_1).f1), .int .i64 ((rd_T67 l0 x4_1).f2.f0), .int .i64 ((rd_T67 l0 x4_1).f2.f1), .string (⟨#[]⟩ : ByteArray)]) ?_ 4 _ rfl; (with_reducible repeat (first | refine blk_drewN ?_ _ | refine blk_drew ?_ | refine blk_alloc ?_ _)); refine blk_put (cs := #[.int .i64 ((rd_T67 l0 x4_1).f0), .string ((rd_T67 l0 x4_1).f1), .int .i64 ((rd_T67 l0 x4_1).f2.f0), .int .i64 0, .string (⟨#[]⟩ : ByteArray)]) ?_ 3 _ rfl; (with_reducible repeat (first | refine blk_drewN ?_ _ | refine blk_drew ?_ | refine blk_alloc ?_ _)); refine blk_put (cs := #[.int .i64 ((rd_T67 l0 x4_1).f0), .string ((rd_T67 l0 x4_1).f1), .int .i64 0, .int .i64 0, .string (⟨#[]⟩ : ByteArray)]) ?_ 2 _ rfl; (with_reducible repeat (first | refine blk_drewN ?_ _ | refine blk_drew ?_ | refine blk_alloc ?_ _)); refine blk_put (cs := #[.int .i64 ((rd_T67 l0 x4_1).f0), .string (⟨#[]⟩ : ByteArray), .int .i64 0, .int .i64 0, .string (⟨#[]⟩ : ByteArray)]) ?_ 1 _ rfl; (with_reducible repeat (first | refine blk_drewN ?_ _ | refine blk_drew ?_ | refine blk_alloc ?_ _)); refine blk_put (cs := #[.int .i64 0, .string (⟨#[]⟩ : ByteArray), .int .i64 0, .int .i64 0, .string (⟨#[]⟩ : ByteArray)]) ?_ 0 _ rfl; (with_reducible repeat (first | refine blk_drewN ?_ _ | refine blk_drew ?_ | refine blk_alloc ?_ _)); exact BK286.out⟩, ⟨by repeat (first | (with_reducible first | exact HB.out | apply below_alloc | apply pw_below_drewN | apply below_drew1 | refine below_set ?_ GE286.out) | exact HB.out)⟩⟩
                  · rw [if_neg c31] at H
                    obtain ⟨c31b0, c31b1⟩ := neB_ c31
                    (first | rw [c31b0] | (simp only [i64_w, i32_w]; rw [c31b0]) | skip)
                    by_cases c32 : ((rd_T67 l0 x4_1).f0) = 4
                    · rw [if_pos c32] at H
                      obtain ⟨c32b0, c32b1⟩ := eqB_ c32
                      clear c32
                      have H' := Aside0.mk H
                      clear H
                      go_wp2
                      go_meet
                      case rel => exact ⟨_, ((((rd_T67 l0 x4_1).f0) == 4)), ra_, H', ⟨by have := HK1.out; first | omega | exact Nat.le_refl _⟩, ⟨by (with_reducible repeat (first | refine blk_drewN ?_ _ | refine blk_drew ?_ | refine blk_alloc ?_ _)); refine blk_put (cs := #[.int .i64 ((rd_T67 l0 x4_1).f0), .string ((rd_T67 l0 x4_1).f1), .int .i64 ((rd_T67 l0 x4_1).f2.f0), .int .i64 ((rd_T67 l0 x4_1).f2.f1), .string (⟨#[]⟩ : ByteArray)]) ?_ 4 _ rfl; (with_reducible repeat (first | refine blk_drewN ?_ _ | refine blk_drew ?_ | refine blk_alloc ?_ _)); refine blk_put (cs := #[.int .i64 ((rd_T67 l0 x4_1).f0), .string ((rd_T67 l0 x4_1).f1), .int .i64 ((rd_T67 l0 x4_1).f2.f0), .int .i64 0, .string (⟨#[]⟩ : ByteArray)]) ?_ 3 _ rfl; (with_reducible repeat (first | refine blk_drewN ?_ _ | refine blk_drew ?_ | refine blk_alloc ?_ _)); refine blk_put (cs := #[.int .i64 ((rd_T67 l0 x4_1).f0), .string ((rd_T67 l0 x4_1).f1), .int .i64 0, .int .i64 0, .string (⟨#[]⟩ : ByteArray)]) ?_ 2 _ rfl; (with_reducible repeat (first | refine blk_drewN ?_ _ | refine blk_drew ?_ | refine blk_alloc ?_ _)); refine blk_put (cs := #[.int .i64 ((rd_T67 l0 x4_1).f0), .string (⟨#[]⟩ : ByteArray), .int .i64 0, .int .i64 0, .string (⟨#[]⟩ : ByteArray)]) ?_ 1 _ rfl; (with_reducible repeat (first | refine blk_drewN ?_ _ | refine blk_drew ?_ | refine blk_alloc ?_ _)); refine blk_put (cs := #[.int .i64 0, .string (⟨#[]⟩ : ByteArray), .int .i64 0, .int .i64 0, .string (⟨#[]⟩ : ByteArray)]) ?_ 0 _ rfl; (with_reducible repeat (first | refine blk_drewN ?_ _ | refine blk_drew ?_ | refine blk_alloc ?_ _)); exact BK286.out⟩, ⟨by repeat (first | (with_reducible first | exact HB.out | apply below_alloc | apply pw_below_drewN | apply below_drew1 | refine below_set ?_ GE286.out) | exact HB.out)⟩⟩
                    · rw [if_neg c32] at H
                      obtain ⟨c32b0, c32b1⟩ := neB_ c32
                      have H' := Aside0.mk H
                      clear H
                      go_wp2
                      go_meet
                      case rel => exact ⟨_, ((((rd_T67 l0 x4_1).f0) == 5)), ra_, H', ⟨by have := HK1.out; first | omega | exact Nat.le_refl _⟩, ⟨by (with_reducible repeat (first | refine blk_drewN ?_ _ | refine blk_drew ?_ | refine blk_alloc ?_ _)); refine blk_put (cs := #[.int .i64 ((rd_T67 l0 x4_1).f0), .string ((rd_T67 l0 x4_1).f1), .int .i64 ((rd_T67 l0 x4_1).f2.f0), .int .i64 ((rd_T67 l0 x4_1).f2.f1), .string (⟨#[]⟩ : ByteArray)]) ?_ 4 _ rfl; (with_reducible repeat (first | refine blk_drewN ?_ _ | refine blk_drew ?_ | refine blk_alloc ?_ _)); refine blk_put (cs := #[.int .i64 ((rd_T67 l0 x4_1).f0), .string ((rd_T67 l0 x4_1).f1), .int .i64 ((rd_T67 l0 x4_1).f2.f0), .int .i64 0, .string (⟨#[]⟩ : ByteArray)]) ?_ 3 _ rfl; (with_reducible repeat (first | refine blk_drewN ?_ _ | refine blk_drew ?_ | refine blk_alloc ?_ _)); refine blk_put (cs := #[.int .i64 ((rd_T67 l0 x4_1).f0), .string ((rd_T67 l0 x4_1).f1), .int .i64 0, .int .i64 0, .string (⟨#[]⟩ : ByteArray)]) ?_ 2 _ rfl; (with_reducible repeat (first | refine blk_drewN ?_ _ | refine blk_drew ?_ | refine blk_alloc ?_ _)); refine blk_put (cs := #[.int .i64 ((rd_T67 l0 x4_1).f0), .string (⟨#[]⟩ : ByteArray), .int .i64 0, .int .i64 0, .string (⟨#[]⟩ : ByteArray)]) ?_ 1 _ rfl; (with_reducible repeat (first | refine blk_drewN ?_ _ | refine blk_drew ?_ | refine blk_alloc ?_ _)); refine blk_put (cs := #[.int .i64 0, .string (⟨#[]⟩ : ByteArray), .int .i64 0, .int .i64 0, .string (⟨#[]⟩ : ByteArray)]) ?_ 0 _ rfl; (with_reducible repeat (first | refine blk_drewN ?_ _ | refine blk_drew ?_ | refine blk_alloc ?_ _)); exact BK286.out⟩, ⟨by repeat (first | (with_reducible first | exact HB.out | apply below_alloc | apply pw_below_drewN | apply below_drew1 | refine below_set ?_ GE286.out) | exact HB.out)⟩⟩
                case rest =>
                  clear HC28
                  try clear c1
                  try clear c2
                  try clear p2
                  try clear q2
                  try clear hx2
                  try clear c3
                  try clear c4
                  try clear c4b0
                  try clear c5
                  try clear c5b0
                  try clear c6
                  try clear c6b0
                  try clear c6b1
                  try clear p6
                  try clear c8
                  try clear c9
                  try clear c9b0
                  try clear c9b1
                  try clear c16
                  try clear c16b0
                  try clear c16b1
                  try clear c17
                  try clear c17b0
                  try clear c17b1
                  try clear c21
                  try clear p28
                  try clear q28
                  try clear hx28
                  try clear c29
                  try clear c31
                  try clear c31b0
                  try clear c31b1
                  try clear c32
                  try clear c32b0
                  try clear c32b1
                  try clear hcz11_0
                  try clear hcz11_1
                  try clear hcz11_2
                  try clear hcz11_3
                  try clear hcz11_4
                  try clear hcz13_0
                  try clear hcz13_1
                  try clear hcz13_2
                  try clear hcz13_3
                  try clear hcz13_4
                  try clear hcz15_0
                  try clear hcz15_1
                  try clear hcz15_2
                  try clear hcz15_3
                  try clear hcz15_4
                  try clear hcz19_0
                  try clear hcz19_1
                  try clear hcz19_2
                  try clear hcz19_3
                  try clear hcz19_4
                  try clear hcz23_0
                  try clear hcz23_1
                  try clear hcz23_2
                  try clear hcz23_3
                  try clear hcz23_4
                  try clear hcz26_0
                  try clear hcz26_1
                  try clear hcz26_2
                  try clear hcz26_3
                  try clear hcz26_4
                  try clear hcz30_0
                  try clear hcz30_1
                  try clear hcz30_2
                  try clear hcz30_3
                  try clear hcz30_4
                  try clear hfz11_0
                  try clear hfz11_1
                  try clear hfz11_2
                  try clear hfz11_3
                  try clear hfz11_4
                  try clear hfz13_0
                  try clear hfz13_1
                  try clear hfz13_2
                  try clear hfz13_3
                  try clear hfz13_4
                  try clear hfz15_0
                  try clear hfz15_1
                  try clear hfz15_2
                  try clear hfz15_3
                  try clear hfz15_4
                  try clear hfz19_0
                  try clear hfz19_1
                  try clear hfz19_2
                  try clear hfz19_3
                  try clear hfz19_4
                  try clear hfz23_0
                  try clear hfz23_1
                  try clear hfz23_2
                  try clear hfz23_3
                  try clear hfz23_4
                  try clear hfz26_0
                  try clear hfz26_1
                  try clear hfz26_2
                  try clear hfz26_3
                  try clear hfz26_4
                  try clear hfz30_0
                  try clear hfz30_1
                  try clear hfz30_2
                  try clear hfz30_3
                  try clear hfz30_4
                  try clear hx285_0
                  try clear hx285_1
                  try clear hx285_2
                  try clear hx285_3
                  try clear hx285_4
                  try clear p2
                  try clear p285
                  try clear q285
                  obtain ⟨kq, x50_27, rfl, HA, HJ27, BK286, HB⟩ := hcut
                  cases kq with
                  | zero => exact absurd HA.out (by simp [constableref01_Expr.j1])
                  | succ kj27 =>
                    have H := HA.out
                    clear HA
                    simp only [constableref01_Expr.j1] at H
                    by_cases c33 : x50_27 = true
                    · subst c33
                      have H1 : (if (((rd_T67 l0 x4_1).f1).size : Int) > 0 then (some false) else (if (!(((rd_T67 l0 x4_1).f2.f0) == 0) || (!(((rd_T67 l0 x4_1).f2.f1) == 0) || (!(((rd_T67 l0 x4_1).f2.f2).toList == ([] : List UInt8))))) = true then (some false) else (if x3_1 < 2 then (some false) else (constableref01_Expr.l0 kj27 l0 (wrap64 (x3_1 - 1)) (wrap64 (x4_1 + 1)))))) = some r := by rw [if_pos rfl] at H; exact H
                      clear H
                      have H := H1
                      clear H1
                      by_cases c34 : (((rd_T67 l0 x4_1).f1).size : Int) > 0
                      · rw [if_pos c34] at H
                        have c34b0 : decide (0 < (((rd_T67 l0 x4_1).f1).size : Int)) = true := decide_eq_true c34
                        have c34b1 : decide (0 < ((rd_T67 l0 x4_1).f1).size) = true := decide_eq_true (by omega)
                        clear c34
                        obtain rfl := Option.some.inj H
                        have hcz35_0 : wc.cell? ⟨gb286, 0, none⟩ = some (.int .i64 ((rd_T67 l0 x4_1).f0)) := (blk_cell BK286.out 0).trans rfl
                        have hcz35_1 : wc.cell? ⟨gb286, 1, none⟩ = some (.string ((rd_T67 l0 x4_1).f1)) := (blk_cell BK286.out 1).trans rfl
                        have hcz35_2 : wc.cell? ⟨gb286, 2, none⟩ = some (.int .i64 ((rd_T67 l0 x4_1).f2.f0)) := (blk_cell BK286.out 2).trans rfl
                        have hcz35_3 : wc.cell? ⟨gb286, 3, none⟩ = some (.int .i64 ((rd_T67 l0 x4_1).f2.f1)) := (blk_cell BK286.out 3).trans rfl
                        have hcz35_4 : wc.cell? ⟨gb286, 4, none⟩ = some (.string ((rd_T67 l0 x4_1).f2.f2)) := (blk_cell BK286.out 4).trans rfl
                        have hfz35_0 := blk_frozen BK286.out 0
                        have hfz35_1 := blk_frozen BK286.out 1
                        have hfz35_2 := blk_frozen BK286.out 2
                        have hfz35_3 := blk_frozen BK286.out 3
                        have hfz35_4 := blk_frozen BK286.out 4
                        go_wp2
                        go_ret
                        exact ⟨by first | rfl | (simp [errW_none, errW_some] <;> rfl) | (simp [*, errW_none, errW_some] <;> rfl), by repeat (first | (with_reducible first | exact HB.out | apply below_alloc | apply pw_below_drewN | apply below_drew1 | refine below_set ?_ GE286.out) | exact HB.out)⟩
                      · rw [if_neg c34] at H
                        have c34b0 : decide (0 < (((rd_T67 l0 x4_1).f1).size : Int)) = false := decide_eq_false c34
                        have c34b1 : decide (0 < ((rd_T67 l0 x4_1).f1).size) = false := decide_eq_false (by omega)
                        clear c34
                        by_cases c36 : (!(((rd_T67 l0 x4_1).f2.f0) == 0) || (!(((rd_T67 l0 x4_1).f2.f1) == 0) || (!(((rd_T67 l0 x4_1).f2.f2).toList == ([] : List UInt8))))) = true
                        · rw [if_pos c36] at H
                          have c36b0 : (!(((rd_T67 l0 x4_1).f2.f0) == 0) || (!(((rd_T67 l0 x4_1).f2.f1) == 0) || (!(((rd_T67 l0 x4_1).f2.f2).toList == ([] : List UInt8))))) = true := c36
                          (try (have c36b1 : (!(((rd_T67 l0 x4_1).f2.f0) == 0) || (!(((rd_T67 l0 x4_1).f2.f1) == 0) || (!(((rd_T67 l0 x4_1).f2.f2).toList.isEmpty)))) = true := by first | simpa using c36 | (simp at c36 ⊢; exact c36)))
                          clear c36
                          obtain rfl := Option.some.inj H
                          have hcz37_0 : wc.cell? ⟨gb286, 0, none⟩ = some (.int .i64 ((rd_T67 l0 x4_1).f0)) := (blk_cell BK286.out 0).trans rfl
                          have hcz37_1 : wc.cell? ⟨gb286, 1, none⟩ = some (.string ((rd_T67 l0 x4_1).f1)) := (blk_cell BK286.out 1).trans rfl
                          have hcz37_2 : wc.cell? ⟨gb286, 2, none⟩ = some (.int .i64 ((rd_T67 l0 x4_1).f2.f0)) := (blk_cell BK286.out 2).trans rfl
                          have hcz37_3 : wc.cell? ⟨gb286, 3, none⟩ = some (.int .i64 ((rd_T67 l0 x4_1).f2.f1)) := (blk_cell BK286.out 3).trans rfl
                          have hcz37_4 : wc.cell? ⟨gb286, 4, none⟩ = some (.string ((rd_T67 l0 x4_1).f2.f2)) := (blk_cell BK286.out 4).trans rfl
                          have hfz37_0 := blk_frozen BK286.out 0
                          have hfz37_1 := blk_frozen BK286.out 1
                          have hfz37_2 := blk_frozen BK286.out 2
                          have hfz37_3 := blk_frozen BK286.out 3
                          have hfz37_4 := blk_frozen BK286.out 4
                          go_wp2
                          go_ret
                          exact ⟨by first | rfl | (simp [errW_none, errW_some] <;> rfl) | (simp [*, errW_none, errW_some] <;> rfl), by repeat (first | (with_reducible first | exact HB.out | apply below_alloc | apply pw_below_drewN | apply below_drew1 | refine below_set ?_ GE286.out) | exact HB.out)⟩
                        · rw [if_neg c36] at H
                          have c36b0 : (!(((rd_T67 l0 x4_1).f2.f0) == 0) || (!(((rd_T67 l0 x4_1).f2.f1) == 0) || (!(((rd_T67 l0 x4_1).f2.f2).toList == ([] : List UInt8))))) = false := by simpa using c36
                          (try (have c36b1 : (!(((rd_T67 l0 x4_1).f2.f0) == 0) || (!(((rd_T67 l0 x4_1).f2.f1) == 0) || (!(((rd_T67 l0 x4_1).f2.f2).toList.isEmpty)))) = false := by first | simpa using c36 | (simp at c36 ⊢; exact c36)))
                          clear c36
                          by_cases c38 : x3_1 < 2
                          · rw [if_pos c38] at H
                            have c38b0 : decide (x3_1 < 2) = true := decide_eq_true c38
                            clear c38
                            obtain rfl := Option.some.inj H
                            have hcz39_0 : wc.cell? ⟨gb286, 0, none⟩ = some (.int .i64 ((rd_T67 l0 x4_1).f0)) := (blk_cell BK286.out 0).trans rfl
                            have hcz39_1 : wc.cell? ⟨gb286, 1, none⟩ = some (.string ((rd_T67 l0 x4_1).f1)) := (blk_cell BK286.out 1).trans rfl
                            have hcz39_2 : wc.cell? ⟨gb286, 2, none⟩ = some (.int .i64 ((rd_T67 l0 x4_1).f2.f0)) := (blk_cell BK286.out 2).trans rfl
                            have hcz39_3 : wc.cell? ⟨gb286, 3, none⟩ = some (.int .i64 ((rd_T67 l0 x4_1).f2.f1)) := (blk_cell BK286.out 3).trans rfl
                            have hcz39_4 : wc.cell? ⟨gb286, 4, none⟩ = some (.string ((rd_T67 l0 x4_1).f2.f2)) := (blk_cell BK286.out 4).trans rfl
                            have hfz39_0 := blk_frozen BK286.out 0
                            have hfz39_1 := blk_frozen BK286.out 1
                            have hfz39_2 := blk_frozen BK286.out 2
                            have hfz39_3 := blk_frozen BK286.out 3
                            have hfz39_4 := blk_frozen BK286.out 4
                            go_wp2
                            go_ret
                            exact ⟨by first | rfl | (simp [errW_none, errW_some] <;> rfl) | (simp [*, errW_none, errW_some] <;> rfl), by repeat (first | (with_reducible first | exact HB.out | apply below_alloc | apply pw_below_drewN | apply below_drew1 | refine below_set ?_ GE286.out) | exact HB.out)⟩
                          · rw [if_neg c38] at H
                            have c38b0 : decide (x3_1 < 2) = false := decide_eq_false c38
                            clear c38
                            have H' := Aside0.mk H
                            clear H
                            have hcz40_0 : wc.cell? ⟨gb286, 0, none⟩ = some (.int .i64 ((rd_T67 l0 x4_1).f0)) := (blk_cell BK286.out 0).trans rfl
                            have hcz40_1 : wc.cell? ⟨gb286, 1, none⟩ = some (.string ((rd_T67 l0 x4_1).f1)) := (blk_cell BK286.out 1).trans rfl
                            have hcz40_2 : wc.cell? ⟨gb286, 2, none⟩ = some (.int .i64 ((rd_T67 l0 x4_1).f2.f0)) := (blk_cell BK286.out 2).trans rfl
                            have hcz40_3 : wc.cell? ⟨gb286, 3, none⟩ = some (.int .i64 ((rd_T67 l0 x4_1).f2.f1)) := (blk_cell BK286.out 3).trans rfl
                            have hcz40_4 : wc.cell? ⟨gb286, 4, none⟩ = some (.string ((rd_T67 l0 x4_1).f2.f2)) := (blk_cell BK286.out 4).trans rfl
                            have hfz40_0 := blk_frozen BK286.out 0
                            have hfz40_1 := blk_frozen BK286.out 1
                            have hfz40_2 := blk_frozen BK286.out 2
                            have hfz40_3 := blk_frozen BK286.out 3
                            have hfz40_4 := blk_frozen BK286.out 4
                            go_wp2
                            go_roundg kj27
                            case measure => have := HK1.out; have := HJ27.out; omega
                            case rel => exact ⟨(wrap64 (x3_1 - 1)), (wrap64 (x4_1 + 1)), ra_, ra_, H', ⟨by have := HK1.out; have := HJ27.out; omega⟩, ⟨by repeat (first | (with_reducible first | exact HB.out | apply below_alloc | apply pw_below_drewN | apply below_drew1 | refine below_set ?_ GE286.out) | exact HB.out)⟩⟩
                    · replace c33 := Bool.eq_false_iff.mpr c33
                      subst c33
                      have H1 : (some false) = some r := by rw [if_neg (show ¬ (false = true) by decide)] at H; exact H
                      clear H
                      have H := H1
                      clear H1
                      obtain rfl := Option.some.inj H
                      go_wp2
                      go_ret
                      exact ⟨by first | rfl | (simp [errW_none, errW_some] <;> rfl) | (simp [*, errW_none, errW_some] <;> rfl), by repeat (first | (with_reducible first | exact HB.out | apply below_alloc | apply pw_below_drewN | apply below_drew1 | refine below_set ?_ GE286.out) | exact HB.out)⟩
          · rw [if_neg c5] at H
            exact absurd H (by simp)
        · rw [if_neg c4] at H
          have c4b0 : decide (x4_1 < (l0.length : Int)) = false := decide_eq_false c4
          clear c4
          obtain rfl := Option.some.inj H
          go_wp2
          go_ret
          exact ⟨by first | rfl | (simp [errW_none, errW_some] <;> rfl) | (simp [*, errW_none, errW_some] <;> rfl), by repeat (first | (with_reducible first | exact HB.out | apply below_alloc | apply pw_below_drewN | apply below_drew1) | exact HB.out)⟩
  · replace c3 := Bool.eq_false_iff.mpr c3
    subst c3
    have H1 : (some false) = some r := by rw [if_neg (show ¬ (false = true) by decide)] at H; exact H
    clear H
    have H := H1
    clear H1
    obtain rfl := Option.some.inj H
    go_enter Try.func21, Try.ntmps21
    go_wp2_with (first | ((with_reducible refine gate_callee (f := 29) rfl ?_); refine goesL_ (some 8) rfl rfl Try.func29 (by kernel_rfl) rfl #[.int .i64 (l0.length : Int), .int .i64 1, .int .i64 15] rfl ga_ ?_; (with_reducible refine (constableref01_In.calls (l0.length : Int) 1 15 false _ A2.out).mono ?_); rintro e w' ⟨rfl, ⟨nd, rfl⟩⟩; refine ⟨_, rfl, ?_⟩))
    go_ret
    exact ⟨by first | rfl | (simp [errW_none, errW_some] <;> rfl) | (simp [*, errW_none, errW_some] <;> rfl), by repeat (first | (with_reducible first | exact HB.out | apply below_alloc | apply pw_below_drewN | apply below_drew1) | exact HB.out)⟩
end Go.Proofs.Ytaopajmpifenoaa.P
end
section
namespace Go.Proofs.Ytaopajmpifenoaa.P
open Go.RowKit Go.Proofs.YtaopajmpifenoaaW.PrintWords Go.Proofs.YtaopajmpifenoaaW.PrintLast Go.Proofs.YtaopajmpifenoaaW.PrintMore
attribute [local go_sem] max2_int min2_int max_two min_two max_three min_three max_four min_four
set_option linter.unusedVariables false
set_option linter.unusedSimpArgs false
def constableref01_order.f (a0 : Int) (a1 : Int) : Option (Int) := if a0 < a1 then (some (-1)) else (if a0 > a1 then (some 1) else (some 0))
set_option maxHeartbeats 8000000 in
set_option maxRecDepth 100000 in
theorem constableref01_order.calls (a0 : Int) (a1 : Int) (r : Int) (w : World) (h : constableref01_order.f a0 a1 = some r) :
    Calls Try.prog 46 #[.int .i64 a0, .int .i64 a1] w fun e w' => e = .returned (.int .i64 r) ∧ Drawn0 w w' := by
  have H : (if a0 < a1 then (some (-1)) else (if a0 > a1 then (some 1) else (some 0))) = some r := h
  clear h
  by_cases c3 : a0 < a1
  · rw [if_pos c3] at H
    have c3b0 : decide (a0 < a1) = true := decide_eq_true c3
    clear c3
    obtain rfl := Option.some.inj H
    go_enter Try.func46, Try.ntmps46
    go_wp2
    go_ret
    exact rz_
  · rw [if_neg c3] at H
    have c3b0 : decide (a0 < a1) = false := decide_eq_false c3
    clear c3
    by_cases c4 : a0 > a1
    · rw [if_pos c4] at H
      have c4b0 : decide (a1 < a0) = true := decide_eq_true c4
      clear c4
      obtain rfl := Option.some.inj H
      go_enter Try.func46, Try.ntmps46
      go_wp2
      go_ret
      exact rz_
    · rw [if_neg c4] at H
      have c4b0 : decide (a1 < a0) = false := decide_eq_false c4
      clear c4
      obtain rfl := Option.some.inj H
      go_enter Try.func46, Try.ntmps46
      go_wp2
      go_ret
      exact rz_
end Go.Proofs.Ytaopajmpifenoaa.P
end
section
namespace Go.Proofs.Ytaopajmpifenoaa.P
open Go.RowKit Go.Proofs.YtaopajmpifenoaaW.PrintWords Go.Proofs.YtaopajmpifenoaaW.PrintLast Go.Proofs.YtaopajmpifenoaaW.PrintMore
attribute [local go_sem] max2_int min2_int max_two min_two max_three min_three max_four min_four
set_option linter.unusedVariables false
set_option linter.unusedSimpArgs false
mutual
def constableref01_Strings.l0 : Nat → ByteArray → ByteArray → Int → Option (Int)
  | 0, _, _, _ => none
  | k + 1, x0, x1, x5 => if x5 < (x0.size : Int) then (constableref01_Strings.j1 k x0 x1 x5 (decide (x5 < (x1.size : Int)))) else (constableref01_Strings.j1 k x0 x1 x5 false)
def constableref01_Strings.j1 : Nat → ByteArray → ByteArray → Int → Bool → Option (Int)
  | 0, _, _, _, _ => none
  | k + 1, x0, x1, x5, x15 => if x15 = true then (if 0 ≤ x5 then (if x5 < (x0.size : Int) then (if x5 < (x1.size : Int) then (if (bt x0 x5) = (bt x1 x5) then (constableref01_Strings.l0 k x0 x1 (wrap64 (x5 + 1))) else ((constableref01_order.f (wrap64 (bt x0 x5)) (wrap64 (bt x1 x5))).bind fun t172 => (some t172))) else (none)) else (none)) else (none)) else ((constableref01_order.f (x0.size : Int) (x1.size : Int)).bind fun t173 => (some t173))
end
def constableref01_Strings.f (k : Nat) (a0 : ByteArray) (a1 : ByteArray) : Option (Int) := constableref01_Strings.l0 k a0 a1 0
theorem constableref01_Strings.mono_l : ∀ k, (∀ y0 y1 y2, LeO (constableref01_Strings.l0 k y0 y1 y2) (constableref01_Strings.l0 (k + 1) y0 y1 y2)) ∧ (∀ y0 y1 y2 y3, LeO (constableref01_Strings.j1 k y0 y1 y2 y3) (constableref01_Strings.j1 (k + 1) y0 y1 y2 y3))
  | 0 => ⟨fun _ _ _ r h => by simp [constableref01_Strings.l0] at h, fun _ _ _ _ r h => by simp [constableref01_Strings.j1] at h⟩
  | k + 1 => by
    obtain ⟨ih0, ih1⟩ := constableref01_Strings.mono_l k
    refine ⟨?_, ?_⟩
    · intro y0 y1 y2
      unfold constableref01_Strings.l0
      repeat' first
      | (with_reducible exact ih0 _ _ _)
      | (with_reducible exact ih1 _ _ _ _)
      | (with_reducible exact LeO.refl _)
      | (with_reducible exact LeO.none _)
      | (with_reducible refine LeO.ite ?_ ?_)
      | (with_reducible refine LeO.bind ?_ (fun _ => ?_))
      | exact ih0 _ _ _
      | exact ih1 _ _ _ _
      | exact LeO.none _
      | refine LeO.ite ?_ ?_
      | refine LeO.bind ?_ (fun _ => ?_)
    · intro y0 y1 y2 y3
      unfold constableref01_Strings.j1
      repeat' first
      | (with_reducible exact ih0 _ _ _)
      | (with_reducible exact ih1 _ _ _ _)
      | (with_reducible exact LeO.refl _)
      | (with_reducible exact LeO.none _)
      | (with_reducible refine LeO.ite ?_ ?_)
      | (with_reducible refine LeO.bind ?_ (fun _ => ?_))
      | exact ih0 _ _ _
      | exact ih1 _ _ _ _
      | exact LeO.none _
      | refine LeO.ite ?_ ?_
      | refine LeO.bind ?_ (fun _ => ?_)
theorem constableref01_Strings.mono : ∀ a0 a1 k, LeO (constableref01_Strings.f k a0 a1) (constableref01_Strings.f (k + 1) a0 a1) := by
  intro a0 a1 k
  obtain ⟨ih0, ih1⟩ := constableref01_Strings.mono_l k
  unfold constableref01_Strings.f
  repeat' first
      | (with_reducible exact ih0 _ _ _)
      | (with_reducible exact ih1 _ _ _ _)
      | (with_reducible exact LeO.refl _)
      | (with_reducible exact LeO.none _)
      | (with_reducible refine LeO.ite ?_ ?_)
      | (with_reducible refine LeO.bind ?_ (fun _ => ?_))
      | exact ih0 _ _ _
      | exact ih1 _ _ _ _
      | exact LeO.none _
      | refine LeO.ite ?_ ?_
      | refine LeO.bind ?_ (fun _ => ?_)
set_option maxHeartbeats 8000000 in
set_option maxRecDepth 100000 in
theorem constableref01_Strings.calls (k : Nat) (a0 : ByteArray) (a1 : ByteArray) (r : Int) (w : World) (h : constableref01_Strings.f k a0 a1 = some r) :
    Calls Try.prog 35 #[.string a0, .string a1] w fun e w' => e = .returned (.int .i64 r) ∧ Drawn0 w w' := by
  have H : (constableref01_Strings.l0 k a0 a1 0) = some r := h
  clear h
  have H' := Aside0.mk H
  clear H
  go_enter Try.func35, Try.ntmps35
  go_wp2
  repeat (go_quiet (fail); try go_wp2)
  go_loopg [5] k (fun kq v5 w' => ∃ (x5_1 : Int), v5 = .int .i64 x5_1 ∧ Aside0 (constableref01_Strings.l0 kq a0 a1 x5_1 = some r) ∧ Aside0 (kq ≤ k) ∧ Drawn0 w w')
  case atStart => exact ⟨(0), ra_, H', ⟨Nat.le_refl _⟩, dz_⟩
  case round =>
    clear H'
    try clear p2
    obtain ⟨x5_1, rfl, HA, HK1, ⟨m1, rfl⟩⟩ := hrel
    cases gk with
    | zero => exact absurd HA.out (by simp [constableref01_Strings.l0])
    | succ k1 =>
      have H := HA.out
      clear HA
      simp only [constableref01_Strings.l0] at H
      have HC3 := Aside0.mk H
      clear H
      go_upto_region 2 with (fail)
      repeat (go_quiet (fail); go_upto_region 2 with (fail))
      go_cut [15] (fun v15 wc => ∃ (kq : Nat) (x15_2 : Bool), v15 = .bool x15_2 ∧ Aside0 (constableref01_Strings.j1 kq a0 a1 x5_1 x15_2 = some r) ∧ Aside0 (kq ≤ k1) ∧ Drawn0 w wc)
      case first =>
        have H := HC3.out
        clear HC3
        by_cases c4 : x5_1 < (a0.size : Int)
        · rw [if_pos c4] at H
          have c4b0 : decide (x5_1 < (a0.size : Int)) = true := decide_eq_true c4
          clear c4
          (first | rw [c4b0] | (simp only [i64_w, i32_w]; rw [c4b0]) | skip)
          have H' := Aside0.mk H
          clear H
          go_wp2
          repeat (go_quiet (fail); try go_wp2)
          go_meet
          case rel => exact ⟨_, (decide (x5_1 < (a1.size : Int))), ra_, H', ⟨by have := HK1.out; first | omega | exact Nat.le_refl _⟩, dz_⟩
        · rw [if_neg c4] at H
          have c4b0 : decide (x5_1 < (a0.size : Int)) = false := decide_eq_false c4
          clear c4
          (first | rw [c4b0] | (simp only [i64_w, i32_w]; rw [c4b0]) | skip)
          have H' := Aside0.mk H
          clear H
          go_wp2
          repeat (go_quiet (fail); try go_wp2)
          go_meet
          case rel => exact ⟨_, (false), ra_, H', ⟨by have := HK1.out; first | omega | exact Nat.le_refl _⟩, dz_⟩
      case rest =>
        clear HC3
        try clear p2
        try clear c3
        try clear c4
        try clear c4b0
        try clear p2
        obtain ⟨kq, x15_2, rfl, HA, HJ2, ⟨mc2, rfl⟩⟩ := hcut
        cases kq with
        | zero => exact absurd HA.out (by simp [constableref01_Strings.j1])
        | succ kj2 =>
          have H := HA.out
          clear HA
          simp only [constableref01_Strings.j1] at H
          by_cases c5 : x15_2 = true
          · subst c5
            have H1 : (if 0 ≤ x5_1 then (if x5_1 < (a0.size : Int) then (if x5_1 < (a1.size : Int) then (if (bt a0 x5_1) = (bt a1 x5_1) then (constableref01_Strings.l0 kj2 a0 a1 (wrap64 (x5_1 + 1))) else ((constableref01_order.f (wrap64 (bt a0 x5_1)) (wrap64 (bt a1 x5_1))).bind fun t172 => (some t172))) else (none)) else (none)) else (none)) = some r := by rw [if_pos rfl] at H; exact H
            clear H
            have H := H1
            clear H1
            by_cases c6 : 0 ≤ x5_1
            · rw [if_pos c6] at H
              have c6b0 : decide (0 ≤ x5_1) = true := decide_eq_true c6
              clear c6
              by_cases c7 : x5_1 < (a0.size : Int)
              · rw [if_pos c7] at H
                have c7b0 : decide (x5_1 < (a0.size : Int)) = true := decide_eq_true c7
                clear c7
                by_cases c9 : x5_1 < (a1.size : Int)
                · rw [if_pos c9] at H
                  have c9b0 : decide (x5_1 < (a1.size : Int)) = true := decide_eq_true c9
                  clear c9
                  by_cases c11 : (bt a0 x5_1) = (bt a1 x5_1)
                  · rw [if_pos c11] at H
                    obtain ⟨c11b0, c11b1⟩ := eqB_ c11
                    clear c11
                    have H' := Aside0.mk H
                    clear H
                    have p8 : 0 ≤ (x5_1 : Int) := dt_
                    have q8 : x5_1 < (a0.size : Int) := dt_
                    have hx8 := bt_at a0 x5_1
                    replace p8 := eq_true p8
                    replace q8 := eq_true q8
                    have p10 : 0 ≤ (x5_1 : Int) := dt_
                    have q10 : x5_1 < (a1.size : Int) := dt_
                    have hx10 := bt_at a1 x5_1
                    replace p10 := eq_true p10
                    replace q10 := eq_true q10
                    go_wp2
                    repeat (go_quiet (fail); try go_wp2)
                    go_roundg kj2
                    case measure => have := HK1.out; have := HJ2.out; omega
                    case rel => exact ⟨(wrap64 (x5_1 + 1)), ra_, H', ⟨by have := HK1.out; have := HJ2.out; omega⟩, dz_⟩
                  · rw [if_neg c11] at H
                    obtain ⟨c11b0, c11b1⟩ := neB_ c11
                    replace H := Option.bind_eq_some_iff.mp H
                    obtain ⟨t172, A140, H⟩ := H
                    replace H : (some t172) = some r := H
                    have A14 := Aside0.mk A140
                    clear A140
                    obtain rfl := Option.some.inj H
                    have p8 : 0 ≤ (x5_1 : Int) := dt_
                    have q8 : x5_1 < (a0.size : Int) := dt_
                    have hx8 := bt_at a0 x5_1
                    replace p8 := eq_true p8
                    replace q8 := eq_true q8
                    have p10 : 0 ≤ (x5_1 : Int) := dt_
                    have q10 : x5_1 < (a1.size : Int) := dt_
                    have hx10 := bt_at a1 x5_1
                    replace p10 := eq_true p10
                    replace q10 := eq_true q10
                    have p12 : 0 ≤ (x5_1 : Int) := dt_
                    have q12 : x5_1 < (a0.size : Int) := dt_
                    have hx12 := bt_at a0 x5_1
                    replace p12 := eq_true p12
                    replace q12 := eq_true q12
                    have p13 : 0 ≤ (x5_1 : Int) := dt_
                    have q13 : x5_1 < (a1.size : Int) := dt_
                    have hx13 := bt_at a1 x5_1
                    replace p13 := eq_true p13
                    replace q13 := eq_true q13
                    go_wp2_with (first | (go_at_call 46; (with_reducible refine (constableref01_order.calls (wrap64 (bt a0 x5_1)) (wrap64 (bt a1 x5_1)) t172 _ A14.out).mono ?_); rintro e w' ⟨rfl, ⟨nd, rfl⟩⟩; (try first | exact ⟨rfl, _, World.drewN_drewN _ _ _⟩ | exact ⟨rfl, _, Eq.trans (World.drewN_drewN _ _ _) (congrArg (World.drewN _) (Nat.add_assoc _ _ _))⟩)))
                    repeat (go_quiet (first | (go_at_call 46; (with_reducible refine (constableref01_order.calls (wrap64 (bt a0 x5_1)) (wrap64 (bt a1 x5_1)) t172 _ A14.out).mono ?_); rintro e w' ⟨rfl, ⟨nd, rfl⟩⟩; (try first | exact ⟨rfl, _, World.drewN_drewN _ _ _⟩ | exact ⟨rfl, _, Eq.trans (World.drewN_drewN _ _ _) (congrArg (World.drewN _) (Nat.add_assoc _ _ _))⟩))); try go_wp2_with (first | (go_at_call 46; (with_reducible refine (constableref01_order.calls (wrap64 (bt a0 x5_1)) (wrap64 (bt a1 x5_1)) t172 _ A14.out).mono ?_); rintro e w' ⟨rfl, ⟨nd, rfl⟩⟩; (try first | exact ⟨rfl, _, World.drewN_drewN _ _ _⟩ | exact ⟨rfl, _, Eq.trans (World.drewN_drewN _ _ _) (congrArg (World.drewN _) (Nat.add_assoc _ _ _))⟩))))
                    go_ret
                    exact rz_
                · rw [if_neg c9] at H
                  exact absurd H (by simp)
              · rw [if_neg c7] at H
                exact absurd H (by simp)
            · rw [if_neg c6] at H
              exact absurd H (by simp)
          · replace c5 := Bool.eq_false_iff.mpr c5
            subst c5
            have H1 : ((constableref01_order.f (a0.size : Int) (a1.size : Int)).bind fun t173 => (some t173)) = some r := by rw [if_neg (show ¬ (false = true) by decide)] at H; exact H
            clear H
            have H := H1
            clear H1
            replace H := Option.bind_eq_some_iff.mp H
            obtain ⟨t173, A150, H⟩ := H
            replace H : (some t173) = some r := H
            have A15 := Aside0.mk A150
            clear A150
            obtain rfl := Option.some.inj H
            go_wp2_with (first | (go_at_call 46; (with_reducible refine (constableref01_order.calls (a0.size : Int) (a1.size : Int) t173 _ A15.out).mono ?_); rintro e w' ⟨rfl, ⟨nd, rfl⟩⟩; (try first | exact ⟨rfl, _, World.drewN_drewN _ _ _⟩ | exact ⟨rfl, _, Eq.trans (World.drewN_drewN _ _ _) (congrArg (World.drewN _) (Nat.add_assoc _ _ _))⟩)))
            repeat (go_quiet (first | (go_at_call 46; (with_reducible refine (constableref01_order.calls (a0.size : Int) (a1.size : Int) t173 _ A15.out).mono ?_); rintro e w' ⟨rfl, ⟨nd, rfl⟩⟩; (try first | exact ⟨rfl, _, World.drewN_drewN _ _ _⟩ | exact ⟨rfl, _, Eq.trans (World.drewN_drewN _ _ _) (congrArg (World.drewN _) (Nat.add_assoc _ _ _))⟩))); try go_wp2_with (first | (go_at_call 46; (with_reducible refine (constableref01_order.calls (a0.size : Int) (a1.size : Int) t173 _ A15.out).mono ?_); rintro e w' ⟨rfl, ⟨nd, rfl⟩⟩; (try first | exact ⟨rfl, _, World.drewN_drewN _ _ _⟩ | exact ⟨rfl, _, Eq.trans (World.drewN_drewN _ _ _) (congrArg (World.drewN _) (Nat.add_assoc _ _ _))⟩))))
            go_ret
            exact rz_
end Go.Proofs.Ytaopajmpifenoaa.P
end
section
namespace Go.Proofs.Ytaopajmpifenoaa.P
open Go.RowKit Go.Proofs.YtaopajmpifenoaaW.PrintWords Go.Proofs.YtaopajmpifenoaaW.PrintLast Go.Proofs.YtaopajmpifenoaaW.PrintMore
attribute [local go_sem] max2_int min2_int max_two min_two max_three min_three max_four min_four
set_option linter.unusedVariables false
set_option linter.unusedSimpArgs false
def constableref01_Binds.l0 : Nat → List (S54) → Int → Option (Bool)
  | 0, _, _ => none
  | k + 1, x0, x3 => if x3 < (x0.length : Int) then (if 0 ≤ x3 then ((constableref01_Word.f k ((rd_T54 x0 x3).f0) true).bind fun t294 => (if t294 = true then ((constableref01_Value.f k ((rd_T54 x0 x3).f1.f0) ((rd_T54 x0 x3).f1.f1) ((rd_T54 x0 x3).f1.f2)).bind fun t296 => (if t296 = true then (if x3 > 0 then (if 0 ≤ (wrap64 (x3 - 1)) then (if (wrap64 (x3 - 1)) < (x0.length : Int) then ((constableref01_Strings.f k ((rd_T54 x0 (wrap64 (x3 - 1))).f0) ((rd_T54 x0 x3).f0)).bind fun t299 => (if t299 ≥ 0 then (some false) else (constableref01_Binds.l0 k x0 (wrap64 (x3 + 1))))) else (none)) else (none)) else (constableref01_Binds.l0 k x0 (wrap64 (x3 + 1)))) else (some false))) else (some false))) else (none)) else (some true)
def constableref01_Binds.f (k : Nat) (l0 : List (S54)) : Option (Bool) := if (l0.length : Int) > 100 then (some false) else (constableref01_Binds.l0 k l0 0)
theorem constableref01_Binds.mono_l : ∀ k, (∀ y0 y1, LeO (constableref01_Binds.l0 k y0 y1) (constableref01_Binds.l0 (k + 1) y0 y1))
  | 0 => fun _ _ r h => by simp [constableref01_Binds.l0] at h
  | k + 1 => by
    have ih0 := constableref01_Binds.mono_l k
    · intro y0 y1
      unfold constableref01_Binds.l0
      repeat' first
      | (with_reducible exact ih0 _ _)
      | (with_reducible exact constableref01_Strings.mono _ _ _)
      | (with_reducible exact constableref01_Value.mono _ _ _ _)
      | (with_reducible exact constableref01_Word.mono _ _ _)
      | (with_reducible exact LeO.refl _)
      | (with_reducible exact LeO.none _)
      | (with_reducible refine LeO.ite ?_ ?_)
      | (with_reducible refine LeO.bind ?_ (fun _ => ?_))
      | exact ih0 _ _
      | exact constableref01_Strings.mono _ _ _
      | exact constableref01_Value.mono _ _ _ _
      | exact constableref01_Word.mono _ _ _
      | exact LeO.none _
      | refine LeO.ite ?_ ?_
      | refine LeO.bind ?_ (fun _ => ?_)
theorem constableref01_Binds.mono : ∀ a0 k, LeO (constableref01_Binds.f k a0) (constableref01_Binds.f (k + 1) a0) := by
  intro a0 k
  have ih0 := constableref01_Binds.mono_l k
  unfold constableref01_Binds.f
  repeat' first
      | (with_reducible exact ih0 _ _)
      | (with_reducible exact constableref01_Strings.mono _ _ _)
      | (with_reducible exact constableref01_Value.mono _ _ _ _)
      | (with_reducible exact constableref01_Word.mono _ _ _)
      | (with_reducible exact LeO.refl _)
      | (with_reducible exact LeO.none _)
      | (with_reducible refine LeO.ite ?_ ?_)
      | (with_reducible refine LeO.bind ?_ (fun _ => ?_))
      | exact ih0 _ _
      | exact constableref01_Strings.mono _ _ _
      | exact constableref01_Value.mono _ _ _ _
      | exact constableref01_Word.mono _ _ _
      | exact LeO.none _
      | refine LeO.ite ?_ ?_
      | refine LeO.bind ?_ (fun _ => ?_)
def constableref01_Binds.T6 : Bool × List (List Nat × List Nat) := (true, [([], []), ([], []), ([0, 1], [0, 1]), ([2], [2]), ([3], [3]), ([4], [4]), ([5], [5]), ([6, 5], [6]), ([7], [7]), ([7], [7]), ([8, 9, 7], [7, 8, 9]), ([10, 7], [7, 10]), ([11, 7], [7, 11]), ([12, 7, 7], [7, 12]), ([13, 7], [7, 13]), ([7, 14], [7, 14]), ([15, 13], [15]), ([16], [16]), ([17, 16], [16, 17]), ([18, 16, 16], [16, 18]), ([19], [19]), ([19], [19]), ([21, 19], [19, 21]), ([20, 22, 19], [19, 20, 22]), ([23, 19], [19, 23]), ([24, 19], [19, 24]), ([19], [19]), ([19], [19]), ([26, 27, 19], [19, 26, 27]), ([28, 19], [19, 28]), ([29, 19], [19, 29]), ([25, 30, 19, 19], [19, 25, 30]), ([31, 19], [19, 31]), ([19, 32, 16], [16, 19, 32]), ([16, 33], [16, 33])])
def constableref01_Binds.B6 : List Nat := [0, 0, 3, 7, 15, 31, 63, 127, 255, 255, 1023, 2047, 4095, 8191, 16383, 32767, 65535, 131071, 262143, 524287, 1048575, 1048575, 3145727, 8388607, 16777215, 33554431, 1048575, 1048575, 202375167, 470810623, 1007681535, 2147483647, 4294967295, 8589934591, 17179869183]
theorem constableref01_Binds.tab6 : rtab .any (opsOf Try.f16 6) = constableref01_Binds.T6 := by kernel_rfl
theorem constableref01_Binds.bits6 : waitsOk constableref01_Binds.T6.2 constableref01_Binds.B6 = true := by kernel_rfl
set_option maxHeartbeats 8000000 in
set_option maxRecDepth 100000 in
theorem constableref01_Binds.calls (k : Nat) (A0 : Option Addr) (c0 : Nat) (l0 : List (S54)) (r : Bool) (w : World) (hr0 : Kd.C k54 w A0 l0.length l0) (hc0 : l0.length ≤ c0) (h : constableref01_Binds.f k l0 = some r) :
    Calls Try.prog 16 #[.slice A0 l0.length c0] w fun e w' => e = .returned (.bool r) ∧ Below w.heap.size w w' := by
  have hu23 := Try.underlying23
  have HR0 := Aside0.mk hr0
  have HC0 := Aside0.mk hc0
  clear hr0 hc0
  have HB := Aside0.mk (Below.refl w.heap.size w)
  have H : (if (l0.length : Int) > 100 then (some false) else (constableref01_Binds.l0 k l0 0)) = some r := h
  clear h
  by_cases c2 : (l0.length : Int) > 100
  · rw [if_pos c2] at H
    have c2b0 : decide (100 < (l0.length : Int)) = true := decide_eq_true c2
    have c2b1 : decide (100 < l0.length) = true := decide_eq_true (by omega)
    clear c2
    obtain rfl := Option.some.inj H
    go_enter Try.func16, Try.ntmps16
    go_wp2
    go_ret
    exact ⟨by first | rfl | (simp [errW_none, errW_some] <;> rfl) | (simp [*, errW_none, errW_some] <;> rfl), by repeat (first | (with_reducible first | exact HB.out | apply below_alloc | apply pw_below_drewN | apply below_drew1) | exact HB.out)⟩
  · rw [if_neg c2] at H
    have c2b0 : decide (100 < (l0.length : Int)) = false := decide_eq_false c2
    have c2b1 : decide (100 < l0.length) = false := decide_eq_false (by omega)
    clear c2
    have H' := Aside0.mk H
    clear H
    go_enter Try.func16, Try.ntmps16
    go_wp2
    go_loopg [3] k (fun kq v3 w' => ∃ (x3_1 : Int), v3 = .int .i64 x3_1 ∧ Aside0 (constableref01_Binds.l0 kq l0 x3_1 = some r) ∧ Aside0 (kq ≤ k) ∧ Aside0 (Below w.heap.size w w'))
    case atStart => exact ⟨(0), ra_, H', ⟨Nat.le_refl _⟩, ⟨by repeat (first | (with_reducible first | exact HB.out | apply below_alloc | apply pw_below_drewN | apply below_drew1) | exact HB.out)⟩⟩
    case round =>
      clear H'
      try clear c1
      try clear c2
      try clear c2b0
      try clear c2b1
      try clear p2
      obtain ⟨x3_1, rfl, HA, HK1, HB⟩ := hrel
      cases gk with
      | zero => exact absurd HA.out (by simp [constableref01_Binds.l0])
      | succ k1 =>
        have H := HA.out
        clear HA
        simp only [constableref01_Binds.l0] at H
        by_cases c3 : x3_1 < (l0.length : Int)
        · rw [if_pos c3] at H
          have c3b0 : decide (x3_1 < (l0.length : Int)) = true := decide_eq_true c3
          clear c3
          by_cases c4 : 0 ≤ x3_1
          · rw [if_pos c4] at H
            have c4b0 : decide (0 ≤ x3_1) = true := decide_eq_true c4
            clear c4
            replace H := Option.bind_eq_some_iff.mp H
            obtain ⟨t294, A50, H⟩ := H
            replace H : (if t294 = true then ((constableref01_Value.f k1 ((rd_T54 l0 x3_1).f1.f0) ((rd_T54 l0 x3_1).f1.f1) ((rd_T54 l0 x3_1).f1.f2)).bind fun t296 => (if t296 = true then (if x3_1 > 0 then (if 0 ≤ (wrap64 (x3_1 - 1)) then (if (wrap64 (x3_1 - 1)) < (l0.length : Int) then ((constableref01_Strings.f k1 ((rd_T54 l0 (wrap64 (x3_1 - 1))).f0) ((rd_T54 l0 x3_1).f0)).bind fun t299 => (if t299 ≥ 0 then (some false) else (constableref01_Binds.l0 k1 l0 (wrap64 (x3_1 + 1))))) else (none)) else (none)) else (constableref01_Binds.l0 k1 l0 (wrap64 (x3_1 + 1)))) else (some false))) else (some false)) = some r := H
            have A5 := Aside0.mk A50
            clear A50
            by_cases c6 : t294 = true
            · subst c6
              have H1 : ((constableref01_Value.f k1 ((rd_T54 l0 x3_1).f1.f0) ((rd_T54 l0 x3_1).f1.f1) ((rd_T54 l0 x3_1).f1.f2)).bind fun t296 => (if t296 = true then (if x3_1 > 0 then (if 0 ≤ (wrap64 (x3_1 - 1)) then (if (wrap64 (x3_1 - 1)) < (l0.length : Int) then ((constableref01_Strings.f k1 ((rd_T54 l0 (wrap64 (x3_1 - 1))).f0) ((rd_T54 l0 x3_1).f0)).bind fun t299 => (if t299 ≥ 0 then (some false) else (constableref01_Binds.l0 k1 l0 (wrap64 (x3_1 + 1))))) else (none)) else (none)) else (constableref01_Binds.l0 k1 l0 (wrap64 (x3_1 + 1)))) else (some false))) = some r := by rw [if_pos rfl] at H; exact H
              clear H
              have H := H1
              clear H1
              replace H := Option.bind_eq_some_iff.mp H
              obtain ⟨t296, A70, H⟩ := H
              replace H : (if t296 = true then (if x3_1 > 0 then (if 0 ≤ (wrap64 (x3_1 - 1)) then (if (wrap64 (x3_1 - 1)) < (l0.length : Int) then ((constableref01_Strings.f k1 ((rd_T54 l0 (wrap64 (x3_1 - 1))).f0) ((rd_T54 l0 x3_1).f0)).bind fun t299 => (if t299 ≥ 0 then (some false) else (constableref01_Binds.l0 k1 l0 (wrap64 (x3_1 + 1))))) else (none)) else (none)) else (constableref01_Binds.l0 k1 l0 (wrap64 (x3_1 + 1)))) else (some false)) = some r := H
              have A7 := Aside0.mk A70
              clear A70
              by_cases c8 : t296 = true
              · subst c8
                have H1 : (if x3_1 > 0 then (if 0 ≤ (wrap64 (x3_1 - 1)) then (if (wrap64 (x3_1 - 1)) < (l0.length : Int) then ((constableref01_Strings.f k1 ((rd_T54 l0 (wrap64 (x3_1 - 1))).f0) ((rd_T54 l0 x3_1).f0)).bind fun t299 => (if t299 ≥ 0 then (some false) else (constableref01_Binds.l0 k1 l0 (wrap64 (x3_1 + 1))))) else (none)) else (none)) else (constableref01_Binds.l0 k1 l0 (wrap64 (x3_1 + 1)))) = some r := by rw [if_pos rfl] at H; exact H
                clear H
                have H := H1
                clear H1
                by_cases c9 : x3_1 > 0
                · rw [if_pos c9] at H
                  have c9b0 : decide (0 < x3_1) = true := decide_eq_true c9
                  clear c9
                  obtain ⟨ji10, hji10⟩ : ∃ j_ : Int, (wrap64 (x3_1 - 1)) = j_ := ⟨_, rfl⟩
                  replace H : (if 0 ≤ (ji10) then (if (ji10) < (l0.length : Int) then ((constableref01_Strings.f k1 ((rd_T54 l0 (ji10)).f0) ((rd_T54 l0 x3_1).f0)).bind fun t299 => (if t299 ≥ 0 then (some false) else (constableref01_Binds.l0 k1 l0 (wrap64 (x3_1 + 1))))) else (none)) else (none)) = some r := by first | (rw [hji10] at H; exact H) | (simp only [hji10] at H ⊢; exact H)
                  (try rw [hji10] at A5)
                  (try rw [hji10] at A7)
                  have hji10w : (IntKind.i64.wrap (x3_1 - 1)) = ji10 := (i64_w _).trans hji10
                  by_cases c11 : 0 ≤ (ji10)
                  · rw [if_pos c11] at H
                    have c11b0 : decide (0 ≤ (ji10)) = true := decide_eq_true c11
                    clear c11
                    by_cases c12 : (ji10) < (l0.length : Int)
                    · rw [if_pos c12] at H
                      have c12b0 : decide ((ji10) < (l0.length : Int)) = true := decide_eq_true c12
                      clear c12
                      replace H := Option.bind_eq_some_iff.mp H
                      obtain ⟨t299, A130, H⟩ := H
                      replace H : (if t299 ≥ 0 then (some false) else (constableref01_Binds.l0 k1 l0 (wrap64 (x3_1 + 1)))) = some r := H
                      have A13 := Aside0.mk A130
                      clear A130
                      by_cases c14 : t299 ≥ 0
                      · rw [if_pos c14] at H
                        have c14b0 : decide (0 ≤ t299) = true := decide_eq_true c14
                        clear c14
                        obtain rfl := Option.some.inj H
                        try go_wp2
                        have n0_ := Aside0.mk (below_drew1 HB.out)
                        clear HB
                        have HB := n0_
                        clear n0_
                        have p293 : 0 ≤ (x3_1 : Int) := dt_
                        have q293 : x3_1 < (l0.length : Int) := dt_
                        obtain ⟨ad293, e293, hx293_0, hx293_1, hx293_2, hx293_3⟩ := at_T54 HR0.out x3_1 p293 q293
                        have hw293_3 := hx293_3
                        have hw293_2 := hx293_2
                        have hw293_1 := hx293_1
                        have hw293_0 := hx293_0
                        cases e293
                        replace hx293_0 := cm_ HB hx293_0
                        replace hx293_1 := cm_ HB hx293_1
                        replace hx293_2 := cm_ HB hx293_2
                        replace hx293_3 := cm_ HB hx293_3
                        replace p293 := eq_true p293
                        replace q293 := eq_true q293
                        have p295 : 0 ≤ (x3_1 : Int) := dt_
                        have q295 : x3_1 < (l0.length : Int) := dt_
                        obtain ⟨ad295, e295, hx295_0, hx295_1, hx295_2, hx295_3⟩ := at_T54 HR0.out x3_1 p295 q295
                        have hw295_3 := hx295_3
                        have hw295_2 := hx295_2
                        have hw295_1 := hx295_1
                        have hw295_0 := hx295_0
                        obtain rfl : ad293 = ad295 := (by injection e295)
                        replace hx295_0 := cm_ HB hx295_0
                        replace hx295_1 := cm_ HB hx295_1
                        replace hx295_2 := cm_ HB hx295_2
                        replace hx295_3 := cm_ HB hx295_3
                        replace p295 := eq_true p295
                        replace q295 := eq_true q295
                        have p297 : 0 ≤ ((ji10) : Int) := dt_
                        have q297 : (ji10) < (l0.length : Int) := dt_
                        obtain ⟨ad297, e297, hx297_0, hx297_1, hx297_2, hx297_3⟩ := at_T54 HR0.out (ji10) p297 q297
                        have hw297_3 := hx297_3
                        have hw297_2 := hx297_2
                        have hw297_1 := hx297_1
                        have hw297_0 := hx297_0
                        obtain rfl : ad293 = ad297 := (by injection e297)
                        replace hx297_0 := cm_ HB hx297_0
                        replace hx297_1 := cm_ HB hx297_1
                        replace hx297_2 := cm_ HB hx297_2
                        replace hx297_3 := cm_ HB hx297_3
                        replace p297 := eq_true p297
                        replace q297 := eq_true q297
                        have p298 : 0 ≤ (x3_1 : Int) := dt_
                        have q298 : x3_1 < (l0.length : Int) := dt_
                        obtain ⟨ad298, e298, hx298_0, hx298_1, hx298_2, hx298_3⟩ := at_T54 HR0.out x3_1 p298 q298
                        have hw298_3 := hx298_3
                        have hw298_2 := hx298_2
                        have hw298_1 := hx298_1
                        have hw298_0 := hx298_0
                        obtain rfl : ad293 = ad298 := (by injection e298)
                        replace hx298_0 := cm_ HB hx298_0
                        replace hx298_1 := cm_ HB hx298_1
                        replace hx298_2 := cm_ HB hx298_2
                        replace hx298_3 := cm_ HB hx298_3
                        replace p298 := eq_true p298
                        replace q298 := eq_true q298
                        refine start_ (n := 35) (S := fun w' => w'.cell? (ad293.add ((x3_1).toNat * 4)) = some (.string ((rd_T54 l0 x3_1).f0)) ∧ w'.cell? ⟨(ad293.add ((x3_1).toNat * 4)).block, (ad293.add ((x3_1).toNat * 4)).off + 1, none⟩ = some (.int .i64 ((rd_T54 l0 x3_1).f1.f0)) ∧ w'.cell? ⟨(ad293.add ((x3_1).toNat * 4)).block, (ad293.add ((x3_1).toNat * 4)).off + 2, none⟩ = some (.int .i64 ((rd_T54 l0 x3_1).f1.f1)) ∧ w'.cell? ⟨(ad293.add ((x3_1).toNat * 4)).block, (ad293.add ((x3_1).toNat * 4)).off + 3, none⟩ = some (.string ((rd_T54 l0 x3_1).f1.f2)) ∧ w'.cell? (ad293.add ((x3_1).toNat * 4)) = some (.string ((rd_T54 l0 x3_1).f0)) ∧ w'.cell? ⟨(ad293.add ((x3_1).toNat * 4)).block, (ad293.add ((x3_1).toNat * 4)).off + 1, none⟩ = some (.int .i64 ((rd_T54 l0 x3_1).f1.f0)) ∧ w'.cell? ⟨(ad293.add ((x3_1).toNat * 4)).block, (ad293.add ((x3_1).toNat * 4)).off + 2, none⟩ = some (.int .i64 ((rd_T54 l0 x3_1).f1.f1)) ∧ w'.cell? ⟨(ad293.add ((x3_1).toNat * 4)).block, (ad293.add ((x3_1).toNat * 4)).off + 3, none⟩ = some (.string ((rd_T54 l0 x3_1).f1.f2)) ∧ w'.cell? (ad293.add (((ji10)).toNat * 4)) = some (.string ((rd_T54 l0 (ji10)).f0)) ∧ w'.cell? ⟨(ad293.add (((ji10)).toNat * 4)).block, (ad293.add (((ji10)).toNat * 4)).off + 1, none⟩ = some (.int .i64 ((rd_T54 l0 (ji10)).f1.f0)) ∧ w'.cell? ⟨(ad293.add (((ji10)).toNat * 4)).block, (ad293.add (((ji10)).toNat * 4)).off + 2, none⟩ = some (.int .i64 ((rd_T54 l0 (ji10)).f1.f1)) ∧ w'.cell? ⟨(ad293.add (((ji10)).toNat * 4)).block, (ad293.add (((ji10)).toNat * 4)).off + 3, none⟩ = some (.string ((rd_T54 l0 (ji10)).f1.f2)) ∧ w'.cell? (ad293.add ((x3_1).toNat * 4)) = some (.string ((rd_T54 l0 x3_1).f0)) ∧ w'.cell? ⟨(ad293.add ((x3_1).toNat * 4)).block, (ad293.add ((x3_1).toNat * 4)).off + 1, none⟩ = some (.int .i64 ((rd_T54 l0 x3_1).f1.f0)) ∧ w'.cell? ⟨(ad293.add ((x3_1).toNat * 4)).block, (ad293.add ((x3_1).toNat * 4)).off + 2, none⟩ = some (.int .i64 ((rd_T54 l0 x3_1).f1.f1)) ∧ w'.cell? ⟨(ad293.add ((x3_1).toNat * 4)).block, (ad293.add ((x3_1).toNat * 4)).off + 3, none⟩ = some (.string ((rd_T54 l0 x3_1).f1.f2))) (ds := []) (mk_ 35 0) (by kernel_rfl) rfl rfl ⟨(cl_ HB hw293_0), (cl_ HB hw293_1), (cl_ HB hw293_2), (cl_ HB hw293_3), (cl_ HB hw295_0), (cl_ HB hw295_1), (cl_ HB hw295_2), (cl_ HB hw295_3), (cl_ HB hw297_0), (cl_ HB hw297_1), (cl_ HB hw297_2), (cl_ HB hw297_3), (cl_ HB hw298_0), (cl_ HB hw298_1), (cl_ HB hw298_2), (cl_ HB hw298_3)⟩ (fun hHeld => ?_); refine with_tabW constableref01_Binds.tab6 constableref01_Binds.bits6 (fun HT_ HW_ => ?_)
                        generalize wr.drew = w15 at HB hx293_0 hx293_1 hx293_2 hx293_3 hx295_0 hx295_1 hx295_2 hx295_3 hx297_0 hx297_1 hx297_2 hx297_3 hx298_0 hx298_1 hx298_2 hx298_3 hHeld ⊢
                        refine pu_ 0 13 1 HT_ ?_; refine pu_ 1 14 3 HT_ ?_; refine pu_ 2 15 7 HT_ ?_; refine pu_ 3 16 15 HT_ ?_; refine tk_ 4 17 31 HT_ HW_ hHeld ?_
                        refine one_ (i := 5) (N := some 18) (mk_ 35 63) rfl rfl (one_of HT_.out (by kernel_rfl)) (by decide) (fun K hK => ?_)
                        refine goes_ Try.func34 (by kernel_rfl) rfl #[.string ((rd_T54 l0 x3_1).f0), .bool true] (by rfl) rfl rfl ga_ ?_
                        with_reducible refine (constableref01_Word.calls k1 ((rd_T54 l0 x3_1).f0) true true _ A5.out).mono ?_
                        rintro e w' ⟨rfl, ⟨nd, rfl⟩⟩
                        refine ⟨_, rfl, ?_⟩
                        refine hK.out _ _ ⟨(cl_ HB hw293_0), (cl_ HB hw293_1), (cl_ HB hw293_2), (cl_ HB hw293_3), (cl_ HB hw295_0), (cl_ HB hw295_1), (cl_ HB hw295_2), (cl_ HB hw295_3), (cl_ HB hw297_0), (cl_ HB hw297_1), (cl_ HB hw297_2), (cl_ HB hw297_3), (cl_ HB hw298_0), (cl_ HB hw298_1), (cl_ HB hw298_2), (cl_ HB hw298_3)⟩ (fun hHeld => ?_)
                        clear hK K
                        refine nm_ 18 ?_; refine pu_ 6 19 127 HT_ ?_; refine pu_ 7 20 255 HT_ ?_; refine pu_ 8 21 511 HT_ ?_; refine pu_ 9 22 1023 HT_ ?_; refine pu_ 10 23 2047 HT_ ?_; refine pu_ 11 24 4095 HT_ ?_; refine tk_ 12 25 8191 HT_ HW_ hHeld ?_
                        refine one_ (i := 13) (N := some 26) (mk_ 35 16383) rfl rfl (one_of HT_.out (by kernel_rfl)) (by decide) (fun K hK => ?_)
                        refine goes_ Try.func19 (by kernel_rfl) rfl #[.agg #[.int .i64 ((rd_T54 l0 x3_1).f1.f0), .int .i64 ((rd_T54 l0 x3_1).f1.f1), .string ((rd_T54 l0 x3_1).f1.f2)]] (by rfl) rfl rfl ga_ ?_
                        with_reducible refine (constableref01_Value.calls k1 ((rd_T54 l0 x3_1).f1.f0) ((rd_T54 l0 x3_1).f1.f1) ((rd_T54 l0 x3_1).f1.f2) true _ A7.out).mono ?_
                        rintro e w16 ⟨rfl, hb⟩
                        refine ⟨_, rfl, ?_⟩
                        have n0_ := bs_ (be_ HB) hb
                        clear HB
                        have HB := n0_
                        clear n0_
                        (try clear hb)
                        (try clear hb2)
                        (try clear hk)
                        (try clear hi)
                        refine hK.out _ _ ⟨(cl_ HB hw293_0), (cl_ HB hw293_1), (cl_ HB hw293_2), (cl_ HB hw293_3), (cl_ HB hw295_0), (cl_ HB hw295_1), (cl_ HB hw295_2), (cl_ HB hw295_3), (cl_ HB hw297_0), (cl_ HB hw297_1), (cl_ HB hw297_2), (cl_ HB hw297_3), (cl_ HB hw298_0), (cl_ HB hw298_1), (cl_ HB hw298_2), (cl_ HB hw298_3)⟩ (fun hHeld => ?_)
                        clear hK K
                        refine nm_ 26 ?_; refine pu_ 14 27 32767 HT_ ?_; refine pu_ 15 28 65535 HT_ ?_; refine pu_ 16 29 131071 HT_ ?_; refine pu_ 17 30 262143 HT_ ?_; refine pu_ 18 31 524287 HT_ ?_; refine pu_ 19 32 1048575 HT_ ?_; refine pu_ 20 33 2097151 HT_ ?_; refine pu_ 21 34 4194303 HT_ ?_; refine pu_ 22 35 8388607 HT_ ?_; refine pu_ 23 36 16777215 HT_ ?_; refine pu_ 24 37 33554431 HT_ ?_; refine pu_ 26 39 100663295 HT_ ?_; refine pu_ 27 40 234881023 HT_ ?_; refine pu_ 28 41 503316479 HT_ ?_; refine pu_ 29 42 1040187391 HT_ ?_; refine tk_ 25 38 1073741823 HT_ HW_ hHeld ?_; refine tk_ 30 43 2147483647 HT_ HW_ hHeld ?_
                        refine one_ (i := 31) (N := some 44) (mk_ 35 4294967295) rfl rfl (one_of HT_.out (by kernel_rfl)) (by decide) (fun K hK => ?_)
                        refine goes_ Try.func35 (by kernel_rfl) rfl #[.string ((rd_T54 l0 (ji10)).f0), .string ((rd_T54 l0 x3_1).f0)] (by rfl) rfl rfl (by (try simp only [List.map_toArray, List.map_cons, List.map_nil]); first | done | (simp only [hji10]; rfl) | rfl | (simp only [List.length_drop, List.length_take]; rfl)) ?_
                        with_reducible refine (constableref01_Strings.calls k1 ((rd_T54 l0 (ji10)).f0) ((rd_T54 l0 x3_1).f0) t299 _ A13.out).mono ?_
                        rintro e w' ⟨rfl, ⟨nd, rfl⟩⟩
                        refine ⟨_, rfl, ?_⟩
                        refine hK.out _ _ ⟨(cl_ HB hw293_0), (cl_ HB hw293_1), (cl_ HB hw293_2), (cl_ HB hw293_3), (cl_ HB hw295_0), (cl_ HB hw295_1), (cl_ HB hw295_2), (cl_ HB hw295_3), (cl_ HB hw297_0), (cl_ HB hw297_1), (cl_ HB hw297_2), (cl_ HB hw297_3), (cl_ HB hw298_0), (cl_ HB hw298_1), (cl_ HB hw298_2), (cl_ HB hw298_3)⟩ (fun hHeld => ?_)
                        clear hK K
                        refine nm_ 44 ?_; refine pu_ 32 45 8589934591 HT_ ?_; refine pu_ 33 46 17179869183 HT_ ?_; refine pu_ 34 47 34359738367 HT_ ?_
                        refine done_ (done_of HT_.out (by kernel_rfl)) ?_
                        try go_wp2
                        go_ret
                        exact ⟨by first | rfl | (simp [errW_none, errW_some] <;> rfl) | (simp only [← hji10]; first | rfl | (simp [errW_none, errW_some] <;> rfl)) | (simp [*, errW_none, errW_some] <;> rfl), by repeat (first | (with_reducible first | exact HB.out | apply below_alloc | apply pw_below_drewN | apply below_drew1) | exact HB.out)⟩
                      · rw [if_neg c14] at H
                        have c14b0 : decide (0 ≤ t299) = false := decide_eq_false c14
                        clear c14
                        have H' := Aside0.mk H
                        clear H
                        try go_wp2
                        have n0_ := Aside0.mk (below_drew1 HB.out)
                        clear HB
                        have HB := n0_
                        clear n0_
                        have p293 : 0 ≤ (x3_1 : Int) := dt_
                        have q293 : x3_1 < (l0.length : Int) := dt_
                        obtain ⟨ad293, e293, hx293_0, hx293_1, hx293_2, hx293_3⟩ := at_T54 HR0.out x3_1 p293 q293
                        have hw293_3 := hx293_3
                        have hw293_2 := hx293_2
                        have hw293_1 := hx293_1
                        have hw293_0 := hx293_0
                        cases e293
                        replace hx293_0 := cm_ HB hx293_0
                        replace hx293_1 := cm_ HB hx293_1
                        replace hx293_2 := cm_ HB hx293_2
                        replace hx293_3 := cm_ HB hx293_3
                        replace p293 := eq_true p293
                        replace q293 := eq_true q293
                        have p295 : 0 ≤ (x3_1 : Int) := dt_
                        have q295 : x3_1 < (l0.length : Int) := dt_
                        obtain ⟨ad295, e295, hx295_0, hx295_1, hx295_2, hx295_3⟩ := at_T54 HR0.out x3_1 p295 q295
                        have hw295_3 := hx295_3
                        have hw295_2 := hx295_2
                        have hw295_1 := hx295_1
                        have hw295_0 := hx295_0
                        obtain rfl : ad293 = ad295 := (by injection e295)
                        replace hx295_0 := cm_ HB hx295_0
                        replace hx295_1 := cm_ HB hx295_1
                        replace hx295_2 := cm_ HB hx295_2
                        replace hx295_3 := cm_ HB hx295_3
                        replace p295 := eq_true p295
                        replace q295 := eq_true q295
                        have p297 : 0 ≤ ((ji10) : Int) := dt_
                        have q297 : (ji10) < (l0.length : Int) := dt_
                        obtain ⟨ad297, e297, hx297_0, hx297_1, hx297_2, hx297_3⟩ := at_T54 HR0.out (ji10) p297 q297
                        have hw297_3 := hx297_3
                        have hw297_2 := hx297_2
                        have hw297_1 := hx297_1
                        have hw297_0 := hx297_0
                        obtain rfl : ad293 = ad297 := (by injection e297)
                        replace hx297_0 := cm_ HB hx297_0
                        replace hx297_1 := cm_ HB hx297_1
                        replace hx297_2 := cm_ HB hx297_2
                        replace hx297_3 := cm_ HB hx297_3
                        replace p297 := eq_true p297
                        replace q297 := eq_true q297
                        have p298 : 0 ≤ (x3_1 : Int) := dt_
                        have q298 : x3_1 < (l0.length : Int) := dt_
                        obtain ⟨ad298, e298, hx298_0, hx298_1, hx298_2, hx298_3⟩ := at_T54 HR0.out x3_1 p298 q298
                        have hw298_3 := hx298_3
                        have hw298_2 := hx298_2
                        have hw298_1 := hx298_1
                        have hw298_0 := hx298_0
                        obtain rfl : ad293 = ad298 := (by injection e298)
                        replace hx298_0 := cm_ HB hx298_0
                        replace hx298_1 := cm_ HB hx298_1
                        replace hx298_2 := cm_ HB hx298_2
                        replace hx298_3 := cm_ HB hx298_3
                        replace p298 := eq_true p298
                        replace q298 := eq_true q298
                        refine start_ (n := 35) (S := fun w' => w'.cell? (ad293.add ((x3_1).toNat * 4)) = some (.string ((rd_T54 l0 x3_1).f0)) ∧ w'.cell? ⟨(ad293.add ((x3_1).toNat * 4)).block, (ad293.add ((x3_1).toNat * 4)).off + 1, none⟩ = some (.int .i64 ((rd_T54 l0 x3_1).f1.f0)) ∧ w'.cell? ⟨(ad293.add ((x3_1).toNat * 4)).block, (ad293.add ((x3_1).toNat * 4)).off + 2, none⟩ = some (.int .i64 ((rd_T54 l0 x3_1).f1.f1)) ∧ w'.cell? ⟨(ad293.add ((x3_1).toNat * 4)).block, (ad293.add ((x3_1).toNat * 4)).off + 3, none⟩ = some (.string ((rd_T54 l0 x3_1).f1.f2)) ∧ w'.cell? (ad293.add ((x3_1).toNat * 4)) = some (.string ((rd_T54 l0 x3_1).f0)) ∧ w'.cell? ⟨(ad293.add ((x3_1).toNat * 4)).block, (ad293.add ((x3_1).toNat * 4)).off + 1, none⟩ = some (.int .i64 ((rd_T54 l0 x3_1).f1.f0)) ∧ w'.cell? ⟨(ad293.add ((x3_1).toNat * 4)).block, (ad293.add ((x3_1).toNat * 4)).off + 2, none⟩ = some (.int .i64 ((rd_T54 l0 x3_1).f1.f1)) ∧ w'.cell? ⟨(ad293.add ((x3_1).toNat * 4)).block, (ad293.add ((x3_1).toNat * 4)).off + 3, none⟩ = some (.string ((rd_T54 l0 x3_1).f1.f2)) ∧ w'.cell? (ad293.add (((ji10)).toNat * 4)) = some (.string ((rd_T54 l0 (ji10)).f0)) ∧ w'.cell? ⟨(ad293.add (((ji10)).toNat * 4)).block, (ad293.add (((ji10)).toNat * 4)).off + 1, none⟩ = some (.int .i64 ((rd_T54 l0 (ji10)).f1.f0)) ∧ w'.cell? ⟨(ad293.add (((ji10)).toNat * 4)).block, (ad293.add (((ji10)).toNat * 4)).off + 2, none⟩ = some (.int .i64 ((rd_T54 l0 (ji10)).f1.f1)) ∧ w'.cell? ⟨(ad293.add (((ji10)).toNat * 4)).block, (ad293.add (((ji10)).toNat * 4)).off + 3, none⟩ = some (.string ((rd_T54 l0 (ji10)).f1.f2)) ∧ w'.cell? (ad293.add ((x3_1).toNat * 4)) = some (.string ((rd_T54 l0 x3_1).f0)) ∧ w'.cell? ⟨(ad293.add ((x3_1).toNat * 4)).block, (ad293.add ((x3_1).toNat * 4)).off + 1, none⟩ = some (.int .i64 ((rd_T54 l0 x3_1).f1.f0)) ∧ w'.cell? ⟨(ad293.add ((x3_1).toNat * 4)).block, (ad293.add ((x3_1).toNat * 4)).off + 2, none⟩ = some (.int .i64 ((rd_T54 l0 x3_1).f1.f1)) ∧ w'.cell? ⟨(ad293.add ((x3_1).toNat * 4)).block, (ad293.add ((x3_1).toNat * 4)).off + 3, none⟩ = some (.string ((rd_T54 l0 x3_1).f1.f2))) (ds := []) (mk_ 35 0) (by kernel_rfl) rfl rfl ⟨(cl_ HB hw293_0), (cl_ HB hw293_1), (cl_ HB hw293_2), (cl_ HB hw293_3), (cl_ HB hw295_0), (cl_ HB hw295_1), (cl_ HB hw295_2), (cl_ HB hw295_3), (cl_ HB hw297_0), (cl_ HB hw297_1), (cl_ HB hw297_2), (cl_ HB hw297_3), (cl_ HB hw298_0), (cl_ HB hw298_1), (cl_ HB hw298_2), (cl_ HB hw298_3)⟩ (fun hHeld => ?_); refine with_tabW constableref01_Binds.tab6 constableref01_Binds.bits6 (fun HT_ HW_ => ?_)
                        generalize wr.drew = w17 at HB hx293_0 hx293_1 hx293_2 hx293_3 hx295_0 hx295_1 hx295_2 hx295_3 hx297_0 hx297_1 hx297_2 hx297_3 hx298_0 hx298_1 hx298_2 hx298_3 hHeld ⊢
                        refine pu_ 0 13 1 HT_ ?_; refine pu_ 1 14 3 HT_ ?_; refine pu_ 2 15 7 HT_ ?_; refine pu_ 3 16 15 HT_ ?_; refine tk_ 4 17 31 HT_ HW_ hHeld ?_
                        refine one_ (i := 5) (N := some 18) (mk_ 35 63) rfl rfl (one_of HT_.out (by kernel_rfl)) (by decide) (fun K hK => ?_)
                        refine goes_ Try.func34 (by kernel_rfl) rfl #[.string ((rd_T54 l0 x3_1).f0), .bool true] (by rfl) rfl rfl ga_ ?_
                        with_reducible refine (constableref01_Word.calls k1 ((rd_T54 l0 x3_1).f0) true true _ A5.out).mono ?_
                        rintro e w' ⟨rfl, ⟨nd, rfl⟩⟩
                        refine ⟨_, rfl, ?_⟩
                        refine hK.out _ _ ⟨(cl_ HB hw293_0), (cl_ HB hw293_1), (cl_ HB hw293_2), (cl_ HB hw293_3), (cl_ HB hw295_0), (cl_ HB hw295_1), (cl_ HB hw295_2), (cl_ HB hw295_3), (cl_ HB hw297_0), (cl_ HB hw297_1), (cl_ HB hw297_2), (cl_ HB hw297_3), (cl_ HB hw298_0), (cl_ HB hw298_1), (cl_ HB hw298_2), (cl_ HB hw298_3)⟩ (fun hHeld => ?_)
                        clear hK K
                        refine nm_ 18 ?_; refine pu_ 6 19 127 HT_ ?_; refine pu_ 7 20 255 HT_ ?_; refine pu_ 8 21 511 HT_ ?_; refine pu_ 9 22 1023 HT_ ?_; refine pu_ 10 23 2047 HT_ ?_; refine pu_ 11 24 4095 HT_ ?_; refine tk_ 12 25 8191 HT_ HW_ hHeld ?_
                        refine one_ (i := 13) (N := some 26) (mk_ 35 16383) rfl rfl (one_of HT_.out (by kernel_rfl)) (by decide) (fun K hK => ?_)
                        refine goes_ Try.func19 (by kernel_rfl) rfl #[.agg #[.int .i64 ((rd_T54 l0 x3_1).f1.f0), .int .i64 ((rd_T54 l0 x3_1).f1.f1), .string ((rd_T54 l0 x3_1).f1.f2)]] (by rfl) rfl rfl ga_ ?_
                        with_reducible refine (constableref01_Value.calls k1 ((rd_T54 l0 x3_1).f1.f0) ((rd_T54 l0 x3_1).f1.f1) ((rd_T54 l0 x3_1).f1.f2) true _ A7.out).mono ?_
                        rintro e w18 ⟨rfl, hb⟩
                        refine ⟨_, rfl, ?_⟩
                        have n0_ := bs_ (be_ HB) hb
                        clear HB
                        have HB := n0_
                        clear n0_
                        (try clear hb)
                        (try clear hb2)
                        (try clear hk)
                        (try clear hi)
                        refine hK.out _ _ ⟨(cl_ HB hw293_0), (cl_ HB hw293_1), (cl_ HB hw293_2), (cl_ HB hw293_3), (cl_ HB hw295_0), (cl_ HB hw295_1), (cl_ HB hw295_2), (cl_ HB hw295_3), (cl_ HB hw297_0), (cl_ HB hw297_1), (cl_ HB hw297_2), (cl_ HB hw297_3), (cl_ HB hw298_0), (cl_ HB hw298_1), (cl_ HB hw298_2), (cl_ HB hw298_3)⟩ (fun hHeld => ?_)
                        clear hK K
                        refine nm_ 26 ?_; refine pu_ 14 27 32767 HT_ ?_; refine pu_ 15 28 65535 HT_ ?_; refine pu_ 16 29 131071 HT_ ?_; refine pu_ 17 30 262143 HT_ ?_; refine pu_ 18 31 524287 HT_ ?_; refine pu_ 19 32 1048575 HT_ ?_; refine pu_ 20 33 2097151 HT_ ?_; refine pu_ 21 34 4194303 HT_ ?_; refine pu_ 22 35 8388607 HT_ ?_; refine pu_ 23 36 16777215 HT_ ?_; refine pu_ 24 37 33554431 HT_ ?_; refine pu_ 26 39 100663295 HT_ ?_; refine pu_ 27 40 234881023 HT_ ?_; refine pu_ 28 41 503316479 HT_ ?_; refine pu_ 29 42 1040187391 HT_ ?_; refine tk_ 25 38 1073741823 HT_ HW_ hHeld ?_; refine tk_ 30 43 2147483647 HT_ HW_ hHeld ?_
                        refine one_ (i := 31) (N := some 44) (mk_ 35 4294967295) rfl rfl (one_of HT_.out (by kernel_rfl)) (by decide) (fun K hK => ?_)
                        refine goes_ Try.func35 (by kernel_rfl) rfl #[.string ((rd_T54 l0 (ji10)).f0), .string ((rd_T54 l0 x3_1).f0)] (by rfl) rfl rfl (by (try simp only [List.map_toArray, List.map_cons, List.map_nil]); first | done | (simp only [hji10]; rfl) | rfl | (simp only [List.length_drop, List.length_take]; rfl)) ?_
                        with_reducible refine (constableref01_Strings.calls k1 ((rd_T54 l0 (ji10)).f0) ((rd_T54 l0 x3_1).f0) t299 _ A13.out).mono ?_
                        rintro e w' ⟨rfl, ⟨nd, rfl⟩⟩
                        refine ⟨_, rfl, ?_⟩
                        refine hK.out _ _ ⟨(cl_ HB hw293_0), (cl_ HB hw293_1), (cl_ HB hw293_2), (cl_ HB hw293_3), (cl_ HB hw295_0), (cl_ HB hw295_1), (cl_ HB hw295_2), (cl_ HB hw295_3), (cl_ HB hw297_0), (cl_ HB hw297_1), (cl_ HB hw297_2), (cl_ HB hw297_3), (cl_ HB hw298_0), (cl_ HB hw298_1), (cl_ HB hw298_2), (cl_ HB hw298_3)⟩ (fun hHeld => ?_)
                        clear hK K
                        refine nm_ 44 ?_; refine pu_ 32 45 8589934591 HT_ ?_; refine pu_ 33 46 17179869183 HT_ ?_; refine pu_ 34 47 34359738367 HT_ ?_
                        refine done_ (done_of HT_.out (by kernel_rfl)) ?_
                        try go_wp2
                        go_roundg k1
                        case measure => have := HK1.out; omega
                        case rel => exact ⟨(wrap64 (x3_1 + 1)), ra_, H', ⟨by have := HK1.out; omega⟩, ⟨by repeat (first | (with_reducible first | exact HB.out | apply below_alloc | apply pw_below_drewN | apply below_drew1) | exact HB.out)⟩⟩
                    · rw [if_neg c12] at H
                      exact absurd H (by simp)
                  · rw [if_neg c11] at H
                    exact absurd H (by simp)
                · rw [if_neg c9] at H
                  have c9b0 : decide (0 < x3_1) = false := decide_eq_false c9
                  clear c9
                  have H' := Aside0.mk H
                  clear H
                  try go_wp2
                  have n0_ := Aside0.mk (below_drew1 HB.out)
                  clear HB
                  have HB := n0_
                  clear n0_
                  have p293 : 0 ≤ (x3_1 : Int) := dt_
                  have q293 : x3_1 < (l0.length : Int) := dt_
                  obtain ⟨ad293, e293, hx293_0, hx293_1, hx293_2, hx293_3⟩ := at_T54 HR0.out x3_1 p293 q293
                  have hw293_3 := hx293_3
                  have hw293_2 := hx293_2
                  have hw293_1 := hx293_1
                  have hw293_0 := hx293_0
                  cases e293
                  replace hx293_0 := cm_ HB hx293_0
                  replace hx293_1 := cm_ HB hx293_1
                  replace hx293_2 := cm_ HB hx293_2
                  replace hx293_3 := cm_ HB hx293_3
                  replace p293 := eq_true p293
                  replace q293 := eq_true q293
                  have p295 : 0 ≤ (x3_1 : Int) := dt_
                  have q295 : x3_1 < (l0.length : Int) := dt_
                  obtain ⟨ad295, e295, hx295_0, hx295_1, hx295_2, hx295_3⟩ := at_T54 HR0.out x3_1 p295 q295
                  have hw295_3 := hx295_3
                  have hw295_2 := hx295_2
                  have hw295_1 := hx295_1
                  have hw295_0 := hx295_0
                  obtain rfl : ad293 = ad295 := (by injection e295)
                  replace hx295_0 := cm_ HB hx295_0
                  replace hx295_1 := cm_ HB hx295_1
                  replace hx295_2 := cm_ HB hx295_2
                  replace hx295_3 := cm_ HB hx295_3
                  replace p295 := eq_true p295
                  replace q295 := eq_true q295
                  refine start_ (n := 35) (S := fun w' => w'.cell? (ad293.add ((x3_1).toNat * 4)) = some (.string ((rd_T54 l0 x3_1).f0)) ∧ w'.cell? ⟨(ad293.add ((x3_1).toNat * 4)).block, (ad293.add ((x3_1).toNat * 4)).off + 1, none⟩ = some (.int .i64 ((rd_T54 l0 x3_1).f1.f0)) ∧ w'.cell? ⟨(ad293.add ((x3_1).toNat * 4)).block, (ad293.add ((x3_1).toNat * 4)).off + 2, none⟩ = some (.int .i64 ((rd_T54 l0 x3_1).f1.f1)) ∧ w'.cell? ⟨(ad293.add ((x3_1).toNat * 4)).block, (ad293.add ((x3_1).toNat * 4)).off + 3, none⟩ = some (.string ((rd_T54 l0 x3_1).f1.f2)) ∧ w'.cell? (ad293.add ((x3_1).toNat * 4)) = some (.string ((rd_T54 l0 x3_1).f0)) ∧ w'.cell? ⟨(ad293.add ((x3_1).toNat * 4)).block, (ad293.add ((x3_1).toNat * 4)).off + 1, none⟩ = some (.int .i64 ((rd_T54 l0 x3_1).f1.f0)) ∧ w'.cell? ⟨(ad293.add ((x3_1).toNat * 4)).block, (ad293.add ((x3_1).toNat * 4)).off + 2, none⟩ = some (.int .i64 ((rd_T54 l0 x3_1).f1.f1)) ∧ w'.cell? ⟨(ad293.add ((x3_1).toNat * 4)).block, (ad293.add ((x3_1).toNat * 4)).off + 3, none⟩ = some (.string ((rd_T54 l0 x3_1).f1.f2))) (ds := []) (mk_ 35 0) (by kernel_rfl) rfl rfl ⟨(cl_ HB hw293_0), (cl_ HB hw293_1), (cl_ HB hw293_2), (cl_ HB hw293_3), (cl_ HB hw295_0), (cl_ HB hw295_1), (cl_ HB hw295_2), (cl_ HB hw295_3)⟩ (fun hHeld => ?_); refine with_tabW constableref01_Binds.tab6 constableref01_Binds.bits6 (fun HT_ HW_ => ?_)
                  generalize wr.drew = w19 at HB hx293_0 hx293_1 hx293_2 hx293_3 hx295_0 hx295_1 hx295_2 hx295_3 hHeld ⊢
                  refine pu_ 0 13 1 HT_ ?_; refine pu_ 1 14 3 HT_ ?_; refine pu_ 2 15 7 HT_ ?_; refine pu_ 3 16 15 HT_ ?_; refine tk_ 4 17 31 HT_ HW_ hHeld ?_
                  refine one_ (i := 5) (N := some 18) (mk_ 35 63) rfl rfl (one_of HT_.out (by kernel_rfl)) (by decide) (fun K hK => ?_)
                  refine goes_ Try.func34 (by kernel_rfl) rfl #[.string ((rd_T54 l0 x3_1).f0), .bool true] (by rfl) rfl rfl ga_ ?_
                  with_reducible refine (constableref01_Word.calls k1 ((rd_T54 l0 x3_1).f0) true true _ A5.out).mono ?_
                  rintro e w' ⟨rfl, ⟨nd, rfl⟩⟩
                  refine ⟨_, rfl, ?_⟩
                  refine hK.out _ _ ⟨(cl_ HB hw293_0), (cl_ HB hw293_1), (cl_ HB hw293_2), (cl_ HB hw293_3), (cl_ HB hw295_0), (cl_ HB hw295_1), (cl_ HB hw295_2), (cl_ HB hw295_3)⟩ (fun hHeld => ?_)
                  clear hK K
                  refine nm_ 18 ?_; refine pu_ 6 19 127 HT_ ?_; refine pu_ 7 20 255 HT_ ?_; refine pu_ 8 21 511 HT_ ?_; refine pu_ 9 22 1023 HT_ ?_; refine pu_ 10 23 2047 HT_ ?_; refine pu_ 11 24 4095 HT_ ?_; refine tk_ 12 25 8191 HT_ HW_ hHeld ?_
                  refine one_ (i := 13) (N := some 26) (mk_ 35 16383) rfl rfl (one_of HT_.out (by kernel_rfl)) (by decide) (fun K hK => ?_)
                  refine goes_ Try.func19 (by kernel_rfl) rfl #[.agg #[.int .i64 ((rd_T54 l0 x3_1).f1.f0), .int .i64 ((rd_T54 l0 x3_1).f1.f1), .string ((rd_T54 l0 x3_1).f1.f2)]] (by rfl) rfl rfl ga_ ?_
                  with_reducible refine (constableref01_Value.calls k1 ((rd_T54 l0 x3_1).f1.f0) ((rd_T54 l0 x3_1).f1.f1) ((rd_T54 l0 x3_1).f1.f2) true _ A7.out).mono ?_
                  rintro e w20 ⟨rfl, hb⟩
                  refine ⟨_, rfl, ?_⟩
                  have n0_ := bs_ (be_ HB) hb
                  clear HB
                  have HB := n0_
                  clear n0_
                  (try clear hb)
                  (try clear hb2)
                  (try clear hk)
                  (try clear hi)
                  refine hK.out _ _ ⟨(cl_ HB hw293_0), (cl_ HB hw293_1), (cl_ HB hw293_2), (cl_ HB hw293_3), (cl_ HB hw295_0), (cl_ HB hw295_1), (cl_ HB hw295_2), (cl_ HB hw295_3)⟩ (fun hHeld => ?_)
                  clear hK K
                  refine nm_ 26 ?_; refine pu_ 14 27 32767 HT_ ?_; refine pu_ 15 28 65535 HT_ ?_; refine pu_ 16 29 131071 HT_ ?_; refine pu_ 17 30 262143 HT_ ?_; refine pu_ 18 31 524287 HT_ ?_; refine pu_ 19 32 1048575 HT_ ?_; refine pn_ 20 33 2097151 HT_ ?_; refine pn_ 21 34 4194303 HT_ ?_; refine pn_ 22 35 8388607 HT_ ?_; refine pn_ 23 36 16777215 HT_ ?_; refine pn_ 24 37 33554431 HT_ ?_; refine pn_ 25 38 67108863 HT_ ?_; refine pn_ 26 39 134217727 HT_ ?_; refine pn_ 27 40 268435455 HT_ ?_; refine pn_ 28 41 536870911 HT_ ?_; refine pn_ 29 42 1073741823 HT_ ?_; refine pn_ 30 43 2147483647 HT_ ?_; refine pn_ 31 44 4294967295 HT_ ?_; refine pn_ 32 45 8589934591 HT_ ?_; refine pu_ 33 46 17179869183 HT_ ?_; refine pu_ 34 47 34359738367 HT_ ?_
                  refine done_ (done_of HT_.out (by kernel_rfl)) ?_
                  try go_wp2
                  go_roundg k1
                  case measure => have := HK1.out; omega
                  case rel => exact ⟨(wrap64 (x3_1 + 1)), ra_, H', ⟨by have := HK1.out; omega⟩, ⟨by repeat (first | (with_reducible first | exact HB.out | apply below_alloc | apply pw_below_drewN | apply below_drew1) | exact HB.out)⟩⟩
              · replace c8 := Bool.eq_false_iff.mpr c8
                subst c8
                have H1 : (some false) = some r := by rw [if_neg (show ¬ (false = true) by decide)] at H; exact H
                clear H
                have H := H1
                clear H1
                obtain rfl := Option.some.inj H
                try go_wp2
                have n0_ := Aside0.mk (below_drew1 HB.out)
                clear HB
                have HB := n0_
                clear n0_
                have p293 : 0 ≤ (x3_1 : Int) := dt_
                have q293 : x3_1 < (l0.length : Int) := dt_
                obtain ⟨ad293, e293, hx293_0, hx293_1, hx293_2, hx293_3⟩ := at_T54 HR0.out x3_1 p293 q293
                have hw293_3 := hx293_3
                have hw293_2 := hx293_2
                have hw293_1 := hx293_1
                have hw293_0 := hx293_0
                cases e293
                replace hx293_0 := cm_ HB hx293_0
                replace hx293_1 := cm_ HB hx293_1
                replace hx293_2 := cm_ HB hx293_2
                replace hx293_3 := cm_ HB hx293_3
                replace p293 := eq_true p293
                replace q293 := eq_true q293
                have p295 : 0 ≤ (x3_1 : Int) := dt_
                have q295 : x3_1 < (l0.length : Int) := dt_
                obtain ⟨ad295, e295, hx295_0, hx295_1, hx295_2, hx295_3⟩ := at_T54 HR0.out x3_1 p295 q295
                have hw295_3 := hx295_3
                have hw295_2 := hx295_2
                have hw295_1 := hx295_1
                have hw295_0 := hx295_0
                obtain rfl : ad293 = ad295 := (by injection e295)
                replace hx295_0 := cm_ HB hx295_0
                replace hx295_1 := cm_ HB hx295_1
                replace hx295_2 := cm_ HB hx295_2
                replace hx295_3 := cm_ HB hx295_3
                replace p295 := eq_true p295
                replace q295 := eq_true q295
                refine start_ (n := 35) (S := fun w' => w'.cell? (ad293.add ((x3_1).toNat * 4)) = some (.string ((rd_T54 l0 x3_1).f0)) ∧ w'.cell? ⟨(ad293.add ((x3_1).toNat * 4)).block, (ad293.add ((x3_1).toNat * 4)).off + 1, none⟩ = some (.int .i64 ((rd_T54 l0 x3_1).f1.f0)) ∧ w'.cell? ⟨(ad293.add ((x3_1).toNat * 4)).block, (ad293.add ((x3_1).toNat * 4)).off + 2, none⟩ = some (.int .i64 ((rd_T54 l0 x3_1).f1.f1)) ∧ w'.cell? ⟨(ad293.add ((x3_1).toNat * 4)).block, (ad293.add ((x3_1).toNat * 4)).off + 3, none⟩ = some (.string ((rd_T54 l0 x3_1).f1.f2)) ∧ w'.cell? (ad293.add ((x3_1).toNat * 4)) = some (.string ((rd_T54 l0 x3_1).f0)) ∧ w'.cell? ⟨(ad293.add ((x3_1).toNat * 4)).block, (ad293.add ((x3_1).toNat * 4)).off + 1, none⟩ = some (.int .i64 ((rd_T54 l0 x3_1).f1.f0)) ∧ w'.cell? ⟨(ad293.add ((x3_1).toNat * 4)).block, (ad293.add ((x3_1).toNat * 4)).off + 2, none⟩ = some (.int .i64 ((rd_T54 l0 x3_1).f1.f1)) ∧ w'.cell? ⟨(ad293.add ((x3_1).toNat * 4)).block, (ad293.add ((x3_1).toNat * 4)).off + 3, none⟩ = some (.string ((rd_T54 l0 x3_1).f1.f2))) (ds := []) (mk_ 35 0) (by kernel_rfl) rfl rfl ⟨(cl_ HB hw293_0), (cl_ HB hw293_1), (cl_ HB hw293_2), (cl_ HB hw293_3), (cl_ HB hw295_0), (cl_ HB hw295_1), (cl_ HB hw295_2), (cl_ HB hw295_3)⟩ (fun hHeld => ?_); refine with_tabW constableref01_Binds.tab6 constableref01_Binds.bits6 (fun HT_ HW_ => ?_)
                generalize wr.drew = w21 at HB hx293_0 hx293_1 hx293_2 hx293_3 hx295_0 hx295_1 hx295_2 hx295_3 hHeld ⊢
                refine pu_ 0 13 1 HT_ ?_; refine pu_ 1 14 3 HT_ ?_; refine pu_ 2 15 7 HT_ ?_; refine pu_ 3 16 15 HT_ ?_; refine tk_ 4 17 31 HT_ HW_ hHeld ?_
                refine one_ (i := 5) (N := some 18) (mk_ 35 63) rfl rfl (one_of HT_.out (by kernel_rfl)) (by decide) (fun K hK => ?_)
                refine goes_ Try.func34 (by kernel_rfl) rfl #[.string ((rd_T54 l0 x3_1).f0), .bool true] (by rfl) rfl rfl ga_ ?_
                with_reducible refine (constableref01_Word.calls k1 ((rd_T54 l0 x3_1).f0) true true _ A5.out).mono ?_
                rintro e w' ⟨rfl, ⟨nd, rfl⟩⟩
                refine ⟨_, rfl, ?_⟩
                refine hK.out _ _ ⟨(cl_ HB hw293_0), (cl_ HB hw293_1), (cl_ HB hw293_2), (cl_ HB hw293_3), (cl_ HB hw295_0), (cl_ HB hw295_1), (cl_ HB hw295_2), (cl_ HB hw295_3)⟩ (fun hHeld => ?_)
                clear hK K
                refine nm_ 18 ?_; refine pu_ 6 19 127 HT_ ?_; refine pu_ 7 20 255 HT_ ?_; refine pu_ 8 21 511 HT_ ?_; refine pu_ 9 22 1023 HT_ ?_; refine pu_ 10 23 2047 HT_ ?_; refine pu_ 11 24 4095 HT_ ?_; refine tk_ 12 25 8191 HT_ HW_ hHeld ?_
                refine one_ (i := 13) (N := some 26) (mk_ 35 16383) rfl rfl (one_of HT_.out (by kernel_rfl)) (by decide) (fun K hK => ?_)
                refine goes_ Try.func19 (by kernel_rfl) rfl #[.agg #[.int .i64 ((rd_T54 l0 x3_1).f1.f0), .int .i64 ((rd_T54 l0 x3_1).f1.f1), .string ((rd_T54 l0 x3_1).f1.f2)]] (by rfl) rfl rfl ga_ ?_
                with_reducible refine (constableref01_Value.calls k1 ((rd_T54 l0 x3_1).f1.f0) ((rd_T54 l0 x3_1).f1.f1) ((rd_T54 l0 x3_1).f1.f2) false _ A7.out).mono ?_
                rintro e w22 ⟨rfl, hb⟩
                refine ⟨_, rfl, ?_⟩
                have n0_ := bs_ (be_ HB) hb
                clear HB
                have HB := n0_
                clear n0_
                (try clear hb)
                (try clear hb2)
                (try clear hk)
                (try clear hi)
                refine hK.out _ _ ⟨(cl_ HB hw293_0), (cl_ HB hw293_1), (cl_ HB hw293_2), (cl_ HB hw293_3), (cl_ HB hw295_0), (cl_ HB hw295_1), (cl_ HB hw295_2), (cl_ HB hw295_3)⟩ (fun hHeld => ?_)
                clear hK K
                refine nm_ 26 ?_; refine pu_ 14 27 32767 HT_ ?_; refine pu_ 15 28 65535 HT_ ?_; refine pu_ 16 29 131071 HT_ ?_; refine pn_ 17 30 262143 HT_ ?_; refine pn_ 18 31 524287 HT_ ?_; refine pn_ 19 32 1048575 HT_ ?_; refine pn_ 20 33 2097151 HT_ ?_; refine pn_ 21 34 4194303 HT_ ?_; refine pn_ 22 35 8388607 HT_ ?_; refine pn_ 23 36 16777215 HT_ ?_; refine pn_ 24 37 33554431 HT_ ?_; refine pn_ 25 38 67108863 HT_ ?_; refine pn_ 26 39 134217727 HT_ ?_; refine pn_ 27 40 268435455 HT_ ?_; refine pn_ 28 41 536870911 HT_ ?_; refine pn_ 29 42 1073741823 HT_ ?_; refine pn_ 30 43 2147483647 HT_ ?_; refine pn_ 31 44 4294967295 HT_ ?_; refine pn_ 32 45 8589934591 HT_ ?_; refine pn_ 33 46 17179869183 HT_ ?_; refine pu_ 34 47 34359738367 HT_ ?_
                refine done_ (done_of HT_.out (by kernel_rfl)) ?_
                try go_wp2
                go_ret
                exact ⟨by first | rfl | (simp [errW_none, errW_some] <;> rfl) | (simp [*, errW_none, errW_some] <;> rfl), by repeat (first | (with_reducible first | exact HB.out | apply below_alloc | apply pw_below_drewN | apply below_drew1) | exact HB.out)⟩
            · replace c6 := Bool.eq_false_iff.mpr c6
              subst c6
              have H1 : (some false) = some r := by rw [if_neg (show ¬ (false = true) by decide)] at H; exact H
              clear H
              have H := H1
              clear H1
              obtain rfl := Option.some.inj H
              try go_wp2
              have n0_ := Aside0.mk (below_drew1 HB.out)
              clear HB
              have HB := n0_
              clear n0_
              have p293 : 0 ≤ (x3_1 : Int) := dt_
              have q293 : x3_1 < (l0.length : Int) := dt_
              obtain ⟨ad293, e293, hx293_0, hx293_1, hx293_2, hx293_3⟩ := at_T54 HR0.out x3_1 p293 q293
              have hw293_3 := hx293_3
              have hw293_2 := hx293_2
              have hw293_1 := hx293_1
              have hw293_0 := hx293_0
              cases e293
              replace hx293_0 := cm_ HB hx293_0
              replace hx293_1 := cm_ HB hx293_1
              replace hx293_2 := cm_ HB hx293_2
              replace hx293_3 := cm_ HB hx293_3
              replace p293 := eq_true p293
              replace q293 := eq_true q293
              refine start_ (n := 35) (S := fun w' => w'.cell? (ad293.add ((x3_1).toNat * 4)) = some (.string ((rd_T54 l0 x3_1).f0)) ∧ w'.cell? ⟨(ad293.add ((x3_1).toNat * 4)).block, (ad293.add ((x3_1).toNat * 4)).off + 1, none⟩ = some (.int .i64 ((rd_T54 l0 x3_1).f1.f0)) ∧ w'.cell? ⟨(ad293.add ((x3_1).toNat * 4)).block, (ad293.add ((x3_1).toNat * 4)).off + 2, none⟩ = some (.int .i64 ((rd_T54 l0 x3_1).f1.f1)) ∧ w'.cell? ⟨(ad293.add ((x3_1).toNat * 4)).block, (ad293.add ((x3_1).toNat * 4)).off + 3, none⟩ = some (.string ((rd_T54 l0 x3_1).f1.f2))) (ds := []) (mk_ 35 0) (by kernel_rfl) rfl rfl ⟨(cl_ HB hw293_0), (cl_ HB hw293_1), (cl_ HB hw293_2), (cl_ HB hw293_3)⟩ (fun hHeld => ?_); refine with_tabW constableref01_Binds.tab6 constableref01_Binds.bits6 (fun HT_ HW_ => ?_)
              generalize wr.drew = w23 at HB hx293_0 hx293_1 hx293_2 hx293_3 hHeld ⊢
              refine pu_ 0 13 1 HT_ ?_; refine pu_ 1 14 3 HT_ ?_; refine pu_ 2 15 7 HT_ ?_; refine pu_ 3 16 15 HT_ ?_; refine tk_ 4 17 31 HT_ HW_ hHeld ?_
              refine one_ (i := 5) (N := some 18) (mk_ 35 63) rfl rfl (one_of HT_.out (by kernel_rfl)) (by decide) (fun K hK => ?_)
              refine goes_ Try.func34 (by kernel_rfl) rfl #[.string ((rd_T54 l0 x3_1).f0), .bool true] (by rfl) rfl rfl ga_ ?_
              with_reducible refine (constableref01_Word.calls k1 ((rd_T54 l0 x3_1).f0) true false _ A5.out).mono ?_
              rintro e w' ⟨rfl, ⟨nd, rfl⟩⟩
              refine ⟨_, rfl, ?_⟩
              refine hK.out _ _ ⟨(cl_ HB hw293_0), (cl_ HB hw293_1), (cl_ HB hw293_2), (cl_ HB hw293_3)⟩ (fun hHeld => ?_)
              clear hK K
              refine nm_ 18 ?_; refine pu_ 6 19 127 HT_ ?_; refine pu_ 7 20 255 HT_ ?_; refine pn_ 8 21 511 HT_ ?_; refine pn_ 9 22 1023 HT_ ?_; refine pn_ 10 23 2047 HT_ ?_; refine pn_ 11 24 4095 HT_ ?_; refine pn_ 12 25 8191 HT_ ?_; refine pn_ 13 26 16383 HT_ ?_; refine pn_ 14 27 32767 HT_ ?_; refine pu_ 15 28 65535 HT_ ?_; refine pu_ 16 29 131071 HT_ ?_; refine pn_ 17 30 262143 HT_ ?_; refine pn_ 18 31 524287 HT_ ?_; refine pn_ 19 32 1048575 HT_ ?_; refine pn_ 20 33 2097151 HT_ ?_; refine pn_ 21 34 4194303 HT_ ?_; refine pn_ 22 35 8388607 HT_ ?_; refine pn_ 23 36 16777215 HT_ ?_; refine pn_ 24 37 33554431 HT_ ?_; refine pn_ 25 38 67108863 HT_ ?_; refine pn_ 26 39 134217727 HT_ ?_; refine pn_ 27 40 268435455 HT_ ?_; refine pn_ 28 41 536870911 HT_ ?_; refine pn_ 29 42 1073741823 HT_ ?_; refine pn_ 30 43 2147483647 HT_ ?_; refine pn_ 31 44 4294967295 HT_ ?_; refine pn_ 32 45 8589934591 HT_ ?_; refine pn_ 33 46 17179869183 HT_ ?_; refine pu_ 34 47 34359738367 HT_ ?_
              refine done_ (done_of HT_.out (by kernel_rfl)) ?_
              try go_wp2
              go_ret
              exact ⟨by first | rfl | (simp [errW_none, errW_some] <;> rfl) | (simp [*, errW_none, errW_some] <;> rfl), by repeat (first | (with_reducible first | exact HB.out | apply below_alloc | apply pw_below_drewN | apply below_drew1) | exact HB.out)⟩
          · rw [if_neg c4] at H
            exact absurd H (by simp)
        · rw [if_neg c3] at H
          have c3b0 : decide (x3_1 < (l0.length : Int)) = false := decide_eq_false c3
          clear c3
          obtain rfl := Option.some.inj H
          go_wp2
          go_ret
          exact ⟨by first | rfl | (simp [errW_none, errW_some] <;> rfl) | (simp [*, errW_none, errW_some] <;> rfl), by repeat (first | (with_reducible first | exact HB.out | apply below_alloc | apply pw_below_drewN | apply below_drew1) | exact HB.out)⟩
end Go.Proofs.Ytaopajmpifenoaa.P
end
section
namespace Go.Proofs.Ytaopajmpifenoaa.P
open Go.RowKit Go.Proofs.YtaopajmpifenoaaW.PrintWords Go.Proofs.YtaopajmpifenoaaW.PrintLast Go.Proofs.YtaopajmpifenoaaW.PrintMore
attribute [local go_sem] max2_int min2_int max_two min_two max_three min_three max_four min_four
set_option linter.unusedVariables false
set_option linter.unusedSimpArgs false
def constablelaw08_wakes.f (k : Nat)  : Option (Bool) := (some (([(⟨1, (⟨#[88]⟩ : ByteArray), (⟨0, 0, (⟨#[]⟩ : ByteArray)⟩ : S23)⟩ : S67)] : List (S67)) : List (S67))).bind fun y302 => ((some (([(⟨2, (⟨#[]⟩ : ByteArray), (⟨1, 3, (⟨#[]⟩ : ByteArray)⟩ : S23)⟩ : S67)] : List (S67)) : List (S67))).bind fun y305 => ((guard_Eval.f k 3 (⟨#[]⟩ : ByteArray) ([] : List (S72)) 3 y302 y305 (([(⟨(⟨#[88]⟩ : ByteArray), (⟨1, 2, (⟨#[]⟩ : ByteArray)⟩ : S23)⟩ : S54)] : List (S54)))).bind fun bt312 => ((guard_Holds.f k 2 1 2 (⟨#[]⟩ : ByteArray) 1 3 (⟨#[]⟩ : ByteArray)).bind fun bt314 => ((guard_Holds.f k 4 1 2 (⟨#[]⟩ : ByteArray) 2 0 (⟨#[97]⟩ : ByteArray)).bind fun bt316 => (if bt312.2 = 0 then (if bt312.1 = true then (if bt314.2 = 0 then (if bt314.1 = true then (if bt316.2 = 3 then ((guard_Check.f k 3 (⟨#[]⟩ : ByteArray) ([] : List (S72)) 3 y302 y305).bind fun t318 => (if t318 = 0 then ((guard_Check.f k 0 (⟨#[]⟩ : ByteArray) ([] : List (S72)) 0 ([] : List (S67)) ([] : List (S67))).bind fun t319 => (some (t319 == 1))) else (some false))) else (some false)) else (some false)) else (some false)) else (some false)) else (some false))))))
theorem constablelaw08_wakes.mono : ∀ k, LeO (constablelaw08_wakes.f k ) (constablelaw08_wakes.f (k + 1) ) := by
  intro  k
  unfold constablelaw08_wakes.f
  repeat' first
      | (with_reducible exact guard_Check.mono _ _ _ _ _ _ _)
      | (with_reducible exact guard_Eval.mono _ _ _ _ _ _ _ _)
      | (with_reducible exact guard_Holds.mono _ _ _ _ _ _ _ _)
      | (with_reducible exact LeO.refl _)
      | (with_reducible exact LeO.none _)
      | (with_reducible refine LeO.ite ?_ ?_)
      | (with_reducible refine LeO.bind ?_ (fun _ => ?_))
      | exact guard_Check.mono _ _ _ _ _ _ _
      | exact guard_Eval.mono _ _ _ _ _ _ _ _
      | exact guard_Holds.mono _ _ _ _ _ _ _ _
      | exact LeO.none _
      | refine LeO.ite ?_ ?_
      | refine LeO.bind ?_ (fun _ => ?_)
set_option maxHeartbeats 8000000 in
set_option maxRecDepth 100000 in
theorem constablelaw08_wakes.calls (k : Nat)  (r : Bool) (w : World) (h : constablelaw08_wakes.f k  = some r) (hr_ : r = true) :
    Calls Try.prog 17 #[] w fun e w' => e = .returned (.bool r) ∧ Below w.heap.size w w' := by
  have hu23 := Try.underlying23
  have hu67 := Try.underlying67
  have hu29 := Try.underlying29
  have hu54 := Try.underlying54
  have HB := Aside0.mk (Below.refl w.heap.size w)
  have H : ((some (([(⟨1, (⟨#[88]⟩ : ByteArray), (⟨0, 0, (⟨#[]⟩ : ByteArray)⟩ : S23)⟩ : S67)] : List (S67)) : List (S67))).bind fun y302 => ((some (([(⟨2, (⟨#[]⟩ : ByteArray), (⟨1, 3, (⟨#[]⟩ : ByteArray)⟩ : S23)⟩ : S67)] : List (S67)) : List (S67))).bind fun y305 => ((guard_Eval.f k 3 (⟨#[]⟩ : ByteArray) ([] : List (S72)) 3 y302 y305 (([(⟨(⟨#[88]⟩ : ByteArray), (⟨1, 2, (⟨#[]⟩ : ByteArray)⟩ : S23)⟩ : S54)] : List (S54)))).bind fun bt312 => ((guard_Holds.f k 2 1 2 (⟨#[]⟩ : ByteArray) 1 3 (⟨#[]⟩ : ByteArray)).bind fun bt314 => ((guard_Holds.f k 4 1 2 (⟨#[]⟩ : ByteArray) 2 0 (⟨#[97]⟩ : ByteArray)).bind fun bt316 => (if bt312.2 = 0 then (if bt312.1 = true then (if bt314.2 = 0 then (if bt314.1 = true then (if bt316.2 = 3 then ((guard_Check.f k 3 (⟨#[]⟩ : ByteArray) ([] : List (S72)) 3 y302 y305).bind fun t318 => (if t318 = 0 then ((guard_Check.f k 0 (⟨#[]⟩ : ByteArray) ([] : List (S72)) 0 ([] : List (S67)) ([] : List (S67))).bind fun t319 => (some (t319 == 1))) else (some false))) else (some false)) else (some false)) else (some false)) else (some false)) else (some false))))))) = some r := h
  clear h
  have HR_ := Aside0.mk hr_
  clear hr_
  obtain ⟨y302, hy302⟩ : ∃ y_ : List (S67), y_ = (([(⟨1, (⟨#[88]⟩ : ByteArray), (⟨0, 0, (⟨#[]⟩ : ByteArray)⟩ : S23)⟩ : S67)] : List (S67))) := ⟨_, rfl⟩
  replace H : ((some (([(⟨2, (⟨#[]⟩ : ByteArray), (⟨1, 3, (⟨#[]⟩ : ByteArray)⟩ : S23)⟩ : S67)] : List (S67)) : List (S67))).bind fun y305 => ((guard_Eval.f k 3 (⟨#[]⟩ : ByteArray) ([] : List (S72)) 3 y302 y305 (([(⟨(⟨#[88]⟩ : ByteArray), (⟨1, 2, (⟨#[]⟩ : ByteArray)⟩ : S23)⟩ : S54)] : List (S54)))).bind fun bt312 => ((guard_Holds.f k 2 1 2 (⟨#[]⟩ : ByteArray) 1 3 (⟨#[]⟩ : ByteArray)).bind fun bt314 => ((guard_Holds.f k 4 1 2 (⟨#[]⟩ : ByteArray) 2 0 (⟨#[97]⟩ : ByteArray)).bind fun bt316 => (if bt312.2 = 0 then (if bt312.1 = true then (if bt314.2 = 0 then (if bt314.1 = true then (if bt316.2 = 3 then ((guard_Check.f k 3 (⟨#[]⟩ : ByteArray) ([] : List (S72)) 3 y302 y305).bind fun t318 => (if t318 = 0 then ((guard_Check.f k 0 (⟨#[]⟩ : ByteArray) ([] : List (S72)) 0 ([] : List (S67)) ([] : List (S67))).bind fun t319 => (some (t319 == 1))) else (some false))) else (some false)) else (some false)) else (some false)) else (some false)) else (some false)))))) = some r := by first | (rw [hy302]; with_reducible exact H) | (have H2_ := (Option.bind_some _ _).symm.trans H; rw [hy302]; with_reducible exact H2_) | (have H2_ := (Option.bind_some _ _).symm.trans H; with_reducible exact H2_) | with_reducible exact H | (rw [hy302]; exact H) | exact H
  have Ny302 := Aside0.mk hy302
  clear hy302
  obtain ⟨y305, hy305⟩ : ∃ y_ : List (S67), y_ = (([(⟨2, (⟨#[]⟩ : ByteArray), (⟨1, 3, (⟨#[]⟩ : ByteArray)⟩ : S23)⟩ : S67)] : List (S67))) := ⟨_, rfl⟩
  replace H : ((guard_Eval.f k 3 (⟨#[]⟩ : ByteArray) ([] : List (S72)) 3 y302 y305 (([(⟨(⟨#[88]⟩ : ByteArray), (⟨1, 2, (⟨#[]⟩ : ByteArray)⟩ : S23)⟩ : S54)] : List (S54)))).bind fun bt312 => ((guard_Holds.f k 2 1 2 (⟨#[]⟩ : ByteArray) 1 3 (⟨#[]⟩ : ByteArray)).bind fun bt314 => ((guard_Holds.f k 4 1 2 (⟨#[]⟩ : ByteArray) 2 0 (⟨#[97]⟩ : ByteArray)).bind fun bt316 => (if bt312.2 = 0 then (if bt312.1 = true then (if bt314.2 = 0 then (if bt314.1 = true then (if bt316.2 = 3 then ((guard_Check.f k 3 (⟨#[]⟩ : ByteArray) ([] : List (S72)) 3 y302 y305).bind fun t318 => (if t318 = 0 then ((guard_Check.f k 0 (⟨#[]⟩ : ByteArray) ([] : List (S72)) 0 ([] : List (S67)) ([] : List (S67))).bind fun t319 => (some (t319 == 1))) else (some false))) else (some false)) else (some false)) else (some false)) else (some false)) else (some false))))) = some r := by first | (rw [hy305]; with_reducible exact H) | (have H2_ := (Option.bind_some _ _).symm.trans H; rw [hy305]; with_reducible exact H2_) | (have H2_ := (Option.bind_some _ _).symm.trans H; with_reducible exact H2_) | with_reducible exact H | (rw [hy305]; exact H) | exact H
  have Ny305 := Aside0.mk hy305
  clear hy305
  obtain ⟨y309, hy309⟩ : ∃ y_ : List (S54), y_ = (([(⟨(⟨#[88]⟩ : ByteArray), (⟨1, 2, (⟨#[]⟩ : ByteArray)⟩ : S23)⟩ : S54)] : List (S54))) := ⟨_, rfl⟩
  replace H : ((guard_Eval.f k 3 (⟨#[]⟩ : ByteArray) ([] : List (S72)) 3 y302 y305 y309).bind fun bt312 => ((guard_Holds.f k 2 1 2 (⟨#[]⟩ : ByteArray) 1 3 (⟨#[]⟩ : ByteArray)).bind fun bt314 => ((guard_Holds.f k 4 1 2 (⟨#[]⟩ : ByteArray) 2 0 (⟨#[97]⟩ : ByteArray)).bind fun bt316 => (if bt312.2 = 0 then (if bt312.1 = true then (if bt314.2 = 0 then (if bt314.1 = true then (if bt316.2 = 3 then ((guard_Check.f k 3 (⟨#[]⟩ : ByteArray) ([] : List (S72)) 3 y302 y305).bind fun t318 => (if t318 = 0 then ((guard_Check.f k 0 (⟨#[]⟩ : ByteArray) ([] : List (S72)) 0 ([] : List (S67)) ([] : List (S67))).bind fun t319 => (some (t319 == 1))) else (some false))) else (some false)) else (some false)) else (some false)) else (some false)) else (some false))))) = some r := by first | (rw [hy309]; with_reducible exact H) | (have H2_ := (Option.bind_some _ _).symm.trans H; rw [hy309]; with_reducible exact H2_) | (have H2_ := (Option.bind_some _ _).symm.trans H; with_reducible exact H2_) | with_reducible exact H | (rw [hy309]; exact H) | exact H
  have Ny309 := Aside0.mk hy309
  clear hy309
  replace H := Option.bind_eq_some_iff.mp H
  obtain ⟨⟨t312, t313⟩, A10, H⟩ := H
  replace H : ((guard_Holds.f k 2 1 2 (⟨#[]⟩ : ByteArray) 1 3 (⟨#[]⟩ : ByteArray)).bind fun bt314 => ((guard_Holds.f k 4 1 2 (⟨#[]⟩ : ByteArray) 2 0 (⟨#[97]⟩ : ByteArray)).bind fun bt316 => (if t313 = 0 then (if t312 = true then (if bt314.2 = 0 then (if bt314.1 = true then (if bt316.2 = 3 then ((guard_Check.f k 3 (⟨#[]⟩ : ByteArray) ([] : List (S72)) 3 y302 y305).bind fun t318 => (if t318 = 0 then ((guard_Check.f k 0 (⟨#[]⟩ : ByteArray) ([] : List (S72)) 0 ([] : List (S67)) ([] : List (S67))).bind fun t319 => (some (t319 == 1))) else (some false))) else (some false)) else (some false)) else (some false)) else (some false)) else (some false)))) = some r := H
  have A1 := Aside0.mk A10
  clear A10
  replace H := Option.bind_eq_some_iff.mp H
  obtain ⟨⟨t314, t315⟩, A20, H⟩ := H
  replace H : ((guard_Holds.f k 4 1 2 (⟨#[]⟩ : ByteArray) 2 0 (⟨#[97]⟩ : ByteArray)).bind fun bt316 => (if t313 = 0 then (if t312 = true then (if t315 = 0 then (if t314 = true then (if bt316.2 = 3 then ((guard_Check.f k 3 (⟨#[]⟩ : ByteArray) ([] : List (S72)) 3 y302 y305).bind fun t318 => (if t318 = 0 then ((guard_Check.f k 0 (⟨#[]⟩ : ByteArray) ([] : List (S72)) 0 ([] : List (S67)) ([] : List (S67))).bind fun t319 => (some (t319 == 1))) else (some false))) else (some false)) else (some false)) else (some false)) else (some false)) else (some false))) = some r := H
  have A2 := Aside0.mk A20
  clear A20
  replace H := Option.bind_eq_some_iff.mp H
  obtain ⟨⟨t316, t317⟩, A30, H⟩ := H
  replace H : (if t313 = 0 then (if t312 = true then (if t315 = 0 then (if t314 = true then (if t317 = 3 then ((guard_Check.f k 3 (⟨#[]⟩ : ByteArray) ([] : List (S72)) 3 y302 y305).bind fun t318 => (if t318 = 0 then ((guard_Check.f k 0 (⟨#[]⟩ : ByteArray) ([] : List (S72)) 0 ([] : List (S67)) ([] : List (S67))).bind fun t319 => (some (t319 == 1))) else (some false))) else (some false)) else (some false)) else (some false)) else (some false)) else (some false)) = some r := H
  have A3 := Aside0.mk A30
  clear A30
  by_cases c4 : t313 = 0
  · rw [if_pos c4] at H
    obtain ⟨c4b0, c4b1⟩ := eqB_ c4
    clear c4
    by_cases c5 : t312 = true
    · subst c5
      have H1 : (if t315 = 0 then (if t314 = true then (if t317 = 3 then ((guard_Check.f k 3 (⟨#[]⟩ : ByteArray) ([] : List (S72)) 3 y302 y305).bind fun t318 => (if t318 = 0 then ((guard_Check.f k 0 (⟨#[]⟩ : ByteArray) ([] : List (S72)) 0 ([] : List (S67)) ([] : List (S67))).bind fun t319 => (some (t319 == 1))) else (some false))) else (some false)) else (some false)) else (some false)) = some r := by rw [if_pos rfl] at H; exact H
      clear H
      have H := H1
      clear H1
      by_cases c6 : t315 = 0
      · rw [if_pos c6] at H
        obtain ⟨c6b0, c6b1⟩ := eqB_ c6
        clear c6
        by_cases c7 : t314 = true
        · subst c7
          have H1 : (if t317 = 3 then ((guard_Check.f k 3 (⟨#[]⟩ : ByteArray) ([] : List (S72)) 3 y302 y305).bind fun t318 => (if t318 = 0 then ((guard_Check.f k 0 (⟨#[]⟩ : ByteArray) ([] : List (S72)) 0 ([] : List (S67)) ([] : List (S67))).bind fun t319 => (some (t319 == 1))) else (some false))) else (some false)) = some r := by rw [if_pos rfl] at H; exact H
          clear H
          have H := H1
          clear H1
          by_cases c8 : t317 = 3
          · rw [if_pos c8] at H
            obtain ⟨c8b0, c8b1⟩ := eqB_ c8
            clear c8
            replace H := Option.bind_eq_some_iff.mp H
            obtain ⟨t318, A90, H⟩ := H
            replace H : (if t318 = 0 then ((guard_Check.f k 0 (⟨#[]⟩ : ByteArray) ([] : List (S72)) 0 ([] : List (S67)) ([] : List (S67))).bind fun t319 => (some (t319 == 1))) else (some false)) = some r := H
            have A9 := Aside0.mk A90
            clear A90
            by_cases c10 : t318 = 0
            · rw [if_pos c10] at H
              obtain ⟨c10b0, c10b1⟩ := eqB_ c10
              clear c10
              replace H := Option.bind_eq_some_iff.mp H
              obtain ⟨t319, A110, H⟩ := H
              replace H : (some (t319 == 1)) = some r := H
              have A11 := Aside0.mk A110
              clear A110
              obtain rfl := Option.some.inj H
              go_enter Try.func17, Try.ntmps17
              go_wp2_with (first | ((with_reducible refine gate_dst (N := 1) rfl ?_); refine box_event ?hg (N := 1) ?hd (cs := #[.int .i64 0, .int .i64 0, .string (⟨#[]⟩ : ByteArray)]) (t := 23) ?hr ?_; (case hd => rfl); (case hg => rfl); (case hr => first | (go_simp; done) | (go_simp; rfl)); intro gb300 hg w12 hbox hb; have n0_ := bs_ (be_ HB) hb; have n1_ := Aside0.mk (hbox); have n2_ := gs_ hg (be_ HB); have n3_ := gs_ hg (be_ HB); clear HB; have HB := n0_; have BK300 := n1_; have GW300 := n2_; have GE300 := n3_; clear n0_ n1_ n2_ n3_; clear hb hbox hg) | ((with_reducible refine gate_dst (N := 2) rfl ?_); refine box_event ?hg (N := 2) ?hd (cs := #[.int .i64 0, .int .i64 0, .string (⟨#[]⟩ : ByteArray)]) (t := 23) ?hr ?_; (case hd => rfl); (case hg => rfl); (case hr => first | (go_simp; done) | (go_simp; rfl)); intro gb301 hg w13 hbox hb; have n0_ := bb_ (bu_ BK300) hb; have n1_ := bs_ (be_ HB) hb; have n2_ := Aside0.mk (hbox); have n3_ := gs_ hg (be_ HB); have n4_ := gs_ hg (be_ HB); have n5_ := nl_ hg (bu_ BK300); have n6_ := ng_ hg (bu_ BK300); clear BK300; clear HB; have BK300 := n0_; have HB := n1_; have BK301 := n2_; have GW301 := n3_; have GE301 := n4_; have NB300_301 := n5_; have NB301_300 := n6_; clear n0_ n1_ n2_ n3_ n4_ n5_ n6_; clear hb hbox hg; have hnb14 := NB300_301.out; have hnc14 := NB301_300.out; have hcz15_0 : w13.cell? ⟨gb300, 0, none⟩ = some (.int .i64 0) := (blk_cell BK300.out 0).trans rfl; have hcz15_1 : w13.cell? ⟨gb300, 1, none⟩ = some (.int .i64 0) := (blk_cell BK300.out 1).trans rfl; have hcz15_2 : w13.cell? ⟨gb300, 2, none⟩ = some (.string (⟨#[]⟩ : ByteArray)) := (blk_cell BK300.out 2).trans rfl; have hfz15_0 := blk_frozen BK300.out 0; have hfz15_1 := blk_frozen BK300.out 1; have hfz15_2 := blk_frozen BK300.out 2; have hcz16_0 : w13.cell? ⟨gb301, 0, none⟩ = some (.int .i64 0) := (blk_cell BK301.out 0).trans rfl; have hcz16_1 : w13.cell? ⟨gb301, 1, none⟩ = some (.int .i64 0) := (blk_cell BK301.out 1).trans rfl; have hcz16_2 : w13.cell? ⟨gb301, 2, none⟩ = some (.string (⟨#[]⟩ : ByteArray)) := (blk_cell BK301.out 2).trans rfl; have hfz16_0 := blk_frozen BK301.out 0; have hfz16_1 := blk_frozen BK301.out 1; have hfz16_2 := blk_frozen BK301.out 2) | ((with_reducible refine gate_dst (N := 13) rfl ?_); refine Kd.R_lit k67 _ 67 ?hg (N := 13) ?hd (xs := ([(⟨1, (⟨#[88]⟩ : ByteArray), (⟨0, 0, (⟨#[]⟩ : ByteArray)⟩ : S23)⟩ : S67)] : List (S67))) (inner := [.int .i64 1, .string (⟨#[88]⟩ : ByteArray), .int .i64 0, .int .i64 0, .string (⟨#[]⟩ : ByteArray)]) (ok := fun _ => True) (okp := fun _ => True) ?hr ?hp (fun _ hk => hk) trivial (Below.refl _ _) (Nat.le_refl _) (by simp) ?_; (case hd => rfl); (case hg => rfl); (case hr => first | (go_simp; done) | (go_simp; rfl)); (case hp => exact (Reps.c5 (show Kd.M k67 _ _ _ (⟨1, (⟨#[88]⟩ : ByteArray), (⟨0, 0, (⟨#[]⟩ : ByteArray)⟩ : S23)⟩ : S67) [.int .i64 1, .string (⟨#[88]⟩ : ByteArray), .int .i64 0, .int .i64 0, .string (⟨#[]⟩ : ByteArray)] from (k67_mkM _ _ _ (⟨1, (⟨#[88]⟩ : ByteArray), (⟨0, 0, (⟨#[]⟩ : ByteArray)⟩ : S23)⟩ : S67) )) (Reps.none _ _))); intro v303 w17 ho18 hb hg_ hnew_; clear hg_ hnew_; (first | rw [← Ny302.out] at ho18 | (simp only [Int.reduceToNat] at ho18; rw [← Ny302.out] at ho18)); have n0_ := Aside0.mk (Kd.R_lower ho18 (below_size (be_ HB))); have n1_ := Aside0.mk (blk_below (o := .cells #[.int .i64 1, .int .i64 2, .string (⟨#[]⟩ : ByteArray)] 23 (0, 0)) (bp_ BK300) hb); have n2_ := Aside0.mk (blk_below (o := .cells #[.int .i64 1, .int .i64 3, .string (⟨#[]⟩ : ByteArray)] 23 (0, 0)) (bp_ BK301) hb); have n3_ := bs_ (be_ HB) hb; clear BK300; clear BK301; clear HB; have HO304 := n0_; have BK300 := n1_; have BK301 := n2_; have HB := n3_; clear n0_ n1_ n2_ n3_; (try clear hcz15_0 hcz15_1 hcz15_2 hfz15_0 hfz15_1 hfz15_2 hcz16_0 hcz16_1 hcz16_2 hfz16_0 hfz16_1 hfz16_2); clear hb ho18; have hcz19_0 : w17.cell? ⟨gb301, 0, none⟩ = some (.int .i64 1) := (blk_cell BK301.out 0).trans rfl; have hcz19_1 : w17.cell? ⟨gb301, 1, none⟩ = some (.int .i64 3) := (blk_cell BK301.out 1).trans rfl; have hcz19_2 : w17.cell? ⟨gb301, 2, none⟩ = some (.string (⟨#[]⟩ : ByteArray)) := (blk_cell BK301.out 2).trans rfl; have hfz19_0 := blk_frozen BK301.out 0; have hfz19_1 := blk_frozen BK301.out 1; have hfz19_2 := blk_frozen BK301.out 2) | ((with_reducible refine gate_dst (N := 16) rfl ?_); refine Kd.R_lit k67 _ 67 ?hg (N := 16) ?hd (xs := ([(⟨2, (⟨#[]⟩ : ByteArray), (⟨1, 3, (⟨#[]⟩ : ByteArray)⟩ : S23)⟩ : S67)] : List (S67))) (inner := [.int .i64 2, .string (⟨#[]⟩ : ByteArray), .int .i64 1, .int .i64 3, .string (⟨#[]⟩ : ByteArray)]) (ok := fun _ => True) (okp := fun _ => True) ?hr ?hp (fun _ hk => hk) trivial (Below.refl _ _) (Nat.le_refl _) (by simp) ?_; (case hd => rfl); (case hg => rfl); (case hr => first | (go_simp; done) | (go_simp; rfl)); (case hp => exact (Reps.c5 (show Kd.M k67 _ _ _ (⟨2, (⟨#[]⟩ : ByteArray), (⟨1, 3, (⟨#[]⟩ : ByteArray)⟩ : S23)⟩ : S67) [.int .i64 2, .string (⟨#[]⟩ : ByteArray), .int .i64 1, .int .i64 3, .string (⟨#[]⟩ : ByteArray)] from (k67_mkM _ _ _ (⟨2, (⟨#[]⟩ : ByteArray), (⟨1, 3, (⟨#[]⟩ : ByteArray)⟩ : S23)⟩ : S67) )) (Reps.none _ _))); intro v306 w20 ho21 hb hg_ hnew_; clear hg_ hnew_; (first | rw [← Ny305.out] at ho21 | (simp only [Int.reduceToNat] at ho21; rw [← Ny305.out] at ho21)); have n0_ := Aside0.mk (Kd.R_elder' (ku_ HO304.out) (Kd.R_base ho21) hb); have n1_ := Aside0.mk (Kd.R_lower (Kd.R_new' ho21 (Kd.R_lt (ku_ HO304.out))) (below_size (be_ HB))); have n2_ := bb_ (bu_ BK300) hb; have n3_ := bb_ (bu_ BK301) hb; have n4_ := bs_ (be_ HB) hb; clear HO304; clear BK300; clear BK301; clear HB; have HO304 := n0_; have HO307 := n1_; have BK300 := n2_; have BK301 := n3_; have HB := n4_; clear n0_ n1_ n2_ n3_ n4_; (try clear hcz19_0 hcz19_1 hcz19_2 hfz19_0 hfz19_1 hfz19_2); clear hb ho21; obtain ⟨Ao22, co22, eo22⟩ := Kd.R_slice HO307.out; subst eo22; obtain ⟨Ao23, co23, eo23⟩ := Kd.R_slice HO304.out; subst eo23) | ((with_reducible refine gate_dst (N := 3) rfl ?_); refine box_event ?hg (N := 3) ?hd (cs := #[.int .i64 0, .string (⟨#[]⟩ : ByteArray), .slice none 0 0, .int .i64 0, .slice none 0 0, .slice none 0 0]) (t := 29) ?hr ?_; (case hd => rfl); (case hg => rfl); (case hr => first | (go_simp; done) | (go_simp; rfl)); intro gb308 hg w24 hbox hb; have n0_ := kb_ (ku_ HO304.out) hb; have n1_ := kb_ (ku_ HO307.out) hb; have n2_ := bb_ (bu_ BK300) hb; have n3_ := bb_ (bu_ BK301) hb; have n4_ := bs_ (be_ HB) hb; have n5_ := Aside0.mk (hbox); have n6_ := gs_ hg (be_ HB); have n7_ := gs_ hg (be_ HB); have n8_ := nl_ hg (bu_ BK300); have n9_ := ng_ hg (bu_ BK300); have n10_ := nl_ hg (bu_ BK301); have n11_ := ng_ hg (bu_ BK301); clear HO304; clear HO307; clear BK300; clear BK301; clear HB; have HO304 := n0_; have HO307 := n1_; have BK300 := n2_; have BK301 := n3_; have HB := n4_; have BK308 := n5_; have GW308 := n6_; have GE308 := n7_; have NB300_308 := n8_; have NB308_300 := n9_; have NB301_308 := n10_; have NB308_301 := n11_; clear n0_ n1_ n2_ n3_ n4_ n5_ n6_ n7_ n8_ n9_ n10_ n11_; clear hb hbox hg; have hnb25 := NB308_300.out; have hnc25 := NB300_308.out; have hnb26 := NB308_301.out; have hnc26 := NB301_308.out; have hcz27_0 : w24.cell? ⟨gb308, 0, none⟩ = some (.int .i64 0) := (blk_cell BK308.out 0).trans rfl; have hcz27_1 : w24.cell? ⟨gb308, 1, none⟩ = some (.string (⟨#[]⟩ : ByteArray)) := (blk_cell BK308.out 1).trans rfl; have hcz27_2 : w24.cell? ⟨gb308, 2, none⟩ = some (.slice none 0 0) := (blk_cell BK308.out 2).trans rfl; have hcz27_3 : w24.cell? ⟨gb308, 3, none⟩ = some (.int .i64 0) := (blk_cell BK308.out 3).trans rfl; have hcz27_4 : w24.cell? ⟨gb308, 4, none⟩ = some (.slice none 0 0) := (blk_cell BK308.out 4).trans rfl; have hcz27_5 : w24.cell? ⟨gb308, 5, none⟩ = some (.slice none 0 0) := (blk_cell BK308.out 5).trans rfl; have hfz27_0 := blk_frozen BK308.out 0; have hfz27_1 := blk_frozen BK308.out 1; have hfz27_2 := blk_frozen BK308.out 2; have hfz27_3 := blk_frozen BK308.out 3; have hfz27_4 := blk_frozen BK308.out 4; have hfz27_5 := blk_frozen BK308.out 5; have hcz28_0 : w24.cell? ⟨gb300, 0, none⟩ = some (.int .i64 1) := (blk_cell BK300.out 0).trans rfl; have hcz28_1 : w24.cell? ⟨gb300, 1, none⟩ = some (.int .i64 2) := (blk_cell BK300.out 1).trans rfl; have hcz28_2 : w24.cell? ⟨gb300, 2, none⟩ = some (.string (⟨#[]⟩ : ByteArray)) := (blk_cell BK300.out 2).trans rfl; have hfz28_0 := blk_frozen BK300.out 0; have hfz28_1 := blk_frozen BK300.out 1; have hfz28_2 := blk_frozen BK300.out 2) | ((with_reducible refine gate_dst (N := 22) rfl ?_); refine Kd.R_lit k54 _ 54 ?hg (N := 22) ?hd (xs := ([(⟨(⟨#[88]⟩ : ByteArray), (⟨1, 2, (⟨#[]⟩ : ByteArray)⟩ : S23)⟩ : S54)] : List (S54))) (inner := [.string (⟨#[88]⟩ : ByteArray), .int .i64 1, .int .i64 2, .string (⟨#[]⟩ : ByteArray)]) (ok := fun _ => True) (okp := fun _ => True) ?hr ?hp (fun _ hk => hk) trivial (Below.refl _ _) (Nat.le_refl _) (by simp) ?_; (case hd => rfl); (case hg => rfl); (case hr => first | (go_simp; done) | (go_simp; rfl)); (case hp => exact (Reps.c4 (show Kd.M k54 _ _ _ (⟨(⟨#[88]⟩ : ByteArray), (⟨1, 2, (⟨#[]⟩ : ByteArray)⟩ : S23)⟩ : S54) [.string (⟨#[88]⟩ : ByteArray), .int .i64 1, .int .i64 2, .string (⟨#[]⟩ : ByteArray)] from (k54_mkM _ _ _ (⟨(⟨#[88]⟩ : ByteArray), (⟨1, 2, (⟨#[]⟩ : ByteArray)⟩ : S23)⟩ : S54) )) (Reps.none _ _))); intro v310 w29 ho30 hb hg_ hnew_; clear hg_ hnew_; (first | rw [← Ny309.out] at ho30 | (simp only [Int.reduceToNat] at ho30; rw [← Ny309.out] at ho30)); have n0_ := Aside0.mk (Kd.R_below (ku_ (Kd.R_mono (Kd.R_far (p := ⟨gb308, 5, none⟩) (Kd.R_far (p := ⟨gb308, 4, none⟩) (Kd.R_far (p := ⟨gb308, 3, none⟩) (Kd.R_far (p := ⟨gb308, 2, none⟩) (Kd.R_far (p := ⟨gb308, 1, none⟩) (Kd.R_far (p := ⟨gb308, 0, none⟩) (Kd.R_types HO304.out BK308.out (by decide)) (fun _ hk => hk.2) (.int .i64 3)) (fun _ hk => hk.2) (.string (⟨#[]⟩ : ByteArray))) (fun _ hk => hk.2) (.slice none 0 0)) (fun _ hk => hk.2) (.int .i64 3)) (fun _ hk => hk.2) (.slice Ao23 y302.length co23)) (fun _ hk => hk.2) (.slice Ao22 y305.length co22)) (fun _ h_ => h_.1))) hb); have n1_ := Aside0.mk (Kd.R_below (ku_ (Kd.R_mono (Kd.R_far (p := ⟨gb308, 5, none⟩) (Kd.R_far (p := ⟨gb308, 4, none⟩) (Kd.R_far (p := ⟨gb308, 3, none⟩) (Kd.R_far (p := ⟨gb308, 2, none⟩) (Kd.R_far (p := ⟨gb308, 1, none⟩) (Kd.R_far (p := ⟨gb308, 0, none⟩) (Kd.R_types HO307.out BK308.out (by decide)) (fun _ hk => hk.2) (.int .i64 3)) (fun _ hk => hk.2) (.string (⟨#[]⟩ : ByteArray))) (fun _ hk => hk.2) (.slice none 0 0)) (fun _ hk => hk.2) (.int .i64 3)) (fun _ hk => hk.2) (.slice Ao23 y302.length co23)) (fun _ hk => hk.2) (.slice Ao22 y305.length co22)) (fun _ h_ => h_.1))) hb); have n2_ := Aside0.mk (Kd.R_lower ho30 (below_size (be_ HB))); have n3_ := bb_ (bu_ BK300) hb; have n4_ := bb_ (bu_ BK301) hb; have n5_ := Aside0.mk (blk_below (o := .cells #[.int .i64 3, .string (⟨#[]⟩ : ByteArray), .slice none 0 0, .int .i64 3, .slice Ao23 y302.length co23, .slice Ao22 y305.length co22] 29 (0, 0)) (bp_ BK308) hb); have n6_ := bs_ (be_ HB) hb; clear HO304; clear HO307; clear BK300; clear BK301; clear BK308; clear HB; have HO304 := n0_; have HO307 := n1_; have HO311 := n2_; have BK300 := n3_; have BK301 := n4_; have BK308 := n5_; have HB := n6_; clear n0_ n1_ n2_ n3_ n4_ n5_ n6_; (try clear hcz27_0 hcz27_1 hcz27_2 hcz27_3 hcz27_4 hcz27_5 hfz27_0 hfz27_1 hfz27_2 hfz27_3 hfz27_4 hfz27_5 hcz28_0 hcz28_1 hcz28_2 hfz28_0 hfz28_1 hfz28_2); clear hb ho30; obtain ⟨Ao31, co31, eo31⟩ := Kd.R_slice HO311.out; subst eo31) | ((with_reducible refine gate_callee (f := 12) rfl ?_); refine goesL_ (some 23) rfl rfl Try.func12 (by kernel_rfl) rfl #[.agg #[.int .i64 3, .string (⟨#[]⟩ : ByteArray), .slice none 0 0, .int .i64 3, .slice Ao23 y302.length co23, .slice Ao22 y305.length co22], .slice Ao31 y309.length co31] rfl ga_ ?_; (refine (guard_Eval.calls k 3 (⟨#[]⟩ : ByteArray) none 0 ([] : List (S72)) 3 _ _ y302 _ _ y305 _ _ y309 true t313 _ ?side1 ?side2 ?side3 ?side4 ?side5 ?side6 ?side7 ?side8 A1.out).mono ?_); (case side1 => exact Kd.C_nil _ _); (case side2 => exact Nat.le_refl _); (case side3 => repeat (first | exact (Kd.R_reads' HO304.out).2.2 | (with_reducible refine Kd.C_alloc ?_ _) | (with_reducible refine Kd.C_drewN ?_ _) | (with_reducible refine Kd.C_drew ?_))); (case side4 => exact (Kd.R_reads' HO304.out).2.1); (case side5 => repeat (first | exact (Kd.R_reads' HO307.out).2.2 | (with_reducible refine Kd.C_alloc ?_ _) | (with_reducible refine Kd.C_drewN ?_ _) | (with_reducible refine Kd.C_drew ?_))); (case side6 => exact (Kd.R_reads' HO307.out).2.1); (case side7 => repeat (first | exact (Kd.R_reads' HO311.out).2.2 | (with_reducible refine Kd.C_alloc ?_ _) | (with_reducible refine Kd.C_drewN ?_ _) | (with_reducible refine Kd.C_drew ?_))); (case side8 => exact (Kd.R_reads' HO311.out).2.1); rintro e w32 ⟨rfl, hb⟩; refine ⟨_, rfl, ?_⟩; have n0_ := kb_ (ku_ HO304.out) hb; have n1_ := kb_ (ku_ HO307.out) hb; have n2_ := kb_ (ku_ HO311.out) hb; have n3_ := bb_ (bu_ BK300) hb; have n4_ := bb_ (bu_ BK301) hb; have n5_ := bb_ (bu_ BK308) hb; have n6_ := bs_ (be_ HB) hb; clear HO304; clear HO307; clear HO311; clear BK300; clear BK301; clear BK308; clear HB; have HO304 := n0_; have HO307 := n1_; have HO311 := n2_; have BK300 := n3_; have BK301 := n4_; have BK308 := n5_; have HB := n6_; clear n0_ n1_ n2_ n3_ n4_ n5_ n6_; (try clear hb); (try clear hb2); (try clear hk); (try clear hi); have hcz33_0 : w32.cell? ⟨gb300, 0, none⟩ = some (.int .i64 1) := (blk_cell BK300.out 0).trans rfl; have hcz33_1 : w32.cell? ⟨gb300, 1, none⟩ = some (.int .i64 2) := (blk_cell BK300.out 1).trans rfl; have hcz33_2 : w32.cell? ⟨gb300, 2, none⟩ = some (.string (⟨#[]⟩ : ByteArray)) := (blk_cell BK300.out 2).trans rfl; have hfz33_0 := blk_frozen BK300.out 0; have hfz33_1 := blk_frozen BK300.out 1; have hfz33_2 := blk_frozen BK300.out 2; have hcz34_0 : w32.cell? ⟨gb301, 0, none⟩ = some (.int .i64 1) := (blk_cell BK301.out 0).trans rfl; have hcz34_1 : w32.cell? ⟨gb301, 1, none⟩ = some (.int .i64 3) := (blk_cell BK301.out 1).trans rfl; have hcz34_2 : w32.cell? ⟨gb301, 2, none⟩ = some (.string (⟨#[]⟩ : ByteArray)) := (blk_cell BK301.out 2).trans rfl; have hfz34_0 := blk_frozen BK301.out 0; have hfz34_1 := blk_frozen BK301.out 1; have hfz34_2 := blk_frozen BK301.out 2; (try clear A1)) | ((with_reducible refine gate_callee (f := 10) rfl ?_); refine goesL_ (some 29) rfl rfl Try.func10 (by kernel_rfl) rfl #[.int .i64 2, .agg #[.int .i64 1, .int .i64 2, .string (⟨#[]⟩ : ByteArray)], .agg #[.int .i64 1, .int .i64 3, .string (⟨#[]⟩ : ByteArray)]] rfl ga_ ?_; (with_reducible refine (guard_Holds.calls k 2 1 2 (⟨#[]⟩ : ByteArray) 1 3 (⟨#[]⟩ : ByteArray) true t315 _ A2.out).mono ?_); rintro e w35 ⟨rfl, hb⟩; refine ⟨_, rfl, ?_⟩; have n0_ := kb_ (ku_ HO304.out) hb; have n1_ := kb_ (ku_ HO307.out) hb; have n2_ := kb_ (ku_ HO311.out) hb; have n3_ := bb_ (bu_ BK300) hb; have n4_ := bb_ (bu_ BK301) hb; have n5_ := bb_ (bu_ BK308) hb; have n6_ := bs_ (be_ HB) hb; clear HO304; clear HO307; clear HO311; clear BK300; clear BK301; clear BK308; clear HB; have HO304 := n0_; have HO307 := n1_; have HO311 := n2_; have BK300 := n3_; have BK301 := n4_; have BK308 := n5_; have HB := n6_; clear n0_ n1_ n2_ n3_ n4_ n5_ n6_; (try clear hcz33_0 hcz33_1 hcz33_2 hfz33_0 hfz33_1 hfz33_2 hcz34_0 hcz34_1 hcz34_2 hfz34_0 hfz34_1 hfz34_2); (try clear hb); (try clear hb2); (try clear hk); (try clear hi); have hcz36_0 : w35.cell? ⟨gb300, 0, none⟩ = some (.int .i64 1) := (blk_cell BK300.out 0).trans rfl; have hcz36_1 : w35.cell? ⟨gb300, 1, none⟩ = some (.int .i64 2) := (blk_cell BK300.out 1).trans rfl; have hcz36_2 : w35.cell? ⟨gb300, 2, none⟩ = some (.string (⟨#[]⟩ : ByteArray)) := (blk_cell BK300.out 2).trans rfl; have hfz36_0 := blk_frozen BK300.out 0; have hfz36_1 := blk_frozen BK300.out 1; have hfz36_2 := blk_frozen BK300.out 2) | ((with_reducible refine gate_callee (f := 10) rfl ?_); refine goesL_ (some 35) rfl rfl Try.func10 (by kernel_rfl) rfl #[.int .i64 4, .agg #[.int .i64 1, .int .i64 2, .string (⟨#[]⟩ : ByteArray)], .agg #[.int .i64 2, .int .i64 0, .string (⟨#[97]⟩ : ByteArray)]] rfl ga_ ?_; (with_reducible refine (guard_Holds.calls k 4 1 2 (⟨#[]⟩ : ByteArray) 2 0 (⟨#[97]⟩ : ByteArray) t316 t317 _ A3.out).mono ?_); rintro e w37 ⟨rfl, hb⟩; refine ⟨_, rfl, ?_⟩; have n0_ := kb_ (ku_ HO304.out) hb; have n1_ := kb_ (ku_ HO307.out) hb; have n2_ := kb_ (ku_ HO311.out) hb; have n3_ := bb_ (bu_ BK300) hb; have n4_ := bb_ (bu_ BK301) hb; have n5_ := bb_ (bu_ BK308) hb; have n6_ := bs_ (be_ HB) hb; clear HO304; clear HO307; clear HO311; clear BK300; clear BK301; clear BK308; clear HB; have HO304 := n0_; have HO307 := n1_; have HO311 := n2_; have BK300 := n3_; have BK301 := n4_; have BK308 := n5_; have HB := n6_; clear n0_ n1_ n2_ n3_ n4_ n5_ n6_; (try clear hcz36_0 hcz36_1 hcz36_2 hfz36_0 hfz36_1 hfz36_2); (try clear hb); (try clear hb2); (try clear hk); (try clear hi); have hcz38_0 : w37.cell? ⟨gb308, 0, none⟩ = some (.int .i64 3) := (blk_cell BK308.out 0).trans rfl; have hcz38_1 : w37.cell? ⟨gb308, 1, none⟩ = some (.string (⟨#[]⟩ : ByteArray)) := (blk_cell BK308.out 1).trans rfl; have hcz38_2 : w37.cell? ⟨gb308, 2, none⟩ = some (.slice none 0 0) := (blk_cell BK308.out 2).trans rfl; have hcz38_3 : w37.cell? ⟨gb308, 3, none⟩ = some (.int .i64 3) := (blk_cell BK308.out 3).trans rfl; have hcz38_4 : w37.cell? ⟨gb308, 4, none⟩ = some (.slice Ao23 y302.length co23) := (blk_cell BK308.out 4).trans rfl; have hcz38_5 : w37.cell? ⟨gb308, 5, none⟩ = some (.slice Ao22 y305.length co22) := (blk_cell BK308.out 5).trans rfl; have hfz38_0 := blk_frozen BK308.out 0; have hfz38_1 := blk_frozen BK308.out 1; have hfz38_2 := blk_frozen BK308.out 2; have hfz38_3 := blk_frozen BK308.out 3; have hfz38_4 := blk_frozen BK308.out 4; have hfz38_5 := blk_frozen BK308.out 5) | (go_at_call 15; (refine (guard_Check.calls k 3 (⟨#[]⟩ : ByteArray) none 0 ([] : List (S72)) 3 _ _ y302 _ _ y305 t318 _ ?side1 ?side2 ?side3 ?side4 ?side5 ?side6 A9.out).mono ?_); (case side1 => exact Kd.C_nil _ _); (case side2 => exact Nat.le_refl _); (case side3 => repeat (first | exact (Kd.R_reads' HO304.out).2.2 | (with_reducible refine Kd.C_alloc ?_ _) | (with_reducible refine Kd.C_drewN ?_ _) | (with_reducible refine Kd.C_drew ?_))); (case side4 => exact (Kd.R_reads' HO304.out).2.1); (case side5 => repeat (first | exact (Kd.R_reads' HO307.out).2.2 | (with_reducible refine Kd.C_alloc ?_ _) | (with_reducible refine Kd.C_drewN ?_ _) | (with_reducible refine Kd.C_drew ?_))); (case side6 => exact (Kd.R_reads' HO307.out).2.1); rintro e w39 ⟨rfl, hb⟩; have n0_ := kb_ (ku_ HO304.out) hb; have n1_ := kb_ (ku_ HO307.out) hb; have n2_ := kb_ (ku_ HO311.out) hb; have n3_ := bb_ (bu_ BK300) hb; have n4_ := bb_ (bu_ BK301) hb; have n5_ := bb_ (bu_ BK308) hb; have n6_ := bs_ (be_ HB) hb; clear HO304; clear HO307; clear HO311; clear BK300; clear BK301; clear BK308; clear HB; have HO304 := n0_; have HO307 := n1_; have HO311 := n2_; have BK300 := n3_; have BK301 := n4_; have BK308 := n5_; have HB := n6_; clear n0_ n1_ n2_ n3_ n4_ n5_ n6_; (try clear hcz38_0 hcz38_1 hcz38_2 hcz38_3 hcz38_4 hcz38_5 hfz38_0 hfz38_1 hfz38_2 hfz38_3 hfz38_4 hfz38_5); (try clear hb); (try clear hb2); (try clear hk); (try clear hi); (try clear A9)) | (go_at_call 15; (refine (guard_Check.calls k 0 (⟨#[]⟩ : ByteArray) none 0 ([] : List (S72)) 0 none 0 ([] : List (S67)) none 0 ([] : List (S67)) t319 _ ?side1 ?side2 ?side3 ?side4 ?side5 ?side6 A11.out).mono ?_); (case side1 => exact Kd.C_nil _ _); (case side2 => exact Nat.le_refl _); (case side3 => exact Kd.C_nil _ _); (case side4 => exact Nat.le_refl _); (case side5 => exact Kd.C_nil _ _); (case side6 => exact Nat.le_refl _); rintro e w40 ⟨rfl, hb⟩; have n0_ := kb_ (ku_ HO304.out) hb; have n1_ := kb_ (ku_ HO307.out) hb; have n2_ := kb_ (ku_ HO311.out) hb; have n3_ := bb_ (bu_ BK300) hb; have n4_ := bb_ (bu_ BK301) hb; have n5_ := bb_ (bu_ BK308) hb; have n6_ := bs_ (be_ HB) hb; clear HO304; clear HO307; clear HO311; clear BK300; clear BK301; clear BK308; clear HB; have HO304 := n0_; have HO307 := n1_; have HO311 := n2_; have BK300 := n3_; have BK301 := n4_; have BK308 := n5_; have HB := n6_; clear n0_ n1_ n2_ n3_ n4_ n5_ n6_; (try clear hb); (try clear hb2); (try clear hk); (try clear hi); (try clear A11)))
              go_ret
              exact ⟨by first | rfl | (simp [errW_none, errW_some] <;> rfl) | (simp [*, errW_none, errW_some] <;> rfl), by repeat (first | (with_reducible first | exact HB.out | apply below_alloc | apply pw_below_drewN | apply below_drew1 | refine below_set ?_ GE300.out | refine below_set ?_ GE301.out | refine below_set ?_ GE308.out) | exact HB.out)⟩
            · rw [if_neg c10] at H
              obtain ⟨c10b0, c10b1⟩ := neB_ c10
              exact absurd ((Option.some.inj H).trans HR_.out) (by decide)
          · rw [if_neg c8] at H
            obtain ⟨c8b0, c8b1⟩ := neB_ c8
            exact absurd ((Option.some.inj H).trans HR_.out) (by decide)
        · replace c7 := Bool.eq_false_iff.mpr c7
          subst c7
          have H1 : (some false) = some r := by rw [if_neg (show ¬ (false = true) by decide)] at H; exact H
          clear H
          have H := H1
          clear H1
          exact absurd ((Option.some.inj H).trans HR_.out) (by decide)
      · rw [if_neg c6] at H
        obtain ⟨c6b0, c6b1⟩ := neB_ c6
        exact absurd ((Option.some.inj H).trans HR_.out) (by decide)
    · replace c5 := Bool.eq_false_iff.mpr c5
      subst c5
      have H1 : (some false) = some r := by rw [if_neg (show ¬ (false = true) by decide)] at H; exact H
      clear H
      have H := H1
      clear H1
      exact absurd ((Option.some.inj H).trans HR_.out) (by decide)
  · rw [if_neg c4] at H
    obtain ⟨c4b0, c4b1⟩ := neB_ c4
    exact absurd ((Option.some.inj H).trans HR_.out) (by decide)
end Go.Proofs.Ytaopajmpifenoaa.P
end
