/- Part 3 of the proof of GuardNumbers: words, contracts of functions of the program (what a call answers), and what the answers say. -/
import Derived.Lib.Bytes
import Derived.Laws.BitsLemmas
import Derived.Laws.Bits64
import Derived.Test.YtaopajmpifenoaaVWords
import Derived.Test.YtaopajmpifenoaaVLast
import Derived.Test.YtaopajmpifenoaaVApart
import Derived.Test.YtaopajmpifenoaaVArr
import Derived.Test.YtaopajmpifenoaaVFoot
import Derived.Test.YtaopajmpifenoaaVKept
import Derived.Test.YtaopajmpifenoaaVShare
import Derived.Test.YtaopajmpifenoaaVZeros
import Derived.Test.YtaopajmpifenoaaVN
import Derived.Test.YtaopajmpifenoaaVFootNe
import Derived.Test.YtaopajmpifenoaaVAt
import Derived.Test.YtaopajmpifenoaaVEqStruct
import Derived.Test.YtaopajmpifenoaaVTab
import Derived.Test.YtaopajmpifenoaaVFour
import Derived.Test.YtaopajmpifenoaaVGuard
import Derived.Test.YtaopajmpifenoaaVInv
import Derived.Test.YtaopajmpifenoaaVInvWords
import Derived.Test.YtaopajmpifenoaaVQPut
import Derived.Test.YtaopajmpifenoaaVNEv
import Derived.Test.YtaopajmpifenoaaVMore
import Derived.Test.YtaopajmpifenoaaVRepsOne
import Derived.Test.YtaopajmpifenoaaVSized
import Derived.Test.YtaopajmpifenoaaCGuardNumbers0
import Derived.Test.YtaopajmpifenoaaCGuardNumbers1
section
namespace Go.Proofs.Ytaopajmpifenoaa.P
open Go.RowKit Go.Proofs.YtaopajmpifenoaaW.PrintWords Go.Proofs.YtaopajmpifenoaaW.PrintLast Go.Proofs.YtaopajmpifenoaaW.PrintMore
attribute [local go_sem] max2_int min2_int max_two min_two max_three min_three max_four min_four
set_option linter.unusedVariables false
set_option linter.unusedSimpArgs false
def guard_Eval.f (k : Nat) (a0_0 : Int) (a0_1 : ByteArray) (l0_2 : List (S72)) (a0_3 : Int) (l0_4 : List (S67)) (l0_5 : List (S67)) (l1 : List (S54)) : Option (Bool × Int) := (guard_Check.f k a0_0 a0_1 l0_2 a0_3 l0_4 l0_5).bind fun t260 => (if t260 = 0 then ((expr_Eval.f k l0_4 l1).bind fun bt261 => (if bt261.2.2.2 = 0 then ((expr_Eval.f k l0_5 l1).bind fun bt266 => (if bt266.2.2.2 = 0 then ((guard_Holds.f k a0_3 bt261.1 bt261.2.1 bt261.2.2.1 bt266.1 bt266.2.1 bt266.2.2.1).bind fun bt271 => (some (bt271.1, bt271.2))) else (some (false, bt266.2.2.2)))) else (some (false, bt261.2.2.2)))) else (some (false, t260)))
theorem guard_Eval.mono : ∀ a0 a1 a2 a3 a4 a5 a6 k, LeO (guard_Eval.f k a0 a1 a2 a3 a4 a5 a6) (guard_Eval.f (k + 1) a0 a1 a2 a3 a4 a5 a6) := by
  intro a0 a1 a2 a3 a4 a5 a6 k
  unfold guard_Eval.f
  repeat' first
      | (with_reducible exact expr_Eval.mono _ _ _)
      | (with_reducible exact guard_Check.mono _ _ _ _ _ _ _)
      | (with_reducible exact guard_Holds.mono _ _ _ _ _ _ _ _)
      | (with_reducible exact LeO.refl _)
      | (with_reducible exact LeO.none _)
      | (with_reducible refine LeO.ite ?_ ?_)
      | (with_reducible refine LeO.bind ?_ (fun _ => ?_))
      | exact expr_Eval.mono _ _ _
      | exact guard_Check.mono _ _ _ _ _ _ _
      | exact guard_Holds.mono _ _ _ _ _ _ _ _
      | exact LeO.none _
      | refine LeO.ite ?_ ?_
      | refine LeO.bind ?_ (fun _ => ?_)
set_option maxHeartbeats 8000000 in
set_option maxRecDepth 100000 in
theorem guard_Eval.calls (k : Nat) (a0_0 : Int) (a0_1 : ByteArray) (A0_2 : Option Addr) (c0_2 : Nat) (l0_2 : List (S72)) (a0_3 : Int) (A0_4 : Option Addr) (c0_4 : Nat) (l0_4 : List (S67)) (A0_5 : Option Addr) (c0_5 : Nat) (l0_5 : List (S67)) (A1 : Option Addr) (c1 : Nat) (l1 : List (S54)) (r1 : Bool) (r2 : Int) (w : World) (hr0_2 : Kd.C k72 w A0_2 l0_2.length l0_2) (hc0_2 : l0_2.length ≤ c0_2) (hr0_4 : Kd.C k67 w A0_4 l0_4.length l0_4) (hc0_4 : l0_4.length ≤ c0_4) (hr0_5 : Kd.C k67 w A0_5 l0_5.length l0_5) (hc0_5 : l0_5.length ≤ c0_5) (hr1 : Kd.C k54 w A1 l1.length l1) (hc1 : l1.length ≤ c1) (h : guard_Eval.f k a0_0 a0_1 l0_2 a0_3 l0_4 l0_5 l1 = some (r1, r2)) :
    Calls Try.prog 12 #[.agg #[.int .i64 a0_0, .string a0_1, .slice A0_2 l0_2.length c0_2, .int .i64 a0_3, .slice A0_4 l0_4.length c0_4, .slice A0_5 l0_5.length c0_5], .slice A1 l1.length c1] w fun e w' => e = .returned (.tuple #[.bool r1, .int .i64 r2]) ∧ Below w.heap.size w w' := by
  have hu29 := Try.underlying29
  have hu23 := Try.underlying23
  have HR0_2 := Aside0.mk hr0_2
  have HC0_2 := Aside0.mk hc0_2
  clear hr0_2 hc0_2
  have HR0_4 := Aside0.mk hr0_4
  have HC0_4 := Aside0.mk hc0_4
  clear hr0_4 hc0_4
  have HR0_5 := Aside0.mk hr0_5
  have HC0_5 := Aside0.mk hc0_5
  clear hr0_5 hc0_5
  have HR1 := Aside0.mk hr1
  have HC1 := Aside0.mk hc1
  clear hr1 hc1
  have HB := Aside0.mk (Below.refl w.heap.size w)
  have H : ((guard_Check.f k a0_0 a0_1 l0_2 a0_3 l0_4 l0_5).bind fun t260 => (if t260 = 0 then ((expr_Eval.f k l0_4 l1).bind fun bt261 => (if bt261.2.2.2 = 0 then ((expr_Eval.f k l0_5 l1).bind fun bt266 => (if bt266.2.2.2 = 0 then ((guard_Holds.f k a0_3 bt261.1 bt261.2.1 bt261.2.2.1 bt266.1 bt266.2.1 bt266.2.2.1).bind fun bt271 => (some (bt271.1, bt271.2))) else (some (false, bt266.2.2.2)))) else (some (false, bt261.2.2.2)))) else (some (false, t260)))) = some (r1, r2) := h
  clear h
  replace H := Option.bind_eq_some_iff.mp H
  obtain ⟨t260, A30, H⟩ := H
  replace H : (if t260 = 0 then ((expr_Eval.f k l0_4 l1).bind fun bt261 => (if bt261.2.2.2 = 0 then ((expr_Eval.f k l0_5 l1).bind fun bt266 => (if bt266.2.2.2 = 0 then ((guard_Holds.f k a0_3 bt261.1 bt261.2.1 bt261.2.2.1 bt266.1 bt266.2.1 bt266.2.2.1).bind fun bt271 => (some (bt271.1, bt271.2))) else (some (false, bt266.2.2.2)))) else (some (false, bt261.2.2.2)))) else (some (false, t260))) = some (r1, r2) := H
  have A3 := Aside0.mk A30
  clear A30
  by_cases c4 : t260 = 0
  · rw [if_pos c4] at H
    obtain ⟨c4b0, c4b1⟩ := eqB_ c4
    clear c4
    replace H := Option.bind_eq_some_iff.mp H
    obtain ⟨⟨t261, t262, t263, t264⟩, A50, H⟩ := H
    replace H : (if t264 = 0 then ((expr_Eval.f k l0_5 l1).bind fun bt266 => (if bt266.2.2.2 = 0 then ((guard_Holds.f k a0_3 t261 t262 t263 bt266.1 bt266.2.1 bt266.2.2.1).bind fun bt271 => (some (bt271.1, bt271.2))) else (some (false, bt266.2.2.2)))) else (some (false, t264))) = some (r1, r2) := H
    have A5 := Aside0.mk A50
    clear A50
    by_cases c6 : t264 = 0
    · rw [if_pos c6] at H
      obtain ⟨c6b0, c6b1⟩ := eqB_ c6
      clear c6
      replace H := Option.bind_eq_some_iff.mp H
      obtain ⟨⟨t266, t267, t268, t269⟩, A70, H⟩ := H
      replace H : (if t269 = 0 then ((guard_Holds.f k a0_3 t261 t262 t263 t266 t267 t268).bind fun bt271 => (some (bt271.1, bt271.2))) else (some (false, t269))) = some (r1, r2) := H
      have A7 := Aside0.mk A70
      clear A70
      by_cases c8 : t269 = 0
      · rw [if_pos c8] at H
        obtain ⟨c8b0, c8b1⟩ := eqB_ c8
        clear c8
        replace H := Option.bind_eq_some_iff.mp H
        obtain ⟨⟨t271, t272⟩, A90, H⟩ := H
        replace H : (some (t271, t272)) = some (r1, r2) := H
        have A9 := Aside0.mk A90
        clear A90
        simp only [Option.some.injEq, Prod.mk.injEq] at H
        obtain ⟨rfl, rfl⟩ := H
        go_enter Try.func12, Try.ntmps12
        go_wp2_with (first | ((with_reducible refine gate_dst (N := 2) rfl ?_); refine box_event ?hg (N := 2) ?hd (cs := #[.int .i64 a0_0, .string a0_1, .slice A0_2 l0_2.length c0_2, .int .i64 a0_3, .slice A0_4 l0_4.length c0_4, .slice A0_5 l0_5.length c0_5]) (t := 29) ?hr ?_; (case hd => rfl); (case hg => rfl); (case hr => first | (go_simp; done) | (go_simp; rfl)); intro gb259 hg w10 hbox hb; have n0_ := bs_ (be_ HB) hb; have n1_ := Aside0.mk (hbox); have n2_ := gs_ hg (be_ HB); have n3_ := gs_ hg (be_ HB); clear HB; have HB := n0_; have BK259 := n1_; have GW259 := n2_; have GE259 := n3_; clear n0_ n1_ n2_ n3_; clear hb hbox hg; have hcz11_0 : w10.cell? ⟨gb259, 0, none⟩ = some (.int .i64 a0_0) := (blk_cell BK259.out 0).trans rfl; have hcz11_1 : w10.cell? ⟨gb259, 1, none⟩ = some (.string a0_1) := (blk_cell BK259.out 1).trans rfl; have hcz11_2 : w10.cell? ⟨gb259, 2, none⟩ = some (.slice A0_2 l0_2.length c0_2) := (blk_cell BK259.out 2).trans rfl; have hcz11_3 : w10.cell? ⟨gb259, 3, none⟩ = some (.int .i64 a0_3) := (blk_cell BK259.out 3).trans rfl; have hcz11_4 : w10.cell? ⟨gb259, 4, none⟩ = some (.slice A0_4 l0_4.length c0_4) := (blk_cell BK259.out 4).trans rfl; have hcz11_5 : w10.cell? ⟨gb259, 5, none⟩ = some (.slice A0_5 l0_5.length c0_5) := (blk_cell BK259.out 5).trans rfl; have hfz11_0 := blk_frozen BK259.out 0; have hfz11_1 := blk_frozen BK259.out 1; have hfz11_2 := blk_frozen BK259.out 2; have hfz11_3 := blk_frozen BK259.out 3; have hfz11_4 := blk_frozen BK259.out 4; have hfz11_5 := blk_frozen BK259.out 5) | ((with_reducible refine gate_callee (f := 15) rfl ?_); refine goesL_ (some 10) rfl rfl Try.func15 (by kernel_rfl) rfl #[.agg #[.int .i64 a0_0, .string a0_1, .slice A0_2 l0_2.length c0_2, .int .i64 a0_3, .slice A0_4 l0_4.length c0_4, .slice A0_5 l0_5.length c0_5]] rfl ga_ ?_; (with_reducible refine (guard_Check.calls k a0_0 a0_1 _ _ l0_2 a0_3 _ _ l0_4 _ _ l0_5 t260 _ ?side1 ?side2 ?side3 ?side4 ?side5 ?side6 A3.out).mono ?_); (case side1 => repeat (first | exact (Kd.C_below HR0_2.out HB.out) | (with_reducible refine Kd.C_alloc ?_ _) | (with_reducible refine Kd.C_drewN ?_ _) | (with_reducible refine Kd.C_drew ?_))); (case side2 => exact HC0_2.out); (case side3 => repeat (first | exact (Kd.C_below HR0_4.out HB.out) | (with_reducible refine Kd.C_alloc ?_ _) | (with_reducible refine Kd.C_drewN ?_ _) | (with_reducible refine Kd.C_drew ?_))); (case side4 => exact HC0_4.out); (case side5 => repeat (first | exact (Kd.C_below HR0_5.out HB.out) | (with_reducible refine Kd.C_alloc ?_ _) | (with_reducible refine Kd.C_drewN ?_ _) | (with_reducible refine Kd.C_drew ?_))); (case side6 => exact HC0_5.out); rintro e w12 ⟨rfl, hb⟩; refine ⟨_, rfl, ?_⟩; have n0_ := bb_ (bu_ BK259) hb; have n1_ := bs_ (be_ HB) hb; clear BK259; clear HB; have BK259 := n0_; have HB := n1_; clear n0_ n1_; (try clear hcz11_0 hcz11_1 hcz11_2 hcz11_3 hcz11_4 hcz11_5 hfz11_0 hfz11_1 hfz11_2 hfz11_3 hfz11_4 hfz11_5); (try clear hb); (try clear hb2); (try clear hk); (try clear hi); have hcz13_0 : w12.cell? ⟨gb259, 0, none⟩ = some (.int .i64 a0_0) := (blk_cell BK259.out 0).trans rfl; have hcz13_1 : w12.cell? ⟨gb259, 1, none⟩ = some (.string a0_1) := (blk_cell BK259.out 1).trans rfl; have hcz13_2 : w12.cell? ⟨gb259, 2, none⟩ = some (.slice A0_2 l0_2.length c0_2) := (blk_cell BK259.out 2).trans rfl; have hcz13_3 : w12.cell? ⟨gb259, 3, none⟩ = some (.int .i64 a0_3) := (blk_cell BK259.out 3).trans rfl; have hcz13_4 : w12.cell? ⟨gb259, 4, none⟩ = some (.slice A0_4 l0_4.length c0_4) := (blk_cell BK259.out 4).trans rfl; have hcz13_5 : w12.cell? ⟨gb259, 5, none⟩ = some (.slice A0_5 l0_5.length c0_5) := (blk_cell BK259.out 5).trans rfl; have hfz13_0 := blk_frozen BK259.out 0; have hfz13_1 := blk_frozen BK259.out 1; have hfz13_2 := blk_frozen BK259.out 2; have hfz13_3 := blk_frozen BK259.out 3; have hfz13_4 := blk_frozen BK259.out 4; have hfz13_5 := blk_frozen BK259.out 5) | ((with_reducible refine gate_callee (f := 22) rfl ?_); refine goesL_ (some 18) rfl rfl Try.func22 (by kernel_rfl) rfl #[.slice A0_4 l0_4.length c0_4, .slice A1 l1.length c1] rfl ga_ ?_; (with_reducible refine (expr_Eval.calls k _ _ l0_4 _ _ l1 t261 t262 t263 t264 _ ?side1 ?side2 ?side3 ?side4 A5.out).mono ?_); (case side1 => repeat (first | exact (Kd.C_below HR0_4.out HB.out) | (with_reducible refine Kd.C_alloc ?_ _) | (with_reducible refine Kd.C_drewN ?_ _) | (with_reducible refine Kd.C_drew ?_))); (case side2 => exact HC0_4.out); (case side3 => repeat (first | exact (Kd.C_below HR1.out HB.out) | (with_reducible refine Kd.C_alloc ?_ _) | (with_reducible refine Kd.C_drewN ?_ _) | (with_reducible refine Kd.C_drew ?_))); (case side4 => exact HC1.out); rintro e w14 ⟨rfl, hb⟩; refine ⟨_, rfl, ?_⟩; have n0_ := bb_ (bu_ BK259) hb; have n1_ := bs_ (be_ HB) hb; clear BK259; clear HB; have BK259 := n0_; have HB := n1_; clear n0_ n1_; (try clear hcz13_0 hcz13_1 hcz13_2 hcz13_3 hcz13_4 hcz13_5 hfz13_0 hfz13_1 hfz13_2 hfz13_3 hfz13_4 hfz13_5); (try clear hb); (try clear hb2); (try clear hk); (try clear hi)) | ((with_reducible refine gate_dst (N := 7) rfl ?_); refine box_event ?hg (N := 7) ?hd (cs := #[.int .i64 0, .int .i64 0, .string (⟨#[]⟩ : ByteArray)]) (t := 23) ?hr ?_; (case hd => rfl); (case hg => rfl); (case hr => first | (go_simp; done) | (go_simp; rfl)); intro gb265 hg w15 hbox hb; have n0_ := bb_ (bu_ BK259) hb; have n1_ := bs_ (be_ HB) hb; have n2_ := Aside0.mk (hbox); have n3_ := gs_ hg (be_ HB); have n4_ := gs_ hg (be_ HB); have n5_ := nl_ hg (bu_ BK259); have n6_ := ng_ hg (bu_ BK259); clear BK259; clear HB; have BK259 := n0_; have HB := n1_; have BK265 := n2_; have GW265 := n3_; have GE265 := n4_; have NB259_265 := n5_; have NB265_259 := n6_; clear n0_ n1_ n2_ n3_ n4_ n5_ n6_; clear hb hbox hg; have hnb16 := NB265_259.out; have hnc16 := NB259_265.out; have hcz17_0 : w15.cell? ⟨gb265, 0, none⟩ = some (.int .i64 0) := (blk_cell BK265.out 0).trans rfl; have hcz17_1 : w15.cell? ⟨gb265, 1, none⟩ = some (.int .i64 0) := (blk_cell BK265.out 1).trans rfl; have hcz17_2 : w15.cell? ⟨gb265, 2, none⟩ = some (.string (⟨#[]⟩ : ByteArray)) := (blk_cell BK265.out 2).trans rfl; have hfz17_0 := blk_frozen BK265.out 0; have hfz17_1 := blk_frozen BK265.out 1; have hfz17_2 := blk_frozen BK265.out 2; have hcz18_0 : w15.cell? ⟨gb259, 0, none⟩ = some (.int .i64 a0_0) := (blk_cell BK259.out 0).trans rfl; have hcz18_1 : w15.cell? ⟨gb259, 1, none⟩ = some (.string a0_1) := (blk_cell BK259.out 1).trans rfl; have hcz18_2 : w15.cell? ⟨gb259, 2, none⟩ = some (.slice A0_2 l0_2.length c0_2) := (blk_cell BK259.out 2).trans rfl; have hcz18_3 : w15.cell? ⟨gb259, 3, none⟩ = some (.int .i64 a0_3) := (blk_cell BK259.out 3).trans rfl; have hcz18_4 : w15.cell? ⟨gb259, 4, none⟩ = some (.slice A0_4 l0_4.length c0_4) := (blk_cell BK259.out 4).trans rfl; have hcz18_5 : w15.cell? ⟨gb259, 5, none⟩ = some (.slice A0_5 l0_5.length c0_5) := (blk_cell BK259.out 5).trans rfl; have hfz18_0 := blk_frozen BK259.out 0; have hfz18_1 := blk_frozen BK259.out 1; have hfz18_2 := blk_frozen BK259.out 2; have hfz18_3 := blk_frozen BK259.out 3; have hfz18_4 := blk_frozen BK259.out 4; have hfz18_5 := blk_frozen BK259.out 5) | ((with_reducible refine gate_callee (f := 22) rfl ?_); refine goesL_ (some 28) rfl rfl Try.func22 (by kernel_rfl) rfl #[.slice A0_5 l0_5.length c0_5, .slice A1 l1.length c1] rfl ga_ ?_; (with_reducible refine (expr_Eval.calls k _ _ l0_5 _ _ l1 t266 t267 t268 t269 _ ?side1 ?side2 ?side3 ?side4 A7.out).mono ?_); (case side1 => exact Kd.C_below HR0_5.out (be_ HB)); (case side2 => exact HC0_5.out); (case side3 => exact Kd.C_below HR1.out (be_ HB)); (case side4 => exact HC1.out); rintro e w19 ⟨rfl, hb⟩; refine ⟨_, rfl, ?_⟩; have n0_ := bb_ (bu_ BK259) hb; have n1_ := Aside0.mk (blk_below (o := .cells #[.int .i64 t261, .int .i64 t262, .string t263] 23 (0, 0)) (bp_ BK265) hb); have n2_ := bs_ (be_ HB) hb; clear BK259; clear BK265; clear HB; have BK259 := n0_; have BK265 := n1_; have HB := n2_; clear n0_ n1_ n2_; (try clear hcz17_0 hcz17_1 hcz17_2 hfz17_0 hfz17_1 hfz17_2 hcz18_0 hcz18_1 hcz18_2 hcz18_3 hcz18_4 hcz18_5 hfz18_0 hfz18_1 hfz18_2 hfz18_3 hfz18_4 hfz18_5); (try clear hb); (try clear hb2); (try clear hk); (try clear hi)) | ((with_reducible refine gate_dst (N := 8) rfl ?_); refine box_event ?hg (N := 8) ?hd (cs := #[.int .i64 0, .int .i64 0, .string (⟨#[]⟩ : ByteArray)]) (t := 23) ?hr ?_; (case hd => rfl); (case hg => rfl); (case hr => first | (go_simp; done) | (go_simp; rfl)); intro gb270 hg w20 hbox hb; have n0_ := bb_ (bu_ BK259) hb; have n1_ := bb_ (bu_ BK265) hb; have n2_ := bs_ (be_ HB) hb; have n3_ := Aside0.mk (hbox); have n4_ := gs_ hg (be_ HB); have n5_ := gs_ hg (be_ HB); have n6_ := nl_ hg (bu_ BK259); have n7_ := ng_ hg (bu_ BK259); have n8_ := nl_ hg (bu_ BK265); have n9_ := ng_ hg (bu_ BK265); clear BK259; clear BK265; clear HB; have BK259 := n0_; have BK265 := n1_; have HB := n2_; have BK270 := n3_; have GW270 := n4_; have GE270 := n5_; have NB259_270 := n6_; have NB270_259 := n7_; have NB265_270 := n8_; have NB270_265 := n9_; clear n0_ n1_ n2_ n3_ n4_ n5_ n6_ n7_ n8_ n9_; clear hb hbox hg; have hnb21 := NB270_259.out; have hnc21 := NB259_270.out; have hnb22 := NB270_265.out; have hnc22 := NB265_270.out; have hcz23_0 : w20.cell? ⟨gb270, 0, none⟩ = some (.int .i64 0) := (blk_cell BK270.out 0).trans rfl; have hcz23_1 : w20.cell? ⟨gb270, 1, none⟩ = some (.int .i64 0) := (blk_cell BK270.out 1).trans rfl; have hcz23_2 : w20.cell? ⟨gb270, 2, none⟩ = some (.string (⟨#[]⟩ : ByteArray)) := (blk_cell BK270.out 2).trans rfl; have hfz23_0 := blk_frozen BK270.out 0; have hfz23_1 := blk_frozen BK270.out 1; have hfz23_2 := blk_frozen BK270.out 2; have hcz24_0 : w20.cell? ⟨gb259, 0, none⟩ = some (.int .i64 a0_0) := (blk_cell BK259.out 0).trans rfl; have hcz24_1 : w20.cell? ⟨gb259, 1, none⟩ = some (.string a0_1) := (blk_cell BK259.out 1).trans rfl; have hcz24_2 : w20.cell? ⟨gb259, 2, none⟩ = some (.slice A0_2 l0_2.length c0_2) := (blk_cell BK259.out 2).trans rfl; have hcz24_3 : w20.cell? ⟨gb259, 3, none⟩ = some (.int .i64 a0_3) := (blk_cell BK259.out 3).trans rfl; have hcz24_4 : w20.cell? ⟨gb259, 4, none⟩ = some (.slice A0_4 l0_4.length c0_4) := (blk_cell BK259.out 4).trans rfl; have hcz24_5 : w20.cell? ⟨gb259, 5, none⟩ = some (.slice A0_5 l0_5.length c0_5) := (blk_cell BK259.out 5).trans rfl; have hfz24_0 := blk_frozen BK259.out 0; have hfz24_1 := blk_frozen BK259.out 1; have hfz24_2 := blk_frozen BK259.out 2; have hfz24_3 := blk_frozen BK259.out 3; have hfz24_4 := blk_frozen BK259.out 4; have hfz24_5 := blk_frozen BK259.out 5; have hcz25_0 : w20.cell? ⟨gb265, 0, none⟩ = some (.int .i64 t261) := (blk_cell BK265.out 0).trans rfl; have hcz25_1 : w20.cell? ⟨gb265, 1, none⟩ = some (.int .i64 t262) := (blk_cell BK265.out 1).trans rfl; have hcz25_2 : w20.cell? ⟨gb265, 2, none⟩ = some (.string t263) := (blk_cell BK265.out 2).trans rfl; have hfz25_0 := blk_frozen BK265.out 0; have hfz25_1 := blk_frozen BK265.out 1; have hfz25_2 := blk_frozen BK265.out 2) | ((with_reducible refine gate_callee (f := 10) rfl ?_); refine goesL_ (some 38) rfl rfl Try.func10 (by kernel_rfl) rfl #[.int .i64 a0_3, .agg #[.int .i64 t261, .int .i64 t262, .string t263], .agg #[.int .i64 t266, .int .i64 t267, .string t268]] rfl ga_ ?_; (with_reducible refine (guard_Holds.calls k a0_3 t261 t262 t263 t266 t267 t268 t271 t272 _ A9.out).mono ?_); rintro e w26 ⟨rfl, hb⟩; refine ⟨_, rfl, ?_⟩; have n0_ := bb_ (bu_ BK259) hb; have n1_ := bb_ (bu_ BK265) hb; have n2_ := Aside0.mk (blk_below (o := .cells #[.int .i64 t266, .int .i64 t267, .string t268] 23 (0, 0)) (bp_ BK270) hb); have n3_ := bs_ (be_ HB) hb; clear BK259; clear BK265; clear BK270; clear HB; have BK259 := n0_; have BK265 := n1_; have BK270 := n2_; have HB := n3_; clear n0_ n1_ n2_ n3_; (try clear hcz23_0 hcz23_1 hcz23_2 hfz23_0 hfz23_1 hfz23_2 hcz24_0 hcz24_1 hcz24_2 hcz24_3 hcz24_4 hcz24_5 hfz24_0 hfz24_1 hfz24_2 hfz24_3 hfz24_4 hfz24_5 hcz25_0 hcz25_1 hcz25_2 hfz25_0 hfz25_1 hfz25_2); (try clear hb); (try clear hb2); (try clear hk); (try clear hi)))
        go_ret2
        exact ⟨by first | rfl | (simp [errW_none, errW_some] <;> rfl) | (simp [*, errW_none, errW_some] <;> rfl), by repeat (first | (with_reducible first | exact HB.out | apply below_alloc | apply pw_below_drewN | apply below_drew1 | refine below_set ?_ GE259.out | refine below_set ?_ GE265.out | refine below_set ?_ GE270.out) | exact HB.out)⟩
      · rw [if_neg c8] at H
        obtain ⟨c8b0, c8b1⟩ := neB_ c8
        simp only [Option.some.injEq, Prod.mk.injEq] at H
        obtain ⟨rfl, rfl⟩ := H
        go_enter Try.func12, Try.ntmps12
        go_wp2_with (first | ((with_reducible refine gate_dst (N := 2) rfl ?_); refine box_event ?hg (N := 2) ?hd (cs := #[.int .i64 a0_0, .string a0_1, .slice A0_2 l0_2.length c0_2, .int .i64 a0_3, .slice A0_4 l0_4.length c0_4, .slice A0_5 l0_5.length c0_5]) (t := 29) ?hr ?_; (case hd => rfl); (case hg => rfl); (case hr => first | (go_simp; done) | (go_simp; rfl)); intro gb259 hg w27 hbox hb; have n0_ := bs_ (be_ HB) hb; have n1_ := Aside0.mk (hbox); have n2_ := gs_ hg (be_ HB); have n3_ := gs_ hg (be_ HB); clear HB; have HB := n0_; have BK259 := n1_; have GW259 := n2_; have GE259 := n3_; clear n0_ n1_ n2_ n3_; clear hb hbox hg; have hcz28_0 : w27.cell? ⟨gb259, 0, none⟩ = some (.int .i64 a0_0) := (blk_cell BK259.out 0).trans rfl; have hcz28_1 : w27.cell? ⟨gb259, 1, none⟩ = some (.string a0_1) := (blk_cell BK259.out 1).trans rfl; have hcz28_2 : w27.cell? ⟨gb259, 2, none⟩ = some (.slice A0_2 l0_2.length c0_2) := (blk_cell BK259.out 2).trans rfl; have hcz28_3 : w27.cell? ⟨gb259, 3, none⟩ = some (.int .i64 a0_3) := (blk_cell BK259.out 3).trans rfl; have hcz28_4 : w27.cell? ⟨gb259, 4, none⟩ = some (.slice A0_4 l0_4.length c0_4) := (blk_cell BK259.out 4).trans rfl; have hcz28_5 : w27.cell? ⟨gb259, 5, none⟩ = some (.slice A0_5 l0_5.length c0_5) := (blk_cell BK259.out 5).trans rfl; have hfz28_0 := blk_frozen BK259.out 0; have hfz28_1 := blk_frozen BK259.out 1; have hfz28_2 := blk_frozen BK259.out 2; have hfz28_3 := blk_frozen BK259.out 3; have hfz28_4 := blk_frozen BK259.out 4; have hfz28_5 := blk_frozen BK259.out 5) | ((with_reducible refine gate_callee (f := 15) rfl ?_); refine goesL_ (some 10) rfl rfl Try.func15 (by kernel_rfl) rfl #[.agg #[.int .i64 a0_0, .string a0_1, .slice A0_2 l0_2.length c0_2, .int .i64 a0_3, .slice A0_4 l0_4.length c0_4, .slice A0_5 l0_5.length c0_5]] rfl ga_ ?_; (with_reducible refine (guard_Check.calls k a0_0 a0_1 _ _ l0_2 a0_3 _ _ l0_4 _ _ l0_5 t260 _ ?side1 ?side2 ?side3 ?side4 ?side5 ?side6 A3.out).mono ?_); (case side1 => repeat (first | exact (Kd.C_below HR0_2.out HB.out) | (with_reducible refine Kd.C_alloc ?_ _) | (with_reducible refine Kd.C_drewN ?_ _) | (with_reducible refine Kd.C_drew ?_))); (case side2 => exact HC0_2.out); (case side3 => repeat (first | exact (Kd.C_below HR0_4.out HB.out) | (with_reducible refine Kd.C_alloc ?_ _) | (with_reducible refine Kd.C_drewN ?_ _) | (with_reducible refine Kd.C_drew ?_))); (case side4 => exact HC0_4.out); (case side5 => repeat (first | exact (Kd.C_below HR0_5.out HB.out) | (with_reducible refine Kd.C_alloc ?_ _) | (with_reducible refine Kd.C_drewN ?_ _) | (with_reducible refine Kd.C_drew ?_))); (case side6 => exact HC0_5.out); rintro e w29 ⟨rfl, hb⟩; refine ⟨_, rfl, ?_⟩; have n0_ := bb_ (bu_ BK259) hb; have n1_ := bs_ (be_ HB) hb; clear BK259; clear HB; have BK259 := n0_; have HB := n1_; clear n0_ n1_; (try clear hcz28_0 hcz28_1 hcz28_2 hcz28_3 hcz28_4 hcz28_5 hfz28_0 hfz28_1 hfz28_2 hfz28_3 hfz28_4 hfz28_5); (try clear hb); (try clear hb2); (try clear hk); (try clear hi); have hcz30_0 : w29.cell? ⟨gb259, 0, none⟩ = some (.int .i64 a0_0) := (blk_cell BK259.out 0).trans rfl; have hcz30_1 : w29.cell? ⟨gb259, 1, none⟩ = some (.string a0_1) := (blk_cell BK259.out 1).trans rfl; have hcz30_2 : w29.cell? ⟨gb259, 2, none⟩ = some (.slice A0_2 l0_2.length c0_2) := (blk_cell BK259.out 2).trans rfl; have hcz30_3 : w29.cell? ⟨gb259, 3, none⟩ = some (.int .i64 a0_3) := (blk_cell BK259.out 3).trans rfl; have hcz30_4 : w29.cell? ⟨gb259, 4, none⟩ = some (.slice A0_4 l0_4.length c0_4) := (blk_cell BK259.out 4).trans rfl; have hcz30_5 : w29.cell? ⟨gb259, 5, none⟩ = some (.slice A0_5 l0_5.length c0_5) := (blk_cell BK259.out 5).trans rfl; have hfz30_0 := blk_frozen BK259.out 0; have hfz30_1 := blk_frozen BK259.out 1; have hfz30_2 := blk_frozen BK259.out 2; have hfz30_3 := blk_frozen BK259.out 3; have hfz30_4 := blk_frozen BK259.out 4; have hfz30_5 := blk_frozen BK259.out 5) | ((with_reducible refine gate_callee (f := 22) rfl ?_); refine goesL_ (some 18) rfl rfl Try.func22 (by kernel_rfl) rfl #[.slice A0_4 l0_4.length c0_4, .slice A1 l1.length c1] rfl ga_ ?_; (with_reducible refine (expr_Eval.calls k _ _ l0_4 _ _ l1 t261 t262 t263 t264 _ ?side1 ?side2 ?side3 ?side4 A5.out).mono ?_); (case side1 => repeat (first | exact (Kd.C_below HR0_4.out HB.out) | (with_reducible refine Kd.C_alloc ?_ _) | (with_reducible refine Kd.C_drewN ?_ _) | (with_reducible refine Kd.C_drew ?_))); (case side2 => exact HC0_4.out); (case side3 => repeat (first | exact (Kd.C_below HR1.out HB.out) | (with_reducible refine Kd.C_alloc ?_ _) | (with_reducible refine Kd.C_drewN ?_ _) | (with_reducible refine Kd.C_drew ?_))); (case side4 => exact HC1.out); rintro e w31 ⟨rfl, hb⟩; refine ⟨_, rfl, ?_⟩; have n0_ := bb_ (bu_ BK259) hb; have n1_ := bs_ (be_ HB) hb; clear BK259; clear HB; have BK259 := n0_; have HB := n1_; clear n0_ n1_; (try clear hcz30_0 hcz30_1 hcz30_2 hcz30_3 hcz30_4 hcz30_5 hfz30_0 hfz30_1 hfz30_2 hfz30_3 hfz30_4 hfz30_5); (try clear hb); (try clear hb2); (try clear hk); (try clear hi)) | ((with_reducible refine gate_dst (N := 7) rfl ?_); refine box_event ?hg (N := 7) ?hd (cs := #[.int .i64 0, .int .i64 0, .string (⟨#[]⟩ : ByteArray)]) (t := 23) ?hr ?_; (case hd => rfl); (case hg => rfl); (case hr => first | (go_simp; done) | (go_simp; rfl)); intro gb265 hg w32 hbox hb; have n0_ := bb_ (bu_ BK259) hb; have n1_ := bs_ (be_ HB) hb; have n2_ := Aside0.mk (hbox); have n3_ := gs_ hg (be_ HB); have n4_ := gs_ hg (be_ HB); have n5_ := nl_ hg (bu_ BK259); have n6_ := ng_ hg (bu_ BK259); clear BK259; clear HB; have BK259 := n0_; have HB := n1_; have BK265 := n2_; have GW265 := n3_; have GE265 := n4_; have NB259_265 := n5_; have NB265_259 := n6_; clear n0_ n1_ n2_ n3_ n4_ n5_ n6_; clear hb hbox hg; have hnb33 := NB265_259.out; have hnc33 := NB259_265.out; have hcz34_0 : w32.cell? ⟨gb265, 0, none⟩ = some (.int .i64 0) := (blk_cell BK265.out 0).trans rfl; have hcz34_1 : w32.cell? ⟨gb265, 1, none⟩ = some (.int .i64 0) := (blk_cell BK265.out 1).trans rfl; have hcz34_2 : w32.cell? ⟨gb265, 2, none⟩ = some (.string (⟨#[]⟩ : ByteArray)) := (blk_cell BK265.out 2).trans rfl; have hfz34_0 := blk_frozen BK265.out 0; have hfz34_1 := blk_frozen BK265.out 1; have hfz34_2 := blk_frozen BK265.out 2; have hcz35_0 : w32.cell? ⟨gb259, 0, none⟩ = some (.int .i64 a0_0) := (blk_cell BK259.out 0).trans rfl; have hcz35_1 : w32.cell? ⟨gb259, 1, none⟩ = some (.string a0_1) := (blk_cell BK259.out 1).trans rfl; have hcz35_2 : w32.cell? ⟨gb259, 2, none⟩ = some (.slice A0_2 l0_2.length c0_2) := (blk_cell BK259.out 2).trans rfl; have hcz35_3 : w32.cell? ⟨gb259, 3, none⟩ = some (.int .i64 a0_3) := (blk_cell BK259.out 3).trans rfl; have hcz35_4 : w32.cell? ⟨gb259, 4, none⟩ = some (.slice A0_4 l0_4.length c0_4) := (blk_cell BK259.out 4).trans rfl; have hcz35_5 : w32.cell? ⟨gb259, 5, none⟩ = some (.slice A0_5 l0_5.length c0_5) := (blk_cell BK259.out 5).trans rfl; have hfz35_0 := blk_frozen BK259.out 0; have hfz35_1 := blk_frozen BK259.out 1; have hfz35_2 := blk_frozen BK259.out 2; have hfz35_3 := blk_frozen BK259.out 3; have hfz35_4 := blk_frozen BK259.out 4; have hfz35_5 := blk_frozen BK259.out 5) | ((with_reducible refine gate_callee (f := 22) rfl ?_); refine goesL_ (some 28) rfl rfl Try.func22 (by kernel_rfl) rfl #[.slice A0_5 l0_5.length c0_5, .slice A1 l1.length c1] rfl ga_ ?_; (with_reducible refine (expr_Eval.calls k _ _ l0_5 _ _ l1 t266 t267 t268 t269 _ ?side1 ?side2 ?side3 ?side4 A7.out).mono ?_); (case side1 => exact Kd.C_below HR0_5.out (be_ HB)); (case side2 => exact HC0_5.out); (case side3 => exact Kd.C_below HR1.out (be_ HB)); (case side4 => exact HC1.out); rintro e w36 ⟨rfl, hb⟩; refine ⟨_, rfl, ?_⟩; have n0_ := bb_ (bu_ BK259) hb; have n1_ := Aside0.mk (blk_below (o := .cells #[.int .i64 t261, .int .i64 t262, .string t263] 23 (0, 0)) (bp_ BK265) hb); have n2_ := bs_ (be_ HB) hb; clear BK259; clear BK265; clear HB; have BK259 := n0_; have BK265 := n1_; have HB := n2_; clear n0_ n1_ n2_; (try clear hcz34_0 hcz34_1 hcz34_2 hfz34_0 hfz34_1 hfz34_2 hcz35_0 hcz35_1 hcz35_2 hcz35_3 hcz35_4 hcz35_5 hfz35_0 hfz35_1 hfz35_2 hfz35_3 hfz35_4 hfz35_5); (try clear hb); (try clear hb2); (try clear hk); (try clear hi)) | ((with_reducible refine gate_dst (N := 8) rfl ?_); refine box_event ?hg (N := 8) ?hd (cs := #[.int .i64 0, .int .i64 0, .string (⟨#[]⟩ : ByteArray)]) (t := 23) ?hr ?_; (case hd => rfl); (case hg => rfl); (case hr => first | (go_simp; done) | (go_simp; rfl)); intro gb270 hg w37 hbox hb; have n0_ := bb_ (bu_ BK259) hb; have n1_ := bb_ (bu_ BK265) hb; have n2_ := bs_ (be_ HB) hb; have n3_ := Aside0.mk (hbox); have n4_ := gs_ hg (be_ HB); have n5_ := gs_ hg (be_ HB); have n6_ := nl_ hg (bu_ BK259); have n7_ := ng_ hg (bu_ BK259); have n8_ := nl_ hg (bu_ BK265); have n9_ := ng_ hg (bu_ BK265); clear BK259; clear BK265; clear HB; have BK259 := n0_; have BK265 := n1_; have HB := n2_; have BK270 := n3_; have GW270 := n4_; have GE270 := n5_; have NB259_270 := n6_; have NB270_259 := n7_; have NB265_270 := n8_; have NB270_265 := n9_; clear n0_ n1_ n2_ n3_ n4_ n5_ n6_ n7_ n8_ n9_; clear hb hbox hg; have hnb38 := NB270_259.out; have hnc38 := NB259_270.out; have hnb39 := NB270_265.out; have hnc39 := NB265_270.out; have hcz40_0 : w37.cell? ⟨gb270, 0, none⟩ = some (.int .i64 0) := (blk_cell BK270.out 0).trans rfl; have hcz40_1 : w37.cell? ⟨gb270, 1, none⟩ = some (.int .i64 0) := (blk_cell BK270.out 1).trans rfl; have hcz40_2 : w37.cell? ⟨gb270, 2, none⟩ = some (.string (⟨#[]⟩ : ByteArray)) := (blk_cell BK270.out 2).trans rfl; have hfz40_0 := blk_frozen BK270.out 0; have hfz40_1 := blk_frozen BK270.out 1; have hfz40_2 := blk_frozen BK270.out 2))
        go_ret2
        exact ⟨by first | rfl | (simp [errW_none, errW_some] <;> rfl) | (simp [*, errW_none, errW_some] <;> rfl), by repeat (first | (with_reducible first | exact HB.out | apply below_alloc | apply pw_below_drewN | apply below_drew1 | refine below_set ?_ GE259.out | refine below_set ?_ GE265.out | refine below_set ?_ GE270.out) | exact HB.out)⟩
    · rw [if_neg c6] at H
      obtain ⟨c6b0, c6b1⟩ := neB_ c6
      simp only [Option.some.injEq, Prod.mk.injEq] at H
      obtain ⟨rfl, rfl⟩ := H
      go_enter Try.func12, Try.ntmps12
      go_wp2_with (first | ((with_reducible refine gate_dst (N := 2) rfl ?_); refine box_event ?hg (N := 2) ?hd (cs := #[.int .i64 a0_0, .string a0_1, .slice A0_2 l0_2.length c0_2, .int .i64 a0_3, .slice A0_4 l0_4.length c0_4, .slice A0_5 l0_5.length c0_5]) (t := 29) ?hr ?_; (case hd => rfl); (case hg => rfl); (case hr => first | (go_simp; done) | (go_simp; rfl)); intro gb259 hg w41 hbox hb; have n0_ := bs_ (be_ HB) hb; have n1_ := Aside0.mk (hbox); have n2_ := gs_ hg (be_ HB); have n3_ := gs_ hg (be_ HB); clear HB; have HB := n0_; have BK259 := n1_; have GW259 := n2_; have GE259 := n3_; clear n0_ n1_ n2_ n3_; clear hb hbox hg; have hcz42_0 : w41.cell? ⟨gb259, 0, none⟩ = some (.int .i64 a0_0) := (blk_cell BK259.out 0).trans rfl; have hcz42_1 : w41.cell? ⟨gb259, 1, none⟩ = some (.string a0_1) := (blk_cell BK259.out 1).trans rfl; have hcz42_2 : w41.cell? ⟨gb259, 2, none⟩ = some (.slice A0_2 l0_2.length c0_2) := (blk_cell BK259.out 2).trans rfl; have hcz42_3 : w41.cell? ⟨gb259, 3, none⟩ = some (.int .i64 a0_3) := (blk_cell BK259.out 3).trans rfl; have hcz42_4 : w41.cell? ⟨gb259, 4, none⟩ = some (.slice A0_4 l0_4.length c0_4) := (blk_cell BK259.out 4).trans rfl; have hcz42_5 : w41.cell? ⟨gb259, 5, none⟩ = some (.slice A0_5 l0_5.length c0_5) := (blk_cell BK259.out 5).trans rfl; have hfz42_0 := blk_frozen BK259.out 0; have hfz42_1 := blk_frozen BK259.out 1; have hfz42_2 := blk_frozen BK259.out 2; have hfz42_3 := blk_frozen BK259.out 3; have hfz42_4 := blk_frozen BK259.out 4; have hfz42_5 := blk_frozen BK259.out 5) | ((with_reducible refine gate_callee (f := 15) rfl ?_); refine goesL_ (some 10) rfl rfl Try.func15 (by kernel_rfl) rfl #[.agg #[.int .i64 a0_0, .string a0_1, .slice A0_2 l0_2.length c0_2, .int .i64 a0_3, .slice A0_4 l0_4.length c0_4, .slice A0_5 l0_5.length c0_5]] rfl ga_ ?_; (with_reducible refine (guard_Check.calls k a0_0 a0_1 _ _ l0_2 a0_3 _ _ l0_4 _ _ l0_5 t260 _ ?side1 ?side2 ?side3 ?side4 ?side5 ?side6 A3.out).mono ?_); (case side1 => repeat (first | exact (Kd.C_below HR0_2.out HB.out) | (with_reducible refine Kd.C_alloc ?_ _) | (with_reducible refine Kd.C_drewN ?_ _) | (with_reducible refine Kd.C_drew ?_))); (case side2 => exact HC0_2.out); (case side3 => repeat (first | exact (Kd.C_below HR0_4.out HB.out) | (with_reducible refine Kd.C_alloc ?_ _) | (with_reducible refine Kd.C_drewN ?_ _) | (with_reducible refine Kd.C_drew ?_))); (case side4 => exact HC0_4.out); (case side5 => repeat (first | exact (Kd.C_below HR0_5.out HB.out) | (with_reducible refine Kd.C_alloc ?_ _) | (with_reducible refine Kd.C_drewN ?_ _) | (with_reducible refine Kd.C_drew ?_))); (case side6 => exact HC0_5.out); rintro e w43 ⟨rfl, hb⟩; refine ⟨_, rfl, ?_⟩; have n0_ := bb_ (bu_ BK259) hb; have n1_ := bs_ (be_ HB) hb; clear BK259; clear HB; have BK259 := n0_; have HB := n1_; clear n0_ n1_; (try clear hcz42_0 hcz42_1 hcz42_2 hcz42_3 hcz42_4 hcz42_5 hfz42_0 hfz42_1 hfz42_2 hfz42_3 hfz42_4 hfz42_5); (try clear hb); (try clear hb2); (try clear hk); (try clear hi); have hcz44_0 : w43.cell? ⟨gb259, 0, none⟩ = some (.int .i64 a0_0) := (blk_cell BK259.out 0).trans rfl; have hcz44_1 : w43.cell? ⟨gb259, 1, none⟩ = some (.string a0_1) := (blk_cell BK259.out 1).trans rfl; have hcz44_2 : w43.cell? ⟨gb259, 2, none⟩ = some (.slice A0_2 l0_2.length c0_2) := (blk_cell BK259.out 2).trans rfl; have hcz44_3 : w43.cell? ⟨gb259, 3, none⟩ = some (.int .i64 a0_3) := (blk_cell BK259.out 3).trans rfl; have hcz44_4 : w43.cell? ⟨gb259, 4, none⟩ = some (.slice A0_4 l0_4.length c0_4) := (blk_cell BK259.out 4).trans rfl; have hcz44_5 : w43.cell? ⟨gb259, 5, none⟩ = some (.slice A0_5 l0_5.length c0_5) := (blk_cell BK259.out 5).trans rfl; have hfz44_0 := blk_frozen BK259.out 0; have hfz44_1 := blk_frozen BK259.out 1; have hfz44_2 := blk_frozen BK259.out 2; have hfz44_3 := blk_frozen BK259.out 3; have hfz44_4 := blk_frozen BK259.out 4; have hfz44_5 := blk_frozen BK259.out 5) | ((with_reducible refine gate_callee (f := 22) rfl ?_); refine goesL_ (some 18) rfl rfl Try.func22 (by kernel_rfl) rfl #[.slice A0_4 l0_4.length c0_4, .slice A1 l1.length c1] rfl ga_ ?_; (with_reducible refine (expr_Eval.calls k _ _ l0_4 _ _ l1 t261 t262 t263 t264 _ ?side1 ?side2 ?side3 ?side4 A5.out).mono ?_); (case side1 => repeat (first | exact (Kd.C_below HR0_4.out HB.out) | (with_reducible refine Kd.C_alloc ?_ _) | (with_reducible refine Kd.C_drewN ?_ _) | (with_reducible refine Kd.C_drew ?_))); (case side2 => exact HC0_4.out); (case side3 => repeat (first | exact (Kd.C_below HR1.out HB.out) | (with_reducible refine Kd.C_alloc ?_ _) | (with_reducible refine Kd.C_drewN ?_ _) | (with_reducible refine Kd.C_drew ?_))); (case side4 => exact HC1.out); rintro e w45 ⟨rfl, hb⟩; refine ⟨_, rfl, ?_⟩; have n0_ := bb_ (bu_ BK259) hb; have n1_ := bs_ (be_ HB) hb; clear BK259; clear HB; have BK259 := n0_; have HB := n1_; clear n0_ n1_; (try clear hcz44_0 hcz44_1 hcz44_2 hcz44_3 hcz44_4 hcz44_5 hfz44_0 hfz44_1 hfz44_2 hfz44_3 hfz44_4 hfz44_5); (try clear hb); (try clear hb2); (try clear hk); (try clear hi)) | ((with_reducible refine gate_dst (N := 7) rfl ?_); refine box_event ?hg (N := 7) ?hd (cs := #[.int .i64 0, .int .i64 0, .string (⟨#[]⟩ : ByteArray)]) (t := 23) ?hr ?_; (case hd => rfl); (case hg => rfl); (case hr => first | (go_simp; done) | (go_simp; rfl)); intro gb265 hg w46 hbox hb; have n0_ := bb_ (bu_ BK259) hb; have n1_ := bs_ (be_ HB) hb; have n2_ := Aside0.mk (hbox); have n3_ := gs_ hg (be_ HB); have n4_ := gs_ hg (be_ HB); have n5_ := nl_ hg (bu_ BK259); have n6_ := ng_ hg (bu_ BK259); clear BK259; clear HB; have BK259 := n0_; have HB := n1_; have BK265 := n2_; have GW265 := n3_; have GE265 := n4_; have NB259_265 := n5_; have NB265_259 := n6_; clear n0_ n1_ n2_ n3_ n4_ n5_ n6_; clear hb hbox hg; have hnb47 := NB265_259.out; have hnc47 := NB259_265.out; have hcz48_0 : w46.cell? ⟨gb265, 0, none⟩ = some (.int .i64 0) := (blk_cell BK265.out 0).trans rfl; have hcz48_1 : w46.cell? ⟨gb265, 1, none⟩ = some (.int .i64 0) := (blk_cell BK265.out 1).trans rfl; have hcz48_2 : w46.cell? ⟨gb265, 2, none⟩ = some (.string (⟨#[]⟩ : ByteArray)) := (blk_cell BK265.out 2).trans rfl; have hfz48_0 := blk_frozen BK265.out 0; have hfz48_1 := blk_frozen BK265.out 1; have hfz48_2 := blk_frozen BK265.out 2))
      go_ret2
      exact ⟨by first | rfl | (simp [errW_none, errW_some] <;> rfl) | (simp [*, errW_none, errW_some] <;> rfl), by repeat (first | (with_reducible first | exact HB.out | apply below_alloc | apply pw_below_drewN | apply below_drew1 | refine below_set ?_ GE259.out | refine below_set ?_ GE265.out) | exact HB.out)⟩
  · rw [if_neg c4] at H
    obtain ⟨c4b0, c4b1⟩ := neB_ c4
    simp only [Option.some.injEq, Prod.mk.injEq] at H
    obtain ⟨rfl, rfl⟩ := H
    go_enter Try.func12, Try.ntmps12
    go_wp2_with (first | ((with_reducible refine gate_dst (N := 2) rfl ?_); refine box_event ?hg (N := 2) ?hd (cs := #[.int .i64 a0_0, .string a0_1, .slice A0_2 l0_2.length c0_2, .int .i64 a0_3, .slice A0_4 l0_4.length c0_4, .slice A0_5 l0_5.length c0_5]) (t := 29) ?hr ?_; (case hd => rfl); (case hg => rfl); (case hr => first | (go_simp; done) | (go_simp; rfl)); intro gb259 hg w49 hbox hb; have n0_ := bs_ (be_ HB) hb; have n1_ := Aside0.mk (hbox); have n2_ := gs_ hg (be_ HB); have n3_ := gs_ hg (be_ HB); clear HB; have HB := n0_; have BK259 := n1_; have GW259 := n2_; have GE259 := n3_; clear n0_ n1_ n2_ n3_; clear hb hbox hg; have hcz50_0 : w49.cell? ⟨gb259, 0, none⟩ = some (.int .i64 a0_0) := (blk_cell BK259.out 0).trans rfl; have hcz50_1 : w49.cell? ⟨gb259, 1, none⟩ = some (.string a0_1) := (blk_cell BK259.out 1).trans rfl; have hcz50_2 : w49.cell? ⟨gb259, 2, none⟩ = some (.slice A0_2 l0_2.length c0_2) := (blk_cell BK259.out 2).trans rfl; have hcz50_3 : w49.cell? ⟨gb259, 3, none⟩ = some (.int .i64 a0_3) := (blk_cell BK259.out 3).trans rfl; have hcz50_4 : w49.cell? ⟨gb259, 4, none⟩ = some (.slice A0_4 l0_4.length c0_4) := (blk_cell BK259.out 4).trans rfl; have hcz50_5 : w49.cell? ⟨gb259, 5, none⟩ = some (.slice A0_5 l0_5.length c0_5) := (blk_cell BK259.out 5).trans rfl; have hfz50_0 := blk_frozen BK259.out 0; have hfz50_1 := blk_frozen BK259.out 1; have hfz50_2 := blk_frozen BK259.out 2; have hfz50_3 := blk_frozen BK259.out 3; have hfz50_4 := blk_frozen BK259.out 4; have hfz50_5 := blk_frozen BK259.out 5) | ((with_reducible refine gate_callee (f := 15) rfl ?_); refine goesL_ (some 10) rfl rfl Try.func15 (by kernel_rfl) rfl #[.agg #[.int .i64 a0_0, .string a0_1, .slice A0_2 l0_2.length c0_2, .int .i64 a0_3, .slice A0_4 l0_4.length c0_4, .slice A0_5 l0_5.length c0_5]] rfl ga_ ?_; (with_reducible refine (guard_Check.calls k a0_0 a0_1 _ _ l0_2 a0_3 _ _ l0_4 _ _ l0_5 t260 _ ?side1 ?side2 ?side3 ?side4 ?side5 ?side6 A3.out).mono ?_); (case side1 => repeat (first | exact (Kd.C_below HR0_2.out HB.out) | (with_reducible refine Kd.C_alloc ?_ _) | (with_reducible refine Kd.C_drewN ?_ _) | (with_reducible refine Kd.C_drew ?_))); (case side2 => exact HC0_2.out); (case side3 => repeat (first | exact (Kd.C_below HR0_4.out HB.out) | (with_reducible refine Kd.C_alloc ?_ _) | (with_reducible refine Kd.C_drewN ?_ _) | (with_reducible refine Kd.C_drew ?_))); (case side4 => exact HC0_4.out); (case side5 => repeat (first | exact (Kd.C_below HR0_5.out HB.out) | (with_reducible refine Kd.C_alloc ?_ _) | (with_reducible refine Kd.C_drewN ?_ _) | (with_reducible refine Kd.C_drew ?_))); (case side6 => exact HC0_5.out); rintro e w51 ⟨rfl, hb⟩; refine ⟨_, rfl, ?_⟩; have n0_ := bb_ (bu_ BK259) hb; have n1_ := bs_ (be_ HB) hb; clear BK259; clear HB; have BK259 := n0_; have HB := n1_; clear n0_ n1_; (try clear hcz50_0 hcz50_1 hcz50_2 hcz50_3 hcz50_4 hcz50_5 hfz50_0 hfz50_1 hfz50_2 hfz50_3 hfz50_4 hfz50_5); (try clear hb); (try clear hb2); (try clear hk); (try clear hi)))
    go_ret2
    exact ⟨by first | rfl | (simp [errW_none, errW_some] <;> rfl) | (simp [*, errW_none, errW_some] <;> rfl), by repeat (first | (with_reducible first | exact HB.out | apply below_alloc | apply pw_below_drewN | apply below_drew1 | refine below_set ?_ GE259.out) | exact HB.out)⟩
end Go.Proofs.Ytaopajmpifenoaa.P
end
section
namespace Go.Proofs.Ytaopajmpifenoaa.P
open Go.RowKit Go.Proofs.YtaopajmpifenoaaW.PrintWords Go.Proofs.YtaopajmpifenoaaW.PrintLast Go.Proofs.YtaopajmpifenoaaW.PrintMore
attribute [local go_sem] max2_int min2_int max_two min_two max_three min_three max_four min_four
set_option linter.unusedVariables false
set_option linter.unusedSimpArgs false
def constablelaw08_wakes.f (k : Nat)  : Option (Bool) := (some (([(⟨1, (⟨#[88]⟩ : ByteArray), (⟨0, 0, (⟨#[]⟩ : ByteArray)⟩ : S23)⟩ : S67)] : List (S67)) : List (S67))).bind fun y302 => ((some (([(⟨2, (⟨#[]⟩ : ByteArray), (⟨1, 3, (⟨#[]⟩ : ByteArray)⟩ : S23)⟩ : S67)] : List (S67)) : List (S67))).bind fun y305 => ((guard_Eval.f k 3 (⟨#[]⟩ : ByteArray) ([] : List (S72)) 3 y302 y305 (([(⟨(⟨#[88]⟩ : ByteArray), (⟨1, 2, (⟨#[]⟩ : ByteArray)⟩ : S23)⟩ : S54)] : List (S54)))).bind fun bt312 => ((guard_Holds.f k 2 1 2 (⟨#[]⟩ : ByteArray) 1 3 (⟨#[]⟩ : ByteArray)).bind fun bt314 => ((guard_Holds.f k 4 1 2 (⟨#[]⟩ : ByteArray) 2 0 (⟨#[97]⟩ : ByteArray)).bind fun bt316 => (if bt312.2 = 0 then (if bt312.1 = true then (if bt314.2 = 0 then (if bt314.1 = true then (if bt316.2 = 3 then ((guard_Check.f k 3 (⟨#[]⟩ : ByteArray) ([] : List (S72)) 3 y302 y305).bind fun t318 => (if t318 = 0 then ((guard_Check.f k 0 (⟨#[]⟩ : ByteArray) ([] : List (S72)) 0 ([] : List (S67)) ([] : List (S67))).bind fun t319 => (some (t319 == 1))) else (some false))) else (some false)) else (some false)) else (some false)) else (some false)) else (some false))))))
theorem constablelaw08_wakes.mono : ∀ k, LeO (constablelaw08_wakes.f k ) (constablelaw08_wakes.f (k + 1) ) := by
  intro  k
  unfold constablelaw08_wakes.f
  repeat' first
      | (with_reducible exact guard_Check.mono _ _ _ _ _ _ _)
      | (with_reducible exact guard_Eval.mono _ _ _ _ _ _ _ _)
      | (with_reducible exact guard_Holds.mono _ _ _ _ _ _ _ _)
      | (with_reducible exact LeO.refl _)
      | (with_reducible exact LeO.none _)
      | (with_reducible refine LeO.ite ?_ ?_)
      | (with_reducible refine LeO.bind ?_ (fun _ => ?_))
      | exact guard_Check.mono _ _ _ _ _ _ _
      | exact guard_Eval.mono _ _ _ _ _ _ _ _
      | exact guard_Holds.mono _ _ _ _ _ _ _ _
      | exact LeO.none _
      | refine LeO.ite ?_ ?_
      | refine LeO.bind ?_ (fun _ => ?_)
set_option maxHeartbeats 8000000 in
set_option maxRecDepth 100000 in
theorem constablelaw08_wakes.calls (k : Nat)  (r : Bool) (w : World) (h : constablelaw08_wakes.f k  = some r) (hr_ : r = true) :
    Calls Try.prog 17 #[] w fun e w' => e = .returned (.bool r) ∧ Below w.heap.size w w' := by
  have hu23 := Try.underlying23
  have hu67 := Try.underlying67
  have hu29 := Try.underlying29
  have hu54 := Try.underlying54
  have HB := Aside0.mk (Below.refl w.heap.size w)
  have H : ((some (([(⟨1, (⟨#[88]⟩ : ByteArray), (⟨0, 0, (⟨#[]⟩ : ByteArray)⟩ : S23)⟩ : S67)] : List (S67)) : List (S67))).bind fun y302 => ((some (([(⟨2, (⟨#[]⟩ : ByteArray), (⟨1, 3, (⟨#[]⟩ : ByteArray)⟩ : S23)⟩ : S67)] : List (S67)) : List (S67))).bind fun y305 => ((guard_Eval.f k 3 (⟨#[]⟩ : ByteArray) ([] : List (S72)) 3 y302 y305 (([(⟨(⟨#[88]⟩ : ByteArray), (⟨1, 2, (⟨#[]⟩ : ByteArray)⟩ : S23)⟩ : S54)] : List (S54)))).bind fun bt312 => ((guard_Holds.f k 2 1 2 (⟨#[]⟩ : ByteArray) 1 3 (⟨#[]⟩ : ByteArray)).bind fun bt314 => ((guard_Holds.f k 4 1 2 (⟨#[]⟩ : ByteArray) 2 0 (⟨#[97]⟩ : ByteArray)).bind fun bt316 => (if bt312.2 = 0 then (if bt312.1 = true then (if bt314.2 = 0 then (if bt314.1 = true then (if bt316.2 = 3 then ((guard_Check.f k 3 (⟨#[]⟩ : ByteArray) ([] : List (S72)) 3 y302 y305).bind fun t318 => (if t318 = 0 then ((guard_Check.f k 0 (⟨#[]⟩ : ByteArray) ([] : List (S72)) 0 ([] : List (S67)) ([] : List (S67))).bind fun t319 => (some (t319 == 1))) else (some false))) else (some false)) else (some false)) else (some false)) else (some false)) else (some false))))))) = some r := h
  clear h
  have HR_ := Aside0.mk hr_
  clear hr_
  obtain ⟨y302, hy302⟩ : ∃ y_ : List (S67), y_ = (([(⟨1, (⟨#[88]⟩ : ByteArray), (⟨0, 0, (⟨#[]⟩ : ByteArray)⟩ : S23)⟩ : S67)] : List (S67))) := ⟨_, rfl⟩
  replace H : ((some (([(⟨2, (⟨#[]⟩ : ByteArray), (⟨1, 3, (⟨#[]⟩ : ByteArray)⟩ : S23)⟩ : S67)] : List (S67)) : List (S67))).bind fun y305 => ((guard_Eval.f k 3 (⟨#[]⟩ : ByteArray) ([] : List (S72)) 3 y302 y305 (([(⟨(⟨#[88]⟩ : ByteArray), (⟨1, 2, (⟨#[]⟩ : ByteArray)⟩ : S23)⟩ : S54)] : List (S54)))).bind fun bt312 => ((guard_Holds.f k 2 1 2 (⟨#[]⟩ : ByteArray) 1 3 (⟨#[]⟩ : ByteArray)).bind fun bt314 => ((guard_Holds.f k 4 1 2 (⟨#[]⟩ : ByteArray) 2 0 (⟨#[97]⟩ : ByteArray)).bind fun bt316 => (if bt312.2 = 0 then (if bt312.1 = true then (if bt314.2 = 0 then (if bt314.1 = true then (if bt316.2 = 3 then ((guard_Check.f k 3 (⟨#[]⟩ : ByteArray) ([] : List (S72)) 3 y302 y305).bind fun t318 => (if t318 = 0 then ((guard_Check.f k 0 (⟨#[]⟩ : ByteArray) ([] : List (S72)) 0 ([] : List (S67)) ([] : List (S67))).bind fun t319 => (some (t319 == 1))) else (some false))) else (some false)) else (some false)) else (some false)) else (some false)) else (some false)))))) = some r := by first | (rw [hy302]; with_reducible exact H) | (have H2_ := (Option.bind_some _ _).symm.trans H; rw [hy302]; with_reducible exact H2_) | (have H2_ := (Option.bind_some _ _).symm.trans H; with_reducible exact H2_) | with_reducible exact H | (rw [hy302]; exact H) | exact H
  have Ny302 := Aside0.mk hy302
  clear hy302
  obtain ⟨y305, hy305⟩ : ∃ y_ : List (S67), y_ = (([(⟨2, (⟨#[]⟩ : ByteArray), (⟨1, 3, (⟨#[]⟩ : ByteArray)⟩ : S23)⟩ : S67)] : List (S67))) := ⟨_, rfl⟩
  replace H : ((guard_Eval.f k 3 (⟨#[]⟩ : ByteArray) ([] : List (S72)) 3 y302 y305 (([(⟨(⟨#[88]⟩ : ByteArray), (⟨1, 2, (⟨#[]⟩ : ByteArray)⟩ : S23)⟩ : S54)] : List (S54)))).bind fun bt312 => ((guard_Holds.f k 2 1 2 (⟨#[]⟩ : ByteArray) 1 3 (⟨#[]⟩ : ByteArray)).bind fun bt314 => ((guard_Holds.f k 4 1 2 (⟨#[]⟩ : ByteArray) 2 0 (⟨#[97]⟩ : ByteArray)).bind fun bt316 => (if bt312.2 = 0 then (if bt312.1 = true then (if bt314.2 = 0 then (if bt314.1 = true then (if bt316.2 = 3 then ((guard_Check.f k 3 (⟨#[]⟩ : ByteArray) ([] : List (S72)) 3 y302 y305).bind fun t318 => (if t318 = 0 then ((guard_Check.f k 0 (⟨#[]⟩ : ByteArray) ([] : List (S72)) 0 ([] : List (S67)) ([] : List (S67))).bind fun t319 => (some (t319 == 1))) else (some false))) else (some false)) else (some false)) else (some false)) else (some false)) else (some false))))) = some r := by first | (rw [hy305]; with_reducible exact H) | (have H2_ := (Option.bind_some _ _).symm.trans H; rw [hy305]; with_reducible exact H2_) | (have H2_ := (Option.bind_some _ _).symm.trans H; with_reducible exact H2_) | with_reducible exact H | (rw [hy305]; exact H) | exact H
  have Ny305 := Aside0.mk hy305
  clear hy305
  obtain ⟨y309, hy309⟩ : ∃ y_ : List (S54), y_ = (([(⟨(⟨#[88]⟩ : ByteArray), (⟨1, 2, (⟨#[]⟩ : ByteArray)⟩ : S23)⟩ : S54)] : List (S54))) := ⟨_, rfl⟩
  replace H : ((guard_Eval.f k 3 (⟨#[]⟩ : ByteArray) ([] : List (S72)) 3 y302 y305 y309).bind fun bt312 => ((guard_Holds.f k 2 1 2 (⟨#[]⟩ : ByteArray) 1 3 (⟨#[]⟩ : ByteArray)).bind fun bt314 => ((guard_Holds.f k 4 1 2 (⟨#[]⟩ : ByteArray) 2 0 (⟨#[97]⟩ : ByteArray)).bind fun bt316 => (if bt312.2 = 0 then (if bt312.1 = true then (if bt314.2 = 0 then (if bt314.1 = true then (if bt316.2 = 3 then ((guard_Check.f k 3 (⟨#[]⟩ : ByteArray) ([] : List (S72)) 3 y302 y305).bind fun t318 => (if t318 = 0 then ((guard_Check.f k 0 (⟨#[]⟩ : ByteArray) ([] : List (S72)) 0 ([] : List (S67)) ([] : List (S67))).bind fun t319 => (some (t319 == 1))) else (some false))) else (some false)) else (some false)) else (some false)) else (some false)) else (some false))))) = some r := by first | (rw [hy309]; with_reducible exact H) | (have H2_ := (Option.bind_some _ _).symm.trans H; rw [hy309]; with_reducible exact H2_) | (have H2_ := (Option.bind_some _ _).symm.trans H; with_reducible exact H2_) | with_reducible exact H | (rw [hy309]; exact H) | exact H
  have Ny309 := Aside0.mk hy309
  clear hy309
  replace H := Option.bind_eq_some_iff.mp H
  obtain ⟨⟨t312, t313⟩, A10, H⟩ := H
  replace H : ((guard_Holds.f k 2 1 2 (⟨#[]⟩ : ByteArray) 1 3 (⟨#[]⟩ : ByteArray)).bind fun bt314 => ((guard_Holds.f k 4 1 2 (⟨#[]⟩ : ByteArray) 2 0 (⟨#[97]⟩ : ByteArray)).bind fun bt316 => (if t313 = 0 then (if t312 = true then (if bt314.2 = 0 then (if bt314.1 = true then (if bt316.2 = 3 then ((guard_Check.f k 3 (⟨#[]⟩ : ByteArray) ([] : List (S72)) 3 y302 y305).bind fun t318 => (if t318 = 0 then ((guard_Check.f k 0 (⟨#[]⟩ : ByteArray) ([] : List (S72)) 0 ([] : List (S67)) ([] : List (S67))).bind fun t319 => (some (t319 == 1))) else (some false))) else (some false)) else (some false)) else (some false)) else (some false)) else (some false)))) = some r := H
  have A1 := Aside0.mk A10
  clear A10
  replace H := Option.bind_eq_some_iff.mp H
  obtain ⟨⟨t314, t315⟩, A20, H⟩ := H
  replace H : ((guard_Holds.f k 4 1 2 (⟨#[]⟩ : ByteArray) 2 0 (⟨#[97]⟩ : ByteArray)).bind fun bt316 => (if t313 = 0 then (if t312 = true then (if t315 = 0 then (if t314 = true then (if bt316.2 = 3 then ((guard_Check.f k 3 (⟨#[]⟩ : ByteArray) ([] : List (S72)) 3 y302 y305).bind fun t318 => (if t318 = 0 then ((guard_Check.f k 0 (⟨#[]⟩ : ByteArray) ([] : List (S72)) 0 ([] : List (S67)) ([] : List (S67))).bind fun t319 => (some (t319 == 1))) else (some false))) else (some false)) else (some false)) else (some false)) else (some false)) else (some false))) = some r := H
  have A2 := Aside0.mk A20
  clear A20
  replace H := Option.bind_eq_some_iff.mp H
  obtain ⟨⟨t316, t317⟩, A30, H⟩ := H
  replace H : (if t313 = 0 then (if t312 = true then (if t315 = 0 then (if t314 = true then (if t317 = 3 then ((guard_Check.f k 3 (⟨#[]⟩ : ByteArray) ([] : List (S72)) 3 y302 y305).bind fun t318 => (if t318 = 0 then ((guard_Check.f k 0 (⟨#[]⟩ : ByteArray) ([] : List (S72)) 0 ([] : List (S67)) ([] : List (S67))).bind fun t319 => (some (t319 == 1))) else (some false))) else (some false)) else (some false)) else (some false)) else (some false)) else (some false)) = some r := H
  have A3 := Aside0.mk A30
  clear A30
  by_cases c4 : t313 = 0
  · rw [if_pos c4] at H
    obtain ⟨c4b0, c4b1⟩ := eqB_ c4
    clear c4
    by_cases c5 : t312 = true
    · subst c5
      have H1 : (if t315 = 0 then (if t314 = true then (if t317 = 3 then ((guard_Check.f k 3 (⟨#[]⟩ : ByteArray) ([] : List (S72)) 3 y302 y305).bind fun t318 => (if t318 = 0 then ((guard_Check.f k 0 (⟨#[]⟩ : ByteArray) ([] : List (S72)) 0 ([] : List (S67)) ([] : List (S67))).bind fun t319 => (some (t319 == 1))) else (some false))) else (some false)) else (some false)) else (some false)) = some r := by rw [if_pos rfl] at H; exact H
      clear H
      have H := H1
      clear H1
      by_cases c6 : t315 = 0
      · rw [if_pos c6] at H
        obtain ⟨c6b0, c6b1⟩ := eqB_ c6
        clear c6
        by_cases c7 : t314 = true
        · subst c7
          have H1 : (if t317 = 3 then ((guard_Check.f k 3 (⟨#[]⟩ : ByteArray) ([] : List (S72)) 3 y302 y305).bind fun t318 => (if t318 = 0 then ((guard_Check.f k 0 (⟨#[]⟩ : ByteArray) ([] : List (S72)) 0 ([] : List (S67)) ([] : List (S67))).bind fun t319 => (some (t319 == 1))) else (some false))) else (some false)) = some r := by rw [if_pos rfl] at H; exact H
          clear H
          have H := H1
          clear H1
          by_cases c8 : t317 = 3
          · rw [if_pos c8] at H
            obtain ⟨c8b0, c8b1⟩ := eqB_ c8
            clear c8
            replace H := Option.bind_eq_some_iff.mp H
            obtain ⟨t318, A90, H⟩ := H
            replace H : (if t318 = 0 then ((guard_Check.f k 0 (⟨#[]⟩ : ByteArray) ([] : List (S72)) 0 ([] : List (S67)) ([] : List (S67))).bind fun t319 => (some (t319 == 1))) else (some false)) = some r := H
            have A9 := Aside0.mk A90
            clear A90
            by_cases c10 : t318 = 0
            · rw [if_pos c10] at H
              obtain ⟨c10b0, c10b1⟩ := eqB_ c10
              clear c10
              replace H := Option.bind_eq_some_iff.mp H
              obtain ⟨t319, A110, H⟩ := H
              replace H : (some (t319 == 1)) = some r := H
              have A11 := Aside0.mk A110
              clear A110
              obtain rfl := Option.some.inj H
              go_enter Try.func17, Try.ntmps17
              go_wp2_with (first | ((with_reducible refine gate_dst (N := 1) rfl ?_); refine box_event ?hg (N := 1) ?hd (cs := #[.int .i64 0, .int .i64 0, .string (⟨#[]⟩ : ByteArray)]) (t := 23) ?hr ?_; (case hd => rfl); (case hg => rfl); (case hr => first | (go_simp; done) | (go_simp; rfl)); intro gb300 hg w12 hbox hb; have n0_ := bs_ (be_ HB) hb; have n1_ := Aside0.mk (hbox); have n2_ := gs_ hg (be_ HB); have n3_ := gs_ hg (be_ HB); clear HB; have HB := n0_; have BK300 := n1_; have GW300 := n2_; have GE300 := n3_; clear n0_ n1_ n2_ n3_; clear hb hbox hg) | ((with_reducible refine gate_dst (N := 2) rfl ?_); refine box_event ?hg (N := 2) ?hd (cs := #[.int .i64 0, .int .i64 0, .string (⟨#[]⟩ : ByteArray)]) (t := 23) ?hr ?_; (case hd => rfl); (case hg => rfl); (case hr => first | (go_simp; done) | (go_simp; rfl)); intro gb301 hg w13 hbox hb; have n0_ := bb_ (bu_ BK300) hb; have n1_ := bs_ (be_ HB) hb; have n2_ := Aside0.mk (hbox); have n3_ := gs_ hg (be_ HB); have n4_ := gs_ hg (be_ HB); have n5_ := nl_ hg (bu_ BK300); have n6_ := ng_ hg (bu_ BK300); clear BK300; clear HB; have BK300 := n0_; have HB := n1_; have BK301 := n2_; have GW301 := n3_; have GE301 := n4_; have NB300_301 := n5_; have NB301_300 := n6_; clear n0_ n1_ n2_ n3_ n4_ n5_ n6_; clear hb hbox hg; have hnb14 := NB300_301.out; have hnc14 := NB301_300.out; have hcz15_0 : w13.cell? ⟨gb300, 0, none⟩ = some (.int .i64 0) := (blk_cell BK300.out 0).trans rfl; have hcz15_1 : w13.cell? ⟨gb300, 1, none⟩ = some (.int .i64 0) := (blk_cell BK300.out 1).trans rfl; have hcz15_2 : w13.cell? ⟨gb300, 2, none⟩ = some (.string (⟨#[]⟩ : ByteArray)) := (blk_cell BK300.out 2).trans rfl; have hfz15_0 := blk_frozen BK300.out 0; have hfz15_1 := blk_frozen BK300.out 1; have hfz15_2 := blk_frozen BK300.out 2; have hcz16_0 : w13.cell? ⟨gb301, 0, none⟩ = some (.int .i64 0) := (blk_cell BK301.out 0).trans rfl; have hcz16_1 : w13.cell? ⟨gb301, 1, none⟩ = some (.int .i64 0) := (blk_cell BK301.out 1).trans rfl; have hcz16_2 : w13.cell? ⟨gb301, 2, none⟩ = some (.string (⟨#[]⟩ : ByteArray)) := (blk_cell BK301.out 2).trans rfl; have hfz16_0 := blk_frozen BK301.out 0; have hfz16_1 := blk_frozen BK301.out 1; have hfz16_2 := blk_frozen BK301.out 2) | ((with_reducible refine gate_dst (N := 13) rfl ?_); refine Kd.R_lit k67 _ 67 ?hg (N := 13) ?hd (xs := ([(⟨1, (⟨#[88]⟩ : ByteArray), (⟨0, 0, (⟨#[]⟩ : ByteArray)⟩ : S23)⟩ : S67)] : List (S67))) (inner := [.int .i64 1, .string (⟨#[88]⟩ : ByteArray), .int .i64 0, .int .i64 0, .string (⟨#[]⟩ : ByteArray)]) (ok := fun _ => True) (okp := fun _ => True) ?hr ?hp (fun _ hk => hk) trivial (Below.refl _ _) (Nat.le_refl _) (by simp) ?_; (case hd => rfl); (case hg => rfl); (case hr => first | (go_simp; done) | (go_simp; rfl)); (case hp => exact (Reps.c5 (show Kd.M k67 _ _ _ (⟨1, (⟨#[88]⟩ : ByteArray), (⟨0, 0, (⟨#[]⟩ : ByteArray)⟩ : S23)⟩ : S67) [.int .i64 1, .string (⟨#[88]⟩ : ByteArray), .int .i64 0, .int .i64 0, .string (⟨#[]⟩ : ByteArray)] from (k67_mkM _ _ _ (⟨1, (⟨#[88]⟩ : ByteArray), (⟨0, 0, (⟨#[]⟩ : ByteArray)⟩ : S23)⟩ : S67) )) (Reps.none _ _))); intro v303 w17 ho18 hb hg_ hnew_; clear hg_ hnew_; (first | rw [← Ny302.out] at ho18 | (simp only [Int.reduceToNat] at ho18; rw [← Ny302.out] at ho18)); have n0_ := Aside0.mk (Kd.R_lower ho18 (below_size (be_ HB))); have n1_ := Aside0.mk (blk_below (o := .cells #[.int .i64 1, .int .i64 2, .string (⟨#[]⟩ : ByteArray)] 23 (0, 0)) (bp_ BK300) hb); have n2_ := Aside0.mk (blk_below (o := .cells #[.int .i64 1, .int .i64 3, .string (⟨#[]⟩ : ByteArray)] 23 (0, 0)) (bp_ BK301) hb); have n3_ := bs_ (be_ HB) hb; clear BK300; clear BK301; clear HB; have HO304 := n0_; have BK300 := n1_; have BK301 := n2_; have HB := n3_; clear n0_ n1_ n2_ n3_; (try clear hcz15_0 hcz15_1 hcz15_2 hfz15_0 hfz15_1 hfz15_2 hcz16_0 hcz16_1 hcz16_2 hfz16_0 hfz16_1 hfz16_2); clear hb ho18; have hcz19_0 : w17.cell? ⟨gb301, 0, none⟩ = some (.int .i64 1) := (blk_cell BK301.out 0).trans rfl; have hcz19_1 : w17.cell? ⟨gb301, 1, none⟩ = some (.int .i64 3) := (blk_cell BK301.out 1).trans rfl; have hcz19_2 : w17.cell? ⟨gb301, 2, none⟩ = some (.string (⟨#[]⟩ : ByteArray)) := (blk_cell BK301.out 2).trans rfl; have hfz19_0 := blk_frozen BK301.out 0; have hfz19_1 := blk_frozen BK301.out 1; have hfz19_2 := blk_frozen BK301.out 2) | ((with_reducible refine gate_dst (N := 16) rfl ?_); refine Kd.R_lit k67 _ 67 ?hg (N := 16) ?hd (xs := ([(⟨2, (⟨#[]⟩ : ByteArray), (⟨1, 3, (⟨#[]⟩ : ByteArray)⟩ : S23)⟩ : S67)] : List (S67))) (inner := [.int .i64 2, .string (⟨#[]⟩ : ByteArray), .int .i64 1, .int .i64 3, .string (⟨#[]⟩ : ByteArray)]) (ok := fun _ => True) (okp := fun _ => True) ?hr ?hp (fun _ hk => hk) trivial (Below.refl _ _) (Nat.le_refl _) (by simp) ?_; (case hd => rfl); (case hg => rfl); (case hr => first | (go_simp; done) | (go_simp; rfl)); (case hp => exact (Reps.c5 (show Kd.M k67 _ _ _ (⟨2, (⟨#[]⟩ : ByteArray), (⟨1, 3, (⟨#[]⟩ : ByteArray)⟩ : S23)⟩ : S67) [.int .i64 2, .string (⟨#[]⟩ : ByteArray), .int .i64 1, .int .i64 3, .string (⟨#[]⟩ : ByteArray)] from (k67_mkM _ _ _ (⟨2, (⟨#[]⟩ : ByteArray), (⟨1, 3, (⟨#[]⟩ : ByteArray)⟩ : S23)⟩ : S67) )) (Reps.none _ _))); intro v306 w20 ho21 hb hg_ hnew_; clear hg_ hnew_; (first | rw [← Ny305.out] at ho21 | (simp only [Int.reduceToNat] at ho21; rw [← Ny305.out] at ho21)); have n0_ := Aside0.mk (Kd.R_elder' (ku_ HO304.out) (Kd.R_base ho21) hb); have n1_ := Aside0.mk (Kd.R_lower (Kd.R_new' ho21 (Kd.R_lt (ku_ HO304.out))) (below_size (be_ HB))); have n2_ := bb_ (bu_ BK300) hb; have n3_ := bb_ (bu_ BK301) hb; have n4_ := bs_ (be_ HB) hb; clear HO304; clear BK300; clear BK301; clear HB; have HO304 := n0_; have HO307 := n1_; have BK300 := n2_; have BK301 := n3_; have HB := n4_; clear n0_ n1_ n2_ n3_ n4_; (try clear hcz19_0 hcz19_1 hcz19_2 hfz19_0 hfz19_1 hfz19_2); clear hb ho21; obtain ⟨Ao22, co22, eo22⟩ := Kd.R_slice HO307.out; subst eo22; obtain ⟨Ao23, co23, eo23⟩ := Kd.R_slice HO304.out; subst eo23) | ((with_reducible refine gate_dst (N := 3) rfl ?_); refine box_event ?hg (N := 3) ?hd (cs := #[.int .i64 0, .string (⟨#[]⟩ : ByteArray), .slice none 0 0, .int .i64 0, .slice none 0 0, .slice none 0 0]) (t := 29) ?hr ?_; (case hd => rfl); (case hg => rfl); (case hr => first | (go_simp; done) | (go_simp; rfl)); intro gb308 hg w24 hbox hb; have n0_ := kb_ (ku_ HO304.out) hb; have n1_ := kb_ (ku_ HO307.out) hb; have n2_ := bb_ (bu_ BK300) hb; have n3_ := bb_ (bu_ BK301) hb; have n4_ := bs_ (be_ HB) hb; have n5_ := Aside0.mk (hbox); have n6_ := gs_ hg (be_ HB); have n7_ := gs_ hg (be_ HB); have n8_ := nl_ hg (bu_ BK300); have n9_ := ng_ hg (bu_ BK300); have n10_ := nl_ hg (bu_ BK301); have n11_ := ng_ hg (bu_ BK301); clear HO304; clear HO307; clear BK300; clear BK301; clear HB; have HO304 := n0_; have HO307 := n1_; have BK300 := n2_; have BK301 := n3_; have HB := n4_; have BK308 := n5_; have GW308 := n6_; have GE308 := n7_; have NB300_308 := n8_; have NB308_300 := n9_; have NB301_308 := n10_; have NB308_301 := n11_; clear n0_ n1_ n2_ n3_ n4_ n5_ n6_ n7_ n8_ n9_ n10_ n11_; clear hb hbox hg; have hnb25 := NB308_300.out; have hnc25 := NB300_308.out; have hnb26 := NB308_301.out; have hnc26 := NB301_308.out; have hcz27_0 : w24.cell? ⟨gb308, 0, none⟩ = some (.int .i64 0) := (blk_cell BK308.out 0).trans rfl; have hcz27_1 : w24.cell? ⟨gb308, 1, none⟩ = some (.string (⟨#[]⟩ : ByteArray)) := (blk_cell BK308.out 1).trans rfl; have hcz27_2 : w24.cell? ⟨gb308, 2, none⟩ = some (.slice none 0 0) := (blk_cell BK308.out 2).trans rfl; have hcz27_3 : w24.cell? ⟨gb308, 3, none⟩ = some (.int .i64 0) := (blk_cell BK308.out 3).trans rfl; have hcz27_4 : w24.cell? ⟨gb308, 4, none⟩ = some (.slice none 0 0) := (blk_cell BK308.out 4).trans rfl; have hcz27_5 : w24.cell? ⟨gb308, 5, none⟩ = some (.slice none 0 0) := (blk_cell BK308.out 5).trans rfl; have hfz27_0 := blk_frozen BK308.out 0; have hfz27_1 := blk_frozen BK308.out 1; have hfz27_2 := blk_frozen BK308.out 2; have hfz27_3 := blk_frozen BK308.out 3; have hfz27_4 := blk_frozen BK308.out 4; have hfz27_5 := blk_frozen BK308.out 5; have hcz28_0 : w24.cell? ⟨gb300, 0, none⟩ = some (.int .i64 1) := (blk_cell BK300.out 0).trans rfl; have hcz28_1 : w24.cell? ⟨gb300, 1, none⟩ = some (.int .i64 2) := (blk_cell BK300.out 1).trans rfl; have hcz28_2 : w24.cell? ⟨gb300, 2, none⟩ = some (.string (⟨#[]⟩ : ByteArray)) := (blk_cell BK300.out 2).trans rfl; have hfz28_0 := blk_frozen BK300.out 0; have hfz28_1 := blk_frozen BK300.out 1; have hfz28_2 := blk_frozen BK300.out 2) | ((with_reducible refine gate_dst (N := 22) rfl ?_); refine Kd.R_lit k54 _ 54 ?hg (N := 22) ?hd (xs := ([(⟨(⟨#[88]⟩ : ByteArray), (⟨1, 2, (⟨#[]⟩ : ByteArray)⟩ : S23)⟩ : S54)] : List (S54))) (inner := [.string (⟨#[88]⟩ : ByteArray), .int .i64 1, .int .i64 2, .string (⟨#[]⟩ : ByteArray)]) (ok := fun _ => True) (okp := fun _ => True) ?hr ?hp (fun _ hk => hk) trivial (Below.refl _ _) (Nat.le_refl _) (by simp) ?_; (case hd => rfl); (case hg => rfl); (case hr => first | (go_simp; done) | (go_simp; rfl)); (case hp => exact (Reps.c4 (show Kd.M k54 _ _ _ (⟨(⟨#[88]⟩ : ByteArray), (⟨1, 2, (⟨#[]⟩ : ByteArray)⟩ : S23)⟩ : S54) [.string (⟨#[88]⟩ : ByteArray), .int .i64 1, .int .i64 2, .string (⟨#[]⟩ : ByteArray)] from (k54_mkM _ _ _ (⟨(⟨#[88]⟩ : ByteArray), (⟨1, 2, (⟨#[]⟩ : ByteArray)⟩ : S23)⟩ : S54) )) (Reps.none _ _))); intro v310 w29 ho30 hb hg_ hnew_; clear hg_ hnew_; (first | rw [← Ny309.out] at ho30 | (simp only [Int.reduceToNat] at ho30; rw [← Ny309.out] at ho30)); have n0_ := Aside0.mk (Kd.R_below (ku_ (Kd.R_mono (Kd.R_far (p := ⟨gb308, 5, none⟩) (Kd.R_far (p := ⟨gb308, 4, none⟩) (Kd.R_far (p := ⟨gb308, 3, none⟩) (Kd.R_far (p := ⟨gb308, 2, none⟩) (Kd.R_far (p := ⟨gb308, 1, none⟩) (Kd.R_far (p := ⟨gb308, 0, none⟩) (Kd.R_types HO304.out BK308.out (by decide)) (fun _ hk => hk.2) (.int .i64 3)) (fun _ hk => hk.2) (.string (⟨#[]⟩ : ByteArray))) (fun _ hk => hk.2) (.slice none 0 0)) (fun _ hk => hk.2) (.int .i64 3)) (fun _ hk => hk.2) (.slice Ao23 y302.length co23)) (fun _ hk => hk.2) (.slice Ao22 y305.length co22)) (fun _ h_ => h_.1))) hb); have n1_ := Aside0.mk (Kd.R_below (ku_ (Kd.R_mono (Kd.R_far (p := ⟨gb308, 5, none⟩) (Kd.R_far (p := ⟨gb308, 4, none⟩) (Kd.R_far (p := ⟨gb308, 3, none⟩) (Kd.R_far (p := ⟨gb308, 2, none⟩) (Kd.R_far (p := ⟨gb308, 1, none⟩) (Kd.R_far (p := ⟨gb308, 0, none⟩) (Kd.R_types HO307.out BK308.out (by decide)) (fun _ hk => hk.2) (.int .i64 3)) (fun _ hk => hk.2) (.string (⟨#[]⟩ : ByteArray))) (fun _ hk => hk.2) (.slice none 0 0)) (fun _ hk => hk.2) (.int .i64 3)) (fun _ hk => hk.2) (.slice Ao23 y302.length co23)) (fun _ hk => hk.2) (.slice Ao22 y305.length co22)) (fun _ h_ => h_.1))) hb); have n2_ := Aside0.mk (Kd.R_lower ho30 (below_size (be_ HB))); have n3_ := bb_ (bu_ BK300) hb; have n4_ := bb_ (bu_ BK301) hb; have n5_ := Aside0.mk (blk_below (o := .cells #[.int .i64 3, .string (⟨#[]⟩ : ByteArray), .slice none 0 0, .int .i64 3, .slice Ao23 y302.length co23, .slice Ao22 y305.length co22] 29 (0, 0)) (bp_ BK308) hb); have n6_ := bs_ (be_ HB) hb; clear HO304; clear HO307; clear BK300; clear BK301; clear BK308; clear HB; have HO304 := n0_; have HO307 := n1_; have HO311 := n2_; have BK300 := n3_; have BK301 := n4_; have BK308 := n5_; have HB := n6_; clear n0_ n1_ n2_ n3_ n4_ n5_ n6_; (try clear hcz27_0 hcz27_1 hcz27_2 hcz27_3 hcz27_4 hcz27_5 hfz27_0 hfz27_1 hfz27_2 hfz27_3 hfz27_4 hfz27_5 hcz28_0 hcz28_1 hcz28_2 hfz28_0 hfz28_1 hfz28_2); clear hb ho30; obtain ⟨Ao31, co31, eo31⟩ := Kd.R_slice HO311.out; subst eo31) | ((with_reducible refine gate_callee (f := 12) rfl ?_); refine goesL_ (some 23) rfl rfl Try.func12 (by kernel_rfl) rfl #[.agg #[.int .i64 3, .string (⟨#[]⟩ : ByteArray), .slice none 0 0, .int .i64 3, .slice Ao23 y302.length co23, .slice Ao22 y305.length co22], .slice Ao31 y309.length co31] rfl ga_ ?_; (refine (guard_Eval.calls k 3 (⟨#[]⟩ : ByteArray) none 0 ([] : List (S72)) 3 _ _ y302 _ _ y305 _ _ y309 true t313 _ ?side1 ?side2 ?side3 ?side4 ?side5 ?side6 ?side7 ?side8 A1.out).mono ?_); (case side1 => exact Kd.C_nil _ _); (case side2 => exact Nat.le_refl _); (case side3 => repeat (first | exact (Kd.R_reads' HO304.out).2.2 | (with_reducible refine Kd.C_alloc ?_ _) | (with_reducible refine Kd.C_drewN ?_ _) | (with_reducible refine Kd.C_drew ?_))); (case side4 => exact (Kd.R_reads' HO304.out).2.1); (case side5 => repeat (first | exact (Kd.R_reads' HO307.out).2.2 | (with_reducible refine Kd.C_alloc ?_ _) | (with_reducible refine Kd.C_drewN ?_ _) | (with_reducible refine Kd.C_drew ?_))); (case side6 => exact (Kd.R_reads' HO307.out).2.1); (case side7 => repeat (first | exact (Kd.R_reads' HO311.out).2.2 | (with_reducible refine Kd.C_alloc ?_ _) | (with_reducible refine Kd.C_drewN ?_ _) | (with_reducible refine Kd.C_drew ?_))); (case side8 => exact (Kd.R_reads' HO311.out).2.1); rintro e w32 ⟨rfl, hb⟩; refine ⟨_, rfl, ?_⟩; have n0_ := kb_ (ku_ HO304.out) hb; have n1_ := kb_ (ku_ HO307.out) hb; have n2_ := kb_ (ku_ HO311.out) hb; have n3_ := bb_ (bu_ BK300) hb; have n4_ := bb_ (bu_ BK301) hb; have n5_ := bb_ (bu_ BK308) hb; have n6_ := bs_ (be_ HB) hb; clear HO304; clear HO307; clear HO311; clear BK300; clear BK301; clear BK308; clear HB; have HO304 := n0_; have HO307 := n1_; have HO311 := n2_; have BK300 := n3_; have BK301 := n4_; have BK308 := n5_; have HB := n6_; clear n0_ n1_ n2_ n3_ n4_ n5_ n6_; (try clear hb); (try clear hb2); (try clear hk); (try clear hi); have hcz33_0 : w32.cell? ⟨gb300, 0, none⟩ = some (.int .i64 1) := (blk_cell BK300.out 0).trans rfl; have hcz33_1 : w32.cell? ⟨gb300, 1, none⟩ = some (.int .i64 2) := (blk_cell BK300.out 1).trans rfl; have hcz33_2 : w32.cell? ⟨gb300, 2, none⟩ = some (.string (⟨#[]⟩ : ByteArray)) := (blk_cell BK300.out 2).trans rfl; have hfz33_0 := blk_frozen BK300.out 0; have hfz33_1 := blk_frozen BK300.out 1; have hfz33_2 := blk_frozen BK300.out 2; have hcz34_0 : w32.cell? ⟨gb301, 0, none⟩ = some (.int .i64 1) := (blk_cell BK301.out 0).trans rfl; have hcz34_1 : w32.cell? ⟨gb301, 1, none⟩ = some (.int .i64 3) := (blk_cell BK301.out 1).trans rfl; have hcz34_2 : w32.cell? ⟨gb301, 2, none⟩ = some (.string (⟨#[]⟩ : ByteArray)) := (blk_cell BK301.out 2).trans rfl; have hfz34_0 := blk_frozen BK301.out 0; have hfz34_1 := blk_frozen BK301.out 1; have hfz34_2 := blk_frozen BK301.out 2; (try clear A1)) | ((with_reducible refine gate_callee (f := 10) rfl ?_); refine goesL_ (some 29) rfl rfl Try.func10 (by kernel_rfl) rfl #[.int .i64 2, .agg #[.int .i64 1, .int .i64 2, .string (⟨#[]⟩ : ByteArray)], .agg #[.int .i64 1, .int .i64 3, .string (⟨#[]⟩ : ByteArray)]] rfl ga_ ?_; (with_reducible refine (guard_Holds.calls k 2 1 2 (⟨#[]⟩ : ByteArray) 1 3 (⟨#[]⟩ : ByteArray) true t315 _ A2.out).mono ?_); rintro e w35 ⟨rfl, hb⟩; refine ⟨_, rfl, ?_⟩; have n0_ := kb_ (ku_ HO304.out) hb; have n1_ := kb_ (ku_ HO307.out) hb; have n2_ := kb_ (ku_ HO311.out) hb; have n3_ := bb_ (bu_ BK300) hb; have n4_ := bb_ (bu_ BK301) hb; have n5_ := bb_ (bu_ BK308) hb; have n6_ := bs_ (be_ HB) hb; clear HO304; clear HO307; clear HO311; clear BK300; clear BK301; clear BK308; clear HB; have HO304 := n0_; have HO307 := n1_; have HO311 := n2_; have BK300 := n3_; have BK301 := n4_; have BK308 := n5_; have HB := n6_; clear n0_ n1_ n2_ n3_ n4_ n5_ n6_; (try clear hcz33_0 hcz33_1 hcz33_2 hfz33_0 hfz33_1 hfz33_2 hcz34_0 hcz34_1 hcz34_2 hfz34_0 hfz34_1 hfz34_2); (try clear hb); (try clear hb2); (try clear hk); (try clear hi); have hcz36_0 : w35.cell? ⟨gb300, 0, none⟩ = some (.int .i64 1) := (blk_cell BK300.out 0).trans rfl; have hcz36_1 : w35.cell? ⟨gb300, 1, none⟩ = some (.int .i64 2) := (blk_cell BK300.out 1).trans rfl; have hcz36_2 : w35.cell? ⟨gb300, 2, none⟩ = some (.string (⟨#[]⟩ : ByteArray)) := (blk_cell BK300.out 2).trans rfl; have hfz36_0 := blk_frozen BK300.out 0; have hfz36_1 := blk_frozen BK300.out 1; have hfz36_2 := blk_frozen BK300.out 2) | ((with_reducible refine gate_callee (f := 10) rfl ?_); refine goesL_ (some 35) rfl rfl Try.func10 (by kernel_rfl) rfl #[.int .i64 4, .agg #[.int .i64 1, .int .i64 2, .string (⟨#[]⟩ : ByteArray)], .agg #[.int .i64 2, .int .i64 0, .string (⟨#[97]⟩ : ByteArray)]] rfl ga_ ?_; (with_reducible refine (guard_Holds.calls k 4 1 2 (⟨#[]⟩ : ByteArray) 2 0 (⟨#[97]⟩ : ByteArray) t316 t317 _ A3.out).mono ?_); rintro e w37 ⟨rfl, hb⟩; refine ⟨_, rfl, ?_⟩; have n0_ := kb_ (ku_ HO304.out) hb; have n1_ := kb_ (ku_ HO307.out) hb; have n2_ := kb_ (ku_ HO311.out) hb; have n3_ := bb_ (bu_ BK300) hb; have n4_ := bb_ (bu_ BK301) hb; have n5_ := bb_ (bu_ BK308) hb; have n6_ := bs_ (be_ HB) hb; clear HO304; clear HO307; clear HO311; clear BK300; clear BK301; clear BK308; clear HB; have HO304 := n0_; have HO307 := n1_; have HO311 := n2_; have BK300 := n3_; have BK301 := n4_; have BK308 := n5_; have HB := n6_; clear n0_ n1_ n2_ n3_ n4_ n5_ n6_; (try clear hcz36_0 hcz36_1 hcz36_2 hfz36_0 hfz36_1 hfz36_2); (try clear hb); (try clear hb2); (try clear hk); (try clear hi); have hcz38_0 : w37.cell? ⟨gb308, 0, none⟩ = some (.int .i64 3) := (blk_cell BK308.out 0).trans rfl; have hcz38_1 : w37.cell? ⟨gb308, 1, none⟩ = some (.string (⟨#[]⟩ : ByteArray)) := (blk_cell BK308.out 1).trans rfl; have hcz38_2 : w37.cell? ⟨gb308, 2, none⟩ = some (.slice none 0 0) := (blk_cell BK308.out 2).trans rfl; have hcz38_3 : w37.cell? ⟨gb308, 3, none⟩ = some (.int .i64 3) := (blk_cell BK308.out 3).trans rfl; have hcz38_4 : w37.cell? ⟨gb308, 4, none⟩ = some (.slice Ao23 y302.length co23) := (blk_cell BK308.out 4).trans rfl; have hcz38_5 : w37.cell? ⟨gb308, 5, none⟩ = some (.slice Ao22 y305.length co22) := (blk_cell BK308.out 5).trans rfl; have hfz38_0 := blk_frozen BK308.out 0; have hfz38_1 := blk_frozen BK308.out 1; have hfz38_2 := blk_frozen BK308.out 2; have hfz38_3 := blk_frozen BK308.out 3; have hfz38_4 := blk_frozen BK308.out 4; have hfz38_5 := blk_frozen BK308.out 5) | (go_at_call 15; (refine (guard_Check.calls k 3 (⟨#[]⟩ : ByteArray) none 0 ([] : List (S72)) 3 _ _ y302 _ _ y305 t318 _ ?side1 ?side2 ?side3 ?side4 ?side5 ?side6 A9.out).mono ?_); (case side1 => exact Kd.C_nil _ _); (case side2 => exact Nat.le_refl _); (case side3 => repeat (first | exact (Kd.R_reads' HO304.out).2.2 | (with_reducible refine Kd.C_alloc ?_ _) | (with_reducible refine Kd.C_drewN ?_ _) | (with_reducible refine Kd.C_drew ?_))); (case side4 => exact (Kd.R_reads' HO304.out).2.1); (case side5 => repeat (first | exact (Kd.R_reads' HO307.out).2.2 | (with_reducible refine Kd.C_alloc ?_ _) | (with_reducible refine Kd.C_drewN ?_ _) | (with_reducible refine Kd.C_drew ?_))); (case side6 => exact (Kd.R_reads' HO307.out).2.1); rintro e w39 ⟨rfl, hb⟩; have n0_ := kb_ (ku_ HO304.out) hb; have n1_ := kb_ (ku_ HO307.out) hb; have n2_ := kb_ (ku_ HO311.out) hb; have n3_ := bb_ (bu_ BK300) hb; have n4_ := bb_ (bu_ BK301) hb; have n5_ := bb_ (bu_ BK308) hb; have n6_ := bs_ (be_ HB) hb; clear HO304; clear HO307; clear HO311; clear BK300; clear BK301; clear BK308; clear HB; have HO304 := n0_; have HO307 := n1_; have HO311 := n2_; have BK300 := n3_; have BK301 := n4_; have BK308 := n5_; have HB := n6_; clear n0_ n1_ n2_ n3_ n4_ n5_ n6_; (try clear hcz38_0 hcz38_1 hcz38_2 hcz38_3 hcz38_4 hcz38_5 hfz38_0 hfz38_1 hfz38_2 hfz38_3 hfz38_4 hfz38_5); (try clear hb); (try clear hb2); (try clear hk); (try clear hi); (try clear A9)) | (go_at_call 15; (refine (guard_Check.calls k 0 (⟨#[]⟩ : ByteArray) none 0 ([] : List (S72)) 0 none 0 ([] : List (S67)) none 0 ([] : List (S67)) t319 _ ?side1 ?side2 ?side3 ?side4 ?side5 ?side6 A11.out).mono ?_); (case side1 => exact Kd.C_nil _ _); (case side2 => exact Nat.le_refl _); (case side3 => exact Kd.C_nil _ _); (case side4 => exact Nat.le_refl _); (case side5 => exact Kd.C_nil _ _); (case side6 => exact Nat.le_refl _); rintro e w40 ⟨rfl, hb⟩; have n0_ := kb_ (ku_ HO304.out) hb; have n1_ := kb_ (ku_ HO307.out) hb; have n2_ := kb_ (ku_ HO311.out) hb; have n3_ := bb_ (bu_ BK300) hb; have n4_ := bb_ (bu_ BK301) hb; have n5_ := bb_ (bu_ BK308) hb; have n6_ := bs_ (be_ HB) hb; clear HO304; clear HO307; clear HO311; clear BK300; clear BK301; clear BK308; clear HB; have HO304 := n0_; have HO307 := n1_; have HO311 := n2_; have BK300 := n3_; have BK301 := n4_; have BK308 := n5_; have HB := n6_; clear n0_ n1_ n2_ n3_ n4_ n5_ n6_; (try clear hb); (try clear hb2); (try clear hk); (try clear hi); (try clear A11)))
              go_ret
              exact ⟨by first | rfl | (simp [errW_none, errW_some] <;> rfl) | (simp [*, errW_none, errW_some] <;> rfl), by repeat (first | (with_reducible first | exact HB.out | apply below_alloc | apply pw_below_drewN | apply below_drew1 | refine below_set ?_ GE300.out | refine below_set ?_ GE301.out | refine below_set ?_ GE308.out) | exact HB.out)⟩
            · rw [if_neg c10] at H
              obtain ⟨c10b0, c10b1⟩ := neB_ c10
              exact absurd ((Option.some.inj H).trans HR_.out) (by decide)
          · rw [if_neg c8] at H
            obtain ⟨c8b0, c8b1⟩ := neB_ c8
            exact absurd ((Option.some.inj H).trans HR_.out) (by decide)
        · replace c7 := Bool.eq_false_iff.mpr c7
          subst c7
          have H1 : (some false) = some r := by rw [if_neg (show ¬ (false = true) by decide)] at H; exact H
          clear H
          have H := H1
          clear H1
          exact absurd ((Option.some.inj H).trans HR_.out) (by decide)
      · rw [if_neg c6] at H
        obtain ⟨c6b0, c6b1⟩ := neB_ c6
        exact absurd ((Option.some.inj H).trans HR_.out) (by decide)
    · replace c5 := Bool.eq_false_iff.mpr c5
      subst c5
      have H1 : (some false) = some r := by rw [if_neg (show ¬ (false = true) by decide)] at H; exact H
      clear H
      have H := H1
      clear H1
      exact absurd ((Option.some.inj H).trans HR_.out) (by decide)
  · rw [if_neg c4] at H
    obtain ⟨c4b0, c4b1⟩ := neB_ c4
    exact absurd ((Option.some.inj H).trans HR_.out) (by decide)
end Go.Proofs.Ytaopajmpifenoaa.P
end
section
namespace Go.Proofs.Ytaopajmpifenoaa.P
open Go.RowKit Go.Proofs.YtaopajmpifenoaaW.PrintWords Go.Proofs.YtaopajmpifenoaaW.PrintLast Go.Proofs.YtaopajmpifenoaaW.PrintMore
attribute [local go_sem] max2_int min2_int max_two min_two max_three min_three max_four min_four
set_option linter.unusedVariables false
set_option linter.unusedSimpArgs false
mutual
def constablelaw08_GuardNumbers.j0 : Nat → Int → Int → ByteArray → ByteArray → Bool → Option (Bool)
  | 0, _, _, _, _, _ => none
  | k + 1, x0, x1, x2, x3, x51 => if x51 = true then (some true) else (constablelaw08_GuardNumbers.l0 k x0 x1 x2 x3 0)
def constablelaw08_GuardNumbers.l0 : Nat → Int → Int → ByteArray → ByteArray → Int → Option (Bool)
  | 0, _, _, _, _, _ => none
  | k + 1, x0, x1, x2, x3, x9 => if x9 < (x2.size : Int) then (if 0 ≤ x9 then (if (bt x2 x9) < 32 then (some true) else (if (bt x2 x9) > 126 then (some true) else (constablelaw08_GuardNumbers.l0 k x0 x1 x2 x3 (wrap64 (x9 + 1))))) else (none)) else (constablelaw08_GuardNumbers.l1 k x0 x1 x2 x3 0)
def constablelaw08_GuardNumbers.l1 : Nat → Int → Int → ByteArray → ByteArray → Int → Option (Bool)
  | 0, _, _, _, _, _ => none
  | k + 1, x0, x1, x2, x3, x10 => if x10 < (x3.size : Int) then (if 0 ≤ x10 then (if (bt x3 x10) < 32 then (some true) else (if (bt x3 x10) > 126 then (some true) else (constablelaw08_GuardNumbers.l1 k x0 x1 x2 x3 (wrap64 (x10 + 1))))) else (none)) else (constablelaw08_GuardNumbers.l2 k (([false, (x0 == x1), (x0 != x1), decide (x0 < x1), decide (x0 ≤ x1)] : List Bool)) (([false, (x2.toList == x3.toList), (x2.toList != x3.toList), (Op.bytesLess x2.toList x3.toList), !(Op.bytesLess x3.toList x2.toList)] : List Bool)) 1 1 x0 (⟨#[]⟩ : ByteArray) 1 x1 (⟨#[]⟩ : ByteArray) 3 0 x2 3 0 x3)
def constablelaw08_GuardNumbers.l2 : Nat → List Bool → List Bool → Int → Int → Int → ByteArray → Int → Int → ByteArray → Int → Int → ByteArray → Int → Int → ByteArray → Option (Bool)
  | 0, _, _, _, _, _, _, _, _, _, _, _, _, _, _, _ => none
  | k + 1, x15, x16, x17, x416000, x416001, x416002, x417000, x417001, x417002, x418000, x418001, x418002, x419000, x419001, x419002 => if x17 ≤ 4 then ((guard_Holds.f k x17 x416000 x416001 x416002 x417000 x417001 x417002).bind fun bt425 => ((guard_Holds.f k x17 x418000 x418001 x418002 x419000 x419001 x419002).bind fun bt427 => (if bt425.2 = 0 then (if bt427.2 = 0 then (if 0 ≤ x17 then (if x17 < (x15.length : Int) then (if (bt425.1 != (rdOf false x15 x17)) = true then (some false) else (if x17 < (x16.length : Int) then (if (bt427.1 != (rdOf false x16 x17)) = true then (some false) else (constablelaw08_GuardNumbers.l2 k x15 x16 (wrap64 (x17 + 1)) x416000 x416001 x416002 x417000 x417001 x417002 x418000 x418001 x418002 x419000 x419001 x419002)) else (none))) else (none)) else (none)) else (some false)) else (some false)))) else ((guard_Holds.f k 5 x416000 x416001 x416002 x417000 x417001 x417002).bind fun bt431 => ((guard_Holds.f k 3 x416000 x416001 x416002 x418000 x418001 x418002).bind fun bt433 => ((guard_Holds.f k 2 x416000 x416001 x416002 x418000 x418001 x418002).bind fun bt435 => (if bt431.2 = 1 then (if bt433.2 = 3 then (if bt435.2 = 0 then (if bt435.1 = true then ((constablelaw08_wakes.f k).bind fun t437 => (some t437)) else (some false)) else (some false)) else (some false)) else (some false)))))
end
def constablelaw08_GuardNumbers.f (k : Nat) (a0 : Int) (a1 : Int) (a2 : ByteArray) (a3 : ByteArray) : Option (Bool) := if a0 < (-4611686018427387904) then (constablelaw08_GuardNumbers.j0 k a0 a1 a2 a3 true) else (if a0 > 4611686018427387904 then (constablelaw08_GuardNumbers.j0 k a0 a1 a2 a3 true) else (if a1 < (-4611686018427387904) then (constablelaw08_GuardNumbers.j0 k a0 a1 a2 a3 true) else (if a1 > 4611686018427387904 then (constablelaw08_GuardNumbers.j0 k a0 a1 a2 a3 true) else (if (a2.size : Int) > 10 then (constablelaw08_GuardNumbers.j0 k a0 a1 a2 a3 true) else (constablelaw08_GuardNumbers.j0 k a0 a1 a2 a3 (decide ((a3.size : Int) > 10)))))))
theorem constablelaw08_GuardNumbers.mono_l : ∀ k, (∀ y0 y1 y2 y3 y4, LeO (constablelaw08_GuardNumbers.j0 k y0 y1 y2 y3 y4) (constablelaw08_GuardNumbers.j0 (k + 1) y0 y1 y2 y3 y4)) ∧ (∀ y0 y1 y2 y3 y4, LeO (constablelaw08_GuardNumbers.l0 k y0 y1 y2 y3 y4) (constablelaw08_GuardNumbers.l0 (k + 1) y0 y1 y2 y3 y4)) ∧ (∀ y0 y1 y2 y3 y4, LeO (constablelaw08_GuardNumbers.l1 k y0 y1 y2 y3 y4) (constablelaw08_GuardNumbers.l1 (k + 1) y0 y1 y2 y3 y4)) ∧ (∀ y0 y1 y2 y3 y4 y5 y6 y7 y8 y9 y10 y11 y12 y13 y14, LeO (constablelaw08_GuardNumbers.l2 k y0 y1 y2 y3 y4 y5 y6 y7 y8 y9 y10 y11 y12 y13 y14) (constablelaw08_GuardNumbers.l2 (k + 1) y0 y1 y2 y3 y4 y5 y6 y7 y8 y9 y10 y11 y12 y13 y14))
  | 0 => ⟨fun _ _ _ _ _ r h => by simp [constablelaw08_GuardNumbers.j0] at h, fun _ _ _ _ _ r h => by simp [constablelaw08_GuardNumbers.l0] at h, fun _ _ _ _ _ r h => by simp [constablelaw08_GuardNumbers.l1] at h, fun _ _ _ _ _ _ _ _ _ _ _ _ _ _ _ r h => by simp [constablelaw08_GuardNumbers.l2] at h⟩
  | k + 1 => by
    obtain ⟨ih0, ih1, ih2, ih3⟩ := constablelaw08_GuardNumbers.mono_l k
    refine ⟨?_, ?_, ?_, ?_⟩
    · intro y0 y1 y2 y3 y4
      unfold constablelaw08_GuardNumbers.j0
      repeat' first
      | (with_reducible exact ih0 _ _ _ _ _)
      | (with_reducible exact ih1 _ _ _ _ _)
      | (with_reducible exact ih2 _ _ _ _ _)
      | (with_reducible exact ih3 _ _ _ _ _ _ _ _ _ _ _ _ _ _ _)
      | (with_reducible exact constablelaw08_wakes.mono _)
      | (with_reducible exact guard_Holds.mono _ _ _ _ _ _ _ _)
      | (with_reducible exact LeO.refl _)
      | (with_reducible exact LeO.none _)
      | (with_reducible refine LeO.ite ?_ ?_)
      | (with_reducible refine LeO.bind ?_ (fun _ => ?_))
      | exact ih0 _ _ _ _ _
      | exact ih1 _ _ _ _ _
      | exact ih2 _ _ _ _ _
      | exact ih3 _ _ _ _ _ _ _ _ _ _ _ _ _ _ _
      | exact constablelaw08_wakes.mono _
      | exact guard_Holds.mono _ _ _ _ _ _ _ _
      | exact LeO.none _
      | refine LeO.ite ?_ ?_
      | refine LeO.bind ?_ (fun _ => ?_)
    · intro y0 y1 y2 y3 y4
      unfold constablelaw08_GuardNumbers.l0
      repeat' first
      | (with_reducible exact ih0 _ _ _ _ _)
      | (with_reducible exact ih1 _ _ _ _ _)
      | (with_reducible exact ih2 _ _ _ _ _)
      | (with_reducible exact ih3 _ _ _ _ _ _ _ _ _ _ _ _ _ _ _)
      | (with_reducible exact constablelaw08_wakes.mono _)
      | (with_reducible exact guard_Holds.mono _ _ _ _ _ _ _ _)
      | (with_reducible exact LeO.refl _)
      | (with_reducible exact LeO.none _)
      | (with_reducible refine LeO.ite ?_ ?_)
      | (with_reducible refine LeO.bind ?_ (fun _ => ?_))
      | exact ih0 _ _ _ _ _
      | exact ih1 _ _ _ _ _
      | exact ih2 _ _ _ _ _
      | exact ih3 _ _ _ _ _ _ _ _ _ _ _ _ _ _ _
      | exact constablelaw08_wakes.mono _
      | exact guard_Holds.mono _ _ _ _ _ _ _ _
      | exact LeO.none _
      | refine LeO.ite ?_ ?_
      | refine LeO.bind ?_ (fun _ => ?_)
    · intro y0 y1 y2 y3 y4
      unfold constablelaw08_GuardNumbers.l1
      repeat' first
      | (with_reducible exact ih0 _ _ _ _ _)
      | (with_reducible exact ih1 _ _ _ _ _)
      | (with_reducible exact ih2 _ _ _ _ _)
      | (with_reducible exact ih3 _ _ _ _ _ _ _ _ _ _ _ _ _ _ _)
      | (with_reducible exact constablelaw08_wakes.mono _)
      | (with_reducible exact guard_Holds.mono _ _ _ _ _ _ _ _)
      | (with_reducible exact LeO.refl _)
      | (with_reducible exact LeO.none _)
      | (with_reducible refine LeO.ite ?_ ?_)
      | (with_reducible refine LeO.bind ?_ (fun _ => ?_))
      | exact ih0 _ _ _ _ _
      | exact ih1 _ _ _ _ _
      | exact ih2 _ _ _ _ _
      | exact ih3 _ _ _ _ _ _ _ _ _ _ _ _ _ _ _
      | exact constablelaw08_wakes.mono _
      | exact guard_Holds.mono _ _ _ _ _ _ _ _
      | exact LeO.none _
      | refine LeO.ite ?_ ?_
      | refine LeO.bind ?_ (fun _ => ?_)
    · intro y0 y1 y2 y3 y4 y5 y6 y7 y8 y9 y10 y11 y12 y13 y14
      unfold constablelaw08_GuardNumbers.l2
      repeat' first
      | (with_reducible exact ih0 _ _ _ _ _)
      | (with_reducible exact ih1 _ _ _ _ _)
      | (with_reducible exact ih2 _ _ _ _ _)
      | (with_reducible exact ih3 _ _ _ _ _ _ _ _ _ _ _ _ _ _ _)
      | (with_reducible exact constablelaw08_wakes.mono _)
      | (with_reducible exact guard_Holds.mono _ _ _ _ _ _ _ _)
      | (with_reducible exact LeO.refl _)
      | (with_reducible exact LeO.none _)
      | (with_reducible refine LeO.ite ?_ ?_)
      | (with_reducible refine LeO.bind ?_ (fun _ => ?_))
      | exact ih0 _ _ _ _ _
      | exact ih1 _ _ _ _ _
      | exact ih2 _ _ _ _ _
      | exact ih3 _ _ _ _ _ _ _ _ _ _ _ _ _ _ _
      | exact constablelaw08_wakes.mono _
      | exact guard_Holds.mono _ _ _ _ _ _ _ _
      | exact LeO.none _
      | refine LeO.ite ?_ ?_
      | refine LeO.bind ?_ (fun _ => ?_)
theorem constablelaw08_GuardNumbers.mono : ∀ a0 a1 a2 a3 k, LeO (constablelaw08_GuardNumbers.f k a0 a1 a2 a3) (constablelaw08_GuardNumbers.f (k + 1) a0 a1 a2 a3) := by
  intro a0 a1 a2 a3 k
  obtain ⟨ih0, ih1, ih2, ih3⟩ := constablelaw08_GuardNumbers.mono_l k
  unfold constablelaw08_GuardNumbers.f
  repeat' first
      | (with_reducible exact ih0 _ _ _ _ _)
      | (with_reducible exact ih1 _ _ _ _ _)
      | (with_reducible exact ih2 _ _ _ _ _)
      | (with_reducible exact ih3 _ _ _ _ _ _ _ _ _ _ _ _ _ _ _)
      | (with_reducible exact constablelaw08_wakes.mono _)
      | (with_reducible exact guard_Holds.mono _ _ _ _ _ _ _ _)
      | (with_reducible exact LeO.refl _)
      | (with_reducible exact LeO.none _)
      | (with_reducible refine LeO.ite ?_ ?_)
      | (with_reducible refine LeO.bind ?_ (fun _ => ?_))
      | exact ih0 _ _ _ _ _
      | exact ih1 _ _ _ _ _
      | exact ih2 _ _ _ _ _
      | exact ih3 _ _ _ _ _ _ _ _ _ _ _ _ _ _ _
      | exact constablelaw08_wakes.mono _
      | exact guard_Holds.mono _ _ _ _ _ _ _ _
      | exact LeO.none _
      | refine LeO.ite ?_ ?_
      | refine LeO.bind ?_ (fun _ => ?_)
set_option maxHeartbeats 8000000 in
set_option maxRecDepth 100000 in
theorem constablelaw08_GuardNumbers.calls (k : Nat) (a0 : Int) (a1 : Int) (a2 : ByteArray) (a3 : ByteArray) (r : Bool) (w : World) (h : constablelaw08_GuardNumbers.f k a0 a1 a2 a3 = some r) (hr_ : r = true) :
    Calls Try.prog 6 #[.int .i64 a0, .int .i64 a1, .string a2, .string a3] w fun e w' => e = .returned (.bool r) ∧ Below w.heap.size w w' := by
  have hu23 := Try.underlying23
  have HB := Aside0.mk (Below.refl w.heap.size w)
  have H : (if a0 < (-4611686018427387904) then (constablelaw08_GuardNumbers.j0 k a0 a1 a2 a3 true) else (if a0 > 4611686018427387904 then (constablelaw08_GuardNumbers.j0 k a0 a1 a2 a3 true) else (if a1 < (-4611686018427387904) then (constablelaw08_GuardNumbers.j0 k a0 a1 a2 a3 true) else (if a1 > 4611686018427387904 then (constablelaw08_GuardNumbers.j0 k a0 a1 a2 a3 true) else (if (a2.size : Int) > 10 then (constablelaw08_GuardNumbers.j0 k a0 a1 a2 a3 true) else (constablelaw08_GuardNumbers.j0 k a0 a1 a2 a3 (decide ((a3.size : Int) > 10)))))))) = some r := h
  clear h
  have HR_ := Aside0.mk hr_
  clear hr_
  have HC5 := Aside0.mk H
  clear H
  go_enter Try.func6, Try.ntmps6
  go_upto_region 1 with (fail)
  go_cut [51] (fun v51 wc => ∃ (kq : Nat) (x51_4 : Bool), v51 = .bool x51_4 ∧ Aside0 (constablelaw08_GuardNumbers.j0 kq a0 a1 a2 a3 x51_4 = some r) ∧ Aside0 (kq ≤ k) ∧ Aside0 (Below w.heap.size w wc))
  case first =>
    have H := HC5.out
    clear HC5
    by_cases c6 : a0 < (-4611686018427387904)
    · rw [if_pos c6] at H
      have c6b0 : decide (a0 < (-4611686018427387904)) = true := decide_eq_true c6
      clear c6
      (first | rw [c6b0] | (simp only [i64_w, i32_w]; rw [c6b0]) | skip)
      have H' := Aside0.mk H
      clear H
      go_wp2
      go_meet
      case rel => exact ⟨_, (true), ra_, H', ⟨by first | omega | exact Nat.le_refl _⟩, ⟨by repeat (first | (with_reducible first | exact HB.out | apply below_alloc | apply pw_below_drewN | apply below_drew1) | exact HB.out)⟩⟩
    · rw [if_neg c6] at H
      have c6b0 : decide (a0 < (-4611686018427387904)) = false := decide_eq_false c6
      clear c6
      (first | rw [c6b0] | (simp only [i64_w, i32_w]; rw [c6b0]) | skip)
      by_cases c7 : a0 > 4611686018427387904
      · rw [if_pos c7] at H
        have c7b0 : decide (4611686018427387904 < a0) = true := decide_eq_true c7
        clear c7
        have H' := Aside0.mk H
        clear H
        go_wp2
        go_meet
        case rel => exact ⟨_, (true), ra_, H', ⟨by first | omega | exact Nat.le_refl _⟩, ⟨by repeat (first | (with_reducible first | exact HB.out | apply below_alloc | apply pw_below_drewN | apply below_drew1) | exact HB.out)⟩⟩
      · rw [if_neg c7] at H
        have c7b0 : decide (4611686018427387904 < a0) = false := decide_eq_false c7
        clear c7
        by_cases c8 : a1 < (-4611686018427387904)
        · rw [if_pos c8] at H
          have c8b0 : decide (a1 < (-4611686018427387904)) = true := decide_eq_true c8
          clear c8
          have H' := Aside0.mk H
          clear H
          go_wp2
          go_meet
          case rel => exact ⟨_, (true), ra_, H', ⟨by first | omega | exact Nat.le_refl _⟩, ⟨by repeat (first | (with_reducible first | exact HB.out | apply below_alloc | apply pw_below_drewN | apply below_drew1) | exact HB.out)⟩⟩
        · rw [if_neg c8] at H
          have c8b0 : decide (a1 < (-4611686018427387904)) = false := decide_eq_false c8
          clear c8
          by_cases c9 : a1 > 4611686018427387904
          · rw [if_pos c9] at H
            have c9b0 : decide (4611686018427387904 < a1) = true := decide_eq_true c9
            clear c9
            have H' := Aside0.mk H
            clear H
            go_wp2
            go_meet
            case rel => exact ⟨_, (true), ra_, H', ⟨by first | omega | exact Nat.le_refl _⟩, ⟨by repeat (first | (with_reducible first | exact HB.out | apply below_alloc | apply pw_below_drewN | apply below_drew1) | exact HB.out)⟩⟩
          · rw [if_neg c9] at H
            have c9b0 : decide (4611686018427387904 < a1) = false := decide_eq_false c9
            clear c9
            by_cases c10 : (a2.size : Int) > 10
            · rw [if_pos c10] at H
              have c10b0 : decide (10 < (a2.size : Int)) = true := decide_eq_true c10
              have c10b1 : decide (10 < a2.size) = true := decide_eq_true (by omega)
              clear c10
              have H' := Aside0.mk H
              clear H
              go_wp2
              go_meet
              case rel => exact ⟨_, (true), ra_, H', ⟨by first | omega | exact Nat.le_refl _⟩, ⟨by repeat (first | (with_reducible first | exact HB.out | apply below_alloc | apply pw_below_drewN | apply below_drew1) | exact HB.out)⟩⟩
            · rw [if_neg c10] at H
              have c10b0 : decide (10 < (a2.size : Int)) = false := decide_eq_false c10
              have c10b1 : decide (10 < a2.size) = false := decide_eq_false (by omega)
              clear c10
              have H' := Aside0.mk H
              clear H
              go_wp2
              go_meet
              case rel => exact ⟨_, (decide ((a3.size : Int) > 10)), ra_, H', ⟨by first | omega | exact Nat.le_refl _⟩, ⟨by repeat (first | (with_reducible first | exact HB.out | apply below_alloc | apply pw_below_drewN | apply below_drew1) | exact HB.out)⟩⟩
  case rest =>
    clear HC5
    try clear c1
    try clear p2
    try clear c6
    try clear c6b0
    try clear c7
    try clear c7b0
    try clear c8
    try clear c8b0
    try clear c9
    try clear c9b0
    try clear c10
    try clear c10b0
    try clear c10b1
    obtain ⟨kq, x51_4, rfl, HA, HJ4, HB⟩ := hcut
    cases kq with
    | zero => exact absurd HA.out (by simp [constablelaw08_GuardNumbers.j0])
    | succ kj4 =>
      have H := HA.out
      clear HA
      simp only [constablelaw08_GuardNumbers.j0] at H
      by_cases c11 : x51_4 = true
      · subst c11
        have H1 : (some true) = some r := by rw [if_pos rfl] at H; exact H
        clear H
        have H := H1
        clear H1
        obtain rfl := Option.some.inj H
        go_wp2
        go_ret
        exact ⟨by first | rfl | (simp [errW_none, errW_some] <;> rfl) | (simp [*, errW_none, errW_some] <;> rfl), by repeat (first | (with_reducible first | exact HB.out | apply below_alloc | apply pw_below_drewN | apply below_drew1) | exact HB.out)⟩
      · replace c11 := Bool.eq_false_iff.mpr c11
        subst c11
        have H1 : (constablelaw08_GuardNumbers.l0 kj4 a0 a1 a2 a3 0) = some r := by rw [if_neg (show ¬ (false = true) by decide)] at H; exact H
        clear H
        have H := H1
        clear H1
        have H' := Aside0.mk H
        clear H
        go_wp2
        go_loopg [9] kj4 (fun kq v9 w' => ∃ (x9_2 : Int), v9 = .int .i64 x9_2 ∧ Aside0 (constablelaw08_GuardNumbers.l0 kq a0 a1 a2 a3 x9_2 = some r) ∧ Aside0 (kq ≤ kj4) ∧ Aside0 (Below w.heap.size w w'))
        case atStart => exact ⟨(0), ra_, H', ⟨Nat.le_refl _⟩, ⟨by repeat (first | (with_reducible first | exact HB.out | apply below_alloc | apply pw_below_drewN | apply below_drew1) | exact HB.out)⟩⟩
        case round =>
          clear H'
          try clear c1
          try clear p2
          try clear c6
          try clear c6b0
          try clear c7
          try clear c7b0
          try clear c8
          try clear c8b0
          try clear c9
          try clear c9b0
          try clear c10
          try clear c10b0
          try clear c10b1
          try clear c11
          try clear p2
          obtain ⟨x9_2, rfl, HA, HK2, HB⟩ := hrel
          cases gk with
          | zero => exact absurd HA.out (by simp [constablelaw08_GuardNumbers.l0])
          | succ k2 =>
            have H := HA.out
            clear HA
            simp only [constablelaw08_GuardNumbers.l0] at H
            by_cases c12 : x9_2 < (a2.size : Int)
            · rw [if_pos c12] at H
              have c12b0 : decide (x9_2 < (a2.size : Int)) = true := decide_eq_true c12
              clear c12
              by_cases c13 : 0 ≤ x9_2
              · rw [if_pos c13] at H
                have c13b0 : decide (0 ≤ x9_2) = true := decide_eq_true c13
                clear c13
                by_cases c15 : (bt a2 x9_2) < 32
                · rw [if_pos c15] at H
                  have c15b0 : decide ((bt a2 x9_2) < 32) = true := decide_eq_true c15
                  clear c15
                  obtain rfl := Option.some.inj H
                  have p14 : 0 ≤ (x9_2 : Int) := dt_
                  have q14 : x9_2 < (a2.size : Int) := dt_
                  have hx14 := bt_at a2 x9_2
                  replace p14 := eq_true p14
                  replace q14 := eq_true q14
                  go_wp2
                  go_ret
                  exact ⟨by first | rfl | (simp [errW_none, errW_some] <;> rfl) | (simp [*, errW_none, errW_some] <;> rfl), by repeat (first | (with_reducible first | exact HB.out | apply below_alloc | apply pw_below_drewN | apply below_drew1) | exact HB.out)⟩
                · rw [if_neg c15] at H
                  have c15b0 : decide ((bt a2 x9_2) < 32) = false := decide_eq_false c15
                  clear c15
                  by_cases c17 : (bt a2 x9_2) > 126
                  · rw [if_pos c17] at H
                    have c17b0 : decide (126 < (bt a2 x9_2)) = true := decide_eq_true c17
                    clear c17
                    obtain rfl := Option.some.inj H
                    have p14 : 0 ≤ (x9_2 : Int) := dt_
                    have q14 : x9_2 < (a2.size : Int) := dt_
                    have hx14 := bt_at a2 x9_2
                    replace p14 := eq_true p14
                    replace q14 := eq_true q14
                    have p16 : 0 ≤ (x9_2 : Int) := dt_
                    have q16 : x9_2 < (a2.size : Int) := dt_
                    have hx16 := bt_at a2 x9_2
                    replace p16 := eq_true p16
                    replace q16 := eq_true q16
                    go_wp2
                    go_ret
                    exact ⟨by first | rfl | (simp [errW_none, errW_some] <;> rfl) | (simp [*, errW_none, errW_some] <;> rfl), by repeat (first | (with_reducible first | exact HB.out | apply below_alloc | apply pw_below_drewN | apply below_drew1) | exact HB.out)⟩
                  · rw [if_neg c17] at H
                    have c17b0 : decide (126 < (bt a2 x9_2)) = false := decide_eq_false c17
                    clear c17
                    have H' := Aside0.mk H
                    clear H
                    have p14 : 0 ≤ (x9_2 : Int) := dt_
                    have q14 : x9_2 < (a2.size : Int) := dt_
                    have hx14 := bt_at a2 x9_2
                    replace p14 := eq_true p14
                    replace q14 := eq_true q14
                    have p16 : 0 ≤ (x9_2 : Int) := dt_
                    have q16 : x9_2 < (a2.size : Int) := dt_
                    have hx16 := bt_at a2 x9_2
                    replace p16 := eq_true p16
                    replace q16 := eq_true q16
                    go_wp2
                    go_roundg k2
                    case measure => have := HJ4.out; have := HK2.out; omega
                    case rel => exact ⟨(wrap64 (x9_2 + 1)), ra_, H', ⟨by have := HJ4.out; have := HK2.out; omega⟩, ⟨by repeat (first | (with_reducible first | exact HB.out | apply below_alloc | apply pw_below_drewN | apply below_drew1) | exact HB.out)⟩⟩
              · rw [if_neg c13] at H
                exact absurd H (by simp)
            · rw [if_neg c12] at H
              have c12b0 : decide (x9_2 < (a2.size : Int)) = false := decide_eq_false c12
              clear c12
              have H' := Aside0.mk H
              clear H
              go_wp2
              go_loopg [10] k2 (fun kq v10 w' => ∃ (x10_3 : Int), v10 = .int .i64 x10_3 ∧ Aside0 (constablelaw08_GuardNumbers.l1 kq a0 a1 a2 a3 x10_3 = some r) ∧ Aside0 (kq ≤ k2) ∧ Aside0 (Below w.heap.size w w'))
              case atStart => exact ⟨(0), ra_, H', ⟨Nat.le_refl _⟩, ⟨by repeat (first | (with_reducible first | exact HB.out | apply below_alloc | apply pw_below_drewN | apply below_drew1) | exact HB.out)⟩⟩
              case round =>
                clear H'
                try clear c1
                try clear p1
                try clear q1
                try clear hx1
                try clear p2
                try clear c6
                try clear c6b0
                try clear p6
                try clear c7
                try clear c7b0
                try clear c8
                try clear c8b0
                try clear c9
                try clear c9b0
                try clear c10
                try clear c10b0
                try clear c10b1
                try clear c11
                try clear c12
                try clear c12b0
                try clear c13
                try clear c13b0
                try clear p14
                try clear q14
                try clear hx14
                try clear c15
                try clear c15b0
                try clear p16
                try clear q16
                try clear hx16
                try clear c17
                try clear c17b0
                try clear p14
                try clear p16
                try clear p2
                try clear q14
                try clear q16
                obtain ⟨x10_3, rfl, HA, HK3, HB⟩ := hrel
                cases gk with
                | zero => exact absurd HA.out (by simp [constablelaw08_GuardNumbers.l1])
                | succ k3 =>
                  have H := HA.out
                  clear HA
                  simp only [constablelaw08_GuardNumbers.l1] at H
                  by_cases c18 : x10_3 < (a3.size : Int)
                  · rw [if_pos c18] at H
                    have c18b0 : decide (x10_3 < (a3.size : Int)) = true := decide_eq_true c18
                    clear c18
                    by_cases c19 : 0 ≤ x10_3
                    · rw [if_pos c19] at H
                      have c19b0 : decide (0 ≤ x10_3) = true := decide_eq_true c19
                      clear c19
                      by_cases c21 : (bt a3 x10_3) < 32
                      · rw [if_pos c21] at H
                        have c21b0 : decide ((bt a3 x10_3) < 32) = true := decide_eq_true c21
                        clear c21
                        obtain rfl := Option.some.inj H
                        have p20 : 0 ≤ (x10_3 : Int) := dt_
                        have q20 : x10_3 < (a3.size : Int) := dt_
                        have hx20 := bt_at a3 x10_3
                        replace p20 := eq_true p20
                        replace q20 := eq_true q20
                        go_wp2
                        go_ret
                        exact ⟨by first | rfl | (simp [errW_none, errW_some] <;> rfl) | (simp [*, errW_none, errW_some] <;> rfl), by repeat (first | (with_reducible first | exact HB.out | apply below_alloc | apply pw_below_drewN | apply below_drew1) | exact HB.out)⟩
                      · rw [if_neg c21] at H
                        have c21b0 : decide ((bt a3 x10_3) < 32) = false := decide_eq_false c21
                        clear c21
                        by_cases c23 : (bt a3 x10_3) > 126
                        · rw [if_pos c23] at H
                          have c23b0 : decide (126 < (bt a3 x10_3)) = true := decide_eq_true c23
                          clear c23
                          obtain rfl := Option.some.inj H
                          have p20 : 0 ≤ (x10_3 : Int) := dt_
                          have q20 : x10_3 < (a3.size : Int) := dt_
                          have hx20 := bt_at a3 x10_3
                          replace p20 := eq_true p20
                          replace q20 := eq_true q20
                          have p22 : 0 ≤ (x10_3 : Int) := dt_
                          have q22 : x10_3 < (a3.size : Int) := dt_
                          have hx22 := bt_at a3 x10_3
                          replace p22 := eq_true p22
                          replace q22 := eq_true q22
                          go_wp2
                          go_ret
                          exact ⟨by first | rfl | (simp [errW_none, errW_some] <;> rfl) | (simp [*, errW_none, errW_some] <;> rfl), by repeat (first | (with_reducible first | exact HB.out | apply below_alloc | apply pw_below_drewN | apply below_drew1) | exact HB.out)⟩
                        · rw [if_neg c23] at H
                          have c23b0 : decide (126 < (bt a3 x10_3)) = false := decide_eq_false c23
                          clear c23
                          have H' := Aside0.mk H
                          clear H
                          have p20 : 0 ≤ (x10_3 : Int) := dt_
                          have q20 : x10_3 < (a3.size : Int) := dt_
                          have hx20 := bt_at a3 x10_3
                          replace p20 := eq_true p20
                          replace q20 := eq_true q20
                          have p22 : 0 ≤ (x10_3 : Int) := dt_
                          have q22 : x10_3 < (a3.size : Int) := dt_
                          have hx22 := bt_at a3 x10_3
                          replace p22 := eq_true p22
                          replace q22 := eq_true q22
                          go_wp2
                          go_roundg k3
                          case measure => have := HJ4.out; have := HK2.out; have := HK3.out; omega
                          case rel => exact ⟨(wrap64 (x10_3 + 1)), ra_, H', ⟨by have := HJ4.out; have := HK2.out; have := HK3.out; omega⟩, ⟨by repeat (first | (with_reducible first | exact HB.out | apply below_alloc | apply pw_below_drewN | apply below_drew1) | exact HB.out)⟩⟩
                    · rw [if_neg c19] at H
                      exact absurd H (by simp)
                  · rw [if_neg c18] at H
                    have c18b0 : decide (x10_3 < (a3.size : Int)) = false := decide_eq_false c18
                    clear c18
                    obtain ⟨y419, hy419⟩ : ∃ y_ : List Bool, y_ = (([false, (a0 == a1), (a0 != a1), decide (a0 < a1), decide (a0 ≤ a1)] : List Bool)) := ⟨_, rfl⟩
                    replace H : (constablelaw08_GuardNumbers.l2 k3 y419 (([false, (a2.toList == a3.toList), (a2.toList != a3.toList), (Op.bytesLess a2.toList a3.toList), !(Op.bytesLess a3.toList a2.toList)] : List Bool)) 1 1 a0 (⟨#[]⟩ : ByteArray) 1 a1 (⟨#[]⟩ : ByteArray) 3 0 a2 3 0 a3) = some r := by first | (rw [hy419]; with_reducible exact H) | (have H2_ := (Option.bind_some _ _).symm.trans H; rw [hy419]; with_reducible exact H2_) | (have H2_ := (Option.bind_some _ _).symm.trans H; with_reducible exact H2_) | with_reducible exact H | (rw [hy419]; exact H) | exact H
                    have Ny419 := Aside0.mk hy419
                    clear hy419
                    obtain ⟨y422, hy422⟩ : ∃ y_ : List Bool, y_ = (([false, (a2.toList == a3.toList), (a2.toList != a3.toList), (Op.bytesLess a2.toList a3.toList), !(Op.bytesLess a3.toList a2.toList)] : List Bool)) := ⟨_, rfl⟩
                    replace H : (constablelaw08_GuardNumbers.l2 k3 y419 y422 1 1 a0 (⟨#[]⟩ : ByteArray) 1 a1 (⟨#[]⟩ : ByteArray) 3 0 a2 3 0 a3) = some r := by first | (rw [hy422]; with_reducible exact H) | (have H2_ := (Option.bind_some _ _).symm.trans H; rw [hy422]; with_reducible exact H2_) | (have H2_ := (Option.bind_some _ _).symm.trans H; with_reducible exact H2_) | with_reducible exact H | (rw [hy422]; exact H) | exact H
                    have Ny422 := Aside0.mk hy422
                    clear hy422
                    have H' := Aside0.mk H
                    clear H
                    go_wp2_with (first | ((with_reducible refine gate_dst (N := 11) rfl ?_); (try (refine gate_guard (by rfl) ?_; dsimp only)); refine box_event ?hg (N := 11) ?hd (cs := #[.int .i64 0, .int .i64 0, .string (⟨#[]⟩ : ByteArray)]) (t := 23) ?hr ?_; (case hd => rfl); (case hg => rfl); (case hr => first | (go_simp; done) | (go_simp; rfl)); intro gb415 hg w24 hbox hb; have n0_ := bs_ (be_ HB) hb; have n1_ := Aside0.mk (hbox); have n2_ := gs_ hg (be_ HB); have n3_ := gs_ hg (be_ HB); clear HB; have HB := n0_; have BK415 := n1_; have GW415 := n2_; have GE415 := n3_; clear n0_ n1_ n2_ n3_; clear hb hbox hg) | ((with_reducible refine gate_dst (N := 12) rfl ?_); (try (refine gate_guard (by rfl) ?_; dsimp only)); refine box_event ?hg (N := 12) ?hd (cs := #[.int .i64 0, .int .i64 0, .string (⟨#[]⟩ : ByteArray)]) (t := 23) ?hr ?_; (case hd => rfl); (case hg => rfl); (case hr => first | (go_simp; done) | (go_simp; rfl)); intro gb416 hg w25 hbox hb; have n0_ := bb_ (bu_ BK415) hb; have n1_ := bs_ (be_ HB) hb; have n2_ := Aside0.mk (hbox); have n3_ := gs_ hg (be_ HB); have n4_ := gs_ hg (be_ HB); have n5_ := nl_ hg (bu_ BK415); have n6_ := ng_ hg (bu_ BK415); clear BK415; clear HB; have BK415 := n0_; have HB := n1_; have BK416 := n2_; have GW416 := n3_; have GE416 := n4_; have NB415_416 := n5_; have NB416_415 := n6_; clear n0_ n1_ n2_ n3_ n4_ n5_ n6_; clear hb hbox hg; have hnb26 := NB415_416.out; have hnc26 := NB416_415.out; have hcz27_0 : w25.cell? ⟨gb415, 0, none⟩ = some (.int .i64 0) := (blk_cell BK415.out 0).trans rfl; have hcz27_1 : w25.cell? ⟨gb415, 1, none⟩ = some (.int .i64 0) := (blk_cell BK415.out 1).trans rfl; have hcz27_2 : w25.cell? ⟨gb415, 2, none⟩ = some (.string (⟨#[]⟩ : ByteArray)) := (blk_cell BK415.out 2).trans rfl; have hfz27_0 := blk_frozen BK415.out 0; have hfz27_1 := blk_frozen BK415.out 1; have hfz27_2 := blk_frozen BK415.out 2; have hcz28_0 : w25.cell? ⟨gb416, 0, none⟩ = some (.int .i64 0) := (blk_cell BK416.out 0).trans rfl; have hcz28_1 : w25.cell? ⟨gb416, 1, none⟩ = some (.int .i64 0) := (blk_cell BK416.out 1).trans rfl; have hcz28_2 : w25.cell? ⟨gb416, 2, none⟩ = some (.string (⟨#[]⟩ : ByteArray)) := (blk_cell BK416.out 2).trans rfl; have hfz28_0 := blk_frozen BK416.out 0; have hfz28_1 := blk_frozen BK416.out 1; have hfz28_2 := blk_frozen BK416.out 2) | ((with_reducible refine gate_dst (N := 13) rfl ?_); (try (refine gate_guard (by rfl) ?_; dsimp only)); refine box_event ?hg (N := 13) ?hd (cs := #[.int .i64 0, .int .i64 0, .string (⟨#[]⟩ : ByteArray)]) (t := 23) ?hr ?_; (case hd => rfl); (case hg => rfl); (case hr => first | (go_simp; done) | (go_simp; rfl)); intro gb417 hg w29 hbox hb; have n0_ := Aside0.mk (blk_below (o := .cells #[.int .i64 1, .int .i64 a0, .string (⟨#[]⟩ : ByteArray)] 23 (0, 0)) (bp_ BK415) hb); have n1_ := Aside0.mk (blk_below (o := .cells #[.int .i64 1, .int .i64 a1, .string (⟨#[]⟩ : ByteArray)] 23 (0, 0)) (bp_ BK416) hb); have n2_ := bs_ (be_ HB) hb; have n3_ := Aside0.mk (hbox); have n4_ := gs_ hg (be_ HB); have n5_ := gs_ hg (be_ HB); have n6_ := Aside0.mk ((by rw [hg]; exact Nat.ne_of_lt (blk_lt (o := .cells #[.int .i64 1, .int .i64 a0, .string (⟨#[]⟩ : ByteArray)] 23 (0, 0)) (bp_ BK415)) : gb415 ≠ gb417)); have n7_ := Aside0.mk ((by rw [hg]; exact Nat.ne_of_gt (blk_lt (o := .cells #[.int .i64 1, .int .i64 a0, .string (⟨#[]⟩ : ByteArray)] 23 (0, 0)) (bp_ BK415)) : gb417 ≠ gb415)); have n8_ := Aside0.mk ((by rw [hg]; exact Nat.ne_of_lt (blk_lt (o := .cells #[.int .i64 1, .int .i64 a1, .string (⟨#[]⟩ : ByteArray)] 23 (0, 0)) (bp_ BK416)) : gb416 ≠ gb417)); have n9_ := Aside0.mk ((by rw [hg]; exact Nat.ne_of_gt (blk_lt (o := .cells #[.int .i64 1, .int .i64 a1, .string (⟨#[]⟩ : ByteArray)] 23 (0, 0)) (bp_ BK416)) : gb417 ≠ gb416)); clear BK415; clear BK416; clear HB; have BK415 := n0_; have BK416 := n1_; have HB := n2_; have BK417 := n3_; have GW417 := n4_; have GE417 := n5_; have NB415_417 := n6_; have NB417_415 := n7_; have NB416_417 := n8_; have NB417_416 := n9_; clear n0_ n1_ n2_ n3_ n4_ n5_ n6_ n7_ n8_ n9_; (try clear hcz27_0 hcz27_1 hcz27_2 hfz27_0 hfz27_1 hfz27_2 hcz28_0 hcz28_1 hcz28_2 hfz28_0 hfz28_1 hfz28_2); clear hb hbox hg) | ((with_reducible refine gate_dst (N := 14) rfl ?_); (try (refine gate_guard (by rfl) ?_; dsimp only)); refine box_event ?hg (N := 14) ?hd (cs := #[.int .i64 0, .int .i64 0, .string (⟨#[]⟩ : ByteArray)]) (t := 23) ?hr ?_; (case hd => rfl); (case hg => rfl); (case hr => first | (go_simp; done) | (go_simp; rfl)); intro gb418 hg w30 hbox hb; have n0_ := bb_ (bu_ BK415) hb; have n1_ := bb_ (bu_ BK416) hb; have n2_ := bb_ (bu_ BK417) hb; have n3_ := bs_ (be_ HB) hb; have n4_ := Aside0.mk (hbox); have n5_ := gs_ hg (be_ HB); have n6_ := gs_ hg (be_ HB); have n7_ := nl_ hg (bu_ BK415); have n8_ := ng_ hg (bu_ BK415); have n9_ := nl_ hg (bu_ BK416); have n10_ := ng_ hg (bu_ BK416); have n11_ := nl_ hg (bu_ BK417); have n12_ := ng_ hg (bu_ BK417); clear BK415; clear BK416; clear BK417; clear HB; have BK415 := n0_; have BK416 := n1_; have BK417 := n2_; have HB := n3_; have BK418 := n4_; have GW418 := n5_; have GE418 := n6_; have NB415_418 := n7_; have NB418_415 := n8_; have NB416_418 := n9_; have NB418_416 := n10_; have NB417_418 := n11_; have NB418_417 := n12_; clear n0_ n1_ n2_ n3_ n4_ n5_ n6_ n7_ n8_ n9_ n10_ n11_ n12_; clear hb hbox hg; have hnb31 := NB417_415.out; have hnc31 := NB415_417.out; have hnb32 := NB417_416.out; have hnc32 := NB416_417.out; have hnb33 := NB417_418.out; have hnc33 := NB418_417.out; have hcz34_0 : w30.cell? ⟨gb417, 0, none⟩ = some (.int .i64 0) := (blk_cell BK417.out 0).trans rfl; have hcz34_1 : w30.cell? ⟨gb417, 1, none⟩ = some (.int .i64 0) := (blk_cell BK417.out 1).trans rfl; have hcz34_2 : w30.cell? ⟨gb417, 2, none⟩ = some (.string (⟨#[]⟩ : ByteArray)) := (blk_cell BK417.out 2).trans rfl; have hfz34_0 := blk_frozen BK417.out 0; have hfz34_1 := blk_frozen BK417.out 1; have hfz34_2 := blk_frozen BK417.out 2; have hnb35 := NB418_415.out; have hnc35 := NB415_418.out; have hnb36 := NB418_416.out; have hnc36 := NB416_418.out; have hcz37_0 : w30.cell? ⟨gb418, 0, none⟩ = some (.int .i64 0) := (blk_cell BK418.out 0).trans rfl; have hcz37_1 : w30.cell? ⟨gb418, 1, none⟩ = some (.int .i64 0) := (blk_cell BK418.out 1).trans rfl; have hcz37_2 : w30.cell? ⟨gb418, 2, none⟩ = some (.string (⟨#[]⟩ : ByteArray)) := (blk_cell BK418.out 2).trans rfl; have hfz37_0 := blk_frozen BK418.out 0; have hfz37_1 := blk_frozen BK418.out 1; have hfz37_2 := blk_frozen BK418.out 2) | ((with_reducible refine gate_dst (N := 104) rfl ?_); (try (refine gate_guard (by rfl) ?_; dsimp only)); refine Kd.R_lit Kd.bool _ 4 ?hg (N := 104) ?hd (xs := ([false, (a0 == a1), (a0 != a1), decide (a0 < a1), decide (a0 ≤ a1)] : List Bool)) (inner := [.bool false, .bool (a0 == a1), .bool (a0 != a1), .bool (decide (a0 < a1)), .bool (decide (a0 ≤ a1))]) (ok := fun _ => True) (okp := fun _ => True) ?hr ?hp (fun _ hk => hk) trivial (Below.refl _ _) (Nat.le_refl _) (by simp) ?_; (case hd => rfl); (case hg => rfl); (case hr => first | (go_simp; done) | (go_simp; rfl)); (case hp => exact (Reps.one (show Kd.M Kd.bool _ _ _ false [.bool false] from rfl) (Reps.one (show Kd.M Kd.bool _ _ _ (a0 == a1) [.bool (a0 == a1)] from rfl) (Reps.one (show Kd.M Kd.bool _ _ _ (a0 != a1) [.bool (a0 != a1)] from rfl) (Reps.one (show Kd.M Kd.bool _ _ _ (decide (a0 < a1)) [.bool (decide (a0 < a1))] from rfl) (Reps.one (show Kd.M Kd.bool _ _ _ (decide (a0 ≤ a1)) [.bool (decide (a0 ≤ a1))] from rfl) (Reps.none _ _))))))); intro v420 w38 ho39 hb hg_ hnew_; clear hg_ hnew_; (first | rw [← Ny419.out] at ho39 | (simp only [Int.reduceToNat] at ho39; rw [← Ny419.out] at ho39)); have n0_ := Aside0.mk (Kd.R_lower ho39 (below_size (be_ HB))); have n1_ := bb_ (bu_ BK415) hb; have n2_ := bb_ (bu_ BK416) hb; have n3_ := Aside0.mk (blk_below (o := .cells #[.int .i64 3, .int .i64 0, .string a2] 23 (0, 0)) (bp_ BK417) hb); have n4_ := Aside0.mk (blk_below (o := .cells #[.int .i64 3, .int .i64 0, .string a3] 23 (0, 0)) (bp_ BK418) hb); have n5_ := bs_ (be_ HB) hb; clear BK415; clear BK416; clear BK417; clear BK418; clear HB; have HO421 := n0_; have BK415 := n1_; have BK416 := n2_; have BK417 := n3_; have BK418 := n4_; have HB := n5_; clear n0_ n1_ n2_ n3_ n4_ n5_; (try clear hcz34_0 hcz34_1 hcz34_2 hfz34_0 hfz34_1 hfz34_2 hcz37_0 hcz37_1 hcz37_2 hfz37_0 hfz37_1 hfz37_2); clear hb ho39) | ((with_reducible refine gate_dst (N := 117) rfl ?_); (try (refine gate_guard (by rfl) ?_; dsimp only)); refine Kd.R_lit Kd.bool _ 4 ?hg (N := 117) ?hd (xs := ([false, (a2.toList == a3.toList), (a2.toList != a3.toList), (Op.bytesLess a2.toList a3.toList), !(Op.bytesLess a3.toList a2.toList)] : List Bool)) (inner := [.bool false, .bool (a2.toList == a3.toList), .bool (a2.toList != a3.toList), .bool (Op.bytesLess a2.toList a3.toList), .bool (!(Op.bytesLess a3.toList a2.toList))]) (ok := fun _ => True) (okp := fun _ => True) ?hr ?hp (fun _ hk => hk) trivial (Below.refl _ _) (Nat.le_refl _) (by simp) ?_; (case hd => rfl); (case hg => rfl); (case hr => first | (go_simp; done) | (go_simp; rfl)); (case hp => exact (Reps.one (show Kd.M Kd.bool _ _ _ false [.bool false] from rfl) (Reps.one (show Kd.M Kd.bool _ _ _ (a2.toList == a3.toList) [.bool (a2.toList == a3.toList)] from rfl) (Reps.one (show Kd.M Kd.bool _ _ _ (a2.toList != a3.toList) [.bool (a2.toList != a3.toList)] from rfl) (Reps.one (show Kd.M Kd.bool _ _ _ (Op.bytesLess a2.toList a3.toList) [.bool (Op.bytesLess a2.toList a3.toList)] from rfl) (Reps.one (show Kd.M Kd.bool _ _ _ (!(Op.bytesLess a3.toList a2.toList)) [.bool (!(Op.bytesLess a3.toList a2.toList))] from rfl) (Reps.none _ _))))))); intro v423 w40 ho41 hb hg_ hnew_; clear hg_ hnew_; (first | rw [← Ny422.out] at ho41 | (simp only [Int.reduceToNat] at ho41; rw [← Ny422.out] at ho41)); have n0_ := Aside0.mk (Kd.R_elder' (ku_ HO421.out) (Kd.R_base ho41) hb); have n1_ := Aside0.mk (Kd.R_lower (Kd.R_new' ho41 (Kd.R_lt (ku_ HO421.out))) (below_size (be_ HB))); have n2_ := bb_ (bu_ BK415) hb; have n3_ := bb_ (bu_ BK416) hb; have n4_ := bb_ (bu_ BK417) hb; have n5_ := bb_ (bu_ BK418) hb; have n6_ := bs_ (be_ HB) hb; clear HO421; clear BK415; clear BK416; clear BK417; clear BK418; clear HB; have HO421 := n0_; have HO424 := n1_; have BK415 := n2_; have BK416 := n3_; have BK417 := n4_; have BK418 := n5_; have HB := n6_; clear n0_ n1_ n2_ n3_ n4_ n5_ n6_; clear hb ho41))
                    go_loopg [17] k3 (fun kq v17 w' => ∃ (x17_4 : Int), v17 = .int .i64 x17_4 ∧ Aside0 (constablelaw08_GuardNumbers.l2 kq y419 y422 x17_4 1 a0 (⟨#[]⟩ : ByteArray) 1 a1 (⟨#[]⟩ : ByteArray) 3 0 a2 3 0 a3 = some r) ∧ Aside0 (kq ≤ k3) ∧ Aside0 (Kd.R Kd.bool 4 w' w.heap.size (fun k_ => some k_ ≠ (v423 : Value).ownBlock) v420 y419) ∧ Aside0 (Kd.R Kd.bool 4 w' w.heap.size (fun k_ => some k_ ≠ (v420 : Value).ownBlock) v423 y422) ∧ Aside0 (w'.heap[gb415]? = some (.cells #[.int .i64 1, .int .i64 a0, .string (⟨#[]⟩ : ByteArray)] 23 (0, 0))) ∧ Aside0 (w'.heap[gb416]? = some (.cells #[.int .i64 1, .int .i64 a1, .string (⟨#[]⟩ : ByteArray)] 23 (0, 0))) ∧ Aside0 (w'.heap[gb417]? = some (.cells #[.int .i64 3, .int .i64 0, .string a2] 23 (0, 0))) ∧ Aside0 (w'.heap[gb418]? = some (.cells #[.int .i64 3, .int .i64 0, .string a3] 23 (0, 0))) ∧ Aside0 (Below w.heap.size w w'))
                    case atStart => exact ⟨(1), ra_, H', ⟨Nat.le_refl _⟩, ⟨by (with_reducible repeat (first | apply Kd.R_alloc | apply Kd.R_drewN | apply Kd.R_drew)); exact Kd.R_mono HO421.out (fun _ hk => hk.2)⟩, ⟨by (with_reducible repeat (first | apply Kd.R_alloc | apply Kd.R_drewN | apply Kd.R_drew)); exact Kd.R_mono HO424.out (fun _ hk => hk.2)⟩, ⟨by (with_reducible repeat (first | refine blk_drewN ?_ _ | refine blk_drew ?_ | refine blk_alloc ?_ _)); exact BK415.out⟩, ⟨by (with_reducible repeat (first | refine blk_drewN ?_ _ | refine blk_drew ?_ | refine blk_alloc ?_ _)); exact BK416.out⟩, ⟨by (with_reducible repeat (first | refine blk_drewN ?_ _ | refine blk_drew ?_ | refine blk_alloc ?_ _)); exact BK417.out⟩, ⟨by (with_reducible repeat (first | refine blk_drewN ?_ _ | refine blk_drew ?_ | refine blk_alloc ?_ _)); exact BK418.out⟩, ⟨by repeat (first | (with_reducible first | exact HB.out | apply below_alloc | apply pw_below_drewN | apply below_drew1 | refine below_set ?_ GE415.out | refine below_set ?_ GE416.out | refine below_set ?_ GE417.out | refine below_set ?_ GE418.out) | exact HB.out)⟩⟩
                    case round =>
                      clear H'
                      try clear c1
                      try clear p1
                      try clear q1
                      try clear hx1
                      try clear c2
                      try clear p2
                      try clear q2
                      try clear hx2
                      try clear c3
                      try clear c6
                      try clear c6b0
                      try clear p6
                      try clear c7
                      try clear c7b0
                      try clear c8
                      try clear c8b0
                      try clear c9
                      try clear c9b0
                      try clear c10
                      try clear c10b0
                      try clear c10b1
                      try clear c11
                      try clear c12
                      try clear c12b0
                      try clear c13
                      try clear c13b0
                      try clear p14
                      try clear q14
                      try clear hx14
                      try clear c15
                      try clear c15b0
                      try clear p16
                      try clear q16
                      try clear hx16
                      try clear c17
                      try clear c17b0
                      try clear c18
                      try clear c18b0
                      try clear c19
                      try clear c19b0
                      try clear p20
                      try clear q20
                      try clear hx20
                      try clear c21
                      try clear c21b0
                      try clear p22
                      try clear q22
                      try clear hx22
                      try clear c23
                      try clear c23b0
                      try clear c26
                      try clear c31
                      try clear c32
                      try clear c33
                      try clear c35
                      try clear c36
                      try clear hcz27_0
                      try clear hcz27_1
                      try clear hcz27_2
                      try clear hcz28_0
                      try clear hcz28_1
                      try clear hcz28_2
                      try clear hcz34_0
                      try clear hcz34_1
                      try clear hcz34_2
                      try clear hcz37_0
                      try clear hcz37_1
                      try clear hcz37_2
                      try clear hfz27_0
                      try clear hfz27_1
                      try clear hfz27_2
                      try clear hfz28_0
                      try clear hfz28_1
                      try clear hfz28_2
                      try clear hfz34_0
                      try clear hfz34_1
                      try clear hfz34_2
                      try clear hfz37_0
                      try clear hfz37_1
                      try clear hfz37_2
                      try clear p1
                      try clear p14
                      try clear p16
                      try clear p2
                      try clear p20
                      try clear p22
                      try clear p6
                      try clear q1
                      try clear q14
                      try clear q16
                      try clear q20
                      try clear q22
                      obtain ⟨x17_4, rfl, HA, HK4, HO_15, HO_16, BK415, BK416, BK417, BK418, HB⟩ := hrel
                      cases gk with
                      | zero => exact absurd HA.out (by simp [constablelaw08_GuardNumbers.l2])
                      | succ k4 =>
                        have H := HA.out
                        clear HA
                        simp only [constablelaw08_GuardNumbers.l2] at H
                        by_cases c42 : x17_4 ≤ 4
                        · rw [if_pos c42] at H
                          have c42b0 : decide (x17_4 ≤ 4) = true := decide_eq_true c42
                          clear c42
                          replace H := Option.bind_eq_some_iff.mp H
                          obtain ⟨⟨t425, t426⟩, A430, H⟩ := H
                          replace H : ((guard_Holds.f k4 x17_4 3 0 a2 3 0 a3).bind fun bt427 => (if t426 = 0 then (if bt427.2 = 0 then (if 0 ≤ x17_4 then (if x17_4 < (y419.length : Int) then (if (t425 != (rdOf false y419 x17_4)) = true then (some false) else (if x17_4 < (y422.length : Int) then (if (bt427.1 != (rdOf false y422 x17_4)) = true then (some false) else (constablelaw08_GuardNumbers.l2 k4 y419 y422 (wrap64 (x17_4 + 1)) 1 a0 (⟨#[]⟩ : ByteArray) 1 a1 (⟨#[]⟩ : ByteArray) 3 0 a2 3 0 a3)) else (none))) else (none)) else (none)) else (some false)) else (some false))) = some r := H
                          have A43 := Aside0.mk A430
                          clear A430
                          replace H := Option.bind_eq_some_iff.mp H
                          obtain ⟨⟨t427, t428⟩, A440, H⟩ := H
                          replace H : (if t426 = 0 then (if t428 = 0 then (if 0 ≤ x17_4 then (if x17_4 < (y419.length : Int) then (if (t425 != (rdOf false y419 x17_4)) = true then (some false) else (if x17_4 < (y422.length : Int) then (if (t427 != (rdOf false y422 x17_4)) = true then (some false) else (constablelaw08_GuardNumbers.l2 k4 y419 y422 (wrap64 (x17_4 + 1)) 1 a0 (⟨#[]⟩ : ByteArray) 1 a1 (⟨#[]⟩ : ByteArray) 3 0 a2 3 0 a3)) else (none))) else (none)) else (none)) else (some false)) else (some false)) = some r := H
                          have A44 := Aside0.mk A440
                          clear A440
                          by_cases c45 : t426 = 0
                          · rw [if_pos c45] at H
                            obtain ⟨c45b0, c45b1⟩ := eqB_ c45
                            clear c45
                            by_cases c46 : t428 = 0
                            · rw [if_pos c46] at H
                              obtain ⟨c46b0, c46b1⟩ := eqB_ c46
                              clear c46
                              by_cases c47 : 0 ≤ x17_4
                              · rw [if_pos c47] at H
                                have c47b0 : decide (0 ≤ x17_4) = true := decide_eq_true c47
                                clear c47
                                by_cases c48 : x17_4 < (y419.length : Int)
                                · rw [if_pos c48] at H
                                  have c48b0 : decide (x17_4 < (y419.length : Int)) = true := decide_eq_true c48
                                  clear c48
                                  by_cases c49 : (t425 != (rdOf false y419 x17_4)) = true
                                  · rw [if_pos c49] at H
                                    have c49b0 : (t425 != (rdOf false y419 x17_4)) = true := c49
                                    (try (have c49b1 : decide (t425 = (rdOf false y419 x17_4)) = false := by simpa using c49))
                                    (try (have c49b2 : (t425 == (rdOf false y419 x17_4)) = false := by simpa using c49))
                                    (try (have c49b3 : ¬ (t425 = (rdOf false y419 x17_4)) := by simpa using c49))
                                    clear c49
                                    exact absurd ((Option.some.inj H).trans HR_.out) (by decide)
                                  · rw [if_neg c49] at H
                                    have c49b0 : (t425 != (rdOf false y419 x17_4)) = false := by simpa using c49
                                    (try (have c49b1 : decide (t425 = (rdOf false y419 x17_4)) = true := by simpa using c49))
                                    (try (have c49b2 : (t425 == (rdOf false y419 x17_4)) = true := by simpa using c49))
                                    clear c49
                                    by_cases c50 : x17_4 < (y422.length : Int)
                                    · rw [if_pos c50] at H
                                      have c50b0 : decide (x17_4 < (y422.length : Int)) = true := decide_eq_true c50
                                      clear c50
                                      by_cases c51 : (t427 != (rdOf false y422 x17_4)) = true
                                      · rw [if_pos c51] at H
                                        have c51b0 : (t427 != (rdOf false y422 x17_4)) = true := c51
                                        (try (have c51b1 : decide (t427 = (rdOf false y422 x17_4)) = false := by simpa using c51))
                                        (try (have c51b2 : (t427 == (rdOf false y422 x17_4)) = false := by simpa using c51))
                                        (try (have c51b3 : ¬ (t427 = (rdOf false y422 x17_4)) := by simpa using c51))
                                        clear c51
                                        exact absurd ((Option.some.inj H).trans HR_.out) (by decide)
                                      · rw [if_neg c51] at H
                                        have c51b0 : (t427 != (rdOf false y422 x17_4)) = false := by simpa using c51
                                        (try (have c51b1 : decide (t427 = (rdOf false y422 x17_4)) = true := by simpa using c51))
                                        (try (have c51b2 : (t427 == (rdOf false y422 x17_4)) = true := by simpa using c51))
                                        clear c51
                                        have H' := Aside0.mk H
                                        clear H
                                        have hnb52 := NB415_416.out
                                        have hnc52 := NB416_415.out
                                        have hnb53 := NB415_417.out
                                        have hnc53 := NB417_415.out
                                        have hnb54 := NB415_418.out
                                        have hnc54 := NB418_415.out
                                        have hcz55_0 : wr.cell? ⟨gb415, 0, none⟩ = some (.int .i64 1) := (blk_cell BK415.out 0).trans rfl
                                        have hcz55_1 : wr.cell? ⟨gb415, 1, none⟩ = some (.int .i64 a0) := (blk_cell BK415.out 1).trans rfl
                                        have hcz55_2 : wr.cell? ⟨gb415, 2, none⟩ = some (.string (⟨#[]⟩ : ByteArray)) := (blk_cell BK415.out 2).trans rfl
                                        have hfz55_0 := blk_frozen BK415.out 0
                                        have hfz55_1 := blk_frozen BK415.out 1
                                        have hfz55_2 := blk_frozen BK415.out 2
                                        have hnb56 := NB416_417.out
                                        have hnc56 := NB417_416.out
                                        have hnb57 := NB416_418.out
                                        have hnc57 := NB418_416.out
                                        have hcz58_0 : wr.cell? ⟨gb416, 0, none⟩ = some (.int .i64 1) := (blk_cell BK416.out 0).trans rfl
                                        have hcz58_1 : wr.cell? ⟨gb416, 1, none⟩ = some (.int .i64 a1) := (blk_cell BK416.out 1).trans rfl
                                        have hcz58_2 : wr.cell? ⟨gb416, 2, none⟩ = some (.string (⟨#[]⟩ : ByteArray)) := (blk_cell BK416.out 2).trans rfl
                                        have hfz58_0 := blk_frozen BK416.out 0
                                        have hfz58_1 := blk_frozen BK416.out 1
                                        have hfz58_2 := blk_frozen BK416.out 2
                                        go_wp2_with (first | ((with_reducible refine gate_callee (f := 10) rfl ?_); refine goesL_ (some 126) rfl rfl Try.func10 (by kernel_rfl) rfl #[.int .i64 x17_4, .agg #[.int .i64 1, .int .i64 a0, .string (⟨#[]⟩ : ByteArray)], .agg #[.int .i64 1, .int .i64 a1, .string (⟨#[]⟩ : ByteArray)]] rfl ga_ ?_; (with_reducible refine (guard_Holds.calls k4 x17_4 1 a0 (⟨#[]⟩ : ByteArray) 1 a1 (⟨#[]⟩ : ByteArray) t425 t426 _ A43.out).mono ?_); rintro e w59 ⟨rfl, hb⟩; refine ⟨_, rfl, ?_⟩; have n0_ := kb_ (ku_ HO_15.out) hb; have n1_ := kb_ (ku_ HO_16.out) hb; have n2_ := bb_ (bu_ BK415) hb; have n3_ := bb_ (bu_ BK416) hb; have n4_ := bb_ (bu_ BK417) hb; have n5_ := bb_ (bu_ BK418) hb; have n6_ := bs_ (be_ HB) hb; clear HO_15; clear HO_16; clear BK415; clear BK416; clear BK417; clear BK418; clear HB; have HO_15 := n0_; have HO_16 := n1_; have BK415 := n2_; have BK416 := n3_; have BK417 := n4_; have BK418 := n5_; have HB := n6_; clear n0_ n1_ n2_ n3_ n4_ n5_ n6_; (try clear hb); (try clear hb2); (try clear hk); (try clear hi); have hnb60 := NB417_418.out; have hnc60 := NB418_417.out; have hcz61_0 : w59.cell? ⟨gb417, 0, none⟩ = some (.int .i64 3) := (blk_cell BK417.out 0).trans rfl; have hcz61_1 : w59.cell? ⟨gb417, 1, none⟩ = some (.int .i64 0) := (blk_cell BK417.out 1).trans rfl; have hcz61_2 : w59.cell? ⟨gb417, 2, none⟩ = some (.string a2) := (blk_cell BK417.out 2).trans rfl; have hfz61_0 := blk_frozen BK417.out 0; have hfz61_1 := blk_frozen BK417.out 1; have hfz61_2 := blk_frozen BK417.out 2; have hcz62_0 : w59.cell? ⟨gb418, 0, none⟩ = some (.int .i64 3) := (blk_cell BK418.out 0).trans rfl; have hcz62_1 : w59.cell? ⟨gb418, 1, none⟩ = some (.int .i64 0) := (blk_cell BK418.out 1).trans rfl; have hcz62_2 : w59.cell? ⟨gb418, 2, none⟩ = some (.string a3) := (blk_cell BK418.out 2).trans rfl; have hfz62_0 := blk_frozen BK418.out 0; have hfz62_1 := blk_frozen BK418.out 1; have hfz62_2 := blk_frozen BK418.out 2) | ((with_reducible refine gate_callee (f := 10) rfl ?_); refine goesL_ (some 133) rfl rfl Try.func10 (by kernel_rfl) rfl #[.int .i64 x17_4, .agg #[.int .i64 3, .int .i64 0, .string a2], .agg #[.int .i64 3, .int .i64 0, .string a3]] rfl ga_ ?_; (with_reducible refine (guard_Holds.calls k4 x17_4 3 0 a2 3 0 a3 t427 t428 _ A44.out).mono ?_); rintro e w63 ⟨rfl, hb⟩; refine ⟨_, rfl, ?_⟩; have n0_ := kb_ (ku_ HO_15.out) hb; have n1_ := kb_ (ku_ HO_16.out) hb; have n2_ := bb_ (bu_ BK415) hb; have n3_ := bb_ (bu_ BK416) hb; have n4_ := bb_ (bu_ BK417) hb; have n5_ := bb_ (bu_ BK418) hb; have n6_ := bs_ (be_ HB) hb; clear HO_15; clear HO_16; clear BK415; clear BK416; clear BK417; clear BK418; clear HB; have HO_15 := n0_; have HO_16 := n1_; have BK415 := n2_; have BK416 := n3_; have BK417 := n4_; have BK418 := n5_; have HB := n6_; clear n0_ n1_ n2_ n3_ n4_ n5_ n6_; (try clear hcz61_0 hcz61_1 hcz61_2 hfz61_0 hfz61_1 hfz61_2 hcz62_0 hcz62_1 hcz62_2 hfz62_0 hfz62_1 hfz62_2); (try clear hb); (try clear hb2); (try clear hk); (try clear hi); obtain ⟨Ao64, co64, eo64⟩ := Kd.R_slice HO_15.out; subst eo64; have p429 : 0 ≤ (x17_4 : Int) := dt_; have q429 : x17_4 < (y419.length : Int) := dt_; obtain ⟨ad429, e429, hx429_0⟩ := Kd.at_bool (Kd.R_reads' HO_15.out).2.2 x17_4 p429 q429; cases e429; replace p429 := eq_true p429; replace q429 := eq_true q429; obtain ⟨Ao65, co65, eo65⟩ := Kd.R_slice HO_16.out; subst eo65; have p430 : 0 ≤ (x17_4 : Int) := dt_; have q430 : x17_4 < (y422.length : Int) := dt_; obtain ⟨ad430, e430, hx430_0⟩ := Kd.at_bool (Kd.R_reads' HO_16.out).2.2 x17_4 p430 q430; cases e430; replace p430 := eq_true p430; replace q430 := eq_true q430))
                                        go_roundg k4
                                        case measure => have := HJ4.out; have := HK2.out; have := HK3.out; have := HK4.out; omega
                                        case rel => exact ⟨(wrap64 (x17_4 + 1)), ra_, H', ⟨by have := HJ4.out; have := HK2.out; have := HK3.out; have := HK4.out; omega⟩, ⟨by (with_reducible repeat (first | apply Kd.R_alloc | apply Kd.R_drewN | apply Kd.R_drew)); exact HO_15.out⟩, ⟨by (with_reducible repeat (first | apply Kd.R_alloc | apply Kd.R_drewN | apply Kd.R_drew)); exact HO_16.out⟩, ⟨by (with_reducible repeat (first | refine blk_drewN ?_ _ | refine blk_drew ?_ | refine blk_alloc ?_ _)); exact BK415.out⟩, ⟨by (with_reducible repeat (first | refine blk_drewN ?_ _ | refine blk_drew ?_ | refine blk_alloc ?_ _)); exact BK416.out⟩, ⟨by (with_reducible repeat (first | refine blk_drewN ?_ _ | refine blk_drew ?_ | refine blk_alloc ?_ _)); exact BK417.out⟩, ⟨by (with_reducible repeat (first | refine blk_drewN ?_ _ | refine blk_drew ?_ | refine blk_alloc ?_ _)); exact BK418.out⟩, ⟨by repeat (first | (with_reducible first | exact HB.out | apply below_alloc | apply pw_below_drewN | apply below_drew1 | refine below_set ?_ GE415.out | refine below_set ?_ GE416.out | refine below_set ?_ GE417.out | refine below_set ?_ GE418.out) | exact HB.out)⟩⟩
                                    · rw [if_neg c50] at H
                                      exact absurd H (by simp)
                                · rw [if_neg c48] at H
                                  exact absurd H (by simp)
                              · rw [if_neg c47] at H
                                exact absurd H (by simp)
                            · rw [if_neg c46] at H
                              obtain ⟨c46b0, c46b1⟩ := neB_ c46
                              exact absurd ((Option.some.inj H).trans HR_.out) (by decide)
                          · rw [if_neg c45] at H
                            obtain ⟨c45b0, c45b1⟩ := neB_ c45
                            exact absurd ((Option.some.inj H).trans HR_.out) (by decide)
                        · rw [if_neg c42] at H
                          have c42b0 : decide (x17_4 ≤ 4) = false := decide_eq_false c42
                          clear c42
                          replace H := Option.bind_eq_some_iff.mp H
                          obtain ⟨⟨t431, t432⟩, A660, H⟩ := H
                          replace H : ((guard_Holds.f k4 3 1 a0 (⟨#[]⟩ : ByteArray) 3 0 a2).bind fun bt433 => ((guard_Holds.f k4 2 1 a0 (⟨#[]⟩ : ByteArray) 3 0 a2).bind fun bt435 => (if t432 = 1 then (if bt433.2 = 3 then (if bt435.2 = 0 then (if bt435.1 = true then ((constablelaw08_wakes.f k4).bind fun t437 => (some t437)) else (some false)) else (some false)) else (some false)) else (some false)))) = some r := H
                          have A66 := Aside0.mk A660
                          clear A660
                          replace H := Option.bind_eq_some_iff.mp H
                          obtain ⟨⟨t433, t434⟩, A670, H⟩ := H
                          replace H : ((guard_Holds.f k4 2 1 a0 (⟨#[]⟩ : ByteArray) 3 0 a2).bind fun bt435 => (if t432 = 1 then (if t434 = 3 then (if bt435.2 = 0 then (if bt435.1 = true then ((constablelaw08_wakes.f k4).bind fun t437 => (some t437)) else (some false)) else (some false)) else (some false)) else (some false))) = some r := H
                          have A67 := Aside0.mk A670
                          clear A670
                          replace H := Option.bind_eq_some_iff.mp H
                          obtain ⟨⟨t435, t436⟩, A680, H⟩ := H
                          replace H : (if t432 = 1 then (if t434 = 3 then (if t436 = 0 then (if t435 = true then ((constablelaw08_wakes.f k4).bind fun t437 => (some t437)) else (some false)) else (some false)) else (some false)) else (some false)) = some r := H
                          have A68 := Aside0.mk A680
                          clear A680
                          by_cases c69 : t432 = 1
                          · rw [if_pos c69] at H
                            obtain ⟨c69b0, c69b1⟩ := eqB_ c69
                            clear c69
                            by_cases c70 : t434 = 3
                            · rw [if_pos c70] at H
                              obtain ⟨c70b0, c70b1⟩ := eqB_ c70
                              clear c70
                              by_cases c71 : t436 = 0
                              · rw [if_pos c71] at H
                                obtain ⟨c71b0, c71b1⟩ := eqB_ c71
                                clear c71
                                by_cases c72 : t435 = true
                                · subst c72
                                  have H1 : ((constablelaw08_wakes.f k4).bind fun t437 => (some t437)) = some r := by rw [if_pos rfl] at H; exact H
                                  clear H
                                  have H := H1
                                  clear H1
                                  replace H := Option.bind_eq_some_iff.mp H
                                  obtain ⟨t437, A730, H⟩ := H
                                  replace H : (some t437) = some r := H
                                  have A73 := Aside0.mk A730
                                  clear A730
                                  obtain rfl := Option.some.inj H
                                  have hnb74 := NB415_416.out
                                  have hnc74 := NB416_415.out
                                  have hnb75 := NB415_417.out
                                  have hnc75 := NB417_415.out
                                  have hnb76 := NB415_418.out
                                  have hnc76 := NB418_415.out
                                  have hcz77_0 : wr.cell? ⟨gb415, 0, none⟩ = some (.int .i64 1) := (blk_cell BK415.out 0).trans rfl
                                  have hcz77_1 : wr.cell? ⟨gb415, 1, none⟩ = some (.int .i64 a0) := (blk_cell BK415.out 1).trans rfl
                                  have hcz77_2 : wr.cell? ⟨gb415, 2, none⟩ = some (.string (⟨#[]⟩ : ByteArray)) := (blk_cell BK415.out 2).trans rfl
                                  have hfz77_0 := blk_frozen BK415.out 0
                                  have hfz77_1 := blk_frozen BK415.out 1
                                  have hfz77_2 := blk_frozen BK415.out 2
                                  have hnb78 := NB416_417.out
                                  have hnc78 := NB417_416.out
                                  have hnb79 := NB416_418.out
                                  have hnc79 := NB418_416.out
                                  have hcz80_0 : wr.cell? ⟨gb416, 0, none⟩ = some (.int .i64 1) := (blk_cell BK416.out 0).trans rfl
                                  have hcz80_1 : wr.cell? ⟨gb416, 1, none⟩ = some (.int .i64 a1) := (blk_cell BK416.out 1).trans rfl
                                  have hcz80_2 : wr.cell? ⟨gb416, 2, none⟩ = some (.string (⟨#[]⟩ : ByteArray)) := (blk_cell BK416.out 2).trans rfl
                                  have hfz80_0 := blk_frozen BK416.out 0
                                  have hfz80_1 := blk_frozen BK416.out 1
                                  have hfz80_2 := blk_frozen BK416.out 2
                                  go_wp2_with (first | ((with_reducible refine gate_callee (f := 10) rfl ?_); refine goesL_ (some 161) rfl rfl Try.func10 (by kernel_rfl) rfl #[.int .i64 5, .agg #[.int .i64 1, .int .i64 a0, .string (⟨#[]⟩ : ByteArray)], .agg #[.int .i64 1, .int .i64 a1, .string (⟨#[]⟩ : ByteArray)]] rfl ga_ ?_; (with_reducible refine (guard_Holds.calls k4 5 1 a0 (⟨#[]⟩ : ByteArray) 1 a1 (⟨#[]⟩ : ByteArray) t431 t432 _ A66.out).mono ?_); rintro e w81 ⟨rfl, hb⟩; refine ⟨_, rfl, ?_⟩; have n0_ := kb_ (ku_ HO_15.out) hb; have n1_ := kb_ (ku_ HO_16.out) hb; have n2_ := bb_ (bu_ BK415) hb; have n3_ := bb_ (bu_ BK416) hb; have n4_ := bb_ (bu_ BK417) hb; have n5_ := bb_ (bu_ BK418) hb; have n6_ := bs_ (be_ HB) hb; clear HO_15; clear HO_16; clear BK415; clear BK416; clear BK417; clear BK418; clear HB; have HO_15 := n0_; have HO_16 := n1_; have BK415 := n2_; have BK416 := n3_; have BK417 := n4_; have BK418 := n5_; have HB := n6_; clear n0_ n1_ n2_ n3_ n4_ n5_ n6_; (try clear hb); (try clear hb2); (try clear hk); (try clear hi); have hcz82_0 : w81.cell? ⟨gb415, 0, none⟩ = some (.int .i64 1) := (blk_cell BK415.out 0).trans rfl; have hcz82_1 : w81.cell? ⟨gb415, 1, none⟩ = some (.int .i64 a0) := (blk_cell BK415.out 1).trans rfl; have hcz82_2 : w81.cell? ⟨gb415, 2, none⟩ = some (.string (⟨#[]⟩ : ByteArray)) := (blk_cell BK415.out 2).trans rfl; have hfz82_0 := blk_frozen BK415.out 0; have hfz82_1 := blk_frozen BK415.out 1; have hfz82_2 := blk_frozen BK415.out 2; have hnb83 := NB417_418.out; have hnc83 := NB418_417.out; have hcz84_0 : w81.cell? ⟨gb417, 0, none⟩ = some (.int .i64 3) := (blk_cell BK417.out 0).trans rfl; have hcz84_1 : w81.cell? ⟨gb417, 1, none⟩ = some (.int .i64 0) := (blk_cell BK417.out 1).trans rfl; have hcz84_2 : w81.cell? ⟨gb417, 2, none⟩ = some (.string a2) := (blk_cell BK417.out 2).trans rfl; have hfz84_0 := blk_frozen BK417.out 0; have hfz84_1 := blk_frozen BK417.out 1; have hfz84_2 := blk_frozen BK417.out 2) | ((with_reducible refine gate_callee (f := 10) rfl ?_); refine goesL_ (some 167) rfl rfl Try.func10 (by kernel_rfl) rfl #[.int .i64 3, .agg #[.int .i64 1, .int .i64 a0, .string (⟨#[]⟩ : ByteArray)], .agg #[.int .i64 3, .int .i64 0, .string a2]] rfl ga_ ?_; (with_reducible refine (guard_Holds.calls k4 3 1 a0 (⟨#[]⟩ : ByteArray) 3 0 a2 t433 t434 _ A67.out).mono ?_); rintro e w85 ⟨rfl, hb⟩; refine ⟨_, rfl, ?_⟩; have n0_ := kb_ (ku_ HO_15.out) hb; have n1_ := kb_ (ku_ HO_16.out) hb; have n2_ := bb_ (bu_ BK415) hb; have n3_ := bb_ (bu_ BK416) hb; have n4_ := bb_ (bu_ BK417) hb; have n5_ := bb_ (bu_ BK418) hb; have n6_ := bs_ (be_ HB) hb; clear HO_15; clear HO_16; clear BK415; clear BK416; clear BK417; clear BK418; clear HB; have HO_15 := n0_; have HO_16 := n1_; have BK415 := n2_; have BK416 := n3_; have BK417 := n4_; have BK418 := n5_; have HB := n6_; clear n0_ n1_ n2_ n3_ n4_ n5_ n6_; (try clear hcz82_0 hcz82_1 hcz82_2 hfz82_0 hfz82_1 hfz82_2 hcz84_0 hcz84_1 hcz84_2 hfz84_0 hfz84_1 hfz84_2); (try clear hb); (try clear hb2); (try clear hk); (try clear hi); have hcz86_0 : w85.cell? ⟨gb415, 0, none⟩ = some (.int .i64 1) := (blk_cell BK415.out 0).trans rfl; have hcz86_1 : w85.cell? ⟨gb415, 1, none⟩ = some (.int .i64 a0) := (blk_cell BK415.out 1).trans rfl; have hcz86_2 : w85.cell? ⟨gb415, 2, none⟩ = some (.string (⟨#[]⟩ : ByteArray)) := (blk_cell BK415.out 2).trans rfl; have hfz86_0 := blk_frozen BK415.out 0; have hfz86_1 := blk_frozen BK415.out 1; have hfz86_2 := blk_frozen BK415.out 2; have hcz87_0 : w85.cell? ⟨gb417, 0, none⟩ = some (.int .i64 3) := (blk_cell BK417.out 0).trans rfl; have hcz87_1 : w85.cell? ⟨gb417, 1, none⟩ = some (.int .i64 0) := (blk_cell BK417.out 1).trans rfl; have hcz87_2 : w85.cell? ⟨gb417, 2, none⟩ = some (.string a2) := (blk_cell BK417.out 2).trans rfl; have hfz87_0 := blk_frozen BK417.out 0; have hfz87_1 := blk_frozen BK417.out 1; have hfz87_2 := blk_frozen BK417.out 2) | ((with_reducible refine gate_callee (f := 10) rfl ?_); refine goesL_ (some 173) rfl rfl Try.func10 (by kernel_rfl) rfl #[.int .i64 2, .agg #[.int .i64 1, .int .i64 a0, .string (⟨#[]⟩ : ByteArray)], .agg #[.int .i64 3, .int .i64 0, .string a2]] rfl ga_ ?_; (with_reducible refine (guard_Holds.calls k4 2 1 a0 (⟨#[]⟩ : ByteArray) 3 0 a2 true t436 _ A68.out).mono ?_); rintro e w88 ⟨rfl, hb⟩; refine ⟨_, rfl, ?_⟩; have n0_ := kb_ (ku_ HO_15.out) hb; have n1_ := kb_ (ku_ HO_16.out) hb; have n2_ := bb_ (bu_ BK415) hb; have n3_ := bb_ (bu_ BK416) hb; have n4_ := bb_ (bu_ BK417) hb; have n5_ := bb_ (bu_ BK418) hb; have n6_ := bs_ (be_ HB) hb; clear HO_15; clear HO_16; clear BK415; clear BK416; clear BK417; clear BK418; clear HB; have HO_15 := n0_; have HO_16 := n1_; have BK415 := n2_; have BK416 := n3_; have BK417 := n4_; have BK418 := n5_; have HB := n6_; clear n0_ n1_ n2_ n3_ n4_ n5_ n6_; (try clear hcz86_0 hcz86_1 hcz86_2 hfz86_0 hfz86_1 hfz86_2 hcz87_0 hcz87_1 hcz87_2 hfz87_0 hfz87_1 hfz87_2); (try clear hb); (try clear hb2); (try clear hk); (try clear hi)) | (go_at_call 17; (with_reducible refine (constablelaw08_wakes.calls k4  t437 _ A73.out HR_.out).mono ?_); rintro e w89 ⟨rfl, hb⟩; have n0_ := kb_ (ku_ HO_15.out) hb; have n1_ := kb_ (ku_ HO_16.out) hb; have n2_ := bb_ (bu_ BK415) hb; have n3_ := bb_ (bu_ BK416) hb; have n4_ := bb_ (bu_ BK417) hb; have n5_ := bb_ (bu_ BK418) hb; have n6_ := bs_ (be_ HB) hb; clear HO_15; clear HO_16; clear BK415; clear BK416; clear BK417; clear BK418; clear HB; have HO_15 := n0_; have HO_16 := n1_; have BK415 := n2_; have BK416 := n3_; have BK417 := n4_; have BK418 := n5_; have HB := n6_; clear n0_ n1_ n2_ n3_ n4_ n5_ n6_; (try clear hb); (try clear hb2); (try clear hk); (try clear hi)))
                                  go_ret
                                  exact ⟨by first | rfl | (simp [errW_none, errW_some] <;> rfl) | (simp [*, errW_none, errW_some] <;> rfl), by repeat (first | (with_reducible first | exact HB.out | apply below_alloc | apply pw_below_drewN | apply below_drew1 | refine below_set ?_ GE415.out | refine below_set ?_ GE416.out | refine below_set ?_ GE417.out | refine below_set ?_ GE418.out) | exact HB.out)⟩
                                · replace c72 := Bool.eq_false_iff.mpr c72
                                  subst c72
                                  have H1 : (some false) = some r := by rw [if_neg (show ¬ (false = true) by decide)] at H; exact H
                                  clear H
                                  have H := H1
                                  clear H1
                                  exact absurd ((Option.some.inj H).trans HR_.out) (by decide)
                              · rw [if_neg c71] at H
                                obtain ⟨c71b0, c71b1⟩ := neB_ c71
                                exact absurd ((Option.some.inj H).trans HR_.out) (by decide)
                            · rw [if_neg c70] at H
                              obtain ⟨c70b0, c70b1⟩ := neB_ c70
                              exact absurd ((Option.some.inj H).trans HR_.out) (by decide)
                          · rw [if_neg c69] at H
                            obtain ⟨c69b0, c69b1⟩ := neB_ c69
                            exact absurd ((Option.some.inj H).trans HR_.out) (by decide)
def constablelaw08_GuardNumbers.Pure : Prop := ∀ (a0 : Int) (a1 : Int) (a2 : ByteArray) (a3 : ByteArray), (Lit.int .i64 a0).wf = true → (Lit.int .i64 a1).wf = true → a2.size ≤ 140737488351232 → a3.size ≤ 140737488351232 → ∃ k, constablelaw08_GuardNumbers.f k a0 a1 a2 a3 = some true
theorem constablelaw08_GuardNumbers.walk (P : constablelaw08_GuardNumbers.Pure) (a0 : Int) (a1 : Int) (a2 : ByteArray) (a3 : ByteArray) (w : World) (w0 : (Lit.int .i64 a0).wf = true) (w1 : (Lit.int .i64 a1).wf = true) (w2 : a2.size ≤ 140737488351232) (w3 : a3.size ≤ 140737488351232) :
    Calls Try.prog 6 #[.int .i64 a0, .int .i64 a1, .string a2, .string a3] w fun e w' => e = .returned (.bool true) ∧ Below w.heap.size w w' := by
  obtain ⟨k, h⟩ := P a0 a1 a2 a3 w0 w1 w2 w3
  refine (constablelaw08_GuardNumbers.calls k a0 a1 a2 a3 true w h rfl).mono ?_
  rintro e w' ⟨rfl, hd⟩
  exact ⟨rfl, hd⟩
end Go.Proofs.Ytaopajmpifenoaa.P
end
section
namespace Go.Proofs.Ytaopajmpifenoaa.P
open Go.RowKit Go.Proofs.YtaopajmpifenoaaW.PrintWords Go.Proofs.YtaopajmpifenoaaW.PrintLast Go.Proofs.YtaopajmpifenoaaW.PrintMore
theorem evPos {α : Type} {c : Prop} [Decidable c] {f g : Nat → Option α} {r : α} (h : c) (k : Ev f r) : Ev (fun n => if c then f n else g n) r := Ev.congr (fun _ => if_pos h) k
theorem evNeg {α : Type} {c : Prop} [Decidable c] {f g : Nat → Option α} {r : α} (h : ¬ c) (k : Ev g r) : Ev (fun n => if c then f n else g n) r := Ev.congr (fun _ => if_neg h) k
theorem evSome {α : Type} {a r : α} (h : a = r) : Ev (fun _ => some a) r := ⟨0, fun _ _ => by rw [h]⟩
theorem evShift {α : Type} {g : Nat → Option α} {r : α} (k : Ev (fun n => g (n + 1)) r) : Ev g r := Ev.step (fun _ => rfl) k
theorem evBind0 {α β : Type} {g : Option α} {f : Nat → α → Option β} {a : α} {r : β} (h : g = some a) (k : Ev (fun n => f n a) r) : Ev (fun n => g.bind (f n)) r := by subst h; exact k
theorem evCond {α : Type} {b : Bool} {f g : Nat → Option α} {r : α} (h1 : b = true → Ev f r) (h2 : b = false → Ev g r) : Ev (fun n => if b = true then f n else g n) r := by
  cases b with
  | true => exact evPos rfl (h1 rfl)
  | false => exact evNeg (by decide) (h2 rfl)
theorem evIf {α : Type} {c : Prop} [Decidable c] {f g : Nat → Option α} {r : α} (h1 : c → Ev f r) (h2 : ¬ c → Ev g r) : Ev (fun n => if c then f n else g n) r := by
  by_cases h : c
  · exact evPos h (h1 h)
  · exact evNeg h (h2 h)
end Go.Proofs.Ytaopajmpifenoaa.P
end
section
namespace Go.Proofs.Ytaopajmpifenoaa.P
open Go.RowKit Go.Proofs.YtaopajmpifenoaaW.PrintWords Go.Proofs.YtaopajmpifenoaaW.PrintLast Go.Proofs.YtaopajmpifenoaaW.PrintMore
theorem len_codes (s : ByteArray) : (bytesOf s).length = s.size := by simp [bytesOf]
theorem bt_codes (s : ByteArray) (i : Int) : bt s i = rd (bytesOf s) i := (rd_bytesOf s i).symm
theorem codes_inj {s t : ByteArray} (h : bytesOf s = bytesOf t) : s = t := by
  have h2 : s.data.toList = t.data.toList := by
    unfold bytesOf at h
    have inj : ∀ (a b : List UInt8), a.map (fun b => ((b.toNat : Nat) : Int)) = b.map (fun b => ((b.toNat : Nat) : Int)) → a = b := by
      intro a
      induction a with
      | nil => intro b hb; cases b with
        | nil => rfl
        | cons y b => simp at hb
      | cons x a ih => intro b hb; cases b with
        | nil => simp at hb
        | cons y b =>
          simp only [List.map_cons, List.cons.injEq] at hb
          have e : x = y := UInt8.toNat_inj.1 (by omega)
          rw [e, ih b hb.2]
    exact inj _ _ h
  cases s with | mk a => cases t with | mk b => cases a; cases b; simp at h2; rw [h2]
theorem tl_data (s : ByteArray) : s.toList = s.data.toList := Lib.toList_data s
theorem tl_inj {s t : ByteArray} : s.toList = t.toList ↔ s = t := by
  constructor
  · intro h
    rw [tl_data, tl_data] at h
    exact codes_inj (by unfold bytesOf; rw [h])
  · intro h; rw [h]
theorem tl_beq (s t : ByteArray) : (s.toList == t.toList) = decide (s = t) := by
  rw [Bool.eq_iff_iff, beq_iff_eq, decide_eq_true_eq, tl_inj]
theorem tl_nil {s : ByteArray} : s.toList = [] ↔ s = ⟨#[]⟩ := by
  rw [← tl_inj]
  have : (⟨#[]⟩ : ByteArray).toList = [] := by rw [tl_data]
  rw [this]
theorem tl_beq_nil (s : ByteArray) : (s.toList == ([] : List UInt8)) = decide (s = ⟨#[]⟩) := by
  rw [Bool.eq_iff_iff, beq_iff_eq, decide_eq_true_eq, tl_nil]
theorem size_zero {s : ByteArray} : s.size = 0 ↔ s = ⟨#[]⟩ := by
  constructor
  · intro h
    apply codes_inj
    have : (bytesOf s).length = 0 := by rw [len_codes]; exact h
    rw [List.eq_nil_of_length_eq_zero this]; rfl
  · intro h; rw [h]; rfl
theorem rd_mid {p : List Int} {x : Int} {l : List Int} : rd (p ++ x :: l) p.length = x := by simp [rd, List.getD_eq_getElem?_getD]
theorem codes_split (s : ByteArray) (i : Nat) (h : i < s.size) : ∃ x, (bytesOf s).drop i = x :: (bytesOf s).drop (i + 1) ∧ bt s i = x := by
  have hl : i < (bytesOf s).length := by rw [len_codes]; exact h
  refine ⟨(bytesOf s)[i], ?_, ?_⟩
  · exact List.drop_eq_getElem_cons hl
  · rw [bt_codes]
    simp [rd, List.getD_eq_getElem?_getD, hl]
theorem back_ind {ρ : Type} (n : Nat) (l : Nat → Int → Option ρ) (spec : Nat → ρ) (hend : Ev (fun k => l k n) (spec n))
    (hstep : ∀ i : Nat, i < n → Ev (fun k => l k ((i + 1 : Nat) : Int)) (spec (i + 1)) → Ev (fun k => l k i) (spec i)) : ∀ i : Nat, i ≤ n → Ev (fun k => l k i) (spec i) := by
  intro i hi
  obtain ⟨d, rfl⟩ : ∃ d, n = i + d := ⟨n - i, by omega⟩
  induction d generalizing i with
  | zero => exact hend
  | succ d ih =>
    refine hstep i (by omega) ?_
    have := ih (i + 1) (by rw [show i + 1 + d = i + (d + 1) by omega]; exact hend) (fun j hj => hstep j (by omega)) (by omega)
    exact this
theorem wrap_succ {i n : Nat} (h : i < n) (hn : n ≤ 9223372036854775807) : wrap64 ((i : Int) + 1) = ((i + 1 : Nat) : Int) := by unfold wrap64; omega
theorem rdOf_nth {α : Type} (d : α) (l : List α) (i : Nat) (h : i < l.length) : rdOf d l i = l[i] := by simp [rdOf, List.getD_eq_getElem?_getD, h]
end Go.Proofs.Ytaopajmpifenoaa.P
end
section
namespace Go.Proofs.Ytaopajmpifenoaa.P
open Go.RowKit Go.Proofs.YtaopajmpifenoaaW.PrintWords Go.Proofs.YtaopajmpifenoaaW.PrintLast Go.Proofs.YtaopajmpifenoaaW.PrintMore
def InB (a : Int) : Prop := -4611686018427387904 ≤ a ∧ a ≤ 4611686018427387904
instance (a : Int) : Decidable (InB a) := inferInstanceAs (Decidable (_ ∧ _))
def doS (kind a b : Int) : Int × Int :=
  if kind = 3 ∨ kind = 4 ∨ kind = 5 then
    if InB a ∧ InB b then
      if InB (if kind = 3 then a + b else if kind = 4 then a - b else a * b) then (if kind = 3 then a + b else if kind = 4 then a - b else a * b, 0) else (0, 4)
    else (0, 4)
  else (0, 3)
theorem InB_iff (a : Int) : InB a ↔ -4611686018427387904 ≤ a ∧ a ≤ 4611686018427387904 := Iff.rfl
theorem num_in_eq (a : Int) : num_in.f a = some (decide (InB a)) := by
  unfold num_in.f
  split
  · congr 1; rw [decide_eq_decide, InB_iff]; omega
  · congr 1; symm; rw [decide_eq_false_iff_not, InB_iff]; omega
theorem num_add_eq {a b : Int} (ha : InB a) (hb : InB b) : num_add.f a b = some (if InB (a + b) then (a + b, true) else (0, false)) := by
  rw [InB_iff] at ha hb
  unfold num_add.f wrap64
  split
  · split
    · rw [if_neg (by rw [InB_iff]; omega)]
    · rw [if_neg (by omega), if_pos (by rw [InB_iff]; omega)]; congr 2; omega
  · split
    · split
      · rw [if_neg (by rw [InB_iff]; omega)]
      · rw [if_pos (by rw [InB_iff]; omega)]; congr 2; omega
    · rw [if_pos (by rw [InB_iff]; omega)]; congr 2; omega
theorem num_size_eq {a : Int} (ha : InB a) : num_size.f a = some (if a < 0 then -a else a) := by
  rw [InB_iff] at ha
  unfold num_size.f wrap64
  split <;> (congr 1; rw [IntKind.wrap_u64]; omega)
theorem and_low {a : Int} (h0 : 0 ≤ a) (h1 : a < 18446744073709551616) : Go.bits .and .u64 a 4294967295 = a % 4294967296 :=
  bits_mask .u64 64 (by decide) (fun n h0 h1 => by rw [IntKind.wrap_u64]; omega) 32 (by decide) a h0 h1
theorem mul_parts (a b : Int) : a * b = (a / 4294967296) * (b / 4294967296) * 18446744073709551616 + ((a / 4294967296) * (b % 4294967296) + (a % 4294967296) * (b / 4294967296)) * 4294967296 + (a % 4294967296) * (b % 4294967296) := by
  have ha : a = 4294967296 * (a / 4294967296) + a % 4294967296 := by omega
  have hb : b = 4294967296 * (b / 4294967296) + b % 4294967296 := by omega
  generalize a / 4294967296 = x at *
  generalize a % 4294967296 = y at *
  generalize b / 4294967296 = z at *
  generalize b % 4294967296 = t at *
  subst ha hb
  grind
theorem mul_le2 {a b m n : Int} (h0 : 0 ≤ a) (h1 : a ≤ m) (h2 : 0 ≤ b) (h3 : b ≤ n) : 0 ≤ a * b ∧ a * b ≤ m * n :=
  ⟨Int.mul_nonneg h0 h2, Int.mul_le_mul h1 h3 h2 (by omega)⟩
theorem bits_Mul64_eq {a b : Int} (ha : 0 ≤ a) (ha' : a ≤ 4611686018427387904) (hb : 0 ≤ b) (hb' : b ≤ 4611686018427387904) :
    bits_Mul64.f a b = some (a * b / 18446744073709551616, a * b % 18446744073709551616) := by
  unfold bits_Mul64.f
  simp only [and_low ha (by omega), and_low hb (by omega)]
  obtain ⟨p0, p1⟩ := mul_le2 (a := a / 4294967296) (m := 1073741824) (b := b / 4294967296) (n := 1073741824) (by omega) (by omega) (by omega) (by omega)
  obtain ⟨q0, q1⟩ := mul_le2 (a := a / 4294967296) (m := 1073741824) (b := b % 4294967296) (n := 4294967295) (by omega) (by omega) (by omega) (by omega)
  obtain ⟨r0, r1⟩ := mul_le2 (a := a % 4294967296) (m := 4294967295) (b := b / 4294967296) (n := 1073741824) (by omega) (by omega) (by omega) (by omega)
  obtain ⟨s0, s1⟩ := mul_le2 (a := a % 4294967296) (m := 4294967295) (b := b % 4294967296) (n := 4294967295) (by omega) (by omega) (by omega) (by omega)
  have hab := mul_parts a b
  generalize (a / 4294967296) * (b / 4294967296) = p at *
  generalize (a / 4294967296) * (b % 4294967296) = q at *
  generalize (a % 4294967296) * (b / 4294967296) = r at *
  generalize (a % 4294967296) * (b % 4294967296) = s at *
  generalize a * b = x at *
  subst hab
  have w : ∀ n : Int, 0 ≤ n → n < 18446744073709551616 → IntKind.u64.wrap n = n := fun n h0 h1 => by rw [IntKind.wrap_u64]; omega
  rw [w p (by omega) (by omega), w q (by omega) (by omega), w s (by omega) (by omega), w r (by omega) (by omega)]
  rw [w (q + s / 4294967296) (by omega) (by omega)]
  rw [and_low (by omega) (by omega)]
  rw [w ((q + s / 4294967296) % 4294967296 + r) (by omega) (by omega)]
  rw [w (p + (q + s / 4294967296) / 4294967296) (by omega) (by omega)]
  rw [w (p + (q + s / 4294967296) / 4294967296 + _) (by omega) (by omega)]
  rw [IntKind.wrap_u64]
  congr 2
  omega
theorem abs_mul (a b : Int) : (if a < 0 then -a else a) * (if b < 0 then -b else b) = if (decide (a < 0) != decide (b < 0)) = true then -(a * b) else a * b := by
  by_cases h1 : a < 0 <;> by_cases h2 : b < 0 <;> simp [h1, h2, Int.neg_mul, Int.mul_neg]
theorem num_mul_eq {a b : Int} (ha : InB a) (hb : InB b) (k : Nat) : num_mul.f (k + 1) a b = some (if InB (a * b) then (a * b, true) else (0, false)) := by
  rw [InB_iff] at ha hb
  unfold num_mul.f
  rw [num_size_eq ha, num_size_eq hb]
  simp only [Option.bind_some]
  rw [bits_Mul64_eq (by split <;> omega) (by split <;> omega) (by split <;> omega) (by split <;> omega)]
  simp only [Option.bind_some, num_mul.j0]
  have hm := abs_mul a b
  have h0 : 0 ≤ (if a < 0 then -a else a) * (if b < 0 then -b else b) := Int.mul_nonneg (by split <;> omega) (by split <;> omega)
  have h1 := (mul_le2 (a := if a < 0 then -a else a) (b := if b < 0 then -b else b) (m := 4611686018427387904) (n := 4611686018427387904) (by split <;> omega) (by split <;> omega) (by split <;> omega) (by split <;> omega)).2
  generalize (if a < 0 then -a else a) * (if b < 0 then -b else b) = x at *
  generalize a * b = y at *
  by_cases hs : (decide (a < 0) != decide (b < 0)) = true
  · rw [if_pos hs] at hm
    simp only [hs, if_true, wrap64]
    split
    · rw [if_neg (by rw [InB_iff]; omega)]
    · by_cases hx : x % 18446744073709551616 > 4611686018427387904
      · rw [decide_eq_true hx, if_pos rfl, if_neg (by rw [InB_iff]; omega)]
      · rw [decide_eq_false hx, if_neg (by decide), if_pos (by rw [InB_iff]; omega)]; congr 2; omega
  · rw [if_neg hs] at hm
    replace hs := Bool.eq_false_iff.mpr hs
    simp only [hs, Bool.false_eq_true, if_false, if_true, wrap64]
    split
    · rw [if_neg (by rw [InB_iff]; omega)]
    · by_cases hx : x % 18446744073709551616 > 4611686018427387904
      · rw [decide_eq_true hx, if_pos rfl, if_neg (by rw [InB_iff]; omega)]
      · rw [decide_eq_false hx, if_neg (by decide), if_pos (by rw [InB_iff]; omega)]; congr 2; omega
theorem num_Do_eq (kind a b : Int) (k : Nat) : num_Do.f (k + 3) kind a b = some (doS kind a b) := by
  unfold num_Do.f doS
  simp only [num_Do.j0, num_Do.j1, num_in_eq, Option.bind_some]
  by_cases ha : InB a
  · by_cases hb : InB b
    · simp only [ha, hb, decide_true, if_true, Bool.not_true, Bool.false_eq_true, if_false, and_self]
      have hn : wrap64 (-b) = -b := by rw [InB_iff] at hb; unfold wrap64; omega
      rw [hn, num_add_eq ha hb, num_add_eq ha (b := -b) (by rw [InB_iff] at *; omega), num_mul_eq ha hb]
      simp only [Option.bind_some, ← Int.sub_eq_add_neg]
      by_cases h3 : kind = 3
      · simp only [h3, if_true, true_or]
        split <;> simp
      · by_cases h4 : kind = 4
        · simp only [h4, if_true, true_or, or_true]
          simp
          split <;> simp
        · by_cases h5 : kind = 5
          · simp only [h5]
            simp
            split <;> simp
          · simp [h3, h4, h5]
    · simp only [ha, hb, decide_true, decide_false, if_true, Bool.not_false, and_false, if_false]
      by_cases h3 : kind = 3
      · simp [h3]
      · by_cases h4 : kind = 4
        · simp [h4]
        · by_cases h5 : kind = 5 <;> simp [h3, h4, h5]
  · simp only [ha, decide_false, Bool.false_eq_true, if_false, if_true, false_and]
    by_cases h3 : kind = 3
    · simp [h3]
    · by_cases h4 : kind = 4
      · simp [h4]
      · by_cases h5 : kind = 5 <;> simp [h3, h4, h5]
theorem num_Do_ev (kind a b : Int) : Ev (fun k => num_Do.f k kind a b) (doS kind a b) := Ev.of (num_Do.mono _ _ _) (num_Do_eq kind a b 0)
def sumS (acc : Int) : List Int → Int × Int
  | [] => (acc, 0)
  | x :: l => if (doS 3 acc x).2 = 0 then sumS (doS 3 acc x).1 l else (0, (doS 3 acc x).2)
theorem rd_at (p : List Int) (x : Int) (l : List Int) : rd (p ++ x :: l) p.length = x := by
  simp [rd, List.getD_eq_getElem?_getD]
theorem wrap_len (p : List Int) (h : p.length ≤ 140737488351232) : wrap64 ((p.length : Int) + 1) = (p.length : Int) + 1 := by unfold wrap64; omega
end Go.Proofs.Ytaopajmpifenoaa.P
end
section
namespace Go.Proofs.Ytaopajmpifenoaa.P
open Go.RowKit Go.Proofs.YtaopajmpifenoaaW.PrintWords Go.Proofs.YtaopajmpifenoaaW.PrintLast Go.Proofs.YtaopajmpifenoaaW.PrintMore
def smallI (c : Int) : Bool := decide (97 ≤ c ∧ c ≤ 122)
def largeI (c : Int) : Bool := decide (65 ≤ c ∧ c ≤ 90)
def digitI (c : Int) : Bool := decide (48 ≤ c ∧ c ≤ 57)
def innerI (c : Int) : Bool := smallI c || largeI c || digitI c || c == 95
def plainI (c : Int) : Bool := decide (32 ≤ c ∧ c ≤ 126)
def wordS (large : Bool) (s : ByteArray) : Bool :=
  decide (1 ≤ s.size ∧ s.size ≤ 24) && (if large then largeI (bt s 0) else smallI (bt s 0)) && (bytesOf s).all innerI
def valS (kind n : Int) (s : ByteArray) : Bool :=
  if kind = 1 then decide (InB n) && decide (s = ⟨#[]⟩)
  else if kind = 2 then decide (n = 0) && wordS false s
  else if kind = 3 then decide (n = 0) && (bytesOf s).all plainI && decide (s.size ≤ 60)
  else false
theorem val_small_eq (c : Int) : val_small.f c = some (smallI c) := by
  unfold val_small.f smallI
  split
  · congr 1; rw [decide_eq_decide]; omega
  · congr 1; symm; rw [decide_eq_false_iff_not]; omega
theorem val_large_eq (c : Int) : val_large.f c = some (largeI c) := by
  unfold val_large.f largeI
  split
  · congr 1; rw [decide_eq_decide]; omega
  · congr 1; symm; rw [decide_eq_false_iff_not]; omega
theorem val_digit_eq (c : Int) : val_digit.f c = some (digitI c) := by
  unfold val_digit.f digitI
  split
  · congr 1; rw [decide_eq_decide]; omega
  · congr 1; symm; rw [decide_eq_false_iff_not]; omega
theorem subst_letter_eq (c : Int) : subst_letter.f c = some (innerI c) := by
  unfold subst_letter.f innerI smallI largeI digitI
  by_cases h1 : 97 ≤ c <;> by_cases h2 : c ≤ 122 <;> by_cases h3 : 65 ≤ c <;> by_cases h4 : c ≤ 90 <;> by_cases h5 : 48 ≤ c <;> by_cases h6 : c ≤ 57 <;> simp [h1, h2, h3, h4, h5, h6]
theorem all_drop {P : Int → Bool} {s : ByteArray} {i : Nat} (h : i < s.size) : ((bytesOf s).drop i).all P = (P (bt s i) && ((bytesOf s).drop (i + 1)).all P) := by
  obtain ⟨x, h1, h2⟩ := codes_split s i h
  rw [h1, h2]; rfl
theorem drop_end (s : ByteArray) : (bytesOf s).drop s.size = [] := by rw [← len_codes s]; exact List.drop_length
theorem val_symbol_l0 (s : ByteArray) (hs : s.size ≤ maxLen) : ∀ i : Nat, i ≤ s.size → Ev (fun k => val_symbol.l0 k s s.size i) (((bytesOf s).drop i).all innerI) := by
  unfold maxLen at hs
  refine back_ind s.size (fun k i => val_symbol.l0 k s s.size i) _ ?_ ?_
  · refine evShift ?_
    simp only [val_symbol.l0]
    refine evNeg (by omega) (evSome (by rw [drop_end]; rfl))
  · intro i hi ih
    refine evShift ?_
    simp only [val_symbol.l0, val_small_eq, val_large_eq, val_digit_eq, Option.bind_some]
    refine evPos (by omega) (evPos (by omega) (evPos (by omega) ?_))
    rw [all_drop hi, wrap_succ hi (by omega)]
    have e : innerI (bt s i) = (smallI (bt s i) || largeI (bt s i) || digitI (bt s i) || bt s i == 95) := rfl
    by_cases h1 : smallI (bt s i) = true
    · rw [e, h1]; simpa using ih
    · by_cases h2 : largeI (bt s i) = true
      · rw [e, h2]; simpa [h1] using ih
      · by_cases h3 : digitI (bt s i) = true
        · rw [e, h3]; simpa [h1, h2] using ih
        · by_cases h4 : bt s i = 95
          · rw [e]; simpa [h1, h2, h3, h4] using ih
          · rw [e]; simp [h1, h2, h3, h4]; exact evSome (by simp [h4])
theorem val_symbol_ev (s : ByteArray) (hs : s.size ≤ maxLen) : Ev (fun k => val_symbol.f k s) (wordS false s) := by
  have hl := val_symbol_l0 s hs 0 (by omega)
  simp only [List.drop_zero, Int.natCast_zero] at hl
  have hj : Ev (fun k => val_symbol.j0 k s true) false := by
    refine evShift ?_
    simp only [val_symbol.j0, if_true]
    exact evSome rfl
  unfold val_symbol.f wordS
  by_cases h1 : (s.size : Int) < 1
  · refine evPos h1 ?_
    have hd : decide (1 ≤ s.size ∧ s.size ≤ 24) = false := decide_eq_false (by omega)
    rw [hd]; exact hj
  · refine evNeg h1 ?_
    by_cases h2 : (s.size : Int) > 24
    · refine evPos h2 ?_
      have hd : decide (1 ≤ s.size ∧ s.size ≤ 24) = false := decide_eq_false (by omega)
      rw [hd]; exact hj
    · refine evNeg h2 (evPos (by omega) ?_)
      have hd : decide (1 ≤ s.size ∧ s.size ≤ 24) = true := decide_eq_true (by omega)
      rw [hd]
      simp only [val_small_eq, Option.bind_some, Bool.true_and]
      by_cases h3 : smallI (bt s 0) = true
      · simp only [h3, Bool.not_true]
        refine evShift ?_
        simp only [val_symbol.j0, Bool.false_eq_true, if_false]
        exact hl
      · replace h3 := Bool.eq_false_iff.mpr h3
        simp only [h3, Bool.not_false]
        exact hj
theorem subst_Var_l0 (s : ByteArray) (hs : s.size ≤ maxLen) : ∀ i : Nat, i ≤ s.size → Ev (fun k => subst_Var.l0 k s s.size i) (((bytesOf s).drop i).all innerI) := by
  unfold maxLen at hs
  refine back_ind s.size (fun k i => subst_Var.l0 k s s.size i) _ ?_ ?_
  · refine evShift ?_
    simp only [subst_Var.l0]
    refine evNeg (by omega) (evSome (by rw [drop_end]; rfl))
  · intro i hi ih
    refine evShift ?_
    simp only [subst_Var.l0, subst_letter_eq, Option.bind_some]
    refine evPos (by omega) (evPos (by omega) (evPos (by omega) ?_))
    rw [all_drop hi, wrap_succ hi (by omega)]
    by_cases h1 : innerI (bt s i) = true
    · rw [h1]; simpa using ih
    · simp [h1]; exact evSome rfl
theorem subst_Var_ev (s : ByteArray) (hs : s.size ≤ maxLen) : Ev (fun k => subst_Var.f k s) (wordS true s) := by
  have hl := subst_Var_l0 s hs 0 (by omega)
  simp only [List.drop_zero, Int.natCast_zero] at hl
  have hj : Ev (fun k => subst_Var.j0 k s true) false := by
    refine evShift ?_
    simp only [subst_Var.j0, if_true]
    exact evSome rfl
  unfold subst_Var.f wordS
  by_cases h1 : (s.size : Int) < 1
  · refine evPos h1 ?_
    have hd : decide (1 ≤ s.size ∧ s.size ≤ 24) = false := decide_eq_false (by omega)
    rw [hd]; exact hj
  · refine evNeg h1 ?_
    by_cases h2 : (s.size : Int) > 24
    · refine evPos h2 ?_
      have hd : decide (1 ≤ s.size ∧ s.size ≤ 24) = false := decide_eq_false (by omega)
      rw [hd]; exact hj
    · refine evNeg h2 (evPos (by omega) ?_)
      have hd : decide (1 ≤ s.size ∧ s.size ≤ 24) = true := decide_eq_true (by omega)
      rw [hd]
      simp only [if_true]
      by_cases h3 : bt s 0 < 65
      · refine evPos h3 ?_
        have : largeI (bt s 0) = false := decide_eq_false (by omega)
        rw [this]; exact hj
      · refine evNeg h3 ?_
        by_cases h4 : bt s 0 > 90
        · have : largeI (bt s 0) = false := decide_eq_false (by omega)
          rw [this, decide_eq_true h4]; exact hj
        · have : largeI (bt s 0) = true := decide_eq_true (by omega)
          rw [this, decide_eq_false h4]
          refine evShift ?_
          simp only [subst_Var.j0, Bool.false_eq_true, if_false, Bool.true_and]
          exact hl
theorem val_plain_ev (s : ByteArray) (hs : s.size ≤ maxLen) : Ev (fun k => val_plain.f k s) ((bytesOf s).all plainI && decide (s.size ≤ 60)) := by
  have h : ∀ i : Nat, i ≤ s.size → Ev (fun k => val_plain.l0 k s s.size i) (((bytesOf s).drop i).all plainI && decide (s.size ≤ 60)) := by
    unfold maxLen at hs
    refine back_ind s.size (fun k i => val_plain.l0 k s s.size i) _ ?_ ?_
    · refine evShift ?_
      simp only [val_plain.l0]
      refine evNeg (by omega) (evSome (by rw [drop_end]; simp; omega))
    · intro i hi ih
      refine evShift ?_
      simp only [val_plain.l0]
      refine evPos (by omega) (evPos (by omega) (evPos (by omega) ?_))
      rw [all_drop hi, wrap_succ hi (by omega)]
      by_cases h1 : bt s i < 32
      · refine evPos h1 (evSome ?_)
        have : plainI (bt s i) = false := decide_eq_false (by omega)
        rw [this]; rfl
      · refine evNeg h1 ?_
        by_cases h2 : bt s i > 126
        · refine evPos h2 (evSome ?_)
          have : plainI (bt s i) = false := decide_eq_false (by omega)
          rw [this]; rfl
        · refine evNeg h2 ?_
          have : plainI (bt s i) = true := decide_eq_true (by omega)
          rw [this]; exact ih
  have := h 0 (by omega)
  simpa [val_plain.f] using this
theorem val_Check_ev (kind n : Int) (s : ByteArray) (hs : s.size ≤ maxLen) : Ev (fun k => val_Check.f k kind n s) (if valS kind n s then 0 else 1) := by
  unfold val_Check.f valS
  by_cases h1 : kind = 1
  · refine evPos h1 ?_
    rw [if_pos h1]
    by_cases h2 : n ≥ -4611686018427387904
    · refine evPos h2 ?_
      by_cases h3 : n ≤ 4611686018427387904
      · refine evPos h3 ?_
        rw [decide_eq_true ((InB_iff n).2 ⟨h2, h3⟩)]
        by_cases h4 : s = ⟨#[]⟩
        · exact evPos (tl_nil.2 h4) (evSome (by simp [h4]))
        · exact evNeg (fun e => h4 (tl_nil.1 e)) (evSome (by simp [h4]))
      · exact evNeg h3 (evSome (by rw [decide_eq_false (fun h => h3 ((InB_iff n).1 h).2)]; rfl))
    · exact evNeg h2 (evSome (by rw [decide_eq_false (fun h => h2 ((InB_iff n).1 h).1)]; rfl))
  · refine evNeg h1 ?_
    rw [if_neg h1]
    by_cases h2 : kind = 2
    · refine evPos h2 ?_
      rw [if_pos h2]
      by_cases h3 : n = 0
      · refine evPos h3 (Ev.bind (val_symbol_ev s hs) ?_)
        rw [decide_eq_true h3]
        cases wordS false s <;> exact evSome rfl
      · refine evNeg h3 (evSome ?_)
        rw [decide_eq_false h3]; rfl
    · refine evNeg h2 ?_
      rw [if_neg h2]
      by_cases h3 : kind = 3
      · refine evPos h3 ?_
        rw [if_pos h3]
        by_cases h4 : n = 0
        · refine evPos h4 (Ev.bind (val_plain_ev s hs) ?_)
          rw [decide_eq_true h4, Bool.true_and]
          cases ((bytesOf s).all plainI && decide (s.size ≤ 60)) <;> exact evSome rfl
        · refine evNeg h4 (evSome ?_)
          rw [decide_eq_false h4]; rfl
      · refine evNeg h3 (evSome ?_)
        rw [if_neg h3]; rfl
end Go.Proofs.Ytaopajmpifenoaa.P
end
section
namespace Go.Proofs.Ytaopajmpifenoaa.P
open Go.RowKit Go.Proofs.YtaopajmpifenoaaW.PrintWords Go.Proofs.YtaopajmpifenoaaW.PrintLast Go.Proofs.YtaopajmpifenoaaW.PrintMore
attribute [local go_sem] max2_int min2_int max_two min_two max_three min_three max_four min_four
set_option linter.unusedVariables false
set_option linter.unusedSimpArgs false
def constableref01_Upper.f (a0 : Int) : Option (Bool) := if a0 ≥ 65 then (some (decide (a0 ≤ 90))) else (some false)
set_option maxHeartbeats 8000000 in
set_option maxRecDepth 100000 in
theorem constableref01_Upper.calls (a0 : Int) (r : Bool) (w : World) (h : constableref01_Upper.f a0 = some r) :
    Calls Try.prog 48 #[.int .u8 a0] w fun e w' => e = .returned (.bool r) ∧ Drawn0 w w' := by
  have H : (if a0 ≥ 65 then (some (decide (a0 ≤ 90))) else (some false)) = some r := h
  clear h
  by_cases c2 : a0 ≥ 65
  · rw [if_pos c2] at H
    have c2b0 : decide (65 ≤ a0) = true := decide_eq_true c2
    clear c2
    obtain rfl := Option.some.inj H
    go_enter Try.func48, Try.ntmps48
    go_wp2
    go_ret
    exact rz_
  · rw [if_neg c2] at H
    have c2b0 : decide (65 ≤ a0) = false := decide_eq_false c2
    clear c2
    obtain rfl := Option.some.inj H
    go_enter Try.func48, Try.ntmps48
    go_wp2
    go_ret
    exact rz_
end Go.Proofs.Ytaopajmpifenoaa.P
end
section
namespace Go.Proofs.Ytaopajmpifenoaa.P
open Go.RowKit Go.Proofs.YtaopajmpifenoaaW.PrintWords Go.Proofs.YtaopajmpifenoaaW.PrintLast Go.Proofs.YtaopajmpifenoaaW.PrintMore
attribute [local go_sem] max2_int min2_int max_two min_two max_three min_three max_four min_four
set_option linter.unusedVariables false
set_option linter.unusedSimpArgs false
def constableref01_Lower.f (a0 : Int) : Option (Bool) := if a0 ≥ 97 then (some (decide (a0 ≤ 122))) else (some false)
set_option maxHeartbeats 8000000 in
set_option maxRecDepth 100000 in
theorem constableref01_Lower.calls (a0 : Int) (r : Bool) (w : World) (h : constableref01_Lower.f a0 = some r) :
    Calls Try.prog 49 #[.int .u8 a0] w fun e w' => e = .returned (.bool r) ∧ Drawn0 w w' := by
  have H : (if a0 ≥ 97 then (some (decide (a0 ≤ 122))) else (some false)) = some r := h
  clear h
  by_cases c2 : a0 ≥ 97
  · rw [if_pos c2] at H
    have c2b0 : decide (97 ≤ a0) = true := decide_eq_true c2
    clear c2
    obtain rfl := Option.some.inj H
    go_enter Try.func49, Try.ntmps49
    go_wp2
    go_ret
    exact rz_
  · rw [if_neg c2] at H
    have c2b0 : decide (97 ≤ a0) = false := decide_eq_false c2
    clear c2
    obtain rfl := Option.some.inj H
    go_enter Try.func49, Try.ntmps49
    go_wp2
    go_ret
    exact rz_
end Go.Proofs.Ytaopajmpifenoaa.P
end
section
namespace Go.Proofs.Ytaopajmpifenoaa.P
open Go.RowKit Go.Proofs.YtaopajmpifenoaaW.PrintWords Go.Proofs.YtaopajmpifenoaaW.PrintLast Go.Proofs.YtaopajmpifenoaaW.PrintMore
attribute [local go_sem] max2_int min2_int max_two min_two max_three min_three max_four min_four
set_option linter.unusedVariables false
set_option linter.unusedSimpArgs false
def constableref01_Digit.f (a0 : Int) : Option (Bool) := if a0 ≥ 48 then (some (decide (a0 ≤ 57))) else (some false)
set_option maxHeartbeats 8000000 in
set_option maxRecDepth 100000 in
theorem constableref01_Digit.calls (a0 : Int) (r : Bool) (w : World) (h : constableref01_Digit.f a0 = some r) :
    Calls Try.prog 62 #[.int .u8 a0] w fun e w' => e = .returned (.bool r) ∧ Drawn0 w w' := by
  have H : (if a0 ≥ 48 then (some (decide (a0 ≤ 57))) else (some false)) = some r := h
  clear h
  by_cases c2 : a0 ≥ 48
  · rw [if_pos c2] at H
    have c2b0 : decide (48 ≤ a0) = true := decide_eq_true c2
    clear c2
    obtain rfl := Option.some.inj H
    go_enter Try.func62, Try.ntmps62
    go_wp2
    go_ret
    exact rz_
  · rw [if_neg c2] at H
    have c2b0 : decide (48 ≤ a0) = false := decide_eq_false c2
    clear c2
    obtain rfl := Option.some.inj H
    go_enter Try.func62, Try.ntmps62
    go_wp2
    go_ret
    exact rz_
end Go.Proofs.Ytaopajmpifenoaa.P
end
section
namespace Go.Proofs.Ytaopajmpifenoaa.P
open Go.RowKit Go.Proofs.YtaopajmpifenoaaW.PrintWords Go.Proofs.YtaopajmpifenoaaW.PrintLast Go.Proofs.YtaopajmpifenoaaW.PrintMore
attribute [local go_sem] max2_int min2_int max_two min_two max_three min_three max_four min_four
set_option linter.unusedVariables false
set_option linter.unusedSimpArgs false
def constableref01_inner.f (a0 : Int) : Option (Bool) := (constableref01_Lower.f a0).bind fun t161 => (if t161 = true then (some true) else ((constableref01_Upper.f a0).bind fun t162 => (if t162 = true then (some true) else ((constableref01_Digit.f a0).bind fun t163 => (if t163 = true then (some true) else (some (a0 == 95)))))))
set_option maxHeartbeats 8000000 in
set_option maxRecDepth 100000 in
theorem constableref01_inner.calls (a0 : Int) (r : Bool) (w : World) (h : constableref01_inner.f a0 = some r) :
    Calls Try.prog 50 #[.int .u8 a0] w fun e w' => e = .returned (.bool r) ∧ Drawn0 w w' := by
  have H : ((constableref01_Lower.f a0).bind fun t161 => (if t161 = true then (some true) else ((constableref01_Upper.f a0).bind fun t162 => (if t162 = true then (some true) else ((constableref01_Digit.f a0).bind fun t163 => (if t163 = true then (some true) else (some (a0 == 95)))))))) = some r := h
  clear h
  replace H := Option.bind_eq_some_iff.mp H
  obtain ⟨t161, A20, H⟩ := H
  replace H : (if t161 = true then (some true) else ((constableref01_Upper.f a0).bind fun t162 => (if t162 = true then (some true) else ((constableref01_Digit.f a0).bind fun t163 => (if t163 = true then (some true) else (some (a0 == 95))))))) = some r := H
  have A2 := Aside0.mk A20
  clear A20
  by_cases c3 : t161 = true
  · subst c3
    have H1 : (some true) = some r := by rw [if_pos rfl] at H; exact H
    clear H
    have H := H1
    clear H1
    obtain rfl := Option.some.inj H
    go_enter Try.func50, Try.ntmps50
    go_wp2_with (first | ((with_reducible refine gate_callee (f := 49) rfl ?_); refine goesL_ (some 4) rfl rfl Try.func49 (by kernel_rfl) rfl #[.int .u8 a0] rfl ga_ ?_; (with_reducible refine (constableref01_Lower.calls a0 true _ A2.out).mono ?_); rintro e w' ⟨rfl, ⟨nd, rfl⟩⟩; refine ⟨_, rfl, ?_⟩))
    go_ret
    exact rz_
  · replace c3 := Bool.eq_false_iff.mpr c3
    subst c3
    have H1 : ((constableref01_Upper.f a0).bind fun t162 => (if t162 = true then (some true) else ((constableref01_Digit.f a0).bind fun t163 => (if t163 = true then (some true) else (some (a0 == 95)))))) = some r := by rw [if_neg (show ¬ (false = true) by decide)] at H; exact H
    clear H
    have H := H1
    clear H1
    replace H := Option.bind_eq_some_iff.mp H
    obtain ⟨t162, A40, H⟩ := H
    replace H : (if t162 = true then (some true) else ((constableref01_Digit.f a0).bind fun t163 => (if t163 = true then (some true) else (some (a0 == 95))))) = some r := H
    have A4 := Aside0.mk A40
    clear A40
    by_cases c5 : t162 = true
    · subst c5
      have H1 : (some true) = some r := by rw [if_pos rfl] at H; exact H
      clear H
      have H := H1
      clear H1
      obtain rfl := Option.some.inj H
      go_enter Try.func50, Try.ntmps50
      go_wp2_with (first | ((with_reducible refine gate_callee (f := 49) rfl ?_); refine goesL_ (some 4) rfl rfl Try.func49 (by kernel_rfl) rfl #[.int .u8 a0] rfl ga_ ?_; (with_reducible refine (constableref01_Lower.calls a0 false _ A2.out).mono ?_); rintro e w' ⟨rfl, ⟨nd, rfl⟩⟩; refine ⟨_, rfl, ?_⟩) | (go_at_call 48; (with_reducible refine (constableref01_Upper.calls a0 true _ A4.out).mono ?_); rintro e w' ⟨rfl, ⟨nd, rfl⟩⟩))
      go_ret
      exact rz_
    · replace c5 := Bool.eq_false_iff.mpr c5
      subst c5
      have H1 : ((constableref01_Digit.f a0).bind fun t163 => (if t163 = true then (some true) else (some (a0 == 95)))) = some r := by rw [if_neg (show ¬ (false = true) by decide)] at H; exact H
      clear H
      have H := H1
      clear H1
      replace H := Option.bind_eq_some_iff.mp H
      obtain ⟨t163, A60, H⟩ := H
      replace H : (if t163 = true then (some true) else (some (a0 == 95))) = some r := H
      have A6 := Aside0.mk A60
      clear A60
      by_cases c7 : t163 = true
      · subst c7
        have H1 : (some true) = some r := by rw [if_pos rfl] at H; exact H
        clear H
        have H := H1
        clear H1
        obtain rfl := Option.some.inj H
        go_enter Try.func50, Try.ntmps50
        go_wp2_with (first | ((with_reducible refine gate_callee (f := 49) rfl ?_); refine goesL_ (some 4) rfl rfl Try.func49 (by kernel_rfl) rfl #[.int .u8 a0] rfl ga_ ?_; (with_reducible refine (constableref01_Lower.calls a0 false _ A2.out).mono ?_); rintro e w' ⟨rfl, ⟨nd, rfl⟩⟩; refine ⟨_, rfl, ?_⟩) | (go_at_call 48; (with_reducible refine (constableref01_Upper.calls a0 false _ A4.out).mono ?_); rintro e w' ⟨rfl, ⟨nd, rfl⟩⟩) | (go_at_call 62; (with_reducible refine (constableref01_Digit.calls a0 true _ A6.out).mono ?_); rintro e w' ⟨rfl, ⟨nd, rfl⟩⟩))
        go_ret
        exact rz_
      · replace c7 := Bool.eq_false_iff.mpr c7
        subst c7
        have H1 : (some (a0 == 95)) = some r := by rw [if_neg (show ¬ (false = true) by decide)] at H; exact H
        clear H
        have H := H1
        clear H1
        obtain rfl := Option.some.inj H
        go_enter Try.func50, Try.ntmps50
        go_wp2_with (first | ((with_reducible refine gate_callee (f := 49) rfl ?_); refine goesL_ (some 4) rfl rfl Try.func49 (by kernel_rfl) rfl #[.int .u8 a0] rfl ga_ ?_; (with_reducible refine (constableref01_Lower.calls a0 false _ A2.out).mono ?_); rintro e w' ⟨rfl, ⟨nd, rfl⟩⟩; refine ⟨_, rfl, ?_⟩) | (go_at_call 48; (with_reducible refine (constableref01_Upper.calls a0 false _ A4.out).mono ?_); rintro e w' ⟨rfl, ⟨nd, rfl⟩⟩) | (go_at_call 62; (with_reducible refine (constableref01_Digit.calls a0 false _ A6.out).mono ?_); rintro e w' ⟨rfl, ⟨nd, rfl⟩⟩))
        go_ret
        exact rz_
end Go.Proofs.Ytaopajmpifenoaa.P
end
section
namespace Go.Proofs.Ytaopajmpifenoaa.P
open Go.RowKit Go.Proofs.YtaopajmpifenoaaW.PrintWords Go.Proofs.YtaopajmpifenoaaW.PrintLast Go.Proofs.YtaopajmpifenoaaW.PrintMore
attribute [local go_sem] max2_int min2_int max_two min_two max_three min_three max_four min_four
set_option linter.unusedVariables false
set_option linter.unusedSimpArgs false
def constableref01_In.f (a0 : Int) (a1 : Int) (a2 : Int) : Option (Bool) := if a0 ≥ a1 then (some (decide (a0 ≤ a2))) else (some false)
set_option maxHeartbeats 8000000 in
set_option maxRecDepth 100000 in
theorem constableref01_In.calls (a0 : Int) (a1 : Int) (a2 : Int) (r : Bool) (w : World) (h : constableref01_In.f a0 a1 a2 = some r) :
    Calls Try.prog 29 #[.int .i64 a0, .int .i64 a1, .int .i64 a2] w fun e w' => e = .returned (.bool r) ∧ Drawn0 w w' := by
  have H : (if a0 ≥ a1 then (some (decide (a0 ≤ a2))) else (some false)) = some r := h
  clear h
  by_cases c4 : a0 ≥ a1
  · rw [if_pos c4] at H
    have c4b0 : decide (a1 ≤ a0) = true := decide_eq_true c4
    clear c4
    obtain rfl := Option.some.inj H
    go_enter Try.func29, Try.ntmps29
    go_wp2
    go_ret
    exact rz_
  · rw [if_neg c4] at H
    have c4b0 : decide (a1 ≤ a0) = false := decide_eq_false c4
    clear c4
    obtain rfl := Option.some.inj H
    go_enter Try.func29, Try.ntmps29
    go_wp2
    go_ret
    exact rz_
end Go.Proofs.Ytaopajmpifenoaa.P
end
section
namespace Go.Proofs.Ytaopajmpifenoaa.P
open Go.RowKit Go.Proofs.YtaopajmpifenoaaW.PrintWords Go.Proofs.YtaopajmpifenoaaW.PrintLast Go.Proofs.YtaopajmpifenoaaW.PrintMore
attribute [local go_sem] max2_int min2_int max_two min_two max_three min_three max_four min_four
set_option linter.unusedVariables false
set_option linter.unusedSimpArgs false
mutual
def constableref01_Word.j0 : Nat → ByteArray → Bool → Option (Bool)
  | 0, _, _ => none
  | k + 1, x0, x26 => if x26 = true then (some false) else (constableref01_Word.l0 k x0 0)
def constableref01_Word.l0 : Nat → ByteArray → Int → Option (Bool)
  | 0, _, _ => none
  | k + 1, x0, x5 => if x5 < (x0.size : Int) then (if 0 ≤ x5 then ((constableref01_inner.f (bt x0 x5)).bind fun t167 => (if t167 = true then (constableref01_Word.l0 k x0 (wrap64 (x5 + 1))) else (some false))) else (none)) else (some true)
end
def constableref01_Word.f (k : Nat) (a0 : ByteArray) (a1 : Bool) : Option (Bool) := (constableref01_In.f (a0.size : Int) 1 24).bind fun t164 => (if t164 = true then (if 0 < (a0.size : Int) then ((constableref01_Upper.f (bt a0 0)).bind fun t165 => (if (a1 != t165) = true then (constableref01_Word.j0 k a0 true) else (if a1 = true then (constableref01_Word.j0 k a0 false) else ((constableref01_Lower.f (bt a0 0)).bind fun t166 => (constableref01_Word.j0 k a0 (!t166)))))) else (none)) else (constableref01_Word.j0 k a0 true))
theorem constableref01_Word.mono_l : ∀ k, (∀ y0 y1, LeO (constableref01_Word.j0 k y0 y1) (constableref01_Word.j0 (k + 1) y0 y1)) ∧ (∀ y0 y1, LeO (constableref01_Word.l0 k y0 y1) (constableref01_Word.l0 (k + 1) y0 y1))
  | 0 => ⟨fun _ _ r h => by simp [constableref01_Word.j0] at h, fun _ _ r h => by simp [constableref01_Word.l0] at h⟩
  | k + 1 => by
    obtain ⟨ih0, ih1⟩ := constableref01_Word.mono_l k
    refine ⟨?_, ?_⟩
    · intro y0 y1
      unfold constableref01_Word.j0
      repeat' first
      | (with_reducible exact ih0 _ _)
      | (with_reducible exact ih1 _ _)
      | (with_reducible exact LeO.refl _)
      | (with_reducible exact LeO.none _)
      | (with_reducible refine LeO.ite ?_ ?_)
      | (with_reducible refine LeO.bind ?_ (fun _ => ?_))
      | exact ih0 _ _
      | exact ih1 _ _
      | exact LeO.none _
      | refine LeO.ite ?_ ?_
      | refine LeO.bind ?_ (fun _ => ?_)
    · intro y0 y1
      unfold constableref01_Word.l0
      repeat' first
      | (with_reducible exact ih0 _ _)
      | (with_reducible exact ih1 _ _)
      | (with_reducible exact LeO.refl _)
      | (with_reducible exact LeO.none _)
      | (with_reducible refine LeO.ite ?_ ?_)
      | (with_reducible refine LeO.bind ?_ (fun _ => ?_))
      | exact ih0 _ _
      | exact ih1 _ _
      | exact LeO.none _
      | refine LeO.ite ?_ ?_
      | refine LeO.bind ?_ (fun _ => ?_)
theorem constableref01_Word.mono : ∀ a0 a1 k, LeO (constableref01_Word.f k a0 a1) (constableref01_Word.f (k + 1) a0 a1) := by
  intro a0 a1 k
  obtain ⟨ih0, ih1⟩ := constableref01_Word.mono_l k
  unfold constableref01_Word.f
  repeat' first
      | (with_reducible exact ih0 _ _)
      | (with_reducible exact ih1 _ _)
      | (with_reducible exact LeO.refl _)
      | (with_reducible exact LeO.none _)
      | (with_reducible refine LeO.ite ?_ ?_)
      | (with_reducible refine LeO.bind ?_ (fun _ => ?_))
      | exact ih0 _ _
      | exact ih1 _ _
      | exact LeO.none _
      | refine LeO.ite ?_ ?_
      | refine LeO.bind ?_ (fun _ => ?_)
set_option maxHeartbeats 8000000 in
set_option maxRecDepth 100000 in
theorem constableref01_Word.calls (k : Nat) (a0 : ByteArray) (a1 : Bool) (r : Bool) (w : World) (h : constableref01_Word.f k a0 a1 = some r) :
    Calls Try.prog 34 #[.string a0, .bool a1] w fun e w' => e = .returned (.bool r) ∧ Drawn0 w w' := by
  have H : ((constableref01_In.f (a0.size : Int) 1 24).bind fun t164 => (if t164 = true then (if 0 < (a0.size : Int) then ((constableref01_Upper.f (bt a0 0)).bind fun t165 => (if (a1 != t165) = true then (constableref01_Word.j0 k a0 true) else (if a1 = true then (constableref01_Word.j0 k a0 false) else ((constableref01_Lower.f (bt a0 0)).bind fun t166 => (constableref01_Word.j0 k a0 (!t166)))))) else (none)) else (constableref01_Word.j0 k a0 true))) = some r := h
  clear h
  have HC3 := Aside0.mk H
  clear H
  go_enter Try.func34, Try.ntmps34
  go_upto_region 1 with (fail)
  go_cut [26] (fun v26 wc => ∃ (kq : Nat) (x26_2 : Bool), v26 = .bool x26_2 ∧ Aside0 (constableref01_Word.j0 kq a0 x26_2 = some r) ∧ Aside0 (kq ≤ k) ∧ Drawn0 w wc)
  case first =>
    have H := HC3.out
    clear HC3
    replace H := Option.bind_eq_some_iff.mp H
    obtain ⟨t164, A40, H⟩ := H
    replace H : (if t164 = true then (if 0 < (a0.size : Int) then ((constableref01_Upper.f (bt a0 0)).bind fun t165 => (if (a1 != t165) = true then (constableref01_Word.j0 k a0 true) else (if a1 = true then (constableref01_Word.j0 k a0 false) else ((constableref01_Lower.f (bt a0 0)).bind fun t166 => (constableref01_Word.j0 k a0 (!t166)))))) else (none)) else (constableref01_Word.j0 k a0 true)) = some r := H
    have A4 := Aside0.mk A40
    clear A40
    by_cases c5 : t164 = true
    · subst c5
      have H1 : (if 0 < (a0.size : Int) then ((constableref01_Upper.f (bt a0 0)).bind fun t165 => (if (a1 != t165) = true then (constableref01_Word.j0 k a0 true) else (if a1 = true then (constableref01_Word.j0 k a0 false) else ((constableref01_Lower.f (bt a0 0)).bind fun t166 => (constableref01_Word.j0 k a0 (!t166)))))) else (none)) = some r := by rw [if_pos rfl] at H; exact H
      clear H
      have H := H1
      clear H1
      by_cases c6 : 0 < (a0.size : Int)
      · rw [if_pos c6] at H
        have c6b0 : decide (0 < (a0.size : Int)) = true := decide_eq_true c6
        have c6b1 : decide (0 < a0.size) = true := decide_eq_true (by omega)
        clear c6
        (first | rw [c6b0] | (simp only [i64_w, i32_w]; rw [c6b0]) | skip)
        replace H := Option.bind_eq_some_iff.mp H
        obtain ⟨t165, A80, H⟩ := H
        replace H : (if (a1 != t165) = true then (constableref01_Word.j0 k a0 true) else (if a1 = true then (constableref01_Word.j0 k a0 false) else ((constableref01_Lower.f (bt a0 0)).bind fun t166 => (constableref01_Word.j0 k a0 (!t166))))) = some r := H
        have A8 := Aside0.mk A80
        clear A80
        by_cases c9 : (a1 != t165) = true
        · rw [if_pos c9] at H
          have c9b0 : (a1 != t165) = true := c9
          (try (have c9b1 : decide (a1 = t165) = false := by simpa using c9))
          (try (have c9b2 : (a1 == t165) = false := by simpa using c9))
          (try (have c9b3 : ¬ (a1 = t165) := by simpa using c9))
          clear c9
          have H' := Aside0.mk H
          clear H
          go_wp2_with (first | ((with_reducible refine gate_callee (f := 29) rfl ?_); refine goesL_ (some 8) rfl rfl Try.func29 (by kernel_rfl) rfl #[.int .i64 (a0.size : Int), .int .i64 1, .int .i64 24] rfl ga_ ?_; (with_reducible refine (constableref01_In.calls (a0.size : Int) 1 24 true _ A4.out).mono ?_); rintro e w' ⟨rfl, ⟨nd, rfl⟩⟩; refine ⟨_, rfl, ?_⟩; have p7 : 0 ≤ (0 : Int) := (by omega); have q7 : 0 < a0.size := (by have : (0 : Int) < (a0.size : Int) := dt_; omega); have hx7 : ∀ h : 0 < a0.size, ((a0[0]'h).toNat : Int) = bt a0 0 := bt_at a0 0; clear p7; have qi7 : (0 < (a0.size : Int)) = True := eq_true dt_; replace q7 := eq_true q7) | (go_at_call 48; (with_reducible refine (constableref01_Upper.calls (bt a0 0) t165 _ A8.out).mono ?_); rintro e w' ⟨rfl, ⟨nd, rfl⟩⟩))
          go_meet
          case rel => exact ⟨_, (true), ra_, H', ⟨by first | omega | exact Nat.le_refl _⟩, dz_⟩
        · rw [if_neg c9] at H
          have c9b0 : (a1 != t165) = false := by simpa using c9
          (try (have c9b1 : decide (a1 = t165) = true := by simpa using c9))
          (try (have c9b2 : (a1 == t165) = true := by simpa using c9))
          clear c9
          by_cases c10 : a1 = true
          · subst c10
            have H1 : (constableref01_Word.j0 k a0 false) = some r := by rw [if_pos rfl] at H; exact H
            clear H
            have H := H1
            clear H1
            have H' := Aside0.mk H
            clear H
            go_wp2_with (first | ((with_reducible refine gate_callee (f := 29) rfl ?_); refine goesL_ (some 8) rfl rfl Try.func29 (by kernel_rfl) rfl #[.int .i64 (a0.size : Int), .int .i64 1, .int .i64 24] rfl ga_ ?_; (with_reducible refine (constableref01_In.calls (a0.size : Int) 1 24 true _ A4.out).mono ?_); rintro e w' ⟨rfl, ⟨nd, rfl⟩⟩; refine ⟨_, rfl, ?_⟩; have p7 : 0 ≤ (0 : Int) := (by omega); have q7 : 0 < a0.size := (by have : (0 : Int) < (a0.size : Int) := dt_; omega); have hx7 : ∀ h : 0 < a0.size, ((a0[0]'h).toNat : Int) = bt a0 0 := bt_at a0 0; clear p7; have qi7 : (0 < (a0.size : Int)) = True := eq_true dt_; replace q7 := eq_true q7) | (go_at_call 48; (with_reducible refine (constableref01_Upper.calls (bt a0 0) t165 _ A8.out).mono ?_); rintro e w' ⟨rfl, ⟨nd, rfl⟩⟩))
            go_meet
            case rel => exact ⟨_, (false), ra_, H', ⟨by first | omega | exact Nat.le_refl _⟩, dz_⟩
          · replace c10 := Bool.eq_false_iff.mpr c10
            subst c10
            have H1 : ((constableref01_Lower.f (bt a0 0)).bind fun t166 => (constableref01_Word.j0 k a0 (!t166))) = some r := by rw [if_neg (show ¬ (false = true) by decide)] at H; exact H
            clear H
            have H := H1
            clear H1
            replace H := Option.bind_eq_some_iff.mp H
            obtain ⟨t166, A120, H⟩ := H
            replace H : (constableref01_Word.j0 k a0 (!t166)) = some r := H
            have A12 := Aside0.mk A120
            clear A120
            have H' := Aside0.mk H
            clear H
            go_wp2_with (first | ((with_reducible refine gate_callee (f := 29) rfl ?_); refine goesL_ (some 8) rfl rfl Try.func29 (by kernel_rfl) rfl #[.int .i64 (a0.size : Int), .int .i64 1, .int .i64 24] rfl ga_ ?_; (with_reducible refine (constableref01_In.calls (a0.size : Int) 1 24 true _ A4.out).mono ?_); rintro e w' ⟨rfl, ⟨nd, rfl⟩⟩; refine ⟨_, rfl, ?_⟩; have p7 : 0 ≤ (0 : Int) := (by omega); have q7 : 0 < a0.size := (by have : (0 : Int) < (a0.size : Int) := dt_; omega); have hx7 : ∀ h : 0 < a0.size, ((a0[0]'h).toNat : Int) = bt a0 0 := bt_at a0 0; clear p7; have qi7 : (0 < (a0.size : Int)) = True := eq_true dt_; replace q7 := eq_true q7) | (go_at_call 48; (with_reducible refine (constableref01_Upper.calls (bt a0 0) t165 _ A8.out).mono ?_); rintro e w' ⟨rfl, ⟨nd, rfl⟩⟩; have p11 : 0 ≤ (0 : Int) := (by omega); have q11 : 0 < a0.size := (by have : (0 : Int) < (a0.size : Int) := dt_; omega); have hx11 : ∀ h : 0 < a0.size, ((a0[0]'h).toNat : Int) = bt a0 0 := bt_at a0 0; clear p11; have qi11 : (0 < (a0.size : Int)) = True := eq_true dt_; replace q11 := eq_true q11) | (go_at_call 49; (with_reducible refine (constableref01_Lower.calls (bt a0 0) t166 _ A12.out).mono ?_); rintro e w' ⟨rfl, ⟨nd, rfl⟩⟩))
            go_meet
            case rel => exact ⟨_, (!t166), ra_, H', ⟨by first | omega | exact Nat.le_refl _⟩, dz_⟩
      · rw [if_neg c6] at H
        exact absurd H (by simp)
    · replace c5 := Bool.eq_false_iff.mpr c5
      subst c5
      have H1 : (constableref01_Word.j0 k a0 true) = some r := by rw [if_neg (show ¬ (false = true) by decide)] at H; exact H
      clear H
      have H := H1
      clear H1
      have H' := Aside0.mk H
      clear H
      go_wp2_with (first | ((with_reducible refine gate_callee (f := 29) rfl ?_); refine goesL_ (some 8) rfl rfl Try.func29 (by kernel_rfl) rfl #[.int .i64 (a0.size : Int), .int .i64 1, .int .i64 24] rfl ga_ ?_; (with_reducible refine (constableref01_In.calls (a0.size : Int) 1 24 false _ A4.out).mono ?_); rintro e w' ⟨rfl, ⟨nd, rfl⟩⟩; refine ⟨_, rfl, ?_⟩))
      go_meet
      case rel => exact ⟨_, (true), ra_, H', ⟨by first | omega | exact Nat.le_refl _⟩, dz_⟩
  case rest =>
    clear HC3
    try clear c1
    try clear p1
    try clear q1
    try clear hx1
    try clear qi1
    try clear c2
    try clear p2
    try clear c3
    try clear c5
    try clear c6
    try clear c6b0
    try clear c6b1
    try clear p7
    try clear q7
    try clear hx7
    try clear qi7
    try clear c9
    try clear c9b0
    try clear c9b1
    try clear c9b2
    try clear c10
    try clear p11
    try clear q11
    try clear hx11
    try clear qi11
    try clear p11
    try clear p7
    try clear q11
    try clear q7
    obtain ⟨kq, x26_2, rfl, HA, HJ2, ⟨mc2, rfl⟩⟩ := hcut
    cases kq with
    | zero => exact absurd HA.out (by simp [constableref01_Word.j0])
    | succ kj2 =>
      have H := HA.out
      clear HA
      simp only [constableref01_Word.j0] at H
      by_cases c13 : x26_2 = true
      · subst c13
        have H1 : (some false) = some r := by rw [if_pos rfl] at H; exact H
        clear H
        have H := H1
        clear H1
        obtain rfl := Option.some.inj H
        go_wp2
        go_ret
        exact rz_
      · replace c13 := Bool.eq_false_iff.mpr c13
        subst c13
        have H1 : (constableref01_Word.l0 kj2 a0 0) = some r := by rw [if_neg (show ¬ (false = true) by decide)] at H; exact H
        clear H
        have H := H1
        clear H1
        have H' := Aside0.mk H
        clear H
        go_wp2
        go_loopg [5] kj2 (fun kq v5 w' => ∃ (x5_2 : Int), v5 = .int .i64 x5_2 ∧ Aside0 (constableref01_Word.l0 kq a0 x5_2 = some r) ∧ Aside0 (kq ≤ kj2) ∧ Drawn0 w w')
        case atStart => exact ⟨(0), ra_, H', ⟨Nat.le_refl _⟩, dz_⟩
        case round =>
          clear H'
          try clear c1
          try clear p1
          try clear q1
          try clear hx1
          try clear qi1
          try clear c2
          try clear p2
          try clear c3
          try clear c5
          try clear c6
          try clear c6b0
          try clear c6b1
          try clear p7
          try clear q7
          try clear hx7
          try clear qi7
          try clear c9
          try clear c9b0
          try clear c9b1
          try clear c9b2
          try clear c10
          try clear p11
          try clear q11
          try clear hx11
          try clear qi11
          try clear c13
          try clear p1
          try clear p11
          try clear p2
          try clear p7
          try clear q1
          try clear q11
          try clear q7
          obtain ⟨x5_2, rfl, HA, HK2, ⟨m2, rfl⟩⟩ := hrel
          cases gk with
          | zero => exact absurd HA.out (by simp [constableref01_Word.l0])
          | succ k2 =>
            have H := HA.out
            clear HA
            simp only [constableref01_Word.l0] at H
            by_cases c14 : x5_2 < (a0.size : Int)
            · rw [if_pos c14] at H
              have c14b0 : decide (x5_2 < (a0.size : Int)) = true := decide_eq_true c14
              clear c14
              by_cases c15 : 0 ≤ x5_2
              · rw [if_pos c15] at H
                have c15b0 : decide (0 ≤ x5_2) = true := decide_eq_true c15
                clear c15
                replace H := Option.bind_eq_some_iff.mp H
                obtain ⟨t167, A170, H⟩ := H
                replace H : (if t167 = true then (constableref01_Word.l0 k2 a0 (wrap64 (x5_2 + 1))) else (some false)) = some r := H
                have A17 := Aside0.mk A170
                clear A170
                by_cases c18 : t167 = true
                · subst c18
                  have H1 : (constableref01_Word.l0 k2 a0 (wrap64 (x5_2 + 1))) = some r := by rw [if_pos rfl] at H; exact H
                  clear H
                  have H := H1
                  clear H1
                  have H' := Aside0.mk H
                  clear H
                  have p16 : 0 ≤ (x5_2 : Int) := dt_
                  have q16 : x5_2 < (a0.size : Int) := dt_
                  have hx16 := bt_at a0 x5_2
                  replace p16 := eq_true p16
                  replace q16 := eq_true q16
                  go_wp2_with (first | ((with_reducible refine gate_callee (f := 50) rfl ?_); refine goesL_ (some 36) rfl rfl Try.func50 (by kernel_rfl) rfl #[.int .u8 (bt a0 x5_2)] rfl ga_ ?_; (with_reducible refine (constableref01_inner.calls (bt a0 x5_2) true _ A17.out).mono ?_); rintro e w' ⟨rfl, ⟨nd, rfl⟩⟩; refine ⟨_, rfl, ?_⟩))
                  go_roundg k2
                  case measure => have := HJ2.out; have := HK2.out; omega
                  case rel => exact ⟨(wrap64 (x5_2 + 1)), ra_, H', ⟨by have := HJ2.out; have := HK2.out; omega⟩, dz_⟩
                · replace c18 := Bool.eq_false_iff.mpr c18
                  subst c18
                  have H1 : (some false) = some r := by rw [if_neg (show ¬ (false = true) by decide)] at H; exact H
                  clear H
                  have H := H1
                  clear H1
                  obtain rfl := Option.some.inj H
                  have p16 : 0 ≤ (x5_2 : Int) := dt_
                  have q16 : x5_2 < (a0.size : Int) := dt_
                  have hx16 := bt_at a0 x5_2
                  replace p16 := eq_true p16
                  replace q16 := eq_true q16
                  go_wp2_with (first | ((with_reducible refine gate_callee (f := 50) rfl ?_); refine goesL_ (some 36) rfl rfl Try.func50 (by kernel_rfl) rfl #[.int .u8 (bt a0 x5_2)] rfl ga_ ?_; (with_reducible refine (constableref01_inner.calls (bt a0 x5_2) false _ A17.out).mono ?_); rintro e w' ⟨rfl, ⟨nd, rfl⟩⟩; refine ⟨_, rfl, ?_⟩))
                  go_ret
                  exact rz_
              · rw [if_neg c15] at H
                exact absurd H (by simp)
            · rw [if_neg c14] at H
              have c14b0 : decide (x5_2 < (a0.size : Int)) = false := decide_eq_false c14
              clear c14
              obtain rfl := Option.some.inj H
              go_wp2
              go_ret
              exact rz_
end Go.Proofs.Ytaopajmpifenoaa.P
end
section
namespace Go.Proofs.Ytaopajmpifenoaa.P
open Go.RowKit Go.Proofs.YtaopajmpifenoaaW.PrintWords Go.Proofs.YtaopajmpifenoaaW.PrintLast Go.Proofs.YtaopajmpifenoaaW.PrintMore
attribute [local go_sem] max2_int min2_int max_two min_two max_three min_three max_four min_four
set_option linter.unusedVariables false
set_option linter.unusedSimpArgs false
mutual
def constableref01_Value.j0 : Nat → Bool → Int → Int → ByteArray → Option (Bool)
  | 0, _, _, _, _ => none
  | k + 1, x37, x169000, x169001, x169002 => if x37 = true then (some false) else (constableref01_Value.l0 k 0 x169000 x169001 x169002)
def constableref01_Value.l0 : Nat → Int → Int → Int → ByteArray → Option (Bool)
  | 0, _, _, _, _ => none
  | k + 1, x3, x169000, x169001, x169002 => if x3 < (x169002.size : Int) then (if 0 ≤ x3 then ((constableref01_In.f (wrap64 (bt x169002 x3)) 32 126).bind fun t171 => (if t171 = true then (constableref01_Value.l0 k (wrap64 (x3 + 1)) x169000 x169001 x169002) else (some false))) else (none)) else (some true)
end
def constableref01_Value.f (k : Nat) (a0_0 : Int) (a0_1 : Int) (a0_2 : ByteArray) : Option (Bool) := if a0_0 = 1 then ((constableref01_In.f a0_1 (-4611686018427387904) 4611686018427387904).bind fun t169 => (if t169 = true then (some ((a0_2.size : Int) == 0)) else (some false))) else (if a0_0 = 2 then (if a0_1 = 0 then ((constableref01_Word.f k a0_2 false).bind fun t170 => (some t170)) else (some false)) else (if a0_0 = 3 then (if a0_1 = 0 then (constableref01_Value.j0 k (decide ((a0_2.size : Int) > 60)) a0_0 a0_1 a0_2) else (constableref01_Value.j0 k true a0_0 a0_1 a0_2)) else (some false)))
theorem constableref01_Value.mono_l : ∀ k, (∀ y0 y1 y2 y3, LeO (constableref01_Value.j0 k y0 y1 y2 y3) (constableref01_Value.j0 (k + 1) y0 y1 y2 y3)) ∧ (∀ y0 y1 y2 y3, LeO (constableref01_Value.l0 k y0 y1 y2 y3) (constableref01_Value.l0 (k + 1) y0 y1 y2 y3))
  | 0 => ⟨fun _ _ _ _ r h => by simp [constableref01_Value.j0] at h, fun _ _ _ _ r h => by simp [constableref01_Value.l0] at h⟩
  | k + 1 => by
    obtain ⟨ih0, ih1⟩ := constableref01_Value.mono_l k
    refine ⟨?_, ?_⟩
    · intro y0 y1 y2 y3
      unfold constableref01_Value.j0
      repeat' first
      | (with_reducible exact ih0 _ _ _ _)
      | (with_reducible exact ih1 _ _ _ _)
      | (with_reducible exact constableref01_Word.mono _ _ _)
      | (with_reducible exact LeO.refl _)
      | (with_reducible exact LeO.none _)
      | (with_reducible refine LeO.ite ?_ ?_)
      | (with_reducible refine LeO.bind ?_ (fun _ => ?_))
      | exact ih0 _ _ _ _
      | exact ih1 _ _ _ _
      | exact constableref01_Word.mono _ _ _
      | exact LeO.none _
      | refine LeO.ite ?_ ?_
      | refine LeO.bind ?_ (fun _ => ?_)
    · intro y0 y1 y2 y3
      unfold constableref01_Value.l0
      repeat' first
      | (with_reducible exact ih0 _ _ _ _)
      | (with_reducible exact ih1 _ _ _ _)
      | (with_reducible exact constableref01_Word.mono _ _ _)
      | (with_reducible exact LeO.refl _)
      | (with_reducible exact LeO.none _)
      | (with_reducible refine LeO.ite ?_ ?_)
      | (with_reducible refine LeO.bind ?_ (fun _ => ?_))
      | exact ih0 _ _ _ _
      | exact ih1 _ _ _ _
      | exact constableref01_Word.mono _ _ _
      | exact LeO.none _
      | refine LeO.ite ?_ ?_
      | refine LeO.bind ?_ (fun _ => ?_)
theorem constableref01_Value.mono : ∀ a0 a1 a2 k, LeO (constableref01_Value.f k a0 a1 a2) (constableref01_Value.f (k + 1) a0 a1 a2) := by
  intro a0 a1 a2 k
  obtain ⟨ih0, ih1⟩ := constableref01_Value.mono_l k
  unfold constableref01_Value.f
  repeat' first
      | (with_reducible exact ih0 _ _ _ _)
      | (with_reducible exact ih1 _ _ _ _)
      | (with_reducible exact constableref01_Word.mono _ _ _)
      | (with_reducible exact LeO.refl _)
      | (with_reducible exact LeO.none _)
      | (with_reducible refine LeO.ite ?_ ?_)
      | (with_reducible refine LeO.bind ?_ (fun _ => ?_))
      | exact ih0 _ _ _ _
      | exact ih1 _ _ _ _
      | exact constableref01_Word.mono _ _ _
      | exact LeO.none _
      | refine LeO.ite ?_ ?_
      | refine LeO.bind ?_ (fun _ => ?_)
set_option maxHeartbeats 8000000 in
set_option maxRecDepth 100000 in
theorem constableref01_Value.calls (k : Nat) (a0_0 : Int) (a0_1 : Int) (a0_2 : ByteArray) (r : Bool) (w : World) (h : constableref01_Value.f k a0_0 a0_1 a0_2 = some r) :
    Calls Try.prog 19 #[.agg #[.int .i64 a0_0, .int .i64 a0_1, .string a0_2]] w fun e w' => e = .returned (.bool r) ∧ Below w.heap.size w w' := by
  have hu23 := Try.underlying23
  have HB := Aside0.mk (Below.refl w.heap.size w)
  have H : (if a0_0 = 1 then ((constableref01_In.f a0_1 (-4611686018427387904) 4611686018427387904).bind fun t169 => (if t169 = true then (some ((a0_2.size : Int) == 0)) else (some false))) else (if a0_0 = 2 then (if a0_1 = 0 then ((constableref01_Word.f k a0_2 false).bind fun t170 => (some t170)) else (some false)) else (if a0_0 = 3 then (if a0_1 = 0 then (constableref01_Value.j0 k (decide ((a0_2.size : Int) > 60)) a0_0 a0_1 a0_2) else (constableref01_Value.j0 k true a0_0 a0_1 a0_2)) else (some false)))) = some r := h
  clear h
  by_cases c2 : a0_0 = 1
  · rw [if_pos c2] at H
    obtain ⟨c2b0, c2b1⟩ := eqB_ c2
    clear c2
    replace H := Option.bind_eq_some_iff.mp H
    obtain ⟨t169, A30, H⟩ := H
    replace H : (if t169 = true then (some ((a0_2.size : Int) == 0)) else (some false)) = some r := H
    have A3 := Aside0.mk A30
    clear A30
    by_cases c4 : t169 = true
    · subst c4
      have H1 : (some ((a0_2.size : Int) == 0)) = some r := by rw [if_pos rfl] at H; exact H
      clear H
      have H := H1
      clear H1
      obtain rfl := Option.some.inj H
      go_enter Try.func19, Try.ntmps19
      go_wp2_with (first | ((with_reducible refine gate_dst (N := 1) rfl ?_); (try (refine gate_guard (by rfl) ?_; dsimp only)); refine box_event ?hg (N := 1) ?hd (cs := #[.int .i64 a0_0, .int .i64 a0_1, .string a0_2]) (t := 23) ?hr ?_; (case hd => rfl); (case hg => rfl); (case hr => first | (go_simp; done) | (go_simp; rfl)); intro gb168 hg w5 hbox hb; have n0_ := bs_ (be_ HB) hb; have n1_ := Aside0.mk (hbox); have n2_ := gs_ hg (be_ HB); have n3_ := gs_ hg (be_ HB); clear HB; have HB := n0_; have BK168 := n1_; have GW168 := n2_; have GE168 := n3_; clear n0_ n1_ n2_ n3_; clear hb hbox hg; have hcz6_0 : w5.cell? ⟨gb168, 0, none⟩ = some (.int .i64 a0_0) := (blk_cell BK168.out 0).trans rfl; have hcz6_1 : w5.cell? ⟨gb168, 1, none⟩ = some (.int .i64 a0_1) := (blk_cell BK168.out 1).trans rfl; have hcz6_2 : w5.cell? ⟨gb168, 2, none⟩ = some (.string a0_2) := (blk_cell BK168.out 2).trans rfl; have hfz6_0 := blk_frozen BK168.out 0; have hfz6_1 := blk_frozen BK168.out 1; have hfz6_2 := blk_frozen BK168.out 2) | ((with_reducible refine gate_callee (f := 29) rfl ?_); refine goesL_ (some 10) rfl rfl Try.func29 (by kernel_rfl) rfl #[.int .i64 a0_1, .int .i64 (-4611686018427387904), .int .i64 4611686018427387904] rfl ga_ ?_; (with_reducible refine (constableref01_In.calls a0_1 (-4611686018427387904) 4611686018427387904 true _ A3.out).mono ?_); rintro e w' ⟨rfl, ⟨nd, rfl⟩⟩; refine ⟨_, rfl, ?_⟩))
      go_ret
      exact ⟨by first | rfl | (simp [errW_none, errW_some] <;> rfl) | (simp [*, errW_none, errW_some] <;> rfl), by repeat (first | (with_reducible first | exact HB.out | apply below_alloc | apply pw_below_drewN | apply below_drew1 | refine below_set ?_ GE168.out) | exact HB.out)⟩
    · replace c4 := Bool.eq_false_iff.mpr c4
      subst c4
      have H1 : (some false) = some r := by rw [if_neg (show ¬ (false = true) by decide)] at H; exact H
      clear H
      have H := H1
      clear H1
      obtain rfl := Option.some.inj H
      go_enter Try.func19, Try.ntmps19
      go_wp2_with (first | ((with_reducible refine gate_dst (N := 1) rfl ?_); (try (refine gate_guard (by rfl) ?_; dsimp only)); refine box_event ?hg (N := 1) ?hd (cs := #[.int .i64 a0_0, .int .i64 a0_1, .string a0_2]) (t := 23) ?hr ?_; (case hd => rfl); (case hg => rfl); (case hr => first | (go_simp; done) | (go_simp; rfl)); intro gb168 hg w7 hbox hb; have n0_ := bs_ (be_ HB) hb; have n1_ := Aside0.mk (hbox); have n2_ := gs_ hg (be_ HB); have n3_ := gs_ hg (be_ HB); clear HB; have HB := n0_; have BK168 := n1_; have GW168 := n2_; have GE168 := n3_; clear n0_ n1_ n2_ n3_; clear hb hbox hg; have hcz8_0 : w7.cell? ⟨gb168, 0, none⟩ = some (.int .i64 a0_0) := (blk_cell BK168.out 0).trans rfl; have hcz8_1 : w7.cell? ⟨gb168, 1, none⟩ = some (.int .i64 a0_1) := (blk_cell BK168.out 1).trans rfl; have hcz8_2 : w7.cell? ⟨gb168, 2, none⟩ = some (.string a0_2) := (blk_cell BK168.out 2).trans rfl; have hfz8_0 := blk_frozen BK168.out 0; have hfz8_1 := blk_frozen BK168.out 1; have hfz8_2 := blk_frozen BK168.out 2) | ((with_reducible refine gate_callee (f := 29) rfl ?_); refine goesL_ (some 10) rfl rfl Try.func29 (by kernel_rfl) rfl #[.int .i64 a0_1, .int .i64 (-4611686018427387904), .int .i64 4611686018427387904] rfl ga_ ?_; (with_reducible refine (constableref01_In.calls a0_1 (-4611686018427387904) 4611686018427387904 false _ A3.out).mono ?_); rintro e w' ⟨rfl, ⟨nd, rfl⟩⟩; refine ⟨_, rfl, ?_⟩))
      go_ret
      exact ⟨by first | rfl | (simp [errW_none, errW_some] <;> rfl) | (simp [*, errW_none, errW_some] <;> rfl), by repeat (first | (with_reducible first | exact HB.out | apply below_alloc | apply pw_below_drewN | apply below_drew1 | refine below_set ?_ GE168.out) | exact HB.out)⟩
  · rw [if_neg c2] at H
    obtain ⟨c2b0, c2b1⟩ := neB_ c2
    by_cases c9 : a0_0 = 2
    · rw [if_pos c9] at H
      obtain ⟨c9b0, c9b1⟩ := eqB_ c9
      clear c9
      by_cases c10 : a0_1 = 0
      · rw [if_pos c10] at H
        obtain ⟨c10b0, c10b1⟩ := eqB_ c10
        clear c10
        replace H := Option.bind_eq_some_iff.mp H
        obtain ⟨t170, A110, H⟩ := H
        replace H : (some t170) = some r := H
        have A11 := Aside0.mk A110
        clear A110
        obtain rfl := Option.some.inj H
        go_enter Try.func19, Try.ntmps19
        go_wp2_with (first | ((with_reducible refine gate_dst (N := 1) rfl ?_); (try (refine gate_guard (by rfl) ?_; dsimp only)); refine box_event ?hg (N := 1) ?hd (cs := #[.int .i64 a0_0, .int .i64 a0_1, .string a0_2]) (t := 23) ?hr ?_; (case hd => rfl); (case hg => rfl); (case hr => first | (go_simp; done) | (go_simp; rfl)); intro gb168 hg w12 hbox hb; have n0_ := bs_ (be_ HB) hb; have n1_ := Aside0.mk (hbox); have n2_ := gs_ hg (be_ HB); have n3_ := gs_ hg (be_ HB); clear HB; have HB := n0_; have BK168 := n1_; have GW168 := n2_; have GE168 := n3_; clear n0_ n1_ n2_ n3_; clear hb hbox hg; have hcz13_0 : w12.cell? ⟨gb168, 0, none⟩ = some (.int .i64 a0_0) := (blk_cell BK168.out 0).trans rfl; have hcz13_1 : w12.cell? ⟨gb168, 1, none⟩ = some (.int .i64 a0_1) := (blk_cell BK168.out 1).trans rfl; have hcz13_2 : w12.cell? ⟨gb168, 2, none⟩ = some (.string a0_2) := (blk_cell BK168.out 2).trans rfl; have hfz13_0 := blk_frozen BK168.out 0; have hfz13_1 := blk_frozen BK168.out 1; have hfz13_2 := blk_frozen BK168.out 2) | (go_at_call 34; (with_reducible refine (constableref01_Word.calls k a0_2 false t170 _ A11.out).mono ?_); rintro e w' ⟨rfl, ⟨nd, rfl⟩⟩))
        go_ret
        exact ⟨by first | rfl | (simp [errW_none, errW_some] <;> rfl) | (simp [*, errW_none, errW_some] <;> rfl), by repeat (first | (with_reducible first | exact HB.out | apply below_alloc | apply pw_below_drewN | apply below_drew1 | refine below_set ?_ GE168.out) | exact HB.out)⟩
      · rw [if_neg c10] at H
        obtain ⟨c10b0, c10b1⟩ := neB_ c10
        obtain rfl := Option.some.inj H
        go_enter Try.func19, Try.ntmps19
        go_wp2_with (first | ((with_reducible refine gate_dst (N := 1) rfl ?_); (try (refine gate_guard (by rfl) ?_; dsimp only)); refine box_event ?hg (N := 1) ?hd (cs := #[.int .i64 a0_0, .int .i64 a0_1, .string a0_2]) (t := 23) ?hr ?_; (case hd => rfl); (case hg => rfl); (case hr => first | (go_simp; done) | (go_simp; rfl)); intro gb168 hg w14 hbox hb; have n0_ := bs_ (be_ HB) hb; have n1_ := Aside0.mk (hbox); have n2_ := gs_ hg (be_ HB); have n3_ := gs_ hg (be_ HB); clear HB; have HB := n0_; have BK168 := n1_; have GW168 := n2_; have GE168 := n3_; clear n0_ n1_ n2_ n3_; clear hb hbox hg; have hcz15_0 : w14.cell? ⟨gb168, 0, none⟩ = some (.int .i64 a0_0) := (blk_cell BK168.out 0).trans rfl; have hcz15_1 : w14.cell? ⟨gb168, 1, none⟩ = some (.int .i64 a0_1) := (blk_cell BK168.out 1).trans rfl; have hcz15_2 : w14.cell? ⟨gb168, 2, none⟩ = some (.string a0_2) := (blk_cell BK168.out 2).trans rfl; have hfz15_0 := blk_frozen BK168.out 0; have hfz15_1 := blk_frozen BK168.out 1; have hfz15_2 := blk_frozen BK168.out 2))
        go_ret
        exact ⟨by first | rfl | (simp [errW_none, errW_some] <;> rfl) | (simp [*, errW_none, errW_some] <;> rfl), by repeat (first | (with_reducible first | exact HB.out | apply below_alloc | apply pw_below_drewN | apply below_drew1 | refine below_set ?_ GE168.out) | exact HB.out)⟩
    · rw [if_neg c9] at H
      obtain ⟨c9b0, c9b1⟩ := neB_ c9
      by_cases c16 : a0_0 = 3
      · rw [if_pos c16] at H
        obtain ⟨c16b0, c16b1⟩ := eqB_ c16
        clear c16
        have HC17 := Aside0.mk H
        clear H
        go_enter Try.func19, Try.ntmps19
        go_upto_region 7 with (first | ((with_reducible refine gate_dst (N := 1) rfl ?_); (try (refine gate_guard (by rfl) ?_; dsimp only)); refine box_event ?hg (N := 1) ?hd (cs := #[.int .i64 a0_0, .int .i64 a0_1, .string a0_2]) (t := 23) ?hr ?_; (case hd => rfl); (case hg => rfl); (case hr => first | (go_simp; done) | (go_simp; rfl)); intro gb168 hg w18 hbox hb; have n0_ := bs_ (be_ HB) hb; have n1_ := Aside0.mk (hbox); have n2_ := gs_ hg (be_ HB); have n3_ := gs_ hg (be_ HB); clear HB; have HB := n0_; have BK168 := n1_; have GW168 := n2_; have GE168 := n3_; clear n0_ n1_ n2_ n3_; clear hb hbox hg; have hcz19_0 : w18.cell? ⟨gb168, 0, none⟩ = some (.int .i64 a0_0) := (blk_cell BK168.out 0).trans rfl; have hcz19_1 : w18.cell? ⟨gb168, 1, none⟩ = some (.int .i64 a0_1) := (blk_cell BK168.out 1).trans rfl; have hcz19_2 : w18.cell? ⟨gb168, 2, none⟩ = some (.string a0_2) := (blk_cell BK168.out 2).trans rfl; have hfz19_0 := blk_frozen BK168.out 0; have hfz19_1 := blk_frozen BK168.out 1; have hfz19_2 := blk_frozen BK168.out 2))
        (try simp only [Act.put, List.setIfInBounds_toArray, List.set_cons_zero, List.set_cons_succ])
        go_cut [37] (fun v37 wc => ∃ (kq : Nat) (x37_16 : Bool), v37 = .bool x37_16 ∧ Aside0 (constableref01_Value.j0 kq x37_16 a0_0 a0_1 a0_2 = some r) ∧ Aside0 (kq ≤ k) ∧ Aside0 (wc.heap[gb168]? = some (.cells #[.int .i64 a0_0, .int .i64 a0_1, .string a0_2] 23 (0, 0))) ∧ Aside0 (Below w.heap.size w wc))
        case first =>
          have H := HC17.out
          clear HC17
          by_cases c20 : a0_1 = 0
          · rw [if_pos c20] at H
            obtain ⟨c20b0, c20b1⟩ := eqB_ c20
            clear c20
            (first | rw [c20b0] | (simp only [i64_w, i32_w]; rw [c20b0]) | skip)
            have H' := Aside0.mk H
            clear H
            have hcz21_0 : w18.cell? ⟨gb168, 0, none⟩ = some (.int .i64 a0_0) := (blk_cell BK168.out 0).trans rfl
            have hcz21_1 : w18.cell? ⟨gb168, 1, none⟩ = some (.int .i64 a0_1) := (blk_cell BK168.out 1).trans rfl
            have hcz21_2 : w18.cell? ⟨gb168, 2, none⟩ = some (.string a0_2) := (blk_cell BK168.out 2).trans rfl
            have hfz21_0 := blk_frozen BK168.out 0
            have hfz21_1 := blk_frozen BK168.out 1
            have hfz21_2 := blk_frozen BK168.out 2
            go_wp2
            go_meet
            case rel => exact ⟨_, (decide ((a0_2.size : Int) > 60)), ra_, H', ⟨by first | omega | exact Nat.le_refl _⟩, ⟨by (with_reducible repeat (first | refine blk_drewN ?_ _ | refine blk_drew ?_ | refine blk_alloc ?_ _)); exact BK168.out⟩, ⟨by repeat (first | (with_reducible first | exact HB.out | apply below_alloc | apply pw_below_drewN | apply below_drew1 | refine below_set ?_ GE168.out) | exact HB.out)⟩⟩
          · rw [if_neg c20] at H
            obtain ⟨c20b0, c20b1⟩ := neB_ c20
            (first | rw [c20b0] | (simp only [i64_w, i32_w]; rw [c20b0]) | skip)
            have H' := Aside0.mk H
            clear H
            have hcz22_0 : w18.cell? ⟨gb168, 0, none⟩ = some (.int .i64 a0_0) := (blk_cell BK168.out 0).trans rfl
            have hcz22_1 : w18.cell? ⟨gb168, 1, none⟩ = some (.int .i64 a0_1) := (blk_cell BK168.out 1).trans rfl
            have hcz22_2 : w18.cell? ⟨gb168, 2, none⟩ = some (.string a0_2) := (blk_cell BK168.out 2).trans rfl
            have hfz22_0 := blk_frozen BK168.out 0
            have hfz22_1 := blk_frozen BK168.out 1
            have hfz22_2 := blk_frozen BK168.out 2
            go_wp2
            go_meet
            case rel => exact ⟨_, (true), ra_, H', ⟨by first | omega | exact Nat.le_refl _⟩, ⟨by (with_reducible repeat (first | refine blk_drewN ?_ _ | refine blk_drew ?_ | refine blk_alloc ?_ _)); exact BK168.out⟩, ⟨by repeat (first | (with_reducible first | exact HB.out | apply below_alloc | apply pw_below_drewN | apply below_drew1 | refine below_set ?_ GE168.out) | exact HB.out)⟩⟩
        case rest =>
          clear HC17
          try clear c1
          try clear c2
          try clear c2b0
          try clear c2b1
          try clear p2
          try clear c4
          try clear c9
          try clear c9b0
          try clear c9b1
          try clear c10
          try clear c10b0
          try clear c10b1
          try clear c16
          try clear c16b0
          try clear c16b1
          try clear c19
          try clear c20
          try clear c20b0
          try clear c20b1
          try clear hcz13_0
          try clear hcz13_1
          try clear hcz13_2
          try clear hcz15_0
          try clear hcz15_1
          try clear hcz15_2
          try clear hcz19_0
          try clear hcz19_1
          try clear hcz19_2
          try clear hcz21_0
          try clear hcz21_1
          try clear hcz21_2
          try clear hcz22_0
          try clear hcz22_1
          try clear hcz22_2
          try clear hcz6_0
          try clear hcz6_1
          try clear hcz6_2
          try clear hcz8_0
          try clear hcz8_1
          try clear hcz8_2
          try clear hfz13_0
          try clear hfz13_1
          try clear hfz13_2
          try clear hfz15_0
          try clear hfz15_1
          try clear hfz15_2
          try clear hfz19_0
          try clear hfz19_1
          try clear hfz19_2
          try clear hfz21_0
          try clear hfz21_1
          try clear hfz21_2
          try clear hfz22_0
          try clear hfz22_1
          try clear hfz22_2
          try clear hfz6_0
          try clear hfz6_1
          try clear hfz6_2
          try clear hfz8_0
          try clear hfz8_1
          try clear hfz8_2
          obtain ⟨kq, x37_16, rfl, HA, HJ16, BK168, HB⟩ := hcut
          cases kq with
          | zero => exact absurd HA.out (by simp [constableref01_Value.j0])
          | succ kj16 =>
            have H := HA.out
            clear HA
            simp only [constableref01_Value.j0] at H
            by_cases c23 : x37_16 = true
            · subst c23
              have H1 : (some false) = some r := by rw [if_pos rfl] at H; exact H
              clear H
              have H := H1
              clear H1
              obtain rfl := Option.some.inj H
              go_wp2
              go_ret
              exact ⟨by first | rfl | (simp [errW_none, errW_some] <;> rfl) | (simp [*, errW_none, errW_some] <;> rfl), by repeat (first | (with_reducible first | exact HB.out | apply below_alloc | apply pw_below_drewN | apply below_drew1 | refine below_set ?_ GE168.out) | exact HB.out)⟩
            · replace c23 := Bool.eq_false_iff.mpr c23
              subst c23
              have H1 : (constableref01_Value.l0 kj16 0 a0_0 a0_1 a0_2) = some r := by rw [if_neg (show ¬ (false = true) by decide)] at H; exact H
              clear H
              have H := H1
              clear H1
              have H' := Aside0.mk H
              clear H
              go_wp2
              go_loopg [3] kj16 (fun kq v3 w' => ∃ (x3_2 : Int), v3 = .int .i64 x3_2 ∧ Aside0 (constableref01_Value.l0 kq x3_2 a0_0 a0_1 a0_2 = some r) ∧ Aside0 (kq ≤ kj16) ∧ Aside0 (w'.heap[gb168]? = some (.cells #[.int .i64 a0_0, .int .i64 a0_1, .string a0_2] 23 (0, 0))) ∧ Aside0 (Below w.heap.size w w'))
              case atStart => exact ⟨(0), ra_, H', ⟨Nat.le_refl _⟩, ⟨by (with_reducible repeat (first | refine blk_drewN ?_ _ | refine blk_drew ?_ | refine blk_alloc ?_ _)); exact BK168.out⟩, ⟨by repeat (first | (with_reducible first | exact HB.out | apply below_alloc | apply pw_below_drewN | apply below_drew1 | refine below_set ?_ GE168.out) | exact HB.out)⟩⟩
              case round =>
                clear H'
                try clear c1
                try clear c2
                try clear c2b0
                try clear c2b1
                try clear p2
                try clear c4
                try clear c9
                try clear c9b0
                try clear c9b1
                try clear c10
                try clear c10b0
                try clear c10b1
                try clear c16
                try clear c16b0
                try clear c16b1
                try clear c19
                try clear c20
                try clear c20b0
                try clear c20b1
                try clear c23
                try clear hcz13_0
                try clear hcz13_1
                try clear hcz13_2
                try clear hcz15_0
                try clear hcz15_1
                try clear hcz15_2
                try clear hcz19_0
                try clear hcz19_1
                try clear hcz19_2
                try clear hcz21_0
                try clear hcz21_1
                try clear hcz21_2
                try clear hcz22_0
                try clear hcz22_1
                try clear hcz22_2
                try clear hcz6_0
                try clear hcz6_1
                try clear hcz6_2
                try clear hcz8_0
                try clear hcz8_1
                try clear hcz8_2
                try clear hfz13_0
                try clear hfz13_1
                try clear hfz13_2
                try clear hfz15_0
                try clear hfz15_1
                try clear hfz15_2
                try clear hfz19_0
                try clear hfz19_1
                try clear hfz19_2
                try clear hfz21_0
                try clear hfz21_1
                try clear hfz21_2
                try clear hfz22_0
                try clear hfz22_1
                try clear hfz22_2
                try clear hfz6_0
                try clear hfz6_1
                try clear hfz6_2
                try clear hfz8_0
                try clear hfz8_1
                try clear hfz8_2
                try clear p2
                obtain ⟨x3_2, rfl, HA, HK2, BK168, HB⟩ := hrel
                cases gk with
                | zero => exact absurd HA.out (by simp [constableref01_Value.l0])
                | succ k2 =>
                  have H := HA.out
                  clear HA
                  simp only [constableref01_Value.l0] at H
                  by_cases c24 : x3_2 < (a0_2.size : Int)
                  · rw [if_pos c24] at H
                    have c24b0 : decide (x3_2 < (a0_2.size : Int)) = true := decide_eq_true c24
                    clear c24
                    by_cases c25 : 0 ≤ x3_2
                    · rw [if_pos c25] at H
                      have c25b0 : decide (0 ≤ x3_2) = true := decide_eq_true c25
                      clear c25
                      replace H := Option.bind_eq_some_iff.mp H
                      obtain ⟨t171, A270, H⟩ := H
                      replace H : (if t171 = true then (constableref01_Value.l0 k2 (wrap64 (x3_2 + 1)) a0_0 a0_1 a0_2) else (some false)) = some r := H
                      have A27 := Aside0.mk A270
                      clear A270
                      by_cases c28 : t171 = true
                      · subst c28
                        have H1 : (constableref01_Value.l0 k2 (wrap64 (x3_2 + 1)) a0_0 a0_1 a0_2) = some r := by rw [if_pos rfl] at H; exact H
                        clear H
                        have H := H1
                        clear H1
                        have H' := Aside0.mk H
                        clear H
                        have hcz29_0 : wr.cell? ⟨gb168, 0, none⟩ = some (.int .i64 a0_0) := (blk_cell BK168.out 0).trans rfl
                        have hcz29_1 : wr.cell? ⟨gb168, 1, none⟩ = some (.int .i64 a0_1) := (blk_cell BK168.out 1).trans rfl
                        have hcz29_2 : wr.cell? ⟨gb168, 2, none⟩ = some (.string a0_2) := (blk_cell BK168.out 2).trans rfl
                        have hfz29_0 := blk_frozen BK168.out 0
                        have hfz29_1 := blk_frozen BK168.out 1
                        have hfz29_2 := blk_frozen BK168.out 2
                        have p26 : 0 ≤ (x3_2 : Int) := dt_
                        have q26 : x3_2 < (a0_2.size : Int) := dt_
                        have hx26 := bt_at a0_2 x3_2
                        replace p26 := eq_true p26
                        replace q26 := eq_true q26
                        go_wp2_with (first | ((with_reducible refine gate_callee (f := 29) rfl ?_); refine goesL_ (some 50) rfl rfl Try.func29 (by kernel_rfl) rfl #[.int .i64 (wrap64 (bt a0_2 x3_2)), .int .i64 32, .int .i64 126] rfl ga_ ?_; (with_reducible refine (constableref01_In.calls (wrap64 (bt a0_2 x3_2)) 32 126 true _ A27.out).mono ?_); rintro e w' ⟨rfl, ⟨nd, rfl⟩⟩; refine ⟨_, rfl, ?_⟩))
                        go_roundg k2
                        case measure => have := HJ16.out; have := HK2.out; omega
                        case rel => exact ⟨(wrap64 (x3_2 + 1)), ra_, H', ⟨by have := HJ16.out; have := HK2.out; omega⟩, ⟨by (with_reducible repeat (first | refine blk_drewN ?_ _ | refine blk_drew ?_ | refine blk_alloc ?_ _)); exact BK168.out⟩, ⟨by repeat (first | (with_reducible first | exact HB.out | apply below_alloc | apply pw_below_drewN | apply below_drew1 | refine below_set ?_ GE168.out) | exact HB.out)⟩⟩
                      · replace c28 := Bool.eq_false_iff.mpr c28
                        subst c28
                        have H1 : (some false) = some r := by rw [if_neg (show ¬ (false = true) by decide)] at H; exact H
                        clear H
                        have H := H1
                        clear H1
                        obtain rfl := Option.some.inj H
                        have hcz30_0 : wr.cell? ⟨gb168, 0, none⟩ = some (.int .i64 a0_0) := (blk_cell BK168.out 0).trans rfl
                        have hcz30_1 : wr.cell? ⟨gb168, 1, none⟩ = some (.int .i64 a0_1) := (blk_cell BK168.out 1).trans rfl
                        have hcz30_2 : wr.cell? ⟨gb168, 2, none⟩ = some (.string a0_2) := (blk_cell BK168.out 2).trans rfl
                        have hfz30_0 := blk_frozen BK168.out 0
                        have hfz30_1 := blk_frozen BK168.out 1
                        have hfz30_2 := blk_frozen BK168.out 2
                        have p26 : 0 ≤ (x3_2 : Int) := dt_
                        have q26 : x3_2 < (a0_2.size : Int) := dt_
                        have hx26 := bt_at a0_2 x3_2
                        replace p26 := eq_true p26
                        replace q26 := eq_true q26
                        go_wp2_with (first | ((with_reducible refine gate_callee (f := 29) rfl ?_); refine goesL_ (some 50) rfl rfl Try.func29 (by kernel_rfl) rfl #[.int .i64 (wrap64 (bt a0_2 x3_2)), .int .i64 32, .int .i64 126] rfl ga_ ?_; (with_reducible refine (constableref01_In.calls (wrap64 (bt a0_2 x3_2)) 32 126 false _ A27.out).mono ?_); rintro e w' ⟨rfl, ⟨nd, rfl⟩⟩; refine ⟨_, rfl, ?_⟩))
                        go_ret
                        exact ⟨by first | rfl | (simp [errW_none, errW_some] <;> rfl) | (simp [*, errW_none, errW_some] <;> rfl), by repeat (first | (with_reducible first | exact HB.out | apply below_alloc | apply pw_below_drewN | apply below_drew1 | refine below_set ?_ GE168.out) | exact HB.out)⟩
                    · rw [if_neg c25] at H
                      exact absurd H (by simp)
                  · rw [if_neg c24] at H
                    have c24b0 : decide (x3_2 < (a0_2.size : Int)) = false := decide_eq_false c24
                    clear c24
                    obtain rfl := Option.some.inj H
                    have hcz31_0 : wr.cell? ⟨gb168, 0, none⟩ = some (.int .i64 a0_0) := (blk_cell BK168.out 0).trans rfl
                    have hcz31_1 : wr.cell? ⟨gb168, 1, none⟩ = some (.int .i64 a0_1) := (blk_cell BK168.out 1).trans rfl
                    have hcz31_2 : wr.cell? ⟨gb168, 2, none⟩ = some (.string a0_2) := (blk_cell BK168.out 2).trans rfl
                    have hfz31_0 := blk_frozen BK168.out 0
                    have hfz31_1 := blk_frozen BK168.out 1
                    have hfz31_2 := blk_frozen BK168.out 2
                    go_wp2
                    go_ret
                    exact ⟨by first | rfl | (simp [errW_none, errW_some] <;> rfl) | (simp [*, errW_none, errW_some] <;> rfl), by repeat (first | (with_reducible first | exact HB.out | apply below_alloc | apply pw_below_drewN | apply below_drew1 | refine below_set ?_ GE168.out) | exact HB.out)⟩
      · rw [if_neg c16] at H
        obtain ⟨c16b0, c16b1⟩ := neB_ c16
        obtain rfl := Option.some.inj H
        go_enter Try.func19, Try.ntmps19
        go_wp2_with (first | ((with_reducible refine gate_dst (N := 1) rfl ?_); (try (refine gate_guard (by rfl) ?_; dsimp only)); refine box_event ?hg (N := 1) ?hd (cs := #[.int .i64 a0_0, .int .i64 a0_1, .string a0_2]) (t := 23) ?hr ?_; (case hd => rfl); (case hg => rfl); (case hr => first | (go_simp; done) | (go_simp; rfl)); intro gb168 hg w32 hbox hb; have n0_ := bs_ (be_ HB) hb; have n1_ := Aside0.mk (hbox); have n2_ := gs_ hg (be_ HB); have n3_ := gs_ hg (be_ HB); clear HB; have HB := n0_; have BK168 := n1_; have GW168 := n2_; have GE168 := n3_; clear n0_ n1_ n2_ n3_; clear hb hbox hg; have hcz33_0 : w32.cell? ⟨gb168, 0, none⟩ = some (.int .i64 a0_0) := (blk_cell BK168.out 0).trans rfl; have hcz33_1 : w32.cell? ⟨gb168, 1, none⟩ = some (.int .i64 a0_1) := (blk_cell BK168.out 1).trans rfl; have hcz33_2 : w32.cell? ⟨gb168, 2, none⟩ = some (.string a0_2) := (blk_cell BK168.out 2).trans rfl; have hfz33_0 := blk_frozen BK168.out 0; have hfz33_1 := blk_frozen BK168.out 1; have hfz33_2 := blk_frozen BK168.out 2))
        go_ret
        exact ⟨by first | rfl | (simp [errW_none, errW_some] <;> rfl) | (simp [*, errW_none, errW_some] <;> rfl), by repeat (first | (with_reducible first | exact HB.out | apply below_alloc | apply pw_below_drewN | apply below_drew1 | refine below_set ?_ GE168.out) | exact HB.out)⟩
end Go.Proofs.Ytaopajmpifenoaa.P
end
section
namespace Go.Proofs.Ytaopajmpifenoaa.P
open Go.RowKit Go.Proofs.YtaopajmpifenoaaW.PrintWords Go.Proofs.YtaopajmpifenoaaW.PrintLast Go.Proofs.YtaopajmpifenoaaW.PrintMore
attribute [local go_sem] max2_int min2_int max_two min_two max_three min_three max_four min_four
set_option linter.unusedVariables false
set_option linter.unusedSimpArgs false
mutual
def constableref01_Do.j0 : Nat → Int → Int → Int → Bool → Option (Int × Int)
  | 0, _, _, _, _ => none
  | k + 1, x0, x1, x2, x17 => if x17 = true then (some (0, 3)) else ((constableref01_In.f x1 (-4611686018427387904) 4611686018427387904).bind fun t323 => (if t323 = true then ((constableref01_In.f x2 (-4611686018427387904) 4611686018427387904).bind fun t324 => (constableref01_Do.j1 k x0 x1 x2 (!t324))) else (constableref01_Do.j1 k x0 x1 x2 true)))
def constableref01_Do.j1 : Nat → Int → Int → Int → Bool → Option (Int × Int)
  | 0, _, _, _, _ => none
  | k + 1, x0, x1, x2, x25 => if x25 = true then (some (0, 4)) else (if x0 = 4 then (constableref01_Do.j2 k x0 x1 x2 (x0 == 4)) else (constableref01_Do.j2 k x0 x1 x2 (x0 == 3)))
def constableref01_Do.j2 : Nat → Int → Int → Int → Bool → Option (Int × Int)
  | 0, _, _, _, _ => none
  | k + 1, x0, x1, x2, x27 => if x27 = true then (if x0 = 4 then (constableref01_Do.j3 k x1 (wrap64 (-x2))) else (constableref01_Do.j3 k x1 x2)) else (if x1 = 0 then (some (wrap64 (x1 * x2), 0)) else (if x2 = 0 then (some (wrap64 (x1 * x2), 0)) else (if (mx x2 (wrap64 (-x2))) = 0 then (none) else (if (mx x1 (wrap64 (-x1))) > (wrap64 (Int.tdiv (4611686018427387904 : Int) (mx x2 (wrap64 (-x2))))) then (some (0, 4)) else (some (wrap64 (x1 * x2), 0))))))
def constableref01_Do.j3 : Nat → Int → Int → Option (Int × Int)
  | 0, _, _ => none
  | k + 1, x1, x2 => if x2 > 0 then (if x1 > (wrap64 (4611686018427387904 - x2)) then (constableref01_Do.j4 k x1 x2 true) else (if x2 < 0 then (constableref01_Do.j4 k x1 x2 (decide (x1 < (wrap64 ((-4611686018427387904) - x2))))) else (constableref01_Do.j4 k x1 x2 false))) else (if x2 < 0 then (constableref01_Do.j4 k x1 x2 (decide (x1 < (wrap64 ((-4611686018427387904) - x2))))) else (constableref01_Do.j4 k x1 x2 false))
def constableref01_Do.j4 : Nat → Int → Int → Bool → Option (Int × Int)
  | 0, _, _, _ => none
  | k + 1, x1, x2, x51 => if x51 = true then (some (0, 4)) else (some (wrap64 (x1 + x2), 0))
end
def constableref01_Do.f (k : Nat) (a0 : Int) (a1 : Int) (a2 : Int) : Option (Int × Int) := if a0 = 3 then (constableref01_Do.j0 k a0 a1 a2 false) else (if a0 = 4 then (constableref01_Do.j0 k a0 a1 a2 false) else (constableref01_Do.j0 k a0 a1 a2 (a0 != 5)))
theorem constableref01_Do.mono_l : ∀ k, (∀ y0 y1 y2 y3, LeO (constableref01_Do.j0 k y0 y1 y2 y3) (constableref01_Do.j0 (k + 1) y0 y1 y2 y3)) ∧ (∀ y0 y1 y2 y3, LeO (constableref01_Do.j1 k y0 y1 y2 y3) (constableref01_Do.j1 (k + 1) y0 y1 y2 y3)) ∧ (∀ y0 y1 y2 y3, LeO (constableref01_Do.j2 k y0 y1 y2 y3) (constableref01_Do.j2 (k + 1) y0 y1 y2 y3)) ∧ (∀ y0 y1, LeO (constableref01_Do.j3 k y0 y1) (constableref01_Do.j3 (k + 1) y0 y1)) ∧ (∀ y0 y1 y2, LeO (constableref01_Do.j4 k y0 y1 y2) (constableref01_Do.j4 (k + 1) y0 y1 y2))
  | 0 => ⟨fun _ _ _ _ r h => by simp [constableref01_Do.j0] at h, fun _ _ _ _ r h => by simp [constableref01_Do.j1] at h, fun _ _ _ _ r h => by simp [constableref01_Do.j2] at h, fun _ _ r h => by simp [constableref01_Do.j3] at h, fun _ _ _ r h => by simp [constableref01_Do.j4] at h⟩
  | k + 1 => by
    obtain ⟨ih0, ih1, ih2, ih3, ih4⟩ := constableref01_Do.mono_l k
    refine ⟨?_, ?_, ?_, ?_, ?_⟩
    · intro y0 y1 y2 y3
      unfold constableref01_Do.j0
      repeat' first
      | (with_reducible exact ih0 _ _ _ _)
      | (with_reducible exact ih1 _ _ _ _)
      | (with_reducible exact ih2 _ _ _ _)
      | (with_reducible exact ih3 _ _)
      | (with_reducible exact ih4 _ _ _)
      | (with_reducible exact LeO.refl _)
      | (with_reducible exact LeO.none _)
      | (with_reducible refine LeO.ite ?_ ?_)
      | (with_reducible refine LeO.bind ?_ (fun _ => ?_))
      | exact ih0 _ _ _ _
      | exact ih1 _ _ _ _
      | exact ih2 _ _ _ _
      | exact ih3 _ _
      | exact ih4 _ _ _
      | exact LeO.none _
      | refine LeO.ite ?_ ?_
      | refine LeO.bind ?_ (fun _ => ?_)
    · intro y0 y1 y2 y3
      unfold constableref01_Do.j1
      repeat' first
      | (with_reducible exact ih0 _ _ _ _)
      | (with_reducible exact ih1 _ _ _ _)
      | (with_reducible exact ih2 _ _ _ _)
      | (with_reducible exact ih3 _ _)
      | (with_reducible exact ih4 _ _ _)
      | (with_reducible exact LeO.refl _)
      | (with_reducible exact LeO.none _)
      | (with_reducible refine LeO.ite ?_ ?_)
      | (with_reducible refine LeO.bind ?_ (fun _ => ?_))
      | exact ih0 _ _ _ _
      | exact ih1 _ _ _ _
      | exact ih2 _ _ _ _
      | exact ih3 _ _
      | exact ih4 _ _ _
      | exact LeO.none _
      | refine LeO.ite ?_ ?_
      | refine LeO.bind ?_ (fun _ => ?_)
    · intro y0 y1 y2 y3
      unfold constableref01_Do.j2
      repeat' first
      | (with_reducible exact ih0 _ _ _ _)
      | (with_reducible exact ih1 _ _ _ _)
      | (with_reducible exact ih2 _ _ _ _)
      | (with_reducible exact ih3 _ _)
      | (with_reducible exact ih4 _ _ _)
      | (with_reducible exact LeO.refl _)
      | (with_reducible exact LeO.none _)
      | (with_reducible refine LeO.ite ?_ ?_)
      | (with_reducible refine LeO.bind ?_ (fun _ => ?_))
      | exact ih0 _ _ _ _
      | exact ih1 _ _ _ _
      | exact ih2 _ _ _ _
      | exact ih3 _ _
      | exact ih4 _ _ _
      | exact LeO.none _
      | refine LeO.ite ?_ ?_
      | refine LeO.bind ?_ (fun _ => ?_)
    · intro y0 y1
      unfold constableref01_Do.j3
      repeat' first
      | (with_reducible exact ih0 _ _ _ _)
      | (with_reducible exact ih1 _ _ _ _)
      | (with_reducible exact ih2 _ _ _ _)
      | (with_reducible exact ih3 _ _)
      | (with_reducible exact ih4 _ _ _)
      | (with_reducible exact LeO.refl _)
      | (with_reducible exact LeO.none _)
      | (with_reducible refine LeO.ite ?_ ?_)
      | (with_reducible refine LeO.bind ?_ (fun _ => ?_))
      | exact ih0 _ _ _ _
      | exact ih1 _ _ _ _
      | exact ih2 _ _ _ _
      | exact ih3 _ _
      | exact ih4 _ _ _
      | exact LeO.none _
      | refine LeO.ite ?_ ?_
      | refine LeO.bind ?_ (fun _ => ?_)
    · intro y0 y1 y2
      unfold constableref01_Do.j4
      repeat' first
      | (with_reducible exact ih0 _ _ _ _)
      | (with_reducible exact ih1 _ _ _ _)
      | (with_reducible exact ih2 _ _ _ _)
      | (with_reducible exact ih3 _ _)
      | (with_reducible exact ih4 _ _ _)
      | (with_reducible exact LeO.refl _)
      | (with_reducible exact LeO.none _)
      | (with_reducible refine LeO.ite ?_ ?_)
      | (with_reducible refine LeO.bind ?_ (fun _ => ?_))
      | exact ih0 _ _ _ _
      | exact ih1 _ _ _ _
      | exact ih2 _ _ _ _
      | exact ih3 _ _
      | exact ih4 _ _ _
      | exact LeO.none _
      | refine LeO.ite ?_ ?_
      | refine LeO.bind ?_ (fun _ => ?_)
theorem constableref01_Do.mono : ∀ a0 a1 a2 k, LeO (constableref01_Do.f k a0 a1 a2) (constableref01_Do.f (k + 1) a0 a1 a2) := by
  intro a0 a1 a2 k
  obtain ⟨ih0, ih1, ih2, ih3, ih4⟩ := constableref01_Do.mono_l k
  unfold constableref01_Do.f
  repeat' first
      | (with_reducible exact ih0 _ _ _ _)
      | (with_reducible exact ih1 _ _ _ _)
      | (with_reducible exact ih2 _ _ _ _)
      | (with_reducible exact ih3 _ _)
      | (with_reducible exact ih4 _ _ _)
      | (with_reducible exact LeO.refl _)
      | (with_reducible exact LeO.none _)
      | (with_reducible refine LeO.ite ?_ ?_)
      | (with_reducible refine LeO.bind ?_ (fun _ => ?_))
      | exact ih0 _ _ _ _
      | exact ih1 _ _ _ _
      | exact ih2 _ _ _ _
      | exact ih3 _ _
      | exact ih4 _ _ _
      | exact LeO.none _
      | refine LeO.ite ?_ ?_
      | refine LeO.bind ?_ (fun _ => ?_)
set_option maxHeartbeats 8000000 in
set_option maxRecDepth 100000 in
theorem constableref01_Do.calls (k : Nat) (a0 : Int) (a1 : Int) (a2 : Int) (r1 : Int) (r2 : Int) (w : World) (h : constableref01_Do.f k a0 a1 a2 = some (r1, r2)) :
    Calls Try.prog 52 #[.int .i64 a0, .int .i64 a1, .int .i64 a2] w fun e w' => e = .returned (.tuple #[.int .i64 r1, .int .i64 r2]) ∧ Below w.heap.size w w' := by
  have HB := Aside0.mk (Below.refl w.heap.size w)
  have H : (if a0 = 3 then (constableref01_Do.j0 k a0 a1 a2 false) else (if a0 = 4 then (constableref01_Do.j0 k a0 a1 a2 false) else (constableref01_Do.j0 k a0 a1 a2 (a0 != 5)))) = some (r1, r2) := h
  clear h
  have HC4 := Aside0.mk H
  clear H
  go_enter Try.func52, Try.ntmps52
  go_upto_region 1 with (fail)
  go_cut [17] (fun v17 wc => ∃ (kq : Nat) (x17_3 : Bool), v17 = .bool x17_3 ∧ Aside0 (constableref01_Do.j0 kq a0 a1 a2 x17_3 = some (r1, r2)) ∧ Aside0 (kq ≤ k) ∧ Aside0 (Below w.heap.size w wc))
  case first =>
    have H := HC4.out
    clear HC4
    by_cases c5 : a0 = 3
    · rw [if_pos c5] at H
      obtain ⟨c5b0, c5b1⟩ := eqB_ c5
      clear c5
      (first | rw [c5b0] | (simp only [i64_w, i32_w]; rw [c5b0]) | skip)
      have H' := Aside0.mk H
      clear H
      go_wp2
      go_meet
      case rel => exact ⟨_, (false), ra_, H', ⟨by first | omega | exact Nat.le_refl _⟩, ⟨by repeat (first | (with_reducible first | exact HB.out | apply below_alloc | apply pw_below_drewN | apply below_drew1) | exact HB.out)⟩⟩
    · rw [if_neg c5] at H
      obtain ⟨c5b0, c5b1⟩ := neB_ c5
      (first | rw [c5b0] | (simp only [i64_w, i32_w]; rw [c5b0]) | skip)
      by_cases c6 : a0 = 4
      · rw [if_pos c6] at H
        obtain ⟨c6b0, c6b1⟩ := eqB_ c6
        clear c6
        have H' := Aside0.mk H
        clear H
        go_wp2
        go_meet
        case rel => exact ⟨_, (false), ra_, H', ⟨by first | omega | exact Nat.le_refl _⟩, ⟨by repeat (first | (with_reducible first | exact HB.out | apply below_alloc | apply pw_below_drewN | apply below_drew1) | exact HB.out)⟩⟩
      · rw [if_neg c6] at H
        obtain ⟨c6b0, c6b1⟩ := neB_ c6
        have H' := Aside0.mk H
        clear H
        go_wp2
        go_meet
        case rel => exact ⟨_, ((a0 != 5)), ra_, H', ⟨by first | omega | exact Nat.le_refl _⟩, ⟨by repeat (first | (with_reducible first | exact HB.out | apply below_alloc | apply pw_below_drewN | apply below_drew1) | exact HB.out)⟩⟩
  case rest =>
    clear HC4
    try clear p2
    try clear c5
    try clear c5b0
    try clear c5b1
    try clear c6
    try clear c6b0
    try clear c6b1
    obtain ⟨kq, x17_3, rfl, HA, HJ3, HB⟩ := hcut
    cases kq with
    | zero => exact absurd HA.out (by simp [constableref01_Do.j0])
    | succ kj3 =>
      have H := HA.out
      clear HA
      simp only [constableref01_Do.j0] at H
      by_cases c7 : x17_3 = true
      · subst c7
        have H1 : (some (0, 3)) = some (r1, r2) := by rw [if_pos rfl] at H; exact H
        clear H
        have H := H1
        clear H1
        simp only [Option.some.injEq, Prod.mk.injEq] at H
        obtain ⟨rfl, rfl⟩ := H
        go_wp2
        go_ret2
        exact ⟨by first | rfl | (simp [errW_none, errW_some] <;> rfl) | (simp [*, errW_none, errW_some] <;> rfl), by repeat (first | (with_reducible first | exact HB.out | apply below_alloc | apply pw_below_drewN | apply below_drew1) | exact HB.out)⟩
      · replace c7 := Bool.eq_false_iff.mpr c7
        subst c7
        have H1 : ((constableref01_In.f a1 (-4611686018427387904) 4611686018427387904).bind fun t323 => (if t323 = true then ((constableref01_In.f a2 (-4611686018427387904) 4611686018427387904).bind fun t324 => (constableref01_Do.j1 kj3 a0 a1 a2 (!t324))) else (constableref01_Do.j1 kj3 a0 a1 a2 true))) = some (r1, r2) := by rw [if_neg (show ¬ (false = true) by decide)] at H; exact H
        clear H
        have H := H1
        clear H1
        have HC8 := Aside0.mk H
        clear H
        go_upto_region 3 with (fail)
        go_cut [25] (fun v25 wc => ∃ (kq : Nat) (x25_7 : Bool), v25 = .bool x25_7 ∧ Aside0 (constableref01_Do.j1 kq a0 a1 a2 x25_7 = some (r1, r2)) ∧ Aside0 (kq ≤ kj3) ∧ Aside0 (Below w.heap.size w wc))
        case first =>
          have H := HC8.out
          clear HC8
          replace H := Option.bind_eq_some_iff.mp H
          obtain ⟨t323, A90, H⟩ := H
          replace H : (if t323 = true then ((constableref01_In.f a2 (-4611686018427387904) 4611686018427387904).bind fun t324 => (constableref01_Do.j1 kj3 a0 a1 a2 (!t324))) else (constableref01_Do.j1 kj3 a0 a1 a2 true)) = some (r1, r2) := H
          have A9 := Aside0.mk A90
          clear A90
          by_cases c10 : t323 = true
          · subst c10
            have H1 : ((constableref01_In.f a2 (-4611686018427387904) 4611686018427387904).bind fun t324 => (constableref01_Do.j1 kj3 a0 a1 a2 (!t324))) = some (r1, r2) := by rw [if_pos rfl] at H; exact H
            clear H
            have H := H1
            clear H1
            replace H := Option.bind_eq_some_iff.mp H
            obtain ⟨t324, A110, H⟩ := H
            replace H : (constableref01_Do.j1 kj3 a0 a1 a2 (!t324)) = some (r1, r2) := H
            have A11 := Aside0.mk A110
            clear A110
            have H' := Aside0.mk H
            clear H
            go_wp2_with (first | ((with_reducible refine gate_callee (f := 29) rfl ?_); refine goesL_ (some 19) rfl rfl Try.func29 (by kernel_rfl) rfl #[.int .i64 a1, .int .i64 (-4611686018427387904), .int .i64 4611686018427387904] rfl ga_ ?_; (with_reducible refine (constableref01_In.calls a1 (-4611686018427387904) 4611686018427387904 true _ A9.out).mono ?_); rintro e w' ⟨rfl, ⟨nd, rfl⟩⟩; refine ⟨_, rfl, ?_⟩) | (go_at_call 29; (with_reducible refine (constableref01_In.calls a2 (-4611686018427387904) 4611686018427387904 t324 _ A11.out).mono ?_); rintro e w' ⟨rfl, ⟨nd, rfl⟩⟩))
            go_meet
            case rel => exact ⟨_, (!t324), ra_, H', ⟨by have := HJ3.out; first | omega | exact Nat.le_refl _⟩, ⟨by repeat (first | (with_reducible first | exact HB.out | apply below_alloc | apply pw_below_drewN | apply below_drew1) | exact HB.out)⟩⟩
          · replace c10 := Bool.eq_false_iff.mpr c10
            subst c10
            have H1 : (constableref01_Do.j1 kj3 a0 a1 a2 true) = some (r1, r2) := by rw [if_neg (show ¬ (false = true) by decide)] at H; exact H
            clear H
            have H := H1
            clear H1
            have H' := Aside0.mk H
            clear H
            go_wp2_with (first | ((with_reducible refine gate_callee (f := 29) rfl ?_); refine goesL_ (some 19) rfl rfl Try.func29 (by kernel_rfl) rfl #[.int .i64 a1, .int .i64 (-4611686018427387904), .int .i64 4611686018427387904] rfl ga_ ?_; (with_reducible refine (constableref01_In.calls a1 (-4611686018427387904) 4611686018427387904 false _ A9.out).mono ?_); rintro e w' ⟨rfl, ⟨nd, rfl⟩⟩; refine ⟨_, rfl, ?_⟩))
            go_meet
            case rel => exact ⟨_, (true), ra_, H', ⟨by have := HJ3.out; first | omega | exact Nat.le_refl _⟩, ⟨by repeat (first | (with_reducible first | exact HB.out | apply below_alloc | apply pw_below_drewN | apply below_drew1) | exact HB.out)⟩⟩
        case rest =>
          clear HC8
          try clear c1
          try clear c2
          try clear p2
          try clear c5
          try clear c5b0
          try clear c5b1
          try clear c6
          try clear c6b0
          try clear c6b1
          try clear c7
          try clear c10
          try clear p2
          obtain ⟨kq, x25_7, rfl, HA, HJ7, HB⟩ := hcut
          cases kq with
          | zero => exact absurd HA.out (by simp [constableref01_Do.j1])
          | succ kj7 =>
            have H := HA.out
            clear HA
            simp only [constableref01_Do.j1] at H
            by_cases c12 : x25_7 = true
            · subst c12
              have H1 : (some (0, 4)) = some (r1, r2) := by rw [if_pos rfl] at H; exact H
              clear H
              have H := H1
              clear H1
              simp only [Option.some.injEq, Prod.mk.injEq] at H
              obtain ⟨rfl, rfl⟩ := H
              go_wp2
              go_ret2
              exact ⟨by first | rfl | (simp [errW_none, errW_some] <;> rfl) | (simp [*, errW_none, errW_some] <;> rfl), by repeat (first | (with_reducible first | exact HB.out | apply below_alloc | apply pw_below_drewN | apply below_drew1) | exact HB.out)⟩
            · replace c12 := Bool.eq_false_iff.mpr c12
              subst c12
              have H1 : (if a0 = 4 then (constableref01_Do.j2 kj7 a0 a1 a2 (a0 == 4)) else (constableref01_Do.j2 kj7 a0 a1 a2 (a0 == 3))) = some (r1, r2) := by rw [if_neg (show ¬ (false = true) by decide)] at H; exact H
              clear H
              have H := H1
              clear H1
              have HC13 := Aside0.mk H
              clear H
              go_upto_if 27 with (fail)
              go_cut [27] (fun v27 wc => ∃ (kq : Nat) (x27_12 : Bool), v27 = .bool x27_12 ∧ Aside0 (constableref01_Do.j2 kq a0 a1 a2 x27_12 = some (r1, r2)) ∧ Aside0 (kq ≤ kj7) ∧ Aside0 (Below w.heap.size w wc))
              case first =>
                have H := HC13.out
                clear HC13
                by_cases c14 : a0 = 4
                · rw [if_pos c14] at H
                  obtain ⟨c14b0, c14b1⟩ := eqB_ c14
                  clear c14
                  (first | rw [c14b0] | (simp only [i64_w, i32_w]; rw [c14b0]) | skip)
                  have H' := Aside0.mk H
                  clear H
                  go_wp2
                  go_meet
                  case rel => exact ⟨_, ((a0 == 4)), ra_, H', ⟨by have := HJ3.out; have := HJ7.out; first | omega | exact Nat.le_refl _⟩, ⟨by repeat (first | (with_reducible first | exact HB.out | apply below_alloc | apply pw_below_drewN | apply below_drew1) | exact HB.out)⟩⟩
                · rw [if_neg c14] at H
                  obtain ⟨c14b0, c14b1⟩ := neB_ c14
                  (first | rw [c14b0] | (simp only [i64_w, i32_w]; rw [c14b0]) | skip)
                  have H' := Aside0.mk H
                  clear H
                  go_wp2
                  go_meet
                  case rel => exact ⟨_, ((a0 == 3)), ra_, H', ⟨by have := HJ3.out; have := HJ7.out; first | omega | exact Nat.le_refl _⟩, ⟨by repeat (first | (with_reducible first | exact HB.out | apply below_alloc | apply pw_below_drewN | apply below_drew1) | exact HB.out)⟩⟩
              case rest =>
                clear HC13
                try clear c1
                try clear c2
                try clear p2
                try clear c5
                try clear c5b0
                try clear c5b1
                try clear c6
                try clear c6b0
                try clear c6b1
                try clear c7
                try clear c10
                try clear c12
                try clear c14
                try clear c14b0
                try clear c14b1
                try clear p2
                obtain ⟨kq, x27_12, rfl, HA, HJ12, HB⟩ := hcut
                cases kq with
                | zero => exact absurd HA.out (by simp [constableref01_Do.j2])
                | succ kj12 =>
                  have H := HA.out
                  clear HA
                  simp only [constableref01_Do.j2] at H
                  by_cases c15 : x27_12 = true
                  · subst c15
                    have H1 : (if a0 = 4 then (constableref01_Do.j3 kj12 a1 (wrap64 (-a2))) else (constableref01_Do.j3 kj12 a1 a2)) = some (r1, r2) := by rw [if_pos rfl] at H; exact H
                    clear H
                    have H := H1
                    clear H1
                    have HC16 := Aside0.mk H
                    clear H
                    go_upto_if 31 with (fail)
                    go_cut [2] (fun v2 wc => ∃ (kq : Nat) (x2_15 : Int), v2 = .int .i64 x2_15 ∧ Aside0 (constableref01_Do.j3 kq a1 x2_15 = some (r1, r2)) ∧ Aside0 (kq ≤ kj12) ∧ Aside0 (Below w.heap.size w wc))
                    case first =>
                      have H := HC16.out
                      clear HC16
                      by_cases c17 : a0 = 4
                      · rw [if_pos c17] at H
                        obtain ⟨c17b0, c17b1⟩ := eqB_ c17
                        clear c17
                        (first | rw [c17b0] | (simp only [i64_w, i32_w]; rw [c17b0]) | skip)
                        have H' := Aside0.mk H
                        clear H
                        go_wp2
                        go_meet
                        case rel => exact ⟨_, (wrap64 (-a2)), ra_, H', ⟨by have := HJ3.out; have := HJ7.out; have := HJ12.out; first | omega | exact Nat.le_refl _⟩, ⟨by repeat (first | (with_reducible first | exact HB.out | apply below_alloc | apply pw_below_drewN | apply below_drew1) | exact HB.out)⟩⟩
                      · rw [if_neg c17] at H
                        obtain ⟨c17b0, c17b1⟩ := neB_ c17
                        (first | rw [c17b0] | (simp only [i64_w, i32_w]; rw [c17b0]) | skip)
                        have H' := Aside0.mk H
                        clear H
                        go_wp2
                        go_meet
                        case rel => exact ⟨_, (a2), ra_, H', ⟨by have := HJ3.out; have := HJ7.out; have := HJ12.out; first | omega | exact Nat.le_refl _⟩, ⟨by repeat (first | (with_reducible first | exact HB.out | apply below_alloc | apply pw_below_drewN | apply below_drew1) | exact HB.out)⟩⟩
                    case rest =>
                      clear HC16
                      try clear c1
                      try clear c2
                      try clear p2
                      try clear c5
                      try clear c5b0
                      try clear c5b1
                      try clear c6
                      try clear c6b0
                      try clear c6b1
                      try clear p6
                      try clear c7
                      try clear c10
                      try clear c12
                      try clear c14
                      try clear c14b0
                      try clear c14b1
                      try clear c15
                      try clear c17
                      try clear c17b0
                      try clear c17b1
                      try clear p2
                      obtain ⟨kq, x2_15, rfl, HA, HJ15, HB⟩ := hcut
                      cases kq with
                      | zero => exact absurd HA.out (by simp [constableref01_Do.j3])
                      | succ kj15 =>
                        have H := HA.out
                        clear HA
                        simp only [constableref01_Do.j3] at H
                        have HC18 := Aside0.mk H
                        clear H
                        go_upto_region 10 with (fail)
                        go_cut [51] (fun v51 wc => ∃ (kq : Nat) (x51_17 : Bool), v51 = .bool x51_17 ∧ Aside0 (constableref01_Do.j4 kq a1 x2_15 x51_17 = some (r1, r2)) ∧ Aside0 (kq ≤ kj15) ∧ Aside0 (Below w.heap.size w wc))
                        case first =>
                          have H := HC18.out
                          clear HC18
                          by_cases c19 : x2_15 > 0
                          · rw [if_pos c19] at H
                            have c19b0 : decide (0 < x2_15) = true := decide_eq_true c19
                            clear c19
                            (first | rw [c19b0] | (simp only [i64_w, i32_w]; rw [c19b0]) | skip)
                            by_cases c20 : a1 > (wrap64 (4611686018427387904 - x2_15))
                            · rw [if_pos c20] at H
                              have c20b0 : decide ((wrap64 (4611686018427387904 - x2_15)) < a1) = true := decide_eq_true c20
                              clear c20
                              have H' := Aside0.mk H
                              clear H
                              go_wp2
                              go_meet
                              case rel => exact ⟨_, (true), ra_, H', ⟨by have := HJ3.out; have := HJ7.out; have := HJ12.out; have := HJ15.out; first | omega | exact Nat.le_refl _⟩, ⟨by repeat (first | (with_reducible first | exact HB.out | apply below_alloc | apply pw_below_drewN | apply below_drew1) | exact HB.out)⟩⟩
                            · rw [if_neg c20] at H
                              have c20b0 : decide ((wrap64 (4611686018427387904 - x2_15)) < a1) = false := decide_eq_false c20
                              clear c20
                              by_cases c21 : x2_15 < 0
                              · rw [if_pos c21] at H
                                have c21b0 : decide (x2_15 < 0) = true := decide_eq_true c21
                                clear c21
                                have H' := Aside0.mk H
                                clear H
                                go_wp2
                                go_meet
                                case rel => exact ⟨_, (decide (a1 < (wrap64 ((-4611686018427387904) - x2_15)))), ra_, H', ⟨by have := HJ3.out; have := HJ7.out; have := HJ12.out; have := HJ15.out; first | omega | exact Nat.le_refl _⟩, ⟨by repeat (first | (with_reducible first | exact HB.out | apply below_alloc | apply pw_below_drewN | apply below_drew1) | exact HB.out)⟩⟩
                              · rw [if_neg c21] at H
                                have c21b0 : decide (x2_15 < 0) = false := decide_eq_false c21
                                clear c21
                                have H' := Aside0.mk H
                                clear H
                                go_wp2
                                go_meet
                                case rel => exact ⟨_, (false), ra_, H', ⟨by have := HJ3.out; have := HJ7.out; have := HJ12.out; have := HJ15.out; first | omega | exact Nat.le_refl _⟩, ⟨by repeat (first | (with_reducible first | exact HB.out | apply below_alloc | apply pw_below_drewN | apply below_drew1) | exact HB.out)⟩⟩
                          · rw [if_neg c19] at H
                            have c19b0 : decide (0 < x2_15) = false := decide_eq_false c19
                            clear c19
                            (first | rw [c19b0] | (simp only [i64_w, i32_w]; rw [c19b0]) | skip)
                            by_cases c22 : x2_15 < 0
                            · rw [if_pos c22] at H
                              have c22b0 : decide (x2_15 < 0) = true := decide_eq_true c22
                              clear c22
                              have H' := Aside0.mk H
                              clear H
                              go_wp2
                              go_meet
                              case rel => exact ⟨_, (decide (a1 < (wrap64 ((-4611686018427387904) - x2_15)))), ra_, H', ⟨by have := HJ3.out; have := HJ7.out; have := HJ12.out; have := HJ15.out; first | omega | exact Nat.le_refl _⟩, ⟨by repeat (first | (with_reducible first | exact HB.out | apply below_alloc | apply pw_below_drewN | apply below_drew1) | exact HB.out)⟩⟩
                            · rw [if_neg c22] at H
                              have c22b0 : decide (x2_15 < 0) = false := decide_eq_false c22
                              clear c22
                              have H' := Aside0.mk H
                              clear H
                              go_wp2
                              go_meet
                              case rel => exact ⟨_, (false), ra_, H', ⟨by have := HJ3.out; have := HJ7.out; have := HJ12.out; have := HJ15.out; first | omega | exact Nat.le_refl _⟩, ⟨by repeat (first | (with_reducible first | exact HB.out | apply below_alloc | apply pw_below_drewN | apply below_drew1) | exact HB.out)⟩⟩
                        case rest =>
                          clear HC18
                          try clear c1
                          try clear c2
                          try clear p2
                          try clear c5
                          try clear c5b0
                          try clear c5b1
                          try clear c6
                          try clear c6b0
                          try clear c6b1
                          try clear p6
                          try clear c7
                          try clear c10
                          try clear c12
                          try clear c14
                          try clear c14b0
                          try clear c14b1
                          try clear c15
                          try clear c17
                          try clear c17b0
                          try clear c17b1
                          try clear c19
                          try clear c19b0
                          try clear c20
                          try clear c20b0
                          try clear c21
                          try clear c21b0
                          try clear c22
                          try clear c22b0
                          try clear p2
                          try clear p6
                          obtain ⟨kq, x51_17, rfl, HA, HJ17, HB⟩ := hcut
                          cases kq with
                          | zero => exact absurd HA.out (by simp [constableref01_Do.j4])
                          | succ kj17 =>
                            have H := HA.out
                            clear HA
                            simp only [constableref01_Do.j4] at H
                            by_cases c23 : x51_17 = true
                            · subst c23
                              have H1 : (some (0, 4)) = some (r1, r2) := by rw [if_pos rfl] at H; exact H
                              clear H
                              have H := H1
                              clear H1
                              simp only [Option.some.injEq, Prod.mk.injEq] at H
                              obtain ⟨rfl, rfl⟩ := H
                              go_wp2
                              go_ret2
                              exact ⟨by first | rfl | (simp [errW_none, errW_some] <;> rfl) | (simp [*, errW_none, errW_some] <;> rfl), by repeat (first | (with_reducible first | exact HB.out | apply below_alloc | apply pw_below_drewN | apply below_drew1) | exact HB.out)⟩
                            · replace c23 := Bool.eq_false_iff.mpr c23
                              subst c23
                              have H1 : (some (wrap64 (a1 + x2_15), 0)) = some (r1, r2) := by rw [if_neg (show ¬ (false = true) by decide)] at H; exact H
                              clear H
                              have H := H1
                              clear H1
                              simp only [Option.some.injEq, Prod.mk.injEq] at H
                              obtain ⟨rfl, rfl⟩ := H
                              go_wp2
                              go_ret2
                              exact ⟨by first | rfl | (simp [errW_none, errW_some] <;> rfl) | (simp [*, errW_none, errW_some] <;> rfl), by repeat (first | (with_reducible first | exact HB.out | apply below_alloc | apply pw_below_drewN | apply below_drew1) | exact HB.out)⟩
                  · replace c15 := Bool.eq_false_iff.mpr c15
                    subst c15
                    have H1 : (if a1 = 0 then (some (wrap64 (a1 * a2), 0)) else (if a2 = 0 then (some (wrap64 (a1 * a2), 0)) else (if (mx a2 (wrap64 (-a2))) = 0 then (none) else (if (mx a1 (wrap64 (-a1))) > (wrap64 (Int.tdiv (4611686018427387904 : Int) (mx a2 (wrap64 (-a2))))) then (some (0, 4)) else (some (wrap64 (a1 * a2), 0)))))) = some (r1, r2) := by rw [if_neg (show ¬ (false = true) by decide)] at H; exact H
                    clear H
                    have H := H1
                    clear H1
                    by_cases c24 : a1 = 0
                    · rw [if_pos c24] at H
                      obtain ⟨c24b0, c24b1⟩ := eqB_ c24
                      clear c24
                      simp only [Option.some.injEq, Prod.mk.injEq] at H
                      obtain ⟨rfl, rfl⟩ := H
                      go_wp2
                      go_ret2
                      exact ⟨by first | rfl | (simp [errW_none, errW_some] <;> rfl) | (simp [*, errW_none, errW_some] <;> rfl), by repeat (first | (with_reducible first | exact HB.out | apply below_alloc | apply pw_below_drewN | apply below_drew1) | exact HB.out)⟩
                    · rw [if_neg c24] at H
                      obtain ⟨c24b0, c24b1⟩ := neB_ c24
                      by_cases c25 : a2 = 0
                      · rw [if_pos c25] at H
                        obtain ⟨c25b0, c25b1⟩ := eqB_ c25
                        clear c25
                        simp only [Option.some.injEq, Prod.mk.injEq] at H
                        obtain ⟨rfl, rfl⟩ := H
                        go_wp2
                        go_ret2
                        exact ⟨by first | rfl | (simp [errW_none, errW_some] <;> rfl) | (simp [*, errW_none, errW_some] <;> rfl), by repeat (first | (with_reducible first | exact HB.out | apply below_alloc | apply pw_below_drewN | apply below_drew1) | exact HB.out)⟩
                      · rw [if_neg c25] at H
                        obtain ⟨c25b0, c25b1⟩ := neB_ c25
                        obtain ⟨ji26, hji26⟩ : ∃ j_ : Int, (mx a1 (wrap64 (-a1))) = j_ := ⟨_, rfl⟩
                        replace H : (if (mx a2 (wrap64 (-a2))) = 0 then (none) else (if (ji26) > (wrap64 (Int.tdiv (4611686018427387904 : Int) (mx a2 (wrap64 (-a2))))) then (some (0, 4)) else (some (wrap64 (a1 * a2), 0)))) = some (r1, r2) := by first | (rw [hji26] at H; exact H) | (simp only [hji26] at H ⊢; exact H)
                        have hji26_ : (if a1 < (wrap64 (-a1)) then (wrap64 (-a1)) else a1) = ji26 := hji26
                        obtain ⟨ji27, hji27⟩ : ∃ j_ : Int, (mx a2 (wrap64 (-a2))) = j_ := ⟨_, rfl⟩
                        replace H : (if (ji27) = 0 then (none) else (if (ji26) > (wrap64 (Int.tdiv (4611686018427387904 : Int) (ji27))) then (some (0, 4)) else (some (wrap64 (a1 * a2), 0)))) = some (r1, r2) := by first | (rw [hji27] at H; exact H) | (simp only [hji27] at H ⊢; exact H)
                        have hji27_ : (if a2 < (wrap64 (-a2)) then (wrap64 (-a2)) else a2) = ji27 := hji27
                        by_cases c28 : (ji27) = 0
                        · rw [if_pos c28] at H
                          exact absurd H (by simp)
                        · rw [if_neg c28] at H
                          obtain ⟨c28b0, c28b1⟩ := neB_ c28
                          by_cases c29 : (ji26) > (wrap64 (Int.tdiv (4611686018427387904 : Int) (ji27)))
                          · rw [if_pos c29] at H
                            have c29b0 : decide ((wrap64 (Int.tdiv (4611686018427387904 : Int) (ji27))) < (ji26)) = true := decide_eq_true c29
                            clear c29
                            simp only [Option.some.injEq, Prod.mk.injEq] at H
                            obtain ⟨rfl, rfl⟩ := H
                            go_wp2
                            go_ret2
                            exact ⟨by first | rfl | (simp [errW_none, errW_some] <;> rfl) | (simp only [← hji26, ← hji27]; first | rfl | (simp [errW_none, errW_some] <;> rfl)) | (simp [*, errW_none, errW_some] <;> rfl), by repeat (first | (with_reducible first | exact HB.out | apply below_alloc | apply pw_below_drewN | apply below_drew1) | exact HB.out)⟩
                          · rw [if_neg c29] at H
                            have c29b0 : decide ((wrap64 (Int.tdiv (4611686018427387904 : Int) (ji27))) < (ji26)) = false := decide_eq_false c29
                            clear c29
                            simp only [Option.some.injEq, Prod.mk.injEq] at H
                            obtain ⟨rfl, rfl⟩ := H
                            go_wp2
                            go_ret2
                            exact ⟨by first | rfl | (simp [errW_none, errW_some] <;> rfl) | (simp only [← hji26, ← hji27]; first | rfl | (simp [errW_none, errW_some] <;> rfl)) | (simp [*, errW_none, errW_some] <;> rfl), by repeat (first | (with_reducible first | exact HB.out | apply below_alloc | apply pw_below_drewN | apply below_drew1) | exact HB.out)⟩
end Go.Proofs.Ytaopajmpifenoaa.P
end
section
namespace Go.Proofs.Ytaopajmpifenoaa.P
open Go.RowKit Go.Proofs.YtaopajmpifenoaaW.PrintWords Go.Proofs.YtaopajmpifenoaaW.PrintLast Go.Proofs.YtaopajmpifenoaaW.PrintMore
theorem ref_In_eq (a b c : Int) : constableref01_In.f a b c = some (decide (b ≤ a ∧ a ≤ c)) := by
  unfold constableref01_In.f
  split
  · congr 1; rw [decide_eq_decide]; omega
  · congr 1; symm; rw [decide_eq_false_iff_not]; omega
theorem abs_mul_abs (a b : Int) : (if a < -a then -a else a) * (if b < -b then -b else b) = if a * b < 0 then -(a * b) else a * b := by
  by_cases ha : a < -a <;> by_cases hb : b < -b <;> simp only [ha, hb, if_true, if_false]
  · have : 0 < a * b := Int.mul_pos_of_neg_of_neg (by omega) (by omega)
    rw [if_neg (by omega)]; exact Int.neg_mul_neg a b
  · have : a * b ≤ 0 := Int.mul_nonpos_of_nonpos_of_nonneg (by omega) (by omega)
    rw [Int.neg_mul]; split <;> omega
  · have : a * b ≤ 0 := Int.mul_nonpos_of_nonneg_of_nonpos (by omega) (by omega)
    rw [Int.mul_neg]; split <;> omega
  · have : 0 ≤ a * b := Int.mul_nonneg (by omega) (by omega)
    rw [if_neg (by omega)]
theorem ref_over {a b : Int} (ha : InB a) (hb : InB b) (hb0 : b ≠ 0) :
    (mx a (wrap64 (-a)) > wrap64 (Int.tdiv 4611686018427387904 (mx b (wrap64 (-b))))) ↔ ¬ InB (a * b) := by
  rw [InB_iff] at ha hb
  have e1 : wrap64 (-a) = -a := by unfold wrap64; omega
  have e2 : wrap64 (-b) = -b := by unfold wrap64; omega
  rw [e1, e2]
  have m1 : mx a (-a) = if a < -a then -a else a := rfl
  have m2 : mx b (-b) = if b < -b then -b else b := rfl
  have hm := abs_mul_abs a b
  rw [← m1, ← m2] at hm
  have p1 : 0 ≤ mx a (-a) := by rw [m1]; split <;> omega
  have p2 : 0 < mx b (-b) := by rw [m2]; split <;> omega
  generalize mx a (-a) = x at *
  generalize mx b (-b) = y at *
  rw [Int.tdiv_eq_ediv_of_nonneg (by decide)]
  have h1 : 4611686018427387904 / y ≤ 4611686018427387904 := Int.ediv_le_self _ (by decide)
  have h2 : 0 ≤ 4611686018427387904 / y := Int.ediv_nonneg (by decide) (by omega)
  have e3 : wrap64 (4611686018427387904 / y) = 4611686018427387904 / y := by unfold wrap64; omega
  rw [e3, InB_iff]
  have h3 : 4611686018427387904 / y < x ↔ 4611686018427387904 < x * y := Int.ediv_lt_iff_lt_mul p2
  rw [gt_iff_lt, h3, hm]
  split <;> omega
theorem ref_Do_eq (kind a b : Int) (k : Nat) : constableref01_Do.f (k + 5) kind a b = some (doS kind a b) := by
  unfold constableref01_Do.f doS
  simp only [constableref01_Do.j0, constableref01_Do.j1, constableref01_Do.j2, constableref01_Do.j3, constableref01_Do.j4, ref_In_eq, Option.bind_some]
  have i1 : decide (-4611686018427387904 ≤ a ∧ a ≤ 4611686018427387904) = decide (InB a) := rfl
  have i2 : decide (-4611686018427387904 ≤ b ∧ b ≤ 4611686018427387904) = decide (InB b) := rfl
  rw [i1, i2]
  by_cases ha : InB a
  · by_cases hb : InB b
    · simp only [ha, hb, decide_true, if_true, Bool.not_true, Bool.false_eq_true, if_false, and_self]
      have add : ∀ c : Int, InB c → (if c > 0 then (if a > (wrap64 (4611686018427387904 - c)) then (if true = true then some (0, 4) else some (wrap64 (a + c), 0)) else (if c < 0 then (if decide (a < (wrap64 ((-4611686018427387904) - c))) = true then some (0, 4) else some (wrap64 (a + c), 0)) else (some (wrap64 (a + c), 0)))) else (if c < 0 then (if decide (a < (wrap64 ((-4611686018427387904) - c))) = true then some (0, 4) else some (wrap64 (a + c), 0)) else (some (wrap64 (a + c), 0)))) = some (if InB (a + c) then (a + c, (0 : Int)) else (0, 4)) := by
        intro c hc
        have ha' := (InB_iff a).1 ha
        rw [InB_iff] at hc
        unfold wrap64
        by_cases p : c > 0
        · rw [if_pos p]
          split
          · rw [if_pos rfl, if_neg (by rw [InB_iff]; omega)]
          · rw [if_neg (by omega), if_pos (by rw [InB_iff]; omega)]; congr 2; omega
        · rw [if_neg p]
          split
          · simp only [decide_eq_true_eq]
            split
            · rw [if_neg (by rw [InB_iff]; omega)]
            · rw [if_pos (by rw [InB_iff]; omega)]; congr 2; omega
          · rw [if_pos (by rw [InB_iff]; omega)]; congr 2; omega
      have hn : wrap64 (-b) = -b := by rw [InB_iff] at hb; unfold wrap64; omega
      have a1 := add b hb
      have a2 := add (-b) (by rw [InB_iff] at *; omega)
      rw [hn]
      simp only [if_true] at a1 a2
      by_cases h3 : kind = 3
      · subst h3
        simp only [if_true, true_or]
        simp only [show ((3 : Int) = 4) = False by simp, if_false, beq_self_eq_true, if_true]
        exact a1
      · by_cases h4 : kind = 4
        · subst h4
          simp only [show ((4 : Int) = 3) = False by simp, if_false, true_or, or_true, if_true, beq_self_eq_true, Int.sub_eq_add_neg]
          exact a2
        · by_cases h5 : kind = 5
          · subst h5
            simp only [show ((5 : Int) = 3) = False by simp, show ((5 : Int) = 4) = False by simp, if_false, or_true, if_true]
            simp only [show ((5 : Int) == 3) = false by rfl, show ((5 : Int) != 5) = false by rfl, Bool.false_eq_true, if_false]
            by_cases a0 : a = 0
            · subst a0; simp [wrap64, InB_iff]
            · by_cases b0 : b = 0
              · subst b0; simp [wrap64, InB_iff]
              · have ro := ref_over ha hb b0
                rw [hn] at ro
                rw [if_neg a0, if_neg b0, if_neg]
                · by_cases ho : InB (a * b)
                  · rw [if_neg (by rw [ro]; exact not_not_intro ho), if_pos ho]
                    rw [InB_iff] at ho
                    congr 2
                    unfold wrap64; omega
                  · rw [if_pos (by rw [ro]; exact ho), if_neg ho]
                · have : mx b (-b) = if b < -b then -b else b := rfl
                  rw [this]; split <;> omega
          · simp [h3, h4, h5]
    · simp only [ha, hb, decide_true, decide_false, if_true, Bool.not_false, and_false, if_false]
      by_cases h3 : kind = 3
      · simp [h3]
      · by_cases h4 : kind = 4
        · simp [h4]
        · by_cases h5 : kind = 5 <;> simp [h3, h4, h5]
  · simp only [ha, decide_false, Bool.false_eq_true, if_false, if_true, false_and]
    by_cases h3 : kind = 3
    · simp [h3]
    · by_cases h4 : kind = 4
      · simp [h4]
      · by_cases h5 : kind = 5 <;> simp [h3, h4, h5]
theorem ref_Do_ev (kind a b : Int) : Ev (fun k => constableref01_Do.f k kind a b) (doS kind a b) := Ev.of (constableref01_Do.mono _ _ _) (ref_Do_eq kind a b 0)
end Go.Proofs.Ytaopajmpifenoaa.P
end
section
namespace Go.Proofs.Ytaopajmpifenoaa.P
open Go.RowKit Go.Proofs.YtaopajmpifenoaaW.PrintWords Go.Proofs.YtaopajmpifenoaaW.PrintLast Go.Proofs.YtaopajmpifenoaaW.PrintMore
theorem ref_Lower_eq (c : Int) : constableref01_Lower.f c = some (smallI c) := by
  unfold constableref01_Lower.f smallI
  split
  · congr 1; rw [decide_eq_decide]; omega
  · congr 1; symm; rw [decide_eq_false_iff_not]; omega
theorem ref_Upper_eq (c : Int) : constableref01_Upper.f c = some (largeI c) := by
  unfold constableref01_Upper.f largeI
  split
  · congr 1; rw [decide_eq_decide]; omega
  · congr 1; symm; rw [decide_eq_false_iff_not]; omega
theorem ref_Digit_eq (c : Int) : constableref01_Digit.f c = some (digitI c) := by
  unfold constableref01_Digit.f digitI
  split
  · congr 1; rw [decide_eq_decide]; omega
  · congr 1; symm; rw [decide_eq_false_iff_not]; omega
theorem ref_inner_eq (c : Int) : constableref01_inner.f c = some (innerI c) := by
  unfold constableref01_inner.f innerI
  simp only [ref_Lower_eq, ref_Upper_eq, ref_Digit_eq, Option.bind_some]
  cases smallI c <;> cases largeI c <;> cases digitI c <;> simp
theorem ref_Word_l0 (s : ByteArray) (hs : s.size ≤ maxLen) : ∀ i : Nat, i ≤ s.size → Ev (fun k => constableref01_Word.l0 k s i) (((bytesOf s).drop i).all innerI) := by
  unfold maxLen at hs
  refine back_ind s.size (fun k i => constableref01_Word.l0 k s i) _ ?_ ?_
  · refine evShift ?_
    simp only [constableref01_Word.l0]
    refine evNeg (by omega) (evSome (by rw [drop_end]; rfl))
  · intro i hi ih
    refine evShift ?_
    simp only [constableref01_Word.l0, ref_inner_eq, Option.bind_some]
    refine evPos (by omega) (evPos (by omega) ?_)
    rw [all_drop hi, wrap_succ hi (by omega)]
    by_cases h1 : innerI (bt s i) = true
    · rw [h1]; simpa using ih
    · simp [h1]; exact evSome rfl
theorem not_both (c : Int) : largeI c = true → smallI c = false := by
  unfold largeI smallI
  intro h
  rw [decide_eq_true_eq] at h
  exact decide_eq_false (by omega)
theorem ref_Word_ev (s : ByteArray) (large : Bool) (hs : s.size ≤ maxLen) : Ev (fun k => constableref01_Word.f k s large) (wordS large s) := by
  have hl := ref_Word_l0 s hs 0 (by omega)
  simp only [List.drop_zero, Int.natCast_zero] at hl
  have hj : Ev (fun k => constableref01_Word.j0 k s true) false := by
    refine evShift ?_
    simp only [constableref01_Word.j0, if_true]
    exact evSome rfl
  have hj2 : Ev (fun k => constableref01_Word.j0 k s false) ((bytesOf s).all innerI) := by
    refine evShift ?_
    simp only [constableref01_Word.j0, Bool.false_eq_true, if_false]
    exact hl
  unfold constableref01_Word.f wordS
  simp only [ref_In_eq, ref_Upper_eq, ref_Lower_eq, Option.bind_some]
  by_cases h1 : 1 ≤ s.size ∧ s.size ≤ 24
  · have hd : decide (1 ≤ s.size ∧ s.size ≤ 24) = true := decide_eq_true h1
    have hd' : decide ((1 : Int) ≤ s.size ∧ (s.size : Int) ≤ 24) = true := decide_eq_true (by omega)
    rw [hd, hd']
    refine evPos rfl (evPos (by omega) ?_)
    have hb := not_both (bt s 0)
    cases large <;> cases h2 : largeI (bt s 0) <;> simp [h2] at hb ⊢
    · cases h3 : smallI (bt s 0)
      · simp; exact hj
      · simp; exact hj2
    · rw [hb]; simp; exact hj
    · exact hj
    · exact hj2
  · have hd : decide (1 ≤ s.size ∧ s.size ≤ 24) = false := decide_eq_false h1
    have hd' : decide ((1 : Int) ≤ s.size ∧ (s.size : Int) ≤ 24) = false := decide_eq_false (by omega)
    rw [hd, hd']
    exact evNeg (by decide) hj
theorem ref_Value_l0 (a b : Int) (s : ByteArray) (hs : s.size ≤ maxLen) : ∀ i : Nat, i ≤ s.size → Ev (fun k => constableref01_Value.l0 k i a b s) (((bytesOf s).drop i).all plainI) := by
  unfold maxLen at hs
  refine back_ind s.size (fun k i => constableref01_Value.l0 k i a b s) _ ?_ ?_
  · refine evShift ?_
    simp only [constableref01_Value.l0]
    refine evNeg (by omega) (evSome (by rw [drop_end]; rfl))
  · intro i hi ih
    refine evShift ?_
    simp only [constableref01_Value.l0, ref_In_eq, Option.bind_some]
    refine evPos (by omega) (evPos (by omega) ?_)
    rw [all_drop hi, wrap_succ hi (by omega)]
    have hr := bt_range s i
    have hw : wrap64 (bt s i) = bt s i := by unfold wrap64; omega
    rw [hw]
    have e : decide (32 ≤ bt s i ∧ bt s i ≤ 126) = plainI (bt s i) := rfl
    rw [e]
    by_cases h1 : plainI (bt s i) = true
    · rw [h1]; simpa using ih
    · simp [h1]; exact evSome rfl
theorem ref_Value_ev (kind n : Int) (s : ByteArray) (hs : s.size ≤ maxLen) : Ev (fun k => constableref01_Value.f k kind n s) (valS kind n s) := by
  unfold constableref01_Value.f valS
  by_cases h1 : kind = 1
  · refine evPos h1 ?_
    rw [if_pos h1]
    simp only [ref_In_eq, Option.bind_some]
    have i1 : decide (-4611686018427387904 ≤ n ∧ n ≤ 4611686018427387904) = decide (InB n) := rfl
    rw [i1]
    by_cases h2 : InB n
    · rw [decide_eq_true h2]
      refine evPos rfl (evSome ?_)
      rw [Bool.eq_iff_iff]
      simp [← size_zero]
    · rw [decide_eq_false h2]
      exact evNeg (by decide) (evSome rfl)
  · refine evNeg h1 ?_
    rw [if_neg h1]
    by_cases h2 : kind = 2
    · refine evPos h2 ?_
      rw [if_pos h2]
      by_cases h3 : n = 0
      · refine evPos h3 (Ev.bind (ref_Word_ev s false hs) (evSome ?_))
        rw [decide_eq_true h3]; simp
      · refine evNeg h3 (evSome ?_)
        rw [decide_eq_false h3]; rfl
    · refine evNeg h2 ?_
      rw [if_neg h2]
      by_cases h3 : kind = 3
      · refine evPos h3 ?_
        rw [if_pos h3]
        by_cases h4 : n = 0
        · refine evPos h4 (evShift ?_)
          rw [decide_eq_true h4]
          simp only [constableref01_Value.j0]
          by_cases h5 : (s.size : Int) > 60
          · refine evPos (decide_eq_true h5) (evSome ?_)
            have : decide (s.size ≤ 60) = false := decide_eq_false (by omega)
            rw [this]; simp
          · refine evNeg (by rw [decide_eq_false h5]; decide) ?_
            have : decide (s.size ≤ 60) = true := decide_eq_true (by omega)
            rw [this]
            have := ref_Value_l0 kind n s hs 0 (by omega)
            simpa using this
        · refine evNeg h4 (evShift ?_)
          simp only [constableref01_Value.j0, if_true]
          refine evSome ?_
          rw [decide_eq_false h4]; rfl
      · refine evNeg h3 (evSome ?_)
        rw [if_neg h3]
end Go.Proofs.Ytaopajmpifenoaa.P
end
