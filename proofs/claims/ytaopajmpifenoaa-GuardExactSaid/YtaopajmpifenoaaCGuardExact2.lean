/- Part 3 of the proof of GuardExact: words, contracts of functions of the program (what a call answers), and what the answers say. -/
import Derived.Test.YtaopajmpifenoaaVWords
import Derived.Test.YtaopajmpifenoaaVLast
import Derived.Test.YtaopajmpifenoaaVApart
import Derived.Test.YtaopajmpifenoaaVArr
import Derived.Test.YtaopajmpifenoaaVFoot
import Derived.Test.YtaopajmpifenoaaVKept
import Derived.Test.YtaopajmpifenoaaVShare
import Derived.Test.YtaopajmpifenoaaVZeros
import Derived.Test.YtaopajmpifenoaaVN
import Derived.Test.YtaopajmpifenoaaVFootNe
import Derived.Test.YtaopajmpifenoaaVAt
import Derived.Test.YtaopajmpifenoaaVEqStruct
import Derived.Test.YtaopajmpifenoaaVTab
import Derived.Test.YtaopajmpifenoaaVFour
import Derived.Test.YtaopajmpifenoaaVGuard
import Derived.Test.YtaopajmpifenoaaVInv
import Derived.Test.YtaopajmpifenoaaVInvWords
import Derived.Test.YtaopajmpifenoaaVQPut
import Derived.Test.YtaopajmpifenoaaVNEv
import Derived.Test.YtaopajmpifenoaaVMore
import Derived.Test.YtaopajmpifenoaaVRepsOne
import Derived.Test.YtaopajmpifenoaaVSized
import Derived.Test.YtaopajmpifenoaaCGuardExact0
import Derived.Test.YtaopajmpifenoaaCGuardExact1
section
namespace Go.Proofs.Ytaopajmpifenoaa.P
open Go.RowKit Go.Proofs.YtaopajmpifenoaaW.PrintWords Go.Proofs.YtaopajmpifenoaaW.PrintLast Go.Proofs.YtaopajmpifenoaaW.PrintMore
attribute [local go_sem] max2_int min2_int max_two min_two max_three min_three max_four min_four
set_option linter.unusedVariables false
set_option linter.unusedSimpArgs false
mutual
def expr_Eval.j0 : Nat → List (S67) → List (S54) → Int → Option (Int × Int × ByteArray × Int)
 | 0, _, _, _ => none
 | k + 1, x0, x1, x6 => if x6 = 0 then (expr_Eval.l0 k x1 ([] : List (S23)) x0 (x0.length : Int) 0) else (some (0, 0, (⟨#[]⟩ : ByteArray), x6))
def expr_Eval.l0 : Nat → List (S54) → List (S23) → List (S67) → Int → Int → Option (Int × Int × ByteArray × Int)
 | 0, _, _, _, _, _ => none
 | k + 1, x1, x7, x22, x23, x24 => if x24 < x23 then (if 0 ≤ x24 then (if x24 < (x22.length : Int) then ((expr_pushes.f ((rd_T67 x22 x24).f0)).bind fun t239 => (if t239 = true then ((expr_push.f k ((rd_T67 x22 x24).f0) ((rd_T67 x22 x24).f1) ((rd_T67 x22 x24).f2.f0) ((rd_T67 x22 x24).f2.f1) ((rd_T67 x22 x24).f2.f2) x1).bind fun bt240 => (if bt240.2.2.2 = 0 then (if x7.length < 4398046511104 then (expr_Eval.l0 k x1 (x7 ++ [(⟨bt240.1, bt240.2.1, bt240.2.2.1⟩ : S23)]) x22 x23 (wrap64 (x24 + 1))) else (none)) else (some (0, 0, (⟨#[]⟩ : ByteArray), bt240.2.2.2)))) else (if 0 ≤ (wrap64 ((x7.length : Int) - 2)) then (if (wrap64 ((x7.length : Int) - 2)) < (x7.length : Int) then (if 0 ≤ (wrap64 ((wrap64 ((x7.length : Int) - 2)) + 1)) then (if (wrap64 ((wrap64 ((x7.length : Int) - 2)) + 1)) < (x7.length : Int) then ((expr_reckon.f k ((rd_T67 x22 x24).f0) ((rd_T23 x7 (wrap64 ((x7.length : Int) - 2))).f0) ((rd_T23 x7 (wrap64 ((x7.length : Int) - 2))).f1) ((rd_T23 x7 (wrap64 ((x7.length : Int) - 2))).f2) ((rd_T23 x7 (wrap64 ((wrap64 ((x7.length : Int) - 2)) + 1))).f0) ((rd_T23 x7 (wrap64 ((wrap64 ((x7.length : Int) - 2)) + 1))).f1) ((rd_T23 x7 (wrap64 ((wrap64 ((x7.length : Int) - 2)) + 1))).f2)).bind fun bt249 => (if (wrap64 ((x7.length : Int) - 2)) ≤ (x7.length : Int) then ((some (x7.take ((wrap64 ((x7.length : Int) - 2)) : Int).toNat : List (S23))).bind fun y253 => (if bt249.2.2.2 = 0 then (if y253.length < 4398046511104 then (expr_Eval.l0 k x1 (y253 ++ [(⟨bt249.1, bt249.2.1, bt249.2.2.1⟩ : S23)]) x22 x23 (wrap64 (x24 + 1))) else (none)) else (some (0, 0, (⟨#[]⟩ : ByteArray), bt249.2.2.2)))) else (none))) else (none)) else (none)) else (none)) else (none)))) else (none)) else (none)) else (if 0 < (x7.length : Int) then (some ((rd_T23 x7 0).f0, (rd_T23 x7 0).f1, (rd_T23 x7 0).f2, 0)) else (none))
end
def expr_Eval.f (k : Nat) (l0 : List (S67)) (l1 : List (S54)) : Option (Int × Int × ByteArray × Int) := (expr_Check.f k l0).bind fun t233 => (if t233 = 0 then ((subst_Check.f k l1).bind fun t234 => (expr_Eval.j0 k l0 l1 t234)) else (expr_Eval.j0 k l0 l1 t233))
theorem expr_Eval.mono_l : ∀ k, (∀ y0 y1 y2, LeO (expr_Eval.j0 k y0 y1 y2) (expr_Eval.j0 (k + 1) y0 y1 y2)) ∧ (∀ y0 y1 y2 y3 y4, LeO (expr_Eval.l0 k y0 y1 y2 y3 y4) (expr_Eval.l0 (k + 1) y0 y1 y2 y3 y4))
 | 0 => ⟨fun _ _ _ r h => by simp [expr_Eval.j0] at h, fun _ _ _ _ _ r h => by simp [expr_Eval.l0] at h⟩
 | k + 1 => by
  obtain ⟨ih0, ih1⟩ := expr_Eval.mono_l k
  refine ⟨?_, ?_⟩
  ·intro y0 y1 y2
   unfold expr_Eval.j0
   repeat' first
   | (with_reducible exact ih0 _ _ _)
   | (with_reducible exact ih1 _ _ _ _ _)
   | (with_reducible exact expr_Check.mono ..)
   | (with_reducible exact expr_push.mono ..)
   | (with_reducible exact expr_reckon.mono ..)
   | (with_reducible exact subst_Check.mono ..)
   | (with_reducible exact LeO.refl _)
   | (with_reducible exact LeO.none _)
   | (with_reducible refine LeO.ite ?_ ?_)
   | (with_reducible refine LeO.bind ?_ (fun _ => ?_))
   | exact ih0 _ _ _
   | exact ih1 _ _ _ _ _
   | exact expr_Check.mono ..
   | exact expr_push.mono ..
   | exact expr_reckon.mono ..
   | exact subst_Check.mono ..
   | exact LeO.none _
   | refine LeO.ite ?_ ?_
   | refine LeO.bind ?_ (fun _ => ?_)
  ·intro y0 y1 y2 y3 y4
   unfold expr_Eval.l0
   repeat' first
   | (with_reducible exact ih0 _ _ _)
   | (with_reducible exact ih1 _ _ _ _ _)
   | (with_reducible exact expr_Check.mono ..)
   | (with_reducible exact expr_push.mono ..)
   | (with_reducible exact expr_reckon.mono ..)
   | (with_reducible exact subst_Check.mono ..)
   | (with_reducible exact LeO.refl _)
   | (with_reducible exact LeO.none _)
   | (with_reducible refine LeO.ite ?_ ?_)
   | (with_reducible refine LeO.bind ?_ (fun _ => ?_))
   | exact ih0 _ _ _
   | exact ih1 _ _ _ _ _
   | exact expr_Check.mono ..
   | exact expr_push.mono ..
   | exact expr_reckon.mono ..
   | exact subst_Check.mono ..
   | exact LeO.none _
   | refine LeO.ite ?_ ?_
   | refine LeO.bind ?_ (fun _ => ?_)
theorem expr_Eval.mono : ∀ a0 a1 k, LeO (expr_Eval.f k a0 a1) (expr_Eval.f (k + 1) a0 a1) := by
 intro a0 a1 k
 obtain ⟨ih0, ih1⟩ := expr_Eval.mono_l k
 unfold expr_Eval.f
 repeat' first
   | (with_reducible exact ih0 _ _ _)
   | (with_reducible exact ih1 _ _ _ _ _)
   | (with_reducible exact expr_Check.mono ..)
   | (with_reducible exact expr_push.mono ..)
   | (with_reducible exact expr_reckon.mono ..)
   | (with_reducible exact subst_Check.mono ..)
   | (with_reducible exact LeO.refl _)
   | (with_reducible exact LeO.none _)
   | (with_reducible refine LeO.ite ?_ ?_)
   | (with_reducible refine LeO.bind ?_ (fun _ => ?_))
   | exact ih0 _ _ _
   | exact ih1 _ _ _ _ _
   | exact expr_Check.mono ..
   | exact expr_push.mono ..
   | exact expr_reckon.mono ..
   | exact subst_Check.mono ..
   | exact LeO.none _
   | refine LeO.ite ?_ ?_
   | refine LeO.bind ?_ (fun _ => ?_)
def expr_Eval.T14 : Bool × List (List Nat × List Nat) := (true, [([], []), ([0], [0]), ([], []), ([], []), ([2, 3], [2, 3]), ([4], [4]), ([], []), ([], []), ([7], [7]), ([6, 8], [6, 8]), ([9], [9]), ([1, 5, 10], [1, 5, 10]), ([11], [11]), ([12], [12]), ([12], [12]), ([13, 11, 0, 1, 2, 3, 4, 5, 6, 7, 8, 9, 10, 11, 12, 13], [13]), ([14, 15, 0, 1, 2, 3, 4, 5, 6, 7, 8, 9, 10, 11, 12, 13, 14, 15], [14])])
def expr_Eval.B14 : List Nat := [0, 1, 0, 0, 12, 28, 0, 0, 128, 448, 960, 2047, 4095, 8191, 8191, 16383, 65535]
theorem expr_Eval.tab14 : rtab .any (opsOf Try.f22 14) = expr_Eval.T14 := by kernel_rfl
theorem expr_Eval.bits14 : waitsOk expr_Eval.T14.2 expr_Eval.B14 = true := by kernel_rfl
set_option maxHeartbeats 8000000 in
set_option maxRecDepth 100000 in
theorem expr_Eval.calls (k : Nat) (A0 : Option Addr) (c0 : Nat) (l0 : List (S67)) (A1 : Option Addr) (c1 : Nat) (l1 : List (S54)) (r1 : Int) (r2 : Int) (r3 : ByteArray) (r4 : Int) (w : World) (hr0 : Kd.C k67 w A0 l0.length l0) (hc0 : l0.length ≤ c0) (hr1 : Kd.C k54 w A1 l1.length l1) (hc1 : l1.length ≤ c1) (h : expr_Eval.f k l0 l1 = some (r1, r2, r3, r4)) :
  Calls Try.prog 22 #[.slice A0 l0.length c0, .slice A1 l1.length c1] w fun e w' => e = .returned (.tuple #[.agg #[.int .i64 r1, .int .i64 r2, .string r3], .int .i64 r4]) ∧ Below w.heap.size w w' := by
 have hu23 := Try.underlying23
 have hu67 := Try.underlying67
 have HR0 := Aside0.mk hr0
 have HC0 := Aside0.mk hc0
 clear hr0 hc0
 have HR1 := Aside0.mk hr1
 have HC1 := Aside0.mk hc1
 clear hr1 hc1
 have HB := Aside0.mk (Below.refl w.heap.size w)
 have H : ((expr_Check.f k l0).bind fun t233 => (if t233 = 0 then ((subst_Check.f k l1).bind fun t234 => (expr_Eval.j0 k l0 l1 t234)) else (expr_Eval.j0 k l0 l1 t233))) = some (r1, r2, r3, r4) := h
 clear h
 replace H := Option.bind_eq_some_iff.mp H
 obtain ⟨t233, A30, H⟩ := H
 try dsimp only at H
 have A3 := Aside0.mk A30
 clear A30
 have HC4 := Aside0.mk H
 clear H
 go_enter Try.func22, Try.ntmps22
 go_upto_if 15 with (first | ((with_reducible refine gate_dst (N := 4) rfl ?_); refine box_event ?hg (N := 4) ?hd (cs := #[.int .i64 0, .int .i64 0, .string (⟨#[]⟩ : ByteArray)]) (t := 23) ?hr ?_; (case hd => rfl); (case hg => rfl); (case hr => first | (go_simp; done) | (go_simp; rfl)); intro gb232 hg w5 hbox hb; have BK232 := Aside0.mk (hbox); have GW232 := gs_ hg (be_ HB); have GE232 := gs_ hg (be_ HB); replace HB := bs_ (be_ HB) hb; clear hb hbox hg) | ((with_reducible refine gate_callee (f := 33) rfl ?_); refine goesL_ (some 13) rfl rfl Try.func33 (by kernel_rfl) rfl #[.slice A0 l0.length c0] rfl ga_ ?_; (with_reducible refine (expr_Check.calls k _ _ l0 t233 _ ?side1 ?side2 A3.out).mono ?_); (case side1 => exact kd_ ((Kd.C_below HR0.out HB.out))); (case side2 => exact HC0.out); rintro e w6 ⟨rfl, hb⟩; refine ⟨_, rfl, ?_⟩; replace BK232 := bb_ (bu_ BK232) hb; replace HB := bs_ (be_ HB) hb; (try clear hb); (try clear hb2); (try clear hk); (try clear hi)))
 (try simp only [Act.put, List.setIfInBounds_toArray, List.set_cons_zero, List.set_cons_succ])
 go_cut [6] (fun v6 wc => ∃ (kq : Nat) (x6_3 : Int), v6 = .int .i64 x6_3 ∧ Aside0 (expr_Eval.j0 kq l0 l1 x6_3 = some (r1, r2, r3, r4)) ∧ Aside0 (kq ≤ k) ∧ Aside0 (wc.heap[gb232]? = some (.cells #[.int .i64 0, .int .i64 0, .string (⟨#[]⟩ : ByteArray)] 23 (0, 0))) ∧ Aside0 (Below w.heap.size w wc))
 case first =>
  have H := HC4.out
  clear HC4
  by_cases c7 : t233 = 0
  ·rw [if_pos c7] at H
   obtain ⟨c7b0, c7b1⟩ := eqB_ c7
   clear c7
   (first | rw [c7b0] | (simp only [i64_w, i32_w]; rw [c7b0]) | skip)
   replace H := Option.bind_eq_some_iff.mp H
   obtain ⟨t234, A80, H⟩ := H
   try dsimp only at H
   have A8 := Aside0.mk A80
   clear A80
   have H' := Aside0.mk H
   clear H
   go_wp2_with (first | ((with_reducible refine gate_callee (f := 37) rfl ?_); refine goesL_ (some 17) rfl rfl Try.func37 (by kernel_rfl) rfl #[.slice A1 l1.length c1] rfl ga_ ?_; (with_reducible refine (subst_Check.calls k _ _ l1 t234 _ ?side1 ?side2 A8.out).mono ?_); (case side1 => exact kd_ ((Kd.C_below HR1.out HB.out))); (case side2 => exact HC1.out); rintro e w9 ⟨rfl, hb⟩; refine ⟨_, rfl, ?_⟩; replace BK232 := bb_ (bu_ BK232) hb; replace HB := bs_ (be_ HB) hb; (try clear hb); (try clear hb2); (try clear hk); (try clear hi)))
   go_meet
   case rel => exact ⟨_, (t234), ra_, H', le_, bu2_ BK232, be2_ HB⟩
  ·rw [if_neg c7] at H
   obtain ⟨c7b0, c7b1⟩ := neB_ c7
   (first | rw [c7b0] | (simp only [i64_w, i32_w]; rw [c7b0]) | skip)
   have H' := Aside0.mk H
   clear H
   go_wp2
   go_meet
   case rel => exact ⟨_, (t233), ra_, H', le_, bu2_ BK232, be2_ HB⟩
 case rest =>
  clear HC4
  try clear c1; try clear c2; try clear p2; try clear c3; try clear c7; try clear c7b0; try clear c7b1
  obtain ⟨kq, x6_3, rfl, HA, HJ3, BK232, HB⟩ := hcut
  cases kq with
  | zero => exact absurd HA.out (by simp [expr_Eval.j0])
  | succ kj3 =>
   have H := HA.out
   clear HA
   simp only [expr_Eval.j0] at H
   by_cases c10 : x6_3 = 0
   ·rw [if_pos c10] at H
    obtain ⟨c10b0, c10b1⟩ := eqB_ c10
    clear c10
    have H' := Aside0.mk H
    clear H
    go_wp2
    go_loopg [7, 24] kj3 (fun kq v7 v24 w' => ∃ (x7_2 : List (S23)) (x24_2 : Int) (x233000_2 : Int) (x233001_2 : Int) (x233002_2 : ByteArray), v24 = .int .i64 x24_2 ∧ Aside0 (expr_Eval.l0 kq l1 x7_2 l0 (l0.length : Int) x24_2 = some (r1, r2, r3, r4)) ∧ Aside0 (kq ≤ kj3) ∧ Aside0 (Kd.R k23 23 w' w.heap.size (fun k_ => k_ ≠ gb232) v7 x7_2) ∧ Aside0 (w'.heap[gb232]? = some (.cells #[.int .i64 x233000_2, .int .i64 x233001_2, .string x233002_2] 23 (0, 0))) ∧ Aside0 (Below w.heap.size w w'))
    case atStart => exact ⟨(([] : List (S23))), (0), (0), (0), ((⟨#[]⟩ : ByteArray)), ra_, H', ⟨Nat.le_refl _⟩, ⟨by first | exact Kd.R_nil _ _ _ _ _ | exact Kd.N_nil _ _ _ _ _ | exact Kd.V_nil _ _ _ _ _ | exact Kd.Q_nil _ _ _ _ _ | exact Kd.S_nil _ _ _ _ _⟩, bu2_ BK232, be2_ HB⟩
    case round =>
     clear H'
     try clear c1; try clear c2; try clear p2; try clear c3; try clear c7; try clear c7b0; try clear c7b1; try clear c10; try clear c10b0; try clear c10b1; try clear p2
     obtain ⟨x7_2, x24_2, x233000_2, x233001_2, x233002_2, rfl, HA, HK2, HO_7, BK232, HB⟩ := hrel
     cases gk with
     | zero => exact absurd HA.out (by simp [expr_Eval.l0])
     | succ k2 =>
      have H := HA.out
      clear HA
      simp only [expr_Eval.l0] at H
      by_cases c11 : x24_2 < (l0.length : Int)
      ·rw [if_pos c11] at H
       have c11b0 : decide (x24_2 < (l0.length : Int)) = true := decide_eq_true c11
       clear c11
       by_cases c12 : 0 ≤ x24_2
       ·rw [if_pos c12] at H
        have c12b0 : decide (0 ≤ x24_2) = true := decide_eq_true c12
        clear c12
        by_cases c13 : x24_2 < (l0.length : Int)
        ·rw [if_pos c13] at H
         have c13b0 : decide (x24_2 < (l0.length : Int)) = true := decide_eq_true c13
         clear c13
         replace H := Option.bind_eq_some_iff.mp H
         obtain ⟨t239, A140, H⟩ := H
         try dsimp only at H
         have A14 := Aside0.mk A140
         clear A140
         by_cases c15 : t239 = true
         ·subst c15
          rw [if_pos rfl] at H
          replace H := Option.bind_eq_some_iff.mp H
          obtain ⟨⟨t240, t241, t242, t243⟩, A160, H⟩ := H
          try dsimp only at H
          have A16 := Aside0.mk A160
          clear A160
          by_cases c17 : t243 = 0
          ·rw [if_pos c17] at H
           obtain ⟨c17b0, c17b1⟩ := eqB_ c17
           clear c17
           by_cases c18 : x7_2.length < 4398046511104
           ·rw [if_pos c18] at H
            have LMc18 := Aside0.mk c18
            clear c18
            obtain ⟨y244, hy244⟩ : ∃ y_ : List (S23), y_ = (x7_2 ++ [(⟨t240, t241, t242⟩ : S23)]) := ⟨_, rfl⟩
            replace H : (expr_Eval.l0 k2 l1 y244 l0 (l0.length : Int) (wrap64 (x24_2 + 1))) = some (r1, r2, r3, r4) := by first | (rw [hy244]; with_reducible exact H) | (have H2_ := (Option.bind_some _ _).symm.trans H; rw [hy244]; with_reducible exact H2_) | (have H2_ := (Option.bind_some _ _).symm.trans H; with_reducible exact H2_) | with_reducible exact H | (rw [hy244]; exact H) | exact H
            have Ny244 := Aside0.mk hy244
            clear hy244
            have H' := Aside0.mk H
            clear H
            have p236 : 0 ≤ (x24_2 : Int) := dt_
            have q236 : x24_2 < (l0.length : Int) := dt_
            obtain ⟨ad236, e236, hx236_0, hx236_1, hx236_2, hx236_3, hx236_4⟩ := at_T67 HR0.out x24_2 p236 q236
            cases e236
            replace hx236_0 := cm_ HB hx236_0
            replace hx236_1 := cm_ HB hx236_1
            replace hx236_2 := cm_ HB hx236_2
            replace hx236_3 := cm_ HB hx236_3
            replace hx236_4 := cm_ HB hx236_4
            replace p236 := eq_true p236
            replace q236 := eq_true q236
            go_wp2_with (first | ((with_reducible refine gate_dst (N := 9) rfl ?_); refine box_event ?hg (N := 9) ?hd (cs := #[.int .i64 0, .string (⟨#[]⟩ : ByteArray), .int .i64 0, .int .i64 0, .string (⟨#[]⟩ : ByteArray)]) (t := 67) ?hr ?_; (case hd => rfl); (case hg => rfl); (case hr => first | (go_simp; done) | (go_simp; rfl)); intro gb237 hg w19 hbox hb; replace HO_7 := kb_ (ku_ HO_7.out) hb; have BK237 := Aside0.mk (hbox); have GW237 := gs_ hg (be_ HB); have GE237 := gs_ hg (be_ HB); replace HB := bs_ (be_ HB) hb; have NB232_237 := nl_ hg (bu_ BK232); have NB237_232 := ng_ hg (bu_ BK232); replace BK232 := bb_ (bu_ BK232) hb; clear hb hbox hg; have hnb20 := NB237_232.out; have hnc20 := NB232_237.out; have hcz21_0 : w19.cell? ⟨gb237, 0, none⟩ = some (.int .i64 0) := (blk_cell BK237.out 0).trans rfl; have hcz21_1 : w19.cell? ⟨gb237, 1, none⟩ = some (.string (⟨#[]⟩ : ByteArray)) := (blk_cell BK237.out 1).trans rfl; have hcz21_2 : w19.cell? ⟨gb237, 2, none⟩ = some (.int .i64 0) := (blk_cell BK237.out 2).trans rfl; have hcz21_3 : w19.cell? ⟨gb237, 3, none⟩ = some (.int .i64 0) := (blk_cell BK237.out 3).trans rfl; have hcz21_4 : w19.cell? ⟨gb237, 4, none⟩ = some (.string (⟨#[]⟩ : ByteArray)) := (blk_cell BK237.out 4).trans rfl; have hfz21_0 := blk_frozen BK237.out 0; have hfz21_1 := blk_frozen BK237.out 1; have hfz21_2 := blk_frozen BK237.out 2; have hfz21_3 := blk_frozen BK237.out 3; have hfz21_4 := blk_frozen BK237.out 4) | ((with_reducible refine gate_dst (N := 10) rfl ?_); refine box_event ?hg (N := 10) ?hd (cs := #[.int .i64 0, .int .i64 0, .string (⟨#[]⟩ : ByteArray)]) (t := 23) ?hr ?_; (case hd => rfl); (case hg => rfl); (case hr => first | (go_simp; done) | (go_simp; rfl)); intro gb238 hg w22 hbox hb; replace HO_7 := Aside0.mk (Kd.R_below (Kd.R_elderB (ku_ (Kd.R_mono (Kd.R_far (p := ⟨gb237, 4, none⟩) (Kd.R_far (p := ⟨gb237, 3, none⟩) (Kd.R_far (p := ⟨gb237, 2, none⟩) (Kd.R_far (p := ⟨gb237, 1, none⟩) (Kd.R_far (p := ⟨gb237, 0, none⟩) (Kd.R_types HO_7.out BK237.out (by decide)) (fun _ hk => hk.2) (.int .i64 ((rd_T67 l0 x24_2).f0))) (fun _ hk => hk.2) (.string ((rd_T67 l0 x24_2).f1))) (fun _ hk => hk.2) (.int .i64 ((rd_T67 l0 x24_2).f2.f0))) (fun _ hk => hk.2) (.int .i64 ((rd_T67 l0 x24_2).f2.f1))) (fun _ hk => hk.2) (.string ((rd_T67 l0 x24_2).f2.f2))) (fun _ h_ => h_.1))) gb238 (Nat.le_of_eq hg.symm)) hb); have BK238 := Aside0.mk (hbox); have GW238 := gs_ hg (be_ HB); have GE238 := gs_ hg (be_ HB); replace HB := bs_ (be_ HB) hb; have NB232_238 := nl_ hg (bu_ BK232); have NB238_232 := ng_ hg (bu_ BK232); replace BK232 := bb_ (bu_ BK232) hb; have NB237_238 := Aside0.mk ((by rw [hg]; exact Nat.ne_of_lt (blk_lt (o := .cells #[.int .i64 ((rd_T67 l0 x24_2).f0), .string ((rd_T67 l0 x24_2).f1), .int .i64 ((rd_T67 l0 x24_2).f2.f0), .int .i64 ((rd_T67 l0 x24_2).f2.f1), .string ((rd_T67 l0 x24_2).f2.f2)] 67 (0, 0)) (bp_ BK237)) : gb237 ≠ gb238)); have NB238_237 := Aside0.mk ((by rw [hg]; exact Nat.ne_of_gt (blk_lt (o := .cells #[.int .i64 ((rd_T67 l0 x24_2).f0), .string ((rd_T67 l0 x24_2).f1), .int .i64 ((rd_T67 l0 x24_2).f2.f0), .int .i64 ((rd_T67 l0 x24_2).f2.f1), .string ((rd_T67 l0 x24_2).f2.f2)] 67 (0, 0)) (bp_ BK237)) : gb238 ≠ gb237)); replace BK237 := Aside0.mk (blk_below (o := .cells #[.int .i64 ((rd_T67 l0 x24_2).f0), .string ((rd_T67 l0 x24_2).f1), .int .i64 ((rd_T67 l0 x24_2).f2.f0), .int .i64 ((rd_T67 l0 x24_2).f2.f1), .string ((rd_T67 l0 x24_2).f2.f2)] 67 (0, 0)) (bp_ BK237) hb); clear hb hbox hg; have hnb23 := NB237_238.out; have hnc23 := NB238_237.out; have hcz24_0 : w22.cell? ⟨gb237, 0, none⟩ = some (.int .i64 ((rd_T67 l0 x24_2).f0)) := (blk_cell BK237.out 0).trans rfl; have hcz24_1 : w22.cell? ⟨gb237, 1, none⟩ = some (.string ((rd_T67 l0 x24_2).f1)) := (blk_cell BK237.out 1).trans rfl; have hcz24_2 : w22.cell? ⟨gb237, 2, none⟩ = some (.int .i64 ((rd_T67 l0 x24_2).f2.f0)) := (blk_cell BK237.out 2).trans rfl; have hcz24_3 : w22.cell? ⟨gb237, 3, none⟩ = some (.int .i64 ((rd_T67 l0 x24_2).f2.f1)) := (blk_cell BK237.out 3).trans rfl; have hcz24_4 : w22.cell? ⟨gb237, 4, none⟩ = some (.string ((rd_T67 l0 x24_2).f2.f2)) := (blk_cell BK237.out 4).trans rfl; have hfz24_0 := blk_frozen BK237.out 0; have hfz24_1 := blk_frozen BK237.out 1; have hfz24_2 := blk_frozen BK237.out 2; have hfz24_3 := blk_frozen BK237.out 3; have hfz24_4 := blk_frozen BK237.out 4) | ((with_reducible refine gate_callee (f := 38) rfl ?_); refine goesL_ (some 30) rfl rfl Try.func38 (by kernel_rfl) rfl #[.int .i64 ((rd_T67 l0 x24_2).f0)] rfl ga_ ?_; (with_reducible refine (expr_pushes.calls ((rd_T67 l0 x24_2).f0) true _ A14.out).mono ?_); rintro e w' ⟨rfl, ⟨nd, rfl⟩⟩; refine ⟨_, rfl, ?_⟩; (try (rw [drewN_self w22]; generalize hq_ : World.drewN w22 _ = w22; have n0_ : Aside0 (Kd.R k23 23 w22 w.heap.size (fun k_ => k_ ≠ gb232 ∧ k_ ≠ gb238) u7 x7_2) := ⟨by rw [← hq_]; exact (ku_ HO_7.out)⟩; have n1_ : Aside0 (w22.heap[gb232]? = some (.cells #[.int .i64 x233000_2, .int .i64 x233001_2, .string x233002_2] 23 (0, 0))) := ⟨by rw [← hq_]; exact (bu_ BK232)⟩; have n2_ : Aside0 (w22.heap[gb237]? = some (.cells #[.int .i64 ((rd_T67 l0 x24_2).f0), .string ((rd_T67 l0 x24_2).f1), .int .i64 ((rd_T67 l0 x24_2).f2.f0), .int .i64 ((rd_T67 l0 x24_2).f2.f1), .string ((rd_T67 l0 x24_2).f2.f2)] 67 (0, 0))) := ⟨by rw [← hq_]; exact (bu_ BK237)⟩; have n3_ : Aside0 (w22.heap[gb238]? = some (.cells #[.int .i64 0, .int .i64 0, .string (⟨#[]⟩ : ByteArray)] 23 (0, 0))) := ⟨by rw [← hq_]; exact (bu_ BK238)⟩; have n4_ : Aside0 (Below w.heap.size w w22) := ⟨by rw [← hq_]; exact (be_ HB)⟩; clear HO_7 BK232 BK237 BK238 HB hq_; have HO_7 := n0_; have BK232 := n1_; have BK237 := n2_; have BK238 := n3_; have HB := n4_; clear n0_ n1_ n2_ n3_ n4_)); (try clear hcz21_0 hcz21_1 hcz21_2 hcz21_3 hcz21_4 hfz21_0 hfz21_1 hfz21_2 hfz21_3 hfz21_4 hcz24_0 hcz24_1 hcz24_2 hcz24_3 hcz24_4 hfz24_0 hfz24_1 hfz24_2 hfz24_3 hfz24_4); have hcz25_0 : w22.cell? ⟨gb237, 0, none⟩ = some (.int .i64 ((rd_T67 l0 x24_2).f0)) := (blk_cell BK237.out 0).trans rfl; have hcz25_1 : w22.cell? ⟨gb237, 1, none⟩ = some (.string ((rd_T67 l0 x24_2).f1)) := (blk_cell BK237.out 1).trans rfl; have hcz25_2 : w22.cell? ⟨gb237, 2, none⟩ = some (.int .i64 ((rd_T67 l0 x24_2).f2.f0)) := (blk_cell BK237.out 2).trans rfl; have hcz25_3 : w22.cell? ⟨gb237, 3, none⟩ = some (.int .i64 ((rd_T67 l0 x24_2).f2.f1)) := (blk_cell BK237.out 3).trans rfl; have hcz25_4 : w22.cell? ⟨gb237, 4, none⟩ = some (.string ((rd_T67 l0 x24_2).f2.f2)) := (blk_cell BK237.out 4).trans rfl; have hfz25_0 := blk_frozen BK237.out 0; have hfz25_1 := blk_frozen BK237.out 1; have hfz25_2 := blk_frozen BK237.out 2; have hfz25_3 := blk_frozen BK237.out 3; have hfz25_4 := blk_frozen BK237.out 4) | ((with_reducible refine gate_callee (f := 39) rfl ?_); refine goesL_ (some 34) rfl rfl Try.func39 (by kernel_rfl) rfl #[.agg #[.int .i64 ((rd_T67 l0 x24_2).f0), .string ((rd_T67 l0 x24_2).f1), .int .i64 ((rd_T67 l0 x24_2).f2.f0), .int .i64 ((rd_T67 l0 x24_2).f2.f1), .string ((rd_T67 l0 x24_2).f2.f2)], .slice A1 l1.length c1] rfl ga_ ?_; (with_reducible refine (expr_push.calls k2 ((rd_T67 l0 x24_2).f0) ((rd_T67 l0 x24_2).f1) ((rd_T67 l0 x24_2).f2.f0) ((rd_T67 l0 x24_2).f2.f1) ((rd_T67 l0 x24_2).f2.f2) _ _ l1 t240 t241 t242 t243 _ ?side1 ?side2 A16.out).mono ?_); (case side1 => exact kd_ ((Kd.C_below HR1.out HB.out))); (case side2 => exact HC1.out); rintro e w26 ⟨rfl, hb⟩; refine ⟨_, rfl, ?_⟩; replace HO_7 := kb_ (ku_ HO_7.out) hb; replace BK232 := bb_ (bu_ BK232) hb; replace BK237 := bb_ (bu_ BK237) hb; replace BK238 := bb_ (bu_ BK238) hb; replace HB := bs_ (be_ HB) hb; (try clear hb); (try clear hb2); (try clear hk); (try clear hi); have hnb27 := NB238_232.out; have hnc27 := NB232_238.out; have hcz28_0 : w26.cell? ⟨gb238, 0, none⟩ = some (.int .i64 0) := (blk_cell BK238.out 0).trans rfl; have hcz28_1 : w26.cell? ⟨gb238, 1, none⟩ = some (.int .i64 0) := (blk_cell BK238.out 1).trans rfl; have hcz28_2 : w26.cell? ⟨gb238, 2, none⟩ = some (.string (⟨#[]⟩ : ByteArray)) := (blk_cell BK238.out 2).trans rfl; have hfz28_0 := blk_frozen BK238.out 0; have hfz28_1 := blk_frozen BK238.out 1; have hfz28_2 := blk_frozen BK238.out 2) | ((with_reducible refine gate_builtin (b := .append) (xs := #[.tmp 62, .tmp 64]) rfl ?_); at_builtin; refine Kd.R_append k23 (w0 := w) w.heap.size rfl (.tmp 62) (.tmp 64) 69 23 (.agg #[(.int .i64 0), (.int .i64 0), (.string ⟨#[]⟩)]) 32 rfl Try.underlying69 info23 rfl (by decide) (by omega) u7 x7_2 (⟨t240, t241, t242⟩ : S23) [.int .i64 t240, .int .i64 t241, .string t242] (fun k_ => k_ ≠ gb232 ∧ k_ ≠ gb238) (fun _ => False) rfl (by first | (go_simp; done) | (go_simp; rfl)) ?aP (fun _ hk => hk.elim) ?aF ?aO ?aB ?aS ?aL ?_; (case aP => exact k23_mkM _ _ _ (⟨t240, t241, t242⟩ : S23)); (case aB => exact (be_ HB)); (case aF => exact (fun k_ hk => ⟨Kd.freshB (bu_ BK232) k_ hk, Kd.freshB (o := .cells #[.int .i64 t240, .int .i64 t241, .string t242] 23 (0, 0)) (bp_ BK238) k_ hk⟩)); (case aO => exact (by (with_reducible repeat (first | apply Kd.R_alloc | apply Kd.R_drewN | apply Kd.R_drew)); exact Kd.R_mono (Kd.R_far (p := ⟨gb238, 2, none⟩) (Kd.R_far (p := ⟨gb238, 1, none⟩) (Kd.R_far (p := ⟨gb238, 0, none⟩) (Kd.R_mono HO_7.out (fun k_ hk => (⟨hk, hk.2⟩ : _ ∧ k_ ≠ gb238))) (fun _ hk => hk.2) (.int .i64 t240)) (fun _ hk => hk.2) (.int .i64 t241)) (fun _ hk => hk.2) (.string t242)) (fun _ hk => ⟨hk.1.1, hk.1.2⟩))); (case aS => exact (below_size (be_ HB))); (case aL => have := LMc18.out; omega); intro v245 w29 ho hb hg hat; rw [← Ny244.out] at ho; have n0_ := Aside0.mk (blk_grown (bu_ BK232) hg (Kd.R_away HO_7.out (fun _ hk => hk.1))); have n1_ := Aside0.mk (blk_grown (bu_ BK237) hg (Kd.R_ne HO_7.out BK237.out (by decide))); have n2_ := Aside0.mk (blk_grown (o := .cells #[.int .i64 t240, .int .i64 t241, .string t242] 23 (0, 0)) (bp_ BK238) hg (Kd.R_away HO_7.out (fun _ hk => hk.2))); have n3_ := Aside0.mk (hb); have n4_ := Aside0.mk (ho); clear BK232; clear BK237; clear BK238; clear HB; clear HO_7; have BK232 := n0_; have BK237 := n1_; have BK238 := n2_; have HB := n3_; have HO246 := n4_; clear n0_ n1_ n2_ n3_ n4_; (try clear hcz25_0 hcz25_1 hcz25_2 hcz25_3 hcz25_4 hfz25_0 hfz25_1 hfz25_2 hfz25_3 hfz25_4 hcz28_0 hcz28_1 hcz28_2 hfz28_0 hfz28_1 hfz28_2); clear ho hb hg hat))
            go_roundg k2
            case measure => have := HJ3.out; have := HK2.out; omega
            case rel => exact ⟨(y244), (wrap64 (x24_2 + 1)), (x233000_2), (x233001_2), (x233002_2), ra_, H', ⟨by have := HJ3.out; have := HK2.out; omega⟩, mR_ (Kd.R_mono HO246.out (fun _ hk => hk.1)), bu2_ BK232, be2_ HB⟩
           ·rw [if_neg c18] at H
            exact absurd H (by simp)
          ·rw [if_neg c17] at H
           obtain ⟨c17b0, c17b1⟩ := neB_ c17
           simp only [Option.some.injEq, Prod.mk.injEq] at H
           obtain ⟨rfl, rfl, rfl, rfl⟩ := H
           have p236 : 0 ≤ (x24_2 : Int) := dt_
           have q236 : x24_2 < (l0.length : Int) := dt_
           obtain ⟨ad236, e236, hx236_0, hx236_1, hx236_2, hx236_3, hx236_4⟩ := at_T67 HR0.out x24_2 p236 q236
           cases e236
           replace hx236_0 := cm_ HB hx236_0
           replace hx236_1 := cm_ HB hx236_1
           replace hx236_2 := cm_ HB hx236_2
           replace hx236_3 := cm_ HB hx236_3
           replace hx236_4 := cm_ HB hx236_4
           replace p236 := eq_true p236
           replace q236 := eq_true q236
           go_wp2_with (first | ((with_reducible refine gate_dst (N := 9) rfl ?_); refine box_event ?hg (N := 9) ?hd (cs := #[.int .i64 0, .string (⟨#[]⟩ : ByteArray), .int .i64 0, .int .i64 0, .string (⟨#[]⟩ : ByteArray)]) (t := 67) ?hr ?_; (case hd => rfl); (case hg => rfl); (case hr => first | (go_simp; done) | (go_simp; rfl)); intro gb237 hg w30 hbox hb; replace HO_7 := kb_ (ku_ HO_7.out) hb; have BK237 := Aside0.mk (hbox); have GW237 := gs_ hg (be_ HB); have GE237 := gs_ hg (be_ HB); replace HB := bs_ (be_ HB) hb; have NB232_237 := nl_ hg (bu_ BK232); have NB237_232 := ng_ hg (bu_ BK232); replace BK232 := bb_ (bu_ BK232) hb; clear hb hbox hg; have hnb31 := NB237_232.out; have hnc31 := NB232_237.out; have hcz32_0 : w30.cell? ⟨gb237, 0, none⟩ = some (.int .i64 0) := (blk_cell BK237.out 0).trans rfl; have hcz32_1 : w30.cell? ⟨gb237, 1, none⟩ = some (.string (⟨#[]⟩ : ByteArray)) := (blk_cell BK237.out 1).trans rfl; have hcz32_2 : w30.cell? ⟨gb237, 2, none⟩ = some (.int .i64 0) := (blk_cell BK237.out 2).trans rfl; have hcz32_3 : w30.cell? ⟨gb237, 3, none⟩ = some (.int .i64 0) := (blk_cell BK237.out 3).trans rfl; have hcz32_4 : w30.cell? ⟨gb237, 4, none⟩ = some (.string (⟨#[]⟩ : ByteArray)) := (blk_cell BK237.out 4).trans rfl; have hfz32_0 := blk_frozen BK237.out 0; have hfz32_1 := blk_frozen BK237.out 1; have hfz32_2 := blk_frozen BK237.out 2; have hfz32_3 := blk_frozen BK237.out 3; have hfz32_4 := blk_frozen BK237.out 4) | ((with_reducible refine gate_dst (N := 10) rfl ?_); refine box_event ?hg (N := 10) ?hd (cs := #[.int .i64 0, .int .i64 0, .string (⟨#[]⟩ : ByteArray)]) (t := 23) ?hr ?_; (case hd => rfl); (case hg => rfl); (case hr => first | (go_simp; done) | (go_simp; rfl)); intro gb238 hg w33 hbox hb; replace HO_7 := Aside0.mk (Kd.R_below (Kd.R_elderB (ku_ (Kd.R_mono (Kd.R_far (p := ⟨gb237, 4, none⟩) (Kd.R_far (p := ⟨gb237, 3, none⟩) (Kd.R_far (p := ⟨gb237, 2, none⟩) (Kd.R_far (p := ⟨gb237, 1, none⟩) (Kd.R_far (p := ⟨gb237, 0, none⟩) (Kd.R_types HO_7.out BK237.out (by decide)) (fun _ hk => hk.2) (.int .i64 ((rd_T67 l0 x24_2).f0))) (fun _ hk => hk.2) (.string ((rd_T67 l0 x24_2).f1))) (fun _ hk => hk.2) (.int .i64 ((rd_T67 l0 x24_2).f2.f0))) (fun _ hk => hk.2) (.int .i64 ((rd_T67 l0 x24_2).f2.f1))) (fun _ hk => hk.2) (.string ((rd_T67 l0 x24_2).f2.f2))) (fun _ h_ => h_.1))) gb238 (Nat.le_of_eq hg.symm)) hb); have BK238 := Aside0.mk (hbox); have GW238 := gs_ hg (be_ HB); have GE238 := gs_ hg (be_ HB); replace HB := bs_ (be_ HB) hb; have NB232_238 := nl_ hg (bu_ BK232); have NB238_232 := ng_ hg (bu_ BK232); replace BK232 := bb_ (bu_ BK232) hb; have NB237_238 := Aside0.mk ((by rw [hg]; exact Nat.ne_of_lt (blk_lt (o := .cells #[.int .i64 ((rd_T67 l0 x24_2).f0), .string ((rd_T67 l0 x24_2).f1), .int .i64 ((rd_T67 l0 x24_2).f2.f0), .int .i64 ((rd_T67 l0 x24_2).f2.f1), .string ((rd_T67 l0 x24_2).f2.f2)] 67 (0, 0)) (bp_ BK237)) : gb237 ≠ gb238)); have NB238_237 := Aside0.mk ((by rw [hg]; exact Nat.ne_of_gt (blk_lt (o := .cells #[.int .i64 ((rd_T67 l0 x24_2).f0), .string ((rd_T67 l0 x24_2).f1), .int .i64 ((rd_T67 l0 x24_2).f2.f0), .int .i64 ((rd_T67 l0 x24_2).f2.f1), .string ((rd_T67 l0 x24_2).f2.f2)] 67 (0, 0)) (bp_ BK237)) : gb238 ≠ gb237)); replace BK237 := Aside0.mk (blk_below (o := .cells #[.int .i64 ((rd_T67 l0 x24_2).f0), .string ((rd_T67 l0 x24_2).f1), .int .i64 ((rd_T67 l0 x24_2).f2.f0), .int .i64 ((rd_T67 l0 x24_2).f2.f1), .string ((rd_T67 l0 x24_2).f2.f2)] 67 (0, 0)) (bp_ BK237) hb); clear hb hbox hg; have hnb34 := NB237_238.out; have hnc34 := NB238_237.out; have hcz35_0 : w33.cell? ⟨gb237, 0, none⟩ = some (.int .i64 ((rd_T67 l0 x24_2).f0)) := (blk_cell BK237.out 0).trans rfl; have hcz35_1 : w33.cell? ⟨gb237, 1, none⟩ = some (.string ((rd_T67 l0 x24_2).f1)) := (blk_cell BK237.out 1).trans rfl; have hcz35_2 : w33.cell? ⟨gb237, 2, none⟩ = some (.int .i64 ((rd_T67 l0 x24_2).f2.f0)) := (blk_cell BK237.out 2).trans rfl; have hcz35_3 : w33.cell? ⟨gb237, 3, none⟩ = some (.int .i64 ((rd_T67 l0 x24_2).f2.f1)) := (blk_cell BK237.out 3).trans rfl; have hcz35_4 : w33.cell? ⟨gb237, 4, none⟩ = some (.string ((rd_T67 l0 x24_2).f2.f2)) := (blk_cell BK237.out 4).trans rfl; have hfz35_0 := blk_frozen BK237.out 0; have hfz35_1 := blk_frozen BK237.out 1; have hfz35_2 := blk_frozen BK237.out 2; have hfz35_3 := blk_frozen BK237.out 3; have hfz35_4 := blk_frozen BK237.out 4) | ((with_reducible refine gate_callee (f := 38) rfl ?_); refine goesL_ (some 30) rfl rfl Try.func38 (by kernel_rfl) rfl #[.int .i64 ((rd_T67 l0 x24_2).f0)] rfl ga_ ?_; (with_reducible refine (expr_pushes.calls ((rd_T67 l0 x24_2).f0) true _ A14.out).mono ?_); rintro e w' ⟨rfl, ⟨nd, rfl⟩⟩; refine ⟨_, rfl, ?_⟩; (try (rw [drewN_self w33]; generalize hq_ : World.drewN w33 _ = w33; have n0_ : Aside0 (Kd.R k23 23 w33 w.heap.size (fun k_ => k_ ≠ gb232 ∧ k_ ≠ gb238) u7 x7_2) := ⟨by rw [← hq_]; exact (ku_ HO_7.out)⟩; have n1_ : Aside0 (w33.heap[gb232]? = some (.cells #[.int .i64 x233000_2, .int .i64 x233001_2, .string x233002_2] 23 (0, 0))) := ⟨by rw [← hq_]; exact (bu_ BK232)⟩; have n2_ : Aside0 (w33.heap[gb237]? = some (.cells #[.int .i64 ((rd_T67 l0 x24_2).f0), .string ((rd_T67 l0 x24_2).f1), .int .i64 ((rd_T67 l0 x24_2).f2.f0), .int .i64 ((rd_T67 l0 x24_2).f2.f1), .string ((rd_T67 l0 x24_2).f2.f2)] 67 (0, 0))) := ⟨by rw [← hq_]; exact (bu_ BK237)⟩; have n3_ : Aside0 (w33.heap[gb238]? = some (.cells #[.int .i64 0, .int .i64 0, .string (⟨#[]⟩ : ByteArray)] 23 (0, 0))) := ⟨by rw [← hq_]; exact (bu_ BK238)⟩; have n4_ : Aside0 (Below w.heap.size w w33) := ⟨by rw [← hq_]; exact (be_ HB)⟩; clear HO_7 BK232 BK237 BK238 HB hq_; have HO_7 := n0_; have BK232 := n1_; have BK237 := n2_; have BK238 := n3_; have HB := n4_; clear n0_ n1_ n2_ n3_ n4_)); (try clear hcz32_0 hcz32_1 hcz32_2 hcz32_3 hcz32_4 hfz32_0 hfz32_1 hfz32_2 hfz32_3 hfz32_4 hcz35_0 hcz35_1 hcz35_2 hcz35_3 hcz35_4 hfz35_0 hfz35_1 hfz35_2 hfz35_3 hfz35_4); have hcz36_0 : w33.cell? ⟨gb237, 0, none⟩ = some (.int .i64 ((rd_T67 l0 x24_2).f0)) := (blk_cell BK237.out 0).trans rfl; have hcz36_1 : w33.cell? ⟨gb237, 1, none⟩ = some (.string ((rd_T67 l0 x24_2).f1)) := (blk_cell BK237.out 1).trans rfl; have hcz36_2 : w33.cell? ⟨gb237, 2, none⟩ = some (.int .i64 ((rd_T67 l0 x24_2).f2.f0)) := (blk_cell BK237.out 2).trans rfl; have hcz36_3 : w33.cell? ⟨gb237, 3, none⟩ = some (.int .i64 ((rd_T67 l0 x24_2).f2.f1)) := (blk_cell BK237.out 3).trans rfl; have hcz36_4 : w33.cell? ⟨gb237, 4, none⟩ = some (.string ((rd_T67 l0 x24_2).f2.f2)) := (blk_cell BK237.out 4).trans rfl; have hfz36_0 := blk_frozen BK237.out 0; have hfz36_1 := blk_frozen BK237.out 1; have hfz36_2 := blk_frozen BK237.out 2; have hfz36_3 := blk_frozen BK237.out 3; have hfz36_4 := blk_frozen BK237.out 4) | ((with_reducible refine gate_callee (f := 39) rfl ?_); refine goesL_ (some 34) rfl rfl Try.func39 (by kernel_rfl) rfl #[.agg #[.int .i64 ((rd_T67 l0 x24_2).f0), .string ((rd_T67 l0 x24_2).f1), .int .i64 ((rd_T67 l0 x24_2).f2.f0), .int .i64 ((rd_T67 l0 x24_2).f2.f1), .string ((rd_T67 l0 x24_2).f2.f2)], .slice A1 l1.length c1] rfl ga_ ?_; (with_reducible refine (expr_push.calls k2 ((rd_T67 l0 x24_2).f0) ((rd_T67 l0 x24_2).f1) ((rd_T67 l0 x24_2).f2.f0) ((rd_T67 l0 x24_2).f2.f1) ((rd_T67 l0 x24_2).f2.f2) _ _ l1 t240 t241 t242 t243 _ ?side1 ?side2 A16.out).mono ?_); (case side1 => exact kd_ ((Kd.C_below HR1.out HB.out))); (case side2 => exact HC1.out); rintro e w37 ⟨rfl, hb⟩; refine ⟨_, rfl, ?_⟩; replace HO_7 := kb_ (ku_ HO_7.out) hb; replace BK232 := bb_ (bu_ BK232) hb; replace BK237 := bb_ (bu_ BK237) hb; replace BK238 := bb_ (bu_ BK238) hb; replace HB := bs_ (be_ HB) hb; (try clear hb); (try clear hb2); (try clear hk); (try clear hi); have hnb38 := NB238_232.out; have hnc38 := NB232_238.out; have hcz39_0 : w37.cell? ⟨gb238, 0, none⟩ = some (.int .i64 0) := (blk_cell BK238.out 0).trans rfl; have hcz39_1 : w37.cell? ⟨gb238, 1, none⟩ = some (.int .i64 0) := (blk_cell BK238.out 1).trans rfl; have hcz39_2 : w37.cell? ⟨gb238, 2, none⟩ = some (.string (⟨#[]⟩ : ByteArray)) := (blk_cell BK238.out 2).trans rfl; have hfz39_0 := blk_frozen BK238.out 0; have hfz39_1 := blk_frozen BK238.out 1; have hfz39_2 := blk_frozen BK238.out 2; have hcz40_0 : w37.cell? ⟨gb232, 0, none⟩ = some (.int .i64 x233000_2) := (blk_cell BK232.out 0).trans rfl; have hcz40_1 : w37.cell? ⟨gb232, 1, none⟩ = some (.int .i64 x233001_2) := (blk_cell BK232.out 1).trans rfl; have hcz40_2 : w37.cell? ⟨gb232, 2, none⟩ = some (.string x233002_2) := (blk_cell BK232.out 2).trans rfl; have hfz40_0 := blk_frozen BK232.out 0; have hfz40_1 := blk_frozen BK232.out 1; have hfz40_2 := blk_frozen BK232.out 2))
           refine bodyPost_ret (results_ct rfl _ _ gb232 23 #[.int .i64 0, .int .i64 0, .string (⟨#[]⟩ : ByteArray)] (0, 0) _ rfl (bp_ BK232) Try.underlying23 rfl (by kernel_rfl)) rfl ?_
           exact ⟨re_, be_ HB⟩
         ·replace c15 := Bool.eq_false_iff.mpr c15
          subst c15
          rw [if_neg (show ¬ (false = true) by decide)] at H
          obtain ⟨ji41, hji41⟩ : ∃ j_ : Int, (wrap64 ((x7_2.length : Int) - 2)) = j_ := ⟨_, rfl⟩
          replace H : (if 0 ≤ (ji41) then (if (ji41) < (x7_2.length : Int) then (if 0 ≤ (wrap64 ((ji41) + 1)) then (if (wrap64 ((ji41) + 1)) < (x7_2.length : Int) then ((expr_reckon.f k2 ((rd_T67 l0 x24_2).f0) ((rd_T23 x7_2 (ji41)).f0) ((rd_T23 x7_2 (ji41)).f1) ((rd_T23 x7_2 (ji41)).f2) ((rd_T23 x7_2 (wrap64 ((ji41) + 1))).f0) ((rd_T23 x7_2 (wrap64 ((ji41) + 1))).f1) ((rd_T23 x7_2 (wrap64 ((ji41) + 1))).f2)).bind fun bt249 => (if (ji41) ≤ (x7_2.length : Int) then ((some (x7_2.take ((ji41) : Int).toNat : List (S23))).bind fun y253 => (if bt249.2.2.2 = 0 then (if y253.length < 4398046511104 then (expr_Eval.l0 k2 l1 (y253 ++ [(⟨bt249.1, bt249.2.1, bt249.2.2.1⟩ : S23)]) l0 (l0.length : Int) (wrap64 (x24_2 + 1))) else (none)) else (some (0, 0, (⟨#[]⟩ : ByteArray), bt249.2.2.2)))) else (none))) else (none)) else (none)) else (none)) else (none)) = some (r1, r2, r3, r4) := by first | (rw [hji41] at H; exact H) | (simp only [hji41] at H ⊢; exact H)
          (try rw [hji41] at A14)
          have hji41w : (IntKind.i64.wrap ((x7_2.length : Int) - 2)) = ji41 := (i64_w _).trans hji41
          by_cases c42 : 0 ≤ (ji41)
          ·rw [if_pos c42] at H
           have c42b0 : decide (0 ≤ (ji41)) = true := decide_eq_true c42
           clear c42
           by_cases c43 : (ji41) < (x7_2.length : Int)
           ·rw [if_pos c43] at H
            have c43b0 : decide ((ji41) < (x7_2.length : Int)) = true := decide_eq_true c43
            clear c43
            obtain ⟨ji44, hji44⟩ : ∃ j_ : Int, (wrap64 ((ji41) + 1)) = j_ := ⟨_, rfl⟩
            replace H : (if 0 ≤ (ji44) then (if (ji44) < (x7_2.length : Int) then ((expr_reckon.f k2 ((rd_T67 l0 x24_2).f0) ((rd_T23 x7_2 (ji41)).f0) ((rd_T23 x7_2 (ji41)).f1) ((rd_T23 x7_2 (ji41)).f2) ((rd_T23 x7_2 (ji44)).f0) ((rd_T23 x7_2 (ji44)).f1) ((rd_T23 x7_2 (ji44)).f2)).bind fun bt249 => (if (ji41) ≤ (x7_2.length : Int) then ((some (x7_2.take ((ji41) : Int).toNat : List (S23))).bind fun y253 => (if bt249.2.2.2 = 0 then (if y253.length < 4398046511104 then (expr_Eval.l0 k2 l1 (y253 ++ [(⟨bt249.1, bt249.2.1, bt249.2.2.1⟩ : S23)]) l0 (l0.length : Int) (wrap64 (x24_2 + 1))) else (none)) else (some (0, 0, (⟨#[]⟩ : ByteArray), bt249.2.2.2)))) else (none))) else (none)) else (none)) = some (r1, r2, r3, r4) := by first | (rw [hji44] at H; exact H) | (simp only [hji44] at H ⊢; exact H)
            (try rw [hji44] at A14)
            have hji44w : (IntKind.i64.wrap ((ji41) + 1)) = ji44 := (i64_w _).trans hji44
            by_cases c45 : 0 ≤ (ji44)
            ·rw [if_pos c45] at H
             have c45b0 : decide (0 ≤ (ji44)) = true := decide_eq_true c45
             clear c45
             by_cases c46 : (ji44) < (x7_2.length : Int)
             ·rw [if_pos c46] at H
              have c46b0 : decide ((ji44) < (x7_2.length : Int)) = true := decide_eq_true c46
              clear c46
              replace H := Option.bind_eq_some_iff.mp H
              obtain ⟨⟨t249, t250, t251, t252⟩, A470, H⟩ := H
              try dsimp only at H
              have A47 := Aside0.mk A470
              clear A470
              by_cases c48 : (ji41) ≤ (x7_2.length : Int)
              ·rw [if_pos c48] at H
               have c48b0 := eq_true c48
               have c48b1 : decide ((ji41) ≤ (x7_2.length : Int)) = true := decide_eq_true c48
               clear c48
               obtain ⟨y253, hy253⟩ : ∃ y_ : List (S23), y_ = (x7_2.take ((ji41) : Int).toNat) := ⟨_, rfl⟩
               replace H : (if t252 = 0 then (if y253.length < 4398046511104 then (expr_Eval.l0 k2 l1 (y253 ++ [(⟨t249, t250, t251⟩ : S23)]) l0 (l0.length : Int) (wrap64 (x24_2 + 1))) else (none)) else (some (0, 0, (⟨#[]⟩ : ByteArray), t252))) = some (r1, r2, r3, r4) := by first | (rw [hy253]; with_reducible exact H) | (have H2_ := (Option.bind_some _ _).symm.trans H; rw [hy253]; with_reducible exact H2_) | (have H2_ := (Option.bind_some _ _).symm.trans H; with_reducible exact H2_) | with_reducible exact H | (rw [hy253]; exact H) | exact H
               have Ny253 := Aside0.mk hy253
               clear hy253
               by_cases c49 : t252 = 0
               ·rw [if_pos c49] at H
                obtain ⟨c49b0, c49b1⟩ := eqB_ c49
                clear c49
                by_cases c50 : y253.length < 4398046511104
                ·rw [if_pos c50] at H
                 have LMc50 := Aside0.mk c50
                 clear c50
                 obtain ⟨y256, hy256⟩ : ∃ y_ : List (S23), y_ = (y253 ++ [(⟨t249, t250, t251⟩ : S23)]) := ⟨_, rfl⟩
                 replace H : (expr_Eval.l0 k2 l1 y256 l0 (l0.length : Int) (wrap64 (x24_2 + 1))) = some (r1, r2, r3, r4) := by first | (rw [hy256]; with_reducible exact H) | (have H2_ := (Option.bind_some _ _).symm.trans H; rw [hy256]; with_reducible exact H2_) | (have H2_ := (Option.bind_some _ _).symm.trans H; with_reducible exact H2_) | with_reducible exact H | (rw [hy256]; exact H) | exact H
                 have Ny256 := Aside0.mk hy256
                 clear hy256
                 have H' := Aside0.mk H
                 clear H
                 have p236 : 0 ≤ (x24_2 : Int) := dt_
                 have q236 : x24_2 < (l0.length : Int) := dt_
                 obtain ⟨ad236, e236, hx236_0, hx236_1, hx236_2, hx236_3, hx236_4⟩ := at_T67 HR0.out x24_2 p236 q236
                 cases e236
                 replace hx236_0 := cm_ HB hx236_0
                 replace hx236_1 := cm_ HB hx236_1
                 replace hx236_2 := cm_ HB hx236_2
                 replace hx236_3 := cm_ HB hx236_3
                 replace hx236_4 := cm_ HB hx236_4
                 replace p236 := eq_true p236
                 replace q236 := eq_true q236
                 try go_wp2_with (first | ((with_reducible refine gate_dst (N := 9) rfl ?_); refine box_event ?hg (N := 9) ?hd (cs := #[.int .i64 0, .string (⟨#[]⟩ : ByteArray), .int .i64 0, .int .i64 0, .string (⟨#[]⟩ : ByteArray)]) (t := 67) ?hr ?_; (case hd => rfl); (case hg => rfl); (case hr => first | (go_simp; done) | (go_simp; rfl)); intro gb237 hg w51 hbox hb; replace HO_7 := kb_ (ku_ HO_7.out) hb; have BK237 := Aside0.mk (hbox); have GW237 := gs_ hg (be_ HB); have GE237 := gs_ hg (be_ HB); replace HB := bs_ (be_ HB) hb; have NB232_237 := nl_ hg (bu_ BK232); have NB237_232 := ng_ hg (bu_ BK232); replace BK232 := bb_ (bu_ BK232) hb; clear hb hbox hg; have hnb52 := NB237_232.out; have hnc52 := NB232_237.out; have hcz53_0 : w51.cell? ⟨gb237, 0, none⟩ = some (.int .i64 0) := (blk_cell BK237.out 0).trans rfl; have hcz53_1 : w51.cell? ⟨gb237, 1, none⟩ = some (.string (⟨#[]⟩ : ByteArray)) := (blk_cell BK237.out 1).trans rfl; have hcz53_2 : w51.cell? ⟨gb237, 2, none⟩ = some (.int .i64 0) := (blk_cell BK237.out 2).trans rfl; have hcz53_3 : w51.cell? ⟨gb237, 3, none⟩ = some (.int .i64 0) := (blk_cell BK237.out 3).trans rfl; have hcz53_4 : w51.cell? ⟨gb237, 4, none⟩ = some (.string (⟨#[]⟩ : ByteArray)) := (blk_cell BK237.out 4).trans rfl; have hfz53_0 := blk_frozen BK237.out 0; have hfz53_1 := blk_frozen BK237.out 1; have hfz53_2 := blk_frozen BK237.out 2; have hfz53_3 := blk_frozen BK237.out 3; have hfz53_4 := blk_frozen BK237.out 4) | ((with_reducible refine gate_dst (N := 10) rfl ?_); refine box_event ?hg (N := 10) ?hd (cs := #[.int .i64 0, .int .i64 0, .string (⟨#[]⟩ : ByteArray)]) (t := 23) ?hr ?_; (case hd => rfl); (case hg => rfl); (case hr => first | (go_simp; done) | (go_simp; rfl)); intro gb238 hg w54 hbox hb; replace HO_7 := Aside0.mk (Kd.R_below (Kd.R_elderB (ku_ (Kd.R_mono (Kd.R_far (p := ⟨gb237, 4, none⟩) (Kd.R_far (p := ⟨gb237, 3, none⟩) (Kd.R_far (p := ⟨gb237, 2, none⟩) (Kd.R_far (p := ⟨gb237, 1, none⟩) (Kd.R_far (p := ⟨gb237, 0, none⟩) (Kd.R_types HO_7.out BK237.out (by decide)) (fun _ hk => hk.2) (.int .i64 ((rd_T67 l0 x24_2).f0))) (fun _ hk => hk.2) (.string ((rd_T67 l0 x24_2).f1))) (fun _ hk => hk.2) (.int .i64 ((rd_T67 l0 x24_2).f2.f0))) (fun _ hk => hk.2) (.int .i64 ((rd_T67 l0 x24_2).f2.f1))) (fun _ hk => hk.2) (.string ((rd_T67 l0 x24_2).f2.f2))) (fun _ h_ => h_.1))) gb238 (Nat.le_of_eq hg.symm)) hb); have BK238 := Aside0.mk (hbox); have GW238 := gs_ hg (be_ HB); have GE238 := gs_ hg (be_ HB); replace HB := bs_ (be_ HB) hb; have NB232_238 := nl_ hg (bu_ BK232); have NB238_232 := ng_ hg (bu_ BK232); replace BK232 := bb_ (bu_ BK232) hb; have NB237_238 := Aside0.mk ((by rw [hg]; exact Nat.ne_of_lt (blk_lt (o := .cells #[.int .i64 ((rd_T67 l0 x24_2).f0), .string ((rd_T67 l0 x24_2).f1), .int .i64 ((rd_T67 l0 x24_2).f2.f0), .int .i64 ((rd_T67 l0 x24_2).f2.f1), .string ((rd_T67 l0 x24_2).f2.f2)] 67 (0, 0)) (bp_ BK237)) : gb237 ≠ gb238)); have NB238_237 := Aside0.mk ((by rw [hg]; exact Nat.ne_of_gt (blk_lt (o := .cells #[.int .i64 ((rd_T67 l0 x24_2).f0), .string ((rd_T67 l0 x24_2).f1), .int .i64 ((rd_T67 l0 x24_2).f2.f0), .int .i64 ((rd_T67 l0 x24_2).f2.f1), .string ((rd_T67 l0 x24_2).f2.f2)] 67 (0, 0)) (bp_ BK237)) : gb238 ≠ gb237)); replace BK237 := Aside0.mk (blk_below (o := .cells #[.int .i64 ((rd_T67 l0 x24_2).f0), .string ((rd_T67 l0 x24_2).f1), .int .i64 ((rd_T67 l0 x24_2).f2.f0), .int .i64 ((rd_T67 l0 x24_2).f2.f1), .string ((rd_T67 l0 x24_2).f2.f2)] 67 (0, 0)) (bp_ BK237) hb); clear hb hbox hg; have hnb55 := NB237_238.out; have hnc55 := NB238_237.out; have hcz56_0 : w54.cell? ⟨gb237, 0, none⟩ = some (.int .i64 ((rd_T67 l0 x24_2).f0)) := (blk_cell BK237.out 0).trans rfl; have hcz56_1 : w54.cell? ⟨gb237, 1, none⟩ = some (.string ((rd_T67 l0 x24_2).f1)) := (blk_cell BK237.out 1).trans rfl; have hcz56_2 : w54.cell? ⟨gb237, 2, none⟩ = some (.int .i64 ((rd_T67 l0 x24_2).f2.f0)) := (blk_cell BK237.out 2).trans rfl; have hcz56_3 : w54.cell? ⟨gb237, 3, none⟩ = some (.int .i64 ((rd_T67 l0 x24_2).f2.f1)) := (blk_cell BK237.out 3).trans rfl; have hcz56_4 : w54.cell? ⟨gb237, 4, none⟩ = some (.string ((rd_T67 l0 x24_2).f2.f2)) := (blk_cell BK237.out 4).trans rfl; have hfz56_0 := blk_frozen BK237.out 0; have hfz56_1 := blk_frozen BK237.out 1; have hfz56_2 := blk_frozen BK237.out 2; have hfz56_3 := blk_frozen BK237.out 3; have hfz56_4 := blk_frozen BK237.out 4) | ((with_reducible refine gate_callee (f := 38) rfl ?_); refine goesL_ (some 30) rfl rfl Try.func38 (by kernel_rfl) rfl #[.int .i64 ((rd_T67 l0 x24_2).f0)] rfl ga_ ?_; (with_reducible refine (expr_pushes.calls ((rd_T67 l0 x24_2).f0) false _ A14.out).mono ?_); rintro e w' ⟨rfl, ⟨nd, rfl⟩⟩; refine ⟨_, rfl, ?_⟩; (try (rw [drewN_self w54]; generalize hq_ : World.drewN w54 _ = w54; have n0_ : Aside0 (Kd.R k23 23 w54 w.heap.size (fun k_ => k_ ≠ gb232 ∧ k_ ≠ gb238) u7 x7_2) := ⟨by rw [← hq_]; exact (ku_ HO_7.out)⟩; have n1_ : Aside0 (w54.heap[gb232]? = some (.cells #[.int .i64 x233000_2, .int .i64 x233001_2, .string x233002_2] 23 (0, 0))) := ⟨by rw [← hq_]; exact (bu_ BK232)⟩; have n2_ : Aside0 (w54.heap[gb237]? = some (.cells #[.int .i64 ((rd_T67 l0 x24_2).f0), .string ((rd_T67 l0 x24_2).f1), .int .i64 ((rd_T67 l0 x24_2).f2.f0), .int .i64 ((rd_T67 l0 x24_2).f2.f1), .string ((rd_T67 l0 x24_2).f2.f2)] 67 (0, 0))) := ⟨by rw [← hq_]; exact (bu_ BK237)⟩; have n3_ : Aside0 (w54.heap[gb238]? = some (.cells #[.int .i64 0, .int .i64 0, .string (⟨#[]⟩ : ByteArray)] 23 (0, 0))) := ⟨by rw [← hq_]; exact (bu_ BK238)⟩; have n4_ : Aside0 (Below w.heap.size w w54) := ⟨by rw [← hq_]; exact (be_ HB)⟩; clear HO_7 BK232 BK237 BK238 HB hq_; have HO_7 := n0_; have BK232 := n1_; have BK237 := n2_; have BK238 := n3_; have HB := n4_; clear n0_ n1_ n2_ n3_ n4_)); (try clear hcz53_0 hcz53_1 hcz53_2 hcz53_3 hcz53_4 hfz53_0 hfz53_1 hfz53_2 hfz53_3 hfz53_4 hcz56_0 hcz56_1 hcz56_2 hcz56_3 hcz56_4 hfz56_0 hfz56_1 hfz56_2 hfz56_3 hfz56_4); obtain ⟨Ao57, co57, eo57⟩ := Kd.R_slice HO_7.out; subst eo57))
                 have n0_ := Aside0.mk (Kd.R_drew HO_7.out)
                 have n1_ := Aside0.mk (blk_drew BK232.out)
                 have n2_ := Aside0.mk (blk_drew BK237.out)
                 have n3_ := Aside0.mk (blk_drew BK238.out)
                 have n4_ := Aside0.mk (below_drew1 HB.out)
                 clear HO_7
                 clear BK232
                 clear BK237
                 clear BK238
                 clear HB
                 have HO_7 := n0_
                 have BK232 := n1_
                 have BK237 := n2_
                 have BK238 := n3_
                 have HB := n4_
                 clear n0_ n1_ n2_ n3_ n4_
                 have p247 : 0 ≤ ((ji41) : Int) := dt_
                 have q247 : (ji41) < (x7_2.length : Int) := dt_
                 obtain ⟨ad247, e247, hx247_0, hx247_1, hx247_2⟩ := at_T23 (Kd.R_reads' HO_7.out).2.2 (ji41) p247 q247
                 cases e247
                 replace p247 := eq_true p247
                 replace q247 := eq_true q247
                 have p248 : 0 ≤ ((ji44) : Int) := dt_
                 have q248 : (ji44) < (x7_2.length : Int) := dt_
                 obtain ⟨ad248, e248, hx248_0, hx248_1, hx248_2⟩ := at_T23 (Kd.R_reads' HO_7.out).2.2 (ji44) p248 q248
                 obtain rfl : ad247 = ad248 := (by injection e248)
                 replace p248 := eq_true p248
                 replace q248 := eq_true q248
                 refine start_ (n := 17) (S := fun w' => w'.cell? ⟨gb237, 0, none⟩ = some (.int .i64 ((rd_T67 l0 x24_2).f0)) ∧ w'.cell? ⟨gb237, 1, none⟩ = some (.string ((rd_T67 l0 x24_2).f1)) ∧ w'.cell? ⟨gb237, 2, none⟩ = some (.int .i64 ((rd_T67 l0 x24_2).f2.f0)) ∧ w'.cell? ⟨gb237, 3, none⟩ = some (.int .i64 ((rd_T67 l0 x24_2).f2.f1)) ∧ w'.cell? ⟨gb237, 4, none⟩ = some (.string ((rd_T67 l0 x24_2).f2.f2)) ∧ w'.cell? (ad247.add (((ji41)).toNat * 3)) = some (.int .i64 ((rd_T23 x7_2 (ji41)).f0)) ∧ w'.cell? ⟨(ad247.add (((ji41)).toNat * 3)).block, (ad247.add (((ji41)).toNat * 3)).off + 1, none⟩ = some (.int .i64 ((rd_T23 x7_2 (ji41)).f1)) ∧ w'.cell? ⟨(ad247.add (((ji41)).toNat * 3)).block, (ad247.add (((ji41)).toNat * 3)).off + 2, none⟩ = some (.string ((rd_T23 x7_2 (ji41)).f2)) ∧ w'.cell? (ad247.add (((ji44)).toNat * 3)) = some (.int .i64 ((rd_T23 x7_2 (ji44)).f0)) ∧ w'.cell? ⟨(ad247.add (((ji44)).toNat * 3)).block, (ad247.add (((ji44)).toNat * 3)).off + 1, none⟩ = some (.int .i64 ((rd_T23 x7_2 (ji44)).f1)) ∧ w'.cell? ⟨(ad247.add (((ji44)).toNat * 3)).block, (ad247.add (((ji44)).toNat * 3)).off + 2, none⟩ = some (.string ((rd_T23 x7_2 (ji44)).f2))) (ds := []) (mk_ 17 0) (by kernel_rfl) rfl rfl ⟨(blk_cell BK237.out 0).trans rfl, (blk_cell BK237.out 1).trans rfl, (blk_cell BK237.out 2).trans rfl, (blk_cell BK237.out 3).trans rfl, (blk_cell BK237.out 4).trans rfl, hx247_0, hx247_1, hx247_2, hx248_0, hx248_1, hx248_2⟩ (fun hHeld => ?_); refine with_tabW expr_Eval.tab14 expr_Eval.bits14 (fun HT_ HW_ => ?_)
                 generalize w54.drew = w58 at HO_7 BK232 BK237 BK238 HB hx247_0 hx247_1 hx247_2 hx248_0 hx248_1 hx248_2 hHeld ⊢
                 refine pu_ 0 41 1 HT_ ?_; refine pu_ 2 43 5 HT_ ?_; refine pu_ 3 44 13 HT_ ?_; refine pu_ 4 45 29 HT_ ?_; refine pu_ 6 47 93 HT_ ?_; refine pu_ 7 48 221 HT_ ?_; refine pu_ 8 49 477 HT_ ?_; refine pu_ 9 50 989 HT_ ?_; refine tk_ 1 42 991 HT_ HW_ hHeld ?_; refine tk_ 5 46 1023 HT_ HW_ hHeld ?_; refine tk_ 10 51 2047 HT_ HW_ hHeld ?_
                 refine one_ (i := 11) (N := some 52) (mk_ 17 4095) rfl rfl (one_of HT_.out (by kernel_rfl)) (by decide) (fun K hK => ?_)
                 refine goes_ Try.func40 (by kernel_rfl) rfl #[.int .i64 ((rd_T67 l0 x24_2).f0), .agg #[.int .i64 ((rd_T23 x7_2 (ji41)).f0), .int .i64 ((rd_T23 x7_2 (ji41)).f1), .string ((rd_T23 x7_2 (ji41)).f2)], .agg #[.int .i64 ((rd_T23 x7_2 (ji44)).f0), .int .i64 ((rd_T23 x7_2 (ji44)).f1), .string ((rd_T23 x7_2 (ji44)).f2)]] (by rfl) rfl rfl (by (try simp only [List.map_toArray, List.map_cons, List.map_nil]); first | done | (simp only [hji41, hji44]; rfl) | rfl | (simp only [List.length_drop, List.length_take]; rfl)) ?_
                 with_reducible refine (expr_reckon.calls k2 ((rd_T67 l0 x24_2).f0) ((rd_T23 x7_2 (ji41)).f0) ((rd_T23 x7_2 (ji41)).f1) ((rd_T23 x7_2 (ji41)).f2) ((rd_T23 x7_2 (ji44)).f0) ((rd_T23 x7_2 (ji44)).f1) ((rd_T23 x7_2 (ji44)).f2) t249 t250 t251 t252 _ A47.out).mono ?_
                 rintro e w59 ⟨rfl, hb⟩
                 have HS5_ := (hb.cell (World.block_lt_of_cell? _ _ (hHeld.2.2.2.2.2.1))).trans (hHeld.2.2.2.2.2.1)
                 have HS6_ := (hb.cell (World.block_lt_of_cell? _ _ (hHeld.2.2.2.2.2.2.1))).trans (hHeld.2.2.2.2.2.2.1)
                 have HS7_ := (hb.cell (World.block_lt_of_cell? _ _ (hHeld.2.2.2.2.2.2.2.1))).trans (hHeld.2.2.2.2.2.2.2.1)
                 have HS8_ := (hb.cell (World.block_lt_of_cell? _ _ (hHeld.2.2.2.2.2.2.2.2.1))).trans (hHeld.2.2.2.2.2.2.2.2.1)
                 have HS9_ := (hb.cell (World.block_lt_of_cell? _ _ (hHeld.2.2.2.2.2.2.2.2.2.1))).trans (hHeld.2.2.2.2.2.2.2.2.2.1)
                 have HS10_ := (hb.cell (World.block_lt_of_cell? _ _ (hHeld.2.2.2.2.2.2.2.2.2.2))).trans (hHeld.2.2.2.2.2.2.2.2.2.2)
                 refine ⟨_, rfl, ?_⟩
                 have n0_ := kb_ (ku_ HO_7.out) hb
                 have n1_ := bb_ (bu_ BK232) hb
                 have n2_ := bb_ (bu_ BK237) hb
                 have n3_ := bb_ (bu_ BK238) hb
                 have n4_ := bs_ (be_ HB) hb
                 clear HO_7
                 clear BK232
                 clear BK237
                 clear BK238
                 clear HB
                 have HO_7 := n0_
                 have BK232 := n1_
                 have BK237 := n2_
                 have BK238 := n3_
                 have HB := n4_
                 clear n0_ n1_ n2_ n3_ n4_
                 (try clear hb)
                 (try clear hb2)
                 (try clear hk)
                 (try clear hi)
                 refine hK.out _ _ ⟨(blk_cell BK237.out 0).trans rfl, (blk_cell BK237.out 1).trans rfl, (blk_cell BK237.out 2).trans rfl, (blk_cell BK237.out 3).trans rfl, (blk_cell BK237.out 4).trans rfl, HS5_, HS6_, HS7_, HS8_, HS9_, HS10_⟩ (fun hHeld => ?_)
                 clear hK K
                 refine nm_ 52 ?_; refine pu_ 12 40 8191 HT_ ?_; refine pu_ 13 53 16383 HT_ ?_; refine pu_ 14 54 32767 HT_ ?_
                 refine one_ (i := 15) (N := none) (mk_ 17 65535) rfl rfl (one_of HT_.out (by kernel_rfl)) (by decide) (fun K hK => ?_)
                 have hs60 : w59.cell? ⟨gb238, 0, none⟩ = some (.int .i64 0) := (blk_cell BK238.out 0).trans rfl
                 have hfs60 := blk_frozen BK238.out 0
                 have hns60_0 := NB232_238.out
                 have hns60_1 := NB237_238.out
                 have hms60_0 := NB238_232.out
                 have hms60_1 := NB238_237.out
                 have hs61 : w59.cell? ⟨gb238, 1, none⟩ = some (.int .i64 0) := (blk_cell BK238.out 1).trans rfl
                 have hfs61 := blk_frozen BK238.out 1
                 have hns61_0 := NB232_238.out
                 have hns61_1 := NB237_238.out
                 have hms61_0 := NB238_232.out
                 have hms61_1 := NB238_237.out
                 have hs62 : w59.cell? ⟨gb238, 2, none⟩ = some (.string (⟨#[]⟩ : ByteArray)) := (blk_cell BK238.out 2).trans rfl
                 have hfs62 := blk_frozen BK238.out 2
                 have hns62_0 := NB232_238.out
                 have hns62_1 := NB237_238.out
                 have hms62_0 := NB238_232.out
                 have hms62_1 := NB238_237.out
                 refine skip_ (w1 := ?_) (by rfl) rfl ?_ ?_
                 rotate_left
                 ·go_simp
                  rfl
                 refine hK.out _ _ ⟨((cell_far (p := ⟨gb238, _, none⟩) NB237_238.out _).trans (((cell_far (p := ⟨gb238, _, none⟩) NB237_238.out _).trans (((cell_far (p := ⟨gb238, _, none⟩) NB237_238.out _).trans (hHeld.1)))))), ((cell_far (p := ⟨gb238, _, none⟩) NB237_238.out _).trans (((cell_far (p := ⟨gb238, _, none⟩) NB237_238.out _).trans (((cell_far (p := ⟨gb238, _, none⟩) NB237_238.out _).trans (hHeld.2.1)))))), ((cell_far (p := ⟨gb238, _, none⟩) NB237_238.out _).trans (((cell_far (p := ⟨gb238, _, none⟩) NB237_238.out _).trans (((cell_far (p := ⟨gb238, _, none⟩) NB237_238.out _).trans (hHeld.2.2.1)))))), ((cell_far (p := ⟨gb238, _, none⟩) NB237_238.out _).trans (((cell_far (p := ⟨gb238, _, none⟩) NB237_238.out _).trans (((cell_far (p := ⟨gb238, _, none⟩) NB237_238.out _).trans (hHeld.2.2.2.1)))))), ((cell_far (p := ⟨gb238, _, none⟩) NB237_238.out _).trans (((cell_far (p := ⟨gb238, _, none⟩) NB237_238.out _).trans (((cell_far (p := ⟨gb238, _, none⟩) NB237_238.out _).trans (hHeld.2.2.2.2.1)))))), ((cell_far (p := ⟨gb238, _, none⟩) (by first | exact Kd.own_blk (Kd.R_away HO_7.out (fun _ hk => hk.2)) | (rw [add_block]; exact Kd.own_blk (Kd.R_away HO_7.out (fun _ hk => hk.2))) | (show (Addr.add _ _).block ≠ _; rw [add_block]; exact Kd.own_blk (Kd.R_away HO_7.out (fun _ hk => hk.2))) | (dsimp only; exact Kd.own_blk (Kd.R_away HO_7.out (fun _ hk => hk.2)))) _).trans (((cell_far (p := ⟨gb238, _, none⟩) (by first | exact Kd.own_blk (Kd.R_away HO_7.out (fun _ hk => hk.2)) | (rw [add_block]; exact Kd.own_blk (Kd.R_away HO_7.out (fun _ hk => hk.2))) | (show (Addr.add _ _).block ≠ _; rw [add_block]; exact Kd.own_blk (Kd.R_away HO_7.out (fun _ hk => hk.2))) | (dsimp only; exact Kd.own_blk (Kd.R_away HO_7.out (fun _ hk => hk.2)))) _).trans (((cell_far (p := ⟨gb238, _, none⟩) (by first | exact Kd.own_blk (Kd.R_away HO_7.out (fun _ hk => hk.2)) | (rw [add_block]; exact Kd.own_blk (Kd.R_away HO_7.out (fun _ hk => hk.2))) | (show (Addr.add _ _).block ≠ _; rw [add_block]; exact Kd.own_blk (Kd.R_away HO_7.out (fun _ hk => hk.2))) | (dsimp only; exact Kd.own_blk (Kd.R_away HO_7.out (fun _ hk => hk.2)))) _).trans (hHeld.2.2.2.2.2.1)))))), ((cell_far (p := ⟨gb238, _, none⟩) (by first | exact Kd.own_blk (Kd.R_away HO_7.out (fun _ hk => hk.2)) | (rw [add_block]; exact Kd.own_blk (Kd.R_away HO_7.out (fun _ hk => hk.2))) | (show (Addr.add _ _).block ≠ _; rw [add_block]; exact Kd.own_blk (Kd.R_away HO_7.out (fun _ hk => hk.2))) | (dsimp only; exact Kd.own_blk (Kd.R_away HO_7.out (fun _ hk => hk.2)))) _).trans (((cell_far (p := ⟨gb238, _, none⟩) (by first | exact Kd.own_blk (Kd.R_away HO_7.out (fun _ hk => hk.2)) | (rw [add_block]; exact Kd.own_blk (Kd.R_away HO_7.out (fun _ hk => hk.2))) | (show (Addr.add _ _).block ≠ _; rw [add_block]; exact Kd.own_blk (Kd.R_away HO_7.out (fun _ hk => hk.2))) | (dsimp only; exact Kd.own_blk (Kd.R_away HO_7.out (fun _ hk => hk.2)))) _).trans (((cell_far (p := ⟨gb238, _, none⟩) (by first | exact Kd.own_blk (Kd.R_away HO_7.out (fun _ hk => hk.2)) | (rw [add_block]; exact Kd.own_blk (Kd.R_away HO_7.out (fun _ hk => hk.2))) | (show (Addr.add _ _).block ≠ _; rw [add_block]; exact Kd.own_blk (Kd.R_away HO_7.out (fun _ hk => hk.2))) | (dsimp only; exact Kd.own_blk (Kd.R_away HO_7.out (fun _ hk => hk.2)))) _).trans (hHeld.2.2.2.2.2.2.1)))))), ((cell_far (p := ⟨gb238, _, none⟩) (by first | exact Kd.own_blk (Kd.R_away HO_7.out (fun _ hk => hk.2)) | (rw [add_block]; exact Kd.own_blk (Kd.R_away HO_7.out (fun _ hk => hk.2))) | (show (Addr.add _ _).block ≠ _; rw [add_block]; exact Kd.own_blk (Kd.R_away HO_7.out (fun _ hk => hk.2))) | (dsimp only; exact Kd.own_blk (Kd.R_away HO_7.out (fun _ hk => hk.2)))) _).trans (((cell_far (p := ⟨gb238, _, none⟩) (by first | exact Kd.own_blk (Kd.R_away HO_7.out (fun _ hk => hk.2)) | (rw [add_block]; exact Kd.own_blk (Kd.R_away HO_7.out (fun _ hk => hk.2))) | (show (Addr.add _ _).block ≠ _; rw [add_block]; exact Kd.own_blk (Kd.R_away HO_7.out (fun _ hk => hk.2))) | (dsimp only; exact Kd.own_blk (Kd.R_away HO_7.out (fun _ hk => hk.2)))) _).trans (((cell_far (p := ⟨gb238, _, none⟩) (by first | exact Kd.own_blk (Kd.R_away HO_7.out (fun _ hk => hk.2)) | (rw [add_block]; exact Kd.own_blk (Kd.R_away HO_7.out (fun _ hk => hk.2))) | (show (Addr.add _ _).block ≠ _; rw [add_block]; exact Kd.own_blk (Kd.R_away HO_7.out (fun _ hk => hk.2))) | (dsimp only; exact Kd.own_blk (Kd.R_away HO_7.out (fun _ hk => hk.2)))) _).trans (hHeld.2.2.2.2.2.2.2.1)))))), ((cell_far (p := ⟨gb238, _, none⟩) (by first | exact Kd.own_blk (Kd.R_away HO_7.out (fun _ hk => hk.2)) | (rw [add_block]; exact Kd.own_blk (Kd.R_away HO_7.out (fun _ hk => hk.2))) | (show (Addr.add _ _).block ≠ _; rw [add_block]; exact Kd.own_blk (Kd.R_away HO_7.out (fun _ hk => hk.2))) | (dsimp only; exact Kd.own_blk (Kd.R_away HO_7.out (fun _ hk => hk.2)))) _).trans (((cell_far (p := ⟨gb238, _, none⟩) (by first | exact Kd.own_blk (Kd.R_away HO_7.out (fun _ hk => hk.2)) | (rw [add_block]; exact Kd.own_blk (Kd.R_away HO_7.out (fun _ hk => hk.2))) | (show (Addr.add _ _).block ≠ _; rw [add_block]; exact Kd.own_blk (Kd.R_away HO_7.out (fun _ hk => hk.2))) | (dsimp only; exact Kd.own_blk (Kd.R_away HO_7.out (fun _ hk => hk.2)))) _).trans (((cell_far (p := ⟨gb238, _, none⟩) (by first | exact Kd.own_blk (Kd.R_away HO_7.out (fun _ hk => hk.2)) | (rw [add_block]; exact Kd.own_blk (Kd.R_away HO_7.out (fun _ hk => hk.2))) | (show (Addr.add _ _).block ≠ _; rw [add_block]; exact Kd.own_blk (Kd.R_away HO_7.out (fun _ hk => hk.2))) | (dsimp only; exact Kd.own_blk (Kd.R_away HO_7.out (fun _ hk => hk.2)))) _).trans (hHeld.2.2.2.2.2.2.2.2.1)))))), ((cell_far (p := ⟨gb238, _, none⟩) (by first | exact Kd.own_blk (Kd.R_away HO_7.out (fun _ hk => hk.2)) | (rw [add_block]; exact Kd.own_blk (Kd.R_away HO_7.out (fun _ hk => hk.2))) | (show (Addr.add _ _).block ≠ _; rw [add_block]; exact Kd.own_blk (Kd.R_away HO_7.out (fun _ hk => hk.2))) | (dsimp only; exact Kd.own_blk (Kd.R_away HO_7.out (fun _ hk => hk.2)))) _).trans (((cell_far (p := ⟨gb238, _, none⟩) (by first | exact Kd.own_blk (Kd.R_away HO_7.out (fun _ hk => hk.2)) | (rw [add_block]; exact Kd.own_blk (Kd.R_away HO_7.out (fun _ hk => hk.2))) | (show (Addr.add _ _).block ≠ _; rw [add_block]; exact Kd.own_blk (Kd.R_away HO_7.out (fun _ hk => hk.2))) | (dsimp only; exact Kd.own_blk (Kd.R_away HO_7.out (fun _ hk => hk.2)))) _).trans (((cell_far (p := ⟨gb238, _, none⟩) (by first | exact Kd.own_blk (Kd.R_away HO_7.out (fun _ hk => hk.2)) | (rw [add_block]; exact Kd.own_blk (Kd.R_away HO_7.out (fun _ hk => hk.2))) | (show (Addr.add _ _).block ≠ _; rw [add_block]; exact Kd.own_blk (Kd.R_away HO_7.out (fun _ hk => hk.2))) | (dsimp only; exact Kd.own_blk (Kd.R_away HO_7.out (fun _ hk => hk.2)))) _).trans (hHeld.2.2.2.2.2.2.2.2.2.1)))))), ((cell_far (p := ⟨gb238, _, none⟩) (by first | exact Kd.own_blk (Kd.R_away HO_7.out (fun _ hk => hk.2)) | (rw [add_block]; exact Kd.own_blk (Kd.R_away HO_7.out (fun _ hk => hk.2))) | (show (Addr.add _ _).block ≠ _; rw [add_block]; exact Kd.own_blk (Kd.R_away HO_7.out (fun _ hk => hk.2))) | (dsimp only; exact Kd.own_blk (Kd.R_away HO_7.out (fun _ hk => hk.2)))) _).trans (((cell_far (p := ⟨gb238, _, none⟩) (by first | exact Kd.own_blk (Kd.R_away HO_7.out (fun _ hk => hk.2)) | (rw [add_block]; exact Kd.own_blk (Kd.R_away HO_7.out (fun _ hk => hk.2))) | (show (Addr.add _ _).block ≠ _; rw [add_block]; exact Kd.own_blk (Kd.R_away HO_7.out (fun _ hk => hk.2))) | (dsimp only; exact Kd.own_blk (Kd.R_away HO_7.out (fun _ hk => hk.2)))) _).trans (((cell_far (p := ⟨gb238, _, none⟩) (by first | exact Kd.own_blk (Kd.R_away HO_7.out (fun _ hk => hk.2)) | (rw [add_block]; exact Kd.own_blk (Kd.R_away HO_7.out (fun _ hk => hk.2))) | (show (Addr.add _ _).block ≠ _; rw [add_block]; exact Kd.own_blk (Kd.R_away HO_7.out (fun _ hk => hk.2))) | (dsimp only; exact Kd.own_blk (Kd.R_away HO_7.out (fun _ hk => hk.2)))) _).trans (hHeld.2.2.2.2.2.2.2.2.2.2))))))⟩ (fun hHeld => ?_)
                 clear hK K
                 refine pu_ 16 6 131071 HT_ ?_
                 refine done_ (done_of HT_.out (by kernel_rfl)) ?_
                 have n0_ : Aside0 (Kd.R k23 23 (((w59.setCell ⟨gb238, 0, none⟩ (.int .i64 t249)).setCell ⟨gb238, 1, none⟩ (.int .i64 t250)).setCell ⟨gb238, 2, none⟩ (.string t251)) w.heap.size (fun k_ => k_ ≠ gb232 ∧ k_ ≠ gb238) (.slice (some ad247) x7_2.length co57) x7_2) := mR_ (Kd.R_mono (Kd.R_far (p := ⟨gb238, 2, none⟩) (Kd.R_far (p := ⟨gb238, 1, none⟩) (Kd.R_far (p := ⟨gb238, 0, none⟩) (Kd.R_mono HO_7.out (fun k_ hk => (⟨hk, hk.2⟩ : _ ∧ k_ ≠ gb238))) (fun _ hk => hk.2) (.int .i64 t249)) (fun _ hk => hk.2) (.int .i64 t250)) (fun _ hk => hk.2) (.string t251)) (fun _ hk => ⟨hk.1.1, hk.1.2⟩))
                 have n1_ : Aside0 ((((w59.setCell ⟨gb238, 0, none⟩ (.int .i64 t249)).setCell ⟨gb238, 1, none⟩ (.int .i64 t250)).setCell ⟨gb238, 2, none⟩ (.string t251)).heap[gb232]? = some (.cells #[.int .i64 x233000_2, .int .i64 x233001_2, .string x233002_2] 23 (0, 0))) := ⟨by (with_reducible repeat (first | refine blk_drewN ?_ _ | refine blk_drew ?_ | refine blk_alloc ?_ _)); refine blk_far ?_ NB232_238.out _; (with_reducible repeat (first | refine blk_drewN ?_ _ | refine blk_drew ?_ | refine blk_alloc ?_ _)); refine blk_far ?_ NB232_238.out _; (with_reducible repeat (first | refine blk_drewN ?_ _ | refine blk_drew ?_ | refine blk_alloc ?_ _)); refine blk_far ?_ NB232_238.out _; (with_reducible repeat (first | refine blk_drewN ?_ _ | refine blk_drew ?_ | refine blk_alloc ?_ _)); exact BK232.out⟩
                 have n2_ : Aside0 ((((w59.setCell ⟨gb238, 0, none⟩ (.int .i64 t249)).setCell ⟨gb238, 1, none⟩ (.int .i64 t250)).setCell ⟨gb238, 2, none⟩ (.string t251)).heap[gb237]? = some (.cells #[.int .i64 ((rd_T67 l0 x24_2).f0), .string ((rd_T67 l0 x24_2).f1), .int .i64 ((rd_T67 l0 x24_2).f2.f0), .int .i64 ((rd_T67 l0 x24_2).f2.f1), .string ((rd_T67 l0 x24_2).f2.f2)] 67 (0, 0))) := ⟨by (with_reducible repeat (first | refine blk_drewN ?_ _ | refine blk_drew ?_ | refine blk_alloc ?_ _)); refine blk_far ?_ NB237_238.out _; (with_reducible repeat (first | refine blk_drewN ?_ _ | refine blk_drew ?_ | refine blk_alloc ?_ _)); refine blk_far ?_ NB237_238.out _; (with_reducible repeat (first | refine blk_drewN ?_ _ | refine blk_drew ?_ | refine blk_alloc ?_ _)); refine blk_far ?_ NB237_238.out _; (with_reducible repeat (first | refine blk_drewN ?_ _ | refine blk_drew ?_ | refine blk_alloc ?_ _)); exact BK237.out⟩
                 have n3_ : Aside0 ((((w59.setCell ⟨gb238, 0, none⟩ (.int .i64 t249)).setCell ⟨gb238, 1, none⟩ (.int .i64 t250)).setCell ⟨gb238, 2, none⟩ (.string t251)).heap[gb238]? = some (.cells #[.int .i64 t249, .int .i64 t250, .string t251] 23 (0, 0))) := ⟨by (with_reducible repeat (first | refine blk_drewN ?_ _ | refine blk_drew ?_ | refine blk_alloc ?_ _)); refine blk_put (cs := #[.int .i64 t249, .int .i64 t250, .string (⟨#[]⟩ : ByteArray)]) ?_ 2 _ rfl; (with_reducible repeat (first | refine blk_drewN ?_ _ | refine blk_drew ?_ | refine blk_alloc ?_ _)); refine blk_put (cs := #[.int .i64 t249, .int .i64 0, .string (⟨#[]⟩ : ByteArray)]) ?_ 1 _ rfl; (with_reducible repeat (first | refine blk_drewN ?_ _ | refine blk_drew ?_ | refine blk_alloc ?_ _)); refine blk_put (cs := #[.int .i64 0, .int .i64 0, .string (⟨#[]⟩ : ByteArray)]) ?_ 0 _ rfl; (with_reducible repeat (first | refine blk_drewN ?_ _ | refine blk_drew ?_ | refine blk_alloc ?_ _)); exact BK238.out⟩
                 have n4_ : Aside0 (Below w.heap.size w (((w59.setCell ⟨gb238, 0, none⟩ (.int .i64 t249)).setCell ⟨gb238, 1, none⟩ (.int .i64 t250)).setCell ⟨gb238, 2, none⟩ (.string t251))) := be2_ HB
                 (try clear HO_7)
                 (try clear BK232)
                 (try clear BK237)
                 (try clear BK238)
                 (try clear HB)
                 generalize (((w59.setCell ⟨gb238, 0, none⟩ (.int .i64 t249)).setCell ⟨gb238, 1, none⟩ (.int .i64 t250)).setCell ⟨gb238, 2, none⟩ (.string t251)) = w63 at n0_ n1_ n2_ n3_ n4_ ⊢
                 have HO_7 := n0_
                 have BK232 := n1_
                 have BK237 := n2_
                 have BK238 := n3_
                 have HB := n4_
                 clear n0_ n1_ n2_ n3_ n4_
                 have q64 : ((ji41) : Int) ≤ ((x7_2.length : Int) : Int) := dt_
                 obtain ⟨i064, hi064, _, hsz64, _⟩ := info_parts info23
                 have hcut64 := cut_to (P := Try.prog) 69 23 .i64 Try.underlying69 hi064 (some ad247) x7_2.length co57 (ji41) dt_ q64 (Kd.R_reads' HO_7.out).2.1
                 have hr64 := Kd.R_take (m := ((ji41) : Int).toNat) HO_7.out (by omega)
                 have hy64 : y253.length = ((ji41) : Int).toNat := (by rw [Ny253.out, List.length_take]; omega)
                 rw [← Ny253.out] at hr64
                 rw [← hy64] at hr64 hcut64
                 clear hy64 hi064 hsz64 HO_7
                 have HO255 := Aside0.mk hr64
                 clear hr64
                 replace q64 := eq_true q64
                 have hnb65 := NB238_232.out
                 have hnc65 := NB232_238.out
                 have hcz66_0 : w63.cell? ⟨gb238, 0, none⟩ = some (.int .i64 t249) := (blk_cell BK238.out 0).trans rfl
                 have hcz66_1 : w63.cell? ⟨gb238, 1, none⟩ = some (.int .i64 t250) := (blk_cell BK238.out 1).trans rfl
                 have hcz66_2 : w63.cell? ⟨gb238, 2, none⟩ = some (.string t251) := (blk_cell BK238.out 2).trans rfl
                 have hfz66_0 := blk_frozen BK238.out 0
                 have hfz66_1 := blk_frozen BK238.out 1
                 have hfz66_2 := blk_frozen BK238.out 2
                 try go_wp2_with (first | ((with_reducible refine gate_builtin (b := .append) (xs := #[.tmp 62, .tmp 64]) rfl ?_); at_builtin; refine Kd.R_append k23 (w0 := w) w.heap.size rfl (.tmp 62) (.tmp 64) 69 23 (.agg #[(.int .i64 0), (.int .i64 0), (.string ⟨#[]⟩)]) 32 rfl Try.underlying69 info23 rfl (by decide) (by omega) (.slice (some ad247) y253.length co57) y253 (⟨t249, t250, t251⟩ : S23) [.int .i64 t249, .int .i64 t250, .string t251] (fun k_ => k_ ≠ gb232 ∧ k_ ≠ gb238) (fun _ => False) rfl rfl ?aP (fun _ hk => hk.elim) ?aF ?aO ?aB ?aS ?aL ?_; (case aP => exact k23_mkM _ _ _ (⟨t249, t250, t251⟩ : S23)); (case aB => exact (be_ HB)); (case aF => exact (fun k_ hk => ⟨Kd.freshB (bu_ BK232) k_ hk, Kd.freshB (bu_ BK238) k_ hk⟩)); (case aO => exact (ku_ HO255.out)); (case aS => exact (below_size (be_ HB))); (case aL => have := LMc50.out; omega); intro v257 w67 ho hb hg hat; rw [← Ny256.out] at ho; have n0_ := Aside0.mk (blk_grown (bu_ BK232) hg (Kd.R_away HO255.out (fun _ hk => hk.1))); have n1_ := Aside0.mk (blk_grown (bu_ BK237) hg (Kd.R_ne HO255.out BK237.out (by decide))); have n2_ := Aside0.mk (blk_grown (bu_ BK238) hg (Kd.R_away HO255.out (fun _ hk => hk.2))); have n3_ := Aside0.mk (hb); have n4_ := Aside0.mk (ho); clear BK232; clear BK237; clear BK238; clear HB; clear HO255; have BK232 := n0_; have BK237 := n1_; have BK238 := n2_; have HB := n3_; have HO258 := n4_; clear n0_ n1_ n2_ n3_ n4_; clear ho hb hg hat))
                 go_roundg k2
                 case measure => have := HJ3.out; have := HK2.out; omega
                 case rel => exact ⟨(y256), (wrap64 (x24_2 + 1)), (x233000_2), (x233001_2), (x233002_2), ra_, H', ⟨by have := HJ3.out; have := HK2.out; omega⟩, mR_ (Kd.R_mono HO258.out (fun _ hk => hk.1)), bu2_ BK232, be2_ HB⟩
                ·rw [if_neg c50] at H
                 exact absurd H (by simp)
               ·rw [if_neg c49] at H
                obtain ⟨c49b0, c49b1⟩ := neB_ c49
                simp only [Option.some.injEq, Prod.mk.injEq] at H
                obtain ⟨rfl, rfl, rfl, rfl⟩ := H
                have p236 : 0 ≤ (x24_2 : Int) := dt_
                have q236 : x24_2 < (l0.length : Int) := dt_
                obtain ⟨ad236, e236, hx236_0, hx236_1, hx236_2, hx236_3, hx236_4⟩ := at_T67 HR0.out x24_2 p236 q236
                cases e236
                replace hx236_0 := cm_ HB hx236_0
                replace hx236_1 := cm_ HB hx236_1
                replace hx236_2 := cm_ HB hx236_2
                replace hx236_3 := cm_ HB hx236_3
                replace hx236_4 := cm_ HB hx236_4
                replace p236 := eq_true p236
                replace q236 := eq_true q236
                try go_wp2_with (first | ((with_reducible refine gate_dst (N := 9) rfl ?_); refine box_event ?hg (N := 9) ?hd (cs := #[.int .i64 0, .string (⟨#[]⟩ : ByteArray), .int .i64 0, .int .i64 0, .string (⟨#[]⟩ : ByteArray)]) (t := 67) ?hr ?_; (case hd => rfl); (case hg => rfl); (case hr => first | (go_simp; done) | (go_simp; rfl)); intro gb237 hg w68 hbox hb; replace HO_7 := kb_ (ku_ HO_7.out) hb; have BK237 := Aside0.mk (hbox); have GW237 := gs_ hg (be_ HB); have GE237 := gs_ hg (be_ HB); replace HB := bs_ (be_ HB) hb; have NB232_237 := nl_ hg (bu_ BK232); have NB237_232 := ng_ hg (bu_ BK232); replace BK232 := bb_ (bu_ BK232) hb; clear hb hbox hg; have hnb69 := NB237_232.out; have hnc69 := NB232_237.out; have hcz70_0 : w68.cell? ⟨gb237, 0, none⟩ = some (.int .i64 0) := (blk_cell BK237.out 0).trans rfl; have hcz70_1 : w68.cell? ⟨gb237, 1, none⟩ = some (.string (⟨#[]⟩ : ByteArray)) := (blk_cell BK237.out 1).trans rfl; have hcz70_2 : w68.cell? ⟨gb237, 2, none⟩ = some (.int .i64 0) := (blk_cell BK237.out 2).trans rfl; have hcz70_3 : w68.cell? ⟨gb237, 3, none⟩ = some (.int .i64 0) := (blk_cell BK237.out 3).trans rfl; have hcz70_4 : w68.cell? ⟨gb237, 4, none⟩ = some (.string (⟨#[]⟩ : ByteArray)) := (blk_cell BK237.out 4).trans rfl; have hfz70_0 := blk_frozen BK237.out 0; have hfz70_1 := blk_frozen BK237.out 1; have hfz70_2 := blk_frozen BK237.out 2; have hfz70_3 := blk_frozen BK237.out 3; have hfz70_4 := blk_frozen BK237.out 4) | ((with_reducible refine gate_dst (N := 10) rfl ?_); refine box_event ?hg (N := 10) ?hd (cs := #[.int .i64 0, .int .i64 0, .string (⟨#[]⟩ : ByteArray)]) (t := 23) ?hr ?_; (case hd => rfl); (case hg => rfl); (case hr => first | (go_simp; done) | (go_simp; rfl)); intro gb238 hg w71 hbox hb; replace HO_7 := Aside0.mk (Kd.R_below (Kd.R_elderB (ku_ (Kd.R_mono (Kd.R_far (p := ⟨gb237, 4, none⟩) (Kd.R_far (p := ⟨gb237, 3, none⟩) (Kd.R_far (p := ⟨gb237, 2, none⟩) (Kd.R_far (p := ⟨gb237, 1, none⟩) (Kd.R_far (p := ⟨gb237, 0, none⟩) (Kd.R_types HO_7.out BK237.out (by decide)) (fun _ hk => hk.2) (.int .i64 ((rd_T67 l0 x24_2).f0))) (fun _ hk => hk.2) (.string ((rd_T67 l0 x24_2).f1))) (fun _ hk => hk.2) (.int .i64 ((rd_T67 l0 x24_2).f2.f0))) (fun _ hk => hk.2) (.int .i64 ((rd_T67 l0 x24_2).f2.f1))) (fun _ hk => hk.2) (.string ((rd_T67 l0 x24_2).f2.f2))) (fun _ h_ => h_.1))) gb238 (Nat.le_of_eq hg.symm)) hb); have BK238 := Aside0.mk (hbox); have GW238 := gs_ hg (be_ HB); have GE238 := gs_ hg (be_ HB); replace HB := bs_ (be_ HB) hb; have NB232_238 := nl_ hg (bu_ BK232); have NB238_232 := ng_ hg (bu_ BK232); replace BK232 := bb_ (bu_ BK232) hb; have NB237_238 := Aside0.mk ((by rw [hg]; exact Nat.ne_of_lt (blk_lt (o := .cells #[.int .i64 ((rd_T67 l0 x24_2).f0), .string ((rd_T67 l0 x24_2).f1), .int .i64 ((rd_T67 l0 x24_2).f2.f0), .int .i64 ((rd_T67 l0 x24_2).f2.f1), .string ((rd_T67 l0 x24_2).f2.f2)] 67 (0, 0)) (bp_ BK237)) : gb237 ≠ gb238)); have NB238_237 := Aside0.mk ((by rw [hg]; exact Nat.ne_of_gt (blk_lt (o := .cells #[.int .i64 ((rd_T67 l0 x24_2).f0), .string ((rd_T67 l0 x24_2).f1), .int .i64 ((rd_T67 l0 x24_2).f2.f0), .int .i64 ((rd_T67 l0 x24_2).f2.f1), .string ((rd_T67 l0 x24_2).f2.f2)] 67 (0, 0)) (bp_ BK237)) : gb238 ≠ gb237)); replace BK237 := Aside0.mk (blk_below (o := .cells #[.int .i64 ((rd_T67 l0 x24_2).f0), .string ((rd_T67 l0 x24_2).f1), .int .i64 ((rd_T67 l0 x24_2).f2.f0), .int .i64 ((rd_T67 l0 x24_2).f2.f1), .string ((rd_T67 l0 x24_2).f2.f2)] 67 (0, 0)) (bp_ BK237) hb); clear hb hbox hg; have hnb72 := NB237_238.out; have hnc72 := NB238_237.out; have hcz73_0 : w71.cell? ⟨gb237, 0, none⟩ = some (.int .i64 ((rd_T67 l0 x24_2).f0)) := (blk_cell BK237.out 0).trans rfl; have hcz73_1 : w71.cell? ⟨gb237, 1, none⟩ = some (.string ((rd_T67 l0 x24_2).f1)) := (blk_cell BK237.out 1).trans rfl; have hcz73_2 : w71.cell? ⟨gb237, 2, none⟩ = some (.int .i64 ((rd_T67 l0 x24_2).f2.f0)) := (blk_cell BK237.out 2).trans rfl; have hcz73_3 : w71.cell? ⟨gb237, 3, none⟩ = some (.int .i64 ((rd_T67 l0 x24_2).f2.f1)) := (blk_cell BK237.out 3).trans rfl; have hcz73_4 : w71.cell? ⟨gb237, 4, none⟩ = some (.string ((rd_T67 l0 x24_2).f2.f2)) := (blk_cell BK237.out 4).trans rfl; have hfz73_0 := blk_frozen BK237.out 0; have hfz73_1 := blk_frozen BK237.out 1; have hfz73_2 := blk_frozen BK237.out 2; have hfz73_3 := blk_frozen BK237.out 3; have hfz73_4 := blk_frozen BK237.out 4) | ((with_reducible refine gate_callee (f := 38) rfl ?_); refine goesL_ (some 30) rfl rfl Try.func38 (by kernel_rfl) rfl #[.int .i64 ((rd_T67 l0 x24_2).f0)] rfl ga_ ?_; (with_reducible refine (expr_pushes.calls ((rd_T67 l0 x24_2).f0) false _ A14.out).mono ?_); rintro e w' ⟨rfl, ⟨nd, rfl⟩⟩; refine ⟨_, rfl, ?_⟩; (try (rw [drewN_self w71]; generalize hq_ : World.drewN w71 _ = w71; have n0_ : Aside0 (Kd.R k23 23 w71 w.heap.size (fun k_ => k_ ≠ gb232 ∧ k_ ≠ gb238) u7 x7_2) := ⟨by rw [← hq_]; exact (ku_ HO_7.out)⟩; have n1_ : Aside0 (w71.heap[gb232]? = some (.cells #[.int .i64 x233000_2, .int .i64 x233001_2, .string x233002_2] 23 (0, 0))) := ⟨by rw [← hq_]; exact (bu_ BK232)⟩; have n2_ : Aside0 (w71.heap[gb237]? = some (.cells #[.int .i64 ((rd_T67 l0 x24_2).f0), .string ((rd_T67 l0 x24_2).f1), .int .i64 ((rd_T67 l0 x24_2).f2.f0), .int .i64 ((rd_T67 l0 x24_2).f2.f1), .string ((rd_T67 l0 x24_2).f2.f2)] 67 (0, 0))) := ⟨by rw [← hq_]; exact (bu_ BK237)⟩; have n3_ : Aside0 (w71.heap[gb238]? = some (.cells #[.int .i64 0, .int .i64 0, .string (⟨#[]⟩ : ByteArray)] 23 (0, 0))) := ⟨by rw [← hq_]; exact (bu_ BK238)⟩; have n4_ : Aside0 (Below w.heap.size w w71) := ⟨by rw [← hq_]; exact (be_ HB)⟩; clear HO_7 BK232 BK237 BK238 HB hq_; have HO_7 := n0_; have BK232 := n1_; have BK237 := n2_; have BK238 := n3_; have HB := n4_; clear n0_ n1_ n2_ n3_ n4_)); (try clear hcz70_0 hcz70_1 hcz70_2 hcz70_3 hcz70_4 hfz70_0 hfz70_1 hfz70_2 hfz70_3 hfz70_4 hcz73_0 hcz73_1 hcz73_2 hcz73_3 hcz73_4 hfz73_0 hfz73_1 hfz73_2 hfz73_3 hfz73_4); obtain ⟨Ao74, co74, eo74⟩ := Kd.R_slice HO_7.out; subst eo74))
                have n0_ := Aside0.mk (Kd.R_drew HO_7.out)
                have n1_ := Aside0.mk (blk_drew BK232.out)
                have n2_ := Aside0.mk (blk_drew BK237.out)
                have n3_ := Aside0.mk (blk_drew BK238.out)
                have n4_ := Aside0.mk (below_drew1 HB.out)
                clear HO_7
                clear BK232
                clear BK237
                clear BK238
                clear HB
                have HO_7 := n0_
                have BK232 := n1_
                have BK237 := n2_
                have BK238 := n3_
                have HB := n4_
                clear n0_ n1_ n2_ n3_ n4_
                have p247 : 0 ≤ ((ji41) : Int) := dt_
                have q247 : (ji41) < (x7_2.length : Int) := dt_
                obtain ⟨ad247, e247, hx247_0, hx247_1, hx247_2⟩ := at_T23 (Kd.R_reads' HO_7.out).2.2 (ji41) p247 q247
                cases e247
                replace p247 := eq_true p247
                replace q247 := eq_true q247
                have p248 : 0 ≤ ((ji44) : Int) := dt_
                have q248 : (ji44) < (x7_2.length : Int) := dt_
                obtain ⟨ad248, e248, hx248_0, hx248_1, hx248_2⟩ := at_T23 (Kd.R_reads' HO_7.out).2.2 (ji44) p248 q248
                obtain rfl : ad247 = ad248 := (by injection e248)
                replace p248 := eq_true p248
                replace q248 := eq_true q248
                refine start_ (n := 17) (S := fun w' => w'.cell? ⟨gb237, 0, none⟩ = some (.int .i64 ((rd_T67 l0 x24_2).f0)) ∧ w'.cell? ⟨gb237, 1, none⟩ = some (.string ((rd_T67 l0 x24_2).f1)) ∧ w'.cell? ⟨gb237, 2, none⟩ = some (.int .i64 ((rd_T67 l0 x24_2).f2.f0)) ∧ w'.cell? ⟨gb237, 3, none⟩ = some (.int .i64 ((rd_T67 l0 x24_2).f2.f1)) ∧ w'.cell? ⟨gb237, 4, none⟩ = some (.string ((rd_T67 l0 x24_2).f2.f2)) ∧ w'.cell? (ad247.add (((ji41)).toNat * 3)) = some (.int .i64 ((rd_T23 x7_2 (ji41)).f0)) ∧ w'.cell? ⟨(ad247.add (((ji41)).toNat * 3)).block, (ad247.add (((ji41)).toNat * 3)).off + 1, none⟩ = some (.int .i64 ((rd_T23 x7_2 (ji41)).f1)) ∧ w'.cell? ⟨(ad247.add (((ji41)).toNat * 3)).block, (ad247.add (((ji41)).toNat * 3)).off + 2, none⟩ = some (.string ((rd_T23 x7_2 (ji41)).f2)) ∧ w'.cell? (ad247.add (((ji44)).toNat * 3)) = some (.int .i64 ((rd_T23 x7_2 (ji44)).f0)) ∧ w'.cell? ⟨(ad247.add (((ji44)).toNat * 3)).block, (ad247.add (((ji44)).toNat * 3)).off + 1, none⟩ = some (.int .i64 ((rd_T23 x7_2 (ji44)).f1)) ∧ w'.cell? ⟨(ad247.add (((ji44)).toNat * 3)).block, (ad247.add (((ji44)).toNat * 3)).off + 2, none⟩ = some (.string ((rd_T23 x7_2 (ji44)).f2))) (ds := []) (mk_ 17 0) (by kernel_rfl) rfl rfl ⟨(blk_cell BK237.out 0).trans rfl, (blk_cell BK237.out 1).trans rfl, (blk_cell BK237.out 2).trans rfl, (blk_cell BK237.out 3).trans rfl, (blk_cell BK237.out 4).trans rfl, hx247_0, hx247_1, hx247_2, hx248_0, hx248_1, hx248_2⟩ (fun hHeld => ?_); refine with_tabW expr_Eval.tab14 expr_Eval.bits14 (fun HT_ HW_ => ?_)
                generalize w71.drew = w75 at HO_7 BK232 BK237 BK238 HB hx247_0 hx247_1 hx247_2 hx248_0 hx248_1 hx248_2 hHeld ⊢
                refine pu_ 0 41 1 HT_ ?_; refine pu_ 2 43 5 HT_ ?_; refine pu_ 3 44 13 HT_ ?_; refine pu_ 4 45 29 HT_ ?_; refine pu_ 6 47 93 HT_ ?_; refine pu_ 7 48 221 HT_ ?_; refine pu_ 8 49 477 HT_ ?_; refine pu_ 9 50 989 HT_ ?_; refine tk_ 1 42 991 HT_ HW_ hHeld ?_; refine tk_ 5 46 1023 HT_ HW_ hHeld ?_; refine tk_ 10 51 2047 HT_ HW_ hHeld ?_
                refine one_ (i := 11) (N := some 52) (mk_ 17 4095) rfl rfl (one_of HT_.out (by kernel_rfl)) (by decide) (fun K hK => ?_)
                refine goes_ Try.func40 (by kernel_rfl) rfl #[.int .i64 ((rd_T67 l0 x24_2).f0), .agg #[.int .i64 ((rd_T23 x7_2 (ji41)).f0), .int .i64 ((rd_T23 x7_2 (ji41)).f1), .string ((rd_T23 x7_2 (ji41)).f2)], .agg #[.int .i64 ((rd_T23 x7_2 (ji44)).f0), .int .i64 ((rd_T23 x7_2 (ji44)).f1), .string ((rd_T23 x7_2 (ji44)).f2)]] (by rfl) rfl rfl (by (try simp only [List.map_toArray, List.map_cons, List.map_nil]); first | done | (simp only [hji41, hji44]; rfl) | rfl | (simp only [List.length_drop, List.length_take]; rfl)) ?_
                with_reducible refine (expr_reckon.calls k2 ((rd_T67 l0 x24_2).f0) ((rd_T23 x7_2 (ji41)).f0) ((rd_T23 x7_2 (ji41)).f1) ((rd_T23 x7_2 (ji41)).f2) ((rd_T23 x7_2 (ji44)).f0) ((rd_T23 x7_2 (ji44)).f1) ((rd_T23 x7_2 (ji44)).f2) t249 t250 t251 t252 _ A47.out).mono ?_
                rintro e w76 ⟨rfl, hb⟩
                have HS5_ := (hb.cell (World.block_lt_of_cell? _ _ (hHeld.2.2.2.2.2.1))).trans (hHeld.2.2.2.2.2.1)
                have HS6_ := (hb.cell (World.block_lt_of_cell? _ _ (hHeld.2.2.2.2.2.2.1))).trans (hHeld.2.2.2.2.2.2.1)
                have HS7_ := (hb.cell (World.block_lt_of_cell? _ _ (hHeld.2.2.2.2.2.2.2.1))).trans (hHeld.2.2.2.2.2.2.2.1)
                have HS8_ := (hb.cell (World.block_lt_of_cell? _ _ (hHeld.2.2.2.2.2.2.2.2.1))).trans (hHeld.2.2.2.2.2.2.2.2.1)
                have HS9_ := (hb.cell (World.block_lt_of_cell? _ _ (hHeld.2.2.2.2.2.2.2.2.2.1))).trans (hHeld.2.2.2.2.2.2.2.2.2.1)
                have HS10_ := (hb.cell (World.block_lt_of_cell? _ _ (hHeld.2.2.2.2.2.2.2.2.2.2))).trans (hHeld.2.2.2.2.2.2.2.2.2.2)
                refine ⟨_, rfl, ?_⟩
                have n0_ := kb_ (ku_ HO_7.out) hb
                have n1_ := bb_ (bu_ BK232) hb
                have n2_ := bb_ (bu_ BK237) hb
                have n3_ := bb_ (bu_ BK238) hb
                have n4_ := bs_ (be_ HB) hb
                clear HO_7
                clear BK232
                clear BK237
                clear BK238
                clear HB
                have HO_7 := n0_
                have BK232 := n1_
                have BK237 := n2_
                have BK238 := n3_
                have HB := n4_
                clear n0_ n1_ n2_ n3_ n4_
                (try clear hb)
                (try clear hb2)
                (try clear hk)
                (try clear hi)
                refine hK.out _ _ ⟨(blk_cell BK237.out 0).trans rfl, (blk_cell BK237.out 1).trans rfl, (blk_cell BK237.out 2).trans rfl, (blk_cell BK237.out 3).trans rfl, (blk_cell BK237.out 4).trans rfl, HS5_, HS6_, HS7_, HS8_, HS9_, HS10_⟩ (fun hHeld => ?_)
                clear hK K
                refine nm_ 52 ?_; refine pu_ 12 40 8191 HT_ ?_; refine pu_ 13 53 16383 HT_ ?_; refine pu_ 14 54 32767 HT_ ?_
                refine one_ (i := 15) (N := none) (mk_ 17 65535) rfl rfl (one_of HT_.out (by kernel_rfl)) (by decide) (fun K hK => ?_)
                have hs77 : w76.cell? ⟨gb238, 0, none⟩ = some (.int .i64 0) := (blk_cell BK238.out 0).trans rfl
                have hfs77 := blk_frozen BK238.out 0
                have hns77_0 := NB232_238.out
                have hns77_1 := NB237_238.out
                have hms77_0 := NB238_232.out
                have hms77_1 := NB238_237.out
                have hs78 : w76.cell? ⟨gb238, 1, none⟩ = some (.int .i64 0) := (blk_cell BK238.out 1).trans rfl
                have hfs78 := blk_frozen BK238.out 1
                have hns78_0 := NB232_238.out
                have hns78_1 := NB237_238.out
                have hms78_0 := NB238_232.out
                have hms78_1 := NB238_237.out
                have hs79 : w76.cell? ⟨gb238, 2, none⟩ = some (.string (⟨#[]⟩ : ByteArray)) := (blk_cell BK238.out 2).trans rfl
                have hfs79 := blk_frozen BK238.out 2
                have hns79_0 := NB232_238.out
                have hns79_1 := NB237_238.out
                have hms79_0 := NB238_232.out
                have hms79_1 := NB238_237.out
                refine skip_ (w1 := ?_) (by rfl) rfl ?_ ?_
                rotate_left
                ·go_simp
                 rfl
                refine hK.out _ _ ⟨((cell_far (p := ⟨gb238, _, none⟩) NB237_238.out _).trans (((cell_far (p := ⟨gb238, _, none⟩) NB237_238.out _).trans (((cell_far (p := ⟨gb238, _, none⟩) NB237_238.out _).trans (hHeld.1)))))), ((cell_far (p := ⟨gb238, _, none⟩) NB237_238.out _).trans (((cell_far (p := ⟨gb238, _, none⟩) NB237_238.out _).trans (((cell_far (p := ⟨gb238, _, none⟩) NB237_238.out _).trans (hHeld.2.1)))))), ((cell_far (p := ⟨gb238, _, none⟩) NB237_238.out _).trans (((cell_far (p := ⟨gb238, _, none⟩) NB237_238.out _).trans (((cell_far (p := ⟨gb238, _, none⟩) NB237_238.out _).trans (hHeld.2.2.1)))))), ((cell_far (p := ⟨gb238, _, none⟩) NB237_238.out _).trans (((cell_far (p := ⟨gb238, _, none⟩) NB237_238.out _).trans (((cell_far (p := ⟨gb238, _, none⟩) NB237_238.out _).trans (hHeld.2.2.2.1)))))), ((cell_far (p := ⟨gb238, _, none⟩) NB237_238.out _).trans (((cell_far (p := ⟨gb238, _, none⟩) NB237_238.out _).trans (((cell_far (p := ⟨gb238, _, none⟩) NB237_238.out _).trans (hHeld.2.2.2.2.1)))))), ((cell_far (p := ⟨gb238, _, none⟩) (by first | exact Kd.own_blk (Kd.R_away HO_7.out (fun _ hk => hk.2)) | (rw [add_block]; exact Kd.own_blk (Kd.R_away HO_7.out (fun _ hk => hk.2))) | (show (Addr.add _ _).block ≠ _; rw [add_block]; exact Kd.own_blk (Kd.R_away HO_7.out (fun _ hk => hk.2))) | (dsimp only; exact Kd.own_blk (Kd.R_away HO_7.out (fun _ hk => hk.2)))) _).trans (((cell_far (p := ⟨gb238, _, none⟩) (by first | exact Kd.own_blk (Kd.R_away HO_7.out (fun _ hk => hk.2)) | (rw [add_block]; exact Kd.own_blk (Kd.R_away HO_7.out (fun _ hk => hk.2))) | (show (Addr.add _ _).block ≠ _; rw [add_block]; exact Kd.own_blk (Kd.R_away HO_7.out (fun _ hk => hk.2))) | (dsimp only; exact Kd.own_blk (Kd.R_away HO_7.out (fun _ hk => hk.2)))) _).trans (((cell_far (p := ⟨gb238, _, none⟩) (by first | exact Kd.own_blk (Kd.R_away HO_7.out (fun _ hk => hk.2)) | (rw [add_block]; exact Kd.own_blk (Kd.R_away HO_7.out (fun _ hk => hk.2))) | (show (Addr.add _ _).block ≠ _; rw [add_block]; exact Kd.own_blk (Kd.R_away HO_7.out (fun _ hk => hk.2))) | (dsimp only; exact Kd.own_blk (Kd.R_away HO_7.out (fun _ hk => hk.2)))) _).trans (hHeld.2.2.2.2.2.1)))))), ((cell_far (p := ⟨gb238, _, none⟩) (by first | exact Kd.own_blk (Kd.R_away HO_7.out (fun _ hk => hk.2)) | (rw [add_block]; exact Kd.own_blk (Kd.R_away HO_7.out (fun _ hk => hk.2))) | (show (Addr.add _ _).block ≠ _; rw [add_block]; exact Kd.own_blk (Kd.R_away HO_7.out (fun _ hk => hk.2))) | (dsimp only; exact Kd.own_blk (Kd.R_away HO_7.out (fun _ hk => hk.2)))) _).trans (((cell_far (p := ⟨gb238, _, none⟩) (by first | exact Kd.own_blk (Kd.R_away HO_7.out (fun _ hk => hk.2)) | (rw [add_block]; exact Kd.own_blk (Kd.R_away HO_7.out (fun _ hk => hk.2))) | (show (Addr.add _ _).block ≠ _; rw [add_block]; exact Kd.own_blk (Kd.R_away HO_7.out (fun _ hk => hk.2))) | (dsimp only; exact Kd.own_blk (Kd.R_away HO_7.out (fun _ hk => hk.2)))) _).trans (((cell_far (p := ⟨gb238, _, none⟩) (by first | exact Kd.own_blk (Kd.R_away HO_7.out (fun _ hk => hk.2)) | (rw [add_block]; exact Kd.own_blk (Kd.R_away HO_7.out (fun _ hk => hk.2))) | (show (Addr.add _ _).block ≠ _; rw [add_block]; exact Kd.own_blk (Kd.R_away HO_7.out (fun _ hk => hk.2))) | (dsimp only; exact Kd.own_blk (Kd.R_away HO_7.out (fun _ hk => hk.2)))) _).trans (hHeld.2.2.2.2.2.2.1)))))), ((cell_far (p := ⟨gb238, _, none⟩) (by first | exact Kd.own_blk (Kd.R_away HO_7.out (fun _ hk => hk.2)) | (rw [add_block]; exact Kd.own_blk (Kd.R_away HO_7.out (fun _ hk => hk.2))) | (show (Addr.add _ _).block ≠ _; rw [add_block]; exact Kd.own_blk (Kd.R_away HO_7.out (fun _ hk => hk.2))) | (dsimp only; exact Kd.own_blk (Kd.R_away HO_7.out (fun _ hk => hk.2)))) _).trans (((cell_far (p := ⟨gb238, _, none⟩) (by first | exact Kd.own_blk (Kd.R_away HO_7.out (fun _ hk => hk.2)) | (rw [add_block]; exact Kd.own_blk (Kd.R_away HO_7.out (fun _ hk => hk.2))) | (show (Addr.add _ _).block ≠ _; rw [add_block]; exact Kd.own_blk (Kd.R_away HO_7.out (fun _ hk => hk.2))) | (dsimp only; exact Kd.own_blk (Kd.R_away HO_7.out (fun _ hk => hk.2)))) _).trans (((cell_far (p := ⟨gb238, _, none⟩) (by first | exact Kd.own_blk (Kd.R_away HO_7.out (fun _ hk => hk.2)) | (rw [add_block]; exact Kd.own_blk (Kd.R_away HO_7.out (fun _ hk => hk.2))) | (show (Addr.add _ _).block ≠ _; rw [add_block]; exact Kd.own_blk (Kd.R_away HO_7.out (fun _ hk => hk.2))) | (dsimp only; exact Kd.own_blk (Kd.R_away HO_7.out (fun _ hk => hk.2)))) _).trans (hHeld.2.2.2.2.2.2.2.1)))))), ((cell_far (p := ⟨gb238, _, none⟩) (by first | exact Kd.own_blk (Kd.R_away HO_7.out (fun _ hk => hk.2)) | (rw [add_block]; exact Kd.own_blk (Kd.R_away HO_7.out (fun _ hk => hk.2))) | (show (Addr.add _ _).block ≠ _; rw [add_block]; exact Kd.own_blk (Kd.R_away HO_7.out (fun _ hk => hk.2))) | (dsimp only; exact Kd.own_blk (Kd.R_away HO_7.out (fun _ hk => hk.2)))) _).trans (((cell_far (p := ⟨gb238, _, none⟩) (by first | exact Kd.own_blk (Kd.R_away HO_7.out (fun _ hk => hk.2)) | (rw [add_block]; exact Kd.own_blk (Kd.R_away HO_7.out (fun _ hk => hk.2))) | (show (Addr.add _ _).block ≠ _; rw [add_block]; exact Kd.own_blk (Kd.R_away HO_7.out (fun _ hk => hk.2))) | (dsimp only; exact Kd.own_blk (Kd.R_away HO_7.out (fun _ hk => hk.2)))) _).trans (((cell_far (p := ⟨gb238, _, none⟩) (by first | exact Kd.own_blk (Kd.R_away HO_7.out (fun _ hk => hk.2)) | (rw [add_block]; exact Kd.own_blk (Kd.R_away HO_7.out (fun _ hk => hk.2))) | (show (Addr.add _ _).block ≠ _; rw [add_block]; exact Kd.own_blk (Kd.R_away HO_7.out (fun _ hk => hk.2))) | (dsimp only; exact Kd.own_blk (Kd.R_away HO_7.out (fun _ hk => hk.2)))) _).trans (hHeld.2.2.2.2.2.2.2.2.1)))))), ((cell_far (p := ⟨gb238, _, none⟩) (by first | exact Kd.own_blk (Kd.R_away HO_7.out (fun _ hk => hk.2)) | (rw [add_block]; exact Kd.own_blk (Kd.R_away HO_7.out (fun _ hk => hk.2))) | (show (Addr.add _ _).block ≠ _; rw [add_block]; exact Kd.own_blk (Kd.R_away HO_7.out (fun _ hk => hk.2))) | (dsimp only; exact Kd.own_blk (Kd.R_away HO_7.out (fun _ hk => hk.2)))) _).trans (((cell_far (p := ⟨gb238, _, none⟩) (by first | exact Kd.own_blk (Kd.R_away HO_7.out (fun _ hk => hk.2)) | (rw [add_block]; exact Kd.own_blk (Kd.R_away HO_7.out (fun _ hk => hk.2))) | (show (Addr.add _ _).block ≠ _; rw [add_block]; exact Kd.own_blk (Kd.R_away HO_7.out (fun _ hk => hk.2))) | (dsimp only; exact Kd.own_blk (Kd.R_away HO_7.out (fun _ hk => hk.2)))) _).trans (((cell_far (p := ⟨gb238, _, none⟩) (by first | exact Kd.own_blk (Kd.R_away HO_7.out (fun _ hk => hk.2)) | (rw [add_block]; exact Kd.own_blk (Kd.R_away HO_7.out (fun _ hk => hk.2))) | (show (Addr.add _ _).block ≠ _; rw [add_block]; exact Kd.own_blk (Kd.R_away HO_7.out (fun _ hk => hk.2))) | (dsimp only; exact Kd.own_blk (Kd.R_away HO_7.out (fun _ hk => hk.2)))) _).trans (hHeld.2.2.2.2.2.2.2.2.2.1)))))), ((cell_far (p := ⟨gb238, _, none⟩) (by first | exact Kd.own_blk (Kd.R_away HO_7.out (fun _ hk => hk.2)) | (rw [add_block]; exact Kd.own_blk (Kd.R_away HO_7.out (fun _ hk => hk.2))) | (show (Addr.add _ _).block ≠ _; rw [add_block]; exact Kd.own_blk (Kd.R_away HO_7.out (fun _ hk => hk.2))) | (dsimp only; exact Kd.own_blk (Kd.R_away HO_7.out (fun _ hk => hk.2)))) _).trans (((cell_far (p := ⟨gb238, _, none⟩) (by first | exact Kd.own_blk (Kd.R_away HO_7.out (fun _ hk => hk.2)) | (rw [add_block]; exact Kd.own_blk (Kd.R_away HO_7.out (fun _ hk => hk.2))) | (show (Addr.add _ _).block ≠ _; rw [add_block]; exact Kd.own_blk (Kd.R_away HO_7.out (fun _ hk => hk.2))) | (dsimp only; exact Kd.own_blk (Kd.R_away HO_7.out (fun _ hk => hk.2)))) _).trans (((cell_far (p := ⟨gb238, _, none⟩) (by first | exact Kd.own_blk (Kd.R_away HO_7.out (fun _ hk => hk.2)) | (rw [add_block]; exact Kd.own_blk (Kd.R_away HO_7.out (fun _ hk => hk.2))) | (show (Addr.add _ _).block ≠ _; rw [add_block]; exact Kd.own_blk (Kd.R_away HO_7.out (fun _ hk => hk.2))) | (dsimp only; exact Kd.own_blk (Kd.R_away HO_7.out (fun _ hk => hk.2)))) _).trans (hHeld.2.2.2.2.2.2.2.2.2.2))))))⟩ (fun hHeld => ?_)
                clear hK K
                refine pu_ 16 6 131071 HT_ ?_
                refine done_ (done_of HT_.out (by kernel_rfl)) ?_
                have n0_ : Aside0 (Kd.R k23 23 (((w76.setCell ⟨gb238, 0, none⟩ (.int .i64 t249)).setCell ⟨gb238, 1, none⟩ (.int .i64 t250)).setCell ⟨gb238, 2, none⟩ (.string t251)) w.heap.size (fun k_ => k_ ≠ gb232 ∧ k_ ≠ gb238) (.slice (some ad247) x7_2.length co74) x7_2) := mR_ (Kd.R_mono (Kd.R_far (p := ⟨gb238, 2, none⟩) (Kd.R_far (p := ⟨gb238, 1, none⟩) (Kd.R_far (p := ⟨gb238, 0, none⟩) (Kd.R_mono HO_7.out (fun k_ hk => (⟨hk, hk.2⟩ : _ ∧ k_ ≠ gb238))) (fun _ hk => hk.2) (.int .i64 t249)) (fun _ hk => hk.2) (.int .i64 t250)) (fun _ hk => hk.2) (.string t251)) (fun _ hk => ⟨hk.1.1, hk.1.2⟩))
                have n1_ : Aside0 ((((w76.setCell ⟨gb238, 0, none⟩ (.int .i64 t249)).setCell ⟨gb238, 1, none⟩ (.int .i64 t250)).setCell ⟨gb238, 2, none⟩ (.string t251)).heap[gb232]? = some (.cells #[.int .i64 x233000_2, .int .i64 x233001_2, .string x233002_2] 23 (0, 0))) := ⟨by (with_reducible repeat (first | refine blk_drewN ?_ _ | refine blk_drew ?_ | refine blk_alloc ?_ _)); refine blk_far ?_ NB232_238.out _; (with_reducible repeat (first | refine blk_drewN ?_ _ | refine blk_drew ?_ | refine blk_alloc ?_ _)); refine blk_far ?_ NB232_238.out _; (with_reducible repeat (first | refine blk_drewN ?_ _ | refine blk_drew ?_ | refine blk_alloc ?_ _)); refine blk_far ?_ NB232_238.out _; (with_reducible repeat (first | refine blk_drewN ?_ _ | refine blk_drew ?_ | refine blk_alloc ?_ _)); exact BK232.out⟩
                have n2_ : Aside0 ((((w76.setCell ⟨gb238, 0, none⟩ (.int .i64 t249)).setCell ⟨gb238, 1, none⟩ (.int .i64 t250)).setCell ⟨gb238, 2, none⟩ (.string t251)).heap[gb237]? = some (.cells #[.int .i64 ((rd_T67 l0 x24_2).f0), .string ((rd_T67 l0 x24_2).f1), .int .i64 ((rd_T67 l0 x24_2).f2.f0), .int .i64 ((rd_T67 l0 x24_2).f2.f1), .string ((rd_T67 l0 x24_2).f2.f2)] 67 (0, 0))) := ⟨by (with_reducible repeat (first | refine blk_drewN ?_ _ | refine blk_drew ?_ | refine blk_alloc ?_ _)); refine blk_far ?_ NB237_238.out _; (with_reducible repeat (first | refine blk_drewN ?_ _ | refine blk_drew ?_ | refine blk_alloc ?_ _)); refine blk_far ?_ NB237_238.out _; (with_reducible repeat (first | refine blk_drewN ?_ _ | refine blk_drew ?_ | refine blk_alloc ?_ _)); refine blk_far ?_ NB237_238.out _; (with_reducible repeat (first | refine blk_drewN ?_ _ | refine blk_drew ?_ | refine blk_alloc ?_ _)); exact BK237.out⟩
                have n3_ : Aside0 ((((w76.setCell ⟨gb238, 0, none⟩ (.int .i64 t249)).setCell ⟨gb238, 1, none⟩ (.int .i64 t250)).setCell ⟨gb238, 2, none⟩ (.string t251)).heap[gb238]? = some (.cells #[.int .i64 t249, .int .i64 t250, .string t251] 23 (0, 0))) := ⟨by (with_reducible repeat (first | refine blk_drewN ?_ _ | refine blk_drew ?_ | refine blk_alloc ?_ _)); refine blk_put (cs := #[.int .i64 t249, .int .i64 t250, .string (⟨#[]⟩ : ByteArray)]) ?_ 2 _ rfl; (with_reducible repeat (first | refine blk_drewN ?_ _ | refine blk_drew ?_ | refine blk_alloc ?_ _)); refine blk_put (cs := #[.int .i64 t249, .int .i64 0, .string (⟨#[]⟩ : ByteArray)]) ?_ 1 _ rfl; (with_reducible repeat (first | refine blk_drewN ?_ _ | refine blk_drew ?_ | refine blk_alloc ?_ _)); refine blk_put (cs := #[.int .i64 0, .int .i64 0, .string (⟨#[]⟩ : ByteArray)]) ?_ 0 _ rfl; (with_reducible repeat (first | refine blk_drewN ?_ _ | refine blk_drew ?_ | refine blk_alloc ?_ _)); exact BK238.out⟩
                have n4_ : Aside0 (Below w.heap.size w (((w76.setCell ⟨gb238, 0, none⟩ (.int .i64 t249)).setCell ⟨gb238, 1, none⟩ (.int .i64 t250)).setCell ⟨gb238, 2, none⟩ (.string t251))) := be2_ HB
                (try clear HO_7)
                (try clear BK232)
                (try clear BK237)
                (try clear BK238)
                (try clear HB)
                generalize (((w76.setCell ⟨gb238, 0, none⟩ (.int .i64 t249)).setCell ⟨gb238, 1, none⟩ (.int .i64 t250)).setCell ⟨gb238, 2, none⟩ (.string t251)) = w80 at n0_ n1_ n2_ n3_ n4_ ⊢
                have HO_7 := n0_
                have BK232 := n1_
                have BK237 := n2_
                have BK238 := n3_
                have HB := n4_
                clear n0_ n1_ n2_ n3_ n4_
                have q81 : ((ji41) : Int) ≤ ((x7_2.length : Int) : Int) := dt_
                obtain ⟨i081, hi081, _, hsz81, _⟩ := info_parts info23
                have hcut81 := cut_to (P := Try.prog) 69 23 .i64 Try.underlying69 hi081 (some ad247) x7_2.length co74 (ji41) dt_ q81 (Kd.R_reads' HO_7.out).2.1
                have hr81 := Kd.R_take (m := ((ji41) : Int).toNat) HO_7.out (by omega)
                have hy81 : y253.length = ((ji41) : Int).toNat := (by rw [Ny253.out, List.length_take]; omega)
                rw [← Ny253.out] at hr81
                rw [← hy81] at hr81 hcut81
                clear hy81 hi081 hsz81 HO_7
                have HO255 := Aside0.mk hr81
                clear hr81
                replace q81 := eq_true q81
                have hnb82 := NB232_238.out
                have hnc82 := NB238_232.out
                have hcz83_0 : w80.cell? ⟨gb232, 0, none⟩ = some (.int .i64 x233000_2) := (blk_cell BK232.out 0).trans rfl
                have hcz83_1 : w80.cell? ⟨gb232, 1, none⟩ = some (.int .i64 x233001_2) := (blk_cell BK232.out 1).trans rfl
                have hcz83_2 : w80.cell? ⟨gb232, 2, none⟩ = some (.string x233002_2) := (blk_cell BK232.out 2).trans rfl
                have hfz83_0 := blk_frozen BK232.out 0
                have hfz83_1 := blk_frozen BK232.out 1
                have hfz83_2 := blk_frozen BK232.out 2
                try go_wp2
                refine bodyPost_ret (results_ct rfl _ _ gb232 23 #[.int .i64 0, .int .i64 0, .string (⟨#[]⟩ : ByteArray)] (0, 0) _ rfl (bp_ BK232) Try.underlying23 rfl (by kernel_rfl)) rfl ?_
                exact ⟨by first | rfl | (simp [errW_none, errW_some] <;> rfl) | (simp only [← hji41, ← hji44]; first | rfl | (simp [errW_none, errW_some] <;> rfl)) | (simp [*, errW_none, errW_some] <;> rfl), by repeat (first | (with_reducible first | exact HB.out | apply below_alloc | apply pw_below_drewN | apply below_drew1 | refine below_set ?_ GE232.out | refine below_set ?_ GE237.out | refine below_set ?_ GE238.out) | exact HB.out)⟩
              ·rw [if_neg c48] at H
               exact absurd H (by simp)
             ·rw [if_neg c46] at H
              exact absurd H (by simp)
            ·rw [if_neg c45] at H
             exact absurd H (by simp)
           ·rw [if_neg c43] at H
            exact absurd H (by simp)
          ·rw [if_neg c42] at H
           exact absurd H (by simp)
        ·rw [if_neg c13] at H
         exact absurd H (by simp)
       ·rw [if_neg c12] at H
        exact absurd H (by simp)
      ·rw [if_neg c11] at H
       have c11b0 : decide (x24_2 < (l0.length : Int)) = false := decide_eq_false c11
       clear c11
       by_cases c84 : 0 < (x7_2.length : Int)
       ·rw [if_pos c84] at H
        have c84b0 : decide (0 < (x7_2.length : Int)) = true := decide_eq_true c84
        have c84b1 : decide (0 < x7_2.length) = true := decide_eq_true (by omega)
        clear c84
        simp only [Option.some.injEq, Prod.mk.injEq] at H
        obtain ⟨rfl, rfl, rfl, rfl⟩ := H
        obtain ⟨Ao85, co85, eo85⟩ := Kd.R_slice HO_7.out
        subst eo85
        have p235 : 0 ≤ (0 : Int) := (by omega)
        have q235 : 0 < (x7_2.length : Int) := dt_
        obtain ⟨ad235, e235, hx235_0, hx235_1, hx235_2⟩ := at_T23 (Kd.R_reads' HO_7.out).2.2 0 p235 q235
        cases e235
        have qi235 : (0 < x7_2.length) = True := eq_true (by omega)
        (try rw [show ((0 : Int)).toNat = 0 from rfl] at hx235_0)
        (try rw [show 0 * 3 = 0 from rfl] at hx235_0)
        (try rw [Addr.add_zero'] at hx235_0)
        (try rw [show ((0 : Int)).toNat = 0 from rfl] at hx235_1)
        (try rw [show 0 * 3 = 0 from rfl] at hx235_1)
        (try rw [Addr.add_zero'] at hx235_1)
        (try rw [show ((0 : Int)).toNat = 0 from rfl] at hx235_2)
        (try rw [show 0 * 3 = 0 from rfl] at hx235_2)
        (try rw [Addr.add_zero'] at hx235_2)
        replace p235 := eq_true p235
        replace q235 := eq_true q235
        have hcz86_0 : wr.cell? ⟨gb232, 0, none⟩ = some (.int .i64 x233000_2) := (blk_cell BK232.out 0).trans rfl
        have hcz86_1 : wr.cell? ⟨gb232, 1, none⟩ = some (.int .i64 x233001_2) := (blk_cell BK232.out 1).trans rfl
        have hcz86_2 : wr.cell? ⟨gb232, 2, none⟩ = some (.string x233002_2) := (blk_cell BK232.out 2).trans rfl
        have hfz86_0 := blk_frozen BK232.out 0
        have hfz86_1 := blk_frozen BK232.out 1
        have hfz86_2 := blk_frozen BK232.out 2
        go_wp2
        refine bodyPost_ret (results_ct rfl _ _ gb232 23 #[.int .i64 ((rd_T23 x7_2 0).f0), .int .i64 ((rd_T23 x7_2 0).f1), .string ((rd_T23 x7_2 0).f2)] (0, 0) _ rfl (bp_ BK232) Try.underlying23 rfl (by kernel_rfl)) rfl ?_
        exact ⟨re_, be_ HB⟩
       ·rw [if_neg c84] at H
        exact absurd H (by simp)
   ·rw [if_neg c10] at H
    obtain ⟨c10b0, c10b1⟩ := neB_ c10
    simp only [Option.some.injEq, Prod.mk.injEq] at H
    obtain ⟨rfl, rfl, rfl, rfl⟩ := H
    have hcz87_0 : wc.cell? ⟨gb232, 0, none⟩ = some (.int .i64 0) := (blk_cell BK232.out 0).trans rfl
    have hcz87_1 : wc.cell? ⟨gb232, 1, none⟩ = some (.int .i64 0) := (blk_cell BK232.out 1).trans rfl
    have hcz87_2 : wc.cell? ⟨gb232, 2, none⟩ = some (.string (⟨#[]⟩ : ByteArray)) := (blk_cell BK232.out 2).trans rfl
    have hfz87_0 := blk_frozen BK232.out 0
    have hfz87_1 := blk_frozen BK232.out 1
    have hfz87_2 := blk_frozen BK232.out 2
    go_wp2
    refine bodyPost_ret (results_ct rfl _ _ gb232 23 #[.int .i64 0, .int .i64 0, .string (⟨#[]⟩ : ByteArray)] (0, 0) _ rfl (bp_ BK232) Try.underlying23 rfl (by kernel_rfl)) rfl ?_
    exact ⟨re_, be_ HB⟩
end Go.Proofs.Ytaopajmpifenoaa.P
end
section
namespace Go.Proofs.Ytaopajmpifenoaa.P
open Go.RowKit Go.Proofs.YtaopajmpifenoaaW.PrintWords Go.Proofs.YtaopajmpifenoaaW.PrintLast Go.Proofs.YtaopajmpifenoaaW.PrintMore
attribute [local go_sem] max2_int min2_int max_two min_two max_three min_three max_four min_four
set_option linter.unusedVariables false
set_option linter.unusedSimpArgs false
def guard_Eval.f (k : Nat) (a0_0 : Int) (a0_1 : ByteArray) (l0_2 : List (S72)) (a0_3 : Int) (l0_4 : List (S67)) (l0_5 : List (S67)) (l1 : List (S54)) : Option (Bool × Int) := (guard_Check.f k a0_0 a0_1 l0_2 a0_3 l0_4 l0_5).bind fun t260 => (if t260 = 0 then ((expr_Eval.f k l0_4 l1).bind fun bt261 => (if bt261.2.2.2 = 0 then ((expr_Eval.f k l0_5 l1).bind fun bt266 => (if bt266.2.2.2 = 0 then ((guard_Holds.f k a0_3 bt261.1 bt261.2.1 bt261.2.2.1 bt266.1 bt266.2.1 bt266.2.2.1).bind fun bt271 => (some (bt271.1, bt271.2))) else (some (false, bt266.2.2.2)))) else (some (false, bt261.2.2.2)))) else (some (false, t260)))
theorem guard_Eval.mono : ∀ a0 a1 a2 a3 a4 a5 a6 k, LeO (guard_Eval.f k a0 a1 a2 a3 a4 a5 a6) (guard_Eval.f (k + 1) a0 a1 a2 a3 a4 a5 a6) := by
 intro a0 a1 a2 a3 a4 a5 a6 k
 unfold guard_Eval.f
 repeat' first
   | (with_reducible exact expr_Eval.mono ..)
   | (with_reducible exact guard_Check.mono ..)
   | (with_reducible exact guard_Holds.mono ..)
   | (with_reducible exact LeO.refl _)
   | (with_reducible exact LeO.none _)
   | (with_reducible refine LeO.ite ?_ ?_)
   | (with_reducible refine LeO.bind ?_ (fun _ => ?_))
   | exact expr_Eval.mono ..
   | exact guard_Check.mono ..
   | exact guard_Holds.mono ..
   | exact LeO.none _
   | refine LeO.ite ?_ ?_
   | refine LeO.bind ?_ (fun _ => ?_)
set_option maxHeartbeats 8000000 in
set_option maxRecDepth 100000 in
theorem guard_Eval.calls (k : Nat) (a0_0 : Int) (a0_1 : ByteArray) (A0_2 : Option Addr) (c0_2 : Nat) (l0_2 : List (S72)) (a0_3 : Int) (A0_4 : Option Addr) (c0_4 : Nat) (l0_4 : List (S67)) (A0_5 : Option Addr) (c0_5 : Nat) (l0_5 : List (S67)) (A1 : Option Addr) (c1 : Nat) (l1 : List (S54)) (r1 : Bool) (r2 : Int) (w : World) (hr0_2 : Kd.C k72 w A0_2 l0_2.length l0_2) (hc0_2 : l0_2.length ≤ c0_2) (hr0_4 : Kd.C k67 w A0_4 l0_4.length l0_4) (hc0_4 : l0_4.length ≤ c0_4) (hr0_5 : Kd.C k67 w A0_5 l0_5.length l0_5) (hc0_5 : l0_5.length ≤ c0_5) (hr1 : Kd.C k54 w A1 l1.length l1) (hc1 : l1.length ≤ c1) (h : guard_Eval.f k a0_0 a0_1 l0_2 a0_3 l0_4 l0_5 l1 = some (r1, r2)) :
  Calls Try.prog 12 #[.agg #[.int .i64 a0_0, .string a0_1, .slice A0_2 l0_2.length c0_2, .int .i64 a0_3, .slice A0_4 l0_4.length c0_4, .slice A0_5 l0_5.length c0_5], .slice A1 l1.length c1] w fun e w' => e = .returned (.tuple #[.bool r1, .int .i64 r2]) ∧ Below w.heap.size w w' := by
 have hu29 := Try.underlying29
 have hu23 := Try.underlying23
 have HR0_2 := Aside0.mk hr0_2
 have HC0_2 := Aside0.mk hc0_2
 clear hr0_2 hc0_2
 have HR0_4 := Aside0.mk hr0_4
 have HC0_4 := Aside0.mk hc0_4
 clear hr0_4 hc0_4
 have HR0_5 := Aside0.mk hr0_5
 have HC0_5 := Aside0.mk hc0_5
 clear hr0_5 hc0_5
 have HR1 := Aside0.mk hr1
 have HC1 := Aside0.mk hc1
 clear hr1 hc1
 have HB := Aside0.mk (Below.refl w.heap.size w)
 have H : ((guard_Check.f k a0_0 a0_1 l0_2 a0_3 l0_4 l0_5).bind fun t260 => (if t260 = 0 then ((expr_Eval.f k l0_4 l1).bind fun bt261 => (if bt261.2.2.2 = 0 then ((expr_Eval.f k l0_5 l1).bind fun bt266 => (if bt266.2.2.2 = 0 then ((guard_Holds.f k a0_3 bt261.1 bt261.2.1 bt261.2.2.1 bt266.1 bt266.2.1 bt266.2.2.1).bind fun bt271 => (some (bt271.1, bt271.2))) else (some (false, bt266.2.2.2)))) else (some (false, bt261.2.2.2)))) else (some (false, t260)))) = some (r1, r2) := h
 clear h
 replace H := Option.bind_eq_some_iff.mp H
 obtain ⟨t260, A30, H⟩ := H
 try dsimp only at H
 have A3 := Aside0.mk A30
 clear A30
 by_cases c4 : t260 = 0
 ·rw [if_pos c4] at H
  obtain ⟨c4b0, c4b1⟩ := eqB_ c4
  clear c4
  replace H := Option.bind_eq_some_iff.mp H
  obtain ⟨⟨t261, t262, t263, t264⟩, A50, H⟩ := H
  try dsimp only at H
  have A5 := Aside0.mk A50
  clear A50
  by_cases c6 : t264 = 0
  ·rw [if_pos c6] at H
   obtain ⟨c6b0, c6b1⟩ := eqB_ c6
   clear c6
   replace H := Option.bind_eq_some_iff.mp H
   obtain ⟨⟨t266, t267, t268, t269⟩, A70, H⟩ := H
   try dsimp only at H
   have A7 := Aside0.mk A70
   clear A70
   by_cases c8 : t269 = 0
   ·rw [if_pos c8] at H
    obtain ⟨c8b0, c8b1⟩ := eqB_ c8
    clear c8
    replace H := Option.bind_eq_some_iff.mp H
    obtain ⟨⟨t271, t272⟩, A90, H⟩ := H
    try dsimp only at H
    have A9 := Aside0.mk A90
    clear A90
    simp only [Option.some.injEq, Prod.mk.injEq] at H
    obtain ⟨rfl, rfl⟩ := H
    go_enter Try.func12, Try.ntmps12
    go_wp2_with (first | ((with_reducible refine gate_dst (N := 2) rfl ?_); refine box_event ?hg (N := 2) ?hd (cs := #[.int .i64 a0_0, .string a0_1, .slice A0_2 l0_2.length c0_2, .int .i64 a0_3, .slice A0_4 l0_4.length c0_4, .slice A0_5 l0_5.length c0_5]) (t := 29) ?hr ?_; (case hd => rfl); (case hg => rfl); (case hr => first | (go_simp; done) | (go_simp; rfl)); intro gb259 hg w10 hbox hb; have BK259 := Aside0.mk (hbox); have GW259 := gs_ hg (be_ HB); have GE259 := gs_ hg (be_ HB); replace HB := bs_ (be_ HB) hb; clear hb hbox hg; have hcz11_0 : w10.cell? ⟨gb259, 0, none⟩ = some (.int .i64 a0_0) := (blk_cell BK259.out 0).trans rfl; have hcz11_1 : w10.cell? ⟨gb259, 1, none⟩ = some (.string a0_1) := (blk_cell BK259.out 1).trans rfl; have hcz11_2 : w10.cell? ⟨gb259, 2, none⟩ = some (.slice A0_2 l0_2.length c0_2) := (blk_cell BK259.out 2).trans rfl; have hcz11_3 : w10.cell? ⟨gb259, 3, none⟩ = some (.int .i64 a0_3) := (blk_cell BK259.out 3).trans rfl; have hcz11_4 : w10.cell? ⟨gb259, 4, none⟩ = some (.slice A0_4 l0_4.length c0_4) := (blk_cell BK259.out 4).trans rfl; have hcz11_5 : w10.cell? ⟨gb259, 5, none⟩ = some (.slice A0_5 l0_5.length c0_5) := (blk_cell BK259.out 5).trans rfl; have hfz11_0 := blk_frozen BK259.out 0; have hfz11_1 := blk_frozen BK259.out 1; have hfz11_2 := blk_frozen BK259.out 2; have hfz11_3 := blk_frozen BK259.out 3; have hfz11_4 := blk_frozen BK259.out 4; have hfz11_5 := blk_frozen BK259.out 5) | ((with_reducible refine gate_callee (f := 15) rfl ?_); refine goesL_ (some 10) rfl rfl Try.func15 (by kernel_rfl) rfl #[.agg #[.int .i64 a0_0, .string a0_1, .slice A0_2 l0_2.length c0_2, .int .i64 a0_3, .slice A0_4 l0_4.length c0_4, .slice A0_5 l0_5.length c0_5]] rfl ga_ ?_; (with_reducible refine (guard_Check.calls k a0_0 a0_1 _ _ l0_2 a0_3 _ _ l0_4 _ _ l0_5 t260 _ ?side1 ?side2 ?side3 ?side4 ?side5 ?side6 A3.out).mono ?_); (case side1 => exact kd_ ((Kd.C_below HR0_2.out HB.out))); (case side2 => exact HC0_2.out); (case side3 => exact kd_ ((Kd.C_below HR0_4.out HB.out))); (case side4 => exact HC0_4.out); (case side5 => exact kd_ ((Kd.C_below HR0_5.out HB.out))); (case side6 => exact HC0_5.out); rintro e w12 ⟨rfl, hb⟩; refine ⟨_, rfl, ?_⟩; replace BK259 := bb_ (bu_ BK259) hb; replace HB := bs_ (be_ HB) hb; (try clear hb); (try clear hb2); (try clear hk); (try clear hi); have hcz13_0 : w12.cell? ⟨gb259, 0, none⟩ = some (.int .i64 a0_0) := (blk_cell BK259.out 0).trans rfl; have hcz13_1 : w12.cell? ⟨gb259, 1, none⟩ = some (.string a0_1) := (blk_cell BK259.out 1).trans rfl; have hcz13_2 : w12.cell? ⟨gb259, 2, none⟩ = some (.slice A0_2 l0_2.length c0_2) := (blk_cell BK259.out 2).trans rfl; have hcz13_3 : w12.cell? ⟨gb259, 3, none⟩ = some (.int .i64 a0_3) := (blk_cell BK259.out 3).trans rfl; have hcz13_4 : w12.cell? ⟨gb259, 4, none⟩ = some (.slice A0_4 l0_4.length c0_4) := (blk_cell BK259.out 4).trans rfl; have hcz13_5 : w12.cell? ⟨gb259, 5, none⟩ = some (.slice A0_5 l0_5.length c0_5) := (blk_cell BK259.out 5).trans rfl; have hfz13_0 := blk_frozen BK259.out 0; have hfz13_1 := blk_frozen BK259.out 1; have hfz13_2 := blk_frozen BK259.out 2; have hfz13_3 := blk_frozen BK259.out 3; have hfz13_4 := blk_frozen BK259.out 4; have hfz13_5 := blk_frozen BK259.out 5) | ((with_reducible refine gate_callee (f := 22) rfl ?_); refine goesL_ (some 18) rfl rfl Try.func22 (by kernel_rfl) rfl #[.slice A0_4 l0_4.length c0_4, .slice A1 l1.length c1] rfl ga_ ?_; (with_reducible refine (expr_Eval.calls k _ _ l0_4 _ _ l1 t261 t262 t263 t264 _ ?side1 ?side2 ?side3 ?side4 A5.out).mono ?_); (case side1 => exact kd_ ((Kd.C_below HR0_4.out HB.out))); (case side2 => exact HC0_4.out); (case side3 => exact kd_ ((Kd.C_below HR1.out HB.out))); (case side4 => exact HC1.out); rintro e w14 ⟨rfl, hb⟩; refine ⟨_, rfl, ?_⟩; replace BK259 := bb_ (bu_ BK259) hb; replace HB := bs_ (be_ HB) hb; (try clear hb); (try clear hb2); (try clear hk); (try clear hi)) | ((with_reducible refine gate_dst (N := 7) rfl ?_); refine box_event ?hg (N := 7) ?hd (cs := #[.int .i64 0, .int .i64 0, .string (⟨#[]⟩ : ByteArray)]) (t := 23) ?hr ?_; (case hd => rfl); (case hg => rfl); (case hr => first | (go_simp; done) | (go_simp; rfl)); intro gb265 hg w15 hbox hb; have BK265 := Aside0.mk (hbox); have GW265 := gs_ hg (be_ HB); have GE265 := gs_ hg (be_ HB); replace HB := bs_ (be_ HB) hb; have NB259_265 := nl_ hg (bu_ BK259); have NB265_259 := ng_ hg (bu_ BK259); replace BK259 := bb_ (bu_ BK259) hb; clear hb hbox hg; have hnb16 := NB265_259.out; have hnc16 := NB259_265.out; have hcz17_0 : w15.cell? ⟨gb265, 0, none⟩ = some (.int .i64 0) := (blk_cell BK265.out 0).trans rfl; have hcz17_1 : w15.cell? ⟨gb265, 1, none⟩ = some (.int .i64 0) := (blk_cell BK265.out 1).trans rfl; have hcz17_2 : w15.cell? ⟨gb265, 2, none⟩ = some (.string (⟨#[]⟩ : ByteArray)) := (blk_cell BK265.out 2).trans rfl; have hfz17_0 := blk_frozen BK265.out 0; have hfz17_1 := blk_frozen BK265.out 1; have hfz17_2 := blk_frozen BK265.out 2; have hcz18_0 : w15.cell? ⟨gb259, 0, none⟩ = some (.int .i64 a0_0) := (blk_cell BK259.out 0).trans rfl; have hcz18_1 : w15.cell? ⟨gb259, 1, none⟩ = some (.string a0_1) := (blk_cell BK259.out 1).trans rfl; have hcz18_2 : w15.cell? ⟨gb259, 2, none⟩ = some (.slice A0_2 l0_2.length c0_2) := (blk_cell BK259.out 2).trans rfl; have hcz18_3 : w15.cell? ⟨gb259, 3, none⟩ = some (.int .i64 a0_3) := (blk_cell BK259.out 3).trans rfl; have hcz18_4 : w15.cell? ⟨gb259, 4, none⟩ = some (.slice A0_4 l0_4.length c0_4) := (blk_cell BK259.out 4).trans rfl; have hcz18_5 : w15.cell? ⟨gb259, 5, none⟩ = some (.slice A0_5 l0_5.length c0_5) := (blk_cell BK259.out 5).trans rfl; have hfz18_0 := blk_frozen BK259.out 0; have hfz18_1 := blk_frozen BK259.out 1; have hfz18_2 := blk_frozen BK259.out 2; have hfz18_3 := blk_frozen BK259.out 3; have hfz18_4 := blk_frozen BK259.out 4; have hfz18_5 := blk_frozen BK259.out 5) | ((with_reducible refine gate_callee (f := 22) rfl ?_); refine goesL_ (some 28) rfl rfl Try.func22 (by kernel_rfl) rfl #[.slice A0_5 l0_5.length c0_5, .slice A1 l1.length c1] rfl ga_ ?_; (with_reducible refine (expr_Eval.calls k _ _ l0_5 _ _ l1 t266 t267 t268 t269 _ ?side1 ?side2 ?side3 ?side4 A7.out).mono ?_); (case side1 => exact Kd.C_below HR0_5.out (be_ HB)); (case side2 => exact HC0_5.out); (case side3 => exact Kd.C_below HR1.out (be_ HB)); (case side4 => exact HC1.out); rintro e w19 ⟨rfl, hb⟩; refine ⟨_, rfl, ?_⟩; replace BK259 := bb_ (bu_ BK259) hb; replace BK265 := Aside0.mk (blk_below (o := .cells #[.int .i64 t261, .int .i64 t262, .string t263] 23 (0, 0)) (bp_ BK265) hb); replace HB := bs_ (be_ HB) hb; (try clear hb); (try clear hb2); (try clear hk); (try clear hi)) | ((with_reducible refine gate_dst (N := 8) rfl ?_); refine box_event ?hg (N := 8) ?hd (cs := #[.int .i64 0, .int .i64 0, .string (⟨#[]⟩ : ByteArray)]) (t := 23) ?hr ?_; (case hd => rfl); (case hg => rfl); (case hr => first | (go_simp; done) | (go_simp; rfl)); intro gb270 hg w20 hbox hb; have BK270 := Aside0.mk (hbox); have GW270 := gs_ hg (be_ HB); have GE270 := gs_ hg (be_ HB); replace HB := bs_ (be_ HB) hb; have NB259_270 := nl_ hg (bu_ BK259); have NB270_259 := ng_ hg (bu_ BK259); replace BK259 := bb_ (bu_ BK259) hb; have NB265_270 := nl_ hg (bu_ BK265); have NB270_265 := ng_ hg (bu_ BK265); replace BK265 := bb_ (bu_ BK265) hb; clear hb hbox hg; have hnb21 := NB270_259.out; have hnc21 := NB259_270.out; have hnb22 := NB270_265.out; have hnc22 := NB265_270.out; have hcz23_0 : w20.cell? ⟨gb270, 0, none⟩ = some (.int .i64 0) := (blk_cell BK270.out 0).trans rfl; have hcz23_1 : w20.cell? ⟨gb270, 1, none⟩ = some (.int .i64 0) := (blk_cell BK270.out 1).trans rfl; have hcz23_2 : w20.cell? ⟨gb270, 2, none⟩ = some (.string (⟨#[]⟩ : ByteArray)) := (blk_cell BK270.out 2).trans rfl; have hfz23_0 := blk_frozen BK270.out 0; have hfz23_1 := blk_frozen BK270.out 1; have hfz23_2 := blk_frozen BK270.out 2; have hcz24_0 : w20.cell? ⟨gb259, 0, none⟩ = some (.int .i64 a0_0) := (blk_cell BK259.out 0).trans rfl; have hcz24_1 : w20.cell? ⟨gb259, 1, none⟩ = some (.string a0_1) := (blk_cell BK259.out 1).trans rfl; have hcz24_2 : w20.cell? ⟨gb259, 2, none⟩ = some (.slice A0_2 l0_2.length c0_2) := (blk_cell BK259.out 2).trans rfl; have hcz24_3 : w20.cell? ⟨gb259, 3, none⟩ = some (.int .i64 a0_3) := (blk_cell BK259.out 3).trans rfl; have hcz24_4 : w20.cell? ⟨gb259, 4, none⟩ = some (.slice A0_4 l0_4.length c0_4) := (blk_cell BK259.out 4).trans rfl; have hcz24_5 : w20.cell? ⟨gb259, 5, none⟩ = some (.slice A0_5 l0_5.length c0_5) := (blk_cell BK259.out 5).trans rfl; have hfz24_0 := blk_frozen BK259.out 0; have hfz24_1 := blk_frozen BK259.out 1; have hfz24_2 := blk_frozen BK259.out 2; have hfz24_3 := blk_frozen BK259.out 3; have hfz24_4 := blk_frozen BK259.out 4; have hfz24_5 := blk_frozen BK259.out 5; have hcz25_0 : w20.cell? ⟨gb265, 0, none⟩ = some (.int .i64 t261) := (blk_cell BK265.out 0).trans rfl; have hcz25_1 : w20.cell? ⟨gb265, 1, none⟩ = some (.int .i64 t262) := (blk_cell BK265.out 1).trans rfl; have hcz25_2 : w20.cell? ⟨gb265, 2, none⟩ = some (.string t263) := (blk_cell BK265.out 2).trans rfl; have hfz25_0 := blk_frozen BK265.out 0; have hfz25_1 := blk_frozen BK265.out 1; have hfz25_2 := blk_frozen BK265.out 2) | ((with_reducible refine gate_callee (f := 10) rfl ?_); refine goesL_ (some 38) rfl rfl Try.func10 (by kernel_rfl) rfl #[.int .i64 a0_3, .agg #[.int .i64 t261, .int .i64 t262, .string t263], .agg #[.int .i64 t266, .int .i64 t267, .string t268]] rfl ga_ ?_; (with_reducible refine (guard_Holds.calls k a0_3 t261 t262 t263 t266 t267 t268 t271 t272 _ A9.out).mono ?_); rintro e w26 ⟨rfl, hb⟩; refine ⟨_, rfl, ?_⟩; replace BK259 := bb_ (bu_ BK259) hb; replace BK265 := bb_ (bu_ BK265) hb; replace BK270 := Aside0.mk (blk_below (o := .cells #[.int .i64 t266, .int .i64 t267, .string t268] 23 (0, 0)) (bp_ BK270) hb); replace HB := bs_ (be_ HB) hb; (try clear hb); (try clear hb2); (try clear hk); (try clear hi)))
    go_ret2
    exact ⟨re_, be_ HB⟩
   ·rw [if_neg c8] at H
    obtain ⟨c8b0, c8b1⟩ := neB_ c8
    simp only [Option.some.injEq, Prod.mk.injEq] at H
    obtain ⟨rfl, rfl⟩ := H
    go_enter Try.func12, Try.ntmps12
    go_wp2_with (first | ((with_reducible refine gate_dst (N := 2) rfl ?_); refine box_event ?hg (N := 2) ?hd (cs := #[.int .i64 a0_0, .string a0_1, .slice A0_2 l0_2.length c0_2, .int .i64 a0_3, .slice A0_4 l0_4.length c0_4, .slice A0_5 l0_5.length c0_5]) (t := 29) ?hr ?_; (case hd => rfl); (case hg => rfl); (case hr => first | (go_simp; done) | (go_simp; rfl)); intro gb259 hg w27 hbox hb; have BK259 := Aside0.mk (hbox); have GW259 := gs_ hg (be_ HB); have GE259 := gs_ hg (be_ HB); replace HB := bs_ (be_ HB) hb; clear hb hbox hg; have hcz28_0 : w27.cell? ⟨gb259, 0, none⟩ = some (.int .i64 a0_0) := (blk_cell BK259.out 0).trans rfl; have hcz28_1 : w27.cell? ⟨gb259, 1, none⟩ = some (.string a0_1) := (blk_cell BK259.out 1).trans rfl; have hcz28_2 : w27.cell? ⟨gb259, 2, none⟩ = some (.slice A0_2 l0_2.length c0_2) := (blk_cell BK259.out 2).trans rfl; have hcz28_3 : w27.cell? ⟨gb259, 3, none⟩ = some (.int .i64 a0_3) := (blk_cell BK259.out 3).trans rfl; have hcz28_4 : w27.cell? ⟨gb259, 4, none⟩ = some (.slice A0_4 l0_4.length c0_4) := (blk_cell BK259.out 4).trans rfl; have hcz28_5 : w27.cell? ⟨gb259, 5, none⟩ = some (.slice A0_5 l0_5.length c0_5) := (blk_cell BK259.out 5).trans rfl; have hfz28_0 := blk_frozen BK259.out 0; have hfz28_1 := blk_frozen BK259.out 1; have hfz28_2 := blk_frozen BK259.out 2; have hfz28_3 := blk_frozen BK259.out 3; have hfz28_4 := blk_frozen BK259.out 4; have hfz28_5 := blk_frozen BK259.out 5) | ((with_reducible refine gate_callee (f := 15) rfl ?_); refine goesL_ (some 10) rfl rfl Try.func15 (by kernel_rfl) rfl #[.agg #[.int .i64 a0_0, .string a0_1, .slice A0_2 l0_2.length c0_2, .int .i64 a0_3, .slice A0_4 l0_4.length c0_4, .slice A0_5 l0_5.length c0_5]] rfl ga_ ?_; (with_reducible refine (guard_Check.calls k a0_0 a0_1 _ _ l0_2 a0_3 _ _ l0_4 _ _ l0_5 t260 _ ?side1 ?side2 ?side3 ?side4 ?side5 ?side6 A3.out).mono ?_); (case side1 => exact kd_ ((Kd.C_below HR0_2.out HB.out))); (case side2 => exact HC0_2.out); (case side3 => exact kd_ ((Kd.C_below HR0_4.out HB.out))); (case side4 => exact HC0_4.out); (case side5 => exact kd_ ((Kd.C_below HR0_5.out HB.out))); (case side6 => exact HC0_5.out); rintro e w29 ⟨rfl, hb⟩; refine ⟨_, rfl, ?_⟩; replace BK259 := bb_ (bu_ BK259) hb; replace HB := bs_ (be_ HB) hb; (try clear hb); (try clear hb2); (try clear hk); (try clear hi); have hcz30_0 : w29.cell? ⟨gb259, 0, none⟩ = some (.int .i64 a0_0) := (blk_cell BK259.out 0).trans rfl; have hcz30_1 : w29.cell? ⟨gb259, 1, none⟩ = some (.string a0_1) := (blk_cell BK259.out 1).trans rfl; have hcz30_2 : w29.cell? ⟨gb259, 2, none⟩ = some (.slice A0_2 l0_2.length c0_2) := (blk_cell BK259.out 2).trans rfl; have hcz30_3 : w29.cell? ⟨gb259, 3, none⟩ = some (.int .i64 a0_3) := (blk_cell BK259.out 3).trans rfl; have hcz30_4 : w29.cell? ⟨gb259, 4, none⟩ = some (.slice A0_4 l0_4.length c0_4) := (blk_cell BK259.out 4).trans rfl; have hcz30_5 : w29.cell? ⟨gb259, 5, none⟩ = some (.slice A0_5 l0_5.length c0_5) := (blk_cell BK259.out 5).trans rfl; have hfz30_0 := blk_frozen BK259.out 0; have hfz30_1 := blk_frozen BK259.out 1; have hfz30_2 := blk_frozen BK259.out 2; have hfz30_3 := blk_frozen BK259.out 3; have hfz30_4 := blk_frozen BK259.out 4; have hfz30_5 := blk_frozen BK259.out 5) | ((with_reducible refine gate_callee (f := 22) rfl ?_); refine goesL_ (some 18) rfl rfl Try.func22 (by kernel_rfl) rfl #[.slice A0_4 l0_4.length c0_4, .slice A1 l1.length c1] rfl ga_ ?_; (with_reducible refine (expr_Eval.calls k _ _ l0_4 _ _ l1 t261 t262 t263 t264 _ ?side1 ?side2 ?side3 ?side4 A5.out).mono ?_); (case side1 => exact kd_ ((Kd.C_below HR0_4.out HB.out))); (case side2 => exact HC0_4.out); (case side3 => exact kd_ ((Kd.C_below HR1.out HB.out))); (case side4 => exact HC1.out); rintro e w31 ⟨rfl, hb⟩; refine ⟨_, rfl, ?_⟩; replace BK259 := bb_ (bu_ BK259) hb; replace HB := bs_ (be_ HB) hb; (try clear hb); (try clear hb2); (try clear hk); (try clear hi)) | ((with_reducible refine gate_dst (N := 7) rfl ?_); refine box_event ?hg (N := 7) ?hd (cs := #[.int .i64 0, .int .i64 0, .string (⟨#[]⟩ : ByteArray)]) (t := 23) ?hr ?_; (case hd => rfl); (case hg => rfl); (case hr => first | (go_simp; done) | (go_simp; rfl)); intro gb265 hg w32 hbox hb; have BK265 := Aside0.mk (hbox); have GW265 := gs_ hg (be_ HB); have GE265 := gs_ hg (be_ HB); replace HB := bs_ (be_ HB) hb; have NB259_265 := nl_ hg (bu_ BK259); have NB265_259 := ng_ hg (bu_ BK259); replace BK259 := bb_ (bu_ BK259) hb; clear hb hbox hg; have hnb33 := NB265_259.out; have hnc33 := NB259_265.out; have hcz34_0 : w32.cell? ⟨gb265, 0, none⟩ = some (.int .i64 0) := (blk_cell BK265.out 0).trans rfl; have hcz34_1 : w32.cell? ⟨gb265, 1, none⟩ = some (.int .i64 0) := (blk_cell BK265.out 1).trans rfl; have hcz34_2 : w32.cell? ⟨gb265, 2, none⟩ = some (.string (⟨#[]⟩ : ByteArray)) := (blk_cell BK265.out 2).trans rfl; have hfz34_0 := blk_frozen BK265.out 0; have hfz34_1 := blk_frozen BK265.out 1; have hfz34_2 := blk_frozen BK265.out 2; have hcz35_0 : w32.cell? ⟨gb259, 0, none⟩ = some (.int .i64 a0_0) := (blk_cell BK259.out 0).trans rfl; have hcz35_1 : w32.cell? ⟨gb259, 1, none⟩ = some (.string a0_1) := (blk_cell BK259.out 1).trans rfl; have hcz35_2 : w32.cell? ⟨gb259, 2, none⟩ = some (.slice A0_2 l0_2.length c0_2) := (blk_cell BK259.out 2).trans rfl; have hcz35_3 : w32.cell? ⟨gb259, 3, none⟩ = some (.int .i64 a0_3) := (blk_cell BK259.out 3).trans rfl; have hcz35_4 : w32.cell? ⟨gb259, 4, none⟩ = some (.slice A0_4 l0_4.length c0_4) := (blk_cell BK259.out 4).trans rfl; have hcz35_5 : w32.cell? ⟨gb259, 5, none⟩ = some (.slice A0_5 l0_5.length c0_5) := (blk_cell BK259.out 5).trans rfl; have hfz35_0 := blk_frozen BK259.out 0; have hfz35_1 := blk_frozen BK259.out 1; have hfz35_2 := blk_frozen BK259.out 2; have hfz35_3 := blk_frozen BK259.out 3; have hfz35_4 := blk_frozen BK259.out 4; have hfz35_5 := blk_frozen BK259.out 5) | ((with_reducible refine gate_callee (f := 22) rfl ?_); refine goesL_ (some 28) rfl rfl Try.func22 (by kernel_rfl) rfl #[.slice A0_5 l0_5.length c0_5, .slice A1 l1.length c1] rfl ga_ ?_; (with_reducible refine (expr_Eval.calls k _ _ l0_5 _ _ l1 t266 t267 t268 t269 _ ?side1 ?side2 ?side3 ?side4 A7.out).mono ?_); (case side1 => exact Kd.C_below HR0_5.out (be_ HB)); (case side2 => exact HC0_5.out); (case side3 => exact Kd.C_below HR1.out (be_ HB)); (case side4 => exact HC1.out); rintro e w36 ⟨rfl, hb⟩; refine ⟨_, rfl, ?_⟩; replace BK259 := bb_ (bu_ BK259) hb; replace BK265 := Aside0.mk (blk_below (o := .cells #[.int .i64 t261, .int .i64 t262, .string t263] 23 (0, 0)) (bp_ BK265) hb); replace HB := bs_ (be_ HB) hb; (try clear hb); (try clear hb2); (try clear hk); (try clear hi)) | ((with_reducible refine gate_dst (N := 8) rfl ?_); refine box_event ?hg (N := 8) ?hd (cs := #[.int .i64 0, .int .i64 0, .string (⟨#[]⟩ : ByteArray)]) (t := 23) ?hr ?_; (case hd => rfl); (case hg => rfl); (case hr => first | (go_simp; done) | (go_simp; rfl)); intro gb270 hg w37 hbox hb; have BK270 := Aside0.mk (hbox); have GW270 := gs_ hg (be_ HB); have GE270 := gs_ hg (be_ HB); replace HB := bs_ (be_ HB) hb; have NB259_270 := nl_ hg (bu_ BK259); have NB270_259 := ng_ hg (bu_ BK259); replace BK259 := bb_ (bu_ BK259) hb; have NB265_270 := nl_ hg (bu_ BK265); have NB270_265 := ng_ hg (bu_ BK265); replace BK265 := bb_ (bu_ BK265) hb; clear hb hbox hg; have hnb38 := NB270_259.out; have hnc38 := NB259_270.out; have hnb39 := NB270_265.out; have hnc39 := NB265_270.out; have hcz40_0 : w37.cell? ⟨gb270, 0, none⟩ = some (.int .i64 0) := (blk_cell BK270.out 0).trans rfl; have hcz40_1 : w37.cell? ⟨gb270, 1, none⟩ = some (.int .i64 0) := (blk_cell BK270.out 1).trans rfl; have hcz40_2 : w37.cell? ⟨gb270, 2, none⟩ = some (.string (⟨#[]⟩ : ByteArray)) := (blk_cell BK270.out 2).trans rfl; have hfz40_0 := blk_frozen BK270.out 0; have hfz40_1 := blk_frozen BK270.out 1; have hfz40_2 := blk_frozen BK270.out 2))
    go_ret2
    exact ⟨re_, be_ HB⟩
  ·rw [if_neg c6] at H
   obtain ⟨c6b0, c6b1⟩ := neB_ c6
   simp only [Option.some.injEq, Prod.mk.injEq] at H
   obtain ⟨rfl, rfl⟩ := H
   go_enter Try.func12, Try.ntmps12
   go_wp2_with (first | ((with_reducible refine gate_dst (N := 2) rfl ?_); refine box_event ?hg (N := 2) ?hd (cs := #[.int .i64 a0_0, .string a0_1, .slice A0_2 l0_2.length c0_2, .int .i64 a0_3, .slice A0_4 l0_4.length c0_4, .slice A0_5 l0_5.length c0_5]) (t := 29) ?hr ?_; (case hd => rfl); (case hg => rfl); (case hr => first | (go_simp; done) | (go_simp; rfl)); intro gb259 hg w41 hbox hb; have BK259 := Aside0.mk (hbox); have GW259 := gs_ hg (be_ HB); have GE259 := gs_ hg (be_ HB); replace HB := bs_ (be_ HB) hb; clear hb hbox hg; have hcz42_0 : w41.cell? ⟨gb259, 0, none⟩ = some (.int .i64 a0_0) := (blk_cell BK259.out 0).trans rfl; have hcz42_1 : w41.cell? ⟨gb259, 1, none⟩ = some (.string a0_1) := (blk_cell BK259.out 1).trans rfl; have hcz42_2 : w41.cell? ⟨gb259, 2, none⟩ = some (.slice A0_2 l0_2.length c0_2) := (blk_cell BK259.out 2).trans rfl; have hcz42_3 : w41.cell? ⟨gb259, 3, none⟩ = some (.int .i64 a0_3) := (blk_cell BK259.out 3).trans rfl; have hcz42_4 : w41.cell? ⟨gb259, 4, none⟩ = some (.slice A0_4 l0_4.length c0_4) := (blk_cell BK259.out 4).trans rfl; have hcz42_5 : w41.cell? ⟨gb259, 5, none⟩ = some (.slice A0_5 l0_5.length c0_5) := (blk_cell BK259.out 5).trans rfl; have hfz42_0 := blk_frozen BK259.out 0; have hfz42_1 := blk_frozen BK259.out 1; have hfz42_2 := blk_frozen BK259.out 2; have hfz42_3 := blk_frozen BK259.out 3; have hfz42_4 := blk_frozen BK259.out 4; have hfz42_5 := blk_frozen BK259.out 5) | ((with_reducible refine gate_callee (f := 15) rfl ?_); refine goesL_ (some 10) rfl rfl Try.func15 (by kernel_rfl) rfl #[.agg #[.int .i64 a0_0, .string a0_1, .slice A0_2 l0_2.length c0_2, .int .i64 a0_3, .slice A0_4 l0_4.length c0_4, .slice A0_5 l0_5.length c0_5]] rfl ga_ ?_; (with_reducible refine (guard_Check.calls k a0_0 a0_1 _ _ l0_2 a0_3 _ _ l0_4 _ _ l0_5 t260 _ ?side1 ?side2 ?side3 ?side4 ?side5 ?side6 A3.out).mono ?_); (case side1 => exact kd_ ((Kd.C_below HR0_2.out HB.out))); (case side2 => exact HC0_2.out); (case side3 => exact kd_ ((Kd.C_below HR0_4.out HB.out))); (case side4 => exact HC0_4.out); (case side5 => exact kd_ ((Kd.C_below HR0_5.out HB.out))); (case side6 => exact HC0_5.out); rintro e w43 ⟨rfl, hb⟩; refine ⟨_, rfl, ?_⟩; replace BK259 := bb_ (bu_ BK259) hb; replace HB := bs_ (be_ HB) hb; (try clear hb); (try clear hb2); (try clear hk); (try clear hi); have hcz44_0 : w43.cell? ⟨gb259, 0, none⟩ = some (.int .i64 a0_0) := (blk_cell BK259.out 0).trans rfl; have hcz44_1 : w43.cell? ⟨gb259, 1, none⟩ = some (.string a0_1) := (blk_cell BK259.out 1).trans rfl; have hcz44_2 : w43.cell? ⟨gb259, 2, none⟩ = some (.slice A0_2 l0_2.length c0_2) := (blk_cell BK259.out 2).trans rfl; have hcz44_3 : w43.cell? ⟨gb259, 3, none⟩ = some (.int .i64 a0_3) := (blk_cell BK259.out 3).trans rfl; have hcz44_4 : w43.cell? ⟨gb259, 4, none⟩ = some (.slice A0_4 l0_4.length c0_4) := (blk_cell BK259.out 4).trans rfl; have hcz44_5 : w43.cell? ⟨gb259, 5, none⟩ = some (.slice A0_5 l0_5.length c0_5) := (blk_cell BK259.out 5).trans rfl; have hfz44_0 := blk_frozen BK259.out 0; have hfz44_1 := blk_frozen BK259.out 1; have hfz44_2 := blk_frozen BK259.out 2; have hfz44_3 := blk_frozen BK259.out 3; have hfz44_4 := blk_frozen BK259.out 4; have hfz44_5 := blk_frozen BK259.out 5) | ((with_reducible refine gate_callee (f := 22) rfl ?_); refine goesL_ (some 18) rfl rfl Try.func22 (by kernel_rfl) rfl #[.slice A0_4 l0_4.length c0_4, .slice A1 l1.length c1] rfl ga_ ?_; (with_reducible refine (expr_Eval.calls k _ _ l0_4 _ _ l1 t261 t262 t263 t264 _ ?side1 ?side2 ?side3 ?side4 A5.out).mono ?_); (case side1 => exact kd_ ((Kd.C_below HR0_4.out HB.out))); (case side2 => exact HC0_4.out); (case side3 => exact kd_ ((Kd.C_below HR1.out HB.out))); (case side4 => exact HC1.out); rintro e w45 ⟨rfl, hb⟩; refine ⟨_, rfl, ?_⟩; replace BK259 := bb_ (bu_ BK259) hb; replace HB := bs_ (be_ HB) hb; (try clear hb); (try clear hb2); (try clear hk); (try clear hi)) | ((with_reducible refine gate_dst (N := 7) rfl ?_); refine box_event ?hg (N := 7) ?hd (cs := #[.int .i64 0, .int .i64 0, .string (⟨#[]⟩ : ByteArray)]) (t := 23) ?hr ?_; (case hd => rfl); (case hg => rfl); (case hr => first | (go_simp; done) | (go_simp; rfl)); intro gb265 hg w46 hbox hb; have BK265 := Aside0.mk (hbox); have GW265 := gs_ hg (be_ HB); have GE265 := gs_ hg (be_ HB); replace HB := bs_ (be_ HB) hb; have NB259_265 := nl_ hg (bu_ BK259); have NB265_259 := ng_ hg (bu_ BK259); replace BK259 := bb_ (bu_ BK259) hb; clear hb hbox hg; have hnb47 := NB265_259.out; have hnc47 := NB259_265.out; have hcz48_0 : w46.cell? ⟨gb265, 0, none⟩ = some (.int .i64 0) := (blk_cell BK265.out 0).trans rfl; have hcz48_1 : w46.cell? ⟨gb265, 1, none⟩ = some (.int .i64 0) := (blk_cell BK265.out 1).trans rfl; have hcz48_2 : w46.cell? ⟨gb265, 2, none⟩ = some (.string (⟨#[]⟩ : ByteArray)) := (blk_cell BK265.out 2).trans rfl; have hfz48_0 := blk_frozen BK265.out 0; have hfz48_1 := blk_frozen BK265.out 1; have hfz48_2 := blk_frozen BK265.out 2))
   go_ret2
   exact ⟨re_, be_ HB⟩
 ·rw [if_neg c4] at H
  obtain ⟨c4b0, c4b1⟩ := neB_ c4
  simp only [Option.some.injEq, Prod.mk.injEq] at H
  obtain ⟨rfl, rfl⟩ := H
  go_enter Try.func12, Try.ntmps12
  go_wp2_with (first | ((with_reducible refine gate_dst (N := 2) rfl ?_); refine box_event ?hg (N := 2) ?hd (cs := #[.int .i64 a0_0, .string a0_1, .slice A0_2 l0_2.length c0_2, .int .i64 a0_3, .slice A0_4 l0_4.length c0_4, .slice A0_5 l0_5.length c0_5]) (t := 29) ?hr ?_; (case hd => rfl); (case hg => rfl); (case hr => first | (go_simp; done) | (go_simp; rfl)); intro gb259 hg w49 hbox hb; have BK259 := Aside0.mk (hbox); have GW259 := gs_ hg (be_ HB); have GE259 := gs_ hg (be_ HB); replace HB := bs_ (be_ HB) hb; clear hb hbox hg; have hcz50_0 : w49.cell? ⟨gb259, 0, none⟩ = some (.int .i64 a0_0) := (blk_cell BK259.out 0).trans rfl; have hcz50_1 : w49.cell? ⟨gb259, 1, none⟩ = some (.string a0_1) := (blk_cell BK259.out 1).trans rfl; have hcz50_2 : w49.cell? ⟨gb259, 2, none⟩ = some (.slice A0_2 l0_2.length c0_2) := (blk_cell BK259.out 2).trans rfl; have hcz50_3 : w49.cell? ⟨gb259, 3, none⟩ = some (.int .i64 a0_3) := (blk_cell BK259.out 3).trans rfl; have hcz50_4 : w49.cell? ⟨gb259, 4, none⟩ = some (.slice A0_4 l0_4.length c0_4) := (blk_cell BK259.out 4).trans rfl; have hcz50_5 : w49.cell? ⟨gb259, 5, none⟩ = some (.slice A0_5 l0_5.length c0_5) := (blk_cell BK259.out 5).trans rfl; have hfz50_0 := blk_frozen BK259.out 0; have hfz50_1 := blk_frozen BK259.out 1; have hfz50_2 := blk_frozen BK259.out 2; have hfz50_3 := blk_frozen BK259.out 3; have hfz50_4 := blk_frozen BK259.out 4; have hfz50_5 := blk_frozen BK259.out 5) | ((with_reducible refine gate_callee (f := 15) rfl ?_); refine goesL_ (some 10) rfl rfl Try.func15 (by kernel_rfl) rfl #[.agg #[.int .i64 a0_0, .string a0_1, .slice A0_2 l0_2.length c0_2, .int .i64 a0_3, .slice A0_4 l0_4.length c0_4, .slice A0_5 l0_5.length c0_5]] rfl ga_ ?_; (with_reducible refine (guard_Check.calls k a0_0 a0_1 _ _ l0_2 a0_3 _ _ l0_4 _ _ l0_5 t260 _ ?side1 ?side2 ?side3 ?side4 ?side5 ?side6 A3.out).mono ?_); (case side1 => exact kd_ ((Kd.C_below HR0_2.out HB.out))); (case side2 => exact HC0_2.out); (case side3 => exact kd_ ((Kd.C_below HR0_4.out HB.out))); (case side4 => exact HC0_4.out); (case side5 => exact kd_ ((Kd.C_below HR0_5.out HB.out))); (case side6 => exact HC0_5.out); rintro e w51 ⟨rfl, hb⟩; refine ⟨_, rfl, ?_⟩; replace BK259 := bb_ (bu_ BK259) hb; replace HB := bs_ (be_ HB) hb; (try clear hb); (try clear hb2); (try clear hk); (try clear hi)))
  go_ret2
  exact ⟨re_, be_ HB⟩
end Go.Proofs.Ytaopajmpifenoaa.P
end
section
namespace Go.Proofs.Ytaopajmpifenoaa.P
open Go.RowKit Go.Proofs.YtaopajmpifenoaaW.PrintWords Go.Proofs.YtaopajmpifenoaaW.PrintLast Go.Proofs.YtaopajmpifenoaaW.PrintMore
attribute [local go_sem] max2_int min2_int max_two min_two max_three min_three max_four min_four
set_option linter.unusedVariables false
set_option linter.unusedSimpArgs false
theorem eqA72 (d : Nat) (w : World) (x0 y0 : ByteArray) (x1 y1 : Int) (x2 y2 : Int) (x3 y3 : ByteArray) :
  (Op.equalIn (d + 3) 72 (.agg #[.string x0, .int .i64 x1, .int .i64 x2, .string x3]) (.agg #[.string y0, .int .i64 y1, .int .i64 y2, .string y3])).run Try.prog w = .ok (x0.toList == y0.toList && ((x1 == y1 && (x2 == y2 && (x3.toList == y3.toList))))) w := by
 refine eqA_of Try.underlying72 (by kernel_rfl) ?_
 refine eqf_cons (by rfl) (by go_simp; rfl) (by go_simp; rfl) (by go_simp) ?_
 exact eqf_last (by rfl) (by go_simp) (by go_simp) (eqA23 (d + 0) w _ _ _ _ _ _)
end Go.Proofs.Ytaopajmpifenoaa.P
end
section
namespace Go.Proofs.Ytaopajmpifenoaa.P
open Go.RowKit Go.Proofs.YtaopajmpifenoaaW.PrintWords Go.Proofs.YtaopajmpifenoaaW.PrintLast Go.Proofs.YtaopajmpifenoaaW.PrintMore
attribute [local go_sem] max2_int min2_int max_two min_two max_three min_three max_four min_four
set_option linter.unusedVariables false
set_option linter.unusedSimpArgs false
attribute [local go_sem high] eqA72
mutual
def constablekeep_Atom.j0 : Nat → Bool → ByteArray → List (S72) → ByteArray → List (S72) → Option (Bool)
 | 0, _, _, _, _, _ => none
 | k + 1, x19, x274000, x274001, x275000, x275001 => if x19 = true then (some false) else (constablekeep_Atom.l0 k 0 x274000 x274001 x275000 x275001)
def constablekeep_Atom.l0 : Nat → Int → ByteArray → List (S72) → ByteArray → List (S72) → Option (Bool)
 | 0, _, _, _, _, _ => none
 | k + 1, x5, x274000, x274001, x275000, x275001 => if x5 < (x274001.length : Int) then (if 0 ≤ x5 then (if x5 < (x275001.length : Int) then (if (!((((rd_T72 x274001 x5).f0).toList) == (((rd_T72 x275001 x5).f0).toList)) || ((!(((rd_T72 x274001 x5).f1.f0) == ((rd_T72 x275001 x5).f1.f0)) || (!(((rd_T72 x274001 x5).f1.f1) == ((rd_T72 x275001 x5).f1.f1)) || (!((((rd_T72 x274001 x5).f1.f2).toList) == (((rd_T72 x275001 x5).f1.f2).toList))))))) = true then (some false) else (constablekeep_Atom.l0 k (wrap64 (x5 + 1)) x274000 x274001 x275000 x275001)) else (none)) else (none)) else (some true)
end
def constablekeep_Atom.f (k : Nat) (a0_0 : ByteArray) (l0_1 : List (S72)) (a1_0 : ByteArray) (l1_1 : List (S72)) : Option (Bool) := if a0_0.toList = a1_0.toList then (constablekeep_Atom.j0 k ((l0_1.length : Int) != (l1_1.length : Int)) a0_0 l0_1 a1_0 l1_1) else (constablekeep_Atom.j0 k true a0_0 l0_1 a1_0 l1_1)
theorem constablekeep_Atom.mono_l : ∀ k, (∀ y0 y1 y2 y3 y4, LeO (constablekeep_Atom.j0 k y0 y1 y2 y3 y4) (constablekeep_Atom.j0 (k + 1) y0 y1 y2 y3 y4)) ∧ (∀ y0 y1 y2 y3 y4, LeO (constablekeep_Atom.l0 k y0 y1 y2 y3 y4) (constablekeep_Atom.l0 (k + 1) y0 y1 y2 y3 y4))
 | 0 => ⟨fun _ _ _ _ _ r h => by simp [constablekeep_Atom.j0] at h, fun _ _ _ _ _ r h => by simp [constablekeep_Atom.l0] at h⟩
 | k + 1 => by
  obtain ⟨ih0, ih1⟩ := constablekeep_Atom.mono_l k
  refine ⟨?_, ?_⟩
  ·intro y0 y1 y2 y3 y4
   unfold constablekeep_Atom.j0
   repeat' first
   | (with_reducible exact ih0 _ _ _ _ _)
   | (with_reducible exact ih1 _ _ _ _ _)
   | (with_reducible exact LeO.refl _)
   | (with_reducible exact LeO.none _)
   | (with_reducible refine LeO.ite ?_ ?_)
   | (with_reducible refine LeO.bind ?_ (fun _ => ?_))
   | exact ih0 _ _ _ _ _
   | exact ih1 _ _ _ _ _
   | exact LeO.none _
   | refine LeO.ite ?_ ?_
   | refine LeO.bind ?_ (fun _ => ?_)
  ·intro y0 y1 y2 y3 y4
   unfold constablekeep_Atom.l0
   repeat' first
   | (with_reducible exact ih0 _ _ _ _ _)
   | (with_reducible exact ih1 _ _ _ _ _)
   | (with_reducible exact LeO.refl _)
   | (with_reducible exact LeO.none _)
   | (with_reducible refine LeO.ite ?_ ?_)
   | (with_reducible refine LeO.bind ?_ (fun _ => ?_))
   | exact ih0 _ _ _ _ _
   | exact ih1 _ _ _ _ _
   | exact LeO.none _
   | refine LeO.ite ?_ ?_
   | refine LeO.bind ?_ (fun _ => ?_)
theorem constablekeep_Atom.mono : ∀ a0 a1 a2 a3 k, LeO (constablekeep_Atom.f k a0 a1 a2 a3) (constablekeep_Atom.f (k + 1) a0 a1 a2 a3) := by
 intro a0 a1 a2 a3 k
 obtain ⟨ih0, ih1⟩ := constablekeep_Atom.mono_l k
 unfold constablekeep_Atom.f
 repeat' first
   | (with_reducible exact ih0 _ _ _ _ _)
   | (with_reducible exact ih1 _ _ _ _ _)
   | (with_reducible exact LeO.refl _)
   | (with_reducible exact LeO.none _)
   | (with_reducible refine LeO.ite ?_ ?_)
   | (with_reducible refine LeO.bind ?_ (fun _ => ?_))
   | exact ih0 _ _ _ _ _
   | exact ih1 _ _ _ _ _
   | exact LeO.none _
   | refine LeO.ite ?_ ?_
   | refine LeO.bind ?_ (fun _ => ?_)
set_option maxHeartbeats 8000000 in
set_option maxRecDepth 100000 in
theorem constablekeep_Atom.calls (k : Nat) (a0_0 : ByteArray) (A0_1 : Option Addr) (c0_1 : Nat) (l0_1 : List (S72)) (a1_0 : ByteArray) (A1_1 : Option Addr) (c1_1 : Nat) (l1_1 : List (S72)) (r : Bool) (w : World) (hr0_1 : Kd.C k72 w A0_1 l0_1.length l0_1) (hc0_1 : l0_1.length ≤ c0_1) (hr1_1 : Kd.C k72 w A1_1 l1_1.length l1_1) (hc1_1 : l1_1.length ≤ c1_1) (h : constablekeep_Atom.f k a0_0 l0_1 a1_0 l1_1 = some r) :
  Calls Try.prog 31 #[.agg #[.string a0_0, .slice A0_1 l0_1.length c0_1], .agg #[.string a1_0, .slice A1_1 l1_1.length c1_1]] w fun e w' => e = .returned (.bool r) ∧ Below w.heap.size w w' := by
 have hu26 := Try.underlying26
 have hu72 := Try.underlying72
 have HR0_1 := Aside0.mk hr0_1
 have HC0_1 := Aside0.mk hc0_1
 clear hr0_1 hc0_1
 have HR1_1 := Aside0.mk hr1_1
 have HC1_1 := Aside0.mk hc1_1
 clear hr1_1 hc1_1
 have HB := Aside0.mk (Below.refl w.heap.size w)
 have H : (if a0_0.toList = a1_0.toList then (constablekeep_Atom.j0 k ((l0_1.length : Int) != (l1_1.length : Int)) a0_0 l0_1 a1_0 l1_1) else (constablekeep_Atom.j0 k true a0_0 l0_1 a1_0 l1_1)) = some r := h
 clear h
 have HC3 := Aside0.mk H
 clear H
 go_enter Try.func31, Try.ntmps31
 go_upto_region 1 with (first | ((with_reducible refine gate_dst (N := 2) rfl ?_); (try (refine gate_guard (by rfl) ?_; dsimp only)); refine box_event ?hg (N := 2) ?hd (cs := #[.string a0_0, .slice A0_1 l0_1.length c0_1]) (t := 26) ?hr ?_; (case hd => rfl); (case hg => rfl); (case hr => first | (go_simp; done) | (go_simp; rfl)); intro gb273 hg w4 hbox hb; have BK273 := Aside0.mk (hbox); have GW273 := gs_ hg (be_ HB); have GE273 := gs_ hg (be_ HB); replace HB := bs_ (be_ HB) hb; clear hb hbox hg) | ((with_reducible refine gate_dst (N := 3) rfl ?_); (try (refine gate_guard (by rfl) ?_; dsimp only)); refine box_event ?hg (N := 3) ?hd (cs := #[.string a1_0, .slice A1_1 l1_1.length c1_1]) (t := 26) ?hr ?_; (case hd => rfl); (case hg => rfl); (case hr => first | (go_simp; done) | (go_simp; rfl)); intro gb274 hg w5 hbox hb; have BK274 := Aside0.mk (hbox); have GW274 := gs_ hg (be_ HB); have GE274 := gs_ hg (be_ HB); replace HB := bs_ (be_ HB) hb; have NB273_274 := nl_ hg (bu_ BK273); have NB274_273 := ng_ hg (bu_ BK273); replace BK273 := bb_ (bu_ BK273) hb; clear hb hbox hg))
 repeat (go_quiet (first | ((with_reducible refine gate_dst (N := 2) rfl ?_); (try (refine gate_guard (by rfl) ?_; dsimp only)); refine box_event ?hg (N := 2) ?hd (cs := #[.string a0_0, .slice A0_1 l0_1.length c0_1]) (t := 26) ?hr ?_; (case hd => rfl); (case hg => rfl); (case hr => first | (go_simp; done) | (go_simp; rfl)); intro gb273 hg w4 hbox hb; have BK273 := Aside0.mk (hbox); have GW273 := gs_ hg (be_ HB); have GE273 := gs_ hg (be_ HB); replace HB := bs_ (be_ HB) hb; clear hb hbox hg) | ((with_reducible refine gate_dst (N := 3) rfl ?_); (try (refine gate_guard (by rfl) ?_; dsimp only)); refine box_event ?hg (N := 3) ?hd (cs := #[.string a1_0, .slice A1_1 l1_1.length c1_1]) (t := 26) ?hr ?_; (case hd => rfl); (case hg => rfl); (case hr => first | (go_simp; done) | (go_simp; rfl)); intro gb274 hg w5 hbox hb; have BK274 := Aside0.mk (hbox); have GW274 := gs_ hg (be_ HB); have GE274 := gs_ hg (be_ HB); replace HB := bs_ (be_ HB) hb; have NB273_274 := nl_ hg (bu_ BK273); have NB274_273 := ng_ hg (bu_ BK273); replace BK273 := bb_ (bu_ BK273) hb; clear hb hbox hg)); go_upto_region 1 with (first | ((with_reducible refine gate_dst (N := 2) rfl ?_); (try (refine gate_guard (by rfl) ?_; dsimp only)); refine box_event ?hg (N := 2) ?hd (cs := #[.string a0_0, .slice A0_1 l0_1.length c0_1]) (t := 26) ?hr ?_; (case hd => rfl); (case hg => rfl); (case hr => first | (go_simp; done) | (go_simp; rfl)); intro gb273 hg w4 hbox hb; have BK273 := Aside0.mk (hbox); have GW273 := gs_ hg (be_ HB); have GE273 := gs_ hg (be_ HB); replace HB := bs_ (be_ HB) hb; clear hb hbox hg) | ((with_reducible refine gate_dst (N := 3) rfl ?_); (try (refine gate_guard (by rfl) ?_; dsimp only)); refine box_event ?hg (N := 3) ?hd (cs := #[.string a1_0, .slice A1_1 l1_1.length c1_1]) (t := 26) ?hr ?_; (case hd => rfl); (case hg => rfl); (case hr => first | (go_simp; done) | (go_simp; rfl)); intro gb274 hg w5 hbox hb; have BK274 := Aside0.mk (hbox); have GW274 := gs_ hg (be_ HB); have GE274 := gs_ hg (be_ HB); replace HB := bs_ (be_ HB) hb; have NB273_274 := nl_ hg (bu_ BK273); have NB274_273 := ng_ hg (bu_ BK273); replace BK273 := bb_ (bu_ BK273) hb; clear hb hbox hg)))
 (try simp only [Act.put, List.setIfInBounds_toArray, List.set_cons_zero, List.set_cons_succ])
 go_cut [19] (fun v19 wc => ∃ (kq : Nat) (x19_2 : Bool), v19 = .bool x19_2 ∧ Aside0 (constablekeep_Atom.j0 kq x19_2 a0_0 l0_1 a1_0 l1_1 = some r) ∧ Aside0 (kq ≤ k) ∧ Aside0 (wc.heap[gb273]? = some (.cells #[.string a0_0, (.slice A0_1 l0_1.length c0_1)] 26 (0, 0))) ∧ Aside0 (wc.heap[gb274]? = some (.cells #[.string a1_0, (.slice A1_1 l1_1.length c1_1)] 26 (0, 0))) ∧ Aside0 (Below w.heap.size w wc))
 case first =>
  have H := HC3.out
  clear HC3
  by_cases c6 : a0_0.toList = a1_0.toList
  ·rw [if_pos c6] at H
   obtain ⟨c6b0, c6b1⟩ := eqB_ c6
   clear c6
   (first | rw [c6b0] | (simp only [i64_w, i32_w]; rw [c6b0]) | skip)
   have H' := Aside0.mk H
   clear H
   have hnb7 := NB273_274.out
   have hnc7 := NB274_273.out
   have hcz8_0 : w5.cell? ⟨gb273, 0, none⟩ = some (.string a0_0) := (blk_cell BK273.out 0).trans rfl
   have hcz8_1 : w5.cell? ⟨gb273, 1, none⟩ = some (.slice A0_1 l0_1.length c0_1) := (blk_cell BK273.out 1).trans rfl
   have hfz8_0 := blk_frozen BK273.out 0
   have hfz8_1 := blk_frozen BK273.out 1
   have hcz9_0 : w5.cell? ⟨gb274, 0, none⟩ = some (.string a1_0) := (blk_cell BK274.out 0).trans rfl
   have hcz9_1 : w5.cell? ⟨gb274, 1, none⟩ = some (.slice A1_1 l1_1.length c1_1) := (blk_cell BK274.out 1).trans rfl
   have hfz9_0 := blk_frozen BK274.out 0
   have hfz9_1 := blk_frozen BK274.out 1
   go_wp2
   repeat (go_quiet (fail); try go_wp2)
   go_meet
   case rel => exact ⟨_, (((l0_1.length : Int) != (l1_1.length : Int))), ra_, H', le_, bu2_ BK273, bu2_ BK274, be2_ HB⟩
  ·rw [if_neg c6] at H
   obtain ⟨c6b0, c6b1⟩ := neB_ c6
   (first | rw [c6b0] | (simp only [i64_w, i32_w]; rw [c6b0]) | skip)
   have H' := Aside0.mk H
   clear H
   have hnb10 := NB273_274.out
   have hnc10 := NB274_273.out
   have hcz11_0 : w5.cell? ⟨gb273, 0, none⟩ = some (.string a0_0) := (blk_cell BK273.out 0).trans rfl
   have hcz11_1 : w5.cell? ⟨gb273, 1, none⟩ = some (.slice A0_1 l0_1.length c0_1) := (blk_cell BK273.out 1).trans rfl
   have hfz11_0 := blk_frozen BK273.out 0
   have hfz11_1 := blk_frozen BK273.out 1
   have hcz12_0 : w5.cell? ⟨gb274, 0, none⟩ = some (.string a1_0) := (blk_cell BK274.out 0).trans rfl
   have hcz12_1 : w5.cell? ⟨gb274, 1, none⟩ = some (.slice A1_1 l1_1.length c1_1) := (blk_cell BK274.out 1).trans rfl
   have hfz12_0 := blk_frozen BK274.out 0
   have hfz12_1 := blk_frozen BK274.out 1
   go_wp2
   repeat (go_quiet (fail); try go_wp2)
   go_meet
   case rel => exact ⟨_, (true), ra_, H', le_, bu2_ BK273, bu2_ BK274, be2_ HB⟩
 case rest =>
  clear HC3
  try clear c1; try clear p2; try clear c3; try clear c6; try clear c6b0; try clear c6b1; try clear c7; try clear c10; try clear hcz11_0; try clear hcz11_1; try clear hcz12_0; try clear hcz12_1; try clear hcz8_0; try clear hcz8_1; try clear hcz9_0; try clear hcz9_1; try clear hfz11_0; try clear hfz11_1; try clear hfz12_0; try clear hfz12_1; try clear hfz8_0; try clear hfz8_1; try clear hfz9_0; try clear hfz9_1
  obtain ⟨kq, x19_2, rfl, HA, HJ2, BK273, BK274, HB⟩ := hcut
  cases kq with
  | zero => exact absurd HA.out (by simp [constablekeep_Atom.j0])
  | succ kj2 =>
   have H := HA.out
   clear HA
   simp only [constablekeep_Atom.j0] at H
   by_cases c13 : x19_2 = true
   ·subst c13
    rw [if_pos rfl] at H
    obtain rfl := Option.some.inj H
    go_wp2
    repeat (go_quiet (fail); try go_wp2)
    go_ret
    exact ⟨re_, be_ HB⟩
   ·replace c13 := Bool.eq_false_iff.mpr c13
    subst c13
    rw [if_neg (show ¬ (false = true) by decide)] at H
    have H' := Aside0.mk H
    clear H
    go_wp2
    repeat (go_quiet (fail); try go_wp2)
    go_loopg [5] kj2 (fun kq v5 w' => ∃ (x5_2 : Int), v5 = .int .i64 x5_2 ∧ Aside0 (constablekeep_Atom.l0 kq x5_2 a0_0 l0_1 a1_0 l1_1 = some r) ∧ Aside0 (kq ≤ kj2) ∧ Aside0 (w'.heap[gb273]? = some (.cells #[.string a0_0, (.slice A0_1 l0_1.length c0_1)] 26 (0, 0))) ∧ Aside0 (w'.heap[gb274]? = some (.cells #[.string a1_0, (.slice A1_1 l1_1.length c1_1)] 26 (0, 0))) ∧ Aside0 (Below w.heap.size w w'))
    case atStart => exact ⟨(0), ra_, H', ⟨Nat.le_refl _⟩, bu2_ BK273, bu2_ BK274, be2_ HB⟩
    case round =>
     clear H'
     try clear c1; try clear p2; try clear c3; try clear c6; try clear c6b0; try clear c6b1; try clear c7; try clear c10; try clear c13; try clear hcz11_0; try clear hcz11_1; try clear hcz12_0; try clear hcz12_1; try clear hcz8_0; try clear hcz8_1; try clear hcz9_0; try clear hcz9_1; try clear hfz11_0; try clear hfz11_1; try clear hfz12_0; try clear hfz12_1; try clear hfz8_0; try clear hfz8_1; try clear hfz9_0; try clear hfz9_1; try clear p2
     obtain ⟨x5_2, rfl, HA, HK2, BK273, BK274, HB⟩ := hrel
     cases gk with
     | zero => exact absurd HA.out (by simp [constablekeep_Atom.l0])
     | succ k2 =>
      have H := HA.out
      clear HA
      simp only [constablekeep_Atom.l0] at H
      by_cases c14 : x5_2 < (l0_1.length : Int)
      ·rw [if_pos c14] at H
       have c14b0 : decide (x5_2 < (l0_1.length : Int)) = true := decide_eq_true c14
       clear c14
       by_cases c15 : 0 ≤ x5_2
       ·rw [if_pos c15] at H
        have c15b0 : decide (0 ≤ x5_2) = true := decide_eq_true c15
        clear c15
        by_cases c16 : x5_2 < (l1_1.length : Int)
        ·rw [if_pos c16] at H
         have c16b0 : decide (x5_2 < (l1_1.length : Int)) = true := decide_eq_true c16
         clear c16
         by_cases c17 : (!((((rd_T72 l0_1 x5_2).f0).toList) == (((rd_T72 l1_1 x5_2).f0).toList)) || ((!(((rd_T72 l0_1 x5_2).f1.f0) == ((rd_T72 l1_1 x5_2).f1.f0)) || (!(((rd_T72 l0_1 x5_2).f1.f1) == ((rd_T72 l1_1 x5_2).f1.f1)) || (!((((rd_T72 l0_1 x5_2).f1.f2).toList) == (((rd_T72 l1_1 x5_2).f1.f2).toList))))))) = true
         ·rw [if_pos c17] at H
          have c17b0 : (!((((rd_T72 l0_1 x5_2).f0).toList) == (((rd_T72 l1_1 x5_2).f0).toList)) || ((!(((rd_T72 l0_1 x5_2).f1.f0) == ((rd_T72 l1_1 x5_2).f1.f0)) || (!(((rd_T72 l0_1 x5_2).f1.f1) == ((rd_T72 l1_1 x5_2).f1.f1)) || (!((((rd_T72 l0_1 x5_2).f1.f2).toList) == (((rd_T72 l1_1 x5_2).f1.f2).toList))))))) = true := c17
          clear c17
          obtain rfl := Option.some.inj H
          have hnb18 := NB273_274.out
          have hnc18 := NB274_273.out
          have hcz19_0 : wr.cell? ⟨gb273, 0, none⟩ = some (.string a0_0) := (blk_cell BK273.out 0).trans rfl
          have hcz19_1 : wr.cell? ⟨gb273, 1, none⟩ = some (.slice A0_1 l0_1.length c0_1) := (blk_cell BK273.out 1).trans rfl
          have hfz19_0 := blk_frozen BK273.out 0
          have hfz19_1 := blk_frozen BK273.out 1
          have p275 : 0 ≤ (x5_2 : Int) := dt_
          have q275 : x5_2 < (l0_1.length : Int) := dt_
          obtain ⟨ad275, e275, hx275_0, hx275_1, hx275_2, hx275_3⟩ := at_T72 HR0_1.out x5_2 p275 q275
          cases e275
          replace hx275_0 := cm_ HB hx275_0
          replace hx275_1 := cm_ HB hx275_1
          replace hx275_2 := cm_ HB hx275_2
          replace hx275_3 := cm_ HB hx275_3
          replace p275 := eq_true p275
          replace q275 := eq_true q275
          have hcz20_0 : wr.cell? ⟨gb274, 0, none⟩ = some (.string a1_0) := (blk_cell BK274.out 0).trans rfl
          have hcz20_1 : wr.cell? ⟨gb274, 1, none⟩ = some (.slice A1_1 l1_1.length c1_1) := (blk_cell BK274.out 1).trans rfl
          have hfz20_0 := blk_frozen BK274.out 0
          have hfz20_1 := blk_frozen BK274.out 1
          have p276 : 0 ≤ (x5_2 : Int) := dt_
          have q276 : x5_2 < (l1_1.length : Int) := dt_
          obtain ⟨ad276, e276, hx276_0, hx276_1, hx276_2, hx276_3⟩ := at_T72 HR1_1.out x5_2 p276 q276
          cases e276
          replace hx276_0 := cm_ HB hx276_0
          replace hx276_1 := cm_ HB hx276_1
          replace hx276_2 := cm_ HB hx276_2
          replace hx276_3 := cm_ HB hx276_3
          replace p276 := eq_true p276
          replace q276 := eq_true q276
          go_wp2
          repeat (go_quiet (fail); try go_wp2)
          go_ret
          exact ⟨re_, be_ HB⟩
         ·rw [if_neg c17] at H
          have c17b0 := Bool.eq_false_iff.2 c17
          clear c17
          have H' := Aside0.mk H
          clear H
          have hnb21 := NB273_274.out
          have hnc21 := NB274_273.out
          have hcz22_0 : wr.cell? ⟨gb273, 0, none⟩ = some (.string a0_0) := (blk_cell BK273.out 0).trans rfl
          have hcz22_1 : wr.cell? ⟨gb273, 1, none⟩ = some (.slice A0_1 l0_1.length c0_1) := (blk_cell BK273.out 1).trans rfl
          have hfz22_0 := blk_frozen BK273.out 0
          have hfz22_1 := blk_frozen BK273.out 1
          have p275 : 0 ≤ (x5_2 : Int) := dt_
          have q275 : x5_2 < (l0_1.length : Int) := dt_
          obtain ⟨ad275, e275, hx275_0, hx275_1, hx275_2, hx275_3⟩ := at_T72 HR0_1.out x5_2 p275 q275
          cases e275
          replace hx275_0 := cm_ HB hx275_0
          replace hx275_1 := cm_ HB hx275_1
          replace hx275_2 := cm_ HB hx275_2
          replace hx275_3 := cm_ HB hx275_3
          replace p275 := eq_true p275
          replace q275 := eq_true q275
          have hcz23_0 : wr.cell? ⟨gb274, 0, none⟩ = some (.string a1_0) := (blk_cell BK274.out 0).trans rfl
          have hcz23_1 : wr.cell? ⟨gb274, 1, none⟩ = some (.slice A1_1 l1_1.length c1_1) := (blk_cell BK274.out 1).trans rfl
          have hfz23_0 := blk_frozen BK274.out 0
          have hfz23_1 := blk_frozen BK274.out 1
          have p276 : 0 ≤ (x5_2 : Int) := dt_
          have q276 : x5_2 < (l1_1.length : Int) := dt_
          obtain ⟨ad276, e276, hx276_0, hx276_1, hx276_2, hx276_3⟩ := at_T72 HR1_1.out x5_2 p276 q276
          cases e276
          replace hx276_0 := cm_ HB hx276_0
          replace hx276_1 := cm_ HB hx276_1
          replace hx276_2 := cm_ HB hx276_2
          replace hx276_3 := cm_ HB hx276_3
          replace p276 := eq_true p276
          replace q276 := eq_true q276
          go_wp2
          repeat (go_quiet (fail); try go_wp2)
          go_roundg k2
          case measure => have := HJ2.out; have := HK2.out; omega
          case rel => exact ⟨(wrap64 (x5_2 + 1)), ra_, H', ⟨by have := HJ2.out; have := HK2.out; omega⟩, bu2_ BK273, bu2_ BK274, be2_ HB⟩
        ·rw [if_neg c16] at H
         exact absurd H (by simp)
       ·rw [if_neg c15] at H
        exact absurd H (by simp)
      ·rw [if_neg c14] at H
       have c14b0 : decide (x5_2 < (l0_1.length : Int)) = false := decide_eq_false c14
       clear c14
       obtain rfl := Option.some.inj H
       have hnb24 := NB273_274.out
       have hnc24 := NB274_273.out
       have hcz25_0 : wr.cell? ⟨gb273, 0, none⟩ = some (.string a0_0) := (blk_cell BK273.out 0).trans rfl
       have hcz25_1 : wr.cell? ⟨gb273, 1, none⟩ = some (.slice A0_1 l0_1.length c0_1) := (blk_cell BK273.out 1).trans rfl
       have hfz25_0 := blk_frozen BK273.out 0
       have hfz25_1 := blk_frozen BK273.out 1
       go_wp2
       repeat (go_quiet (fail); try go_wp2)
       go_ret
       exact ⟨re_, be_ HB⟩
end Go.Proofs.Ytaopajmpifenoaa.P
end
section
namespace Go.Proofs.Ytaopajmpifenoaa.P
open Go.RowKit Go.Proofs.YtaopajmpifenoaaW.PrintWords Go.Proofs.YtaopajmpifenoaaW.PrintLast Go.Proofs.YtaopajmpifenoaaW.PrintMore
attribute [local go_sem] max2_int min2_int max_two min_two max_three min_three max_four min_four
set_option linter.unusedVariables false
set_option linter.unusedSimpArgs false
theorem eqA67 (d : Nat) (w : World) (x0 y0 : Int) (x1 y1 : ByteArray) (x2 y2 : Int) (x3 y3 : Int) (x4 y4 : ByteArray) :
  (Op.equalIn (d + 3) 67 (.agg #[.int .i64 x0, .string x1, .int .i64 x2, .int .i64 x3, .string x4]) (.agg #[.int .i64 y0, .string y1, .int .i64 y2, .int .i64 y3, .string y4])).run Try.prog w = .ok (x0 == y0 && (x1.toList == y1.toList && ((x2 == y2 && (x3 == y3 && (x4.toList == y4.toList)))))) w := by
 refine eqA_of Try.underlying67 (by kernel_rfl) ?_
 refine eqf_cons (by rfl) (by go_simp; rfl) (by go_simp; rfl) (by go_simp) ?_
 refine eqf_cons (by rfl) (by go_simp; rfl) (by go_simp; rfl) (by go_simp) ?_
 exact eqf_last (by rfl) (by go_simp) (by go_simp) (eqA23 (d + 0) w _ _ _ _ _ _)
end Go.Proofs.Ytaopajmpifenoaa.P
end
section
namespace Go.Proofs.Ytaopajmpifenoaa.P
open Go.RowKit Go.Proofs.YtaopajmpifenoaaW.PrintWords Go.Proofs.YtaopajmpifenoaaW.PrintLast Go.Proofs.YtaopajmpifenoaaW.PrintMore
attribute [local go_sem] max2_int min2_int max_two min_two max_three min_three max_four min_four
set_option linter.unusedVariables false
set_option linter.unusedSimpArgs false
attribute [local go_sem high] eqA67
def constablekeep_Ops.l0 : Nat → List (S67) → List (S67) → Int → Option (Bool)
 | 0, _, _, _ => none
 | k + 1, x0, x1, x5 => if x5 < (x0.length : Int) then (if 0 ≤ x5 then (if x5 < (x1.length : Int) then (if (!(((rd_T67 x0 x5).f0) == ((rd_T67 x1 x5).f0)) || (!((((rd_T67 x0 x5).f1).toList) == (((rd_T67 x1 x5).f1).toList)) || ((!(((rd_T67 x0 x5).f2.f0) == ((rd_T67 x1 x5).f2.f0)) || (!(((rd_T67 x0 x5).f2.f1) == ((rd_T67 x1 x5).f2.f1)) || (!((((rd_T67 x0 x5).f2.f2).toList) == (((rd_T67 x1 x5).f2.f2).toList)))))))) = true then (some false) else (constablekeep_Ops.l0 k x0 x1 (wrap64 (x5 + 1)))) else (none)) else (none)) else (some true)
def constablekeep_Ops.f (k : Nat) (l0 : List (S67)) (l1 : List (S67)) : Option (Bool) := if (l0.length : Int) = (l1.length : Int) then (constablekeep_Ops.l0 k l0 l1 0) else (some false)
theorem constablekeep_Ops.mono_l : ∀ k, (∀ y0 y1 y2, LeO (constablekeep_Ops.l0 k y0 y1 y2) (constablekeep_Ops.l0 (k + 1) y0 y1 y2))
 | 0 => fun _ _ _ r h => by simp [constablekeep_Ops.l0] at h
 | k + 1 => by
  have ih0 := constablekeep_Ops.mono_l k
  ·intro y0 y1 y2
   unfold constablekeep_Ops.l0
   repeat' first
   | (with_reducible exact ih0 _ _ _)
   | (with_reducible exact LeO.refl _)
   | (with_reducible exact LeO.none _)
   | (with_reducible refine LeO.ite ?_ ?_)
   | (with_reducible refine LeO.bind ?_ (fun _ => ?_))
   | exact ih0 _ _ _
   | exact LeO.none _
   | refine LeO.ite ?_ ?_
   | refine LeO.bind ?_ (fun _ => ?_)
theorem constablekeep_Ops.mono : ∀ a0 a1 k, LeO (constablekeep_Ops.f k a0 a1) (constablekeep_Ops.f (k + 1) a0 a1) := by
 intro a0 a1 k
 have ih0 := constablekeep_Ops.mono_l k
 unfold constablekeep_Ops.f
 repeat' first
   | (with_reducible exact ih0 _ _ _)
   | (with_reducible exact LeO.refl _)
   | (with_reducible exact LeO.none _)
   | (with_reducible refine LeO.ite ?_ ?_)
   | (with_reducible refine LeO.bind ?_ (fun _ => ?_))
   | exact ih0 _ _ _
   | exact LeO.none _
   | refine LeO.ite ?_ ?_
   | refine LeO.bind ?_ (fun _ => ?_)
set_option maxHeartbeats 8000000 in
set_option maxRecDepth 100000 in
theorem constablekeep_Ops.calls (k : Nat) (A0 : Option Addr) (c0 : Nat) (l0 : List (S67)) (A1 : Option Addr) (c1 : Nat) (l1 : List (S67)) (r : Bool) (w : World) (hr0 : Kd.C k67 w A0 l0.length l0) (hc0 : l0.length ≤ c0) (hr1 : Kd.C k67 w A1 l1.length l1) (hc1 : l1.length ≤ c1) (h : constablekeep_Ops.f k l0 l1 = some r) :
  Calls Try.prog 32 #[.slice A0 l0.length c0, .slice A1 l1.length c1] w fun e w' => e = .returned (.bool r) ∧ Drawn0 w w' := by
 have hu67 := Try.underlying67
 have HR0 := Aside0.mk hr0
 have HC0 := Aside0.mk hc0
 clear hr0 hc0
 have HR1 := Aside0.mk hr1
 have HC1 := Aside0.mk hc1
 clear hr1 hc1
 have H : (if (l0.length : Int) = (l1.length : Int) then (constablekeep_Ops.l0 k l0 l1 0) else (some false)) = some r := h
 clear h
 by_cases c3 : (l0.length : Int) = (l1.length : Int)
 ·rw [if_pos c3] at H
  obtain ⟨c3b0, c3b1⟩ := eqB_ c3
  have c3b2 : (l0.length == l1.length) = true := by first | simpa using c3 | (simp at c3 ⊢; omega)
  clear c3
  have H' := Aside0.mk H
  clear H
  go_enter Try.func32, Try.ntmps32
  go_wp2
  repeat (go_quiet (fail); try go_wp2)
  go_loopg [5] k (fun kq v5 w' => ∃ (x5_1 : Int), v5 = .int .i64 x5_1 ∧ Aside0 (constablekeep_Ops.l0 kq l0 l1 x5_1 = some r) ∧ Aside0 (kq ≤ k) ∧ Drawn0 w w')
  case atStart => exact ⟨(0), ra_, H', ⟨Nat.le_refl _⟩, dz_⟩
  case round =>
   clear H'
   try clear c1; try clear p2; try clear c3; try clear c3b0; try clear c3b1; try clear c3b2
   obtain ⟨x5_1, rfl, HA, HK1, ⟨m1, rfl⟩⟩ := hrel
   cases gk with
   | zero => exact absurd HA.out (by simp [constablekeep_Ops.l0])
   | succ k1 =>
    have H := HA.out
    clear HA
    simp only [constablekeep_Ops.l0] at H
    by_cases c4 : x5_1 < (l0.length : Int)
    ·rw [if_pos c4] at H
     have c4b0 : decide (x5_1 < (l0.length : Int)) = true := decide_eq_true c4
     clear c4
     by_cases c5 : 0 ≤ x5_1
     ·rw [if_pos c5] at H
      have c5b0 : decide (0 ≤ x5_1) = true := decide_eq_true c5
      clear c5
      by_cases c6 : x5_1 < (l1.length : Int)
      ·rw [if_pos c6] at H
       have c6b0 : decide (x5_1 < (l1.length : Int)) = true := decide_eq_true c6
       clear c6
       by_cases c7 : (!(((rd_T67 l0 x5_1).f0) == ((rd_T67 l1 x5_1).f0)) || (!((((rd_T67 l0 x5_1).f1).toList) == (((rd_T67 l1 x5_1).f1).toList)) || ((!(((rd_T67 l0 x5_1).f2.f0) == ((rd_T67 l1 x5_1).f2.f0)) || (!(((rd_T67 l0 x5_1).f2.f1) == ((rd_T67 l1 x5_1).f2.f1)) || (!((((rd_T67 l0 x5_1).f2.f2).toList) == (((rd_T67 l1 x5_1).f2.f2).toList)))))))) = true
       ·rw [if_pos c7] at H
        have c7b0 : (!(((rd_T67 l0 x5_1).f0) == ((rd_T67 l1 x5_1).f0)) || (!((((rd_T67 l0 x5_1).f1).toList) == (((rd_T67 l1 x5_1).f1).toList)) || ((!(((rd_T67 l0 x5_1).f2.f0) == ((rd_T67 l1 x5_1).f2.f0)) || (!(((rd_T67 l0 x5_1).f2.f1) == ((rd_T67 l1 x5_1).f2.f1)) || (!((((rd_T67 l0 x5_1).f2.f2).toList) == (((rd_T67 l1 x5_1).f2.f2).toList)))))))) = true := c7
        clear c7
        obtain rfl := Option.some.inj H
        have p277 : 0 ≤ (x5_1 : Int) := dt_
        have q277 : x5_1 < (l0.length : Int) := dt_
        obtain ⟨ad277, e277, hx277_0, hx277_1, hx277_2, hx277_3, hx277_4⟩ := at_T67 HR0.out x5_1 p277 q277
        cases e277
        replace p277 := eq_true p277
        replace q277 := eq_true q277
        have p278 : 0 ≤ (x5_1 : Int) := dt_
        have q278 : x5_1 < (l1.length : Int) := dt_
        obtain ⟨ad278, e278, hx278_0, hx278_1, hx278_2, hx278_3, hx278_4⟩ := at_T67 HR1.out x5_1 p278 q278
        cases e278
        replace p278 := eq_true p278
        replace q278 := eq_true q278
        go_wp2
        repeat (go_quiet (fail); try go_wp2)
        go_ret
        exact rz_
       ·rw [if_neg c7] at H
        have c7b0 := Bool.eq_false_iff.2 c7
        clear c7
        have H' := Aside0.mk H
        clear H
        have p277 : 0 ≤ (x5_1 : Int) := dt_
        have q277 : x5_1 < (l0.length : Int) := dt_
        obtain ⟨ad277, e277, hx277_0, hx277_1, hx277_2, hx277_3, hx277_4⟩ := at_T67 HR0.out x5_1 p277 q277
        cases e277
        replace p277 := eq_true p277
        replace q277 := eq_true q277
        have p278 : 0 ≤ (x5_1 : Int) := dt_
        have q278 : x5_1 < (l1.length : Int) := dt_
        obtain ⟨ad278, e278, hx278_0, hx278_1, hx278_2, hx278_3, hx278_4⟩ := at_T67 HR1.out x5_1 p278 q278
        cases e278
        replace p278 := eq_true p278
        replace q278 := eq_true q278
        go_wp2
        repeat (go_quiet (fail); try go_wp2)
        go_roundg k1
        case measure => have := HK1.out; omega
        case rel => exact ⟨(wrap64 (x5_1 + 1)), ra_, H', ⟨by have := HK1.out; omega⟩, dz_⟩
      ·rw [if_neg c6] at H
       exact absurd H (by simp)
     ·rw [if_neg c5] at H
      exact absurd H (by simp)
    ·rw [if_neg c4] at H
     have c4b0 : decide (x5_1 < (l0.length : Int)) = false := decide_eq_false c4
     clear c4
     obtain rfl := Option.some.inj H
     go_wp2
     repeat (go_quiet (fail); try go_wp2)
     go_ret
     exact rz_
 ·rw [if_neg c3] at H
  obtain ⟨c3b0, c3b1⟩ := neB_ c3
  have c3b2 : (l0.length == l1.length) = false := by first | simpa using c3 | (simp at c3 ⊢; omega)
  obtain rfl := Option.some.inj H
  go_enter Try.func32, Try.ntmps32
  go_wp2
  repeat (go_quiet (fail); try go_wp2)
  go_ret
  exact rz_
end Go.Proofs.Ytaopajmpifenoaa.P
end
section
namespace Go.Proofs.Ytaopajmpifenoaa.P
open Go.RowKit Go.Proofs.YtaopajmpifenoaaW.PrintWords Go.Proofs.YtaopajmpifenoaaW.PrintLast Go.Proofs.YtaopajmpifenoaaW.PrintMore
attribute [local go_sem] max2_int min2_int max_two min_two max_three min_three max_four min_four
set_option linter.unusedVariables false
set_option linter.unusedSimpArgs false
def constablekeep_Cond.f (k : Nat) (a0_0 : Int) (a0_1 : ByteArray) (l0_2 : List (S72)) (a0_3 : Int) (l0_4 : List (S67)) (l0_5 : List (S67)) (a1_0 : Int) (a1_1 : ByteArray) (l1_2 : List (S72)) (a1_3 : Int) (l1_4 : List (S67)) (l1_5 : List (S67)) : Option (Bool) := if a0_0 = a1_0 then ((constablekeep_Atom.f k a0_1 l0_2 a1_1 l1_2).bind fun t281 => (if t281 = true then (if a0_3 = a1_3 then ((constablekeep_Ops.f k l0_4 l1_4).bind fun t282 => (if t282 = true then ((constablekeep_Ops.f k l0_5 l1_5).bind fun t283 => (some t283)) else (some false))) else (some false)) else (some false))) else (some false)
theorem constablekeep_Cond.mono : ∀ a0 a1 a2 a3 a4 a5 a6 a7 a8 a9 a10 a11 k, LeO (constablekeep_Cond.f k a0 a1 a2 a3 a4 a5 a6 a7 a8 a9 a10 a11) (constablekeep_Cond.f (k + 1) a0 a1 a2 a3 a4 a5 a6 a7 a8 a9 a10 a11) := by
 intro a0 a1 a2 a3 a4 a5 a6 a7 a8 a9 a10 a11 k
 unfold constablekeep_Cond.f
 repeat' first
   | (with_reducible exact constablekeep_Atom.mono ..)
   | (with_reducible exact constablekeep_Ops.mono ..)
   | (with_reducible exact LeO.refl _)
   | (with_reducible exact LeO.none _)
   | (with_reducible refine LeO.ite ?_ ?_)
   | (with_reducible refine LeO.bind ?_ (fun _ => ?_))
   | exact constablekeep_Atom.mono ..
   | exact constablekeep_Ops.mono ..
   | exact LeO.none _
   | refine LeO.ite ?_ ?_
   | refine LeO.bind ?_ (fun _ => ?_)
set_option maxHeartbeats 8000000 in
set_option maxRecDepth 100000 in
theorem constablekeep_Cond.calls (k : Nat) (a0_0 : Int) (a0_1 : ByteArray) (A0_2 : Option Addr) (c0_2 : Nat) (l0_2 : List (S72)) (a0_3 : Int) (A0_4 : Option Addr) (c0_4 : Nat) (l0_4 : List (S67)) (A0_5 : Option Addr) (c0_5 : Nat) (l0_5 : List (S67)) (a1_0 : Int) (a1_1 : ByteArray) (A1_2 : Option Addr) (c1_2 : Nat) (l1_2 : List (S72)) (a1_3 : Int) (A1_4 : Option Addr) (c1_4 : Nat) (l1_4 : List (S67)) (A1_5 : Option Addr) (c1_5 : Nat) (l1_5 : List (S67)) (r : Bool) (w : World) (hr0_2 : Kd.C k72 w A0_2 l0_2.length l0_2) (hc0_2 : l0_2.length ≤ c0_2) (hr0_4 : Kd.C k67 w A0_4 l0_4.length l0_4) (hc0_4 : l0_4.length ≤ c0_4) (hr0_5 : Kd.C k67 w A0_5 l0_5.length l0_5) (hc0_5 : l0_5.length ≤ c0_5) (hr1_2 : Kd.C k72 w A1_2 l1_2.length l1_2) (hc1_2 : l1_2.length ≤ c1_2) (hr1_4 : Kd.C k67 w A1_4 l1_4.length l1_4) (hc1_4 : l1_4.length ≤ c1_4) (hr1_5 : Kd.C k67 w A1_5 l1_5.length l1_5) (hc1_5 : l1_5.length ≤ c1_5) (h : constablekeep_Cond.f k a0_0 a0_1 l0_2 a0_3 l0_4 l0_5 a1_0 a1_1 l1_2 a1_3 l1_4 l1_5 = some r) :
  Calls Try.prog 13 #[.agg #[.int .i64 a0_0, .string a0_1, .slice A0_2 l0_2.length c0_2, .int .i64 a0_3, .slice A0_4 l0_4.length c0_4, .slice A0_5 l0_5.length c0_5], .agg #[.int .i64 a1_0, .string a1_1, .slice A1_2 l1_2.length c1_2, .int .i64 a1_3, .slice A1_4 l1_4.length c1_4, .slice A1_5 l1_5.length c1_5]] w fun e w' => e = .returned (.bool r) ∧ Below w.heap.size w w' := by
 have hu29 := Try.underlying29
 have hu26 := Try.underlying26
 have HR0_2 := Aside0.mk hr0_2
 have HC0_2 := Aside0.mk hc0_2
 clear hr0_2 hc0_2
 have HR0_4 := Aside0.mk hr0_4
 have HC0_4 := Aside0.mk hc0_4
 clear hr0_4 hc0_4
 have HR0_5 := Aside0.mk hr0_5
 have HC0_5 := Aside0.mk hc0_5
 clear hr0_5 hc0_5
 have HR1_2 := Aside0.mk hr1_2
 have HC1_2 := Aside0.mk hc1_2
 clear hr1_2 hc1_2
 have HR1_4 := Aside0.mk hr1_4
 have HC1_4 := Aside0.mk hc1_4
 clear hr1_4 hc1_4
 have HR1_5 := Aside0.mk hr1_5
 have HC1_5 := Aside0.mk hc1_5
 clear hr1_5 hc1_5
 have HB := Aside0.mk (Below.refl w.heap.size w)
 have H : (if a0_0 = a1_0 then ((constablekeep_Atom.f k a0_1 l0_2 a1_1 l1_2).bind fun t281 => (if t281 = true then (if a0_3 = a1_3 then ((constablekeep_Ops.f k l0_4 l1_4).bind fun t282 => (if t282 = true then ((constablekeep_Ops.f k l0_5 l1_5).bind fun t283 => (some t283)) else (some false))) else (some false)) else (some false))) else (some false)) = some r := h
 clear h
 by_cases c3 : a0_0 = a1_0
 ·rw [if_pos c3] at H
  obtain ⟨c3b0, c3b1⟩ := eqB_ c3
  clear c3
  replace H := Option.bind_eq_some_iff.mp H
  obtain ⟨t281, A40, H⟩ := H
  try dsimp only at H
  have A4 := Aside0.mk A40
  clear A40
  by_cases c5 : t281 = true
  ·subst c5
   rw [if_pos rfl] at H
   by_cases c6 : a0_3 = a1_3
   ·rw [if_pos c6] at H
    obtain ⟨c6b0, c6b1⟩ := eqB_ c6
    clear c6
    replace H := Option.bind_eq_some_iff.mp H
    obtain ⟨t282, A70, H⟩ := H
    try dsimp only at H
    have A7 := Aside0.mk A70
    clear A70
    by_cases c8 : t282 = true
    ·subst c8
     rw [if_pos rfl] at H
     replace H := Option.bind_eq_some_iff.mp H
     obtain ⟨t283, A90, H⟩ := H
     try dsimp only at H
     have A9 := Aside0.mk A90
     clear A90
     obtain rfl := Option.some.inj H
     go_enter Try.func13, Try.ntmps13
     go_wp2_with (first | ((with_reducible refine gate_dst (N := 2) rfl ?_); refine box_event ?hg (N := 2) ?hd (cs := #[.int .i64 a0_0, .string a0_1, .slice A0_2 l0_2.length c0_2, .int .i64 a0_3, .slice A0_4 l0_4.length c0_4, .slice A0_5 l0_5.length c0_5]) (t := 29) ?hr ?_; (case hd => rfl); (case hg => rfl); (case hr => first | (go_simp; done) | (go_simp; rfl)); intro gb279 hg w10 hbox hb; have BK279 := Aside0.mk (hbox); have GW279 := gs_ hg (be_ HB); have GE279 := gs_ hg (be_ HB); replace HB := bs_ (be_ HB) hb; clear hb hbox hg) | ((with_reducible refine gate_dst (N := 3) rfl ?_); refine box_event ?hg (N := 3) ?hd (cs := #[.int .i64 a1_0, .string a1_1, .slice A1_2 l1_2.length c1_2, .int .i64 a1_3, .slice A1_4 l1_4.length c1_4, .slice A1_5 l1_5.length c1_5]) (t := 29) ?hr ?_; (case hd => rfl); (case hg => rfl); (case hr => first | (go_simp; done) | (go_simp; rfl)); intro gb280 hg w11 hbox hb; have BK280 := Aside0.mk (hbox); have GW280 := gs_ hg (be_ HB); have GE280 := gs_ hg (be_ HB); replace HB := bs_ (be_ HB) hb; have NB279_280 := nl_ hg (bu_ BK279); have NB280_279 := ng_ hg (bu_ BK279); replace BK279 := bb_ (bu_ BK279) hb; clear hb hbox hg; have hnb12 := NB279_280.out; have hnc12 := NB280_279.out; have hcz13_0 : w11.cell? ⟨gb279, 0, none⟩ = some (.int .i64 a0_0) := (blk_cell BK279.out 0).trans rfl; have hcz13_1 : w11.cell? ⟨gb279, 1, none⟩ = some (.string a0_1) := (blk_cell BK279.out 1).trans rfl; have hcz13_2 : w11.cell? ⟨gb279, 2, none⟩ = some (.slice A0_2 l0_2.length c0_2) := (blk_cell BK279.out 2).trans rfl; have hcz13_3 : w11.cell? ⟨gb279, 3, none⟩ = some (.int .i64 a0_3) := (blk_cell BK279.out 3).trans rfl; have hcz13_4 : w11.cell? ⟨gb279, 4, none⟩ = some (.slice A0_4 l0_4.length c0_4) := (blk_cell BK279.out 4).trans rfl; have hcz13_5 : w11.cell? ⟨gb279, 5, none⟩ = some (.slice A0_5 l0_5.length c0_5) := (blk_cell BK279.out 5).trans rfl; have hfz13_0 := blk_frozen BK279.out 0; have hfz13_1 := blk_frozen BK279.out 1; have hfz13_2 := blk_frozen BK279.out 2; have hfz13_3 := blk_frozen BK279.out 3; have hfz13_4 := blk_frozen BK279.out 4; have hfz13_5 := blk_frozen BK279.out 5; have hcz14_0 : w11.cell? ⟨gb280, 0, none⟩ = some (.int .i64 a1_0) := (blk_cell BK280.out 0).trans rfl; have hcz14_1 : w11.cell? ⟨gb280, 1, none⟩ = some (.string a1_1) := (blk_cell BK280.out 1).trans rfl; have hcz14_2 : w11.cell? ⟨gb280, 2, none⟩ = some (.slice A1_2 l1_2.length c1_2) := (blk_cell BK280.out 2).trans rfl; have hcz14_3 : w11.cell? ⟨gb280, 3, none⟩ = some (.int .i64 a1_3) := (blk_cell BK280.out 3).trans rfl; have hcz14_4 : w11.cell? ⟨gb280, 4, none⟩ = some (.slice A1_4 l1_4.length c1_4) := (blk_cell BK280.out 4).trans rfl; have hcz14_5 : w11.cell? ⟨gb280, 5, none⟩ = some (.slice A1_5 l1_5.length c1_5) := (blk_cell BK280.out 5).trans rfl; have hfz14_0 := blk_frozen BK280.out 0; have hfz14_1 := blk_frozen BK280.out 1; have hfz14_2 := blk_frozen BK280.out 2; have hfz14_3 := blk_frozen BK280.out 3; have hfz14_4 := blk_frozen BK280.out 4; have hfz14_5 := blk_frozen BK280.out 5) | (go_at_call 31; (with_reducible refine (constablekeep_Atom.calls k a0_1 _ _ l0_2 a1_1 _ _ l1_2 true _ ?side1 ?side2 ?side3 ?side4 A4.out).mono ?_); (case side1 => exact kd_ ((Kd.C_below HR0_2.out HB.out))); (case side2 => exact HC0_2.out); (case side3 => exact kd_ ((Kd.C_below HR1_2.out HB.out))); (case side4 => exact HC1_2.out); rintro e w15 ⟨rfl, hb⟩; replace BK279 := bb_ (bu_ BK279) hb; replace BK280 := bb_ (bu_ BK280) hb; replace HB := bs_ (be_ HB) hb; (try clear hb); (try clear hb2); (try clear hk); (try clear hi); have hcz16_0 : w15.cell? ⟨gb279, 0, none⟩ = some (.int .i64 a0_0) := (blk_cell BK279.out 0).trans rfl; have hcz16_1 : w15.cell? ⟨gb279, 1, none⟩ = some (.string a0_1) := (blk_cell BK279.out 1).trans rfl; have hcz16_2 : w15.cell? ⟨gb279, 2, none⟩ = some (.slice A0_2 l0_2.length c0_2) := (blk_cell BK279.out 2).trans rfl; have hcz16_3 : w15.cell? ⟨gb279, 3, none⟩ = some (.int .i64 a0_3) := (blk_cell BK279.out 3).trans rfl; have hcz16_4 : w15.cell? ⟨gb279, 4, none⟩ = some (.slice A0_4 l0_4.length c0_4) := (blk_cell BK279.out 4).trans rfl; have hcz16_5 : w15.cell? ⟨gb279, 5, none⟩ = some (.slice A0_5 l0_5.length c0_5) := (blk_cell BK279.out 5).trans rfl; have hfz16_0 := blk_frozen BK279.out 0; have hfz16_1 := blk_frozen BK279.out 1; have hfz16_2 := blk_frozen BK279.out 2; have hfz16_3 := blk_frozen BK279.out 3; have hfz16_4 := blk_frozen BK279.out 4; have hfz16_5 := blk_frozen BK279.out 5; have hcz17_0 : w15.cell? ⟨gb280, 0, none⟩ = some (.int .i64 a1_0) := (blk_cell BK280.out 0).trans rfl; have hcz17_1 : w15.cell? ⟨gb280, 1, none⟩ = some (.string a1_1) := (blk_cell BK280.out 1).trans rfl; have hcz17_2 : w15.cell? ⟨gb280, 2, none⟩ = some (.slice A1_2 l1_2.length c1_2) := (blk_cell BK280.out 2).trans rfl; have hcz17_3 : w15.cell? ⟨gb280, 3, none⟩ = some (.int .i64 a1_3) := (blk_cell BK280.out 3).trans rfl; have hcz17_4 : w15.cell? ⟨gb280, 4, none⟩ = some (.slice A1_4 l1_4.length c1_4) := (blk_cell BK280.out 4).trans rfl; have hcz17_5 : w15.cell? ⟨gb280, 5, none⟩ = some (.slice A1_5 l1_5.length c1_5) := (blk_cell BK280.out 5).trans rfl; have hfz17_0 := blk_frozen BK280.out 0; have hfz17_1 := blk_frozen BK280.out 1; have hfz17_2 := blk_frozen BK280.out 2; have hfz17_3 := blk_frozen BK280.out 3; have hfz17_4 := blk_frozen BK280.out 4; have hfz17_5 := blk_frozen BK280.out 5) | (go_at_call 32; (with_reducible refine (constablekeep_Ops.calls k _ _ l0_4 _ _ l1_4 true _ ?side1 ?side2 ?side3 ?side4 A7.out).mono ?_); (case side1 => exact kd_ ((Kd.C_below HR0_4.out HB.out))); (case side2 => exact HC0_4.out); (case side3 => exact kd_ ((Kd.C_below HR1_4.out HB.out))); (case side4 => exact HC1_4.out); rintro e w' ⟨rfl, ⟨nd, rfl⟩⟩) | (go_at_call 32; (with_reducible refine (constablekeep_Ops.calls k _ _ l0_5 _ _ l1_5 t283 _ ?side1 ?side2 ?side3 ?side4 A9.out).mono ?_); (case side1 => exact kd_ ((Kd.C_below HR0_5.out (be_ HB)))); (case side2 => exact HC0_5.out); (case side3 => exact kd_ ((Kd.C_below HR1_5.out (be_ HB)))); (case side4 => exact HC1_5.out); rintro e w' ⟨rfl, ⟨nd, rfl⟩⟩))
     go_ret
     exact ⟨re_, be_ HB⟩
    ·replace c8 := Bool.eq_false_iff.mpr c8
     subst c8
     rw [if_neg (show ¬ (false = true) by decide)] at H
     obtain rfl := Option.some.inj H
     go_enter Try.func13, Try.ntmps13
     go_wp2_with (first | ((with_reducible refine gate_dst (N := 2) rfl ?_); refine box_event ?hg (N := 2) ?hd (cs := #[.int .i64 a0_0, .string a0_1, .slice A0_2 l0_2.length c0_2, .int .i64 a0_3, .slice A0_4 l0_4.length c0_4, .slice A0_5 l0_5.length c0_5]) (t := 29) ?hr ?_; (case hd => rfl); (case hg => rfl); (case hr => first | (go_simp; done) | (go_simp; rfl)); intro gb279 hg w18 hbox hb; have BK279 := Aside0.mk (hbox); have GW279 := gs_ hg (be_ HB); have GE279 := gs_ hg (be_ HB); replace HB := bs_ (be_ HB) hb; clear hb hbox hg) | ((with_reducible refine gate_dst (N := 3) rfl ?_); refine box_event ?hg (N := 3) ?hd (cs := #[.int .i64 a1_0, .string a1_1, .slice A1_2 l1_2.length c1_2, .int .i64 a1_3, .slice A1_4 l1_4.length c1_4, .slice A1_5 l1_5.length c1_5]) (t := 29) ?hr ?_; (case hd => rfl); (case hg => rfl); (case hr => first | (go_simp; done) | (go_simp; rfl)); intro gb280 hg w19 hbox hb; have BK280 := Aside0.mk (hbox); have GW280 := gs_ hg (be_ HB); have GE280 := gs_ hg (be_ HB); replace HB := bs_ (be_ HB) hb; have NB279_280 := nl_ hg (bu_ BK279); have NB280_279 := ng_ hg (bu_ BK279); replace BK279 := bb_ (bu_ BK279) hb; clear hb hbox hg; have hnb20 := NB279_280.out; have hnc20 := NB280_279.out; have hcz21_0 : w19.cell? ⟨gb279, 0, none⟩ = some (.int .i64 a0_0) := (blk_cell BK279.out 0).trans rfl; have hcz21_1 : w19.cell? ⟨gb279, 1, none⟩ = some (.string a0_1) := (blk_cell BK279.out 1).trans rfl; have hcz21_2 : w19.cell? ⟨gb279, 2, none⟩ = some (.slice A0_2 l0_2.length c0_2) := (blk_cell BK279.out 2).trans rfl; have hcz21_3 : w19.cell? ⟨gb279, 3, none⟩ = some (.int .i64 a0_3) := (blk_cell BK279.out 3).trans rfl; have hcz21_4 : w19.cell? ⟨gb279, 4, none⟩ = some (.slice A0_4 l0_4.length c0_4) := (blk_cell BK279.out 4).trans rfl; have hcz21_5 : w19.cell? ⟨gb279, 5, none⟩ = some (.slice A0_5 l0_5.length c0_5) := (blk_cell BK279.out 5).trans rfl; have hfz21_0 := blk_frozen BK279.out 0; have hfz21_1 := blk_frozen BK279.out 1; have hfz21_2 := blk_frozen BK279.out 2; have hfz21_3 := blk_frozen BK279.out 3; have hfz21_4 := blk_frozen BK279.out 4; have hfz21_5 := blk_frozen BK279.out 5; have hcz22_0 : w19.cell? ⟨gb280, 0, none⟩ = some (.int .i64 a1_0) := (blk_cell BK280.out 0).trans rfl; have hcz22_1 : w19.cell? ⟨gb280, 1, none⟩ = some (.string a1_1) := (blk_cell BK280.out 1).trans rfl; have hcz22_2 : w19.cell? ⟨gb280, 2, none⟩ = some (.slice A1_2 l1_2.length c1_2) := (blk_cell BK280.out 2).trans rfl; have hcz22_3 : w19.cell? ⟨gb280, 3, none⟩ = some (.int .i64 a1_3) := (blk_cell BK280.out 3).trans rfl; have hcz22_4 : w19.cell? ⟨gb280, 4, none⟩ = some (.slice A1_4 l1_4.length c1_4) := (blk_cell BK280.out 4).trans rfl; have hcz22_5 : w19.cell? ⟨gb280, 5, none⟩ = some (.slice A1_5 l1_5.length c1_5) := (blk_cell BK280.out 5).trans rfl; have hfz22_0 := blk_frozen BK280.out 0; have hfz22_1 := blk_frozen BK280.out 1; have hfz22_2 := blk_frozen BK280.out 2; have hfz22_3 := blk_frozen BK280.out 3; have hfz22_4 := blk_frozen BK280.out 4; have hfz22_5 := blk_frozen BK280.out 5) | (go_at_call 31; (with_reducible refine (constablekeep_Atom.calls k a0_1 _ _ l0_2 a1_1 _ _ l1_2 true _ ?side1 ?side2 ?side3 ?side4 A4.out).mono ?_); (case side1 => exact kd_ ((Kd.C_below HR0_2.out HB.out))); (case side2 => exact HC0_2.out); (case side3 => exact kd_ ((Kd.C_below HR1_2.out HB.out))); (case side4 => exact HC1_2.out); rintro e w23 ⟨rfl, hb⟩; replace BK279 := bb_ (bu_ BK279) hb; replace BK280 := bb_ (bu_ BK280) hb; replace HB := bs_ (be_ HB) hb; (try clear hb); (try clear hb2); (try clear hk); (try clear hi); have hcz24_0 : w23.cell? ⟨gb279, 0, none⟩ = some (.int .i64 a0_0) := (blk_cell BK279.out 0).trans rfl; have hcz24_1 : w23.cell? ⟨gb279, 1, none⟩ = some (.string a0_1) := (blk_cell BK279.out 1).trans rfl; have hcz24_2 : w23.cell? ⟨gb279, 2, none⟩ = some (.slice A0_2 l0_2.length c0_2) := (blk_cell BK279.out 2).trans rfl; have hcz24_3 : w23.cell? ⟨gb279, 3, none⟩ = some (.int .i64 a0_3) := (blk_cell BK279.out 3).trans rfl; have hcz24_4 : w23.cell? ⟨gb279, 4, none⟩ = some (.slice A0_4 l0_4.length c0_4) := (blk_cell BK279.out 4).trans rfl; have hcz24_5 : w23.cell? ⟨gb279, 5, none⟩ = some (.slice A0_5 l0_5.length c0_5) := (blk_cell BK279.out 5).trans rfl; have hfz24_0 := blk_frozen BK279.out 0; have hfz24_1 := blk_frozen BK279.out 1; have hfz24_2 := blk_frozen BK279.out 2; have hfz24_3 := blk_frozen BK279.out 3; have hfz24_4 := blk_frozen BK279.out 4; have hfz24_5 := blk_frozen BK279.out 5; have hcz25_0 : w23.cell? ⟨gb280, 0, none⟩ = some (.int .i64 a1_0) := (blk_cell BK280.out 0).trans rfl; have hcz25_1 : w23.cell? ⟨gb280, 1, none⟩ = some (.string a1_1) := (blk_cell BK280.out 1).trans rfl; have hcz25_2 : w23.cell? ⟨gb280, 2, none⟩ = some (.slice A1_2 l1_2.length c1_2) := (blk_cell BK280.out 2).trans rfl; have hcz25_3 : w23.cell? ⟨gb280, 3, none⟩ = some (.int .i64 a1_3) := (blk_cell BK280.out 3).trans rfl; have hcz25_4 : w23.cell? ⟨gb280, 4, none⟩ = some (.slice A1_4 l1_4.length c1_4) := (blk_cell BK280.out 4).trans rfl; have hcz25_5 : w23.cell? ⟨gb280, 5, none⟩ = some (.slice A1_5 l1_5.length c1_5) := (blk_cell BK280.out 5).trans rfl; have hfz25_0 := blk_frozen BK280.out 0; have hfz25_1 := blk_frozen BK280.out 1; have hfz25_2 := blk_frozen BK280.out 2; have hfz25_3 := blk_frozen BK280.out 3; have hfz25_4 := blk_frozen BK280.out 4; have hfz25_5 := blk_frozen BK280.out 5) | (go_at_call 32; (with_reducible refine (constablekeep_Ops.calls k _ _ l0_4 _ _ l1_4 false _ ?side1 ?side2 ?side3 ?side4 A7.out).mono ?_); (case side1 => exact kd_ ((Kd.C_below HR0_4.out HB.out))); (case side2 => exact HC0_4.out); (case side3 => exact kd_ ((Kd.C_below HR1_4.out HB.out))); (case side4 => exact HC1_4.out); rintro e w' ⟨rfl, ⟨nd, rfl⟩⟩))
     go_ret
     exact ⟨re_, be_ HB⟩
   ·rw [if_neg c6] at H
    obtain ⟨c6b0, c6b1⟩ := neB_ c6
    obtain rfl := Option.some.inj H
    go_enter Try.func13, Try.ntmps13
    go_wp2_with (first | ((with_reducible refine gate_dst (N := 2) rfl ?_); refine box_event ?hg (N := 2) ?hd (cs := #[.int .i64 a0_0, .string a0_1, .slice A0_2 l0_2.length c0_2, .int .i64 a0_3, .slice A0_4 l0_4.length c0_4, .slice A0_5 l0_5.length c0_5]) (t := 29) ?hr ?_; (case hd => rfl); (case hg => rfl); (case hr => first | (go_simp; done) | (go_simp; rfl)); intro gb279 hg w26 hbox hb; have BK279 := Aside0.mk (hbox); have GW279 := gs_ hg (be_ HB); have GE279 := gs_ hg (be_ HB); replace HB := bs_ (be_ HB) hb; clear hb hbox hg) | ((with_reducible refine gate_dst (N := 3) rfl ?_); refine box_event ?hg (N := 3) ?hd (cs := #[.int .i64 a1_0, .string a1_1, .slice A1_2 l1_2.length c1_2, .int .i64 a1_3, .slice A1_4 l1_4.length c1_4, .slice A1_5 l1_5.length c1_5]) (t := 29) ?hr ?_; (case hd => rfl); (case hg => rfl); (case hr => first | (go_simp; done) | (go_simp; rfl)); intro gb280 hg w27 hbox hb; have BK280 := Aside0.mk (hbox); have GW280 := gs_ hg (be_ HB); have GE280 := gs_ hg (be_ HB); replace HB := bs_ (be_ HB) hb; have NB279_280 := nl_ hg (bu_ BK279); have NB280_279 := ng_ hg (bu_ BK279); replace BK279 := bb_ (bu_ BK279) hb; clear hb hbox hg; have hnb28 := NB279_280.out; have hnc28 := NB280_279.out; have hcz29_0 : w27.cell? ⟨gb279, 0, none⟩ = some (.int .i64 a0_0) := (blk_cell BK279.out 0).trans rfl; have hcz29_1 : w27.cell? ⟨gb279, 1, none⟩ = some (.string a0_1) := (blk_cell BK279.out 1).trans rfl; have hcz29_2 : w27.cell? ⟨gb279, 2, none⟩ = some (.slice A0_2 l0_2.length c0_2) := (blk_cell BK279.out 2).trans rfl; have hcz29_3 : w27.cell? ⟨gb279, 3, none⟩ = some (.int .i64 a0_3) := (blk_cell BK279.out 3).trans rfl; have hcz29_4 : w27.cell? ⟨gb279, 4, none⟩ = some (.slice A0_4 l0_4.length c0_4) := (blk_cell BK279.out 4).trans rfl; have hcz29_5 : w27.cell? ⟨gb279, 5, none⟩ = some (.slice A0_5 l0_5.length c0_5) := (blk_cell BK279.out 5).trans rfl; have hfz29_0 := blk_frozen BK279.out 0; have hfz29_1 := blk_frozen BK279.out 1; have hfz29_2 := blk_frozen BK279.out 2; have hfz29_3 := blk_frozen BK279.out 3; have hfz29_4 := blk_frozen BK279.out 4; have hfz29_5 := blk_frozen BK279.out 5; have hcz30_0 : w27.cell? ⟨gb280, 0, none⟩ = some (.int .i64 a1_0) := (blk_cell BK280.out 0).trans rfl; have hcz30_1 : w27.cell? ⟨gb280, 1, none⟩ = some (.string a1_1) := (blk_cell BK280.out 1).trans rfl; have hcz30_2 : w27.cell? ⟨gb280, 2, none⟩ = some (.slice A1_2 l1_2.length c1_2) := (blk_cell BK280.out 2).trans rfl; have hcz30_3 : w27.cell? ⟨gb280, 3, none⟩ = some (.int .i64 a1_3) := (blk_cell BK280.out 3).trans rfl; have hcz30_4 : w27.cell? ⟨gb280, 4, none⟩ = some (.slice A1_4 l1_4.length c1_4) := (blk_cell BK280.out 4).trans rfl; have hcz30_5 : w27.cell? ⟨gb280, 5, none⟩ = some (.slice A1_5 l1_5.length c1_5) := (blk_cell BK280.out 5).trans rfl; have hfz30_0 := blk_frozen BK280.out 0; have hfz30_1 := blk_frozen BK280.out 1; have hfz30_2 := blk_frozen BK280.out 2; have hfz30_3 := blk_frozen BK280.out 3; have hfz30_4 := blk_frozen BK280.out 4; have hfz30_5 := blk_frozen BK280.out 5) | (go_at_call 31; (with_reducible refine (constablekeep_Atom.calls k a0_1 _ _ l0_2 a1_1 _ _ l1_2 true _ ?side1 ?side2 ?side3 ?side4 A4.out).mono ?_); (case side1 => exact kd_ ((Kd.C_below HR0_2.out HB.out))); (case side2 => exact HC0_2.out); (case side3 => exact kd_ ((Kd.C_below HR1_2.out HB.out))); (case side4 => exact HC1_2.out); rintro e w31 ⟨rfl, hb⟩; replace BK279 := bb_ (bu_ BK279) hb; replace BK280 := bb_ (bu_ BK280) hb; replace HB := bs_ (be_ HB) hb; (try clear hb); (try clear hb2); (try clear hk); (try clear hi); have hcz32_0 : w31.cell? ⟨gb279, 0, none⟩ = some (.int .i64 a0_0) := (blk_cell BK279.out 0).trans rfl; have hcz32_1 : w31.cell? ⟨gb279, 1, none⟩ = some (.string a0_1) := (blk_cell BK279.out 1).trans rfl; have hcz32_2 : w31.cell? ⟨gb279, 2, none⟩ = some (.slice A0_2 l0_2.length c0_2) := (blk_cell BK279.out 2).trans rfl; have hcz32_3 : w31.cell? ⟨gb279, 3, none⟩ = some (.int .i64 a0_3) := (blk_cell BK279.out 3).trans rfl; have hcz32_4 : w31.cell? ⟨gb279, 4, none⟩ = some (.slice A0_4 l0_4.length c0_4) := (blk_cell BK279.out 4).trans rfl; have hcz32_5 : w31.cell? ⟨gb279, 5, none⟩ = some (.slice A0_5 l0_5.length c0_5) := (blk_cell BK279.out 5).trans rfl; have hfz32_0 := blk_frozen BK279.out 0; have hfz32_1 := blk_frozen BK279.out 1; have hfz32_2 := blk_frozen BK279.out 2; have hfz32_3 := blk_frozen BK279.out 3; have hfz32_4 := blk_frozen BK279.out 4; have hfz32_5 := blk_frozen BK279.out 5; have hcz33_0 : w31.cell? ⟨gb280, 0, none⟩ = some (.int .i64 a1_0) := (blk_cell BK280.out 0).trans rfl; have hcz33_1 : w31.cell? ⟨gb280, 1, none⟩ = some (.string a1_1) := (blk_cell BK280.out 1).trans rfl; have hcz33_2 : w31.cell? ⟨gb280, 2, none⟩ = some (.slice A1_2 l1_2.length c1_2) := (blk_cell BK280.out 2).trans rfl; have hcz33_3 : w31.cell? ⟨gb280, 3, none⟩ = some (.int .i64 a1_3) := (blk_cell BK280.out 3).trans rfl; have hcz33_4 : w31.cell? ⟨gb280, 4, none⟩ = some (.slice A1_4 l1_4.length c1_4) := (blk_cell BK280.out 4).trans rfl; have hcz33_5 : w31.cell? ⟨gb280, 5, none⟩ = some (.slice A1_5 l1_5.length c1_5) := (blk_cell BK280.out 5).trans rfl; have hfz33_0 := blk_frozen BK280.out 0; have hfz33_1 := blk_frozen BK280.out 1; have hfz33_2 := blk_frozen BK280.out 2; have hfz33_3 := blk_frozen BK280.out 3; have hfz33_4 := blk_frozen BK280.out 4; have hfz33_5 := blk_frozen BK280.out 5))
    go_ret
    exact ⟨re_, be_ HB⟩
  ·replace c5 := Bool.eq_false_iff.mpr c5
   subst c5
   rw [if_neg (show ¬ (false = true) by decide)] at H
   obtain rfl := Option.some.inj H
   go_enter Try.func13, Try.ntmps13
   go_wp2_with (first | ((with_reducible refine gate_dst (N := 2) rfl ?_); refine box_event ?hg (N := 2) ?hd (cs := #[.int .i64 a0_0, .string a0_1, .slice A0_2 l0_2.length c0_2, .int .i64 a0_3, .slice A0_4 l0_4.length c0_4, .slice A0_5 l0_5.length c0_5]) (t := 29) ?hr ?_; (case hd => rfl); (case hg => rfl); (case hr => first | (go_simp; done) | (go_simp; rfl)); intro gb279 hg w34 hbox hb; have BK279 := Aside0.mk (hbox); have GW279 := gs_ hg (be_ HB); have GE279 := gs_ hg (be_ HB); replace HB := bs_ (be_ HB) hb; clear hb hbox hg) | ((with_reducible refine gate_dst (N := 3) rfl ?_); refine box_event ?hg (N := 3) ?hd (cs := #[.int .i64 a1_0, .string a1_1, .slice A1_2 l1_2.length c1_2, .int .i64 a1_3, .slice A1_4 l1_4.length c1_4, .slice A1_5 l1_5.length c1_5]) (t := 29) ?hr ?_; (case hd => rfl); (case hg => rfl); (case hr => first | (go_simp; done) | (go_simp; rfl)); intro gb280 hg w35 hbox hb; have BK280 := Aside0.mk (hbox); have GW280 := gs_ hg (be_ HB); have GE280 := gs_ hg (be_ HB); replace HB := bs_ (be_ HB) hb; have NB279_280 := nl_ hg (bu_ BK279); have NB280_279 := ng_ hg (bu_ BK279); replace BK279 := bb_ (bu_ BK279) hb; clear hb hbox hg; have hnb36 := NB279_280.out; have hnc36 := NB280_279.out; have hcz37_0 : w35.cell? ⟨gb279, 0, none⟩ = some (.int .i64 a0_0) := (blk_cell BK279.out 0).trans rfl; have hcz37_1 : w35.cell? ⟨gb279, 1, none⟩ = some (.string a0_1) := (blk_cell BK279.out 1).trans rfl; have hcz37_2 : w35.cell? ⟨gb279, 2, none⟩ = some (.slice A0_2 l0_2.length c0_2) := (blk_cell BK279.out 2).trans rfl; have hcz37_3 : w35.cell? ⟨gb279, 3, none⟩ = some (.int .i64 a0_3) := (blk_cell BK279.out 3).trans rfl; have hcz37_4 : w35.cell? ⟨gb279, 4, none⟩ = some (.slice A0_4 l0_4.length c0_4) := (blk_cell BK279.out 4).trans rfl; have hcz37_5 : w35.cell? ⟨gb279, 5, none⟩ = some (.slice A0_5 l0_5.length c0_5) := (blk_cell BK279.out 5).trans rfl; have hfz37_0 := blk_frozen BK279.out 0; have hfz37_1 := blk_frozen BK279.out 1; have hfz37_2 := blk_frozen BK279.out 2; have hfz37_3 := blk_frozen BK279.out 3; have hfz37_4 := blk_frozen BK279.out 4; have hfz37_5 := blk_frozen BK279.out 5; have hcz38_0 : w35.cell? ⟨gb280, 0, none⟩ = some (.int .i64 a1_0) := (blk_cell BK280.out 0).trans rfl; have hcz38_1 : w35.cell? ⟨gb280, 1, none⟩ = some (.string a1_1) := (blk_cell BK280.out 1).trans rfl; have hcz38_2 : w35.cell? ⟨gb280, 2, none⟩ = some (.slice A1_2 l1_2.length c1_2) := (blk_cell BK280.out 2).trans rfl; have hcz38_3 : w35.cell? ⟨gb280, 3, none⟩ = some (.int .i64 a1_3) := (blk_cell BK280.out 3).trans rfl; have hcz38_4 : w35.cell? ⟨gb280, 4, none⟩ = some (.slice A1_4 l1_4.length c1_4) := (blk_cell BK280.out 4).trans rfl; have hcz38_5 : w35.cell? ⟨gb280, 5, none⟩ = some (.slice A1_5 l1_5.length c1_5) := (blk_cell BK280.out 5).trans rfl; have hfz38_0 := blk_frozen BK280.out 0; have hfz38_1 := blk_frozen BK280.out 1; have hfz38_2 := blk_frozen BK280.out 2; have hfz38_3 := blk_frozen BK280.out 3; have hfz38_4 := blk_frozen BK280.out 4; have hfz38_5 := blk_frozen BK280.out 5) | (go_at_call 31; (with_reducible refine (constablekeep_Atom.calls k a0_1 _ _ l0_2 a1_1 _ _ l1_2 false _ ?side1 ?side2 ?side3 ?side4 A4.out).mono ?_); (case side1 => exact kd_ ((Kd.C_below HR0_2.out HB.out))); (case side2 => exact HC0_2.out); (case side3 => exact kd_ ((Kd.C_below HR1_2.out HB.out))); (case side4 => exact HC1_2.out); rintro e w39 ⟨rfl, hb⟩; replace BK279 := bb_ (bu_ BK279) hb; replace BK280 := bb_ (bu_ BK280) hb; replace HB := bs_ (be_ HB) hb; (try clear hb); (try clear hb2); (try clear hk); (try clear hi)))
   go_ret
   exact ⟨re_, be_ HB⟩
 ·rw [if_neg c3] at H
  obtain ⟨c3b0, c3b1⟩ := neB_ c3
  obtain rfl := Option.some.inj H
  go_enter Try.func13, Try.ntmps13
  go_wp2_with (first | ((with_reducible refine gate_dst (N := 2) rfl ?_); refine box_event ?hg (N := 2) ?hd (cs := #[.int .i64 a0_0, .string a0_1, .slice A0_2 l0_2.length c0_2, .int .i64 a0_3, .slice A0_4 l0_4.length c0_4, .slice A0_5 l0_5.length c0_5]) (t := 29) ?hr ?_; (case hd => rfl); (case hg => rfl); (case hr => first | (go_simp; done) | (go_simp; rfl)); intro gb279 hg w40 hbox hb; have BK279 := Aside0.mk (hbox); have GW279 := gs_ hg (be_ HB); have GE279 := gs_ hg (be_ HB); replace HB := bs_ (be_ HB) hb; clear hb hbox hg) | ((with_reducible refine gate_dst (N := 3) rfl ?_); refine box_event ?hg (N := 3) ?hd (cs := #[.int .i64 a1_0, .string a1_1, .slice A1_2 l1_2.length c1_2, .int .i64 a1_3, .slice A1_4 l1_4.length c1_4, .slice A1_5 l1_5.length c1_5]) (t := 29) ?hr ?_; (case hd => rfl); (case hg => rfl); (case hr => first | (go_simp; done) | (go_simp; rfl)); intro gb280 hg w41 hbox hb; have BK280 := Aside0.mk (hbox); have GW280 := gs_ hg (be_ HB); have GE280 := gs_ hg (be_ HB); replace HB := bs_ (be_ HB) hb; have NB279_280 := nl_ hg (bu_ BK279); have NB280_279 := ng_ hg (bu_ BK279); replace BK279 := bb_ (bu_ BK279) hb; clear hb hbox hg; have hnb42 := NB279_280.out; have hnc42 := NB280_279.out; have hcz43_0 : w41.cell? ⟨gb279, 0, none⟩ = some (.int .i64 a0_0) := (blk_cell BK279.out 0).trans rfl; have hcz43_1 : w41.cell? ⟨gb279, 1, none⟩ = some (.string a0_1) := (blk_cell BK279.out 1).trans rfl; have hcz43_2 : w41.cell? ⟨gb279, 2, none⟩ = some (.slice A0_2 l0_2.length c0_2) := (blk_cell BK279.out 2).trans rfl; have hcz43_3 : w41.cell? ⟨gb279, 3, none⟩ = some (.int .i64 a0_3) := (blk_cell BK279.out 3).trans rfl; have hcz43_4 : w41.cell? ⟨gb279, 4, none⟩ = some (.slice A0_4 l0_4.length c0_4) := (blk_cell BK279.out 4).trans rfl; have hcz43_5 : w41.cell? ⟨gb279, 5, none⟩ = some (.slice A0_5 l0_5.length c0_5) := (blk_cell BK279.out 5).trans rfl; have hfz43_0 := blk_frozen BK279.out 0; have hfz43_1 := blk_frozen BK279.out 1; have hfz43_2 := blk_frozen BK279.out 2; have hfz43_3 := blk_frozen BK279.out 3; have hfz43_4 := blk_frozen BK279.out 4; have hfz43_5 := blk_frozen BK279.out 5; have hcz44_0 : w41.cell? ⟨gb280, 0, none⟩ = some (.int .i64 a1_0) := (blk_cell BK280.out 0).trans rfl; have hcz44_1 : w41.cell? ⟨gb280, 1, none⟩ = some (.string a1_1) := (blk_cell BK280.out 1).trans rfl; have hcz44_2 : w41.cell? ⟨gb280, 2, none⟩ = some (.slice A1_2 l1_2.length c1_2) := (blk_cell BK280.out 2).trans rfl; have hcz44_3 : w41.cell? ⟨gb280, 3, none⟩ = some (.int .i64 a1_3) := (blk_cell BK280.out 3).trans rfl; have hcz44_4 : w41.cell? ⟨gb280, 4, none⟩ = some (.slice A1_4 l1_4.length c1_4) := (blk_cell BK280.out 4).trans rfl; have hcz44_5 : w41.cell? ⟨gb280, 5, none⟩ = some (.slice A1_5 l1_5.length c1_5) := (blk_cell BK280.out 5).trans rfl; have hfz44_0 := blk_frozen BK280.out 0; have hfz44_1 := blk_frozen BK280.out 1; have hfz44_2 := blk_frozen BK280.out 2; have hfz44_3 := blk_frozen BK280.out 3; have hfz44_4 := blk_frozen BK280.out 4; have hfz44_5 := blk_frozen BK280.out 5))
  go_ret
  exact ⟨re_, be_ HB⟩
end Go.Proofs.Ytaopajmpifenoaa.P
end
section
namespace Go.Proofs.Ytaopajmpifenoaa.P
open Go.RowKit Go.Proofs.YtaopajmpifenoaaW.PrintWords Go.Proofs.YtaopajmpifenoaaW.PrintLast Go.Proofs.YtaopajmpifenoaaW.PrintMore
attribute [local go_sem] max2_int min2_int max_two min_two max_three min_three max_four min_four
set_option linter.unusedVariables false
set_option linter.unusedSimpArgs false
attribute [local go_sem high] eqA23
mutual
def constableref01_Expr.l0 : Nat → List (S67) → Int → Int → Option (Bool)
 | 0, _, _, _ => none
 | k + 1, x0, x3, x4 => if x4 < (x0.length : Int) then (if 0 ≤ x4 then (if ((rd_T67 x0 x4).f0) = 1 then ((constableref01_Word.f k ((rd_T67 x0 x4).f1) true).bind fun t287 => (if t287 = true then (if (!(((rd_T67 x0 x4).f2.f0) == 0) || (!(((rd_T67 x0 x4).f2.f1) == 0) || (!((((rd_T67 x0 x4).f2.f2).toList) == ([] : List UInt8))))) = true then (some false) else (constableref01_Expr.l0 k x0 (wrap64 (x3 + 1)) (wrap64 (x4 + 1)))) else (some false))) else (if ((rd_T67 x0 x4).f0) = 2 then (if (((rd_T67 x0 x4).f1).size : Int) > 0 then (some false) else ((constableref01_Value.f k ((rd_T67 x0 x4).f2.f0) ((rd_T67 x0 x4).f2.f1) ((rd_T67 x0 x4).f2.f2)).bind fun t288 => (if t288 = true then (constableref01_Expr.l0 k x0 (wrap64 (x3 + 1)) (wrap64 (x4 + 1))) else (some false)))) else (if ((rd_T67 x0 x4).f0) = 3 then (constableref01_Expr.j1 k x0 x3 x4 (((rd_T67 x0 x4).f0) == 3) ((rd_T67 x0 x4).f0) ((rd_T67 x0 x4).f1) ((rd_T67 x0 x4).f2.f0) ((rd_T67 x0 x4).f2.f1) ((rd_T67 x0 x4).f2.f2)) else (if ((rd_T67 x0 x4).f0) = 4 then (constableref01_Expr.j1 k x0 x3 x4 (((rd_T67 x0 x4).f0) == 4) ((rd_T67 x0 x4).f0) ((rd_T67 x0 x4).f1) ((rd_T67 x0 x4).f2.f0) ((rd_T67 x0 x4).f2.f1) ((rd_T67 x0 x4).f2.f2)) else (constableref01_Expr.j1 k x0 x3 x4 (((rd_T67 x0 x4).f0) == 5) ((rd_T67 x0 x4).f0) ((rd_T67 x0 x4).f1) ((rd_T67 x0 x4).f2.f0) ((rd_T67 x0 x4).f2.f1) ((rd_T67 x0 x4).f2.f2)))))) else (none)) else (some (x3 == 1))
def constableref01_Expr.j1 : Nat → List (S67) → Int → Int → Bool → Int → ByteArray → Int → Int → ByteArray → Option (Bool)
 | 0, _, _, _, _, _, _, _, _, _ => none
 | k + 1, x0, x3, x4, x50, x287000, x287001, x287002, x287003, x287004 => if x50 = true then (if (x287001.size : Int) > 0 then (some false) else (if (!(x287002 == 0) || (!(x287003 == 0) || (!(x287004.toList == ([] : List UInt8))))) = true then (some false) else (if x3 < 2 then (some false) else (constableref01_Expr.l0 k x0 (wrap64 (x3 - 1)) (wrap64 (x4 + 1)))))) else (some false)
end
def constableref01_Expr.f (k : Nat) (l0 : List (S67)) : Option (Bool) := (constableref01_In.f (l0.length : Int) 1 15).bind fun t284 => (if t284 = true then (constableref01_Expr.l0 k l0 0 0) else (some false))
theorem constableref01_Expr.mono_l : ∀ k, (∀ y0 y1 y2, LeO (constableref01_Expr.l0 k y0 y1 y2) (constableref01_Expr.l0 (k + 1) y0 y1 y2)) ∧ (∀ y0 y1 y2 y3 y4 y5 y6 y7 y8, LeO (constableref01_Expr.j1 k y0 y1 y2 y3 y4 y5 y6 y7 y8) (constableref01_Expr.j1 (k + 1) y0 y1 y2 y3 y4 y5 y6 y7 y8))
 | 0 => ⟨fun _ _ _ r h => by simp [constableref01_Expr.l0] at h, fun _ _ _ _ _ _ _ _ _ r h => by simp [constableref01_Expr.j1] at h⟩
 | k + 1 => by
  obtain ⟨ih0, ih1⟩ := constableref01_Expr.mono_l k
  refine ⟨?_, ?_⟩
  ·intro y0 y1 y2
   unfold constableref01_Expr.l0
   repeat' first
   | (with_reducible exact ih0 _ _ _)
   | (with_reducible exact ih1 _ _ _ _ _ _ _ _ _)
   | (with_reducible exact constableref01_Value.mono ..)
   | (with_reducible exact constableref01_Word.mono ..)
   | (with_reducible exact LeO.refl _)
   | (with_reducible exact LeO.none _)
   | (with_reducible refine LeO.ite ?_ ?_)
   | (with_reducible refine LeO.bind ?_ (fun _ => ?_))
   | exact ih0 _ _ _
   | exact ih1 _ _ _ _ _ _ _ _ _
   | exact constableref01_Value.mono ..
   | exact constableref01_Word.mono ..
   | exact LeO.none _
   | refine LeO.ite ?_ ?_
   | refine LeO.bind ?_ (fun _ => ?_)
  ·intro y0 y1 y2 y3 y4 y5 y6 y7 y8
   unfold constableref01_Expr.j1
   repeat' first
   | (with_reducible exact ih0 _ _ _)
   | (with_reducible exact ih1 _ _ _ _ _ _ _ _ _)
   | (with_reducible exact constableref01_Value.mono ..)
   | (with_reducible exact constableref01_Word.mono ..)
   | (with_reducible exact LeO.refl _)
   | (with_reducible exact LeO.none _)
   | (with_reducible refine LeO.ite ?_ ?_)
   | (with_reducible refine LeO.bind ?_ (fun _ => ?_))
   | exact ih0 _ _ _
   | exact ih1 _ _ _ _ _ _ _ _ _
   | exact constableref01_Value.mono ..
   | exact constableref01_Word.mono ..
   | exact LeO.none _
   | refine LeO.ite ?_ ?_
   | refine LeO.bind ?_ (fun _ => ?_)
theorem constableref01_Expr.mono : ∀ a0 k, LeO (constableref01_Expr.f k a0) (constableref01_Expr.f (k + 1) a0) := by
 intro a0 k
 obtain ⟨ih0, ih1⟩ := constableref01_Expr.mono_l k
 unfold constableref01_Expr.f
 repeat' first
   | (with_reducible exact ih0 _ _ _)
   | (with_reducible exact ih1 _ _ _ _ _ _ _ _ _)
   | (with_reducible exact constableref01_Value.mono ..)
   | (with_reducible exact constableref01_Word.mono ..)
   | (with_reducible exact LeO.refl _)
   | (with_reducible exact LeO.none _)
   | (with_reducible refine LeO.ite ?_ ?_)
   | (with_reducible refine LeO.bind ?_ (fun _ => ?_))
   | exact ih0 _ _ _
   | exact ih1 _ _ _ _ _ _ _ _ _
   | exact constableref01_Value.mono ..
   | exact constableref01_Word.mono ..
   | exact LeO.none _
   | refine LeO.ite ?_ ?_
   | refine LeO.bind ?_ (fun _ => ?_)
set_option maxHeartbeats 8000000 in
set_option maxRecDepth 100000 in
theorem constableref01_Expr.calls (k : Nat) (A0 : Option Addr) (c0 : Nat) (l0 : List (S67)) (r : Bool) (w : World) (hr0 : Kd.C k67 w A0 l0.length l0) (hc0 : l0.length ≤ c0) (h : constableref01_Expr.f k l0 = some r) :
  Calls Try.prog 21 #[.slice A0 l0.length c0] w fun e w' => e = .returned (.bool r) ∧ Below w.heap.size w w' := by
 have hu67 := Try.underlying67
 have hu23 := Try.underlying23
 have HR0 := Aside0.mk hr0
 have HC0 := Aside0.mk hc0
 clear hr0 hc0
 have HB := Aside0.mk (Below.refl w.heap.size w)
 have H : ((constableref01_In.f (l0.length : Int) 1 15).bind fun t284 => (if t284 = true then (constableref01_Expr.l0 k l0 0 0) else (some false))) = some r := h
 clear h
 replace H := Option.bind_eq_some_iff.mp H
 obtain ⟨t284, A20, H⟩ := H
 try dsimp only at H
 have A2 := Aside0.mk A20
 clear A20
 by_cases c3 : t284 = true
 ·subst c3
  rw [if_pos rfl] at H
  have H' := Aside0.mk H
  clear H
  go_enter Try.func21, Try.ntmps21
  go_wp2_with (first | ((with_reducible refine gate_callee (f := 29) rfl ?_); refine goesL_ (some 8) rfl rfl Try.func29 (by kernel_rfl) rfl #[.int .i64 (l0.length : Int), .int .i64 1, .int .i64 15] rfl ga_ ?_; (with_reducible refine (constableref01_In.calls (l0.length : Int) 1 15 true _ A2.out).mono ?_); rintro e w' ⟨rfl, ⟨nd, rfl⟩⟩; refine ⟨_, rfl, ?_⟩))
  go_loopg [3, 4] k (fun kq v3 v4 w' => ∃ (x3_1 : Int) (x4_1 : Int), v3 = .int .i64 x3_1 ∧ v4 = .int .i64 x4_1 ∧ Aside0 (constableref01_Expr.l0 kq l0 x3_1 x4_1 = some r) ∧ Aside0 (kq ≤ k) ∧ Aside0 (Below w.heap.size w w'))
  case atStart => exact ⟨(0), (0), ra_, ra_, H', ⟨Nat.le_refl _⟩, be2_ HB⟩
  case round =>
   clear H'
   try clear c2; try clear p2; try clear c3
   obtain ⟨x3_1, x4_1, rfl, rfl, HA, HK1, HB⟩ := hrel
   cases gk with
   | zero => exact absurd HA.out (by simp [constableref01_Expr.l0])
   | succ k1 =>
    have H := HA.out
    clear HA
    simp only [constableref01_Expr.l0] at H
    by_cases c4 : x4_1 < (l0.length : Int)
    ·rw [if_pos c4] at H
     have c4b0 : decide (x4_1 < (l0.length : Int)) = true := decide_eq_true c4
     clear c4
     by_cases c5 : 0 ≤ x4_1
     ·rw [if_pos c5] at H
      have c5b0 : decide (0 ≤ x4_1) = true := decide_eq_true c5
      clear c5
      by_cases c6 : ((rd_T67 l0 x4_1).f0) = 1
      ·rw [if_pos c6] at H
       obtain ⟨c6b0, c6b1⟩ := eqB_ c6
       clear c6
       replace H := Option.bind_eq_some_iff.mp H
       obtain ⟨t287, A70, H⟩ := H
       try dsimp only at H
       have A7 := Aside0.mk A70
       clear A70
       by_cases c8 : t287 = true
       ·subst c8
        rw [if_pos rfl] at H
        by_cases c9 : (!(((rd_T67 l0 x4_1).f2.f0) == 0) || (!(((rd_T67 l0 x4_1).f2.f1) == 0) || (!((((rd_T67 l0 x4_1).f2.f2).toList) == ([] : List UInt8))))) = true
        ·rw [if_pos c9] at H
         have c9b0 : (!(((rd_T67 l0 x4_1).f2.f0) == 0) || (!(((rd_T67 l0 x4_1).f2.f1) == 0) || (!((((rd_T67 l0 x4_1).f2.f2).toList) == ([] : List UInt8))))) = true := c9
         (try (have c9b1 : (!(((rd_T67 l0 x4_1).f2.f0) == 0) || (!(((rd_T67 l0 x4_1).f2.f1) == 0) || (!((((rd_T67 l0 x4_1).f2.f2).toList).isEmpty)))) = true := by first | simpa using c9 | (simp at c9 ⊢; exact c9)))
         clear c9
         obtain rfl := Option.some.inj H
         have p285 : 0 ≤ (x4_1 : Int) := dt_
         have q285 : x4_1 < (l0.length : Int) := dt_
         obtain ⟨ad285, e285, hx285_0, hx285_1, hx285_2, hx285_3, hx285_4⟩ := at_T67 HR0.out x4_1 p285 q285
         cases e285
         replace hx285_0 := cm_ HB hx285_0
         replace hx285_1 := cm_ HB hx285_1
         replace hx285_2 := cm_ HB hx285_2
         replace hx285_3 := cm_ HB hx285_3
         replace hx285_4 := cm_ HB hx285_4
         replace p285 := eq_true p285
         replace q285 := eq_true q285
         go_wp2_with (first | ((with_reducible refine gate_dst (N := 5) rfl ?_); refine box_event ?hg (N := 5) ?hd (cs := #[.int .i64 0, .string (⟨#[]⟩ : ByteArray), .int .i64 0, .int .i64 0, .string (⟨#[]⟩ : ByteArray)]) (t := 67) ?hr ?_; (case hd => rfl); (case hg => rfl); (case hr => first | (go_simp; done) | (go_simp; rfl)); intro gb286 hg w10 hbox hb; have BK286 := Aside0.mk (hbox); have GW286 := gs_ hg (be_ HB); have GE286 := gs_ hg (be_ HB); replace HB := bs_ (be_ HB) hb; clear hb hbox hg; have hcz11_0 : w10.cell? ⟨gb286, 0, none⟩ = some (.int .i64 0) := (blk_cell BK286.out 0).trans rfl; have hcz11_1 : w10.cell? ⟨gb286, 1, none⟩ = some (.string (⟨#[]⟩ : ByteArray)) := (blk_cell BK286.out 1).trans rfl; have hcz11_2 : w10.cell? ⟨gb286, 2, none⟩ = some (.int .i64 0) := (blk_cell BK286.out 2).trans rfl; have hcz11_3 : w10.cell? ⟨gb286, 3, none⟩ = some (.int .i64 0) := (blk_cell BK286.out 3).trans rfl; have hcz11_4 : w10.cell? ⟨gb286, 4, none⟩ = some (.string (⟨#[]⟩ : ByteArray)) := (blk_cell BK286.out 4).trans rfl; have hfz11_0 := blk_frozen BK286.out 0; have hfz11_1 := blk_frozen BK286.out 1; have hfz11_2 := blk_frozen BK286.out 2; have hfz11_3 := blk_frozen BK286.out 3; have hfz11_4 := blk_frozen BK286.out 4) | ((with_reducible refine gate_callee (f := 34) rfl ?_); refine goesL_ (some 26) rfl rfl Try.func34 (by kernel_rfl) rfl #[.string ((rd_T67 l0 x4_1).f1), .bool true] rfl ga_ ?_; (with_reducible refine (constableref01_Word.calls k1 ((rd_T67 l0 x4_1).f1) true true _ A7.out).mono ?_); rintro e w' ⟨rfl, ⟨nd, rfl⟩⟩; refine ⟨_, rfl, ?_⟩))
         go_ret
         exact ⟨re_, be_ HB⟩
        ·rw [if_neg c9] at H
         have c9b0 := Bool.eq_false_iff.2 c9
         (try (have c9b1 : (!(((rd_T67 l0 x4_1).f2.f0) == 0) || (!(((rd_T67 l0 x4_1).f2.f1) == 0) || (!((((rd_T67 l0 x4_1).f2.f2).toList).isEmpty)))) = false := by first | simpa using c9 | (simp at c9 ⊢; exact c9)))
         clear c9
         have H' := Aside0.mk H
         clear H
         have p285 : 0 ≤ (x4_1 : Int) := dt_
         have q285 : x4_1 < (l0.length : Int) := dt_
         obtain ⟨ad285, e285, hx285_0, hx285_1, hx285_2, hx285_3, hx285_4⟩ := at_T67 HR0.out x4_1 p285 q285
         cases e285
         replace hx285_0 := cm_ HB hx285_0
         replace hx285_1 := cm_ HB hx285_1
         replace hx285_2 := cm_ HB hx285_2
         replace hx285_3 := cm_ HB hx285_3
         replace hx285_4 := cm_ HB hx285_4
         replace p285 := eq_true p285
         replace q285 := eq_true q285
         go_wp2_with (first | ((with_reducible refine gate_dst (N := 5) rfl ?_); refine box_event ?hg (N := 5) ?hd (cs := #[.int .i64 0, .string (⟨#[]⟩ : ByteArray), .int .i64 0, .int .i64 0, .string (⟨#[]⟩ : ByteArray)]) (t := 67) ?hr ?_; (case hd => rfl); (case hg => rfl); (case hr => first | (go_simp; done) | (go_simp; rfl)); intro gb286 hg w12 hbox hb; have BK286 := Aside0.mk (hbox); have GW286 := gs_ hg (be_ HB); have GE286 := gs_ hg (be_ HB); replace HB := bs_ (be_ HB) hb; clear hb hbox hg; have hcz13_0 : w12.cell? ⟨gb286, 0, none⟩ = some (.int .i64 0) := (blk_cell BK286.out 0).trans rfl; have hcz13_1 : w12.cell? ⟨gb286, 1, none⟩ = some (.string (⟨#[]⟩ : ByteArray)) := (blk_cell BK286.out 1).trans rfl; have hcz13_2 : w12.cell? ⟨gb286, 2, none⟩ = some (.int .i64 0) := (blk_cell BK286.out 2).trans rfl; have hcz13_3 : w12.cell? ⟨gb286, 3, none⟩ = some (.int .i64 0) := (blk_cell BK286.out 3).trans rfl; have hcz13_4 : w12.cell? ⟨gb286, 4, none⟩ = some (.string (⟨#[]⟩ : ByteArray)) := (blk_cell BK286.out 4).trans rfl; have hfz13_0 := blk_frozen BK286.out 0; have hfz13_1 := blk_frozen BK286.out 1; have hfz13_2 := blk_frozen BK286.out 2; have hfz13_3 := blk_frozen BK286.out 3; have hfz13_4 := blk_frozen BK286.out 4) | ((with_reducible refine gate_callee (f := 34) rfl ?_); refine goesL_ (some 26) rfl rfl Try.func34 (by kernel_rfl) rfl #[.string ((rd_T67 l0 x4_1).f1), .bool true] rfl ga_ ?_; (with_reducible refine (constableref01_Word.calls k1 ((rd_T67 l0 x4_1).f1) true true _ A7.out).mono ?_); rintro e w' ⟨rfl, ⟨nd, rfl⟩⟩; refine ⟨_, rfl, ?_⟩))
         go_roundg k1
         case measure => have := HK1.out; omega
         case rel => exact ⟨(wrap64 (x3_1 + 1)), (wrap64 (x4_1 + 1)), ra_, ra_, H', ⟨by have := HK1.out; omega⟩, be2_ HB⟩
       ·replace c8 := Bool.eq_false_iff.mpr c8
        subst c8
        rw [if_neg (show ¬ (false = true) by decide)] at H
        obtain rfl := Option.some.inj H
        have p285 : 0 ≤ (x4_1 : Int) := dt_
        have q285 : x4_1 < (l0.length : Int) := dt_
        obtain ⟨ad285, e285, hx285_0, hx285_1, hx285_2, hx285_3, hx285_4⟩ := at_T67 HR0.out x4_1 p285 q285
        cases e285
        replace hx285_0 := cm_ HB hx285_0
        replace hx285_1 := cm_ HB hx285_1
        replace hx285_2 := cm_ HB hx285_2
        replace hx285_3 := cm_ HB hx285_3
        replace hx285_4 := cm_ HB hx285_4
        replace p285 := eq_true p285
        replace q285 := eq_true q285
        go_wp2_with (first | ((with_reducible refine gate_dst (N := 5) rfl ?_); refine box_event ?hg (N := 5) ?hd (cs := #[.int .i64 0, .string (⟨#[]⟩ : ByteArray), .int .i64 0, .int .i64 0, .string (⟨#[]⟩ : ByteArray)]) (t := 67) ?hr ?_; (case hd => rfl); (case hg => rfl); (case hr => first | (go_simp; done) | (go_simp; rfl)); intro gb286 hg w14 hbox hb; have BK286 := Aside0.mk (hbox); have GW286 := gs_ hg (be_ HB); have GE286 := gs_ hg (be_ HB); replace HB := bs_ (be_ HB) hb; clear hb hbox hg; have hcz15_0 : w14.cell? ⟨gb286, 0, none⟩ = some (.int .i64 0) := (blk_cell BK286.out 0).trans rfl; have hcz15_1 : w14.cell? ⟨gb286, 1, none⟩ = some (.string (⟨#[]⟩ : ByteArray)) := (blk_cell BK286.out 1).trans rfl; have hcz15_2 : w14.cell? ⟨gb286, 2, none⟩ = some (.int .i64 0) := (blk_cell BK286.out 2).trans rfl; have hcz15_3 : w14.cell? ⟨gb286, 3, none⟩ = some (.int .i64 0) := (blk_cell BK286.out 3).trans rfl; have hcz15_4 : w14.cell? ⟨gb286, 4, none⟩ = some (.string (⟨#[]⟩ : ByteArray)) := (blk_cell BK286.out 4).trans rfl; have hfz15_0 := blk_frozen BK286.out 0; have hfz15_1 := blk_frozen BK286.out 1; have hfz15_2 := blk_frozen BK286.out 2; have hfz15_3 := blk_frozen BK286.out 3; have hfz15_4 := blk_frozen BK286.out 4) | ((with_reducible refine gate_callee (f := 34) rfl ?_); refine goesL_ (some 26) rfl rfl Try.func34 (by kernel_rfl) rfl #[.string ((rd_T67 l0 x4_1).f1), .bool true] rfl ga_ ?_; (with_reducible refine (constableref01_Word.calls k1 ((rd_T67 l0 x4_1).f1) true false _ A7.out).mono ?_); rintro e w' ⟨rfl, ⟨nd, rfl⟩⟩; refine ⟨_, rfl, ?_⟩))
        go_ret
        exact ⟨re_, be_ HB⟩
      ·rw [if_neg c6] at H
       obtain ⟨c6b0, c6b1⟩ := neB_ c6
       by_cases c16 : ((rd_T67 l0 x4_1).f0) = 2
       ·rw [if_pos c16] at H
        obtain ⟨c16b0, c16b1⟩ := eqB_ c16
        clear c16
        by_cases c17 : (((rd_T67 l0 x4_1).f1).size : Int) > 0
        ·rw [if_pos c17] at H
         have c17b0 : decide (0 < (((rd_T67 l0 x4_1).f1).size : Int)) = true := decide_eq_true c17
         have c17b1 : decide (0 < ((rd_T67 l0 x4_1).f1).size) = true := decide_eq_true (by omega)
         clear c17
         obtain rfl := Option.some.inj H
         have p285 : 0 ≤ (x4_1 : Int) := dt_
         have q285 : x4_1 < (l0.length : Int) := dt_
         obtain ⟨ad285, e285, hx285_0, hx285_1, hx285_2, hx285_3, hx285_4⟩ := at_T67 HR0.out x4_1 p285 q285
         cases e285
         replace hx285_0 := cm_ HB hx285_0
         replace hx285_1 := cm_ HB hx285_1
         replace hx285_2 := cm_ HB hx285_2
         replace hx285_3 := cm_ HB hx285_3
         replace hx285_4 := cm_ HB hx285_4
         replace p285 := eq_true p285
         replace q285 := eq_true q285
         go_wp2_with (first | ((with_reducible refine gate_dst (N := 5) rfl ?_); refine box_event ?hg (N := 5) ?hd (cs := #[.int .i64 0, .string (⟨#[]⟩ : ByteArray), .int .i64 0, .int .i64 0, .string (⟨#[]⟩ : ByteArray)]) (t := 67) ?hr ?_; (case hd => rfl); (case hg => rfl); (case hr => first | (go_simp; done) | (go_simp; rfl)); intro gb286 hg w18 hbox hb; have BK286 := Aside0.mk (hbox); have GW286 := gs_ hg (be_ HB); have GE286 := gs_ hg (be_ HB); replace HB := bs_ (be_ HB) hb; clear hb hbox hg; have hcz19_0 : w18.cell? ⟨gb286, 0, none⟩ = some (.int .i64 0) := (blk_cell BK286.out 0).trans rfl; have hcz19_1 : w18.cell? ⟨gb286, 1, none⟩ = some (.string (⟨#[]⟩ : ByteArray)) := (blk_cell BK286.out 1).trans rfl; have hcz19_2 : w18.cell? ⟨gb286, 2, none⟩ = some (.int .i64 0) := (blk_cell BK286.out 2).trans rfl; have hcz19_3 : w18.cell? ⟨gb286, 3, none⟩ = some (.int .i64 0) := (blk_cell BK286.out 3).trans rfl; have hcz19_4 : w18.cell? ⟨gb286, 4, none⟩ = some (.string (⟨#[]⟩ : ByteArray)) := (blk_cell BK286.out 4).trans rfl; have hfz19_0 := blk_frozen BK286.out 0; have hfz19_1 := blk_frozen BK286.out 1; have hfz19_2 := blk_frozen BK286.out 2; have hfz19_3 := blk_frozen BK286.out 3; have hfz19_4 := blk_frozen BK286.out 4))
         go_ret
         exact ⟨re_, be_ HB⟩
        ·rw [if_neg c17] at H
         have c17b0 : decide (0 < (((rd_T67 l0 x4_1).f1).size : Int)) = false := decide_eq_false c17
         have c17b1 : decide (0 < ((rd_T67 l0 x4_1).f1).size) = false := decide_eq_false (by omega)
         clear c17
         replace H := Option.bind_eq_some_iff.mp H
         obtain ⟨t288, A200, H⟩ := H
         try dsimp only at H
         have A20 := Aside0.mk A200
         clear A200
         by_cases c21 : t288 = true
         ·subst c21
          rw [if_pos rfl] at H
          have H' := Aside0.mk H
          clear H
          have p285 : 0 ≤ (x4_1 : Int) := dt_
          have q285 : x4_1 < (l0.length : Int) := dt_
          obtain ⟨ad285, e285, hx285_0, hx285_1, hx285_2, hx285_3, hx285_4⟩ := at_T67 HR0.out x4_1 p285 q285
          cases e285
          replace hx285_0 := cm_ HB hx285_0
          replace hx285_1 := cm_ HB hx285_1
          replace hx285_2 := cm_ HB hx285_2
          replace hx285_3 := cm_ HB hx285_3
          replace hx285_4 := cm_ HB hx285_4
          replace p285 := eq_true p285
          replace q285 := eq_true q285
          go_wp2_with (first | ((with_reducible refine gate_dst (N := 5) rfl ?_); refine box_event ?hg (N := 5) ?hd (cs := #[.int .i64 0, .string (⟨#[]⟩ : ByteArray), .int .i64 0, .int .i64 0, .string (⟨#[]⟩ : ByteArray)]) (t := 67) ?hr ?_; (case hd => rfl); (case hg => rfl); (case hr => first | (go_simp; done) | (go_simp; rfl)); intro gb286 hg w22 hbox hb; have BK286 := Aside0.mk (hbox); have GW286 := gs_ hg (be_ HB); have GE286 := gs_ hg (be_ HB); replace HB := bs_ (be_ HB) hb; clear hb hbox hg; have hcz23_0 : w22.cell? ⟨gb286, 0, none⟩ = some (.int .i64 0) := (blk_cell BK286.out 0).trans rfl; have hcz23_1 : w22.cell? ⟨gb286, 1, none⟩ = some (.string (⟨#[]⟩ : ByteArray)) := (blk_cell BK286.out 1).trans rfl; have hcz23_2 : w22.cell? ⟨gb286, 2, none⟩ = some (.int .i64 0) := (blk_cell BK286.out 2).trans rfl; have hcz23_3 : w22.cell? ⟨gb286, 3, none⟩ = some (.int .i64 0) := (blk_cell BK286.out 3).trans rfl; have hcz23_4 : w22.cell? ⟨gb286, 4, none⟩ = some (.string (⟨#[]⟩ : ByteArray)) := (blk_cell BK286.out 4).trans rfl; have hfz23_0 := blk_frozen BK286.out 0; have hfz23_1 := blk_frozen BK286.out 1; have hfz23_2 := blk_frozen BK286.out 2; have hfz23_3 := blk_frozen BK286.out 3; have hfz23_4 := blk_frozen BK286.out 4) | (go_at_call 19; (with_reducible refine (constableref01_Value.calls k1 ((rd_T67 l0 x4_1).f2.f0) ((rd_T67 l0 x4_1).f2.f1) ((rd_T67 l0 x4_1).f2.f2) true _ A20.out).mono ?_); rintro e w24 ⟨rfl, hb⟩; replace BK286 := Aside0.mk (blk_below (o := .cells #[.int .i64 ((rd_T67 l0 x4_1).f0), .string ((rd_T67 l0 x4_1).f1), .int .i64 ((rd_T67 l0 x4_1).f2.f0), .int .i64 ((rd_T67 l0 x4_1).f2.f1), .string ((rd_T67 l0 x4_1).f2.f2)] 67 (0, 0)) (bp_ BK286) hb); replace HB := bs_ (be_ HB) hb; (try clear hb); (try clear hb2); (try clear hk); (try clear hi)))
          go_roundg k1
          case measure => have := HK1.out; omega
          case rel => exact ⟨(wrap64 (x3_1 + 1)), (wrap64 (x4_1 + 1)), ra_, ra_, H', ⟨by have := HK1.out; omega⟩, be2_ HB⟩
         ·replace c21 := Bool.eq_false_iff.mpr c21
          subst c21
          rw [if_neg (show ¬ (false = true) by decide)] at H
          obtain rfl := Option.some.inj H
          have p285 : 0 ≤ (x4_1 : Int) := dt_
          have q285 : x4_1 < (l0.length : Int) := dt_
          obtain ⟨ad285, e285, hx285_0, hx285_1, hx285_2, hx285_3, hx285_4⟩ := at_T67 HR0.out x4_1 p285 q285
          cases e285
          replace hx285_0 := cm_ HB hx285_0
          replace hx285_1 := cm_ HB hx285_1
          replace hx285_2 := cm_ HB hx285_2
          replace hx285_3 := cm_ HB hx285_3
          replace hx285_4 := cm_ HB hx285_4
          replace p285 := eq_true p285
          replace q285 := eq_true q285
          go_wp2_with (first | ((with_reducible refine gate_dst (N := 5) rfl ?_); refine box_event ?hg (N := 5) ?hd (cs := #[.int .i64 0, .string (⟨#[]⟩ : ByteArray), .int .i64 0, .int .i64 0, .string (⟨#[]⟩ : ByteArray)]) (t := 67) ?hr ?_; (case hd => rfl); (case hg => rfl); (case hr => first | (go_simp; done) | (go_simp; rfl)); intro gb286 hg w25 hbox hb; have BK286 := Aside0.mk (hbox); have GW286 := gs_ hg (be_ HB); have GE286 := gs_ hg (be_ HB); replace HB := bs_ (be_ HB) hb; clear hb hbox hg; have hcz26_0 : w25.cell? ⟨gb286, 0, none⟩ = some (.int .i64 0) := (blk_cell BK286.out 0).trans rfl; have hcz26_1 : w25.cell? ⟨gb286, 1, none⟩ = some (.string (⟨#[]⟩ : ByteArray)) := (blk_cell BK286.out 1).trans rfl; have hcz26_2 : w25.cell? ⟨gb286, 2, none⟩ = some (.int .i64 0) := (blk_cell BK286.out 2).trans rfl; have hcz26_3 : w25.cell? ⟨gb286, 3, none⟩ = some (.int .i64 0) := (blk_cell BK286.out 3).trans rfl; have hcz26_4 : w25.cell? ⟨gb286, 4, none⟩ = some (.string (⟨#[]⟩ : ByteArray)) := (blk_cell BK286.out 4).trans rfl; have hfz26_0 := blk_frozen BK286.out 0; have hfz26_1 := blk_frozen BK286.out 1; have hfz26_2 := blk_frozen BK286.out 2; have hfz26_3 := blk_frozen BK286.out 3; have hfz26_4 := blk_frozen BK286.out 4) | (go_at_call 19; (with_reducible refine (constableref01_Value.calls k1 ((rd_T67 l0 x4_1).f2.f0) ((rd_T67 l0 x4_1).f2.f1) ((rd_T67 l0 x4_1).f2.f2) false _ A20.out).mono ?_); rintro e w27 ⟨rfl, hb⟩; replace BK286 := Aside0.mk (blk_below (o := .cells #[.int .i64 ((rd_T67 l0 x4_1).f0), .string ((rd_T67 l0 x4_1).f1), .int .i64 ((rd_T67 l0 x4_1).f2.f0), .int .i64 ((rd_T67 l0 x4_1).f2.f1), .string ((rd_T67 l0 x4_1).f2.f2)] 67 (0, 0)) (bp_ BK286) hb); replace HB := bs_ (be_ HB) hb; (try clear hb); (try clear hb2); (try clear hk); (try clear hi)))
          go_ret
          exact ⟨re_, be_ HB⟩
       ·rw [if_neg c16] at H
        obtain ⟨c16b0, c16b1⟩ := neB_ c16
        have HC28 := Aside0.mk H
        clear H
        have p285 : 0 ≤ (x4_1 : Int) := dt_
        have q285 : x4_1 < (l0.length : Int) := dt_
        obtain ⟨ad285, e285, hx285_0, hx285_1, hx285_2, hx285_3, hx285_4⟩ := at_T67 HR0.out x4_1 p285 q285
        cases e285
        replace hx285_0 := cm_ HB hx285_0
        replace hx285_1 := cm_ HB hx285_1
        replace hx285_2 := cm_ HB hx285_2
        replace hx285_3 := cm_ HB hx285_3
        replace hx285_4 := cm_ HB hx285_4
        replace p285 := eq_true p285
        replace q285 := eq_true q285
        go_upto_if 50 with (first | ((with_reducible refine gate_dst (N := 5) rfl ?_); refine box_event ?hg (N := 5) ?hd (cs := #[.int .i64 0, .string (⟨#[]⟩ : ByteArray), .int .i64 0, .int .i64 0, .string (⟨#[]⟩ : ByteArray)]) (t := 67) ?hr ?_; (case hd => rfl); (case hg => rfl); (case hr => first | (go_simp; done) | (go_simp; rfl)); intro gb286 hg w29 hbox hb; have BK286 := Aside0.mk (hbox); have GW286 := gs_ hg (be_ HB); have GE286 := gs_ hg (be_ HB); replace HB := bs_ (be_ HB) hb; clear hb hbox hg; have hcz30_0 : w29.cell? ⟨gb286, 0, none⟩ = some (.int .i64 0) := (blk_cell BK286.out 0).trans rfl; have hcz30_1 : w29.cell? ⟨gb286, 1, none⟩ = some (.string (⟨#[]⟩ : ByteArray)) := (blk_cell BK286.out 1).trans rfl; have hcz30_2 : w29.cell? ⟨gb286, 2, none⟩ = some (.int .i64 0) := (blk_cell BK286.out 2).trans rfl; have hcz30_3 : w29.cell? ⟨gb286, 3, none⟩ = some (.int .i64 0) := (blk_cell BK286.out 3).trans rfl; have hcz30_4 : w29.cell? ⟨gb286, 4, none⟩ = some (.string (⟨#[]⟩ : ByteArray)) := (blk_cell BK286.out 4).trans rfl; have hfz30_0 := blk_frozen BK286.out 0; have hfz30_1 := blk_frozen BK286.out 1; have hfz30_2 := blk_frozen BK286.out 2; have hfz30_3 := blk_frozen BK286.out 3; have hfz30_4 := blk_frozen BK286.out 4))
        (try simp only [Act.put, List.setIfInBounds_toArray, List.set_cons_zero, List.set_cons_succ])
        go_cut [50] (fun v50 wc => ∃ (kq : Nat) (x50_27 : Bool), v50 = .bool x50_27 ∧ Aside0 (constableref01_Expr.j1 kq l0 x3_1 x4_1 x50_27 ((rd_T67 l0 x4_1).f0) ((rd_T67 l0 x4_1).f1) ((rd_T67 l0 x4_1).f2.f0) ((rd_T67 l0 x4_1).f2.f1) ((rd_T67 l0 x4_1).f2.f2) = some r) ∧ Aside0 (kq ≤ k1) ∧ Aside0 (wc.heap[gb286]? = some (.cells #[.int .i64 ((rd_T67 l0 x4_1).f0), .string ((rd_T67 l0 x4_1).f1), .int .i64 ((rd_T67 l0 x4_1).f2.f0), .int .i64 ((rd_T67 l0 x4_1).f2.f1), .string ((rd_T67 l0 x4_1).f2.f2)] 67 (0, 0))) ∧ Aside0 (Below w.heap.size w wc))
        case first =>
         have H := HC28.out
         clear HC28
         by_cases c31 : ((rd_T67 l0 x4_1).f0) = 3
         ·rw [if_pos c31] at H
          obtain ⟨c31b0, c31b1⟩ := eqB_ c31
          clear c31
          (first | rw [c31b0] | (simp only [i64_w, i32_w]; rw [c31b0]) | skip)
          have H' := Aside0.mk H
          clear H
          go_wp2
          go_meet
          case rel => exact ⟨_, ((((rd_T67 l0 x4_1).f0) == 3)), ra_, H', ⟨by have := HK1.out; first | omega | exact Nat.le_refl _⟩, ⟨by (with_reducible repeat (first | refine blk_drewN ?_ _ | refine blk_drew ?_ | refine blk_alloc ?_ _)); refine blk_put (cs := #[.int .i64 ((rd_T67 l0 x4_1).f0), .string ((rd_T67 l0 x4_1).f1), .int .i64 ((rd_T67 l0 x4_1).f2.f0), .int .i64 ((rd_T67 l0 x4_1).f2.f1), .string (⟨#[]⟩ : ByteArray)]) ?_ 4 _ rfl; (with_reducible repeat (first | refine blk_drewN ?_ _ | refine blk_drew ?_ | refine blk_alloc ?_ _)); refine blk_put (cs := #[.int .i64 ((rd_T67 l0 x4_1).f0), .string ((rd_T67 l0 x4_1).f1), .int .i64 ((rd_T67 l0 x4_1).f2.f0), .int .i64 0, .string (⟨#[]⟩ : ByteArray)]) ?_ 3 _ rfl; (with_reducible repeat (first | refine blk_drewN ?_ _ | refine blk_drew ?_ | refine blk_alloc ?_ _)); refine blk_put (cs := #[.int .i64 ((rd_T67 l0 x4_1).f0), .string ((rd_T67 l0 x4_1).f1), .int .i64 0, .int .i64 0, .string (⟨#[]⟩ : ByteArray)]) ?_ 2 _ rfl; (with_reducible repeat (first | refine blk_drewN ?_ _ | refine blk_drew ?_ | refine blk_alloc ?_ _)); refine blk_put (cs := #[.int .i64 ((rd_T67 l0 x4_1).f0), .string (⟨#[]⟩ : ByteArray), .int .i64 0, .int .i64 0, .string (⟨#[]⟩ : ByteArray)]) ?_ 1 _ rfl; (with_reducible repeat (first | refine blk_drewN ?_ _ | refine blk_drew ?_ | refine blk_alloc ?_ _)); refine blk_put (cs := #[.int .i64 0, .string (⟨#[]⟩ : ByteArray), .int .i64 0, .int .i64 0, .string (⟨#[]⟩ : ByteArray)]) ?_ 0 _ rfl; (with_reducible repeat (first | refine blk_drewN ?_ _ | refine blk_drew ?_ | refine blk_alloc ?_ _)); exact BK286.out⟩, be2_ HB⟩
         ·rw [if_neg c31] at H
          obtain ⟨c31b0, c31b1⟩ := neB_ c31
          (first | rw [c31b0] | (simp only [i64_w, i32_w]; rw [c31b0]) | skip)
          by_cases c32 : ((rd_T67 l0 x4_1).f0) = 4
          ·rw [if_pos c32] at H
           obtain ⟨c32b0, c32b1⟩ := eqB_ c32
           clear c32
           have H' := Aside0.mk H
           clear H
           go_wp2
           go_meet
           case rel => exact ⟨_, ((((rd_T67 l0 x4_1).f0) == 4)), ra_, H', ⟨by have := HK1.out; first | omega | exact Nat.le_refl _⟩, ⟨by (with_reducible repeat (first | refine blk_drewN ?_ _ | refine blk_drew ?_ | refine blk_alloc ?_ _)); refine blk_put (cs := #[.int .i64 ((rd_T67 l0 x4_1).f0), .string ((rd_T67 l0 x4_1).f1), .int .i64 ((rd_T67 l0 x4_1).f2.f0), .int .i64 ((rd_T67 l0 x4_1).f2.f1), .string (⟨#[]⟩ : ByteArray)]) ?_ 4 _ rfl; (with_reducible repeat (first | refine blk_drewN ?_ _ | refine blk_drew ?_ | refine blk_alloc ?_ _)); refine blk_put (cs := #[.int .i64 ((rd_T67 l0 x4_1).f0), .string ((rd_T67 l0 x4_1).f1), .int .i64 ((rd_T67 l0 x4_1).f2.f0), .int .i64 0, .string (⟨#[]⟩ : ByteArray)]) ?_ 3 _ rfl; (with_reducible repeat (first | refine blk_drewN ?_ _ | refine blk_drew ?_ | refine blk_alloc ?_ _)); refine blk_put (cs := #[.int .i64 ((rd_T67 l0 x4_1).f0), .string ((rd_T67 l0 x4_1).f1), .int .i64 0, .int .i64 0, .string (⟨#[]⟩ : ByteArray)]) ?_ 2 _ rfl; (with_reducible repeat (first | refine blk_drewN ?_ _ | refine blk_drew ?_ | refine blk_alloc ?_ _)); refine blk_put (cs := #[.int .i64 ((rd_T67 l0 x4_1).f0), .string (⟨#[]⟩ : ByteArray), .int .i64 0, .int .i64 0, .string (⟨#[]⟩ : ByteArray)]) ?_ 1 _ rfl; (with_reducible repeat (first | refine blk_drewN ?_ _ | refine blk_drew ?_ | refine blk_alloc ?_ _)); refine blk_put (cs := #[.int .i64 0, .string (⟨#[]⟩ : ByteArray), .int .i64 0, .int .i64 0, .string (⟨#[]⟩ : ByteArray)]) ?_ 0 _ rfl; (with_reducible repeat (first | refine blk_drewN ?_ _ | refine blk_drew ?_ | refine blk_alloc ?_ _)); exact BK286.out⟩, be2_ HB⟩
          ·rw [if_neg c32] at H
           obtain ⟨c32b0, c32b1⟩ := neB_ c32
           have H' := Aside0.mk H
           clear H
           go_wp2
           go_meet
           case rel => exact ⟨_, ((((rd_T67 l0 x4_1).f0) == 5)), ra_, H', ⟨by have := HK1.out; first | omega | exact Nat.le_refl _⟩, ⟨by (with_reducible repeat (first | refine blk_drewN ?_ _ | refine blk_drew ?_ | refine blk_alloc ?_ _)); refine blk_put (cs := #[.int .i64 ((rd_T67 l0 x4_1).f0), .string ((rd_T67 l0 x4_1).f1), .int .i64 ((rd_T67 l0 x4_1).f2.f0), .int .i64 ((rd_T67 l0 x4_1).f2.f1), .string (⟨#[]⟩ : ByteArray)]) ?_ 4 _ rfl; (with_reducible repeat (first | refine blk_drewN ?_ _ | refine blk_drew ?_ | refine blk_alloc ?_ _)); refine blk_put (cs := #[.int .i64 ((rd_T67 l0 x4_1).f0), .string ((rd_T67 l0 x4_1).f1), .int .i64 ((rd_T67 l0 x4_1).f2.f0), .int .i64 0, .string (⟨#[]⟩ : ByteArray)]) ?_ 3 _ rfl; (with_reducible repeat (first | refine blk_drewN ?_ _ | refine blk_drew ?_ | refine blk_alloc ?_ _)); refine blk_put (cs := #[.int .i64 ((rd_T67 l0 x4_1).f0), .string ((rd_T67 l0 x4_1).f1), .int .i64 0, .int .i64 0, .string (⟨#[]⟩ : ByteArray)]) ?_ 2 _ rfl; (with_reducible repeat (first | refine blk_drewN ?_ _ | refine blk_drew ?_ | refine blk_alloc ?_ _)); refine blk_put (cs := #[.int .i64 ((rd_T67 l0 x4_1).f0), .string (⟨#[]⟩ : ByteArray), .int .i64 0, .int .i64 0, .string (⟨#[]⟩ : ByteArray)]) ?_ 1 _ rfl; (with_reducible repeat (first | refine blk_drewN ?_ _ | refine blk_drew ?_ | refine blk_alloc ?_ _)); refine blk_put (cs := #[.int .i64 0, .string (⟨#[]⟩ : ByteArray), .int .i64 0, .int .i64 0, .string (⟨#[]⟩ : ByteArray)]) ?_ 0 _ rfl; (with_reducible repeat (first | refine blk_drewN ?_ _ | refine blk_drew ?_ | refine blk_alloc ?_ _)); exact BK286.out⟩, be2_ HB⟩
        case rest =>
         clear HC28
         try clear c1; try clear c2; try clear p2; try clear q2; try clear hx2; try clear c3; try clear c4; try clear c4b0; try clear c5; try clear c5b0; try clear c6; try clear c6b0; try clear c6b1; try clear p6; try clear c8; try clear c9; try clear c9b0; try clear c9b1; try clear c16; try clear c16b0; try clear c16b1; try clear c17; try clear c17b0; try clear c17b1; try clear c21; try clear p28; try clear q28; try clear hx28; try clear c29; try clear c31; try clear c31b0; try clear c31b1; try clear c32; try clear c32b0; try clear c32b1; try clear hcz11_0; try clear hcz11_1; try clear hcz11_2; try clear hcz11_3; try clear hcz11_4; try clear hcz13_0; try clear hcz13_1; try clear hcz13_2; try clear hcz13_3; try clear hcz13_4; try clear hcz15_0; try clear hcz15_1; try clear hcz15_2; try clear hcz15_3; try clear hcz15_4; try clear hcz19_0; try clear hcz19_1; try clear hcz19_2; try clear hcz19_3; try clear hcz19_4; try clear hcz23_0; try clear hcz23_1; try clear hcz23_2; try clear hcz23_3; try clear hcz23_4; try clear hcz26_0; try clear hcz26_1; try clear hcz26_2; try clear hcz26_3; try clear hcz26_4; try clear hcz30_0; try clear hcz30_1; try clear hcz30_2; try clear hcz30_3; try clear hcz30_4; try clear hfz11_0; try clear hfz11_1; try clear hfz11_2; try clear hfz11_3; try clear hfz11_4; try clear hfz13_0; try clear hfz13_1; try clear hfz13_2; try clear hfz13_3; try clear hfz13_4; try clear hfz15_0; try clear hfz15_1; try clear hfz15_2; try clear hfz15_3; try clear hfz15_4; try clear hfz19_0; try clear hfz19_1; try clear hfz19_2; try clear hfz19_3; try clear hfz19_4; try clear hfz23_0; try clear hfz23_1; try clear hfz23_2; try clear hfz23_3; try clear hfz23_4; try clear hfz26_0; try clear hfz26_1; try clear hfz26_2; try clear hfz26_3; try clear hfz26_4; try clear hfz30_0; try clear hfz30_1; try clear hfz30_2; try clear hfz30_3; try clear hfz30_4; try clear hx285_0; try clear hx285_1; try clear hx285_2; try clear hx285_3; try clear hx285_4; try clear p2; try clear p285; try clear q285
         obtain ⟨kq, x50_27, rfl, HA, HJ27, BK286, HB⟩ := hcut
         cases kq with
         | zero => exact absurd HA.out (by simp [constableref01_Expr.j1])
         | succ kj27 =>
          have H := HA.out
          clear HA
          simp only [constableref01_Expr.j1] at H
          by_cases c33 : x50_27 = true
          ·subst c33
           rw [if_pos rfl] at H
           by_cases c34 : (((rd_T67 l0 x4_1).f1).size : Int) > 0
           ·rw [if_pos c34] at H
            have c34b0 : decide (0 < (((rd_T67 l0 x4_1).f1).size : Int)) = true := decide_eq_true c34
            have c34b1 : decide (0 < ((rd_T67 l0 x4_1).f1).size) = true := decide_eq_true (by omega)
            clear c34
            obtain rfl := Option.some.inj H
            have hcz35_0 : wc.cell? ⟨gb286, 0, none⟩ = some (.int .i64 ((rd_T67 l0 x4_1).f0)) := (blk_cell BK286.out 0).trans rfl
            have hcz35_1 : wc.cell? ⟨gb286, 1, none⟩ = some (.string ((rd_T67 l0 x4_1).f1)) := (blk_cell BK286.out 1).trans rfl
            have hcz35_2 : wc.cell? ⟨gb286, 2, none⟩ = some (.int .i64 ((rd_T67 l0 x4_1).f2.f0)) := (blk_cell BK286.out 2).trans rfl
            have hcz35_3 : wc.cell? ⟨gb286, 3, none⟩ = some (.int .i64 ((rd_T67 l0 x4_1).f2.f1)) := (blk_cell BK286.out 3).trans rfl
            have hcz35_4 : wc.cell? ⟨gb286, 4, none⟩ = some (.string ((rd_T67 l0 x4_1).f2.f2)) := (blk_cell BK286.out 4).trans rfl
            have hfz35_0 := blk_frozen BK286.out 0
            have hfz35_1 := blk_frozen BK286.out 1
            have hfz35_2 := blk_frozen BK286.out 2
            have hfz35_3 := blk_frozen BK286.out 3
            have hfz35_4 := blk_frozen BK286.out 4
            go_wp2
            go_ret
            exact ⟨re_, be_ HB⟩
           ·rw [if_neg c34] at H
            have c34b0 : decide (0 < (((rd_T67 l0 x4_1).f1).size : Int)) = false := decide_eq_false c34
            have c34b1 : decide (0 < ((rd_T67 l0 x4_1).f1).size) = false := decide_eq_false (by omega)
            clear c34
            by_cases c36 : (!(((rd_T67 l0 x4_1).f2.f0) == 0) || (!(((rd_T67 l0 x4_1).f2.f1) == 0) || (!(((rd_T67 l0 x4_1).f2.f2).toList == ([] : List UInt8))))) = true
            ·rw [if_pos c36] at H
             have c36b0 : (!(((rd_T67 l0 x4_1).f2.f0) == 0) || (!(((rd_T67 l0 x4_1).f2.f1) == 0) || (!(((rd_T67 l0 x4_1).f2.f2).toList == ([] : List UInt8))))) = true := c36
             (try (have c36b1 : (!(((rd_T67 l0 x4_1).f2.f0) == 0) || (!(((rd_T67 l0 x4_1).f2.f1) == 0) || (!(((rd_T67 l0 x4_1).f2.f2).toList.isEmpty)))) = true := by first | simpa using c36 | (simp at c36 ⊢; exact c36)))
             clear c36
             obtain rfl := Option.some.inj H
             have hcz37_0 : wc.cell? ⟨gb286, 0, none⟩ = some (.int .i64 ((rd_T67 l0 x4_1).f0)) := (blk_cell BK286.out 0).trans rfl
             have hcz37_1 : wc.cell? ⟨gb286, 1, none⟩ = some (.string ((rd_T67 l0 x4_1).f1)) := (blk_cell BK286.out 1).trans rfl
             have hcz37_2 : wc.cell? ⟨gb286, 2, none⟩ = some (.int .i64 ((rd_T67 l0 x4_1).f2.f0)) := (blk_cell BK286.out 2).trans rfl
             have hcz37_3 : wc.cell? ⟨gb286, 3, none⟩ = some (.int .i64 ((rd_T67 l0 x4_1).f2.f1)) := (blk_cell BK286.out 3).trans rfl
             have hcz37_4 : wc.cell? ⟨gb286, 4, none⟩ = some (.string ((rd_T67 l0 x4_1).f2.f2)) := (blk_cell BK286.out 4).trans rfl
             have hfz37_0 := blk_frozen BK286.out 0
             have hfz37_1 := blk_frozen BK286.out 1
             have hfz37_2 := blk_frozen BK286.out 2
             have hfz37_3 := blk_frozen BK286.out 3
             have hfz37_4 := blk_frozen BK286.out 4
             go_wp2
             go_ret
             exact ⟨re_, be_ HB⟩
            ·rw [if_neg c36] at H
             have c36b0 := Bool.eq_false_iff.2 c36
             (try (have c36b1 : (!(((rd_T67 l0 x4_1).f2.f0) == 0) || (!(((rd_T67 l0 x4_1).f2.f1) == 0) || (!(((rd_T67 l0 x4_1).f2.f2).toList.isEmpty)))) = false := by first | simpa using c36 | (simp at c36 ⊢; exact c36)))
             clear c36
             by_cases c38 : x3_1 < 2
             ·rw [if_pos c38] at H
              have c38b0 : decide (x3_1 < 2) = true := decide_eq_true c38
              clear c38
              obtain rfl := Option.some.inj H
              have hcz39_0 : wc.cell? ⟨gb286, 0, none⟩ = some (.int .i64 ((rd_T67 l0 x4_1).f0)) := (blk_cell BK286.out 0).trans rfl
              have hcz39_1 : wc.cell? ⟨gb286, 1, none⟩ = some (.string ((rd_T67 l0 x4_1).f1)) := (blk_cell BK286.out 1).trans rfl
              have hcz39_2 : wc.cell? ⟨gb286, 2, none⟩ = some (.int .i64 ((rd_T67 l0 x4_1).f2.f0)) := (blk_cell BK286.out 2).trans rfl
              have hcz39_3 : wc.cell? ⟨gb286, 3, none⟩ = some (.int .i64 ((rd_T67 l0 x4_1).f2.f1)) := (blk_cell BK286.out 3).trans rfl
              have hcz39_4 : wc.cell? ⟨gb286, 4, none⟩ = some (.string ((rd_T67 l0 x4_1).f2.f2)) := (blk_cell BK286.out 4).trans rfl
              have hfz39_0 := blk_frozen BK286.out 0
              have hfz39_1 := blk_frozen BK286.out 1
              have hfz39_2 := blk_frozen BK286.out 2
              have hfz39_3 := blk_frozen BK286.out 3
              have hfz39_4 := blk_frozen BK286.out 4
              go_wp2
              go_ret
              exact ⟨re_, be_ HB⟩
             ·rw [if_neg c38] at H
              have c38b0 : decide (x3_1 < 2) = false := decide_eq_false c38
              clear c38
              have H' := Aside0.mk H
              clear H
              have hcz40_0 : wc.cell? ⟨gb286, 0, none⟩ = some (.int .i64 ((rd_T67 l0 x4_1).f0)) := (blk_cell BK286.out 0).trans rfl
              have hcz40_1 : wc.cell? ⟨gb286, 1, none⟩ = some (.string ((rd_T67 l0 x4_1).f1)) := (blk_cell BK286.out 1).trans rfl
              have hcz40_2 : wc.cell? ⟨gb286, 2, none⟩ = some (.int .i64 ((rd_T67 l0 x4_1).f2.f0)) := (blk_cell BK286.out 2).trans rfl
              have hcz40_3 : wc.cell? ⟨gb286, 3, none⟩ = some (.int .i64 ((rd_T67 l0 x4_1).f2.f1)) := (blk_cell BK286.out 3).trans rfl
              have hcz40_4 : wc.cell? ⟨gb286, 4, none⟩ = some (.string ((rd_T67 l0 x4_1).f2.f2)) := (blk_cell BK286.out 4).trans rfl
              have hfz40_0 := blk_frozen BK286.out 0
              have hfz40_1 := blk_frozen BK286.out 1
              have hfz40_2 := blk_frozen BK286.out 2
              have hfz40_3 := blk_frozen BK286.out 3
              have hfz40_4 := blk_frozen BK286.out 4
              go_wp2
              go_roundg kj27
              case measure => have := HK1.out; have := HJ27.out; omega
              case rel => exact ⟨(wrap64 (x3_1 - 1)), (wrap64 (x4_1 + 1)), ra_, ra_, H', ⟨by have := HK1.out; have := HJ27.out; omega⟩, be2_ HB⟩
          ·replace c33 := Bool.eq_false_iff.mpr c33
           subst c33
           rw [if_neg (show ¬ (false = true) by decide)] at H
           obtain rfl := Option.some.inj H
           go_wp2
           go_ret
           exact ⟨re_, be_ HB⟩
     ·rw [if_neg c5] at H
      exact absurd H (by simp)
    ·rw [if_neg c4] at H
     have c4b0 : decide (x4_1 < (l0.length : Int)) = false := decide_eq_false c4
     clear c4
     obtain rfl := Option.some.inj H
     go_wp2
     go_ret
     exact ⟨re_, be_ HB⟩
 ·replace c3 := Bool.eq_false_iff.mpr c3
  subst c3
  rw [if_neg (show ¬ (false = true) by decide)] at H
  obtain rfl := Option.some.inj H
  go_enter Try.func21, Try.ntmps21
  go_wp2_with (first | ((with_reducible refine gate_callee (f := 29) rfl ?_); refine goesL_ (some 8) rfl rfl Try.func29 (by kernel_rfl) rfl #[.int .i64 (l0.length : Int), .int .i64 1, .int .i64 15] rfl ga_ ?_; (with_reducible refine (constableref01_In.calls (l0.length : Int) 1 15 false _ A2.out).mono ?_); rintro e w' ⟨rfl, ⟨nd, rfl⟩⟩; refine ⟨_, rfl, ?_⟩))
  go_ret
  exact ⟨re_, be_ HB⟩
end Go.Proofs.Ytaopajmpifenoaa.P
end
section
namespace Go.Proofs.Ytaopajmpifenoaa.P
open Go.RowKit Go.Proofs.YtaopajmpifenoaaW.PrintWords Go.Proofs.YtaopajmpifenoaaW.PrintLast Go.Proofs.YtaopajmpifenoaaW.PrintMore
attribute [local go_sem] max2_int min2_int max_two min_two max_three min_three max_four min_four
set_option linter.unusedVariables false
set_option linter.unusedSimpArgs false
def constableref01_Guard.f (k : Nat) (a0_0 : Int) (a0_1 : ByteArray) (l0_2 : List (S72)) (a0_3 : Int) (l0_4 : List (S67)) (l0_5 : List (S67)) : Option (Bool) := if a0_0 = 3 then (if (wrap64 ((a0_1.size : Int) + (l0_2.length : Int))) = 0 then ((constableref01_In.f a0_3 1 4).bind fun t290 => (if t290 = true then ((constableref01_Expr.f k l0_4).bind fun t291 => (if t291 = true then ((constableref01_Expr.f k l0_5).bind fun t292 => (some t292)) else (some false))) else (some false))) else (some false)) else (some false)
theorem constableref01_Guard.mono : ∀ a0 a1 a2 a3 a4 a5 k, LeO (constableref01_Guard.f k a0 a1 a2 a3 a4 a5) (constableref01_Guard.f (k + 1) a0 a1 a2 a3 a4 a5) := by
 intro a0 a1 a2 a3 a4 a5 k
 unfold constableref01_Guard.f
 repeat' first
   | (with_reducible exact constableref01_Expr.mono ..)
   | (with_reducible exact LeO.refl _)
   | (with_reducible exact LeO.none _)
   | (with_reducible refine LeO.ite ?_ ?_)
   | (with_reducible refine LeO.bind ?_ (fun _ => ?_))
   | exact constableref01_Expr.mono ..
   | exact LeO.none _
   | refine LeO.ite ?_ ?_
   | refine LeO.bind ?_ (fun _ => ?_)
set_option maxHeartbeats 8000000 in
set_option maxRecDepth 100000 in
theorem constableref01_Guard.calls (k : Nat) (a0_0 : Int) (a0_1 : ByteArray) (A0_2 : Option Addr) (c0_2 : Nat) (l0_2 : List (S72)) (a0_3 : Int) (A0_4 : Option Addr) (c0_4 : Nat) (l0_4 : List (S67)) (A0_5 : Option Addr) (c0_5 : Nat) (l0_5 : List (S67)) (r : Bool) (w : World) (hr0_2 : Kd.C k72 w A0_2 l0_2.length l0_2) (hc0_2 : l0_2.length ≤ c0_2) (hr0_4 : Kd.C k67 w A0_4 l0_4.length l0_4) (hc0_4 : l0_4.length ≤ c0_4) (hr0_5 : Kd.C k67 w A0_5 l0_5.length l0_5) (hc0_5 : l0_5.length ≤ c0_5) (h : constableref01_Guard.f k a0_0 a0_1 l0_2 a0_3 l0_4 l0_5 = some r) :
  Calls Try.prog 14 #[.agg #[.int .i64 a0_0, .string a0_1, .slice A0_2 l0_2.length c0_2, .int .i64 a0_3, .slice A0_4 l0_4.length c0_4, .slice A0_5 l0_5.length c0_5]] w fun e w' => e = .returned (.bool r) ∧ Below w.heap.size w w' := by
 have hu29 := Try.underlying29
 have HR0_2 := Aside0.mk hr0_2
 have HC0_2 := Aside0.mk hc0_2
 clear hr0_2 hc0_2
 have HR0_4 := Aside0.mk hr0_4
 have HC0_4 := Aside0.mk hc0_4
 clear hr0_4 hc0_4
 have HR0_5 := Aside0.mk hr0_5
 have HC0_5 := Aside0.mk hc0_5
 clear hr0_5 hc0_5
 have HB := Aside0.mk (Below.refl w.heap.size w)
 have H : (if a0_0 = 3 then (if (wrap64 ((a0_1.size : Int) + (l0_2.length : Int))) = 0 then ((constableref01_In.f a0_3 1 4).bind fun t290 => (if t290 = true then ((constableref01_Expr.f k l0_4).bind fun t291 => (if t291 = true then ((constableref01_Expr.f k l0_5).bind fun t292 => (some t292)) else (some false))) else (some false))) else (some false)) else (some false)) = some r := h
 clear h
 by_cases c2 : a0_0 = 3
 ·rw [if_pos c2] at H
  obtain ⟨c2b0, c2b1⟩ := eqB_ c2
  clear c2
  by_cases c3 : (wrap64 ((a0_1.size : Int) + (l0_2.length : Int))) = 0
  ·rw [if_pos c3] at H
   obtain ⟨c3b0, c3b1⟩ := eqB_ c3
   clear c3
   replace H := Option.bind_eq_some_iff.mp H
   obtain ⟨t290, A40, H⟩ := H
   try dsimp only at H
   have A4 := Aside0.mk A40
   clear A40
   by_cases c5 : t290 = true
   ·subst c5
    rw [if_pos rfl] at H
    replace H := Option.bind_eq_some_iff.mp H
    obtain ⟨t291, A60, H⟩ := H
    try dsimp only at H
    have A6 := Aside0.mk A60
    clear A60
    by_cases c7 : t291 = true
    ·subst c7
     rw [if_pos rfl] at H
     replace H := Option.bind_eq_some_iff.mp H
     obtain ⟨t292, A80, H⟩ := H
     try dsimp only at H
     have A8 := Aside0.mk A80
     clear A80
     obtain rfl := Option.some.inj H
     go_enter Try.func14, Try.ntmps14
     go_wp2_with (first | ((with_reducible refine gate_dst (N := 1) rfl ?_); (try (refine gate_guard (by rfl) ?_; dsimp only)); refine box_event ?hg (N := 1) ?hd (cs := #[.int .i64 a0_0, .string a0_1, .slice A0_2 l0_2.length c0_2, .int .i64 a0_3, .slice A0_4 l0_4.length c0_4, .slice A0_5 l0_5.length c0_5]) (t := 29) ?hr ?_; (case hd => rfl); (case hg => rfl); (case hr => first | (go_simp; done) | (go_simp; rfl)); intro gb289 hg w9 hbox hb; have BK289 := Aside0.mk (hbox); have GW289 := gs_ hg (be_ HB); have GE289 := gs_ hg (be_ HB); replace HB := bs_ (be_ HB) hb; clear hb hbox hg; have hcz10_0 : w9.cell? ⟨gb289, 0, none⟩ = some (.int .i64 a0_0) := (blk_cell BK289.out 0).trans rfl; have hcz10_1 : w9.cell? ⟨gb289, 1, none⟩ = some (.string a0_1) := (blk_cell BK289.out 1).trans rfl; have hcz10_2 : w9.cell? ⟨gb289, 2, none⟩ = some (.slice A0_2 l0_2.length c0_2) := (blk_cell BK289.out 2).trans rfl; have hcz10_3 : w9.cell? ⟨gb289, 3, none⟩ = some (.int .i64 a0_3) := (blk_cell BK289.out 3).trans rfl; have hcz10_4 : w9.cell? ⟨gb289, 4, none⟩ = some (.slice A0_4 l0_4.length c0_4) := (blk_cell BK289.out 4).trans rfl; have hcz10_5 : w9.cell? ⟨gb289, 5, none⟩ = some (.slice A0_5 l0_5.length c0_5) := (blk_cell BK289.out 5).trans rfl; have hfz10_0 := blk_frozen BK289.out 0; have hfz10_1 := blk_frozen BK289.out 1; have hfz10_2 := blk_frozen BK289.out 2; have hfz10_3 := blk_frozen BK289.out 3; have hfz10_4 := blk_frozen BK289.out 4; have hfz10_5 := blk_frozen BK289.out 5) | (go_at_call 29; (with_reducible refine (constableref01_In.calls a0_3 1 4 true _ A4.out).mono ?_); rintro e w' ⟨rfl, ⟨nd, rfl⟩⟩) | (go_at_call 21; (with_reducible refine (constableref01_Expr.calls k _ _ l0_4 true _ ?side1 ?side2 A6.out).mono ?_); (case side1 => exact kd_ ((Kd.C_below HR0_4.out (be_ HB)))); (case side2 => exact HC0_4.out); rintro e w11 ⟨rfl, hb⟩; replace BK289 := bb_ (bu_ BK289) hb; replace HB := bs_ (be_ HB) hb; (try clear hb); (try clear hb2); (try clear hk); (try clear hi); have hcz12_0 : w11.cell? ⟨gb289, 0, none⟩ = some (.int .i64 a0_0) := (blk_cell BK289.out 0).trans rfl; have hcz12_1 : w11.cell? ⟨gb289, 1, none⟩ = some (.string a0_1) := (blk_cell BK289.out 1).trans rfl; have hcz12_2 : w11.cell? ⟨gb289, 2, none⟩ = some (.slice A0_2 l0_2.length c0_2) := (blk_cell BK289.out 2).trans rfl; have hcz12_3 : w11.cell? ⟨gb289, 3, none⟩ = some (.int .i64 a0_3) := (blk_cell BK289.out 3).trans rfl; have hcz12_4 : w11.cell? ⟨gb289, 4, none⟩ = some (.slice A0_4 l0_4.length c0_4) := (blk_cell BK289.out 4).trans rfl; have hcz12_5 : w11.cell? ⟨gb289, 5, none⟩ = some (.slice A0_5 l0_5.length c0_5) := (blk_cell BK289.out 5).trans rfl; have hfz12_0 := blk_frozen BK289.out 0; have hfz12_1 := blk_frozen BK289.out 1; have hfz12_2 := blk_frozen BK289.out 2; have hfz12_3 := blk_frozen BK289.out 3; have hfz12_4 := blk_frozen BK289.out 4; have hfz12_5 := blk_frozen BK289.out 5) | (go_at_call 21; (with_reducible refine (constableref01_Expr.calls k _ _ l0_5 t292 _ ?side1 ?side2 A8.out).mono ?_); (case side1 => exact kd_ ((Kd.C_below HR0_5.out HB.out))); (case side2 => exact HC0_5.out); rintro e w13 ⟨rfl, hb⟩; replace BK289 := bb_ (bu_ BK289) hb; replace HB := bs_ (be_ HB) hb; (try clear hb); (try clear hb2); (try clear hk); (try clear hi)))
     go_ret
     exact ⟨re_, be_ HB⟩
    ·replace c7 := Bool.eq_false_iff.mpr c7
     subst c7
     rw [if_neg (show ¬ (false = true) by decide)] at H
     obtain rfl := Option.some.inj H
     go_enter Try.func14, Try.ntmps14
     go_wp2_with (first | ((with_reducible refine gate_dst (N := 1) rfl ?_); (try (refine gate_guard (by rfl) ?_; dsimp only)); refine box_event ?hg (N := 1) ?hd (cs := #[.int .i64 a0_0, .string a0_1, .slice A0_2 l0_2.length c0_2, .int .i64 a0_3, .slice A0_4 l0_4.length c0_4, .slice A0_5 l0_5.length c0_5]) (t := 29) ?hr ?_; (case hd => rfl); (case hg => rfl); (case hr => first | (go_simp; done) | (go_simp; rfl)); intro gb289 hg w14 hbox hb; have BK289 := Aside0.mk (hbox); have GW289 := gs_ hg (be_ HB); have GE289 := gs_ hg (be_ HB); replace HB := bs_ (be_ HB) hb; clear hb hbox hg; have hcz15_0 : w14.cell? ⟨gb289, 0, none⟩ = some (.int .i64 a0_0) := (blk_cell BK289.out 0).trans rfl; have hcz15_1 : w14.cell? ⟨gb289, 1, none⟩ = some (.string a0_1) := (blk_cell BK289.out 1).trans rfl; have hcz15_2 : w14.cell? ⟨gb289, 2, none⟩ = some (.slice A0_2 l0_2.length c0_2) := (blk_cell BK289.out 2).trans rfl; have hcz15_3 : w14.cell? ⟨gb289, 3, none⟩ = some (.int .i64 a0_3) := (blk_cell BK289.out 3).trans rfl; have hcz15_4 : w14.cell? ⟨gb289, 4, none⟩ = some (.slice A0_4 l0_4.length c0_4) := (blk_cell BK289.out 4).trans rfl; have hcz15_5 : w14.cell? ⟨gb289, 5, none⟩ = some (.slice A0_5 l0_5.length c0_5) := (blk_cell BK289.out 5).trans rfl; have hfz15_0 := blk_frozen BK289.out 0; have hfz15_1 := blk_frozen BK289.out 1; have hfz15_2 := blk_frozen BK289.out 2; have hfz15_3 := blk_frozen BK289.out 3; have hfz15_4 := blk_frozen BK289.out 4; have hfz15_5 := blk_frozen BK289.out 5) | (go_at_call 29; (with_reducible refine (constableref01_In.calls a0_3 1 4 true _ A4.out).mono ?_); rintro e w' ⟨rfl, ⟨nd, rfl⟩⟩) | (go_at_call 21; (with_reducible refine (constableref01_Expr.calls k _ _ l0_4 false _ ?side1 ?side2 A6.out).mono ?_); (case side1 => exact kd_ ((Kd.C_below HR0_4.out (be_ HB)))); (case side2 => exact HC0_4.out); rintro e w16 ⟨rfl, hb⟩; replace BK289 := bb_ (bu_ BK289) hb; replace HB := bs_ (be_ HB) hb; (try clear hb); (try clear hb2); (try clear hk); (try clear hi)))
     go_ret
     exact ⟨re_, be_ HB⟩
   ·replace c5 := Bool.eq_false_iff.mpr c5
    subst c5
    rw [if_neg (show ¬ (false = true) by decide)] at H
    obtain rfl := Option.some.inj H
    go_enter Try.func14, Try.ntmps14
    go_wp2_with (first | ((with_reducible refine gate_dst (N := 1) rfl ?_); (try (refine gate_guard (by rfl) ?_; dsimp only)); refine box_event ?hg (N := 1) ?hd (cs := #[.int .i64 a0_0, .string a0_1, .slice A0_2 l0_2.length c0_2, .int .i64 a0_3, .slice A0_4 l0_4.length c0_4, .slice A0_5 l0_5.length c0_5]) (t := 29) ?hr ?_; (case hd => rfl); (case hg => rfl); (case hr => first | (go_simp; done) | (go_simp; rfl)); intro gb289 hg w17 hbox hb; have BK289 := Aside0.mk (hbox); have GW289 := gs_ hg (be_ HB); have GE289 := gs_ hg (be_ HB); replace HB := bs_ (be_ HB) hb; clear hb hbox hg; have hcz18_0 : w17.cell? ⟨gb289, 0, none⟩ = some (.int .i64 a0_0) := (blk_cell BK289.out 0).trans rfl; have hcz18_1 : w17.cell? ⟨gb289, 1, none⟩ = some (.string a0_1) := (blk_cell BK289.out 1).trans rfl; have hcz18_2 : w17.cell? ⟨gb289, 2, none⟩ = some (.slice A0_2 l0_2.length c0_2) := (blk_cell BK289.out 2).trans rfl; have hcz18_3 : w17.cell? ⟨gb289, 3, none⟩ = some (.int .i64 a0_3) := (blk_cell BK289.out 3).trans rfl; have hcz18_4 : w17.cell? ⟨gb289, 4, none⟩ = some (.slice A0_4 l0_4.length c0_4) := (blk_cell BK289.out 4).trans rfl; have hcz18_5 : w17.cell? ⟨gb289, 5, none⟩ = some (.slice A0_5 l0_5.length c0_5) := (blk_cell BK289.out 5).trans rfl; have hfz18_0 := blk_frozen BK289.out 0; have hfz18_1 := blk_frozen BK289.out 1; have hfz18_2 := blk_frozen BK289.out 2; have hfz18_3 := blk_frozen BK289.out 3; have hfz18_4 := blk_frozen BK289.out 4; have hfz18_5 := blk_frozen BK289.out 5) | (go_at_call 29; (with_reducible refine (constableref01_In.calls a0_3 1 4 false _ A4.out).mono ?_); rintro e w' ⟨rfl, ⟨nd, rfl⟩⟩))
    go_ret
    exact ⟨re_, be_ HB⟩
  ·rw [if_neg c3] at H
   obtain ⟨c3b0, c3b1⟩ := neB_ c3
   obtain rfl := Option.some.inj H
   go_enter Try.func14, Try.ntmps14
   go_wp2_with (first | ((with_reducible refine gate_dst (N := 1) rfl ?_); (try (refine gate_guard (by rfl) ?_; dsimp only)); refine box_event ?hg (N := 1) ?hd (cs := #[.int .i64 a0_0, .string a0_1, .slice A0_2 l0_2.length c0_2, .int .i64 a0_3, .slice A0_4 l0_4.length c0_4, .slice A0_5 l0_5.length c0_5]) (t := 29) ?hr ?_; (case hd => rfl); (case hg => rfl); (case hr => first | (go_simp; done) | (go_simp; rfl)); intro gb289 hg w19 hbox hb; have BK289 := Aside0.mk (hbox); have GW289 := gs_ hg (be_ HB); have GE289 := gs_ hg (be_ HB); replace HB := bs_ (be_ HB) hb; clear hb hbox hg; have hcz20_0 : w19.cell? ⟨gb289, 0, none⟩ = some (.int .i64 a0_0) := (blk_cell BK289.out 0).trans rfl; have hcz20_1 : w19.cell? ⟨gb289, 1, none⟩ = some (.string a0_1) := (blk_cell BK289.out 1).trans rfl; have hcz20_2 : w19.cell? ⟨gb289, 2, none⟩ = some (.slice A0_2 l0_2.length c0_2) := (blk_cell BK289.out 2).trans rfl; have hcz20_3 : w19.cell? ⟨gb289, 3, none⟩ = some (.int .i64 a0_3) := (blk_cell BK289.out 3).trans rfl; have hcz20_4 : w19.cell? ⟨gb289, 4, none⟩ = some (.slice A0_4 l0_4.length c0_4) := (blk_cell BK289.out 4).trans rfl; have hcz20_5 : w19.cell? ⟨gb289, 5, none⟩ = some (.slice A0_5 l0_5.length c0_5) := (blk_cell BK289.out 5).trans rfl; have hfz20_0 := blk_frozen BK289.out 0; have hfz20_1 := blk_frozen BK289.out 1; have hfz20_2 := blk_frozen BK289.out 2; have hfz20_3 := blk_frozen BK289.out 3; have hfz20_4 := blk_frozen BK289.out 4; have hfz20_5 := blk_frozen BK289.out 5))
   go_ret
   exact ⟨re_, be_ HB⟩
 ·rw [if_neg c2] at H
  obtain ⟨c2b0, c2b1⟩ := neB_ c2
  obtain rfl := Option.some.inj H
  go_enter Try.func14, Try.ntmps14
  go_wp2_with (first | ((with_reducible refine gate_dst (N := 1) rfl ?_); (try (refine gate_guard (by rfl) ?_; dsimp only)); refine box_event ?hg (N := 1) ?hd (cs := #[.int .i64 a0_0, .string a0_1, .slice A0_2 l0_2.length c0_2, .int .i64 a0_3, .slice A0_4 l0_4.length c0_4, .slice A0_5 l0_5.length c0_5]) (t := 29) ?hr ?_; (case hd => rfl); (case hg => rfl); (case hr => first | (go_simp; done) | (go_simp; rfl)); intro gb289 hg w21 hbox hb; have BK289 := Aside0.mk (hbox); have GW289 := gs_ hg (be_ HB); have GE289 := gs_ hg (be_ HB); replace HB := bs_ (be_ HB) hb; clear hb hbox hg; have hcz22_0 : w21.cell? ⟨gb289, 0, none⟩ = some (.int .i64 a0_0) := (blk_cell BK289.out 0).trans rfl; have hcz22_1 : w21.cell? ⟨gb289, 1, none⟩ = some (.string a0_1) := (blk_cell BK289.out 1).trans rfl; have hcz22_2 : w21.cell? ⟨gb289, 2, none⟩ = some (.slice A0_2 l0_2.length c0_2) := (blk_cell BK289.out 2).trans rfl; have hcz22_3 : w21.cell? ⟨gb289, 3, none⟩ = some (.int .i64 a0_3) := (blk_cell BK289.out 3).trans rfl; have hcz22_4 : w21.cell? ⟨gb289, 4, none⟩ = some (.slice A0_4 l0_4.length c0_4) := (blk_cell BK289.out 4).trans rfl; have hcz22_5 : w21.cell? ⟨gb289, 5, none⟩ = some (.slice A0_5 l0_5.length c0_5) := (blk_cell BK289.out 5).trans rfl; have hfz22_0 := blk_frozen BK289.out 0; have hfz22_1 := blk_frozen BK289.out 1; have hfz22_2 := blk_frozen BK289.out 2; have hfz22_3 := blk_frozen BK289.out 3; have hfz22_4 := blk_frozen BK289.out 4; have hfz22_5 := blk_frozen BK289.out 5))
  go_ret
  exact ⟨re_, be_ HB⟩
end Go.Proofs.Ytaopajmpifenoaa.P
end
