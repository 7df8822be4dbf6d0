/- Part 4 of the proof of FactOrder: words, contracts of functions of the program (what a call answers), and what the answers say. -/
import Derived.ChangeArms
import Derived.DataElems
import Derived.DataReads
import Derived.SizedLaws
import Derived.ChangeSlices
import Derived.RowKit
import Derived.WideShapes
import Derived.ChangeShapes
import Derived.KernelRfl
import Derived.Test.YtaopajmpifenoaaDoorRows
import Derived.LaidMore
import Derived.Stop.LaidErr
import Derived.Lib.LaidTab
import Derived.MakeChecks
import Derived.LaidLaws
import Derived.Test.YtaopajmpifenoaaDoorVWords
import Derived.Test.YtaopajmpifenoaaDoorVLast
import Derived.Test.YtaopajmpifenoaaDoorVApart
import Derived.Test.YtaopajmpifenoaaDoorVArr
import Derived.Test.YtaopajmpifenoaaDoorVFoot
import Derived.Test.YtaopajmpifenoaaDoorVKept
import Derived.Test.YtaopajmpifenoaaDoorVShare
import Derived.Test.YtaopajmpifenoaaDoorVZeros
import Derived.Test.YtaopajmpifenoaaDoorVN
import Derived.Test.YtaopajmpifenoaaDoorVFootNe
import Derived.Test.YtaopajmpifenoaaDoorVAt
import Derived.Test.YtaopajmpifenoaaDoorVEqStruct
import Derived.Test.YtaopajmpifenoaaDoorVTab
import Derived.Test.YtaopajmpifenoaaDoorVFour
import Derived.Test.YtaopajmpifenoaaDoorVGuard
import Derived.Test.YtaopajmpifenoaaDoorVInv
import Derived.Test.YtaopajmpifenoaaDoorVInvWords
import Derived.Test.YtaopajmpifenoaaDoorVQPut
import Derived.Test.YtaopajmpifenoaaDoorVNEv
import Derived.Test.YtaopajmpifenoaaDoorVMore
import Derived.Test.YtaopajmpifenoaaDoorVRepsOne
import Derived.Test.YtaopajmpifenoaaDoorVSized
import Derived.Test.YtaopajmpifenoaaDoorCFactOrder0
import Derived.Test.YtaopajmpifenoaaDoorCFactOrder1
import Derived.Test.YtaopajmpifenoaaDoorCFactOrder2
section
namespace Go.Proofs.YtaopajmpifenoaaDoor.P
open Go.RowKit Go.Proofs.YtaopajmpifenoaaDoorW.PrintWords Go.Proofs.YtaopajmpifenoaaDoorW.PrintLast Go.Proofs.YtaopajmpifenoaaDoorW.PrintMore
attribute [local go_sem] max2_int min2_int max_two min_two max_three min_three max_four min_four
set_option linter.unusedVariables false
set_option linter.unusedSimpArgs false
def constableref01_ParseValue.j0 : Nat → ByteArray → Int → Int → ByteArray → Option (Int × Int × ByteArray × Bool)
 | 0, _, _, _, _ => none
 | k + 1, x0, x386000, x386001, x386002 => (constableref01_Value.f k x386000 x386001 x386002).bind fun t390 => (if t390 = true then ((constableref01_ValueText.f k x386000 x386001 x386002).bind fun t391 => (if t391.toList = x0.toList then (some (x386000, x386001, x386002, true)) else (some (0, 0, (⟨#[]⟩ : ByteArray), false)))) else (some (0, 0, (⟨#[]⟩ : ByteArray), false)))
def constableref01_ParseValue.f (k : Nat) (a0 : ByteArray) : Option (Int × Int × ByteArray × Bool) := (constableref01_Number.f k a0).bind fun bt386 => (if bt386.2 = true then (constableref01_ParseValue.j0 k a0 1 bt386.1 (⟨#[]⟩ : ByteArray)) else ((constableref01_Quoted.f k a0).bind fun bt388 => (if bt388.2 = true then (constableref01_ParseValue.j0 k a0 3 0 bt388.1) else (constableref01_ParseValue.j0 k a0 2 0 a0))))
theorem constableref01_ParseValue.mono_l : ∀ k, (∀ y0 y1 y2 y3, LeO (constableref01_ParseValue.j0 k y0 y1 y2 y3) (constableref01_ParseValue.j0 (k + 1) y0 y1 y2 y3))
 | 0 => fun _ _ _ _ r h => by simp [constableref01_ParseValue.j0] at h
 | k + 1 => by
  have ih0 := constableref01_ParseValue.mono_l k
  ·intro y0 y1 y2 y3
   unfold constableref01_ParseValue.j0
   repeat' first
   | (with_reducible exact ih0 _ _ _ _)
   | (with_reducible exact constableref01_Number.mono ..)
   | (with_reducible exact constableref01_Quoted.mono ..)
   | (with_reducible exact constableref01_Value.mono ..)
   | (with_reducible exact constableref01_ValueText.mono ..)
   | (with_reducible exact LeO.refl _)
   | (with_reducible exact LeO.none _)
   | (with_reducible refine LeO.ite ?_ ?_)
   | (with_reducible refine LeO.bind ?_ (fun _ => ?_))
   | exact ih0 _ _ _ _
   | exact constableref01_Number.mono ..
   | exact constableref01_Quoted.mono ..
   | exact constableref01_Value.mono ..
   | exact constableref01_ValueText.mono ..
   | exact LeO.none _
   | refine LeO.ite ?_ ?_
   | refine LeO.bind ?_ (fun _ => ?_)
theorem constableref01_ParseValue.mono : ∀ a0 k, LeO (constableref01_ParseValue.f k a0) (constableref01_ParseValue.f (k + 1) a0) := by
 intro a0 k
 have ih0 := constableref01_ParseValue.mono_l k
 unfold constableref01_ParseValue.f
 repeat' first
   | (with_reducible exact ih0 _ _ _ _)
   | (with_reducible exact constableref01_Number.mono ..)
   | (with_reducible exact constableref01_Quoted.mono ..)
   | (with_reducible exact constableref01_Value.mono ..)
   | (with_reducible exact constableref01_ValueText.mono ..)
   | (with_reducible exact LeO.refl _)
   | (with_reducible exact LeO.none _)
   | (with_reducible refine LeO.ite ?_ ?_)
   | (with_reducible refine LeO.bind ?_ (fun _ => ?_))
   | exact ih0 _ _ _ _
   | exact constableref01_Number.mono ..
   | exact constableref01_Quoted.mono ..
   | exact constableref01_Value.mono ..
   | exact constableref01_ValueText.mono ..
   | exact LeO.none _
   | refine LeO.ite ?_ ?_
   | refine LeO.bind ?_ (fun _ => ?_)
set_option maxHeartbeats 8000000 in
set_option maxRecDepth 100000 in
theorem constableref01_ParseValue.calls (k : Nat) (a0 : ByteArray) (r1 : Int) (r2 : Int) (r3 : ByteArray) (r4 : Bool) (w : World) (h : constableref01_ParseValue.f k a0 = some (r1, r2, r3, r4)) :
  Calls Tryd.prog 28 #[.string a0] w fun e w' => e = .returned (.tuple #[.agg #[.int .i64 r1, .int .i64 r2, .string r3], .bool r4]) ∧ Below w.heap.size w w' := by
 have hu44 := Tryd.underlying44
 have HB := Aside0.mk (Below.refl w.heap.size w)
 have H : ((constableref01_Number.f k a0).bind fun bt386 => (if bt386.2 = true then (constableref01_ParseValue.j0 k a0 1 bt386.1 (⟨#[]⟩ : ByteArray)) else ((constableref01_Quoted.f k a0).bind fun bt388 => (if bt388.2 = true then (constableref01_ParseValue.j0 k a0 3 0 bt388.1) else (constableref01_ParseValue.j0 k a0 2 0 a0))))) = some (r1, r2, r3, r4) := h
 clear h
 replace H := Option.bind_eq_some_iff.mp H
 obtain ⟨⟨t386, t387⟩, A20, H⟩ := H
 try dsimp only at H
 have A2 := Aside0.mk A20
 clear A20
 have HC3 := Aside0.mk H
 clear H
 go_enter Tryd.func28, Tryd.ntmps28
 go_upto_if 15 with (first | ((with_reducible refine gate_dst (N := 2) rfl ?_); refine box_event ?hg (N := 2) ?hd (cs := #[.int .i64 0, .int .i64 0, .string (⟨#[]⟩ : ByteArray)]) (t := 44) ?hr ?_; (case hd => rfl); (case hg => rfl); (case hr => first | (go_simp; done) | (go_simp; rfl)); intro gb384 hg w4 hbox hb; have BK384 := Aside0.mk (hbox); have GW384 := gs_ hg (be_ HB); have GE384 := gs_ hg (be_ HB); replace HB := bs_ (be_ HB) hb; clear hb hbox hg) | ((with_reducible refine gate_dst (N := 4) rfl ?_); refine box_event ?hg (N := 4) ?hd (cs := #[.int .i64 0, .int .i64 0, .string (⟨#[]⟩ : ByteArray)]) (t := 44) ?hr ?_; (case hd => rfl); (case hg => rfl); (case hr => first | (go_simp; done) | (go_simp; rfl)); intro gb385 hg w5 hbox hb; have BK385 := Aside0.mk (hbox); have GW385 := gs_ hg (be_ HB); have GE385 := gs_ hg (be_ HB); replace HB := bs_ (be_ HB) hb; have NB384_385 := nl_ hg (bu_ BK384); have NB385_384 := ng_ hg (bu_ BK384); replace BK384 := bb_ (bu_ BK384) hb; clear hb hbox hg; have hnb6 := NB385_384.out; have hnc6 := NB384_385.out; have hcz7_0 : w5.cell? ⟨gb385, 0, none⟩ = some (.int .i64 0) := (blk_cell BK385.out 0).trans rfl; have hcz7_1 : w5.cell? ⟨gb385, 1, none⟩ = some (.int .i64 0) := (blk_cell BK385.out 1).trans rfl; have hcz7_2 : w5.cell? ⟨gb385, 2, none⟩ = some (.string (⟨#[]⟩ : ByteArray)) := (blk_cell BK385.out 2).trans rfl; have hfz7_0 := blk_frozen BK385.out 0; have hfz7_1 := blk_frozen BK385.out 1; have hfz7_2 := blk_frozen BK385.out 2) | ((with_reducible refine gate_callee (f := 53) rfl ?_); refine goesL_ (some 12) rfl rfl Tryd.func53 (by kernel_rfl) rfl #[.string a0] rfl ga_ ?_; (with_reducible refine (constableref01_Number.calls k a0 t386 t387 _ A2.out).mono ?_); rintro e w' ⟨rfl, ⟨nd, rfl⟩⟩; refine ⟨_, rfl, ?_⟩))
 (try simp only [Act.put, List.setIfInBounds_toArray, List.set_cons_zero, List.set_cons_succ])
 go_cut [] (fun wc => ∃ (kq : Nat) (x386000_2 : Int) (x386001_2 : Int) (x386002_2 : ByteArray), Aside0 (constableref01_ParseValue.j0 kq a0 x386000_2 x386001_2 x386002_2 = some (r1, r2, r3, r4)) ∧ Aside0 (kq ≤ k) ∧ Aside0 (wc.heap[gb384]? = some (.cells #[.int .i64 0, .int .i64 0, .string (⟨#[]⟩ : ByteArray)] 44 (0, 0))) ∧ Aside0 (wc.heap[gb385]? = some (.cells #[.int .i64 x386000_2, .int .i64 x386001_2, .string x386002_2] 44 (0, 0))) ∧ Aside0 (Below w.heap.size w wc))
 case first =>
  have H := HC3.out
  clear HC3
  by_cases c8 : t387 = true
  ·subst c8
   rw [if_pos rfl] at H
   have H' := Aside0.mk H
   clear H
   have hnb9 := NB385_384.out
   have hnc9 := NB384_385.out
   have hcz10_0 : w5.cell? ⟨gb385, 0, none⟩ = some (.int .i64 0) := (blk_cell BK385.out 0).trans rfl
   have hcz10_1 : w5.cell? ⟨gb385, 1, none⟩ = some (.int .i64 0) := (blk_cell BK385.out 1).trans rfl
   have hcz10_2 : w5.cell? ⟨gb385, 2, none⟩ = some (.string (⟨#[]⟩ : ByteArray)) := (blk_cell BK385.out 2).trans rfl
   have hfz10_0 := blk_frozen BK385.out 0
   have hfz10_1 := blk_frozen BK385.out 1
   have hfz10_2 := blk_frozen BK385.out 2
   go_wp2
   go_meet
   case rel => exact ⟨_, (1), (t386), ((⟨#[]⟩ : ByteArray)), H', le_, ⟨by (with_reducible repeat (first | refine blk_drewN ?_ _ | refine blk_drew ?_ | refine blk_alloc ?_ _)); refine blk_far ?_ NB384_385.out _; (with_reducible repeat (first | refine blk_drewN ?_ _ | refine blk_drew ?_ | refine blk_alloc ?_ _)); refine blk_far ?_ NB384_385.out _; (with_reducible repeat (first | refine blk_drewN ?_ _ | refine blk_drew ?_ | refine blk_alloc ?_ _)); refine blk_far ?_ NB384_385.out _; (with_reducible repeat (first | refine blk_drewN ?_ _ | refine blk_drew ?_ | refine blk_alloc ?_ _)); refine blk_far ?_ NB384_385.out _; (with_reducible repeat (first | refine blk_drewN ?_ _ | refine blk_drew ?_ | refine blk_alloc ?_ _)); refine blk_far ?_ NB384_385.out _; (with_reducible repeat (first | refine blk_drewN ?_ _ | refine blk_drew ?_ | refine blk_alloc ?_ _)); refine blk_far ?_ NB384_385.out _; (with_reducible repeat (first | refine blk_drewN ?_ _ | refine blk_drew ?_ | refine blk_alloc ?_ _)); exact BK384.out⟩, ⟨by (with_reducible repeat (first | refine blk_drewN ?_ _ | refine blk_drew ?_ | refine blk_alloc ?_ _)); refine blk_put (cs := #[.int .i64 1, .int .i64 t386, .string (⟨#[]⟩ : ByteArray)]) ?_ 2 _ rfl; (with_reducible repeat (first | refine blk_drewN ?_ _ | refine blk_drew ?_ | refine blk_alloc ?_ _)); refine blk_put (cs := #[.int .i64 1, .int .i64 0, .string (⟨#[]⟩ : ByteArray)]) ?_ 1 _ rfl; (with_reducible repeat (first | refine blk_drewN ?_ _ | refine blk_drew ?_ | refine blk_alloc ?_ _)); refine blk_put (cs := #[.int .i64 0, .int .i64 0, .string (⟨#[]⟩ : ByteArray)]) ?_ 0 _ rfl; (with_reducible repeat (first | refine blk_drewN ?_ _ | refine blk_drew ?_ | refine blk_alloc ?_ _)); refine blk_put (cs := #[.int .i64 0, .int .i64 0, .string (⟨#[]⟩ : ByteArray)]) ?_ 2 _ rfl; (with_reducible repeat (first | refine blk_drewN ?_ _ | refine blk_drew ?_ | refine blk_alloc ?_ _)); refine blk_put (cs := #[.int .i64 0, .int .i64 0, .string (⟨#[]⟩ : ByteArray)]) ?_ 1 _ rfl; (with_reducible repeat (first | refine blk_drewN ?_ _ | refine blk_drew ?_ | refine blk_alloc ?_ _)); refine blk_put (cs := #[.int .i64 0, .int .i64 0, .string (⟨#[]⟩ : ByteArray)]) ?_ 0 _ rfl; (with_reducible repeat (first | refine blk_drewN ?_ _ | refine blk_drew ?_ | refine blk_alloc ?_ _)); exact BK385.out⟩, be2_ HB⟩
  ·replace c8 := Bool.eq_false_iff.mpr c8
   subst c8
   rw [if_neg (show ¬ (false = true) by decide)] at H
   replace H := Option.bind_eq_some_iff.mp H
   obtain ⟨⟨t388, t389⟩, A110, H⟩ := H
   try dsimp only at H
   have A11 := Aside0.mk A110
   clear A110
   by_cases c12 : t389 = true
   ·subst c12
    rw [if_pos rfl] at H
    have H' := Aside0.mk H
    clear H
    go_wp2_with (first | ((with_reducible refine gate_callee (f := 54) rfl ?_); refine goesL_ (some 20) rfl rfl Tryd.func54 (by kernel_rfl) rfl #[.string a0] rfl ga_ ?_; (with_reducible refine (constableref01_Quoted.calls k a0 t388 true _ A11.out).mono ?_); rintro e w' ⟨rfl, ⟨nd, rfl⟩⟩; refine ⟨_, rfl, ?_⟩; have hnb13 := NB385_384.out; have hnc13 := NB384_385.out; have hcz14_0 : w5.cell? ⟨gb385, 0, none⟩ = some (.int .i64 0) := (blk_cell BK385.out 0).trans rfl; have hcz14_1 : w5.cell? ⟨gb385, 1, none⟩ = some (.int .i64 0) := (blk_cell BK385.out 1).trans rfl; have hcz14_2 : w5.cell? ⟨gb385, 2, none⟩ = some (.string (⟨#[]⟩ : ByteArray)) := (blk_cell BK385.out 2).trans rfl; have hfz14_0 := blk_frozen BK385.out 0; have hfz14_1 := blk_frozen BK385.out 1; have hfz14_2 := blk_frozen BK385.out 2))
    go_meet
    case rel => exact ⟨_, (3), (0), (t388), H', le_, ⟨by (with_reducible repeat (first | refine blk_drewN ?_ _ | refine blk_drew ?_ | refine blk_alloc ?_ _)); refine blk_far ?_ NB384_385.out _; (with_reducible repeat (first | refine blk_drewN ?_ _ | refine blk_drew ?_ | refine blk_alloc ?_ _)); refine blk_far ?_ NB384_385.out _; (with_reducible repeat (first | refine blk_drewN ?_ _ | refine blk_drew ?_ | refine blk_alloc ?_ _)); refine blk_far ?_ NB384_385.out _; (with_reducible repeat (first | refine blk_drewN ?_ _ | refine blk_drew ?_ | refine blk_alloc ?_ _)); refine blk_far ?_ NB384_385.out _; (with_reducible repeat (first | refine blk_drewN ?_ _ | refine blk_drew ?_ | refine blk_alloc ?_ _)); refine blk_far ?_ NB384_385.out _; (with_reducible repeat (first | refine blk_drewN ?_ _ | refine blk_drew ?_ | refine blk_alloc ?_ _)); refine blk_far ?_ NB384_385.out _; (with_reducible repeat (first | refine blk_drewN ?_ _ | refine blk_drew ?_ | refine blk_alloc ?_ _)); exact BK384.out⟩, ⟨by (with_reducible repeat (first | refine blk_drewN ?_ _ | refine blk_drew ?_ | refine blk_alloc ?_ _)); refine blk_put (cs := #[.int .i64 3, .int .i64 0, .string (⟨#[]⟩ : ByteArray)]) ?_ 2 _ rfl; (with_reducible repeat (first | refine blk_drewN ?_ _ | refine blk_drew ?_ | refine blk_alloc ?_ _)); refine blk_put (cs := #[.int .i64 3, .int .i64 0, .string (⟨#[]⟩ : ByteArray)]) ?_ 1 _ rfl; (with_reducible repeat (first | refine blk_drewN ?_ _ | refine blk_drew ?_ | refine blk_alloc ?_ _)); refine blk_put (cs := #[.int .i64 0, .int .i64 0, .string (⟨#[]⟩ : ByteArray)]) ?_ 0 _ rfl; (with_reducible repeat (first | refine blk_drewN ?_ _ | refine blk_drew ?_ | refine blk_alloc ?_ _)); refine blk_put (cs := #[.int .i64 0, .int .i64 0, .string (⟨#[]⟩ : ByteArray)]) ?_ 2 _ rfl; (with_reducible repeat (first | refine blk_drewN ?_ _ | refine blk_drew ?_ | refine blk_alloc ?_ _)); refine blk_put (cs := #[.int .i64 0, .int .i64 0, .string (⟨#[]⟩ : ByteArray)]) ?_ 1 _ rfl; (with_reducible repeat (first | refine blk_drewN ?_ _ | refine blk_drew ?_ | refine blk_alloc ?_ _)); refine blk_put (cs := #[.int .i64 0, .int .i64 0, .string (⟨#[]⟩ : ByteArray)]) ?_ 0 _ rfl; (with_reducible repeat (first | refine blk_drewN ?_ _ | refine blk_drew ?_ | refine blk_alloc ?_ _)); exact BK385.out⟩, be2_ HB⟩
   ·replace c12 := Bool.eq_false_iff.mpr c12
    subst c12
    rw [if_neg (show ¬ (false = true) by decide)] at H
    have H' := Aside0.mk H
    clear H
    go_wp2_with (first | ((with_reducible refine gate_callee (f := 54) rfl ?_); refine goesL_ (some 20) rfl rfl Tryd.func54 (by kernel_rfl) rfl #[.string a0] rfl ga_ ?_; (with_reducible refine (constableref01_Quoted.calls k a0 t388 false _ A11.out).mono ?_); rintro e w' ⟨rfl, ⟨nd, rfl⟩⟩; refine ⟨_, rfl, ?_⟩; have hnb15 := NB385_384.out; have hnc15 := NB384_385.out; have hcz16_0 : w5.cell? ⟨gb385, 0, none⟩ = some (.int .i64 0) := (blk_cell BK385.out 0).trans rfl; have hcz16_1 : w5.cell? ⟨gb385, 1, none⟩ = some (.int .i64 0) := (blk_cell BK385.out 1).trans rfl; have hcz16_2 : w5.cell? ⟨gb385, 2, none⟩ = some (.string (⟨#[]⟩ : ByteArray)) := (blk_cell BK385.out 2).trans rfl; have hfz16_0 := blk_frozen BK385.out 0; have hfz16_1 := blk_frozen BK385.out 1; have hfz16_2 := blk_frozen BK385.out 2))
    go_meet
    case rel => exact ⟨_, (2), (0), (a0), H', le_, ⟨by (with_reducible repeat (first | refine blk_drewN ?_ _ | refine blk_drew ?_ | refine blk_alloc ?_ _)); refine blk_far ?_ NB384_385.out _; (with_reducible repeat (first | refine blk_drewN ?_ _ | refine blk_drew ?_ | refine blk_alloc ?_ _)); refine blk_far ?_ NB384_385.out _; (with_reducible repeat (first | refine blk_drewN ?_ _ | refine blk_drew ?_ | refine blk_alloc ?_ _)); refine blk_far ?_ NB384_385.out _; (with_reducible repeat (first | refine blk_drewN ?_ _ | refine blk_drew ?_ | refine blk_alloc ?_ _)); refine blk_far ?_ NB384_385.out _; (with_reducible repeat (first | refine blk_drewN ?_ _ | refine blk_drew ?_ | refine blk_alloc ?_ _)); refine blk_far ?_ NB384_385.out _; (with_reducible repeat (first | refine blk_drewN ?_ _ | refine blk_drew ?_ | refine blk_alloc ?_ _)); refine blk_far ?_ NB384_385.out _; (with_reducible repeat (first | refine blk_drewN ?_ _ | refine blk_drew ?_ | refine blk_alloc ?_ _)); exact BK384.out⟩, ⟨by (with_reducible repeat (first | refine blk_drewN ?_ _ | refine blk_drew ?_ | refine blk_alloc ?_ _)); refine blk_put (cs := #[.int .i64 2, .int .i64 0, .string (⟨#[]⟩ : ByteArray)]) ?_ 2 _ rfl; (with_reducible repeat (first | refine blk_drewN ?_ _ | refine blk_drew ?_ | refine blk_alloc ?_ _)); refine blk_put (cs := #[.int .i64 2, .int .i64 0, .string (⟨#[]⟩ : ByteArray)]) ?_ 1 _ rfl; (with_reducible repeat (first | refine blk_drewN ?_ _ | refine blk_drew ?_ | refine blk_alloc ?_ _)); refine blk_put (cs := #[.int .i64 0, .int .i64 0, .string (⟨#[]⟩ : ByteArray)]) ?_ 0 _ rfl; (with_reducible repeat (first | refine blk_drewN ?_ _ | refine blk_drew ?_ | refine blk_alloc ?_ _)); refine blk_put (cs := #[.int .i64 0, .int .i64 0, .string (⟨#[]⟩ : ByteArray)]) ?_ 2 _ rfl; (with_reducible repeat (first | refine blk_drewN ?_ _ | refine blk_drew ?_ | refine blk_alloc ?_ _)); refine blk_put (cs := #[.int .i64 0, .int .i64 0, .string (⟨#[]⟩ : ByteArray)]) ?_ 1 _ rfl; (with_reducible repeat (first | refine blk_drewN ?_ _ | refine blk_drew ?_ | refine blk_alloc ?_ _)); refine blk_put (cs := #[.int .i64 0, .int .i64 0, .string (⟨#[]⟩ : ByteArray)]) ?_ 0 _ rfl; (with_reducible repeat (first | refine blk_drewN ?_ _ | refine blk_drew ?_ | refine blk_alloc ?_ _)); exact BK385.out⟩, be2_ HB⟩
 case rest =>
  clear HC3
  try clear c1; try clear c2; try clear p2; try clear c5; try clear c6; try clear c8; try clear c9; try clear c12; try clear c13; try clear c15; try clear hcz10_0; try clear hcz10_1; try clear hcz10_2; try clear hcz14_0; try clear hcz14_1; try clear hcz14_2; try clear hcz16_0; try clear hcz16_1; try clear hcz16_2; try clear hcz7_0; try clear hcz7_1; try clear hcz7_2; try clear hfz10_0; try clear hfz10_1; try clear hfz10_2; try clear hfz14_0; try clear hfz14_1; try clear hfz14_2; try clear hfz16_0; try clear hfz16_1; try clear hfz16_2; try clear hfz7_0; try clear hfz7_1; try clear hfz7_2
  obtain ⟨kq, x386000_2, x386001_2, x386002_2, HA, HJ2, BK384, BK385, HB⟩ := hcut
  cases kq with
  | zero => exact absurd HA.out (by simp [constableref01_ParseValue.j0])
  | succ kj2 =>
   have H := HA.out
   clear HA
   simp only [constableref01_ParseValue.j0] at H
   replace H := Option.bind_eq_some_iff.mp H
   obtain ⟨t390, A170, H⟩ := H
   try dsimp only at H
   have A17 := Aside0.mk A170
   clear A170
   by_cases c18 : t390 = true
   ·subst c18
    rw [if_pos rfl] at H
    replace H := Option.bind_eq_some_iff.mp H
    obtain ⟨t391, A190, H⟩ := H
    try dsimp only at H
    have A19 := Aside0.mk A190
    clear A190
    by_cases c20 : t391.toList = a0.toList
    ·rw [if_pos c20] at H
     obtain ⟨c20b0, c20b1⟩ := eqB_ c20
     clear c20
     simp only [Option.some.injEq, Prod.mk.injEq] at H
     obtain ⟨rfl, rfl, rfl, rfl⟩ := H
     have hnb21 := NB385_384.out
     have hnc21 := NB384_385.out
     have hcz22_0 : wc.cell? ⟨gb385, 0, none⟩ = some (.int .i64 x386000_2) := (blk_cell BK385.out 0).trans rfl
     have hcz22_1 : wc.cell? ⟨gb385, 1, none⟩ = some (.int .i64 x386001_2) := (blk_cell BK385.out 1).trans rfl
     have hcz22_2 : wc.cell? ⟨gb385, 2, none⟩ = some (.string x386002_2) := (blk_cell BK385.out 2).trans rfl
     have hfz22_0 := blk_frozen BK385.out 0
     have hfz22_1 := blk_frozen BK385.out 1
     have hfz22_2 := blk_frozen BK385.out 2
     go_wp2_with (first | ((with_reducible refine gate_callee (f := 31) rfl ?_); refine goesL_ (some 29) rfl rfl Tryd.func31 (by kernel_rfl) rfl #[.agg #[.int .i64 x386000_2, .int .i64 x386001_2, .string x386002_2]] rfl ga_ ?_; (with_reducible refine (constableref01_Value.calls kj2 x386000_2 x386001_2 x386002_2 true _ A17.out).mono ?_); rintro e w23 ⟨rfl, hb⟩; refine ⟨_, rfl, ?_⟩; replace BK384 := bb_ (bu_ BK384) hb; replace BK385 := bb_ (bu_ BK385) hb; replace HB := bs_ (be_ HB) hb; (try clear hb); (try clear hb2); (try clear hk); (try clear hi); have hcz24_0 : w23.cell? ⟨gb385, 0, none⟩ = some (.int .i64 x386000_2) := (blk_cell BK385.out 0).trans rfl; have hcz24_1 : w23.cell? ⟨gb385, 1, none⟩ = some (.int .i64 x386001_2) := (blk_cell BK385.out 1).trans rfl; have hcz24_2 : w23.cell? ⟨gb385, 2, none⟩ = some (.string x386002_2) := (blk_cell BK385.out 2).trans rfl; have hfz24_0 := blk_frozen BK385.out 0; have hfz24_1 := blk_frozen BK385.out 1; have hfz24_2 := blk_frozen BK385.out 2) | (go_at_call 34; (with_reducible refine (constableref01_ValueText.calls kj2 x386000_2 x386001_2 x386002_2 t391 _ A19.out).mono ?_); rintro e w25 ⟨rfl, hb⟩; replace BK384 := bb_ (bu_ BK384) hb; replace BK385 := bb_ (bu_ BK385) hb; replace HB := bs_ (be_ HB) hb; (try clear hb); (try clear hb2); (try clear hk); (try clear hi); have hcz26_0 : w25.cell? ⟨gb385, 0, none⟩ = some (.int .i64 x386000_2) := (blk_cell BK385.out 0).trans rfl; have hcz26_1 : w25.cell? ⟨gb385, 1, none⟩ = some (.int .i64 x386001_2) := (blk_cell BK385.out 1).trans rfl; have hcz26_2 : w25.cell? ⟨gb385, 2, none⟩ = some (.string x386002_2) := (blk_cell BK385.out 2).trans rfl; have hfz26_0 := blk_frozen BK385.out 0; have hfz26_1 := blk_frozen BK385.out 1; have hfz26_2 := blk_frozen BK385.out 2; have hcz27_0 : w25.cell? ⟨gb384, 0, none⟩ = some (.int .i64 0) := (blk_cell BK384.out 0).trans rfl; have hcz27_1 : w25.cell? ⟨gb384, 1, none⟩ = some (.int .i64 0) := (blk_cell BK384.out 1).trans rfl; have hcz27_2 : w25.cell? ⟨gb384, 2, none⟩ = some (.string (⟨#[]⟩ : ByteArray)) := (blk_cell BK384.out 2).trans rfl; have hfz27_0 := blk_frozen BK384.out 0; have hfz27_1 := blk_frozen BK384.out 1; have hfz27_2 := blk_frozen BK384.out 2))
     refine bodyPost_ret (results_ct rfl _ _ gb384 44 #[.int .i64 x386000_2, .int .i64 x386001_2, .string x386002_2] (0, 0) _ rfl (bp_ BK384) Tryd.underlying44 rfl (by kernel_rfl)) rfl ?_
     exact ⟨re_, be_ HB⟩
    ·rw [if_neg c20] at H
     obtain ⟨c20b0, c20b1⟩ := neB_ c20
     simp only [Option.some.injEq, Prod.mk.injEq] at H
     obtain ⟨rfl, rfl, rfl, rfl⟩ := H
     have hnb28 := NB385_384.out
     have hnc28 := NB384_385.out
     have hcz29_0 : wc.cell? ⟨gb385, 0, none⟩ = some (.int .i64 x386000_2) := (blk_cell BK385.out 0).trans rfl
     have hcz29_1 : wc.cell? ⟨gb385, 1, none⟩ = some (.int .i64 x386001_2) := (blk_cell BK385.out 1).trans rfl
     have hcz29_2 : wc.cell? ⟨gb385, 2, none⟩ = some (.string x386002_2) := (blk_cell BK385.out 2).trans rfl
     have hfz29_0 := blk_frozen BK385.out 0
     have hfz29_1 := blk_frozen BK385.out 1
     have hfz29_2 := blk_frozen BK385.out 2
     go_wp2_with (first | ((with_reducible refine gate_callee (f := 31) rfl ?_); refine goesL_ (some 29) rfl rfl Tryd.func31 (by kernel_rfl) rfl #[.agg #[.int .i64 x386000_2, .int .i64 x386001_2, .string x386002_2]] rfl ga_ ?_; (with_reducible refine (constableref01_Value.calls kj2 x386000_2 x386001_2 x386002_2 true _ A17.out).mono ?_); rintro e w30 ⟨rfl, hb⟩; refine ⟨_, rfl, ?_⟩; replace BK384 := bb_ (bu_ BK384) hb; replace BK385 := bb_ (bu_ BK385) hb; replace HB := bs_ (be_ HB) hb; (try clear hb); (try clear hb2); (try clear hk); (try clear hi); have hcz31_0 : w30.cell? ⟨gb385, 0, none⟩ = some (.int .i64 x386000_2) := (blk_cell BK385.out 0).trans rfl; have hcz31_1 : w30.cell? ⟨gb385, 1, none⟩ = some (.int .i64 x386001_2) := (blk_cell BK385.out 1).trans rfl; have hcz31_2 : w30.cell? ⟨gb385, 2, none⟩ = some (.string x386002_2) := (blk_cell BK385.out 2).trans rfl; have hfz31_0 := blk_frozen BK385.out 0; have hfz31_1 := blk_frozen BK385.out 1; have hfz31_2 := blk_frozen BK385.out 2) | (go_at_call 34; (with_reducible refine (constableref01_ValueText.calls kj2 x386000_2 x386001_2 x386002_2 t391 _ A19.out).mono ?_); rintro e w32 ⟨rfl, hb⟩; replace BK384 := bb_ (bu_ BK384) hb; replace BK385 := bb_ (bu_ BK385) hb; replace HB := bs_ (be_ HB) hb; (try clear hb); (try clear hb2); (try clear hk); (try clear hi); have hcz33_0 : w32.cell? ⟨gb384, 0, none⟩ = some (.int .i64 0) := (blk_cell BK384.out 0).trans rfl; have hcz33_1 : w32.cell? ⟨gb384, 1, none⟩ = some (.int .i64 0) := (blk_cell BK384.out 1).trans rfl; have hcz33_2 : w32.cell? ⟨gb384, 2, none⟩ = some (.string (⟨#[]⟩ : ByteArray)) := (blk_cell BK384.out 2).trans rfl; have hfz33_0 := blk_frozen BK384.out 0; have hfz33_1 := blk_frozen BK384.out 1; have hfz33_2 := blk_frozen BK384.out 2))
     refine bodyPost_ret (results_ct rfl _ _ gb384 44 #[.int .i64 0, .int .i64 0, .string (⟨#[]⟩ : ByteArray)] (0, 0) _ rfl (bp_ BK384) Tryd.underlying44 rfl (by kernel_rfl)) rfl ?_
     exact ⟨re_, be_ HB⟩
   ·replace c18 := Bool.eq_false_iff.mpr c18
    subst c18
    rw [if_neg (show ¬ (false = true) by decide)] at H
    simp only [Option.some.injEq, Prod.mk.injEq] at H
    obtain ⟨rfl, rfl, rfl, rfl⟩ := H
    have hnb34 := NB385_384.out
    have hnc34 := NB384_385.out
    have hcz35_0 : wc.cell? ⟨gb385, 0, none⟩ = some (.int .i64 x386000_2) := (blk_cell BK385.out 0).trans rfl
    have hcz35_1 : wc.cell? ⟨gb385, 1, none⟩ = some (.int .i64 x386001_2) := (blk_cell BK385.out 1).trans rfl
    have hcz35_2 : wc.cell? ⟨gb385, 2, none⟩ = some (.string x386002_2) := (blk_cell BK385.out 2).trans rfl
    have hfz35_0 := blk_frozen BK385.out 0
    have hfz35_1 := blk_frozen BK385.out 1
    have hfz35_2 := blk_frozen BK385.out 2
    go_wp2_with (first | ((with_reducible refine gate_callee (f := 31) rfl ?_); refine goesL_ (some 29) rfl rfl Tryd.func31 (by kernel_rfl) rfl #[.agg #[.int .i64 x386000_2, .int .i64 x386001_2, .string x386002_2]] rfl ga_ ?_; (with_reducible refine (constableref01_Value.calls kj2 x386000_2 x386001_2 x386002_2 false _ A17.out).mono ?_); rintro e w36 ⟨rfl, hb⟩; refine ⟨_, rfl, ?_⟩; replace BK384 := bb_ (bu_ BK384) hb; replace BK385 := bb_ (bu_ BK385) hb; replace HB := bs_ (be_ HB) hb; (try clear hb); (try clear hb2); (try clear hk); (try clear hi); have hcz37_0 : w36.cell? ⟨gb384, 0, none⟩ = some (.int .i64 0) := (blk_cell BK384.out 0).trans rfl; have hcz37_1 : w36.cell? ⟨gb384, 1, none⟩ = some (.int .i64 0) := (blk_cell BK384.out 1).trans rfl; have hcz37_2 : w36.cell? ⟨gb384, 2, none⟩ = some (.string (⟨#[]⟩ : ByteArray)) := (blk_cell BK384.out 2).trans rfl; have hfz37_0 := blk_frozen BK384.out 0; have hfz37_1 := blk_frozen BK384.out 1; have hfz37_2 := blk_frozen BK384.out 2))
    refine bodyPost_ret (results_ct rfl _ _ gb384 44 #[.int .i64 0, .int .i64 0, .string (⟨#[]⟩ : ByteArray)] (0, 0) _ rfl (bp_ BK384) Tryd.underlying44 rfl (by kernel_rfl)) rfl ?_
    exact ⟨re_, be_ HB⟩
end Go.Proofs.YtaopajmpifenoaaDoor.P
end
section
namespace Go.Proofs.YtaopajmpifenoaaDoor.P
open Go.RowKit Go.Proofs.YtaopajmpifenoaaDoorW.PrintWords Go.Proofs.YtaopajmpifenoaaDoorW.PrintLast Go.Proofs.YtaopajmpifenoaaDoorW.PrintMore
def cmpS : List Int → List Int → Int
  | [], [] => 0
  | [], _ :: _ => -1
  | _ :: _, [] => 1
  | x :: a, y :: b => if x = y then cmpS a b else if x < y then -1 else 1
theorem ref_order_eq (a b : Int) : constableref01_order.f a b = some (if a < b then -1 else if a > b then 1 else 0) := by
  unfold constableref01_order.f
  split
  · rfl
  · split <;> rfl
theorem ref_Strings_ev (a b : ByteArray) (ha : a.size ≤ maxLen) (hb : b.size ≤ maxLen) : Ev (fun k => constableref01_Strings.f k a b) (cmpS (bytesOf a) (bytesOf b)) := by
  unfold maxLen at ha hb
  have h : ∀ (d i : Nat), i + d = a.size → i ≤ b.size → Ev (fun k => constableref01_Strings.l0 k a b i) (cmpS ((bytesOf a).drop i) ((bytesOf b).drop i)) := by
    intro d
    induction d with
    | zero =>
      intro i hi hib
      refine evShift ?_
      simp only [constableref01_Strings.l0]
      refine evNeg (by omega) (evShift ?_)
      simp only [constableref01_Strings.j1, Bool.false_eq_true, if_false, ref_order_eq, Option.bind_some]
      refine evSome ?_
      rw [List.drop_of_length_le (by rw [len_codes]; omega)]
      by_cases h2 : i < b.size
      · obtain ⟨y, hy, _⟩ := codes_split b i h2
        rw [hy]
        simp only [cmpS]
        rw [if_pos (by omega)]
      · rw [List.drop_of_length_le (by rw [len_codes]; omega)]
        simp only [cmpS]
        rw [if_neg (by omega), if_neg (by omega)]
    | succ d ih =>
      intro i hi hib
      have hlt : i < a.size := by omega
      obtain ⟨x, hx, ex⟩ := codes_split a i hlt
      refine evShift ?_
      simp only [constableref01_Strings.l0]
      refine evPos (by omega) (evShift ?_)
      simp only [constableref01_Strings.j1]
      by_cases h2 : i < b.size
      · obtain ⟨y, hy, ey⟩ := codes_split b i h2
        rw [hx, hy, ex, ey]
        simp only [cmpS]
        refine evPos (by rw [decide_eq_true_eq]; omega) (evPos (by omega) (evPos (by omega) (evPos (by omega) ?_)))
        have r1 := bt_range a i
        have r2 := bt_range b i
        have w1 : wrap64 x = x := by unfold wrap64; omega
        have w2 : wrap64 y = y := by unfold wrap64; omega
        rw [w1, w2]
        refine evIf (fun e => ?_) (fun e => ?_)
        · rw [if_pos e, wrap_succ hlt (by omega)]
          exact ih (i + 1) (by omega) (by omega)
        · rw [if_neg e]
          simp only [ref_order_eq, Option.bind_some]
          refine evSome ?_
          by_cases h3 : x < y
          · rw [if_pos h3, if_pos h3]
          · rw [if_neg h3, if_neg h3, if_pos (by omega)]
      · refine evNeg (by rw [decide_eq_true_eq]; omega) ?_
        simp only [ref_order_eq, Option.bind_some]
        refine evSome ?_
        rw [hx, List.drop_of_length_le (l := bytesOf b) (by rw [len_codes]; omega)]
        simp only [cmpS]
        rw [if_neg (by omega), if_pos (by omega)]
  have h0 := h a.size 0 (by omega) (by omega)
  simpa [constableref01_Strings.f] using h0
theorem less_cmp : ∀ a b : List UInt8, Op.bytesLess a b = decide (cmpS (a.map fun c => ((c.toNat : Nat) : Int)) (b.map fun c => ((c.toNat : Nat) : Int)) < 0)
  | [], [] => rfl
  | [], _ :: _ => rfl
  | _ :: _, [] => rfl
  | x :: a, y :: b => by
    simp only [Op.bytesLess, List.map_cons, cmpS]
    by_cases e : x = y
    · subst e
      simp only [if_true]
      rw [← less_cmp a b]; simp
    · have h1 : ¬ ((x.toNat : Nat) : Int) = ((y.toNat : Nat) : Int) := fun h => e (UInt8.toNat_inj.1 (by omega))
      have h2 : (x == y) = false := beq_eq_false_iff_ne.mpr e
      rw [if_neg h1, h2, Bool.false_and, Bool.or_false]
      by_cases h3 : x < y
      · have h4 : ((x.toNat : Nat) : Int) < ((y.toNat : Nat) : Int) := by have := UInt8.lt_iff_toNat_lt.1 h3; omega
        rw [if_pos h4, decide_eq_true h3]; rfl
      · have h4 : ¬ ((x.toNat : Nat) : Int) < ((y.toNat : Nat) : Int) := fun h => h3 (UInt8.lt_iff_toNat_lt.2 (by omega))
        rw [if_neg h4, decide_eq_false h3]; rfl
theorem less_codes (s t : ByteArray) : Op.bytesLess s.toList t.toList = decide (cmpS (bytesOf s) (bytesOf t) < 0) := by
  rw [tl_data, tl_data]; exact less_cmp _ _
end Go.Proofs.YtaopajmpifenoaaDoor.P
end
section
namespace Go.Proofs.YtaopajmpifenoaaDoor.P
open Go.RowKit Go.Proofs.YtaopajmpifenoaaDoorW.PrintWords Go.Proofs.YtaopajmpifenoaaDoorW.PrintLast Go.Proofs.YtaopajmpifenoaaDoorW.PrintMore
theorem cmpS_cb : ∀ a b : List UInt8, cmpS (a.map fun c => ((c.toNat : Nat) : Int)) (b.map fun c => ((c.toNat : Nat) : Int)) = Lib.compareBytes a b
  | [], [] => rfl
  | [], _ :: _ => rfl
  | _ :: _, [] => rfl
  | x :: a, y :: b => by
    rw [cb_cons, ← cmpS_cb a b]
    simp only [List.map_cons, cmpS, lexI]
    by_cases e : ((x.toNat : Nat) : Int) = ((y.toNat : Nat) : Int)
    · rw [if_pos e, if_pos ((cmpI_zero _ _).2 e)]
    · rw [if_neg e, if_neg (fun h => e ((cmpI_zero _ _).1 h))]
      unfold cmpI
      split
      · rfl
      · rw [if_pos (by omega)]
theorem ref_order_cmp (a b : Int) : constableref01_order.f a b = some (cmpI a b) := ref_order_eq a b
theorem ref_Values_ev (v w : S44) (hv : v.f2.size ≤ maxLen) (hw : w.f2.size ≤ maxLen) : Ev (fun k => constableref01_Values.f k v.f0 v.f1 v.f2 w.f0 w.f1 w.f2) (cmpV v w) := by
  unfold constableref01_Values.f cmpV
  simp only [ref_order_cmp, Option.bind_some]
  refine evIf (fun h1 => ?_) (fun h1 => evSome (by rw [if_neg h1]))
  rw [if_pos h1]
  refine evIf (fun h2 => ?_) (fun h2 => evSome (by rw [if_neg h2]))
  rw [if_pos h2]
  have := ref_Strings_ev v.f2 w.f2 hv hw
  have e : cmpS (bytesOf v.f2) (bytesOf w.f2) = cmpB v.f2 w.f2 := cmpS_cb _ _
  rw [e] at this
  exact Ev.bind this (evSome rfl)
end Go.Proofs.YtaopajmpifenoaaDoor.P
end
section
namespace Go.Proofs.YtaopajmpifenoaaDoor.P
open Go.RowKit Go.Proofs.YtaopajmpifenoaaDoorW.PrintWords Go.Proofs.YtaopajmpifenoaaDoorW.PrintLast Go.Proofs.YtaopajmpifenoaaDoorW.PrintMore
def decC (u : Nat) : List Int := (Lib.decDigits u).map fun b => ((b.toNat : Nat) : Int)
theorem decC_small {u : Nat} (h : u < 10) : decC u = [48 + (u : Int)] := by
  unfold decC
  rw [Lib.decDigits, dif_pos h]
  simp only [List.map_cons, List.map_nil, dig_nat h]
  congr 1
theorem decC_big {u : Nat} (h : ¬ u < 10) : decC u = decC (u / 10) ++ [48 + ((u % 10 : Nat) : Int)] := by
  unfold decC
  rw [Lib.decDigits, dif_neg h]
  simp only [List.map_append, List.map_cons, List.map_nil, dig_nat (show u % 10 < 10 by omega)]
  congr 1
theorem nums_dec (u : Nat) : strOfNums (decC u) = ⟨(Lib.decDigits u).toArray⟩ := by
  apply codes_inj
  rw [codes_of_nums (by
    intro c hc
    unfold decC at hc
    obtain ⟨b, _, rfl⟩ := List.mem_map.1 hc
    have := b.toNat_lt
    omega)]
  rfl
theorem dig_exit (X : List Int) (h : X ≠ []) : Ev (fun k => constableref01_Digits.l0 k 0 (strOfNums X)) (strOfNums X) := by
  refine evShift ?_
  simp only [constableref01_Digits.l0, nums_size]
  have : X.length ≠ 0 := fun e => h (List.length_eq_zero_iff.1 e)
  exact evNeg (by decide) (evNeg (by omega) (evSome rfl))
theorem dig_step (u : Nat) (hu : u ≤ 4611686018427387904) : (wrap64 (48 + (Int.tmod (u : Int) 10))) % 256 = 48 + ((u % 10 : Nat) : Int) ∧ wrap64 (Int.tdiv (u : Int) 10) = ((u / 10 : Nat) : Int) := by
  rw [Int.tmod_eq_emod_of_nonneg (by omega), Int.tdiv_eq_ediv_of_nonneg (by omega)]
  unfold wrap64
  omega
theorem dig_l0 : ∀ (m u : Nat) (X : List Int), u < 10 ^ m → u ≤ 4611686018427387904 → X.length + m ≤ 1000 → 0 < u → Ev (fun k => constableref01_Digits.l0 k u (strOfNums X)) (strOfNums (decC u ++ X)) := by
  intro m
  induction m with
  | zero => intro u X h _ _ h0; simp at h; omega
  | succ m ih =>
    intro u X h hu hX h0
    obtain ⟨e1, e2⟩ := dig_step u hu
    refine evShift ?_
    simp only [constableref01_Digits.l0, e1, e2, Option.bind_some, nums_size, nums_append]
    refine evPos (by omega) (evPos (by simp; omega) ?_)
    by_cases hs : u < 10
    · rw [decC_small hs, show u / 10 = 0 by omega, show u % 10 = u by omega]
      exact dig_exit _ (by simp)
    · rw [decC_big hs]
      have := ih (u / 10) ([48 + ((u % 10 : Nat) : Int)] ++ X) (by rw [Nat.pow_succ] at h; omega) (by omega) (by simp; omega) (by omega)
      rw [← List.append_assoc] at this
      exact this
theorem ref_Digits_nat (u : Nat) (hu : u ≤ 4611686018427387904) : Ev (fun k => constableref01_Digits.l0 k u (⟨#[]⟩ : ByteArray)) ⟨(Lib.decDigits u).toArray⟩ := by
  rw [← nums_dec, show (⟨#[]⟩ : ByteArray) = strOfNums [] from rfl]
  by_cases h0 : u = 0
  · subst h0
    refine evShift ?_
    obtain ⟨e1, e2⟩ := dig_step 0 (by omega)
    simp only [Int.natCast_zero] at e1 e2
    simp only [constableref01_Digits.l0, Int.natCast_zero, e1, e2, Option.bind_some, nums_size, nums_append]
    rw [decC_small (show 0 < 10 by decide)]
    exact evNeg (by decide) (evPos rfl (evPos (by decide) (by simpa using dig_exit [48] (by simp))))
  · have := dig_l0 19 u [] (by omega) hu (by decide) (by omega)
    rw [List.append_nil] at this
    exact this
theorem ref_Digits_ev {n : Int} (h : InB n) : Ev (fun k => constableref01_Digits.f k n) ⟨(Lib.itoa n).toArray⟩ := by
  rw [InB_iff] at h
  have pos : ∀ m : Int, 0 ≤ m → m ≤ 4611686018427387904 → Ev (fun k => constableref01_Digits.f k m) ⟨(Lib.decDigits m.toNat).toArray⟩ := by
    intro m h0 h1
    refine evShift ?_
    simp only [constableref01_Digits.f]
    refine evNeg (by omega) ?_
    have := ref_Digits_nat m.toNat (by omega)
    rw [show ((m.toNat : Nat) : Int) = m by omega] at this
    exact this
  unfold Lib.itoa
  by_cases hn : n < 0
  · rw [if_pos hn]
    refine evShift ?_
    simp only [constableref01_Digits.f]
    have w : wrap64 (-n) = -n := by unfold wrap64; omega
    have := pos (-n) (by omega) (by omega)
    rw [show (-n).toNat = n.natAbs by omega] at this
    rw [w]
    refine evPos hn (Ev.bind this ?_)
    have hl := Lib.itoa_length_le n (by omega) (by omega)
    unfold Lib.itoa at hl
    rw [if_pos hn, List.length_cons] at hl
    refine evPos (by show 1 + (Lib.decDigits n.natAbs).toArray.size ≤ _; rw [List.size_toArray]; omega) (evSome ?_)
    apply ByteArray.ext
    apply Array.toList_inj.1
    rw [ByteArray.data_append, Array.toList_append]
    rfl
  · rw [if_neg hn]
    exact pos n (by omega) (by omega)
theorem ref_text_l0 (a b : Int) (s : ByteArray) (hs : s.size ≤ 1000000) : ∀ (d i : Nat) (x : List Int), i + d = s.size → x.length ≤ 2 * i + 1 →
    Ev (fun k => constableref01_ValueText.l0 k (strOfNums x) i a b s) (strOfNums (x ++ (escS ((bytesOf s).drop i) ++ [34]))) := by
  intro d
  induction d with
  | zero =>
    intro i x hi hx
    refine evShift ?_
    simp only [constableref01_ValueText.l0, nums_size]
    refine evNeg (by omega) (evPos (by omega) (evSome ?_))
    rw [show i = s.size by omega, drop_end, show (⟨#[34]⟩ : ByteArray) = strOfNums [34] from rfl, nums_append]; rfl
  | succ d ih =>
    intro i x hi hx
    have hlt : i < s.size := by omega
    obtain ⟨c, h1, h2⟩ := codes_split s i hlt
    have w1 : wrap64 ((i : Int) + 1) = ((i + 1 : Nat) : Int) := wrap_succ hlt (by omega)
    have ex := ext_one s i hlt
    rw [h2] at ex
    refine evShift ?_
    simp only [constableref01_ValueText.l0, h2, w1, Int.toNat_natCast, ex, show (⟨#[92]⟩ : ByteArray) = strOfNums [92] from rfl, nums_append, nums_size]
    rw [h1]
    have two : c = 34 ∨ c = 92 → Ev (fun k => constableref01_ValueText.l0 k (strOfNums (x ++ [92] ++ [c])) ((i + 1 : Nat) : Int) a b s) (strOfNums (x ++ (escS (c :: (bytesOf s).drop (i + 1)) ++ [34]))) := by
      intro hc
      have := ih (i + 1) (x ++ [92] ++ [c]) (by omega) (by simp; omega)
      rw [show x ++ [92] ++ [c] ++ (escS ((bytesOf s).drop (i + 1)) ++ [34]) = x ++ (escS (c :: (bytesOf s).drop (i + 1)) ++ [34]) by simp [escS, hc]] at this
      exact this
    refine evPos (by omega) (evPos (by omega) (evIf (fun e => evPos (by omega) (evPos (by omega) (evPos (by omega) (evPos (by simp; omega) (two (.inl e)))))) (fun e1 => evIf (fun e => evPos (by omega) (evPos (by omega) (evPos (by omega) (evPos (by simp; omega) (two (.inr e)))))) (fun e2 => evPos (by omega) (evPos (by omega) (evPos (by simp; omega) ?_))))))
    have hn : ¬ (c = 34 ∨ c = 92) := fun h => h.elim e1 e2
    have := ih (i + 1) (x ++ [c]) (by omega) (by simp; omega)
    rw [show x ++ [c] ++ (escS ((bytesOf s).drop (i + 1)) ++ [34]) = x ++ (escS (c :: (bytesOf s).drop (i + 1)) ++ [34]) by simp [escS, hn]] at this
    exact this
theorem ref_ValueText_ev {k n : Int} {s : ByteArray} (h : valS k n s = true) : Ev (fun r => constableref01_ValueText.f r k n s) (textS k n s) := by
  unfold constableref01_ValueText.f textS
  refine evIf (fun e => ?_) (fun e => ?_)
  · subst e
    rw [if_pos rfl]
    exact Ev.bind (ref_Digits_ev (valS_int h).1) (evSome rfl)
  · rw [if_neg e]
    refine evIf (fun e2 => evSome (by rw [if_pos e2])) (fun e2 => ?_)
    rw [if_neg e2]
    have := ref_text_l0 k n s (Nat.le_trans (valS_size h) (by decide)) s.size 0 [34] (by omega) (by simp)
    rw [List.drop_zero] at this
    exact this
def numL : Int → Bool → List Int → Option Int
  | n, over, [] => if over then none else some n
  | n, over, c :: r => if digitI c then (if over then numL n true r else if n > (4611686018427387904 - (c - 48)) / 10 then numL n true r else numL (10 * n + (c - 48)) false r) else none
def numOut (below : Bool) : Option Int → Int × Bool
  | some m => (if below then wrap64 (-m) else m, true)
  | none => (0, false)
def numR (s : ByteArray) : Int × Bool :=
  if s.size = 0 then (0, false)
  else if bt s 0 = 45 then (if s.size = 1 then (0, false) else numOut true (numL 0 false ((bytesOf s).drop 1)))
  else numOut false (numL 0 false (bytesOf s))
theorem num_l0 (s : ByteArray) (below : Bool) (hs : s.size ≤ 1000000) : ∀ (d i : Nat) (n : Int) (over : Bool), i + d = s.size → 0 ≤ n → n ≤ 4611686018427387904 →
    Ev (fun k => constableref01_Number.l0 k s below n over i) (numOut below (numL n over ((bytesOf s).drop i))) := by
  intro d
  induction d with
  | zero =>
    intro i n over hi h0 h1
    refine evShift ?_
    simp only [constableref01_Number.l0]
    refine evNeg (by omega) ?_
    rw [show i = s.size by omega, drop_end]
    cases over with
    | true => exact evPos rfl (evSome rfl)
    | false =>
      refine evNeg (by decide) ?_
      cases below with
      | true => exact evPos rfl (evSome rfl)
      | false => exact evNeg (by decide) (evSome rfl)
  | succ d ih =>
    intro i n over hi h0 h1
    have hlt : i < s.size := by omega
    obtain ⟨c, e1, e2⟩ := codes_split s i hlt
    have w1 : wrap64 ((i : Int) + 1) = ((i + 1 : Nat) : Int) := wrap_succ hlt (by omega)
    refine evShift ?_
    simp only [constableref01_Number.l0, ref_Digit_eq, Option.bind_some, e2, w1]
    rw [e1]
    refine evPos (by omega) (evPos (by omega) ?_)
    unfold numL
    cases hd : digitI c with
    | false => exact evNeg (by decide) (evSome rfl)
    | true =>
      refine evPos rfl ?_
      have hc : 48 ≤ c ∧ c ≤ 57 := by unfold digitI at hd; simpa using hd
      have m1 : (c - 48) % 256 = c - 48 := by omega
      rw [m1]
      cases over with
      | true => exact evPos rfl (ih (i + 1) n true (by omega) h0 h1)
      | false =>
        simp only [if_true, Bool.false_eq_true, if_false]
        refine evIf (fun h => ?_) (fun h => ?_)
        · rw [if_pos h, decide_eq_true h]
          exact ih (i + 1) n true (by omega) h0 h1
        · rw [if_neg h, decide_eq_false h]
          have w2 : wrap64 (wrap64 (10 * n) + (c - 48)) = 10 * n + (c - 48) := by unfold wrap64; omega
          rw [w2]
          exact ih (i + 1) _ false (by omega) (by omega) (by omega)
theorem ext_tail (s : ByteArray) : bytesOf (s.extract 1 s.size) = (bytesOf s).drop 1 := by
  unfold bytesOf
  rw [ByteArray.data_extract, Array.toList_extract, List.extract_eq_take_drop, List.map_take, List.map_drop]
  apply List.take_of_length_le
  rw [List.length_drop, List.length_map, data_length]
  omega
theorem ref_Number_ev (s : ByteArray) (hs : s.size ≤ 1000000) : Ev (fun k => constableref01_Number.f k s) (numR s) := by
  unfold constableref01_Number.f numR
  have jf : Ev (fun k => constableref01_Number.j0 k s false) (if s.size = 0 then (0, false) else numOut false (numL 0 false (bytesOf s))) := by
    refine evShift ?_
    simp only [constableref01_Number.j0, Bool.false_eq_true, if_false]
    refine evShift ?_
    simp only [constableref01_Number.j1]
    refine evIf (fun h => evSome (by rw [if_pos (by omega)])) (fun h => ?_)
    rw [if_neg (by omega)]
    exact num_l0 s false hs s.size 0 0 false (by omega) (by decide) (by decide)
  by_cases h0 : s.size = 0
  · rw [if_pos h0] at jf ⊢
    exact evNeg (by omega) jf
  · rw [if_neg h0] at jf ⊢
    refine evPos (by omega) (evPos (by omega) ?_)
    by_cases h1 : bt s 0 = 45
    · have hsz : (s.extract 1 s.size).size = s.size - 1 := by
        have := congrArg List.length (ext_tail s)
        rw [len_codes, List.length_drop, len_codes] at this
        exact this
      rw [if_pos h1, h1]
      show Ev (fun k => constableref01_Number.j0 k s true) _
      refine evShift ?_
      simp only [constableref01_Number.j0, if_true]
      refine evPos (by omega) (evShift ?_)
      simp only [constableref01_Number.j1, hsz]
      refine evIf (fun h => evSome (by rw [if_pos (by omega)])) (fun h => ?_)
      rw [if_neg (by omega)]
      have := num_l0 (s.extract 1 s.size) true (by omega) (s.size - 1) 0 0 false (by omega) (by decide) (by decide)
      rw [List.drop_zero, ext_tail] at this
      exact this
    · rw [if_neg h1, beq_eq_false_iff_ne.2 h1]
      exact jf
theorem num_dec : ∀ (n u : Nat) (r : List Int), u ≤ n → u ≤ 4611686018427387904 → numL 0 false (decC u ++ r) = numL u false r
  | n, u, r, hn, hu => by
    by_cases h : u < 10
    · rw [decC_small h]
      simp only [List.cons_append, List.nil_append, numL]
      rw [if_pos (show digitI (48 + (u : Int)) = true from decide_eq_true (by omega)), if_neg (by decide), if_neg (by omega)]
      congr 1; omega
    · cases n with
      | zero => omega
      | succ n =>
        rw [decC_big h, List.append_assoc, num_dec n (u / 10) _ (by omega) (by omega)]
        simp only [List.cons_append, List.nil_append, numL]
        rw [if_pos (show digitI (48 + ((u % 10 : Nat) : Int)) = true from decide_eq_true (by omega)), if_neg (by decide), if_neg (by omega)]
        congr 1; omega
theorem num_itoa {n : Int} (h : InB n) : numR ⟨(Lib.itoa n).toArray⟩ = (n, true) := by
  have hb := h
  rw [InB_iff] at h
  obtain ⟨c, l, e, hc, _⟩ := itoa_codes n
  have hz : ¬ (⟨(Lib.itoa n).toArray⟩ : ByteArray).size = 0 := by
    intro hz
    have := len_codes ⟨(Lib.itoa n).toArray⟩
    rw [e, hz] at this
    simp at this
  unfold numR
  rw [if_neg hz, bt_zero e]
  by_cases hn : n < 0
  · have hc45 : c = 45 := by omega
    have hcodes : bytesOf ⟨(Lib.itoa n).toArray⟩ = 45 :: decC n.natAbs := by rw [codes_mk]; unfold Lib.itoa decC; rw [if_pos hn]; rfl
    have hne : ¬ (⟨(Lib.itoa n).toArray⟩ : ByteArray).size = 1 := by
      intro h1
      have := len_codes ⟨(Lib.itoa n).toArray⟩
      rw [hcodes, h1] at this
      obtain ⟨d, r, e2, _⟩ := dec_cons n.natAbs
      unfold decC at this
      rw [e2] at this
      simp at this
    rw [if_pos hc45, if_neg hne, hcodes]
    show numOut true (numL 0 false (decC n.natAbs)) = _
    have := num_dec n.natAbs n.natAbs [] (Nat.le_refl _) (by omega)
    rw [List.append_nil] at this
    rw [this]
    show ((if true = true then wrap64 (-(n.natAbs : Int)) else _), true) = _
    rw [if_pos rfl]
    congr 1
    unfold wrap64; omega
  · have hcodes : bytesOf ⟨(Lib.itoa n).toArray⟩ = decC n.toNat := by rw [codes_mk]; unfold Lib.itoa decC; rw [if_neg hn]
    rw [if_neg (by omega), hcodes]
    have := num_dec n.toNat n.toNat [] (Nat.le_refl _) (by omega)
    rw [List.append_nil] at this
    rw [this]
    show ((if false = true then _ else (n.toNat : Int)), true) = _
    rw [if_neg (by decide)]
    congr 1; omega
theorem num_no {s : ByteArray} {c : Int} {l : List Int} (e : bytesOf s = c :: l) (h1 : ¬ c = 45) (h2 : digitI c = false) : numR s = (0, false) := by
  unfold numR
  split
  · rfl
  · rw [bt_zero e, if_neg h1, e]
    unfold numL
    rw [h2]
    rfl
def quoL : List Int → List Int → List Int × Bool
  | _, [] => ([], false)
  | out, [c] => if c = 34 then (out, decide (out.length ≤ 60)) else ([], false)
  | out, c :: d :: r => if c = 34 then (out, false) else if c = 92 then (if d = 34 ∨ d = 92 then quoL (out ++ [d]) r else ([], false)) else if plainI c then quoL (out ++ [c]) (d :: r) else ([], false)
def quoOut (p : List Int × Bool) : ByteArray × Bool := (strOfNums p.1, p.2)
theorem quo_l0 (s : ByteArray) (hs : s.size ≤ 1000000) : ∀ (d i : Nat) (x : List Int), s.size - i ≤ d → i ≤ s.size → x.length ≤ i → Ev (fun k => constableref01_Quoted.l0 k s (strOfNums x) i) (quoOut (quoL x ((bytesOf s).drop i))) := by
  have wm : 1 ≤ s.size → wrap64 ((s.size : Int) - 1) = ((s.size - 1 : Nat) : Int) := fun h => by unfold wrap64; omega
  intro d
  induction d with
  | zero =>
    intro i x hd hi hx
    refine evShift ?_
    simp only [constableref01_Quoted.l0]
    refine evNeg (by omega) (evSome ?_)
    rw [show i = s.size by omega, drop_end]; rfl
  | succ d ih =>
    intro i x hd hi hx
    by_cases hlt : i < s.size
    · obtain ⟨c, h1, h2⟩ := codes_split s i hlt
      have hr := bt_range s i
      rw [h2] at hr
      have w1 : wrap64 ((i : Int) + 1) = ((i + 1 : Nat) : Int) := wrap_succ hlt (by omega)
      have wc : wrap64 c = c := by unfold wrap64; omega
      have ex := ext_one s i hlt
      rw [h2] at ex
      refine evShift ?_
      simp only [constableref01_Quoted.l0, h2, w1, wm (by omega), wc, Int.toNat_natCast, ex, nums_size, nums_append, constableref01_In.f]
      refine evPos (by omega) (evPos (by omega) ?_)
      rw [h1]
      by_cases hl : i + 1 = s.size
      · rw [hl, drop_end]
        unfold quoL
        refine evIf (fun e => ?_) (fun e => ?_)
        · rw [if_pos e]
          exact evPos (by omega) (evSome (by unfold quoOut; congr 1; rw [decide_eq_decide]; omega))
        · rw [if_neg e]
          refine evIf (fun e2 => evPos (by omega) (evSome rfl)) (fun e2 => ?_)
          have := ih (i + 1) (x ++ [c]) (by omega) (by omega) (by simp; omega)
          rw [hl, drop_end] at this
          by_cases hp : c ≥ 32
          · rw [if_pos hp]
            simp only [Option.bind_some]
            by_cases hp2 : c ≤ 126
            · rw [decide_eq_true hp2]
              exact evPos rfl (evPos (by omega) (evPos (by omega) (evPos (by simp; omega) this)))
            · rw [decide_eq_false hp2]
              exact evNeg (by decide) (evSome rfl)
          · rw [if_neg hp]
            simp only [Option.bind_some]
            exact evNeg (by decide) (evSome rfl)
      · have hlt2 : i + 1 < s.size := by omega
        obtain ⟨c2, g1, g2⟩ := codes_split s (i + 1) hlt2
        have w2 : wrap64 (((i + 1 : Nat) : Int) + 1) = ((i + 1 + 1 : Nat) : Int) := wrap_succ hlt2 (by omega)
        have ex2 := ext_one s (i + 1) hlt2
        rw [g2] at ex2
        rw [g1]
        simp only [quoL]
        simp only [g2, w2, Int.toNat_natCast, ex2, nums_append, nums_size]
        clear w1 w2 wc wm
        have k1 : s.size - (i + 1 + 1) ≤ d := by omega
        have k3 : (x ++ [c2]).length ≤ i + 1 + 1 := by rw [List.length_append, List.length_singleton]; omega
        have nxt := ih (i + 1 + 1) (x ++ [c2]) k1 hlt2 k3
        have two : c2 = 34 ∨ c2 = 92 → Ev (fun k => constableref01_Quoted.l0 k s (strOfNums (x ++ [c2])) ((i + 1 + 1 : Nat) : Int)) (quoOut (if c2 = 34 ∨ c2 = 92 then quoL (x ++ [c2]) ((bytesOf s).drop (i + 1 + 1)) else ([], false))) := fun h => (if_pos h).symm ▸ nxt
        refine evIf (fun e => ?_) (fun e => ?_)
        · rw [if_pos e]
          exact evNeg (by omega) (evSome rfl)
        · rw [if_neg e]
          refine evIf (fun e2 => ?_) (fun e2 => ?_)
          · rw [if_pos e2]
            have b1 : x.length + ([c2] : List Int).length ≤ 9223372036854775807 := by rw [List.length_singleton]; omega
            refine evNeg (by omega) (evPos (by omega) (evPos (by omega) ?_))
            by_cases k1 : c2 = 34
            · refine evPos k1 (evPos (by omega) (evPos (by omega) (evPos b1 ?_)))
              exact two (.inl k1)
            · refine evNeg k1 ?_
              by_cases k2 : c2 = 92
              · refine evPos k2 (evPos (by omega) (evPos (by omega) (evPos b1 ?_)))
                exact two (.inr k2)
              · refine evNeg k2 (evSome ?_)
                rw [if_neg (fun h => h.elim k1 k2)]; rfl
          · rw [if_neg e2]
            have := ih (i + 1) (x ++ [c]) (by omega) (by omega) (by simp; omega)
            rw [g1] at this
            by_cases hp : c ≥ 32
            · rw [if_pos hp]
              simp only [Option.bind_some]
              by_cases hp2 : c ≤ 126
              · rw [decide_eq_true hp2, if_pos (show plainI c = true from decide_eq_true ⟨hp, hp2⟩)]
                exact evPos rfl (evPos (by omega) (evPos (by omega) (evPos (by simp; omega) this)))
              · rw [decide_eq_false hp2, if_neg (show ¬ plainI c = true by unfold plainI; rw [decide_eq_true_eq]; omega)]
                exact evNeg (by decide) (evSome rfl)
            · rw [if_neg hp, if_neg (show ¬ plainI c = true by unfold plainI; rw [decide_eq_true_eq]; omega)]
              simp only [Option.bind_some]
              exact evNeg (by decide) (evSome rfl)
    · refine evShift ?_
      simp only [constableref01_Quoted.l0]
      refine evNeg (by omega) (evSome ?_)
      rw [show i = s.size by omega, drop_end]; rfl
def quoR (s : ByteArray) : ByteArray × Bool := if s.size < 2 then (⟨#[]⟩, false) else if bt s 0 = 34 then quoOut (quoL [] ((bytesOf s).drop 1)) else (⟨#[]⟩, false)
theorem ref_Quoted_ev (s : ByteArray) (hs : s.size ≤ 1000000) : Ev (fun k => constableref01_Quoted.f k s) (quoR s) := by
  unfold constableref01_Quoted.f quoR
  have jt : Ev (fun k => constableref01_Quoted.j0 k s true) ((⟨#[]⟩ : ByteArray), false) := by
    refine evShift ?_
    simp only [constableref01_Quoted.j0, if_true]
    exact evSome rfl
  refine evIf (fun h => ?_) (fun h => evPos (by omega) ?_)
  · rw [if_pos (by omega)]; exact jt
  · rw [if_neg (by omega)]
    by_cases e : bt s 0 = 34
    · rw [if_pos e, e]
      show Ev (fun k => constableref01_Quoted.j0 k s false) _
      refine evShift ?_
      simp only [constableref01_Quoted.j0, Bool.false_eq_true, if_false]
      exact quo_l0 s hs s.size 1 [] (by omega) (by omega) (by simp)
    · rw [if_neg e, bne_iff_ne.2 e]; exact jt
theorem quo_esc : ∀ (l out : List Int), l.all plainI = true → quoL out (escS l ++ [34]) = (out ++ l, decide ((out ++ l).length ≤ 60))
  | [], out, _ => by simp [escS, quoL]
  | c :: l, out, h => by
    rw [List.all_cons, Bool.and_eq_true] at h
    have ne : ∃ d r, escS l ++ [34] = d :: r := by
      cases e : escS l with
      | nil => exact ⟨34, [], rfl⟩
      | cons d r => exact ⟨d, r ++ [34], rfl⟩
    obtain ⟨d, r, e⟩ := ne
    unfold escS
    split
    · rename_i hc
      show quoL out (92 :: c :: (escS l ++ [34])) = _
      simp only [quoL]
      rw [if_neg (by decide), if_pos trivial, if_pos hc, quo_esc l (out ++ [c]) h.2]
      simp
    · rename_i hc
      have ih := quo_esc l (out ++ [c]) h.2
      show quoL out (c :: (escS l ++ [34])) = _
      rw [e] at ih ⊢
      simp only [quoL]
      rw [if_neg (fun k => hc (.inl k)), if_neg (fun k => hc (.inr k)), if_pos h.1, ih]
      simp
def candR (s : ByteArray) : S44 := if (numR s).2 = true then ⟨1, (numR s).1, ⟨#[]⟩⟩ else if (quoR s).2 = true then ⟨3, 0, (quoR s).1⟩ else ⟨2, 0, s⟩
def parseR (s : ByteArray) : S44 × Bool := if fitsS (candR s) s then (candR s, true) else (zE, false)
def tupQ (p : S44 × Bool) : Int × Int × ByteArray × Bool := (p.1.f0, p.1.f1, p.1.f2, p.2)
theorem parse_j0 (v : S44) (s : ByteArray) (hv : v.f2.size ≤ maxLen) : Ev (fun k => constableref01_ParseValue.j0 k s v.f0 v.f1 v.f2) (tupQ (if fitsS v s then (v, true) else (zE, false))) := by
  refine evShift ?_
  simp only [constableref01_ParseValue.j0]
  refine Ev.bind (ref_Value_ev v.f0 v.f1 v.f2 hv) ?_
  unfold fitsS
  cases h : valS v.f0 v.f1 v.f2 with
  | false => exact evNeg (by decide) (evSome rfl)
  | true =>
    refine evPos rfl (Ev.bind (ref_ValueText_ev h) ?_)
    rw [Bool.true_and]
    by_cases e : textS v.f0 v.f1 v.f2 = s
    · rw [decide_eq_true e]; exact evPos (tl_inj.2 e) (evSome rfl)
    · rw [decide_eq_false e]; exact evNeg (fun h => e (tl_inj.1 h)) (evSome rfl)
theorem quoL_len : ∀ (n : Nat) (l out : List Int), l.length ≤ n → (quoL out l).1.length ≤ out.length + l.length
  | _, [], out, _ => by simp [quoL]
  | _, [c], out, _ => by
    unfold quoL
    split
    · show out.length ≤ out.length + 1; omega
    · exact Nat.zero_le _
  | 0, c :: d :: r, out, h => by simp at h
  | n + 1, c :: d :: r, out, h => by
    simp only [quoL]
    split
    · show out.length ≤ _; omega
    · split
      · split
        · have := quoL_len n r (out ++ [d]) (by simp at h; omega)
          simp at this ⊢; omega
        · simp
      · split
        · have := quoL_len n (d :: r) (out ++ [c]) (by simp at h ⊢; omega)
          simp at this ⊢; omega
        · simp
theorem ref_Parse_ev (s : ByteArray) (hs : s.size ≤ 1000000) : Ev (fun k => constableref01_ParseValue.f k s) (tupQ (parseR s)) := by
  unfold constableref01_ParseValue.f parseR candR
  refine Ev.bind (ref_Number_ev s hs) (evIf (fun h => ?_) (fun h => Ev.bind (ref_Quoted_ev s hs) (evIf (fun h2 => ?_) (fun h2 => ?_))))
  · rw [if_pos h]
    exact parse_j0 ⟨1, (numR s).1, ⟨#[]⟩⟩ s (by unfold maxLen; exact Nat.zero_le _)
  · rw [if_neg h, if_pos h2]
    refine parse_j0 ⟨3, 0, (quoR s).1⟩ s ?_
    show (quoR s).1.size ≤ maxLen
    unfold quoR
    split
    · exact Nat.zero_le _
    · split
      · show (strOfNums _).size ≤ _
        rw [nums_size]
        have := quoL_len _ ((bytesOf s).drop 1) [] (Nat.le_refl _)
        rw [List.length_drop, len_codes, List.length_nil] at this
        unfold maxLen
        omega
      · exact Nat.zero_le _
  · rw [if_neg h, if_neg h2]
    exact parse_j0 ⟨2, 0, s⟩ s (by show s.size ≤ maxLen; unfold maxLen; omega)
theorem cand_ref {k n : Int} {s : ByteArray} (h : valS k n s = true) : candR (textS k n s) = ⟨k, n, s⟩ := by
  unfold textS
  by_cases h1 : k = 1
  · subst h1
    obtain ⟨hb, rfl⟩ := valS_int h
    rw [if_pos rfl]
    unfold candR
    rw [num_itoa hb, if_pos rfl]
  · rw [if_neg h1]
    by_cases h2 : k = 2
    · subst h2
      obtain ⟨rfl, hw⟩ := valS_sym h
      obtain ⟨hs, hf, _⟩ := sym_first hw
      rw [if_pos rfl]
      obtain ⟨c, e, e2⟩ := codes_split s 0 (by omega)
      rw [List.drop_zero] at e
      have e2' : bt s 0 = c := e2
      rw [e2'] at hf
      unfold smallI at hf
      rw [decide_eq_true_eq] at hf
      have hn := num_no e (by omega) (show digitI c = false from decide_eq_false (by omega))
      have hq : quoR s = (⟨#[]⟩, false) := by
        unfold quoR
        rw [e2', if_neg (show ¬ c = 34 by omega)]
        split <;> rfl
      unfold candR
      rw [hn, hq, if_neg (by decide), if_neg (by decide)]
    · rw [if_neg h2]
      obtain ⟨rfl, rfl, hp, hl⟩ := valS_str h h1 h2
      have e : bytesOf (quoteS s) = 34 :: (escS (bytesOf s) ++ [34]) := codes_of_nums (quoteL_byte (byteL_codes s))
      have hn := num_no e (by decide) (by decide)
      have hsz : ¬ (quoteS s).size < 2 := by
        have := len_codes (quoteS s)
        rw [e] at this
        simp at this
        omega
      have hq : quoR (quoteS s) = (s, true) := by
        unfold quoR
        rw [if_neg hsz, bt_zero e, if_pos rfl, e]
        show quoOut (quoL [] (escS (bytesOf s) ++ [34])) = _
        rw [quo_esc _ _ hp]
        unfold quoOut
        simp only [List.nil_append, nums_codes, len_codes]
        rw [decide_eq_true hl]
      unfold candR
      rw [hn, hq, if_neg (by decide), if_pos rfl]
theorem parse_same (s : ByteArray) : (∃ v, parseS s = (v, 0) ∧ parseR s = (v, true)) ∨ (parseS s = (zE, 7) ∧ parseR s = (zE, false)) := by
  rcases parse_fits (s := s) with ⟨v, e, hv, ht⟩ | e
  · refine .inl ⟨v, e, ?_⟩
    have hc := cand_ref hv
    rw [ht] at hc
    unfold parseR
    rw [hc]
    have : fitsS v s = true := by unfold fitsS; rw [hv, decide_eq_true ht]; rfl
    show (if fitsS v s = true then (v, true) else (zE, false)) = _
    rw [this]; rfl
  · refine .inr ⟨e, ?_⟩
    unfold parseR
    cases hf : fitsS (candR s) s with
    | false => rfl
    | true =>
      exfalso
      unfold fitsS at hf
      simp only [Bool.and_eq_true, decide_eq_true_eq] at hf
      have := parse_text hf.1
      rw [hf.2, e] at this
      have := congrArg Prod.snd this
      exact absurd this (show ¬ (7 : Int) = 0 by decide)
end Go.Proofs.YtaopajmpifenoaaDoor.P
end
section
namespace Go.Proofs.YtaopajmpifenoaaDoor.P
open Go.RowKit Go.Proofs.YtaopajmpifenoaaDoorW.PrintWords Go.Proofs.YtaopajmpifenoaaDoorW.PrintLast Go.Proofs.YtaopajmpifenoaaDoorW.PrintMore
theorem ref_Name_l0 (s : ByteArray) (l : List ByteArray) (hl : l.length ≤ 1000) : ∀ i : Nat, i ≤ l.length → Ev (fun k => constableref01_Name.l0 k s l i) (!((l.drop i).any fun x => decide (x = s))) := by
  refine back_ind l.length (fun k i => constableref01_Name.l0 k s l i) _ ?_ ?_
  · refine evShift ?_
    simp only [constableref01_Name.l0]
    refine evNeg (by omega) (evSome ?_)
    rw [List.drop_length]; rfl
  · intro i hi ih
    refine evShift ?_
    simp only [constableref01_Name.l0]
    refine evPos (by omega) (evPos (by omega) ?_)
    rw [rdOf_nth _ l i hi, List.drop_eq_getElem_cons hi, wrap_succ hi (by omega), List.any_cons]
    refine evIf (fun e => ?_) (fun e => ?_)
    · rw [decide_eq_true (tl_inj.1 e), Bool.true_or]; exact evSome rfl
    · rw [decide_eq_false (fun h => e (tl_inj.2 h)), Bool.false_or]; exact ih
theorem ref_Name_ev (s : ByteArray) (hs : s.size ≤ maxLen) : Ev (fun k => constableref01_Name.f k s) (nameS s) := by
  unfold constableref01_Name.f nameS
  refine Ev.bind (ref_Word_ev s false hs) ?_
  cases wordS false s with
  | false => exact evNeg (by decide) (evSome rfl)
  | true =>
    refine evPos rfl ?_
    simp only [constableref01_words.f, Option.bind_some, Bool.true_and]
    exact ref_Name_l0 s wordsL (by decide) 0 (Nat.zero_le _)
theorem ref_Fact_ev (f : S24) (hf : FactOk f) : Ev (fun k => constableref01_Fact.f k f.f0 f.f1) (factS f) := by
  obtain ⟨h1, h2, h3⟩ := hf
  have h : ∀ i : Nat, i ≤ f.f1.length → Ev (fun k => constableref01_Fact.l0 k i f.f0 f.f1) ((f.f1.drop i).all vS2) := by
    refine back_ind f.f1.length (fun k i => constableref01_Fact.l0 k i f.f0 f.f1) _ ?_ ?_
    · refine evShift ?_
      simp only [constableref01_Fact.l0]
      refine evNeg (by omega) (evSome ?_)
      rw [List.drop_length]; rfl
    · intro i hi ih
      refine evShift ?_
      simp only [constableref01_Fact.l0, rdA_nth f.f1 i hi]
      refine evPos (by omega) (evPos (by omega) ?_)
      rw [List.drop_eq_getElem_cons hi, wrap_succ hi (by omega), List.all_cons]
      refine Ev.bind (ref_Value_ev _ _ _ (Nat.le_trans (h3 _ (List.getElem_mem hi)) (by decide))) ?_
      have e : vS2 f.f1[i] = valS (f.f1[i]).f0 (f.f1[i]).f1 (f.f1[i]).f2 := rfl
      rw [e]
      cases valS (f.f1[i]).f0 (f.f1[i]).f1 (f.f1[i]).f2 with
      | true => exact evPos rfl ih
      | false => exact evNeg (by decide) (evSome rfl)
  have jt : Ev (fun k => constableref01_Fact.j0 k true f.f0 f.f1) false := by
    refine evShift ?_
    simp only [constableref01_Fact.j0, if_true]
    exact evSome rfl
  unfold constableref01_Fact.f factS
  refine Ev.bind (ref_Name_ev f.f0 (Nat.le_trans h1 (by decide))) ?_
  cases nameS f.f0 with
  | false => exact evNeg (by decide) jt
  | true =>
    refine evPos rfl ?_
    by_cases h5 : f.f1.length ≤ 5
    · rw [decide_eq_false (show ¬ (f.f1.length : Int) > 5 by omega), decide_eq_true h5]
      refine evShift ?_
      simp only [constableref01_Fact.j0, Bool.false_eq_true, if_false]
      exact h 0 (Nat.zero_le _)
    · rw [decide_eq_true (show (f.f1.length : Int) > 5 by omega), decide_eq_false h5]
      exact jt
theorem ref_Facts_ev (f g : S24) (hf : FactOk f) (hg : FactOk g) : Ev (fun k => constableref01_Facts.f k f.f0 f.f1 g.f0 g.f1) (cmpF f g) := by
  obtain ⟨f1, f2, f3⟩ := hf
  obtain ⟨g1, g2, g3⟩ := hg
  have hs := ref_Strings_ev f.f0 g.f0 (Nat.le_trans f1 (by decide)) (Nat.le_trans g1 (by decide))
  have e : cmpS (bytesOf f.f0) (bytesOf g.f0) = cmpB f.f0 g.f0 := cmpS_cb _ _
  rw [e] at hs
  unfold constableref01_Facts.f cmpF lexI
  refine Ev.bind hs (evIf (fun h0 => ?_) (fun h0 => evSome (by rw [if_neg h0])))
  rw [if_pos h0]
  simp only [ref_order_cmp, Option.bind_some]
  refine evIf (fun h1 => ?_) (fun h1 => evSome (by rw [if_neg h1]))
  rw [if_pos h1]
  have hl : f.f1.length = g.f1.length := by have := (cmpI_zero _ _).1 h1; omega
  have h : ∀ i : Nat, i ≤ f.f1.length → Ev (fun k => constableref01_Facts.l0 k i f.f0 f.f1 g.f0 g.f1) (lexL cmpV (f.f1.drop i) (g.f1.drop i)) := by
    refine back_ind f.f1.length (fun k i => constableref01_Facts.l0 k i f.f0 f.f1 g.f0 g.f1) _ ?_ ?_
    · refine evShift ?_
      simp only [constableref01_Facts.l0]
      refine evNeg (by omega) (evSome ?_)
      rw [List.drop_length, hl, List.drop_length]; rfl
    · intro i hi ih
      have hi2 : i < g.f1.length := by omega
      refine evShift ?_
      simp only [constableref01_Facts.l0, rdA_nth f.f1 i hi, rdA_nth g.f1 i hi2]
      refine evPos (by omega) (evPos (by omega) (evPos (by omega) ?_))
      rw [List.drop_eq_getElem_cons hi, List.drop_eq_getElem_cons hi2, wrap_succ hi (by omega)]
      refine Ev.bind (ref_Values_ev _ _ (Nat.le_trans (f3 _ (List.getElem_mem hi)) (by decide)) (Nat.le_trans (g3 _ (List.getElem_mem hi2)) (by decide))) ?_
      simp only [lexL, lexI]
      refine evIf (fun e => ?_) (fun e => evSome (by rw [if_neg e]))
      rw [if_pos e]; exact ih
  exact h 0 (Nat.zero_le _)
theorem ref_Lists_ev (a b : List S24) (ha : a.length ≤ 1000) (hb : b.length ≤ 1000) (oa : ∀ f ∈ a, FactOk f) (ob : ∀ f ∈ b, FactOk f) : Ev (fun k => constableref01_Lists.f k a b) (lexL cmpF a b) := by
  have h : ∀ (d i : Nat), i + d = a.length → i ≤ b.length → Ev (fun k => constableref01_Lists.l0 k a b i) (lexL cmpF (a.drop i) (b.drop i)) := by
    intro d
    induction d with
    | zero =>
      intro i hi hib
      refine evShift ?_
      simp only [constableref01_Lists.l0]
      refine evNeg (by omega) (evShift ?_)
      simp only [constableref01_Lists.j1, Bool.false_eq_true, if_false, ref_order_eq, Option.bind_some]
      refine evSome ?_
      rw [List.drop_of_length_le (l := a) (by omega)]
      by_cases h2 : i < b.length
      · rw [List.drop_eq_getElem_cons h2, if_pos (by omega)]; rfl
      · rw [List.drop_of_length_le (l := b) (by omega), if_neg (by omega), if_neg (by omega)]; rfl
    | succ d ih =>
      intro i hi hib
      have hlt : i < a.length := by omega
      refine evShift ?_
      simp only [constableref01_Lists.l0]
      refine evPos (by omega) (evShift ?_)
      by_cases h2 : i < b.length
      · simp only [constableref01_Lists.j1, rdF_nth a i hlt, rdF_nth b i h2]
        refine evPos (by rw [decide_eq_true_eq]; omega) (evPos (by omega) (evPos (by omega) (evPos (by omega) ?_)))
        rw [List.drop_eq_getElem_cons hlt, List.drop_eq_getElem_cons h2, wrap_succ hlt (by omega)]
        refine Ev.bind (ref_Facts_ev _ _ (oa _ (List.getElem_mem hlt)) (ob _ (List.getElem_mem h2))) ?_
        simp only [lexL, lexI]
        refine evIf (fun e => ?_) (fun e => evSome (by rw [if_neg e]))
        rw [if_pos e]
        exact ih (i + 1) (by omega) (by omega)
      · simp only [constableref01_Lists.j1, ref_order_eq, Option.bind_some]
        refine evNeg (by rw [decide_eq_true_eq]; omega) (evSome ?_)
        rw [List.drop_eq_getElem_cons hlt, List.drop_of_length_le (l := b) (by omega), if_neg (by omega), if_pos (by omega)]; rfl
  exact h a.length 0 (by omega) (by omega)
theorem ref_text_tail (f : S24) (hall : f.f1.all vS2 = true) (h2 : f.f1.length ≤ 20) : ∀ (d i : Nat) (x : List UInt8), i + d = f.f1.length → 1 ≤ i → x.length ≤ 1000 + 300 * i →
    Ev (fun k => constableref01_FactText.l0 k (mkB x) i f.f0 f.f1) (mkB (x ++ (Lib.joinTail [44, 32] ((f.f1.drop i).map textU) ++ [41]))) := by
  have q2 : (⟨#[41]⟩ : ByteArray) = mkB [41] := rfl
  have q3 : (⟨#[44, 32]⟩ : ByteArray) = mkB [44, 32] := rfl
  intro d
  induction d with
  | zero =>
    intro i x hi h1 hx
    refine evShift ?_
    simp only [constableref01_FactText.l0, q2, mkB_append, mkB_size]
    refine evNeg (by omega) (evPos (by omega) (evPos (by omega) (evSome ?_)))
    rw [List.drop_of_length_le (by omega)]
    simp [Lib.joinTail]
  | succ d ih =>
    intro i x hi h1 hx
    have hlt : i < f.f1.length := by omega
    have hv : vS2 f.f1[i] = true := List.all_eq_true.1 hall _ (List.getElem_mem hlt)
    have hl := textU_len hv
    have ht := ref_ValueText_ev (show valS (f.f1[i]).f0 (f.f1[i]).f1 (f.f1[i]).f2 = true from hv)
    have et : textS (f.f1[i]).f0 (f.f1[i]).f1 (f.f1[i]).f2 = mkB (textU f.f1[i]) := (mkB_list _).symm
    rw [et] at ht
    refine evShift ?_
    simp only [constableref01_FactText.l0, rdA_nth f.f1 i hlt, q3, mkB_append, mkB_size]
    refine evPos (by omega) (evNeg (by omega) (evPos (by omega) (evPos (by omega) (Ev.bind ht ?_))))
    simp only [mkB_append, mkB_size, List.length_append, List.length_cons, List.length_nil]
    refine evPos (by omega) ?_
    rw [wrap_succ hlt (by omega)]
    have := ih (i + 1) (x ++ [44, 32] ++ textU f.f1[i]) (by omega) (by omega) (by simp only [List.length_append, List.length_cons, List.length_nil]; omega)
    rw [List.drop_eq_getElem_cons hlt]
    have e : x ++ [44, 32] ++ textU f.f1[i] ++ (Lib.joinTail [44, 32] ((f.f1.drop (i + 1)).map textU) ++ [41]) = x ++ (Lib.joinTail [44, 32] ((f.f1[i] :: f.f1.drop (i + 1)).map textU) ++ [41]) := by
      unfold Lib.joinTail; simp only [List.map_cons, List.flatten_cons, List.append_assoc, List.cons_append, List.nil_append]
    rw [e] at this
    exact this
theorem ref_FactText_ev (f : S24) (hf : FactOk f) (hs : factS f = true) : Ev (fun k => constableref01_FactText.f k f.f0 f.f1) (mkB (factU f)) := by
  obtain ⟨h1, h2, h3⟩ := hf
  have hall : f.f1.all vS2 = true := by
    unfold factS at hs
    simp only [Bool.and_eq_true] at hs
    exact hs.2.2
  have q1 : (⟨#[40]⟩ : ByteArray) = mkB [40] := rfl
  have hn : f.f0.data.toList.length = f.f0.size := by rw [Array.length_toList]; rfl
  unfold constableref01_FactText.f
  by_cases h0 : f.f1 = []
  · refine evShift ?_
    simp only [constableref01_FactText.l0]
    rw [h0]
    refine evNeg (by decide) (evNeg (by decide) (evSome ?_))
    unfold factU
    rw [if_pos h0, List.append_nil, mkB_list]
  · have hlt : 0 < f.f1.length := List.length_pos_iff.2 h0
    have hv : vS2 f.f1[0] = true := List.all_eq_true.1 hall _ (List.getElem_mem hlt)
    have hl := textU_len hv
    have ht := ref_ValueText_ev (show valS (f.f1[0]).f0 (f.f1[0]).f1 (f.f1[0]).f2 = true from hv)
    have et : textS (f.f1[0]).f0 (f.f1[0]).f1 (f.f1[0]).f2 = mkB (textU f.f1[0]) := (mkB_list _).symm
    rw [et] at ht
    have hr := rdA_nth f.f1 0 hlt
    have hrest := ref_text_tail f hall h2 (f.f1.length - 1) 1 (f.f0.data.toList ++ ([40] : List UInt8) ++ textU f.f1[0]) (by omega) (by omega) (by simp only [List.length_append, List.length_singleton]; omega)
    refine evShift ?_
    simp only [constableref01_FactText.l0]
    refine evPos (by omega) (evPos (by trivial) (evPos (by omega) (evPos (by decide) ?_)))
    have hr0 : rd_T44 f.f1 0 = f.f1[0] := hr
    rw [hr0]
    refine Ev.bind ht ?_
    have e0 : f.f0 ++ mkB [40] = mkB (f.f0.data.toList ++ ([40] : List UInt8)) := by rw [← mkB_append, mkB_list]
    have w : wrap64 (0 + 1) = ((1 : Nat) : Int) := by unfold wrap64; omega
    rw [q1, e0, w]
    refine evPos (by rw [mkB_size, mkB_size, List.length_append, List.length_singleton]; omega) ?_
    rw [mkB_append]
    have ef : f.f0.data.toList ++ ([40] : List UInt8) ++ textU f.f1[0] ++ (Lib.joinTail [44, 32] ((f.f1.drop 1).map textU) ++ [41]) = factU f := by
      unfold factU
      rw [if_neg h0]
      have : f.f1 = f.f1[0] :: f.f1.drop 1 := by
        have := List.drop_eq_getElem_cons hlt
        rw [List.drop_zero] at this
        exact this
      rw [show Lib.join (f.f1.map textU) [44, 32] = textU f.f1[0] ++ Lib.joinTail [44, 32] ((f.f1.drop 1).map textU) by rw [← Lib.join_cons, ← List.map_cons, ← this]]
      simp
    rw [ef] at hrest
    exact hrest
theorem keep_Fact_same (f : S24) (hl : f.f1.length ≤ 1000) : Ev (fun k => constablekeep_Fact.f k f.f0 f.f1 f.f0 f.f1) true := by
  have h : ∀ i : Nat, i ≤ f.f1.length → Ev (fun k => constablekeep_Fact.l0 k i f.f0 f.f1 f.f0 f.f1) true := by
    refine back_ind f.f1.length (fun k i => constablekeep_Fact.l0 k i f.f0 f.f1 f.f0 f.f1) (fun _ => true) ?_ ?_
    · refine evShift ?_
      simp only [constablekeep_Fact.l0]
      exact evNeg (by omega) (evSome rfl)
    · intro i hi ih
      refine evShift ?_
      simp only [constablekeep_Fact.l0]
      rw [wrap_succ hi (by omega)]
      exact evPos (by omega) (evPos (by omega) (evPos (by omega) (evNeg (by simp) ih)))
  unfold constablekeep_Fact.f
  refine evPos rfl ?_
  rw [bne_self_eq_false]
  refine evShift ?_
  simp only [constablekeep_Fact.j0, Bool.false_eq_true, if_false]
  exact h 0 (Nat.zero_le _)
def heavyF (f : S24) : Bool := decide (f.f0.size > 200) || (decide (f.f1.length > 20) || f.f1.any fun v => decide (v.f2.size > 200))
theorem heavy_ev (f : S24) : Ev (fun k => constablelaw03_Heavy.f k f.f0 f.f1) (heavyF f) := by
  have jt : Ev (fun k => constablelaw03_Heavy.j0 k true f.f0 f.f1) true := by
    refine evShift ?_
    simp only [constablelaw03_Heavy.j0, if_true]
    exact evSome rfl
  unfold constablelaw03_Heavy.f heavyF
  refine evIf (fun h => ?_) (fun h => ?_)
  · rw [decide_eq_true (show f.f0.size > 200 by omega)]; exact jt
  · rw [decide_eq_false (show ¬ f.f0.size > 200 by omega), Bool.false_or]
    by_cases h2 : f.f1.length > 20
    · rw [decide_eq_true h2, decide_eq_true (show (f.f1.length : Int) > 20 by omega)]; exact jt
    · rw [decide_eq_false h2, decide_eq_false (show ¬ (f.f1.length : Int) > 20 by omega), Bool.false_or]
      have h : ∀ i : Nat, i ≤ f.f1.length → Ev (fun k => constablelaw03_Heavy.l0 k i f.f0 f.f1) ((f.f1.drop i).any fun v => decide (v.f2.size > 200)) := by
        refine back_ind f.f1.length (fun k i => constablelaw03_Heavy.l0 k i f.f0 f.f1) _ ?_ ?_
        · refine evShift ?_
          simp only [constablelaw03_Heavy.l0]
          refine evNeg (by omega) (evSome ?_)
          rw [List.drop_length]; rfl
        · intro i hi ih
          refine evShift ?_
          simp only [constablelaw03_Heavy.l0, rdA_nth f.f1 i hi]
          rw [List.drop_eq_getElem_cons hi, wrap_succ hi (by omega), List.any_cons]
          refine evPos (by omega) (evPos (by omega) (evIf (fun e => ?_) (fun e => ?_)))
          · rw [decide_eq_true (show (f.f1[i]).f2.size > 200 by omega), Bool.true_or]; exact evSome rfl
          · rw [decide_eq_false (show ¬ (f.f1[i]).f2.size > 200 by omega), Bool.false_or]; exact ih
      refine evShift ?_
      simp only [constablelaw03_Heavy.j0, Bool.false_eq_true, if_false]
      exact h 0 (Nat.zero_le _)
theorem light_fact {f : S24} (h : heavyF f = false) : FactOk f := by
  unfold heavyF at h
  simp only [Bool.or_eq_false_iff, decide_eq_false_iff_not, List.any_eq_false, decide_eq_true_eq] at h
  exact ⟨by omega, by omega, fun v hv => by have := h.2.2 v hv; omega⟩
def manyF (l : List S24) : Bool := decide (l.length > 60) || l.any heavyF
theorem many_ev (l : List S24) : Ev (fun k => constablelaw03_Many.f k l) (manyF l) := by
  unfold constablelaw03_Many.f manyF
  refine evIf (fun h => evSome (by rw [decide_eq_true (show l.length > 60 by omega)]; rfl)) (fun h => ?_)
  rw [decide_eq_false (show ¬ l.length > 60 by omega), Bool.false_or]
  have h : ∀ i : Nat, i ≤ l.length → Ev (fun k => constablelaw03_Many.l0 k l i) ((l.drop i).any heavyF) := by
    refine back_ind l.length (fun k i => constablelaw03_Many.l0 k l i) _ ?_ ?_
    · refine evShift ?_
      simp only [constablelaw03_Many.l0]
      refine evNeg (by omega) (evSome ?_)
      rw [List.drop_length]; rfl
    · intro i hi ih
      refine evShift ?_
      simp only [constablelaw03_Many.l0, rdF_nth l i hi]
      rw [List.drop_eq_getElem_cons hi, wrap_succ hi (by omega), List.any_cons]
      refine evPos (by omega) (evPos (by omega) (Ev.bind (heavy_ev l[i]) ?_))
      cases heavyF l[i] with
      | true => exact evPos rfl (evSome rfl)
      | false => exact evNeg (by decide) ih
  exact h 0 (Nat.zero_le _)
theorem light_facts {l : List S24} (h : manyF l = false) : l.length ≤ 60 ∧ ∀ f ∈ l, FactOk f := by
  unfold manyF at h
  simp only [Bool.or_eq_false_iff, decide_eq_false_iff_not, List.any_eq_false] at h
  exact ⟨by omega, fun f hf => light_fact (by have := h.2 f hf; simpa using this)⟩
theorem twin_eq (f : S24) (hf : f.f1.length ≤ 1000) : constablekeep_TwinFact.f f.f0 f.f1 = some (f.f0, f.f1) := by
  unfold constablekeep_TwinFact.f
  rw [if_pos (by simp; omega)]
  simp
end Go.Proofs.YtaopajmpifenoaaDoor.P
end
section
namespace Go.Proofs.YtaopajmpifenoaaDoor.P
open Go.RowKit Go.Proofs.YtaopajmpifenoaaDoorW.PrintWords Go.Proofs.YtaopajmpifenoaaDoorW.PrintLast Go.Proofs.YtaopajmpifenoaaDoorW.PrintMore
theorem lexI_zero {a b : Int} : lexI a b = 0 ↔ a = 0 ∧ b = 0 := by unfold lexI; split <;> omega
theorem lexI_swap (a b : Int) : lexI (-a) (-b) = - lexI a b := by unfold lexI; split <;> split <;> omega
section
variable {α : Type} {c : α → α → Int}
theorem lexL_zero (h : ∀ x y, c x y = 0 ↔ x = y) : ∀ a b : List α, lexL c a b = 0 ↔ a = b
  | [], [] => by simp [lexL]
  | [], _ :: _ => by simp [lexL]
  | _ :: _, [] => by simp [lexL]
  | x :: a, y :: b => by simp only [lexL, lexI_zero, h, lexL_zero h a b, List.cons.injEq]
theorem lexL_swap (h : ∀ x y, c y x = - c x y) : ∀ a b : List α, lexL c b a = - lexL c a b
  | [], [] => by simp [lexL]
  | [], _ :: _ => by simp [lexL]
  | _ :: _, [] => by simp [lexL]
  | x :: a, y :: b => by simp only [lexL, h x y, lexL_swap h a b, lexI_swap]
theorem lexL_tr (h : ∀ x y z, Tr (c x y) (c y z) (c x z)) : ∀ a b d : List α, Tr (lexL c a b) (lexL c b d) (lexL c a d)
  | [], [], [] => by simp [lexL, Tr]
  | [], [], _ :: _ => by simp [lexL, Tr]
  | [], _ :: _, [] => by simp [lexL, Tr]
  | [], y :: b, z :: d => by simp [lexL, Tr]
  | _ :: _, [], [] => by simp [lexL, Tr]
  | _ :: _, [], _ :: _ => by simp [lexL, Tr]
  | x :: a, y :: b, [] => by simp [lexL, Tr]
  | x :: a, y :: b, z :: d => by simp only [lexL]; exact (h x y z).lex (lexL_tr h a b d)
theorem lexL_bd (h : ∀ x y, -1 ≤ c x y ∧ c x y ≤ 1) : ∀ a b : List α, -1 ≤ lexL c a b ∧ lexL c a b ≤ 1
  | [], [] => by simp [lexL]
  | [], _ :: _ => by simp [lexL]
  | _ :: _, [] => by simp [lexL]
  | x :: a, y :: b => by simp only [lexL]; exact lexI_bd (h x y) (lexL_bd h a b)
end
theorem cmpF_zero (f g : S24) : cmpF f g = 0 ↔ f = g := by
  obtain ⟨n, a⟩ := f
  obtain ⟨m, b⟩ := g
  unfold cmpF
  rw [lexI_zero, lexI_zero, cmpB_zero, cmpI_zero, lexL_zero cmpV_zero]
  constructor
  · rintro ⟨h1, _, h3⟩; simp only at h1 h3; rw [h1, h3]
  · intro h
    injection h with h1 h2
    subst h1; subst h2
    exact ⟨rfl, rfl, rfl⟩
theorem cmpF_swap (f g : S24) : cmpF g f = - cmpF f g := by
  unfold cmpF
  have hb : cmpB g.f0 f.f0 = - cmpB f.f0 g.f0 := cb_swap _ _
  rw [hb, cmpI_swap f.f1.length g.f1.length, lexL_swap cmpV_swap f.f1 g.f1, lexI_swap, lexI_swap]
theorem cmpF_tr (f g h : S24) : Tr (cmpF f g) (cmpF g h) (cmpF f h) := by
  unfold cmpF
  exact Tr.lex (cb_tr _ _ _) (Tr.lex (cmpI_tr _ _ _) (lexL_tr cmpV_tr _ _ _))
theorem cmpF_bd (f g : S24) : -1 ≤ cmpF f g ∧ cmpF f g ≤ 1 := by
  unfold cmpF
  exact lexI_bd (cb_bd _ _) (lexI_bd (cmpI_bd _ _) (lexL_bd cmpV_bd _ _))
theorem keep_Fact_ev (f g : S24) (hf : f.f1.length ≤ 1000) : Ev (fun k => constablekeep_Fact.f k f.f0 f.f1 g.f0 g.f1) (cmpF f g == 0) := by
  unfold constablekeep_Fact.f
  have no : cmpF f g ≠ 0 → Ev (fun k => constablekeep_Fact.j0 k true f.f0 f.f1 g.f0 g.f1) (cmpF f g == 0) := by
    intro h
    refine evShift ?_
    simp only [constablekeep_Fact.j0, if_true]
    exact evSome (beq_eq_false_iff_ne.2 h).symm
  by_cases h1 : f.f0 = g.f0
  · refine evPos (tl_inj.2 h1) ?_
    by_cases h2 : f.f1.length = g.f1.length
    · have e : ((f.f1.length : Int) != (g.f1.length : Int)) = false := by rw [h2, bne_self_eq_false]
      rw [e]
      refine evShift ?_
      simp only [constablekeep_Fact.j0, Bool.false_eq_true, if_false]
      have hc : cmpF f g = lexL cmpV f.f1 g.f1 := by
        unfold cmpF
        rw [(cmpB_zero _ _).2 h1, (cmpI_zero _ _).2 (by rw [h2])]
        rfl
      have h : ∀ i : Nat, i ≤ f.f1.length → Ev (fun k => constablekeep_Fact.l0 k i f.f0 f.f1 g.f0 g.f1) (lexL cmpV (f.f1.drop i) (g.f1.drop i) == 0) := by
        refine back_ind f.f1.length (fun k i => constablekeep_Fact.l0 k i f.f0 f.f1 g.f0 g.f1) (fun i => lexL cmpV (f.f1.drop i) (g.f1.drop i) == 0) ?_ ?_
        · refine evShift ?_
          simp only [constablekeep_Fact.l0]
          refine evNeg (by omega) (evSome ?_)
          rw [List.drop_length, h2, List.drop_length]
          rfl
        · intro i hi ih
          have hi2 : i < g.f1.length := by omega
          refine evShift ?_
          simp only [constablekeep_Fact.l0, rdA_nth f.f1 i hi, rdA_nth g.f1 i hi2]
          rw [wrap_succ hi (by omega), List.drop_eq_getElem_cons hi, List.drop_eq_getElem_cons hi2]
          have eb : (!((f.f1[i]).f0 == (g.f1[i]).f0) || (!((f.f1[i]).f1 == (g.f1[i]).f1) || (!((f.f1[i]).f2.toList == (g.f1[i]).f2.toList)))) = !(cmpV f.f1[i] g.f1[i] == 0) := by
            rw [← val_beq, Bool.not_and, Bool.not_and]
          rw [eb]
          refine evPos (by omega) (evPos (by omega) (evPos (by omega) ?_))
          show Ev _ (lexI (cmpV f.f1[i] g.f1[i]) (lexL cmpV (f.f1.drop (i + 1)) (g.f1.drop (i + 1))) == 0)
          by_cases hz : cmpV f.f1[i] g.f1[i] = 0
          · rw [hz]
            exact evNeg (by decide) ih
          · have e1 : (cmpV f.f1[i] g.f1[i] == 0) = false := beq_eq_false_iff_ne.2 hz
            have e2 : (lexI (cmpV f.f1[i] g.f1[i]) (lexL cmpV (f.f1.drop (i + 1)) (g.f1.drop (i + 1))) == 0) = false := beq_eq_false_iff_ne.2 (fun h => hz (lexI_zero.1 h).1)
            rw [e1, e2]
            exact evPos rfl (evSome rfl)
      rw [hc]
      exact h 0 (Nat.zero_le _)
    · have e : ((f.f1.length : Int) != (g.f1.length : Int)) = true := bne_iff_ne.2 (by omega)
      rw [e]
      exact no (fun h => h2 (by rw [(cmpF_zero f g).1 h]))
  · exact evNeg (fun e => h1 (tl_inj.1 e)) (no (fun h => h1 (by rw [(cmpF_zero f g).1 h])))
def cod (l : List UInt8) : List Int := l.map fun b => ((b.toNat : Nat) : Int)
def tc (v : S44) : List Int := bytesOf (textV v)
def stop (c : Int) : Prop := c = 44 ∨ c = 41
def Stops (r : List Int) : Prop := ∃ c r', r = c :: r' ∧ stop c
def PL (l : List Int) : Prop := ∀ c ∈ l, ¬ stop c ∧ c ≠ 34
theorem esc_split : ∀ (l m r r' : List Int), escS l ++ 34 :: r = escS m ++ 34 :: r' → l = m ∧ r = r'
  | [], [], r, r', h => by simpa [escS] using h
  | [], d :: m, r, r', h => by
    exfalso
    simp only [escS, List.nil_append] at h
    split at h
    · simp at h
    · rename_i hd
      simp only [List.cons_append, List.cons.injEq] at h
      exact hd (.inl h.1.symm)
  | c :: l, [], r, r', h => by
    exfalso
    simp only [escS, List.nil_append] at h
    split at h
    · simp at h
    · rename_i hd
      simp only [List.cons_append, List.cons.injEq] at h
      exact hd (.inl h.1)
  | c :: l, d :: m, r, r', h => by
    simp only [escS] at h
    by_cases hc : c = 34 ∨ c = 92 <;> by_cases hd : d = 34 ∨ d = 92
    · rw [if_pos hc, if_pos hd] at h
      simp only [List.cons_append, List.cons.injEq, true_and] at h
      obtain ⟨h1, h2⟩ := esc_split l m r r' h.2
      exact ⟨by rw [h.1, h1], h2⟩
    · rw [if_pos hc, if_neg hd] at h
      simp only [List.cons_append, List.cons.injEq] at h
      exact absurd (.inr h.1.symm) hd
    · rw [if_neg hc, if_pos hd] at h
      simp only [List.cons_append, List.cons.injEq] at h
      exact absurd (.inr h.1) hc
    · rw [if_neg hc, if_neg hd] at h
      simp only [List.cons_append, List.cons.injEq] at h
      obtain ⟨h1, h2⟩ := esc_split l m r r' h.2
      exact ⟨by rw [h.1, h1], h2⟩
theorem pl_split : ∀ (l m r r' : List Int), PL l → PL m → Stops r → Stops r' → l ++ r = m ++ r' → l = m ∧ r = r'
  | [], [], r, r', _, _, _, _, h => ⟨rfl, h⟩
  | [], d :: m, r, r', _, hm, ⟨c, q, e, hs⟩, _, h => by
    exfalso
    rw [e, List.nil_append, List.cons_append, List.cons.injEq] at h
    exact (hm d List.mem_cons_self).1 (h.1 ▸ hs)
  | d :: m, [], r, r', hm, _, _, ⟨c, q, e, hs⟩, h => by
    exfalso
    rw [e, List.nil_append, List.cons_append, List.cons.injEq] at h
    exact (hm d List.mem_cons_self).1 (h.1 ▸ hs)
  | c :: l, d :: m, r, r', hl, hm, s, s', h => by
    rw [List.cons_append, List.cons_append, List.cons.injEq] at h
    obtain ⟨h1, h2⟩ := pl_split l m r r' (fun x hx => hl x (List.mem_cons_of_mem _ hx)) (fun x hx => hm x (List.mem_cons_of_mem _ hx)) s s' h.2
    exact ⟨by rw [h.1, h1], h2⟩
theorem tc_form {v : S44} (h : vS2 v = true) : (∃ l, tc v = 34 :: (escS l ++ [34])) ∨ (PL (tc v)) := by
  have hv : valS v.f0 v.f1 v.f2 = true := h
  unfold tc textV textS
  by_cases h1 : v.f0 = 1
  · right
    rw [if_pos h1]
    obtain ⟨c, l, e, hc, hl⟩ := itoa_codes v.f1
    rw [e]
    intro d hd
    rcases List.mem_cons.1 hd with rfl | hd
    · unfold stop; omega
    · have := hl d hd; unfold stop; omega
  · rw [if_neg h1]
    by_cases h2 : v.f0 = 2
    · right
      rw [if_pos h2]
      rw [h2] at hv
      obtain ⟨_, _, h3⟩ := sym_first (valS_sym hv).2
      intro d hd
      have h4 := List.all_eq_true.1 h3 d hd
      unfold innerI smallI largeI digitI at h4
      simp only [Bool.or_eq_true, decide_eq_true_eq, beq_iff_eq] at h4
      unfold stop
      omega
    · left
      rw [if_neg h2]
      refine ⟨bytesOf v.f2, ?_⟩
      unfold quoteS
      rw [codes_of_nums (quoteL_byte (byteL_codes _))]
      rfl
theorem pl_quote {l m r r' : List Int} (hl : PL l) (hr : Stops r) (h : l ++ r = 34 :: m ++ r') : False := by
  cases l with
  | nil =>
    obtain ⟨c, q, e, hs⟩ := hr
    rw [e, List.nil_append, List.cons_append, List.cons.injEq] at h
    unfold stop at hs
    omega
  | cons c l =>
    rw [List.cons_append, List.cons_append, List.cons.injEq] at h
    exact (hl c List.mem_cons_self).2 h.1
theorem tc_split {v w : S44} (hv : vS2 v = true) (hw : vS2 w = true) {r r' : List Int} (s : Stops r) (s' : Stops r') (h : tc v ++ r = tc w ++ r') : v = w ∧ r = r' := by
  have inj : tc v = tc w → v = w := fun e => text_inj hv hw (codes_inj e)
  rcases tc_form hv with ⟨l, el⟩ | pl <;> rcases tc_form hw with ⟨m, em⟩ | pm
  · rw [el, em] at h
    simp only [List.cons_append, List.append_assoc, List.nil_append, List.cons.injEq, true_and] at h
    obtain ⟨h1, h2⟩ := esc_split l m r r' h
    exact ⟨inj (by rw [el, em, h1]), h2⟩
  · rw [el] at h
    exact (pl_quote pm s' h.symm).elim
  · rw [em] at h
    exact (pl_quote pl s h).elim
  · obtain ⟨h1, h2⟩ := pl_split _ _ _ _ pl pm s s' h
    exact ⟨inj h1, h2⟩
def TT : List S44 → List Int
  | [] => [41]
  | v :: l => 44 :: 32 :: (tc v ++ TT l)
theorem TT_stops : ∀ l : List S44, Stops (TT l)
  | [] => ⟨41, [], rfl, .inr rfl⟩
  | v :: l => ⟨44, 32 :: (tc v ++ TT l), rfl, .inl rfl⟩
theorem TT_inj : ∀ (a b : List S44), a.all vS2 = true → b.all vS2 = true → TT a = TT b → a = b
  | [], [], _, _, _ => rfl
  | [], v :: l, _, _, h => by simp [TT] at h
  | v :: l, [], _, _, h => by simp [TT] at h
  | v :: a, w :: b, ha, hb, h => by
    rw [List.all_cons, Bool.and_eq_true] at ha hb
    simp only [TT, List.cons.injEq, true_and] at h
    obtain ⟨h1, h2⟩ := tc_split ha.1 hb.1 (TT_stops a) (TT_stops b) h
    rw [h1, TT_inj a b ha.2 hb.2 h2]
theorem cod_tail : ∀ l : List S44, cod (Lib.joinTail [44, 32] (l.map textU) ++ [41]) = TT l
  | [] => rfl
  | v :: l => by
    have ih := cod_tail l
    unfold Lib.joinTail at ih ⊢
    unfold cod at ih ⊢
    simp only [List.map_cons, List.flatten_cons, List.append_assoc, List.cons_append, List.nil_append, List.map_append, TT] at ih ⊢
    rw [ih]
    rfl
def argC : List S44 → List Int
  | [] => []
  | v :: l => 40 :: (tc v ++ TT l)
theorem cod_fact (f : S24) : cod (factU f) = bytesOf f.f0 ++ argC f.f1 := by
  unfold factU
  cases h : f.f1 with
  | nil => rw [if_pos rfl]; unfold cod; rw [List.append_nil]; simp only [argC, List.append_nil]; rfl
  | cons v l =>
    rw [if_neg (by simp), List.map_cons, Lib.join_cons]
    have := cod_tail l
    unfold cod at this ⊢
    simp only [List.map_append, List.map_cons, List.append_assoc] at this ⊢
    rw [this]
    rfl
theorem name_split : ∀ (l m r r' : List Int), l.all innerI = true → m.all innerI = true → (r = [] ∨ ∃ q, r = 40 :: q) → (r' = [] ∨ ∃ q, r' = 40 :: q) → l ++ r = m ++ r' → l = m ∧ r = r'
  | [], [], r, r', _, _, _, _, h => ⟨rfl, h⟩
  | [], d :: m, r, r', _, hm, hr, _, h => by
    exfalso
    rw [List.all_cons, Bool.and_eq_true] at hm
    rcases hr with rfl | ⟨q, rfl⟩
    · simp at h
    · rw [List.nil_append, List.cons_append, List.cons.injEq] at h
      rw [← h.1] at hm
      exact absurd hm.1 (by decide)
  | d :: m, [], r, r', hm, _, _, hr, h => by
    exfalso
    rw [List.all_cons, Bool.and_eq_true] at hm
    rcases hr with rfl | ⟨q, rfl⟩
    · simp at h
    · rw [List.nil_append, List.cons_append, List.cons.injEq] at h
      rw [h.1] at hm
      exact absurd hm.1 (by decide)
  | c :: l, d :: m, r, r', hl, hm, s, s', h => by
    rw [List.all_cons, Bool.and_eq_true] at hl hm
    rw [List.cons_append, List.cons_append, List.cons.injEq] at h
    obtain ⟨h1, h2⟩ := name_split l m r r' hl.2 hm.2 s s' h.2
    exact ⟨by rw [h.1, h1], h2⟩
theorem fact_parts {f : S24} (h : factS f = true) : (bytesOf f.f0).all innerI = true ∧ f.f1.all vS2 = true := by
  unfold factS nameS at h
  simp only [Bool.and_eq_true] at h
  exact ⟨(sym_first h.1.1).2.2, h.2.2⟩
theorem argC_form : ∀ l : List S44, argC l = [] ∨ ∃ q, argC l = 40 :: q
  | [] => .inl rfl
  | _ :: _ => .inr ⟨_, rfl⟩
theorem argC_inj : ∀ (a b : List S44), a.all vS2 = true → b.all vS2 = true → argC a = argC b → a = b
  | [], [], _, _, _ => rfl
  | [], v :: l, _, _, h => by simp [argC] at h
  | v :: l, [], _, _, h => by simp [argC] at h
  | v :: a, w :: b, ha, hb, h => by
    rw [List.all_cons, Bool.and_eq_true] at ha hb
    simp only [argC, List.cons.injEq, true_and] at h
    obtain ⟨h1, h2⟩ := tc_split ha.1 hb.1 (TT_stops a) (TT_stops b) h
    rw [h1, TT_inj a b ha.2 hb.2 h2]
theorem factU_inj {f g : S24} (hf : factS f = true) (hg : factS g = true) (h : factU f = factU g) : f = g := by
  have e : cod (factU f) = cod (factU g) := by rw [h]
  rw [cod_fact, cod_fact] at e
  obtain ⟨f1, f2⟩ := fact_parts hf
  obtain ⟨g1, g2⟩ := fact_parts hg
  obtain ⟨h1, h2⟩ := name_split _ _ _ _ f1 g1 (argC_form _) (argC_form _) e
  have h3 := codes_inj h1
  have h4 := argC_inj _ _ f2 g2 h2
  cases f; cases g
  simp only at h3 h4
  rw [h3, h4]
theorem text_beq {f g : S24} (hf : factS f = true) (hg : factS g = true) : ((mkB (factU f)).toList == (mkB (factU g)).toList) = (cmpF f g == 0) := by
  rw [tl_data, tl_data, mkB_data, mkB_data, Bool.eq_iff_iff, beq_iff_eq, beq_iff_eq, cmpF_zero]
  exact ⟨factU_inj hf hg, fun h => by rw [h]⟩
end Go.Proofs.YtaopajmpifenoaaDoor.P
end
section
namespace Go.Proofs.YtaopajmpifenoaaDoor.P
open Go.RowKit Go.Proofs.YtaopajmpifenoaaDoorW.PrintWords Go.Proofs.YtaopajmpifenoaaDoorW.PrintLast Go.Proofs.YtaopajmpifenoaaDoorW.PrintMore
theorem wakes03_ev : Ev (fun k => constablelaw03_wakes.f k) true := Ev.of (constablelaw03_wakes.mono) (k := 60) (by decide +kernel)
theorem wakesEnd {g : Nat → Option Bool} (h : Ev g true) : Ev (fun k => (g k).bind fun t => some t) true := Ev.bind h (evSome rfl)
end Go.Proofs.YtaopajmpifenoaaDoor.P
end
section
namespace Go.Proofs.YtaopajmpifenoaaDoor.P
open Go.RowKit Go.Proofs.YtaopajmpifenoaaDoorW.PrintWords Go.Proofs.YtaopajmpifenoaaDoorW.PrintLast Go.Proofs.YtaopajmpifenoaaDoorW.PrintMore
structure Opens {α : Type} (d : Kd α) (P : Program) (t : TypeId) (ok : α → Prop) : Prop where
  cells : P.cellsOf t = d.sz
  opens : ∀ {H : Type} {enc : TypeId × Value → H} {w : World} {base : Nat} {spare : Nat → Bool} {held : Bool} {fuel : Nat} {cs : List Value} {x : DataW H × List MemPlace},
    DataW.trod enc P w base spare held fuel t cs = some x → ∃ v, d.K w v cs ∧ ok v
theorem Opens.mono {α : Type} {d : Kd α} {P : Program} {t : TypeId} {ok ok' : α → Prop} (h : Opens d P t ok) (hm : ∀ v, ok v → ok' v) : Opens d P t ok' :=
  ⟨h.cells, fun hx => by obtain ⟨v, h1, h2⟩ := h.opens hx; exact ⟨v, h1, hm v h2⟩⟩
theorem Opens.int {k : IntKind} {P : Program} {t : TypeId} (hu : P.underlying t = some (.int k)) (hc : P.cellsOf t = 1) : Opens (Kd.int k) P t (fun n => (Lit.int k n).wf = true) :=
  ⟨hc, fun hx => by obtain ⟨m, rfl, rfl, hw⟩ := DataW.trod_int hu hx; exact ⟨m, rfl, hw⟩⟩
theorem Opens.string {P : Program} {t : TypeId} (hu : P.underlying t = some .string) (hc : P.cellsOf t = 1) : Opens Kd.string P t (fun s => s.size ≤ maxLen) :=
  ⟨hc, fun hx => by obtain ⟨s, rfl, _, hw⟩ := DataW.trod_string hu hx; exact ⟨s, rfl, hw⟩⟩
theorem Opens.bool {P : Program} {t : TypeId} (hu : P.underlying t = some .bool) (hc : P.cellsOf t = 1) : Opens Kd.bool P t (fun _ => True) :=
  ⟨hc, fun hx => by obtain ⟨b, rfl, _⟩ := DataW.trod_bool hu hx; exact ⟨b, rfl, trivial⟩⟩
theorem Opens.iso {α β : Type} {d : Kd α} {P : Program} {t : TypeId} {ok : α → Prop} {f : β → α} (g : α → β) (hg : ∀ a, f (g a) = a) (h : Opens d P t ok) : Opens (Kd.iso d f) P t (fun b => ok (f b)) :=
  ⟨h.cells, fun hx => by
    obtain ⟨v, h1, h2⟩ := h.opens hx
    refine ⟨g v, ?_, ?_⟩
    · show d.K _ (f (g v)) _
      rw [hg]; exact h1
    · show ok (f (g v))
      rw [hg]; exact h2⟩
structure OpensFs {α : Type} (d : Kd α) (P : Program) (fs : List Field) (off : Nat) (ok : α → Prop) : Prop where
  opens : ∀ {H : Type} {enc : TypeId × Value → H} {w : World} {base : Nat} {spare : Nat → Bool} {held : Bool} {fuel : Nat} {cs : List Value},
    off + d.sz = cs.length → (∀ (i : Nat) (f : Field), fs[i]? = some f → ∃ x, DataW.trod enc P w base spare held fuel f.type ((cs.drop f.offset).take (P.cellsOf f.type)) = some x) → ∃ v, d.K w v (cs.drop off) ∧ ok v
theorem OpensFs.one {α : Type} {d : Kd α} {P : Program} {f : Field} {off : Nat} {ok : α → Prop} (ho : f.offset = off) (h : Opens d P f.type ok) : OpensFs d P [f] off ok := by
  refine ⟨?_⟩
  intro H enc w base spare held fuel cs hl hx
  obtain ⟨x, hx⟩ := hx 0 f rfl
  rw [ho, h.cells, List.take_of_length_le (by simp; omega)] at hx
  exact h.opens hx
theorem OpensFs.cons {α β : Type} {d : Kd α} {d' : Kd β} {P : Program} {f : Field} {fs : List Field} {off : Nat} {ok : α → Prop} {ok' : β → Prop} {ok2 : α × β → Prop} (ho : f.offset = off) (h : Opens d P f.type ok) (h' : OpensFs d' P fs (off + d.sz) ok') (hk : ∀ v, ok v.1 → ok' v.2 → ok2 v) :
    OpensFs (Kd.pair d d') P (f :: fs) off ok2 := by
  refine ⟨?_⟩
  intro H enc w base spare held fuel cs hl hx
  obtain ⟨x, hx0⟩ := hx 0 f rfl
  rw [ho, h.cells] at hx0
  obtain ⟨v, hv, ov⟩ := h.opens hx0
  have hl' : off + (d.sz + d'.sz) = cs.length := hl
  obtain ⟨u, hu, ou⟩ := h'.opens (cs := cs) (by omega) (fun i g hg => hx (i + 1) g hg)
  refine ⟨(v, u), ⟨(cs.drop off).take d.sz, cs.drop (off + d.sz), ?_, hv, hu⟩, hk (v, u) ov ou⟩
  rw [← List.drop_drop, List.take_append_drop]
theorem Opens.struct {α : Type} {d : Kd α} {P : Program} {t : TypeId} {fs : Array Field} {ok : α → Prop} (hu : P.underlying t = some (.struct fs)) (hc : P.cellsOf t = d.sz) (h : OpensFs d P fs.toList 0 ok) : Opens d P t ok := by
  refine ⟨hc, ?_⟩
  intro H enc w base spare held fuel cs x hx
  obtain ⟨xs, n, rfl, _, hl, hxl, hf⟩ := DataW.trod_struct hu hx
  have := h.opens (cs := cs) (enc := enc) (w := w) (base := base) (spare := spare) (held := held) (fuel := n) (by omega) (by
    intro i f hi
    have hi' : fs[i]? = some f := by simpa using hi
    have hlt : i < xs.length := by
      rw [hxl]
      exact (Array.getElem?_eq_some_iff.1 hi').1
    exact ⟨xs[i], by rw [hf i f hi', List.getElem?_eq_getElem hlt]⟩)
  simpa using this
theorem list_of {α : Type} {Q : Nat → α → Prop} : ∀ n : Nat, (∀ i, i < n → ∃ v, Q i v) → ∃ l : List α, l.length = n ∧ ∀ i v, l[i]? = some v → Q i v := by
  intro n
  induction n with
  | zero => intro _; exact ⟨[], rfl, fun i v h => by simp at h⟩
  | succ n ih =>
    intro h
    obtain ⟨l, hl, hq⟩ := ih (fun i hi => h i (by omega))
    obtain ⟨v, hv⟩ := h n (by omega)
    refine ⟨l ++ [v], by simp [hl], ?_⟩
    intro i u hu
    by_cases hi : i < l.length
    · rw [List.getElem?_append_left hi] at hu
      exact hq i u hu
    · rw [List.getElem?_append_right (by omega)] at hu
      have h0 : i - l.length = 0 := by
        by_cases h0 : i - l.length = 0
        · exact h0
        · rw [List.getElem?_eq_none (by simp; omega)] at hu; cases hu
      rw [h0] at hu
      simp at hu
      subst hu
      have : i = n := by omega
      subst this
      exact hv
theorem Opens.row {α : Type} {d : Kd α} {P : Program} {t e : TypeId} {ok : α → Prop} (h : Opens d P e ok) (hu : P.underlying t = some (.slice e))
    {H : Type} {enc : TypeId × Value → H} {w : World} {base : Nat} {spare : Nat → Bool} {held : Bool} {fuel : Nat} {A : Option Addr} {len cap : Nat} {x : DataW H × List MemPlace}
    (hx : DataW.trod enc P w base spare held fuel t [.slice A len cap] = some x) : ∃ l, l.length = len ∧ d.C w A len l ∧ len ≤ cap ∧ cap ≤ maxLen ∧ ∀ v ∈ l, ok v := by
  rcases DataW.trod_slice hu hx with ⟨hcs, _⟩ | ⟨a, len', cap', elems, rest, n, rfl, hcs, _, hb, hl, hm, hlen, hel, _⟩
  · simp only [List.cons.injEq, Value.slice.injEq, and_true] at hcs
    obtain ⟨rfl, rfl, rfl⟩ := hcs
    exact ⟨[], rfl, ⟨rfl, by omega, fun h => by omega⟩, Nat.le_refl _, by unfold maxLen; omega, fun v hv => by simp at hv⟩
  · simp only [List.cons.injEq, Value.slice.injEq, and_true] at hcs
    obtain ⟨rfl, rfl, rfl⟩ := hcs
    obtain ⟨l, hll, hq⟩ := list_of (Q := fun i v => ∃ cs, w.cells? base (a.add (i * P.cellsOf e)) (P.cellsOf e) = some cs ∧ d.K w v cs ∧ ok v) len (by
      intro i hi
      have h1 := hel i hi
      rw [List.getElem?_eq_getElem (by omega), Option.bind_eq_some_iff] at h1
      obtain ⟨cs, h2, h3⟩ := h1
      obtain ⟨v, h4, h5⟩ := h.opens h3
      exact ⟨v, cs, h2, h4, h5⟩)
    refine ⟨l, hll, ⟨hll, by unfold maxLen at hm; omega, fun _ => ⟨a, rfl, ?_⟩⟩, hl, hm, ?_⟩
    · intro j p hp
      obtain ⟨cs, h2, h4, _⟩ := hq j p hp
      obtain ⟨_, h6, h7⟩ := World.cells?_some h2
      refine ⟨cs, by rw [h6, h.cells], h4, ?_⟩
      intro i u hi
      have hlt : i < P.cellsOf e := by rw [← h6]; exact (List.getElem?_eq_some_iff.1 hi).1
      have h8 := h7 i hlt
      rw [Addr.add_add, h.cells, hi] at h8
      exact h8
    · intro v hv
      obtain ⟨i, hi⟩ := List.getElem?_of_mem hv
      obtain ⟨_, _, _, h5⟩ := hq i v hi
      exact h5
theorem Opens.slice {α : Type} {d : Kd α} {P : Program} {t e : TypeId} {ok : α → Prop} (h : Opens d P e ok) (hu : P.underlying t = some (.slice e)) (hc : P.cellsOf t = 1) : Opens (Kd.slice e d) P t (fun l => l.length ≤ maxLen ∧ ∀ v ∈ l, ok v) := by
  refine ⟨hc, ?_⟩
  intro H enc w base spare held fuel cs x hx
  have hx0 := hx
  rcases DataW.trod_slice hu hx with ⟨hcs, _⟩ | ⟨a, len', cap', elems, rest, n, rfl, hcs, _⟩ <;> subst hcs
  all_goals
    obtain ⟨l, h1, h2, h3, h4, h5⟩ := h.row hu hx0
    have h6 := Nat.le_trans h3 h4
    rw [← h1] at h2 h3 h6 ⊢
    exact ⟨l, ⟨_, _, rfl, h3, h2⟩, h6, h5⟩
theorem Opens.arg {α : Type} {d : Kd α} {P : Program} {t e : TypeId} {ok : α → Prop} (h : Opens d P e ok) (hu : P.underlying t = some (.slice e)) {B : Nat} (hB : P.bytesOf e = B)
    {H : Type} {enc : TypeId × Value → H} {w : World} {base : Nat} {spare : Nat → Bool} {held : Bool} {a : Option Addr} {len cap : Nat} {x : DataW H} {ps : List MemPlace} {ts : List TypeId} {ds : List (DataW H)} {j : Nat}
    (hsz : (DataW.weightsEach P ts ds).all (· ≤ reachBytes) = true) (ht : ts[j]? = some t) (hd : ds[j]? = some x)
    (hx : DataW.Trod enc P w base spare held t (.slice a len cap) x ps) : ∃ l, l.length = len ∧ d.C w a len l ∧ len ≤ cap ∧ (len ≤ maxLen ∧ len * B ≤ 140737488351232) ∧ ∀ v ∈ l, ok v := by
  obtain ⟨fuel, hf⟩ := hx
  have hf' : DataW.trod enc P w base spare held fuel t [.slice a len cap] = some (x, ps) := hf
  obtain ⟨l, h1, h2, h3, h4, h5⟩ := h.row hu hf'
  refine ⟨l, h1, h2, h3, ⟨Nat.le_trans h3 h4, ?_⟩, h5⟩
  rcases DataW.trod_slice hu hf' with ⟨hcs, _⟩ | ⟨a', len', cap', elems, rest, n, _, hcs, hxx, _, hl, _, hlen, _⟩
  · simp only [List.cons.injEq, Value.slice.injEq, and_true] at hcs
    obtain ⟨_, rfl, _⟩ := hcs
    omega
  · simp only [List.cons.injEq, Value.slice.injEq, and_true] at hcs
    obtain ⟨_, rfl, _⟩ := hcs
    obtain ⟨rfl, _⟩ := Prod.mk.inj hxx
    have z := sized_slice hsz ht hd hu
    rw [hB] at z
    have : len ≤ (elems.map (·.1)).length + (rest.map (·.1)).length := by simp; omega
    exact Nat.le_trans (Nat.mul_le_mul_right _ this) z
theorem Opens.agg {α : Type} {d : Kd α} {P : Program} {t : TypeId} {ok : α → Prop} (h : Opens d P t ok) {fs : Array Field} (hu : P.underlying t = some (.struct fs))
    {H : Type} {enc : TypeId × Value → H} {w : World} {r : Reach} {base b0 : Nat} {spare : Nat → Bool} {held : Bool} {v : Value} {x : DataW H} {ps : List MemPlace}
    (hv : Value.okWide P w r b0 t v) (hx : DataW.Trod enc P w base spare held t v x ps) : ∃ u cs, v = .agg ⟨cs⟩ ∧ d.K w u cs ∧ ok u := by
  obtain ⟨cs, rfl, _⟩ := Go.WideShapes.okWide_struct hu hv
  obtain ⟨fuel, hf⟩ := hx
  obtain ⟨u, h1, h2⟩ := h.opens hf
  exact ⟨u, cs.toList, rfl, h1, h2⟩
end Go.Proofs.YtaopajmpifenoaaDoor.P
end
section
namespace Go.Proofs.YtaopajmpifenoaaDoor.P
open Go.RowKit Go.Proofs.YtaopajmpifenoaaDoorW.PrintWords Go.Proofs.YtaopajmpifenoaaDoorW.PrintLast Go.Proofs.YtaopajmpifenoaaDoorW.PrintMore
theorem o3 : Opens (Kd.int .i64) Tryd.prog 3 (fun x => (Lit.int .i64 x).wf = true) := Opens.int Tryd.underlying3 (by kernel_rfl)
theorem o9 : Opens Kd.string Tryd.prog 9 (fun x => x.size ≤ maxLen) := Opens.string Tryd.underlying9 (by kernel_rfl)
def ok44 (x : S44) : Prop := (Lit.int .i64 x.f0).wf = true ∧ (Lit.int .i64 x.f1).wf = true ∧ x.f2.size ≤ maxLen
theorem o44 : Opens k44 Tryd.prog 44 ok44 := by
  have h1 := Opens.struct (d := (Kd.pair (Kd.int .i64) (Kd.pair (Kd.int .i64) Kd.string))) (ok := fun a => (Lit.int .i64 a.1).wf = true ∧ (Lit.int .i64 a.2.1).wf = true ∧ a.2.2.size ≤ maxLen) Tryd.underlying44 (by kernel_rfl) (OpensFs.cons (ok2 := fun a : (Int) × (Int) × (ByteArray) => (Lit.int .i64 a.1).wf = true ∧ (Lit.int .i64 a.2.1).wf = true ∧ a.2.2.size ≤ maxLen) (ok' := fun a : (Int) × (ByteArray) => (Lit.int .i64 a.1).wf = true ∧ a.2.size ≤ maxLen) (by rfl) o3 (OpensFs.cons (ok2 := fun a : (Int) × (ByteArray) => (Lit.int .i64 a.1).wf = true ∧ a.2.size ≤ maxLen) (ok' := fun a : (ByteArray) => a.size ≤ maxLen) (by rfl) o3 (OpensFs.one (by rfl) o9) (fun v h1 h2 => ⟨h1, h2⟩)) (fun v h1 h2 => ⟨h1, h2⟩))
  exact Opens.mono (Opens.iso (fun a => ⟨a.1, a.2.1, a.2.2⟩) (fun _ => rfl) h1) (fun _ h => h)
theorem kc44 {w : World} {v : S44} {cs : List Value} (h : k44.K w v cs) : cs = [.int .i64 v.f0, .int .i64 v.f1, .string v.f2] := by
  have h0 : ((Kd.pair (Kd.int .i64) (Kd.pair (Kd.int .i64) Kd.string))).K w (v.f0, v.f1, v.f2) cs := h
  obtain ⟨c0, d0, rfl, g0, h1⟩ := h0
  obtain rfl := g0
  obtain ⟨c1, d1, rfl, g1, h2⟩ := h1
  obtain rfl := g1
  obtain rfl := h2
  exact rfl
theorem o22 : Opens (Kd.slice 44 k44) Tryd.prog 22 (fun x => (x.length ≤ maxLen ∧ ∀ v ∈ x, ok44 v)) := Opens.slice o44 Tryd.underlying22 (by kernel_rfl)
def ok24 (x : S24) : Prop := x.f0.size ≤ maxLen ∧ (x.f1.length ≤ maxLen ∧ ∀ v ∈ x.f1, ok44 v)
theorem o24 : Opens k24 Tryd.prog 24 ok24 := by
  have h1 := Opens.struct (d := (Kd.pair Kd.string (Kd.slice 44 k44))) (ok := fun a => a.1.size ≤ maxLen ∧ (a.2.length ≤ maxLen ∧ ∀ v ∈ a.2, ok44 v)) Tryd.underlying24 (by kernel_rfl) (OpensFs.cons (ok2 := fun a : (ByteArray) × (List (S44)) => a.1.size ≤ maxLen ∧ (a.2.length ≤ maxLen ∧ ∀ v ∈ a.2, ok44 v)) (ok' := fun a : (List (S44)) => (a.length ≤ maxLen ∧ ∀ v ∈ a, ok44 v)) (by rfl) o9 (OpensFs.one (by rfl) o22) (fun v h1 h2 => ⟨h1, h2⟩))
  exact Opens.mono (Opens.iso (fun a => ⟨a.1, a.2⟩) (fun _ => rfl) h1) (fun _ h => h)
theorem kc24 {w : World} {v : S24} {cs : List Value} (h : k24.K w v cs) : ∃ A0 c0, cs = [.string v.f0, .slice A0 v.f1.length c0] ∧ v.f1.length ≤ c0 ∧ Kd.C k44 w A0 v.f1.length v.f1 := by
  have h0 : ((Kd.pair Kd.string (Kd.slice 44 k44))).K w (v.f0, v.f1) cs := h
  obtain ⟨c0, d0, rfl, g0, h1⟩ := h0
  obtain rfl := g0
  obtain ⟨B1, e1, rfl, l1, r1⟩ := h1
  exact ⟨B1, e1, rfl, l1, r1⟩
end Go.Proofs.YtaopajmpifenoaaDoor.P
end
section
namespace Go.Proofs.YtaopajmpifenoaaDoor.Pure
open Go.RowKit Go.Proofs.YtaopajmpifenoaaDoor.P Go.Proofs.YtaopajmpifenoaaDoorW.PrintWords Go.Proofs.YtaopajmpifenoaaDoorW.PrintLast Go.Proofs.YtaopajmpifenoaaDoorW.PrintMore
theorem FactOrder (a b c : S24) (_ho0 : ok24 a) (_ho1 : ok24 b) (_ho2 : ok24 c) : ∃ k, constablelaw03_FactOrder.f k a.f0 a.f1 b.f0 b.f1 c.f0 c.f1 = some true := by
  refine Ev.rounds (r := true) ?_
  have hwk := wakesEnd wakes03_ev
  unfold constablelaw03_FactOrder.f
  have hj : Ev (fun k => constablelaw03_FactOrder.j0 k true a.f0 a.f1 b.f0 b.f1 c.f0 c.f1) true := by
    refine evShift ?_
    simp only [constablelaw03_FactOrder.j0, if_true]
    exact evSome rfl
  refine Ev.bind (heavy_ev a) (evCond (fun _ => hj) (fun h1 => Ev.bind (heavy_ev b) (evCond (fun _ => hj) (fun h2 => Ev.bind (heavy_ev c) ?_))))
  cases h3 : heavyF c with
  | true => exact hj
  | false =>
    have oa := light_fact h1
    have ob := light_fact h2
    have oc := light_fact h3
    have la : a.f1.length ≤ 1000 := Nat.le_trans oa.2.1 (by decide)
    have lb : b.f1.length ≤ 1000 := Nat.le_trans ob.2.1 (by decide)
    have lc : c.f1.length ≤ 1000 := Nat.le_trans oc.2.1 (by decide)
    have j2 : Ev (fun k => constablelaw03_FactOrder.j2 k false a.f0 a.f1 b.f0 b.f1) true := by
      refine evShift ?_
      simp only [constablelaw03_FactOrder.j2, Bool.false_eq_true, if_false]
      refine Ev.bind (fact_Text_ev a oa) (Ev.bind (fact_Text_ev b ob) ?_)
      cases ha : factS a with
      | false => exact evNeg (show ¬ (1 : Int) = 0 by decide) hwk
      | true =>
        refine evPos rfl ?_
        cases hb : factS b with
        | false => exact evNeg (show ¬ (1 : Int) = 0 by decide) hwk
        | true =>
          refine evPos rfl (Ev.bind (keep_Fact_ev a b la) (evPos ?_ hwk))
          show ((mkB (factU a)).toList == (mkB (factU b)).toList) == (cmpF a b == 0)
          rw [text_beq ha hb]
          exact beq_self_eq_true _
    have caa : ∀ f : S24, cmpF f f = 0 := fun f => (cmpF_zero f f).2 rfl
    have j1 : Ev (fun k => constablelaw03_FactOrder.j1 k (cmpF a b) false a.f0 a.f1 b.f0 b.f1 c.f0 c.f1) true := by
      have one : lexL cmpF [a] [b] = cmpF a b := by
        show lexI (cmpF a b) 0 = _
        unfold lexI; split <;> omega
      have two : lexL cmpF [c, a] [c, b] = cmpF a b := by
        show lexI (cmpF c c) (lexI (cmpF a b) 0) = _
        rw [caa c]
        show lexI (cmpF a b) 0 = _
        unfold lexI; split <;> omega
      have three : lexL cmpF [a] [a, b] = -1 := by
        show lexI (cmpF a a) (-1) = _
        rw [caa a]; rfl
      have e1 := facts_ev [a] [b] (by simp) (fun f hf => by rw [List.mem_singleton.1 hf]; exact la)
      have e2 := facts_ev [c, a] [c, b] (by simp) (fun f hf => by rcases List.mem_cons.1 hf with rfl | h; exact lc; rw [List.mem_singleton.1 h]; exact la)
      have e3 := facts_ev [a] [a, b] (by simp) (fun f hf => by rw [List.mem_singleton.1 hf]; exact la)
      rw [one] at e1
      rw [two] at e2
      rw [three] at e3
      refine evShift ?_
      simp only [constablelaw03_FactOrder.j1, Bool.false_eq_true, if_false]
      exact Ev.bind e1 (Ev.bind e2 (evPos rfl (evPos rfl (Ev.bind e3 j2))))
    refine evShift ?_
    simp only [constablelaw03_FactOrder.j0, Bool.false_eq_true, if_false]
    have bd := cmpF_bd a b
    have tr := cmpF_tr a b c
    have sw := cmpF_swap a b
    unfold Tr at tr
    refine Ev.bind (fact_Compare_ev a b la) (Ev.bind (fact_Compare_ev b c lb) (Ev.bind (fact_Compare_ev a c la) (Ev.bind (fact_Compare_ev b a lb) ?_)))
    refine evPos (by rw [sw]; unfold wrap64; omega) (Ev.bind (keep_Fact_ev a b la) (evNeg (by rw [bne_self_eq_false]; decide) ?_))
    refine evIf (fun x1 => evIf (fun _ => j1) (fun x2 => by omega)) (fun x1 => evIf (fun y1 => evIf (fun _ => j1) (fun _ => j1)) (fun y1 => evIf (fun z1 => evIf (fun _ => j1) (fun x2 => ?_)) (fun z1 => by have := tr.1 (by omega) (by omega); omega)))
    rw [decide_eq_true (show cmpF a c < 0 from tr.2.1 (by omega) (by omega))]
    exact j1
end Go.Proofs.YtaopajmpifenoaaDoor.Pure
end
section
namespace Go.Proofs.YtaopajmpifenoaaDoor.P
open Go.RowKit Go.Lib
theorem pow_datum : (Rows.laid_internal_strconv_uint64pow10 : DataW Unit) = Lib.tabData .u64 Lib.pow10Tab := by kernel_rfl
theorem laidT_of {r : List (String × DataW Unit)} {W : World} (h : laidMet Tryd.prog (("internal/strconv.uint64pow10", Rows.laid_internal_strconv_uint64pow10) :: r) W) : LaidT W := by
  rw [pow_datum] at h
  exact tabIs_of_head (g := 3) (by kernel_rfl) (by kernel_rfl) Tryd.underlying115 Tryd.underlying103 (by kernel_rfl) (by kernel_rfl) h
theorem star_es : "*" ++ "errors.errorString" = "*errors.errorString" := by decide
theorem row_es (u : TypeId) (h : Tryd.prog.typeName? 3 u = some "*errors.errorString") : u = 120 :=
  typeName_ptr_named (nm := "errors.errorString") (by rw [star_es]; kernel_rfl) (by kernel_rfl) (by decide) u (by rw [star_es]; exact h)
theorem globRan_of {r : List (String × DataW Unit)} {W : World} (h : laidMet Tryd.prog (("strconv.ErrRange", Rows.laid_strconv_ErrRange) :: r) W) : ∃ tp p, W.var? Tryd.prog "strconv.ErrRange" = some #[.iface tp p] := by
  obtain ⟨a, s, hv, _⟩ := laid_sentinel (g := 2) h (by kernel_rfl) (by kernel_rfl) Tryd.underlying72 row_es Tryd.underlying120 Tryd.underlying122 rfl rfl Tryd.underlying9 (by kernel_rfl) (by kernel_rfl)
  exact ⟨_, _, hv⟩
theorem globSyn_of {r : List (String × DataW Unit)} {W : World} (h : laidMet Tryd.prog (("strconv.ErrSyntax", Rows.laid_strconv_ErrSyntax) :: r) W) : ∃ tp p, W.var? Tryd.prog "strconv.ErrSyntax" = some #[.iface tp p] := by
  obtain ⟨a, s, hv, _⟩ := laid_sentinel (g := 1) h (by kernel_rfl) (by kernel_rfl) Tryd.underlying72 row_es Tryd.underlying120 Tryd.underlying122 rfl rfl Tryd.underlying9 (by kernel_rfl) (by kernel_rfl)
  exact ⟨_, _, hv⟩
end Go.Proofs.YtaopajmpifenoaaDoor.P
end
